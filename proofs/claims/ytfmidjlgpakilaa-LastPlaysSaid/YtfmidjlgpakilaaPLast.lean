/- The plain law of last: what is written last, in whatever order. -/
import Derived.Test.YtfmidjlgpakilaaCLast
namespace Go.Proofs.Ytfmidjlgpakilaa
set_option linter.unusedVariables false
set_option linter.unusedSimpArgs false
open Go.Eng

structure WA where
  s : ByteArray
  t : Int
  d : Int
  e : Int
instance : Inhabited WA := ⟨⟨⟨#[]⟩, 0, 0, 0⟩⟩
@[reducible] def WA.c (a : WA) : List Value := [.string a.s, .int .i64 a.t, .int .i64 a.d, .int .i64 a.e]
def LS.init : LS := ⟨false, ⟨#[]⟩, 0, 0, 0⟩
def LS.w (l : LS) (a : WA) : LS := (l.write a.s a.t a.d a.e).1
def WA.bad (a : WA) : Bool := badW a.s a.t a.d a.e
def lt3 (t d e t' d' e' : Int) : Prop := t < t' ∨ (t = t' ∧ (d < d' ∨ (d = d' ∧ e < e')))
def eq3 (t d e t' d' e' : Int) : Prop := t = t' ∧ d = d' ∧ e = e'
theorem cmpW_neg (t d e t' d' e' : Int) : cmpW t d e t' d' e' < 0 ↔ lt3 t d e t' d' e' := by
  simp only [cmpW, orI, Dot.cmp, cmpI, lt3]
  repeat' split
  all_goals omega
theorem cmpW_zero (t d e t' d' e' : Int) : cmpW t d e t' d' e' = 0 ↔ eq3 t d e t' d' e' := by
  simp only [cmpW, orI, Dot.cmp, cmpI, eq3]
  repeat' split
  all_goals omega
def WA.lt (a b : WA) : Prop := lt3 a.t a.d a.e b.t b.d b.e
def WA.le (a b : WA) : Prop := ¬ WA.lt b a
def Max (S : WA → Prop) (l : LS) : Prop :=
  (l = LS.init ∧ ∀ a, S a → a.bad = true) ∨ ∃ m, S m ∧ m.bad = false ∧ l = ⟨true, m.s, m.t, m.d, m.e⟩ ∧ ∀ a, S a → a.bad = false → a.le m
theorem Max.init : Max (fun _ => False) LS.init := .inl ⟨rfl, fun _ h => h.elim⟩
theorem Max.w {S : WA → Prop} {l : LS} (h : Max S l) (a : WA) : Max (fun b => S b ∨ b = a) (l.w a) := by
  unfold LS.w LS.write
  cases hb : badW a.s a.t a.d a.e with
  | true =>
    simp only [if_true]
    rcases h with ⟨rfl, h⟩ | ⟨m, hm, hmb, rfl, h⟩
    · exact .inl ⟨rfl, fun b hb' => by rcases hb' with hb' | rfl; exact h b hb'; exact hb⟩
    · refine .inr ⟨m, .inl hm, hmb, rfl, fun b hS hbb => ?_⟩
      rcases hS with hS | rfl
      · exact h b hS hbb
      · rw [WA.bad, hb] at hbb; cases hbb
  | false =>
    simp only [Bool.false_eq_true, if_false]
    rcases h with ⟨rfl, h⟩ | ⟨m, hm, hmb, rfl, h⟩
    · refine .inr ⟨a, .inr rfl, hb, rfl, fun b hS hbb => ?_⟩
      rcases hS with hS | rfl
      · rw [h b hS] at hbb; cases hbb
      · unfold WA.le WA.lt lt3; omega
    · simp only [Bool.true_and]
      by_cases h1 : cmpW a.t a.d a.e m.t m.d m.e < 0
      · simp only [h1, decide_true, if_true]
        refine .inr ⟨m, .inl hm, hmb, rfl, fun b hS hbb => ?_⟩
        rcases hS with hS | rfl
        · exact h b hS hbb
        · rw [cmpW_neg] at h1; unfold WA.le WA.lt; unfold lt3 at *; omega
      · simp only [h1, decide_false, Bool.false_eq_true, if_false]
        by_cases h2 : cmpW a.t a.d a.e m.t m.d m.e = 0
        · simp only [h2, decide_true, if_true]
          refine .inr ⟨m, .inl hm, hmb, rfl, fun b hS hbb => ?_⟩
          rcases hS with hS | rfl
          · exact h b hS hbb
          · rw [cmpW_zero] at h2; unfold WA.le WA.lt lt3; unfold eq3 at h2; omega
        · have h3 : decide (cmpW a.t a.d a.e m.t m.d m.e = 0) = false := by simp [h2]
          simp only [h3, Bool.false_eq_true, if_false]
          refine .inr ⟨a, .inr rfl, hb, rfl, fun b hS hbb => ?_⟩
          rcases hS with hS | rfl
          · have := h b hS hbb
            rw [cmpW_neg] at h1
            rw [cmpW_zero] at h2
            unfold WA.le WA.lt at *
            unfold lt3 eq3 at *
            omega
          · unfold WA.le WA.lt lt3; omega
theorem Max.congr {S S' : WA → Prop} {l : LS} (h : Max S l) (hS : ∀ a, S a ↔ S' a) : Max S' l := by
  have : S = S' := funext fun a => propext (hS a)
  exact this ▸ h
/-- the state behind the first k of a row of acts -/
def foldA (A : Nat → WA) : Nat → LS
  | 0 => LS.init
  | k + 1 => (foldA A k).w (A k)
theorem foldA_max (A : Nat → WA) : ∀ k, Max (fun a => ∃ i, i < k ∧ a = A i) (foldA A k)
  | 0 => Max.init.congr fun a => ⟨fun h => h.elim, fun ⟨i, h, _⟩ => by omega⟩
  | k + 1 => ((foldA_max A k).w (A k)).congr fun a => ⟨fun h => by
      rcases h with ⟨i, h1, h2⟩ | h
      · exact ⟨i, by omega, h2⟩
      · exact ⟨k, by omega, h⟩, fun ⟨i, h1, h2⟩ => by
      by_cases h3 : i < k
      · exact .inl ⟨i, h3, h2⟩
      · exact .inr (by rw [h2, show i = k by omega])⟩
/-- .. each written twice -/
def foldB (A : Nat → WA) : Nat → LS
  | 0 => LS.init
  | k + 1 => ((foldB A k).w (A k)).w (A k)
theorem foldB_max (A : Nat → WA) : ∀ k, Max (fun a => ∃ i, i < k ∧ a = A i) (foldB A k)
  | 0 => Max.init.congr fun a => ⟨fun h => h.elim, fun ⟨i, h, _⟩ => by omega⟩
  | k + 1 => (((foldB_max A k).w (A k)).w (A k)).congr fun a => ⟨fun h => by
      rcases h with (⟨i, h1, h2⟩ | h) | h
      · exact ⟨i, by omega, h2⟩
      · exact ⟨k, by omega, h⟩
      · exact ⟨k, by omega, h⟩, fun ⟨i, h1, h2⟩ => by
      by_cases h3 : i < k
      · exact .inl (.inl ⟨i, h3, h2⟩)
      · exact .inr (by rw [h2, show i = k by omega])⟩
theorem Max.one {S : WA → Prop} {l l' : LS} (h : Max S l) (h' : Max S l') (hS : ∀ a b, S a → S b → eq3 a.t a.d a.e b.t b.d b.e → a.s = b.s) : l = l' := by
  rcases h with ⟨rfl, h⟩ | ⟨m, hm, hmb, rfl, h⟩ <;> rcases h' with ⟨rfl, h'⟩ | ⟨m', hm', hmb', rfl, h'⟩
  · rfl
  · rw [h _ hm'] at hmb'; cases hmb'
  · rw [h' _ hm] at hmb; cases hmb
  · have h1 := h _ hm' hmb'
    have h2 := h' _ hm hmb
    have h3 : eq3 m.t m.d m.e m'.t m'.d m'.e := by unfold WA.le WA.lt at *; unfold lt3 at *; unfold eq3; omega
    have h4 := hS _ _ hm hm' h3
    obtain ⟨h5, h6, h7⟩ := h3
    rw [h4, h5, h6, h7]
theorem LS.write_cases (l : LS) (v : ByteArray) (t d e : Int) : (∃ x, l.write v t d e = (l, false, x)) ∨ (l.write v t d e = (⟨true, v, t, d, e⟩, true, 0) ∧ 0 ≤ t ∧ (l.is = true → l.t ≤ t) ∧ badW v t d e = false) := by
  unfold LS.write
  cases hb : badW v t d e with
  | true => exact .inl ⟨1, by simp only [if_true]⟩
  | false =>
    have ht : 0 ≤ t := by
      unfold badW at hb
      simp only [Bool.or_eq_false_iff, decide_eq_false_iff_not] at hb
      omega
    simp only [Bool.false_eq_true, if_false]
    by_cases h1 : (l.is && decide (cmpW t d e l.t l.d l.e < 0)) = true
    · exact .inl ⟨_, by rw [if_pos h1]⟩
    · rw [if_neg h1]
      by_cases h2 : (l.is && decide (cmpW t d e l.t l.d l.e = 0)) = true
      · exact .inl ⟨_, by rw [if_pos h2]⟩
      · rw [if_neg h2]
        refine .inr ⟨rfl, ht, fun hl => ?_, trivial⟩
        rw [hl] at h1
        simp only [Bool.true_and, decide_eq_true_eq, cmpW_neg] at h1
        unfold lt3 at h1
        omega
theorem LS.eq_refl (l : LS) : LS.eq l l = true := by simp [LS.eq]
end Go.Proofs.Ytfmidjlgpakilaa
