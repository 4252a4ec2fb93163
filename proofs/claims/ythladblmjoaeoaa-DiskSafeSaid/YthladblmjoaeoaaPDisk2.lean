/- A disk, plainly: what is there behind appends and a fall. -/
import Derived.Test.YthladblmjoaeoaaCDisk4
namespace Go.Proofs.Ythladblmjoaeoaa
set_option linter.unusedVariables false
set_option linter.unusedSimpArgs false
open Go Go.Eng

/-- the first n pieces that go to f, one behind the other -/
def pcs (F : Nat → Int) (B : Nat → List UInt8) : Nat → Int → List UInt8
  | 0, _ => []
  | i + 1, f => pcs F B i f ++ if F i = f then B i else []
def cutB (keep torn : Int) (B : Nat → List UInt8) (j : Nat) : List UInt8 :=
  if (j : Int) < keep then B j else if (j : Int) = keep then (B j).take (tornN torn (B j).length).toNat else []
theorem pcs_congr {F : Nat → Int} {B B' : Nat → List UInt8} : ∀ (n : Nat), (∀ j, j < n → B j = B' j) → ∀ f, pcs F B n f = pcs F B' n f
  | 0, _, _ => rfl
  | n + 1, h, f => by simp only [pcs, pcs_congr n (fun j hj => h j (by omega)) f, h n (by omega)]
theorem crash_stop {keep torn : Int} {ws : List Wr} {n : Nat} {fs : List (Int × List UInt8)} (h : (n : Int) ≤ keep) : crashGo keep torn ws n fs = fs := by
  cases n with
  | zero => rfl
  | succ n => rw [crashGo, if_pos (by omega)]
theorem crash_cont {F : Nat → Int} {B : Nat → List UInt8} {keep torn : Int} {ws : List Wr} : ∀ (n : Nat) (fs : List (Int × List UInt8)),
    (∀ j, j < n → ws[j]? = some (F j, ((pcs F B j (F j)).length : Int), ((pcs F B j (F j)).length : Int) + ((B j).length : Int))) → (∀ f, cont fs f = pcs F B n f) →
    ∀ f, cont (crashGo keep torn ws n fs) f = pcs F (cutB keep torn B) n f
  | 0, fs, _, hc, f => by simp only [crashGo, hc, pcs]
  | n + 1, fs, hw, hc, f => by
    rw [crashGo_succ (hw n (by omega))]
    by_cases h1 : (n : Int) < keep
    · rw [if_pos h1, hc]
      exact pcs_congr _ (fun j hj => by unfold cutB; rw [if_pos (by omega)]) f
    rw [if_neg h1]
    have hcn : cont fs (F n) = pcs F B n (F n) ++ B n := by rw [hc]; simp [pcs]
    simp only
    by_cases h2 : (n : Int) = keep
    · rw [crash_stop (by omega), cont_put, hcn]
      have hs : stayN keep torn n (F n, ((pcs F B n (F n)).length : Int), ((pcs F B n (F n)).length : Int) + ((B n).length : Int)) = ((pcs F B n (F n)).length : Int) + tornN torn (B n).length := by
        unfold stayN
        rw [if_pos h2]
        simp only
        rw [show ((pcs F B n (F n)).length : Int) + ((B n).length : Int) - ((pcs F B n (F n)).length : Int) = (B n).length by omega]
      have ht := tornN_range torn (x := ((B n).length : Int)) (by omega)
      have hcut : cutB keep torn B n = (B n).take (tornN torn (B n).length).toNat := by unfold cutB; rw [if_neg h1, if_pos h2]
      have hpre : pcs F (cutB keep torn B) n f = pcs F B n f := pcs_congr _ (fun j hj => by unfold cutB; rw [if_pos (by omega)]) f
      simp only [pcs, hpre, hcut]
      by_cases hf : F n = f
      · subst hf
        rw [if_pos rfl, if_pos rfl, hs, show (((pcs F B n (F n)).length : Int) + tornN torn (B n).length).toNat = (pcs F B n (F n)).length + (tornN torn (B n).length).toNat by omega, List.take_append, List.take_of_length_le (Nat.le_add_right _ _)]
        simp
      · rw [if_neg hf, if_neg hf, hc]
        simp [pcs, hf]
    · have hs : stayN keep torn n (F n, ((pcs F B n (F n)).length : Int), ((pcs F B n (F n)).length : Int) + ((B n).length : Int)) = (pcs F B n (F n)).length := by unfold stayN; rw [if_neg h2]
      have hcut : cutB keep torn B n = [] := by unfold cutB; rw [if_neg h1, if_neg h2]
      simp only [pcs, hcut, ite_self, List.append_nil]
      refine crash_cont n _ (fun j hj => hw j (by omega)) (fun g => ?_) f
      rw [cont_put, hcn, hs, Int.toNat_natCast, List.take_left' rfl]
      by_cases hg : F n = g
      · rw [if_pos hg, hg]
      · rw [if_neg hg, hc]
        simp [pcs, hg]
/-- behind n appends -/
structure Apps (F : Nat → Int) (B : Nat → List UInt8) (n : Nat) (d : DS) : Prop where
  ok : d.ok
  fit : d.fit
  on : d.on = true
  room : d.room = 65536
  len : d.ws.length = n
  ws : ∀ j, j < n → d.ws[j]? = some (F j, ((pcs F B j (F j)).length : Int), ((pcs F B j (F j)).length : Int) + ((B j).length : Int))
  fs : ∀ f, cont d.fs f = pcs F B n f
  tot : lens d.fs ≤ 200 * n
theorem Apps.next {F : Nat → Int} {B : Nat → List UInt8} {n : Nat} {d : DS} (h : Apps F B n d) (hn : n < 100) (h0 : 0 ≤ F n) (h1 : F n < 1000) (hb : (B n).length ≤ 200) : (d.append (F n) (B n)).2 = 0 ∧ Apps F B (n + 1) (d.append (F n) (B n)).1 := by
  obtain ⟨ok, fit, on, room, len, ws, fs, tot⟩ := h
  have ha : d.ask (F n) = 0 := by unfold DS.ask; rw [on]; simp; omega
  have e : d.append (F n) (B n) = ({ d with fs := mput d.fs (F n) (cont d.fs (F n) ++ B n), ws := d.ws ++ [((F n, ((cont d.fs (F n)).length : Int), ((cont d.fs (F n)).length : Int) + ((B n).length : Int)) : Wr)] }, 0) := by
    unfold DS.append
    rw [ha, if_neg (by omega), if_neg (by omega)]
  have ok' := ok.append (F n) (B n)
  have fit' := fit.append (F n) (B n)
  rw [e] at ok' fit' ⊢
  refine ⟨rfl, ok', fit', on, room, by simp [len], fun j hj => ?_, fun f => ?_, ?_⟩
  · simp only
    by_cases hjn : j = n
    · subst hjn
      rw [List.getElem?_append_right (by omega), len, Nat.sub_self]
      simp [fs]
    · rw [List.getElem?_append_left (by omega)]
      exact ws j (by omega)
  · simp only [cont_put, pcs]
    by_cases hf : F n = f
    · subst hf; rw [if_pos rfl, if_pos rfl, fs]
    · rw [if_neg hf, if_neg hf, fs, List.append_nil]
  · simp only [lens_put, List.length_append]
    omega
end Go.Proofs.Ythladblmjoaeoaa
