/- Own engine: keys that are structs; chunks that are let go; seven of a kind. -/
import Derived.Test.YtmojfpaagokckaaMp2
import Derived.Test.YtmojfpaagokckaaEqu
import Derived.Test.YtmojfpaagokckaaSl5
namespace Go.Eng
set_option linter.unusedVariables false
set_option linter.unusedSimpArgs false
open Go Go.RowKit
section
variable {P : Program} {W0 W : World} {L L' : List Asn}
theorem KeyT.agg {t : TypeId} {d : TypeDesc} {κ : Type} {K : κ → Value} [DecidableEq κ] (cs : κ → List Value) {ks : List Leaf} [EqS P t ks] (hK : ∀ k, K k = .agg (cs k).toArray) (hd : P.underlying t = some d)
    (hs : ∀ a b, Instr.sameNow d a b = none) (heq : ∀ a b, eqC ks (cs a) (cs b) = some (decide (a = b))) (hst : ∀ k, Instr.sameBits 10000 (K k) (K k) = true)
    (hchk : ∀ (w : World) (em : Bool) (k : κ), (Instr.checkKey em 10000 t (K k)).run P w = .ok () w) : KeyT P t K where
  inj {a b} h := by
    rw [hK, hK] at h
    have h1 : cs a = cs b := by simpa using h
    have h2 := heq a b
    rw [h1, heq b b] at h2
    simpa using h2
  check := hchk
  find w k es hes := by
    have hasking : ∀ (es : List MapEntry) (i : Nat), (∀ e ∈ es, ∃ k', e.key = K k') →
        ((Instr.findAsking t (K k) es i).run P w = .ok none w ∧ ∀ e ∈ es, e.key ≠ K k) ∨ ∃ j e, (Instr.findAsking t (K k) es i).run P w = .ok (some (i + j, e.val)) w ∧ es[j]? = some e ∧ e.key = K k := by
      intro es
      induction es with
      | nil => intro i _; exact .inl ⟨rfl, by simp⟩
      | cons e es ih =>
        intro i hes
        obtain ⟨k', hk'⟩ := hes e (by simp)
        have he := (equal_run (P := P) (w := w))
        have hq : (Op.equal t (K k) e.key).run P w = .ok (decide (k = k')) w := by
          have h1 := (aggEq_run (P := P) (w := w) (t := t) (heq k k')).1
          rw [hk', hK k, hK k']
          obtain ⟨u, g1, g0, g2, g3⟩ := (inferInstance : EqS P t ks).ok
          exact equal_run (P := P) (w := w) 8 9992 t ks _ _ _ _ g2 g1 (heq k k') (.agg (cs k).toArray) (.agg (cs k').toArray) (fun _ => ⟨rfl, rfl⟩) (fun h => by rw [g0] at h; cases h)
        simp only [Instr.findAsking, Sem.run_bind, hq, Result.andThen_ok]
        by_cases hkk : k = k'
        · subst hkk
          rw [decide_eq_true rfl]
          exact .inr ⟨0, e, rfl, rfl, hk'⟩
        · rw [decide_eq_false hkk]
          rcases ih (i + 1) (fun x hx => hes x (by simp [hx])) with ⟨h1, h2⟩ | ⟨j, e', h1, h2, h3⟩
          · refine .inl ⟨h1, fun x hx => ?_⟩
            rcases List.mem_cons.1 hx with rfl | hx
            · rw [hk']
              intro h
              rw [hK, hK] at h
              have h1 : cs k' = cs k := by simpa using h
              have h2 := heq k k'
              rw [h1, heq k k] at h2
              exact hkk (by simpa using h2)
            · exact h2 x hx
          · refine .inr ⟨j + 1, e', ?_, by simpa using h2, h3⟩
            simpa [Nat.add_assoc, Nat.add_comm 1 j] using h1
    have hrun : ∀ es : List MapEntry, (Instr.findKey t (K k) es).run P w = (Instr.findAsking t (K k) es).run P w := by
      intro es
      simp only [Instr.findKey, Sem.run_bind, run_underlying hd, Result.andThen_ok]
      cases es with
      | nil => rfl
      | cons e es => simp only [Instr.findNow, hs]
    rw [hrun]
    rcases hasking es 0 hes with h | ⟨j, e, h1, h2, h3⟩
    · exact .inl h
    · exact .inr ⟨j, e, by simpa using h1, h2, h3⟩
  stays w k := by simp only [Instr.keyThatStays, hst, if_true, Sem.run_pure]

/-! ### what is not wanted is let go -/
def PH.le (a b : PH) : Prop := ∀ x o, a x = some o → b x = some o
def entd (L L' : List Asn) : Prop := ∀ p, sep L p → ∃ p', PH.le p' p ∧ sep L' p'
theorem entd.refl (L : List Asn) : entd L L := fun p h => ⟨p, fun _ _ h => h, h⟩
theorem entd.trans {L L' L'' : List Asn} (h : entd L L') (h' : entd L' L'') : entd L L'' := fun p hp => by
  obtain ⟨q, h1, h2⟩ := h p hp
  obtain ⟨r, h3, h4⟩ := h' q h2
  exact ⟨r, fun x o hx => h1 x o (h3 x o hx), h4⟩
theorem ent.d {L L' : List Asn} (h : ent L L') : entd L L' := fun p hp => ⟨p, fun _ _ h => h, h p hp⟩
theorem entd.drop (x : Asn) (L : List Asn) : entd (x :: L) L := by
  rintro p ⟨h1, h2, hd, rfl, ha, hl⟩
  refine ⟨h2, fun y o hy => ?_, hl⟩
  rcases hd y with h | h
  · simp [PH.join, h, hy]
  · rw [h] at hy; cases hy
theorem entd.cons (x : Asn) {L L' : List Asn} (h : entd L L') : entd (x :: L) (x :: L') := by
  rintro p ⟨h1, h2, hd, rfl, ha, hl⟩
  obtain ⟨q, hq, hs⟩ := h h2 hl
  refine ⟨PH.join h1 q, fun y o hy => ?_, h1, q, fun y => ?_, rfl, ha, hs⟩
  · simp only [PH.join] at hy ⊢
    cases h1y : h1 y with
    | some u => rw [h1y] at hy; simpa using hy
    | none => rw [h1y] at hy; simp only [Option.none_or] at hy ⊢; exact hq y o hy
  · rcases hd y with h | h
    · exact .inl h
    · cases hqy : q y with
      | none => exact .inr rfl
      | some u => rw [hq y u hqy] at h; cases h
theorem St.entd {L L' : List Asn} (h : St W0 L W) (he : Eng.entd L L') : St W0 L' W := by
  obtain ⟨hb, p, hs, ho⟩ := h
  obtain ⟨q, hq, hs'⟩ := he p hs
  exact ⟨hb, q, hs', fun b o hbo => ho b o (hq b o hbo)⟩
class Pk (x : Asn) (L : List Asn) (L' : outParam (List Asn)) : Prop where
  perm : L.Perm (x :: L')
instance (priority := high) Pk.here (x : Asn) (L : List Asn) : Pk x (x :: L) L := ⟨.refl _⟩
instance Pk.there (x y : Asn) (L L' : List Asn) [h : Pk x L L'] : Pk x (y :: L) (y :: L') := ⟨(h.perm.cons y).trans (List.Perm.swap _ _ _)⟩
class Wk (L L' : List Asn) : Prop where
  ok : Eng.entd L L'
instance (priority := high) Wk.refl (L : List Asn) : Wk L L := ⟨entd.refl L⟩
instance (priority := 900) Wk.pick (x : Asn) (L L1 L' : List Asn) [h : Pk x L L1] [h' : Wk L1 L'] : Wk L (x :: L') := ⟨(ent.perm h.perm).d.trans (h'.ok.cons x)⟩
instance (priority := low) Wk.drop (x : Asn) (L L' : List Asn) [h : Wk L L'] : Wk (x :: L) L' := ⟨(entd.drop x L).trans h.ok⟩
instance (priority := 950) Wk.nil (L : List Asn) : Wk L [] := ⟨fun p _ => ⟨fun _ => none, ⟨fun _ _ h => (nomatch h), fun _ => rfl⟩⟩⟩
/-- the chunks that are wanted, in the order that is wanted -/
theorem St.wk {L L' : List Asn} (h : St W0 L W) [hw : Wk L L'] : St W0 L' W := h.entd hw.ok
end

/-! ### seven of a kind -/
structure P7 (α : Type) where
  x0 : α
  x1 : α
  x2 : α
  x3 : α
  x4 : α
  x5 : α
  x6 : α
  deriving DecidableEq
namespace P7
variable {α β γ : Type}
abbrev of (f : Nat → α) : P7 α := ⟨f 0, f 1, f 2, f 3, f 4, f 5, f 6⟩
@[reducible] def get (p : P7 α) : Nat → α
  | 0 => p.x0
  | 1 => p.x1
  | 2 => p.x2
  | 3 => p.x3
  | 4 => p.x4
  | 5 => p.x5
  | _ => p.x6
def map (f : α → β) (p : P7 α) : P7 β := ⟨f p.x0, f p.x1, f p.x2, f p.x3, f p.x4, f p.x5, f p.x6⟩
def zip (f : α → β → γ) (p : P7 α) (q : P7 β) : P7 γ := ⟨f p.x0 q.x0, f p.x1 q.x1, f p.x2 q.x2, f p.x3 q.x3, f p.x4 q.x4, f p.x5 q.x5, f p.x6 q.x6⟩
def list (p : P7 α) : List α := [p.x0, p.x1, p.x2, p.x3, p.x4, p.x5, p.x6]
abbrev set (p : P7 α) (i : Nat) (x : α) : P7 α := of fun j => if j = i then x else p.get j
abbrev all (a : α) : P7 α := ⟨a, a, a, a, a, a, a⟩
theorem cases7 {i : Nat} (h : i < 7) : i = 0 ∨ i = 1 ∨ i = 2 ∨ i = 3 ∨ i = 4 ∨ i = 5 ∨ i = 6 := by omega
theorem get_of (f : Nat → α) {i : Nat} (h : i < 7) : (of f).get i = f i := by rcases cases7 h with rfl | rfl | rfl | rfl | rfl | rfl | rfl <;> rfl
theorem of_get (p : P7 α) : of p.get = p := rfl
theorem ext7 {p q : P7 α} (h : ∀ i, i < 7 → p.get i = q.get i) : p = q := by
  rw [← of_get p, ← of_get q]
  simp only [of, h 0 (by omega), h 1 (by omega), h 2 (by omega), h 3 (by omega), h 4 (by omega), h 5 (by omega), h 6 (by omega)]
theorem get_map (f : α → β) (p : P7 α) (i : Nat) : (p.map f).get i = f (p.get i) := by
  unfold get; split <;> rfl
theorem get_zip (f : α → β → γ) (p : P7 α) (q : P7 β) (i : Nat) : (p.zip f q).get i = f (p.get i) (q.get i) := by
  unfold get; split <;> rfl
theorem get_set (p : P7 α) (i j : Nat) (x : α) (hj : j < 7) : (p.set i x).get j = if j = i then x else p.get j := by rw [set, get_of _ hj]
theorem get_all (a : α) (i : Nat) : (all a).get i = a := by unfold get; split <;> rfl
theorem map_set (f : α → β) (p : P7 α) (i : Nat) (x : α) : (p.set i x).map f = (p.map f).set i (f x) := by
  refine ext7 fun j hj => ?_
  rw [get_map, get_set _ _ _ _ hj, get_set _ _ _ _ hj, get_map]
  split <;> rfl
theorem list_len (p : P7 α) : p.list.length = 7 := rfl
theorem list_get (p : P7 α) {i : Nat} (h : i < 7) : p.list[i]? = some (p.get i) := by rcases cases7 h with rfl | rfl | rfl | rfl | rfl | rfl | rfl <;> rfl
theorem map_map (f : α → β) (g : β → γ) (p : P7 α) : (p.map f).map g = p.map (fun x => g (f x)) := rfl
end P7
end Go.Eng
