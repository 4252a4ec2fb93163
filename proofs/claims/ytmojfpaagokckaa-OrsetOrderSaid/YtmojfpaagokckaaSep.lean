/-
  Own engine, part 6: what is owned in a world, chunk by chunk.
-/
import Derived.Test.YtmojfpaagokckaaEng5
import Derived.Below
namespace Go.Eng
set_option linter.unusedVariables false
set_option linter.unusedSimpArgs false
open Go Go.RowKit

/-! ### parts of a heap -/
abbrev PH := Nat → Option Obj
abbrev Asn := PH → Prop
def PH.disj (a b : PH) : Prop := ∀ x, a x = none ∨ b x = none
def PH.join (a b : PH) : PH := fun x => (a x).or (b x)
def sep : List Asn → Asn
  | [], h => ∀ x, h x = none
  | a :: l, h => ∃ h1 h2, PH.disj h1 h2 ∧ h = PH.join h1 h2 ∧ a h1 ∧ sep l h2

theorem PH.disj_comm {a b : PH} (h : PH.disj a b) : PH.disj b a := fun x => (h x).symm
theorem PH.join_comm {a b : PH} (h : PH.disj a b) : PH.join a b = PH.join b a := by
  funext x
  simp only [PH.join]
  rcases h x with h | h <;> simp [h]
theorem PH.join_assoc (a b c : PH) : PH.join (PH.join a b) c = PH.join a (PH.join b c) := by
  funext x
  simp only [PH.join]
  cases a x <;> rfl
theorem PH.disj_join {a b c : PH} : PH.disj a (PH.join b c) ↔ PH.disj a b ∧ PH.disj a c := by
  constructor
  · intro h
    constructor
    · intro x
      rcases h x with h | h
      · exact .inl h
      · simp only [PH.join, Option.or_eq_none_iff] at h; exact .inr h.1
    · intro x
      rcases h x with h | h
      · exact .inl h
      · simp only [PH.join, Option.or_eq_none_iff] at h; exact .inr h.2
  · rintro ⟨h1, h2⟩ x
    rcases h1 x with h | h
    · exact .inl h
    · rcases h2 x with h' | h'
      · exact .inl h'
      · exact .inr (by simp [PH.join, h, h'])

theorem sep_swap {a b : Asn} {l : List Asn} {h : PH} (H : sep (a :: b :: l) h) : sep (b :: a :: l) h := by
  obtain ⟨h1, h2, hd, rfl, ha, h3, h4, hd', rfl, hb, hl⟩ := H
  have hd2 := PH.disj_join.1 hd
  refine ⟨h3, PH.join h1 h4, PH.disj_join.2 ⟨PH.disj_comm hd2.1, hd'⟩, ?_, hb, h1, h4, hd2.2, rfl, ha, hl⟩
  rw [← PH.join_assoc, PH.join_comm hd2.1, PH.join_assoc]

theorem sep_perm {l l' : List Asn} (hp : l.Perm l') : ∀ {h : PH}, sep l h → sep l' h := by
  induction hp with
  | nil => exact fun h => h
  | cons a _ ih =>
    rintro h ⟨h1, h2, hd, hj, ha, hl⟩
    exact ⟨h1, h2, hd, hj, ha, ih hl⟩
  | swap a b l => exact sep_swap
  | trans _ _ ih1 ih2 => exact fun h => ih2 (ih1 h)

theorem sep_append {l l' : List Asn} : ∀ {h : PH}, sep (l ++ l') h ↔ ∃ h1 h2, PH.disj h1 h2 ∧ h = PH.join h1 h2 ∧ sep l h1 ∧ sep l' h2 := by
  induction l with
  | nil =>
    intro h
    constructor
    · intro H
      refine ⟨fun _ => none, h, fun x => .inl rfl, ?_, fun x => rfl, H⟩
      funext x; simp [PH.join]
    · rintro ⟨h1, h2, hd, rfl, he, hl⟩
      have : PH.join h1 h2 = h2 := by funext x; simp [PH.join, he x]
      rw [this]; exact hl
  | cons a l ih =>
    intro h
    constructor
    · rintro ⟨h1, h2, hd, rfl, ha, hl⟩
      obtain ⟨h3, h4, hd', rfl, hl3, hl4⟩ := ih.1 hl
      have hd2 := PH.disj_join.1 hd
      refine ⟨PH.join h1 h3, h4, PH.disj_comm (PH.disj_join.2 ⟨PH.disj_comm hd2.2, PH.disj_comm hd'⟩), (PH.join_assoc _ _ _).symm, ⟨h1, h3, hd2.1, rfl, ha, hl3⟩, hl4⟩
    · rintro ⟨h1, h2, hd, rfl, ⟨h3, h4, hd', rfl, ha, hl⟩, hl'⟩
      have hd2 := PH.disj_join.1 (PH.disj_comm hd)
      refine ⟨h3, PH.join h4 h2, PH.disj_join.2 ⟨hd', PH.disj_comm hd2.1⟩, PH.join_assoc _ _ _, ha, ih.2 ⟨h4, h2, PH.disj_comm hd2.2, rfl, hl, hl'⟩⟩

/-- one block -/
def blk (b : Nat) (o : Obj) : Asn := fun h => h b = some o ∧ ∀ x, x ≠ b → h x = none
/-- none of so many cells is frozen -/
def free (fr : Nat × Nat) (n : Nat) : Prop := ∀ i, i < n → (fr.1 ≤ i && i < fr.2) = false
/-- a row of cells that may be written -/
def cells (b : Nat) (cs : List Value) (T : TypeId) : Asn := fun h => ∃ fr, free fr cs.length ∧ blk b (.cells cs.toArray T fr) h

/-! ### a world, over a base -/
/-- as 'Below', and no draw is taken back -/
structure Bel (B : Nat) (w w' : World) : Prop extends Below B w w' where
  drawn : w.drawn ≤ w'.drawn
theorem Bel.refl (B : Nat) (w : World) : Bel B w w := ⟨Below.refl B w, Nat.le_refl _⟩
theorem Bel.trans {B : Nat} {a b c : World} (h : Bel B a b) (k : Bel B b c) : Bel B a c := ⟨h.toBelow.trans k.toBelow, Nat.le_trans h.drawn k.drawn⟩
theorem Bel.mono {B B' : Nat} {w w' : World} (h : Bel B w w') (hB : B' ≤ B) : Bel B' w w' := ⟨h.toBelow.mono hB, h.drawn⟩
theorem Bel.drew {B : Nat} {a w : World} (h : Bel B a w) : Bel B a w.drew := ⟨h.toBelow.drew, Nat.le_succ_of_le h.drawn⟩
theorem Bel.alloc {B : Nat} {a w : World} (h : Bel B a w) (hB : B ≤ w.heap.size) (o : Obj) : Bel B a (w.alloc o) := ⟨h.toBelow.alloc hB o, h.drawn⟩
structure St (W0 : World) (L : List Asn) (W : World) : Prop where
  bel : Bel W0.heap.size W0 W
  own : ∃ h, sep L h ∧ ∀ b o, h b = some o → W0.heap.size ≤ b ∧ W.heap[b]? = some o

section
variable {W0 W W' : World} {L L' : List Asn}

theorem St.below (h : St W0 L W) : Below W0.heap.size W0 W := h.bel.toBelow
theorem St.start (W : World) : St W [] W := ⟨Bel.refl _ _, fun _ => none, fun _ => rfl, fun b o h => by cases h⟩
theorem St.perm (h : St W0 L W) (hp : L.Perm L') : St W0 L' W := by
  obtain ⟨hb, p, hs, ho⟩ := h
  exact ⟨hb, p, sep_perm hp hs, ho⟩
theorem St.drop {a : Asn} (h : St W0 (a :: L) W) : St W0 L W := by
  obtain ⟨hb, p, ⟨h1, h2, hd, rfl, ha, hl⟩, ho⟩ := h
  refine ⟨hb, h2, hl, fun b o hbo => ho b o ?_⟩
  rcases hd b with h | h
  · simp [PH.join, h, hbo]
  · rw [h] at hbo; cases hbo
theorem St.nil (h : St W0 L W) : St W0 [] W := ⟨h.bel, fun _ => none, fun _ => rfl, fun b o h => by cases h⟩
theorem St.tick (h : St W0 L W) : St W0 L (tick W) := ⟨h.bel.drew, h.own⟩
/-- a chunk of a weaker kind -/
theorem St.weak {a a' : Asn} (h : St W0 (a :: L) W) (ha : ∀ p, a p → a' p) : St W0 (a' :: L) W := by
  obtain ⟨hb, p, ⟨h1, h2, hd, hj, h1a, hl⟩, ho⟩ := h
  exact ⟨hb, p, ⟨h1, h2, hd, hj, ha _ h1a, hl⟩, ho⟩
theorem St.ex {α : Sort _} {A : α → Asn} (h : St W0 ((fun p => ∃ x, A x p) :: L) W) : ∃ x, St W0 (A x :: L) W := by
  obtain ⟨hb, p, ⟨h1, h2, hd, hj, ⟨x, hx⟩, hl⟩, ho⟩ := h
  exact ⟨x, hb, p, ⟨h1, h2, hd, hj, hx, hl⟩, ho⟩
theorem St.fact {q : Prop} {A : Asn} (h : St W0 ((fun p => q ∧ A p) :: L) W) : q ∧ St W0 (A :: L) W := by
  obtain ⟨hb, p, ⟨h1, h2, hd, hj, ⟨hq, hx⟩, hl⟩, ho⟩ := h
  exact ⟨hq, hb, p, ⟨h1, h2, hd, hj, hx, hl⟩, ho⟩
theorem St.flat {l : List Asn} (h : St W0 (sep l :: L) W) : St W0 (l ++ L) W := by
  obtain ⟨hb, p, ⟨h1, h2, hd, hj, hl, hl'⟩, ho⟩ := h
  exact ⟨hb, p, sep_append.2 ⟨h1, h2, hd, hj, hl, hl'⟩, ho⟩
theorem St.pack {l : List Asn} (h : St W0 (l ++ L) W) : St W0 (sep l :: L) W := by
  obtain ⟨hb, p, hs, ho⟩ := h
  obtain ⟨h1, h2, hd, hj, hl, hl'⟩ := sep_append.1 hs
  exact ⟨hb, p, ⟨h1, h2, hd, hj, hl, hl'⟩, ho⟩
theorem St.emp {a : Asn} (h : St W0 L W) (ha : a fun _ => none) : St W0 (a :: L) W := by
  obtain ⟨hb, p, hs, ho⟩ := h
  exact ⟨hb, p, ⟨fun _ => none, p, fun x => .inl rfl, by funext x; simp [PH.join], ha, hs⟩, ho⟩

/-- what a call made over the world that it found, over that world's own base -/
theorem St.over (h : St W0 L W) (h' : St W L' W') : St W0 (L' ++ L) W' := by
  obtain ⟨hb, p, hs, ho⟩ := h
  obtain ⟨hb', p', hs', ho'⟩ := h'
  have hlt : ∀ b o, p b = some o → b < W.heap.size := fun b o hpb => (Array.getElem?_eq_some_iff.1 (ho b o hpb).2).1
  refine ⟨hb.trans (hb'.mono hb.size), PH.join p' p, sep_append.2 ⟨p', p, fun x => ?_, rfl, hs', hs⟩, fun b o hbo => ?_⟩
  · cases hp : p x with
    | none => exact .inr rfl
    | some o =>
      cases hp' : p' x with
      | none => exact .inl rfl
      | some o' =>
        have := hlt x o hp
        have := (ho' x o' hp').1
        omega
  · simp only [PH.join] at hbo
    cases hp' : p' b with
    | some o' =>
      rw [hp'] at hbo
      simp only [Option.some_or, Option.some.injEq] at hbo
      subst hbo
      have := ho' b o' hp'
      have := hb.size
      exact ⟨by omega, (ho' b o' hp').2⟩
    | none =>
      rw [hp'] at hbo
      simp only [Option.none_or] at hbo
      refine ⟨(ho b o hbo).1, ?_⟩
      rw [hb'.block b (hlt b o hbo)]
      exact (ho b o hbo).2

theorem St.blk {b : Nat} {o : Obj} (h : St W0 (blk b o :: L) W) : W0.heap.size ≤ b ∧ W.heap[b]? = some o := by
  obtain ⟨hb, p, ⟨h1, h2, hd, rfl, ha, hl⟩, ho⟩ := h
  exact ho b o (by simp [PH.join, ha.1])
theorem St.cells {b : Nat} {cs : List Value} {T : TypeId} (h : St W0 (cells b cs T :: L) W) : ∃ fr, free fr cs.length ∧ St W0 (Eng.blk b (.cells cs.toArray T fr) :: L) W := by
  obtain ⟨fr, h⟩ := h.ex
  exact ⟨fr, h.fact⟩
theorem St.ne {b c : Nat} {cs ds : List Value} {T U : TypeId} (h : St W0 (Eng.cells b cs T :: Eng.cells c ds U :: L) W) : b ≠ c := by
  obtain ⟨hb, p, ⟨h1, h2, hd, rfl, ⟨fr, _, ha⟩, h3, h4, hd', rfl, ⟨fr', _, hc⟩, hl⟩, ho⟩ := h
  rintro rfl
  rcases hd b with h | h
  · rw [ha.1] at h; cases h
  · simp only [PH.join, hc.1, Option.some_or] at h; cases h

/-- a new block -/
theorem St.alloc (h : St W0 L W) (o : Obj) : St W0 (Eng.blk W.heap.size o :: L) (W.alloc o) := by
  have h' : St W [Eng.blk W.heap.size o] (W.alloc o) := by
    refine ⟨(Bel.refl _ _).alloc (Nat.le_refl _) o, fun x => if x = W.heap.size then some o else none, ⟨fun x => if x = W.heap.size then some o else none, fun _ => none, fun x => .inr rfl, ?_, ⟨?_, ?_⟩, fun _ => rfl⟩, ?_⟩
    · funext x; simp [PH.join]
    · simp
    · intro x hx; simp [hx]
    · intro b o' hb
      by_cases hbe : b = W.heap.size
      · subst hbe
        simp only [if_true, Option.some.injEq] at hb
        subst hb
        exact ⟨Nat.le_refl _, heap_alloc_new W o⟩
      · simp only [hbe, if_false] at hb
        cases hb
  exact h.over h'
theorem free_zero (n : Nat) : free (0, 0) n := fun i _ => by simp
theorem St.allocCells (h : St W0 L W) (cs : List Value) (T : TypeId) : St W0 (Eng.cells W.heap.size cs T :: L) (W.alloc (.cells cs.toArray T)) :=
  (h.alloc _).weak fun p hp => ⟨(0, 0), free_zero _, hp⟩

/-- an owned block becomes another -/
theorem St.setBlk {b : Nat} {o : Obj} (h : St W0 (Eng.blk b o :: L) W) (o' : Obj) : St W0 (Eng.blk b o' :: L) { W with heap := W.heap.setIfInBounds b o' } := by
  have hbl := h.blk
  have hlt : b < W.heap.size := (Array.getElem?_eq_some_iff.1 hbl.2).1
  obtain ⟨hb, p, ⟨h1, h2, hd, rfl, ha, hl⟩, ho⟩ := h
  have hne : ∀ x, h2 x ≠ none → x ≠ b := by
    rintro x hx rfl
    rcases hd x with h | h
    · rw [ha.1] at h; cases h
    · exact hx h
  refine ⟨hb.trans ⟨⟨rfl, rfl, rfl, by simp, fun k hk => ?_⟩, Nat.le_refl _⟩, PH.join (fun x => if x = b then some o' else none) h2, ⟨_, h2, fun x => ?_, rfl, ⟨by simp, fun x hx => by simp [hx]⟩, hl⟩, fun x u hx => ?_⟩
  · show (W.heap.setIfInBounds b o')[k]? = _
    rw [Array.getElem?_setIfInBounds_ne (by have := hbl.1; omega)]
  · by_cases hx : x = b
    · subst hx
      cases h2x : h2 x with
      | none => exact .inr rfl
      | some u => exact absurd rfl (hne x (by simp [h2x]))
    · exact .inl (by simp [hx])
  · show _ ∧ (W.heap.setIfInBounds b o')[x]? = _
    simp only [PH.join] at hx
    by_cases hxb : x = b
    · subst hxb
      simp only [if_true, Option.some_or, Option.some.injEq] at hx
      subst hx
      exact ⟨hbl.1, by simp [hlt]⟩
    · simp only [hxb, if_false, Option.none_or] at hx
      have := ho x u (by simp [PH.join, hx, ha.2 x hxb])
      exact ⟨this.1, by rw [Array.getElem?_setIfInBounds_ne (Ne.symm hxb)]; exact this.2⟩
end

/-! ### where a chunk stands -/
/-- 'L' is 'F a' and 'L'' -/
class Tk {α : Type} (F : α → Asn) (L : List Asn) (a : outParam α) (L' : outParam (List Asn)) : Prop where
  perm : L.Perm (F a :: L')
instance (priority := high) Tk.here {α : Type} (F : α → Asn) (a : α) (L : List Asn) : Tk F (F a :: L) a L := ⟨.refl _⟩
instance Tk.there {α : Type} (F : α → Asn) (x : Asn) (L : List Asn) (a : α) (L' : List Asn) [h : Tk F L a L'] : Tk F (x :: L) a (x :: L') := ⟨(h.perm.cons x).trans (List.Perm.swap _ _ _)⟩

/-- the row of block b -/
class Ck (b : Nat) (L : List Asn) (cs : outParam (List Value)) (T : outParam TypeId) (L' : outParam (List Asn)) : Prop where
  perm : L.Perm (cells b cs T :: L')
instance (priority := high) Ck.here (b : Nat) (cs : List Value) (T : TypeId) (L : List Asn) : Ck b (cells b cs T :: L) cs T L := ⟨.refl _⟩
instance Ck.there (b : Nat) (x : Asn) (L : List Asn) (cs : List Value) (T : TypeId) (L' : List Asn) [h : Ck b L cs T L'] : Ck b (x :: L) cs T (x :: L') := ⟨(h.perm.cons x).trans (List.Perm.swap _ _ _)⟩
/-- the row of block b replaced where it stands -/
class Cu (b : Nat) (L : List Asn) (cs : outParam (List Value)) (T : outParam TypeId) (L' : outParam (List Value → List Asn)) : Prop where
  perm : ∃ R, L.Perm (cells b cs T :: R) ∧ ∀ cs', (L' cs').Perm (cells b cs' T :: R)
instance (priority := high) Cu.here (b : Nat) (cs : List Value) (T : TypeId) (L : List Asn) : Cu b (cells b cs T :: L) cs T (fun cs' => cells b cs' T :: L) := ⟨L, .refl _, fun _ => .refl _⟩
instance Cu.there (b : Nat) (x : Asn) (L : List Asn) (cs : List Value) (T : TypeId) (L' : List Value → List Asn) [h : Cu b L cs T L'] : Cu b (x :: L) cs T (fun cs' => x :: L' cs') := by
  obtain ⟨R, h1, h2⟩ := h.perm
  exact ⟨x :: R, (h1.cons x).trans (List.Perm.swap _ _ _), fun cs' => ((h2 cs').cons x).trans (List.Perm.swap _ _ _)⟩
end Go.Eng
