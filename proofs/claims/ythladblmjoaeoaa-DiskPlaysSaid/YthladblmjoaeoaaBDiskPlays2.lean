/- Texts of the claim DiskPlays, joined: Sep, Rul, Sl, Sl2, Sl3, Mp, Mp2. -/
import Derived.Test.YthladblmjoaeoaaBDiskPlays1
import Derived.Below
import Derived.IntWalk
import Derived.Laws.Strings
import Derived.Laws.AppendOwn
import Derived.Laws.IdiomStrings
import Derived.Laws.MakeOwn
import Derived.Maps.Keyed
import Derived.Maps.RangeRun
import Derived.Carry
namespace Go.Eng
set_option linter.unusedVariables false
set_option linter.unusedSimpArgs false
open Go Go.RowKit

/-! ### parts of a heap -/
abbrev PH := Nat → Option Obj
abbrev Asn := PH → Prop
def PH.disj (a b : PH) : Prop := ∀ x, a x = none ∨ b x = none
def PH.join (a b : PH) : PH := fun x => (a x).or (b x)
def sep : List Asn → Asn
  | [], h => ∀ x, h x = none
  | a :: l, h => ∃ h1 h2, PH.disj h1 h2 ∧ h = PH.join h1 h2 ∧ a h1 ∧ sep l h2

theorem PH.disj_comm {a b : PH} (h : PH.disj a b) : PH.disj b a := fun x => (h x).symm
theorem PH.join_comm {a b : PH} (h : PH.disj a b) : PH.join a b = PH.join b a := by
  funext x
  simp only [PH.join]
  rcases h x with h | h <;> simp [h]
theorem PH.join_assoc (a b c : PH) : PH.join (PH.join a b) c = PH.join a (PH.join b c) := by
  funext x
  simp only [PH.join]
  cases a x <;> rfl
theorem PH.disj_join {a b c : PH} : PH.disj a (PH.join b c) ↔ PH.disj a b ∧ PH.disj a c := by
  constructor
  · intro h
    constructor
    · intro x
      rcases h x with h | h
      · exact .inl h
      · simp only [PH.join, Option.or_eq_none_iff] at h; exact .inr h.1
    · intro x
      rcases h x with h | h
      · exact .inl h
      · simp only [PH.join, Option.or_eq_none_iff] at h; exact .inr h.2
  · rintro ⟨h1, h2⟩ x
    rcases h1 x with h | h
    · exact .inl h
    · rcases h2 x with h' | h'
      · exact .inl h'
      · exact .inr (by simp [PH.join, h, h'])

theorem sep_swap {a b : Asn} {l : List Asn} {h : PH} (H : sep (a :: b :: l) h) : sep (b :: a :: l) h := by
  obtain ⟨h1, h2, hd, rfl, ha, h3, h4, hd', rfl, hb, hl⟩ := H
  have hd2 := PH.disj_join.1 hd
  refine ⟨h3, PH.join h1 h4, PH.disj_join.2 ⟨PH.disj_comm hd2.1, hd'⟩, ?_, hb, h1, h4, hd2.2, rfl, ha, hl⟩
  rw [← PH.join_assoc, PH.join_comm hd2.1, PH.join_assoc]

theorem sep_perm {l l' : List Asn} (hp : l.Perm l') : ∀ {h : PH}, sep l h → sep l' h := by
  induction hp with
  | nil => exact fun h => h
  | cons a _ ih =>
    rintro h ⟨h1, h2, hd, hj, ha, hl⟩
    exact ⟨h1, h2, hd, hj, ha, ih hl⟩
  | swap a b l => exact sep_swap
  | trans _ _ ih1 ih2 => exact fun h => ih2 (ih1 h)

theorem sep_append {l l' : List Asn} : ∀ {h : PH}, sep (l ++ l') h ↔ ∃ h1 h2, PH.disj h1 h2 ∧ h = PH.join h1 h2 ∧ sep l h1 ∧ sep l' h2 := by
  induction l with
  | nil =>
    intro h
    constructor
    · intro H
      refine ⟨fun _ => none, h, fun x => .inl rfl, ?_, fun x => rfl, H⟩
      funext x; simp [PH.join]
    · rintro ⟨h1, h2, hd, rfl, he, hl⟩
      have : PH.join h1 h2 = h2 := by funext x; simp [PH.join, he x]
      rw [this]; exact hl
  | cons a l ih =>
    intro h
    constructor
    · rintro ⟨h1, h2, hd, rfl, ha, hl⟩
      obtain ⟨h3, h4, hd', rfl, hl3, hl4⟩ := ih.1 hl
      have hd2 := PH.disj_join.1 hd
      refine ⟨PH.join h1 h3, h4, PH.disj_comm (PH.disj_join.2 ⟨PH.disj_comm hd2.2, PH.disj_comm hd'⟩), (PH.join_assoc _ _ _).symm, ⟨h1, h3, hd2.1, rfl, ha, hl3⟩, hl4⟩
    · rintro ⟨h1, h2, hd, rfl, ⟨h3, h4, hd', rfl, ha, hl⟩, hl'⟩
      have hd2 := PH.disj_join.1 (PH.disj_comm hd)
      refine ⟨h3, PH.join h4 h2, PH.disj_join.2 ⟨hd', PH.disj_comm hd2.1⟩, PH.join_assoc _ _ _, ha, ih.2 ⟨h4, h2, PH.disj_comm hd2.2, rfl, hl, hl'⟩⟩

/-- one block -/
def blk (b : Nat) (o : Obj) : Asn := fun h => h b = some o ∧ ∀ x, x ≠ b → h x = none
/-- none of so many cells is frozen -/
def free (fr : Nat × Nat) (n : Nat) : Prop := ∀ i, i < n → (fr.1 ≤ i && i < fr.2) = false
/-- a row of cells that may be written -/
def cells (b : Nat) (cs : List Value) (T : TypeId) : Asn := fun h => ∃ fr, free fr cs.length ∧ blk b (.cells cs.toArray T fr) h

/-! ### a world, over a base -/
/-- as 'Below', and no draw is taken back -/
structure Bel (B : Nat) (w w' : World) : Prop extends Below B w w' where
  drawn : w.drawn ≤ w'.drawn
theorem Bel.refl (B : Nat) (w : World) : Bel B w w := ⟨Below.refl B w, Nat.le_refl _⟩
theorem Bel.trans {B : Nat} {a b c : World} (h : Bel B a b) (k : Bel B b c) : Bel B a c := ⟨h.toBelow.trans k.toBelow, Nat.le_trans h.drawn k.drawn⟩
theorem Bel.mono {B B' : Nat} {w w' : World} (h : Bel B w w') (hB : B' ≤ B) : Bel B' w w' := ⟨h.toBelow.mono hB, h.drawn⟩
theorem Bel.drew {B : Nat} {a w : World} (h : Bel B a w) : Bel B a w.drew := ⟨h.toBelow.drew, Nat.le_succ_of_le h.drawn⟩
theorem Bel.alloc {B : Nat} {a w : World} (h : Bel B a w) (hB : B ≤ w.heap.size) (o : Obj) : Bel B a (w.alloc o) := ⟨h.toBelow.alloc hB o, h.drawn⟩
structure St (W0 : World) (L : List Asn) (W : World) : Prop where
  bel : Bel W0.heap.size W0 W
  own : ∃ h, sep L h ∧ ∀ b o, h b = some o → W0.heap.size ≤ b ∧ W.heap[b]? = some o

section
variable {W0 W W' : World} {L L' : List Asn}

theorem St.below (h : St W0 L W) : Below W0.heap.size W0 W := h.bel.toBelow
theorem St.start (W : World) : St W [] W := ⟨Bel.refl _ _, fun _ => none, fun _ => rfl, fun b o h => by cases h⟩
theorem St.perm (h : St W0 L W) (hp : L.Perm L') : St W0 L' W := by
  obtain ⟨hb, p, hs, ho⟩ := h
  exact ⟨hb, p, sep_perm hp hs, ho⟩
theorem St.drop {a : Asn} (h : St W0 (a :: L) W) : St W0 L W := by
  obtain ⟨hb, p, ⟨h1, h2, hd, rfl, ha, hl⟩, ho⟩ := h
  refine ⟨hb, h2, hl, fun b o hbo => ho b o ?_⟩
  rcases hd b with h | h
  · simp [PH.join, h, hbo]
  · rw [h] at hbo; cases hbo
theorem St.nil (h : St W0 L W) : St W0 [] W := ⟨h.bel, fun _ => none, fun _ => rfl, fun b o h => by cases h⟩
theorem St.tick (h : St W0 L W) : St W0 L (tick W) := ⟨h.bel.drew, h.own⟩
/-- a chunk of a weaker kind -/
theorem St.weak {a a' : Asn} (h : St W0 (a :: L) W) (ha : ∀ p, a p → a' p) : St W0 (a' :: L) W := by
  obtain ⟨hb, p, ⟨h1, h2, hd, hj, h1a, hl⟩, ho⟩ := h
  exact ⟨hb, p, ⟨h1, h2, hd, hj, ha _ h1a, hl⟩, ho⟩
theorem St.ex {α : Sort _} {A : α → Asn} (h : St W0 ((fun p => ∃ x, A x p) :: L) W) : ∃ x, St W0 (A x :: L) W := by
  obtain ⟨hb, p, ⟨h1, h2, hd, hj, ⟨x, hx⟩, hl⟩, ho⟩ := h
  exact ⟨x, hb, p, ⟨h1, h2, hd, hj, hx, hl⟩, ho⟩
theorem St.fact {q : Prop} {A : Asn} (h : St W0 ((fun p => q ∧ A p) :: L) W) : q ∧ St W0 (A :: L) W := by
  obtain ⟨hb, p, ⟨h1, h2, hd, hj, ⟨hq, hx⟩, hl⟩, ho⟩ := h
  exact ⟨hq, hb, p, ⟨h1, h2, hd, hj, hx, hl⟩, ho⟩
theorem St.flat {l : List Asn} (h : St W0 (sep l :: L) W) : St W0 (l ++ L) W := by
  obtain ⟨hb, p, ⟨h1, h2, hd, hj, hl, hl'⟩, ho⟩ := h
  exact ⟨hb, p, sep_append.2 ⟨h1, h2, hd, hj, hl, hl'⟩, ho⟩
theorem St.pack {l : List Asn} (h : St W0 (l ++ L) W) : St W0 (sep l :: L) W := by
  obtain ⟨hb, p, hs, ho⟩ := h
  obtain ⟨h1, h2, hd, hj, hl, hl'⟩ := sep_append.1 hs
  exact ⟨hb, p, ⟨h1, h2, hd, hj, hl, hl'⟩, ho⟩
theorem St.emp {a : Asn} (h : St W0 L W) (ha : a fun _ => none) : St W0 (a :: L) W := by
  obtain ⟨hb, p, hs, ho⟩ := h
  exact ⟨hb, p, ⟨fun _ => none, p, fun x => .inl rfl, by funext x; simp [PH.join], ha, hs⟩, ho⟩

/-- what a call made over the world that it found, over that world's own base -/
theorem St.over (h : St W0 L W) (h' : St W L' W') : St W0 (L' ++ L) W' := by
  obtain ⟨hb, p, hs, ho⟩ := h
  obtain ⟨hb', p', hs', ho'⟩ := h'
  have hlt : ∀ b o, p b = some o → b < W.heap.size := fun b o hpb => (Array.getElem?_eq_some_iff.1 (ho b o hpb).2).1
  refine ⟨hb.trans (hb'.mono hb.size), PH.join p' p, sep_append.2 ⟨p', p, fun x => ?_, rfl, hs', hs⟩, fun b o hbo => ?_⟩
  · cases hp : p x with
    | none => exact .inr rfl
    | some o =>
      cases hp' : p' x with
      | none => exact .inl rfl
      | some o' =>
        have := hlt x o hp
        have := (ho' x o' hp').1
        omega
  · simp only [PH.join] at hbo
    cases hp' : p' b with
    | some o' =>
      rw [hp'] at hbo
      simp only [Option.some_or, Option.some.injEq] at hbo
      subst hbo
      have := ho' b o' hp'
      have := hb.size
      exact ⟨by omega, (ho' b o' hp').2⟩
    | none =>
      rw [hp'] at hbo
      simp only [Option.none_or] at hbo
      refine ⟨(ho b o hbo).1, ?_⟩
      rw [hb'.block b (hlt b o hbo)]
      exact (ho b o hbo).2

theorem St.blk {b : Nat} {o : Obj} (h : St W0 (blk b o :: L) W) : W0.heap.size ≤ b ∧ W.heap[b]? = some o := by
  obtain ⟨hb, p, ⟨h1, h2, hd, rfl, ha, hl⟩, ho⟩ := h
  exact ho b o (by simp [PH.join, ha.1])
theorem St.cells {b : Nat} {cs : List Value} {T : TypeId} (h : St W0 (cells b cs T :: L) W) : ∃ fr, free fr cs.length ∧ St W0 (Eng.blk b (.cells cs.toArray T fr) :: L) W := by
  obtain ⟨fr, h⟩ := h.ex
  exact ⟨fr, h.fact⟩
theorem St.ne {b c : Nat} {cs ds : List Value} {T U : TypeId} (h : St W0 (Eng.cells b cs T :: Eng.cells c ds U :: L) W) : b ≠ c := by
  obtain ⟨hb, p, ⟨h1, h2, hd, rfl, ⟨fr, _, ha⟩, h3, h4, hd', rfl, ⟨fr', _, hc⟩, hl⟩, ho⟩ := h
  rintro rfl
  rcases hd b with h | h
  · rw [ha.1] at h; cases h
  · simp only [PH.join, hc.1, Option.some_or] at h; cases h

/-- a new block -/
theorem St.alloc (h : St W0 L W) (o : Obj) : St W0 (Eng.blk W.heap.size o :: L) (W.alloc o) := by
  have h' : St W [Eng.blk W.heap.size o] (W.alloc o) := by
    refine ⟨(Bel.refl _ _).alloc (Nat.le_refl _) o, fun x => if x = W.heap.size then some o else none, ⟨fun x => if x = W.heap.size then some o else none, fun _ => none, fun x => .inr rfl, ?_, ⟨?_, ?_⟩, fun _ => rfl⟩, ?_⟩
    · funext x; simp [PH.join]
    · simp
    · intro x hx; simp [hx]
    · intro b o' hb
      by_cases hbe : b = W.heap.size
      · subst hbe
        simp only [if_true, Option.some.injEq] at hb
        subst hb
        exact ⟨Nat.le_refl _, heap_alloc_new W o⟩
      · simp only [hbe, if_false] at hb
        cases hb
  exact h.over h'
theorem free_zero (n : Nat) : free (0, 0) n := fun i _ => by simp
theorem St.allocCells (h : St W0 L W) (cs : List Value) (T : TypeId) : St W0 (Eng.cells W.heap.size cs T :: L) (W.alloc (.cells cs.toArray T)) :=
  (h.alloc _).weak fun p hp => ⟨(0, 0), free_zero _, hp⟩

/-- an owned block becomes another -/
theorem St.setBlk {b : Nat} {o : Obj} (h : St W0 (Eng.blk b o :: L) W) (o' : Obj) : St W0 (Eng.blk b o' :: L) { W with heap := W.heap.setIfInBounds b o' } := by
  have hbl := h.blk
  have hlt : b < W.heap.size := (Array.getElem?_eq_some_iff.1 hbl.2).1
  obtain ⟨hb, p, ⟨h1, h2, hd, rfl, ha, hl⟩, ho⟩ := h
  have hne : ∀ x, h2 x ≠ none → x ≠ b := by
    rintro x hx rfl
    rcases hd x with h | h
    · rw [ha.1] at h; cases h
    · exact hx h
  refine ⟨hb.trans ⟨⟨rfl, rfl, rfl, by simp, fun k hk => ?_⟩, Nat.le_refl _⟩, PH.join (fun x => if x = b then some o' else none) h2, ⟨_, h2, fun x => ?_, rfl, ⟨by simp, fun x hx => by simp [hx]⟩, hl⟩, fun x u hx => ?_⟩
  · show (W.heap.setIfInBounds b o')[k]? = _
    rw [Array.getElem?_setIfInBounds_ne (by have := hbl.1; omega)]
  · by_cases hx : x = b
    · subst hx
      cases h2x : h2 x with
      | none => exact .inr rfl
      | some u => exact absurd rfl (hne x (by simp [h2x]))
    · exact .inl (by simp [hx])
  · show _ ∧ (W.heap.setIfInBounds b o')[x]? = _
    simp only [PH.join] at hx
    by_cases hxb : x = b
    · subst hxb
      simp only [if_true, Option.some_or, Option.some.injEq] at hx
      subst hx
      exact ⟨hbl.1, by simp [hlt]⟩
    · simp only [hxb, if_false, Option.none_or] at hx
      have := ho x u (by simp [PH.join, hx, ha.2 x hxb])
      exact ⟨this.1, by rw [Array.getElem?_setIfInBounds_ne (Ne.symm hxb)]; exact this.2⟩
end

/-! ### where a chunk stands -/
/-- 'L' is 'F a' and 'L'' -/
class Tk {α : Type} (F : α → Asn) (L : List Asn) (a : outParam α) (L' : outParam (List Asn)) : Prop where
  perm : L.Perm (F a :: L')
instance (priority := high) Tk.here {α : Type} (F : α → Asn) (a : α) (L : List Asn) : Tk F (F a :: L) a L := ⟨.refl _⟩
instance Tk.there {α : Type} (F : α → Asn) (x : Asn) (L : List Asn) (a : α) (L' : List Asn) [h : Tk F L a L'] : Tk F (x :: L) a (x :: L') := ⟨(h.perm.cons x).trans (List.Perm.swap _ _ _)⟩

/-- the row of block b -/
class Ck (b : Nat) (L : List Asn) (cs : outParam (List Value)) (T : outParam TypeId) (L' : outParam (List Asn)) : Prop where
  perm : L.Perm (cells b cs T :: L')
instance (priority := high) Ck.here (b : Nat) (cs : List Value) (T : TypeId) (L : List Asn) : Ck b (cells b cs T :: L) cs T L := ⟨.refl _⟩
instance Ck.there (b : Nat) (x : Asn) (L : List Asn) (cs : List Value) (T : TypeId) (L' : List Asn) [h : Ck b L cs T L'] : Ck b (x :: L) cs T (x :: L') := ⟨(h.perm.cons x).trans (List.Perm.swap _ _ _)⟩
/-- the row of block b replaced where it stands -/
class Cu (b : Nat) (L : List Asn) (cs : outParam (List Value)) (T : outParam TypeId) (L' : outParam (List Value → List Asn)) : Prop where
  perm : ∃ R, L.Perm (cells b cs T :: R) ∧ ∀ cs', (L' cs').Perm (cells b cs' T :: R)
instance (priority := high) Cu.here (b : Nat) (cs : List Value) (T : TypeId) (L : List Asn) : Cu b (cells b cs T :: L) cs T (fun cs' => cells b cs' T :: L) := ⟨L, .refl _, fun _ => .refl _⟩
instance Cu.there (b : Nat) (x : Asn) (L : List Asn) (cs : List Value) (T : TypeId) (L' : List Value → List Asn) [h : Cu b L cs T L'] : Cu b (x :: L) cs T (fun cs' => x :: L' cs') := by
  obtain ⟨R, h1, h2⟩ := h.perm
  exact ⟨x :: R, (h1.cons x).trans (List.Perm.swap _ _ _), fun cs' => ((h2 cs').cons x).trans (List.Perm.swap _ _ _)⟩
end Go.Eng
namespace Go.Eng
set_option linter.unusedVariables false
set_option linter.unusedSimpArgs false
open Go Go.RowKit

/-! ### pure -/
theorem okF_i {r : Option Value} {v : Value} {k : Value → Prop} (h : r = some v) (hk : k v) : okF r k := by subst h; exact hk
@[simp] theorem okF_some {v : Value} {k : Value → Prop} : okF (some v) k = k v := rfl
@[simp] theorem gdK_true {A : (Value → World → Prop) → World → Prop} {k : Value → World → Prop} {W : World} : gdK true A k W = A k W := rfl
@[simp] theorem gdK_false {A : (Value → World → Prop) → World → Prop} {k : Value → World → Prop} {W : World} : gdK false A k W = k undef W := rfl
@[simp] theorem wantd_t {b : Bool} : wantd (.bool b) true = b := by cases b <;> rfl
@[simp] theorem wantd_f {b : Bool} : wantd (.bool b) false = !b := by cases b <;> rfl
@[simp] theorem wantd_undef {w : Bool} : wantd undef w = false := rfl
@[simp] theorem ifK_true {A B : Prop} : ifK (.bool true) A B = A := rfl
@[simp] theorem ifK_false {A B : Prop} : ifK (.bool false) A B = B := rfl
theorem ifK_b {b : Bool} {A B : Prop} (ht : b = true → A) (hf : b = false → B) : ifK (.bool b) A B := by cases b; exact hf rfl; exact ht rfl
theorem ifK_d {p : Prop} [Decidable p] {A B : Prop} (ht : p → A) (hf : ¬ p → B) : ifK (.bool (decide p)) A B := by
  by_cases h : p
  · rw [decide_eq_true h]; exact ht h
  · rw [decide_eq_false h]; exact hf h
theorem gdK_b {b : Bool} {A : (Value → World → Prop) → World → Prop} {k : Value → World → Prop} {W : World} (ht : b = true → A k W) (hf : b = false → k undef W) : gdK b A k W := by
  cases b; exact hf rfl; exact ht rfl
@[simp] theorem pickP_true {a b : Value} : pickP (.bool true) a b = some a := rfl
@[simp] theorem pickP_false {a b : Value} : pickP (.bool false) a b = some b := rfl
theorem pickP_bool {c a b : Bool} : pickP (.bool c) (.bool a) (.bool b) = some (.bool (if c then a else b)) := by cases c <;> rfl
theorem intB (a b : Int) : (a == b) = decide (a = b) := rfl
theorem boolB (a b : Bool) : (a == b) = decide (a = b) := by cases a <;> cases b <;> rfl
section ints
variable {k : IntKind} {a b : Int}
@[simp] theorem binP_add : binP .add (.int k a) (.int k b) = some (.int k (k.wrap (a + b))) := by simp [binP]
@[simp] theorem binP_sub : binP .sub (.int k a) (.int k b) = some (.int k (k.wrap (a - b))) := by simp [binP]
@[simp] theorem binP_mul : binP .mul (.int k a) (.int k b) = some (.int k (k.wrap (a * b))) := by simp [binP]
@[simp] theorem binP_eql : binP .eql (.int k a) (.int k b) = some (.bool (decide (a = b))) := by simp [binP, intB]
@[simp] theorem binP_neq : binP .neq (.int k a) (.int k b) = some (.bool (!decide (a = b))) := by simp [binP, bne, intB]
@[simp] theorem binP_lss : binP .lss (.int k a) (.int k b) = some (.bool (decide (a < b))) := by simp [binP]
@[simp] theorem binP_leq : binP .leq (.int k a) (.int k b) = some (.bool (decide (a ≤ b))) := by simp [binP]
@[simp] theorem binP_gtr : binP .gtr (.int k a) (.int k b) = some (.bool (decide (b < a))) := by simp [binP]
@[simp] theorem binP_geq : binP .geq (.int k a) (.int k b) = some (.bool (decide (b ≤ a))) := by simp [binP]
@[simp] theorem binP_and : binP .and (.int k a) (.int k b) = some (.int k (k.wrap (BitVec.ofInt k.bits a &&& BitVec.ofInt k.bits b).toNat)) := by simp [binP]
@[simp] theorem binP_or : binP .or (.int k a) (.int k b) = some (.int k (k.wrap (BitVec.ofInt k.bits a ||| BitVec.ofInt k.bits b).toNat)) := by simp [binP]
@[simp] theorem binP_xor : binP .xor (.int k a) (.int k b) = some (.int k (k.wrap (BitVec.ofInt k.bits a ^^^ BitVec.ofInt k.bits b).toNat)) := by simp [binP]
@[simp] theorem binP_andNot : binP .andNot (.int k a) (.int k b) = some (.int k (k.wrap (BitVec.ofInt k.bits a &&& ~~~(BitVec.ofInt k.bits b)).toNat)) := by simp [binP]
theorem binP_quo (h : b ≠ 0) : binP .quo (.int k a) (.int k b) = some (.int k (k.wrap (a.tdiv b))) := by simp [binP, h]
theorem binP_rem (h : b ≠ 0) : binP .rem (.int k a) (.int k b) = some (.int k (a.tmod b)) := by simp [binP, h]
theorem binP_shl {k' : IntKind} (h : 0 ≤ b) : binP .shl (.int k a) (.int k' b) = some (.int k (k.wrap (a * 2 ^ (min b.toNat k.bits)))) := by simp [binP, show ¬ b < 0 by omega]
theorem binP_shr {k' : IntKind} (h : 0 ≤ b) : binP .shr (.int k a) (.int k' b) = some (.int k (a.fdiv (2 ^ (min b.toNat k.bits)))) := by simp [binP, show ¬ b < 0 by omega]
@[simp] theorem unP_neg : unP .neg (.int k a) = some (.int k (k.wrap (0 - a))) := rfl
@[simp] theorem unP_not {c : Bool} : unP .not (.bool c) = some (.bool !c) := rfl
@[simp] theorem cvtP_int {k' : IntKind} : cvtP (.int k') (.int k a) = some (.int k' (k'.wrap a)) := rfl
@[simp] theorem cvtP_string {s : ByteArray} : cvtP .string (.string s) = some (.string s) := rfl
end ints
section strs
variable {s t : ByteArray}
theorem baB (a b : ByteArray) : (a == b) = decide (a = b) := by
  have : (a == b) = true ↔ a = b := by
    cases a with | mk d => cases b with | mk e =>
    show (d == e) = true ↔ _
    simp
  by_cases h : a = b
  · rw [decide_eq_true h]; exact this.2 h
  · rw [decide_eq_false h]; cases hb : (a == b) with | false => rfl | true => exact absurd (this.1 hb) h
theorem baL (a b : ByteArray) : (a.toList == b.toList) = decide (a = b) := by
  by_cases h : a = b
  · subst h; simp
  · rw [decide_eq_false h]
    cases hb : (a.toList == b.toList) with
    | false => rfl
    | true =>
      rw [beq_iff_eq, ByteArray.toList_eq, ByteArray.toList_eq] at hb
      exact absurd (ByteArray.ext (Array.toList_inj.1 hb)) h
@[simp] theorem binPs_eql : binP .eql (.string s) (.string t) = some (.bool (decide (s = t))) := by
  have : binP .eql (.string s) (.string t) = some (.bool (s.toList == t.toList)) := rfl
  rw [this, baL]
@[simp] theorem binPs_neq : binP .neq (.string s) (.string t) = some (.bool !decide (s = t)) := by
  have : binP .neq (.string s) (.string t) = some (.bool !(s.toList == t.toList)) := rfl
  rw [this, baL]
@[simp] theorem lenP_string : lenP .string (.string s) = some (.int .i64 s.size) := rfl
end strs
@[simp] theorem lenP_slice {e : TypeId} {a : Option Addr} {n c : Nat} : lenP (.slice e) (.slice a n c) = some (.int .i64 n) := rfl
@[simp] theorem capP_slice {e : TypeId} {a : Option Addr} {n c : Nat} : capP (.slice e) (.slice a n c) = some (.int .i64 c) := rfl
@[simp] theorem lenP_array {e : TypeId} {n : Nat} {v : Value} : lenP (.array n e) v = some (.int .i64 n) := by cases v <;> rfl
@[simp] theorem addrF_ptr {off : Nat} {a : Addr} : addrF off (.pointer (some a)) = some (.pointer (some (a.add off))) := rfl
@[simp] theorem nilP_ptr {a : Addr} : nilP (.pointer (some a)) = some (.pointer (some a)) := rfl
theorem add_none (b o n : Nat) : (⟨b, o, none⟩ : Addr).add n = ⟨b, o + n, none⟩ := by unfold Addr.add; split <;> simp_all
@[simp] theorem addrF_blk {off b o : Nat} : addrF off (.pointer (some ⟨b, o, none⟩)) = some (.pointer (some ⟨b, o + off, none⟩)) := by rw [addrF_ptr, add_none]
theorem idxS_blk {sz b o n c : Nat} {k : IntKind} {i : Int} (h0 : 0 ≤ i) (h1 : i < n) : idxS sz (.slice (some ⟨b, o, none⟩) n c) (.int k i) = some (.pointer (some ⟨b, o + i.toNat * sz, none⟩)) := by
  simp [idxS, h0, h1, add_none]
theorem idxA_blk {len sz b o : Nat} {k : IntKind} {i : Int} (h0 : 0 ≤ i) (h1 : i < len) : idxA len sz (.pointer (some ⟨b, o, none⟩)) (.int k i) = some (.pointer (some ⟨b, o + i.toNat * sz, none⟩)) := by
  simp [idxA, h0, h1, add_none]
@[simp] theorem extP_0 {a : Value} {l : List Value} : extP 0 (.tuple (a :: l).toArray) = some a := by simp [extP]
@[simp] theorem extP_1 {a b : Value} {l : List Value} : extP 1 (.tuple (a :: b :: l).toArray) = some b := by simp [extP]
@[simp] theorem extP_2 {a b c : Value} {l : List Value} : extP 2 (.tuple (a :: b :: c :: l).toArray) = some c := by simp [extP]
@[simp] theorem extP_3 {a b c d : Value} {l : List Value} : extP 3 (.tuple (a :: b :: c :: d :: l).toArray) = some d := by simp [extP]
@[simp] theorem eqP_nilptr {e : TypeId} {a : Option Addr} : eqP (.pointer e) .eql (.pointer a) (.pointer none) = some (.bool a.isNone) := by cases a <;> rfl
@[simp] theorem neP_nilptr {e : TypeId} {a : Option Addr} : eqP (.pointer e) .neq (.pointer a) (.pointer none) = some (.bool !a.isNone) := by cases a <;> rfl
@[simp] theorem eqP_nilsl {e : TypeId} {a : Option Addr} {n c : Nat} : eqP (.slice e) .eql (.slice a n c) (.slice none 0 0) = some (.bool a.isNone) := by cases a <;> rfl
@[simp] theorem neP_nilsl {e : TypeId} {a : Option Addr} {n c : Nat} : eqP (.slice e) .neq (.slice a n c) (.slice none 0 0) = some (.bool !a.isNone) := by cases a <;> rfl
@[simp] theorem eqP_bool {a b : Bool} : eqP .bool .eql (.bool a) (.bool b) = some (.bool (a == b)) := rfl
@[simp] theorem neP_bool {a b : Bool} : eqP .bool .neq (.bool a) (.bool b) = some (.bool !(a == b)) := rfl

@[simp] theorem nthv_zero {a : Value} {l : List Value} : nthv (a :: l) 0 = a := rfl
@[simp] theorem nthv_succ {a : Value} {l : List Value} {n : Nat} : nthv (a :: l) (n + 1) = nthv l n := rfl
/-! ### types: what the rules ask of a type's row -/
class TyI (P : Program) (t : TypeId) (agg : outParam Bool) (sz : outParam Nat) : Prop where
  ok : ∃ d i, P.underlying t = some d ∧ aggB d = agg ∧ P.info? t = some i ∧ i.size = sz
class TyZ (P : Program) (t : TypeId) (z : outParam Value) : Prop where
  ok : ∃ i, P.info? t = some i ∧ i.zero = some z
class TyS (P : Program) (t : TypeId) (e : outParam TypeId) (sz : outParam Nat) (bytes : outParam Nat) (z : outParam Value) : Prop where
  ok : (∃ i, P.underlying t = some (.slice e) ∧ P.info? e = some i ∧ i.size = sz ∧ i.bytes = bytes ∧ i.zero = some z) ∧ z.cells.size = sz

section
variable {P : Program} {W0 W : World} {L L' : List Asn}

theorem loadCellsFrom_run (a : Addr) (v : Array Value) (hv : ∀ j, j < v.size → W.cell? (a.add j) = v[j]?) : ∀ (n i : Nat) (acc : Array Value), i + n = v.size →
    (loadCellsFrom a i n acc).run P W = .ok (acc ++ v.extract i v.size) W
  | 0, i, acc, h => by
    have : v.extract i v.size = #[] := by apply Array.ext_getElem?; intro j; simp; omega
    simp [loadCellsFrom, this]
  | n + 1, i, acc, h => by
    have hi : i < v.size := by omega
    have hc := hv i hi
    rw [Array.getElem?_eq_getElem hi] at hc
    simp only [loadCellsFrom, Sem.run_bind]
    have hl : (load (a.add i)).run P W = .ok v[i] W := by simp [load, Sem.run, hc]
    rw [hl]
    simp only [Result.andThen_ok]
    rw [loadCellsFrom_run a v hv n (i + 1) _ (by omega)]
    congr 1
    apply Array.ext_getElem?
    intro j
    simp only [Array.getElem?_append, Array.size_push, Array.getElem?_push, Array.getElem?_extract]
    by_cases h1 : j < acc.size
    · simp [h1, show j < acc.size + 1 by omega, show ¬ j = acc.size by omega]
    · by_cases h2 : j = acc.size
      · subst h2; simp [hi]; omega
      · have h3 : ¬ j < acc.size + 1 := by omega
        simp only [h1, h3, if_false]
        have h4 : i + (j - acc.size) = i + 1 + (j - (acc.size + 1)) := by omega
        rw [h4]
        by_cases h5 : j - acc.size < v.size - i
        · rw [if_pos (by omega), if_pos (by omega)]
        · rw [if_neg (by omega), if_neg (by omega)]

theorem loadCells_run (a : Addr) (v : Array Value) (hv : ∀ j, j < v.size → W.cell? (a.add j) = v[j]?) : (loadCells a v.size).run P W = .ok v W := by
  unfold loadCells
  rw [loadCellsFrom_run a v hv v.size 0 #[] (by omega)]
  congr 1
  apply Array.ext_getElem?; intro j; simp

/-- a place of a list, some places of a list, without a bound's test -/
def lget : List Value → Nat → Option Value
  | [], _ => none
  | v :: _, 0 => some v
  | _ :: l, n + 1 => lget l n
def lsub : List Value → Nat → Nat → List Value
  | _, 0, 0 => []
  | [], _, _ => []
  | v :: l, 0, n + 1 => v :: lsub l 0 n
  | _ :: l, o + 1, n => lsub l o n
theorem lget_eq : ∀ (l : List Value) (n : Nat), lget l n = l[n]?
  | [], n => by simp [lget]
  | v :: l, 0 => rfl
  | v :: l, n + 1 => by simp [lget, lget_eq l n]
theorem lsub_eq : ∀ (l : List Value) (o n : Nat), lsub l o n = (l.drop o).take n
  | [], 0, 0 => rfl
  | _ :: _, 0, 0 => by simp [lsub]
  | [], 0, n + 1 => rfl
  | [], o + 1, n => by cases n <;> rfl
  | v :: l, 0, n + 1 => by simp [lsub, lsub_eq l 0 n]
  | v :: l, o + 1, n => by cases n <;> simp [lsub, lsub_eq l o]
theorem fldV_f {l : List Value} {n sz : Nat} : fldV false n sz (.agg l.toArray) = lget l n := by simp [fldV, partV, lget_eq]
theorem fldV_t {l : List Value} {n sz : Nat} : fldV true n sz (.agg l.toArray) = some (.agg (lsub l n sz).toArray) := by
  simp only [fldV, partV, lsub_eq]
  congr 2
  simp [List.extract_toArray, List.extract_eq_take_drop]
/-- what a load reads from a row -/
def getL (agg : Bool) (l : List Value) (off sz : Nat) : Option Value := match agg with | true => some (.agg (lsub l off sz).toArray) | false => lget l off
def vcells : Value → List Value
  | .agg cs => cs.toList
  | v => [v]
theorem vcells_eq (v : Value) : v.cells.toList = vcells v := by cases v <;> rfl
theorem vcells_eq' (v : Value) : v.cells = (vcells v).toArray := by rw [← vcells_eq]
@[simp] theorem vcells_agg {l : List Value} : vcells (.agg l.toArray) = l := rfl
@[simp] theorem vcells_int {k : IntKind} {a : Int} : vcells (.int k a) = [.int k a] := rfl
@[simp] theorem vcells_bool {a : Bool} : vcells (.bool a) = [.bool a] := rfl
@[simp] theorem vcells_string {a : ByteArray} : vcells (.string a) = [.string a] := rfl
@[simp] theorem vcells_slice {a : Option Addr} {n c : Nat} : vcells (.slice a n c) = [.slice a n c] := rfl
@[simp] theorem vcells_map {a : Option Nat} : vcells (.map a) = [.map a] := rfl
@[simp] theorem vcells_pointer {a : Option Addr} : vcells (.pointer a) = [.pointer a] := rfl

theorem loadAt_run {t : TypeId} {agg : Bool} {sz : Nat} [ht : TyI P t agg sz] {b off : Nat} {cs : List Value} {v : Value}
    (hc : ∀ j, j < cs.length → W.cell? ⟨b, j, none⟩ = cs[j]?) (hv : getL agg cs off sz = some v) (hsz : agg = true → off + sz ≤ cs.length) : (Instr.loadAt t (.pointer (some ⟨b, off, none⟩))).run P W = .ok v W := by
  obtain ⟨d, i, h1, h2, h3, h4⟩ := ht.ok
  simp only [Instr.loadAt, Instr.sureAddr, pure_bind, loadVar, Sem.run_bind, run_isAgg' h1, Result.andThen_ok, h2]
  cases agg with
  | true =>
    simp only [getL, Option.some.injEq, lsub_eq] at hv
    subst hv
    have hle := hsz rfl
    simp only [if_true, Sem.run_bind, run_sizeOf' h3, Result.andThen_ok, h4]
    have hs : ((cs.drop off).take sz).length = sz := by simp; omega
    have := loadCells_run (P := P) (W := W) ⟨b, off, none⟩ ((cs.drop off).take sz).toArray (fun j hj => by
      rw [add_none]
      simp only [List.size_toArray, hs] at hj
      rw [hc (off + j) (by omega), List.getElem?_toArray, List.getElem?_take_of_lt hj, List.getElem?_drop])
    rw [List.size_toArray, hs] at this
    rw [this]
    simp
  | false =>
    simp only [getL, lget_eq] at hv
    have hlt : off < cs.length := (List.getElem?_eq_some_iff.1 hv).1
    have hcell := hc off hlt
    simp [load, Sem.run, hcell, hv]

theorem St.cellOf {b : Nat} {cs : List Value} {T : TypeId} {L' : List Asn} [hk : Ck b L cs T L'] (h : St W0 L W) (j : Nat) (hj : j < cs.length) : W.cell? ⟨b, j, none⟩ = cs[j]? ∧ W.frozen? ⟨b, j, none⟩ = false := by
  obtain ⟨fr, hf, h⟩ := (h.perm hk.perm).cells
  have := h.blk.2
  exact ⟨by simp [World.cell?, this], by simp only [World.frozen?, this]; exact hf j hj⟩

/-- a load from an owned row -/
theorem ld {t : TypeId} {agg : Bool} {sz : Nat} [TyI P t agg sz] {b off : Nat} {cs : List Value} {T : TypeId} {L' : List Asn} [Ck b L cs T L'] {v : Value} {k : Value → World → Prop}
    (h : St W0 L W) (hv : getL agg cs off sz = some v) (hsz : agg = true → off + sz ≤ cs.length) (hk : k v W) : rdK P (Instr.loadAt t (.pointer (some ⟨b, off, none⟩))) k W :=
  ⟨v, loadAt_run (fun j hj => (h.cellOf j hj).1) hv hsz, hk⟩
theorem ldx {t : TypeId} {agg : Bool} {sz : Nat} [TyI P t agg sz] {b off : Nat} {cs : List Value} {T : TypeId} {L' : List Asn} [Ck b L cs T L'] {k : Value → World → Prop}
    (h : St W0 L W) (hsz : agg = true → off + sz ≤ cs.length) (hk : ∃ v, getL agg cs off sz = some v ∧ k v W) : rdK P (Instr.loadAt t (.pointer (some ⟨b, off, none⟩))) k W :=
  let ⟨v, hv, hk⟩ := hk
  ⟨v, loadAt_run (fun j hj => (h.cellOf j hj).1) hv hsz, hk⟩
theorem ld_run {t : TypeId} {agg : Bool} {sz : Nat} [TyI P t agg sz] {b off : Nat} {cs : List Value} {T : TypeId} {L' : List Asn} [Ck b L cs T L'] {v : Value}
    (h : St W0 L W) (hv : getL agg cs off sz = some v) (hsz : agg = true → off + sz ≤ cs.length) : (Instr.loadAt t (.pointer (some ⟨b, off, none⟩))).run P W = .ok v W :=
  loadAt_run (fun j hj => (h.cellOf j hj).1) hv hsz

/-! ### what was there -/
def ro (W : World) (b o : Nat) (cs : List Value) : Prop := ∀ j, j < cs.length → W.cell? ⟨b, o + j, none⟩ = cs[j]?
theorem loadAt_ro {t : TypeId} {agg : Bool} {sz : Nat} [ht : TyI P t agg sz] {b o j : Nat} {cs : List Value} {v : Value} (h : St W0 L W)
    (hr : ro W0 b o cs) (hv : getL agg cs j sz = some v) (hsz : agg = true → j + sz ≤ cs.length) : (Instr.loadAt t (.pointer (some ⟨b, o + j, none⟩))).run P W = .ok v W := by
  obtain ⟨d, i, h1, h2, h3, h4⟩ := ht.ok
  have hc : ∀ j, j < cs.length → W.cell? ⟨b, o + j, none⟩ = cs[j]? := fun j hj => by
    have h0 := hr j hj
    have hlt : b < W0.heap.size := by
      rw [List.getElem?_eq_getElem hj] at h0
      apply Classical.byContradiction
      intro hn
      simp [World.cell?, Array.getElem?_eq_none (show W0.heap.size ≤ b by omega)] at h0
    rw [h.below.cell hlt]; exact h0
  simp only [Instr.loadAt, Instr.sureAddr, pure_bind, loadVar, Sem.run_bind, run_isAgg' h1, Result.andThen_ok, h2]
  cases agg with
  | true =>
    simp only [getL, Option.some.injEq, lsub_eq] at hv
    subst hv
    have hle := hsz rfl
    simp only [if_true, Sem.run_bind, run_sizeOf' h3, Result.andThen_ok, h4]
    have hs : ((cs.drop j).take sz).length = sz := by simp; omega
    have := loadCells_run (P := P) (W := W) ⟨b, o + j, none⟩ ((cs.drop j).take sz).toArray (fun k hk => by
      rw [add_none]
      simp only [List.size_toArray, hs] at hk
      rw [Nat.add_assoc, hc (j + k) (by omega), List.getElem?_toArray, List.getElem?_take_of_lt hk, List.getElem?_drop])
    rw [List.size_toArray, hs] at this
    rw [this]
    simp
  | false =>
    simp only [getL, lget_eq] at hv
    have hlt : j < cs.length := (List.getElem?_eq_some_iff.1 hv).1
    have hcell := hc j hlt
    simp [load, Sem.run, hcell, hv]
theorem ldr {t : TypeId} {agg : Bool} {sz : Nat} [ht : TyI P t agg sz] {b o j : Nat} {cs : List Value} {k : Value → World → Prop} (h : St W0 L W)
    (hr : ro W0 b o cs) (hsz : agg = true → j + sz ≤ cs.length) (hk : ∃ v, getL agg cs j sz = some v ∧ k v W) : rdK P (Instr.loadAt t (.pointer (some ⟨b, o + j, none⟩))) k W :=
  let ⟨v, hv, hk⟩ := hk
  ⟨v, loadAt_ro h hr hv hsz, hk⟩
theorem ldr0 {t : TypeId} {agg : Bool} {sz : Nat} [ht : TyI P t agg sz] {b o : Nat} {cs : List Value} {k : Value → World → Prop} (h : St W0 L W)
    (hr : ro W0 b o cs) (hsz : agg = true → 0 + sz ≤ cs.length) (hk : ∃ v, getL agg cs 0 sz = some v ∧ k v W) : rdK P (Instr.loadAt t (.pointer (some ⟨b, o, none⟩))) k W :=
  ldr (j := 0) h hr hsz hk
theorem ldr_run0 {t : TypeId} {agg : Bool} {sz : Nat} [ht : TyI P t agg sz] {b o : Nat} {cs : List Value} {v : Value} (h : St W0 L W)
    (hr : ro W0 b o cs) (hv : getL agg cs 0 sz = some v) (hsz : agg = true → 0 + sz ≤ cs.length) : (Instr.loadAt t (.pointer (some ⟨b, o, none⟩))).run P W = .ok v W := loadAt_ro (j := 0) h hr hv hsz
/-- a new variable -/
theorem bx {t : TypeId} {v : Value} {k : Value → World → Prop} (h : St W0 L W) (hk : ∀ b W', St W0 (cells b (vcells v) t :: L) W' → k (.pointer (some ⟨b, 0, none⟩)) W') : efK P (Instr.box t v) k W :=
  ⟨.pointer (some ⟨W.heap.size, 0, none⟩), W.alloc (.cells (vcells v).toArray t), by rw [← vcells_eq']; rfl, hk W.heap.size _ (h.allocCells (vcells v) t)⟩
theorem bxa {t : TypeId} {cs : List Value} {k : Value → World → Prop} (h : St W0 L W) (hk : ∀ b W', St W0 (cells b cs t :: L) W' → k (.pointer (some ⟨b, 0, none⟩)) W') : efK P (Instr.box t (.agg cs.toArray)) k W := bx h hk
theorem bxi {t : TypeId} {ik : IntKind} {n : Int} {k : Value → World → Prop} (h : St W0 L W) (hk : ∀ b W', St W0 (cells b [.int ik n] t :: L) W' → k (.pointer (some ⟨b, 0, none⟩)) W') : efK P (Instr.box t (.int ik n)) k W := bx h hk
theorem al {t : TypeId} {z : Value} [ht : TyZ P t z] {k : Value → World → Prop} (h : St W0 L W) (hk : ∀ b W', St W0 (cells b (vcells z) t :: L) W' → k (.pointer (some ⟨b, 0, none⟩)) W') : efK P (Instr.alloc t true (.tuple #[])) k W := by
  obtain ⟨i, h1, h2⟩ := ht.ok
  refine ⟨.pointer (some ⟨W.heap.size, 0, none⟩), _, ?_, hk W.heap.size _ (h.allocCells (vcells z) t)⟩
  simp only [Instr.alloc, Sem.run_bind, run_zeroValue' h1 h2, Result.andThen_ok]
  rw [← vcells_eq']
  rfl
/-- a slice of so many -/
theorem bs {t e : TypeId} {sz by' : Nat} {z : Value} [ht : TyS P t e sz by' z] {n : Nat} {ps : List (Nat × Value)} {cs : List Value} {k : Value → World → Prop} (h : St W0 L W) (hn : n * sz ≤ 16777216) (hn0 : n * sz ≠ 0)
    (hc : fillL (fun i => some (i * sz, sz)) ((List.range (n * sz)).map fun i => ((vcells z)[i % (vcells z).length]?).getD undef) ps = some cs)
    (hk : ∀ b W', St W0 (cells b cs e :: L) W' → k (.slice (some ⟨b, 0, none⟩) n n) W') : efK P (Instr.buildSlice t n ps.toArray) k W := by
  obtain ⟨⟨i, h1, h2, h3, h4, h5⟩, hzz⟩ := ht.ok
  subst h3
  refine ⟨.slice (some ⟨W.heap.size, 0, none⟩) n n, _, ?_, hk W.heap.size _ (h.allocCells cs e)⟩
  rw [← vcells_eq] at hc
  have hz : z.cells.size = i.size → ((List.range (n * i.size)).map fun j => (z.cells.toList[j % z.cells.toList.length]?).getD undef).toArray = (Array.range (n * i.size)).map (z.cells[· % z.cells.size]!) := by
    intro hzs
    apply Array.ext_getElem?
    intro j
    simp only [List.getElem?_toArray, List.getElem?_map, Array.getElem?_map, Array.length_toList]
    by_cases hj : j < n * i.size
    · have hpos : 0 < z.cells.size := by rw [hzs]; exact Nat.pos_of_ne_zero fun h => by rw [h] at hj; simp at hj
      have hm : j % z.cells.size < z.cells.size := Nat.mod_lt _ hpos
      simp [hj, hm]
    · simp [hj]
  have hf := fillL_run _ _ _ _ hc
  rw [hz hzz] at hf
  simp only [Instr.buildSlice, Sem.run_bind, run_underlying h1, Result.andThen_ok, run_sizeOf' h2]
  rw [if_neg (by omega), if_neg hn0]
  simp only [pure_bind, Sem.run_bind, run_zeroValue' h2 h5, Result.andThen_ok, Sem.run_pure, hf]
  rfl

/-- the cells from some place on, others -/
def stL : List Value → Nat → List Value → List Value
  | cs, 0, [] => cs
  | [], _, _ => []
  | _ :: cs, 0, v :: vs => v :: stL cs 0 vs
  | c :: cs, o + 1, vs => c :: stL cs o vs
theorem stL_nil : ∀ (cs : List Value) (o : Nat), stL cs o [] = cs
  | [], 0 => rfl
  | _ :: _, 0 => by simp [stL]
  | [], o + 1 => rfl
  | c :: cs, o + 1 => by simp [stL, stL_nil cs o]
@[simp] theorem stL_len : ∀ (cs : List Value) (o : Nat) (vs : List Value), (stL cs o vs).length = cs.length
  | [], 0, [] => rfl
  | _ :: _, 0, [] => by simp [stL]
  | [], 0, _ :: _ => rfl
  | [], o + 1, vs => by cases vs <;> rfl
  | _ :: cs, 0, v :: vs => by simp [stL, stL_len cs 0 vs]
  | c :: cs, o + 1, vs => by cases vs <;> simp [stL, stL_len cs o]
theorem stL_set : ∀ (cs : List Value) (o : Nat) (u : Value) (vs : List Value), o < cs.length → stL (cs.set o u) (o + 1) vs = stL cs o (u :: vs)
  | [], o, u, vs, h => by simp at h
  | c :: cs, 0, u, vs, _ => by cases vs <;> simp [stL]
  | c :: cs, o + 1, u, vs, h => by simp only [List.set_cons_succ, stL]; rw [stL_set cs o u vs (by simpa using h)]

def oneC (u : Value) : Bool := match u with | .agg _ => false | .tuple _ => false | _ => true

theorem store_run {a : Addr} {u x : Value} (hu : oneC u = true) (hc : W.cell? a = some x) (hf : W.frozen? a = false) : (store a u).run P W = .ok () (W.setCell a u) := by
  unfold store
  cases u <;> first
    | (simp [oneC] at hu; done)
    | simp [Sem.run, hc, hf]

theorem setCell_blk {b o : Nat} {cs : List Value} {T : TypeId} {fr : Nat × Nat} {u : Value} (h : W.heap[b]? = some (.cells cs.toArray T fr)) :
    W.setCell ⟨b, o, none⟩ u = { W with heap := W.heap.setIfInBounds b (.cells (cs.set o u).toArray T fr) } := by
  unfold World.setCell
  congr 1
  apply Array.ext_getElem?
  intro j
  rw [Array.getElem?_modify, Array.getElem?_setIfInBounds]
  have hlt : b < W.heap.size := (Array.getElem?_eq_some_iff.1 h).1
  by_cases hj : b = j
  · subst hj
    rw [h]
    simp [hlt]
  · simp [hj]

theorem storeCells_run {b : Nat} {T : TypeId} {L : List Asn} : ∀ (vs : List Value) (off i : Nat) (cs : List Value) (W : World), St W0 (cells b cs T :: L) W → (∀ u ∈ vs, oneC u = true) → off + i + vs.length ≤ cs.length →
    ∃ W', (storeCells ⟨b, off, none⟩ vs i).run P W = .ok () W' ∧ St W0 (cells b (stL cs (off + i) vs) T :: L) W'
  | [], off, i, cs, W, h, _, _ => ⟨W, rfl, by rw [stL_nil]; exact h⟩
  | u :: vs, off, i, cs, W, h, hu, hl => by
    simp only [List.length_cons] at hl
    obtain ⟨fr, hf, hb⟩ := h.cells
    have hbl := hb.blk.2
    have hlt : off + i < cs.length := by omega
    have hc : W.cell? ⟨b, off + i, none⟩ = some cs[off + i] := by simp [World.cell?, hbl, hlt]
    have hfz : W.frozen? ⟨b, off + i, none⟩ = false := by simp only [World.frozen?, hbl]; exact hf _ hlt
    have hst := setCell_blk (W := W) (o := off + i) (u := u) hbl
    have h' : St W0 (cells b (cs.set (off + i) u) T :: L) (W.setCell ⟨b, off + i, none⟩ u) := by
      rw [hst]
      refine (hb.setBlk _).weak fun p hp => ⟨fr, ?_, hp⟩
      intro j hj
      exact hf j (by simpa using hj)
    obtain ⟨W', h1, h2⟩ := storeCells_run vs off (i + 1) _ _ h' (fun x hx => hu x (List.mem_cons_of_mem _ hx)) (by simp; omega)
    refine ⟨W', ?_, ?_⟩
    · simp only [storeCells, Sem.run_bind, add_none, store_run (P := P) (hu u List.mem_cons_self) hc hfz, Result.andThen_ok, h1]
    · rw [show off + (i + 1) = off + i + 1 from rfl, stL_set _ _ _ _ hlt] at h2
      exact h2

/-- a store into an owned row -/
theorem sto {t : TypeId} {agg : Bool} {sz : Nat} [ht : TyI P t agg sz] {b off : Nat} {cs : List Value} {T : TypeId} {Lf : List Value → List Asn} [hu : Cu b L cs T Lf] {v : Value} {k : Unit → World → Prop}
    (h : St W0 L W) (hsz : (vcells v).length = sz) (ho : off + sz ≤ cs.length) (h1 : (vcells v).all oneC = true)
    (hk : ∀ W', St W0 (Lf (stL cs off (vcells v))) W' → k () W') : efK P (Instr.storeAt t (.pointer (some ⟨b, off, none⟩)) v) k W := by
  obtain ⟨d, i, h2, h3, h4, h5⟩ := ht.ok
  obtain ⟨R, hp, hp'⟩ := hu.perm
  have hall : ∀ u ∈ v.cells.toList, oneC u = true := by
    intro u hu
    rw [vcells_eq] at hu
    exact List.all_eq_true.1 h1 u hu
  have hsz' : v.cells.size = sz := by rw [vcells_eq']; simpa using hsz
  obtain ⟨W', hr, hs⟩ := storeCells_run (P := P) v.cells.toList off 0 cs W (h.perm hp) hall (by simp [hsz']; omega)
  refine ⟨(), W', ?_, hk W' (hs.perm ?_)⟩
  · simp only [Instr.storeAt, Instr.sureAddr, pure_bind, storeVar, Sem.run_bind, run_sizeOf' h4, Result.andThen_ok, h5]
    rw [if_neg (by simp [hsz'])]
    exact hr
  · have := (hp' (stL cs off (vcells v))).symm
    rw [vcells_eq, Nat.add_zero]
    exact this
end

/-! ### promises, loops -/
theorem stb_ld {P : Program} {W0 W : World} {L : List Asn} {t : TypeId} {agg : Bool} {sz : Nat} [TyI P t agg sz] {b off : Nat} {cs : List Value} {T : TypeId} {L' : List Asn} [Ck b L cs T L'] {i : Nat} {bb : Bool} {v : Value} {l : List HoldV} {R : World → Prop}
    (h : St W0 L W) (hv : getL agg cs off sz = some v) (hsz : agg = true → off + sz ≤ cs.length) (hk : stb P l R W) : stb P ((i, bb, Instr.loadAt t (.pointer (some ⟨b, off, none⟩)), v) :: l) R W :=
  ⟨fun _ => ld_run h hv hsz, hk⟩
theorem stb_n {P : Program} {R : World → Prop} {W : World} (h : R W) : stb P [] R W := h
theorem stb_c {P : Program} {i : Nat} {s : Sem Value} {v : Value} {t : List HoldV} {R : World → Prop} {W : World} (h1 : s.run P W = .ok v W) (h : stb P t R W) : stb P ((i, true, s, v) :: t) R W := ⟨fun _ => h1, h⟩
theorem stb_g {P : Program} {i : Nat} {b : Bool} {s : Sem Value} {v : Value} {t : List HoldV} {R : World → Prop} {W : World} (h1 : b = true → s.run P W = .ok v W) (h : stb P t R W) : stb P ((i, b, s, v) :: t) R W := ⟨h1, h⟩
theorem stb_f {P : Program} {i : Nat} {s : Sem Value} {v : Value} {t : List HoldV} {R : World → Prop} {W : World} (h : stb P t R W) : stb P ((i, false, s, v) :: t) R W := ⟨fun h => (nomatch h), h⟩
theorem stb_ldr {P : Program} {W0 W : World} {L : List Asn} {t : TypeId} {agg : Bool} {sz : Nat} [TyI P t agg sz] {b o j : Nat} {cs : List Value} {i : Nat} {bb : Bool} {v : Value} {l : List HoldV} {R : World → Prop}
    (h : St W0 L W) (hr : ro W0 b o cs) (hv : getL agg cs j sz = some v) (hsz : agg = true → j + sz ≤ cs.length) (hk : stb P l R W) : stb P ((i, bb, Instr.loadAt t (.pointer (some ⟨b, o + j, none⟩)), v) :: l) R W :=
  ⟨fun _ => loadAt_ro h hr hv hsz, hk⟩
theorem stb_ldr0 {P : Program} {W0 W : World} {L : List Asn} {t : TypeId} {agg : Bool} {sz : Nat} [TyI P t agg sz] {b o : Nat} {cs : List Value} {i : Nat} {bb : Bool} {v : Value} {l : List HoldV} {R : World → Prop}
    (h : St W0 L W) (hr : ro W0 b o cs) (hv : getL agg cs 0 sz = some v) (hsz : agg = true → 0 + sz ≤ cs.length) (hk : stb P l R W) : stb P ((i, bb, Instr.loadAt t (.pointer (some ⟨b, o, none⟩)), v) :: l) R W :=
  ⟨fun _ => ldr_run0 h hr hv hsz, hk⟩
theorem fillL_nil {place : Nat → Option (Nat × Nat)} {zero : List Value} : fillL place zero [] = some zero := rfl
theorem stL_eq : ∀ (cs : List Value) (o : Nat) (vs : List Value), o + vs.length ≤ cs.length → stL cs o vs = cs.take o ++ vs ++ cs.drop (o + vs.length)
  | cs, o, [], h => by simp [stL_nil]
  | [], o, v :: vs, h => by simp at h
  | c :: cs, 0, v :: vs, h => by
    have := stL_eq cs 0 vs (by simpa using h)
    simp [stL, this]
  | c :: cs, o + 1, v :: vs, h => by
    have := stL_eq cs o (v :: vs) (by simp at h ⊢; omega)
    simp only [stL, this, List.take_succ_cons, List.cons_append, List.length_cons]
    rw [show o + 1 + (vs.length + 1) = (o + (vs.length + 1)) + 1 by omega, List.drop_succ_cons]
theorem fillL_cons {place : Nat → Option (Nat × Nat)} {zero : List Value} {i off size : Nat} {v : Value} {rest : List (Nat × Value)} (hp : place i = some (off, size)) (h1 : (vcells v).length = size) (h2 : off + size ≤ zero.length) :
    fillL place zero ((i, v) :: rest) = fillL place (stL zero off (vcells v)) rest := by
  have h1' : v.cells.size = size := by rw [vcells_eq']; simpa using h1
  simp only [fillL, hp, h1', Nat.beq_refl, Nat.ble_eq_true_of_le h2, Bool.and_self]
  rw [stL_eq _ _ _ (by omega), vcells_eq, h1]
theorem bldP_eq {place : Nat → Option (Nat × Nat)} {zero cs : List Value} {parts : List (Nat × Value)} (h : fillL place zero parts = some cs) : bldP place zero parts = some (.agg cs.toArray) := by
  simp only [bldP, h]
theorem joinK_i {K : List Value → World → Prop} {A : (List Value → World → Prop) → Prop} (h : A K) : joinK K A := h
theorem loop_i {body : (List Value → World → Prop) → List Value → World → Prop} {s : List Value} {W : World} (I : Nat → List Value → World → Prop) (m : Nat) (h0 : I m s W)
    (hr : ∀ m s W, I m s W → body (fun s' W' => ∃ m', m' < m ∧ I m' s' W') s W) : loopK body s W := ⟨I, ⟨m, h0⟩, hr⟩
/-- a loop that counts up to n -/
theorem loop_up {body : (List Value → World → Prop) → List Value → World → Prop} {s : List Value} {W : World} (n : Nat) (I : Nat → List Value → World → Prop) (h0 : I 0 s W)
    (hr : ∀ i s W, i ≤ n → I i s W → body (fun s' W' => i < n ∧ I (i + 1) s' W') s W) (hm : ∀ (K K' : List Value → World → Prop) s W, (∀ s W, K s W → K' s W) → body K s W → body K' s W) : loopK body s W := by
  refine ⟨fun m s W => ∃ i, i ≤ n ∧ m = n - i ∧ I i s W, ⟨n, 0, by omega, by omega, h0⟩, ?_⟩
  rintro m s W ⟨i, hi, rfl, hI⟩
  exact hm _ _ s W (fun s W ⟨hlt, h⟩ => ⟨n - (i + 1), by omega, i + 1, by omega, rfl, h⟩) (hr i s W hi hI)

/-! ### calls -/
section
variable {P : Program} {W0 W W' : World} {L : List Asn}
theorem ca {g : Nat} {args : List Value} {R k : Value → World → Prop} (h : callK P g args R W) (hk : ∀ v W', R v W' → k v W') : callK P g args k W := callK_mono h hk
theorem St.over0 (h : St W0 L W) (h' : St W [] W') : St W0 L W' := by simpa using h.over h'
theorem St.over1 {a : Asn} (h : St W0 L W) (h' : St W [a] W') : St W0 (a :: L) W' := by simpa using h.over h'
theorem St.over2 {a b : Asn} (h : St W0 L W) (h' : St W [a, b] W') : St W0 (a :: b :: L) W' := by simpa using h.over h'
/-- a function that changes nothing and makes nothing that stays, and what it returns -/
class Pure0 (P : Program) (g : Nat) (args : List Value) (v : outParam Value) : Prop where
  ok : ∀ W, callK P g args (fun v' W' => v' = v ∧ St W [] W') W
theorem cp {g : Nat} {args : List Value} {v : Value} [hp : Pure0 P g args v] {k : Value → World → Prop} (h : St W0 L W) (hk : ∀ W', St W0 L W' → k v W') : callK P g args k W :=
  callK_mono (hp.ok W) fun v' W' ⟨e, h'⟩ => by subst e; exact hk W' (by simpa using h.over h')
/-- a method of an owned row -/
class Meth (P : Program) (g : Nat) (b : Nat) (T : TypeId) (cs : List Value) (args : List Value) (v : outParam Value) (cs' : outParam (List Value)) : Prop where
  ok : ∀ W0 L W, St W0 (cells b cs T :: L) W → callK P g (.pointer (some ⟨b, 0, none⟩) :: args) (fun v' W' => v' = v ∧ St W0 (cells b cs' T :: L) W') W
theorem cm {g b : Nat} {T : TypeId} {cs cs' : List Value} {args : List Value} {v : Value} {Lf : List Value → List Asn} {k : Value → World → Prop} (h : St W0 L W) [hu : Cu b L cs T Lf] [hm : Meth P g b T cs args v cs']
    (hk : ∀ W', St W0 (Lf cs') W' → k v W') : callK P g (.pointer (some ⟨b, 0, none⟩) :: args) k W := by
  obtain ⟨R, hp, hp'⟩ := hu.perm
  exact callK_mono (hm.ok W0 R W (h.perm hp)) fun v' W' ⟨e, h'⟩ => by subst e; exact hk W' (h'.perm (hp' _).symm)
/-- a call that makes what it makes and turns nothing -/
theorem St.mk' (h : St W0 L W) {L' : List Asn} (h' : St W L' W') : St W0 (L' ++ L) W' := h.over h'
end
end Go.Eng
namespace Go.Eng
open Go
theorem TyI.mk' {P : Program} {t : TypeId} {agg : Bool} {sz : Nat} (h1 : (P.underlying t).map aggB = some agg) (h2 : (P.info? t).map (·.size) = some sz) : TyI P t agg sz := by
  obtain ⟨d, hd, hd'⟩ := Option.map_eq_some_iff.1 h1
  obtain ⟨i, hi, hi'⟩ := Option.map_eq_some_iff.1 h2
  exact ⟨d, i, hd, hd', hi, hi'⟩
theorem TyZ.mk' {P : Program} {t : TypeId} {z : Value} (h : (P.info? t).map (·.zero) = some (some z)) : TyZ P t z := by
  obtain ⟨i, hi, hi'⟩ := Option.map_eq_some_iff.1 h
  exact ⟨i, hi, hi'⟩
theorem TyS.mk' {P : Program} {t e : TypeId} {sz by' : Nat} {z : Value} (h1 : P.underlying t = some (.slice e)) (h : (P.info? e).map (fun i => (i.size, i.bytes, i.zero)) = some (sz, by', some z)) (h2 : z.cells.size = sz) : TyS P t e sz by' z := by
  obtain ⟨i, hi, hi'⟩ := Option.map_eq_some_iff.1 h
  simp only [Prod.mk.injEq] at hi'
  exact ⟨⟨i, h1, hi, hi'.1, hi'.2.1, hi'.2.2⟩, h2⟩
end Go.Eng
namespace Go.Eng
set_option linter.unusedVariables false
set_option linter.unusedSimpArgs false
open Go Go.RowKit

/-! ### entailment of chunk lists -/
def ent (L L' : List Asn) : Prop := ∀ p, sep L p → sep L' p
theorem ent.refl (L : List Asn) : ent L L := fun _ h => h
theorem ent.trans {L L' L'' : List Asn} (h : ent L L') (h' : ent L' L'') : ent L L'' := fun p hp => h' p (h p hp)
theorem ent.cons {L L' : List Asn} (x : Asn) (h : ent L L') : ent (x :: L) (x :: L') := fun _ ⟨h1, h2, hd, hj, ha, hl⟩ => ⟨h1, h2, hd, hj, ha, h _ hl⟩
theorem ent.perm {L L' : List Asn} (h : L.Perm L') : ent L L' := fun _ hp => sep_perm h hp
theorem ent.weak {L : List Asn} {a a' : Asn} (h : ∀ p, a p → a' p) : ent (a :: L) (a' :: L) := fun _ ⟨h1, h2, hd, hj, ha, hl⟩ => ⟨h1, h2, hd, hj, h _ ha, hl⟩
theorem ent.swap (a b : Asn) (L : List Asn) : ent (a :: b :: L) (b :: a :: L) := fun _ h => sep_swap h
theorem ent.rot3 (a b c : Asn) (L : List Asn) : ent (a :: b :: c :: L) (b :: c :: a :: L) := (ent.swap a b _).trans (ent.cons b (ent.swap a c L))
theorem ent.rot3' (a b c : Asn) (L : List Asn) : ent (a :: b :: c :: L) (c :: a :: b :: L) := (ent.cons a (ent.swap b c L)).trans (ent.swap a c _)
theorem ent.rev3 (a b c : Asn) (L : List Asn) : ent (a :: b :: c :: L) (c :: b :: a :: L) := (ent.rot3 a b c L).trans (ent.swap b c _)
theorem ent.emp {L : List Asn} {a : Asn} (h : a fun _ => none) : ent L (a :: L) := fun p hp =>
  ⟨fun _ => none, p, fun x => .inl rfl, by funext x; simp [PH.join], h, hp⟩
theorem ent.pack (l L : List Asn) : ent (l ++ L) (sep l :: L) := fun _ hp => by
  obtain ⟨h1, h2, hd, hj, h3, h4⟩ := sep_append.1 hp
  exact ⟨h1, h2, hd, hj, h3, h4⟩
theorem ent.flat (l L : List Asn) : ent (sep l :: L) (l ++ L) := fun _ ⟨h1, h2, hd, hj, h3, h4⟩ => sep_append.2 ⟨h1, h2, hd, hj, h3, h4⟩
theorem St.ent {W0 W : World} {L L' : List Asn} (h : St W0 L W) (he : Eng.ent L L') : St W0 L' W := by
  obtain ⟨hb, p, hs, ho⟩ := h
  exact ⟨hb, p, he _ hs, ho⟩

/-! ### how a thing lies in cells -/
structure Ly (α : Type) where
  sz : Nat
  pos : 0 < sz
  row : α → List Value
  len : ∀ a, (row a).length = sz
  one : ∀ a, (row a).all oneC = true
def Ly.rows {α : Type} (A : Ly α) (l : List α) : List Value := l.flatMap A.row
section
variable {α : Type} {A : Ly α}
@[simp] theorem Ly.rows_nil : A.rows [] = [] := rfl
theorem Ly.rows_cons {a : α} {l : List α} : A.rows (a :: l) = A.row a ++ A.rows l := by simp [Ly.rows]
theorem Ly.rows_app {l m : List α} : A.rows (l ++ m) = A.rows l ++ A.rows m := by simp [Ly.rows]
theorem Ly.rows_len {l : List α} : (A.rows l).length = l.length * A.sz := by
  induction l with
  | nil => simp
  | cons a l ih => rw [Ly.rows_cons, List.length_append, ih, A.len, List.length_cons, Nat.succ_mul, Nat.add_comm]
theorem Ly.rows_drop {l : List α} : ∀ k, (A.rows l).drop (k * A.sz) = A.rows (l.drop k) := by
  induction l with
  | nil => simp
  | cons a l ih =>
    intro k
    cases k with
    | zero => simp
    | succ k =>
      rw [Ly.rows_cons, Nat.succ_mul, Nat.add_comm, ← List.drop_drop, List.drop_left' (A.len a), ih]
      rfl
theorem Ly.rows_take {l : List α} : ∀ k, (A.rows l).take (k * A.sz) = A.rows (l.take k) := by
  induction l with
  | nil => simp
  | cons a l ih =>
    intro k
    cases k with
    | zero => simp
    | succ k =>
      rw [Ly.rows_cons, Nat.succ_mul, Nat.add_comm, List.take_add, List.take_left' (A.len a), List.drop_left' (A.len a), ih, List.take_succ_cons, Ly.rows_cons]
theorem Ly.rows_at {l : List α} {i : Nat} (hi : i < l.length) : ((A.rows l).drop (i * A.sz)).take A.sz = A.row l[i] := by
  rw [Ly.rows_drop, List.drop_eq_getElem_cons hi, Ly.rows_cons, List.take_left' (A.len _)]
theorem Ly.rows_one {l : List α} : (A.rows l).all oneC = true := by
  induction l with
  | nil => rfl
  | cons a l ih => rw [Ly.rows_cons, List.all_append, A.one, ih]; rfl
theorem Ly.rows_set {l : List α} {i : Nat} {x : α} (hi : i < l.length) : A.rows (l.set i x) = (A.rows l).take (i * A.sz) ++ A.row x ++ (A.rows l).drop (i * A.sz + A.sz) := by
  rw [List.set_eq_take_append_cons_drop, if_pos hi, Ly.rows_app, Ly.rows_cons, ← Ly.rows_take, ← Nat.succ_mul, Ly.rows_drop, List.append_assoc]
end

/-- a slice that is owned: the cells of its array, of which the first are what it holds -/
def arr {α : Type} (A : Ly α) (e : TypeId) (a : Option Addr) (c : Nat) (l : List α) : Asn := fun p =>
  l.length ≤ c ∧ c ≤ maxLen ∧ ((a = none ∧ c = 0 ∧ ∀ x, p x = none) ∨
    ∃ g o cur, a = some ⟨g, o, none⟩ ∧ o + c * A.sz ≤ cur.length ∧ (cur.drop o).take (l.length * A.sz) = A.rows l ∧ cells g cur e p)

section
variable {α : Type} {A : Ly α} {P : Program} {W0 W W' : World} {L L' : List Asn} {e : TypeId} {a : Option Addr} {c : Nat} {l : List α}

theorem arr_nil (A : Ly α) (e : TypeId) : ent L (arr A e none 0 [] :: L) := ent.emp ⟨Nat.le_refl _, Nat.zero_le _, .inl ⟨rfl, rfl, fun _ => rfl⟩⟩
theorem St.arrFacts (h : St W0 (arr A e a c l :: L) W) : l.length ≤ c ∧ c ≤ maxLen ∧ (a = none → c = 0) ∧ (0 < c → ∃ g o, a = some ⟨g, o, none⟩) := by
  obtain ⟨hb, p, ⟨h1, h2, hd, hj, ⟨h3, h4, h5⟩, hl⟩, ho⟩ := h
  refine ⟨h3, h4, ?_, ?_⟩
  · rintro rfl
    rcases h5 with ⟨_, h, _⟩ | ⟨g, o, cur, h, _⟩
    · exact h
    · cases h
  · intro hc
    rcases h5 with ⟨_, h, _⟩ | ⟨g, o, cur, h, _⟩
    · omega
    · exact ⟨g, o, h⟩
theorem St.arrCells (h : St W0 (arr A e a c l :: L) W) (hc : a ≠ none) : ∃ g o cur, a = some ⟨g, o, none⟩ ∧ o + c * A.sz ≤ cur.length ∧ (cur.drop o).take (l.length * A.sz) = A.rows l ∧ St W0 (Eng.cells g cur e :: L) W := by
  obtain ⟨hb, p, ⟨h1, h2, hd, hj, ⟨h3, h4, h5⟩, hl⟩, ho⟩ := h
  rcases h5 with ⟨h, _, _⟩ | ⟨g, o, cur, h6, h7, h8, h9⟩
  · exact absurd h hc
  · exact ⟨g, o, cur, h6, h7, h8, hb, p, ⟨h1, h2, hd, hj, h9, hl⟩, ho⟩
theorem arr_of_cells {g o : Nat} {cur : List Value} (h1 : l.length ≤ c) (h2 : c ≤ maxLen) (h3 : o + c * A.sz ≤ cur.length) (h4 : (cur.drop o).take (l.length * A.sz) = A.rows l) :
    ent (Eng.cells g cur e :: L) (arr A e (some ⟨g, o, none⟩) c l :: L) := ent.weak fun p hp => ⟨h1, h2, .inr ⟨g, o, cur, rfl, h3, h4, hp⟩⟩
theorem arr_full {g : Nat} {l : List α} (h2 : l.length ≤ maxLen) : ent (Eng.cells g (A.rows l) e :: L) (arr A e (some ⟨g, 0, none⟩) l.length l :: L) :=
  arr_of_cells (Nat.le_refl _) h2 (by rw [Ly.rows_len]; omega) (by rw [List.drop_zero, ← Ly.rows_len, List.take_length])
/-- a cut of an owned slice: the rest of the array is let go -/
theorem arr_cut (lo hi m : Nat) (h1 : lo ≤ hi) (h2 : hi ≤ l.length) (h3 : hi ≤ m) (h4 : m ≤ c) : ∀ p, arr A e a c l p → arr A e (if m = lo then a else a.map (·.add (lo * A.sz))) (m - lo) ((l.take hi).drop lo) p := by
  rintro p ⟨h5, h6, h7⟩
  refine ⟨by simp; omega, by omega, ?_⟩
  rcases h7 with ⟨rfl, rfl, h7⟩ | ⟨g, o, cur, rfl, h8, h9, h10⟩
  · exact .inl ⟨by split <;> rfl, by omega, h7⟩
  · have hrow : ∀ k n, k + n ≤ l.length → (cur.drop (o + k * A.sz)).take (n * A.sz) = A.rows ((l.take (k + n)).drop k) := by
      intro k n hk
      have e1 : (cur.drop o).take ((k + n) * A.sz) = A.rows (l.take (k + n)) := by
        rw [← Ly.rows_take, ← h9, List.take_take, Nat.min_eq_left (Nat.mul_le_mul_right _ hk)]
      rw [← Ly.rows_drop, ← e1, List.drop_take, List.drop_drop, Nat.add_mul, Nat.add_sub_cancel_left]
    have hlen : ((l.take hi).drop lo).length = hi - lo := by simp; omega
    by_cases hm : m = lo
    · rw [if_pos hm]
      refine .inr ⟨g, o, cur, rfl, ?_, ?_, h10⟩
      · subst hm; simp; omega
      · rw [hlen, show hi - lo = 0 by omega]
        rw [show (l.take hi).drop lo = [] from List.eq_nil_of_length_eq_zero (by omega)]
        simp
    · rw [if_neg hm]
      refine .inr ⟨g, o + lo * A.sz, cur, by simp [add_none], ?_, ?_, h10⟩
      · have : (m - lo) * A.sz + lo * A.sz = m * A.sz := by rw [← Nat.add_mul]; congr 1; omega
        have := Nat.mul_le_mul_right A.sz h4
        omega
      · rw [hlen]
        have := hrow lo (hi - lo) (by omega)
        rw [show lo + (hi - lo) = hi by omega] at this
        exact this

/-! ### what may be read -/
def RdP (W0 : World) (L : List Asn) (a : Option Addr) (xs : List Value) : Prop := ∀ W, St W0 L W → xs = [] ∨ ∃ g o, a = some ⟨g, o, none⟩ ∧ ro W g o xs
class Rd (W0 : World) (L : List Asn) (a : Option Addr) {α : outParam Type} (A : outParam (Ly α)) (l : outParam (List α)) : Prop where
  ok : RdP W0 L a (A.rows l)
theorem ro_cells {W0 W : World} {L : List Asn} {g : Nat} {cur : List Value} {e : TypeId} (h : St W0 (Eng.cells g cur e :: L) W) (o : Nat) : ro W g o (cur.drop o) := by
  intro j hj
  simp only [List.length_drop] at hj
  rw [(St.cellOf (L' := L) (b := g) (cs := cur) (T := e) h (o + j) (by omega)).1, List.getElem?_drop]
theorem ro_take {W : World} {g o : Nat} {xs : List Value} (h : ro W g o xs) (n : Nat) : ro W g o (xs.take n) := by
  intro j hj
  simp only [List.length_take] at hj
  rw [h j (by omega), List.getElem?_take_of_lt (by omega)]
theorem ro_drop {W : World} {g o : Nat} {xs : List Value} (h : ro W g o xs) (n : Nat) : ro W g (o + n) (xs.drop n) := by
  intro j hj
  simp only [List.length_drop] at hj
  rw [Nat.add_assoc, h (n + j) (by omega), List.getElem?_drop]
instance (priority := high) Rd.here (W0 : World) (L : List Asn) (a : Option Addr) {α : Type} (A : Ly α) (e : TypeId) (c : Nat) (l : List α) : Rd W0 (arr A e a c l :: L) a A l := ⟨fun W h => by
  by_cases ha : a = none
  · have := h.arrFacts
    left
    rw [show l = [] from List.eq_nil_of_length_eq_zero (by have := this.2.2.1 ha; omega)]
    rfl
  · obtain ⟨g, o, cur, rfl, h1, h2, h3⟩ := h.arrCells ha
    right
    exact ⟨g, o, rfl, h2 ▸ ro_take (ro_cells h3 o) _⟩⟩
instance Rd.there (W0 : World) (x : Asn) (L : List Asn) (a : Option Addr) {α : Type} (A : Ly α) (l : List α) [hr : Rd W0 L a A l] : Rd W0 (x :: L) a A l := ⟨fun W h => hr.ok W h.drop⟩
theorem Rd.nil {α : Type} (A : Ly α) (W0 : World) (L : List Asn) (a : Option Addr) : Rd W0 L a A [] := ⟨fun _ _ => .inl rfl⟩
/-- of what was there at the beginning -/
theorem Rd.base {α : Type} {A : Ly α} {W0 : World} {L : List Asn} {a : Option Addr} {l : List α} (h : A.rows l = [] ∨ ∃ g o, a = some ⟨g, o, none⟩ ∧ ro W0 g o (A.rows l)) : Rd W0 L a A l := ⟨fun W hs => by
  rcases h with h | ⟨g, o, rfl, h⟩
  · exact .inl h
  · refine .inr ⟨g, o, rfl, fun j hj => ?_⟩
    have h0 := h j hj
    have hlt : g < W0.heap.size := by
      rw [List.getElem?_eq_getElem hj] at h0
      apply Classical.byContradiction
      intro hn
      simp [World.cell?, Array.getElem?_eq_none (show W0.heap.size ≤ g by omega)] at h0
    rw [hs.below.cell hlt]; exact h0⟩
theorem Rd.cut {a : Option Addr} {l : List α} [hr : Rd W0 L a A l] (lo hi m : Nat) (h1 : lo ≤ hi) (h2 : hi ≤ l.length) (h3 : hi ≤ m) :
    Rd W0 L (if m = lo then a else a.map (·.add (lo * A.sz))) A ((l.take hi).drop lo) := ⟨fun W h => by
  rcases hr.ok W h with h4 | ⟨g, o, rfl, h4⟩
  · left
    rw [← Ly.rows_drop, ← Ly.rows_take, h4]
    simp
  · by_cases hm : m = lo
    · left
      rw [show (l.take hi).drop lo = [] from List.eq_nil_of_length_eq_zero (by simp; omega)]
      rfl
    · right
      rw [if_neg hm]
      refine ⟨g, o + lo * A.sz, by simp [add_none], ?_⟩
      rw [← Ly.rows_drop, ← Ly.rows_take]
      exact ro_drop (ro_take h4 _) _⟩
theorem Rd.at (h : St W0 L W) [hr : Rd W0 L a A l] (hl : l ≠ []) : ∃ g o, a = some ⟨g, o, none⟩ ∧ ro W g o (A.rows l) := by
  rcases hr.ok W h with h4 | h4
  · cases l with
    | nil => exact absurd rfl hl
    | cons x l =>
      have := congrArg List.length h4
      rw [Ly.rows_len] at this
      have := A.pos
      simp only [List.length_cons, List.length_nil, Nat.succ_mul] at *
      omega
  · exact h4
theorem Rd.row {g o i : Nat} (h : St W0 L W) [hr : Rd W0 L (some ⟨g, o, none⟩) A l] (hi : i < l.length) : ro W g (o + i * A.sz) (A.row l[i]) := by
  obtain ⟨g', o', he, h1⟩ := Rd.at (A := A) (l := l) (a := some ⟨g, o, none⟩) h (fun e => by subst e; simp at hi)
  cases he
  rw [← Ly.rows_at hi]
  exact ro_take (ro_drop h1 _) _

/-- where an element stands -/
theorem ixA {sz n i : Nat} {k : IntKind} {K : Value → Prop} (h : St W0 L W) [hr : Rd W0 L a A l] (hs : A.sz = sz) (hn : n = l.length) (hi : i < l.length)
    (hk : ∀ g o, a = some ⟨g, o, none⟩ → K (.pointer (some ⟨g, o + i * sz, none⟩))) : okF (idxS sz (.slice a n c) (.int k i)) K := by
  obtain ⟨g, o, rfl, _⟩ := Rd.at (A := A) (l := l) (a := a) h (fun e => by subst e; simp at hi)
  refine okF_i (idxS_blk (by omega) (by omega)) ?_
  rw [Int.toNat_natCast]
  exact hk g o rfl
theorem loadAt_row {t : TypeId} {agg : Bool} {tsz : Nat} [ht : TyI P t agg tsz] {b o j : Nat} {cs : List Value} {v : Value} (hc : ro W b o cs) (hv : getL agg cs j tsz = some v) (hsz : agg = true → j + tsz ≤ cs.length) :
    (Instr.loadAt t (.pointer (some ⟨b, o + j, none⟩))).run P W = .ok v W := loadAt_ro (St.start W) hc hv hsz
theorem lgetL {agg : Bool} {cs : List Value} {j tsz : Nat} {v : Value} (hsz : (if agg then j + tsz ≤ cs.length else True)) : agg = true → j + tsz ≤ cs.length := by
  intro h; subst h; simpa using hsz
/-- an element's part is read -/
theorem ldA {t : TypeId} {agg : Bool} {tsz : Nat} [ht : TyI P t agg tsz] {g o i j sz : Nat} {v : Value} {k : Value → World → Prop} (h : St W0 L W) [hr : Rd W0 L (some ⟨g, o, none⟩) A l] (hs : A.sz = sz) (hi : i < l.length)
    (hv : getL agg (A.row l[i]) j tsz = some v) (hsz : agg = true → j + tsz ≤ sz) (hk : k v W) : rdK P (Instr.loadAt t (.pointer (some ⟨g, o + i * sz + j, none⟩))) k W :=
  ⟨v, by subst hs; exact loadAt_row (Rd.row h hi) hv (by rw [A.len]; exact hsz), hk⟩
theorem ldA0 {t : TypeId} {agg : Bool} {tsz : Nat} [ht : TyI P t agg tsz] {g o i sz : Nat} {v : Value} {k : Value → World → Prop} (h : St W0 L W) [hr : Rd W0 L (some ⟨g, o, none⟩) A l] (hs : A.sz = sz) (hi : i < l.length)
    (hv : getL agg (A.row l[i]) 0 tsz = some v) (hsz : agg = true → tsz ≤ sz) (hk : k v W) : rdK P (Instr.loadAt t (.pointer (some ⟨g, o + i * sz, none⟩))) k W :=
  ⟨v, by subst hs; exact loadAt_row (j := 0) (Rd.row h hi) hv (by rw [A.len]; simpa using hsz), hk⟩
theorem ldA_run {t : TypeId} {agg : Bool} {tsz : Nat} [ht : TyI P t agg tsz] {g o i j sz : Nat} {v : Value} (h : St W0 L W) [hr : Rd W0 L (some ⟨g, o, none⟩) A l] (hs : A.sz = sz) (hi : i < l.length)
    (hv : getL agg (A.row l[i]) j tsz = some v) (hsz : agg = true → j + tsz ≤ sz) : (Instr.loadAt t (.pointer (some ⟨g, o + i * sz + j, none⟩))).run P W = .ok v W := by
  subst hs; exact loadAt_row (Rd.row h hi) hv (by rw [A.len]; exact hsz)
theorem stb_ldA {t : TypeId} {agg : Bool} {tsz : Nat} [ht : TyI P t agg tsz] {g o i j sz : Nat} {v : Value} {ii : Nat} {bb : Bool} {hl : List HoldV} {R : World → Prop} (h : St W0 L W) [hr : Rd W0 L (some ⟨g, o, none⟩) A l] (hs : A.sz = sz) (hi : i < l.length)
    (hv : getL agg (A.row l[i]) j tsz = some v) (hsz : agg = true → j + tsz ≤ sz) (hk : stb P hl R W) : stb P ((ii, bb, Instr.loadAt t (.pointer (some ⟨g, o + i * sz + j, none⟩)), v) :: hl) R W :=
  ⟨fun _ => ldA_run h hs hi hv hsz, hk⟩
theorem stb_ldA0 {t : TypeId} {agg : Bool} {tsz : Nat} [ht : TyI P t agg tsz] {g o i sz : Nat} {v : Value} {ii : Nat} {bb : Bool} {hl : List HoldV} {R : World → Prop} (h : St W0 L W) [hr : Rd W0 L (some ⟨g, o, none⟩) A l] (hs : A.sz = sz) (hi : i < l.length)
    (hv : getL agg (A.row l[i]) 0 tsz = some v) (hsz : agg = true → tsz ≤ sz) (hk : stb P hl R W) : stb P ((ii, bb, Instr.loadAt t (.pointer (some ⟨g, o + i * sz, none⟩)), v) :: hl) R W :=
  ⟨fun _ => ldA_run (j := 0) h hs hi hv (by simpa using hsz), hk⟩

/-! ### to own -/
class Own (a : Option Addr) (L : List Asn) {α : outParam Type} (A : outParam (Ly α)) (e : outParam TypeId) (c : outParam Nat) (l : outParam (List α)) (L' : outParam (List Asn)) : Prop where
  ent : Eng.ent L (arr A e a c l :: L')
instance (priority := high) Own.here (a : Option Addr) {α : Type} (A : Ly α) (e : TypeId) (c : Nat) (l : List α) (L : List Asn) : Own a (arr A e a c l :: L) A e c l L := ⟨ent.refl _⟩
instance Own.there (a : Option Addr) (x : Asn) (L : List Asn) {α : Type} (A : Ly α) (e : TypeId) (c : Nat) (l : List α) (L' : List Asn) [h : Own a L A e c l L'] : Own a (x :: L) A e c l (x :: L') := ⟨(ent.cons x h.ent).trans (ent.swap _ _ _)⟩
theorem St.took (h : St W0 L W) [ho : Own a L A e c l L'] : St W0 (arr A e a c l :: L') W := h.ent ho.ent

theorem oneCs {vs : List Value} (h : vs.all oneC = true) : ∀ u ∈ vs, oneC u = true := fun u hu => List.all_eq_true.1 h u hu
/-- an element is written -/
theorem stA {t : TypeId} {agg : Bool} {sz g o i : Nat} [ht : TyI P t agg sz] {x : α} {v : Value} {k : Unit → World → Prop} (h : St W0 L W) [ho : Own (some ⟨g, o, none⟩) L A e c l L'] (hs : A.sz = sz) (hi : i < l.length) (hv : vcells v = A.row x)
    (hk : ∀ W', St W0 (arr A e (some ⟨g, o, none⟩) c (l.set i x) :: L') W' → k () W') : efK P (Instr.storeAt t (.pointer (some ⟨g, o + i * sz, none⟩)) v) k W := by
  subst hs
  have h := h.took (a := some ⟨g, o, none⟩)
  have hf := h.arrFacts
  obtain ⟨g', o', cur, he, h1, h2, h3⟩ := h.arrCells (by simp)
  cases he
  have hle : i * A.sz + A.sz ≤ l.length * A.sz := by rw [← Nat.succ_mul]; exact Nat.mul_le_mul_right _ hi
  have hlc : l.length * A.sz ≤ c * A.sz := Nat.mul_le_mul_right _ hf.1
  refine sto h3 (by rw [hv, A.len]) (by omega) (by rw [hv, A.one]) fun W' h => hk W' (h.ent (arr_of_cells (by simpa using hf.1) hf.2.1 (by rw [stL_len]; exact h1) ?_))
  rw [hv, stL_eq _ _ _ (by rw [A.len]; omega), A.len, Ly.rows_set hi, ← h2]
  have e1 : (cur.take (o + i * A.sz) ++ A.row x ++ cur.drop (o + i * A.sz + A.sz)).drop o = (cur.drop o).take (i * A.sz) ++ A.row x ++ (cur.drop o).drop (i * A.sz + A.sz) := by
    rw [List.append_assoc, List.drop_append_of_le_length (by simp; omega), List.drop_take, Nat.add_sub_cancel_left, List.append_assoc, List.drop_drop, Nat.add_assoc]
  have ht1 : ((cur.drop o).take (i * A.sz)).length = i * A.sz := by simp; omega
  have e2 : l.length * A.sz = i * A.sz + (A.sz + (l.length * A.sz - (i * A.sz + A.sz))) := by omega
  rw [e1, List.length_set, List.append_assoc, e2, List.take_add, List.take_left' ht1, List.drop_left' ht1, List.take_add, List.take_left' (A.len x), List.drop_left' (A.len x), ← e2, List.append_assoc,
    List.take_take, Nat.min_eq_left (by omega), List.drop_take]

/-! ### append -/
theorem storeCells_over {b : Nat} {T : TypeId} {vs cs : List Value} {off : Nat} (h : St W0 (Eng.cells b cs T :: L) W) (hu : vs.all oneC = true) (hl : off + vs.length ≤ cs.length) :
    ∃ W', (storeCells ⟨b, off, none⟩ vs 0).run P W = .ok () W' ∧ St W0 (Eng.cells b (cs.take off ++ vs ++ cs.drop (off + vs.length)) T :: L) W' := by
  obtain ⟨W', h1, h2⟩ := storeCells_run (P := P) vs off 0 cs W h (oneCs hu) (by omega)
  rw [Nat.add_zero, stL_eq _ _ _ hl] at h2
  exact ⟨W', h1, h2⟩
/-- what is appended: so many of it, and where it is read -/
class Src (P : Program) (W0 : World) (L : List Asn) (u : TypeId) (x : Value) {α : outParam Type} (A : outParam (Ly α)) (l : outParam (List α)) : Prop where
  kind : ∃ d, P.underlying u = some d ∧ ∀ k, d ≠ .int k
  len : ∀ W, (Builtin.lenOf x).run P W = .ok l.length W
  cells : ∀ W, St W0 L W → ∀ sz, sz = A.sz → (Builtin.firstCells sz l.length x).run P W = .ok (A.rows l).toArray W
theorem firstCells_run {g o sz n c : Nat} {xs : List Value} (h : ro W g o xs) (hl : xs.length = n * sz) : (Builtin.firstCells sz n (.slice (some ⟨g, o, none⟩) n c)).run P W = .ok xs.toArray W := by
  have := loadCells_run (P := P) (W := W) ⟨g, o, none⟩ xs.toArray (fun j hj => by rw [add_none, h j (by simpa using hj)]; simp)
  simp only [List.size_toArray, hl] at this
  simpa [Builtin.firstCells] using this
theorem firstCells_rd {W0 W : World} {L : List Asn} {a : Option Addr} {l : List α} {c : Nat} (h : St W0 L W) [hr : Rd W0 L a A l] : (Builtin.firstCells A.sz l.length (.slice a l.length c)).run P W = .ok (A.rows l).toArray W := by
  rcases hr.ok W h with h4 | ⟨g, o, rfl, h4⟩
  · have : l.length = 0 := by
      have h5 := congrArg List.length h4
      rw [Ly.rows_len] at h5
      rcases Nat.mul_eq_zero.1 (by simpa using h5) with h | h
      · exact h
      · have := A.pos; omega
    rw [h4, this]
    cases a with
    | none => simp [Builtin.firstCells]
    | some a => simp [Builtin.firstCells, loadCells, loadCellsFrom]
  · exact firstCells_run h4 Ly.rows_len
instance Src.slice {u : TypeId} {a : Option Addr} {c sz by' : Nat} {z : Value} {eu : TypeId} [ht : TyS P u eu sz by' z] {l : List α} [hr : Rd W0 L a A l] : Src P W0 L u (.slice a l.length c) A l where
  kind := by obtain ⟨⟨i, h1, _⟩, _⟩ := ht.ok; exact ⟨_, h1, fun k h => by cases h⟩
  len := fun W => rfl
  cells := fun W h sz hs => by subst hs; exact firstCells_rd h

theorem noInt : ∀ {d : TypeDesc}, (∀ k, d ≠ .int k) → (d matches .int _) = false := by intro d h; cases d <;> first | rfl | exact absurd rfl (h _)
theorem tape_drew {W0 W : World} {L : List Asn} (h : St W0 L W) : St W0 L W.drew := ⟨h.bel.drew, h.own⟩
theorem zeroCells_len (z : Array Value) (n : Nat) : (Builtin.zeroCells z n).toList.length = n * z.size := by simp [Builtin.zeroCells]

theorem appA {t u ty : TypeId} {sz by' : Nat} {z : Value} [ht : TyS P t e sz by' z] {x : Value} {m : List α} {k : Value → World → Prop} (h : St W0 L W) [ho : Own a L A e c l L'] [hx : Src P W0 L u x A m] (hs : A.sz = sz) (hb : (l.length + m.length) * by' ≤ 140737488355328) (hm : l.length + m.length ≤ maxLen)
    (hk : ∀ a' c' W', St W0 (arr A e a' c' (l ++ m) :: L') W' → k (.slice a' (l ++ m).length c') W') : efK P (Builtin.append_ #[t, u] ty #[.slice a l.length c, x]) k W := by
  subst hs
  obtain ⟨⟨i, h1, h2, h3, h4, h5⟩, hz⟩ := ht.ok
  obtain ⟨du, hu1, hu2⟩ := hx.kind
  have hu3 := noInt hu2
  have hW := h
  have hE : ∀ {W1 : World}, St W0 L W1 → St W0 (arr A e a c l :: L') W1 := fun h => h.took (a := a)
  have h0 := hE h
  have hf := h0.arrFacts
  have hlen := hx.len W
  by_cases hroom : l.length + m.length ≤ c
  · by_cases ha : a = none
    · subst ha
      have hc := hf.2.2.1 rfl
      have hl0 : l = [] := List.eq_nil_of_length_eq_zero (by omega)
      have hm0 : m = [] := List.eq_nil_of_length_eq_zero (by omega)
      subst hl0 hm0 hc
      refine ⟨.slice none 0 0, W, ?_, hk none 0 W h0⟩
      have hc0 := hx.cells W hW i.size (by omega)
      simp only [List.length_nil] at hc0 hlen
      simp [Builtin.append_, run_underlying h1, run_underlying hu1, hu3, run_sizeOf' h2, hlen, hc0]
    · obtain ⟨g, o, cur, rfl, h6, h7, h8⟩ := h0.arrCells ha
      have hmul : (l.length + m.length) * A.sz ≤ c * A.sz := Nat.mul_le_mul_right _ hroom
      rw [Nat.add_mul] at hmul
      obtain ⟨W', h9, h10⟩ := storeCells_over (P := P) (off := o + l.length * A.sz) h8 (Ly.rows_one (A := A) (l := m)) (by rw [Ly.rows_len]; omega)
      refine ⟨.slice (some ⟨g, o, none⟩) (l.length + m.length) c, W', ?_, ?_⟩
      · have hc0 := hx.cells W hW i.size (by omega)
        have h9' : Sem.run P (storeCells { block := g, off := o + l.length * i.size } (A.rows m)) W = Result.ok () W' := by rw [h3]; exact h9
        simp [Builtin.append_, run_underlying h1, run_underlying hu1, hu3, run_sizeOf' h2, hlen, hroom, hc0, add_none, h9']
      · have := hk (some ⟨g, o, none⟩) c W' (h10.ent (arr_of_cells (by simpa using hroom) hf.2.1 ?_ ?_))
        · simpa using this
        · simp only [List.length_append, List.length_take, List.length_drop, Ly.rows_len]; omega
        · rw [Ly.rows_app, ← h7, List.length_append]
          have hd : (cur.take (o + l.length * A.sz) ++ A.rows m ++ cur.drop (o + l.length * A.sz + (A.rows m).length)).drop o = (cur.drop o).take (l.length * A.sz) ++ (A.rows m ++ cur.drop (o + l.length * A.sz + (A.rows m).length)) := by
            rw [List.append_assoc, List.drop_append_of_le_length (by simp; omega), List.drop_take, Nat.add_sub_cancel_left]
          have hl1 : ((cur.drop o).take (l.length * A.sz)).length = l.length * A.sz := by simp; omega
          rw [hd, List.take_append, hl1, List.take_of_length_le (by rw [hl1, Nat.add_mul]; omega), Nat.add_mul, Nat.add_sub_cancel_left, List.take_left' Ly.rows_len]
  · have hneed : c < l.length + m.length := by omega
    have hol : ∀ W1, St W0 L W1 → (Builtin.firstCells i.size l.length (.slice a l.length c)).run P W1 = .ok (A.rows l).toArray W1 := by
      intro W1 hW1
      rw [h3]
      exact firstCells_rd (hE hW1)
    have hc0 := hx.cells W.drew (tape_drew hW) i.size (by omega)
    have hc1 := hol W.drew (tape_drew hW)
    have h63 : ¬ (9223372036854775807 < ((l.length : Int) + (m.length : Int))) := by simp only [maxLen] at hm; omega
    have h48 : ¬ (281474976710656 < Builtin.nextslicecap (l.length + m.length) c * i.bytes) := by
      have := growslice_fits (old := c) (need := l.length + m.length) (bytes := i.bytes) (by omega) (by rw [h4]; omega)
      omega
    have hge := grownCap_ge W (l.length + m.length) c e
    have hgm := grownCap_le_maxLen W (l.length + m.length) c e hm
    refine ⟨.slice (some ⟨W.heap.size, 0, none⟩) (l.length + m.length) (grownCap W (l.length + m.length) c e),
      W.drew.alloc (.cells ((A.rows l).toArray ++ (A.rows m).toArray ++ Builtin.zeroCells z.cells (grownCap W (l.length + m.length) c e - (l.length + m.length))) e), ?_, ?_⟩
    · simp [Builtin.append_, run_underlying h1, run_underlying hu1, hu3, sizeOf, hlen, hroom, h63, h48, typeInfo, h2, zeroValue, h5, Question.forced, hc0, hc1, newRow, grownCap]
      congr 2
      apply Array.ext'
      simp
    · have h6 := (tape_drew (h0.drop)).allocCells (A.rows (l ++ m) ++ (Builtin.zeroCells z.cells (grownCap W (l.length + m.length) c e - (l.length + m.length))).toList) e
      have h7 := hk (some ⟨W.heap.size, 0, none⟩) (grownCap W (l.length + m.length) c e) _ (h6.ent (arr_of_cells (A := A) (o := 0) (l := l ++ m) (by simpa using hge) hgm ?_ ?_))
      · have e1 : (A.rows (l ++ m) ++ (Builtin.zeroCells z.cells (grownCap W (l.length + m.length) c e - (l.length + m.length))).toList).toArray =
          (A.rows l).toArray ++ (A.rows m).toArray ++ Builtin.zeroCells z.cells (grownCap W (l.length + m.length) c e - (l.length + m.length)) := by
          apply Array.ext'
          simp [Ly.rows_app]
        rw [e1] at h7
        simpa using h7
      · rw [List.length_append, Ly.rows_len, zeroCells_len, hz, List.length_append, ← Nat.add_mul, Nat.zero_add]
        exact Nat.mul_le_mul_right _ (by omega)
      · rw [List.drop_zero, ← Ly.rows_len, List.take_left]
end

/-! ### bytes, strings -/
class BytesT (P : Program) (t : TypeId) (e : outParam TypeId) : Prop where
  ok : P.underlying t = some (.slice e) ∧ P.underlying e = some (.int .u8)
class StrT (P : Program) (t : TypeId) : Prop where
  ok : P.underlying t = some .string
def b8 (b : UInt8) : Value := .int .u8 b.toNat
def B8 : Ly UInt8 := ⟨1, by omega, fun b => [b8 b], fun _ => rfl, fun _ => rfl⟩
def I64 : Ly Int := ⟨1, by omega, fun b => [.int .i64 b], fun _ => rfl, fun _ => rfl⟩
def STR : Ly ByteArray := ⟨1, by omega, fun b => [.string b], fun _ => rfl, fun _ => rfl⟩
def BOO : Ly Bool := ⟨1, by omega, fun b => [.bool b], fun _ => rfl, fun _ => rfl⟩
theorem B8_rows (l : List UInt8) : B8.rows l = l.map b8 := by
  induction l with
  | nil => rfl
  | cons a l ih => rw [Ly.rows_cons, ih]; rfl
section
variable {P : Program} {W0 W W' : World} {L L' : List Asn} {e : TypeId} {a : Option Addr} {c : Nat}
instance Src.string {u : TypeId} [hs : StrT P u] {s : ByteArray} : Src P W0 L u (.string s) B8 s.data.toList where
  kind := ⟨_, hs.ok, fun k h => by cases h⟩
  len := fun W => rfl
  cells := fun W h sz hs => by
    simp only [Builtin.firstCells, B8_rows]
    have : (s.extract 0 s.data.toList.length) = s := by
      have : s.data.toList.length = s.size := rfl
      rw [this]; exact ByteArray.extract_zero_size
    rw [this]
    simp only [Sem.run_pure]
    congr 1
    apply Array.ext'
    simp [b8]
theorem s2b {src dst : TypeId} [hs : StrT P src] [hd : BytesT P dst e] {s : ByteArray} {k : Value → World → Prop} (h : St W0 L W) (hl : s.size ≤ maxLen)
    (hk : ∀ a c W', St W0 (arr B8 e a c s.data.toList :: L) W' → k (.slice a s.data.toList.length c) W') : efK P (convert src dst (.string s)) k W := by
  refine ⟨_, _, run_bytes_of_string W src dst e s hs.ok hd.ok.1 hd.ok.2, hk _ _ _ ?_⟩
  have hge := grownCap_ge W s.size 0 e
  have hgm := grownCap_le_maxLen W s.size 0 e hl
  have h1 := (tape_drew h).alloc (.cells (bytesRow s (grownCap W s.size 0 e)) e ((bytesRow s (grownCap W s.size 0 e)).size, (bytesRow s (grownCap W s.size 0 e)).size + 1))
  have hsz : (bytesRow s (grownCap W s.size 0 e)).size = grownCap W s.size 0 e := by
    have : s.data.size = s.size := rfl
    simp [bytesRow, this]; omega
  have h2 := h1.weak (a' := cells W.heap.size (bytesRow s (grownCap W s.size 0 e)).toList e) fun p hp => ⟨((bytesRow s (grownCap W s.size 0 e)).size, (bytesRow s (grownCap W s.size 0 e)).size + 1), by
    intro i hi
    have hi' : i < (bytesRow s (grownCap W s.size 0 e)).size := by simpa using hi
    simp; omega, by simpa using hp⟩
  refine h2.ent (arr_of_cells hge hgm (by simp [hsz, B8]) ?_)
  rw [B8_rows, List.drop_zero]
  have e1 : (bytesRow s (grownCap W s.size 0 e)).toList = s.data.toList.map b8 ++ List.replicate (grownCap W s.size 0 e - s.size) (.int .u8 0) := by
    simp [bytesRow]; exact fun _ _ => rfl
  rw [e1]
  exact List.take_left' (by simp [B8])
theorem b2s {src dst : TypeId} [hd : StrT P dst] [hs : BytesT P src e] {l : List UInt8} {k : Value → World → Prop} (h : St W0 L W) [hr : Rd W0 L a B8 l] (hk : k (.string ⟨l.toArray⟩) W) : rdK P (convert src dst (.slice a l.length c)) k W := by
  refine ⟨.string ⟨l.toArray⟩, ?_, hk⟩
  by_cases hl : l = []
  · subst hl
    rw [run_convert_bytes_string W src dst e a _ c hs.ok.1 hs.ok.2 hd.ok]
    cases a with
    | none => simp [Conv.bytesToString]; rfl
    | some a => simp [Conv.bytesToString, loadCells, loadCellsFrom]; rfl
  · obtain ⟨g, o, rfl, h1⟩ := Rd.at (A := B8) (l := l) (a := a) h hl
    refine run_convert_bytes_back W src dst e ⟨g, o, none⟩ c l hs.ok.1 hs.ok.2 hd.ok fun j hj => ?_
    have := h1 j (by rw [B8_rows]; simpa using hj)
    rw [add_none, this, B8_rows]
    simp [hj, b8]
theorem b2s_run {src dst : TypeId} [hd : StrT P dst] [hs : BytesT P src e] {l : List UInt8} (h : St W0 L W) [hr : Rd W0 L a B8 l] : (convert src dst (.slice a l.length c)).run P W = .ok (.string ⟨l.toArray⟩) W := by
  obtain ⟨v, h1, h2⟩ := b2s (P := P) (src := src) (dst := dst) (a := a) (c := c) (l := l) (k := fun v _ => v = .string ⟨l.toArray⟩) h rfl
  rw [h1, h2]
theorem stb_b2s {src dst : TypeId} [hd : StrT P dst] [hs : BytesT P src e] {l : List UInt8} {ii : Nat} {bb : Bool} {hl : List HoldV} {R : World → Prop} (h : St W0 L W) [hr : Rd W0 L a B8 l] (hk : stb P hl R W) :
    stb P ((ii, bb, convert src dst (.slice a l.length c), .string ⟨l.toArray⟩) :: hl) R W := ⟨fun _ => b2s_run h, hk⟩
/-- a slice of so many, told one by one -/
theorem bsA {α : Type} (A : Ly α) (l : List α) {t : TypeId} {sz by' n : Nat} {z : Value} [ht : TyS P t e sz by' z] {ps : List (Nat × Value)} {k : Value → World → Prop} (h : St W0 L W) (hs : A.sz = sz) (hln : l.length = n) (hn : n * sz ≤ 16777216) (hn0 : n ≠ 0)
    (hc : fillL (fun i => some (i * sz, sz)) ((List.range (n * sz)).map fun i => ((vcells z)[i % (vcells z).length]?).getD undef) ps = some (A.rows l))
    (hk : ∀ a c W', St W0 (arr A e a c l :: L) W' → k (.slice a l.length c) W') : efK P (Instr.buildSlice t n ps.toArray) k W := by
  subst hs hln
  have hp := A.pos
  have hlm : l.length ≤ l.length * A.sz := Nat.le_mul_of_pos_right _ hp
  refine bs h hn (by intro e; rcases Nat.mul_eq_zero.1 e with h | h <;> omega) hc fun b W' h => ?_
  exact hk _ _ _ (h.ent (arr_full (by unfold maxLen; omega)))
/-- an empty slice, told as such -/
theorem bs0 {α : Type} (A : Ly α) {t : TypeId} {sz by' : Nat} {z : Value} [ht : TyS P t e sz by' z] {k : Value → World → Prop} (h : St W0 L W)
    (hk : ∀ a c W', St W0 (arr A e a c [] :: L) W' → k (.slice a ([] : List α).length c) W') : efK P (Instr.buildSlice t 0 #[]) k W := by
  obtain ⟨⟨i, h1, h2, h3, h4, h5⟩, hzz⟩ := ht.ok
  refine ⟨.slice (some ⟨W.heap.size, 0, none⟩) 0 0, _, ?_, hk (some ⟨W.heap.size, 0, none⟩) 0 _ ((h.allocCells [] e).ent (arr_full (A := A) (l := []) (by simp)))⟩
  simp [Instr.buildSlice, run_underlying h1, run_sizeOf' h2, Instr.fill, newRow, show Array.range 0 = #[] from rfl]
theorem St.drop2 {x y : Asn} (h : St W0 (x :: y :: L) W) : St W0 (x :: L) W := (h.ent (ent.swap x y L)).drop
/-- one more -/
theorem pushA {α : Type} {A : Ly α} (x : α) {t ty : TypeId} {sz by' : Nat} {z : Value} [ht : TyS P t e sz by' z] {l : List α} {v : Value} {k : Value → World → Prop} (h : St W0 L W) [ho : Own a L A e c l L'] (hv : vcells v = A.row x) (hs : A.sz = sz)
    (hb : (l.length + 1) * by' ≤ 140737488355328) (hm : l.length + 1 ≤ maxLen) (hsz : sz ≤ 16777216)
    (hk : ∀ a' c' W', St W0 (arr A e a' c' (l ++ [x]) :: L') W' → k (.slice a' (l ++ [x]).length c') W') :
    efK P (Instr.buildSlice t 1 #[(0, v)]) (fun u W => efK P (Builtin.append_ #[t, t] ty #[.slice a l.length c, u]) k W) W := by
  have hz : z.cells.size = sz := ht.ok.2
  refine bsA A [x] (n := 1) h hs rfl (by omega) (by omega) ?_ fun a1 c1 W1 h1 => ?_
  · rw [fillL_cons (size := sz) (off := 0) (by simp) (by rw [hv, A.len, hs]) (by simp), fillL_nil, stL_eq _ _ _ (by rw [hv, A.len, hs]; simp)]
    rw [hv]
    simp [A.len, hs, Ly.rows]
  · exact appA (a := a) (m := [x]) h1 hs hb hm fun a' c' W' h => hk a' c' W' h.drop2
/-! ### cuts -/
theorem bnd_none {d y : Nat} : bnd none d y = some d := rfl
theorem bnd_nat {k : IntKind} {i d y : Nat} (h : i ≤ y) : bnd (some (.int k (i : Int))) d y = some i := by simp [bnd, h]
theorem bnd_int {k : IntKind} {i : Int} {d y : Nat} (h0 : 0 ≤ i) (h : i ≤ y) : bnd (some (.int k i)) d y = some i.toNat := by simp [bnd, h0, h]
theorem slcS_eq {sz n c l h : Nat} {a : Option Addr} {lo hi : Option Value} (h1 : bnd hi n c = some h) (h2 : bnd lo 0 h = some l) :
    slcS sz (.slice a n c) lo hi none = some (.slice (if c = l then a else a.map (·.add (l * sz))) (h - l) (c - l)) := by
  have e1 : slcB n c lo hi none = some (l, h, c) := by cases hi <;> simp only [slcB, bnd_none, h1, h2] <;> rfl
  simp only [slcS, e1]
/-- a cut that is read -/
theorem slcR {α : Type} {A : Ly α} {l : List α} {sz n lo hi : Nat} {vlo vhi : Option Value} {K : Value → Prop} (h : St W0 L W) [hr : Rd W0 L a A l] (hs : A.sz = sz) (hn : n = l.length) (h1 : bnd vhi n c = some hi) (h2 : bnd vlo 0 hi = some lo) (h3 : lo ≤ hi) (h4 : hi ≤ l.length) (h5 : l.length ≤ c)
    (hk : ∀ a' c', Rd W0 L a' A ((l.take hi).drop lo) → K (.slice a' ((l.take hi).drop lo).length c')) : okF (slcS sz (.slice a n c) vlo vhi none) K := by
  subst hs hn
  refine okF_i (slcS_eq h1 h2) ?_
  have := hk _ (c - lo) (Rd.cut (W0 := W0) (L := L) (a := a) (A := A) (l := l) lo hi c h3 h4 (by omega))
  simpa [Nat.min_eq_left h4] using this
/-- a cut that is kept in the old one's place -/
theorem slcO {α : Type} {A : Ly α} {l : List α} {sz n lo hi : Nat} {vlo vhi : Option Value} {K : Value → Prop} (h : St W0 L W) [ho : Own a L A e c l L'] (hs : A.sz = sz) (hn : n = l.length) (h1 : bnd vhi n c = some hi) (h2 : bnd vlo 0 hi = some lo) (h3 : lo ≤ hi) (h4 : hi ≤ l.length)
    (hk : ∀ a' c', ent L (arr A e a' c' ((l.take hi).drop lo) :: L') → K (.slice a' ((l.take hi).drop lo).length c')) : okF (slcS sz (.slice a n c) vlo vhi none) K := by
  subst hs hn
  have hf := (h.took (a := a)).arrFacts
  refine okF_i (slcS_eq h1 h2) ?_
  have := hk _ (c - lo) (ho.ent.trans (ent.weak (arr_cut lo hi c h3 h4 (by omega) (Nat.le_refl _))))
  simpa [Nat.min_eq_left h4] using this
/-! ### loops -/
theorem loop_x {σ : Type} {body : (List Value → World → Prop) → List Value → World → Prop} {s : List Value} (vs : σ → List Value) (inv : σ → World → Prop) (μ : σ → Nat) (x0 : σ) (hs : s = vs x0) (h0 : inv x0 W)
    (hr : ∀ (K : List Value → World → Prop) x W, inv x W → (∀ x' W', μ x' < μ x → inv x' W' → K (vs x') W') → body K (vs x) W) : loopK body s W := by
  subst hs
  refine loop_i (fun m s W => ∃ x, μ x = m ∧ s = vs x ∧ inv x W) _ ⟨x0, rfl, rfl, h0⟩ ?_
  rintro m s W ⟨x, rfl, rfl, h⟩
  exact hr _ x W h fun x' W' hm h' => ⟨μ x', hm, x', rfl, rfl, h'⟩
/-- a loop that counts -/
theorem loop_c {σ : Type} {body : (List Value → World → Prop) → List Value → World → Prop} {s : List Value} (N : Nat) (vs : Nat → σ → List Value) (inv : Nat → σ → World → Prop) (x0 : σ) (hs : s = vs 0 x0) (h0 : inv 0 x0 W)
    (hr : ∀ (K : List Value → World → Prop) i x W, i ≤ N → inv i x W → (∀ x' W', i < N → inv (i + 1) x' W' → K (vs (i + 1) x') W') → body K (vs i x) W) : loopK body s W :=
  loop_x (σ := Nat × σ) (fun p => vs p.1 p.2) (fun p W => p.1 ≤ N ∧ inv p.1 p.2 W) (fun p => N - p.1) (0, x0) hs ⟨Nat.zero_le _, h0⟩ fun K p W h hk =>
    hr K p.1 p.2 W h.1 h.2 fun x' W' hi h' => hk (p.1 + 1, x') W' (by simp only; omega) ⟨hi, h'⟩
end

/-! ### simp looks at what comes next, not at what follows -/
@[congr] theorem okF_congr {r r' : Option Value} {k : Value → Prop} (h : r = r') : okF r k = okF r' k := by rw [h]
@[congr] theorem gdK_congr {b b' : Bool} {A : (Value → World → Prop) → World → Prop} {k : Value → World → Prop} {W : World} (h : b = b') : gdK b A k W = gdK b' A k W := by rw [h]
@[congr] theorem ifK_congr {v v' : Value} {A B : Prop} (h : v = v') : ifK v A B = ifK v' A B := by rw [h]
@[congr] theorem efK_congr {α : Type} {P : Program} {s s' : Sem α} {k : α → World → Prop} {W : World} (h : s = s') : efK P s k W = efK P s' k W := by rw [h]
@[congr] theorem rdK_congr {α : Type} {P : Program} {s s' : Sem α} {k : α → World → Prop} {W : World} (h : s = s') : rdK P s k W = rdK P s' k W := by rw [h]
@[congr] theorem callK_congr {P : Program} {g : Nat} {l l' : List Value} {k : Value → World → Prop} {W : World} (h : l = l') : callK P g l k W = callK P g l' k W := by rw [h]
@[congr] theorem stb_congr {P : Program} {l l' : List HoldV} {R : World → Prop} {W : World} (h : l = l') : stb P l R W = stb P l' R W := by rw [h]
end Go.Eng
namespace Go.Eng
set_option linter.unusedVariables false
set_option linter.unusedSimpArgs false
open Go Go.RowKit
section
variable {P : Program} {W0 W W' : World} {L L' : List Asn}
theorem St.left {l rest : List Asn} (h : St W0 (l ++ rest) W) : St W0 l W := by
  obtain ⟨hb, p, hs, ho⟩ := h
  obtain ⟨h1, h2, hd, rfl, hl, hl'⟩ := sep_append.1 hs
  exact ⟨hb, h1, hl, fun b o hbo => ho b o (by simp [PH.join, hbo])⟩
theorem St.one {q : Nat} {cs : List Value} {T : TypeId} {L1 : List Asn} (h : St W0 L W) [h1 : Ck q L cs T L1] : St W0 [Eng.cells q cs T] W := St.left (l := [_]) (rest := L1) (h.perm h1.perm)
theorem St.two {q p : Nat} {cs ds : List Value} {T U : TypeId} {L1 L2 : List Asn} (h : St W0 L W) [h1 : Ck q L cs T L1] [h2 : Ck p L1 ds U L2] : St W0 [Eng.cells q cs T, Eng.cells p ds U] W :=
  St.left (l := [_, _]) (rest := L2) ((h.perm h1.perm).ent (ent.cons _ (ent.perm h2.perm)))
end
end Go.Eng
namespace Go.Eng
set_option linter.unusedVariables false
set_option linter.unusedSimpArgs false
open Go Go.RowKit
section
variable {P : Program} {W0 W W' : World} {L L' : List Asn} {e : TypeId} {α : Type} {A : Ly α}
theorem rows_replicate (x : α) (n : Nat) : A.rows (List.replicate n x) = (List.replicate n (A.row x)).flatten := by
  induction n with
  | zero => rfl
  | succ n ih => rw [List.replicate_succ, Ly.rows_cons, ih, List.replicate_succ, List.flatten_cons]
theorem getElem_flat_rep (r : List Value) : ∀ (n j : Nat), j < n * r.length → (List.replicate n r).flatten[j]? = r[j % r.length]?
  | 0, j, h => by simp at h
  | n + 1, j, h => by
    rw [List.replicate_succ, List.flatten_cons]
    by_cases hj : j < r.length
    · rw [List.getElem?_append_left hj, Nat.mod_eq_of_lt hj]
    · rw [List.getElem?_append_right (by omega), getElem_flat_rep r n _ (by rw [Nat.succ_mul] at h; omega)]
      congr 1
      conv => rhs; rw [Nat.mod_eq_sub_mod (by omega)]
theorem mkS (x0 : α) (n : Nat) {t : TypeId} {sz by' : Nat} {z : Value} [ht : TyS P t e sz by' z] {k : Value → World → Prop} (h : St W0 L W) (hz : vcells z = A.row x0) (hs : A.sz = sz) (hn : n ≤ 1000000) (hb : n * by' ≤ 140737488355328)
    (hk : ∀ a c W', St W0 (arr A e a c (List.replicate n x0) :: L) W' → k (.slice a (List.replicate n x0).length c) W') : efK P (Instr.makeSlice t (.int .i64 (n : Int)) (.int .i64 (n : Int))) k W := by
  subst hs
  obtain ⟨⟨i, h1, h2, h3, h4, h5⟩, hzz⟩ := ht.ok
  have hp := A.pos
  have e1 : IntKind.i64.wrap (n : Int) = n := by rw [IntWalk.i64_in _ (by omega)]
  have hcells : ((Array.range (n * A.sz)).map fun j => z.cells[j % z.cells.size]!) = (A.rows (List.replicate n x0)).toArray := by
    apply Array.ext_getElem?
    intro j
    rw [rows_replicate]
    have hta : ∀ (l : List Value), l.toArray[j]? = l[j]? := fun l => by simp
    rw [hta ((List.replicate n (A.row x0)).flatten)]
    by_cases hj : j < n * A.sz
    · have hm : j % A.sz < A.sz := Nat.mod_lt _ hp
      rw [getElem_flat_rep _ _ _ (by rw [A.len x0]; exact hj), A.len x0, ← hz]
      have hzl : (vcells z).length = A.sz := by rw [hz, A.len]
      simp [hj, vcells_eq', hzl, hm]
    · have : ((List.replicate n (A.row x0)).flatten).length = n * A.sz := by simp [A.len]
      have e1 : ((List.replicate n (A.row x0)).flatten)[j]? = none := List.getElem?_eq_none (by rw [this]; omega)
      have e2 : ((Array.range (n * A.sz)).map fun j => z.cells[j % z.cells.size]!)[j]? = none := Array.getElem?_eq_none (by rw [Array.size_map, Array.size_range]; omega)
      rw [e1, e2]
  have hr := run_make (P := P) W t e i z h1 h2 h5 .i64 .i64 n n (by omega) (by omega) (by
    rw [h4]
    have : (by' : Int) * (n : Int) = ((n * by' : Nat) : Int) := by rw [Nat.mul_comm]; simp
    rw [this]; omega) (by omega)
  rw [h3, Int.toNat_natCast, madeCells, hcells] at hr
  refine ⟨_, _, hr, ?_⟩
  · have := hk (some ⟨W.heap.size, 0, none⟩) n _ ((h.allocCells (A.rows (List.replicate n x0)) e).ent (by
      have := arr_full (A := A) (e := e) (L := L) (g := W.heap.size) (l := List.replicate n x0) (by simp [maxLen]; omega)
      simpa using this))
    simpa using this
end
end Go.Eng
namespace Go.Eng
set_option linter.unusedVariables false
set_option linter.unusedSimpArgs false
open Go Go.RowKit Go.MapKept Go.ChangeMaps

/-! ### rows of keys and what stands at them -/
section
variable {κ β : Type} [DecidableEq κ]
def mget : List (κ × β) → κ → Option β
  | [], _ => none
  | (a, b) :: l, k => if a = k then some b else mget l k
def mput : List (κ × β) → κ → β → List (κ × β)
  | [], k, v => [(k, v)]
  | (a, b) :: l, k, v => if a = k then (k, v) :: l else (a, b) :: mput l k v
def mdel : List (κ × β) → κ → List (κ × β)
  | [], _ => []
  | (a, b) :: l, k => if a = k then l else (a, b) :: mdel l k
theorem mget_none {l : List (κ × β)} {k : κ} : mget l k = none ↔ ∀ p ∈ l, p.1 ≠ k := by
  induction l with
  | nil => simp [mget]
  | cons p l ih =>
    obtain ⟨a, b⟩ := p
    by_cases h : a = k
    · simp [mget, h]
    · simp [mget, h, ih]
theorem mput_new {l : List (κ × β)} {k : κ} {v : β} (h : ∀ p ∈ l, p.1 ≠ k) : mput l k v = l ++ [(k, v)] := by
  induction l with
  | nil => rfl
  | cons p l ih =>
    obtain ⟨a, b⟩ := p
    have h1 : a ≠ k := h (a, b) (by simp)
    simp only [mput, if_neg h1, List.cons_append, ih fun p hp => h p (by simp [hp])]
theorem mdel_none {l : List (κ × β)} {k : κ} (h : ∀ p ∈ l, p.1 ≠ k) : mdel l k = l := by
  induction l with
  | nil => rfl
  | cons p l ih =>
    obtain ⟨a, b⟩ := p
    have h1 : a ≠ k := h (a, b) (by simp)
    simp only [mdel, if_neg h1, ih fun p hp => h p (by simp [hp])]
theorem mget_at {l : List (κ × β)} (hn : (l.map (·.1)).Nodup) {j : Nat} {k : κ} {v : β} (h : l[j]? = some (k, v)) : mget l k = some v := by
  induction l generalizing j with
  | nil => simp at h
  | cons p l ih =>
    obtain ⟨a, b⟩ := p
    cases j with
    | zero => simp at h; obtain ⟨rfl, rfl⟩ := h; simp [mget]
    | succ j =>
      simp only [List.getElem?_cons_succ] at h
      simp only [List.map_cons, List.nodup_cons] at hn
      have : a ≠ k := fun e => hn.1 (List.mem_map.2 ⟨(k, v), List.mem_of_getElem? h, e.symm⟩)
      simp only [mget, if_neg this]
      exact ih hn.2 h
theorem mput_at {l : List (κ × β)} (hn : (l.map (·.1)).Nodup) {j : Nat} {k : κ} {v w : β} (h : l[j]? = some (k, v)) : mput l k w = l.set j (k, w) := by
  induction l generalizing j with
  | nil => simp at h
  | cons p l ih =>
    obtain ⟨a, b⟩ := p
    cases j with
    | zero => simp at h; obtain ⟨rfl, rfl⟩ := h; simp [mput]
    | succ j =>
      simp only [List.getElem?_cons_succ] at h
      simp only [List.map_cons, List.nodup_cons] at hn
      have : a ≠ k := fun e => hn.1 (List.mem_map.2 ⟨(k, v), List.mem_of_getElem? h, e.symm⟩)
      simp only [mput, if_neg this, List.set_cons_succ, ih hn.2 h]
theorem mdel_at {l : List (κ × β)} (hn : (l.map (·.1)).Nodup) {j : Nat} {k : κ} {v : β} (h : l[j]? = some (k, v)) : mdel l k = l.eraseIdx j := by
  induction l generalizing j with
  | nil => simp at h
  | cons p l ih =>
    obtain ⟨a, b⟩ := p
    cases j with
    | zero => simp at h; obtain ⟨rfl, rfl⟩ := h; simp [mdel]
    | succ j =>
      simp only [List.getElem?_cons_succ] at h
      simp only [List.map_cons, List.nodup_cons] at hn
      have : a ≠ k := fun e => hn.1 (List.mem_map.2 ⟨(k, v), List.mem_of_getElem? h, e.symm⟩)
      simp only [mdel, if_neg this, List.eraseIdx_cons_succ, ih hn.2 h]
end

/-! ### types of keys, types of maps -/
class KeyT (P : Program) (t : TypeId) {κ : Type} (K : κ → Value) : Prop where
  inj : ∀ {a b : κ}, K a = K b → a = b
  check : ∀ (w : World) (em : Bool) (k : κ), (Instr.checkKey em 10000 t (K k)).run P w = .ok () w
  find : ∀ (w : World) (k : κ) (es : List MapEntry), (∀ e ∈ es, ∃ k', e.key = K k') →
    ((Instr.findKey t (K k) es).run P w = .ok none w ∧ ∀ e ∈ es, e.key ≠ K k) ∨ ∃ j e, (Instr.findKey t (K k) es).run P w = .ok (some (j, e.val)) w ∧ es[j]? = some e ∧ e.key = K k
  stays : ∀ (w : World) (k : κ), (Instr.keyThatStays (K k) (K k)).run P w = .ok (K k) w
class MapT (P : Program) (t : TypeId) (kt : outParam TypeId) (et : outParam TypeId) : Prop where
  ok : P.underlying t = some (.map kt et)
theorem KeyT.plain {P : Program} {t : TypeId} {d : TypeDesc} {κ : Type} {K : κ → Value} (hd : P.underlying t = some d) (hk : ∀ k, IsKey d (K k)) (hi : ∀ {a b : κ}, K a = K b → a = b) : KeyT P t K where
  inj := hi
  check w em k := run_checkKey hd (hk k) em 9999
  find w k es hes := by
    have hks : ∀ y ∈ es, IsKey d y.key := fun y hy => by
      obtain ⟨l, hl⟩ := hes y hy
      rw [hl]; exact hk l
    rcases findNow_spec (hk k) es 0 hks with ⟨h1, h2⟩ | ⟨j, e0, h1, h2, h3⟩
    · exact Or.inl ⟨run_findKey hd h1, h2⟩
    · exact Or.inr ⟨j, e0, by simpa using run_findKey hd h1, h2, h3⟩
  stays w k := run_keyThatStays (hk k)
abbrev KI : Int → Value := fun i => .int .i64 i
abbrev KS : ByteArray → Value := .string
theorem KeyT.int {P : Program} {t : TypeId} (hd : P.underlying t = some (.int .i64)) : KeyT P t KI := .plain hd (fun _ => rfl) (fun h => by cases h; rfl)
theorem KeyT.str {P : Program} {t : TypeId} (hd : P.underlying t = some .string) : KeyT P t KS := .plain hd (fun _ => trivial) (fun h => by cases h; rfl)

/-! ### a map as a chunk -/
def mpL {κ : Type} (K : κ → Value) (l : List (κ × Value)) (es : Array MapEntry) : Prop := es.toList.map (fun e => (e.key, e.val)) = l.map (fun p => (K p.1, p.2))
def mp {κ : Type} (K : κ → Value) (r : Nat) (l : List (κ × Value)) : Asn := fun h => ∃ x : Array MapEntry × Nat, (mpL K l x.1 ∧ Stamped x.1 x.2) ∧ blk r (.map x.1 x.2) h
section
variable {κ : Type} {K : κ → Value} {P : Program} {W0 W W' : World} {L L' : List Asn} {t kt et : TypeId} {r : Nat} {l : List (κ × Value)}
theorem St.mp (h : St W0 (mp K r l :: L) W) : ∃ es clock, mpL K l es ∧ Stamped es clock ∧ St W0 (Eng.blk r (.map es clock) :: L) W := by
  obtain ⟨⟨es, clock⟩, h⟩ := h.ex
  obtain ⟨⟨h1, h2⟩, h⟩ := h.fact
  exact ⟨es, clock, h1, h2, h⟩
theorem mp_ent {es : Array MapEntry} {clock : Nat} (h1 : mpL K l es) (h2 : Stamped es clock) : ent (blk r (.map es clock) :: L) (mp K r l :: L) := ent.weak fun _ hp => ⟨(es, clock), ⟨h1, h2⟩, hp⟩
theorem mpL_keys {es : Array MapEntry} (h : mpL K l es) : ∀ e ∈ es.toList, ∃ k', e.key = K k' := by
  intro e he
  have : (e.key, e.val) ∈ l.map (fun p => (K p.1, p.2)) := by rw [← h]; exact List.mem_map.2 ⟨e, he, rfl⟩
  obtain ⟨p, _, hp⟩ := List.mem_map.1 this
  exact ⟨p.1, (congrArg Prod.fst hp).symm⟩
theorem mpL_at {es : Array MapEntry} (h : mpL K l es) {j : Nat} {e : MapEntry} (he : es.toList[j]? = some e) : ∃ p, l[j]? = some p ∧ e.key = K p.1 ∧ e.val = p.2 := by
  have h1 := congrArg (fun x => x[j]?) h
  simp only [List.getElem?_map, he, Option.map_some] at h1
  cases hl : l[j]? with
  | none => rw [hl] at h1; cases h1
  | some p =>
    rw [hl] at h1
    simp only [Option.map_some, Option.some.injEq, Prod.mk.injEq] at h1
    exact ⟨p, rfl, h1.1, h1.2⟩
theorem mpL_len {es : Array MapEntry} (h : mpL K l es) : es.size = l.length := by
  have := congrArg List.length h
  simpa using this
theorem mpL_nodup {es : Array MapEntry} {clock : Nat} (h : mpL K l es) (hs : Stamped es clock) : (l.map (·.1)).Nodup := by
  have h1 : es.toList.map (·.key) = l.map (fun p => K p.1) := by
    have := congrArg (List.map Prod.fst) h
    simpa [List.map_map, Function.comp_def] using this
  have h2 := hs.2.2
  rw [h1] at h2
  have h3 : ((l.map (·.1)).map K).Nodup := by simpa [List.map_map, Function.comp_def] using h2
  simp only [List.Nodup, List.pairwise_map] at h3 ⊢
  exact h3.imp fun h e => h (by rw [e])
theorem St.mpNodup (h : St W0 (Eng.mp K r l :: L) W) : (l.map (·.1)).Nodup := by
  obtain ⟨es, clock, h1, h2, _⟩ := h.mp
  exact mpL_nodup h1 h2
theorem mkMap {k : Value → World → Prop} (h : St W0 L W) (hk : ∀ r W', St W0 (Eng.mp K r [] :: L) W' → k (.map (some r)) W') : efK P (Instr.makeMap t none) k W := by
  refine ⟨.map (some W.heap.size), W.alloc (.map #[] 0), run_makeMap t W, hk _ _ ?_⟩
  exact (h.alloc (.map #[] 0)).ent (mp_ent (by simp [mpL]) (stamped_empty 0))
variable [DecidableEq κ]
theorem lookup_run [hT : MapT P t kt et] [hK : KeyT P kt K] {z : Value} [hz : TyZ P et z] {a : κ} (c : Bool) (h : St W0 (Eng.mp K r l :: L) W) :
    (Instr.lookup t (.map (some r)) (K a) c).run P W = .ok (if c then .tuple #[(mget l a).getD z, .bool (mget l a).isSome] else (mget l a).getD z) W := by
  obtain ⟨es, clock, h1, h2, h3⟩ := h.mp
  have hb := h3.blk.2
  have hn := mpL_nodup h1 h2
  obtain ⟨i, hi, hz⟩ := hz.ok
  have hzr : (zeroValue et).run P W = .ok z W := by simp [zeroValue, typeInfo, hi, hz]
  rcases hK.find W a es.toList (mpL_keys h1) with ⟨h4, h5⟩ | ⟨j, e0, h4, h5, h6⟩
  · have e1 : mget l a = none := mget_none.2 fun p hp e => by
      have : (K p.1, p.2) ∈ es.toList.map (fun e => (e.key, e.val)) := by rw [h1]; exact List.mem_map.2 ⟨p, hp, rfl⟩
      obtain ⟨x, hx, he⟩ := List.mem_map.1 this
      exact h5 x hx (by rw [← e]; exact congrArg Prod.fst he)
    rw [e1]
    simp [Instr.lookup, run_underlying hT.ok, MapKept.run_getObj_map hb, hK.check W _ a, h4, hzr, Result.andThen]
  · obtain ⟨p, hp, hp1, hp2⟩ := mpL_at h1 h5
    have : p.1 = a := hK.inj (by rw [← hp1, h6])
    have e1 : mget l a = some e0.val := by rw [hp2]; subst this; exact mget_at hn hp
    rw [e1]
    simp [Instr.lookup, run_underlying hT.ok, MapKept.run_getObj_map hb, hK.check W _ a, h4, Result.andThen]
theorem lkp [hT : MapT P t kt et] [hK : KeyT P kt K] {z : Value} [hz : TyZ P et z] (a : κ) {k : Value → World → Prop} (h : St W0 L W) [hm : Tk (Eng.mp K r) L l L'] (hk : k ((mget l a).getD z) W) : rdK P (Instr.lookup t (.map (some r)) (K a) false) k W :=
  ⟨_, by rw [lookup_run (a := a) false (h.perm hm.perm)]; rfl, hk⟩
theorem lkpOk [hT : MapT P t kt et] [hK : KeyT P kt K] {z : Value} [hz : TyZ P et z] (a : κ) {k : Value → World → Prop} (h : St W0 L W) [hm : Tk (Eng.mp K r) L l L'] (hk : k (.tuple #[(mget l a).getD z, .bool (mget l a).isSome]) W) : rdK P (Instr.lookup t (.map (some r)) (K a) true) k W :=
  ⟨_, by rw [lookup_run (a := a) true (h.perm hm.perm)]; rfl, hk⟩
theorem stb_lkp [hT : MapT P t kt et] [hK : KeyT P kt K] {z : Value} [hz : TyZ P et z] (a : κ) {ii : Nat} {bb : Bool} {hl : List HoldV} {R : World → Prop} (h : St W0 L W) [hm : Tk (Eng.mp K r) L l L'] (hk : stb P hl R W) :
    stb P ((ii, bb, Instr.lookup t (.map (some r)) (K a) false, (mget l a).getD z) :: hl) R W := ⟨fun _ => by rw [lookup_run (a := a) false (h.perm hm.perm)]; rfl, hk⟩
theorem mset [hT : MapT P t kt et] [hK : KeyT P kt K] (a : κ) {v : Value} {k : Unit → World → Prop} (h : St W0 L W) [hm : Tk (Eng.mp K r) L l L'] (hk : ∀ W', St W0 (Eng.mp K r (mput l a v) :: L') W' → k () W') : efK P (Instr.mapUpdate t (.map (some r)) (K a) v) k W := by
  obtain ⟨es, clock, h1, h2, h3⟩ := (h.perm hm.perm).mp
  have hb := h3.blk.2
  have hn := mpL_nodup h1 h2
  rcases hK.find W a es.toList (mpL_keys h1) with ⟨h4, h5⟩ | ⟨j, e0, h4, h5, h6⟩
  · have hne : ∀ p ∈ l, p.1 ≠ a := fun p hp e => by
      have : (K p.1, p.2) ∈ es.toList.map (fun e => (e.key, e.val)) := by rw [h1]; exact List.mem_map.2 ⟨p, hp, rfl⟩
      obtain ⟨x, hx, he⟩ := List.mem_map.1 this
      exact h5 x hx (by rw [← e]; exact congrArg Prod.fst he)
    refine ⟨(), { W with heap := W.heap.setIfInBounds r (.map (es.push ⟨K a, v, clock⟩) (clock + 1)) }, by simp [Instr.mapUpdate, run_underlying hT.ok, MapKept.run_getObj_map hb, hK.check W false a, h4, MapKept.run_setObj_map _ hb, Result.andThen], hk _ ?_⟩
    refine (h3.setBlk (.map (es.push ⟨K a, v, clock⟩) (clock + 1))).ent (mp_ent ?_ (stamped_push h2 h5))
    rw [mput_new hne]
    have h1' : _ = _ := h1
    simp only [mpL, Array.toList_push, List.map_append, h1']
    rfl
  · obtain ⟨p, hp, hp1, hp2⟩ := mpL_at h1 h5
    have hpa : p.1 = a := hK.inj (by rw [← hp1, h6])
    have hj : es[j]? = some e0 := by simpa using h5
    refine ⟨(), { W with heap := W.heap.setIfInBounds r (.map (es.modify j fun e => { e with key := K a, val := v }) clock) }, by simp [Instr.mapUpdate, run_underlying hT.ok, MapKept.run_getObj_map hb, hK.check W false a, h4, hj, h6, hK.stays W a, MapKept.run_setObj_map _ hb, Result.andThen], hk _ ?_⟩
    refine (h3.setBlk (.map (es.modify j fun e => { e with key := K a, val := v }) clock)).ent (mp_ent ?_ (stamped_modify h2 _ _ (fun _ _ => rfl) (fun e' _ he' => by rw [hj] at he'; cases he'; exact h6.symm)))
    subst hpa
    rw [mput_at hn hp]
    have h1' : _ = _ := h1
    simp only [mpL, Array.toList_modify, modify_eq_set _ _ _ _ h5, List.map_set, h1']
theorem mdelete [hT : MapT P t kt et] [hK : KeyT P kt K] (a : κ) {ty : TypeId} {k : Value → World → Prop} (h : St W0 L W) [hm : Tk (Eng.mp K r) L l L'] (hk : ∀ W', St W0 (Eng.mp K r (mdel l a) :: L') W' → k (.tuple #[]) W') : efK P (Builtin.delete_ #[t, kt] ty #[.map (some r), K a]) k W := by
  obtain ⟨es, clock, h1, h2, h3⟩ := (h.perm hm.perm).mp
  have hb := h3.blk.2
  have hn := mpL_nodup h1 h2
  rcases hK.find W a es.toList (mpL_keys h1) with ⟨h4, h5⟩ | ⟨j, e0, h4, h5, h6⟩
  · have hne : ∀ p ∈ l, p.1 ≠ a := fun p hp e => by
      have : (K p.1, p.2) ∈ es.toList.map (fun e => (e.key, e.val)) := by rw [h1]; exact List.mem_map.2 ⟨p, hp, rfl⟩
      obtain ⟨x, hx, he⟩ := List.mem_map.1 this
      exact h5 x hx (by rw [← e]; exact congrArg Prod.fst he)
    refine ⟨.tuple #[], { W with heap := W.heap.setIfInBounds r (.map es clock) }, by simp [Builtin.delete_, run_underlying hT.ok, MapKept.run_getObj_map hb, hK.check W _ a, h4, MapKept.run_setObj_map _ hb, Result.andThen], hk _ ?_⟩
    refine (h3.setBlk (.map es clock)).ent (mp_ent ?_ h2)
    rw [mdel_none hne]; exact h1
  · obtain ⟨p, hp, hp1, hp2⟩ := mpL_at h1 h5
    have hpa : p.1 = a := hK.inj (by rw [← hp1, h6])
    have hjs : j < es.size := by have := (List.getElem?_eq_some_iff.1 h5).1; simpa using this
    refine ⟨.tuple #[], { W with heap := W.heap.setIfInBounds r (.map (es.eraseIdxIfInBounds j) clock) }, by simp [Builtin.delete_, run_underlying hT.ok, MapKept.run_getObj_map hb, hK.check W _ a, h4, MapKept.run_setObj_map _ hb, Result.andThen], hk _ ?_⟩
    refine (h3.setBlk (.map (es.eraseIdxIfInBounds j) clock)).ent (mp_ent ?_ (stamped_erase h2 j))
    subst hpa
    rw [mdel_at hn hp]
    have hsub : (es.eraseIdxIfInBounds j).toList = es.toList.eraseIdx j := by
      unfold Array.eraseIdxIfInBounds
      rw [dif_pos hjs]
      simp
    have h1' : _ = _ := h1
    simp only [mpL, hsub, map_eraseIdx, h1']
end

/-! ### a walk over a map: the map and its iterator together; 'rem' is what is still to come, 'cur' what came last -/
def mpiF {κ : Type} (K : κ → Value) (l rem : List (κ × Value)) (cur : Option (κ × Value)) (es : Array MapEntry) (clock : Nat) (seen : Array Nat) : Prop :=
  mpL K l es ∧ Stamped es clock ∧ (leftOf es seen).toList.map (fun e => (e.key, e.val)) = rem.map (fun p => (K p.1, p.2)) ∧ ∀ p, cur = some p → ∃ e ∈ es.toList, ∃ seen' : Array Nat, seen = seen'.push e.born ∧ e.key = K p.1 ∧ e.val = p.2
def mpi {κ : Type} (K : κ → Value) (r b : Nat) (l rem : List (κ × Value)) (cur : Option (κ × Value)) : Asn := fun h => ∃ x : Array MapEntry × Nat × Array Nat,
  mpiF K l rem cur x.1 x.2.1 x.2.2 ∧ sep [blk r (.map x.1 x.2.1), blk b (.mapIter (some r) x.2.1 x.2.2 x.2.1)] h
/-- where the walk stands -/
class Mi (b : Nat) (L : List Asn) {κ : outParam Type} (K : outParam (κ → Value)) (r : outParam Nat) (l rem : outParam (List (κ × Value))) (cur : outParam (Option (κ × Value))) (L' : outParam (List Asn)) : Prop where
  perm : L.Perm (mpi K r b l rem cur :: L')
instance (priority := high) Mi.here (b : Nat) {κ : Type} (K : κ → Value) (r : Nat) (l rem : List (κ × Value)) (cur : Option (κ × Value)) (L : List Asn) : Mi b (mpi K r b l rem cur :: L) K r l rem cur L := ⟨.refl _⟩
instance Mi.there (b : Nat) (x : Asn) {κ : Type} (K : κ → Value) (r : Nat) (l rem : List (κ × Value)) (cur : Option (κ × Value)) (L L' : List Asn) [h : Mi b L K r l rem cur L'] : Mi b (x :: L) K r l rem cur (x :: L') := ⟨(h.perm.cons x).trans (List.Perm.swap _ _ _)⟩
section
variable {κ : Type} {K : κ → Value} {P : Program} {W0 W W' : World} {L L' : List Asn} {t kt et : TypeId} {r b : Nat} {l rem : List (κ × Value)} {cur : Option (κ × Value)}
theorem St.mpi (h : St W0 (Eng.mpi K r b l rem cur :: L) W) : ∃ es clock seen, mpiF K l rem cur es clock seen ∧ St W0 (Eng.blk r (.map es clock) :: Eng.blk b (.mapIter (some r) clock seen clock) :: L) W := by
  obtain ⟨⟨es, clock, seen⟩, h⟩ := h.ex
  obtain ⟨h1, h⟩ := h.fact
  exact ⟨es, clock, seen, h1, h.flat⟩
theorem mpi_ent {es : Array MapEntry} {clock : Nat} {seen : Array Nat} (h : mpiF K l rem cur es clock seen) : ent (Eng.blk r (.map es clock) :: Eng.blk b (.mapIter (some r) clock seen clock) :: L) (Eng.mpi K r b l rem cur :: L) :=
  (ent.pack [_, _] L).trans (ent.weak fun _ hp => ⟨(es, clock, seen), h, hp⟩)
theorem St.mpiEnd (h : St W0 (Eng.mpi K r b l rem cur :: L) W) : St W0 (Eng.mp K r l :: L) W := by
  obtain ⟨es, clock, seen, ⟨h1, h2, _⟩, h⟩ := h.mpi
  exact h.drop2.ent (mp_ent h1 h2)
theorem rangeM [hT : MapT P t kt et] {k : Value → World → Prop} (h : St W0 L W) [hm : Tk (Eng.mp K r) L l L'] (hk : ∀ b W', St W0 (Eng.mpi K r b l l none :: L') W' → k (.pointer (some ⟨b, 0, none⟩)) W') : efK P (Instr.range t (.map (some r))) k W := by
  obtain ⟨es, clock, h1, h2, h3⟩ := (h.perm hm.perm).mp
  have hb := h3.blk.2
  refine ⟨.pointer (some ⟨W.heap.size, 0, none⟩), W.alloc (.mapIter (some r) clock #[] clock), ?_, hk _ _ ?_⟩
  · simp [Instr.range, run_underlying hT.ok, MapKept.run_getObj_map hb, Result.andThen]
  · refine ((h3.alloc (.mapIter (some r) clock #[] clock)).ent (ent.swap _ _ _)).ent (mpi_ent ⟨h1, h2, ?_, fun p hp => by cases hp⟩)
    rw [← h1]
    simp only [leftOf, Array.toList_filter]
    rw [List.filter_eq_self.2 (by simp)]
theorem nextM {ty : TypeId} {k : Value → World → Prop} (h : St W0 L W) [hm : Mi b L K r l rem cur L'] (h0 : rem = [] → k (.tuple #[.bool false]) W)
    (h1 : ∀ pre a v post W', rem = pre ++ (a, v) :: post → St W0 (Eng.mpi K r b l (pre ++ post) (some (a, v)) :: L') W' → k (.tuple #[.bool true, K a, v]) W') : efK P (Instr.next (.pointer (some ⟨b, 0, none⟩)) false ty) k W := by
  obtain ⟨es, clock, seen, ⟨e1, e2, e3, e4⟩, h3⟩ := (h.perm hm.perm).mpi
  have hb := h3.blk.2
  have hr := (h3.ent (ent.swap _ _ _)).blk.2
  rcases run_next_at (P := P) W ty b r clock clock seen es clock hr hb e2.1 (Nat.le_refl _) with ⟨h4, h5⟩ | ⟨e, he, w1, hw1, h5⟩
  · refine ⟨_, _, h5, h0 ?_⟩
    have : (leftOf es seen).toList = [] := by rw [Array.eq_empty_of_size_eq_zero h4]
    rw [this] at e3
    simpa using e3.symm
  · obtain ⟨A, B, hAB⟩ := List.append_of_mem he
    rw [hAB, List.map_append, List.map_cons] at e3
    obtain ⟨pre, tl, e5, e6, e7⟩ := List.append_eq_map_iff.1 e3
    obtain ⟨p, post, e8, e9, e10⟩ := List.map_eq_cons_iff.1 e7
    subst e8
    obtain ⟨a, v⟩ := p
    simp only [Prod.mk.injEq] at e9
    refine ⟨_, _, h5, ?_⟩
    rw [← e9.1, ← e9.2]
    refine h1 pre a v post _ e5 ?_
    have h3' : St W0 (Eng.blk r (.map es clock) :: Eng.blk b (.mapIter (some r) clock seen clock) :: L') w1 := by
      rcases hw1 with rfl | rfl
      · exact h3
      · exact tape_drew h3
    have h6 := ((h3'.ent (ent.swap _ _ _)).setBlk (.mapIter (some r) clock (seen.push e.born) clock)).ent (ent.swap _ _ _)
    refine h6.ent (mpi_ent ⟨e1, e2, ?_, ?_⟩)
    · rw [List.map_append, e6, e10, ← List.map_append]
      congr 1
      have hn : ((leftOf es seen).toList.map (·.born)).Nodup := by
        simp only [leftOf, Array.toList_filter]
        exact (List.Sublist.map _ (List.filter_sublist)).nodup e2.2.1
      rw [hAB] at hn
      have hl : (leftOf es (seen.push e.born)).toList = (leftOf es seen).toList.filter fun x => x.born != e.born := by
        simp only [leftOf, Array.toList_filter, List.filter_filter]
        congr 1
        funext x
        by_cases hx : x.born = e.born
        · simp [hx]
        · simp [hx, Ne.symm hx]
      rw [hl, hAB, List.filter_append, List.filter_cons]
      simp only [bne_self_eq_false, Bool.false_eq_true, if_false]
      simp only [List.map_append, List.map_cons, List.nodup_append, List.nodup_cons] at hn
      rw [List.filter_eq_self.2, List.filter_eq_self.2]
      · intro x hx
        have : x.born ≠ e.born := fun h => hn.2.1.1 (List.mem_map.2 ⟨x, hx, h⟩)
        simp [this]
      · intro x hx
        have : x.born ≠ e.born := hn.2.2 x.born (List.mem_map.2 ⟨x, hx, rfl⟩) e.born (by simp)
        simp [this]
    · rintro p hp
      cases hp
      refine ⟨e, ?_, seen, rfl, e9.1.symm, e9.2.symm⟩
      have : e ∈ (leftOf es seen).toList := he
      simp only [leftOf, Array.toList_filter, List.mem_filter] at this
      exact this.1
theorem entryM {a : κ} {v : Value} {k : Value → World → Prop} (h : St W0 L W) [hm : Mi b L K r l rem (some (a, v)) L'] (hk : k (.tuple #[K a, v]) W) : efK P (Instr.entry (.pointer (some ⟨b, 0, none⟩))) k W := by
  obtain ⟨es, clock, seen, ⟨e1, e2, e3, e4⟩, h3⟩ := (h.perm hm.perm).mpi
  obtain ⟨e, he, seen', rfl, e5, e6⟩ := e4 _ rfl
  have hb := h3.blk.2
  have hr := (h3.ent (ent.swap _ _ _)).blk.2
  refine ⟨_, _, run_entry_at W b r clock seen' es clock e hr hb he e2.2.1, ?_⟩
  rw [e5, e6]; exact hk
end
end Go.Eng
namespace Go.Eng
set_option linter.unusedVariables false
set_option linter.unusedSimpArgs false
open Go Go.RowKit

def many {β : Type} (F : β → Asn) (l : List β) : Asn := sep (l.map F)
section
variable {κ β γ : Type} [DecidableEq κ] {F : β → Asn} {L : List Asn}
theorem mget_map (g : β → γ) (l : List (κ × β)) (a : κ) : mget (l.map fun p => (p.1, g p.2)) a = (mget l a).map g := by
  induction l with
  | nil => rfl
  | cons p l ih =>
    by_cases h : p.1 = a
    · simp [mget, h]
    · simp [mget, h, ih]
theorem mput_map (g : β → γ) (l : List (κ × β)) (a : κ) (b : β) : mput (l.map fun p => (p.1, g p.2)) a (g b) = (mput l a b).map fun p => (p.1, g p.2) := by
  induction l with
  | nil => rfl
  | cons p l ih =>
    by_cases h : p.1 = a
    · simp [mput, h]
    · simp [mput, h, ih]
theorem mdel_map (g : β → γ) (l : List (κ × β)) (a : κ) : mdel (l.map fun p => (p.1, g p.2)) a = (mdel l a).map fun p => (p.1, g p.2) := by
  induction l with
  | nil => rfl
  | cons p l ih =>
    by_cases h : p.1 = a
    · simp [mdel, h]
    · simp [mdel, h, ih]
theorem mget_mput (l : List (κ × β)) (a b : κ) (v : β) : mget (mput l a v) b = if a = b then some v else mget l b := by
  induction l with
  | nil => simp [mput, mget]
  | cons p l ih =>
    by_cases h : p.1 = a
    · subst h
      by_cases hb : p.1 = b
      · simp [mput, mget, hb]
      · simp [mput, mget, hb]
    · by_cases hb : p.1 = b
      · subst hb
        simp [mput, mget, h, Ne.symm h]
      · simp [mput, mget, h, hb, ih]
theorem mdel_perm {l : List (κ × β)} {a : κ} {b : β} (h : mget l a = some b) : l.Perm ((a, b) :: mdel l a) := by
  induction l with
  | nil => cases h
  | cons p l ih =>
    obtain ⟨x, y⟩ := p
    by_cases hx : x = a
    · subst hx
      simp only [mget, if_true, Option.some.injEq] at h
      subst h
      simp [mdel]
    · simp only [mget, if_neg hx] at h
      simp only [mdel, if_neg hx]
      exact ((ih h).cons _).trans (List.Perm.swap _ _ _)
theorem mdel_put_perm (l : List (κ × β)) (a : κ) (b : β) : ((a, b) :: mdel l a).Perm (mput l a b) := by
  induction l with
  | nil => exact .refl _
  | cons p l ih =>
    by_cases h : p.1 = a
    · simp [mdel, mput, h]
    · simp only [mdel, mput, if_neg h]
      exact (List.Perm.swap _ _ _).trans (ih.cons _)
theorem many_cons (b : β) (l : List β) : ent (many F (b :: l) :: L) (F b :: many F l :: L) := (ent.flat (F b :: l.map F) L).trans (ent.cons _ (ent.pack _ _))
theorem many_uncons (b : β) (l : List β) : ent (F b :: many F l :: L) (many F (b :: l) :: L) := (ent.cons _ (ent.flat (l.map F) L)).trans (ent.pack (F b :: l.map F) L)
theorem many_nil : ent L (many F ([] : List β) :: L) := ent.emp fun _ => rfl
theorem many_perm {l l' : List β} (h : l.Perm l') : ent (many F l :: L) (many F l' :: L) := ent.weak fun _ hp => sep_perm (h.map F) hp
/-- what stands at a key is taken out (nothing, if nothing stands there) -/
theorem many_take {l : List (κ × β)} (a : κ) (b0 : β) (h0 : ∀ L, ent L (F b0 :: L)) : ent (many F (l.map (·.2)) :: L) (F ((mget l a).getD b0) :: many F ((mdel l a).map (·.2)) :: L) := by
  cases h : mget l a with
  | none =>
    rw [mdel_none (mget_none.1 h)]
    exact h0 _
  | some b => exact (many_perm ((mdel_perm h).map (·.2))).trans (many_cons _ _)
theorem many_put {l : List (κ × β)} (a : κ) (b : β) : ent (F b :: many F ((mdel l a).map (·.2)) :: L) (many F ((mput l a b).map (·.2)) :: L) :=
  (many_uncons b _).trans (many_perm (List.Perm.map (fun x : κ × β => x.2) (mdel_put_perm l a b)))
end

/-- a slice of bytes, as it lies -/
structure BSl where
  a : Option Addr
  c : Nat
  bs : List UInt8
abbrev BSl.v (x : BSl) : Value := .slice x.a x.bs.length x.c
end Go.Eng
