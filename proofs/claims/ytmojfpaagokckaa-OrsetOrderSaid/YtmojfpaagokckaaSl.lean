/-
  Own engine: rows that are owned and grow; what may be read.
-/
import Derived.Test.YtmojfpaagokckaaRul
import Derived.Laws.AppendOwn
import Derived.Laws.IdiomStrings
namespace Go.Eng
set_option linter.unusedVariables false
set_option linter.unusedSimpArgs false
open Go Go.RowKit

/-! ### entailment of chunk lists -/
def ent (L L' : List Asn) : Prop := ∀ p, sep L p → sep L' p
theorem ent.refl (L : List Asn) : ent L L := fun _ h => h
theorem ent.trans {L L' L'' : List Asn} (h : ent L L') (h' : ent L' L'') : ent L L'' := fun p hp => h' p (h p hp)
theorem ent.cons {L L' : List Asn} (x : Asn) (h : ent L L') : ent (x :: L) (x :: L') := fun _ ⟨h1, h2, hd, hj, ha, hl⟩ => ⟨h1, h2, hd, hj, ha, h _ hl⟩
theorem ent.perm {L L' : List Asn} (h : L.Perm L') : ent L L' := fun _ hp => sep_perm h hp
theorem ent.weak {L : List Asn} {a a' : Asn} (h : ∀ p, a p → a' p) : ent (a :: L) (a' :: L) := fun _ ⟨h1, h2, hd, hj, ha, hl⟩ => ⟨h1, h2, hd, hj, h _ ha, hl⟩
theorem ent.swap (a b : Asn) (L : List Asn) : ent (a :: b :: L) (b :: a :: L) := fun _ h => sep_swap h
theorem ent.rot3 (a b c : Asn) (L : List Asn) : ent (a :: b :: c :: L) (b :: c :: a :: L) := (ent.swap a b _).trans (ent.cons b (ent.swap a c L))
theorem ent.rot3' (a b c : Asn) (L : List Asn) : ent (a :: b :: c :: L) (c :: a :: b :: L) := (ent.cons a (ent.swap b c L)).trans (ent.swap a c _)
theorem ent.rev3 (a b c : Asn) (L : List Asn) : ent (a :: b :: c :: L) (c :: b :: a :: L) := (ent.rot3 a b c L).trans (ent.swap b c _)
theorem ent.emp {L : List Asn} {a : Asn} (h : a fun _ => none) : ent L (a :: L) := fun p hp =>
  ⟨fun _ => none, p, fun x => .inl rfl, by funext x; simp [PH.join], h, hp⟩
theorem ent.pack (l L : List Asn) : ent (l ++ L) (sep l :: L) := fun _ hp => by
  obtain ⟨h1, h2, hd, hj, h3, h4⟩ := sep_append.1 hp
  exact ⟨h1, h2, hd, hj, h3, h4⟩
theorem ent.flat (l L : List Asn) : ent (sep l :: L) (l ++ L) := fun _ ⟨h1, h2, hd, hj, h3, h4⟩ => sep_append.2 ⟨h1, h2, hd, hj, h3, h4⟩
theorem St.ent {W0 W : World} {L L' : List Asn} (h : St W0 L W) (he : Eng.ent L L') : St W0 L' W := by
  obtain ⟨hb, p, hs, ho⟩ := h
  exact ⟨hb, p, he _ hs, ho⟩

/-! ### how a thing lies in cells -/
structure Ly (α : Type) where
  sz : Nat
  pos : 0 < sz
  row : α → List Value
  len : ∀ a, (row a).length = sz
  one : ∀ a, (row a).all oneC = true
def Ly.rows {α : Type} (A : Ly α) (l : List α) : List Value := l.flatMap A.row
section
variable {α : Type} {A : Ly α}
@[simp] theorem Ly.rows_nil : A.rows [] = [] := rfl
theorem Ly.rows_cons {a : α} {l : List α} : A.rows (a :: l) = A.row a ++ A.rows l := by simp [Ly.rows]
theorem Ly.rows_app {l m : List α} : A.rows (l ++ m) = A.rows l ++ A.rows m := by simp [Ly.rows]
theorem Ly.rows_len {l : List α} : (A.rows l).length = l.length * A.sz := by
  induction l with
  | nil => simp
  | cons a l ih => rw [Ly.rows_cons, List.length_append, ih, A.len, List.length_cons, Nat.succ_mul, Nat.add_comm]
theorem Ly.rows_drop {l : List α} : ∀ k, (A.rows l).drop (k * A.sz) = A.rows (l.drop k) := by
  induction l with
  | nil => simp
  | cons a l ih =>
    intro k
    cases k with
    | zero => simp
    | succ k =>
      rw [Ly.rows_cons, Nat.succ_mul, Nat.add_comm, ← List.drop_drop, List.drop_left' (A.len a), ih]
      rfl
theorem Ly.rows_take {l : List α} : ∀ k, (A.rows l).take (k * A.sz) = A.rows (l.take k) := by
  induction l with
  | nil => simp
  | cons a l ih =>
    intro k
    cases k with
    | zero => simp
    | succ k =>
      rw [Ly.rows_cons, Nat.succ_mul, Nat.add_comm, List.take_add, List.take_left' (A.len a), List.drop_left' (A.len a), ih, List.take_succ_cons, Ly.rows_cons]
theorem Ly.rows_at {l : List α} {i : Nat} (hi : i < l.length) : ((A.rows l).drop (i * A.sz)).take A.sz = A.row l[i] := by
  rw [Ly.rows_drop, List.drop_eq_getElem_cons hi, Ly.rows_cons, List.take_left' (A.len _)]
theorem Ly.rows_one {l : List α} : (A.rows l).all oneC = true := by
  induction l with
  | nil => rfl
  | cons a l ih => rw [Ly.rows_cons, List.all_append, A.one, ih]; rfl
theorem Ly.rows_set {l : List α} {i : Nat} {x : α} (hi : i < l.length) : A.rows (l.set i x) = (A.rows l).take (i * A.sz) ++ A.row x ++ (A.rows l).drop (i * A.sz + A.sz) := by
  rw [List.set_eq_take_append_cons_drop, if_pos hi, Ly.rows_app, Ly.rows_cons, ← Ly.rows_take, ← Nat.succ_mul, Ly.rows_drop, List.append_assoc]
end

/-- a slice that is owned: the cells of its array, of which the first are what it holds -/
def arr {α : Type} (A : Ly α) (e : TypeId) (a : Option Addr) (c : Nat) (l : List α) : Asn := fun p =>
  l.length ≤ c ∧ c ≤ maxLen ∧ ((a = none ∧ c = 0 ∧ ∀ x, p x = none) ∨
    ∃ g o cur, a = some ⟨g, o, none⟩ ∧ o + c * A.sz ≤ cur.length ∧ (cur.drop o).take (l.length * A.sz) = A.rows l ∧ cells g cur e p)

section
variable {α : Type} {A : Ly α} {P : Program} {W0 W W' : World} {L L' : List Asn} {e : TypeId} {a : Option Addr} {c : Nat} {l : List α}

theorem arr_nil (A : Ly α) (e : TypeId) : ent L (arr A e none 0 [] :: L) := ent.emp ⟨Nat.le_refl _, Nat.zero_le _, .inl ⟨rfl, rfl, fun _ => rfl⟩⟩
theorem St.arrFacts (h : St W0 (arr A e a c l :: L) W) : l.length ≤ c ∧ c ≤ maxLen ∧ (a = none → c = 0) ∧ (0 < c → ∃ g o, a = some ⟨g, o, none⟩) := by
  obtain ⟨hb, p, ⟨h1, h2, hd, hj, ⟨h3, h4, h5⟩, hl⟩, ho⟩ := h
  refine ⟨h3, h4, ?_, ?_⟩
  · rintro rfl
    rcases h5 with ⟨_, h, _⟩ | ⟨g, o, cur, h, _⟩
    · exact h
    · cases h
  · intro hc
    rcases h5 with ⟨_, h, _⟩ | ⟨g, o, cur, h, _⟩
    · omega
    · exact ⟨g, o, h⟩
theorem St.arrCells (h : St W0 (arr A e a c l :: L) W) (hc : a ≠ none) : ∃ g o cur, a = some ⟨g, o, none⟩ ∧ o + c * A.sz ≤ cur.length ∧ (cur.drop o).take (l.length * A.sz) = A.rows l ∧ St W0 (Eng.cells g cur e :: L) W := by
  obtain ⟨hb, p, ⟨h1, h2, hd, hj, ⟨h3, h4, h5⟩, hl⟩, ho⟩ := h
  rcases h5 with ⟨h, _, _⟩ | ⟨g, o, cur, h6, h7, h8, h9⟩
  · exact absurd h hc
  · exact ⟨g, o, cur, h6, h7, h8, hb, p, ⟨h1, h2, hd, hj, h9, hl⟩, ho⟩
theorem arr_of_cells {g o : Nat} {cur : List Value} (h1 : l.length ≤ c) (h2 : c ≤ maxLen) (h3 : o + c * A.sz ≤ cur.length) (h4 : (cur.drop o).take (l.length * A.sz) = A.rows l) :
    ent (Eng.cells g cur e :: L) (arr A e (some ⟨g, o, none⟩) c l :: L) := ent.weak fun p hp => ⟨h1, h2, .inr ⟨g, o, cur, rfl, h3, h4, hp⟩⟩
theorem arr_full {g : Nat} {l : List α} (h2 : l.length ≤ maxLen) : ent (Eng.cells g (A.rows l) e :: L) (arr A e (some ⟨g, 0, none⟩) l.length l :: L) :=
  arr_of_cells (Nat.le_refl _) h2 (by rw [Ly.rows_len]; omega) (by rw [List.drop_zero, ← Ly.rows_len, List.take_length])
/-- a cut of an owned slice: the rest of the array is let go -/
theorem arr_cut (lo hi m : Nat) (h1 : lo ≤ hi) (h2 : hi ≤ l.length) (h3 : hi ≤ m) (h4 : m ≤ c) : ∀ p, arr A e a c l p → arr A e (if m = lo then a else a.map (·.add (lo * A.sz))) (m - lo) ((l.take hi).drop lo) p := by
  rintro p ⟨h5, h6, h7⟩
  refine ⟨by simp; omega, by omega, ?_⟩
  rcases h7 with ⟨rfl, rfl, h7⟩ | ⟨g, o, cur, rfl, h8, h9, h10⟩
  · exact .inl ⟨by split <;> rfl, by omega, h7⟩
  · have hrow : ∀ k n, k + n ≤ l.length → (cur.drop (o + k * A.sz)).take (n * A.sz) = A.rows ((l.take (k + n)).drop k) := by
      intro k n hk
      have e1 : (cur.drop o).take ((k + n) * A.sz) = A.rows (l.take (k + n)) := by
        rw [← Ly.rows_take, ← h9, List.take_take, Nat.min_eq_left (Nat.mul_le_mul_right _ hk)]
      rw [← Ly.rows_drop, ← e1, List.drop_take, List.drop_drop, Nat.add_mul, Nat.add_sub_cancel_left]
    have hlen : ((l.take hi).drop lo).length = hi - lo := by simp; omega
    by_cases hm : m = lo
    · rw [if_pos hm]
      refine .inr ⟨g, o, cur, rfl, ?_, ?_, h10⟩
      · subst hm; simp; omega
      · rw [hlen, show hi - lo = 0 by omega]
        rw [show (l.take hi).drop lo = [] from List.eq_nil_of_length_eq_zero (by omega)]
        simp
    · rw [if_neg hm]
      refine .inr ⟨g, o + lo * A.sz, cur, by simp [add_none], ?_, ?_, h10⟩
      · have : (m - lo) * A.sz + lo * A.sz = m * A.sz := by rw [← Nat.add_mul]; congr 1; omega
        have := Nat.mul_le_mul_right A.sz h4
        omega
      · rw [hlen]
        have := hrow lo (hi - lo) (by omega)
        rw [show lo + (hi - lo) = hi by omega] at this
        exact this

/-! ### what may be read -/
def RdP (W0 : World) (L : List Asn) (a : Option Addr) (xs : List Value) : Prop := ∀ W, St W0 L W → xs = [] ∨ ∃ g o, a = some ⟨g, o, none⟩ ∧ ro W g o xs
class Rd (W0 : World) (L : List Asn) (a : Option Addr) {α : outParam Type} (A : outParam (Ly α)) (l : outParam (List α)) : Prop where
  ok : RdP W0 L a (A.rows l)
theorem ro_cells {W0 W : World} {L : List Asn} {g : Nat} {cur : List Value} {e : TypeId} (h : St W0 (Eng.cells g cur e :: L) W) (o : Nat) : ro W g o (cur.drop o) := by
  intro j hj
  simp only [List.length_drop] at hj
  rw [(St.cellOf (L' := L) (b := g) (cs := cur) (T := e) h (o + j) (by omega)).1, List.getElem?_drop]
theorem ro_take {W : World} {g o : Nat} {xs : List Value} (h : ro W g o xs) (n : Nat) : ro W g o (xs.take n) := by
  intro j hj
  simp only [List.length_take] at hj
  rw [h j (by omega), List.getElem?_take_of_lt (by omega)]
theorem ro_drop {W : World} {g o : Nat} {xs : List Value} (h : ro W g o xs) (n : Nat) : ro W g (o + n) (xs.drop n) := by
  intro j hj
  simp only [List.length_drop] at hj
  rw [Nat.add_assoc, h (n + j) (by omega), List.getElem?_drop]
instance (priority := high) Rd.here (W0 : World) (L : List Asn) (a : Option Addr) {α : Type} (A : Ly α) (e : TypeId) (c : Nat) (l : List α) : Rd W0 (arr A e a c l :: L) a A l := ⟨fun W h => by
  by_cases ha : a = none
  · have := h.arrFacts
    left
    rw [show l = [] from List.eq_nil_of_length_eq_zero (by have := this.2.2.1 ha; omega)]
    rfl
  · obtain ⟨g, o, cur, rfl, h1, h2, h3⟩ := h.arrCells ha
    right
    exact ⟨g, o, rfl, h2 ▸ ro_take (ro_cells h3 o) _⟩⟩
instance Rd.there (W0 : World) (x : Asn) (L : List Asn) (a : Option Addr) {α : Type} (A : Ly α) (l : List α) [hr : Rd W0 L a A l] : Rd W0 (x :: L) a A l := ⟨fun W h => hr.ok W h.drop⟩
theorem Rd.nil {α : Type} (A : Ly α) (W0 : World) (L : List Asn) (a : Option Addr) : Rd W0 L a A [] := ⟨fun _ _ => .inl rfl⟩
/-- of what was there at the beginning -/
theorem Rd.base {α : Type} {A : Ly α} {W0 : World} {L : List Asn} {a : Option Addr} {l : List α} (h : A.rows l = [] ∨ ∃ g o, a = some ⟨g, o, none⟩ ∧ ro W0 g o (A.rows l)) : Rd W0 L a A l := ⟨fun W hs => by
  rcases h with h | ⟨g, o, rfl, h⟩
  · exact .inl h
  · refine .inr ⟨g, o, rfl, fun j hj => ?_⟩
    have h0 := h j hj
    have hlt : g < W0.heap.size := by
      rw [List.getElem?_eq_getElem hj] at h0
      apply Classical.byContradiction
      intro hn
      simp [World.cell?, Array.getElem?_eq_none (show W0.heap.size ≤ g by omega)] at h0
    rw [hs.below.cell hlt]; exact h0⟩
theorem Rd.cut {a : Option Addr} {l : List α} [hr : Rd W0 L a A l] (lo hi m : Nat) (h1 : lo ≤ hi) (h2 : hi ≤ l.length) (h3 : hi ≤ m) :
    Rd W0 L (if m = lo then a else a.map (·.add (lo * A.sz))) A ((l.take hi).drop lo) := ⟨fun W h => by
  rcases hr.ok W h with h4 | ⟨g, o, rfl, h4⟩
  · left
    rw [← Ly.rows_drop, ← Ly.rows_take, h4]
    simp
  · by_cases hm : m = lo
    · left
      rw [show (l.take hi).drop lo = [] from List.eq_nil_of_length_eq_zero (by simp; omega)]
      rfl
    · right
      rw [if_neg hm]
      refine ⟨g, o + lo * A.sz, by simp [add_none], ?_⟩
      rw [← Ly.rows_drop, ← Ly.rows_take]
      exact ro_drop (ro_take h4 _) _⟩
theorem Rd.at (h : St W0 L W) [hr : Rd W0 L a A l] (hl : l ≠ []) : ∃ g o, a = some ⟨g, o, none⟩ ∧ ro W g o (A.rows l) := by
  rcases hr.ok W h with h4 | h4
  · cases l with
    | nil => exact absurd rfl hl
    | cons x l =>
      have := congrArg List.length h4
      rw [Ly.rows_len] at this
      have := A.pos
      simp only [List.length_cons, List.length_nil, Nat.succ_mul] at *
      omega
  · exact h4
theorem Rd.row {g o i : Nat} (h : St W0 L W) [hr : Rd W0 L (some ⟨g, o, none⟩) A l] (hi : i < l.length) : ro W g (o + i * A.sz) (A.row l[i]) := by
  obtain ⟨g', o', he, h1⟩ := Rd.at (A := A) (l := l) (a := some ⟨g, o, none⟩) h (fun e => by subst e; simp at hi)
  cases he
  rw [← Ly.rows_at hi]
  exact ro_take (ro_drop h1 _) _

/-- where an element stands -/
theorem ixA {sz n i : Nat} {k : IntKind} {K : Value → Prop} (h : St W0 L W) [hr : Rd W0 L a A l] (hs : A.sz = sz) (hn : n = l.length) (hi : i < l.length)
    (hk : ∀ g o, a = some ⟨g, o, none⟩ → K (.pointer (some ⟨g, o + i * sz, none⟩))) : okF (idxS sz (.slice a n c) (.int k i)) K := by
  obtain ⟨g, o, rfl, _⟩ := Rd.at (A := A) (l := l) (a := a) h (fun e => by subst e; simp at hi)
  refine okF_i (idxS_blk (by omega) (by omega)) ?_
  rw [Int.toNat_natCast]
  exact hk g o rfl
theorem loadAt_row {t : TypeId} {agg : Bool} {tsz : Nat} [ht : TyI P t agg tsz] {b o j : Nat} {cs : List Value} {v : Value} (hc : ro W b o cs) (hv : getL agg cs j tsz = some v) (hsz : agg = true → j + tsz ≤ cs.length) :
    (Instr.loadAt t (.pointer (some ⟨b, o + j, none⟩))).run P W = .ok v W := loadAt_ro (St.start W) hc hv hsz
theorem lgetL {agg : Bool} {cs : List Value} {j tsz : Nat} {v : Value} (hsz : (if agg then j + tsz ≤ cs.length else True)) : agg = true → j + tsz ≤ cs.length := by
  intro h; subst h; simpa using hsz
/-- an element's part is read -/
theorem ldA {t : TypeId} {agg : Bool} {tsz : Nat} [ht : TyI P t agg tsz] {g o i j sz : Nat} {v : Value} {k : Value → World → Prop} (h : St W0 L W) [hr : Rd W0 L (some ⟨g, o, none⟩) A l] (hs : A.sz = sz) (hi : i < l.length)
    (hv : getL agg (A.row l[i]) j tsz = some v) (hsz : agg = true → j + tsz ≤ sz) (hk : k v W) : rdK P (Instr.loadAt t (.pointer (some ⟨g, o + i * sz + j, none⟩))) k W :=
  ⟨v, by subst hs; exact loadAt_row (Rd.row h hi) hv (by rw [A.len]; exact hsz), hk⟩
theorem ldA0 {t : TypeId} {agg : Bool} {tsz : Nat} [ht : TyI P t agg tsz] {g o i sz : Nat} {v : Value} {k : Value → World → Prop} (h : St W0 L W) [hr : Rd W0 L (some ⟨g, o, none⟩) A l] (hs : A.sz = sz) (hi : i < l.length)
    (hv : getL agg (A.row l[i]) 0 tsz = some v) (hsz : agg = true → tsz ≤ sz) (hk : k v W) : rdK P (Instr.loadAt t (.pointer (some ⟨g, o + i * sz, none⟩))) k W :=
  ⟨v, by subst hs; exact loadAt_row (j := 0) (Rd.row h hi) hv (by rw [A.len]; simpa using hsz), hk⟩
theorem ldA_run {t : TypeId} {agg : Bool} {tsz : Nat} [ht : TyI P t agg tsz] {g o i j sz : Nat} {v : Value} (h : St W0 L W) [hr : Rd W0 L (some ⟨g, o, none⟩) A l] (hs : A.sz = sz) (hi : i < l.length)
    (hv : getL agg (A.row l[i]) j tsz = some v) (hsz : agg = true → j + tsz ≤ sz) : (Instr.loadAt t (.pointer (some ⟨g, o + i * sz + j, none⟩))).run P W = .ok v W := by
  subst hs; exact loadAt_row (Rd.row h hi) hv (by rw [A.len]; exact hsz)
theorem stb_ldA {t : TypeId} {agg : Bool} {tsz : Nat} [ht : TyI P t agg tsz] {g o i j sz : Nat} {v : Value} {ii : Nat} {bb : Bool} {hl : List HoldV} {R : World → Prop} (h : St W0 L W) [hr : Rd W0 L (some ⟨g, o, none⟩) A l] (hs : A.sz = sz) (hi : i < l.length)
    (hv : getL agg (A.row l[i]) j tsz = some v) (hsz : agg = true → j + tsz ≤ sz) (hk : stb P hl R W) : stb P ((ii, bb, Instr.loadAt t (.pointer (some ⟨g, o + i * sz + j, none⟩)), v) :: hl) R W :=
  ⟨fun _ => ldA_run h hs hi hv hsz, hk⟩
theorem stb_ldA0 {t : TypeId} {agg : Bool} {tsz : Nat} [ht : TyI P t agg tsz] {g o i sz : Nat} {v : Value} {ii : Nat} {bb : Bool} {hl : List HoldV} {R : World → Prop} (h : St W0 L W) [hr : Rd W0 L (some ⟨g, o, none⟩) A l] (hs : A.sz = sz) (hi : i < l.length)
    (hv : getL agg (A.row l[i]) 0 tsz = some v) (hsz : agg = true → tsz ≤ sz) (hk : stb P hl R W) : stb P ((ii, bb, Instr.loadAt t (.pointer (some ⟨g, o + i * sz, none⟩)), v) :: hl) R W :=
  ⟨fun _ => ldA_run (j := 0) h hs hi hv (by simpa using hsz), hk⟩

/-! ### to own -/
class Own (a : Option Addr) (L : List Asn) {α : outParam Type} (A : outParam (Ly α)) (e : outParam TypeId) (c : outParam Nat) (l : outParam (List α)) (L' : outParam (List Asn)) : Prop where
  ent : Eng.ent L (arr A e a c l :: L')
instance (priority := high) Own.here (a : Option Addr) {α : Type} (A : Ly α) (e : TypeId) (c : Nat) (l : List α) (L : List Asn) : Own a (arr A e a c l :: L) A e c l L := ⟨ent.refl _⟩
instance Own.there (a : Option Addr) (x : Asn) (L : List Asn) {α : Type} (A : Ly α) (e : TypeId) (c : Nat) (l : List α) (L' : List Asn) [h : Own a L A e c l L'] : Own a (x :: L) A e c l (x :: L') := ⟨(ent.cons x h.ent).trans (ent.swap _ _ _)⟩
theorem St.took (h : St W0 L W) [ho : Own a L A e c l L'] : St W0 (arr A e a c l :: L') W := h.ent ho.ent

theorem oneCs {vs : List Value} (h : vs.all oneC = true) : ∀ u ∈ vs, oneC u = true := fun u hu => List.all_eq_true.1 h u hu
/-- an element is written -/
theorem stA {t : TypeId} {agg : Bool} {sz g o i : Nat} [ht : TyI P t agg sz] {x : α} {v : Value} {k : Unit → World → Prop} (h : St W0 L W) [ho : Own (some ⟨g, o, none⟩) L A e c l L'] (hs : A.sz = sz) (hi : i < l.length) (hv : vcells v = A.row x)
    (hk : ∀ W', St W0 (arr A e (some ⟨g, o, none⟩) c (l.set i x) :: L') W' → k () W') : efK P (Instr.storeAt t (.pointer (some ⟨g, o + i * sz, none⟩)) v) k W := by
  subst hs
  have h := h.took (a := some ⟨g, o, none⟩)
  have hf := h.arrFacts
  obtain ⟨g', o', cur, he, h1, h2, h3⟩ := h.arrCells (by simp)
  cases he
  have hle : i * A.sz + A.sz ≤ l.length * A.sz := by rw [← Nat.succ_mul]; exact Nat.mul_le_mul_right _ hi
  have hlc : l.length * A.sz ≤ c * A.sz := Nat.mul_le_mul_right _ hf.1
  refine sto h3 (by rw [hv, A.len]) (by omega) (by rw [hv, A.one]) fun W' h => hk W' (h.ent (arr_of_cells (by simpa using hf.1) hf.2.1 (by rw [stL_len]; exact h1) ?_))
  rw [hv, stL_eq _ _ _ (by rw [A.len]; omega), A.len, Ly.rows_set hi, ← h2]
  have e1 : (cur.take (o + i * A.sz) ++ A.row x ++ cur.drop (o + i * A.sz + A.sz)).drop o = (cur.drop o).take (i * A.sz) ++ A.row x ++ (cur.drop o).drop (i * A.sz + A.sz) := by
    rw [List.append_assoc, List.drop_append_of_le_length (by simp; omega), List.drop_take, Nat.add_sub_cancel_left, List.append_assoc, List.drop_drop, Nat.add_assoc]
  have ht1 : ((cur.drop o).take (i * A.sz)).length = i * A.sz := by simp; omega
  have e2 : l.length * A.sz = i * A.sz + (A.sz + (l.length * A.sz - (i * A.sz + A.sz))) := by omega
  rw [e1, List.length_set, List.append_assoc, e2, List.take_add, List.take_left' ht1, List.drop_left' ht1, List.take_add, List.take_left' (A.len x), List.drop_left' (A.len x), ← e2, List.append_assoc,
    List.take_take, Nat.min_eq_left (by omega), List.drop_take]

/-! ### append -/
theorem storeCells_over {b : Nat} {T : TypeId} {vs cs : List Value} {off : Nat} (h : St W0 (Eng.cells b cs T :: L) W) (hu : vs.all oneC = true) (hl : off + vs.length ≤ cs.length) :
    ∃ W', (storeCells ⟨b, off, none⟩ vs 0).run P W = .ok () W' ∧ St W0 (Eng.cells b (cs.take off ++ vs ++ cs.drop (off + vs.length)) T :: L) W' := by
  obtain ⟨W', h1, h2⟩ := storeCells_run (P := P) vs off 0 cs W h (oneCs hu) (by omega)
  rw [Nat.add_zero, stL_eq _ _ _ hl] at h2
  exact ⟨W', h1, h2⟩
/-- what is appended: so many of it, and where it is read -/
class Src (P : Program) (W0 : World) (L : List Asn) (u : TypeId) (x : Value) {α : outParam Type} (A : outParam (Ly α)) (l : outParam (List α)) : Prop where
  kind : ∃ d, P.underlying u = some d ∧ ∀ k, d ≠ .int k
  len : ∀ W, (Builtin.lenOf x).run P W = .ok l.length W
  cells : ∀ W, St W0 L W → ∀ sz, sz = A.sz → (Builtin.firstCells sz l.length x).run P W = .ok (A.rows l).toArray W
theorem firstCells_run {g o sz n c : Nat} {xs : List Value} (h : ro W g o xs) (hl : xs.length = n * sz) : (Builtin.firstCells sz n (.slice (some ⟨g, o, none⟩) n c)).run P W = .ok xs.toArray W := by
  have := loadCells_run (P := P) (W := W) ⟨g, o, none⟩ xs.toArray (fun j hj => by rw [add_none, h j (by simpa using hj)]; simp)
  simp only [List.size_toArray, hl] at this
  simpa [Builtin.firstCells] using this
theorem firstCells_rd {W0 W : World} {L : List Asn} {a : Option Addr} {l : List α} {c : Nat} (h : St W0 L W) [hr : Rd W0 L a A l] : (Builtin.firstCells A.sz l.length (.slice a l.length c)).run P W = .ok (A.rows l).toArray W := by
  rcases hr.ok W h with h4 | ⟨g, o, rfl, h4⟩
  · have : l.length = 0 := by
      have h5 := congrArg List.length h4
      rw [Ly.rows_len] at h5
      rcases Nat.mul_eq_zero.1 (by simpa using h5) with h | h
      · exact h
      · have := A.pos; omega
    rw [h4, this]
    cases a with
    | none => simp [Builtin.firstCells]
    | some a => simp [Builtin.firstCells, loadCells, loadCellsFrom]
  · exact firstCells_run h4 Ly.rows_len
instance Src.slice {u : TypeId} {a : Option Addr} {c sz by' : Nat} {z : Value} {eu : TypeId} [ht : TyS P u eu sz by' z] {l : List α} [hr : Rd W0 L a A l] : Src P W0 L u (.slice a l.length c) A l where
  kind := by obtain ⟨⟨i, h1, _⟩, _⟩ := ht.ok; exact ⟨_, h1, fun k h => by cases h⟩
  len := fun W => rfl
  cells := fun W h sz hs => by subst hs; exact firstCells_rd h

theorem noInt : ∀ {d : TypeDesc}, (∀ k, d ≠ .int k) → (d matches .int _) = false := by intro d h; cases d <;> first | rfl | exact absurd rfl (h _)
theorem tape_drew {W0 W : World} {L : List Asn} (h : St W0 L W) : St W0 L W.drew := ⟨h.bel.drew, h.own⟩
theorem zeroCells_len (z : Array Value) (n : Nat) : (Builtin.zeroCells z n).toList.length = n * z.size := by simp [Builtin.zeroCells]

theorem appA {t u ty : TypeId} {sz by' : Nat} {z : Value} [ht : TyS P t e sz by' z] {x : Value} {m : List α} {k : Value → World → Prop} (h : St W0 L W) [ho : Own a L A e c l L'] [hx : Src P W0 L u x A m] (hs : A.sz = sz) (hb : (l.length + m.length) * by' ≤ 140737488355328) (hm : l.length + m.length ≤ maxLen)
    (hk : ∀ a' c' W', St W0 (arr A e a' c' (l ++ m) :: L') W' → k (.slice a' (l ++ m).length c') W') : efK P (Builtin.append_ #[t, u] ty #[.slice a l.length c, x]) k W := by
  subst hs
  obtain ⟨⟨i, h1, h2, h3, h4, h5⟩, hz⟩ := ht.ok
  obtain ⟨du, hu1, hu2⟩ := hx.kind
  have hu3 := noInt hu2
  have hW := h
  have hE : ∀ {W1 : World}, St W0 L W1 → St W0 (arr A e a c l :: L') W1 := fun h => h.took (a := a)
  have h0 := hE h
  have hf := h0.arrFacts
  have hlen := hx.len W
  by_cases hroom : l.length + m.length ≤ c
  · by_cases ha : a = none
    · subst ha
      have hc := hf.2.2.1 rfl
      have hl0 : l = [] := List.eq_nil_of_length_eq_zero (by omega)
      have hm0 : m = [] := List.eq_nil_of_length_eq_zero (by omega)
      subst hl0 hm0 hc
      refine ⟨.slice none 0 0, W, ?_, hk none 0 W h0⟩
      have hc0 := hx.cells W hW i.size (by omega)
      simp only [List.length_nil] at hc0 hlen
      simp [Builtin.append_, run_underlying h1, run_underlying hu1, hu3, run_sizeOf' h2, hlen, hc0]
    · obtain ⟨g, o, cur, rfl, h6, h7, h8⟩ := h0.arrCells ha
      have hmul : (l.length + m.length) * A.sz ≤ c * A.sz := Nat.mul_le_mul_right _ hroom
      rw [Nat.add_mul] at hmul
      obtain ⟨W', h9, h10⟩ := storeCells_over (P := P) (off := o + l.length * A.sz) h8 (Ly.rows_one (A := A) (l := m)) (by rw [Ly.rows_len]; omega)
      refine ⟨.slice (some ⟨g, o, none⟩) (l.length + m.length) c, W', ?_, ?_⟩
      · have hc0 := hx.cells W hW i.size (by omega)
        have h9' : Sem.run P (storeCells { block := g, off := o + l.length * i.size } (A.rows m)) W = Result.ok () W' := by rw [h3]; exact h9
        simp [Builtin.append_, run_underlying h1, run_underlying hu1, hu3, run_sizeOf' h2, hlen, hroom, hc0, add_none, h9']
      · have := hk (some ⟨g, o, none⟩) c W' (h10.ent (arr_of_cells (by simpa using hroom) hf.2.1 ?_ ?_))
        · simpa using this
        · simp only [List.length_append, List.length_take, List.length_drop, Ly.rows_len]; omega
        · rw [Ly.rows_app, ← h7, List.length_append]
          have hd : (cur.take (o + l.length * A.sz) ++ A.rows m ++ cur.drop (o + l.length * A.sz + (A.rows m).length)).drop o = (cur.drop o).take (l.length * A.sz) ++ (A.rows m ++ cur.drop (o + l.length * A.sz + (A.rows m).length)) := by
            rw [List.append_assoc, List.drop_append_of_le_length (by simp; omega), List.drop_take, Nat.add_sub_cancel_left]
          have hl1 : ((cur.drop o).take (l.length * A.sz)).length = l.length * A.sz := by simp; omega
          rw [hd, List.take_append, hl1, List.take_of_length_le (by rw [hl1, Nat.add_mul]; omega), Nat.add_mul, Nat.add_sub_cancel_left, List.take_left' Ly.rows_len]
  · have hneed : c < l.length + m.length := by omega
    have hol : ∀ W1, St W0 L W1 → (Builtin.firstCells i.size l.length (.slice a l.length c)).run P W1 = .ok (A.rows l).toArray W1 := by
      intro W1 hW1
      rw [h3]
      exact firstCells_rd (hE hW1)
    have hc0 := hx.cells W.drew (tape_drew hW) i.size (by omega)
    have hc1 := hol W.drew (tape_drew hW)
    have h63 : ¬ (9223372036854775807 < ((l.length : Int) + (m.length : Int))) := by simp only [maxLen] at hm; omega
    have h48 : ¬ (281474976710656 < Builtin.nextslicecap (l.length + m.length) c * i.bytes) := by
      have := growslice_fits (old := c) (need := l.length + m.length) (bytes := i.bytes) (by omega) (by rw [h4]; omega)
      omega
    have hge := grownCap_ge W (l.length + m.length) c e
    have hgm := grownCap_le_maxLen W (l.length + m.length) c e hm
    refine ⟨.slice (some ⟨W.heap.size, 0, none⟩) (l.length + m.length) (grownCap W (l.length + m.length) c e),
      W.drew.alloc (.cells ((A.rows l).toArray ++ (A.rows m).toArray ++ Builtin.zeroCells z.cells (grownCap W (l.length + m.length) c e - (l.length + m.length))) e), ?_, ?_⟩
    · simp [Builtin.append_, run_underlying h1, run_underlying hu1, hu3, sizeOf, hlen, hroom, h63, h48, typeInfo, h2, zeroValue, h5, Question.forced, hc0, hc1, newRow, grownCap]
      congr 2
      apply Array.ext'
      simp
    · have h6 := (tape_drew (h0.drop)).allocCells (A.rows (l ++ m) ++ (Builtin.zeroCells z.cells (grownCap W (l.length + m.length) c e - (l.length + m.length))).toList) e
      have h7 := hk (some ⟨W.heap.size, 0, none⟩) (grownCap W (l.length + m.length) c e) _ (h6.ent (arr_of_cells (A := A) (o := 0) (l := l ++ m) (by simpa using hge) hgm ?_ ?_))
      · have e1 : (A.rows (l ++ m) ++ (Builtin.zeroCells z.cells (grownCap W (l.length + m.length) c e - (l.length + m.length))).toList).toArray =
          (A.rows l).toArray ++ (A.rows m).toArray ++ Builtin.zeroCells z.cells (grownCap W (l.length + m.length) c e - (l.length + m.length)) := by
          apply Array.ext'
          simp [Ly.rows_app]
        rw [e1] at h7
        simpa using h7
      · rw [List.length_append, Ly.rows_len, zeroCells_len, hz, List.length_append, ← Nat.add_mul, Nat.zero_add]
        exact Nat.mul_le_mul_right _ (by omega)
      · rw [List.drop_zero, ← Ly.rows_len, List.take_left]
end

/-! ### bytes, strings -/
class BytesT (P : Program) (t : TypeId) (e : outParam TypeId) : Prop where
  ok : P.underlying t = some (.slice e) ∧ P.underlying e = some (.int .u8)
class StrT (P : Program) (t : TypeId) : Prop where
  ok : P.underlying t = some .string
def b8 (b : UInt8) : Value := .int .u8 b.toNat
def B8 : Ly UInt8 := ⟨1, by omega, fun b => [b8 b], fun _ => rfl, fun _ => rfl⟩
def I64 : Ly Int := ⟨1, by omega, fun b => [.int .i64 b], fun _ => rfl, fun _ => rfl⟩
def STR : Ly ByteArray := ⟨1, by omega, fun b => [.string b], fun _ => rfl, fun _ => rfl⟩
def BOO : Ly Bool := ⟨1, by omega, fun b => [.bool b], fun _ => rfl, fun _ => rfl⟩
theorem B8_rows (l : List UInt8) : B8.rows l = l.map b8 := by
  induction l with
  | nil => rfl
  | cons a l ih => rw [Ly.rows_cons, ih]; rfl
section
variable {P : Program} {W0 W W' : World} {L L' : List Asn} {e : TypeId} {a : Option Addr} {c : Nat}
instance Src.string {u : TypeId} [hs : StrT P u] {s : ByteArray} : Src P W0 L u (.string s) B8 s.data.toList where
  kind := ⟨_, hs.ok, fun k h => by cases h⟩
  len := fun W => rfl
  cells := fun W h sz hs => by
    simp only [Builtin.firstCells, B8_rows]
    have : (s.extract 0 s.data.toList.length) = s := by
      have : s.data.toList.length = s.size := rfl
      rw [this]; exact ByteArray.extract_zero_size
    rw [this]
    simp only [Sem.run_pure]
    congr 1
    apply Array.ext'
    simp [b8]
theorem s2b {src dst : TypeId} [hs : StrT P src] [hd : BytesT P dst e] {s : ByteArray} {k : Value → World → Prop} (h : St W0 L W) (hl : s.size ≤ maxLen)
    (hk : ∀ a c W', St W0 (arr B8 e a c s.data.toList :: L) W' → k (.slice a s.data.toList.length c) W') : efK P (convert src dst (.string s)) k W := by
  refine ⟨_, _, run_bytes_of_string W src dst e s hs.ok hd.ok.1 hd.ok.2, hk _ _ _ ?_⟩
  have hge := grownCap_ge W s.size 0 e
  have hgm := grownCap_le_maxLen W s.size 0 e hl
  have h1 := (tape_drew h).alloc (.cells (bytesRow s (grownCap W s.size 0 e)) e ((bytesRow s (grownCap W s.size 0 e)).size, (bytesRow s (grownCap W s.size 0 e)).size + 1))
  have hsz : (bytesRow s (grownCap W s.size 0 e)).size = grownCap W s.size 0 e := by
    have : s.data.size = s.size := rfl
    simp [bytesRow, this]; omega
  have h2 := h1.weak (a' := cells W.heap.size (bytesRow s (grownCap W s.size 0 e)).toList e) fun p hp => ⟨((bytesRow s (grownCap W s.size 0 e)).size, (bytesRow s (grownCap W s.size 0 e)).size + 1), by
    intro i hi
    have hi' : i < (bytesRow s (grownCap W s.size 0 e)).size := by simpa using hi
    simp; omega, by simpa using hp⟩
  refine h2.ent (arr_of_cells hge hgm (by simp [hsz, B8]) ?_)
  rw [B8_rows, List.drop_zero]
  have e1 : (bytesRow s (grownCap W s.size 0 e)).toList = s.data.toList.map b8 ++ List.replicate (grownCap W s.size 0 e - s.size) (.int .u8 0) := by
    simp [bytesRow]; exact fun _ _ => rfl
  rw [e1]
  exact List.take_left' (by simp [B8])
theorem b2s {src dst : TypeId} [hd : StrT P dst] [hs : BytesT P src e] {l : List UInt8} {k : Value → World → Prop} (h : St W0 L W) [hr : Rd W0 L a B8 l] (hk : k (.string ⟨l.toArray⟩) W) : rdK P (convert src dst (.slice a l.length c)) k W := by
  refine ⟨.string ⟨l.toArray⟩, ?_, hk⟩
  by_cases hl : l = []
  · subst hl
    rw [run_convert_bytes_string W src dst e a _ c hs.ok.1 hs.ok.2 hd.ok]
    cases a with
    | none => simp [Conv.bytesToString]; rfl
    | some a => simp [Conv.bytesToString, loadCells, loadCellsFrom]; rfl
  · obtain ⟨g, o, rfl, h1⟩ := Rd.at (A := B8) (l := l) (a := a) h hl
    refine run_convert_bytes_back W src dst e ⟨g, o, none⟩ c l hs.ok.1 hs.ok.2 hd.ok fun j hj => ?_
    have := h1 j (by rw [B8_rows]; simpa using hj)
    rw [add_none, this, B8_rows]
    simp [hj, b8]
theorem b2s_run {src dst : TypeId} [hd : StrT P dst] [hs : BytesT P src e] {l : List UInt8} (h : St W0 L W) [hr : Rd W0 L a B8 l] : (convert src dst (.slice a l.length c)).run P W = .ok (.string ⟨l.toArray⟩) W := by
  obtain ⟨v, h1, h2⟩ := b2s (P := P) (src := src) (dst := dst) (a := a) (c := c) (l := l) (k := fun v _ => v = .string ⟨l.toArray⟩) h rfl
  rw [h1, h2]
theorem stb_b2s {src dst : TypeId} [hd : StrT P dst] [hs : BytesT P src e] {l : List UInt8} {ii : Nat} {bb : Bool} {hl : List HoldV} {R : World → Prop} (h : St W0 L W) [hr : Rd W0 L a B8 l] (hk : stb P hl R W) :
    stb P ((ii, bb, convert src dst (.slice a l.length c), .string ⟨l.toArray⟩) :: hl) R W := ⟨fun _ => b2s_run h, hk⟩
/-- a slice of so many, told one by one -/
theorem bsA {α : Type} (A : Ly α) (l : List α) {t : TypeId} {sz by' n : Nat} {z : Value} [ht : TyS P t e sz by' z] {ps : List (Nat × Value)} {k : Value → World → Prop} (h : St W0 L W) (hs : A.sz = sz) (hln : l.length = n) (hn : n * sz ≤ 16777216) (hn0 : n ≠ 0)
    (hc : fillL (fun i => some (i * sz, sz)) ((List.range (n * sz)).map fun i => ((vcells z)[i % (vcells z).length]?).getD undef) ps = some (A.rows l))
    (hk : ∀ a c W', St W0 (arr A e a c l :: L) W' → k (.slice a l.length c) W') : efK P (Instr.buildSlice t n ps.toArray) k W := by
  subst hs hln
  have hp := A.pos
  have hlm : l.length ≤ l.length * A.sz := Nat.le_mul_of_pos_right _ hp
  refine bs h hn (by intro e; rcases Nat.mul_eq_zero.1 e with h | h <;> omega) hc fun b W' h => ?_
  exact hk _ _ _ (h.ent (arr_full (by unfold maxLen; omega)))
/-- an empty slice, told as such -/
theorem bs0 {α : Type} (A : Ly α) {t : TypeId} {sz by' : Nat} {z : Value} [ht : TyS P t e sz by' z] {k : Value → World → Prop} (h : St W0 L W)
    (hk : ∀ a c W', St W0 (arr A e a c [] :: L) W' → k (.slice a ([] : List α).length c) W') : efK P (Instr.buildSlice t 0 #[]) k W := by
  obtain ⟨⟨i, h1, h2, h3, h4, h5⟩, hzz⟩ := ht.ok
  refine ⟨.slice (some ⟨W.heap.size, 0, none⟩) 0 0, _, ?_, hk (some ⟨W.heap.size, 0, none⟩) 0 _ ((h.allocCells [] e).ent (arr_full (A := A) (l := []) (by simp)))⟩
  simp [Instr.buildSlice, run_underlying h1, run_sizeOf' h2, Instr.fill, newRow, show Array.range 0 = #[] from rfl]
theorem St.drop2 {x y : Asn} (h : St W0 (x :: y :: L) W) : St W0 (x :: L) W := (h.ent (ent.swap x y L)).drop
/-- one more -/
theorem pushA {α : Type} {A : Ly α} (x : α) {t ty : TypeId} {sz by' : Nat} {z : Value} [ht : TyS P t e sz by' z] {l : List α} {v : Value} {k : Value → World → Prop} (h : St W0 L W) [ho : Own a L A e c l L'] (hv : vcells v = A.row x) (hs : A.sz = sz)
    (hb : (l.length + 1) * by' ≤ 140737488355328) (hm : l.length + 1 ≤ maxLen) (hsz : sz ≤ 16777216)
    (hk : ∀ a' c' W', St W0 (arr A e a' c' (l ++ [x]) :: L') W' → k (.slice a' (l ++ [x]).length c') W') :
    efK P (Instr.buildSlice t 1 #[(0, v)]) (fun u W => efK P (Builtin.append_ #[t, t] ty #[.slice a l.length c, u]) k W) W := by
  have hz : z.cells.size = sz := ht.ok.2
  refine bsA A [x] (n := 1) h hs rfl (by omega) (by omega) ?_ fun a1 c1 W1 h1 => ?_
  · rw [fillL_cons (size := sz) (off := 0) (by simp) (by rw [hv, A.len, hs]) (by simp), fillL_nil, stL_eq _ _ _ (by rw [hv, A.len, hs]; simp)]
    rw [hv]
    simp [A.len, hs, Ly.rows]
  · exact appA (a := a) (m := [x]) h1 hs hb hm fun a' c' W' h => hk a' c' W' h.drop2
/-! ### cuts -/
theorem bnd_none {d y : Nat} : bnd none d y = some d := rfl
theorem bnd_nat {k : IntKind} {i d y : Nat} (h : i ≤ y) : bnd (some (.int k (i : Int))) d y = some i := by simp [bnd, h]
theorem bnd_int {k : IntKind} {i : Int} {d y : Nat} (h0 : 0 ≤ i) (h : i ≤ y) : bnd (some (.int k i)) d y = some i.toNat := by simp [bnd, h0, h]
theorem slcS_eq {sz n c l h : Nat} {a : Option Addr} {lo hi : Option Value} (h1 : bnd hi n c = some h) (h2 : bnd lo 0 h = some l) :
    slcS sz (.slice a n c) lo hi none = some (.slice (if c = l then a else a.map (·.add (l * sz))) (h - l) (c - l)) := by
  have e1 : slcB n c lo hi none = some (l, h, c) := by cases hi <;> simp only [slcB, bnd_none, h1, h2] <;> rfl
  simp only [slcS, e1]
/-- a cut that is read -/
theorem slcR {α : Type} {A : Ly α} {l : List α} {sz n lo hi : Nat} {vlo vhi : Option Value} {K : Value → Prop} (h : St W0 L W) [hr : Rd W0 L a A l] (hs : A.sz = sz) (hn : n = l.length) (h1 : bnd vhi n c = some hi) (h2 : bnd vlo 0 hi = some lo) (h3 : lo ≤ hi) (h4 : hi ≤ l.length) (h5 : l.length ≤ c)
    (hk : ∀ a' c', Rd W0 L a' A ((l.take hi).drop lo) → K (.slice a' ((l.take hi).drop lo).length c')) : okF (slcS sz (.slice a n c) vlo vhi none) K := by
  subst hs hn
  refine okF_i (slcS_eq h1 h2) ?_
  have := hk _ (c - lo) (Rd.cut (W0 := W0) (L := L) (a := a) (A := A) (l := l) lo hi c h3 h4 (by omega))
  simpa [Nat.min_eq_left h4] using this
/-- a cut that is kept in the old one's place -/
theorem slcO {α : Type} {A : Ly α} {l : List α} {sz n lo hi : Nat} {vlo vhi : Option Value} {K : Value → Prop} (h : St W0 L W) [ho : Own a L A e c l L'] (hs : A.sz = sz) (hn : n = l.length) (h1 : bnd vhi n c = some hi) (h2 : bnd vlo 0 hi = some lo) (h3 : lo ≤ hi) (h4 : hi ≤ l.length)
    (hk : ∀ a' c', ent L (arr A e a' c' ((l.take hi).drop lo) :: L') → K (.slice a' ((l.take hi).drop lo).length c')) : okF (slcS sz (.slice a n c) vlo vhi none) K := by
  subst hs hn
  have hf := (h.took (a := a)).arrFacts
  refine okF_i (slcS_eq h1 h2) ?_
  have := hk _ (c - lo) (ho.ent.trans (ent.weak (arr_cut lo hi c h3 h4 (by omega) (Nat.le_refl _))))
  simpa [Nat.min_eq_left h4] using this
/-! ### loops -/
theorem loop_x {σ : Type} {body : (List Value → World → Prop) → List Value → World → Prop} {s : List Value} (vs : σ → List Value) (inv : σ → World → Prop) (μ : σ → Nat) (x0 : σ) (hs : s = vs x0) (h0 : inv x0 W)
    (hr : ∀ (K : List Value → World → Prop) x W, inv x W → (∀ x' W', μ x' < μ x → inv x' W' → K (vs x') W') → body K (vs x) W) : loopK body s W := by
  subst hs
  refine loop_i (fun m s W => ∃ x, μ x = m ∧ s = vs x ∧ inv x W) _ ⟨x0, rfl, rfl, h0⟩ ?_
  rintro m s W ⟨x, rfl, rfl, h⟩
  exact hr _ x W h fun x' W' hm h' => ⟨μ x', hm, x', rfl, rfl, h'⟩
/-- a loop that counts -/
theorem loop_c {σ : Type} {body : (List Value → World → Prop) → List Value → World → Prop} {s : List Value} (N : Nat) (vs : Nat → σ → List Value) (inv : Nat → σ → World → Prop) (x0 : σ) (hs : s = vs 0 x0) (h0 : inv 0 x0 W)
    (hr : ∀ (K : List Value → World → Prop) i x W, i ≤ N → inv i x W → (∀ x' W', i < N → inv (i + 1) x' W' → K (vs (i + 1) x') W') → body K (vs i x) W) : loopK body s W :=
  loop_x (σ := Nat × σ) (fun p => vs p.1 p.2) (fun p W => p.1 ≤ N ∧ inv p.1 p.2 W) (fun p => N - p.1) (0, x0) hs ⟨Nat.zero_le _, h0⟩ fun K p W h hk =>
    hr K p.1 p.2 W h.1 h.2 fun x' W' hi h' => hk (p.1 + 1, x') W' (by simp only; omega) ⟨hi, h'⟩
end

/-! ### simp looks at what comes next, not at what follows -/
@[congr] theorem okF_congr {r r' : Option Value} {k : Value → Prop} (h : r = r') : okF r k = okF r' k := by rw [h]
@[congr] theorem gdK_congr {b b' : Bool} {A : (Value → World → Prop) → World → Prop} {k : Value → World → Prop} {W : World} (h : b = b') : gdK b A k W = gdK b' A k W := by rw [h]
@[congr] theorem ifK_congr {v v' : Value} {A B : Prop} (h : v = v') : ifK v A B = ifK v' A B := by rw [h]
@[congr] theorem efK_congr {α : Type} {P : Program} {s s' : Sem α} {k : α → World → Prop} {W : World} (h : s = s') : efK P s k W = efK P s' k W := by rw [h]
@[congr] theorem rdK_congr {α : Type} {P : Program} {s s' : Sem α} {k : α → World → Prop} {W : World} (h : s = s') : rdK P s k W = rdK P s' k W := by rw [h]
@[congr] theorem callK_congr {P : Program} {g : Nat} {l l' : List Value} {k : Value → World → Prop} {W : World} (h : l = l') : callK P g l k W = callK P g l' k W := by rw [h]
@[congr] theorem stb_congr {P : Program} {l l' : List HoldV} {R : World → Prop} {W : World} (h : l = l') : stb P l R W = stb P l' R W := by rw [h]
end Go.Eng
