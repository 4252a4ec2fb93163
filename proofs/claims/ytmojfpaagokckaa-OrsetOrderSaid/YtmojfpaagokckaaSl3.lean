/- Own engine: slices of so many. -/
import Derived.Test.YtmojfpaagokckaaSl2
import Derived.Laws.MakeOwn
namespace Go.Eng
set_option linter.unusedVariables false
set_option linter.unusedSimpArgs false
open Go Go.RowKit
section
variable {P : Program} {W0 W W' : World} {L L' : List Asn} {e : TypeId} {α : Type} {A : Ly α}
theorem rows_replicate (x : α) (n : Nat) : A.rows (List.replicate n x) = (List.replicate n (A.row x)).flatten := by
  induction n with
  | zero => rfl
  | succ n ih => rw [List.replicate_succ, Ly.rows_cons, ih, List.replicate_succ, List.flatten_cons]
theorem getElem_flat_rep (r : List Value) : ∀ (n j : Nat), j < n * r.length → (List.replicate n r).flatten[j]? = r[j % r.length]?
  | 0, j, h => by simp at h
  | n + 1, j, h => by
    rw [List.replicate_succ, List.flatten_cons]
    by_cases hj : j < r.length
    · rw [List.getElem?_append_left hj, Nat.mod_eq_of_lt hj]
    · rw [List.getElem?_append_right (by omega), getElem_flat_rep r n _ (by rw [Nat.succ_mul] at h; omega)]
      congr 1
      conv => rhs; rw [Nat.mod_eq_sub_mod (by omega)]
theorem mkS (x0 : α) (n : Nat) {t : TypeId} {sz by' : Nat} {z : Value} [ht : TyS P t e sz by' z] {k : Value → World → Prop} (h : St W0 L W) (hz : vcells z = A.row x0) (hs : A.sz = sz) (hn : n ≤ 1000000) (hb : n * by' ≤ 140737488355328)
    (hk : ∀ a c W', St W0 (arr A e a c (List.replicate n x0) :: L) W' → k (.slice a (List.replicate n x0).length c) W') : efK P (Instr.makeSlice t (.int .i64 (n : Int)) (.int .i64 (n : Int))) k W := by
  subst hs
  obtain ⟨⟨i, h1, h2, h3, h4, h5⟩, hzz⟩ := ht.ok
  have hp := A.pos
  have e1 : IntKind.i64.wrap (n : Int) = n := by rw [IntWalk.i64_in _ (by omega)]
  have hcells : ((Array.range (n * A.sz)).map fun j => z.cells[j % z.cells.size]!) = (A.rows (List.replicate n x0)).toArray := by
    apply Array.ext_getElem?
    intro j
    rw [rows_replicate]
    have hta : ∀ (l : List Value), l.toArray[j]? = l[j]? := fun l => by simp
    rw [hta ((List.replicate n (A.row x0)).flatten)]
    by_cases hj : j < n * A.sz
    · have hm : j % A.sz < A.sz := Nat.mod_lt _ hp
      rw [getElem_flat_rep _ _ _ (by rw [A.len x0]; exact hj), A.len x0, ← hz]
      have hzl : (vcells z).length = A.sz := by rw [hz, A.len]
      simp [hj, vcells_eq', hzl, hm]
    · have : ((List.replicate n (A.row x0)).flatten).length = n * A.sz := by simp [A.len]
      have e1 : ((List.replicate n (A.row x0)).flatten)[j]? = none := List.getElem?_eq_none (by rw [this]; omega)
      have e2 : ((Array.range (n * A.sz)).map fun j => z.cells[j % z.cells.size]!)[j]? = none := Array.getElem?_eq_none (by rw [Array.size_map, Array.size_range]; omega)
      rw [e1, e2]
  have hr := run_make (P := P) W t e i z h1 h2 h5 .i64 .i64 n n (by omega) (by omega) (by
    rw [h4]
    have : (by' : Int) * (n : Int) = ((n * by' : Nat) : Int) := by rw [Nat.mul_comm]; simp
    rw [this]; omega) (by omega)
  rw [h3, Int.toNat_natCast, madeCells, hcells] at hr
  refine ⟨_, _, hr, ?_⟩
  · have := hk (some ⟨W.heap.size, 0, none⟩) n _ ((h.allocCells (A.rows (List.replicate n x0)) e).ent (by
      have := arr_full (A := A) (e := e) (L := L) (g := W.heap.size) (l := List.replicate n x0) (by simp [maxLen]; omega)
      simpa using this))
    simpa using this
end
end Go.Eng
