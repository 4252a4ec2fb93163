/- Own engine: slices.Sort at strings, over rows that are owned. -/
import Derived.Test.YtmojfpaagokckaaSrt
import Derived.Shelf.SortM.Plain
import Derived.Shelf.SortM.SortNone
namespace Go.Eng
set_option linter.unusedVariables false
set_option linter.unusedSimpArgs false
open Go Go.RowKit Go.Sort Go.Proofs
def STB : Ly (List UInt8) := ⟨1, by omega, fun x => [.string ⟨x.toArray⟩], fun _ => rfl, fun _ => rfl⟩
theorem STB_rows (l : List (List UInt8)) : STB.rows l = l.map encStr := by
  induction l with
  | nil => rfl
  | cons a l ih => rw [Ly.rows_cons, ih]; rfl
theorem putRow_map {α : Type} [Inhabited α] (enc : α → Value) (w : World) (b o : Nat) (d : Array α) : Sort.putRow enc w b o d = Sort.putRow id w b o (d.map enc) := by
  unfold Sort.putRow
  congr 1
  funext c
  unfold putCells
  apply Array.ext_getElem?
  intro i
  simp only [Array.getElem?_mapIdx, Array.size_map, id_eq]
  cases c[i]? with
  | none => rfl
  | some x =>
    simp only [Option.map_some]
    by_cases h : o ≤ i ∧ i < o + d.size
    · rw [if_pos h, if_pos h, getElem!_pos d _ (by omega), getElem!_pos (d.map enc) _ (by simp; omega)]
      simp
    · rw [if_neg h, if_neg h]
section
variable {P : Program} {ρ : Go.Shelf.Ren} {W0 W W' : World} {L L' : List Asn} {e : TypeId}
theorem sortStr (L6 : SlLaysM.n6 P ρ) {a : Option Addr} {c : Nat} {l : List (List UInt8)} {k : Value → World → Prop} (h : St W0 L W) [ho : Own a L STB e c l L'] (hl : l.length < 4611686018427387904)
    (hk : ∀ W', St W0 (arr STB e a c (l.mergeSort fun x y => decide (x ≤ y)) :: L') W' → k (.tuple #[]) W') : callK P (ρ.f 6) [.slice a l.length c] k W := by
  have h := h.took (a := a)
  have hf := h.arrFacts
  by_cases ha : a = none
  · subst ha
    have hl0 : l = [] := List.eq_nil_of_length_eq_zero (by have := hf.2.2.1 rfl; omega)
    subst hl0
    refine (AnyM.slices_Sort_string_none L6 none c W).mono ?_
    rintro ed w' ⟨rfl, rfl⟩
    exact hk _ (by rw [List.mergeSort_nil]; exact h)
  · obtain ⟨b, o, cur, rfl, h1, h2, h3⟩ := h.arrCells ha
    have hs1 : STB.sz = 1 := rfl
    rw [hs1, Nat.mul_one] at h1 h2
    have hcell := cells_hold (o := o) h3 l.length (by omega)
    have hH : Holds encStr W b o l.toArray := by
      intro j hj
      have hj' : j < l.length := by simpa using hj
      refine ⟨?_, (hcell j hj').2⟩
      rw [(hcell j hj').1, getElem!_pos _ j hj]
      have e3 : (STB.rows l)[j]? = cur[o + j]? := by rw [← h2, List.getElem?_take_of_lt hj', List.getElem?_drop]
      rw [← e3, STB_rows, List.getElem?_map, List.getElem?_eq_getElem hj']
      simp
    have hblk : b < W.heap.size := by
      obtain ⟨fr, _, hb⟩ := h3.cells
      exact (Array.getElem?_eq_some_iff.1 hb.blk.2).1
    have hcon := AnyM.slices_Sort_string L6 b o c l W hH hblk hl
    refine hcon.mono ?_
    rintro ed w' ⟨rfl, n, os, rfl⟩
    have hlen : (l.mergeSort fun x y => decide (x ≤ y)).length = l.length := List.length_mergeSort _
    refine hk _ ?_
    rw [putRow_map]
    have e6 : ((l.mergeSort fun x y => decide (x ≤ y)).toArray.map encStr) = (STB.rows (l.mergeSort fun x y => decide (x ≤ y))).toArray := by
      rw [STB_rows]; simp
    rw [e6]
    have hrl : (STB.rows (l.mergeSort fun x y => decide (x ≤ y))).length = l.length := by rw [Ly.rows_len, hlen, hs1, Nat.mul_one]
    refine (St.putRow (n := n) (os := os) h3 (F := STB.rows (l.mergeSort fun x y => decide (x ≤ y))) (by have := hf.1; omega)).ent (arr_of_cells (by have := hf.1; omega) hf.2.1 ?_ ?_)
    · rw [hs1]
      simp only [List.length_append, List.length_take, List.length_drop]; have := hf.1; omega
    · rw [hs1, Nat.mul_one, List.append_assoc, List.drop_append_of_le_length (by simp; have := hf.1; omega), List.drop_take, Nat.sub_self, List.take_zero, List.nil_append, hlen, ← hrl, List.take_left]
end
end Go.Eng
