/- Own engine: the bytes of a literal. -/
import Derived.Test.YtmojfpaagokckaaSl3
import Derived.Lib.SlBytesConst
namespace Go.Eng
set_option linter.unusedVariables false
set_option linter.unusedSimpArgs false
open Go Go.RowKit
section
variable {P : Program} {W0 W : World} {L : List Asn} {e : TypeId}
theorem bs_run {t : TypeId} {sz by' : Nat} {z : Value} [ht : TyS P t e sz by' z] {n : Nat} {ps : List (Nat × Value)} {cs : List Value} (hn : n * sz ≤ 16777216) (hn0 : n * sz ≠ 0)
    (hc : fillL (fun i => some (i * sz, sz)) ((List.range (n * sz)).map fun i => ((vcells z)[i % (vcells z).length]?).getD undef) ps = some cs) :
    (Instr.buildSlice t n ps.toArray).run P W = .ok (.slice (some ⟨W.heap.size, 0, none⟩) n n) (W.alloc (.cells cs.toArray e)) := by
  obtain ⟨⟨i, h1, h2, h3, h4, h5⟩, hzz⟩ := ht.ok
  subst h3
  rw [← vcells_eq] at hc
  have hz : z.cells.size = i.size → ((List.range (n * i.size)).map fun j => (z.cells.toList[j % z.cells.toList.length]?).getD undef).toArray = (Array.range (n * i.size)).map (z.cells[· % z.cells.size]!) := by
    intro hzs
    apply Array.ext_getElem?
    intro j
    simp only [List.getElem?_toArray, List.getElem?_map, Array.getElem?_map, Array.length_toList]
    by_cases hj : j < n * i.size
    · have hpos : 0 < z.cells.size := by rw [hzs]; exact Nat.pos_of_ne_zero fun h => by rw [h] at hj; simp at hj
      have hm : j % z.cells.size < z.cells.size := Nat.mod_lt _ hpos
      simp [hj, hm]
    · simp [hj]
  have hf := fillL_run _ _ _ _ hc
  rw [hz hzz] at hf
  simp only [Instr.buildSlice, Sem.run_bind, run_underlying h1, Result.andThen_ok, run_sizeOf' h2]
  rw [if_neg (by omega), if_neg hn0]
  simp only [pure_bind, Sem.run_bind, run_zeroValue' h2 h5, Result.andThen_ok, Sem.run_pure, hf]
  rfl
/-- the bytes of a literal -/
theorem bytesLit (l : List UInt8) {t : TypeId} {by' n : Nat} {z : Value} [ht : TyS P t e 1 by' z] [hb : BytesT P t e] {ps : List (Nat × Value)} {k : Value → World → Prop} (h : St W0 L W) (hln : l.length = n) (hn : n ≤ 16777216) (hn0 : n ≠ 0)
    (hc : fillL (fun i => some (i * 1, 1)) ((List.range (n * 1)).map fun i => ((vcells z)[i % (vcells z).length]?).getD undef) ps = some (B8.rows l))
    (hk : ∀ a c W', St W0 (arr B8 e a c l :: L) W' → k (.slice a l.length c) W') : efK P (Instr.buildSlice t n ps.toArray) (fun u W => efK P (convert t t u) k W) W := by
  subst hln
  refine ⟨_, _, bs_run (P := P) (t := t) (e := e) (by omega) (by omega) hc, _, _, Go.Lib.run_convert_bytes_const W t e _ _ _ hb.ok.1 hb.ok.2, ?_⟩
  refine hk _ _ _ (((h.alloc _).weak (a' := cells W.heap.size (B8.rows l) e) fun p hp => ⟨((B8.rows l).toArray.size, (B8.rows l).toArray.size + 1), ?_, by simpa using hp⟩).ent (arr_full (A := B8) (by unfold maxLen; omega)))
  intro i hi
  simp; omega
end
end Go.Eng
