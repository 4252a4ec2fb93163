/- Own engine: the bytes of a literal, laid and turned apart. -/
import Derived.Test.YtmojfpaagokckaaSl4
namespace Go.Eng
set_option linter.unusedVariables false
set_option linter.unusedSimpArgs false
open Go Go.RowKit
section
variable {P : Program} {W0 W : World} {L : List Asn} {e : TypeId}
theorem bl1 (l : List UInt8) {t : TypeId} {by' n : Nat} {z : Value} [ht : TyS P t e 1 by' z] {ps : List (Nat × Value)} {k : Value → World → Prop} (h : St W0 L W) (hln : l.length = n) (hn : n ≤ 16777216) (hn0 : n ≠ 0)
    (hc : fillL (fun i => some (i * 1, 1)) ((List.range (n * 1)).map fun i => ((vcells z)[i % (vcells z).length]?).getD undef) ps = some (B8.rows l))
    (hk : ∀ b W', St W0 (blk b (.cells (B8.rows l).toArray e) :: L) W' → k (.slice (some ⟨b, 0, none⟩) l.length l.length) W') : efK P (Instr.buildSlice t n ps.toArray) k W := by
  subst hln
  exact ⟨_, _, bs_run (P := P) (t := t) (e := e) (by omega) (by omega) hc, hk _ _ (h.alloc _)⟩
theorem bl2 (l : List UInt8) {b n c : Nat} {t : TypeId} [hb : BytesT P t e] {k : Value → World → Prop} (h : St W0 (blk b (.cells (B8.rows l).toArray e) :: L) W) (hl : l.length ≤ maxLen)
    (hk : ∀ W', St W0 (arr B8 e (some ⟨b, 0, none⟩) l.length l :: L) W' → k (.slice (some ⟨b, 0, none⟩) n c) W') : efK P (convert t t (.slice (some ⟨b, 0, none⟩) n c)) k W := by
  have hbl := h.blk.2
  have hsh : W.shape? b = some (e, (B8.rows l).toArray.size) := by
    unfold World.shape?; rw [hbl]
  have hfr : W.freeze ⟨b, (B8.rows l).toArray.size, none⟩ 1 = { W with heap := W.heap.setIfInBounds b (.cells (B8.rows l).toArray e ((B8.rows l).toArray.size, (B8.rows l).toArray.size + 1)) } := by
    unfold World.freeze
    rw [if_neg (by decide)]
    congr 1
    apply Array.ext_getElem?
    intro i
    rw [Array.getElem?_modify, Array.getElem?_setIfInBounds]
    by_cases hi : b = i
    · subst hi
      rw [if_pos rfl, if_pos rfl, hbl]
      rw [if_pos (Array.getElem?_eq_some_iff.1 hbl).1]
      rfl
    · rw [if_neg hi, if_neg hi]
  refine ⟨.slice (some ⟨b, 0, none⟩) n c, W.freeze ⟨b, (B8.rows l).toArray.size, none⟩ 1, ?_, hk _ ?_⟩
  · simp [convert, run_underlying hb.ok.1, run_underlying hb.ok.2, markStringish, hsh]
  · rw [hfr]
    refine (((h.setBlk _).weak (a' := cells b (B8.rows l) e) fun p hp => ⟨((B8.rows l).toArray.size, (B8.rows l).toArray.size + 1), ?_, hp⟩).ent (arr_full (A := B8) hl))
    intro i hi
    simp; omega
end
end Go.Eng
