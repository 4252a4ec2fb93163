/- Own engine: the library's sorts, over rows that are owned. -/
import Derived.Test.YtmojfpaagokckaaSl5
import Derived.Shelf.SlSortCmp.NoneTotal
namespace Go.Eng
set_option linter.unusedVariables false
set_option linter.unusedSimpArgs false
open Go Go.RowKit Go.Sort Go.Proofs
section
variable {P : Program} {W0 W W' : World} {L L' : List Asn} {e : TypeId}
/-- what a call comes to that keeps all and makes what it makes -/
theorem St.grown (h : St W [] W') : ∃ q os, W' = grow (W.drewN q) os := by
  obtain ⟨⟨⟨h1, h2, h3, h4, h5⟩, h6⟩, _⟩ := h
  refine ⟨W'.drawn - W.drawn, W'.heap.extract W.heap.size W'.heap.size, ?_⟩
  obtain ⟨hp, tp, dr, os, ou⟩ := W'
  simp only at h1 h2 h3 h4 h5 h6
  subst h1 h2 h3
  simp only [grow, World.drewN, World.mk.injEq, true_and, and_true]
  refine ⟨?_, by omega⟩
  apply Array.ext_getElem?
  intro i
  by_cases hi : i < W.heap.size
  · rw [h5 i hi, Array.getElem?_append_left hi]
  · rw [Array.getElem?_append_right (by omega), Array.getElem?_extract]
    by_cases hj : i < hp.size
    · rw [if_pos (by omega)]; congr 1; omega
    · rw [if_neg (by omega), Array.getElem?_eq_none (by omega)]
theorem St.more (h : St W0 L W) (os : Array Obj) : St W0 L (grow W os) := by
  obtain ⟨hb, p, hs, ho⟩ := h
  have hk : ∀ k, k < W.heap.size → (grow W os).heap[k]? = W.heap[k]? := fun k hk => by
    show (W.heap ++ os)[k]? = _
    rw [Array.getElem?_append_left hk]
  refine ⟨hb.trans ⟨⟨rfl, rfl, rfl, by simp, fun k hk' => hk k (Nat.lt_of_lt_of_le hk' hb.size)⟩, Nat.le_refl _⟩, p, hs, fun b o hbo => ⟨(ho b o hbo).1, ?_⟩⟩
  rw [hk b (Array.getElem?_eq_some_iff.1 (ho b o hbo).2).1]
  exact (ho b o hbo).2
theorem St.ahead (h : St W0 L W) (n : Nat) : St W0 L (Sort.ahead W n) :=
  ⟨h.bel.trans ⟨⟨rfl, rfl, rfl, Nat.le_refl _, fun _ _ => rfl⟩, Nat.le_add_right _ _⟩, h.own⟩
theorem putCells_id {F : List Value} {cur : List Value} {o : Nat} (h : o + F.length ≤ cur.length) : putCells id o F.toArray cur.toArray = (cur.take o ++ F ++ cur.drop (o + F.length)).toArray := by
  apply Array.ext_getElem?
  intro i
  simp only [putCells, Array.getElem?_mapIdx, List.getElem?_toArray, List.size_toArray, id_eq]
  by_cases h1 : i < o
  · rw [List.append_assoc, List.getElem?_append_left (by simp; omega), List.getElem?_take_of_lt h1]
    rw [List.getElem?_eq_getElem (by omega)]
    simp only [Option.map_some]
    rw [if_neg (by omega)]
  · by_cases h2 : i < o + F.length
    · rw [List.getElem?_append_left (by simp; omega), List.getElem?_append_right (by simp; omega)]
      simp only [List.length_take]
      rw [Nat.min_eq_left (by omega), List.getElem?_eq_getElem (by omega), List.getElem?_eq_getElem (by omega)]
      simp only [Option.map_some]
      rw [if_pos (by omega), getElem!_pos F.toArray _ (by simp; omega)]
      simp
    · rw [List.getElem?_append_right (by simp; omega), List.getElem?_drop]
      simp only [List.length_append, List.length_take]
      rw [Nat.min_eq_left (by omega)]
      rw [show o + F.length + (i - (o + F.length)) = i by omega]
      cases hc : cur[i]? with
      | none => rfl
      | some v => simp only [Option.map_some]; rw [if_neg (by omega)]
theorem St.putRow {g o n : Nat} {cur F : List Value} {os : Array Obj} (h : St W0 (Eng.cells g cur e :: L) W) (hF : o + F.length ≤ cur.length) :
    St W0 (Eng.cells g (cur.take o ++ F ++ cur.drop (o + F.length)) e :: L) (grow (Sort.putRow id (Sort.ahead W n) g o F.toArray) os) := by
  refine St.more ?_ os
  obtain ⟨fr, hf, hb⟩ := (h.ahead n).cells
  have hbl := hb.blk.2
  have hlt : g < W.heap.size := (Array.getElem?_eq_some_iff.1 hbl).1
  have he : Sort.putRow id (Sort.ahead W n) g o F.toArray = { (Sort.ahead W n) with heap := (Sort.ahead W n).heap.setIfInBounds g (.cells (cur.take o ++ F ++ cur.drop (o + F.length)).toArray e fr) } := by
    unfold Sort.putRow mapBlock
    congr 1
    apply Array.ext_getElem?
    intro j
    rw [Array.getElem?_modify, Array.getElem?_setIfInBounds]
    by_cases hj : g = j
    · subst hj
      rw [if_pos rfl, if_pos rfl, if_pos (show g < (Sort.ahead W n).heap.size from hlt), hbl]
      simp only [Option.map_some, onCells, putCells_id hF]
    · rw [if_neg hj, if_neg hj]
  rw [he]
  refine (hb.setBlk _).weak fun p hp => ⟨fr, ?_, hp⟩
  intro j hj
  refine hf j ?_
  simp at hj
  omega
theorem cells_hold {g o : Nat} {cur : List Value} (h : St W0 (cells g cur e :: L) W) (n : Nat) (hn : o + n ≤ cur.length) : ∀ j, j < n → W.cell? ⟨g, o + j, none⟩ = cur[o + j]? ∧ W.frozen? ⟨g, o + j, none⟩ = false := fun j hj =>
  St.cellOf (L' := L) (b := g) (cs := cur) (T := e) h (o + j) (by omega)
end
section
variable {P : Program} {ρ : Go.Shelf.Ren} {W0 W W' : World} {L L' : List Asn} {e : TypeId} {α : Type} [Inhabited α] {A : Ly α}
theorem flatK_rows {k : Nat} (hk : A.sz = k) (l : List α) : (flatK A.row k l.toArray).toList = A.rows l := by
  subst hk
  refine List.ext_getElem? fun t => ?_
  by_cases ht : t < l.length * A.sz
  · have h0 := get_flatK A.row A.sz l.toArray t (by simpa using ht)
    have hq : t / A.sz < l.length := Nat.div_lt_of_lt_mul (by rw [Nat.mul_comm]; exact ht)
    have hr : t % A.sz < A.sz := Nat.mod_lt _ A.pos
    have hs : t < (flatK A.row A.sz l.toArray).size := by simpa using ht
    rw [getElem!_pos _ t hs] at h0
    rw [Array.getElem?_toList, Array.getElem?_eq_getElem hs, h0]
    have e1 : (A.rows l)[t]? = (A.row l[t / A.sz])[t % A.sz]? := by
      rw [← Ly.rows_at hq, List.getElem?_take_of_lt hr, List.getElem?_drop, Nat.div_add_mod']
    rw [e1, getElem!_pos l.toArray _ (by simpa using hq), getElem!_pos _ _ (by rw [A.len]; exact hr), List.getElem?_eq_getElem (by rw [A.len]; exact hr)]
    simp
  · rw [List.getElem?_eq_none (by simp; omega), List.getElem?_eq_none (by rw [Ly.rows_len]; omega)]
/-- slices.SortFunc at structs, under a function value that parts any two -/
theorem sortFK (L6 : SlLaysF0.n6 P ρ) (aE : ∀ w, (isAgg (ρ.t 24)).run P w = .ok true w) (zE : ∀ w, (Go.sizeOf (ρ.t 24)).run P w = .ok A.sz w) (cf : α → α → Int) (hO : SWO (ltOf cf)) (hT : ∀ x y, (ltOf cf) x y = false → (ltOf cf) y x = false → x = y)
    (g : Nat) (cb : List Value) {a : Option Addr} {c : Nat} {l : List α} {k : Value → World → Prop} (eg : ∀ args w, (callFunc g args).run P w = .ok (.enter g args) w)
    (hc : ∀ x y W, callK P g (.agg (A.row x).toArray :: .agg (A.row y).toArray :: cb) (fun v W' => v = .int .i64 (cf x y) ∧ St W [] W') W)
    (h : St W0 L W) [ho : Own a L A e c l L'] (hl : l.length < 4611686018427387904) (hk : ∀ W', St W0 (arr A e a c (l.mergeSort fun x y => !(ltOf cf) y x) :: L') W' → k (.tuple #[]) W') : callK P (ρ.f 6) [.slice a l.length c, .func (.func g) #[] cb.toArray] k W := by
  have h := h.took (a := a)
  have hf := h.arrFacts
  by_cases ha : a = none
  · subst ha
    have hl0 : l = [] := List.eq_nil_of_length_eq_zero (by have := hf.2.2.1 rfl; omega)
    subst hl0
    refine (AnyF.slices_SortFunc_none L6 none c (.func (.func g) #[] cb.toArray) W).mono ?_
    rintro ed w' ⟨rfl, rfl⟩
    exact hk _ (by rw [List.mergeSort_nil]; exact h)
  · obtain ⟨b, o, cur, rfl, h1, h2, h3⟩ := h.arrCells ha
    have hle : l.length * A.sz ≤ c * A.sz := Nat.mul_le_mul_right _ hf.1
    have hcell := cells_hold (o := o) h3 (l.length * A.sz) (by omega)
    have hH : HoldsK A.row A.sz W b o l.toArray := by
      intro j hj
      have hj' : j < l.length * A.sz := by simpa using hj
      refine ⟨?_, (hcell j hj').2⟩
      rw [(hcell j hj').1, getElem!_pos _ j hj]
      have e1 := flatK_rows (A := A) rfl l
      have e2 : (flatK A.row A.sz l.toArray)[j] = (flatK A.row A.sz l.toArray).toList[j]'(by simpa using hj) := by simp
      rw [e2]
      have e3 : (A.rows l)[j]? = cur[o + j]? := by rw [← h2, List.getElem?_take_of_lt hj', List.getElem?_drop]
      rw [← e3, ← e1, List.getElem?_eq_getElem (by simpa using hj)]
      rfl
    have hblk : b < W.heap.size := by
      obtain ⟨fr, _, hb⟩ := h3.cells
      exact (Array.getElem?_eq_some_iff.1 hb.blk.2).1
    have hcmp : CmpLays P g cb.toArray A.row A.sz cf b o l.toArray.size W := by
      intro m os dk _ x y
      have := hc x y (sortWorldK A.row A.sz W b o m dk os)
      refine (show Calls P g _ _ _ from ?_)
      have h5 : Calls P g (.agg (A.row x).toArray :: .agg (A.row y).toArray :: cb).toArray (sortWorldK A.row A.sz W b o m dk os) _ := this
      have e5 : (#[.agg (A.row x).toArray, .agg (A.row y).toArray] ++ cb.toArray : Array Value) = (.agg (A.row x).toArray :: .agg (A.row y).toArray :: cb).toArray := by simp
      rw [e5]
      refine h5.mono fun ed w' hq => ?_
      cases ed with
      | returned v => exact ⟨by rw [hq.1], hq.2.grown⟩
      | _ => exact hq.elim
    have hcon := AnyQ.slices_SortFunc_total L6 A.sz aE zE A.row A.len (fun x v hv => ?_) cf hO g cb.toArray b o c l.toArray W eg hcmp hH hblk (by simpa using hl) hT
    · have e0 : (#[.slice (some ⟨b, o, none⟩) l.toArray.size c, .func (.func g) #[] cb.toArray] : Array Value) = [.slice (some ⟨b, o, none⟩) l.length c, .func (.func g) #[] cb.toArray].toArray := by simp
      rw [e0] at hcon
      refine hcon.mono ?_
      rintro ed w' ⟨rfl, n, os, rfl⟩
      have hlen : (l.mergeSort fun x y => !(ltOf cf) y x).length = l.length := List.length_mergeSort _
      refine hk _ ?_
      unfold sortWorldK putRowK
      have e6 : flatK A.row A.sz (l.mergeSort fun x y => !(ltOf cf) y x).toArray = (A.rows (l.mergeSort fun x y => !(ltOf cf) y x)).toArray := by
        rw [← flatK_rows (A := A) rfl]
      rw [e6]
      have hrl : (A.rows (l.mergeSort fun x y => !(ltOf cf) y x)).length = l.length * A.sz := by rw [Ly.rows_len, hlen]
      refine (St.putRow (n := n) (os := os) h3 (F := A.rows (l.mergeSort fun x y => !(ltOf cf) y x)) (by omega)).ent (arr_of_cells (by omega) hf.2.1 ?_ ?_)
      · simp only [List.length_append, List.length_take, List.length_drop]; omega
      · rw [List.append_assoc, List.drop_append_of_le_length (by simp; omega), List.drop_take, Nat.sub_self, List.take_zero, List.nil_append, hlen, ← hrl, List.take_left]
    · have := List.all_eq_true.1 (A.one x) v hv
      cases v <;> first | rfl | (simp [oneC] at this)
end
end Go.Eng
