/- Own engine: a walk over a map that takes from it; copies of maps. -/
import Derived.Test.YtmojfpaagokckaaMp3
import Derived.Shelf.SlMaps.Clone
namespace Go.Eng
set_option linter.unusedVariables false
set_option linter.unusedSimpArgs false
open Go Go.RowKit Go.MapKept Go.ChangeMaps
section
variable {κ : Type} {K : κ → Value} {P : Program} {W0 W W' : World} {L L' : List Asn} {t kt et : TypeId} {r b : Nat} {l rem : List (κ × Value)} {cur : Option (κ × Value)}
theorem sub_of_map {α β γ : Type} {f : α → γ} {g : β → γ} (hg : ∀ a b, g a = g b → a = b) {l : List α} {m : List β} {l' : List α} {m' : List β} (h : l.Sublist l') (h1 : l.map f = m.map g) (h2 : l'.map f = m'.map g) : m.Sublist m' := by
  have h3 : (m.map g).Sublist (m'.map g) := by rw [← h1, ← h2]; exact h.map f
  obtain ⟨n, hn, he⟩ := List.sublist_map_iff.1 h3
  have : m = n := (List.map_inj_right (fun a b => hg a b)).1 he
  rw [this]
  exact hn
/-- what is still to come is there, in its order -/
theorem St.mpiSub (hK : ∀ a b, K a = K b → a = b) (h : St W0 (Eng.mpi K r b l rem cur :: L) W) : rem.Sublist l ∧ (l.map (·.1)).Nodup := by
  obtain ⟨es, clock, seen, ⟨e1, e2, e3, _⟩, h⟩ := h.mpi
  refine ⟨?_, mpL_nodup e1 e2⟩
  refine sub_of_map (f := fun e : MapEntry => (e.key, e.val)) (g := fun p : κ × Value => (K p.1, p.2)) (fun a b h => ?_) (l := (leftOf es seen).toList) (l' := es.toList) ?_ e3 e1
  · simp only [Prod.mk.injEq] at h
    cases a; cases b
    simp only at h
    rw [hK _ _ h.1, h.2]
  · simp only [leftOf, Array.toList_filter]; exact List.filter_sublist
theorem mdeleteI [DecidableEq κ] [hT : MapT P t kt et] [hK : KeyT P kt K] (a : κ) {v : Value} {ty : TypeId} {k : Value → World → Prop} (h : St W0 L W) [hm : Mi b L K r l rem (some (a, v)) L'] (hk : ∀ W', St W0 (Eng.mpi K r b (mdel l a) rem none :: L') W' → k (.tuple #[]) W') :
    efK P (Builtin.delete_ #[t, kt] ty #[.map (some r), K a]) k W := by
  obtain ⟨es, clock, seen, ⟨e1, e2, e3, e4⟩, h3⟩ := (h.perm hm.perm).mpi
  obtain ⟨e, he, seen', rfl, he1, he2⟩ := e4 _ rfl
  have hb := h3.blk.2
  have hn := mpL_nodup e1 e2
  rcases hK.find W a es.toList (mpL_keys e1) with ⟨h4, h5⟩ | ⟨j, e0, h4, h5, h6⟩
  · exact absurd he1 (h5 e he)
  · obtain ⟨p, hp, hp1, hp2⟩ := mpL_at e1 h5
    have hpa : p.1 = a := hK.inj (by rw [← hp1, h6])
    have hjs : j < es.size := by have := (List.getElem?_eq_some_iff.1 h5).1; simpa using this
    have hee : e0 = e := by
      obtain ⟨i, hi, hie⟩ := List.getElem_of_mem he
      obtain ⟨hj2, hje⟩ := List.getElem?_eq_some_iff.1 h5
      have hk : (es.toList.map (·.key))[i]'(by simpa using hi) = (es.toList.map (·.key))[j]'(by simpa using hj2) := by
        simp only [List.getElem_map]
        rw [hie, hje, he1, h6]
      have := (List.getElem_inj e2.2.2).1 hk
      subst this
      rw [← hie, ← hje]
    subst hee
    have hsub : (es.eraseIdxIfInBounds j).toList = es.toList.eraseIdx j := by
      unfold Array.eraseIdxIfInBounds
      rw [dif_pos hjs]
      simp
    refine ⟨.tuple #[], { W with heap := W.heap.setIfInBounds r (.map (es.eraseIdxIfInBounds j) clock) }, by simp [Builtin.delete_, run_underlying hT.ok, MapKept.run_getObj_map hb, hK.check W _ a, h4, MapKept.run_setObj_map _ hb, Result.andThen], hk _ ?_⟩
    refine (h3.setBlk (.map (es.eraseIdxIfInBounds j) clock)).ent (mpi_ent ⟨?_, stamped_erase e2 j, ?_, fun p hp => by cases hp⟩)
    · subst hpa
      rw [mdel_at hn hp]
      have h1' : _ = _ := e1
      simp only [mpL, hsub, map_eraseIdx, h1']
    · rw [← e3]
      congr 1
      simp only [leftOf, Array.toList_filter, hsub]
      obtain ⟨hj2, hje⟩ := List.getElem?_eq_some_iff.1 h5
      have e7 : es.toList = es.toList.take j ++ e0 :: es.toList.drop (j + 1) := by
        rw [← hje, ← List.drop_eq_getElem_cons hj2, List.take_append_drop]
      have e8 : es.toList.eraseIdx j = es.toList.take j ++ es.toList.drop (j + 1) := List.eraseIdx_eq_take_drop_succ _ _
      rw [e8]
      conv => rhs; rw [e7]
      rw [List.filter_append, List.filter_append, List.filter_cons]
      rw [if_neg (by simp)]
/-- a copy of a map -/
theorem cloneM {ρ : Go.Shelf.Ren} (L5 : Proofs.SlLaysW.n5 P ρ) {k : Value → World → Prop} (h : St W0 L W) [hm : Tk (Eng.mp K r) L l L'] (hk : ∀ r' W', St W0 (Eng.mp K r' l :: L) W' → k (.map (some r')) W') : callK P (ρ.f 5) [.map (some r)] k W := by
  obtain ⟨es, clock, h1, h2, h3⟩ := (h.perm hm.perm).mp
  refine (Proofs.AnyW.maps_Clone L5 r es clock W h3.blk.2).mono ?_
  rintro ed w' ⟨rfl, rfl⟩
  exact hk _ _ ((h.alloc (.map es clock)).ent (mp_ent h1 h2))
/-- a function value that tests an entry; what it needs is C -/
def PredM (P : Program) (K : κ → Value) (C : List Asn) (fv : Value) (p : κ × Value → Bool) : Prop :=
  ∀ (W0 : World) (L : List Asn) (a : κ) (v : Value) (W : World) (k : Value → World → Prop), St W0 (C ++ L) W → (∀ W', St W0 (C ++ L) W' → k (.bool (p (a, v))) W') → vcK P fv [K a, v] k W
end
/-- of what is still to come all stays; of the rest what is not to go -/
def dlt' {κ β : Type} [DecidableEq κ] (p : κ × β → Bool) (l rem : List (κ × β)) : List (κ × β) := l.filter fun x => !p x || decide (x.1 ∈ rem.map (·.1))
theorem dlt_all {κ β : Type} [DecidableEq κ] (p : κ × β → Bool) (l : List (κ × β)) : dlt' p l l = l := by
  unfold dlt'
  rw [List.filter_eq_self]
  intro x hx
  rw [decide_eq_true (List.mem_map.2 ⟨x, hx, rfl⟩), Bool.or_true]
theorem dlt_nil {κ β : Type} [DecidableEq κ] (p : κ × β → Bool) (l : List (κ × β)) : dlt' p l [] = l.filter fun x => !p x := by
  unfold dlt'
  simp
theorem dlt_nodup {κ β : Type} [DecidableEq κ] (p : κ × β → Bool) {l : List (κ × β)} (rem : List (κ × β)) (hn : (l.map (·.1)).Nodup) : ((dlt' p l rem).map (·.1)).Nodup := (List.Sublist.map _ List.filter_sublist).nodup hn
theorem mdel_filter {κ β : Type} [DecidableEq κ] {l : List (κ × β)} (hn : (l.map (·.1)).Nodup) (a : κ) : mdel l a = l.filter fun x => !decide (x.1 = a) := by
  induction l with
  | nil => rfl
  | cons x l ih =>
    obtain ⟨c, v⟩ := x
    simp only [List.map_cons, List.nodup_cons] at hn
    by_cases h : c = a
    · subst h
      simp only [mdel, if_true, List.filter_cons, decide_true, Bool.not_true, Bool.false_eq_true, if_false]
      symm
      rw [List.filter_eq_self]
      intro x hx
      have : x.1 ≠ c := fun e => hn.1 (List.mem_map.2 ⟨x, hx, e⟩)
      simp [this]
    · simp only [mdel, if_neg h, List.filter_cons, decide_eq_false h, Bool.not_false, if_true, ih hn.2]
section
variable {κ β : Type} [DecidableEq κ] {p : κ × β → Bool} {l pre post : List (κ × β)} {a : κ} {v : β}
omit [DecidableEq κ] in
theorem nodup_split (hn : ((pre ++ (a, v) :: post).map (·.1)).Nodup) : a ∉ (pre ++ post).map (·.1) := by
  simp only [List.map_append, List.map_cons, List.nodup_append, List.nodup_cons] at hn
  intro h
  rw [List.map_append, List.mem_append] at h
  rcases h with h | h
  · exact hn.2.2 a h a List.mem_cons_self rfl
  · exact hn.2.1.1 h
omit [DecidableEq κ] in
theorem mem_uniq {l : List (κ × β)} (hn : (l.map (·.1)).Nodup) {x y : κ × β} (hx : x ∈ l) (hy : y ∈ l) (h : x.1 = y.1) : x = y := by
  induction l with
  | nil => cases hx
  | cons z l ih =>
    simp only [List.map_cons, List.nodup_cons] at hn
    rcases List.mem_cons.1 hx with rfl | hx1
    · rcases List.mem_cons.1 hy with rfl | hy1
      · rfl
      · exact absurd (List.mem_map.2 ⟨y, hy1, h.symm⟩) hn.1
    · rcases List.mem_cons.1 hy with rfl | hy1
      · exact absurd (List.mem_map.2 ⟨x, hx1, h⟩) hn.1
      · exact ih hn.2 hx1 hy1
theorem dlt_keep (hn : (l.map (·.1)).Nodup) (hr : (a, v) ∈ l) (hp : p (a, v) = false) : dlt' p l (pre ++ post) = dlt' p l (pre ++ (a, v) :: post) := by
  unfold dlt'
  refine List.filter_congr fun x hx => ?_
  by_cases h : x.1 = a
  · have : x = (a, v) := mem_uniq hn hx hr h
    subst this
    simp [hp]
  · congr 1
    rw [decide_eq_decide]
    simp only [List.map_append, List.map_cons, List.mem_append, List.mem_cons]
    constructor
    · rintro (h1 | h1)
      · exact .inl h1
      · exact .inr (.inr h1)
    · rintro (h1 | h1 | h1)
      · exact .inl h1
      · exact absurd h1 h
      · exact .inr h1
theorem dlt_take (hn : (l.map (·.1)).Nodup) (hn2 : ((dlt' p l (pre ++ (a, v) :: post)).map (·.1)).Nodup) (hr : (a, v) ∈ l) (ha : a ∉ (pre ++ post).map (·.1)) (hp : p (a, v) = true) : mdel (dlt' p l (pre ++ (a, v) :: post)) a = dlt' p l (pre ++ post) := by
  rw [mdel_filter hn2]
  unfold dlt'
  rw [List.filter_filter]
  refine List.filter_congr fun x hx => ?_
  by_cases h : x.1 = a
  · have : x = (a, v) := mem_uniq hn hx hr h
    subst this
    rw [hp, decide_eq_false ha]
    simp
  · rw [decide_eq_false h, Bool.not_false, Bool.true_and]
    congr 1
    rw [decide_eq_decide]
    simp only [List.map_append, List.map_cons, List.mem_append, List.mem_cons]
    constructor
    · rintro (h1 | h1 | h1)
      · exact .inl h1
      · exact absurd h1 h
      · exact .inr h1
    · rintro (h1 | h1)
      · exact .inl h1
      · exact .inr (.inr h1)
end
end Go.Eng
