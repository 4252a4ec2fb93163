/- Contracts: orset's Drop, Copy, Same, Put. -/
import Derived.Test.YtmojfpaagokckaaCOrs2
import Derived.Test.YtmojfpaagokckaaMp4
import Derived.Test.YtmojfpaagokckaaCPackW
namespace Go.Proofs.Ytmojfpaagokckaa
set_option linter.unusedVariables false
set_option linter.unusedSimpArgs false
open Go Go.Eng

section
variable {W0 W : World} {L L' L1 L2 : List Asn} {q r g : Nat}
theorem delA {C : List Asn} {fv : Value} {p : Dot × Bs → Bool} {l : List (Dot × Bs)} {k : Value → World → Prop} 
    (hp : ∀ (W0 : World) (L : List Asn) (a : Dot) (v : Bs) (W : World) (k : Value → World → Prop), St W0 (C ++ L) W → (∀ W', St W0 (C ++ L) W' → k (.bool (p (a, v))) W') → vcK PR fv [KD a, sv v] k W)
    (h : St W0 (C ++ mp KD r (mvA l) :: L) W)
    (hk : ∀ W', St W0 (C ++ mp KD r (mvA (l.filter fun x => !p x)) :: L) W' → k (.tuple #[]) W') : callK PR F_maps_DeleteFunc_map_api_Dot_string_api_Dot_string [.map (some r), fv] k W := by
  apply S.maps_DeleteFunc_map_api_Dot_string_api_Dot_string.call
  unfold S.maps_DeleteFunc_map_api_Dot_string_api_Dot_string.body
  have h1 : St W0 (mp KD r (mvA l) :: (C ++ L)) W := h.perm List.perm_middle
  have hn : (l.map (·.1)).Nodup := by have := h1.mpNodup; simpa [mvA, List.map_map, Function.comp_def] using this
  refine rangeM (K := KD) h1 fun b W1 h => ?_
  refine loop_x (σ := List (Dot × Bs)) (fun _ => [.map (some r), fv, .pointer (some ⟨b, 0, none⟩)])
    (fun rem W1 => rem.Sublist l ∧ ∃ cur, St W0 (mpi KD r b (mvA (dlt' p l rem)) (mvA rem) cur :: (C ++ L)) W1)
    (fun rem => rem.length) l rfl ⟨List.Sublist.refl _, none, by rw [dlt_all]; exact h⟩ ?_
  clear h h1
  rintro K rem W2 ⟨hsub, cur, h⟩ hK
  simp -implicitDefEqProofs only [EN, lsub, lget, stL, beq_self_eq_true, ne_eq, if_true, if_false, List.cons_append, List.nil_append, Option.isNone_some, Option.isNone_none]
  unfold S.maps_DeleteFunc_map_api_Dot_string_api_Dot_string.l1
  refine nextM h (fun h0 => ?_) (fun pre f v post W3 h1 h => ?_)
  · have : rem = [] := by simpa [mvA] using h0
    subst this
    rw [dlt_nil] at h
    (repeat (first | (first | (with_reducible (first | refine w1 fun _ _ => ?_ | refine w3 fun _ _ _ => ?_ | refine w4 fun _ _ _ => ?_ | refine w11 fun _ _ _ => ?_ | refine stb_n ?_)) | ((with_reducible refine w2 ?_); try simp -implicitDefEqProofs only [EN, lsub, lget, stL, beq_self_eq_true, ne_eq, if_true, if_false, List.cons_append, List.nil_append, Option.isNone_some, Option.isNone_none]; intro _ _) | ((with_reducible (first | refine w5 ?_ ?_ | refine w6 ?_ ?_ | refine w7 ?_ ?_)); simp; refine ⟨_, rfl, ?_⟩) | ((with_reducible (first | refine w8 ?_ ?_ ?_ | refine w9 ?_ ?_ ?_ | refine w10 ?_ ?_ ?_)); exact rfl; simp) | ((with_reducible refine w12 ?_ ?_ ?_ fun _ _ => ?_); simp; simp; simp [oneC]) | ((with_reducible (first | refine eqs ?_ | refine nes ?_)); refine ⟨_, rfl, ?_⟩) | ((refine okF_i (bldP_eq rfl) ?_); try simp only [BLS, List.take_succ_cons, List.take_zero, List.drop_succ_cons, List.drop_zero, List.cons_append, List.nil_append, Nat.reduceAdd])) | simp -implicitDefEqProofs only [EN, lsub, lget, stL, beq_self_eq_true, ne_eq, if_true, if_false, List.cons_append, List.nil_append, Option.isNone_some, Option.isNone_none]))
    exact hk _ (h.mpiEnd.perm List.perm_middle.symm)
  · obtain ⟨A, tl, rfl, rfl, h2⟩ := List.map_eq_append_iff.1 h1
    obtain ⟨⟨d, x⟩, B, rfl, h3, rfl⟩ := List.map_eq_cons_iff.1 h2
    simp only [Prod.mk.injEq] at h3
    obtain ⟨rfl, rfl⟩ := h3
    have hmm : mvA A ++ mvA B = mvA (A ++ B) := by simp [mvA]
    rw [hmm] at h
    have hmem : (d, x) ∈ l := hsub.subset (by simp)
    have hsub2 : (A ++ B).Sublist l := (List.Sublist.append (List.Sublist.refl A) (List.sublist_cons_self _ _)).trans hsub
    have hna : d ∉ (A ++ B).map (·.1) := nodup_split ((hsub.map (·.1)).nodup hn)
    have hd2 := dlt_nodup p (A ++ (d, x) :: B) hn
    (repeat (first | (first | (with_reducible (first | refine w1 fun _ _ => ?_ | refine w3 fun _ _ _ => ?_ | refine w4 fun _ _ _ => ?_ | refine w11 fun _ _ _ => ?_ | refine stb_n ?_)) | ((with_reducible refine w2 ?_); try simp -implicitDefEqProofs only [EN, lsub, lget, stL, beq_self_eq_true, ne_eq, if_true, if_false, List.cons_append, List.nil_append, Option.isNone_some, Option.isNone_none]; intro _ _) | ((with_reducible (first | refine w5 ?_ ?_ | refine w6 ?_ ?_ | refine w7 ?_ ?_)); simp; refine ⟨_, rfl, ?_⟩) | ((with_reducible (first | refine w8 ?_ ?_ ?_ | refine w9 ?_ ?_ ?_ | refine w10 ?_ ?_ ?_)); exact rfl; simp) | ((with_reducible refine w12 ?_ ?_ ?_ fun _ _ => ?_); simp; simp; simp [oneC]) | ((with_reducible (first | refine eqs ?_ | refine nes ?_)); refine ⟨_, rfl, ?_⟩) | ((refine okF_i (bldP_eq rfl) ?_); try simp only [BLS, List.take_succ_cons, List.take_zero, List.drop_succ_cons, List.drop_zero, List.cons_append, List.nil_append, Nat.reduceAdd])) | simp -implicitDefEqProofs only [EN, lsub, lget, stL, beq_self_eq_true, ne_eq, if_true, if_false, List.cons_append, List.nil_append, Option.isNone_some, Option.isNone_none]))
    refine entryM h ?_
    (repeat (first | (first | (with_reducible (first | refine w1 fun _ _ => ?_ | refine w3 fun _ _ _ => ?_ | refine w4 fun _ _ _ => ?_ | refine w11 fun _ _ _ => ?_ | refine stb_n ?_)) | ((with_reducible refine w2 ?_); try simp -implicitDefEqProofs only [EN, lsub, lget, stL, beq_self_eq_true, ne_eq, if_true, if_false, List.cons_append, List.nil_append, Option.isNone_some, Option.isNone_none]; intro _ _) | ((with_reducible (first | refine w5 ?_ ?_ | refine w6 ?_ ?_ | refine w7 ?_ ?_)); simp; refine ⟨_, rfl, ?_⟩) | ((with_reducible (first | refine w8 ?_ ?_ ?_ | refine w9 ?_ ?_ ?_ | refine w10 ?_ ?_ ?_)); exact rfl; simp) | ((with_reducible refine w12 ?_ ?_ ?_ fun _ _ => ?_); simp; simp; simp [oneC]) | ((with_reducible (first | refine eqs ?_ | refine nes ?_)); refine ⟨_, rfl, ?_⟩) | ((refine okF_i (bldP_eq rfl) ?_); try simp only [BLS, List.take_succ_cons, List.take_zero, List.drop_succ_cons, List.drop_zero, List.cons_append, List.nil_append, Nat.reduceAdd])) | simp -implicitDefEqProofs only [EN, lsub, lget, stL, beq_self_eq_true, ne_eq, if_true, if_false, List.cons_append, List.nil_append, Option.isNone_some, Option.isNone_none]))
    rename_i vb _ _ W4 h4
    (try simp only [BLS, List.take_succ_cons, List.take_zero, List.drop_succ_cons, List.drop_zero, List.cons_append, List.nil_append, List.append_nil, List.take_nil, List.drop_nil, stL, Nat.reduceAdd] at h)
    have h5 : St W0 (C ++ (mpi KD r b (mvA (dlt' p l (A ++ (d, x) :: B))) (mvA (A ++ B)) (some (d, sv x)) :: cells vb [.int .i64 d.rep, .int .i64 d.n] T_api_Dot :: L)) W4 :=
      St.perm h4 ((List.Perm.swap _ _ _).trans (List.perm_append_comm_assoc [_, _] C L))
    refine hp _ _ d x _ _ h5 fun W5 h => ?_
    have h : St W0 (mpi KD r b (mvA (dlt' p l (A ++ (d, x) :: B))) (mvA (A ++ B)) (some (d, sv x)) :: cells vb [.int .i64 d.rep, .int .i64 d.n] T_api_Dot :: (C ++ L)) W5 := h.perm (List.perm_append_comm_assoc C [_, _] L)
    cases hpx : p (d, x) with
    | false =>
      rw [← dlt_keep hn hmem hpx] at h
      (repeat (first | (first | (with_reducible (first | refine w1 fun _ _ => ?_ | refine w3 fun _ _ _ => ?_ | refine w4 fun _ _ _ => ?_ | refine w11 fun _ _ _ => ?_ | refine stb_n ?_)) | ((with_reducible refine w2 ?_); try simp -implicitDefEqProofs only [EN, lsub, lget, stL, beq_self_eq_true, ne_eq, if_true, if_false, List.cons_append, List.nil_append, Option.isNone_some, Option.isNone_none]; intro _ _) | ((with_reducible (first | refine w5 ?_ ?_ | refine w6 ?_ ?_ | refine w7 ?_ ?_)); simp; refine ⟨_, rfl, ?_⟩) | ((with_reducible (first | refine w8 ?_ ?_ ?_ | refine w9 ?_ ?_ ?_ | refine w10 ?_ ?_ ?_)); exact rfl; simp) | ((with_reducible refine w12 ?_ ?_ ?_ fun _ _ => ?_); simp; simp; simp [oneC]) | ((with_reducible (first | refine eqs ?_ | refine nes ?_)); refine ⟨_, rfl, ?_⟩) | ((refine okF_i (bldP_eq rfl) ?_); try simp only [BLS, List.take_succ_cons, List.take_zero, List.drop_succ_cons, List.drop_zero, List.cons_append, List.nil_append, Nat.reduceAdd])) | simp -implicitDefEqProofs only [EN, lsub, lget, stL, beq_self_eq_true, ne_eq, if_true, if_false, List.cons_append, List.nil_append, Option.isNone_some, Option.isNone_none]))
      exact hK (A ++ B) _ (by simp) ⟨hsub2, _, h.ent (ent.swap _ _ _) |>.drop⟩
    | true =>
      (repeat (first | (first | (with_reducible (first | refine w1 fun _ _ => ?_ | refine w3 fun _ _ _ => ?_ | refine w4 fun _ _ _ => ?_ | refine w11 fun _ _ _ => ?_ | refine stb_n ?_)) | ((with_reducible refine w2 ?_); try simp -implicitDefEqProofs only [EN, lsub, lget, stL, beq_self_eq_true, ne_eq, if_true, if_false, List.cons_append, List.nil_append, Option.isNone_some, Option.isNone_none]; intro _ _) | ((with_reducible (first | refine w5 ?_ ?_ | refine w6 ?_ ?_ | refine w7 ?_ ?_)); simp; refine ⟨_, rfl, ?_⟩) | ((with_reducible (first | refine w8 ?_ ?_ ?_ | refine w9 ?_ ?_ ?_ | refine w10 ?_ ?_ ?_)); exact rfl; simp) | ((with_reducible refine w12 ?_ ?_ ?_ fun _ _ => ?_); simp; simp; simp [oneC]) | ((with_reducible (first | refine eqs ?_ | refine nes ?_)); refine ⟨_, rfl, ?_⟩) | ((refine okF_i (bldP_eq rfl) ?_); try simp only [BLS, List.take_succ_cons, List.take_zero, List.drop_succ_cons, List.drop_zero, List.cons_append, List.nil_append, Nat.reduceAdd])) | simp -implicitDefEqProofs only [EN, lsub, lget, stL, beq_self_eq_true, ne_eq, if_true, if_false, List.cons_append, List.nil_append, Option.isNone_some, Option.isNone_none]))
      refine mdeleteI (K := KD) (b := b) d h fun W6 h => ?_
      rw [show mdel (mvA (dlt' p l (A ++ (d, x) :: B))) d = mvA (mdel (dlt' p l (A ++ (d, x) :: B)) d) from mdel_map sv _ d, dlt_take hn hd2 hmem hna hpx] at h
      exact hK (A ++ B) _ (by simp) ⟨hsub2, none, h.ent (ent.swap _ _ _) |>.drop⟩
theorem delG {C : List Asn} {fv : Value} {p : Bs × P7 Int → Bool} {l : List (Bs × P7 Int)} {k : Value → World → Prop}
    (hp : ∀ (W0 : World) (L : List Asn) (a : Bs) (v : P7 Int) (W : World) (k : Value → World → Prop), St W0 (C ++ L) W → (∀ W', St W0 (C ++ L) W' → k (.bool (p (a, v))) W') → vcK PR fv [sv a, vv v] k W)
    (h : St W0 (C ++ mp KB r (mvG l) :: L) W) (hk : ∀ W', St W0 (C ++ mp KB r (mvG (l.filter fun x => !p x)) :: L) W' → k (.tuple #[]) W') : callK PR F_maps_DeleteFunc_map_string_vec_Vec_string_vec_Vec [.map (some r), fv] k W := by
  apply S.maps_DeleteFunc_map_string_vec_Vec_string_vec_Vec.call
  unfold S.maps_DeleteFunc_map_string_vec_Vec_string_vec_Vec.body
  have h1 : St W0 (mp KB r (mvG l) :: (C ++ L)) W := h.perm List.perm_middle
  have hn : (l.map (·.1)).Nodup := by have := h1.mpNodup; simpa [mvG, List.map_map, Function.comp_def] using this
  refine rangeM (K := KB) h1 fun b W1 h => ?_
  refine loop_x (σ := List (Bs × P7 Int)) (fun _ => [.map (some r), fv, .pointer (some ⟨b, 0, none⟩)])
    (fun rem W1 => rem.Sublist l ∧ ∃ cur, St W0 (mpi KB r b (mvG (dlt' p l rem)) (mvG rem) cur :: (C ++ L)) W1)
    (fun rem => rem.length) l rfl ⟨List.Sublist.refl _, none, by rw [dlt_all]; exact h⟩ ?_
  clear h h1
  rintro K rem W2 ⟨hsub, cur, h⟩ hK
  simp -implicitDefEqProofs only [EN, lsub, lget, stL, beq_self_eq_true, ne_eq, if_true, if_false, List.cons_append, List.nil_append, Option.isNone_some, Option.isNone_none]
  unfold S.maps_DeleteFunc_map_string_vec_Vec_string_vec_Vec.l1
  refine nextM h (fun h0 => ?_) (fun pre f v post W3 h1 h => ?_)
  · have : rem = [] := by simpa [mvG] using h0
    subst this
    rw [dlt_nil] at h
    (repeat (first | (first | (with_reducible (first | refine w1 fun _ _ => ?_ | refine w3 fun _ _ _ => ?_ | refine w4 fun _ _ _ => ?_ | refine w11 fun _ _ _ => ?_ | refine stb_n ?_)) | ((with_reducible refine w2 ?_); try simp -implicitDefEqProofs only [EN, lsub, lget, stL, beq_self_eq_true, ne_eq, if_true, if_false, List.cons_append, List.nil_append, Option.isNone_some, Option.isNone_none]; intro _ _) | ((with_reducible (first | refine w5 ?_ ?_ | refine w6 ?_ ?_ | refine w7 ?_ ?_)); simp; refine ⟨_, rfl, ?_⟩) | ((with_reducible (first | refine w8 ?_ ?_ ?_ | refine w9 ?_ ?_ ?_ | refine w10 ?_ ?_ ?_)); exact rfl; simp) | ((with_reducible refine w12 ?_ ?_ ?_ fun _ _ => ?_); simp; simp; simp [oneC]) | ((with_reducible (first | refine eqs ?_ | refine nes ?_)); refine ⟨_, rfl, ?_⟩) | ((refine okF_i (bldP_eq rfl) ?_); try simp only [BLS, List.take_succ_cons, List.take_zero, List.drop_succ_cons, List.drop_zero, List.cons_append, List.nil_append, Nat.reduceAdd])) | simp -implicitDefEqProofs only [EN, lsub, lget, stL, beq_self_eq_true, ne_eq, if_true, if_false, List.cons_append, List.nil_append, Option.isNone_some, Option.isNone_none]))
    exact hk _ (h.mpiEnd.perm List.perm_middle.symm)
  · obtain ⟨A, tl, rfl, rfl, h2⟩ := List.map_eq_append_iff.1 h1
    obtain ⟨⟨d, x⟩, B, rfl, h3, rfl⟩ := List.map_eq_cons_iff.1 h2
    simp only [Prod.mk.injEq] at h3
    obtain ⟨rfl, rfl⟩ := h3
    have hmm : mvG A ++ mvG B = mvG (A ++ B) := by simp [mvG]
    rw [hmm] at h
    have hmem : (d, x) ∈ l := hsub.subset (by simp)
    have hsub2 : (A ++ B).Sublist l := (List.Sublist.append (List.Sublist.refl A) (List.sublist_cons_self _ _)).trans hsub
    have hna : d ∉ (A ++ B).map (·.1) := nodup_split ((hsub.map (·.1)).nodup hn)
    have hd2 := dlt_nodup p (A ++ (d, x) :: B) hn
    (repeat (first | (first | (with_reducible (first | refine w1 fun _ _ => ?_ | refine w3 fun _ _ _ => ?_ | refine w4 fun _ _ _ => ?_ | refine w11 fun _ _ _ => ?_ | refine stb_n ?_)) | ((with_reducible refine w2 ?_); try simp -implicitDefEqProofs only [EN, lsub, lget, stL, beq_self_eq_true, ne_eq, if_true, if_false, List.cons_append, List.nil_append, Option.isNone_some, Option.isNone_none]; intro _ _) | ((with_reducible (first | refine w5 ?_ ?_ | refine w6 ?_ ?_ | refine w7 ?_ ?_)); simp; refine ⟨_, rfl, ?_⟩) | ((with_reducible (first | refine w8 ?_ ?_ ?_ | refine w9 ?_ ?_ ?_ | refine w10 ?_ ?_ ?_)); exact rfl; simp) | ((with_reducible refine w12 ?_ ?_ ?_ fun _ _ => ?_); simp; simp; simp [oneC]) | ((with_reducible (first | refine eqs ?_ | refine nes ?_)); refine ⟨_, rfl, ?_⟩) | ((refine okF_i (bldP_eq rfl) ?_); try simp only [BLS, List.take_succ_cons, List.take_zero, List.drop_succ_cons, List.drop_zero, List.cons_append, List.nil_append, Nat.reduceAdd])) | simp -implicitDefEqProofs only [EN, lsub, lget, stL, beq_self_eq_true, ne_eq, if_true, if_false, List.cons_append, List.nil_append, Option.isNone_some, Option.isNone_none]))
    refine entryM h ?_
    (repeat (first | (first | (with_reducible (first | refine w1 fun _ _ => ?_ | refine w3 fun _ _ _ => ?_ | refine w4 fun _ _ _ => ?_ | refine w11 fun _ _ _ => ?_ | refine stb_n ?_)) | ((with_reducible refine w2 ?_); try simp -implicitDefEqProofs only [EN, lsub, lget, stL, beq_self_eq_true, ne_eq, if_true, if_false, List.cons_append, List.nil_append, Option.isNone_some, Option.isNone_none]; intro _ _) | ((with_reducible (first | refine w5 ?_ ?_ | refine w6 ?_ ?_ | refine w7 ?_ ?_)); simp; refine ⟨_, rfl, ?_⟩) | ((with_reducible (first | refine w8 ?_ ?_ ?_ | refine w9 ?_ ?_ ?_ | refine w10 ?_ ?_ ?_)); exact rfl; simp) | ((with_reducible refine w12 ?_ ?_ ?_ fun _ _ => ?_); simp; simp; simp [oneC]) | ((with_reducible (first | refine eqs ?_ | refine nes ?_)); refine ⟨_, rfl, ?_⟩) | ((refine okF_i (bldP_eq rfl) ?_); try simp only [BLS, List.take_succ_cons, List.take_zero, List.drop_succ_cons, List.drop_zero, List.cons_append, List.nil_append, Nat.reduceAdd])) | simp -implicitDefEqProofs only [EN, lsub, lget, stL, beq_self_eq_true, ne_eq, if_true, if_false, List.cons_append, List.nil_append, Option.isNone_some, Option.isNone_none]))
    rename_i vb _ _ W4 h4
    (try simp only [BLS, List.take_succ_cons, List.take_zero, List.drop_succ_cons, List.drop_zero, List.cons_append, List.nil_append, List.append_nil, List.take_nil, List.drop_nil, stL, Nat.reduceAdd] at h)
    have h5 : St W0 (C ++ (mpi KB r b (mvG (dlt' p l (A ++ (d, x) :: B))) (mvG (A ++ B)) (some (d, vv x)) :: cells vb [.int .i64 x.x0, .int .i64 x.x1, .int .i64 x.x2, .int .i64 x.x3, .int .i64 x.x4, .int .i64 x.x5, .int .i64 x.x6] T_vec_Vec :: L)) W4 :=
      St.perm h4 ((List.Perm.swap _ _ _).trans (List.perm_append_comm_assoc [_, _] C L))
    refine hp _ _ d x _ _ h5 fun W5 h => ?_
    have h : St W0 (mpi KB r b (mvG (dlt' p l (A ++ (d, x) :: B))) (mvG (A ++ B)) (some (d, vv x)) :: cells vb [.int .i64 x.x0, .int .i64 x.x1, .int .i64 x.x2, .int .i64 x.x3, .int .i64 x.x4, .int .i64 x.x5, .int .i64 x.x6] T_vec_Vec :: (C ++ L)) W5 := h.perm (List.perm_append_comm_assoc C [_, _] L)
    cases hpx : p (d, x) with
    | false =>
      rw [← dlt_keep hn hmem hpx] at h
      (repeat (first | (first | (with_reducible (first | refine w1 fun _ _ => ?_ | refine w3 fun _ _ _ => ?_ | refine w4 fun _ _ _ => ?_ | refine w11 fun _ _ _ => ?_ | refine stb_n ?_)) | ((with_reducible refine w2 ?_); try simp -implicitDefEqProofs only [EN, lsub, lget, stL, beq_self_eq_true, ne_eq, if_true, if_false, List.cons_append, List.nil_append, Option.isNone_some, Option.isNone_none]; intro _ _) | ((with_reducible (first | refine w5 ?_ ?_ | refine w6 ?_ ?_ | refine w7 ?_ ?_)); simp; refine ⟨_, rfl, ?_⟩) | ((with_reducible (first | refine w8 ?_ ?_ ?_ | refine w9 ?_ ?_ ?_ | refine w10 ?_ ?_ ?_)); exact rfl; simp) | ((with_reducible refine w12 ?_ ?_ ?_ fun _ _ => ?_); simp; simp; simp [oneC]) | ((with_reducible (first | refine eqs ?_ | refine nes ?_)); refine ⟨_, rfl, ?_⟩) | ((refine okF_i (bldP_eq rfl) ?_); try simp only [BLS, List.take_succ_cons, List.take_zero, List.drop_succ_cons, List.drop_zero, List.cons_append, List.nil_append, Nat.reduceAdd])) | simp -implicitDefEqProofs only [EN, lsub, lget, stL, beq_self_eq_true, ne_eq, if_true, if_false, List.cons_append, List.nil_append, Option.isNone_some, Option.isNone_none]))
      exact hK (A ++ B) _ (by simp) ⟨hsub2, _, h.ent (ent.swap _ _ _) |>.drop⟩
    | true =>
      (repeat (first | (first | (with_reducible (first | refine w1 fun _ _ => ?_ | refine w3 fun _ _ _ => ?_ | refine w4 fun _ _ _ => ?_ | refine w11 fun _ _ _ => ?_ | refine stb_n ?_)) | ((with_reducible refine w2 ?_); try simp -implicitDefEqProofs only [EN, lsub, lget, stL, beq_self_eq_true, ne_eq, if_true, if_false, List.cons_append, List.nil_append, Option.isNone_some, Option.isNone_none]; intro _ _) | ((with_reducible (first | refine w5 ?_ ?_ | refine w6 ?_ ?_ | refine w7 ?_ ?_)); simp; refine ⟨_, rfl, ?_⟩) | ((with_reducible (first | refine w8 ?_ ?_ ?_ | refine w9 ?_ ?_ ?_ | refine w10 ?_ ?_ ?_)); exact rfl; simp) | ((with_reducible refine w12 ?_ ?_ ?_ fun _ _ => ?_); simp; simp; simp [oneC]) | ((with_reducible (first | refine eqs ?_ | refine nes ?_)); refine ⟨_, rfl, ?_⟩) | ((refine okF_i (bldP_eq rfl) ?_); try simp only [BLS, List.take_succ_cons, List.take_zero, List.drop_succ_cons, List.drop_zero, List.cons_append, List.nil_append, Nat.reduceAdd])) | simp -implicitDefEqProofs only [EN, lsub, lget, stL, beq_self_eq_true, ne_eq, if_true, if_false, List.cons_append, List.nil_append, Option.isNone_some, Option.isNone_none]))
      refine mdeleteI (K := KB) (b := b) d h fun W6 h => ?_
      rw [show mdel (mvG (dlt' p l (A ++ (d, x) :: B))) d = mvG (mdel (dlt' p l (A ++ (d, x) :: B)) d) from mdel_map vv _ d, dlt_take hn hd2 hmem hna hpx] at h
      exact hK (A ++ B) _ (by simp) ⟨hsub2, none, h.ent (ent.swap _ _ _) |>.drop⟩
end
end Go.Proofs.Ytmojfpaagokckaa
