/- Texts of the claim OrsetPlays, joined: COrs3, COrs4, ShLaw. -/
import Derived.Test.YtmojfpaagokckaaBOrsetPlays6
import Derived.Test.YtmojfpaagokckaaBOrsetPlays2
namespace Go.Proofs.Ytmojfpaagokckaa
set_option linter.unusedVariables false
set_option linter.unusedSimpArgs false
open Go Go.Eng

section
variable {W0 W : World} {L L' L1 L2 : List Asn} {q r g : Nat}
theorem delA {C : List Asn} {fv : Value} {p : Dot × Bs → Bool} {l : List (Dot × Bs)} {k : Value → World → Prop} 
    (hp : ∀ (W0 : World) (L : List Asn) (a : Dot) (v : Bs) (W : World) (k : Value → World → Prop), St W0 (C ++ L) W → (∀ W', St W0 (C ++ L) W' → k (.bool (p (a, v))) W') → vcK PR fv [KD a, sv v] k W)
    (h : St W0 (C ++ mp KD r (mvA l) :: L) W)
    (hk : ∀ W', St W0 (C ++ mp KD r (mvA (l.filter fun x => !p x)) :: L) W' → k (.tuple #[]) W') : callK PR F_maps_DeleteFunc_map_api_Dot_string_api_Dot_string [.map (some r), fv] k W := by
  apply S.maps_DeleteFunc_map_api_Dot_string_api_Dot_string.call
  unfold S.maps_DeleteFunc_map_api_Dot_string_api_Dot_string.body
  have h1 : St W0 (mp KD r (mvA l) :: (C ++ L)) W := h.perm List.perm_middle
  have hn : (l.map (·.1)).Nodup := by have := h1.mpNodup; simpa [mvA, List.map_map, Function.comp_def] using this
  refine rangeM (K := KD) h1 fun b W1 h => ?_
  refine loop_x (σ := List (Dot × Bs)) (fun _ => [.map (some r), fv, .pointer (some ⟨b, 0, none⟩)])
    (fun rem W1 => rem.Sublist l ∧ ∃ cur, St W0 (mpi KD r b (mvA (dlt' p l rem)) (mvA rem) cur :: (C ++ L)) W1)
    (fun rem => rem.length) l rfl ⟨List.Sublist.refl _, none, by rw [dlt_all]; exact h⟩ ?_
  clear h h1
  rintro K rem W2 ⟨hsub, cur, h⟩ hK
  simp -implicitDefEqProofs only [EN, lsub, lget, stL, beq_self_eq_true, ne_eq, if_true, if_false, List.cons_append, List.nil_append, Option.isNone_some, Option.isNone_none]
  unfold S.maps_DeleteFunc_map_api_Dot_string_api_Dot_string.l1
  refine nextM h (fun h0 => ?_) (fun pre f v post W3 h1 h => ?_)
  · have : rem = [] := by simpa [mvA] using h0
    subst this
    rw [dlt_nil] at h
    (repeat (first | (first | (with_reducible (first | refine w1 fun _ _ => ?_ | refine w3 fun _ _ _ => ?_ | refine w4 fun _ _ _ => ?_ | refine w11 fun _ _ _ => ?_ | refine stb_n ?_)) | ((with_reducible refine w2 ?_); try simp -implicitDefEqProofs only [EN, lsub, lget, stL, beq_self_eq_true, ne_eq, if_true, if_false, List.cons_append, List.nil_append, Option.isNone_some, Option.isNone_none]; intro _ _) | ((with_reducible (first | refine w5 ?_ ?_ | refine w6 ?_ ?_ | refine w7 ?_ ?_)); simp; refine ⟨_, rfl, ?_⟩) | ((with_reducible (first | refine w8 ?_ ?_ ?_ | refine w9 ?_ ?_ ?_ | refine w10 ?_ ?_ ?_)); exact rfl; simp) | ((with_reducible refine w12 ?_ ?_ ?_ fun _ _ => ?_); simp; simp; simp [oneC]) | ((with_reducible (first | refine eqs ?_ | refine nes ?_)); refine ⟨_, rfl, ?_⟩) | ((refine okF_i (bldP_eq rfl) ?_); try simp only [BLS, List.take_succ_cons, List.take_zero, List.drop_succ_cons, List.drop_zero, List.cons_append, List.nil_append, Nat.reduceAdd])) | simp -implicitDefEqProofs only [EN, lsub, lget, stL, beq_self_eq_true, ne_eq, if_true, if_false, List.cons_append, List.nil_append, Option.isNone_some, Option.isNone_none]))
    exact hk _ (h.mpiEnd.perm List.perm_middle.symm)
  · obtain ⟨A, tl, rfl, rfl, h2⟩ := List.map_eq_append_iff.1 h1
    obtain ⟨⟨d, x⟩, B, rfl, h3, rfl⟩ := List.map_eq_cons_iff.1 h2
    simp only [Prod.mk.injEq] at h3
    obtain ⟨rfl, rfl⟩ := h3
    have hmm : mvA A ++ mvA B = mvA (A ++ B) := by simp [mvA]
    rw [hmm] at h
    have hmem : (d, x) ∈ l := hsub.subset (by simp)
    have hsub2 : (A ++ B).Sublist l := (List.Sublist.append (List.Sublist.refl A) (List.sublist_cons_self _ _)).trans hsub
    have hna : d ∉ (A ++ B).map (·.1) := nodup_split ((hsub.map (·.1)).nodup hn)
    have hd2 := dlt_nodup p (A ++ (d, x) :: B) hn
    (repeat (first | (first | (with_reducible (first | refine w1 fun _ _ => ?_ | refine w3 fun _ _ _ => ?_ | refine w4 fun _ _ _ => ?_ | refine w11 fun _ _ _ => ?_ | refine stb_n ?_)) | ((with_reducible refine w2 ?_); try simp -implicitDefEqProofs only [EN, lsub, lget, stL, beq_self_eq_true, ne_eq, if_true, if_false, List.cons_append, List.nil_append, Option.isNone_some, Option.isNone_none]; intro _ _) | ((with_reducible (first | refine w5 ?_ ?_ | refine w6 ?_ ?_ | refine w7 ?_ ?_)); simp; refine ⟨_, rfl, ?_⟩) | ((with_reducible (first | refine w8 ?_ ?_ ?_ | refine w9 ?_ ?_ ?_ | refine w10 ?_ ?_ ?_)); exact rfl; simp) | ((with_reducible refine w12 ?_ ?_ ?_ fun _ _ => ?_); simp; simp; simp [oneC]) | ((with_reducible (first | refine eqs ?_ | refine nes ?_)); refine ⟨_, rfl, ?_⟩) | ((refine okF_i (bldP_eq rfl) ?_); try simp only [BLS, List.take_succ_cons, List.take_zero, List.drop_succ_cons, List.drop_zero, List.cons_append, List.nil_append, Nat.reduceAdd])) | simp -implicitDefEqProofs only [EN, lsub, lget, stL, beq_self_eq_true, ne_eq, if_true, if_false, List.cons_append, List.nil_append, Option.isNone_some, Option.isNone_none]))
    refine entryM h ?_
    (repeat (first | (first | (with_reducible (first | refine w1 fun _ _ => ?_ | refine w3 fun _ _ _ => ?_ | refine w4 fun _ _ _ => ?_ | refine w11 fun _ _ _ => ?_ | refine stb_n ?_)) | ((with_reducible refine w2 ?_); try simp -implicitDefEqProofs only [EN, lsub, lget, stL, beq_self_eq_true, ne_eq, if_true, if_false, List.cons_append, List.nil_append, Option.isNone_some, Option.isNone_none]; intro _ _) | ((with_reducible (first | refine w5 ?_ ?_ | refine w6 ?_ ?_ | refine w7 ?_ ?_)); simp; refine ⟨_, rfl, ?_⟩) | ((with_reducible (first | refine w8 ?_ ?_ ?_ | refine w9 ?_ ?_ ?_ | refine w10 ?_ ?_ ?_)); exact rfl; simp) | ((with_reducible refine w12 ?_ ?_ ?_ fun _ _ => ?_); simp; simp; simp [oneC]) | ((with_reducible (first | refine eqs ?_ | refine nes ?_)); refine ⟨_, rfl, ?_⟩) | ((refine okF_i (bldP_eq rfl) ?_); try simp only [BLS, List.take_succ_cons, List.take_zero, List.drop_succ_cons, List.drop_zero, List.cons_append, List.nil_append, Nat.reduceAdd])) | simp -implicitDefEqProofs only [EN, lsub, lget, stL, beq_self_eq_true, ne_eq, if_true, if_false, List.cons_append, List.nil_append, Option.isNone_some, Option.isNone_none]))
    rename_i vb _ _ W4 h4
    (try simp only [BLS, List.take_succ_cons, List.take_zero, List.drop_succ_cons, List.drop_zero, List.cons_append, List.nil_append, List.append_nil, List.take_nil, List.drop_nil, stL, Nat.reduceAdd] at h)
    have h5 : St W0 (C ++ (mpi KD r b (mvA (dlt' p l (A ++ (d, x) :: B))) (mvA (A ++ B)) (some (d, sv x)) :: cells vb [.int .i64 d.rep, .int .i64 d.n] T_api_Dot :: L)) W4 :=
      St.perm h4 ((List.Perm.swap _ _ _).trans (List.perm_append_comm_assoc [_, _] C L))
    refine hp _ _ d x _ _ h5 fun W5 h => ?_
    have h : St W0 (mpi KD r b (mvA (dlt' p l (A ++ (d, x) :: B))) (mvA (A ++ B)) (some (d, sv x)) :: cells vb [.int .i64 d.rep, .int .i64 d.n] T_api_Dot :: (C ++ L)) W5 := h.perm (List.perm_append_comm_assoc C [_, _] L)
    cases hpx : p (d, x) with
    | false =>
      rw [← dlt_keep hn hmem hpx] at h
      (repeat (first | (first | (with_reducible (first | refine w1 fun _ _ => ?_ | refine w3 fun _ _ _ => ?_ | refine w4 fun _ _ _ => ?_ | refine w11 fun _ _ _ => ?_ | refine stb_n ?_)) | ((with_reducible refine w2 ?_); try simp -implicitDefEqProofs only [EN, lsub, lget, stL, beq_self_eq_true, ne_eq, if_true, if_false, List.cons_append, List.nil_append, Option.isNone_some, Option.isNone_none]; intro _ _) | ((with_reducible (first | refine w5 ?_ ?_ | refine w6 ?_ ?_ | refine w7 ?_ ?_)); simp; refine ⟨_, rfl, ?_⟩) | ((with_reducible (first | refine w8 ?_ ?_ ?_ | refine w9 ?_ ?_ ?_ | refine w10 ?_ ?_ ?_)); exact rfl; simp) | ((with_reducible refine w12 ?_ ?_ ?_ fun _ _ => ?_); simp; simp; simp [oneC]) | ((with_reducible (first | refine eqs ?_ | refine nes ?_)); refine ⟨_, rfl, ?_⟩) | ((refine okF_i (bldP_eq rfl) ?_); try simp only [BLS, List.take_succ_cons, List.take_zero, List.drop_succ_cons, List.drop_zero, List.cons_append, List.nil_append, Nat.reduceAdd])) | simp -implicitDefEqProofs only [EN, lsub, lget, stL, beq_self_eq_true, ne_eq, if_true, if_false, List.cons_append, List.nil_append, Option.isNone_some, Option.isNone_none]))
      exact hK (A ++ B) _ (by simp) ⟨hsub2, _, h.ent (ent.swap _ _ _) |>.drop⟩
    | true =>
      (repeat (first | (first | (with_reducible (first | refine w1 fun _ _ => ?_ | refine w3 fun _ _ _ => ?_ | refine w4 fun _ _ _ => ?_ | refine w11 fun _ _ _ => ?_ | refine stb_n ?_)) | ((with_reducible refine w2 ?_); try simp -implicitDefEqProofs only [EN, lsub, lget, stL, beq_self_eq_true, ne_eq, if_true, if_false, List.cons_append, List.nil_append, Option.isNone_some, Option.isNone_none]; intro _ _) | ((with_reducible (first | refine w5 ?_ ?_ | refine w6 ?_ ?_ | refine w7 ?_ ?_)); simp; refine ⟨_, rfl, ?_⟩) | ((with_reducible (first | refine w8 ?_ ?_ ?_ | refine w9 ?_ ?_ ?_ | refine w10 ?_ ?_ ?_)); exact rfl; simp) | ((with_reducible refine w12 ?_ ?_ ?_ fun _ _ => ?_); simp; simp; simp [oneC]) | ((with_reducible (first | refine eqs ?_ | refine nes ?_)); refine ⟨_, rfl, ?_⟩) | ((refine okF_i (bldP_eq rfl) ?_); try simp only [BLS, List.take_succ_cons, List.take_zero, List.drop_succ_cons, List.drop_zero, List.cons_append, List.nil_append, Nat.reduceAdd])) | simp -implicitDefEqProofs only [EN, lsub, lget, stL, beq_self_eq_true, ne_eq, if_true, if_false, List.cons_append, List.nil_append, Option.isNone_some, Option.isNone_none]))
      refine mdeleteI (K := KD) (b := b) d h fun W6 h => ?_
      rw [show mdel (mvA (dlt' p l (A ++ (d, x) :: B))) d = mvA (mdel (dlt' p l (A ++ (d, x) :: B)) d) from mdel_map sv _ d, dlt_take hn hd2 hmem hna hpx] at h
      exact hK (A ++ B) _ (by simp) ⟨hsub2, none, h.ent (ent.swap _ _ _) |>.drop⟩
theorem delG {C : List Asn} {fv : Value} {p : Bs × P7 Int → Bool} {l : List (Bs × P7 Int)} {k : Value → World → Prop}
    (hp : ∀ (W0 : World) (L : List Asn) (a : Bs) (v : P7 Int) (W : World) (k : Value → World → Prop), St W0 (C ++ L) W → (∀ W', St W0 (C ++ L) W' → k (.bool (p (a, v))) W') → vcK PR fv [sv a, vv v] k W)
    (h : St W0 (C ++ mp KB r (mvG l) :: L) W) (hk : ∀ W', St W0 (C ++ mp KB r (mvG (l.filter fun x => !p x)) :: L) W' → k (.tuple #[]) W') : callK PR F_maps_DeleteFunc_map_string_vec_Vec_string_vec_Vec [.map (some r), fv] k W := by
  apply S.maps_DeleteFunc_map_string_vec_Vec_string_vec_Vec.call
  unfold S.maps_DeleteFunc_map_string_vec_Vec_string_vec_Vec.body
  have h1 : St W0 (mp KB r (mvG l) :: (C ++ L)) W := h.perm List.perm_middle
  have hn : (l.map (·.1)).Nodup := by have := h1.mpNodup; simpa [mvG, List.map_map, Function.comp_def] using this
  refine rangeM (K := KB) h1 fun b W1 h => ?_
  refine loop_x (σ := List (Bs × P7 Int)) (fun _ => [.map (some r), fv, .pointer (some ⟨b, 0, none⟩)])
    (fun rem W1 => rem.Sublist l ∧ ∃ cur, St W0 (mpi KB r b (mvG (dlt' p l rem)) (mvG rem) cur :: (C ++ L)) W1)
    (fun rem => rem.length) l rfl ⟨List.Sublist.refl _, none, by rw [dlt_all]; exact h⟩ ?_
  clear h h1
  rintro K rem W2 ⟨hsub, cur, h⟩ hK
  simp -implicitDefEqProofs only [EN, lsub, lget, stL, beq_self_eq_true, ne_eq, if_true, if_false, List.cons_append, List.nil_append, Option.isNone_some, Option.isNone_none]
  unfold S.maps_DeleteFunc_map_string_vec_Vec_string_vec_Vec.l1
  refine nextM h (fun h0 => ?_) (fun pre f v post W3 h1 h => ?_)
  · have : rem = [] := by simpa [mvG] using h0
    subst this
    rw [dlt_nil] at h
    (repeat (first | (first | (with_reducible (first | refine w1 fun _ _ => ?_ | refine w3 fun _ _ _ => ?_ | refine w4 fun _ _ _ => ?_ | refine w11 fun _ _ _ => ?_ | refine stb_n ?_)) | ((with_reducible refine w2 ?_); try simp -implicitDefEqProofs only [EN, lsub, lget, stL, beq_self_eq_true, ne_eq, if_true, if_false, List.cons_append, List.nil_append, Option.isNone_some, Option.isNone_none]; intro _ _) | ((with_reducible (first | refine w5 ?_ ?_ | refine w6 ?_ ?_ | refine w7 ?_ ?_)); simp; refine ⟨_, rfl, ?_⟩) | ((with_reducible (first | refine w8 ?_ ?_ ?_ | refine w9 ?_ ?_ ?_ | refine w10 ?_ ?_ ?_)); exact rfl; simp) | ((with_reducible refine w12 ?_ ?_ ?_ fun _ _ => ?_); simp; simp; simp [oneC]) | ((with_reducible (first | refine eqs ?_ | refine nes ?_)); refine ⟨_, rfl, ?_⟩) | ((refine okF_i (bldP_eq rfl) ?_); try simp only [BLS, List.take_succ_cons, List.take_zero, List.drop_succ_cons, List.drop_zero, List.cons_append, List.nil_append, Nat.reduceAdd])) | simp -implicitDefEqProofs only [EN, lsub, lget, stL, beq_self_eq_true, ne_eq, if_true, if_false, List.cons_append, List.nil_append, Option.isNone_some, Option.isNone_none]))
    exact hk _ (h.mpiEnd.perm List.perm_middle.symm)
  · obtain ⟨A, tl, rfl, rfl, h2⟩ := List.map_eq_append_iff.1 h1
    obtain ⟨⟨d, x⟩, B, rfl, h3, rfl⟩ := List.map_eq_cons_iff.1 h2
    simp only [Prod.mk.injEq] at h3
    obtain ⟨rfl, rfl⟩ := h3
    have hmm : mvG A ++ mvG B = mvG (A ++ B) := by simp [mvG]
    rw [hmm] at h
    have hmem : (d, x) ∈ l := hsub.subset (by simp)
    have hsub2 : (A ++ B).Sublist l := (List.Sublist.append (List.Sublist.refl A) (List.sublist_cons_self _ _)).trans hsub
    have hna : d ∉ (A ++ B).map (·.1) := nodup_split ((hsub.map (·.1)).nodup hn)
    have hd2 := dlt_nodup p (A ++ (d, x) :: B) hn
    (repeat (first | (first | (with_reducible (first | refine w1 fun _ _ => ?_ | refine w3 fun _ _ _ => ?_ | refine w4 fun _ _ _ => ?_ | refine w11 fun _ _ _ => ?_ | refine stb_n ?_)) | ((with_reducible refine w2 ?_); try simp -implicitDefEqProofs only [EN, lsub, lget, stL, beq_self_eq_true, ne_eq, if_true, if_false, List.cons_append, List.nil_append, Option.isNone_some, Option.isNone_none]; intro _ _) | ((with_reducible (first | refine w5 ?_ ?_ | refine w6 ?_ ?_ | refine w7 ?_ ?_)); simp; refine ⟨_, rfl, ?_⟩) | ((with_reducible (first | refine w8 ?_ ?_ ?_ | refine w9 ?_ ?_ ?_ | refine w10 ?_ ?_ ?_)); exact rfl; simp) | ((with_reducible refine w12 ?_ ?_ ?_ fun _ _ => ?_); simp; simp; simp [oneC]) | ((with_reducible (first | refine eqs ?_ | refine nes ?_)); refine ⟨_, rfl, ?_⟩) | ((refine okF_i (bldP_eq rfl) ?_); try simp only [BLS, List.take_succ_cons, List.take_zero, List.drop_succ_cons, List.drop_zero, List.cons_append, List.nil_append, Nat.reduceAdd])) | simp -implicitDefEqProofs only [EN, lsub, lget, stL, beq_self_eq_true, ne_eq, if_true, if_false, List.cons_append, List.nil_append, Option.isNone_some, Option.isNone_none]))
    refine entryM h ?_
    (repeat (first | (first | (with_reducible (first | refine w1 fun _ _ => ?_ | refine w3 fun _ _ _ => ?_ | refine w4 fun _ _ _ => ?_ | refine w11 fun _ _ _ => ?_ | refine stb_n ?_)) | ((with_reducible refine w2 ?_); try simp -implicitDefEqProofs only [EN, lsub, lget, stL, beq_self_eq_true, ne_eq, if_true, if_false, List.cons_append, List.nil_append, Option.isNone_some, Option.isNone_none]; intro _ _) | ((with_reducible (first | refine w5 ?_ ?_ | refine w6 ?_ ?_ | refine w7 ?_ ?_)); simp; refine ⟨_, rfl, ?_⟩) | ((with_reducible (first | refine w8 ?_ ?_ ?_ | refine w9 ?_ ?_ ?_ | refine w10 ?_ ?_ ?_)); exact rfl; simp) | ((with_reducible refine w12 ?_ ?_ ?_ fun _ _ => ?_); simp; simp; simp [oneC]) | ((with_reducible (first | refine eqs ?_ | refine nes ?_)); refine ⟨_, rfl, ?_⟩) | ((refine okF_i (bldP_eq rfl) ?_); try simp only [BLS, List.take_succ_cons, List.take_zero, List.drop_succ_cons, List.drop_zero, List.cons_append, List.nil_append, Nat.reduceAdd])) | simp -implicitDefEqProofs only [EN, lsub, lget, stL, beq_self_eq_true, ne_eq, if_true, if_false, List.cons_append, List.nil_append, Option.isNone_some, Option.isNone_none]))
    rename_i vb _ _ W4 h4
    (try simp only [BLS, List.take_succ_cons, List.take_zero, List.drop_succ_cons, List.drop_zero, List.cons_append, List.nil_append, List.append_nil, List.take_nil, List.drop_nil, stL, Nat.reduceAdd] at h)
    have h5 : St W0 (C ++ (mpi KB r b (mvG (dlt' p l (A ++ (d, x) :: B))) (mvG (A ++ B)) (some (d, vv x)) :: cells vb [.int .i64 x.x0, .int .i64 x.x1, .int .i64 x.x2, .int .i64 x.x3, .int .i64 x.x4, .int .i64 x.x5, .int .i64 x.x6] T_vec_Vec :: L)) W4 :=
      St.perm h4 ((List.Perm.swap _ _ _).trans (List.perm_append_comm_assoc [_, _] C L))
    refine hp _ _ d x _ _ h5 fun W5 h => ?_
    have h : St W0 (mpi KB r b (mvG (dlt' p l (A ++ (d, x) :: B))) (mvG (A ++ B)) (some (d, vv x)) :: cells vb [.int .i64 x.x0, .int .i64 x.x1, .int .i64 x.x2, .int .i64 x.x3, .int .i64 x.x4, .int .i64 x.x5, .int .i64 x.x6] T_vec_Vec :: (C ++ L)) W5 := h.perm (List.perm_append_comm_assoc C [_, _] L)
    cases hpx : p (d, x) with
    | false =>
      rw [← dlt_keep hn hmem hpx] at h
      (repeat (first | (first | (with_reducible (first | refine w1 fun _ _ => ?_ | refine w3 fun _ _ _ => ?_ | refine w4 fun _ _ _ => ?_ | refine w11 fun _ _ _ => ?_ | refine stb_n ?_)) | ((with_reducible refine w2 ?_); try simp -implicitDefEqProofs only [EN, lsub, lget, stL, beq_self_eq_true, ne_eq, if_true, if_false, List.cons_append, List.nil_append, Option.isNone_some, Option.isNone_none]; intro _ _) | ((with_reducible (first | refine w5 ?_ ?_ | refine w6 ?_ ?_ | refine w7 ?_ ?_)); simp; refine ⟨_, rfl, ?_⟩) | ((with_reducible (first | refine w8 ?_ ?_ ?_ | refine w9 ?_ ?_ ?_ | refine w10 ?_ ?_ ?_)); exact rfl; simp) | ((with_reducible refine w12 ?_ ?_ ?_ fun _ _ => ?_); simp; simp; simp [oneC]) | ((with_reducible (first | refine eqs ?_ | refine nes ?_)); refine ⟨_, rfl, ?_⟩) | ((refine okF_i (bldP_eq rfl) ?_); try simp only [BLS, List.take_succ_cons, List.take_zero, List.drop_succ_cons, List.drop_zero, List.cons_append, List.nil_append, Nat.reduceAdd])) | simp -implicitDefEqProofs only [EN, lsub, lget, stL, beq_self_eq_true, ne_eq, if_true, if_false, List.cons_append, List.nil_append, Option.isNone_some, Option.isNone_none]))
      exact hK (A ++ B) _ (by simp) ⟨hsub2, _, h.ent (ent.swap _ _ _) |>.drop⟩
    | true =>
      (repeat (first | (first | (with_reducible (first | refine w1 fun _ _ => ?_ | refine w3 fun _ _ _ => ?_ | refine w4 fun _ _ _ => ?_ | refine w11 fun _ _ _ => ?_ | refine stb_n ?_)) | ((with_reducible refine w2 ?_); try simp -implicitDefEqProofs only [EN, lsub, lget, stL, beq_self_eq_true, ne_eq, if_true, if_false, List.cons_append, List.nil_append, Option.isNone_some, Option.isNone_none]; intro _ _) | ((with_reducible (first | refine w5 ?_ ?_ | refine w6 ?_ ?_ | refine w7 ?_ ?_)); simp; refine ⟨_, rfl, ?_⟩) | ((with_reducible (first | refine w8 ?_ ?_ ?_ | refine w9 ?_ ?_ ?_ | refine w10 ?_ ?_ ?_)); exact rfl; simp) | ((with_reducible refine w12 ?_ ?_ ?_ fun _ _ => ?_); simp; simp; simp [oneC]) | ((with_reducible (first | refine eqs ?_ | refine nes ?_)); refine ⟨_, rfl, ?_⟩) | ((refine okF_i (bldP_eq rfl) ?_); try simp only [BLS, List.take_succ_cons, List.take_zero, List.drop_succ_cons, List.drop_zero, List.cons_append, List.nil_append, Nat.reduceAdd])) | simp -implicitDefEqProofs only [EN, lsub, lget, stL, beq_self_eq_true, ne_eq, if_true, if_false, List.cons_append, List.nil_append, Option.isNone_some, Option.isNone_none]))
      refine mdeleteI (K := KB) (b := b) d h fun W6 h => ?_
      rw [show mdel (mvG (dlt' p l (A ++ (d, x) :: B))) d = mvG (mdel (dlt' p l (A ++ (d, x) :: B)) d) from mdel_map vv _ d, dlt_take hn hd2 hmem hna hpx] at h
      exact hK (A ++ B) _ (by simp) ⟨hsub2, none, h.ent (ent.swap _ _ _) |>.drop⟩
end
end Go.Proofs.Ytmojfpaagokckaa
namespace Go.Proofs.Ytmojfpaagokckaa
set_option linter.unusedVariables false
set_option linter.unusedSimpArgs false
open Go Go.Eng

theorem putD_len (b : Bs) (d : Dot) (h : d.ok = true) : b.length ≤ (putD b d).length ∧ (putD b d).length ≤ b.length + 20 := by
  unfold Dot.ok at h
  simp only [decide_eq_true_eq] at h
  have h1 := encN_le (v := d.rep) (by omega) (by omega)
  have h2 := encN_le (v := d.n) (by omega) (by omega)
  unfold putD
  simp only [List.length_append]
  omega
theorem putDs_len : ∀ (l : List Dot) (b : Bs), (∀ d ∈ l, d.ok = true) → (l.foldl putD b).length ≤ b.length + 20 * l.length
  | [], b, _ => by simp
  | d :: l, b, h => by
    have h1 := putD_len b d (h d (by simp))
    have h2 := putDs_len l (putD b d) fun x hx => h x (by simp [hx])
    simp only [List.foldl_cons, List.length_cons]
    omega
section
variable {s : OS}
theorem OS.ok.dots (h : s.ok) (x : Bs) : ∀ d ∈ s.dots x, d.ok = true := fun d hd => (h.add _ (OS.dots_mem.1 hd).1).1
theorem OS.ok.all (h : s.ok) : ∀ x ∈ s.all, x.length ≤ 100 := fun x hx => by
  obtain ⟨d, hd, _⟩ := OS.all_mem.1 hx
  exact (h.add _ hd).2
theorem putX_len (h : s.ok) (hl : s.added.length ≤ 1000) (b x : Bs) (hx : x.length ≤ 100) : (s.putX b x).length ≤ b.length + 30000 := by
  have h1 := putDs_len (s.dots x) (b ++ encN x.length ++ x ++ encN (s.dots x).length) (h.dots x)
  have h2 := encN_le (v := x.length) (by omega) (by omega)
  have h4 := s.dots_len x
  have h3 := encN_le (v := (s.dots x).length) (by omega) (by omega)
  simp only [List.length_append] at h1
  unfold OS.putX
  omega
theorem putXs_len (h : s.ok) (hl : s.added.length ≤ 1000) : ∀ (l : List Bs) (b : Bs), (∀ x ∈ l, x.length ≤ 100) → (l.foldl s.putX b).length ≤ b.length + 30000 * l.length
  | [], b, _ => by simp
  | x :: l, b, hx => by
    have h1 := putX_len h hl b x (hx x (by simp))
    have h2 := putXs_len h hl l (s.putX b x) fun y hy => hx y (by simp [hy])
    simp only [List.foldl_cons, List.length_cons]
    omega
end
theorem foldl_take {α β : Type} (f : β → α → β) (b : β) (l : List α) {i : Nat} (hi : i < l.length) : (l.take (i + 1)).foldl f b = f ((l.take i).foldl f b) l[i] := by
  rw [List.take_succ_eq_append_getElem hi, List.foldl_append]
  rfl
section
variable {W0 W : World} {L L' L1 L2 : List Asn} {q r g : Nat}
theorem orsetDrop {s : OS} {st : P7 Int} {k : Value → World → Prop} (h : St W0 L W) [ht : Tk (os q) L s L'] (hk : ∀ W', St W0 (os q (s.drop st) :: L') W' → k (.tuple #[]) W') :
    callK PR F_orset_Set_Drop [.pointer (some ⟨q, 0, none⟩), vv st] k W := by
  apply S.orset_Set_Drop.call
  unfold S.orset_Set_Drop.body
  obtain ⟨r, g, h⟩ := os_at (h.perm ht.perm)
  refine bx h fun pb W1 h => ?_
  have h : St W0 (cells pb [.pointer (some ⟨q, 0, none⟩)] T_p_orset_Set :: cells q [.map (some r), .map (some g)] T_orset_Set :: mp KD r (mvA s.added) :: mp KB g (mvG s.gone) :: L') W1 := h
  refine bxa h fun vb W1 h => ?_
  (repeat (first | (first | (with_reducible (first | refine w1 fun _ _ => ?_ | refine w3 fun _ _ _ => ?_ | refine w4 fun _ _ _ => ?_ | refine w11 fun _ _ _ => ?_ | refine stb_n ?_)) | ((with_reducible refine w2 ?_); try simp -implicitDefEqProofs only [EN, lsub, lget, stL, beq_self_eq_true, ne_eq, if_true, if_false, List.cons_append, List.nil_append, Option.isNone_some, Option.isNone_none]; intro _ _) | ((with_reducible (first | refine w5 ?_ ?_ | refine w6 ?_ ?_ | refine w7 ?_ ?_)); simp; refine ⟨_, rfl, ?_⟩) | ((with_reducible (first | refine w8 ?_ ?_ ?_ | refine w9 ?_ ?_ ?_ | refine w10 ?_ ?_ ?_)); exact rfl; simp) | ((with_reducible refine w12 ?_ ?_ ?_ fun _ _ => ?_); simp; simp; simp [oneC]) | ((with_reducible (first | refine eqs ?_ | refine nes ?_)); refine ⟨_, rfl, ?_⟩) | ((refine okF_i (bldP_eq rfl) ?_); try simp only [BLS, List.take_succ_cons, List.take_zero, List.drop_succ_cons, List.drop_zero, List.cons_append, List.nil_append, Nat.reduceAdd])) | simp -implicitDefEqProofs only [EN, lsub, lget, stL, beq_self_eq_true, ne_eq, if_true, if_false, List.cons_append, List.nil_append, Option.isNone_some, Option.isNone_none]))
  have h1 : St W0 ([cells pb [.pointer (some ⟨q, 0, none⟩)] T_p_orset_Set, cells vb [.int .i64 st.x0, .int .i64 st.x1, .int .i64 st.x2, .int .i64 st.x3, .int .i64 st.x4, .int .i64 st.x5, .int .i64 st.x6] T_vec_Vec, cells q [.map (some r), .map (some g)] T_orset_Set, mp KB g (mvG s.gone)] ++ mp KD r (mvA s.added) :: L') W1 :=
    St.wk (L' := cells pb [.pointer (some ⟨q, 0, none⟩)] T_p_orset_Set :: cells vb [.int .i64 st.x0, .int .i64 st.x1, .int .i64 st.x2, .int .i64 st.x3, .int .i64 st.x4, .int .i64 st.x5, .int .i64 st.x6] T_vec_Vec :: cells q [.map (some r), .map (some g)] T_orset_Set :: mp KB g (mvG s.gone) :: mp KD r (mvA s.added) :: L') h
  refine delA (p := fun x => !s.live x.1 x.2 && hasV st x.1) (fun W0 L a v W k h hk => ?_) h1 fun W2 h => ?_
  · refine ⟨CBok _ (by kernel_rfl), ?_⟩
    apply S.orset_Set_Drop_1.call
    unfold S.orset_Set_Drop_1.body
    have h : St W0 (cells pb [.pointer (some ⟨q, 0, none⟩)] T_p_orset_Set :: cells vb [.int .i64 st.x0, .int .i64 st.x1, .int .i64 st.x2, .int .i64 st.x3, .int .i64 st.x4, .int .i64 st.x5, .int .i64 st.x6] T_vec_Vec :: cells q [.map (some r), .map (some g)] T_orset_Set :: mp KB g (mvG s.gone) :: L) W := h
    (repeat (first | (first | (with_reducible (first | refine w1 fun _ _ => ?_ | refine w3 fun _ _ _ => ?_ | refine w4 fun _ _ _ => ?_ | refine w11 fun _ _ _ => ?_ | refine stb_n ?_)) | ((with_reducible refine w2 ?_); try simp -implicitDefEqProofs only [EN, lsub, lget, stL, beq_self_eq_true, ne_eq, if_true, if_false, List.cons_append, List.nil_append, Option.isNone_some, Option.isNone_none]; intro _ _) | ((with_reducible (first | refine w5 ?_ ?_ | refine w6 ?_ ?_ | refine w7 ?_ ?_)); simp; refine ⟨_, rfl, ?_⟩) | ((with_reducible (first | refine w8 ?_ ?_ ?_ | refine w9 ?_ ?_ ?_ | refine w10 ?_ ?_ ?_)); exact rfl; simp) | ((with_reducible refine w12 ?_ ?_ ?_ fun _ _ => ?_); simp; simp; simp [oneC]) | ((with_reducible (first | refine eqs ?_ | refine nes ?_)); refine ⟨_, rfl, ?_⟩) | ((refine okF_i (bldP_eq rfl) ?_); try simp only [BLS, List.take_succ_cons, List.take_zero, List.drop_succ_cons, List.drop_zero, List.cons_append, List.nil_append, Nat.reduceAdd])) | simp -implicitDefEqProofs only [EN, lsub, lget, stL, beq_self_eq_true, ne_eq, if_true, if_false, List.cons_append, List.nil_append, Option.isNone_some, Option.isNone_none]))
    refine orsetLive (s := s) (d := a) (x := v) (q := q) (r := r) (g := g) (by first | assumption | exact St.tick (by assumption) | exact St.tick (St.tick (by assumption))) fun W3 h => ?_
    have eh : hasV ⟨st.x0, st.x1, st.x2, st.x3, st.x4, st.x5, st.x6⟩ ⟨a.rep, a.n⟩ = hasV st a := rfl
    cases hlv : s.live a v with
    | true =>
      rw [hlv] at hk
      (repeat (first | (first | (with_reducible (first | refine w1 fun _ _ => ?_ | refine w3 fun _ _ _ => ?_ | refine w4 fun _ _ _ => ?_ | refine w11 fun _ _ _ => ?_ | refine stb_n ?_)) | ((with_reducible refine w2 ?_); try simp -implicitDefEqProofs only [EN, lsub, lget, stL, beq_self_eq_true, ne_eq, if_true, if_false, List.cons_append, List.nil_append, Option.isNone_some, Option.isNone_none]; intro _ _) | ((with_reducible (first | refine w5 ?_ ?_ | refine w6 ?_ ?_ | refine w7 ?_ ?_)); simp; refine ⟨_, rfl, ?_⟩) | ((with_reducible (first | refine w8 ?_ ?_ ?_ | refine w9 ?_ ?_ ?_ | refine w10 ?_ ?_ ?_)); exact rfl; simp) | ((with_reducible refine w12 ?_ ?_ ?_ fun _ _ => ?_); simp; simp; simp [oneC]) | ((with_reducible (first | refine eqs ?_ | refine nes ?_)); refine ⟨_, rfl, ?_⟩) | ((refine okF_i (bldP_eq rfl) ?_); try simp only [BLS, List.take_succ_cons, List.take_zero, List.drop_succ_cons, List.drop_zero, List.cons_append, List.nil_append, Nat.reduceAdd])) | simp -implicitDefEqProofs only [EN, lsub, lget, stL, beq_self_eq_true, ne_eq, if_true, if_false, List.cons_append, List.nil_append, Option.isNone_some, Option.isNone_none]))
      exact hk _ (St.wk (L' := cells pb [.pointer (some ⟨q, 0, none⟩)] T_p_orset_Set :: cells vb [.int .i64 st.x0, .int .i64 st.x1, .int .i64 st.x2, .int .i64 st.x3, .int .i64 st.x4, .int .i64 st.x5, .int .i64 st.x6] T_vec_Vec :: cells q [.map (some r), .map (some g)] T_orset_Set :: mp KB g (mvG s.gone) :: L) (by first | assumption | exact St.tick (by assumption) | exact St.tick (St.tick (by assumption))))
    | false =>
      rw [hlv] at hk
      (repeat (first | (first | (with_reducible (first | refine w1 fun _ _ => ?_ | refine w3 fun _ _ _ => ?_ | refine w4 fun _ _ _ => ?_ | refine w11 fun _ _ _ => ?_ | refine stb_n ?_)) | ((with_reducible refine w2 ?_); try simp -implicitDefEqProofs only [EN, lsub, lget, stL, beq_self_eq_true, ne_eq, if_true, if_false, List.cons_append, List.nil_append, Option.isNone_some, Option.isNone_none, eh]; intro _ _) | ((with_reducible (first | refine w5 ?_ ?_ | refine w6 ?_ ?_ | refine w7 ?_ ?_)); simp; refine ⟨_, rfl, ?_⟩) | ((with_reducible (first | refine w8 ?_ ?_ ?_ | refine w9 ?_ ?_ ?_ | refine w10 ?_ ?_ ?_)); exact rfl; simp) | ((with_reducible refine w12 ?_ ?_ ?_ fun _ _ => ?_); simp; simp; simp [oneC]) | ((with_reducible (first | refine eqs ?_ | refine nes ?_)); refine ⟨_, rfl, ?_⟩) | ((refine okF_i (bldP_eq rfl) ?_); try simp only [BLS, List.take_succ_cons, List.take_zero, List.drop_succ_cons, List.drop_zero, List.cons_append, List.nil_append, Nat.reduceAdd])) | simp -implicitDefEqProofs only [EN, lsub, lget, stL, beq_self_eq_true, ne_eq, if_true, if_false, List.cons_append, List.nil_append, Option.isNone_some, Option.isNone_none, eh]))
      exact hk _ (St.wk (L' := cells pb [.pointer (some ⟨q, 0, none⟩)] T_p_orset_Set :: cells vb [.int .i64 st.x0, .int .i64 st.x1, .int .i64 st.x2, .int .i64 st.x3, .int .i64 st.x4, .int .i64 st.x5, .int .i64 st.x6] T_vec_Vec :: cells q [.map (some r), .map (some g)] T_orset_Set :: mp KB g (mvG s.gone) :: L) (by first | assumption | exact St.tick (by assumption) | exact St.tick (St.tick (by assumption))))
  · have h : St W0 (cells pb [.pointer (some ⟨q, 0, none⟩)] T_p_orset_Set :: cells vb [.int .i64 st.x0, .int .i64 st.x1, .int .i64 st.x2, .int .i64 st.x3, .int .i64 st.x4, .int .i64 st.x5, .int .i64 st.x6] T_vec_Vec :: cells q [.map (some r), .map (some g)] T_orset_Set :: mp KB g (mvG s.gone) :: mp KD r (mvA (s.drop st).added) :: L') W2 := h
    (repeat (first | (first | (with_reducible (first | refine w1 fun _ _ => ?_ | refine w3 fun _ _ _ => ?_ | refine w4 fun _ _ _ => ?_ | refine w11 fun _ _ _ => ?_ | refine stb_n ?_)) | ((with_reducible refine w2 ?_); try simp -implicitDefEqProofs only [EN, lsub, lget, stL, beq_self_eq_true, ne_eq, if_true, if_false, List.cons_append, List.nil_append, Option.isNone_some, Option.isNone_none]; intro _ _) | ((with_reducible (first | refine w5 ?_ ?_ | refine w6 ?_ ?_ | refine w7 ?_ ?_)); simp; refine ⟨_, rfl, ?_⟩) | ((with_reducible (first | refine w8 ?_ ?_ ?_ | refine w9 ?_ ?_ ?_ | refine w10 ?_ ?_ ?_)); exact rfl; simp) | ((with_reducible refine w12 ?_ ?_ ?_ fun _ _ => ?_); simp; simp; simp [oneC]) | ((with_reducible (first | refine eqs ?_ | refine nes ?_)); refine ⟨_, rfl, ?_⟩) | ((refine okF_i (bldP_eq rfl) ?_); try simp only [BLS, List.take_succ_cons, List.take_zero, List.drop_succ_cons, List.drop_zero, List.cons_append, List.nil_append, Nat.reduceAdd])) | simp -implicitDefEqProofs only [EN, lsub, lget, stL, beq_self_eq_true, ne_eq, if_true, if_false, List.cons_append, List.nil_append, Option.isNone_some, Option.isNone_none]))
    have h2 : St W0 ([cells vb [.int .i64 st.x0, .int .i64 st.x1, .int .i64 st.x2, .int .i64 st.x3, .int .i64 st.x4, .int .i64 st.x5, .int .i64 st.x6] T_vec_Vec] ++ mp KB g (mvG s.gone) :: cells q [.map (some r), .map (some g)] T_orset_Set :: mp KD r (mvA (s.drop st).added) :: L') W2 :=
      St.wk (L' := cells vb [.int .i64 st.x0, .int .i64 st.x1, .int .i64 st.x2, .int .i64 st.x3, .int .i64 st.x4, .int .i64 st.x5, .int .i64 st.x6] T_vec_Vec :: mp KB g (mvG s.gone) :: cells q [.map (some r), .map (some g)] T_orset_Set :: mp KD r (mvA (s.drop st).added) :: L') h
    refine delG (p := fun x => leV x.2 st) (fun W0 L a v W k h hk => ?_) h2 fun W3 h => ?_
    · refine ⟨CBok _ (by kernel_rfl), ?_⟩
      apply S.orset_Set_Drop_2.call
      unfold S.orset_Set_Drop_2.body
      have h : St W0 (cells vb [.int .i64 st.x0, .int .i64 st.x1, .int .i64 st.x2, .int .i64 st.x3, .int .i64 st.x4, .int .i64 st.x5, .int .i64 st.x6] T_vec_Vec :: L) W := h
      (repeat (first | (first | (with_reducible (first | refine w1 fun _ _ => ?_ | refine w3 fun _ _ _ => ?_ | refine w4 fun _ _ _ => ?_ | refine w11 fun _ _ _ => ?_ | refine stb_n ?_)) | ((with_reducible refine w2 ?_); try simp -implicitDefEqProofs only [EN, lsub, lget, stL, beq_self_eq_true, ne_eq, if_true, if_false, List.cons_append, List.nil_append, Option.isNone_some, Option.isNone_none]; intro _ _) | ((with_reducible (first | refine w5 ?_ ?_ | refine w6 ?_ ?_ | refine w7 ?_ ?_)); simp; refine ⟨_, rfl, ?_⟩) | ((with_reducible (first | refine w8 ?_ ?_ ?_ | refine w9 ?_ ?_ ?_ | refine w10 ?_ ?_ ?_)); exact rfl; simp) | ((with_reducible refine w12 ?_ ?_ ?_ fun _ _ => ?_); simp; simp; simp [oneC]) | ((with_reducible (first | refine eqs ?_ | refine nes ?_)); refine ⟨_, rfl, ?_⟩) | ((refine okF_i (bldP_eq rfl) ?_); try simp only [BLS, List.take_succ_cons, List.take_zero, List.drop_succ_cons, List.drop_zero, List.cons_append, List.nil_append, Nat.reduceAdd])) | simp -implicitDefEqProofs only [EN, lsub, lget, stL, beq_self_eq_true, ne_eq, if_true, if_false, List.cons_append, List.nil_append, Option.isNone_some, Option.isNone_none]))
      exact hk _ (St.wk (L' := cells vb [.int .i64 st.x0, .int .i64 st.x1, .int .i64 st.x2, .int .i64 st.x3, .int .i64 st.x4, .int .i64 st.x5, .int .i64 st.x6] T_vec_Vec :: L) (by first | assumption | exact St.tick (by assumption) | exact St.tick (St.tick (by assumption))))
    · have h : St W0 (cells vb [.int .i64 st.x0, .int .i64 st.x1, .int .i64 st.x2, .int .i64 st.x3, .int .i64 st.x4, .int .i64 st.x5, .int .i64 st.x6] T_vec_Vec :: mp KB g (mvG (s.drop st).gone) :: cells q [.map (some r), .map (some g)] T_orset_Set :: mp KD r (mvA (s.drop st).added) :: L') W3 := h
      exact hk _ ((St.wk (L' := cells q [.map (some r), .map (some g)] T_orset_Set :: mp KD r (mvA (s.drop st).added) :: mp KB g (mvG (s.drop st).gone) :: L') h).ent (os_ent (s := s.drop st)))
theorem orsetCopy {s : OS} {k : Value → World → Prop} (h : St W0 L W) [ht : Tk (os q) L s L'] (hk : ∀ q' W', St W0 (os q' s :: os q s :: L') W' → k (.pointer (some ⟨q', 0, none⟩)) W') :
    callK PR F_orset_Set_Copy [.pointer (some ⟨q, 0, none⟩)] k W := by
  apply S.orset_Set_Copy.call
  unfold S.orset_Set_Copy.body
  obtain ⟨r, g, h⟩ := os_at (h.perm ht.perm)
  (repeat (first | (first | (with_reducible (first | refine w1 fun _ _ => ?_ | refine w3 fun _ _ _ => ?_ | refine w4 fun _ _ _ => ?_ | refine w11 fun _ _ _ => ?_ | refine stb_n ?_)) | ((with_reducible refine w2 ?_); try simp -implicitDefEqProofs only [EN, lsub, lget, stL, beq_self_eq_true, ne_eq, if_true, if_false, List.cons_append, List.nil_append, Option.isNone_some, Option.isNone_none]; intro _ _) | ((with_reducible (first | refine w5 ?_ ?_ | refine w6 ?_ ?_ | refine w7 ?_ ?_)); simp; refine ⟨_, rfl, ?_⟩) | ((with_reducible (first | refine w8 ?_ ?_ ?_ | refine w9 ?_ ?_ ?_ | refine w10 ?_ ?_ ?_)); exact rfl; simp) | ((with_reducible refine w12 ?_ ?_ ?_ fun _ _ => ?_); simp; simp; simp [oneC]) | ((with_reducible (first | refine eqs ?_ | refine nes ?_)); refine ⟨_, rfl, ?_⟩) | ((refine okF_i (bldP_eq rfl) ?_); try simp only [BLS, List.take_succ_cons, List.take_zero, List.drop_succ_cons, List.drop_zero, List.cons_append, List.nil_append, Nat.reduceAdd])) | simp -implicitDefEqProofs only [EN, lsub, lget, stL, beq_self_eq_true, ne_eq, if_true, if_false, List.cons_append, List.nil_append, Option.isNone_some, Option.isNone_none]))
  refine cloneM (P := PR) layCloneA (K := KD) (l := mvA s.added) h.tick fun r' W1 h => ?_
  (repeat (first | (first | (with_reducible (first | refine w1 fun _ _ => ?_ | refine w3 fun _ _ _ => ?_ | refine w4 fun _ _ _ => ?_ | refine w11 fun _ _ _ => ?_ | refine stb_n ?_)) | ((with_reducible refine w2 ?_); try simp -implicitDefEqProofs only [EN, lsub, lget, stL, beq_self_eq_true, ne_eq, if_true, if_false, List.cons_append, List.nil_append, Option.isNone_some, Option.isNone_none]; intro _ _) | ((with_reducible (first | refine w5 ?_ ?_ | refine w6 ?_ ?_ | refine w7 ?_ ?_)); simp; refine ⟨_, rfl, ?_⟩) | ((with_reducible (first | refine w8 ?_ ?_ ?_ | refine w9 ?_ ?_ ?_ | refine w10 ?_ ?_ ?_)); exact rfl; simp) | ((with_reducible refine w12 ?_ ?_ ?_ fun _ _ => ?_); simp; simp; simp [oneC]) | ((with_reducible (first | refine eqs ?_ | refine nes ?_)); refine ⟨_, rfl, ?_⟩) | ((refine okF_i (bldP_eq rfl) ?_); try simp only [BLS, List.take_succ_cons, List.take_zero, List.drop_succ_cons, List.drop_zero, List.cons_append, List.nil_append, Nat.reduceAdd])) | simp -implicitDefEqProofs only [EN, lsub, lget, stL, beq_self_eq_true, ne_eq, if_true, if_false, List.cons_append, List.nil_append, Option.isNone_some, Option.isNone_none]))
  refine cloneM (P := PR) layCloneG (K := KB) (l := mvG s.gone) h fun g' W2 h => ?_
  (repeat (first | (first | (with_reducible (first | refine w1 fun _ _ => ?_ | refine w3 fun _ _ _ => ?_ | refine w4 fun _ _ _ => ?_ | refine w11 fun _ _ _ => ?_ | refine stb_n ?_)) | ((with_reducible refine w2 ?_); try simp -implicitDefEqProofs only [EN, lsub, lget, stL, beq_self_eq_true, ne_eq, if_true, if_false, List.cons_append, List.nil_append, Option.isNone_some, Option.isNone_none]; intro _ _) | ((with_reducible (first | refine w5 ?_ ?_ | refine w6 ?_ ?_ | refine w7 ?_ ?_)); simp; refine ⟨_, rfl, ?_⟩) | ((with_reducible (first | refine w8 ?_ ?_ ?_ | refine w9 ?_ ?_ ?_ | refine w10 ?_ ?_ ?_)); exact rfl; simp) | ((with_reducible refine w12 ?_ ?_ ?_ fun _ _ => ?_); simp; simp; simp [oneC]) | ((with_reducible (first | refine eqs ?_ | refine nes ?_)); refine ⟨_, rfl, ?_⟩) | ((refine okF_i (bldP_eq rfl) ?_); try simp only [BLS, List.take_succ_cons, List.take_zero, List.drop_succ_cons, List.drop_zero, List.cons_append, List.nil_append, Nat.reduceAdd])) | simp -implicitDefEqProofs only [EN, lsub, lget, stL, beq_self_eq_true, ne_eq, if_true, if_false, List.cons_append, List.nil_append, Option.isNone_some, Option.isNone_none]))
  rename_i q' W3 h
  (try simp only [BLS, List.take_succ_cons, List.take_zero, List.drop_succ_cons, List.drop_zero, List.cons_append, List.nil_append, List.append_nil, List.take_nil, List.drop_nil, stL, Nat.reduceAdd] at h)
  exact hk q' _ (((St.wk (L' := cells q' [.map (some r'), .map (some g')] T_orset_Set :: mp KD r' (mvA s.added) :: mp KB g' (mvG s.gone) :: cells q [.map (some r), .map (some g)] T_orset_Set :: mp KD r (mvA s.added) :: mp KB g (mvG s.gone) :: L') h).ent (os_ent (s := s))).ent (ent.cons _ (os_ent (s := s))))
set_option maxHeartbeats 4000000 in
theorem orsetSame {q2 : Nat} {s t : OS} {k : Value → World → Prop} (h : St W0 L W) [ht : Tk (os q) L s L1] [ht2 : Tk (os q2) L1 t L2] (hs : s.added.length ≤ 1000000) (hs2 : t.added.length ≤ 1000000)
    (hk : ∀ W', St W0 (os q s :: os q2 t :: L2) W' → k (.bool (sameO s t)) W') : callK PR F_orset_Same [.pointer (some ⟨q, 0, none⟩), .pointer (some ⟨q2, 0, none⟩)] k W := by
  apply S.orset_Same.call
  unfold S.orset_Same.body
  have h : St W0 (os q s :: os q2 t :: L2) W := h.perm (ht.perm.trans (ht2.perm.cons _))
  have hl1 := s.all_len
  refine orsetAll (s := s) h hs fun a c W1 h => ?_
  refine orsetAll (s := t) h hs2 fun a2 c2 W2 h => ?_
  refine equalStr (a := a) (b := a2) (l := s.all) (m := t.all) h (by omega) fun W3 h => ?_
  unfold sameO at hk
  by_cases he : s.all = t.all
  · rw [decide_eq_true he] at hk ⊢
    rw [Bool.true_and] at hk
    (repeat (first | (first | (with_reducible (first | refine w1 fun _ _ => ?_ | refine w3 fun _ _ _ => ?_ | refine w4 fun _ _ _ => ?_ | refine w11 fun _ _ _ => ?_ | refine stb_n ?_)) | ((with_reducible refine w2 ?_); try simp -implicitDefEqProofs only [EN, lsub, lget, stL, beq_self_eq_true, ne_eq, if_true, if_false, List.cons_append, List.nil_append, Option.isNone_some, Option.isNone_none]; intro _ _) | ((with_reducible (first | refine w5 ?_ ?_ | refine w6 ?_ ?_ | refine w7 ?_ ?_)); simp; refine ⟨_, rfl, ?_⟩) | ((with_reducible (first | refine w8 ?_ ?_ ?_ | refine w9 ?_ ?_ ?_ | refine w10 ?_ ?_ ?_)); exact rfl; simp) | ((with_reducible refine w12 ?_ ?_ ?_ fun _ _ => ?_); simp; simp; simp [oneC]) | ((with_reducible (first | refine eqs ?_ | refine nes ?_)); refine ⟨_, rfl, ?_⟩) | ((refine okF_i (bldP_eq rfl) ?_); try simp only [BLS, List.take_succ_cons, List.take_zero, List.drop_succ_cons, List.drop_zero, List.cons_append, List.nil_append, Nat.reduceAdd])) | simp -implicitDefEqProofs only [EN, lsub, lget, stL, beq_self_eq_true, ne_eq, if_true, if_false, List.cons_append, List.nil_append, Option.isNone_some, Option.isNone_none]))
    refine loop_c (σ := Unit) s.all.length (fun i _ => [.pointer (some ⟨q, 0, none⟩), .pointer (some ⟨q2, 0, none⟩), .slice a s.all.length c, .int .i64 s.all.length, .int .i64 i])
      (fun i _ W1 => ((s.all.take i).all fun x => decide (s.dots x = t.dots x)) = true ∧ St W0 (arr STB T_string a c s.all :: os q s :: os q2 t :: L2) W1) () rfl ⟨rfl, St.wk h⟩ ?_
    clear h
    rintro K i _ W4 hi ⟨hall, h⟩ hK
    simp -implicitDefEqProofs only [EN, lsub, lget, stL, beq_self_eq_true, ne_eq, if_true, if_false, List.cons_append, List.nil_append, Option.isNone_some, Option.isNone_none]
    unfold S.orset_Same.l1
    by_cases hlt : (i : Int) < (s.all.length : Int)
    · have hib : i < s.all.length := by omega
      have ew : IntKind.i64.wrap ((i : Int) + 1) = ((i + 1 : Nat) : Int) := by rw [i64w]; omega
      (repeat (first | (first | (with_reducible (first | refine w1 fun _ _ => ?_ | refine w3 fun _ _ _ => ?_ | refine w4 fun _ _ _ => ?_ | refine w11 fun _ _ _ => ?_ | refine stb_n ?_)) | ((with_reducible refine w2 ?_); try simp -implicitDefEqProofs only [EN, lsub, lget, stL, beq_self_eq_true, ne_eq, if_true, if_false, List.cons_append, List.nil_append, Option.isNone_some, Option.isNone_none, hlt]; intro _ _) | ((with_reducible (first | refine w5 ?_ ?_ | refine w6 ?_ ?_ | refine w7 ?_ ?_)); simp; refine ⟨_, rfl, ?_⟩) | ((with_reducible (first | refine w8 ?_ ?_ ?_ | refine w9 ?_ ?_ ?_ | refine w10 ?_ ?_ ?_)); exact rfl; simp) | ((with_reducible refine w12 ?_ ?_ ?_ fun _ _ => ?_); simp; simp; simp [oneC]) | ((with_reducible (first | refine eqs ?_ | refine nes ?_)); refine ⟨_, rfl, ?_⟩) | ((refine okF_i (bldP_eq rfl) ?_); try simp only [BLS, List.take_succ_cons, List.take_zero, List.drop_succ_cons, List.drop_zero, List.cons_append, List.nil_append, Nat.reduceAdd])) | simp -implicitDefEqProofs only [EN, lsub, lget, stL, beq_self_eq_true, ne_eq, if_true, if_false, List.cons_append, List.nil_append, Option.isNone_some, Option.isNone_none, hlt]))
      refine ixA (i := i) (a := a) (l := s.all) (A := STB) h rfl rfl hib fun g o ha => ?_
      cases ha
      refine ldA0 (i := i) (l := s.all) (A := STB) h rfl hib (v := sv s.all[i]) rfl (by simp) ?_
      refine orsetDots (s := s) (q := q) (x := s.all[i]) h hs fun b d W5 h => ?_
      refine orsetDots (s := t) (q := q2) (x := s.all[i]) h hs2 fun b2 d2 W6 h => ?_
      have := s.dots_len s.all[i]
      refine equalDot (a := b) (b := b2) (l := s.dots s.all[i]) (m := t.dots s.all[i]) h (by omega) fun W7 h => ?_
      by_cases he2 : s.dots s.all[i] = t.dots s.all[i]
      · rw [decide_eq_true he2]
        (repeat (first | (first | (with_reducible (first | refine w1 fun _ _ => ?_ | refine w3 fun _ _ _ => ?_ | refine w4 fun _ _ _ => ?_ | refine w11 fun _ _ _ => ?_ | refine stb_n ?_)) | ((with_reducible refine w2 ?_); try simp -implicitDefEqProofs only [EN, lsub, lget, stL, beq_self_eq_true, ne_eq, if_true, if_false, List.cons_append, List.nil_append, Option.isNone_some, Option.isNone_none, ew]; intro _ _) | ((with_reducible (first | refine w5 ?_ ?_ | refine w6 ?_ ?_ | refine w7 ?_ ?_)); simp; refine ⟨_, rfl, ?_⟩) | ((with_reducible (first | refine w8 ?_ ?_ ?_ | refine w9 ?_ ?_ ?_ | refine w10 ?_ ?_ ?_)); exact rfl; simp) | ((with_reducible refine w12 ?_ ?_ ?_ fun _ _ => ?_); simp; simp; simp [oneC]) | ((with_reducible (first | refine eqs ?_ | refine nes ?_)); refine ⟨_, rfl, ?_⟩) | ((refine okF_i (bldP_eq rfl) ?_); try simp only [BLS, List.take_succ_cons, List.take_zero, List.drop_succ_cons, List.drop_zero, List.cons_append, List.nil_append, Nat.reduceAdd])) | simp -implicitDefEqProofs only [EN, lsub, lget, stL, beq_self_eq_true, ne_eq, if_true, if_false, List.cons_append, List.nil_append, Option.isNone_some, Option.isNone_none, ew]))
        refine hK () _ hib ⟨?_, St.wk h⟩
        rw [List.take_succ_eq_append_getElem hib, List.all_append, hall]
        simp [he2]
      · rw [decide_eq_false he2]
        have : (s.all.all fun x => decide (s.dots x = t.dots x)) = false := by
          rw [Bool.eq_false_iff]
          intro h
          have := List.all_eq_true.1 h _ (List.getElem_mem hib)
          exact he2 (by simpa using this)
        rw [this] at hk
        (repeat (first | (first | (with_reducible (first | refine w1 fun _ _ => ?_ | refine w3 fun _ _ _ => ?_ | refine w4 fun _ _ _ => ?_ | refine w11 fun _ _ _ => ?_ | refine stb_n ?_)) | ((with_reducible refine w2 ?_); try simp -implicitDefEqProofs only [EN, lsub, lget, stL, beq_self_eq_true, ne_eq, if_true, if_false, List.cons_append, List.nil_append, Option.isNone_some, Option.isNone_none]; intro _ _) | ((with_reducible (first | refine w5 ?_ ?_ | refine w6 ?_ ?_ | refine w7 ?_ ?_)); simp; refine ⟨_, rfl, ?_⟩) | ((with_reducible (first | refine w8 ?_ ?_ ?_ | refine w9 ?_ ?_ ?_ | refine w10 ?_ ?_ ?_)); exact rfl; simp) | ((with_reducible refine w12 ?_ ?_ ?_ fun _ _ => ?_); simp; simp; simp [oneC]) | ((with_reducible (first | refine eqs ?_ | refine nes ?_)); refine ⟨_, rfl, ?_⟩) | ((refine okF_i (bldP_eq rfl) ?_); try simp only [BLS, List.take_succ_cons, List.take_zero, List.drop_succ_cons, List.drop_zero, List.cons_append, List.nil_append, Nat.reduceAdd])) | simp -implicitDefEqProofs only [EN, lsub, lget, stL, beq_self_eq_true, ne_eq, if_true, if_false, List.cons_append, List.nil_append, Option.isNone_some, Option.isNone_none]))
        exact hk _ (St.wk h)
    · (repeat (first | (first | (with_reducible (first | refine w1 fun _ _ => ?_ | refine w3 fun _ _ _ => ?_ | refine w4 fun _ _ _ => ?_ | refine w11 fun _ _ _ => ?_ | refine stb_n ?_)) | ((with_reducible refine w2 ?_); try simp -implicitDefEqProofs only [EN, lsub, lget, stL, beq_self_eq_true, ne_eq, if_true, if_false, List.cons_append, List.nil_append, Option.isNone_some, Option.isNone_none, hlt]; intro _ _) | ((with_reducible (first | refine w5 ?_ ?_ | refine w6 ?_ ?_ | refine w7 ?_ ?_)); simp; refine ⟨_, rfl, ?_⟩) | ((with_reducible (first | refine w8 ?_ ?_ ?_ | refine w9 ?_ ?_ ?_ | refine w10 ?_ ?_ ?_)); exact rfl; simp) | ((with_reducible refine w12 ?_ ?_ ?_ fun _ _ => ?_); simp; simp; simp [oneC]) | ((with_reducible (first | refine eqs ?_ | refine nes ?_)); refine ⟨_, rfl, ?_⟩) | ((refine okF_i (bldP_eq rfl) ?_); try simp only [BLS, List.take_succ_cons, List.take_zero, List.drop_succ_cons, List.drop_zero, List.cons_append, List.nil_append, Nat.reduceAdd])) | simp -implicitDefEqProofs only [EN, lsub, lget, stL, beq_self_eq_true, ne_eq, if_true, if_false, List.cons_append, List.nil_append, Option.isNone_some, Option.isNone_none, hlt]))
      rw [List.take_of_length_le (by omega)] at hall
      rw [hall] at hk
      exact hk _ (St.wk h)
  · rw [decide_eq_false he] at hk ⊢
    (repeat (first | (first | (with_reducible (first | refine w1 fun _ _ => ?_ | refine w3 fun _ _ _ => ?_ | refine w4 fun _ _ _ => ?_ | refine w11 fun _ _ _ => ?_ | refine stb_n ?_)) | ((with_reducible refine w2 ?_); try simp -implicitDefEqProofs only [EN, lsub, lget, stL, beq_self_eq_true, ne_eq, if_true, if_false, List.cons_append, List.nil_append, Option.isNone_some, Option.isNone_none]; intro _ _) | ((with_reducible (first | refine w5 ?_ ?_ | refine w6 ?_ ?_ | refine w7 ?_ ?_)); simp; refine ⟨_, rfl, ?_⟩) | ((with_reducible (first | refine w8 ?_ ?_ ?_ | refine w9 ?_ ?_ ?_ | refine w10 ?_ ?_ ?_)); exact rfl; simp) | ((with_reducible refine w12 ?_ ?_ ?_ fun _ _ => ?_); simp; simp; simp [oneC]) | ((with_reducible (first | refine eqs ?_ | refine nes ?_)); refine ⟨_, rfl, ?_⟩) | ((refine okF_i (bldP_eq rfl) ?_); try simp only [BLS, List.take_succ_cons, List.take_zero, List.drop_succ_cons, List.drop_zero, List.cons_append, List.nil_append, Nat.reduceAdd])) | simp -implicitDefEqProofs only [EN, lsub, lget, stL, beq_self_eq_true, ne_eq, if_true, if_false, List.cons_append, List.nil_append, Option.isNone_some, Option.isNone_none]))
    exact hk _ (St.wk h)
set_option maxHeartbeats 4000000 in
theorem orsetPut {s : OS} {k : Value → World → Prop} (h : St W0 L W) [ht : Tk (os q) L s L'] (hok : s.ok) (hs : s.added.length ≤ 1000)
    (hk : ∀ a c W', St W0 (arr B8 T_uint8 a c s.put :: os q s :: L') W' → k (.slice a s.put.length c) W') : callK PR F_orset_Set_Put [.pointer (some ⟨q, 0, none⟩), .slice none 0 0] k W := by
  apply S.orset_Set_Put.call
  unfold S.orset_Set_Put.body
  have hl1 := s.all_len
  refine orsetAll (s := s) h (by omega) fun a c W1 h => ?_
  (repeat (first | (first | (with_reducible (first | refine w1 fun _ _ => ?_ | refine w3 fun _ _ _ => ?_ | refine w4 fun _ _ _ => ?_ | refine w11 fun _ _ _ => ?_ | refine stb_n ?_)) | ((with_reducible refine w2 ?_); try simp -implicitDefEqProofs only [EN, lsub, lget, stL, beq_self_eq_true, ne_eq, if_true, if_false, List.cons_append, List.nil_append, Option.isNone_some, Option.isNone_none]; intro _ _) | ((with_reducible (first | refine w5 ?_ ?_ | refine w6 ?_ ?_ | refine w7 ?_ ?_)); simp; refine ⟨_, rfl, ?_⟩) | ((with_reducible (first | refine w8 ?_ ?_ ?_ | refine w9 ?_ ?_ ?_ | refine w10 ?_ ?_ ?_)); exact rfl; simp) | ((with_reducible refine w12 ?_ ?_ ?_ fun _ _ => ?_); simp; simp; simp [oneC]) | ((with_reducible (first | refine eqs ?_ | refine nes ?_)); refine ⟨_, rfl, ?_⟩) | ((refine okF_i (bldP_eq rfl) ?_); try simp only [BLS, List.take_succ_cons, List.take_zero, List.drop_succ_cons, List.drop_zero, List.cons_append, List.nil_append, Nat.reduceAdd])) | simp -implicitDefEqProofs only [EN, lsub, lget, stL, beq_self_eq_true, ne_eq, if_true, if_false, List.cons_append, List.nil_append, Option.isNone_some, Option.isNone_none]))
  have hn1 := encN_le (v := s.all.length) (by omega) (by omega)
  have hr0 : Rd W0 (arr STB T_string a c s.all :: os q s :: L') none B8 [] := Rd.nil B8 _ _ _
  refine packNum (a := none) (l := []) (c := 0) h (by simp) (by omega) (by omega) fun a1 c1 W2 h => ?_
  rw [List.nil_append] at h ⊢
  refine joinK_i ?_
  (repeat (first | (first | (with_reducible (first | refine w1 fun _ _ => ?_ | refine w3 fun _ _ _ => ?_ | refine w4 fun _ _ _ => ?_ | refine w11 fun _ _ _ => ?_ | refine stb_n ?_)) | ((with_reducible refine w2 ?_); try simp -implicitDefEqProofs only [EN, lsub, lget, stL, beq_self_eq_true, ne_eq, if_true, if_false, List.cons_append, List.nil_append, Option.isNone_some, Option.isNone_none]; intro _ _) | ((with_reducible (first | refine w5 ?_ ?_ | refine w6 ?_ ?_ | refine w7 ?_ ?_)); simp; refine ⟨_, rfl, ?_⟩) | ((with_reducible (first | refine w8 ?_ ?_ ?_ | refine w9 ?_ ?_ ?_ | refine w10 ?_ ?_ ?_)); exact rfl; simp) | ((with_reducible refine w12 ?_ ?_ ?_ fun _ _ => ?_); simp; simp; simp [oneC]) | ((with_reducible (first | refine eqs ?_ | refine nes ?_)); refine ⟨_, rfl, ?_⟩) | ((refine okF_i (bldP_eq rfl) ?_); try simp only [BLS, List.take_succ_cons, List.take_zero, List.drop_succ_cons, List.drop_zero, List.cons_append, List.nil_append, Nat.reduceAdd])) | simp -implicitDefEqProofs only [EN, lsub, lget, stL, beq_self_eq_true, ne_eq, if_true, if_false, List.cons_append, List.nil_append, Option.isNone_some, Option.isNone_none]))
  refine loop_c (σ := Option Addr × Nat) s.all.length (fun i x => [.pointer (some ⟨q, 0, none⟩), .slice x.1 ((s.all.take i).foldl s.putX (encN s.all.length)).length x.2, .slice a s.all.length c, .int .i64 s.all.length, .int .i64 i])
    (fun i x W1 => St W0 (arr B8 T_uint8 x.1 x.2 ((s.all.take i).foldl s.putX (encN s.all.length)) :: arr STB T_string a c s.all :: os q s :: L') W1) (a1, c1) rfl h ?_
  clear h
  rintro K i ⟨a2, c2⟩ W3 hi h hK
  simp only at h
  simp -implicitDefEqProofs only [EN, lsub, lget, stL, beq_self_eq_true, ne_eq, if_true, if_false, List.cons_append, List.nil_append, Option.isNone_some, Option.isNone_none]
  unfold S.orset_Set_Put.l1
  have hbl := putXs_len hok hs (s.all.take i) (encN s.all.length) fun x hx => hok.all x (List.mem_of_mem_take hx)
  rw [List.length_take] at hbl
  by_cases hlt : (i : Int) < (s.all.length : Int)
  · have hib : i < s.all.length := by omega
    have ew : IntKind.i64.wrap ((i : Int) + 1) = ((i + 1 : Nat) : Int) := by rw [i64w]; omega
    have hst : (s.all.take (i + 1)).foldl s.putX (encN s.all.length) = s.putX ((s.all.take i).foldl s.putX (encN s.all.length)) s.all[i] := foldl_take _ _ _ hib
    have hxl := hok.all _ (List.getElem_mem hib)
    have hdl := s.dots_len s.all[i]
    have hdk := hok.dots s.all[i]
    generalize hbuf : (s.all.take i).foldl s.putX (encN s.all.length) = buf at *
    (repeat (first | (first | (with_reducible (first | refine w1 fun _ _ => ?_ | refine w3 fun _ _ _ => ?_ | refine w4 fun _ _ _ => ?_ | refine w11 fun _ _ _ => ?_ | refine stb_n ?_)) | ((with_reducible refine w2 ?_); try simp -implicitDefEqProofs only [EN, lsub, lget, stL, beq_self_eq_true, ne_eq, if_true, if_false, List.cons_append, List.nil_append, Option.isNone_some, Option.isNone_none, hlt]; intro _ _) | ((with_reducible (first | refine w5 ?_ ?_ | refine w6 ?_ ?_ | refine w7 ?_ ?_)); simp; refine ⟨_, rfl, ?_⟩) | ((with_reducible (first | refine w8 ?_ ?_ ?_ | refine w9 ?_ ?_ ?_ | refine w10 ?_ ?_ ?_)); exact rfl; simp) | ((with_reducible refine w12 ?_ ?_ ?_ fun _ _ => ?_); simp; simp; simp [oneC]) | ((with_reducible (first | refine eqs ?_ | refine nes ?_)); refine ⟨_, rfl, ?_⟩) | ((refine okF_i (bldP_eq rfl) ?_); try simp only [BLS, List.take_succ_cons, List.take_zero, List.drop_succ_cons, List.drop_zero, List.cons_append, List.nil_append, Nat.reduceAdd])) | simp -implicitDefEqProofs only [EN, lsub, lget, stL, beq_self_eq_true, ne_eq, if_true, if_false, List.cons_append, List.nil_append, Option.isNone_some, Option.isNone_none, hlt]))
    refine joinK_i ?_
    refine ixA (i := i) (a := a) (l := s.all) (A := STB) h rfl rfl hib fun g o ha => ?_
    cases ha
    refine ldA0 (i := i) (l := s.all) (A := STB) h rfl hib (v := sv s.all[i]) rfl (by simp) ?_
    generalize hx : s.all[i] = x at *
    refine orsetDots (s := s) (q := q) (x := x) h (by omega) fun b d W5 h => ?_
    have hsz := size_sv x
    refine packText (a := a2) (l := buf) (s := ⟨x.toArray⟩) h (by omega) (by rw [hsz]; omega) fun a3 c3 W6 h => ?_
    have e1 : buf ++ encN ((⟨x.toArray⟩ : ByteArray).size : Int) ++ (⟨x.toArray⟩ : ByteArray).data.toList = buf ++ encN x.length ++ x := by rw [hsz]
    rw [e1] at h ⊢
    have hn2 := encN_le (v := x.length) (by omega) (by omega)
    have hn3 := encN_le (v := (s.dots x).length) (by omega) (by omega)
    (repeat (first | (first | (with_reducible (first | refine w1 fun _ _ => ?_ | refine w3 fun _ _ _ => ?_ | refine w4 fun _ _ _ => ?_ | refine w11 fun _ _ _ => ?_ | refine stb_n ?_)) | ((with_reducible refine w2 ?_); try simp -implicitDefEqProofs only [EN, lsub, lget, stL, beq_self_eq_true, ne_eq, if_true, if_false, List.cons_append, List.nil_append, Option.isNone_some, Option.isNone_none]; intro _ _) | ((with_reducible (first | refine w5 ?_ ?_ | refine w6 ?_ ?_ | refine w7 ?_ ?_)); simp; refine ⟨_, rfl, ?_⟩) | ((with_reducible (first | refine w8 ?_ ?_ ?_ | refine w9 ?_ ?_ ?_ | refine w10 ?_ ?_ ?_)); exact rfl; simp) | ((with_reducible refine w12 ?_ ?_ ?_ fun _ _ => ?_); simp; simp; simp [oneC]) | ((with_reducible (first | refine eqs ?_ | refine nes ?_)); refine ⟨_, rfl, ?_⟩) | ((refine okF_i (bldP_eq rfl) ?_); try simp only [BLS, List.take_succ_cons, List.take_zero, List.drop_succ_cons, List.drop_zero, List.cons_append, List.nil_append, Nat.reduceAdd])) | simp -implicitDefEqProofs only [EN, lsub, lget, stL, beq_self_eq_true, ne_eq, if_true, if_false, List.cons_append, List.nil_append, Option.isNone_some, Option.isNone_none]))
    refine packNum (a := a3) (l := buf ++ encN x.length ++ x) h (by simp only [List.length_append]; omega) (by omega) (by omega) fun a4 c4 W7 h => ?_
    (repeat (first | (first | (with_reducible (first | refine w1 fun _ _ => ?_ | refine w3 fun _ _ _ => ?_ | refine w4 fun _ _ _ => ?_ | refine w11 fun _ _ _ => ?_ | refine stb_n ?_)) | ((with_reducible refine w2 ?_); try simp -implicitDefEqProofs only [EN, lsub, lget, stL, beq_self_eq_true, ne_eq, if_true, if_false, List.cons_append, List.nil_append, Option.isNone_some, Option.isNone_none]; intro _ _) | ((with_reducible (first | refine w5 ?_ ?_ | refine w6 ?_ ?_ | refine w7 ?_ ?_)); simp; refine ⟨_, rfl, ?_⟩) | ((with_reducible (first | refine w8 ?_ ?_ ?_ | refine w9 ?_ ?_ ?_ | refine w10 ?_ ?_ ?_)); exact rfl; simp) | ((with_reducible refine w12 ?_ ?_ ?_ fun _ _ => ?_); simp; simp; simp [oneC]) | ((with_reducible (first | refine eqs ?_ | refine nes ?_)); refine ⟨_, rfl, ?_⟩) | ((refine okF_i (bldP_eq rfl) ?_); try simp only [BLS, List.take_succ_cons, List.take_zero, List.drop_succ_cons, List.drop_zero, List.cons_append, List.nil_append, Nat.reduceAdd])) | simp -implicitDefEqProofs only [EN, lsub, lget, stL, beq_self_eq_true, ne_eq, if_true, if_false, List.cons_append, List.nil_append, Option.isNone_some, Option.isNone_none]))
    refine loop_c (σ := Option Addr × Nat) (s.dots x).length (fun j y => [.pointer (some ⟨q, 0, none⟩), .slice y.1 (((s.dots x).take j).foldl putD (buf ++ encN x.length ++ x ++ encN (s.dots x).length)).length y.2, .slice (some ⟨g, o, none⟩) s.all.length c, .int .i64 s.all.length, .int .i64 i, .slice b (s.dots x).length d, .int .i64 (s.dots x).length, .int .i64 j])
      (fun j y W1 => St W0 (arr B8 T_uint8 y.1 y.2 (((s.dots x).take j).foldl putD (buf ++ encN x.length ++ x ++ encN (s.dots x).length)) :: arr DT T_api_Dot b d (s.dots x) :: arr STB T_string (some ⟨g, o, none⟩) c s.all :: os q s :: L') W1) (a4, c4) rfl (St.wk (L' := arr B8 T_uint8 a4 c4 (buf ++ encN x.length ++ x ++ encN (s.dots x).length) :: arr DT T_api_Dot b d (s.dots x) :: arr STB T_string (some ⟨g, o, none⟩) c s.all :: os q s :: L') h) ?_
    clear h
    rintro K2 j ⟨a5, c5⟩ W8 hj h hK2
    simp only at h
    simp -implicitDefEqProofs only [EN, lsub, lget, stL, beq_self_eq_true, ne_eq, if_true, if_false, List.cons_append, List.nil_append, Option.isNone_some, Option.isNone_none]
    unfold S.orset_Set_Put.l2
    have hbl2 := putDs_len ((s.dots x).take j) (buf ++ encN x.length ++ x ++ encN (s.dots x).length) fun y hy => hdk y (List.mem_of_mem_take hy)
    rw [List.length_take] at hbl2
    simp only [List.length_append] at hbl2
    by_cases hjt : (j : Int) < ((s.dots x).length : Int)
    · have hjb : j < (s.dots x).length := by omega
      have ew2 : IntKind.i64.wrap ((j : Int) + 1) = ((j + 1 : Nat) : Int) := by rw [i64w]; omega
      have hst2 : ((s.dots x).take (j + 1)).foldl putD (buf ++ encN x.length ++ x ++ encN (s.dots x).length) = putD (((s.dots x).take j).foldl putD (buf ++ encN x.length ++ x ++ encN (s.dots x).length)) (s.dots x)[j] := foldl_take _ _ _ hjb
      have hyo := hdk _ (List.getElem_mem hjb)
      generalize hb2 : ((s.dots x).take j).foldl putD (buf ++ encN x.length ++ x ++ encN (s.dots x).length) = buf2 at *
      (repeat (first | (first | (with_reducible (first | refine w1 fun _ _ => ?_ | refine w3 fun _ _ _ => ?_ | refine w4 fun _ _ _ => ?_ | refine w11 fun _ _ _ => ?_ | refine stb_n ?_)) | ((with_reducible refine w2 ?_); try simp -implicitDefEqProofs only [EN, lsub, lget, stL, beq_self_eq_true, ne_eq, if_true, if_false, List.cons_append, List.nil_append, Option.isNone_some, Option.isNone_none, hjt]; intro _ _) | ((with_reducible (first | refine w5 ?_ ?_ | refine w6 ?_ ?_ | refine w7 ?_ ?_)); simp; refine ⟨_, rfl, ?_⟩) | ((with_reducible (first | refine w8 ?_ ?_ ?_ | refine w9 ?_ ?_ ?_ | refine w10 ?_ ?_ ?_)); exact rfl; simp) | ((with_reducible refine w12 ?_ ?_ ?_ fun _ _ => ?_); simp; simp; simp [oneC]) | ((with_reducible (first | refine eqs ?_ | refine nes ?_)); refine ⟨_, rfl, ?_⟩) | ((refine okF_i (bldP_eq rfl) ?_); try simp only [BLS, List.take_succ_cons, List.take_zero, List.drop_succ_cons, List.drop_zero, List.cons_append, List.nil_append, Nat.reduceAdd])) | simp -implicitDefEqProofs only [EN, lsub, lget, stL, beq_self_eq_true, ne_eq, if_true, if_false, List.cons_append, List.nil_append, Option.isNone_some, Option.isNone_none, hjt]))
      refine ixA (i := j) (a := b) (l := s.dots x) (A := DT) h rfl rfl hjb fun g' o' ha => ?_
      cases ha
      refine ldA0 (i := j) (l := s.dots x) (A := DT) h rfl hjb (v := .agg #[.int .i64 ((s.dots x)[j]).rep, .int .i64 ((s.dots x)[j]).n]) rfl (by simp) ?_
      generalize hy : (s.dots x)[j] = y at *
      have hyo' := hyo
      unfold Dot.ok at hyo'
      simp only [decide_eq_true_eq] at hyo'
      have hr1 := encN_le (v := y.rep) (by omega) (by omega)
      (repeat (first | (first | (with_reducible (first | refine w1 fun _ _ => ?_ | refine w3 fun _ _ _ => ?_ | refine w4 fun _ _ _ => ?_ | refine w11 fun _ _ _ => ?_ | refine stb_n ?_)) | ((with_reducible refine w2 ?_); try simp -implicitDefEqProofs only [EN, lsub, lget, stL, beq_self_eq_true, ne_eq, if_true, if_false, List.cons_append, List.nil_append, Option.isNone_some, Option.isNone_none]; intro _ _) | ((with_reducible (first | refine w5 ?_ ?_ | refine w6 ?_ ?_ | refine w7 ?_ ?_)); simp; refine ⟨_, rfl, ?_⟩) | ((with_reducible (first | refine w8 ?_ ?_ ?_ | refine w9 ?_ ?_ ?_ | refine w10 ?_ ?_ ?_)); exact rfl; simp) | ((with_reducible refine w12 ?_ ?_ ?_ fun _ _ => ?_); simp; simp; simp [oneC]) | ((with_reducible (first | refine eqs ?_ | refine nes ?_)); refine ⟨_, rfl, ?_⟩) | ((refine okF_i (bldP_eq rfl) ?_); try simp only [BLS, List.take_succ_cons, List.take_zero, List.drop_succ_cons, List.drop_zero, List.cons_append, List.nil_append, Nat.reduceAdd])) | simp -implicitDefEqProofs only [EN, lsub, lget, stL, beq_self_eq_true, ne_eq, if_true, if_false, List.cons_append, List.nil_append, Option.isNone_some, Option.isNone_none]))
      refine packNum (a := a5) (l := buf2) (by first | assumption | exact St.tick (by assumption) | exact St.tick (St.tick (by assumption))) (by omega) (by omega) (by omega) fun a6 c6 W9 h => ?_
      (repeat (first | (first | (with_reducible (first | refine w1 fun _ _ => ?_ | refine w3 fun _ _ _ => ?_ | refine w4 fun _ _ _ => ?_ | refine w11 fun _ _ _ => ?_ | refine stb_n ?_)) | ((with_reducible refine w2 ?_); try simp -implicitDefEqProofs only [EN, lsub, lget, stL, beq_self_eq_true, ne_eq, if_true, if_false, List.cons_append, List.nil_append, Option.isNone_some, Option.isNone_none]; intro _ _) | ((with_reducible (first | refine w5 ?_ ?_ | refine w6 ?_ ?_ | refine w7 ?_ ?_)); simp; refine ⟨_, rfl, ?_⟩) | ((with_reducible (first | refine w8 ?_ ?_ ?_ | refine w9 ?_ ?_ ?_ | refine w10 ?_ ?_ ?_)); exact rfl; simp) | ((with_reducible refine w12 ?_ ?_ ?_ fun _ _ => ?_); simp; simp; simp [oneC]) | ((with_reducible (first | refine eqs ?_ | refine nes ?_)); refine ⟨_, rfl, ?_⟩) | ((refine okF_i (bldP_eq rfl) ?_); try simp only [BLS, List.take_succ_cons, List.take_zero, List.drop_succ_cons, List.drop_zero, List.cons_append, List.nil_append, Nat.reduceAdd])) | simp -implicitDefEqProofs only [EN, lsub, lget, stL, beq_self_eq_true, ne_eq, if_true, if_false, List.cons_append, List.nil_append, Option.isNone_some, Option.isNone_none]))
      refine packNum (a := a6) (l := buf2 ++ encN y.rep) (by first | assumption | exact St.tick (by assumption) | exact St.tick (St.tick (by assumption))) (by simp only [List.length_append]; omega) (by omega) (by omega) fun a7 c7 W10 h => ?_
      (repeat (first | (first | (with_reducible (first | refine w1 fun _ _ => ?_ | refine w3 fun _ _ _ => ?_ | refine w4 fun _ _ _ => ?_ | refine w11 fun _ _ _ => ?_ | refine stb_n ?_)) | ((with_reducible refine w2 ?_); try simp -implicitDefEqProofs only [EN, lsub, lget, stL, beq_self_eq_true, ne_eq, if_true, if_false, List.cons_append, List.nil_append, Option.isNone_some, Option.isNone_none, ew2]; intro _ _) | ((with_reducible (first | refine w5 ?_ ?_ | refine w6 ?_ ?_ | refine w7 ?_ ?_)); simp; refine ⟨_, rfl, ?_⟩) | ((with_reducible (first | refine w8 ?_ ?_ ?_ | refine w9 ?_ ?_ ?_ | refine w10 ?_ ?_ ?_)); exact rfl; simp) | ((with_reducible refine w12 ?_ ?_ ?_ fun _ _ => ?_); simp; simp; simp [oneC]) | ((with_reducible (first | refine eqs ?_ | refine nes ?_)); refine ⟨_, rfl, ?_⟩) | ((refine okF_i (bldP_eq rfl) ?_); try simp only [BLS, List.take_succ_cons, List.take_zero, List.drop_succ_cons, List.drop_zero, List.cons_append, List.nil_append, Nat.reduceAdd])) | simp -implicitDefEqProofs only [EN, lsub, lget, stL, beq_self_eq_true, ne_eq, if_true, if_false, List.cons_append, List.nil_append, Option.isNone_some, Option.isNone_none, ew2]))
      have e3 : buf2 ++ encN y.rep ++ encN y.n = ((s.dots x).take (j + 1)).foldl putD (buf ++ encN x.length ++ x ++ encN (s.dots x).length) := by rw [hst2]; rfl
      rw [e3] at h ⊢
      exact hK2 (a7, c7) _ hjb (St.wk h)
    · (repeat (first | (first | (with_reducible (first | refine w1 fun _ _ => ?_ | refine w3 fun _ _ _ => ?_ | refine w4 fun _ _ _ => ?_ | refine w11 fun _ _ _ => ?_ | refine stb_n ?_)) | ((with_reducible refine w2 ?_); try simp -implicitDefEqProofs only [EN, lsub, lget, stL, beq_self_eq_true, ne_eq, if_true, if_false, List.cons_append, List.nil_append, Option.isNone_some, Option.isNone_none, hjt]; intro _ _) | ((with_reducible (first | refine w5 ?_ ?_ | refine w6 ?_ ?_ | refine w7 ?_ ?_)); simp; refine ⟨_, rfl, ?_⟩) | ((with_reducible (first | refine w8 ?_ ?_ ?_ | refine w9 ?_ ?_ ?_ | refine w10 ?_ ?_ ?_)); exact rfl; simp) | ((with_reducible refine w12 ?_ ?_ ?_ fun _ _ => ?_); simp; simp; simp [oneC]) | ((with_reducible (first | refine eqs ?_ | refine nes ?_)); refine ⟨_, rfl, ?_⟩) | ((refine okF_i (bldP_eq rfl) ?_); try simp only [BLS, List.take_succ_cons, List.take_zero, List.drop_succ_cons, List.drop_zero, List.cons_append, List.nil_append, Nat.reduceAdd])) | simp -implicitDefEqProofs only [EN, lsub, lget, stL, beq_self_eq_true, ne_eq, if_true, if_false, List.cons_append, List.nil_append, Option.isNone_some, Option.isNone_none, hjt]))
      unfold S.orset_Set_Put.j2
      (repeat (first | (first | (with_reducible (first | refine w1 fun _ _ => ?_ | refine w3 fun _ _ _ => ?_ | refine w4 fun _ _ _ => ?_ | refine w11 fun _ _ _ => ?_ | refine stb_n ?_)) | ((with_reducible refine w2 ?_); try simp -implicitDefEqProofs only [EN, lsub, lget, stL, beq_self_eq_true, ne_eq, if_true, if_false, List.cons_append, List.nil_append, Option.isNone_some, Option.isNone_none, ew]; intro _ _) | ((with_reducible (first | refine w5 ?_ ?_ | refine w6 ?_ ?_ | refine w7 ?_ ?_)); simp; refine ⟨_, rfl, ?_⟩) | ((with_reducible (first | refine w8 ?_ ?_ ?_ | refine w9 ?_ ?_ ?_ | refine w10 ?_ ?_ ?_)); exact rfl; simp) | ((with_reducible refine w12 ?_ ?_ ?_ fun _ _ => ?_); simp; simp; simp [oneC]) | ((with_reducible (first | refine eqs ?_ | refine nes ?_)); refine ⟨_, rfl, ?_⟩) | ((refine okF_i (bldP_eq rfl) ?_); try simp only [BLS, List.take_succ_cons, List.take_zero, List.drop_succ_cons, List.drop_zero, List.cons_append, List.nil_append, Nat.reduceAdd])) | simp -implicitDefEqProofs only [EN, lsub, lget, stL, beq_self_eq_true, ne_eq, if_true, if_false, List.cons_append, List.nil_append, Option.isNone_some, Option.isNone_none, ew]))
      have e3 : ((s.dots x).take j).foldl putD (buf ++ encN x.length ++ x ++ encN (s.dots x).length) = (s.all.take (i + 1)).foldl s.putX (encN s.all.length) := by
        rw [hst, List.take_of_length_le (by omega)]; rfl
      rw [e3] at h ⊢
      exact hK (a5, c5) _ hib (St.wk h)
  · (repeat (first | (first | (with_reducible (first | refine w1 fun _ _ => ?_ | refine w3 fun _ _ _ => ?_ | refine w4 fun _ _ _ => ?_ | refine w11 fun _ _ _ => ?_ | refine stb_n ?_)) | ((with_reducible refine w2 ?_); try simp -implicitDefEqProofs only [EN, lsub, lget, stL, beq_self_eq_true, ne_eq, if_true, if_false, List.cons_append, List.nil_append, Option.isNone_some, Option.isNone_none, hlt]; intro _ _) | ((with_reducible (first | refine w5 ?_ ?_ | refine w6 ?_ ?_ | refine w7 ?_ ?_)); simp; refine ⟨_, rfl, ?_⟩) | ((with_reducible (first | refine w8 ?_ ?_ ?_ | refine w9 ?_ ?_ ?_ | refine w10 ?_ ?_ ?_)); exact rfl; simp) | ((with_reducible refine w12 ?_ ?_ ?_ fun _ _ => ?_); simp; simp; simp [oneC]) | ((with_reducible (first | refine eqs ?_ | refine nes ?_)); refine ⟨_, rfl, ?_⟩) | ((refine okF_i (bldP_eq rfl) ?_); try simp only [BLS, List.take_succ_cons, List.take_zero, List.drop_succ_cons, List.drop_zero, List.cons_append, List.nil_append, Nat.reduceAdd])) | simp -implicitDefEqProofs only [EN, lsub, lget, stL, beq_self_eq_true, ne_eq, if_true, if_false, List.cons_append, List.nil_append, Option.isNone_some, Option.isNone_none, hlt]))
    unfold S.orset_Set_Put.j1
    have e3 : (s.all.take i).foldl s.putX (encN s.all.length) = s.put := by rw [List.take_of_length_le (by omega)]; rfl
    rw [e3] at h ⊢
    exact hk _ _ _ (St.wk h)
end
end Go.Proofs.Ytmojfpaagokckaa
namespace Go.Proofs.Ytmojfpaagokckaa
set_option linter.unusedVariables false
set_option linter.unusedSimpArgs false
open Go.Eng
/-! ### rostrum/rostrumlaw9.OrsetSeen (3) -/
def S.rostrumlaw9_OrsetSeen.j3 (R : Value → World → Prop) (x7 x8 : Value) (W : World) : Prop :=
  callK PR F_orset_Set_Has [x7, (.string ⟨#[120]⟩)] (fun v54 W =>
  okF (eqP .bool .eql v54 x8) fun v56 =>
  R v56 W) W
def S.rostrumlaw9_OrsetSeen.j2 (R : Value → World → Prop) (x2 x4 x7 x8 : Value) (W : World) : Prop :=
  joinK (fun s W => S.rostrumlaw9_OrsetSeen.j3 R (nthv s 0) (nthv s 1) W) (fun J3 =>
  okF (unP .not x2) fun v49 =>
  ifK v49 (
  rdK PR (Instr.loadAt T_vec_Vec x4) (fun v51 W =>
  callK PR F_orset_Set_Remove [x7, (.string ⟨#[120]⟩), v51] (fun v52 W =>
  J3 [x7, x8] W) W) W) (
  J3 [x7, x8] W))
def S.rostrumlaw9_OrsetSeen.j4 (K1 : List Value → World → Prop) (x0 x2 x4 x7 x8 x9 : Value) (W : World) : Prop :=
  okF (binP .add x9 (.int .i64 1)) fun v30 =>
  K1 [x0, x2, x4, x7, x8, v30] W
def S.rostrumlaw9_OrsetSeen.l1 (J2 : List Value → World → Prop) (K1 : List Value → World → Prop) (x0 x2 x4 x7 x8 x9 : Value) (W : World) : Prop :=
  okF (lenP (.slice T_api_Dot) x0) fun v27 =>
  okF (binP .lss x9 v27) fun v28 =>
  ifK v28 (
  joinK (fun s W => S.rostrumlaw9_OrsetSeen.j4 K1 (nthv s 0) (nthv s 1) (nthv s 2) (nthv s 3) (nthv s 4) (nthv s 5) W) (fun J4 =>
  okF (idxS 2 x0 x9) fun v34 =>
  rdK PR (Instr.loadAt T_api_Dot v34) (fun v35 W =>
  callK PR F_orset_Set_Add [x7, v35, (.string ⟨#[120]⟩)] (fun v36 W =>
  okF (binP .eql v36 (.int .i64 0)) fun v37 =>
  ifK v37 (
  gdK (wantd x8 false) (fun k W => rdK PR (Instr.loadAt T_vec_Vec x4) k W) (fun v40 W =>
  gdK (wantd x8 false) (fun k W => k x0 W) (fun v41 W =>
  gdK (wantd x8 false) (fun k W => k x9 W) (fun v42 W =>
  gdK (wantd x8 false) (fun k W => okF (idxS 2 v41 v42) fun v => k v W) (fun v43 W =>
  gdK (wantd x8 false) (fun k W => rdK PR (Instr.loadAt T_api_Dot v43) k W) (fun v44 W =>
  gdK (wantd x8 false) (fun k W => callK PR F_vec_Has [v40, v44] k W) (fun v45 W =>
  gdK (wantd x8 false) (fun k W => okF (unP .not v45) fun v => k v W) (fun v46 W =>
  okF (pickP x8 (.bool true) v46) fun v47 =>
  J4 [x0, x2, x4, x7, v47, x9] W) W) W) W) W) W) W) (tick W)) (
  J4 [x0, x2, x4, x7, x8, x9] W)) W) W)) (
  J2 [x2, x4, x7, x8] W)
def S.rostrumlaw9_OrsetSeen.j1 (R : Value → World → Prop) (x0 x2 x4 x7 : Value) (W : World) : Prop :=
  joinK (fun s W => S.rostrumlaw9_OrsetSeen.j2 R (nthv s 0) (nthv s 1) (nthv s 2) (nthv s 3) W) (fun J2 =>
  loopK (fun K1 s W => S.rostrumlaw9_OrsetSeen.l1 J2 K1 (nthv s 0) (nthv s 1) (nthv s 2) (nthv s 3) (nthv s 4) (nthv s 5) W) [x0, x2, x4, x7, (.bool false), (.int .i64 0)] W)
def S.rostrumlaw9_OrsetSeen.body (R : Value → World → Prop) (v0 v1 v2 : Value) (W : World) : Prop :=
  efK PR (Instr.box T_vec_Vec v1) (fun v4 W =>
  callK PR F_rostrumlaw9_awake [] (fun v10 W =>
  okF (unP .not v10) fun v11 =>
  ifK v11 (
  R (.bool false) W) (
  okF (lenP (.slice T_api_Dot) v0) fun v13 =>
  okF (binP .gtr v13 (.int .i64 20)) fun v14 =>
  gdK (wantd v14 false) (fun k W => rdK PR (Instr.loadAt T_vec_Vec v4) k W) (fun v16 W =>
  gdK (wantd v14 false) (fun k W => callK PR F_vec_Good [v16] k W) (fun v17 W =>
  gdK (wantd v14 false) (fun k W => okF (unP .not v17) fun v => k v W) (fun v18 W =>
  okF (pickP v14 (.bool true) v18) fun v19 =>
  ifK v19 (
  R (.bool true) W) (
  callK PR F_orset_New [] (fun v20 W =>
  joinK (fun s W => S.rostrumlaw9_OrsetSeen.j1 R (nthv s 0) (nthv s 1) (nthv s 2) (nthv s 3) W) (fun J1 =>
  ifK v2 (
  rdK PR (Instr.loadAt T_vec_Vec v4) (fun v23 W =>
  callK PR F_orset_Set_Remove [v20, (.string ⟨#[120]⟩), v23] (fun v24 W =>
  J1 [v0, v2, v4, v20] W) W) W) (
  J1 [v0, v2, v4, v20] W))) W)) W) W) W)) W) W
def S.rostrumlaw9_OrsetSeen.hint : Hint := (.two .nil (.two (.two .nil (.two (.two .nil .nil) .nil)) (.two (.two .nil (.two (.two .nil .nil) .nil)) (.two .nil (.at [0, 2, 4, 7] (.two .nil (.two .nil .nil)) (.two .nil (.at [2, 4, 7, 8] (.two .nil (.at [0, 2, 4, 7, 8, 9] (.two (.two .nil (.two .nil .nil)) (.at [0, 2, 4, 7, 8, 9] (.two .nil (.two .nil .nil)) .nil)) .nil)) (.at [7, 8] (.two .nil (.two .nil .nil)) (.two .nil .nil)))))))))
theorem S.rostrumlaw9_OrsetSeen.ok (R : Value → World → Prop) (v0 v1 v2 : Value) (W : World) : bodyK PR CB Try.f3 S.rostrumlaw9_OrsetSeen.hint [v0, v1, v2] R W = S.rostrumlaw9_OrsetSeen.body R v0 v1 v2 W := by kernel_rfl
theorem S.rostrumlaw9_OrsetSeen.fn : PR.funcs[F_rostrumlaw9_OrsetSeen]? = some Try.f3 := by kernel_rfl
theorem S.rostrumlaw9_OrsetSeen.call {R : Value → World → Prop} {v0 v1 v2 : Value} {W : World} (h : S.rostrumlaw9_OrsetSeen.body R v0 v1 v2 W) : callK PR F_rostrumlaw9_OrsetSeen [v0, v1, v2] R W :=
  callK_of_body (g := F_rostrumlaw9_OrsetSeen) (fn := Try.f3) (args := [v0, v1, v2]) (R := R) (w := W) mixed CBok S.rostrumlaw9_OrsetSeen.fn S.rostrumlaw9_OrsetSeen.hint (by rw [S.rostrumlaw9_OrsetSeen.ok]; exact h)
/-! ### rostrum/rostrumlaw9.OrsetPlays (4) -/
def S.rostrumlaw9_OrsetPlays.j1 (R : Value → World → Prop) (K1 : List Value → World → Prop) (x0 x1 x5 x6 x7 x9 : Value) (W : World) : Prop :=
  okF (unP .not x9) fun v67 =>
  gdK (wantd v67 false) (fun k W => k x5 W) (fun v69 W =>
  gdK (wantd v67 false) (fun k W => k x6 W) (fun v71 W =>
  gdK (wantd v67 false) (fun k W => callK PR F_orset_Set_All [v69] k W) (fun v70 W =>
  gdK (wantd v67 false) (fun k W => callK PR F_rostrumref7_Set_All [v71] k W) (fun v72 W =>
  gdK (wantd v67 false) (fun k W => callK PR F_rostrumlaw9_texts [v70, v72] k W) (fun v73 W =>
  gdK (wantd v67 false) (fun k W => okF (unP .not v73) fun v => k v W) (fun v74 W =>
  okF (pickP v67 (.bool true) v74) fun v75 =>
  gdK (wantd v75 false) (fun k W => k x5 W) (fun v77 W =>
  gdK (wantd v75 false) (fun k W => k x1 W) (fun v78 W =>
  gdK (wantd v75 false) (fun k W => k x6 W) (fun v80 W =>
  gdK (wantd v75 false) (fun k W => k x1 W) (fun v81 W =>
  gdK (wantd v75 false) (fun k W => callK PR F_orset_Set_Dots [v77, v78] k W) (fun v79 W =>
  gdK (wantd v75 false) (fun k W => callK PR F_rostrumref7_Set_Dots [v80, v81] k W) (fun v82 W =>
  gdK (wantd v75 false) (fun k W => callK PR F_rostrumlaw9_dots [v79, v82] k W) (fun v83 W =>
  gdK (wantd v75 false) (fun k W => okF (unP .not v83) fun v => k v W) (fun v84 W =>
  okF (pickP v75 (.bool true) v84) fun v85 =>
  gdK (wantd v85 false) (fun k W => k x5 W) (fun v87 W =>
  gdK (wantd v85 false) (fun k W => k x1 W) (fun v88 W =>
  gdK (wantd v85 false) (fun k W => k x6 W) (fun v90 W =>
  gdK (wantd v85 false) (fun k W => k x1 W) (fun v91 W =>
  gdK (wantd v85 false) (fun k W => callK PR F_orset_Set_Has [v87, v88] k W) (fun v89 W =>
  gdK (wantd v85 false) (fun k W => callK PR F_rostrumref7_Set_Dots [v90, v91] k W) (fun v92 W =>
  gdK (wantd v85 false) (fun k W => okF (lenP (.slice T_api_Dot) v92) fun v => k v W) (fun v93 W =>
  gdK (wantd v85 false) (fun k W => okF (binP .gtr v93 (.int .i64 0)) fun v => k v W) (fun v94 W =>
  gdK (wantd v85 false) (fun k W => okF (eqP .bool .neq v89 v94) fun v => k v W) (fun v95 W =>
  okF (pickP v85 (.bool true) v95) fun v96 =>
  gdK (wantd v96 false) (fun k W => k x5 W) (fun v98 W =>
  gdK (wantd v96 false) (fun k W => k x6 W) (fun v101 W =>
  gdK (wantd v96 false) (fun k W => callK PR F_orset_Set_Put [v98, (.slice none 0 0)] k W) (fun v99 W =>
  gdK (wantd v96 false) (fun k W => rdK PR (convert T_s_uint8 T_string v99) k W) (fun v100 W =>
  gdK (wantd v96 false) (fun k W => callK PR F_rostrumref7_Set_Put [v101, (.slice none 0 0)] (fun v W => stb PR [(34, (wantd v96 false), (convert T_s_uint8 T_string v99), v100)] (fun W => k v W) W) W) (fun v102 W =>
  gdK (wantd v96 false) (fun k W => rdK PR (convert T_s_uint8 T_string v102) k W) (fun v103 W =>
  gdK (wantd v96 false) (fun k W => okF (binP .neq v100 v103) fun v => k v W) (fun v104 W =>
  okF (pickP v96 (.bool true) v104) fun v105 =>
  ifK v105 (
  R (.bool false) W) (
  okF (binP .add x7 (.int .i64 1)) fun v28 =>
  K1 [x0, x1, x5, x6, v28] W)) W) W) W) W) W) W) W) W) W) W) W) W) W) W) W) W) W) W) W) W) W) W) W) W) W) W) W) W) W) (tick W)
def S.rostrumlaw9_OrsetPlays.l1 (R : Value → World → Prop) (K1 : List Value → World → Prop) (x0 x1 x5 x6 x7 : Value) (W : World) : Prop :=
  okF (lenP (.slice T_rostrumlaw9_Act) x0) fun v25 =>
  okF (binP .lss x7 v25) fun v26 =>
  ifK v26 (
  okF (idxS 11 x0 x7) fun v31 =>
  rdK PR (Instr.loadAt T_rostrumlaw9_Act v31) (fun v32 W =>
  efK PR (Instr.alloc T_rostrumlaw9_Act true (.tuple #[])) (fun v8 W =>
  efK PR (Instr.storeAt T_rostrumlaw9_Act v8 v32) (fun _ W =>
  okF (addrF 3 v8) fun v33 =>
  rdK PR (Instr.loadAt T_string v33) (fun v34 W =>
  okF (lenP .string v34) fun v35 =>
  okF (binP .gtr v35 (.int .i64 150)) fun v36 =>
  ifK v36 (
  R (.bool true) W) (
  joinK (fun s W => S.rostrumlaw9_OrsetPlays.j1 R K1 (nthv s 0) (nthv s 1) (nthv s 2) (nthv s 3) (nthv s 4) (nthv s 5) W) (fun J1 =>
  okF (addrF 0 v8) fun v37 =>
  rdK PR (Instr.loadAt T_int v37) (fun v38 W =>
  okF (binP .eql v38 (.int .i64 0)) fun v39 =>
  ifK v39 (
  okF (addrF 1 v8) fun v41 =>
  rdK PR (Instr.loadAt T_api_Dot v41) (fun v42 W =>
  okF (addrF 3 v8) fun v43 =>
  rdK PR (Instr.loadAt T_string v43) (fun v44 W =>
  okF (addrF 1 v8) fun v47 =>
  rdK PR (Instr.loadAt T_api_Dot v47) (fun v48 W =>
  okF (addrF 3 v8) fun v49 =>
  rdK PR (Instr.loadAt T_string v49) (fun v50 W =>
  callK PR F_orset_Set_Add [x5, v42, v44] (fun v45 W =>
  stb PR [(10, true, (Instr.loadAt T_string v49), v50), (8, true, (Instr.loadAt T_api_Dot v47), v48)] (fun W =>
  callK PR F_rostrumref7_Set_Add [x6, v48, v50] (fun v51 W =>
  okF (binP .eql v45 v51) fun v52 =>
  J1 [x0, x1, x5, x6, x7, v52] W) W) W) W) W) W) W) (tick W)) (
  okF (addrF 3 v8) fun v54 =>
  rdK PR (Instr.loadAt T_string v54) (fun v55 W =>
  okF (addrF 4 v8) fun v56 =>
  rdK PR (Instr.loadAt T_vec_Vec v56) (fun v57 W =>
  okF (addrF 3 v8) fun v60 =>
  rdK PR (Instr.loadAt T_string v60) (fun v61 W =>
  okF (addrF 4 v8) fun v62 =>
  rdK PR (Instr.loadAt T_vec_Vec v62) (fun v63 W =>
  callK PR F_orset_Set_Remove [x5, v55, v57] (fun v58 W =>
  stb PR [(10, true, (Instr.loadAt T_vec_Vec v62), v63), (8, true, (Instr.loadAt T_string v60), v61)] (fun W =>
  callK PR F_rostrumref7_Set_Remove [x6, v61, v63] (fun v64 W =>
  okF (binP .eql v58 v64) fun v65 =>
  J1 [x0, x1, x5, x6, x7, v65] W) W) W) W) W) W) W) (tick W))) W))) W) W) W) W) (
  R (.bool true) W)
def S.rostrumlaw9_OrsetPlays.body (R : Value → World → Prop) (v0 v1 : Value) (W : World) : Prop :=
  callK PR F_rostrumlaw9_awake [] (fun v10 W =>
  okF (unP .not v10) fun v11 =>
  ifK v11 (
  R (.bool false) W) (
  okF (lenP (.slice T_rostrumlaw9_Act) v0) fun v13 =>
  okF (binP .gtr v13 (.int .i64 60)) fun v14 =>
  gdK (wantd v14 false) (fun k W => k v1 W) (fun v16 W =>
  gdK (wantd v14 false) (fun k W => okF (lenP .string v16) fun v => k v W) (fun v17 W =>
  gdK (wantd v14 false) (fun k W => okF (binP .gtr v17 (.int .i64 150)) fun v => k v W) (fun v18 W =>
  okF (pickP v14 (.bool true) v18) fun v19 =>
  ifK v19 (
  R (.bool true) W) (
  callK PR F_orset_New [] (fun v20 W =>
  okF (bldP (fun i => ([(0, 1), (1, 1)] : List (Nat × Nat))[i]?) [.slice none 0 0, .slice none 0 0] []) fun v21 =>
  efK PR (Instr.box T_rostrumref7_Set v21) (fun v22 W =>
  loopK (fun K1 s W => S.rostrumlaw9_OrsetPlays.l1 R K1 (nthv s 0) (nthv s 1) (nthv s 2) (nthv s 3) (nthv s 4) W) [v0, v1, v20, v22, (.int .i64 0)] W) W) W)) W) W) W)) W
def S.rostrumlaw9_OrsetPlays.hint : Hint := (.two .nil (.two (.two .nil (.two (.two .nil .nil) .nil)) (.two (.two .nil (.two (.two .nil .nil) .nil)) (.two .nil (.two (.two .nil (.at [0, 1, 5, 6, 7] (.two (.two .nil (.two .nil .nil)) (.two (.two .nil (.two (.two .nil (.two (.two .nil .nil) .nil)) (.two .nil (.at [0, 1, 5, 6, 7, 9] (.two .nil (.two .nil .nil)) (.two .nil (.two (.two .nil .nil) .nil)))))) .nil)) .nil)) (.two .nil .nil))))))
theorem S.rostrumlaw9_OrsetPlays.ok (R : Value → World → Prop) (v0 v1 : Value) (W : World) : bodyK PR CB Try.f4 S.rostrumlaw9_OrsetPlays.hint [v0, v1] R W = S.rostrumlaw9_OrsetPlays.body R v0 v1 W := by kernel_rfl
theorem S.rostrumlaw9_OrsetPlays.fn : PR.funcs[F_rostrumlaw9_OrsetPlays]? = some Try.f4 := by kernel_rfl
theorem S.rostrumlaw9_OrsetPlays.call {R : Value → World → Prop} {v0 v1 : Value} {W : World} (h : S.rostrumlaw9_OrsetPlays.body R v0 v1 W) : callK PR F_rostrumlaw9_OrsetPlays [v0, v1] R W :=
  callK_of_body (g := F_rostrumlaw9_OrsetPlays) (fn := Try.f4) (args := [v0, v1]) (R := R) (w := W) mixed CBok S.rostrumlaw9_OrsetPlays.fn S.rostrumlaw9_OrsetPlays.hint (by rw [S.rostrumlaw9_OrsetPlays.ok]; exact h)
/-! ### rostrum/rostrumlaw9.OrsetKnown (5) -/
def S.rostrumlaw9_OrsetKnown.body (R : Value → World → Prop) (W : World) : Prop :=
  callK PR F_rostrumlaw9_awake [] (fun v11 W =>
  okF (unP .not v11) fun v12 =>
  ifK v12 (
  R (.bool false) W) (
  callK PR F_orset_New [] (fun v13 W =>
  okF (bldP (fun i => some (i * 1, 1)) [.int .i64 0, .int .i64 0, .int .i64 0, .int .i64 0, .int .i64 0, .int .i64 0, .int .i64 0] [(0, (.int .i64 3))]) fun v15 =>
  callK PR F_orset_Set_Remove [v13, (.string ⟨#[120]⟩), v15] (fun v16 W =>
  okF (bldP (fun i => ([(0, 1), (1, 1)] : List (Nat × Nat))[i]?) [.int .i64 0, .int .i64 0] [(1, (.int .i64 2))]) fun v18 =>
  callK PR F_orset_Set_Add [v13, v18, (.string ⟨#[120]⟩)] (fun v19 W =>
  callK PR F_orset_Set_Has [v13, (.string ⟨#[120]⟩)] (fun v21 W =>
  okF (bldP (fun i => ([(0, 1), (1, 1)] : List (Nat × Nat))[i]?) [.int .i64 0, .int .i64 0] [(1, (.int .i64 2))]) fun v23 =>
  callK PR F_orset_Set_Add [v13, v23, (.string ⟨#[121]⟩)] (fun v24 W =>
  okF (bldP (fun i => ([(0, 1), (1, 1)] : List (Nat × Nat))[i]?) [.int .i64 0, .int .i64 0] [(1, (.int .i64 4))]) fun v26 =>
  callK PR F_orset_Set_Add [v13, v26, (.string ⟨#[120]⟩)] (fun v27 W =>
  callK PR F_orset_Set_Has [v13, (.string ⟨#[120]⟩)] (fun v29 W =>
  okF (bldP (fun i => ([(0, 1), (1, 1)] : List (Nat × Nat))[i]?) [.int .i64 0, .int .i64 0] []) fun v31 =>
  callK PR F_orset_Set_Add [v13, v31, (.string ⟨#[120]⟩)] (fun v32 W =>
  okF (bldP (fun i => ([(0, 1), (1, 1)] : List (Nat × Nat))[i]?) [.int .i64 0, .int .i64 0] [(1, (.int .i64 9))]) fun v34 =>
  efK PR (Instr.makeSlice T_s_uint8 (.int .i64 101) (.int .i64 101)) (fun v35 W =>
  rdK PR (convert T_s_uint8 T_string v35) (fun v36 W =>
  callK PR F_orset_Set_Add [v13, v34, v36] (fun v37 W =>
  okF (bldP (fun i => some (i * 1, 1)) [.int .i64 0, .int .i64 0, .int .i64 0, .int .i64 0, .int .i64 0, .int .i64 0, .int .i64 0] [(0, (.int .i64 (-1)))]) fun v39 =>
  callK PR F_orset_Set_Remove [v13, (.string ⟨#[120]⟩), v39] (fun v40 W =>
  callK PR F_orset_Set_Copy [v13] (fun v42 W =>
  okF (bldP (fun i => ([(0, 1), (1, 1)] : List (Nat × Nat))[i]?) [.int .i64 0, .int .i64 0] [(0, (.int .i64 2)), (1, (.int .i64 1))]) fun v44 =>
  callK PR F_orset_Set_Add [v42, v44, (.string ⟨#[122]⟩)] (fun v45 W =>
  okF (binP .eql v19 (.int .i64 0)) fun v47 =>
  gdK (wantd v47 true) (fun k W => k v21 W) (fun v49 W =>
  gdK (wantd v47 true) (fun k W => okF (unP .not v49) fun v => k v W) (fun v50 W =>
  okF (pickP v47 v50 (.bool false)) fun v51 =>
  gdK (wantd v51 true) (fun k W => k v24 W) (fun v53 W =>
  gdK (wantd v51 true) (fun k W => okF (binP .eql v53 (.int .i64 5)) fun v => k v W) (fun v54 W =>
  okF (pickP v51 v54 (.bool false)) fun v55 =>
  gdK (wantd v55 true) (fun k W => k v27 W) (fun v57 W =>
  gdK (wantd v55 true) (fun k W => okF (binP .eql v57 (.int .i64 0)) fun v => k v W) (fun v58 W =>
  okF (pickP v55 v58 (.bool false)) fun v59 =>
  gdK (wantd v59 true) (fun k W => k v29 W) (fun v61 W =>
  okF (pickP v59 v61 (.bool false)) fun v62 =>
  gdK (wantd v62 true) (fun k W => k v32 W) (fun v64 W =>
  gdK (wantd v62 true) (fun k W => okF (binP .eql v64 (.int .i64 1)) fun v => k v W) (fun v65 W =>
  okF (pickP v62 v65 (.bool false)) fun v66 =>
  gdK (wantd v66 true) (fun k W => k v37 W) (fun v68 W =>
  gdK (wantd v66 true) (fun k W => okF (binP .eql v68 (.int .i64 1)) fun v => k v W) (fun v69 W =>
  okF (pickP v66 v69 (.bool false)) fun v70 =>
  gdK (wantd v70 true) (fun k W => k v40 W) (fun v72 W =>
  gdK (wantd v70 true) (fun k W => okF (binP .eql v72 (.int .i64 1)) fun v => k v W) (fun v73 W =>
  okF (pickP v70 v73 (.bool false)) fun v74 =>
  gdK (wantd v74 true) (fun k W => k v13 W) (fun v76 W =>
  gdK (wantd v74 true) (fun k W => callK PR F_orset_Set_Has [v76, (.string ⟨#[122]⟩)] k W) (fun v77 W =>
  gdK (wantd v74 true) (fun k W => okF (unP .not v77) fun v => k v W) (fun v78 W =>
  okF (pickP v74 v78 (.bool false)) fun v79 =>
  gdK (wantd v79 true) (fun k W => k v42 W) (fun v81 W =>
  gdK (wantd v79 true) (fun k W => callK PR F_orset_Set_Has [v81, (.string ⟨#[122]⟩)] k W) (fun v82 W =>
  okF (pickP v79 v82 (.bool false)) fun v83 =>
  gdK (wantd v83 true) (fun k W => k v13 W) (fun v85 W =>
  gdK (wantd v83 true) (fun k W => k v42 W) (fun v86 W =>
  gdK (wantd v83 true) (fun k W => callK PR F_orset_Same [v85, v86] k W) (fun v87 W =>
  gdK (wantd v83 true) (fun k W => okF (unP .not v87) fun v => k v W) (fun v88 W =>
  okF (pickP v83 v88 (.bool false)) fun v89 =>
  gdK (wantd v89 true) (fun k W => k v13 W) (fun v91 W =>
  gdK (wantd v89 true) (fun k W => k v13 W) (fun v92 W =>
  gdK (wantd v89 true) (fun k W => callK PR F_orset_Set_Copy [v92] k W) (fun v93 W =>
  gdK (wantd v89 true) (fun k W => callK PR F_orset_Same [v91, v93] k W) (fun v94 W =>
  okF (pickP v89 v94 (.bool false)) fun v95 =>
  R v95 W) W) W) W) W) W) W) W) W) W) W) W) W) W) W) W) W) W) W) W) W) W) W) W) W) W) W) W) W) W) W) W) W) W) W) W) W) W) W) W) W)) W
def S.rostrumlaw9_OrsetKnown.hint : Hint := (.two .nil (.two (.two .nil (.two (.two .nil .nil) .nil)) (.two .nil (.two .nil (.two .nil (.two .nil (.two .nil (.two .nil (.two .nil (.two .nil (.two .nil (.two .nil (.two .nil (.two .nil (.two .nil .nil)))))))))))))))
theorem S.rostrumlaw9_OrsetKnown.ok (R : Value → World → Prop) (W : World) : bodyK PR CB Try.f5 S.rostrumlaw9_OrsetKnown.hint [] R W = S.rostrumlaw9_OrsetKnown.body R  W := by kernel_rfl
theorem S.rostrumlaw9_OrsetKnown.fn : PR.funcs[F_rostrumlaw9_OrsetKnown]? = some Try.f5 := by kernel_rfl
theorem S.rostrumlaw9_OrsetKnown.call {R : Value → World → Prop} {W : World} (h : S.rostrumlaw9_OrsetKnown.body R  W) : callK PR F_rostrumlaw9_OrsetKnown [] R W :=
  callK_of_body (g := F_rostrumlaw9_OrsetKnown) (fn := Try.f5) (args := []) (R := R) (w := W) mixed CBok S.rostrumlaw9_OrsetKnown.fn S.rostrumlaw9_OrsetKnown.hint (by rw [S.rostrumlaw9_OrsetKnown.ok]; exact h)
/-! ### rostrum/rostrumlaw9.OrsetDrop (6) -/
def S.rostrumlaw9_OrsetDrop.j2 (R : Value → World → Prop) (K1 : List Value → World → Prop) (x2 x4 x7 x8 x10 : Value) (W : World) : Prop :=
  callK PR F_orset_Same [x7, x8] (fun v146 W =>
  okF (unP .not v146) fun v147 =>
  ifK v147 (
  R (.bool false) W) (
  okF (binP .add x10 (.int .i64 1)) fun v101 =>
  K1 [x2, x4, x7, x8, v101] W)) W
def S.rostrumlaw9_OrsetDrop.l1 (R : Value → World → Prop) (K1 : List Value → World → Prop) (x2 x4 x7 x8 x10 : Value) (W : World) : Prop :=
  okF (lenP (.slice T_rostrumlaw9_Act) x2) fun v98 =>
  okF (binP .lss x10 v98) fun v99 =>
  ifK v99 (
  okF (idxS 11 x2 x10) fun v104 =>
  rdK PR (Instr.loadAt T_rostrumlaw9_Act v104) (fun v105 W =>
  efK PR (Instr.alloc T_rostrumlaw9_Act true (.tuple #[])) (fun v11 W =>
  efK PR (Instr.storeAt T_rostrumlaw9_Act v11 v105) (fun _ W =>
  joinK (fun s W => S.rostrumlaw9_OrsetDrop.j2 R K1 (nthv s 0) (nthv s 1) (nthv s 2) (nthv s 3) (nthv s 4) W) (fun J2 =>
  okF (addrF 0 v11) fun v106 =>
  rdK PR (Instr.loadAt T_int v106) (fun v107 W =>
  okF (binP .eql v107 (.int .i64 0)) fun v108 =>
  ifK v108 (
  rdK PR (Instr.loadAt T_vec_Vec x4) (fun v109 W =>
  okF (addrF 1 v11) fun v110 =>
  rdK PR (Instr.loadAt T_api_Dot v110) (fun v111 W =>
  callK PR F_vec_Has [v109, v111] (fun v112 W =>
  ifK v112 (
  R (.bool true) W) (
  okF (addrF 1 v11) fun v114 =>
  rdK PR (Instr.loadAt T_api_Dot v114) (fun v115 W =>
  okF (addrF 3 v11) fun v116 =>
  rdK PR (Instr.loadAt T_string v116) (fun v117 W =>
  okF (addrF 1 v11) fun v120 =>
  rdK PR (Instr.loadAt T_api_Dot v120) (fun v121 W =>
  okF (addrF 3 v11) fun v122 =>
  rdK PR (Instr.loadAt T_string v122) (fun v123 W =>
  callK PR F_orset_Set_Add [x7, v115, v117] (fun v118 W =>
  stb PR [(10, true, (Instr.loadAt T_string v122), v123), (8, true, (Instr.loadAt T_api_Dot v120), v121)] (fun W =>
  callK PR F_orset_Set_Add [x8, v121, v123] (fun v124 W =>
  okF (binP .neq v118 v124) fun v125 =>
  ifK v125 (
  R (.bool false) W) (
  J2 [x2, x4, x7, x8, x10] W)) W) W) W) W) W) W) (tick W))) W) W) W) (
  rdK PR (Instr.loadAt T_vec_Vec x4) (fun v126 W =>
  okF (addrF 4 v11) fun v127 =>
  rdK PR (Instr.loadAt T_vec_Vec v127) (fun v128 W =>
  callK PR F_vec_Le [v126, v128] (fun v129 W =>
  okF (unP .not v129) fun v130 =>
  ifK v130 (
  R (.bool true) W) (
  okF (addrF 3 v11) fun v132 =>
  rdK PR (Instr.loadAt T_string v132) (fun v133 W =>
  okF (addrF 4 v11) fun v134 =>
  rdK PR (Instr.loadAt T_vec_Vec v134) (fun v135 W =>
  okF (addrF 3 v11) fun v138 =>
  rdK PR (Instr.loadAt T_string v138) (fun v139 W =>
  okF (addrF 4 v11) fun v140 =>
  rdK PR (Instr.loadAt T_vec_Vec v140) (fun v141 W =>
  callK PR F_orset_Set_Remove [x7, v133, v135] (fun v136 W =>
  stb PR [(10, true, (Instr.loadAt T_vec_Vec v140), v141), (8, true, (Instr.loadAt T_string v138), v139)] (fun W =>
  callK PR F_orset_Set_Remove [x8, v139, v141] (fun v142 W =>
  okF (binP .neq v136 v142) fun v143 =>
  ifK v143 (
  R (.bool false) W) (
  J2 [x2, x4, x7, x8, x10] W)) W) W) W) W) W) W) (tick W))) W) W) W)) W)) W) W) W) (
  R (.bool true) W)
def S.rostrumlaw9_OrsetDrop.j1 (R : Value → World → Prop) (x2 x4 x7 x8 : Value) (W : World) : Prop :=
  rdK PR (Instr.loadAt T_vec_Vec x4) (fun v90 W =>
  callK PR F_orset_Set_Drop [x8, v90] (fun v91 W =>
  callK PR F_orset_Same [x7, x8] (fun v94 W =>
  okF (unP .not v94) fun v95 =>
  ifK v95 (
  R (.bool false) W) (
  loopK (fun K1 s W => S.rostrumlaw9_OrsetDrop.l1 R K1 (nthv s 0) (nthv s 1) (nthv s 2) (nthv s 3) (nthv s 4) W) [x2, x4, x7, x8, (.int .i64 0)] W)) W) W) W
def S.rostrumlaw9_OrsetDrop.j3 (K2 : List Value → World → Prop) (x0 x2 x4 x7 x8 x9 : Value) (W : World) : Prop :=
  okF (binP .add x9 (.int .i64 1)) fun v34 =>
  K2 [x0, x2, x4, x7, x8, v34] W
def S.rostrumlaw9_OrsetDrop.l2 (J1 : List Value → World → Prop) (K2 : List Value → World → Prop) (x0 x2 x4 x7 x8 x9 : Value) (W : World) : Prop :=
  okF (lenP (.slice T_rostrumlaw9_Act) x0) fun v31 =>
  okF (binP .lss x9 v31) fun v32 =>
  ifK v32 (
  joinK (fun s W => S.rostrumlaw9_OrsetDrop.j3 K2 (nthv s 0) (nthv s 1) (nthv s 2) (nthv s 3) (nthv s 4) (nthv s 5) W) (fun J3 =>
  okF (idxS 11 x0 x9) fun v37 =>
  okF (addrF 0 v37) fun v38 =>
  rdK PR (Instr.loadAt T_int v38) (fun v39 W =>
  okF (binP .eql v39 (.int .i64 0)) fun v40 =>
  ifK v40 (
  okF (idxS 11 x0 x9) fun v44 =>
  okF (addrF 1 v44) fun v45 =>
  rdK PR (Instr.loadAt T_api_Dot v45) (fun v46 W =>
  okF (idxS 11 x0 x9) fun v49 =>
  okF (addrF 3 v49) fun v50 =>
  rdK PR (Instr.loadAt T_string v50) (fun v51 W =>
  callK PR F_orset_Set_Add [x7, v46, v51] (fun v52 W =>
  okF (idxS 11 x0 x9) fun v56 =>
  okF (addrF 1 v56) fun v57 =>
  rdK PR (Instr.loadAt T_api_Dot v57) (fun v58 W =>
  okF (idxS 11 x0 x9) fun v61 =>
  okF (addrF 3 v61) fun v62 =>
  rdK PR (Instr.loadAt T_string v62) (fun v63 W =>
  callK PR F_orset_Set_Add [x8, v58, v63] (fun v64 W =>
  J3 [x0, x2, x4, x7, x8, x9] W) W) W) (tick W)) W) W) (tick W)) (
  okF (idxS 11 x0 x9) fun v68 =>
  okF (addrF 3 v68) fun v69 =>
  rdK PR (Instr.loadAt T_string v69) (fun v70 W =>
  okF (idxS 11 x0 x9) fun v73 =>
  okF (addrF 4 v73) fun v74 =>
  rdK PR (Instr.loadAt T_vec_Vec v74) (fun v75 W =>
  callK PR F_orset_Set_Remove [x7, v70, v75] (fun v76 W =>
  okF (idxS 11 x0 x9) fun v80 =>
  okF (addrF 3 v80) fun v81 =>
  rdK PR (Instr.loadAt T_string v81) (fun v82 W =>
  okF (idxS 11 x0 x9) fun v85 =>
  okF (addrF 4 v85) fun v86 =>
  rdK PR (Instr.loadAt T_vec_Vec v86) (fun v87 W =>
  callK PR F_orset_Set_Remove [x8, v82, v87] (fun v88 W =>
  J3 [x0, x2, x4, x7, x8, x9] W) W) W) (tick W)) W) W) (tick W))) W)) (
  J1 [x2, x4, x7, x8] W)
def S.rostrumlaw9_OrsetDrop.body (R : Value → World → Prop) (v0 v1 v2 : Value) (W : World) : Prop :=
  efK PR (Instr.box T_vec_Vec v1) (fun v4 W =>
  callK PR F_rostrumlaw9_awake [] (fun v12 W =>
  okF (unP .not v12) fun v13 =>
  ifK v13 (
  R (.bool false) W) (
  okF (lenP (.slice T_rostrumlaw9_Act) v0) fun v15 =>
  okF (binP .gtr v15 (.int .i64 30)) fun v16 =>
  gdK (wantd v16 false) (fun k W => k v2 W) (fun v18 W =>
  gdK (wantd v16 false) (fun k W => okF (lenP (.slice T_rostrumlaw9_Act) v18) fun v => k v W) (fun v19 W =>
  gdK (wantd v16 false) (fun k W => okF (binP .gtr v19 (.int .i64 30)) fun v => k v W) (fun v20 W =>
  okF (pickP v16 (.bool true) v20) fun v21 =>
  gdK (wantd v21 false) (fun k W => rdK PR (Instr.loadAt T_vec_Vec v4) k W) (fun v23 W =>
  gdK (wantd v21 false) (fun k W => callK PR F_vec_Good [v23] k W) (fun v24 W =>
  gdK (wantd v21 false) (fun k W => okF (unP .not v24) fun v => k v W) (fun v25 W =>
  okF (pickP v21 (.bool true) v25) fun v26 =>
  ifK v26 (
  R (.bool true) W) (
  callK PR F_orset_New [] (fun v27 W =>
  callK PR F_orset_New [] (fun v28 W =>
  joinK (fun s W => S.rostrumlaw9_OrsetDrop.j1 R (nthv s 0) (nthv s 1) (nthv s 2) (nthv s 3) W) (fun J1 =>
  loopK (fun K2 s W => S.rostrumlaw9_OrsetDrop.l2 J1 K2 (nthv s 0) (nthv s 1) (nthv s 2) (nthv s 3) (nthv s 4) (nthv s 5) W) [v0, v2, v4, v27, v28, (.int .i64 0)] W)) W) W)) W) W) W) W) W) W)) W) W
def S.rostrumlaw9_OrsetDrop.hint : Hint := (.two .nil (.two (.two .nil (.two (.two .nil .nil) .nil)) (.two (.two .nil (.two (.two .nil .nil) .nil)) (.two .nil (.at [2, 4, 7, 8] (.two .nil (.at [0, 2, 4, 7, 8, 9] (.two (.two .nil (.two .nil .nil)) (.at [0, 2, 4, 7, 8, 9] (.two .nil (.two (.two .nil .nil) (.two .nil .nil))) .nil)) .nil)) (.two .nil (.two (.two .nil (.two (.two .nil .nil) .nil)) (.two (.two .nil (.at [2, 4, 7, 8, 10] (.two (.two .nil (.two .nil .nil)) (.two (.two .nil (.at [2, 4, 7, 8, 10] (.two .nil (.two (.two (.two .nil (.two (.two .nil .nil) .nil)) (.two .nil (.two (.two .nil .nil) .nil))) (.two (.two .nil (.two (.two .nil .nil) .nil)) (.two .nil (.two (.two .nil .nil) .nil))))) (.two .nil (.two (.two .nil .nil) .nil)))) .nil)) .nil)) (.two .nil .nil)))))))))
theorem S.rostrumlaw9_OrsetDrop.ok (R : Value → World → Prop) (v0 v1 v2 : Value) (W : World) : bodyK PR CB Try.f6 S.rostrumlaw9_OrsetDrop.hint [v0, v1, v2] R W = S.rostrumlaw9_OrsetDrop.body R v0 v1 v2 W := by kernel_rfl
theorem S.rostrumlaw9_OrsetDrop.fn : PR.funcs[F_rostrumlaw9_OrsetDrop]? = some Try.f6 := by kernel_rfl
theorem S.rostrumlaw9_OrsetDrop.call {R : Value → World → Prop} {v0 v1 v2 : Value} {W : World} (h : S.rostrumlaw9_OrsetDrop.body R v0 v1 v2 W) : callK PR F_rostrumlaw9_OrsetDrop [v0, v1, v2] R W :=
  callK_of_body (g := F_rostrumlaw9_OrsetDrop) (fn := Try.f6) (args := [v0, v1, v2]) (R := R) (w := W) mixed CBok S.rostrumlaw9_OrsetDrop.fn S.rostrumlaw9_OrsetDrop.hint (by rw [S.rostrumlaw9_OrsetDrop.ok]; exact h)
/-! ### rostrum/rostrumlaw9.OrsetOrder (7) -/
def S.rostrumlaw9_OrsetOrder.j2 (R : Value → World → Prop) (x5 x6 : Value) (W : World) : Prop :=
  callK PR F_orset_Same [x5, x6] (fun v139 W =>
  gdK (wantd v139 true) (fun k W => k x5 W) (fun v141 W =>
  gdK (wantd v139 true) (fun k W => k x6 W) (fun v144 W =>
  gdK (wantd v139 true) (fun k W => callK PR F_orset_Set_Put [v141, (.slice none 0 0)] k W) (fun v142 W =>
  gdK (wantd v139 true) (fun k W => rdK PR (convert T_s_uint8 T_string v142) k W) (fun v143 W =>
  gdK (wantd v139 true) (fun k W => callK PR F_orset_Set_Put [v144, (.slice none 0 0)] (fun v W => stb PR [(6, (wantd v139 true), (convert T_s_uint8 T_string v142), v143)] (fun W => k v W) W) W) (fun v145 W =>
  gdK (wantd v139 true) (fun k W => rdK PR (convert T_s_uint8 T_string v145) k W) (fun v146 W =>
  gdK (wantd v139 true) (fun k W => okF (binP .eql v143 v146) fun v => k v W) (fun v147 W =>
  okF (pickP v139 v147 (.bool false)) fun v148 =>
  R v148 W) W) W) W) W) W) W) W) (tick W)
def S.rostrumlaw9_OrsetOrder.j3 (K1 : List Value → World → Prop) (x0 x1 x5 x6 x9 : Value) (W : World) : Prop :=
  okF (binP .add x9 (.int .i64 1)) fun v84 =>
  K1 [x0, x1, x5, x6, v84] W
def S.rostrumlaw9_OrsetOrder.j5 (J3 : List Value → World → Prop) (x0 x1 x5 x6 x9 x11 : Value) (W : World) : Prop :=
  okF (addrF 0 x11) fun v116 =>
  rdK PR (Instr.loadAt T_int v116) (fun v117 W =>
  okF (binP .eql v117 (.int .i64 0)) fun v118 =>
  ifK v118 (
  okF (addrF 1 x11) fun v120 =>
  rdK PR (Instr.loadAt T_api_Dot v120) (fun v121 W =>
  okF (addrF 3 x11) fun v122 =>
  rdK PR (Instr.loadAt T_string v122) (fun v123 W =>
  callK PR F_orset_Set_Add [x6, v121, v123] (fun v124 W =>
  okF (addrF 1 x11) fun v126 =>
  rdK PR (Instr.loadAt T_api_Dot v126) (fun v127 W =>
  okF (addrF 3 x11) fun v128 =>
  rdK PR (Instr.loadAt T_string v128) (fun v129 W =>
  callK PR F_orset_Set_Add [x6, v127, v129] (fun v130 W =>
  J3 [x0, x1, x5, x6, x9] W) W) W) W) W) W) W) (
  okF (addrF 3 x11) fun v132 =>
  rdK PR (Instr.loadAt T_string v132) (fun v133 W =>
  okF (addrF 4 x11) fun v134 =>
  rdK PR (Instr.loadAt T_vec_Vec v134) (fun v135 W =>
  callK PR F_orset_Set_Remove [x6, v133, v135] (fun v136 W =>
  J3 [x0, x1, x5, x6, x9] W) W) W) W)) W
def S.rostrumlaw9_OrsetOrder.j4 (J3 : List Value → World → Prop) (x0 x1 x5 x6 x9 x10 x11 : Value) (W : World) : Prop :=
  joinK (fun s W => S.rostrumlaw9_OrsetOrder.j5 J3 (nthv s 0) (nthv s 1) (nthv s 2) (nthv s 3) (nthv s 4) (nthv s 5) W) (fun J5 =>
  okF (addrF 0 x10) fun v101 =>
  rdK PR (Instr.loadAt T_int v101) (fun v102 W =>
  okF (binP .eql v102 (.int .i64 0)) fun v103 =>
  ifK v103 (
  okF (addrF 1 x10) fun v105 =>
  rdK PR (Instr.loadAt T_api_Dot v105) (fun v106 W =>
  okF (addrF 3 x10) fun v107 =>
  rdK PR (Instr.loadAt T_string v107) (fun v108 W =>
  callK PR F_orset_Set_Add [x5, v106, v108] (fun v109 W =>
  J5 [x0, x1, x5, x6, x9, x11] W) W) W) W) (
  okF (addrF 3 x10) fun v111 =>
  rdK PR (Instr.loadAt T_string v111) (fun v112 W =>
  okF (addrF 4 x10) fun v113 =>
  rdK PR (Instr.loadAt T_vec_Vec v113) (fun v114 W =>
  callK PR F_orset_Set_Remove [x5, v112, v114] (fun v115 W =>
  J5 [x0, x1, x5, x6, x9, x11] W) W) W) W)) W)
def S.rostrumlaw9_OrsetOrder.l1 (J2 : List Value → World → Prop) (K1 : List Value → World → Prop) (x0 x1 x5 x6 x9 : Value) (W : World) : Prop :=
  okF (lenP (.slice T_rostrumlaw9_Act) x0) fun v81 =>
  okF (binP .lss x9 v81) fun v82 =>
  ifK v82 (
  joinK (fun s W => S.rostrumlaw9_OrsetOrder.j3 K1 (nthv s 0) (nthv s 1) (nthv s 2) (nthv s 3) (nthv s 4) W) (fun J3 =>
  joinK (fun s W => S.rostrumlaw9_OrsetOrder.j4 J3 (nthv s 0) (nthv s 1) (nthv s 2) (nthv s 3) (nthv s 4) (nthv s 5) (nthv s 6) W) (fun J4 =>
  okF (idxS 11 x0 x9) fun v87 =>
  rdK PR (Instr.loadAt T_rostrumlaw9_Act v87) (fun v88 W =>
  okF (lenP (.slice T_rostrumlaw9_Act) x0) fun v93 =>
  okF (binP .rem x1 v93) fun v94 =>
  okF (binP .add x9 v94) fun v95 =>
  okF (lenP (.slice T_rostrumlaw9_Act) x0) fun v97 =>
  okF (binP .rem v95 v97) fun v98 =>
  okF (idxS 11 x0 v98) fun v99 =>
  rdK PR (Instr.loadAt T_rostrumlaw9_Act v99) (fun v100 W =>
  (efK PR (Instr.alloc T_rostrumlaw9_Act true (.tuple #[])) (fun v10 W =>
  stb PR [(15, true, (Instr.loadAt T_rostrumlaw9_Act v99), v100), (3, true, (Instr.loadAt T_rostrumlaw9_Act v87), v88)] (fun W =>
  efK PR (Instr.alloc T_rostrumlaw9_Act true (.tuple #[])) (fun v11 W =>
  stb PR [(15, true, (Instr.loadAt T_rostrumlaw9_Act v99), v100), (3, true, (Instr.loadAt T_rostrumlaw9_Act v87), v88)] (fun W =>
  efK PR (Instr.storeAt T_rostrumlaw9_Act v10 v88) (fun _ W =>
  stb PR [(15, true, (Instr.loadAt T_rostrumlaw9_Act v99), v100)] (fun W =>
  efK PR (Instr.storeAt T_rostrumlaw9_Act v11 v100) (fun _ W =>
  J4 [x0, x1, x5, x6, x9, v10, v11] W) W) W) W) W) W) W) W) ∧ (efK PR (Instr.alloc T_rostrumlaw9_Act true (.tuple #[])) (fun v11_1 W =>
  stb PR [(15, true, (Instr.loadAt T_rostrumlaw9_Act v99), v100), (3, true, (Instr.loadAt T_rostrumlaw9_Act v87), v88)] (fun W =>
  efK PR (Instr.alloc T_rostrumlaw9_Act true (.tuple #[])) (fun v10_1 W =>
  stb PR [(15, true, (Instr.loadAt T_rostrumlaw9_Act v99), v100), (3, true, (Instr.loadAt T_rostrumlaw9_Act v87), v88)] (fun W =>
  efK PR (Instr.storeAt T_rostrumlaw9_Act v10_1 v88) (fun _ W =>
  stb PR [(15, true, (Instr.loadAt T_rostrumlaw9_Act v99), v100)] (fun W =>
  efK PR (Instr.storeAt T_rostrumlaw9_Act v11_1 v100) (fun _ W =>
  J4 [x0, x1, x5, x6, x9, v10_1, v11_1] W) W) W) W) W) W) W) W)) W) (tick W)))) (
  J2 [x5, x6] W)
def S.rostrumlaw9_OrsetOrder.j1 (R : Value → World → Prop) (x0 x1 x5 x6 : Value) (W : World) : Prop :=
  joinK (fun s W => S.rostrumlaw9_OrsetOrder.j2 R (nthv s 0) (nthv s 1) W) (fun J2 =>
  loopK (fun K1 s W => S.rostrumlaw9_OrsetOrder.l1 J2 K1 (nthv s 0) (nthv s 1) (nthv s 2) (nthv s 3) (nthv s 4) W) [x0, x1, x5, x6, (.int .i64 0)] W)
def S.rostrumlaw9_OrsetOrder.j6 (K2 : List Value → World → Prop) (x0 x1 x5 x6 x7 : Value) (W : World) : Prop :=
  okF (binP .add x7 (.int .i64 1)) fun v33 =>
  K2 [x0, x1, x5, x6, v33] W
def S.rostrumlaw9_OrsetOrder.l3 (R : Value → World → Prop) (J6 : List Value → World → Prop) (K3 : List Value → World → Prop) (x0 x1 x5 x6 x7 x8 : Value) (W : World) : Prop :=
  okF (binP .lss x8 x7) fun v36 =>
  ifK v36 (
  okF (idxS 11 x0 x7) fun v41 =>
  okF (addrF 0 v41) fun v42 =>
  rdK PR (Instr.loadAt T_int v42) (fun v43 W =>
  okF (binP .eql v43 (.int .i64 0)) fun v44 =>
  gdK (wantd v44 true) (fun k W => k x0 W) (fun v46 W =>
  gdK (wantd v44 true) (fun k W => k x8 W) (fun v47 W =>
  gdK (wantd v44 true) (fun k W => okF (idxS 11 v46 v47) fun v => k v W) (fun v48 W =>
  gdK (wantd v44 true) (fun k W => okF (addrF 0 v48) fun v => k v W) (fun v49 W =>
  gdK (wantd v44 true) (fun k W => rdK PR (Instr.loadAt T_int v49) k W) (fun v50 W =>
  gdK (wantd v44 true) (fun k W => okF (binP .eql v50 (.int .i64 0)) fun v => k v W) (fun v51 W =>
  okF (pickP v44 v51 (.bool false)) fun v52 =>
  gdK (wantd v52 true) (fun k W => k x0 W) (fun v54 W =>
  gdK (wantd v52 true) (fun k W => k x7 W) (fun v55 W =>
  gdK (wantd v52 true) (fun k W => okF (idxS 11 v54 v55) fun v => k v W) (fun v56 W =>
  gdK (wantd v52 true) (fun k W => okF (addrF 1 v56) fun v => k v W) (fun v57 W =>
  gdK (wantd v52 true) (fun k W => rdK PR (Instr.loadAt T_api_Dot v57) k W) (fun v58 W =>
  gdK (wantd v52 true) (fun k W => k x0 W) (fun v59 W =>
  gdK (wantd v52 true) (fun k W => k x8 W) (fun v60 W =>
  gdK (wantd v52 true) (fun k W => okF (idxS 11 v59 v60) fun v => k v W) (fun v61 W =>
  gdK (wantd v52 true) (fun k W => okF (addrF 1 v61) fun v => k v W) (fun v62 W =>
  gdK (wantd v52 true) (fun k W => rdK PR (Instr.loadAt T_api_Dot v62) k W) (fun v63 W =>
  gdK (wantd v52 true) (fun k W => rdK PR (aggEq .eql T_api_Dot v58 v63) k W) (fun v64 W =>
  okF (pickP v52 v64 (.bool false)) fun v65 =>
  gdK (wantd v65 true) (fun k W => k x0 W) (fun v67 W =>
  gdK (wantd v65 true) (fun k W => k x7 W) (fun v68 W =>
  gdK (wantd v65 true) (fun k W => okF (idxS 11 v67 v68) fun v => k v W) (fun v69 W =>
  gdK (wantd v65 true) (fun k W => okF (addrF 3 v69) fun v => k v W) (fun v70 W =>
  gdK (wantd v65 true) (fun k W => rdK PR (Instr.loadAt T_string v70) k W) (fun v71 W =>
  gdK (wantd v65 true) (fun k W => k x0 W) (fun v72 W =>
  gdK (wantd v65 true) (fun k W => k x8 W) (fun v73 W =>
  gdK (wantd v65 true) (fun k W => okF (idxS 11 v72 v73) fun v => k v W) (fun v74 W =>
  gdK (wantd v65 true) (fun k W => okF (addrF 3 v74) fun v => k v W) (fun v75 W =>
  gdK (wantd v65 true) (fun k W => rdK PR (Instr.loadAt T_string v75) k W) (fun v76 W =>
  gdK (wantd v65 true) (fun k W => okF (binP .neq v71 v76) fun v => k v W) (fun v77 W =>
  okF (pickP v65 v77 (.bool false)) fun v78 =>
  ifK v78 (
  R (.bool true) W) (
  okF (binP .add x8 (.int .i64 1)) fun v38 =>
  K3 [x0, x1, x5, x6, x7, v38] W)) W) W) W) W) W) W) W) W) W) W) W) W) W) W) W) W) W) W) W) W) W) W) W) W) W) W) W) W) (tick W)) (
  J6 [x0, x1, x5, x6, x7] W)
def S.rostrumlaw9_OrsetOrder.l2 (R : Value → World → Prop) (J1 : List Value → World → Prop) (K2 : List Value → World → Prop) (x0 x1 x5 x6 x7 : Value) (W : World) : Prop :=
  okF (lenP (.slice T_rostrumlaw9_Act) x0) fun v30 =>
  okF (binP .lss x7 v30) fun v31 =>
  ifK v31 (
  joinK (fun s W => S.rostrumlaw9_OrsetOrder.j6 K2 (nthv s 0) (nthv s 1) (nthv s 2) (nthv s 3) (nthv s 4) W) (fun J6 =>
  loopK (fun K3 s W => S.rostrumlaw9_OrsetOrder.l3 R J6 K3 (nthv s 0) (nthv s 1) (nthv s 2) (nthv s 3) (nthv s 4) (nthv s 5) W) [x0, x1, x5, x6, x7, (.int .i64 0)] W)) (
  J1 [x0, x1, x5, x6] W)
def S.rostrumlaw9_OrsetOrder.body (R : Value → World → Prop) (v0 v1 : Value) (W : World) : Prop :=
  callK PR F_rostrumlaw9_awake [] (fun v12 W =>
  okF (unP .not v12) fun v13 =>
  ifK v13 (
  R (.bool false) W) (
  okF (lenP (.slice T_rostrumlaw9_Act) v0) fun v15 =>
  okF (binP .lss v15 (.int .i64 1)) fun v16 =>
  gdK (wantd v16 false) (fun k W => k v0 W) (fun v18 W =>
  gdK (wantd v16 false) (fun k W => okF (lenP (.slice T_rostrumlaw9_Act) v18) fun v => k v W) (fun v19 W =>
  gdK (wantd v16 false) (fun k W => okF (binP .gtr v19 (.int .i64 40)) fun v => k v W) (fun v20 W =>
  okF (pickP v16 (.bool true) v20) fun v21 =>
  gdK (wantd v21 false) (fun k W => k v1 W) (fun v23 W =>
  gdK (wantd v21 false) (fun k W => okF (binP .lss v23 (.int .i64 0)) fun v => k v W) (fun v24 W =>
  okF (pickP v21 (.bool true) v24) fun v25 =>
  ifK v25 (
  R (.bool true) W) (
  callK PR F_orset_New [] (fun v26 W =>
  callK PR F_orset_New [] (fun v27 W =>
  joinK (fun s W => S.rostrumlaw9_OrsetOrder.j1 R (nthv s 0) (nthv s 1) (nthv s 2) (nthv s 3) W) (fun J1 =>
  loopK (fun K2 s W => S.rostrumlaw9_OrsetOrder.l2 R J1 K2 (nthv s 0) (nthv s 1) (nthv s 2) (nthv s 3) (nthv s 4) W) [v0, v1, v26, v27, (.int .i64 0)] W)) W) W)) W) W) W) W) W)) W
def S.rostrumlaw9_OrsetOrder.hint : Hint := (.two .nil (.two (.two .nil (.two (.two .nil .nil) .nil)) (.two (.two .nil (.two (.two .nil .nil) .nil)) (.two .nil (.at [0, 1, 5, 6] (.two .nil (.at [0, 1, 5, 6, 7] (.two (.two .nil (.two .nil .nil)) (.at [0, 1, 5, 6, 7] (.two .nil (.at [0, 1, 5, 6, 7, 8] (.two (.two .nil (.two .nil .nil)) (.two (.two .nil (.two (.two .nil .nil) .nil)) .nil)) .nil)) .nil)) .nil)) (.at [5, 6] (.two .nil (.at [0, 1, 5, 6, 9] (.two (.two .nil (.two .nil .nil)) (.at [0, 1, 5, 6, 9] (.at [0, 1, 5, 6, 9, 10, 11] .nil (.at [0, 1, 5, 6, 9, 11] (.two .nil (.two .nil .nil)) (.two .nil (.two (.two .nil .nil) .nil)))) .nil)) .nil)) (.two .nil .nil)))))))
theorem S.rostrumlaw9_OrsetOrder.ok (R : Value → World → Prop) (v0 v1 : Value) (W : World) : bodyK PR CB Try.f7 S.rostrumlaw9_OrsetOrder.hint [v0, v1] R W = S.rostrumlaw9_OrsetOrder.body R v0 v1 W := by kernel_rfl
theorem S.rostrumlaw9_OrsetOrder.fn : PR.funcs[F_rostrumlaw9_OrsetOrder]? = some Try.f7 := by kernel_rfl
theorem S.rostrumlaw9_OrsetOrder.call {R : Value → World → Prop} {v0 v1 : Value} {W : World} (h : S.rostrumlaw9_OrsetOrder.body R v0 v1 W) : callK PR F_rostrumlaw9_OrsetOrder [v0, v1] R W :=
  callK_of_body (g := F_rostrumlaw9_OrsetOrder) (fn := Try.f7) (args := [v0, v1]) (R := R) (w := W) mixed CBok S.rostrumlaw9_OrsetOrder.fn S.rostrumlaw9_OrsetOrder.hint (by rw [S.rostrumlaw9_OrsetOrder.ok]; exact h)
/-! ### rostrum/rostrumlaw9.OrsetCopy (8) -/
def S.rostrumlaw9_OrsetCopy.j1 (R : Value → World → Prop) (x3 x5 : Value) (W : World) : Prop :=
  callK PR F_orset_Set_Put [x5, (.slice none 0 0)] (fun v52 W =>
  rdK PR (convert T_s_uint8 T_string v52) (fun v53 W =>
  callK PR F_orset_Set_Copy [x5] (fun v55 W =>
  callK PR F_orset_Same [x5, v55] (fun v58 W =>
  okF (unP .not v58) fun v59 =>
  gdK (wantd v59 false) (fun k W => k v55 W) (fun v61 W =>
  gdK (wantd v59 false) (fun k W => okF (addrF 1 x3) fun v => k v W) (fun v62 W =>
  gdK (wantd v59 false) (fun k W => rdK PR (Instr.loadAt T_api_Dot v62) k W) (fun v63 W =>
  gdK (wantd v59 false) (fun k W => okF (addrF 3 x3) fun v => k v W) (fun v64 W =>
  gdK (wantd v59 false) (fun k W => rdK PR (Instr.loadAt T_string v64) k W) (fun v65 W =>
  gdK (wantd v59 false) (fun k W => k x5 W) (fun v67 W =>
  gdK (wantd v59 false) (fun k W => okF (addrF 1 x3) fun v => k v W) (fun v69 W =>
  gdK (wantd v59 false) (fun k W => rdK PR (Instr.loadAt T_api_Dot v69) k W) (fun v70 W =>
  gdK (wantd v59 false) (fun k W => okF (addrF 3 x3) fun v => k v W) (fun v71 W =>
  gdK (wantd v59 false) (fun k W => rdK PR (Instr.loadAt T_string v71) k W) (fun v72 W =>
  gdK (wantd v59 false) (fun k W => callK PR F_orset_Set_Add [v61, v63, v65] (fun v W => stb PR [(16, (wantd v59 false), (Instr.loadAt T_string v71), v72), (14, (wantd v59 false), (Instr.loadAt T_api_Dot v69), v70)] (fun W => k v W) W) W) (fun v66 W =>
  gdK (wantd v59 false) (fun k W => callK PR F_orset_Set_Copy [v67] (fun v W => stb PR [(16, (wantd v59 false), (Instr.loadAt T_string v71), v72), (14, (wantd v59 false), (Instr.loadAt T_api_Dot v69), v70)] (fun W => k v W) W) W) (fun v68 W =>
  gdK (wantd v59 false) (fun k W => callK PR F_orset_Set_Add [v68, v70, v72] k W) (fun v73 W =>
  gdK (wantd v59 false) (fun k W => okF (binP .neq v66 v73) fun v => k v W) (fun v74 W =>
  okF (pickP v59 (.bool true) v74) fun v75 =>
  ifK v75 (
  R (.bool false) W) (
  okF (addrF 3 x3) fun v77 =>
  rdK PR (Instr.loadAt T_string v77) (fun v78 W =>
  okF (addrF 4 x3) fun v79 =>
  rdK PR (Instr.loadAt T_vec_Vec v79) (fun v80 W =>
  callK PR F_orset_Set_Remove [v55, v78, v80] (fun v81 W =>
  callK PR F_orset_Set_Put [x5, (.slice none 0 0)] (fun v83 W =>
  rdK PR (convert T_s_uint8 T_string v83) (fun v84 W =>
  okF (binP .eql v84 v53) fun v86 =>
  R v86 W) W) W) W) W) W)) W) W) W) W) W) W) W) W) W) W) W) W) W) W) (tick W)) W) W) W
def S.rostrumlaw9_OrsetCopy.j2 (K1 : List Value → World → Prop) (x0 x3 x5 x6 : Value) (W : World) : Prop :=
  okF (binP .add x6 (.int .i64 1)) fun v20 =>
  K1 [x0, x3, x5, v20] W
def S.rostrumlaw9_OrsetCopy.l1 (J1 : List Value → World → Prop) (K1 : List Value → World → Prop) (x0 x3 x5 x6 : Value) (W : World) : Prop :=
  okF (lenP (.slice T_rostrumlaw9_Act) x0) fun v17 =>
  okF (binP .lss x6 v17) fun v18 =>
  ifK v18 (
  joinK (fun s W => S.rostrumlaw9_OrsetCopy.j2 K1 (nthv s 0) (nthv s 1) (nthv s 2) (nthv s 3) W) (fun J2 =>
  okF (idxS 11 x0 x6) fun v23 =>
  okF (addrF 0 v23) fun v24 =>
  rdK PR (Instr.loadAt T_int v24) (fun v25 W =>
  okF (binP .eql v25 (.int .i64 0)) fun v26 =>
  ifK v26 (
  okF (idxS 11 x0 x6) fun v30 =>
  okF (addrF 1 v30) fun v31 =>
  rdK PR (Instr.loadAt T_api_Dot v31) (fun v32 W =>
  okF (idxS 11 x0 x6) fun v35 =>
  okF (addrF 3 v35) fun v36 =>
  rdK PR (Instr.loadAt T_string v36) (fun v37 W =>
  callK PR F_orset_Set_Add [x5, v32, v37] (fun v38 W =>
  J2 [x0, x3, x5, x6] W) W) W) (tick W)) (
  okF (idxS 11 x0 x6) fun v42 =>
  okF (addrF 3 v42) fun v43 =>
  rdK PR (Instr.loadAt T_string v43) (fun v44 W =>
  okF (idxS 11 x0 x6) fun v47 =>
  okF (addrF 4 v47) fun v48 =>
  rdK PR (Instr.loadAt T_vec_Vec v48) (fun v49 W =>
  callK PR F_orset_Set_Remove [x5, v44, v49] (fun v50 W =>
  J2 [x0, x3, x5, x6] W) W) W) (tick W))) W)) (
  J1 [x3, x5] W)
def S.rostrumlaw9_OrsetCopy.body (R : Value → World → Prop) (v0 v1 : Value) (W : World) : Prop :=
  efK PR (Instr.box T_rostrumlaw9_Act v1) (fun v3 W =>
  callK PR F_rostrumlaw9_awake [] (fun v9 W =>
  okF (unP .not v9) fun v10 =>
  ifK v10 (
  R (.bool false) W) (
  okF (lenP (.slice T_rostrumlaw9_Act) v0) fun v12 =>
  okF (binP .gtr v12 (.int .i64 30)) fun v13 =>
  ifK v13 (
  R (.bool true) W) (
  callK PR F_orset_New [] (fun v14 W =>
  joinK (fun s W => S.rostrumlaw9_OrsetCopy.j1 R (nthv s 0) (nthv s 1) W) (fun J1 =>
  loopK (fun K1 s W => S.rostrumlaw9_OrsetCopy.l1 J1 K1 (nthv s 0) (nthv s 1) (nthv s 2) (nthv s 3) W) [v0, v3, v14, (.int .i64 0)] W)) W))) W) W
def S.rostrumlaw9_OrsetCopy.hint : Hint := (.two .nil (.two (.two .nil (.two (.two .nil .nil) .nil)) (.two (.two .nil (.two (.two .nil .nil) .nil)) (.two .nil (.at [3, 5] (.two .nil (.at [0, 3, 5, 6] (.two (.two .nil (.two .nil .nil)) (.at [0, 3, 5, 6] (.two .nil (.two .nil .nil)) .nil)) .nil)) (.two .nil (.two .nil (.two (.two .nil (.two (.two .nil .nil) .nil)) (.two .nil (.two .nil .nil))))))))))
theorem S.rostrumlaw9_OrsetCopy.ok (R : Value → World → Prop) (v0 v1 : Value) (W : World) : bodyK PR CB Try.f8 S.rostrumlaw9_OrsetCopy.hint [v0, v1] R W = S.rostrumlaw9_OrsetCopy.body R v0 v1 W := by kernel_rfl
theorem S.rostrumlaw9_OrsetCopy.fn : PR.funcs[F_rostrumlaw9_OrsetCopy]? = some Try.f8 := by kernel_rfl
theorem S.rostrumlaw9_OrsetCopy.call {R : Value → World → Prop} {v0 v1 : Value} {W : World} (h : S.rostrumlaw9_OrsetCopy.body R v0 v1 W) : callK PR F_rostrumlaw9_OrsetCopy [v0, v1] R W :=
  callK_of_body (g := F_rostrumlaw9_OrsetCopy) (fn := Try.f8) (args := [v0, v1]) (R := R) (w := W) mixed CBok S.rostrumlaw9_OrsetCopy.fn S.rostrumlaw9_OrsetCopy.hint (by rw [S.rostrumlaw9_OrsetCopy.ok]; exact h)
/-! ### rostrum/rostrumlaw9.awake (9) -/
def S.rostrumlaw9_awake.body (R : Value → World → Prop) (W : World) : Prop :=
  callK PR F_orset_New [] (fun v5 W =>
  okF (eqP (.pointer T_orset_Set) .eql v5 (.pointer none)) fun v7 =>
  ifK v7 (
  R (.bool false) W) (
  okF (bldP (fun i => ([(0, 1), (1, 1)] : List (Nat × Nat))[i]?) [.int .i64 0, .int .i64 0] [(1, (.int .i64 1))]) fun v9 =>
  callK PR F_orset_Set_Add [v5, v9, (.string ⟨#[120]⟩)] (fun v10 W =>
  okF (bldP (fun i => some (i * 1, 1)) [.int .i64 0, .int .i64 0, .int .i64 0, .int .i64 0, .int .i64 0, .int .i64 0, .int .i64 0] [(0, (.int .i64 1))]) fun v12 =>
  callK PR F_orset_Set_Remove [v5, (.string ⟨#[120]⟩), v12] (fun v13 W =>
  okF (bldP (fun i => ([(0, 1), (1, 1)] : List (Nat × Nat))[i]?) [.int .i64 0, .int .i64 0] [(0, (.int .i64 1)), (1, (.int .i64 1))]) fun v15 =>
  callK PR F_orset_Set_Add [v5, v15, (.string ⟨#[120]⟩)] (fun v16 W =>
  okF (binP .eql v10 (.int .i64 0)) fun v18 =>
  gdK (wantd v18 true) (fun k W => k v13 W) (fun v20 W =>
  gdK (wantd v18 true) (fun k W => okF (binP .eql v20 (.int .i64 0)) fun v => k v W) (fun v21 W =>
  okF (pickP v18 v21 (.bool false)) fun v22 =>
  gdK (wantd v22 true) (fun k W => k v16 W) (fun v24 W =>
  gdK (wantd v22 true) (fun k W => okF (binP .eql v24 (.int .i64 0)) fun v => k v W) (fun v25 W =>
  okF (pickP v22 v25 (.bool false)) fun v26 =>
  gdK (wantd v26 true) (fun k W => k v5 W) (fun v28 W =>
  gdK (wantd v26 true) (fun k W => callK PR F_orset_Set_Has [v28, (.string ⟨#[120]⟩)] k W) (fun v29 W =>
  okF (pickP v26 v29 (.bool false)) fun v30 =>
  gdK (wantd v30 true) (fun k W => k v5 W) (fun v32 W =>
  gdK (wantd v30 true) (fun k W => callK PR F_orset_Set_All [v32] k W) (fun v33 W =>
  gdK (wantd v30 true) (fun k W => efK PR (Instr.buildSlice T_s_string 1 #[(0, (.string ⟨#[120]⟩))]) k W) (fun v34 W =>
  gdK (wantd v30 true) (fun k W => callK PR F_rostrumlaw9_texts [v33, v34] k W) (fun v35 W =>
  okF (pickP v30 v35 (.bool false)) fun v36 =>
  gdK (wantd v36 true) (fun k W => k v5 W) (fun v38 W =>
  gdK (wantd v36 true) (fun k W => callK PR F_orset_Set_Dots [v38, (.string ⟨#[120]⟩)] k W) (fun v39 W =>
  gdK (wantd v36 true) (fun k W => okF (bldP (fun i => ([(0, 1), (1, 1)] : List (Nat × Nat))[i]?) [.int .i64 0, .int .i64 0] [(0, (.int .i64 1)), (1, (.int .i64 1))]) fun v => k v W) (fun v40 W =>
  gdK (wantd v36 true) (fun k W => efK PR (Instr.buildSlice T_s_api_Dot 1 #[(0, v40)]) k W) (fun v41 W =>
  gdK (wantd v36 true) (fun k W => callK PR F_rostrumlaw9_dots [v39, v41] k W) (fun v42 W =>
  okF (pickP v36 v42 (.bool false)) fun v43 =>
  R v43 W) W) W) W) W) W) W) W) W) W) W) W) W) W) W) W) W) W) W)) W
def S.rostrumlaw9_awake.hint : Hint := (.two .nil (.two .nil (.two (.two .nil (.two (.two .nil .nil) .nil)) (.two .nil (.two .nil .nil)))))
theorem S.rostrumlaw9_awake.ok (R : Value → World → Prop) (W : World) : bodyK PR CB Try.f9 S.rostrumlaw9_awake.hint [] R W = S.rostrumlaw9_awake.body R  W := by kernel_rfl
theorem S.rostrumlaw9_awake.fn : PR.funcs[F_rostrumlaw9_awake]? = some Try.f9 := by kernel_rfl
theorem S.rostrumlaw9_awake.call {R : Value → World → Prop} {W : World} (h : S.rostrumlaw9_awake.body R  W) : callK PR F_rostrumlaw9_awake [] R W :=
  callK_of_body (g := F_rostrumlaw9_awake) (fn := Try.f9) (args := []) (R := R) (w := W) mixed CBok S.rostrumlaw9_awake.fn S.rostrumlaw9_awake.hint (by rw [S.rostrumlaw9_awake.ok]; exact h)
end Go.Proofs.Ytmojfpaagokckaa
