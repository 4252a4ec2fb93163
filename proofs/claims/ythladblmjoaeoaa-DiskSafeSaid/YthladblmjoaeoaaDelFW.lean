/- slices.IndexFunc, slices.DeleteFunc at disk_write_disk_write. -/
import Derived.Test.YthladblmjoaeoaaTyp
import Derived.Test.YthladblmjoaeoaaShDelW
import Derived.Test.YthladblmjoaeoaaSl5
import Derived.Test.YthladblmjoaeoaaBit
namespace Go.Proofs.Ythladblmjoaeoaa
set_option linter.unusedVariables false
set_option linter.unusedSimpArgs false
open Go Go.Eng
section
variable {W0 W : World} {L L' : List Asn} {α : Type} {A : Ly α} {C : Asn} {fv : Value} {p : α → Bool}
theorem indexFunc_disk_write_disk_write {a : Option Addr} {c : Nat} {l : List α} {k : Value → World → Prop} (hs : A.sz = 3) (h : St W0 (C :: L) W) [hr : Rd W0 L a A l] (hp : PredF PR A true C fv p) (hl : l.length < 4611686018427387904)
    (hk : ∀ W', St W0 (C :: L) W' → k (.int .i64 (match l.findIdx? p with | some i => (i : Int) | none => -1)) W') : callK PR F_slices_IndexFunc_disk_write_disk_write [.slice a l.length c, fv] k W := by
  apply S.slices_IndexFunc_disk_write_disk_write.call
  unfold S.slices_IndexFunc_disk_write_disk_write.body
  simp -implicitDefEqProofs only [okF_some, gdK_true, gdK_false, wantd_t, wantd_f, wantd_undef, ifK_true, ifK_false, pickP_true, pickP_false, beq_self_eq_true, Bool.not_true, Bool.not_false, decide_true, decide_false, binP_add, binP_sub, binP_mul, binP_eql, binP_neq, binP_lss, binP_leq, binP_gtr, binP_geq, binP_and, binP_or, binP_xor, binP_andNot, binPs_eql, binPs_neq, baB, intB, unP_neg, unP_not, cvtP_int, cvtP_string, lenP_string, lenP_slice, lenP_array, capP_slice, addrF_blk, nilP_ptr, extP_0, extP_1, extP_2, extP_3, eqP_nilptr, neP_nilptr, eqP_nilsl, neP_nilsl, eqP_bool, neP_bool, Nat.zero_add, Nat.add_zero, lsub, lget, stL, vcells_agg, vcells_int, vcells_bool, vcells_string, vcells_slice, vcells_pointer, nthv_zero, nthv_succ, ne_eq, if_true, if_false, Bool.true_and, Bool.false_and, Bool.and_true, Bool.and_false, Bool.true_or, Bool.false_or, Bool.or_true, Bool.or_false, Bool.false_eq_true, Int.lt_irrefl, List.cons_append, List.nil_append, Option.isNone_some, Option.isNone_none, and_self, true_and, not_true_eq_false, not_false_eq_true]
  refine loop_c (σ := Unit) l.length (fun i _ => [.slice a l.length c, fv, .int .i64 l.length, .int .i64 i]) (fun i _ W1 => (∀ j, (hj : j < l.length) → j < i → p l[j] = false) ∧ St W0 (C :: L) W1) () rfl ⟨fun j _ h => by omega, h⟩ ?_
  clear h
  rintro K i _ W1 hi ⟨hno, h⟩ hK
  simp -implicitDefEqProofs only [okF_some, gdK_true, gdK_false, wantd_t, wantd_f, wantd_undef, ifK_true, ifK_false, pickP_true, pickP_false, beq_self_eq_true, Bool.not_true, Bool.not_false, decide_true, decide_false, binP_add, binP_sub, binP_mul, binP_eql, binP_neq, binP_lss, binP_leq, binP_gtr, binP_geq, binP_and, binP_or, binP_xor, binP_andNot, binPs_eql, binPs_neq, baB, intB, unP_neg, unP_not, cvtP_int, cvtP_string, lenP_string, lenP_slice, lenP_array, capP_slice, addrF_blk, nilP_ptr, extP_0, extP_1, extP_2, extP_3, eqP_nilptr, neP_nilptr, eqP_nilsl, neP_nilsl, eqP_bool, neP_bool, Nat.zero_add, Nat.add_zero, lsub, lget, stL, vcells_agg, vcells_int, vcells_bool, vcells_string, vcells_slice, vcells_pointer, nthv_zero, nthv_succ, ne_eq, if_true, if_false, Bool.true_and, Bool.false_and, Bool.and_true, Bool.and_false, Bool.true_or, Bool.false_or, Bool.or_true, Bool.or_false, Bool.false_eq_true, Int.lt_irrefl, List.cons_append, List.nil_append, Option.isNone_some, Option.isNone_none, and_self, true_and, not_true_eq_false, not_false_eq_true]
  unfold S.slices_IndexFunc_disk_write_disk_write.l1
  simp -implicitDefEqProofs only [okF_some, gdK_true, gdK_false, wantd_t, wantd_f, wantd_undef, ifK_true, ifK_false, pickP_true, pickP_false, beq_self_eq_true, Bool.not_true, Bool.not_false, decide_true, decide_false, binP_add, binP_sub, binP_mul, binP_eql, binP_neq, binP_lss, binP_leq, binP_gtr, binP_geq, binP_and, binP_or, binP_xor, binP_andNot, binPs_eql, binPs_neq, baB, intB, unP_neg, unP_not, cvtP_int, cvtP_string, lenP_string, lenP_slice, lenP_array, capP_slice, addrF_blk, nilP_ptr, extP_0, extP_1, extP_2, extP_3, eqP_nilptr, neP_nilptr, eqP_nilsl, neP_nilsl, eqP_bool, neP_bool, Nat.zero_add, Nat.add_zero, lsub, lget, stL, vcells_agg, vcells_int, vcells_bool, vcells_string, vcells_slice, vcells_pointer, nthv_zero, nthv_succ, ne_eq, if_true, if_false, Bool.true_and, Bool.false_and, Bool.and_true, Bool.and_false, Bool.true_or, Bool.false_or, Bool.or_true, Bool.or_false, Bool.false_eq_true, Int.lt_irrefl, List.cons_append, List.nil_append, Option.isNone_some, Option.isNone_none, and_self, true_and, not_true_eq_false, not_false_eq_true]
  refine ifK_d (fun hlt => ?_) (fun hge => ?_)
  · have hib : i < l.length := by omega
    refine ixA (i := i) (a := a) (l := l) (A := A) (by first | assumption | exact St.tick (by assumption) | exact St.tick (St.tick (by assumption))) hs rfl hib fun g o ha => ?_
    cases ha
    refine ldA0 (l := l) (A := A) (by first | assumption | exact St.tick (by assumption) | exact St.tick (St.tick (by assumption))) hs hib (getL_val hs (by decide) _) (by simp) ?_
    refine hp W0 L l[i] W1 _ h fun W2 h => ?_
    cases hpx : p l[i] with
    | true =>
      simp -implicitDefEqProofs only [okF_some, gdK_true, gdK_false, wantd_t, wantd_f, wantd_undef, ifK_true, ifK_false, pickP_true, pickP_false, beq_self_eq_true, Bool.not_true, Bool.not_false, decide_true, decide_false, binP_add, binP_sub, binP_mul, binP_eql, binP_neq, binP_lss, binP_leq, binP_gtr, binP_geq, binP_and, binP_or, binP_xor, binP_andNot, binPs_eql, binPs_neq, baB, intB, unP_neg, unP_not, cvtP_int, cvtP_string, lenP_string, lenP_slice, lenP_array, capP_slice, addrF_blk, nilP_ptr, extP_0, extP_1, extP_2, extP_3, eqP_nilptr, neP_nilptr, eqP_nilsl, neP_nilsl, eqP_bool, neP_bool, Nat.zero_add, Nat.add_zero, lsub, lget, stL, vcells_agg, vcells_int, vcells_bool, vcells_string, vcells_slice, vcells_pointer, nthv_zero, nthv_succ, ne_eq, if_true, if_false, Bool.true_and, Bool.false_and, Bool.and_true, Bool.and_false, Bool.true_or, Bool.false_or, Bool.or_true, Bool.or_false, Bool.false_eq_true, Int.lt_irrefl, List.cons_append, List.nil_append, Option.isNone_some, Option.isNone_none, and_self, true_and, not_true_eq_false, not_false_eq_true]
      have : l.findIdx? p = some i := by
        rw [List.findIdx?_eq_some_iff_getElem]
        exact ⟨hib, hpx, fun j hj => by rw [hno j (by omega) hj]; simp⟩
      rw [this] at hk
      exact hk _ h
    | false =>
      have ew : IntKind.i64.wrap ((i : Int) + 1) = ((i + 1 : Nat) : Int) := by rw [i64w]; omega
      simp -implicitDefEqProofs only [okF_some, gdK_true, gdK_false, wantd_t, wantd_f, wantd_undef, ifK_true, ifK_false, pickP_true, pickP_false, beq_self_eq_true, Bool.not_true, Bool.not_false, decide_true, decide_false, binP_add, binP_sub, binP_mul, binP_eql, binP_neq, binP_lss, binP_leq, binP_gtr, binP_geq, binP_and, binP_or, binP_xor, binP_andNot, binPs_eql, binPs_neq, baB, intB, unP_neg, unP_not, cvtP_int, cvtP_string, lenP_string, lenP_slice, lenP_array, capP_slice, addrF_blk, nilP_ptr, extP_0, extP_1, extP_2, extP_3, eqP_nilptr, neP_nilptr, eqP_nilsl, neP_nilsl, eqP_bool, neP_bool, Nat.zero_add, Nat.add_zero, lsub, lget, stL, vcells_agg, vcells_int, vcells_bool, vcells_string, vcells_slice, vcells_pointer, nthv_zero, nthv_succ, ne_eq, if_true, if_false, Bool.true_and, Bool.false_and, Bool.and_true, Bool.and_false, Bool.true_or, Bool.false_or, Bool.or_true, Bool.or_false, Bool.false_eq_true, Int.lt_irrefl, List.cons_append, List.nil_append, Option.isNone_some, Option.isNone_none, and_self, true_and, not_true_eq_false, not_false_eq_true, ew]
      refine hK () _ hib ⟨fun j hj hji => ?_, h⟩
      by_cases e : j = i
      · subst e; exact hpx
      · exact hno j hj (by omega)
  · have : l.findIdx? p = none := by
      rw [List.findIdx?_eq_none_iff]
      intro x hx
      obtain ⟨j, hj, rfl⟩ := List.getElem_of_mem hx
      exact hno j hj (by omega)
    rw [this] at hk
    exact hk _ h
theorem deleteFunc_disk_write_disk_write {a : Option Addr} {c : Nat} {l : List α} {k : Value → World → Prop} (hs : A.sz = 3) (h : St W0 (C :: arr A T_disk_write a c l :: L) W) (hp : PredF PR A true C fv p) (hl : l.length < 4611686018427387904)
    (hk : ∀ W', St W0 (C :: arr A T_disk_write a c (l.filter (!p ·)) :: L) W' → k (.slice a (l.filter (!p ·)).length c) W') : callK PR F_slices_DeleteFunc_disk_write_disk_write [.slice a l.length c, fv] k W := by
  apply S.slices_DeleteFunc_disk_write_disk_write.call
  unfold S.slices_DeleteFunc_disk_write_disk_write.body
  refine indexFunc_disk_write_disk_write (a := a) (l := l) hs h hp hl fun W1 h => ?_
  cases hf : l.findIdx? p with
  | none =>
    have : l.filter (!p ·) = l := by
      rw [List.filter_eq_self]
      intro x hx
      rw [List.findIdx?_eq_none_iff] at hf
      simp [hf x hx]
    rw [this] at hk
    (repeat (first | (first | with_reducible refine cp (by first | assumption | exact St.tick (by assumption) | exact St.tick (St.tick (by assumption))) fun _ _ => ?_ | ((with_reducible refine cm (by first | assumption | exact St.tick (by assumption) | exact St.tick (St.tick (by assumption))) ?_); try simp -implicitDefEqProofs only [okF_some, gdK_true, gdK_false, wantd_t, wantd_f, wantd_undef, ifK_true, ifK_false, pickP_true, pickP_false, beq_self_eq_true, Bool.not_true, Bool.not_false, decide_true, decide_false, binP_add, binP_sub, binP_mul, binP_eql, binP_neq, binP_lss, binP_leq, binP_gtr, binP_geq, binP_and, binP_or, binP_xor, binP_andNot, binPs_eql, binPs_neq, baB, intB, unP_neg, unP_not, cvtP_int, cvtP_string, lenP_string, lenP_slice, lenP_array, capP_slice, addrF_blk, nilP_ptr, extP_0, extP_1, extP_2, extP_3, eqP_nilptr, neP_nilptr, eqP_nilsl, neP_nilsl, eqP_bool, neP_bool, Nat.zero_add, Nat.add_zero, lsub, lget, stL, vcells_agg, vcells_int, vcells_bool, vcells_string, vcells_slice, vcells_pointer, nthv_zero, nthv_succ, ne_eq, if_true, if_false, Bool.true_and, Bool.false_and, Bool.and_true, Bool.and_false, Bool.true_or, Bool.false_or, Bool.or_true, Bool.or_false, Bool.false_eq_true, Int.lt_irrefl, List.cons_append, List.nil_append, Option.isNone_some, Option.isNone_none, and_self, true_and, not_true_eq_false, not_false_eq_true]; intro _ _) | with_reducible refine bxa (by first | assumption | exact St.tick (by assumption) | exact St.tick (St.tick (by assumption))) fun _ _ _ => ?_ | with_reducible refine bxi (by first | assumption | exact St.tick (by assumption) | exact St.tick (St.tick (by assumption))) fun _ _ _ => ?_ | ((with_reducible refine ldx (by first | assumption | exact St.tick (by assumption) | exact St.tick (St.tick (by assumption))) ?_ ?_); simp; refine ⟨_, rfl, ?_⟩) | ((with_reducible refine ldr0 (by first | assumption | exact St.tick (by assumption) | exact St.tick (St.tick (by assumption))) (by assumption) ?_ ?_); simp; refine ⟨_, rfl, ?_⟩) | ((with_reducible refine ldr (by first | assumption | exact St.tick (by assumption) | exact St.tick (St.tick (by assumption))) (by assumption) ?_ ?_); simp; refine ⟨_, rfl, ?_⟩) | ((with_reducible refine stb_ld (by first | assumption | exact St.tick (by assumption) | exact St.tick (St.tick (by assumption))) ?_ ?_ ?_); exact rfl; simp) | ((with_reducible refine stb_ldr0 (by first | assumption | exact St.tick (by assumption) | exact St.tick (St.tick (by assumption))) (by assumption) ?_ ?_ ?_); exact rfl; simp) | ((with_reducible refine stb_ldr (by first | assumption | exact St.tick (by assumption) | exact St.tick (St.tick (by assumption))) (by assumption) ?_ ?_ ?_); exact rfl; simp) | ((with_reducible refine al (by first | assumption | exact St.tick (by assumption) | exact St.tick (St.tick (by assumption))) fun _ _ _ => ?_)) | ((with_reducible refine sto (by first | assumption | exact St.tick (by assumption) | exact St.tick (St.tick (by assumption))) ?_ ?_ ?_ fun _ _ => ?_); simp; simp; simp [oneC]) | with_reducible refine stb_n ?_ | ((with_reducible refine eqs ?_); refine ⟨_, rfl, ?_⟩) | ((with_reducible refine nes ?_); refine ⟨_, rfl, ?_⟩) | ((refine okF_i (bldP_eq rfl) ?_); try simp only [List.take_succ_cons, List.take_zero, List.drop_succ_cons, List.drop_zero, List.cons_append, List.nil_append, vcells_eq, vcells_agg, vcells_int, vcells_bool, vcells_string, vcells_slice, vcells_pointer, Nat.zero_add, Nat.reduceAdd])) | simp -implicitDefEqProofs only [okF_some, gdK_true, gdK_false, wantd_t, wantd_f, wantd_undef, ifK_true, ifK_false, pickP_true, pickP_false, beq_self_eq_true, Bool.not_true, Bool.not_false, decide_true, decide_false, binP_add, binP_sub, binP_mul, binP_eql, binP_neq, binP_lss, binP_leq, binP_gtr, binP_geq, binP_and, binP_or, binP_xor, binP_andNot, binPs_eql, binPs_neq, baB, intB, unP_neg, unP_not, cvtP_int, cvtP_string, lenP_string, lenP_slice, lenP_array, capP_slice, addrF_blk, nilP_ptr, extP_0, extP_1, extP_2, extP_3, eqP_nilptr, neP_nilptr, eqP_nilsl, neP_nilsl, eqP_bool, neP_bool, Nat.zero_add, Nat.add_zero, lsub, lget, stL, vcells_agg, vcells_int, vcells_bool, vcells_string, vcells_slice, vcells_pointer, nthv_zero, nthv_succ, ne_eq, if_true, if_false, Bool.true_and, Bool.false_and, Bool.and_true, Bool.and_false, Bool.true_or, Bool.false_or, Bool.or_true, Bool.or_false, Bool.false_eq_true, Int.lt_irrefl, List.cons_append, List.nil_append, Option.isNone_some, Option.isNone_none, and_self, true_and, not_true_eq_false, not_false_eq_true]))
    exact hk _ h
  | some i =>
    rw [List.findIdx?_eq_some_iff_getElem] at hf
    obtain ⟨hil, hpi, hno⟩ := hf
    have e1 : decide ((i : Int) = -1) = false := decide_eq_false (by omega)
    have ew : IntKind.i64.wrap ((i : Int) + 1) = ((i + 1 : Nat) : Int) := by rw [i64w]; omega
    simp only []
    simp -implicitDefEqProofs only [okF_some, gdK_true, gdK_false, wantd_t, wantd_f, wantd_undef, ifK_true, ifK_false, pickP_true, pickP_false, beq_self_eq_true, Bool.not_true, Bool.not_false, decide_true, decide_false, binP_add, binP_sub, binP_mul, binP_eql, binP_neq, binP_lss, binP_leq, binP_gtr, binP_geq, binP_and, binP_or, binP_xor, binP_andNot, binPs_eql, binPs_neq, baB, intB, unP_neg, unP_not, cvtP_int, cvtP_string, lenP_string, lenP_slice, lenP_array, capP_slice, addrF_blk, nilP_ptr, extP_0, extP_1, extP_2, extP_3, eqP_nilptr, neP_nilptr, eqP_nilsl, neP_nilsl, eqP_bool, neP_bool, Nat.zero_add, Nat.add_zero, lsub, lget, stL, vcells_agg, vcells_int, vcells_bool, vcells_string, vcells_slice, vcells_pointer, nthv_zero, nthv_succ, ne_eq, if_true, if_false, Bool.true_and, Bool.false_and, Bool.and_true, Bool.and_false, Bool.true_or, Bool.false_or, Bool.or_true, Bool.or_false, Bool.false_eq_true, Int.lt_irrefl, List.cons_append, List.nil_append, Option.isNone_some, Option.isNone_none, and_self, true_and, not_true_eq_false, not_false_eq_true, e1]
    refine joinK_i ?_
    simp -implicitDefEqProofs only [okF_some, gdK_true, gdK_false, wantd_t, wantd_f, wantd_undef, ifK_true, ifK_false, pickP_true, pickP_false, beq_self_eq_true, Bool.not_true, Bool.not_false, decide_true, decide_false, binP_add, binP_sub, binP_mul, binP_eql, binP_neq, binP_lss, binP_leq, binP_gtr, binP_geq, binP_and, binP_or, binP_xor, binP_andNot, binPs_eql, binPs_neq, baB, intB, unP_neg, unP_not, cvtP_int, cvtP_string, lenP_string, lenP_slice, lenP_array, capP_slice, addrF_blk, nilP_ptr, extP_0, extP_1, extP_2, extP_3, eqP_nilptr, neP_nilptr, eqP_nilsl, neP_nilsl, eqP_bool, neP_bool, Nat.zero_add, Nat.add_zero, lsub, lget, stL, vcells_agg, vcells_int, vcells_bool, vcells_string, vcells_slice, vcells_pointer, nthv_zero, nthv_succ, ne_eq, if_true, if_false, Bool.true_and, Bool.false_and, Bool.and_true, Bool.and_false, Bool.true_or, Bool.false_or, Bool.or_true, Bool.or_false, Bool.false_eq_true, Int.lt_irrefl, List.cons_append, List.nil_append, Option.isNone_some, Option.isNone_none, and_self, true_and, not_true_eq_false, not_false_eq_true, ew]
    have hpre : (l.take (i + 1)).filter (!p ·) = l.take i := by
      rw [List.take_succ_eq_append_getElem hil, List.filter_append]
      rw [show (l.take i).filter (!p ·) = l.take i by
        rw [List.filter_eq_self]
        intro x hx
        obtain ⟨j, hj, rfl⟩ := List.getElem_of_mem hx
        simp only [List.length_take] at hj
        rw [List.getElem_take]
        have := hno j (by omega)
        simpa using this]
      simp [hpi]
    refine loop_x (σ := Nat × Nat × List α) (fun x => [.slice a l.length c, fv, .int .i64 x.1, .int .i64 x.2.1])
      (fun x W1 => x.1 < x.2.1 ∧ x.2.1 ≤ l.length ∧ x.2.2.length = l.length ∧ x.2.2.take x.1 = (l.take x.2.1).filter (!p ·) ∧ (∀ j, x.2.1 ≤ j → x.2.2[j]? = l[j]?) ∧ St W0 (C :: arr A T_disk_write a c x.2.2 :: L) W1)
      (fun x => l.length - x.2.1) (i, i + 1, l) rfl ⟨by simp, by simp only; omega, rfl, hpre.symm, fun _ _ => rfl, h⟩ ?_
    clear h hpre
    rintro K ⟨q, j, m⟩ W2 ⟨hqj, hjl, hml, hpre, hsuf, h⟩ hK
    simp only at hqj hjl hml hpre hsuf h hK ⊢
    simp -implicitDefEqProofs only [okF_some, gdK_true, gdK_false, wantd_t, wantd_f, wantd_undef, ifK_true, ifK_false, pickP_true, pickP_false, beq_self_eq_true, Bool.not_true, Bool.not_false, decide_true, decide_false, binP_add, binP_sub, binP_mul, binP_eql, binP_neq, binP_lss, binP_leq, binP_gtr, binP_geq, binP_and, binP_or, binP_xor, binP_andNot, binPs_eql, binPs_neq, baB, intB, unP_neg, unP_not, cvtP_int, cvtP_string, lenP_string, lenP_slice, lenP_array, capP_slice, addrF_blk, nilP_ptr, extP_0, extP_1, extP_2, extP_3, eqP_nilptr, neP_nilptr, eqP_nilsl, neP_nilsl, eqP_bool, neP_bool, Nat.zero_add, Nat.add_zero, lsub, lget, stL, vcells_agg, vcells_int, vcells_bool, vcells_string, vcells_slice, vcells_pointer, nthv_zero, nthv_succ, ne_eq, if_true, if_false, Bool.true_and, Bool.false_and, Bool.and_true, Bool.and_false, Bool.true_or, Bool.false_or, Bool.or_true, Bool.or_false, Bool.false_eq_true, Int.lt_irrefl, List.cons_append, List.nil_append, Option.isNone_some, Option.isNone_none, and_self, true_and, not_true_eq_false, not_false_eq_true]
    unfold S.slices_DeleteFunc_disk_write_disk_write.l1
    simp -implicitDefEqProofs only [okF_some, gdK_true, gdK_false, wantd_t, wantd_f, wantd_undef, ifK_true, ifK_false, pickP_true, pickP_false, beq_self_eq_true, Bool.not_true, Bool.not_false, decide_true, decide_false, binP_add, binP_sub, binP_mul, binP_eql, binP_neq, binP_lss, binP_leq, binP_gtr, binP_geq, binP_and, binP_or, binP_xor, binP_andNot, binPs_eql, binPs_neq, baB, intB, unP_neg, unP_not, cvtP_int, cvtP_string, lenP_string, lenP_slice, lenP_array, capP_slice, addrF_blk, nilP_ptr, extP_0, extP_1, extP_2, extP_3, eqP_nilptr, neP_nilptr, eqP_nilsl, neP_nilsl, eqP_bool, neP_bool, Nat.zero_add, Nat.add_zero, lsub, lget, stL, vcells_agg, vcells_int, vcells_bool, vcells_string, vcells_slice, vcells_pointer, nthv_zero, nthv_succ, ne_eq, if_true, if_false, Bool.true_and, Bool.false_and, Bool.and_true, Bool.and_false, Bool.true_or, Bool.false_or, Bool.or_true, Bool.or_false, Bool.false_eq_true, Int.lt_irrefl, List.cons_append, List.nil_append, Option.isNone_some, Option.isNone_none, and_self, true_and, not_true_eq_false, not_false_eq_true]
    refine ifK_d (fun hlt => ?_) (fun hge => ?_)
    · have hjm : j < m.length := by omega
      have hjb : j < l.length := by omega
      have hmj : m[j] = l[j] := by
        have := hsuf j (Nat.le_refl _)
        rw [List.getElem?_eq_getElem hjm, List.getElem?_eq_getElem hjb] at this
        exact Option.some.inj this
      refine joinK_i ?_
      rw [← hml]
      refine ixA (i := j) (a := a) (l := m) (A := A) (by first | assumption | exact St.tick (by assumption) | exact St.tick (St.tick (by assumption))) hs rfl hjm fun g o ha => ?_
      cases ha
      refine ldA0 (l := m) (A := A) (by first | assumption | exact St.tick (by assumption) | exact St.tick (St.tick (by assumption))) hs hjm (getL_val hs (by decide) _) (by simp) ?_
      rw [hmj]
      have ew : IntKind.i64.wrap ((j : Int) + 1) = ((j + 1 : Nat) : Int) := by rw [i64w]; omega
      have ew2 : IntKind.i64.wrap ((q : Int) + 1) = ((q + 1 : Nat) : Int) := by rw [i64w]; omega
      refine newV (A := A) l[j] h hs (by decide) rfl fun b W3 h => ?_
      refine ldV (A := A) l[j] h hs (by decide) ?_
      refine hp W0 _ l[j] _ _ (h.ent (ent.swap _ _ _)) fun W4 h => ?_
      cases hpx : p l[j] with
      | true =>
        simp -implicitDefEqProofs only [okF_some, gdK_true, gdK_false, wantd_t, wantd_f, wantd_undef, ifK_true, ifK_false, pickP_true, pickP_false, beq_self_eq_true, Bool.not_true, Bool.not_false, decide_true, decide_false, binP_add, binP_sub, binP_mul, binP_eql, binP_neq, binP_lss, binP_leq, binP_gtr, binP_geq, binP_and, binP_or, binP_xor, binP_andNot, binPs_eql, binPs_neq, baB, intB, unP_neg, unP_not, cvtP_int, cvtP_string, lenP_string, lenP_slice, lenP_array, capP_slice, addrF_blk, nilP_ptr, extP_0, extP_1, extP_2, extP_3, eqP_nilptr, neP_nilptr, eqP_nilsl, neP_nilsl, eqP_bool, neP_bool, Nat.zero_add, Nat.add_zero, lsub, lget, stL, vcells_agg, vcells_int, vcells_bool, vcells_string, vcells_slice, vcells_pointer, nthv_zero, nthv_succ, ne_eq, if_true, if_false, Bool.true_and, Bool.false_and, Bool.and_true, Bool.and_false, Bool.true_or, Bool.false_or, Bool.or_true, Bool.or_false, Bool.false_eq_true, Int.lt_irrefl, List.cons_append, List.nil_append, Option.isNone_some, Option.isNone_none, and_self, true_and, not_true_eq_false, not_false_eq_true]
        unfold S.slices_DeleteFunc_disk_write_disk_write.j2
        simp -implicitDefEqProofs only [okF_some, gdK_true, gdK_false, wantd_t, wantd_f, wantd_undef, ifK_true, ifK_false, pickP_true, pickP_false, beq_self_eq_true, Bool.not_true, Bool.not_false, decide_true, decide_false, binP_add, binP_sub, binP_mul, binP_eql, binP_neq, binP_lss, binP_leq, binP_gtr, binP_geq, binP_and, binP_or, binP_xor, binP_andNot, binPs_eql, binPs_neq, baB, intB, unP_neg, unP_not, cvtP_int, cvtP_string, lenP_string, lenP_slice, lenP_array, capP_slice, addrF_blk, nilP_ptr, extP_0, extP_1, extP_2, extP_3, eqP_nilptr, neP_nilptr, eqP_nilsl, neP_nilsl, eqP_bool, neP_bool, Nat.zero_add, Nat.add_zero, lsub, lget, stL, vcells_agg, vcells_int, vcells_bool, vcells_string, vcells_slice, vcells_pointer, nthv_zero, nthv_succ, ne_eq, if_true, if_false, Bool.true_and, Bool.false_and, Bool.and_true, Bool.and_false, Bool.true_or, Bool.false_or, Bool.or_true, Bool.or_false, Bool.false_eq_true, Int.lt_irrefl, List.cons_append, List.nil_append, Option.isNone_some, Option.isNone_none, and_self, true_and, not_true_eq_false, not_false_eq_true, ew]
        rw [hml]
        refine hK (q, j + 1, m) _ (by simp only; omega) ⟨by simp only; omega, by simp only; omega, hml, ?_, fun j' hj' => hsuf j' (by simp only at hj'; omega), h.drop2⟩
        simp only
        rw [hpre, List.take_succ_eq_append_getElem hjb, List.filter_append]
        simp [hpx]
      | false =>
        simp -implicitDefEqProofs only [okF_some, gdK_true, gdK_false, wantd_t, wantd_f, wantd_undef, ifK_true, ifK_false, pickP_true, pickP_false, beq_self_eq_true, Bool.not_true, Bool.not_false, decide_true, decide_false, binP_add, binP_sub, binP_mul, binP_eql, binP_neq, binP_lss, binP_leq, binP_gtr, binP_geq, binP_and, binP_or, binP_xor, binP_andNot, binPs_eql, binPs_neq, baB, intB, unP_neg, unP_not, cvtP_int, cvtP_string, lenP_string, lenP_slice, lenP_array, capP_slice, addrF_blk, nilP_ptr, extP_0, extP_1, extP_2, extP_3, eqP_nilptr, neP_nilptr, eqP_nilsl, neP_nilsl, eqP_bool, neP_bool, Nat.zero_add, Nat.add_zero, lsub, lget, stL, vcells_agg, vcells_int, vcells_bool, vcells_string, vcells_slice, vcells_pointer, nthv_zero, nthv_succ, ne_eq, if_true, if_false, Bool.true_and, Bool.false_and, Bool.and_true, Bool.and_false, Bool.true_or, Bool.false_or, Bool.or_true, Bool.or_false, Bool.false_eq_true, Int.lt_irrefl, List.cons_append, List.nil_append, Option.isNone_some, Option.isNone_none, and_self, true_and, not_true_eq_false, not_false_eq_true]
        refine ldV (A := A) l[j] h hs (by decide) ?_
        refine ixA (i := q) (a := some ⟨g, o, none⟩) (l := m) (A := A) (by first | assumption | exact St.tick (by assumption) | exact St.tick (St.tick (by assumption))) hs rfl (by omega) fun g' o' ha => ?_
        cases ha
        refine stA (g := g) (o := o) (agg := true) (l := m) (A := A) (x := l[j]) (by first | assumption | exact St.tick (by assumption) | exact St.tick (St.tick (by assumption))) hs (by omega) (val_cells hs (by decide) _) fun W3 h => ?_
        simp -implicitDefEqProofs only [okF_some, gdK_true, gdK_false, wantd_t, wantd_f, wantd_undef, ifK_true, ifK_false, pickP_true, pickP_false, beq_self_eq_true, Bool.not_true, Bool.not_false, decide_true, decide_false, binP_add, binP_sub, binP_mul, binP_eql, binP_neq, binP_lss, binP_leq, binP_gtr, binP_geq, binP_and, binP_or, binP_xor, binP_andNot, binPs_eql, binPs_neq, baB, intB, unP_neg, unP_not, cvtP_int, cvtP_string, lenP_string, lenP_slice, lenP_array, capP_slice, addrF_blk, nilP_ptr, extP_0, extP_1, extP_2, extP_3, eqP_nilptr, neP_nilptr, eqP_nilsl, neP_nilsl, eqP_bool, neP_bool, Nat.zero_add, Nat.add_zero, lsub, lget, stL, vcells_agg, vcells_int, vcells_bool, vcells_string, vcells_slice, vcells_pointer, nthv_zero, nthv_succ, ne_eq, if_true, if_false, Bool.true_and, Bool.false_and, Bool.and_true, Bool.and_false, Bool.true_or, Bool.false_or, Bool.or_true, Bool.or_false, Bool.false_eq_true, Int.lt_irrefl, List.cons_append, List.nil_append, Option.isNone_some, Option.isNone_none, and_self, true_and, not_true_eq_false, not_false_eq_true, ew2]
        unfold S.slices_DeleteFunc_disk_write_disk_write.j2
        simp -implicitDefEqProofs only [okF_some, gdK_true, gdK_false, wantd_t, wantd_f, wantd_undef, ifK_true, ifK_false, pickP_true, pickP_false, beq_self_eq_true, Bool.not_true, Bool.not_false, decide_true, decide_false, binP_add, binP_sub, binP_mul, binP_eql, binP_neq, binP_lss, binP_leq, binP_gtr, binP_geq, binP_and, binP_or, binP_xor, binP_andNot, binPs_eql, binPs_neq, baB, intB, unP_neg, unP_not, cvtP_int, cvtP_string, lenP_string, lenP_slice, lenP_array, capP_slice, addrF_blk, nilP_ptr, extP_0, extP_1, extP_2, extP_3, eqP_nilptr, neP_nilptr, eqP_nilsl, neP_nilsl, eqP_bool, neP_bool, Nat.zero_add, Nat.add_zero, lsub, lget, stL, vcells_agg, vcells_int, vcells_bool, vcells_string, vcells_slice, vcells_pointer, nthv_zero, nthv_succ, ne_eq, if_true, if_false, Bool.true_and, Bool.false_and, Bool.and_true, Bool.and_false, Bool.true_or, Bool.false_or, Bool.or_true, Bool.or_false, Bool.false_eq_true, Int.lt_irrefl, List.cons_append, List.nil_append, Option.isNone_some, Option.isNone_none, and_self, true_and, not_true_eq_false, not_false_eq_true, ew]
        rw [hml]
        refine hK (q + 1, j + 1, m.set q l[j]) _ (by simp only; omega) ⟨by simp only; omega, by simp only; omega, by simp [hml], ?_, fun j' hj' => ?_, ?_⟩
        · simp only
          rw [List.take_succ_eq_append_getElem (by rw [List.length_set]; omega), List.take_set_of_le (Nat.le_refl _), hpre, List.take_succ_eq_append_getElem hjb, List.filter_append]
          simp [hpx]
        · simp only at hj' ⊢
          rw [List.getElem?_set_ne (by omega)]
          exact hsuf j' (by omega)
        · exact (h.ent (ent.rot3 _ _ _ _)).drop2
    · unfold S.slices_DeleteFunc_disk_write_disk_write.j1
      have hjn : j = l.length := by omega
      subst hjn
      rw [List.take_length] at hpre
      have hqc : q ≤ c := by have := (h.ent (ent.swap _ _ _)).arrFacts; omega
      refine okF_i (slcS_eq (n := l.length) (c := c) (l := q) (h := l.length) bnd_none (bnd_nat (by omega))) ?_
      refine clrA (a := a) (l := m) (L' := C :: L) (i := q) (A := A) (by first | assumption | exact St.tick (by assumption) | exact St.tick (St.tick (by assumption))) hs rfl (by omega) rfl (by rw [hml]) fun W3 h => ?_
      rw [hpre] at h
      have hql : q = (l.filter (!p ·)).length := by rw [← hpre, List.length_take]; omega
      refine slc_pre (L := C :: L) (A := A) (e := T_disk_write) h hqc ?_
      rw [hql]
      exact hk _ (h.ent (ent.swap _ _ _))
end
end Go.Proofs.Ythladblmjoaeoaa
