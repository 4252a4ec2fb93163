/- The laws of ballot: the walks. -/
import Derived.Test.YtfmidjlgpakilaaCBal2
import Derived.Test.YtfmidjlgpakilaaOpn
namespace Go.Proofs.Ytfmidjlgpakilaa
set_option linter.unusedVariables false
set_option linter.unusedSimpArgs false
open Go Go.Eng

theorem wf64 {n : Int} (h : (Lit.int .i64 n).wf = true) : -9223372036854775808 ≤ n ∧ n ≤ 9223372036854775807 := by
  simp only [Lit.wf, Bool.and_eq_true, decide_eq_true_eq] at h
  exact h
theorem goodBV {W : World} {v : Value} (h : GoodA W [.int .i64, .int .i64] true v) : ∃ n r, v = bv n r ∧ (-9223372036854775808 ≤ n ∧ n ≤ 9223372036854775807) ∧ (-9223372036854775808 ≤ r ∧ r ≤ 9223372036854775807) := by
  obtain ⟨h1, h2, _⟩ := h
  obtain ⟨cs, rfl⟩ := h2 rfl
  rw [vcells_agg] at h1
  obtain ⟨_, _, rfl, h3, h4⟩ := h1.cons'
  obtain ⟨_, _, rfl, h5, h6⟩ := h4.cons'
  obtain rfl := h6.nil'
  obtain ⟨n, rfl, hn⟩ := h3.int'
  obtain ⟨r, rfl, hr⟩ := h5.int'
  exact ⟨n, r, rfl, wf64 hn, wf64 hr⟩
def leB (a b : Int × Int) : Prop := a.1 < b.1 ∨ a.1 = b.1 ∧ a.2 ≤ b.2
theorem cmpB_le (a b : Int × Int) : cmpB a.1 a.2 b.1 b.2 ≤ 0 ↔ leB a b := by
  rw [cmpB_eq]; unfold leB
  repeat' split
  all_goals omega
theorem leB.anti {a b : Int × Int} (h : leB a b) (h' : leB b a) : a = b := by
  unfold leB at *
  exact Prod.ext (by omega) (by omega)
theorem mostB_fold : ∀ (l : List (Int × Int)) (o : Int × Int), (l.foldl (fun o b => if cmpB b.1 b.2 o.1 o.2 > 0 then b else o) o ∈ o :: l) ∧
    ∀ b ∈ o :: l, leB b (l.foldl (fun o b => if cmpB b.1 b.2 o.1 o.2 > 0 then b else o) o)
  | [], o => ⟨by simp, fun b hb => by simp at hb; subst hb; unfold leB; simp⟩
  | x :: l, o => by
    rw [List.foldl_cons]
    obtain ⟨h1, h2⟩ := mostB_fold l (if cmpB x.1 x.2 o.1 o.2 > 0 then x else o)
    have hox : leB o (if cmpB x.1 x.2 o.1 o.2 > 0 then x else o) ∧ leB x (if cmpB x.1 x.2 o.1 o.2 > 0 then x else o) := by
      have h := cmpB_le x o
      split
      · refine ⟨?_, by unfold leB; simp⟩
        unfold leB at *; omega
      · exact ⟨by unfold leB; simp, h.1 (by omega)⟩
    have tr : ∀ {a b c : Int × Int}, leB a b → leB b c → leB a c := by intro a b c h h'; unfold leB at *; omega
    have hm := h2 _ List.mem_cons_self
    refine ⟨?_, fun b hb => ?_⟩
    · rcases List.mem_cons.1 h1 with h | h
      · rw [h]; split <;> simp
      · exact List.mem_cons_of_mem _ (List.mem_cons_of_mem _ h)
    · rcases List.mem_cons.1 hb with rfl | hb
      · exact tr hox.1 hm
      · rcases List.mem_cons.1 hb with rfl | hb
        · exact tr hox.2 hm
        · exact h2 b (List.mem_cons_of_mem _ hb)
theorem mostB_mem {l : List (Int × Int)} (h : l ≠ []) : mostB l ∈ l ∧ ∀ b ∈ l, leB b (mostB l) := by
  cases l with
  | nil => exact absurd rfl h
  | cons b r => exact mostB_fold r b
theorem most3 (a b c : Int × Int) : mostB [a, b, c] = mostB [c, b, a] := by
  obtain ⟨h1, h2⟩ := mostB_mem (l := [a, b, c]) (by simp)
  obtain ⟨h3, h4⟩ := mostB_mem (l := [c, b, a]) (by simp)
  refine leB.anti (h4 _ ?_) (h2 _ ?_)
  · simp at h1 ⊢; rcases h1 with h | h | h <;> simp [h]
  · simp at h3 ⊢; rcases h3 with h | h | h <;> simp [h]
set_option maxHeartbeats 4000000 in
theorem ballotOrder_walk {W : World} {v0 v1 v2 : Value} (h0 : GoodA W [.int .i64, .int .i64] true v0) (h1 : GoodA W [.int .i64, .int .i64] true v1) (h2 : GoodA W [.int .i64, .int .i64] true v2) :
    callK PR F_rostrumlaw19_BallotOrder [v0, v1, v2] (fun v W' => v = .bool true ∧ St W [] W') W := by
  obtain ⟨n0, r0, rfl, hn0, hr0⟩ := goodBV h0
  obtain ⟨n1, r1, rfl, hn1, hr1⟩ := goodBV h1
  obtain ⟨n2, r2, rfl, hn2, hr2⟩ := goodBV h2
  apply S.rostrumlaw19_BallotOrder.call
  unfold S.rostrumlaw19_BallotOrder.body
  have h := St.start W
  have e1 : decide (cmpB n0 r0 n1 r1 = IntKind.i64.wrap (0 - cmpB n1 r1 n0 r0)) = true := by
    rw [decide_eq_true_eq, cmpB_eq, cmpB_eq]
    repeat' split
    all_goals first | rfl | (exfalso; omega) | (rw [i64w]; omega)
  have e2 : (decide (cmpB n0 r0 n1 r1 = 0) == (decide (n0 = n1) && decide (r0 = r1))) = true := by
    rw [cmpB_eq]
    by_cases h1 : n0 = n1 <;> by_cases h2 : r0 = r1 <;> simp [h1, h2]
    all_goals (repeat' split) <;> omega
  have e3 : ¬ 0 < cmpB n0 r0 n1 r1 → ¬ 0 < cmpB n1 r1 n2 r2 → cmpB n0 r0 n2 r2 ≤ 0 := by
    simp only [cmpB_eq]
    repeat' split
    all_goals omega
  have e4 := most3 (n0, r0) (n1, r1) (n2, r2)
  simp only [bv]
  (repeat' (first | ((with_reducible refine bsA BAL [(n0, r0), (n1, r1), (n2, r2)] (by first | assumption | exact St.tick (by assumption) | exact St.tick (St.tick (by assumption))) (by with_unfolding_all rfl) (by with_unfolding_all rfl) (by omega) (by omega) (by with_unfolding_all rfl) ?_); intros) | ((with_reducible refine bsA BAL [(n2, r2), (n1, r1), (n0, r0)] (by first | assumption | exact St.tick (by assumption) | exact St.tick (St.tick (by assumption))) (by with_unfolding_all rfl) (by with_unfolding_all rfl) (by omega) (by omega) (by with_unfolding_all rfl) ?_); intros) | ((with_reducible refine balMost (by first | assumption | exact St.tick (by assumption) | exact St.tick (St.tick (by assumption))) (by simp) ?_); intros) | with_reducible refine And.intro ?_ ?_ | (first | with_reducible refine cp (by first | assumption | exact St.tick (by assumption) | exact St.tick (St.tick (by assumption))) fun _ _ => ?_ | ((with_reducible refine cm (by first | assumption | exact St.tick (by assumption) | exact St.tick (St.tick (by assumption))) ?_); try simp -implicitDefEqProofs only [okF_some, gdK_true, gdK_false, wantd_t, wantd_f, wantd_undef, ifK_true, ifK_false, pickP_true, pickP_false, beq_self_eq_true, Bool.not_true, Bool.not_false, decide_true, decide_false, binP_add, binP_sub, binP_mul, binP_eql, binP_neq, binP_lss, binP_leq, binP_gtr, binP_geq, binP_and, binP_or, binP_xor, binP_andNot, binPs_eql, binPs_neq, baB, intB, unP_neg, unP_not, cvtP_int, cvtP_string, lenP_string, lenP_slice, lenP_array, capP_slice, addrF_blk, nilP_ptr, extP_0, extP_1, extP_2, extP_3, eqP_nilptr, neP_nilptr, eqP_nilsl, neP_nilsl, eqP_bool, neP_bool, Nat.zero_add, Nat.add_zero, lsub, lget, stL, vcells_agg, vcells_int, vcells_bool, vcells_string, vcells_slice, vcells_pointer, nthv_zero, nthv_succ, ne_eq, if_true, if_false, Bool.true_and, Bool.false_and, Bool.and_true, Bool.and_false, Bool.true_or, Bool.false_or, Bool.or_true, Bool.or_false, Bool.false_eq_true, Int.lt_irrefl, List.cons_append, List.nil_append, Option.isNone_some, Option.isNone_none, and_self, true_and, not_true_eq_false, not_false_eq_true, e1, e2]; intro _ _) | with_reducible refine bxa (by first | assumption | exact St.tick (by assumption) | exact St.tick (St.tick (by assumption))) fun _ _ _ => ?_ | with_reducible refine bxi (by first | assumption | exact St.tick (by assumption) | exact St.tick (St.tick (by assumption))) fun _ _ _ => ?_ | ((with_reducible refine ldx (by first | assumption | exact St.tick (by assumption) | exact St.tick (St.tick (by assumption))) ?_ ?_); simp; refine ⟨_, rfl, ?_⟩) | ((with_reducible refine ldr0 (by first | assumption | exact St.tick (by assumption) | exact St.tick (St.tick (by assumption))) (by assumption) ?_ ?_); simp; refine ⟨_, rfl, ?_⟩) | ((with_reducible refine ldr (by first | assumption | exact St.tick (by assumption) | exact St.tick (St.tick (by assumption))) (by assumption) ?_ ?_); simp; refine ⟨_, rfl, ?_⟩) | ((with_reducible refine stb_ld (by first | assumption | exact St.tick (by assumption) | exact St.tick (St.tick (by assumption))) ?_ ?_ ?_); exact rfl; simp) | ((with_reducible refine stb_ldr0 (by first | assumption | exact St.tick (by assumption) | exact St.tick (St.tick (by assumption))) (by assumption) ?_ ?_ ?_); exact rfl; simp) | ((with_reducible refine stb_ldr (by first | assumption | exact St.tick (by assumption) | exact St.tick (St.tick (by assumption))) (by assumption) ?_ ?_ ?_); exact rfl; simp) | ((with_reducible refine al (by first | assumption | exact St.tick (by assumption) | exact St.tick (St.tick (by assumption))) fun _ _ _ => ?_)) | ((with_reducible refine sto (by first | assumption | exact St.tick (by assumption) | exact St.tick (St.tick (by assumption))) ?_ ?_ ?_ fun _ _ => ?_); simp; simp; simp [oneC]) | with_reducible refine stb_n ?_ | ((with_reducible refine eqs ?_); refine ⟨_, rfl, ?_⟩) | ((with_reducible refine nes ?_); refine ⟨_, rfl, ?_⟩) | ((refine okF_i (bldP_eq rfl) ?_); try simp only [List.take_succ_cons, List.take_zero, List.drop_succ_cons, List.drop_zero, List.cons_append, List.nil_append, vcells_eq, vcells_agg, vcells_int, vcells_bool, vcells_string, vcells_slice, vcells_pointer, Nat.zero_add, Nat.reduceAdd])) | simp -implicitDefEqProofs only [okF_some, gdK_true, gdK_false, wantd_t, wantd_f, wantd_undef, ifK_true, ifK_false, pickP_true, pickP_false, beq_self_eq_true, Bool.not_true, Bool.not_false, decide_true, decide_false, binP_add, binP_sub, binP_mul, binP_eql, binP_neq, binP_lss, binP_leq, binP_gtr, binP_geq, binP_and, binP_or, binP_xor, binP_andNot, binPs_eql, binPs_neq, baB, intB, unP_neg, unP_not, cvtP_int, cvtP_string, lenP_string, lenP_slice, lenP_array, capP_slice, addrF_blk, nilP_ptr, extP_0, extP_1, extP_2, extP_3, eqP_nilptr, neP_nilptr, eqP_nilsl, neP_nilsl, eqP_bool, neP_bool, Nat.zero_add, Nat.add_zero, lsub, lget, stL, vcells_agg, vcells_int, vcells_bool, vcells_string, vcells_slice, vcells_pointer, nthv_zero, nthv_succ, ne_eq, if_true, if_false, Bool.true_and, Bool.false_and, Bool.and_true, Bool.and_false, Bool.true_or, Bool.false_or, Bool.or_true, Bool.or_false, Bool.false_eq_true, Int.lt_irrefl, List.cons_append, List.nil_append, Option.isNone_some, Option.isNone_none, and_self, true_and, not_true_eq_false, not_false_eq_true, e1, e2] | ((first | refine ifK_b (fun hb => ?_) (fun hb => ?_) | refine gdK_b (fun hb => ?_) (fun hb => ?_)) <;> (try simp only [Bool.not_eq_true', Bool.not_eq_false'] at hb) <;> (try rw [hb]) <;> (first | replace hb := of_decide_eq_true hb | replace hb := of_decide_eq_false hb | (simp only [Bool.and_eq_true, Bool.and_eq_false_iff, Bool.or_eq_true, Bool.or_eq_false_iff, decide_eq_true_eq, decide_eq_false_iff_not, Bool.not_eq_true', Bool.not_eq_false'] at hb) | skip))))
  all_goals first | exact St.nil (by first | assumption | exact St.tick (by assumption) | exact St.tick (St.tick (by assumption))) | (exfalso; omega) | (rw [e4]; simp)
end Go.Proofs.Ytfmidjlgpakilaa
