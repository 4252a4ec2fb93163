/- Contracts: cmp. -/
import Derived.Test.YtmojfpaagokckaaTyp
import Derived.Test.YtmojfpaagokckaaShCmp
namespace Go.Proofs.Ytmojfpaagokckaa
set_option linter.unusedVariables false
set_option linter.unusedSimpArgs false
open Go.Eng

instance isNaN64 (a : Int) : Pure0 PR F_cmp_isNaN_int64 [.int .i64 a] (.bool false) := ⟨fun W => by
  apply S.cmp_isNaN_int64.call
  unfold S.cmp_isNaN_int64.body
  simp -implicitDefEqProofs only [EN, lsub, lget, stL, beq_self_eq_true, ne_eq, if_true, if_false, List.cons_append, List.nil_append, Option.isNone_some, Option.isNone_none]
  exact St.start W⟩
instance isNaNi (a : Int) : Pure0 PR F_cmp_isNaN_int [.int .i64 a] (.bool false) := ⟨fun W => by
  apply S.cmp_isNaN_int.call
  unfold S.cmp_isNaN_int.body
  simp -implicitDefEqProofs only [EN, lsub, lget, stL, beq_self_eq_true, ne_eq, if_true, if_false, List.cons_append, List.nil_append, Option.isNone_some, Option.isNone_none]
  exact St.start W⟩

def cmpI (a b : Int) : Int := if a < b then -1 else if b < a then 1 else 0
instance cmp64 (a b : Int) : Pure0 PR F_cmp_Compare_int64 [.int .i64 a, .int .i64 b] (.int .i64 (cmpI a b)) := ⟨fun W => by
  apply S.cmp_Compare_int64.call
  unfold S.cmp_Compare_int64.body
  have h := St.start W
  (first | (with_reducible (first | refine w1 fun _ _ => ?_ | refine w3 fun _ _ _ => ?_ | refine w4 fun _ _ _ => ?_ | refine w11 fun _ _ _ => ?_ | refine stb_n ?_)) | ((with_reducible refine w2 ?_); try simp -implicitDefEqProofs only [EN, lsub, lget, stL, beq_self_eq_true, ne_eq, if_true, if_false, List.cons_append, List.nil_append, Option.isNone_some, Option.isNone_none]; intro _ _) | ((with_reducible (first | refine w5 ?_ ?_ | refine w6 ?_ ?_ | refine w7 ?_ ?_)); simp; refine ⟨_, rfl, ?_⟩) | ((with_reducible (first | refine w8 ?_ ?_ ?_ | refine w9 ?_ ?_ ?_ | refine w10 ?_ ?_ ?_)); exact rfl; simp) | ((with_reducible refine w12 ?_ ?_ ?_ fun _ _ => ?_); simp; simp; simp [oneC]) | ((with_reducible (first | refine eqs ?_ | refine nes ?_)); refine ⟨_, rfl, ?_⟩) | ((refine okF_i (bldP_eq rfl) ?_); try simp only [BLS, List.take_succ_cons, List.take_zero, List.drop_succ_cons, List.drop_zero, List.cons_append, List.nil_append, Nat.reduceAdd]))
  (first | (with_reducible (first | refine w1 fun _ _ => ?_ | refine w3 fun _ _ _ => ?_ | refine w4 fun _ _ _ => ?_ | refine w11 fun _ _ _ => ?_ | refine stb_n ?_)) | ((with_reducible refine w2 ?_); try simp -implicitDefEqProofs only [EN, lsub, lget, stL, beq_self_eq_true, ne_eq, if_true, if_false, List.cons_append, List.nil_append, Option.isNone_some, Option.isNone_none]; intro _ _) | ((with_reducible (first | refine w5 ?_ ?_ | refine w6 ?_ ?_ | refine w7 ?_ ?_)); simp; refine ⟨_, rfl, ?_⟩) | ((with_reducible (first | refine w8 ?_ ?_ ?_ | refine w9 ?_ ?_ ?_ | refine w10 ?_ ?_ ?_)); exact rfl; simp) | ((with_reducible refine w12 ?_ ?_ ?_ fun _ _ => ?_); simp; simp; simp [oneC]) | ((with_reducible (first | refine eqs ?_ | refine nes ?_)); refine ⟨_, rfl, ?_⟩) | ((refine okF_i (bldP_eq rfl) ?_); try simp only [BLS, List.take_succ_cons, List.take_zero, List.drop_succ_cons, List.drop_zero, List.cons_append, List.nil_append, Nat.reduceAdd]))
  simp -implicitDefEqProofs only [EN, lsub, lget, stL, beq_self_eq_true, ne_eq, if_true, if_false, List.cons_append, List.nil_append, Option.isNone_some, Option.isNone_none]
  refine ifK_d (fun h1 => ?_) (fun h1 => ifK_d (fun h2 => ?_) (fun h2 => ?_))
  · exact ⟨by simp [cmpI, h1], by assumption⟩
  · exact ⟨by rw [cmpI, if_neg h1, if_pos h2], by assumption⟩
  · exact ⟨by rw [cmpI, if_neg h1, if_neg h2], by assumption⟩⟩
instance cmpi (a b : Int) : Pure0 PR F_cmp_Compare_int [.int .i64 a, .int .i64 b] (.int .i64 (cmpI a b)) := ⟨fun W => by
  apply S.cmp_Compare_int.call
  unfold S.cmp_Compare_int.body
  have h := St.start W
  (first | (with_reducible (first | refine w1 fun _ _ => ?_ | refine w3 fun _ _ _ => ?_ | refine w4 fun _ _ _ => ?_ | refine w11 fun _ _ _ => ?_ | refine stb_n ?_)) | ((with_reducible refine w2 ?_); try simp -implicitDefEqProofs only [EN, lsub, lget, stL, beq_self_eq_true, ne_eq, if_true, if_false, List.cons_append, List.nil_append, Option.isNone_some, Option.isNone_none]; intro _ _) | ((with_reducible (first | refine w5 ?_ ?_ | refine w6 ?_ ?_ | refine w7 ?_ ?_)); simp; refine ⟨_, rfl, ?_⟩) | ((with_reducible (first | refine w8 ?_ ?_ ?_ | refine w9 ?_ ?_ ?_ | refine w10 ?_ ?_ ?_)); exact rfl; simp) | ((with_reducible refine w12 ?_ ?_ ?_ fun _ _ => ?_); simp; simp; simp [oneC]) | ((with_reducible (first | refine eqs ?_ | refine nes ?_)); refine ⟨_, rfl, ?_⟩) | ((refine okF_i (bldP_eq rfl) ?_); try simp only [BLS, List.take_succ_cons, List.take_zero, List.drop_succ_cons, List.drop_zero, List.cons_append, List.nil_append, Nat.reduceAdd]))
  (first | (with_reducible (first | refine w1 fun _ _ => ?_ | refine w3 fun _ _ _ => ?_ | refine w4 fun _ _ _ => ?_ | refine w11 fun _ _ _ => ?_ | refine stb_n ?_)) | ((with_reducible refine w2 ?_); try simp -implicitDefEqProofs only [EN, lsub, lget, stL, beq_self_eq_true, ne_eq, if_true, if_false, List.cons_append, List.nil_append, Option.isNone_some, Option.isNone_none]; intro _ _) | ((with_reducible (first | refine w5 ?_ ?_ | refine w6 ?_ ?_ | refine w7 ?_ ?_)); simp; refine ⟨_, rfl, ?_⟩) | ((with_reducible (first | refine w8 ?_ ?_ ?_ | refine w9 ?_ ?_ ?_ | refine w10 ?_ ?_ ?_)); exact rfl; simp) | ((with_reducible refine w12 ?_ ?_ ?_ fun _ _ => ?_); simp; simp; simp [oneC]) | ((with_reducible (first | refine eqs ?_ | refine nes ?_)); refine ⟨_, rfl, ?_⟩) | ((refine okF_i (bldP_eq rfl) ?_); try simp only [BLS, List.take_succ_cons, List.take_zero, List.drop_succ_cons, List.drop_zero, List.cons_append, List.nil_append, Nat.reduceAdd]))
  simp -implicitDefEqProofs only [EN, lsub, lget, stL, beq_self_eq_true, ne_eq, if_true, if_false, List.cons_append, List.nil_append, Option.isNone_some, Option.isNone_none]
  refine ifK_d (fun h1 => ?_) (fun h1 => ifK_d (fun h2 => ?_) (fun h2 => ?_))
  · exact ⟨by simp [cmpI, h1], by assumption⟩
  · exact ⟨by rw [cmpI, if_neg h1, if_pos h2], by assumption⟩
  · exact ⟨by rw [cmpI, if_neg h1, if_neg h2], by assumption⟩⟩

instance vecRep (a : Int) : Pure0 PR F_vec_Rep [.int .i64 a] (.bool (decide (0 ≤ a ∧ a < 7))) := ⟨fun W => by
  apply S.vec_Rep.call
  unfold S.vec_Rep.body
  have h := St.start W
  by_cases h1 : 0 ≤ a
  · simp -implicitDefEqProofs only [EN, lsub, lget, stL, beq_self_eq_true, ne_eq, if_true, if_false, List.cons_append, List.nil_append, Option.isNone_some, Option.isNone_none, h1]
    first | exact h | exact ⟨by simp [h1], h⟩
  · simp -implicitDefEqProofs only [EN, lsub, lget, stL, beq_self_eq_true, ne_eq, if_true, if_false, List.cons_append, List.nil_append, Option.isNone_some, Option.isNone_none, h1, false_and]
    first | exact h | exact ⟨by simp [h1], h⟩⟩

structure Dot where
  rep : Int
  n : Int
  deriving DecidableEq
def Dot.v (d : Dot) : Value := .agg #[.int .i64 d.rep, .int .i64 d.n]
def Dot.ok (d : Dot) : Bool := decide (0 ≤ d.rep ∧ d.rep < 7 ∧ 1 ≤ d.n ∧ d.n ≤ 1099511627776)
def orI : List Int → Int
  | [] => 0
  | a :: r => if a ≠ 0 then a else orI r
theorem orI_drop {l : List Int} {i : Nat} (hi : i < l.length) : orI (l.drop i) = if l[i] ≠ 0 then l[i] else orI (l.drop (i + 1)) := by
  rw [List.drop_eq_getElem_cons hi]; rfl
theorem cmpOr {b : Nat} {l : List Int} {W : World} {L : List Asn} {W0 : World} (hl : l.length < 1000) (h : St W0 (cells b (l.map (Value.int .i64)) T_int :: L) W) :
    callK PR F_cmp_Or_int [.slice (some ⟨b, 0, none⟩) l.length l.length] (fun v W' => v = .int .i64 (orI l) ∧ St W0 L W') W := by
  apply S.cmp_Or_int.call
  unfold S.cmp_Or_int.body
  refine joinK_i ?_
  simp -implicitDefEqProofs only [EN, lsub, lget, stL, beq_self_eq_true, ne_eq, if_true, if_false, List.cons_append, List.nil_append, Option.isNone_some, Option.isNone_none]
  refine loop_i (fun m s W => ∃ i, i ≤ l.length ∧ m = l.length - i ∧ s = [.int .i64 0, .slice (some ⟨b, 0, none⟩) l.length l.length, .int .i64 l.length, .int .i64 i] ∧ orI l = orI (l.drop i) ∧ St W0 (cells b (l.map (Value.int .i64)) T_int :: L) W)
    _ ⟨0, by omega, rfl, rfl, rfl, h⟩ ?_
  rintro m s W ⟨i, hi, rfl, rfl, ho, h⟩
  show S.cmp_Or_int.l1 _ _ _ (.int .i64 0) (.slice (some ⟨b, 0, none⟩) l.length l.length) (.int .i64 l.length) (.int .i64 i) W
  unfold S.cmp_Or_int.l1
  simp -implicitDefEqProofs only [EN, lsub, lget, stL, beq_self_eq_true, ne_eq, if_true, if_false, List.cons_append, List.nil_append, Option.isNone_some, Option.isNone_none]
  refine ifK_d (fun hlt => ?_) (fun hge => ?_)
  · have hlt : i < l.length := by omega
    refine okF_i (idxS_blk (by omega) (by omega)) ?_
    simp only [Int.toNat_natCast, Nat.mul_one, Nat.zero_add]
    refine ld h (v := .int .i64 l[i]) (by simp [getL, lget_eq, hlt]) (by simp) ?_
    simp -implicitDefEqProofs only [EN, lsub, lget, stL, beq_self_eq_true, ne_eq, if_true, if_false, List.cons_append, List.nil_append, Option.isNone_some, Option.isNone_none]
    rw [orI_drop hlt] at ho
    refine ifK_b (fun h1 => ?_) (fun h1 => ?_)
    · have : l[i] ≠ 0 := by simpa using h1
      rw [if_pos this] at ho
      exact ⟨by rw [ho], h.drop⟩
    · have : ¬ (l[i] ≠ 0) := by simpa using h1
      rw [if_neg this] at ho
      exact ⟨_, by omega, i + 1, by omega, rfl, by rw [IntWalk.i64_in _ (by omega)]; simp, ho, h⟩
  · have : i = l.length := by omega
    subst this
    unfold S.cmp_Or_int.j1
    simp -implicitDefEqProofs only [EN, lsub, lget, stL, beq_self_eq_true, ne_eq, if_true, if_false, List.cons_append, List.nil_append, Option.isNone_some, Option.isNone_none]
    refine ⟨?_, h.drop⟩
    rw [ho]; simp [orI]

theorem or2 {a b : Int} {W0 W : World} {L : List Asn} {k : Value → World → Prop} (h : St W0 L W) (hk : ∀ W', St W0 L W' → k (.int .i64 (orI [a, b])) W') :
    efK PR (Instr.buildSlice T_s_int 2 #[(0, .int .i64 a), (1, .int .i64 b)]) (fun v W => callK PR F_cmp_Or_int [v] k W) W := by
  refine bs (cs := [.int .i64 a, .int .i64 b]) h (by simp) (by simp) rfl fun x W4 h => ?_
  exact ca (cmpOr (l := [a, b]) (by simp) h) fun v W' ⟨e, h⟩ => by subst e; exact hk _ h

end Go.Proofs.Ytmojfpaagokckaa
