/- Contracts: vec; keys that are dots. -/
import Derived.Test.YtmojfpaagokckaaCVec
import Derived.Test.YtmojfpaagokckaaTypM
import Derived.Test.YtmojfpaagokckaaMp3
import Derived.Test.YtmojfpaagokckaaBit
import Derived.Test.YtmojfpaagokckaaShVec
namespace Go.Proofs.Ytmojfpaagokckaa
set_option linter.unusedVariables false
set_option linter.unusedSimpArgs false
open Go Go.Eng

abbrev KD : Dot → Value := fun d => .agg #[.int .i64 d.rep, .int .i64 d.n]
set_option maxRecDepth 100000 in
instance keyDot : KeyT PR T_api_Dot KD := KeyT.agg (cs := fun d => [.int .i64 d.rep, .int .i64 d.n]) (fun _ => rfl) (d := (PR.underlying T_api_Dot).getD .bool) (by kernel_rfl) (fun a b => rfl) (fun a b => by
    cases a; cases b
    simp only [eqC, eq1, if_true, Bool.and_true, Dot.mk.injEq]
    congr 1
    rw [Bool.eq_iff_iff]
    simp) (fun k => by simp [KD, Instr.sameBits]) (fun w em k => by kernel_rfl)
def imax (a b : Int) : Int := if a < b then b else a
def vmerge (a b : P7 Int) : P7 Int := a.zip imax b
def goodV (v : P7 Int) : Bool := v.list.all fun n => decide (0 ≤ n ∧ n ≤ 1099511627776)
def hasV (v : P7 Int) (d : Dot) : Bool := decide (0 ≤ d.rep ∧ d.rep < 7 ∧ 1 ≤ d.n ∧ d.n ≤ v.get d.rep.toNat)
def leV (a b : P7 Int) : Bool := (List.range 7).all fun i => decide (a.get i ≤ b.get i)
section
variable {W0 W : World} {L L' : List Asn}
theorem idxV7i {x : P7 Int} {i : Nat} (hi : i < 7) : idxV 7 false 1 (.agg #[.int .i64 x.x0, .int .i64 x.x1, .int .i64 x.x2, .int .i64 x.x3, .int .i64 x.x4, .int .i64 x.x5, .int .i64 x.x6]) (.int .i64 (i : Int)) = some (.int .i64 (x.get i)) := by
  rcases P7.cases7 hi with rfl | rfl | rfl | rfl | rfl | rfl | rfl <;> rfl
theorem getL7 {x : P7 Int} {i : Nat} (hi : i < 7) : getL false [.int .i64 x.x0, .int .i64 x.x1, .int .i64 x.x2, .int .i64 x.x3, .int .i64 x.x4, .int .i64 x.x5, .int .i64 x.x6] i 1 = some (.int .i64 (x.get i)) := by
  rcases P7.cases7 hi with rfl | rfl | rfl | rfl | rfl | rfl | rfl <;> rfl
theorem idxA7 {z i : Nat} (hi : i < 7) : idxA 7 1 (.pointer (some ⟨z, 0, none⟩)) (.int .i64 (i : Int)) = some (.pointer (some ⟨z, i, none⟩)) := by
  rw [idxA_blk (by omega) (by omega)]; simp
theorem idxA7i {z : Nat} {i : Int} (h0 : 0 ≤ i) (hi : i < 7) : idxA 7 1 (.pointer (some ⟨z, 0, none⟩)) (.int .i64 i) = some (.pointer (some ⟨z, i.toNat, none⟩)) := by
  have := idxA7 (z := z) (i := i.toNat) (by omega)
  rwa [Int.toNat_of_nonneg h0] at this
theorem goodV_iff (v : P7 Int) : goodV v = true ↔ ∀ i, i < 7 → 0 ≤ v.get i ∧ v.get i ≤ 1099511627776 := by
  simp only [goodV, P7.list, List.all_cons, List.all_nil, Bool.and_true, Bool.and_eq_true, decide_eq_true_eq]
  constructor
  · rintro ⟨h0, h1, h2, h3, h4, h5, h6⟩ i hi
    rcases P7.cases7 hi with rfl | rfl | rfl | rfl | rfl | rfl | rfl <;> assumption
  · intro h
    exact ⟨h 0 (by omega), h 1 (by omega), h 2 (by omega), h 3 (by omega), h 4 (by omega), h 5 (by omega), h 6 (by omega)⟩
theorem leV_iff (a b : P7 Int) : leV a b = true ↔ ∀ i, i < 7 → a.get i ≤ b.get i := by simp only [leV, List.all_eq_true, List.mem_range, decide_eq_true_eq]
theorem vecGood_run (v : P7 Int) (W : World) : callK PR F_vec_Good [.agg #[.int .i64 v.x0, .int .i64 v.x1, .int .i64 v.x2, .int .i64 v.x3, .int .i64 v.x4, .int .i64 v.x5, .int .i64 v.x6]] (fun u W' => u = .bool (goodV v) ∧ St W [] W') W := by
  apply S.vec_Good.call
  unfold S.vec_Good.body
  refine bxa (St.start W) fun b W1 h => ?_
  (repeat (first | (first | (with_reducible (first | refine w1 fun _ _ => ?_ | refine w3 fun _ _ _ => ?_ | refine w4 fun _ _ _ => ?_ | refine w11 fun _ _ _ => ?_ | refine stb_n ?_)) | ((with_reducible refine w2 ?_); try simp -implicitDefEqProofs only [EN, lsub, lget, stL, beq_self_eq_true, ne_eq, if_true, if_false, List.cons_append, List.nil_append, Option.isNone_some, Option.isNone_none]; intro _ _) | ((with_reducible (first | refine w5 ?_ ?_ | refine w6 ?_ ?_ | refine w7 ?_ ?_)); simp; refine ⟨_, rfl, ?_⟩) | ((with_reducible (first | refine w8 ?_ ?_ ?_ | refine w9 ?_ ?_ ?_ | refine w10 ?_ ?_ ?_)); exact rfl; simp) | ((with_reducible refine w12 ?_ ?_ ?_ fun _ _ => ?_); simp; simp; simp [oneC]) | ((with_reducible (first | refine eqs ?_ | refine nes ?_)); refine ⟨_, rfl, ?_⟩) | ((refine okF_i (bldP_eq rfl) ?_); try simp only [BLS, List.take_succ_cons, List.take_zero, List.drop_succ_cons, List.drop_zero, List.cons_append, List.nil_append, Nat.reduceAdd])) | simp -implicitDefEqProofs only [EN, lsub, lget, stL, beq_self_eq_true, ne_eq, if_true, if_false, List.cons_append, List.nil_append, Option.isNone_some, Option.isNone_none]))
  refine loop_c (σ := Unit) 7 (fun i _ => [.agg #[.int .i64 v.x0, .int .i64 v.x1, .int .i64 v.x2, .int .i64 v.x3, .int .i64 v.x4, .int .i64 v.x5, .int .i64 v.x6], .int .i64 i]) (fun i _ W1 => (∀ j, j < i → 0 ≤ v.get j ∧ v.get j ≤ 1099511627776) ∧ St W [] W1) () rfl ⟨fun j h => by omega, h.drop⟩ ?_
  clear h
  rintro K i _ W2 hi ⟨hv, h⟩ hK
  simp -implicitDefEqProofs only [EN, lsub, lget, stL, beq_self_eq_true, ne_eq, if_true, if_false, List.cons_append, List.nil_append, Option.isNone_some, Option.isNone_none]
  unfold S.vec_Good.l1
  have hno : i < 7 → (v.get i < 0 ∨ 1099511627776 < v.get i) → goodV v = false := fun hi h => by
    rw [Bool.eq_false_iff]
    intro hd
    have := (goodV_iff v).1 hd i hi
    omega
  by_cases hlt : (i : Int) < 7
  · have e := idxV7i (x := v) (i := i) (by omega)
    by_cases h1 : v.get i < 0
    · have hc := hno (by omega) (.inl h1)
      (repeat (first | (first | (with_reducible (first | refine w1 fun _ _ => ?_ | refine w3 fun _ _ _ => ?_ | refine w4 fun _ _ _ => ?_ | refine w11 fun _ _ _ => ?_ | refine stb_n ?_)) | ((with_reducible refine w2 ?_); try simp -implicitDefEqProofs only [EN, lsub, lget, stL, beq_self_eq_true, ne_eq, if_true, if_false, List.cons_append, List.nil_append, Option.isNone_some, Option.isNone_none, hlt, e, h1]; intro _ _) | ((with_reducible (first | refine w5 ?_ ?_ | refine w6 ?_ ?_ | refine w7 ?_ ?_)); simp; refine ⟨_, rfl, ?_⟩) | ((with_reducible (first | refine w8 ?_ ?_ ?_ | refine w9 ?_ ?_ ?_ | refine w10 ?_ ?_ ?_)); exact rfl; simp) | ((with_reducible refine w12 ?_ ?_ ?_ fun _ _ => ?_); simp; simp; simp [oneC]) | ((with_reducible (first | refine eqs ?_ | refine nes ?_)); refine ⟨_, rfl, ?_⟩) | ((refine okF_i (bldP_eq rfl) ?_); try simp only [BLS, List.take_succ_cons, List.take_zero, List.drop_succ_cons, List.drop_zero, List.cons_append, List.nil_append, Nat.reduceAdd])) | simp -implicitDefEqProofs only [EN, lsub, lget, stL, beq_self_eq_true, ne_eq, if_true, if_false, List.cons_append, List.nil_append, Option.isNone_some, Option.isNone_none, hlt, e, h1]))
      exact ⟨by rw [hc], h⟩
    · by_cases h2 : 1099511627776 < v.get i
      · have hc := hno (by omega) (.inr h2)
        (repeat (first | (first | (with_reducible (first | refine w1 fun _ _ => ?_ | refine w3 fun _ _ _ => ?_ | refine w4 fun _ _ _ => ?_ | refine w11 fun _ _ _ => ?_ | refine stb_n ?_)) | ((with_reducible refine w2 ?_); try simp -implicitDefEqProofs only [EN, lsub, lget, stL, beq_self_eq_true, ne_eq, if_true, if_false, List.cons_append, List.nil_append, Option.isNone_some, Option.isNone_none, hlt, e, h1, h2]; intro _ _) | ((with_reducible (first | refine w5 ?_ ?_ | refine w6 ?_ ?_ | refine w7 ?_ ?_)); simp; refine ⟨_, rfl, ?_⟩) | ((with_reducible (first | refine w8 ?_ ?_ ?_ | refine w9 ?_ ?_ ?_ | refine w10 ?_ ?_ ?_)); exact rfl; simp) | ((with_reducible refine w12 ?_ ?_ ?_ fun _ _ => ?_); simp; simp; simp [oneC]) | ((with_reducible (first | refine eqs ?_ | refine nes ?_)); refine ⟨_, rfl, ?_⟩) | ((refine okF_i (bldP_eq rfl) ?_); try simp only [BLS, List.take_succ_cons, List.take_zero, List.drop_succ_cons, List.drop_zero, List.cons_append, List.nil_append, Nat.reduceAdd])) | simp -implicitDefEqProofs only [EN, lsub, lget, stL, beq_self_eq_true, ne_eq, if_true, if_false, List.cons_append, List.nil_append, Option.isNone_some, Option.isNone_none, hlt, e, h1, h2]))
        exact ⟨by rw [hc], h⟩
      · have ew : IntKind.i64.wrap ((i : Int) + 1) = ((i + 1 : Nat) : Int) := by rw [i64w]; omega
        (repeat (first | (first | (with_reducible (first | refine w1 fun _ _ => ?_ | refine w3 fun _ _ _ => ?_ | refine w4 fun _ _ _ => ?_ | refine w11 fun _ _ _ => ?_ | refine stb_n ?_)) | ((with_reducible refine w2 ?_); try simp -implicitDefEqProofs only [EN, lsub, lget, stL, beq_self_eq_true, ne_eq, if_true, if_false, List.cons_append, List.nil_append, Option.isNone_some, Option.isNone_none, hlt, e, h1, h2, ew]; intro _ _) | ((with_reducible (first | refine w5 ?_ ?_ | refine w6 ?_ ?_ | refine w7 ?_ ?_)); simp; refine ⟨_, rfl, ?_⟩) | ((with_reducible (first | refine w8 ?_ ?_ ?_ | refine w9 ?_ ?_ ?_ | refine w10 ?_ ?_ ?_)); exact rfl; simp) | ((with_reducible refine w12 ?_ ?_ ?_ fun _ _ => ?_); simp; simp; simp [oneC]) | ((with_reducible (first | refine eqs ?_ | refine nes ?_)); refine ⟨_, rfl, ?_⟩) | ((refine okF_i (bldP_eq rfl) ?_); try simp only [BLS, List.take_succ_cons, List.take_zero, List.drop_succ_cons, List.drop_zero, List.cons_append, List.nil_append, Nat.reduceAdd])) | simp -implicitDefEqProofs only [EN, lsub, lget, stL, beq_self_eq_true, ne_eq, if_true, if_false, List.cons_append, List.nil_append, Option.isNone_some, Option.isNone_none, hlt, e, h1, h2, ew]))
        refine hK () _ (by omega) ⟨fun j hj => ?_, h⟩
        by_cases hji : j = i
        · subst hji; omega
        · exact hv j (by omega)
  · (repeat (first | (first | (with_reducible (first | refine w1 fun _ _ => ?_ | refine w3 fun _ _ _ => ?_ | refine w4 fun _ _ _ => ?_ | refine w11 fun _ _ _ => ?_ | refine stb_n ?_)) | ((with_reducible refine w2 ?_); try simp -implicitDefEqProofs only [EN, lsub, lget, stL, beq_self_eq_true, ne_eq, if_true, if_false, List.cons_append, List.nil_append, Option.isNone_some, Option.isNone_none, hlt]; intro _ _) | ((with_reducible (first | refine w5 ?_ ?_ | refine w6 ?_ ?_ | refine w7 ?_ ?_)); simp; refine ⟨_, rfl, ?_⟩) | ((with_reducible (first | refine w8 ?_ ?_ ?_ | refine w9 ?_ ?_ ?_ | refine w10 ?_ ?_ ?_)); exact rfl; simp) | ((with_reducible refine w12 ?_ ?_ ?_ fun _ _ => ?_); simp; simp; simp [oneC]) | ((with_reducible (first | refine eqs ?_ | refine nes ?_)); refine ⟨_, rfl, ?_⟩) | ((refine okF_i (bldP_eq rfl) ?_); try simp only [BLS, List.take_succ_cons, List.take_zero, List.drop_succ_cons, List.drop_zero, List.cons_append, List.nil_append, Nat.reduceAdd])) | simp -implicitDefEqProofs only [EN, lsub, lget, stL, beq_self_eq_true, ne_eq, if_true, if_false, List.cons_append, List.nil_append, Option.isNone_some, Option.isNone_none, hlt]))
    exact ⟨by rw [(goodV_iff v).2 fun j hj => hv j (by omega)], h⟩
instance vecGood (x0 x1 x2 x3 x4 x5 x6 : Int) : Pure0 PR F_vec_Good [.agg #[.int .i64 x0, .int .i64 x1, .int .i64 x2, .int .i64 x3, .int .i64 x4, .int .i64 x5, .int .i64 x6]] (.bool (goodV ⟨x0, x1, x2, x3, x4, x5, x6⟩)) :=
  ⟨fun W => vecGood_run ⟨x0, x1, x2, x3, x4, x5, x6⟩ W⟩
theorem vecHas_run (v : P7 Int) (d : Dot) (W : World) : callK PR F_vec_Has [.agg #[.int .i64 v.x0, .int .i64 v.x1, .int .i64 v.x2, .int .i64 v.x3, .int .i64 v.x4, .int .i64 v.x5, .int .i64 v.x6], .agg #[.int .i64 d.rep, .int .i64 d.n]] (fun u W' => u = .bool (hasV v d) ∧ St W [] W') W := by
  apply S.vec_Has.call
  unfold S.vec_Has.body
  have h := St.start W
  by_cases h1 : 0 ≤ d.rep ∧ d.rep < 7
  · have f1 : decide (0 ≤ d.rep ∧ d.rep < 7) = true := decide_eq_true h1
    by_cases h2 : 1 ≤ d.n
    · have ei := fun z => idxA7i (z := z) h1.1 h1.2
      have hg := fun (x : P7 Int) => getL7 (x := x) (i := d.rep.toNat) (by omega)
      (repeat (first | (first | (with_reducible (first | refine w1 fun _ _ => ?_ | refine w3 fun _ _ _ => ?_ | refine w4 fun _ _ _ => ?_ | refine w11 fun _ _ _ => ?_ | refine stb_n ?_)) | ((with_reducible refine w2 ?_); try simp -implicitDefEqProofs only [EN, lsub, lget, stL, beq_self_eq_true, ne_eq, if_true, if_false, List.cons_append, List.nil_append, Option.isNone_some, Option.isNone_none, f1, h2, ei]; intro _ _) | ((with_reducible (first | refine w5 ?_ ?_ | refine w6 ?_ ?_ | refine w7 ?_ ?_)); simp; refine ⟨_, rfl, ?_⟩) | ((with_reducible (first | refine w8 ?_ ?_ ?_ | refine w9 ?_ ?_ ?_ | refine w10 ?_ ?_ ?_)); exact rfl; simp) | ((with_reducible refine w12 ?_ ?_ ?_ fun _ _ => ?_); simp; simp; simp [oneC]) | ((with_reducible (first | refine eqs ?_ | refine nes ?_)); refine ⟨_, rfl, ?_⟩) | ((refine okF_i (bldP_eq rfl) ?_); try simp only [BLS, List.take_succ_cons, List.take_zero, List.drop_succ_cons, List.drop_zero, List.cons_append, List.nil_append, Nat.reduceAdd])) | simp -implicitDefEqProofs only [EN, lsub, lget, stL, beq_self_eq_true, ne_eq, if_true, if_false, List.cons_append, List.nil_append, Option.isNone_some, Option.isNone_none, f1, h2, ei]))
      refine ld (v := .int .i64 (v.get d.rep.toNat)) (by first | assumption | exact St.tick (by assumption) | exact St.tick (St.tick (by assumption))) (hg v) (by simp) ?_
      (repeat (first | (first | (with_reducible (first | refine w1 fun _ _ => ?_ | refine w3 fun _ _ _ => ?_ | refine w4 fun _ _ _ => ?_ | refine w11 fun _ _ _ => ?_ | refine stb_n ?_)) | ((with_reducible refine w2 ?_); try simp -implicitDefEqProofs only [EN, lsub, lget, stL, beq_self_eq_true, ne_eq, if_true, if_false, List.cons_append, List.nil_append, Option.isNone_some, Option.isNone_none]; intro _ _) | ((with_reducible (first | refine w5 ?_ ?_ | refine w6 ?_ ?_ | refine w7 ?_ ?_)); simp; refine ⟨_, rfl, ?_⟩) | ((with_reducible (first | refine w8 ?_ ?_ ?_ | refine w9 ?_ ?_ ?_ | refine w10 ?_ ?_ ?_)); exact rfl; simp) | ((with_reducible refine w12 ?_ ?_ ?_ fun _ _ => ?_); simp; simp; simp [oneC]) | ((with_reducible (first | refine eqs ?_ | refine nes ?_)); refine ⟨_, rfl, ?_⟩) | ((refine okF_i (bldP_eq rfl) ?_); try simp only [BLS, List.take_succ_cons, List.take_zero, List.drop_succ_cons, List.drop_zero, List.cons_append, List.nil_append, Nat.reduceAdd])) | simp -implicitDefEqProofs only [EN, lsub, lget, stL, beq_self_eq_true, ne_eq, if_true, if_false, List.cons_append, List.nil_append, Option.isNone_some, Option.isNone_none]))
      refine ⟨?_, St.nil (by first | assumption | exact St.tick (by assumption) | exact St.tick (St.tick (by assumption)))⟩
      congr 1
      unfold hasV
      (first | rfl | (rw [decide_eq_decide]; omega) | (symm; rw [decide_eq_true_eq]; omega) | (symm; rw [decide_eq_false_iff_not]; omega) | (simp; omega))
    · (repeat (first | (first | (with_reducible (first | refine w1 fun _ _ => ?_ | refine w3 fun _ _ _ => ?_ | refine w4 fun _ _ _ => ?_ | refine w11 fun _ _ _ => ?_ | refine stb_n ?_)) | ((with_reducible refine w2 ?_); try simp -implicitDefEqProofs only [EN, lsub, lget, stL, beq_self_eq_true, ne_eq, if_true, if_false, List.cons_append, List.nil_append, Option.isNone_some, Option.isNone_none, f1, h2]; intro _ _) | ((with_reducible (first | refine w5 ?_ ?_ | refine w6 ?_ ?_ | refine w7 ?_ ?_)); simp; refine ⟨_, rfl, ?_⟩) | ((with_reducible (first | refine w8 ?_ ?_ ?_ | refine w9 ?_ ?_ ?_ | refine w10 ?_ ?_ ?_)); exact rfl; simp) | ((with_reducible refine w12 ?_ ?_ ?_ fun _ _ => ?_); simp; simp; simp [oneC]) | ((with_reducible (first | refine eqs ?_ | refine nes ?_)); refine ⟨_, rfl, ?_⟩) | ((refine okF_i (bldP_eq rfl) ?_); try simp only [BLS, List.take_succ_cons, List.take_zero, List.drop_succ_cons, List.drop_zero, List.cons_append, List.nil_append, Nat.reduceAdd])) | simp -implicitDefEqProofs only [EN, lsub, lget, stL, beq_self_eq_true, ne_eq, if_true, if_false, List.cons_append, List.nil_append, Option.isNone_some, Option.isNone_none, f1, h2]))
      refine ⟨?_, St.nil (by first | assumption | exact St.tick (by assumption) | exact St.tick (St.tick (by assumption)))⟩
      congr 1
      unfold hasV
      (first | rfl | (rw [decide_eq_decide]; omega) | (symm; rw [decide_eq_true_eq]; omega) | (symm; rw [decide_eq_false_iff_not]; omega) | (simp; omega))
  · have f1 : decide (0 ≤ d.rep ∧ d.rep < 7) = false := decide_eq_false h1
    (repeat (first | (first | (with_reducible (first | refine w1 fun _ _ => ?_ | refine w3 fun _ _ _ => ?_ | refine w4 fun _ _ _ => ?_ | refine w11 fun _ _ _ => ?_ | refine stb_n ?_)) | ((with_reducible refine w2 ?_); try simp -implicitDefEqProofs only [EN, lsub, lget, stL, beq_self_eq_true, ne_eq, if_true, if_false, List.cons_append, List.nil_append, Option.isNone_some, Option.isNone_none, f1]; intro _ _) | ((with_reducible (first | refine w5 ?_ ?_ | refine w6 ?_ ?_ | refine w7 ?_ ?_)); simp; refine ⟨_, rfl, ?_⟩) | ((with_reducible (first | refine w8 ?_ ?_ ?_ | refine w9 ?_ ?_ ?_ | refine w10 ?_ ?_ ?_)); exact rfl; simp) | ((with_reducible refine w12 ?_ ?_ ?_ fun _ _ => ?_); simp; simp; simp [oneC]) | ((with_reducible (first | refine eqs ?_ | refine nes ?_)); refine ⟨_, rfl, ?_⟩) | ((refine okF_i (bldP_eq rfl) ?_); try simp only [BLS, List.take_succ_cons, List.take_zero, List.drop_succ_cons, List.drop_zero, List.cons_append, List.nil_append, Nat.reduceAdd])) | simp -implicitDefEqProofs only [EN, lsub, lget, stL, beq_self_eq_true, ne_eq, if_true, if_false, List.cons_append, List.nil_append, Option.isNone_some, Option.isNone_none, f1]))
    refine ⟨?_, St.nil (by first | assumption | exact St.tick (by assumption) | exact St.tick (St.tick (by assumption)))⟩
    congr 1
    unfold hasV
    symm
    rw [decide_eq_false_iff_not]
    omega
instance vecHas (x0 x1 x2 x3 x4 x5 x6 r n : Int) : Pure0 PR F_vec_Has [.agg #[.int .i64 x0, .int .i64 x1, .int .i64 x2, .int .i64 x3, .int .i64 x4, .int .i64 x5, .int .i64 x6], .agg #[.int .i64 r, .int .i64 n]] (.bool (hasV ⟨x0, x1, x2, x3, x4, x5, x6⟩ ⟨r, n⟩)) :=
  ⟨fun W => vecHas_run ⟨x0, x1, x2, x3, x4, x5, x6⟩ ⟨r, n⟩ W⟩
theorem vecLe_run (a b : P7 Int) (W : World) : callK PR F_vec_Le [.agg #[.int .i64 a.x0, .int .i64 a.x1, .int .i64 a.x2, .int .i64 a.x3, .int .i64 a.x4, .int .i64 a.x5, .int .i64 a.x6], .agg #[.int .i64 b.x0, .int .i64 b.x1, .int .i64 b.x2, .int .i64 b.x3, .int .i64 b.x4, .int .i64 b.x5, .int .i64 b.x6]] (fun u W' => u = .bool (leV a b) ∧ St W [] W') W := by
  apply S.vec_Le.call
  unfold S.vec_Le.body
  refine bxa (St.start W) fun p W1 h => ?_
  refine bxa h fun q W1 h => ?_
  refine loop_c (σ := Unit) 7 (fun i _ => [.pointer (some ⟨p, 0, none⟩), .pointer (some ⟨q, 0, none⟩), .int .i64 i]) (fun i _ W1 => (∀ j, j < i → a.get j ≤ b.get j) ∧ St W [cells q [.int .i64 b.x0, .int .i64 b.x1, .int .i64 b.x2, .int .i64 b.x3, .int .i64 b.x4, .int .i64 b.x5, .int .i64 b.x6] T_vec_Vec, cells p [.int .i64 a.x0, .int .i64 a.x1, .int .i64 a.x2, .int .i64 a.x3, .int .i64 a.x4, .int .i64 a.x5, .int .i64 a.x6] T_vec_Vec] W1) () rfl ⟨fun j h => by omega, h⟩ ?_
  clear h
  rintro K i _ W2 hi ⟨hv, h⟩ hK
  simp -implicitDefEqProofs only [EN, lsub, lget, stL, beq_self_eq_true, ne_eq, if_true, if_false, List.cons_append, List.nil_append, Option.isNone_some, Option.isNone_none]
  unfold S.vec_Le.l1
  by_cases hlt : (i : Int) < 7
  · have hi7 : i < 7 := by omega
    have ei := fun z => idxA7 (z := z) (i := i) hi7
    (repeat (first | (first | (with_reducible (first | refine w1 fun _ _ => ?_ | refine w3 fun _ _ _ => ?_ | refine w4 fun _ _ _ => ?_ | refine w11 fun _ _ _ => ?_ | refine stb_n ?_)) | ((with_reducible refine w2 ?_); try simp -implicitDefEqProofs only [EN, lsub, lget, stL, beq_self_eq_true, ne_eq, if_true, if_false, List.cons_append, List.nil_append, Option.isNone_some, Option.isNone_none, hlt, ei]; intro _ _) | ((with_reducible (first | refine w5 ?_ ?_ | refine w6 ?_ ?_ | refine w7 ?_ ?_)); simp; refine ⟨_, rfl, ?_⟩) | ((with_reducible (first | refine w8 ?_ ?_ ?_ | refine w9 ?_ ?_ ?_ | refine w10 ?_ ?_ ?_)); exact rfl; simp) | ((with_reducible refine w12 ?_ ?_ ?_ fun _ _ => ?_); simp; simp; simp [oneC]) | ((with_reducible (first | refine eqs ?_ | refine nes ?_)); refine ⟨_, rfl, ?_⟩) | ((refine okF_i (bldP_eq rfl) ?_); try simp only [BLS, List.take_succ_cons, List.take_zero, List.drop_succ_cons, List.drop_zero, List.cons_append, List.nil_append, Nat.reduceAdd])) | simp -implicitDefEqProofs only [EN, lsub, lget, stL, beq_self_eq_true, ne_eq, if_true, if_false, List.cons_append, List.nil_append, Option.isNone_some, Option.isNone_none, hlt, ei]))
    refine ld (v := .int .i64 (a.get i)) (by first | assumption | exact St.tick (by assumption) | exact St.tick (St.tick (by assumption))) (getL7 hi7) (by simp) ?_
    (repeat (first | (first | (with_reducible (first | refine w1 fun _ _ => ?_ | refine w3 fun _ _ _ => ?_ | refine w4 fun _ _ _ => ?_ | refine w11 fun _ _ _ => ?_ | refine stb_n ?_)) | ((with_reducible refine w2 ?_); try simp -implicitDefEqProofs only [EN, lsub, lget, stL, beq_self_eq_true, ne_eq, if_true, if_false, List.cons_append, List.nil_append, Option.isNone_some, Option.isNone_none, ei]; intro _ _) | ((with_reducible (first | refine w5 ?_ ?_ | refine w6 ?_ ?_ | refine w7 ?_ ?_)); simp; refine ⟨_, rfl, ?_⟩) | ((with_reducible (first | refine w8 ?_ ?_ ?_ | refine w9 ?_ ?_ ?_ | refine w10 ?_ ?_ ?_)); exact rfl; simp) | ((with_reducible refine w12 ?_ ?_ ?_ fun _ _ => ?_); simp; simp; simp [oneC]) | ((with_reducible (first | refine eqs ?_ | refine nes ?_)); refine ⟨_, rfl, ?_⟩) | ((refine okF_i (bldP_eq rfl) ?_); try simp only [BLS, List.take_succ_cons, List.take_zero, List.drop_succ_cons, List.drop_zero, List.cons_append, List.nil_append, Nat.reduceAdd])) | simp -implicitDefEqProofs only [EN, lsub, lget, stL, beq_self_eq_true, ne_eq, if_true, if_false, List.cons_append, List.nil_append, Option.isNone_some, Option.isNone_none, ei]))
    refine ld (v := .int .i64 (b.get i)) (by first | assumption | exact St.tick (by assumption) | exact St.tick (St.tick (by assumption))) (getL7 hi7) (by simp) ?_
    by_cases h1 : b.get i < a.get i
    · have hc : leV a b = false := by
        rw [Bool.eq_false_iff]; intro hd
        have := (leV_iff a b).1 hd i hi7
        omega
      (repeat (first | (first | (with_reducible (first | refine w1 fun _ _ => ?_ | refine w3 fun _ _ _ => ?_ | refine w4 fun _ _ _ => ?_ | refine w11 fun _ _ _ => ?_ | refine stb_n ?_)) | ((with_reducible refine w2 ?_); try simp -implicitDefEqProofs only [EN, lsub, lget, stL, beq_self_eq_true, ne_eq, if_true, if_false, List.cons_append, List.nil_append, Option.isNone_some, Option.isNone_none, h1]; intro _ _) | ((with_reducible (first | refine w5 ?_ ?_ | refine w6 ?_ ?_ | refine w7 ?_ ?_)); simp; refine ⟨_, rfl, ?_⟩) | ((with_reducible (first | refine w8 ?_ ?_ ?_ | refine w9 ?_ ?_ ?_ | refine w10 ?_ ?_ ?_)); exact rfl; simp) | ((with_reducible refine w12 ?_ ?_ ?_ fun _ _ => ?_); simp; simp; simp [oneC]) | ((with_reducible (first | refine eqs ?_ | refine nes ?_)); refine ⟨_, rfl, ?_⟩) | ((refine okF_i (bldP_eq rfl) ?_); try simp only [BLS, List.take_succ_cons, List.take_zero, List.drop_succ_cons, List.drop_zero, List.cons_append, List.nil_append, Nat.reduceAdd])) | simp -implicitDefEqProofs only [EN, lsub, lget, stL, beq_self_eq_true, ne_eq, if_true, if_false, List.cons_append, List.nil_append, Option.isNone_some, Option.isNone_none, h1]))
      exact ⟨by rw [hc], St.nil (by first | assumption | exact St.tick (by assumption) | exact St.tick (St.tick (by assumption)))⟩
    · have ew : IntKind.i64.wrap ((i : Int) + 1) = ((i + 1 : Nat) : Int) := by rw [i64w]; omega
      (repeat (first | (first | (with_reducible (first | refine w1 fun _ _ => ?_ | refine w3 fun _ _ _ => ?_ | refine w4 fun _ _ _ => ?_ | refine w11 fun _ _ _ => ?_ | refine stb_n ?_)) | ((with_reducible refine w2 ?_); try simp -implicitDefEqProofs only [EN, lsub, lget, stL, beq_self_eq_true, ne_eq, if_true, if_false, List.cons_append, List.nil_append, Option.isNone_some, Option.isNone_none, h1, ew]; intro _ _) | ((with_reducible (first | refine w5 ?_ ?_ | refine w6 ?_ ?_ | refine w7 ?_ ?_)); simp; refine ⟨_, rfl, ?_⟩) | ((with_reducible (first | refine w8 ?_ ?_ ?_ | refine w9 ?_ ?_ ?_ | refine w10 ?_ ?_ ?_)); exact rfl; simp) | ((with_reducible refine w12 ?_ ?_ ?_ fun _ _ => ?_); simp; simp; simp [oneC]) | ((with_reducible (first | refine eqs ?_ | refine nes ?_)); refine ⟨_, rfl, ?_⟩) | ((refine okF_i (bldP_eq rfl) ?_); try simp only [BLS, List.take_succ_cons, List.take_zero, List.drop_succ_cons, List.drop_zero, List.cons_append, List.nil_append, Nat.reduceAdd])) | simp -implicitDefEqProofs only [EN, lsub, lget, stL, beq_self_eq_true, ne_eq, if_true, if_false, List.cons_append, List.nil_append, Option.isNone_some, Option.isNone_none, h1, ew]))
      refine hK () _ hi7 ⟨fun j hj => ?_, (by first | assumption | exact St.tick (by assumption) | exact St.tick (St.tick (by assumption)))⟩
      by_cases hji : j = i
      · subst hji; omega
      · exact hv j (by omega)
  · (repeat (first | (first | (with_reducible (first | refine w1 fun _ _ => ?_ | refine w3 fun _ _ _ => ?_ | refine w4 fun _ _ _ => ?_ | refine w11 fun _ _ _ => ?_ | refine stb_n ?_)) | ((with_reducible refine w2 ?_); try simp -implicitDefEqProofs only [EN, lsub, lget, stL, beq_self_eq_true, ne_eq, if_true, if_false, List.cons_append, List.nil_append, Option.isNone_some, Option.isNone_none, hlt]; intro _ _) | ((with_reducible (first | refine w5 ?_ ?_ | refine w6 ?_ ?_ | refine w7 ?_ ?_)); simp; refine ⟨_, rfl, ?_⟩) | ((with_reducible (first | refine w8 ?_ ?_ ?_ | refine w9 ?_ ?_ ?_ | refine w10 ?_ ?_ ?_)); exact rfl; simp) | ((with_reducible refine w12 ?_ ?_ ?_ fun _ _ => ?_); simp; simp; simp [oneC]) | ((with_reducible (first | refine eqs ?_ | refine nes ?_)); refine ⟨_, rfl, ?_⟩) | ((refine okF_i (bldP_eq rfl) ?_); try simp only [BLS, List.take_succ_cons, List.take_zero, List.drop_succ_cons, List.drop_zero, List.cons_append, List.nil_append, Nat.reduceAdd])) | simp -implicitDefEqProofs only [EN, lsub, lget, stL, beq_self_eq_true, ne_eq, if_true, if_false, List.cons_append, List.nil_append, Option.isNone_some, Option.isNone_none, hlt]))
    exact ⟨by rw [(leV_iff a b).2 fun j hj => hv j (by omega)], St.nil (by first | assumption | exact St.tick (by assumption) | exact St.tick (St.tick (by assumption)))⟩
instance vecLe (x0 x1 x2 x3 x4 x5 x6 y0 y1 y2 y3 y4 y5 y6 : Int) : Pure0 PR F_vec_Le [.agg #[.int .i64 x0, .int .i64 x1, .int .i64 x2, .int .i64 x3, .int .i64 x4, .int .i64 x5, .int .i64 x6], .agg #[.int .i64 y0, .int .i64 y1, .int .i64 y2, .int .i64 y3, .int .i64 y4, .int .i64 y5, .int .i64 y6]] (.bool (leV ⟨x0, x1, x2, x3, x4, x5, x6⟩ ⟨y0, y1, y2, y3, y4, y5, y6⟩)) :=
  ⟨fun W => vecLe_run ⟨x0, x1, x2, x3, x4, x5, x6⟩ ⟨y0, y1, y2, y3, y4, y5, y6⟩ W⟩
theorem vecMerge {a b : P7 Int} {k : Value → World → Prop} (h : St W0 L W) (hk : ∀ W', St W0 L W' → k (.agg #[.int .i64 (vmerge a b).x0, .int .i64 (vmerge a b).x1, .int .i64 (vmerge a b).x2, .int .i64 (vmerge a b).x3, .int .i64 (vmerge a b).x4, .int .i64 (vmerge a b).x5, .int .i64 (vmerge a b).x6]) W') : callK PR F_vec_Merge [.agg #[.int .i64 a.x0, .int .i64 a.x1, .int .i64 a.x2, .int .i64 a.x3, .int .i64 a.x4, .int .i64 a.x5, .int .i64 a.x6], .agg #[.int .i64 b.x0, .int .i64 b.x1, .int .i64 b.x2, .int .i64 b.x3, .int .i64 b.x4, .int .i64 b.x5, .int .i64 b.x6]] k W := by
  apply S.vec_Merge.call
  unfold S.vec_Merge.body
  refine bxa h fun p W1 h => ?_
  refine bxa h fun q W1 h => ?_
  refine al h fun r W1 h => ?_
  refine joinK_i ?_
  refine loop_c (σ := P7 Int) 7 (fun i _ => [.pointer (some ⟨p, 0, none⟩), .pointer (some ⟨q, 0, none⟩), .pointer (some ⟨r, 0, none⟩), .int .i64 i])
    (fun i s W1 => (∀ j, j < 7 → s.get j = if j < i then imax (a.get j) (b.get j) else a.get j) ∧ St W0 (cells r [.int .i64 (P7.all 0).x0, .int .i64 (P7.all 0).x1, .int .i64 (P7.all 0).x2, .int .i64 (P7.all 0).x3, .int .i64 (P7.all 0).x4, .int .i64 (P7.all 0).x5, .int .i64 (P7.all 0).x6] T_vec_Vec :: cells q [.int .i64 b.x0, .int .i64 b.x1, .int .i64 b.x2, .int .i64 b.x3, .int .i64 b.x4, .int .i64 b.x5, .int .i64 b.x6] T_vec_Vec :: cells p [.int .i64 s.x0, .int .i64 s.x1, .int .i64 s.x2, .int .i64 s.x3, .int .i64 s.x4, .int .i64 s.x5, .int .i64 s.x6] T_vec_Vec :: L) W1)
    a rfl ⟨fun j h => by simp, h⟩ ?_
  clear h
  rintro K i s W2 hi ⟨hs, h⟩ hK
  simp -implicitDefEqProofs only [EN, lsub, lget, stL, beq_self_eq_true, ne_eq, if_true, if_false, List.cons_append, List.nil_append, Option.isNone_some, Option.isNone_none]
  unfold S.vec_Merge.l1
  have ew : IntKind.i64.wrap ((i : Int) + 1) = ((i + 1 : Nat) : Int) := by rw [i64w]; omega
  by_cases hlt : i < 7
  · have hK' : ∀ W', St W0 (cells r [.int .i64 (P7.all 0).x0, .int .i64 (P7.all 0).x1, .int .i64 (P7.all 0).x2, .int .i64 (P7.all 0).x3, .int .i64 (P7.all 0).x4, .int .i64 (P7.all 0).x5, .int .i64 (P7.all 0).x6] T_vec_Vec :: cells q [.int .i64 b.x0, .int .i64 b.x1, .int .i64 b.x2, .int .i64 b.x3, .int .i64 b.x4, .int .i64 b.x5, .int .i64 b.x6] T_vec_Vec :: cells p [.int .i64 (s.set i (imax (s.get i) (b.get i))).x0, .int .i64 (s.set i (imax (s.get i) (b.get i))).x1, .int .i64 (s.set i (imax (s.get i) (b.get i))).x2, .int .i64 (s.set i (imax (s.get i) (b.get i))).x3, .int .i64 (s.set i (imax (s.get i) (b.get i))).x4, .int .i64 (s.set i (imax (s.get i) (b.get i))).x5, .int .i64 (s.set i (imax (s.get i) (b.get i))).x6] T_vec_Vec :: L) W' → K [.pointer (some ⟨p, 0, none⟩), .pointer (some ⟨q, 0, none⟩), .pointer (some ⟨r, 0, none⟩), .int .i64 ((i + 1 : Nat) : Int)] W' :=
      fun W' h => hK _ W' hlt ⟨fun j hj => by
        rw [P7.get_set _ _ _ _ hj]
        by_cases hji : j = i
        · subst hji; rw [if_pos rfl, if_pos (by omega), hs j hj, if_neg (by omega)]
        · rw [if_neg hji, hs j hj]
          by_cases h1 : j < i
          · rw [if_pos h1, if_pos (by omega)]
          · rw [if_neg h1, if_neg (by omega)], h⟩
    clear hK hs
    have ia : ∀ z, idxA 7 1 (.pointer (some ⟨z, 0, none⟩)) (.int .i64 (i : Int)) = some (.pointer (some ⟨z, i, none⟩)) := fun z => idxA7 hlt
    have e1 : decide ((i : Int) < 7) = true := decide_eq_true (by omega)
    rcases P7.cases7 hlt with rfl | rfl | rfl | rfl | rfl | rfl | rfl
    all_goals
      (repeat (first | (first | (with_reducible (first | refine w1 fun _ _ => ?_ | refine w3 fun _ _ _ => ?_ | refine w4 fun _ _ _ => ?_ | refine w11 fun _ _ _ => ?_ | refine stb_n ?_)) | ((with_reducible refine w2 ?_); try simp -implicitDefEqProofs only [EN, lsub, lget, stL, beq_self_eq_true, ne_eq, if_true, if_false, List.cons_append, List.nil_append, Option.isNone_some, Option.isNone_none, e1, ia, max2i, ew]; intro _ _) | ((with_reducible (first | refine w5 ?_ ?_ | refine w6 ?_ ?_ | refine w7 ?_ ?_)); simp; refine ⟨_, rfl, ?_⟩) | ((with_reducible (first | refine w8 ?_ ?_ ?_ | refine w9 ?_ ?_ ?_ | refine w10 ?_ ?_ ?_)); exact rfl; simp) | ((with_reducible refine w12 ?_ ?_ ?_ fun _ _ => ?_); simp; simp; simp [oneC]) | ((with_reducible (first | refine eqs ?_ | refine nes ?_)); refine ⟨_, rfl, ?_⟩) | ((refine okF_i (bldP_eq rfl) ?_); try simp only [BLS, List.take_succ_cons, List.take_zero, List.drop_succ_cons, List.drop_zero, List.cons_append, List.nil_append, Nat.reduceAdd])) | simp -implicitDefEqProofs only [EN, lsub, lget, stL, beq_self_eq_true, ne_eq, if_true, if_false, List.cons_append, List.nil_append, Option.isNone_some, Option.isNone_none, e1, ia, max2i, ew]))
      exact hK' _ (by first | assumption | exact St.tick (by assumption) | exact St.tick (St.tick (by assumption)))
  · have e1 : decide ((i : Int) < 7) = false := decide_eq_false (by omega)
    (repeat (first | (first | (with_reducible (first | refine w1 fun _ _ => ?_ | refine w3 fun _ _ _ => ?_ | refine w4 fun _ _ _ => ?_ | refine w11 fun _ _ _ => ?_ | refine stb_n ?_)) | ((with_reducible refine w2 ?_); try simp -implicitDefEqProofs only [EN, lsub, lget, stL, beq_self_eq_true, ne_eq, if_true, if_false, List.cons_append, List.nil_append, Option.isNone_some, Option.isNone_none, e1]; intro _ _) | ((with_reducible (first | refine w5 ?_ ?_ | refine w6 ?_ ?_ | refine w7 ?_ ?_)); simp; refine ⟨_, rfl, ?_⟩) | ((with_reducible (first | refine w8 ?_ ?_ ?_ | refine w9 ?_ ?_ ?_ | refine w10 ?_ ?_ ?_)); exact rfl; simp) | ((with_reducible refine w12 ?_ ?_ ?_ fun _ _ => ?_); simp; simp; simp [oneC]) | ((with_reducible (first | refine eqs ?_ | refine nes ?_)); refine ⟨_, rfl, ?_⟩) | ((refine okF_i (bldP_eq rfl) ?_); try simp only [BLS, List.take_succ_cons, List.take_zero, List.drop_succ_cons, List.drop_zero, List.cons_append, List.nil_append, Nat.reduceAdd])) | simp -implicitDefEqProofs only [EN, lsub, lget, stL, beq_self_eq_true, ne_eq, if_true, if_false, List.cons_append, List.nil_append, Option.isNone_some, Option.isNone_none, e1]))
    unfold S.vec_Merge.j1
    (repeat (first | (first | (with_reducible (first | refine w1 fun _ _ => ?_ | refine w3 fun _ _ _ => ?_ | refine w4 fun _ _ _ => ?_ | refine w11 fun _ _ _ => ?_ | refine stb_n ?_)) | ((with_reducible refine w2 ?_); try simp -implicitDefEqProofs only [EN, lsub, lget, stL, beq_self_eq_true, ne_eq, if_true, if_false, List.cons_append, List.nil_append, Option.isNone_some, Option.isNone_none]; intro _ _) | ((with_reducible (first | refine w5 ?_ ?_ | refine w6 ?_ ?_ | refine w7 ?_ ?_)); simp; refine ⟨_, rfl, ?_⟩) | ((with_reducible (first | refine w8 ?_ ?_ ?_ | refine w9 ?_ ?_ ?_ | refine w10 ?_ ?_ ?_)); exact rfl; simp) | ((with_reducible refine w12 ?_ ?_ ?_ fun _ _ => ?_); simp; simp; simp [oneC]) | ((with_reducible (first | refine eqs ?_ | refine nes ?_)); refine ⟨_, rfl, ?_⟩) | ((refine okF_i (bldP_eq rfl) ?_); try simp only [BLS, List.take_succ_cons, List.take_zero, List.drop_succ_cons, List.drop_zero, List.cons_append, List.nil_append, Nat.reduceAdd])) | simp -implicitDefEqProofs only [EN, lsub, lget, stL, beq_self_eq_true, ne_eq, if_true, if_false, List.cons_append, List.nil_append, Option.isNone_some, Option.isNone_none]))
    have hi7 : i = 7 := by omega
    subst hi7
    have : s = vmerge a b := P7.ext7 fun j hj => by rw [hs j hj, if_pos hj, vmerge, P7.get_zip]
    rw [this] at *
    exact hk _ (St.wk (by first | assumption | exact St.tick (by assumption) | exact St.tick (St.tick (by assumption))))
end
end Go.Proofs.Ytmojfpaagokckaa
