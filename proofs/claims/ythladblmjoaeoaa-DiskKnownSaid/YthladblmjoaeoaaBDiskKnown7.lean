/- 'DiskKnown' holds. Printed by an own tool (wip/tools/law.py), after the kit's shell. -/
import Derived.Test.YthladblmjoaeoaaBDiskKnown6
import Derived.Test.YthladblmjoaeoaaRows
import Derived.WalkKit
import Derived.ProofKit
namespace Go.Proofs.Ythladblmjoaeoaa
set_option linter.unusedVariables false
set_option linter.unusedSimpArgs false
open Go Go.Eng Go.RowKit

structure Lo (W W' : World) : Prop where
  below : Below W.heap.size W W'
theorem St.startz (W : World) : St { W with drawn := 0 } [] W := ⟨⟨⟨rfl, rfl, rfl, Nat.le_refl _, fun _ _ => rfl⟩, Nat.zero_le _⟩, fun _ => none, fun _ => rfl, fun b o h => by cases h⟩
theorem St.lo {W W' : World} {L : List Asn} (h : St { W with drawn := 0 } L W') : Lo W W' := ⟨⟨h.bel.os, h.bel.tape, h.bel.output, h.bel.size, h.bel.block⟩⟩
section
variable {W0 W : World} {L L' : List Asn}
theorem diskNewNo {n : Int} {k : Value → World → Prop} (h : St W0 L W) (h0 : n < 64 ∨ 1048576 < n)
    (hk : ∀ W', St W0 L W' → k (.tuple #[.pointer none, .int .i64 1]) W') : callK PR F_disk_New [.int .i64 n] k W := by
  apply S.disk_New.call
  unfold S.disk_New.body
  by_cases h1 : n < 64
  · (repeat (first | (first | (with_reducible (first | refine w1 fun _ _ => ?_ | refine w3 fun _ _ _ => ?_ | refine w4 fun _ _ _ => ?_ | refine w11 fun _ _ _ => ?_ | refine stb_n ?_)) | ((with_reducible refine w2 ?_); try simp -implicitDefEqProofs only [EN, lsub, lget, stL, beq_self_eq_true, ne_eq, if_true, if_false, List.cons_append, List.nil_append, Option.isNone_some, Option.isNone_none, h1]; intro _ _) | ((with_reducible (first | refine w5 ?_ ?_ | refine w6 ?_ ?_ | refine w7 ?_ ?_)); simp; refine ⟨_, rfl, ?_⟩) | ((with_reducible (first | refine w8 ?_ ?_ ?_ | refine w9 ?_ ?_ ?_ | refine w10 ?_ ?_ ?_)); exact rfl; simp) | ((with_reducible refine w12 ?_ ?_ ?_ fun _ _ => ?_); simp; simp; simp [oneC]) | ((with_reducible (first | refine eqs ?_ | refine nes ?_)); refine ⟨_, rfl, ?_⟩) | ((refine okF_i (bldP_eq rfl) ?_); try simp only [BLS, List.take_succ_cons, List.take_zero, List.drop_succ_cons, List.drop_zero, List.cons_append, List.nil_append, Nat.reduceAdd])) | simp -implicitDefEqProofs only [EN, lsub, lget, stL, beq_self_eq_true, ne_eq, if_true, if_false, List.cons_append, List.nil_append, Option.isNone_some, Option.isNone_none, h1]))
    exact hk _ h
  · have h2 : 1048576 < n := by omega
    (repeat (first | (first | (with_reducible (first | refine w1 fun _ _ => ?_ | refine w3 fun _ _ _ => ?_ | refine w4 fun _ _ _ => ?_ | refine w11 fun _ _ _ => ?_ | refine stb_n ?_)) | ((with_reducible refine w2 ?_); try simp -implicitDefEqProofs only [EN, lsub, lget, stL, beq_self_eq_true, ne_eq, if_true, if_false, List.cons_append, List.nil_append, Option.isNone_some, Option.isNone_none, h1, h2]; intro _ _) | ((with_reducible (first | refine w5 ?_ ?_ | refine w6 ?_ ?_ | refine w7 ?_ ?_)); simp; refine ⟨_, rfl, ?_⟩) | ((with_reducible (first | refine w8 ?_ ?_ ?_ | refine w9 ?_ ?_ ?_ | refine w10 ?_ ?_ ?_)); exact rfl; simp) | ((with_reducible refine w12 ?_ ?_ ?_ fun _ _ => ?_); simp; simp; simp [oneC]) | ((with_reducible (first | refine eqs ?_ | refine nes ?_)); refine ⟨_, rfl, ?_⟩) | ((refine okF_i (bldP_eq rfl) ?_); try simp only [BLS, List.take_succ_cons, List.take_zero, List.drop_succ_cons, List.drop_zero, List.cons_append, List.nil_append, Nat.reduceAdd])) | simp -implicitDefEqProofs only [EN, lsub, lget, stL, beq_self_eq_true, ne_eq, if_true, if_false, List.cons_append, List.nil_append, Option.isNone_some, Option.isNone_none, h1, h2]))
    exact hk _ h
end
theorem sort29 : ([9, 2] : List Int).mergeSort (fun x y => decide (x ≤ y)) = [2, 9] := by
  have e : ([9, 2] : List Int).mergeSort (fun x y => decide (x ≤ y)) = ([2, 9] : List Int).mergeSort (fun x y => decide (x ≤ y)) := mergeSort_of_perm_i (List.Perm.swap 2 9 [])
  rw [e]
  exact List.mergeSort_of_pairwise (by simp)
set_option maxRecDepth 100000 in
set_option maxHeartbeats 4000000 in
theorem diskKnown_walk {W : World} : callK PR F_rostrumlaw5_DiskKnown [] (fun v W' => v = .bool true ∧ Lo W W') W := by
  apply S.rostrumlaw5_DiskKnown.call
  unfold S.rostrumlaw5_DiskKnown.body
  have h := St.startz W
  (repeat (first | (first | (with_reducible (first | refine w1 fun _ _ => ?_ | refine w3 fun _ _ _ => ?_ | refine w4 fun _ _ _ => ?_ | refine w11 fun _ _ _ => ?_ | refine stb_n ?_)) | ((with_reducible refine w2 ?_); try simp -implicitDefEqProofs only [EN, lsub, lget, stL, beq_self_eq_true, ne_eq, if_true, if_false, List.cons_append, List.nil_append, Option.isNone_some, Option.isNone_none]; intro _ _) | ((with_reducible (first | refine w5 ?_ ?_ | refine w6 ?_ ?_ | refine w7 ?_ ?_)); simp; refine ⟨_, rfl, ?_⟩) | ((with_reducible (first | refine w8 ?_ ?_ ?_ | refine w9 ?_ ?_ ?_ | refine w10 ?_ ?_ ?_)); exact rfl; simp) | ((with_reducible refine w12 ?_ ?_ ?_ fun _ _ => ?_); simp; simp; simp [oneC]) | ((with_reducible (first | refine eqs ?_ | refine nes ?_)); refine ⟨_, rfl, ?_⟩) | ((refine okF_i (bldP_eq rfl) ?_); try simp only [BLS, List.take_succ_cons, List.take_zero, List.drop_succ_cons, List.drop_zero, List.cons_append, List.nil_append, Nat.reduceAdd])) | simp -implicitDefEqProofs only [EN, lsub, lget, stL, beq_self_eq_true, ne_eq, if_true, if_false, List.cons_append, List.nil_append, Option.isNone_some, Option.isNone_none]))
  refine diskNewNo (by first | assumption | exact St.tick (by assumption) | exact St.tick (St.tick (by assumption))) (.inl (by decide)) fun W1 h => ?_
  (repeat (first | (first | (with_reducible (first | refine w1 fun _ _ => ?_ | refine w3 fun _ _ _ => ?_ | refine w4 fun _ _ _ => ?_ | refine w11 fun _ _ _ => ?_ | refine stb_n ?_)) | ((with_reducible refine w2 ?_); try simp -implicitDefEqProofs only [EN, lsub, lget, stL, beq_self_eq_true, ne_eq, if_true, if_false, List.cons_append, List.nil_append, Option.isNone_some, Option.isNone_none]; intro _ _) | ((with_reducible (first | refine w5 ?_ ?_ | refine w6 ?_ ?_ | refine w7 ?_ ?_)); simp; refine ⟨_, rfl, ?_⟩) | ((with_reducible (first | refine w8 ?_ ?_ ?_ | refine w9 ?_ ?_ ?_ | refine w10 ?_ ?_ ?_)); exact rfl; simp) | ((with_reducible refine w12 ?_ ?_ ?_ fun _ _ => ?_); simp; simp; simp [oneC]) | ((with_reducible (first | refine eqs ?_ | refine nes ?_)); refine ⟨_, rfl, ?_⟩) | ((refine okF_i (bldP_eq rfl) ?_); try simp only [BLS, List.take_succ_cons, List.take_zero, List.drop_succ_cons, List.drop_zero, List.cons_append, List.nil_append, Nat.reduceAdd])) | simp -implicitDefEqProofs only [EN, lsub, lget, stL, beq_self_eq_true, ne_eq, if_true, if_false, List.cons_append, List.nil_append, Option.isNone_some, Option.isNone_none]))
  refine diskNew (by first | assumption | exact St.tick (by assumption) | exact St.tick (St.tick (by assumption))) (by omega) (by omega) fun p W1 h => ?_
  have ok0 : DS.ok ⟨64, [], [], true, 1⟩ := ⟨by decide, by decide, by decide⟩
  have ft0 : DS.fit ⟨64, [], [], true, 1⟩ := trivial
  (repeat (first | (first | (with_reducible (first | refine w1 fun _ _ => ?_ | refine w3 fun _ _ _ => ?_ | refine w4 fun _ _ _ => ?_ | refine w11 fun _ _ _ => ?_ | refine stb_n ?_)) | ((with_reducible refine w2 ?_); try simp -implicitDefEqProofs only [EN, lsub, lget, stL, beq_self_eq_true, ne_eq, if_true, if_false, List.cons_append, List.nil_append, Option.isNone_some, Option.isNone_none]; intro _ _) | ((with_reducible (first | refine w5 ?_ ?_ | refine w6 ?_ ?_ | refine w7 ?_ ?_)); simp; refine ⟨_, rfl, ?_⟩) | ((with_reducible (first | refine w8 ?_ ?_ ?_ | refine w9 ?_ ?_ ?_ | refine w10 ?_ ?_ ?_)); exact rfl; simp) | ((with_reducible refine w12 ?_ ?_ ?_ fun _ _ => ?_); simp; simp; simp [oneC]) | ((with_reducible (first | refine eqs ?_ | refine nes ?_)); refine ⟨_, rfl, ?_⟩) | ((refine okF_i (bldP_eq rfl) ?_); try simp only [BLS, List.take_succ_cons, List.take_zero, List.drop_succ_cons, List.drop_zero, List.cons_append, List.nil_append, Nat.reduceAdd])) | simp -implicitDefEqProofs only [EN, lsub, lget, stL, beq_self_eq_true, ne_eq, if_true, if_false, List.cons_append, List.nil_append, Option.isNone_some, Option.isNone_none]))
  haveI : Rd { W with drawn := 0 } [] none B8 [] := Rd.nil _ _ _ _
  refine diskAppend (f := -1) (a := none) (c := 0) (bs := []) (by first | assumption | exact St.tick (by assumption) | exact St.tick (St.tick (by assumption))) ok0 (by decide) (by decide) fun W2 h => ?_
  rw [show DS.append ⟨64, [], [], true, 1⟩ (-1) [] = (⟨64, [], [], true, 1⟩, 1) from rfl] at h ⊢
  refine diskAppend (f := 1000) (a := none) (c := 0) (bs := []) (by first | assumption | exact St.tick (by assumption) | exact St.tick (St.tick (by assumption))) ok0 (by decide) (by decide) fun W3 h => ?_
  rw [show DS.append ⟨64, [], [], true, 1⟩ 1000 [] = (⟨64, [], [], true, 1⟩, 1) from rfl] at h ⊢
  refine mkS (A := B8) 0 65 (by first | assumption | exact St.tick (by assumption) | exact St.tick (St.tick (by assumption))) rfl rfl (by decide) (by decide) fun a1 c1 W4 h => ?_
  have h := St.perm h (List.Perm.swap _ _ _)
  refine diskAppend (f := 5) (a := a1) (bs := List.replicate 65 0) (by first | assumption | exact St.tick (by assumption) | exact St.tick (St.tick (by assumption))) ok0 (by simp) (by decide) fun W5 h => ?_
  rw [show DS.append ⟨64, [], [], true, 1⟩ 5 (List.replicate 65 0) = (⟨64, [], [], true, 1⟩, 6) from rfl] at h ⊢
  have h : St { W with drawn := 0 } [dk p ⟨64, [], [], true, 1⟩] W5 := St.wk h
  refine diskSync (f := 5) (d := ⟨64, [], [], true, 1⟩) (by first | assumption | exact St.tick (by assumption) | exact St.tick (St.tick (by assumption))) (by decide) fun W6 h => ?_
  rw [show DS.sync ⟨64, [], [], true, 1⟩ 5 = (⟨64, [], [], true, 1⟩, 4) from rfl] at h ⊢
  refine bytesLit [97, 98, 99] (by first | assumption | exact St.tick (by assumption) | exact St.tick (St.tick (by assumption))) rfl (by decide) (by decide) rfl fun a2 c2 W7 h => ?_
  have h := St.perm h (List.Perm.swap _ _ _)
  have ok1 := ok0.append 9 [97, 98, 99]
  have ft1 := ft0.append 9 [97, 98, 99]
  have s1 : DS.append ⟨64, [], [], true, 1⟩ 9 [97, 98, 99] = (⟨64, [(9, [97, 98, 99])], [(9, 0, 3)], true, 1⟩, 0) := rfl
  refine diskAppend (f := 9) (a := a2) (bs := [97, 98, 99]) (by first | assumption | exact St.tick (by assumption) | exact St.tick (St.tick (by assumption))) ok0 (by decide) (by decide) fun W8 h => ?_
  rw [s1] at h ok1 ft1
  have h : St { W with drawn := 0 } [dk p ⟨64, [(9, [97, 98, 99])], [(9, 0, 3)], true, 1⟩] W8 := St.wk h
  refine diskSync (f := 9) (d := ⟨64, [(9, [97, 98, 99])], [(9, 0, 3)], true, 1⟩) (by first | assumption | exact St.tick (by assumption) | exact St.tick (St.tick (by assumption))) (by decide) fun W9 h => ?_
  rw [show DS.sync ⟨64, [(9, [97, 98, 99])], [(9, 0, 3)], true, 1⟩ 9 = (⟨64, [(9, [97, 98, 99])], [], true, 1⟩, 0) from rfl] at h
  have ok2 : DS.ok ⟨64, [(9, [97, 98, 99])], [], true, 1⟩ := ⟨by decide, by decide, by decide⟩
  refine diskSpoil (f := 9) (at' := 1) (b := 1) (d := ⟨64, [(9, [97, 98, 99])], [], true, 1⟩) (by first | assumption | exact St.tick (by assumption) | exact St.tick (St.tick (by assumption))) ok2 fun W10 h => ?_
  rw [show DS.spoil ⟨64, [(9, [97, 98, 99])], [], true, 1⟩ 9 1 1 = (⟨64, [(9, [97, 99, 99])], [], true, 1⟩, true) by rfl] at h ⊢
  have ok3 : DS.ok ⟨64, [(9, [97, 99, 99])], [], true, 1⟩ := ⟨by decide, by decide, by decide⟩
  refine diskSpoil (f := 9) (at' := 3) (b := 1) (d := ⟨64, [(9, [97, 99, 99])], [], true, 1⟩) (by first | assumption | exact St.tick (by assumption) | exact St.tick (St.tick (by assumption))) ok3 fun W11 h => ?_
  rw [show DS.spoil ⟨64, [(9, [97, 99, 99])], [], true, 1⟩ 9 3 1 = (⟨64, [(9, [97, 99, 99])], [], true, 1⟩, false) by rfl] at h ⊢
  refine diskSpoil (f := 9) (at' := 0) (b := 0) (d := ⟨64, [(9, [97, 99, 99])], [], true, 1⟩) (by first | assumption | exact St.tick (by assumption) | exact St.tick (St.tick (by assumption))) ok3 fun W12 h => ?_
  rw [show DS.spoil ⟨64, [(9, [97, 99, 99])], [], true, 1⟩ 9 0 0 = (⟨64, [(9, [97, 99, 99])], [], true, 1⟩, false) by rfl] at h ⊢
  refine diskRead (f := 9) (d := ⟨64, [(9, [97, 99, 99])], [], true, 1⟩) (by first | assumption | exact St.tick (by assumption) | exact St.tick (St.tick (by assumption))) (by decide) fun a3 c3 W13 h => ?_
  rw [show DS.read ⟨64, [(9, [97, 99, 99])], [], true, 1⟩ 9 = ([97, 99, 99], 0) by rfl] at h ⊢
  (repeat (first | (first | (with_reducible (first | refine w1 fun _ _ => ?_ | refine w3 fun _ _ _ => ?_ | refine w4 fun _ _ _ => ?_ | refine w11 fun _ _ _ => ?_ | refine stb_n ?_)) | ((with_reducible refine w2 ?_); try simp -implicitDefEqProofs only [EN, lsub, lget, stL, beq_self_eq_true, ne_eq, if_true, if_false, List.cons_append, List.nil_append, Option.isNone_some, Option.isNone_none]; intro _ _) | ((with_reducible (first | refine w5 ?_ ?_ | refine w6 ?_ ?_ | refine w7 ?_ ?_)); simp; refine ⟨_, rfl, ?_⟩) | ((with_reducible (first | refine w8 ?_ ?_ ?_ | refine w9 ?_ ?_ ?_ | refine w10 ?_ ?_ ?_)); exact rfl; simp) | ((with_reducible refine w12 ?_ ?_ ?_ fun _ _ => ?_); simp; simp; simp [oneC]) | ((with_reducible (first | refine eqs ?_ | refine nes ?_)); refine ⟨_, rfl, ?_⟩) | ((refine okF_i (bldP_eq rfl) ?_); try simp only [BLS, List.take_succ_cons, List.take_zero, List.drop_succ_cons, List.drop_zero, List.cons_append, List.nil_append, Nat.reduceAdd])) | simp -implicitDefEqProofs only [EN, lsub, lget, stL, beq_self_eq_true, ne_eq, if_true, if_false, List.cons_append, List.nil_append, Option.isNone_some, Option.isNone_none]))
  have h := St.perm h (List.Perm.swap _ _ _)
  haveI : Rd { W with drawn := 0 } [arr B8 T_uint8 a3 c3 [97, 99, 99]] none B8 [] := Rd.nil _ _ _ _
  have ft3 : DS.fit ⟨64, [(9, [97, 99, 99])], [], true, 1⟩ := trivial
  have ft4 := ft3.append 2 []
  have ok4 := ok3.append 2 []
  have s4 : DS.append ⟨64, [(9, [97, 99, 99])], [], true, 1⟩ 2 [] = (⟨64, [(9, [97, 99, 99]), (2, [])], [(2, 0, 0)], true, 1⟩, 0) := rfl
  refine diskAppend (f := 2) (a := none) (c := 0) (bs := []) (by first | assumption | exact St.tick (by assumption) | exact St.tick (St.tick (by assumption))) ok3 (by decide) (by decide) fun W14 h => ?_
  rw [s4] at h ft4 ok4
  refine diskFiles (d := ⟨64, [(9, [97, 99, 99]), (2, [])], [(2, 0, 0)], true, 1⟩) (by first | assumption | exact St.tick (by assumption) | exact St.tick (St.tick (by assumption))) rfl (by decide) (by simp) fun a4 c4 W15 h => ?_
  rw [show DS.files ⟨64, [(9, [97, 99, 99]), (2, [])], [(2, 0, 0)], true, 1⟩ = [2, 9] from sort29] at h ⊢
  refine diskCrash (keep := 0) (torn := 0) (d := ⟨64, [(9, [97, 99, 99]), (2, [])], [(2, 0, 0)], true, 1⟩) (by first | assumption | exact St.tick (by assumption) | exact St.tick (St.tick (by assumption))) ok4 ft4 (by decide) fun W16 h => ?_
  rw [show DS.crash ⟨64, [(9, [97, 99, 99]), (2, [])], [(2, 0, 0)], true, 1⟩ 0 0 = ⟨64, [(9, [97, 99, 99]), (2, [])], [], false, 1⟩ by rfl] at h
  refine diskFiles (d := ⟨64, [(9, [97, 99, 99]), (2, [])], [], false, 1⟩) (by first | assumption | exact St.tick (by assumption) | exact St.tick (St.tick (by assumption))) rfl (by decide) (by simp) fun a5 c5 W17 h => ?_
  rw [show DS.files ⟨64, [(9, [97, 99, 99]), (2, [])], [], false, 1⟩ = [] from rfl] at h ⊢
  refine diskOn (by first | assumption | exact St.tick (by assumption) | exact St.tick (St.tick (by assumption))) fun W18 h => ?_
  rw [show DS.power ⟨64, [(9, [97, 99, 99]), (2, [])], [], false, 1⟩ = ⟨64, [(9, [97, 99, 99]), (2, [])], [], true, 2⟩ by rfl] at h
  refine diskRead (f := 9) (d := ⟨64, [(9, [97, 99, 99]), (2, [])], [], true, 2⟩) (by first | assumption | exact St.tick (by assumption) | exact St.tick (St.tick (by assumption))) (by decide) fun a6 c6 W19 h => ?_
  rw [show DS.read ⟨64, [(9, [97, 99, 99]), (2, [])], [], true, 2⟩ 9 = ([97, 99, 99], 0) by rfl] at h ⊢
  (repeat (first | (first | (with_reducible (first | refine w1 fun _ _ => ?_ | refine w3 fun _ _ _ => ?_ | refine w4 fun _ _ _ => ?_ | refine w11 fun _ _ _ => ?_ | refine stb_n ?_)) | ((with_reducible refine w2 ?_); try simp -implicitDefEqProofs only [EN, lsub, lget, stL, beq_self_eq_true, ne_eq, if_true, if_false, List.cons_append, List.nil_append, Option.isNone_some, Option.isNone_none]; intro _ _) | ((with_reducible (first | refine w5 ?_ ?_ | refine w6 ?_ ?_ | refine w7 ?_ ?_)); simp; refine ⟨_, rfl, ?_⟩) | ((with_reducible (first | refine w8 ?_ ?_ ?_ | refine w9 ?_ ?_ ?_ | refine w10 ?_ ?_ ?_)); exact rfl; simp) | ((with_reducible refine w12 ?_ ?_ ?_ fun _ _ => ?_); simp; simp; simp [oneC]) | ((with_reducible (first | refine eqs ?_ | refine nes ?_)); refine ⟨_, rfl, ?_⟩) | ((refine okF_i (bldP_eq rfl) ?_); try simp only [BLS, List.take_succ_cons, List.take_zero, List.drop_succ_cons, List.drop_zero, List.cons_append, List.nil_append, Nat.reduceAdd])) | simp -implicitDefEqProofs only [EN, lsub, lget, stL, beq_self_eq_true, ne_eq, if_true, if_false, List.cons_append, List.nil_append, Option.isNone_some, Option.isNone_none]))
  refine diskDrop (f := 9) (d := ⟨64, [(9, [97, 99, 99]), (2, [])], [], true, 2⟩) (by first | assumption | exact St.tick (by assumption) | exact St.tick (St.tick (by assumption))) (by decide) fun W20 h => ?_
  rw [show DS.drop ⟨64, [(9, [97, 99, 99]), (2, [])], [], true, 2⟩ 9 = (⟨64, [(2, [])], [], true, 2⟩, 0) by rfl] at h ⊢
  refine diskDrop (f := 9) (d := ⟨64, [(2, [])], [], true, 2⟩) (by first | assumption | exact St.tick (by assumption) | exact St.tick (St.tick (by assumption))) (by decide) fun W21 h => ?_
  rw [show DS.drop ⟨64, [(2, [])], [], true, 2⟩ 9 = (⟨64, [(2, [])], [], true, 2⟩, 4) by rfl] at h ⊢
  have h : St { W with drawn := 0 } (dk p ⟨64, [(2, [])], [], true, 2⟩ :: arr B8 T_uint8 a3 c3 [97, 99, 99] :: arr I64 T_int a4 c4 [2, 9] :: arr B8 T_uint8 a6 c6 [97, 99, 99] :: []) W21 := St.wk h
  (repeat (first | (first | (with_reducible (first | refine w1 fun _ _ => ?_ | refine w3 fun _ _ _ => ?_ | refine w4 fun _ _ _ => ?_ | refine w11 fun _ _ _ => ?_ | refine stb_n ?_)) | ((with_reducible refine w2 ?_); try simp -implicitDefEqProofs only [EN, lsub, lget, stL, beq_self_eq_true, ne_eq, if_true, if_false, List.cons_append, List.nil_append, Option.isNone_some, Option.isNone_none]; intro _ _) | ((with_reducible (first | refine w5 ?_ ?_ | refine w6 ?_ ?_ | refine w7 ?_ ?_)); simp; refine ⟨_, rfl, ?_⟩) | ((with_reducible (first | refine w8 ?_ ?_ ?_ | refine w9 ?_ ?_ ?_ | refine w10 ?_ ?_ ?_)); exact rfl; simp) | ((with_reducible refine w12 ?_ ?_ ?_ fun _ _ => ?_); simp; simp; simp [oneC]) | ((with_reducible (first | refine eqs ?_ | refine nes ?_)); refine ⟨_, rfl, ?_⟩) | ((refine okF_i (bldP_eq rfl) ?_); try simp only [BLS, List.take_succ_cons, List.take_zero, List.drop_succ_cons, List.drop_zero, List.cons_append, List.nil_append, Nat.reduceAdd])) | simp -implicitDefEqProofs only [EN, lsub, lget, stL, beq_self_eq_true, ne_eq, if_true, if_false, List.cons_append, List.nil_append, Option.isNone_some, Option.isNone_none]))
  refine b2s (a := a3) (l := [97, 99, 99]) (by first | assumption | exact St.tick (by assumption) | exact St.tick (St.tick (by assumption))) ?_
  (repeat (first | (first | (with_reducible (first | refine w1 fun _ _ => ?_ | refine w3 fun _ _ _ => ?_ | refine w4 fun _ _ _ => ?_ | refine w11 fun _ _ _ => ?_ | refine stb_n ?_)) | ((with_reducible refine w2 ?_); try simp -implicitDefEqProofs only [EN, lsub, lget, stL, beq_self_eq_true, ne_eq, if_true, if_false, List.cons_append, List.nil_append, Option.isNone_some, Option.isNone_none, eq_self]; intro _ _) | ((with_reducible (first | refine w5 ?_ ?_ | refine w6 ?_ ?_ | refine w7 ?_ ?_)); simp; refine ⟨_, rfl, ?_⟩) | ((with_reducible (first | refine w8 ?_ ?_ ?_ | refine w9 ?_ ?_ ?_ | refine w10 ?_ ?_ ?_)); exact rfl; simp) | ((with_reducible refine w12 ?_ ?_ ?_ fun _ _ => ?_); simp; simp; simp [oneC]) | ((with_reducible (first | refine eqs ?_ | refine nes ?_)); refine ⟨_, rfl, ?_⟩) | ((refine okF_i (bldP_eq rfl) ?_); try simp only [BLS, List.take_succ_cons, List.take_zero, List.drop_succ_cons, List.drop_zero, List.cons_append, List.nil_append, Nat.reduceAdd])) | simp -implicitDefEqProofs only [EN, lsub, lget, stL, beq_self_eq_true, ne_eq, if_true, if_false, List.cons_append, List.nil_append, Option.isNone_some, Option.isNone_none, eq_self]))
  refine bsA I64 [2, 9] (n := 2) (by first | assumption | exact St.tick (by assumption) | exact St.tick (St.tick (by assumption))) rfl rfl (by decide) (by decide) rfl fun a7 c7 W22 h => ?_
  (repeat (first | (first | (with_reducible (first | refine w1 fun _ _ => ?_ | refine w3 fun _ _ _ => ?_ | refine w4 fun _ _ _ => ?_ | refine w11 fun _ _ _ => ?_ | refine stb_n ?_)) | ((with_reducible refine w2 ?_); try simp -implicitDefEqProofs only [EN, lsub, lget, stL, beq_self_eq_true, ne_eq, if_true, if_false, List.cons_append, List.nil_append, Option.isNone_some, Option.isNone_none]; intro _ _) | ((with_reducible (first | refine w5 ?_ ?_ | refine w6 ?_ ?_ | refine w7 ?_ ?_)); simp; refine ⟨_, rfl, ?_⟩) | ((with_reducible (first | refine w8 ?_ ?_ ?_ | refine w9 ?_ ?_ ?_ | refine w10 ?_ ?_ ?_)); exact rfl; simp) | ((with_reducible refine w12 ?_ ?_ ?_ fun _ _ => ?_); simp; simp; simp [oneC]) | ((with_reducible (first | refine eqs ?_ | refine nes ?_)); refine ⟨_, rfl, ?_⟩) | ((refine okF_i (bldP_eq rfl) ?_); try simp only [BLS, List.take_succ_cons, List.take_zero, List.drop_succ_cons, List.drop_zero, List.cons_append, List.nil_append, Nat.reduceAdd])) | simp -implicitDefEqProofs only [EN, lsub, lget, stL, beq_self_eq_true, ne_eq, if_true, if_false, List.cons_append, List.nil_append, Option.isNone_some, Option.isNone_none]))
  refine lawInts (a := a4) (b := a7) (l := [2, 9]) (m := [2, 9]) (by first | assumption | exact St.tick (by assumption) | exact St.tick (St.tick (by assumption))) (by decide) fun W23 h => ?_
  (repeat (first | (first | (with_reducible (first | refine w1 fun _ _ => ?_ | refine w3 fun _ _ _ => ?_ | refine w4 fun _ _ _ => ?_ | refine w11 fun _ _ _ => ?_ | refine stb_n ?_)) | ((with_reducible refine w2 ?_); try simp -implicitDefEqProofs only [EN, lsub, lget, stL, beq_self_eq_true, ne_eq, if_true, if_false, List.cons_append, List.nil_append, Option.isNone_some, Option.isNone_none, eq_self]; intro _ _) | ((with_reducible (first | refine w5 ?_ ?_ | refine w6 ?_ ?_ | refine w7 ?_ ?_)); simp; refine ⟨_, rfl, ?_⟩) | ((with_reducible (first | refine w8 ?_ ?_ ?_ | refine w9 ?_ ?_ ?_ | refine w10 ?_ ?_ ?_)); exact rfl; simp) | ((with_reducible refine w12 ?_ ?_ ?_ fun _ _ => ?_); simp; simp; simp [oneC]) | ((with_reducible (first | refine eqs ?_ | refine nes ?_)); refine ⟨_, rfl, ?_⟩) | ((refine okF_i (bldP_eq rfl) ?_); try simp only [BLS, List.take_succ_cons, List.take_zero, List.drop_succ_cons, List.drop_zero, List.cons_append, List.nil_append, Nat.reduceAdd])) | simp -implicitDefEqProofs only [EN, lsub, lget, stL, beq_self_eq_true, ne_eq, if_true, if_false, List.cons_append, List.nil_append, Option.isNone_some, Option.isNone_none, eq_self]))
  refine b2s (a := a6) (l := [97, 99, 99]) (by first | assumption | exact St.tick (by assumption) | exact St.tick (St.tick (by assumption))) ?_
  (repeat (first | (first | (with_reducible (first | refine w1 fun _ _ => ?_ | refine w3 fun _ _ _ => ?_ | refine w4 fun _ _ _ => ?_ | refine w11 fun _ _ _ => ?_ | refine stb_n ?_)) | ((with_reducible refine w2 ?_); try simp -implicitDefEqProofs only [EN, lsub, lget, stL, beq_self_eq_true, ne_eq, if_true, if_false, List.cons_append, List.nil_append, Option.isNone_some, Option.isNone_none, eq_self]; intro _ _) | ((with_reducible (first | refine w5 ?_ ?_ | refine w6 ?_ ?_ | refine w7 ?_ ?_)); simp; refine ⟨_, rfl, ?_⟩) | ((with_reducible (first | refine w8 ?_ ?_ ?_ | refine w9 ?_ ?_ ?_ | refine w10 ?_ ?_ ?_)); exact rfl; simp) | ((with_reducible refine w12 ?_ ?_ ?_ fun _ _ => ?_); simp; simp; simp [oneC]) | ((with_reducible (first | refine eqs ?_ | refine nes ?_)); refine ⟨_, rfl, ?_⟩) | ((refine okF_i (bldP_eq rfl) ?_); try simp only [BLS, List.take_succ_cons, List.take_zero, List.drop_succ_cons, List.drop_zero, List.cons_append, List.nil_append, Nat.reduceAdd])) | simp -implicitDefEqProofs only [EN, lsub, lget, stL, beq_self_eq_true, ne_eq, if_true, if_false, List.cons_append, List.nil_append, Option.isNone_some, Option.isNone_none, eq_self]))
  refine diskFiles (d := ⟨64, [(2, [])], [], true, 2⟩) (by first | assumption | exact St.tick (by assumption) | exact St.tick (St.tick (by assumption))) rfl (by decide) (by simp) fun a8 c8 W24 h => ?_
  rw [show DS.files ⟨64, [(2, [])], [], true, 2⟩ = [2] from List.mergeSort_singleton _] at h ⊢
  (repeat (first | (first | (with_reducible (first | refine w1 fun _ _ => ?_ | refine w3 fun _ _ _ => ?_ | refine w4 fun _ _ _ => ?_ | refine w11 fun _ _ _ => ?_ | refine stb_n ?_)) | ((with_reducible refine w2 ?_); try simp -implicitDefEqProofs only [EN, lsub, lget, stL, beq_self_eq_true, ne_eq, if_true, if_false, List.cons_append, List.nil_append, Option.isNone_some, Option.isNone_none]; intro _ _) | ((with_reducible (first | refine w5 ?_ ?_ | refine w6 ?_ ?_ | refine w7 ?_ ?_)); simp; refine ⟨_, rfl, ?_⟩) | ((with_reducible (first | refine w8 ?_ ?_ ?_ | refine w9 ?_ ?_ ?_ | refine w10 ?_ ?_ ?_)); exact rfl; simp) | ((with_reducible refine w12 ?_ ?_ ?_ fun _ _ => ?_); simp; simp; simp [oneC]) | ((with_reducible (first | refine eqs ?_ | refine nes ?_)); refine ⟨_, rfl, ?_⟩) | ((refine okF_i (bldP_eq rfl) ?_); try simp only [BLS, List.take_succ_cons, List.take_zero, List.drop_succ_cons, List.drop_zero, List.cons_append, List.nil_append, Nat.reduceAdd])) | simp -implicitDefEqProofs only [EN, lsub, lget, stL, beq_self_eq_true, ne_eq, if_true, if_false, List.cons_append, List.nil_append, Option.isNone_some, Option.isNone_none]))
  refine bsA I64 [2] (n := 1) (by first | assumption | exact St.tick (by assumption) | exact St.tick (St.tick (by assumption))) rfl rfl (by decide) (by decide) rfl fun a9 c9 W25 h => ?_
  (repeat (first | (first | (with_reducible (first | refine w1 fun _ _ => ?_ | refine w3 fun _ _ _ => ?_ | refine w4 fun _ _ _ => ?_ | refine w11 fun _ _ _ => ?_ | refine stb_n ?_)) | ((with_reducible refine w2 ?_); try simp -implicitDefEqProofs only [EN, lsub, lget, stL, beq_self_eq_true, ne_eq, if_true, if_false, List.cons_append, List.nil_append, Option.isNone_some, Option.isNone_none]; intro _ _) | ((with_reducible (first | refine w5 ?_ ?_ | refine w6 ?_ ?_ | refine w7 ?_ ?_)); simp; refine ⟨_, rfl, ?_⟩) | ((with_reducible (first | refine w8 ?_ ?_ ?_ | refine w9 ?_ ?_ ?_ | refine w10 ?_ ?_ ?_)); exact rfl; simp) | ((with_reducible refine w12 ?_ ?_ ?_ fun _ _ => ?_); simp; simp; simp [oneC]) | ((with_reducible (first | refine eqs ?_ | refine nes ?_)); refine ⟨_, rfl, ?_⟩) | ((refine okF_i (bldP_eq rfl) ?_); try simp only [BLS, List.take_succ_cons, List.take_zero, List.drop_succ_cons, List.drop_zero, List.cons_append, List.nil_append, Nat.reduceAdd])) | simp -implicitDefEqProofs only [EN, lsub, lget, stL, beq_self_eq_true, ne_eq, if_true, if_false, List.cons_append, List.nil_append, Option.isNone_some, Option.isNone_none]))
  refine lawInts (a := a8) (b := a9) (l := [2]) (m := [2]) (by first | assumption | exact St.tick (by assumption) | exact St.tick (St.tick (by assumption))) (by decide) fun W26 h => ?_
  (repeat (first | (first | (with_reducible (first | refine w1 fun _ _ => ?_ | refine w3 fun _ _ _ => ?_ | refine w4 fun _ _ _ => ?_ | refine w11 fun _ _ _ => ?_ | refine stb_n ?_)) | ((with_reducible refine w2 ?_); try simp -implicitDefEqProofs only [EN, lsub, lget, stL, beq_self_eq_true, ne_eq, if_true, if_false, List.cons_append, List.nil_append, Option.isNone_some, Option.isNone_none, eq_self]; intro _ _) | ((with_reducible (first | refine w5 ?_ ?_ | refine w6 ?_ ?_ | refine w7 ?_ ?_)); simp; refine ⟨_, rfl, ?_⟩) | ((with_reducible (first | refine w8 ?_ ?_ ?_ | refine w9 ?_ ?_ ?_ | refine w10 ?_ ?_ ?_)); exact rfl; simp) | ((with_reducible refine w12 ?_ ?_ ?_ fun _ _ => ?_); simp; simp; simp [oneC]) | ((with_reducible (first | refine eqs ?_ | refine nes ?_)); refine ⟨_, rfl, ?_⟩) | ((refine okF_i (bldP_eq rfl) ?_); try simp only [BLS, List.take_succ_cons, List.take_zero, List.drop_succ_cons, List.drop_zero, List.cons_append, List.nil_append, Nat.reduceAdd])) | simp -implicitDefEqProofs only [EN, lsub, lget, stL, beq_self_eq_true, ne_eq, if_true, if_false, List.cons_append, List.nil_append, Option.isNone_some, Option.isNone_none, eq_self]))
  exact St.lo h
end Go.Proofs.Ythladblmjoaeoaa
namespace Go.Proofs.Ythladblmjoaeoaa.diskKnownDone
set_option linter.unusedVariables false
set_option linter.unusedSimpArgs false
open Go Go.Eng Go.ChangeShapes Go.WideShapes Go.ChangeAt Go.RowKit

theorem own : ownKnob Try.prog.godebug = none := by kernel_rfl
theorem laidOut : laidOutB Try.prog = true := by kernel_rfl

set_option maxRecDepth 100000 in
theorem lifted (os : Os) (started : os.Started) (H : Type) (enc : TypeId × Value → H) :
    ReturnsInHanded {} Try.checked os F_rostrumlaw5_DiskKnown .any (Rows.diskKnownSpec.pre6 enc Try.prog Try.f6 Rows.diskKnownRow.domain false) (Rows.diskKnownSpec.post enc Try.prog Try.f6 false true false false) := by
  refine returnsInHanded_of_change (C := Try.checked) own started (by kernel_rfl) S.rostrumlaw5_DiskKnown.fn
    (ChangeSpec.witness6 (enc := enc) (C := Try.checked) false ⟨#[], #[], []⟩ 8 (by kernel_rfl) (by kernel_rfl) (by kernel_rfl) (by kernel_rfl)) ?_
  intro W base args ds gs before hval0 hW hcnd _
  have hval : ∀ (j : Nat) t v, Try.f6.params[j]? = some t → args[j]? = some v → Value.okWide Try.prog W .any base t v := hval0
  have hW' := hW
  obtain ⟨p, q, hA0, hV, rfl, hfz, hnd⟩ := hW
  have hA : DataW.TrodAll enc Try.prog W 0 (fun _ => true) true Try.f6.params.toList args.toList ds p := hA0
  have hpar : Try.f6.params.toList = [] := by kernel_rfl
  rw [hpar] at hA
  have hA1 := hA
  obtain ⟨hargs, rfl, rfl⟩ := trodAll_nil hA
  obtain rfl : args = #[] := by cases args; simp_all
  obtain ⟨rfl, rfl⟩ := trodVars_none hV

  clear hA0 hval0
  have hc : Calls Try.prog F_rostrumlaw5_DiskKnown #[] W fun e W' => e = .returned (.bool true) ∧ Below W.heap.size W W' :=
    Calls.mono (diskKnown_walk (W := W)) fun e W' h => by
      cases e <;> first | exact ⟨by rw [h.1], h.2.below⟩ | exact h.elim
  refine hc.mono fun e W' ⟨he, bel⟩ => ?_
  subst he
  exact ⟨_, rfl, _, _, _, [], _, [], hW', trodAll_mk1 (shut_bool (t := T_bool) (by kernel_rfl) _), keep_all laidOut (by kernel_rfl) hA1 bel, rfl, bel.frame _, fun h => by cases h⟩

theorem proved : Rows.DiskKnownSaid :=
  OpenClaim.holds_of_wide F_rostrumlaw5_DiskKnown Try.f6 rfl rfl rfl rfl rfl rfl rfl ⟨rfl, rfl, rfl, rfl, rfl⟩ rfl rfl rfl rfl rfl (by kernel_rfl) S.rostrumlaw5_DiskKnown.fn (by kernel_rfl)
    (of_decide_eq_true (by kernel_rfl)) (by unfold Func.isWrapper; first | (rw [if_pos (by decide +kernel)]; kernel_rfl) | (rw [if_neg (by decide +kernel)]; exact ⟨rfl, rfl⟩))
    (fun os started H enc _ => lifted os started H enc)
end Go.Proofs.Ythladblmjoaeoaa.diskKnownDone
