/- 'WalFull' holds. Printed by an own tool (wip/tools/law.py), after the kit's shell. -/
import Derived.Test.YthladblmjoaeoaaBWalFull5
import Derived.Test.YthladblmjoaeoaaBWalFull7
import Derived.Test.YthladblmjoaeoaaBWalFull4
import Derived.Test.YthladblmjoaeoaaBWalFull1
import Derived.Test.YthladblmjoaeoaaRows
import Derived.WalkKit
import Derived.ProofKit
namespace Go.Proofs.Ythladblmjoaeoaa
set_option linter.unusedVariables false
set_option linter.unusedSimpArgs false
open Go Go.Eng

instance diskAwake : Pure0 PR F_rostrumlaw5_awake [] (.bool true) := ⟨fun W => by
  apply S.rostrumlaw5_awake.call
  unfold S.rostrumlaw5_awake.body
  have h := St.start W
  refine diskNew h (by omega) (by omega) fun p W1 h => ?_
  (repeat (first | (first | ((with_reducible first | refine w1 ?_ | refine w3 ?_ | refine w4 ?_ | refine w11 ?_ | refine stb_n ?_); intros) | ((with_reducible first | refine v5 ?_ | refine v6 ?_ | refine v7 ?_ | refine ve ?_ | refine vn ?_); refine ⟨_, rfl, ?_⟩) | ((with_reducible first | refine v8 ?_ ?_ | refine v9 ?_ ?_ | refine v10 ?_ ?_ | refine v12 ?_ ?_); exact rfl; intros) | ((with_reducible refine w2 ?_); try simp -implicitDefEqProofs only [SE, SU, SV]; intros) | ((with_reducible refine w5 ?_ ?_); simp; refine ⟨_, rfl, ?_⟩) | ((with_reducible refine w12 ?_ ?_ ?_ ?_); simp; simp; simp [oneC]; intros) | (refine okF_i (bldP_eq rfl) ?_; try simp only [BLS, SB, Nat.reduceAdd])) | simp -implicitDefEqProofs only [SE, SU, SV]))
  have ok0 : DS.ok ⟨64, [], [], true, 1⟩ := ⟨by decide, by decide, by decide⟩
  have ft0 : DS.fit ⟨64, [], [], true, 1⟩ := trivial
  have s1 : DS.append ⟨64, [], [], true, 1⟩ 0 [120, 121] = (⟨64, [(0, [120, 121])], [(0, 0, 2)], true, 1⟩, 0) := by rfl
  have ok1 := ok0.append 0 [120, 121]
  have ft1 := ft0.append 0 [120, 121]
  rw [s1] at ok1 ft1
  have s2 : DS.append ⟨64, [(0, [120, 121])], [(0, 0, 2)], true, 1⟩ 1 [122, 122] = (⟨64, [(0, [120, 121]), (1, [122, 122])], [(0, 0, 2), (1, 0, 2)], true, 1⟩, 0) := by rfl
  have ok2 := ok1.append 1 [122, 122]
  have ft2 := ft1.append 1 [122, 122]
  rw [s2] at ok2 ft2
  have s3 : DS.crash ⟨64, [(0, [120, 121]), (1, [122, 122])], [(0, 0, 2), (1, 0, 2)], true, 1⟩ 1 1 = ⟨64, [(0, [120, 121]), (1, [122])], [], false, 1⟩ := by rfl
  have ok3 := ok2.crash 1 1
  rw [s3] at ok3
  refine bytesLit [120, 121] (by first | assumption | exact St.tick (by assumption) | exact St.tick (St.tick (by assumption))) rfl (by decide) (by decide) rfl fun a1 c1 W2 h => ?_
  refine diskAppend (f := 0) (bs := [120, 121]) (by first | assumption | exact St.tick (by assumption) | exact St.tick (St.tick (by assumption))) ok0 (by decide) (by decide) fun W3 h => ?_
  rw [s1] at h ⊢
  refine bytesLit [122, 122] (by first | assumption | exact St.tick (by assumption) | exact St.tick (St.tick (by assumption))) rfl (by decide) (by decide) rfl fun a2 c2 W4 h => ?_
  refine diskAppend (f := 1) (bs := [122, 122]) (by first | assumption | exact St.tick (by assumption) | exact St.tick (St.tick (by assumption))) ok1 (by decide) (by decide) fun W5 h => ?_
  rw [s2] at h ⊢
  refine diskCrash (keep := 1) (torn := 1) (by first | assumption | exact St.tick (by assumption) | exact St.tick (St.tick (by assumption))) ok2 ft2 (by decide) fun W6 h => ?_
  rw [s3] at h
  refine diskRead (d := ⟨64, [(0, [120, 121]), (1, [122])], [], false, 1⟩) (f := 0) (by first | assumption | exact St.tick (by assumption) | exact St.tick (St.tick (by assumption))) (by decide) fun a3 c3 W7 h => ?_
  have r1 : DS.read ⟨64, [(0, [120, 121]), (1, [122])], [], false, 1⟩ 0 = ([], 7) := by rfl
  rw [r1] at h ⊢
  (repeat (first | (first | ((with_reducible first | refine w1 ?_ | refine w3 ?_ | refine w4 ?_ | refine w11 ?_ | refine stb_n ?_); intros) | ((with_reducible first | refine v5 ?_ | refine v6 ?_ | refine v7 ?_ | refine ve ?_ | refine vn ?_); refine ⟨_, rfl, ?_⟩) | ((with_reducible first | refine v8 ?_ ?_ | refine v9 ?_ ?_ | refine v10 ?_ ?_ | refine v12 ?_ ?_); exact rfl; intros) | ((with_reducible refine w2 ?_); try simp -implicitDefEqProofs only [SE, SU, SV]; intros) | ((with_reducible refine w5 ?_ ?_); simp; refine ⟨_, rfl, ?_⟩) | ((with_reducible refine w12 ?_ ?_ ?_ ?_); simp; simp; simp [oneC]; intros) | (refine okF_i (bldP_eq rfl) ?_; try simp only [BLS, SB, Nat.reduceAdd])) | simp -implicitDefEqProofs only [SE, SU, SV]))
  refine diskOn (by first | assumption | exact St.tick (by assumption) | exact St.tick (St.tick (by assumption))) fun W8 h => ?_
  have s4 : DS.power ⟨64, [(0, [120, 121]), (1, [122])], [], false, 1⟩ = ⟨64, [(0, [120, 121]), (1, [122])], [], true, 2⟩ := by rfl
  rw [s4] at h
  refine diskRead (d := ⟨64, [(0, [120, 121]), (1, [122])], [], true, 2⟩) (f := 0) (by first | assumption | exact St.tick (by assumption) | exact St.tick (St.tick (by assumption))) (by decide) fun a4 c4 W9 h => ?_
  have r2 : DS.read ⟨64, [(0, [120, 121]), (1, [122])], [], true, 2⟩ 0 = ([120, 121], 0) := by rfl
  rw [r2] at h ⊢
  (repeat (first | (first | ((with_reducible first | refine w1 ?_ | refine w3 ?_ | refine w4 ?_ | refine w11 ?_ | refine stb_n ?_); intros) | ((with_reducible first | refine v5 ?_ | refine v6 ?_ | refine v7 ?_ | refine ve ?_ | refine vn ?_); refine ⟨_, rfl, ?_⟩) | ((with_reducible first | refine v8 ?_ ?_ | refine v9 ?_ ?_ | refine v10 ?_ ?_ | refine v12 ?_ ?_); exact rfl; intros) | ((with_reducible refine w2 ?_); try simp -implicitDefEqProofs only [SE, SU, SV]; intros) | ((with_reducible refine w5 ?_ ?_); simp; refine ⟨_, rfl, ?_⟩) | ((with_reducible refine w12 ?_ ?_ ?_ ?_); simp; simp; simp [oneC]; intros) | (refine okF_i (bldP_eq rfl) ?_; try simp only [BLS, SB, Nat.reduceAdd])) | simp -implicitDefEqProofs only [SE, SU, SV]))
  refine diskRead (d := ⟨64, [(0, [120, 121]), (1, [122])], [], true, 2⟩) (f := 1) (by first | assumption | exact St.tick (by assumption) | exact St.tick (St.tick (by assumption))) (by decide) fun a5 c5 W10 h => ?_
  have r3 : DS.read ⟨64, [(0, [120, 121]), (1, [122])], [], true, 2⟩ 1 = ([122], 0) := by rfl
  rw [r3] at h ⊢
  (repeat (first | (first | ((with_reducible first | refine w1 ?_ | refine w3 ?_ | refine w4 ?_ | refine w11 ?_ | refine stb_n ?_); intros) | ((with_reducible first | refine v5 ?_ | refine v6 ?_ | refine v7 ?_ | refine ve ?_ | refine vn ?_); refine ⟨_, rfl, ?_⟩) | ((with_reducible first | refine v8 ?_ ?_ | refine v9 ?_ ?_ | refine v10 ?_ ?_ | refine v12 ?_ ?_); exact rfl; intros) | ((with_reducible refine w2 ?_); try simp -implicitDefEqProofs only [SE, SU, SV]; intros) | ((with_reducible refine w5 ?_ ?_); simp; refine ⟨_, rfl, ?_⟩) | ((with_reducible refine w12 ?_ ?_ ?_ ?_); simp; simp; simp [oneC]; intros) | (refine okF_i (bldP_eq rfl) ?_; try simp only [BLS, SB, Nat.reduceAdd])) | simp -implicitDefEqProofs only [SE, SU, SV]))
  refine b2s (a := a4) (l := [120, 121]) (by first | assumption | exact St.tick (by assumption) | exact St.tick (St.tick (by assumption))) ?_
  (repeat (first | (first | ((with_reducible first | refine w1 ?_ | refine w3 ?_ | refine w4 ?_ | refine w11 ?_ | refine stb_n ?_); intros) | ((with_reducible first | refine v5 ?_ | refine v6 ?_ | refine v7 ?_ | refine ve ?_ | refine vn ?_); refine ⟨_, rfl, ?_⟩) | ((with_reducible first | refine v8 ?_ ?_ | refine v9 ?_ ?_ | refine v10 ?_ ?_ | refine v12 ?_ ?_); exact rfl; intros) | ((with_reducible refine w2 ?_); try simp -implicitDefEqProofs only [SE, SU, SV, eq_self]; intros) | ((with_reducible refine w5 ?_ ?_); simp; refine ⟨_, rfl, ?_⟩) | ((with_reducible refine w12 ?_ ?_ ?_ ?_); simp; simp; simp [oneC]; intros) | (refine okF_i (bldP_eq rfl) ?_; try simp only [BLS, SB, Nat.reduceAdd])) | simp -implicitDefEqProofs only [SE, SU, SV, eq_self]))
  refine b2s (a := a5) (l := [122]) (by first | assumption | exact St.tick (by assumption) | exact St.tick (St.tick (by assumption))) ?_
  (repeat (first | (first | ((with_reducible first | refine w1 ?_ | refine w3 ?_ | refine w4 ?_ | refine w11 ?_ | refine stb_n ?_); intros) | ((with_reducible first | refine v5 ?_ | refine v6 ?_ | refine v7 ?_ | refine ve ?_ | refine vn ?_); refine ⟨_, rfl, ?_⟩) | ((with_reducible first | refine v8 ?_ ?_ | refine v9 ?_ ?_ | refine v10 ?_ ?_ | refine v12 ?_ ?_); exact rfl; intros) | ((with_reducible refine w2 ?_); try simp -implicitDefEqProofs only [SE, SU, SV, eq_self]; intros) | ((with_reducible refine w5 ?_ ?_); simp; refine ⟨_, rfl, ?_⟩) | ((with_reducible refine w12 ?_ ?_ ?_ ?_); simp; simp; simp [oneC]; intros) | (refine okF_i (bldP_eq rfl) ?_; try simp only [BLS, SB, Nat.reduceAdd])) | simp -implicitDefEqProofs only [SE, SU, SV, eq_self]))
  refine diskLives (by first | assumption | exact St.tick (by assumption) | exact St.tick (St.tick (by assumption))) fun W11 h => ?_
  (repeat (first | (first | ((with_reducible first | refine w1 ?_ | refine w3 ?_ | refine w4 ?_ | refine w11 ?_ | refine stb_n ?_); intros) | ((with_reducible first | refine v5 ?_ | refine v6 ?_ | refine v7 ?_ | refine ve ?_ | refine vn ?_); refine ⟨_, rfl, ?_⟩) | ((with_reducible first | refine v8 ?_ ?_ | refine v9 ?_ ?_ | refine v10 ?_ ?_ | refine v12 ?_ ?_); exact rfl; intros) | ((with_reducible refine w2 ?_); try simp -implicitDefEqProofs only [SE, SU, SV, eq_self]; intros) | ((with_reducible refine w5 ?_ ?_); simp; refine ⟨_, rfl, ?_⟩) | ((with_reducible refine w12 ?_ ?_ ?_ ?_); simp; simp; simp [oneC]; intros) | (refine okF_i (bldP_eq rfl) ?_; try simp only [BLS, SB, Nat.reduceAdd])) | simp -implicitDefEqProofs only [SE, SU, SV, eq_self]))
  refine diskPower (by first | assumption | exact St.tick (by assumption) | exact St.tick (St.tick (by assumption))) fun W12 h => ?_
  (repeat (first | (first | ((with_reducible first | refine w1 ?_ | refine w3 ?_ | refine w4 ?_ | refine w11 ?_ | refine stb_n ?_); intros) | ((with_reducible first | refine v5 ?_ | refine v6 ?_ | refine v7 ?_ | refine ve ?_ | refine vn ?_); refine ⟨_, rfl, ?_⟩) | ((with_reducible first | refine v8 ?_ ?_ | refine v9 ?_ ?_ | refine v10 ?_ ?_ | refine v12 ?_ ?_); exact rfl; intros) | ((with_reducible refine w2 ?_); try simp -implicitDefEqProofs only [SE, SU, SV]; intros) | ((with_reducible refine w5 ?_ ?_); simp; refine ⟨_, rfl, ?_⟩) | ((with_reducible refine w12 ?_ ?_ ?_ ?_); simp; simp; simp [oneC]; intros) | (refine okF_i (bldP_eq rfl) ?_; try simp only [BLS, SB, Nat.reduceAdd])) | simp -implicitDefEqProofs only [SE, SU, SV]))
  exact St.nil (by first | assumption | exact St.tick (by assumption) | exact St.tick (St.tick (by assumption)))⟩

end Go.Proofs.Ythladblmjoaeoaa
namespace Go.Proofs.Ythladblmjoaeoaa
set_option linter.unusedVariables false
set_option linter.unusedSimpArgs false
open Go Go.Eng Go.RowKit

structure Lo (W W' : World) : Prop where
  below : Below W.heap.size W W'
theorem St.startz (W : World) : St { W with drawn := 0 } [] W := ⟨⟨⟨rfl, rfl, rfl, Nat.le_refl _, fun _ _ => rfl⟩, Nat.zero_le _⟩, fun _ => none, fun _ => rfl, fun b o h => by cases h⟩
theorem St.lo {W W' : World} {L : List Asn} (h : St { W with drawn := 0 } L W') : Lo W W' := ⟨⟨h.bel.os, h.bel.tape, h.bel.output, h.bel.size, h.bel.block⟩⟩
section
variable {W0 W : World} {L L' : List Asn}
end
end Go.Proofs.Ythladblmjoaeoaa
namespace Go.Proofs.Ythladblmjoaeoaa
set_option linter.unusedVariables false
set_option linter.unusedSimpArgs false
open Go.Eng
/-! ### rostrum/rostrumlaw6.awake (35) -/
def S.rostrumlaw6_awake.body (R : Value → World → Prop) (W : World) : Prop :=
  callK PR F_disk_New [(.int .i64 10000)] (fun v12 W =>
  okF (extP 0 v12) fun v13 =>
  okF (extP 1 v12) fun v14 =>
  callK PR F_wal_Open [v13, (.int .i64 2)] (fun v17 W =>
  okF (extP 0 v17) fun v18 =>
  okF (extP 1 v17) fun v19 =>
  okF (binP .neq v19 (.int .i64 0)) fun v21 =>
  gdK (wantd v21 false) (fun k W => k v18 W) (fun v23 W =>
  gdK (wantd v21 false) (fun k W => okF (eqP (.pointer T_wal_Log) .eql v23 (.pointer none)) fun v => k v W) (fun v24 W =>
  okF (pickP v21 (.bool true) v24) fun v25 =>
  ifK v25 (
  R (.bool false) W) (
  efK PR (Instr.buildSlice T_s_uint8 1 #[(0, (.int .u8 120))]) (fun v27 W =>
  efK PR (convert T_s_uint8 T_s_uint8 v27) (fun v28 W =>
  efK PR (Instr.buildSlice T_s_s_uint8 1 #[(0, v28)]) (fun v29 W =>
  callK PR F_wal_Log_Add [v18, v29] (fun v30 W =>
  callK PR F_wal_Log_Sync [v18] (fun v32 W =>
  efK PR (Instr.buildSlice T_s_uint8 1 #[(0, (.int .u8 121))]) (fun v34 W =>
  efK PR (convert T_s_uint8 T_s_uint8 v34) (fun v35 W =>
  efK PR (Instr.buildSlice T_s_s_uint8 1 #[(0, v35)]) (fun v36 W =>
  callK PR F_wal_Log_Add [v18, v36] (fun v37 W =>
  callK PR F_wal_Log_All [v18] (fun v39 W =>
  callK PR F_disk_Disk_Crash [v13, (.int .i64 0), (.int .i64 0)] (fun v41 W =>
  callK PR F_disk_Disk_On [v13] (fun v43 W =>
  callK PR F_wal_Open [v13, (.int .i64 2)] (fun v46 W =>
  okF (extP 0 v46) fun v47 =>
  okF (extP 1 v46) fun v48 =>
  okF (binP .neq v48 (.int .i64 0)) fun v50 =>
  gdK (wantd v50 false) (fun k W => k v47 W) (fun v52 W =>
  gdK (wantd v50 false) (fun k W => okF (eqP (.pointer T_wal_Log) .eql v52 (.pointer none)) fun v => k v W) (fun v53 W =>
  okF (pickP v50 (.bool true) v53) fun v54 =>
  ifK v54 (
  R (.bool false) W) (
  okF (binP .eql v30 (.int .i64 0)) fun v56 =>
  gdK (wantd v56 true) (fun k W => k v32 W) (fun v58 W =>
  gdK (wantd v56 true) (fun k W => okF (binP .eql v58 (.int .i64 0)) fun v => k v W) (fun v59 W =>
  okF (pickP v56 v59 (.bool false)) fun v60 =>
  gdK (wantd v60 true) (fun k W => k v37 W) (fun v62 W =>
  gdK (wantd v60 true) (fun k W => okF (binP .eql v62 (.int .i64 0)) fun v => k v W) (fun v63 W =>
  okF (pickP v60 v63 (.bool false)) fun v64 =>
  gdK (wantd v64 true) (fun k W => k v39 W) (fun v66 W =>
  gdK (wantd v64 true) (fun k W => efK PR (Instr.buildSlice T_s_uint8 1 #[(0, (.int .u8 120))]) k W) (fun v67 W =>
  gdK (wantd v64 true) (fun k W => efK PR (convert T_s_uint8 T_s_uint8 v67) k W) (fun v68 W =>
  gdK (wantd v64 true) (fun k W => efK PR (Instr.buildSlice T_s_uint8 1 #[(0, (.int .u8 121))]) k W) (fun v69 W =>
  gdK (wantd v64 true) (fun k W => efK PR (convert T_s_uint8 T_s_uint8 v69) k W) (fun v70 W =>
  gdK (wantd v64 true) (fun k W => efK PR (Instr.buildSlice T_s_s_uint8 2 #[(0, v68), (1, v70)]) k W) (fun v71 W =>
  gdK (wantd v64 true) (fun k W => callK PR F_rostrumref1_Same [v66, v71] k W) (fun v72 W =>
  okF (pickP v64 v72 (.bool false)) fun v73 =>
  gdK (wantd v73 true) (fun k W => k v47 W) (fun v75 W =>
  gdK (wantd v73 true) (fun k W => callK PR F_wal_Log_All [v75] k W) (fun v76 W =>
  gdK (wantd v73 true) (fun k W => efK PR (Instr.buildSlice T_s_uint8 1 #[(0, (.int .u8 120))]) k W) (fun v77 W =>
  gdK (wantd v73 true) (fun k W => efK PR (convert T_s_uint8 T_s_uint8 v77) k W) (fun v78 W =>
  gdK (wantd v73 true) (fun k W => efK PR (Instr.buildSlice T_s_s_uint8 1 #[(0, v78)]) k W) (fun v79 W =>
  gdK (wantd v73 true) (fun k W => callK PR F_rostrumref1_Same [v76, v79] k W) (fun v80 W =>
  okF (pickP v73 v80 (.bool false)) fun v81 =>
  gdK (wantd v81 true) (fun k W => k v47 W) (fun v83 W =>
  gdK (wantd v81 true) (fun k W => callK PR F_wal_Log_Base [v83] k W) (fun v84 W =>
  gdK (wantd v81 true) (fun k W => okF (lenP (.slice T_uint8) v84) fun v => k v W) (fun v85 W =>
  gdK (wantd v81 true) (fun k W => okF (binP .eql v85 (.int .i64 0)) fun v => k v W) (fun v86 W =>
  okF (pickP v81 v86 (.bool false)) fun v87 =>
  R v87 W) W) W) W) W) W) W) W) W) W) W) W) W) W) W) W) W) W) W) W) W) W)) W) W) W) W) W) W) W) W) W) W) W) W) W) W) W)) W) W) W) W
def S.rostrumlaw6_awake.hint : Hint := (.two .nil (.two .nil (.two .nil (.two (.two .nil (.two (.two .nil .nil) .nil)) (.two .nil (.two .nil (.two .nil (.two .nil (.two .nil (.two (.two .nil (.two (.two .nil .nil) .nil)) (.two .nil .nil)))))))))))
theorem S.rostrumlaw6_awake.ok (R : Value → World → Prop) (W : World) : bodyK PR CB Try.f35 S.rostrumlaw6_awake.hint [] R W = S.rostrumlaw6_awake.body R  W := by kernel_rfl
theorem S.rostrumlaw6_awake.fn : PR.funcs[F_rostrumlaw6_awake]? = some Try.f35 := by kernel_rfl
theorem S.rostrumlaw6_awake.call {R : Value → World → Prop} {W : World} (h : S.rostrumlaw6_awake.body R  W) : callK PR F_rostrumlaw6_awake [] R W :=
  callK_of_body (g := F_rostrumlaw6_awake) (fn := Try.f35) (args := []) (R := R) (w := W) mixed CBok S.rostrumlaw6_awake.fn S.rostrumlaw6_awake.hint (by rw [S.rostrumlaw6_awake.ok]; exact h)
/-! ### rostrum/rostrumref1.Same (41) -/
def S.rostrumref1_Same.l1 (R : Value → World → Prop) (K1 : List Value → World → Prop) (x0 x1 x5 : Value) (W : World) : Prop :=
  okF (lenP (.slice T_s_uint8) x0) fun v13 =>
  okF (binP .lss x5 v13) fun v14 =>
  ifK v14 (
  okF (idxS 1 x0 x5) fun v19 =>
  rdK PR (Instr.loadAt T_s_uint8 v19) (fun v20 W =>
  rdK PR (convert T_s_uint8 T_string v20) (fun v21 W =>
  okF (idxS 1 x1 x5) fun v24 =>
  rdK PR (Instr.loadAt T_s_uint8 v24) (fun v25 W =>
  rdK PR (convert T_s_uint8 T_string v25) (fun v26 W =>
  okF (binP .neq v21 v26) fun v27 =>
  ifK v27 (
  R (.bool false) W) (
  okF (binP .add x5 (.int .i64 1)) fun v16 =>
  K1 [x0, x1, v16] W)) W) W) W) (tick W)) (
  R (.bool true) W)
def S.rostrumref1_Same.body (R : Value → World → Prop) (v0 v1 : Value) (W : World) : Prop :=
  okF (lenP (.slice T_s_uint8) v0) fun v7 =>
  okF (lenP (.slice T_s_uint8) v1) fun v9 =>
  okF (binP .neq v7 v9) fun v10 =>
  ifK v10 (
  R (.bool false) W) (
  loopK (fun K1 s W => S.rostrumref1_Same.l1 R K1 (nthv s 0) (nthv s 1) (nthv s 2) W) [v0, v1, (.int .i64 0)] W)
def S.rostrumref1_Same.hint : Hint := (.two .nil (.two (.two .nil (.two (.two .nil .nil) .nil)) (.two (.two .nil (.at [0, 1, 5] (.two (.two .nil (.two .nil .nil)) (.two (.two .nil (.two (.two .nil .nil) .nil)) .nil)) .nil)) (.two .nil .nil))))
theorem S.rostrumref1_Same.ok (R : Value → World → Prop) (v0 v1 : Value) (W : World) : bodyK PR CB Try.f41 S.rostrumref1_Same.hint [v0, v1] R W = S.rostrumref1_Same.body R v0 v1 W := by kernel_rfl
theorem S.rostrumref1_Same.fn : PR.funcs[F_rostrumref1_Same]? = some Try.f41 := by kernel_rfl
theorem S.rostrumref1_Same.call {R : Value → World → Prop} {v0 v1 : Value} {W : World} (h : S.rostrumref1_Same.body R v0 v1 W) : callK PR F_rostrumref1_Same [v0, v1] R W :=
  callK_of_body (g := F_rostrumref1_Same) (fn := Try.f41) (args := [v0, v1]) (R := R) (w := W) mixed CBok S.rostrumref1_Same.fn S.rostrumref1_Same.hint (by rw [S.rostrumref1_Same.ok]; exact h)
end Go.Proofs.Ythladblmjoaeoaa
namespace Go.Proofs.Ythladblmjoaeoaa
set_option linter.unusedVariables false
set_option linter.unusedSimpArgs false
open Go Go.Eng

theorem str_eq {l m : Bs} : ((⟨l.toArray⟩ : ByteArray) = ⟨m.toArray⟩) ↔ l = m := by
  constructor
  · intro h
    injection h with h
    exact Array.toList_inj.2 h |> fun h => by simpa using h
  · rintro rfl; rfl
theorem GD.fresh : GD 0 0 [] [] [] [] := ⟨.refl _, .nil, fun x hx => (by cases hx), fun p hp => (by cases hp), fun p hp => (by cases hp), fun _ => rfl, by simp, fun x hx => (by cases hx), by decide⟩
section
variable {W0 W : World} {L L' L1 L2 : List Asn} {q dp : Nat} {d : DS} {l : LS} {k : Value → World → Prop}
theorem refSame {a b : Option Addr} {c e : Nat} {r1 r2 : List BSl} (h : St W0 L W) [hr1 : Rd W0 L a BSY r1] [hr2 : Rd W0 L b BSY r2] (h1 : ∀ x ∈ r1, Rd W0 L x.a B8 x.bs) (h2 : ∀ x ∈ r2, Rd W0 L x.a B8 x.bs) (hl : r1.length < 4611686018427387904)
    (hk : ∀ W', St W0 L W' → k (.bool (decide (bsOf r1 = bsOf r2))) W') : callK PR F_rostrumref1_Same [.slice a r1.length c, .slice b r2.length e] k W := by
  apply S.rostrumref1_Same.call
  unfold S.rostrumref1_Same.body
  by_cases hn : r1.length = r2.length
  · have f1 : decide ((r1.length : Int) = (r2.length : Int)) = true := decide_eq_true (by omega)
    (repeat (first | (first | ((with_reducible first | refine w1 ?_ | refine w3 ?_ | refine w4 ?_ | refine w11 ?_ | refine stb_n ?_); intros) | ((with_reducible first | refine v5 ?_ | refine v6 ?_ | refine v7 ?_ | refine ve ?_ | refine vn ?_); refine ⟨_, rfl, ?_⟩) | ((with_reducible first | refine v8 ?_ ?_ | refine v9 ?_ ?_ | refine v10 ?_ ?_ | refine v12 ?_ ?_); exact rfl; intros) | ((with_reducible refine w2 ?_); try simp -implicitDefEqProofs only [SE, SU, SV, f1]; intros) | ((with_reducible refine w5 ?_ ?_); simp; refine ⟨_, rfl, ?_⟩) | ((with_reducible refine w12 ?_ ?_ ?_ ?_); simp; simp; simp [oneC]; intros) | (refine okF_i (bldP_eq rfl) ?_; try simp only [BLS, SB, Nat.reduceAdd])) | simp -implicitDefEqProofs only [SE, SU, SV, f1]))
    refine loop_c (σ := Unit) r1.length (fun i _ => [.slice a r1.length c, .slice b r2.length e, .int .i64 i]) (fun i _ W1 => bsOf (r1.take i) = bsOf (r2.take i) ∧ St W0 L W1) () rfl ⟨rfl, h⟩ ?_
    clear h
    rintro K i _ W1 hi ⟨hall, h⟩ hK
    simp -implicitDefEqProofs only [SE, SU, SV]
    unfold S.rostrumref1_Same.l1
    by_cases hlt : (i : Int) < (r1.length : Int)
    · have hib : i < r1.length := by omega
      have hib2 : i < r2.length := by omega
      have ew : IntKind.i64.wrap ((i : Int) + 1) = ((i + 1 : Nat) : Int) := by rw [i64w]; omega
      haveI := h1 _ (List.getElem_mem hib)
      haveI := h2 _ (List.getElem_mem hib2)
      (repeat (first | (first | ((with_reducible first | refine w1 ?_ | refine w3 ?_ | refine w4 ?_ | refine w11 ?_ | refine stb_n ?_); intros) | ((with_reducible first | refine v5 ?_ | refine v6 ?_ | refine v7 ?_ | refine ve ?_ | refine vn ?_); refine ⟨_, rfl, ?_⟩) | ((with_reducible first | refine v8 ?_ ?_ | refine v9 ?_ ?_ | refine v10 ?_ ?_ | refine v12 ?_ ?_); exact rfl; intros) | ((with_reducible refine w2 ?_); try simp -implicitDefEqProofs only [SE, SU, SV, hlt]; intros) | ((with_reducible refine w5 ?_ ?_); simp; refine ⟨_, rfl, ?_⟩) | ((with_reducible refine w12 ?_ ?_ ?_ ?_); simp; simp; simp [oneC]; intros) | (refine okF_i (bldP_eq rfl) ?_; try simp only [BLS, SB, Nat.reduceAdd])) | simp -implicitDefEqProofs only [SE, SU, SV, hlt]))
      refine ixA (i := i) (a := a) (l := r1) (A := BSY) h.tick rfl rfl hib fun g o ha => ?_
      cases ha
      refine ldA0 (i := i) (l := r1) (A := BSY) h.tick rfl hib (v := r1[i].v) rfl (by simp) ?_
      refine b2s (a := r1[i].a) (l := r1[i].bs) h.tick ?_
      refine ixA (i := i) (a := b) (l := r2) (A := BSY) h.tick rfl rfl hib2 fun g' o' ha => ?_
      cases ha
      refine ldA0 (i := i) (l := r2) (A := BSY) h.tick rfl hib2 (v := r2[i].v) rfl (by simp) ?_
      refine b2s (a := r2[i].a) (l := r2[i].bs) h.tick ?_
      by_cases he : r1[i].bs = r2[i].bs
      · have f2 : decide ((⟨r1[i].bs.toArray⟩ : ByteArray) = ⟨r2[i].bs.toArray⟩) = true := decide_eq_true (str_eq.2 he)
        (repeat (first | (first | ((with_reducible first | refine w1 ?_ | refine w3 ?_ | refine w4 ?_ | refine w11 ?_ | refine stb_n ?_); intros) | ((with_reducible first | refine v5 ?_ | refine v6 ?_ | refine v7 ?_ | refine ve ?_ | refine vn ?_); refine ⟨_, rfl, ?_⟩) | ((with_reducible first | refine v8 ?_ ?_ | refine v9 ?_ ?_ | refine v10 ?_ ?_ | refine v12 ?_ ?_); exact rfl; intros) | ((with_reducible refine w2 ?_); try simp -implicitDefEqProofs only [SE, SU, SV, f2, ew]; intros) | ((with_reducible refine w5 ?_ ?_); simp; refine ⟨_, rfl, ?_⟩) | ((with_reducible refine w12 ?_ ?_ ?_ ?_); simp; simp; simp [oneC]; intros) | (refine okF_i (bldP_eq rfl) ?_; try simp only [BLS, SB, Nat.reduceAdd])) | simp -implicitDefEqProofs only [SE, SU, SV, f2, ew]))
        refine hK () _ hib ⟨?_, h.tick⟩
        simp only [bsOf] at hall ⊢
        rw [take_snoc hib, take_snoc hib2, List.map_append, List.map_append, hall, List.map_cons, List.map_cons, he]
      · have f2 : decide ((⟨r1[i].bs.toArray⟩ : ByteArray) = ⟨r2[i].bs.toArray⟩) = false := decide_eq_false fun h => he (str_eq.1 h)
        have f3 : decide (bsOf r1 = bsOf r2) = false := decide_eq_false fun e => he (by
          have e1 : (bsOf r1)[i]? = (bsOf r2)[i]? := by rw [e]
          simpa [hib, hib2] using e1)
        rw [f3] at hk
        (repeat (first | (first | ((with_reducible first | refine w1 ?_ | refine w3 ?_ | refine w4 ?_ | refine w11 ?_ | refine stb_n ?_); intros) | ((with_reducible first | refine v5 ?_ | refine v6 ?_ | refine v7 ?_ | refine ve ?_ | refine vn ?_); refine ⟨_, rfl, ?_⟩) | ((with_reducible first | refine v8 ?_ ?_ | refine v9 ?_ ?_ | refine v10 ?_ ?_ | refine v12 ?_ ?_); exact rfl; intros) | ((with_reducible refine w2 ?_); try simp -implicitDefEqProofs only [SE, SU, SV, f2]; intros) | ((with_reducible refine w5 ?_ ?_); simp; refine ⟨_, rfl, ?_⟩) | ((with_reducible refine w12 ?_ ?_ ?_ ?_); simp; simp; simp [oneC]; intros) | (refine okF_i (bldP_eq rfl) ?_; try simp only [BLS, SB, Nat.reduceAdd])) | simp -implicitDefEqProofs only [SE, SU, SV, f2]))
        exact hk _ h.tick
    · rw [List.take_of_length_le (by omega), List.take_of_length_le (by omega)] at hall
      have f3 := decide_eq_true hall
      rw [f3] at hk
      (repeat (first | (first | ((with_reducible first | refine w1 ?_ | refine w3 ?_ | refine w4 ?_ | refine w11 ?_ | refine stb_n ?_); intros) | ((with_reducible first | refine v5 ?_ | refine v6 ?_ | refine v7 ?_ | refine ve ?_ | refine vn ?_); refine ⟨_, rfl, ?_⟩) | ((with_reducible first | refine v8 ?_ ?_ | refine v9 ?_ ?_ | refine v10 ?_ ?_ | refine v12 ?_ ?_); exact rfl; intros) | ((with_reducible refine w2 ?_); try simp -implicitDefEqProofs only [SE, SU, SV, hlt]; intros) | ((with_reducible refine w5 ?_ ?_); simp; refine ⟨_, rfl, ?_⟩) | ((with_reducible refine w12 ?_ ?_ ?_ ?_); simp; simp; simp [oneC]; intros) | (refine okF_i (bldP_eq rfl) ?_; try simp only [BLS, SB, Nat.reduceAdd])) | simp -implicitDefEqProofs only [SE, SU, SV, hlt]))
      exact hk _ h
  · have f1 : decide ((r1.length : Int) = (r2.length : Int)) = false := decide_eq_false (by omega)
    have f3 : decide (bsOf r1 = bsOf r2) = false := decide_eq_false fun e => hn (by have := congrArg List.length e; simpa using this)
    rw [f3] at hk
    (repeat (first | (first | ((with_reducible first | refine w1 ?_ | refine w3 ?_ | refine w4 ?_ | refine w11 ?_ | refine stb_n ?_); intros) | ((with_reducible first | refine v5 ?_ | refine v6 ?_ | refine v7 ?_ | refine ve ?_ | refine vn ?_); refine ⟨_, rfl, ?_⟩) | ((with_reducible first | refine v8 ?_ ?_ | refine v9 ?_ ?_ | refine v10 ?_ ?_ | refine v12 ?_ ?_); exact rfl; intros) | ((with_reducible refine w2 ?_); try simp -implicitDefEqProofs only [SE, SU, SV, f1]; intros) | ((with_reducible refine w5 ?_ ?_); simp; refine ⟨_, rfl, ?_⟩) | ((with_reducible refine w12 ?_ ?_ ?_ ?_); simp; simp; simp [oneC]; intros) | (refine okF_i (bldP_eq rfl) ?_; try simp only [BLS, SB, Nat.reduceAdd])) | simp -implicitDefEqProofs only [SE, SU, SV, f1]))
    exact hk _ h
variable {n : Nat} {part : Int} {base : Bs} {all : List Bs} {safe : Nat} {room used : Int} {turns files : Nat} {nt : Bool}
theorem walOpenV {t : Nat} {bn : Int} {P : List PT} {J : Fs} (h : St W0 L W) (h0 : W0.drawn = 0) [ht : Tk (dk dp) L d L'] (h1 : ¬ part < 1) (h2 : ¬ 1000 < part) (ho : d.on = true) (hd : d.ok) (hw : d.ws = []) (hg : GD t bn base P J d.fs) (hroom : d.room = room) (hu : lens d.fs ≤ used) (hf : d.fs.length ≤ files) (htn : t ≤ turns) (htn2 : turns < 2 ^ 62)
    (hrl : (recsOf P).length + n < 400000) (hnt : nt = true → ∀ p ∈ P, p.tail = []) (hk : ∀ q d' l W', WV n d' l part base (recsOf P) (recsOf P).length room used turns files nt → d'.lives = d.lives ∧ d'.ws = [] → St W0 (lg q dp l :: dk dp d' :: L') W' → k (.tuple #[.pointer (some ⟨q, 0, none⟩), .int .i64 0]) W') :
    callK PR F_wal_Open [.pointer (some ⟨dp, 0, none⟩), .int .i64 part] k W := by
  refine walOpen h h0 h1 h2 ho hd hw hg (by omega) fun q fs' nums W1 e1 e2 e3 h => ?_
  refine hk q _ _ _ (WV.opened (P := P) e1 hw (pfx_recs t P 0) rfl rfl hroom (Int.le_trans e3 hu) (Nat.le_trans e2 hf) htn htn2 ⟨hd.1, hd.2.1, Int.le_trans e3 hd.2.2⟩ hrl rfl ?_ hnt) ⟨rfl, hw⟩ h
  have := lastCount_le (pfx t 0 P)
  rw [pfx_recs] at this
  exact this
theorem walAddV {a : Option Addr} {c : Nat} {rs : List BSl} (h : St W0 L W) [hl : Tk (lg q dp) L l L1] [hd : Tk (dk dp) L1 d L2] [hr : Rd W0 L2 a BSY rs] (hrs : ∀ x ∈ rs, Rd W0 L2 x.a B8 x.bs) (hv : WV (n + rs.length) d l part base all safe room used turns files nt) (hal : all.length < 500000)
    (hb : ∀ r ∈ bsOf rs, r.length ≤ 65536) (hp : 1 ≤ part) (hf : files + rs.length ≤ 1000) (hroom : used + cost (bsOf rs) ≤ room)
    (hk : ∀ d' l' W', d'.lives = d.lives → WV n d' l' part base (all ++ bsOf rs) safe room (used + cost (bsOf rs)) turns (files + rs.length) nt → St W0 (lg q dp l' :: dk dp d' :: L2) W' → k (.int .i64 0) W') : callK PR F_wal_Log_Add [.pointer (some ⟨q, 0, none⟩), .slice a rs.length c] k W := by
  have e0 : (bsOf rs).length = rs.length := by simp
  have hv2 : WV (n + (bsOf rs).length) d l part base all safe room used turns files nt := by rw [e0]; exact hv
  obtain ⟨e1, e2⟩ := hv2.addAll hb hp (by rw [e0]; exact hf) hroom
  rw [e0] at e2
  have hlv : (LS.addAll d l (bsOf rs)).1.lives = d.lives := by
    obtain ⟨_, _, _, g1, _⟩ := hv.live
    obtain ⟨_, _, _, g2, _⟩ := e2.live
    rw [← g1.lives, ← g2.lives]
    exact addAll_lives _ _ _
  have hL := hv.lok
  refine walAdd (dp := dp) h hrs (by have := hL.ws; omega) (by rw [hv.recs]; exact hal) (fun x hx => by have := hb x.bs (List.mem_map_of_mem hx); omega) ⟨hL.ok, by have := hL.ws; omega, by have := hL.nums; omega, by have := hL.dirty; omega, hL.turn, by have := hL.index; omega, by have := hL.count; omega⟩ fun W1 h => ?_
  rw [e1]
  exact hk _ _ _ hlv e2 h
theorem walSyncV (h : St W0 L W) [hl : Tk (lg q dp) L l L1] [hd : Tk (dk dp) L1 d L2] (hv : WV n d l part base all safe room used turns files nt)
    (hk : ∀ d' l' W', d'.lives = d.lives ∧ d'.ws = [] → WV n d' l' part base all all.length room used turns files nt → St W0 (lg q dp l' :: dk dp d' :: L2) W' → k (.int .i64 0) W') : callK PR F_wal_Log_Sync [.pointer (some ⟨q, 0, none⟩)] k W := by
  obtain ⟨e1, e2⟩ := hv.sync
  have hlv : (LS.sync d l).1.lives = d.lives ∧ (LS.sync d l).1.ws = [] := by
    obtain ⟨_, _, _, g1, _⟩ := hv.live
    rw [g1.sync.1]; exact ⟨rfl, rfl⟩
  refine walSync (dp := dp) h (by have := hv.lok.ws; omega) (by have := hv.lok.dirty; omega) fun W1 h => ?_
  rw [e1]
  exact hk _ _ _ hlv e2 h
end
end Go.Proofs.Ythladblmjoaeoaa
namespace Go.Eng
set_option linter.unusedVariables false
set_option linter.unusedSimpArgs false
open Go Go.RowKit
section
variable {P : Program} {W0 W : World} {L : List Asn} {e : TypeId}
theorem bl1 (l : List UInt8) {t : TypeId} {by' n : Nat} {z : Value} [ht : TyS P t e 1 by' z] {ps : List (Nat × Value)} {k : Value → World → Prop} (h : St W0 L W) (hln : l.length = n) (hn : n ≤ 16777216) (hn0 : n ≠ 0)
    (hc : fillL (fun i => some (i * 1, 1)) ((List.range (n * 1)).map fun i => ((vcells z)[i % (vcells z).length]?).getD undef) ps = some (B8.rows l))
    (hk : ∀ b W', St W0 (blk b (.cells (B8.rows l).toArray e) :: L) W' → k (.slice (some ⟨b, 0, none⟩) l.length l.length) W') : efK P (Instr.buildSlice t n ps.toArray) k W := by
  subst hln
  exact ⟨_, _, bs_run (P := P) (t := t) (e := e) (by omega) (by omega) hc, hk _ _ (h.alloc _)⟩
theorem bl2 (l : List UInt8) {b n c : Nat} {t : TypeId} [hb : BytesT P t e] {k : Value → World → Prop} (h : St W0 (blk b (.cells (B8.rows l).toArray e) :: L) W) (hl : l.length ≤ maxLen)
    (hk : ∀ W', St W0 (arr B8 e (some ⟨b, 0, none⟩) l.length l :: L) W' → k (.slice (some ⟨b, 0, none⟩) n c) W') : efK P (convert t t (.slice (some ⟨b, 0, none⟩) n c)) k W := by
  have hbl := h.blk.2
  have hsh : W.shape? b = some (e, (B8.rows l).toArray.size) := by
    unfold World.shape?; rw [hbl]
  have hfr : W.freeze ⟨b, (B8.rows l).toArray.size, none⟩ 1 = { W with heap := W.heap.setIfInBounds b (.cells (B8.rows l).toArray e ((B8.rows l).toArray.size, (B8.rows l).toArray.size + 1)) } := by
    unfold World.freeze
    rw [if_neg (by decide)]
    congr 1
    apply Array.ext_getElem?
    intro i
    rw [Array.getElem?_modify, Array.getElem?_setIfInBounds]
    by_cases hi : b = i
    · subst hi
      rw [if_pos rfl, if_pos rfl, hbl]
      rw [if_pos (Array.getElem?_eq_some_iff.1 hbl).1]
      rfl
    · rw [if_neg hi, if_neg hi]
  refine ⟨.slice (some ⟨b, 0, none⟩) n c, W.freeze ⟨b, (B8.rows l).toArray.size, none⟩ 1, ?_, hk _ ?_⟩
  · simp [convert, run_underlying hb.ok.1, run_underlying hb.ok.2, markStringish, hsh]
  · rw [hfr]
    refine (((h.setBlk _).weak (a' := cells b (B8.rows l) e) fun p hp => ⟨((B8.rows l).toArray.size, (B8.rows l).toArray.size + 1), ?_, hp⟩).ent (arr_full (A := B8) hl))
    intro i hi
    simp; omega
end
end Go.Eng
namespace Go.Proofs.Ythladblmjoaeoaa
set_option linter.unusedVariables false
set_option linter.unusedSimpArgs false
open Go Go.Eng

section
variable {W0 W : World} {L L' : List Asn} {k : Value → World → Prop}
theorem bsOf1 (a : Option Addr) (c : Nat) (b : Bs) : bsOf [⟨a, c, b⟩] = [b] := rfl
theorem rd1 {W0 : World} {L : List Asn} {a : Option Addr} {c : Nat} {b : Bs} [h : Rd W0 L a B8 b] : ∀ x ∈ [(⟨a, c, b⟩ : BSl)], Rd W0 L x.a B8 x.bs := fun x hx => by rw [List.mem_singleton.1 hx]; exact h
theorem rdIn {rs : List BSl} {L : List Asn} : ∀ x ∈ rs, Rd W0 (many fch rs :: L) x.a B8 x.bs := fun x hx => rdMany (.inr hx)
theorem rdUp {rs : List BSl} {x : Asn} {L : List Asn} (h : ∀ y ∈ rs, Rd W0 L y.a B8 y.bs) : ∀ y ∈ rs, Rd W0 (x :: L) y.a B8 y.bs := fun y hy => by haveI := h y hy; exact Rd.there _ _ _ _ _ _
set_option maxRecDepth 20000 in
set_option maxHeartbeats 2000000 in
theorem lawAwake6 (h : St W0 L W) (h0 : W0.drawn = 0) (hk : ∀ W', St W0 L W' → k (.bool true) W') : callK PR F_rostrumlaw6_awake [] k W := by
  apply S.rostrumlaw6_awake.call
  unfold S.rostrumlaw6_awake.body
  refine diskNew h (by decide) (by decide) fun p W1 h => ?_
  (repeat (first | (first | ((with_reducible first | refine w1 ?_ | refine w3 ?_ | refine w4 ?_ | refine w11 ?_ | refine stb_n ?_); intros) | ((with_reducible first | refine v5 ?_ | refine v6 ?_ | refine v7 ?_ | refine ve ?_ | refine vn ?_); refine ⟨_, rfl, ?_⟩) | ((with_reducible first | refine v8 ?_ ?_ | refine v9 ?_ ?_ | refine v10 ?_ ?_ | refine v12 ?_ ?_); exact rfl; intros) | ((with_reducible refine w2 ?_); try simp -implicitDefEqProofs only [SE, SU, SV]; intros) | ((with_reducible refine w5 ?_ ?_); simp; refine ⟨_, rfl, ?_⟩) | ((with_reducible refine w12 ?_ ?_ ?_ ?_); simp; simp; simp [oneC]; intros) | (refine okF_i (bldP_eq rfl) ?_; try simp only [BLS, SB, Nat.reduceAdd])) | simp -implicitDefEqProofs only [SE, SU, SV]))
  refine walOpenV (dp := p) (d := ⟨10000, [], [], true, 1⟩) (part := 2) (n := 1000) (room := 10000) (used := 0) (turns := 0) (files := 0) (by first | assumption | exact St.tick (by assumption) | exact St.tick (St.tick (by assumption))) h0 (by decide) (by decide) rfl ⟨by decide, by decide, by decide⟩ rfl (nt := false) GD.fresh rfl (Int.le_refl _) (Nat.le_refl _) (Nat.le_refl _) (by decide) (by decide) (fun h => nomatch h) fun q d1 l1 W2 hv _ h => ?_
  (repeat (first | (first | ((with_reducible first | refine w1 ?_ | refine w3 ?_ | refine w4 ?_ | refine w11 ?_ | refine stb_n ?_); intros) | ((with_reducible first | refine v5 ?_ | refine v6 ?_ | refine v7 ?_ | refine ve ?_ | refine vn ?_); refine ⟨_, rfl, ?_⟩) | ((with_reducible first | refine v8 ?_ ?_ | refine v9 ?_ ?_ | refine v10 ?_ ?_ | refine v12 ?_ ?_); exact rfl; intros) | ((with_reducible refine w2 ?_); try simp -implicitDefEqProofs only [SE, SU, SV]; intros) | ((with_reducible refine w5 ?_ ?_); simp; refine ⟨_, rfl, ?_⟩) | ((with_reducible refine w12 ?_ ?_ ?_ ?_); simp; simp; simp [oneC]; intros) | (refine okF_i (bldP_eq rfl) ?_; try simp only [BLS, SB, Nat.reduceAdd])) | simp -implicitDefEqProofs only [SE, SU, SV]))
  refine bytesLit [120] (by first | assumption | exact St.tick (by assumption) | exact St.tick (St.tick (by assumption))) rfl (by decide) (by decide) rfl fun a1 c1 W3 h => ?_
  refine bsA BSY [⟨a1, c1, [120]⟩] (n := 1) h rfl rfl (by decide) (by decide) rfl fun a2 c2 W4 h => ?_
  refine walAddV (dp := p) (q := q) (rs := [⟨a1, c1, [120]⟩]) (n := 999) h rd1 hv (by decide) (by rw [bsOf1]; decide) (by decide) (show 0 + 1 ≤ 1000 by decide) (by rw [bsOf1]; decide) fun d2 l2 W5 _ hv h => ?_
  have hv : WV 999 d2 l2 2 [] [[120]] 0 10000 45 0 1 false := hv
  refine walSyncV (dp := p) (q := q) h hv fun d3 l3 W6 _ hv h => ?_
  refine bytesLit [121] h rfl (by decide) (by decide) rfl fun a3 c3 W7 h => ?_
  refine bsA BSY [⟨a3, c3, [121]⟩] (n := 1) h rfl rfl (by decide) (by decide) rfl fun a4 c4 W8 h => ?_
  refine walAddV (dp := p) (q := q) (rs := [⟨a3, c3, [121]⟩]) (n := 998) h rd1 hv (by decide) (by rw [bsOf1]; decide) (by decide) (show 1 + 1 ≤ 1000 by decide) (by rw [bsOf1]; decide) fun d4 l4 W9 _ hv h => ?_
  have hv : WV 998 d4 l4 2 [] [[120], [121]] 1 10000 90 0 2 false := hv
  refine walAll (dp := p) (l := l4) h (by rw [hv.recs]; decide) (by rw [hv.recs]; decide) fun a5 c5 rs5 W10 hrs5 h => ?_
  rw [hv.recs] at hrs5
  obtain ⟨t, bn, P, J, m, g1, g2, g3, g4, g5, g6, g7, g8, g9, g10, g11⟩ := hv.crash 0 0
  have hm := g6 (Int.le_refl _) (Int.le_refl _)
  refine diskCrash (d := d4) (keep := 0) (torn := 0) h hv.lok.ok g11 (by have := hv.lok.ws; omega) fun W11 h => ?_
  refine diskOn (d := d4.crash 0 0) h fun W12 h => ?_
  have hr3 : recsOf P = [[120]] := by rw [g3, hm]; rfl
  refine walOpenV (dp := p) (d := (d4.crash 0 0).power) (part := 2) (n := 1000) h h0 (by decide) (by decide) rfl g9 rfl g1 g10 g7 g8 g2 (by decide) (by rw [hr3]; decide) (nt := false) (fun h => nomatch h) fun q2 d5 l5 W13 hv _ h => ?_
  rw [hr3] at hv
  (repeat (first | (first | ((with_reducible first | refine w1 ?_ | refine w3 ?_ | refine w4 ?_ | refine w11 ?_ | refine stb_n ?_); intros) | ((with_reducible first | refine v5 ?_ | refine v6 ?_ | refine v7 ?_ | refine ve ?_ | refine vn ?_); refine ⟨_, rfl, ?_⟩) | ((with_reducible first | refine v8 ?_ ?_ | refine v9 ?_ ?_ | refine v10 ?_ ?_ | refine v12 ?_ ?_); exact rfl; intros) | ((with_reducible refine w2 ?_); try simp -implicitDefEqProofs only [SE, SU, SV]; intros) | ((with_reducible refine w5 ?_ ?_); simp; refine ⟨_, rfl, ?_⟩) | ((with_reducible refine w12 ?_ ?_ ?_ ?_); simp; simp; simp [oneC]; intros) | (refine okF_i (bldP_eq rfl) ?_; try simp only [BLS, SB, Nat.reduceAdd])) | simp -implicitDefEqProofs only [SE, SU, SV]))
  refine bl1 [120] (by first | assumption | exact St.tick (by assumption) | exact St.tick (St.tick (by assumption))) rfl (by decide) (by decide) rfl fun b1 W14 h => ?_
  (repeat (first | (first | ((with_reducible first | refine w1 ?_ | refine w3 ?_ | refine w4 ?_ | refine w11 ?_ | refine stb_n ?_); intros) | ((with_reducible first | refine v5 ?_ | refine v6 ?_ | refine v7 ?_ | refine ve ?_ | refine vn ?_); refine ⟨_, rfl, ?_⟩) | ((with_reducible first | refine v8 ?_ ?_ | refine v9 ?_ ?_ | refine v10 ?_ ?_ | refine v12 ?_ ?_); exact rfl; intros) | ((with_reducible refine w2 ?_); try simp -implicitDefEqProofs only [SE, SU, SV]; intros) | ((with_reducible refine w5 ?_ ?_); simp; refine ⟨_, rfl, ?_⟩) | ((with_reducible refine w12 ?_ ?_ ?_ ?_); simp; simp; simp [oneC]; intros) | (refine okF_i (bldP_eq rfl) ?_; try simp only [BLS, SB, Nat.reduceAdd])) | simp -implicitDefEqProofs only [SE, SU, SV]))
  refine bl2 [120] (by first | assumption | exact St.tick (by assumption) | exact St.tick (St.tick (by assumption))) (by decide) fun W15 h => ?_
  (repeat (first | (first | ((with_reducible first | refine w1 ?_ | refine w3 ?_ | refine w4 ?_ | refine w11 ?_ | refine stb_n ?_); intros) | ((with_reducible first | refine v5 ?_ | refine v6 ?_ | refine v7 ?_ | refine ve ?_ | refine vn ?_); refine ⟨_, rfl, ?_⟩) | ((with_reducible first | refine v8 ?_ ?_ | refine v9 ?_ ?_ | refine v10 ?_ ?_ | refine v12 ?_ ?_); exact rfl; intros) | ((with_reducible refine w2 ?_); try simp -implicitDefEqProofs only [SE, SU, SV]; intros) | ((with_reducible refine w5 ?_ ?_); simp; refine ⟨_, rfl, ?_⟩) | ((with_reducible refine w12 ?_ ?_ ?_ ?_); simp; simp; simp [oneC]; intros) | (refine okF_i (bldP_eq rfl) ?_; try simp only [BLS, SB, Nat.reduceAdd])) | simp -implicitDefEqProofs only [SE, SU, SV]))
  refine bl1 [121] (by first | assumption | exact St.tick (by assumption) | exact St.tick (St.tick (by assumption))) rfl (by decide) (by decide) rfl fun b2 W16 h => ?_
  (repeat (first | (first | ((with_reducible first | refine w1 ?_ | refine w3 ?_ | refine w4 ?_ | refine w11 ?_ | refine stb_n ?_); intros) | ((with_reducible first | refine v5 ?_ | refine v6 ?_ | refine v7 ?_ | refine ve ?_ | refine vn ?_); refine ⟨_, rfl, ?_⟩) | ((with_reducible first | refine v8 ?_ ?_ | refine v9 ?_ ?_ | refine v10 ?_ ?_ | refine v12 ?_ ?_); exact rfl; intros) | ((with_reducible refine w2 ?_); try simp -implicitDefEqProofs only [SE, SU, SV]; intros) | ((with_reducible refine w5 ?_ ?_); simp; refine ⟨_, rfl, ?_⟩) | ((with_reducible refine w12 ?_ ?_ ?_ ?_); simp; simp; simp [oneC]; intros) | (refine okF_i (bldP_eq rfl) ?_; try simp only [BLS, SB, Nat.reduceAdd])) | simp -implicitDefEqProofs only [SE, SU, SV]))
  refine bl2 [121] (by first | assumption | exact St.tick (by assumption) | exact St.tick (St.tick (by assumption))) (by decide) fun W17 h => ?_
  (repeat (first | (first | ((with_reducible first | refine w1 ?_ | refine w3 ?_ | refine w4 ?_ | refine w11 ?_ | refine stb_n ?_); intros) | ((with_reducible first | refine v5 ?_ | refine v6 ?_ | refine v7 ?_ | refine ve ?_ | refine vn ?_); refine ⟨_, rfl, ?_⟩) | ((with_reducible first | refine v8 ?_ ?_ | refine v9 ?_ ?_ | refine v10 ?_ ?_ | refine v12 ?_ ?_); exact rfl; intros) | ((with_reducible refine w2 ?_); try simp -implicitDefEqProofs only [SE, SU, SV]; intros) | ((with_reducible refine w5 ?_ ?_); simp; refine ⟨_, rfl, ?_⟩) | ((with_reducible refine w12 ?_ ?_ ?_ ?_); simp; simp; simp [oneC]; intros) | (refine okF_i (bldP_eq rfl) ?_; try simp only [BLS, SB, Nat.reduceAdd])) | simp -implicitDefEqProofs only [SE, SU, SV]))
  refine bsA BSY [⟨some ⟨b1, 0, none⟩, 1, [120]⟩, ⟨some ⟨b2, 0, none⟩, 1, [121]⟩] (n := 2) (by first | assumption | exact St.tick (by assumption) | exact St.tick (St.tick (by assumption))) rfl rfl (by decide) (by decide) rfl fun a6 c6 W18 h => ?_
  (repeat (first | (first | ((with_reducible first | refine w1 ?_ | refine w3 ?_ | refine w4 ?_ | refine w11 ?_ | refine stb_n ?_); intros) | ((with_reducible first | refine v5 ?_ | refine v6 ?_ | refine v7 ?_ | refine ve ?_ | refine vn ?_); refine ⟨_, rfl, ?_⟩) | ((with_reducible first | refine v8 ?_ ?_ | refine v9 ?_ ?_ | refine v10 ?_ ?_ | refine v12 ?_ ?_); exact rfl; intros) | ((with_reducible refine w2 ?_); try simp -implicitDefEqProofs only [SE, SU, SV]; intros) | ((with_reducible refine w5 ?_ ?_); simp; refine ⟨_, rfl, ?_⟩) | ((with_reducible refine w12 ?_ ?_ ?_ ?_); simp; simp; simp [oneC]; intros) | (refine okF_i (bldP_eq rfl) ?_; try simp only [BLS, SB, Nat.reduceAdd])) | simp -implicitDefEqProofs only [SE, SU, SV]))
  have h := St.wk (L' := arr BSY T_s_uint8 a6 c6 [⟨some ⟨b1, 0, none⟩, 1, [120]⟩, ⟨some ⟨b2, 0, none⟩, 1, [121]⟩] :: arr B8 T_uint8 (some ⟨b1, 0, none⟩) 1 [120] :: arr B8 T_uint8 (some ⟨b2, 0, none⟩) 1 [121] :: arr BSY T_s_uint8 a5 c5 rs5 :: many fch rs5 :: lg q2 p l5 :: dk p d5 :: L) (by first | assumption | exact St.tick (by assumption) | exact St.tick (St.tick (by assumption)))
  refine refSame (a := a5) (b := a6) (r1 := rs5) (r2 := [⟨some ⟨b1, 0, none⟩, 1, [120]⟩, ⟨some ⟨b2, 0, none⟩, 1, [121]⟩]) h (rdUp (rdUp (rdUp (rdUp rdIn)))) (fun x hx => ?_) (by have := congrArg List.length hrs5; simp at this; omega) fun W19 h => ?_
  · simp only [List.mem_cons, List.not_mem_nil, or_false] at hx
    rcases hx with rfl | rfl <;> exact inferInstance
  rw [hrs5, decide_eq_true (show ([[120], [121]] : List Bs) = bsOf [⟨some ⟨b1, 0, none⟩, 1, [120]⟩, ⟨some ⟨b2, 0, none⟩, 1, [121]⟩] from rfl)]
  (repeat (first | (first | ((with_reducible first | refine w1 ?_ | refine w3 ?_ | refine w4 ?_ | refine w11 ?_ | refine stb_n ?_); intros) | ((with_reducible first | refine v5 ?_ | refine v6 ?_ | refine v7 ?_ | refine ve ?_ | refine vn ?_); refine ⟨_, rfl, ?_⟩) | ((with_reducible first | refine v8 ?_ ?_ | refine v9 ?_ ?_ | refine v10 ?_ ?_ | refine v12 ?_ ?_); exact rfl; intros) | ((with_reducible refine w2 ?_); try simp -implicitDefEqProofs only [SE, SU, SV]; intros) | ((with_reducible refine w5 ?_ ?_); simp; refine ⟨_, rfl, ?_⟩) | ((with_reducible refine w12 ?_ ?_ ?_ ?_); simp; simp; simp [oneC]; intros) | (refine okF_i (bldP_eq rfl) ?_; try simp only [BLS, SB, Nat.reduceAdd])) | simp -implicitDefEqProofs only [SE, SU, SV]))
  refine walAll (dp := p) (l := l5) (by first | assumption | exact St.tick (by assumption) | exact St.tick (St.tick (by assumption))) (by rw [hv.recs]; decide) (by rw [hv.recs]; decide) fun a7 c7 rs7 W20 hrs7 h => ?_
  rw [hv.recs] at hrs7
  (repeat (first | (first | ((with_reducible first | refine w1 ?_ | refine w3 ?_ | refine w4 ?_ | refine w11 ?_ | refine stb_n ?_); intros) | ((with_reducible first | refine v5 ?_ | refine v6 ?_ | refine v7 ?_ | refine ve ?_ | refine vn ?_); refine ⟨_, rfl, ?_⟩) | ((with_reducible first | refine v8 ?_ ?_ | refine v9 ?_ ?_ | refine v10 ?_ ?_ | refine v12 ?_ ?_); exact rfl; intros) | ((with_reducible refine w2 ?_); try simp -implicitDefEqProofs only [SE, SU, SV]; intros) | ((with_reducible refine w5 ?_ ?_); simp; refine ⟨_, rfl, ?_⟩) | ((with_reducible refine w12 ?_ ?_ ?_ ?_); simp; simp; simp [oneC]; intros) | (refine okF_i (bldP_eq rfl) ?_; try simp only [BLS, SB, Nat.reduceAdd])) | simp -implicitDefEqProofs only [SE, SU, SV]))
  refine bl1 [120] (by first | assumption | exact St.tick (by assumption) | exact St.tick (St.tick (by assumption))) rfl (by decide) (by decide) rfl fun b3 W21 h => ?_
  (repeat (first | (first | ((with_reducible first | refine w1 ?_ | refine w3 ?_ | refine w4 ?_ | refine w11 ?_ | refine stb_n ?_); intros) | ((with_reducible first | refine v5 ?_ | refine v6 ?_ | refine v7 ?_ | refine ve ?_ | refine vn ?_); refine ⟨_, rfl, ?_⟩) | ((with_reducible first | refine v8 ?_ ?_ | refine v9 ?_ ?_ | refine v10 ?_ ?_ | refine v12 ?_ ?_); exact rfl; intros) | ((with_reducible refine w2 ?_); try simp -implicitDefEqProofs only [SE, SU, SV]; intros) | ((with_reducible refine w5 ?_ ?_); simp; refine ⟨_, rfl, ?_⟩) | ((with_reducible refine w12 ?_ ?_ ?_ ?_); simp; simp; simp [oneC]; intros) | (refine okF_i (bldP_eq rfl) ?_; try simp only [BLS, SB, Nat.reduceAdd])) | simp -implicitDefEqProofs only [SE, SU, SV]))
  refine bl2 [120] (by first | assumption | exact St.tick (by assumption) | exact St.tick (St.tick (by assumption))) (by decide) fun W22 h => ?_
  (repeat (first | (first | ((with_reducible first | refine w1 ?_ | refine w3 ?_ | refine w4 ?_ | refine w11 ?_ | refine stb_n ?_); intros) | ((with_reducible first | refine v5 ?_ | refine v6 ?_ | refine v7 ?_ | refine ve ?_ | refine vn ?_); refine ⟨_, rfl, ?_⟩) | ((with_reducible first | refine v8 ?_ ?_ | refine v9 ?_ ?_ | refine v10 ?_ ?_ | refine v12 ?_ ?_); exact rfl; intros) | ((with_reducible refine w2 ?_); try simp -implicitDefEqProofs only [SE, SU, SV]; intros) | ((with_reducible refine w5 ?_ ?_); simp; refine ⟨_, rfl, ?_⟩) | ((with_reducible refine w12 ?_ ?_ ?_ ?_); simp; simp; simp [oneC]; intros) | (refine okF_i (bldP_eq rfl) ?_; try simp only [BLS, SB, Nat.reduceAdd])) | simp -implicitDefEqProofs only [SE, SU, SV]))
  refine bsA BSY [⟨some ⟨b3, 0, none⟩, 1, [120]⟩] (n := 1) (by first | assumption | exact St.tick (by assumption) | exact St.tick (St.tick (by assumption))) rfl rfl (by decide) (by decide) rfl fun a8 c8 W23 h => ?_
  (repeat (first | (first | ((with_reducible first | refine w1 ?_ | refine w3 ?_ | refine w4 ?_ | refine w11 ?_ | refine stb_n ?_); intros) | ((with_reducible first | refine v5 ?_ | refine v6 ?_ | refine v7 ?_ | refine ve ?_ | refine vn ?_); refine ⟨_, rfl, ?_⟩) | ((with_reducible first | refine v8 ?_ ?_ | refine v9 ?_ ?_ | refine v10 ?_ ?_ | refine v12 ?_ ?_); exact rfl; intros) | ((with_reducible refine w2 ?_); try simp -implicitDefEqProofs only [SE, SU, SV]; intros) | ((with_reducible refine w5 ?_ ?_); simp; refine ⟨_, rfl, ?_⟩) | ((with_reducible refine w12 ?_ ?_ ?_ ?_); simp; simp; simp [oneC]; intros) | (refine okF_i (bldP_eq rfl) ?_; try simp only [BLS, SB, Nat.reduceAdd])) | simp -implicitDefEqProofs only [SE, SU, SV]))
  have h := St.wk (L' := arr BSY T_s_uint8 a8 c8 [⟨some ⟨b3, 0, none⟩, 1, [120]⟩] :: arr B8 T_uint8 (some ⟨b3, 0, none⟩) 1 [120] :: arr BSY T_s_uint8 a7 c7 rs7 :: many fch rs7 :: lg q2 p l5 :: dk p d5 :: L) (by first | assumption | exact St.tick (by assumption) | exact St.tick (St.tick (by assumption)))
  refine refSame (a := a7) (b := a8) (r1 := rs7) (r2 := [⟨some ⟨b3, 0, none⟩, 1, [120]⟩]) h (rdUp (rdUp (rdUp rdIn))) rd1 (by have := congrArg List.length hrs7; simp at this; omega) fun W24 h => ?_
  rw [hrs7, decide_eq_true (show ([[120]] : List Bs) = bsOf [⟨some ⟨b3, 0, none⟩, 1, [120]⟩] from rfl)]
  (repeat (first | (first | ((with_reducible first | refine w1 ?_ | refine w3 ?_ | refine w4 ?_ | refine w11 ?_ | refine stb_n ?_); intros) | ((with_reducible first | refine v5 ?_ | refine v6 ?_ | refine v7 ?_ | refine ve ?_ | refine vn ?_); refine ⟨_, rfl, ?_⟩) | ((with_reducible first | refine v8 ?_ ?_ | refine v9 ?_ ?_ | refine v10 ?_ ?_ | refine v12 ?_ ?_); exact rfl; intros) | ((with_reducible refine w2 ?_); try simp -implicitDefEqProofs only [SE, SU, SV]; intros) | ((with_reducible refine w5 ?_ ?_); simp; refine ⟨_, rfl, ?_⟩) | ((with_reducible refine w12 ?_ ?_ ?_ ?_); simp; simp; simp [oneC]; intros) | (refine okF_i (bldP_eq rfl) ?_; try simp only [BLS, SB, Nat.reduceAdd])) | simp -implicitDefEqProofs only [SE, SU, SV]))
  refine walBase (dp := p) (l := l5) (by first | assumption | exact St.tick (by assumption) | exact St.tick (St.tick (by assumption))) (by rw [hv.base]; decide) fun a9 c9 W25 h => ?_
  rw [hv.base]
  (repeat (first | (first | ((with_reducible first | refine w1 ?_ | refine w3 ?_ | refine w4 ?_ | refine w11 ?_ | refine stb_n ?_); intros) | ((with_reducible first | refine v5 ?_ | refine v6 ?_ | refine v7 ?_ | refine ve ?_ | refine vn ?_); refine ⟨_, rfl, ?_⟩) | ((with_reducible first | refine v8 ?_ ?_ | refine v9 ?_ ?_ | refine v10 ?_ ?_ | refine v12 ?_ ?_); exact rfl; intros) | ((with_reducible refine w2 ?_); try simp -implicitDefEqProofs only [SE, SU, SV]; intros) | ((with_reducible refine w5 ?_ ?_); simp; refine ⟨_, rfl, ?_⟩) | ((with_reducible refine w12 ?_ ?_ ?_ ?_); simp; simp; simp [oneC]; intros) | (refine okF_i (bldP_eq rfl) ?_; try simp only [BLS, SB, Nat.reduceAdd])) | simp -implicitDefEqProofs only [SE, SU, SV]))
  exact hk _ (St.wk (by first | assumption | exact St.tick (by assumption) | exact St.tick (St.tick (by assumption))))
end
end Go.Proofs.Ythladblmjoaeoaa
namespace Go.Proofs.Ythladblmjoaeoaa
set_option linter.unusedVariables false
set_option linter.unusedSimpArgs false
open Go Go.Eng Go.RowKit

mutual
theorem goodCz {W : World} {c : Cl} {v : Value} : GoodC W c v → GoodC { W with drawn := 0 } c v
  | .int h => .int h
  | .str h => .str h
  | .bool => .bool
  | .sl rows hc hm hn hr hg => .sl rows hc hm hn hr fun i hi => goodLz (hg i hi)
theorem goodLz {W : World} {l : List Cl} {v : List Value} : GoodL W l v → GoodL { W with drawn := 0 } l v
  | .nil => .nil
  | .cons h hs => .cons (goodCz h) (goodLz hs)
end
theorem goodAz {W : World} {l : List Cl} {b : Bool} {v : Value} (h : GoodA W l b v) : GoodA { W with drawn := 0 } l b v := ⟨goodLz h.1, h.2⟩
def rgBs (W : World) (x : BSl) : Prop := x.bs.length ≤ x.c ∧ x.c ≤ maxLen ∧ Rd W [] x.a B8 x.bs
instance : Inhabited BSl := ⟨⟨none, 0, []⟩⟩
theorem openBsC {W : World} {v : Value} (h : GoodC W (.sl [.sl [.int .u8]]) v) : ∃ (a : Option Addr) (c : Nat) (l : List BSl), v = .slice a l.length c ∧ l.length ≤ c ∧ c ≤ maxLen ∧ Rd W [] a BSY l ∧ ∀ x ∈ l, rgBs W x :=
  openArr BSY (rgBs W) h rfl fun vs h => by
    obtain ⟨_, _, rfl, h1, h⟩ := h.cons'
    obtain rfl := h.nil'
    obtain ⟨a, c, l, rfl, hl, hc, hr⟩ := openBytes h1
    exact ⟨⟨a, c, l⟩, rfl, hl, hc, hr⟩
theorem Rd.any {α : Type} {A : Ly α} {W0 : World} {L : List Asn} {a : Option Addr} {l : List α} (h : Rd W0 [] a A l) : Rd W0 L a A l := ⟨fun W hs => h.ok W hs.nil⟩
theorem Rd.wk {α : Type} {A : Ly α} {W0 : World} {L L' : List Asn} {a : Option Addr} {l : List α} (h : Rd W0 L' a A l) [hw : Wk L L'] : Rd W0 L a A l := ⟨fun W hs => h.ok W hs.wk⟩
theorem WV.small {n : Nat} {d : DS} {l : LS} {part : Int} {base : Bs} {all : List Bs} {safe : Nat} {room used : Int} {turns files : Nat} {nt : Bool} (h : WV n d l part base all safe room used turns files nt) : ∀ r ∈ l.recs, r.length < 70368744177664 := by
  obtain ⟨bn, P, P0, h1, h2, _⟩ := h.live
  intro r hr
  rw [h.recs, ← h2] at hr
  obtain ⟨p, hp, hr⟩ := List.mem_flatMap.1 hr
  have := h1.gd.rl p hp r hr
  omega
theorem WV.mono {n m : Nat} {d : DS} {l : LS} {part : Int} {base : Bs} {all : List Bs} {safe : Nat} {room used used' : Int} {turns files files' : Nat} {nt : Bool} (h : WV n d l part base all safe room used turns files nt) (hm : m ≤ n) (hu : used ≤ used') (hf : files ≤ files') : WV m d l part base all safe room used' turns files' nt :=
  ⟨h.live, h.recs, h.part, h.base, h.room, Int.le_trans h.used hu, Nat.le_trans h.nf hf, h.tn, ⟨h.lok.ok, by have := h.lok.ws; omega, by have := h.lok.nums; omega, by have := h.lok.dirty; omega, h.lok.turn, by have := h.lok.index; omega, by have := h.lok.count; omega⟩⟩
theorem WV.turns {n : Nat} {d : DS} {l : LS} {part : Int} {base : Bs} {all : List Bs} {safe : Nat} {room used : Int} {turns turns' files : Nat} {nt : Bool} (h : WV n d l part base all safe room used turns files nt) (ht : turns ≤ turns') : WV n d l part base all safe room used turns' files nt :=
  ⟨h.live, h.recs, h.part, h.base, h.room, h.used, h.nf, Nat.le_trans h.tn ht, h.lok⟩
end Go.Proofs.Ythladblmjoaeoaa
namespace Go.Proofs.Ythladblmjoaeoaa
set_option linter.unusedVariables false
set_option linter.unusedSimpArgs false
open Go.Eng
/-! ### rostrum/rostrumlaw6.WalFull (8) -/
def S.rostrumlaw6_WalFull.j1 (R : Value → World → Prop) (x1 x2 x7 x11 : Value) (W : World) : Prop :=
  callK PR F_wal_Open [x7, x1] (fun v105 W =>
  okF (extP 0 v105) fun v106 =>
  okF (extP 1 v105) fun v107 =>
  okF (binP .neq v107 (.int .i64 0)) fun v109 =>
  gdK (wantd v109 false) (fun k W => k v106 W) (fun v111 W =>
  gdK (wantd v109 false) (fun k W => okF (eqP (.pointer T_wal_Log) .eql v111 (.pointer none)) fun v => k v W) (fun v112 W =>
  okF (pickP v109 (.bool true) v112) fun v113 =>
  ifK v113 (
  okF (binP .eql v107 (.int .i64 6)) fun v115 =>
  R v115 W) (
  callK PR F_wal_Log_All [v106] (fun v117 W =>
  okF (lenP (.slice T_s_uint8) v117) fun v118 =>
  okF (binP .geq v118 x11) fun v121 =>
  gdK (wantd v121 true) (fun k W => k v118 W) (fun v123 W =>
  gdK (wantd v121 true) (fun k W => k x2 W) (fun v124 W =>
  gdK (wantd v121 true) (fun k W => okF (lenP (.slice T_s_uint8) v124) fun v => k v W) (fun v125 W =>
  gdK (wantd v121 true) (fun k W => okF (binP .leq v123 v125) fun v => k v W) (fun v126 W =>
  okF (pickP v121 v126 (.bool false)) fun v127 =>
  gdK (wantd v127 true) (fun k W => k v106 W) (fun v129 W =>
  gdK (wantd v127 true) (fun k W => k x2 W) (fun v131 W =>
  gdK (wantd v127 true) (fun k W => k v118 W) (fun v132 W =>
  gdK (wantd v127 true) (fun k W => okF (slcS 1 v131 none (some v132) none) fun v => k v W) (fun v133 W =>
  gdK (wantd v127 true) (fun k W => callK PR F_wal_Log_All [v129] k W) (fun v130 W =>
  gdK (wantd v127 true) (fun k W => callK PR F_rostrumref1_Same [v130, v133] k W) (fun v134 W =>
  okF (pickP v127 v134 (.bool false)) fun v135 =>
  R v135 W) W) W) W) W) W) W) W) W) W) (tick W)) W)) W) W) W
def S.rostrumlaw6_WalFull.j2 (R : Value → World → Prop) (J1 : List Value → World → Prop) (K1 : List Value → World → Prop) (x1 x2 x7 x9 x11 x12 x13 : Value) (W : World) : Prop :=
  okF (binP .neq x13 (.int .i64 0)) fun v85 =>
  ifK v85 (
  okF (binP .neq x13 (.int .i64 6)) fun v87 =>
  gdK (wantd v87 false) (fun k W => k x9 W) (fun v89 W =>
  gdK (wantd v87 false) (fun k W => callK PR F_wal_Log_Done [v89] k W) (fun v90 W =>
  gdK (wantd v87 false) (fun k W => okF (unP .not v90) fun v => k v W) (fun v91 W =>
  okF (pickP v87 (.bool true) v91) fun v92 =>
  gdK (wantd v92 false) (fun k W => k x9 W) (fun v94 W =>
  gdK (wantd v92 false) (fun k W => efK PR (Instr.buildSlice T_s_uint8 0 #[]) k W) (fun v95 W =>
  gdK (wantd v92 false) (fun k W => efK PR (Instr.buildSlice T_s_s_uint8 1 #[(0, v95)]) k W) (fun v96 W =>
  gdK (wantd v92 false) (fun k W => callK PR F_wal_Log_Add [v94, v96] k W) (fun v97 W =>
  gdK (wantd v92 false) (fun k W => okF (binP .neq v97 (.int .i64 7)) fun v => k v W) (fun v98 W =>
  okF (pickP v92 (.bool true) v98) fun v99 =>
  ifK v99 (
  R (.bool false) W) (
  J1 [x1, x2, x7, x11] W)) W) W) W) W) W) W) W) W) (
  okF (binP .add x11 (.int .i64 1)) fun v101 =>
  okF (binP .add x12 (.int .i64 1)) fun v66 =>
  K1 [x1, x2, x7, x9, v101, v66] W)
def S.rostrumlaw6_WalFull.l1 (R : Value → World → Prop) (J1 : List Value → World → Prop) (K1 : List Value → World → Prop) (x1 x2 x7 x9 x11 x12 : Value) (W : World) : Prop :=
  okF (lenP (.slice T_s_uint8) x2) fun v63 =>
  okF (binP .lss x12 v63) fun v64 =>
  ifK v64 (
  okF (idxS 1 x2 x12) fun v69 =>
  rdK PR (Instr.loadAt T_s_uint8 v69) (fun v70 W =>
  okF (lenP (.slice T_uint8) v70) fun v71 =>
  okF (binP .gtr v71 (.int .i64 200)) fun v72 =>
  ifK v72 (
  R (.bool true) W) (
  okF (idxS 1 x2 x12) fun v76 =>
  rdK PR (Instr.loadAt T_s_uint8 v76) (fun v77 W =>
  efK PR (Instr.buildSlice T_s_s_uint8 1 #[(0, v77)]) (fun v78 W =>
  callK PR F_wal_Log_Add [x9, v78] (fun v79 W =>
  joinK (fun s W => S.rostrumlaw6_WalFull.j2 R J1 K1 (nthv s 0) (nthv s 1) (nthv s 2) (nthv s 3) (nthv s 4) (nthv s 5) (nthv s 6) W) (fun J2 =>
  okF (binP .eql v79 (.int .i64 0)) fun v81 =>
  ifK v81 (
  callK PR F_wal_Log_Sync [x9] (fun v83 W =>
  J2 [x1, x2, x7, x9, x11, x12, v83] W) W) (
  J2 [x1, x2, x7, x9, x11, x12, v79] W))) W) W) W)) W) (
  J1 [x1, x2, x7, x11] W)
def S.rostrumlaw6_WalFull.body (R : Value → World → Prop) (v0 v1 v2 : Value) (W : World) : Prop :=
  callK PR F_rostrumlaw6_awake [] (fun v17 W =>
  okF (unP .not v17) fun v18 =>
  ifK v18 (
  R (.bool false) W) (
  okF (binP .lss v0 (.int .i64 300)) fun v20 =>
  gdK (wantd v20 false) (fun k W => k v0 W) (fun v22 W =>
  gdK (wantd v20 false) (fun k W => okF (binP .gtr v22 (.int .i64 5000)) fun v => k v W) (fun v23 W =>
  okF (pickP v20 (.bool true) v23) fun v24 =>
  gdK (wantd v24 false) (fun k W => k v1 W) (fun v26 W =>
  gdK (wantd v24 false) (fun k W => okF (binP .lss v26 (.int .i64 1)) fun v => k v W) (fun v27 W =>
  okF (pickP v24 (.bool true) v27) fun v28 =>
  gdK (wantd v28 false) (fun k W => k v1 W) (fun v30 W =>
  gdK (wantd v28 false) (fun k W => okF (binP .gtr v30 (.int .i64 1000)) fun v => k v W) (fun v31 W =>
  okF (pickP v28 (.bool true) v31) fun v32 =>
  gdK (wantd v32 false) (fun k W => k v2 W) (fun v34 W =>
  gdK (wantd v32 false) (fun k W => okF (lenP (.slice T_s_uint8) v34) fun v => k v W) (fun v35 W =>
  gdK (wantd v32 false) (fun k W => okF (binP .gtr v35 (.int .i64 40)) fun v => k v W) (fun v36 W =>
  okF (pickP v32 (.bool true) v36) fun v37 =>
  ifK v37 (
  R (.bool true) W) (
  callK PR F_disk_New [v0] (fun v40 W =>
  okF (extP 0 v40) fun v41 =>
  okF (extP 1 v40) fun v42 =>
  callK PR F_wal_Open [v41, v1] (fun v46 W =>
  okF (extP 0 v46) fun v47 =>
  okF (extP 1 v46) fun v48 =>
  okF (binP .neq v48 (.int .i64 0)) fun v50 =>
  gdK (wantd v50 false) (fun k W => k v47 W) (fun v52 W =>
  gdK (wantd v50 false) (fun k W => okF (eqP (.pointer T_wal_Log) .eql v52 (.pointer none)) fun v => k v W) (fun v53 W =>
  okF (pickP v50 (.bool true) v53) fun v54 =>
  ifK v54 (
  okF (binP .eql v48 (.int .i64 6)) fun v56 =>
  gdK (wantd v56 true) (fun k W => k v47 W) (fun v58 W =>
  gdK (wantd v56 true) (fun k W => okF (eqP (.pointer T_wal_Log) .eql v58 (.pointer none)) fun v => k v W) (fun v59 W =>
  okF (pickP v56 v59 (.bool false)) fun v60 =>
  R v60 W) W) W) (
  joinK (fun s W => S.rostrumlaw6_WalFull.j1 R (nthv s 0) (nthv s 1) (nthv s 2) (nthv s 3) W) (fun J1 =>
  loopK (fun K1 s W => S.rostrumlaw6_WalFull.l1 R J1 K1 (nthv s 0) (nthv s 1) (nthv s 2) (nthv s 3) (nthv s 4) (nthv s 5) W) [v1, v2, v41, v47, (.int .i64 0), (.int .i64 0)] W))) W) W) W) W)) W) W) W) W) W) W) W) W) W)) W
def S.rostrumlaw6_WalFull.hint : Hint := (.two .nil (.two (.two .nil (.two (.two .nil .nil) .nil)) (.two (.two .nil (.two (.two .nil .nil) .nil)) (.two .nil (.two .nil (.two (.two .nil (.two (.two .nil .nil) .nil)) (.two .nil (.at [1, 2, 7, 11] (.two .nil (.at [1, 2, 7, 9, 11, 12] (.two (.two .nil (.two .nil .nil)) (.two (.two (.two .nil (.two (.two .nil .nil) .nil)) (.two .nil (.at [1, 2, 7, 9, 11, 12, 13] (.two .nil (.two .nil .nil)) (.two (.two .nil (.two (.two (.two .nil (.two (.two .nil .nil) .nil)) .nil) .nil)) .nil)))) .nil)) .nil)) (.two .nil (.two (.two .nil (.two (.two .nil .nil) .nil)) (.two .nil (.two .nil .nil))))))))))))
theorem S.rostrumlaw6_WalFull.ok (R : Value → World → Prop) (v0 v1 v2 : Value) (W : World) : bodyK PR CB Try.f8 S.rostrumlaw6_WalFull.hint [v0, v1, v2] R W = S.rostrumlaw6_WalFull.body R v0 v1 v2 W := by kernel_rfl
theorem S.rostrumlaw6_WalFull.fn : PR.funcs[F_rostrumlaw6_WalFull]? = some Try.f8 := by kernel_rfl
theorem S.rostrumlaw6_WalFull.call {R : Value → World → Prop} {v0 v1 v2 : Value} {W : World} (h : S.rostrumlaw6_WalFull.body R v0 v1 v2 W) : callK PR F_rostrumlaw6_WalFull [v0, v1, v2] R W :=
  callK_of_body (g := F_rostrumlaw6_WalFull) (fn := Try.f8) (args := [v0, v1, v2]) (R := R) (w := W) mixed CBok S.rostrumlaw6_WalFull.fn S.rostrumlaw6_WalFull.hint (by rw [S.rostrumlaw6_WalFull.ok]; exact h)
end Go.Proofs.Ythladblmjoaeoaa
namespace Go.Proofs.Ythladblmjoaeoaa
set_option linter.unusedVariables false
set_option linter.unusedSimpArgs false
open Go Go.Eng Go.RowKit

set_option maxRecDepth 100000 in
set_option maxHeartbeats 4000000 in
theorem walFull_walk {W : World} {v0 v1 v2 : Value} (h0 : GoodA W [.int .i64] false v0) (h1 : GoodA W [.int .i64] false v1) (h2 : GoodA W [.sl [.sl [.int .u8]]] false v2) :
    callK PR F_rostrumlaw6_WalFull [v0, v1, v2] (fun v W' => v = .bool true ∧ Lo W W') W := by
  obtain ⟨room, rfl, _⟩ := h0.one.int'
  obtain ⟨part, rfl, _⟩ := h1.one.int'
  obtain ⟨a1, c1, l, rfl, hlc, hlm, hlr, hlg⟩ := openBsC (goodAz h2).one
  apply S.rostrumlaw6_WalFull.call
  unfold S.rostrumlaw6_WalFull.body
  have h := St.startz W
  refine lawAwake6 h rfl fun W1 h => ?_
  by_cases q1 : room < 300
  · (repeat (first | (first | ((with_reducible first | refine w1 ?_ | refine w3 ?_ | refine w4 ?_ | refine w11 ?_ | refine stb_n ?_); intros) | ((with_reducible first | refine v5 ?_ | refine v6 ?_ | refine v7 ?_ | refine ve ?_ | refine vn ?_); refine ⟨_, rfl, ?_⟩) | ((with_reducible first | refine v8 ?_ ?_ | refine v9 ?_ ?_ | refine v10 ?_ ?_ | refine v12 ?_ ?_); exact rfl; intros) | ((with_reducible refine w2 ?_); try simp -implicitDefEqProofs only [SE, SU, SV, q1]; intros) | ((with_reducible refine w5 ?_ ?_); simp; refine ⟨_, rfl, ?_⟩) | ((with_reducible refine w12 ?_ ?_ ?_ ?_); simp; simp; simp [oneC]; intros) | (refine okF_i (bldP_eq rfl) ?_; try simp only [BLS, SB, Nat.reduceAdd])) | simp -implicitDefEqProofs only [SE, SU, SV, q1])); exact St.lo h
  by_cases q2 : 5000 < room
  · (repeat (first | (first | ((with_reducible first | refine w1 ?_ | refine w3 ?_ | refine w4 ?_ | refine w11 ?_ | refine stb_n ?_); intros) | ((with_reducible first | refine v5 ?_ | refine v6 ?_ | refine v7 ?_ | refine ve ?_ | refine vn ?_); refine ⟨_, rfl, ?_⟩) | ((with_reducible first | refine v8 ?_ ?_ | refine v9 ?_ ?_ | refine v10 ?_ ?_ | refine v12 ?_ ?_); exact rfl; intros) | ((with_reducible refine w2 ?_); try simp -implicitDefEqProofs only [SE, SU, SV, q1, q2]; intros) | ((with_reducible refine w5 ?_ ?_); simp; refine ⟨_, rfl, ?_⟩) | ((with_reducible refine w12 ?_ ?_ ?_ ?_); simp; simp; simp [oneC]; intros) | (refine okF_i (bldP_eq rfl) ?_; try simp only [BLS, SB, Nat.reduceAdd])) | simp -implicitDefEqProofs only [SE, SU, SV, q1, q2])); exact St.lo h
  by_cases q3 : part < 1
  · (repeat (first | (first | ((with_reducible first | refine w1 ?_ | refine w3 ?_ | refine w4 ?_ | refine w11 ?_ | refine stb_n ?_); intros) | ((with_reducible first | refine v5 ?_ | refine v6 ?_ | refine v7 ?_ | refine ve ?_ | refine vn ?_); refine ⟨_, rfl, ?_⟩) | ((with_reducible first | refine v8 ?_ ?_ | refine v9 ?_ ?_ | refine v10 ?_ ?_ | refine v12 ?_ ?_); exact rfl; intros) | ((with_reducible refine w2 ?_); try simp -implicitDefEqProofs only [SE, SU, SV, q1, q2, q3]; intros) | ((with_reducible refine w5 ?_ ?_); simp; refine ⟨_, rfl, ?_⟩) | ((with_reducible refine w12 ?_ ?_ ?_ ?_); simp; simp; simp [oneC]; intros) | (refine okF_i (bldP_eq rfl) ?_; try simp only [BLS, SB, Nat.reduceAdd])) | simp -implicitDefEqProofs only [SE, SU, SV, q1, q2, q3])); exact St.lo h
  by_cases q4 : 1000 < part
  · (repeat (first | (first | ((with_reducible first | refine w1 ?_ | refine w3 ?_ | refine w4 ?_ | refine w11 ?_ | refine stb_n ?_); intros) | ((with_reducible first | refine v5 ?_ | refine v6 ?_ | refine v7 ?_ | refine ve ?_ | refine vn ?_); refine ⟨_, rfl, ?_⟩) | ((with_reducible first | refine v8 ?_ ?_ | refine v9 ?_ ?_ | refine v10 ?_ ?_ | refine v12 ?_ ?_); exact rfl; intros) | ((with_reducible refine w2 ?_); try simp -implicitDefEqProofs only [SE, SU, SV, q1, q2, q3, q4]; intros) | ((with_reducible refine w5 ?_ ?_); simp; refine ⟨_, rfl, ?_⟩) | ((with_reducible refine w12 ?_ ?_ ?_ ?_); simp; simp; simp [oneC]; intros) | (refine okF_i (bldP_eq rfl) ?_; try simp only [BLS, SB, Nat.reduceAdd])) | simp -implicitDefEqProofs only [SE, SU, SV, q1, q2, q3, q4])); exact St.lo h
  by_cases q5 : (40 : Int) < (l.length : Int)
  · (repeat (first | (first | ((with_reducible first | refine w1 ?_ | refine w3 ?_ | refine w4 ?_ | refine w11 ?_ | refine stb_n ?_); intros) | ((with_reducible first | refine v5 ?_ | refine v6 ?_ | refine v7 ?_ | refine ve ?_ | refine vn ?_); refine ⟨_, rfl, ?_⟩) | ((with_reducible first | refine v8 ?_ ?_ | refine v9 ?_ ?_ | refine v10 ?_ ?_ | refine v12 ?_ ?_); exact rfl; intros) | ((with_reducible refine w2 ?_); try simp -implicitDefEqProofs only [SE, SU, SV, q1, q2, q3, q4, q5]; intros) | ((with_reducible refine w5 ?_ ?_); simp; refine ⟨_, rfl, ?_⟩) | ((with_reducible refine w12 ?_ ?_ ?_ ?_); simp; simp; simp [oneC]; intros) | (refine okF_i (bldP_eq rfl) ?_; try simp only [BLS, SB, Nat.reduceAdd])) | simp -implicitDefEqProofs only [SE, SU, SV, q1, q2, q3, q4, q5])); exact St.lo h
  (repeat (first | (first | ((with_reducible first | refine w1 ?_ | refine w3 ?_ | refine w4 ?_ | refine w11 ?_ | refine stb_n ?_); intros) | ((with_reducible first | refine v5 ?_ | refine v6 ?_ | refine v7 ?_ | refine ve ?_ | refine vn ?_); refine ⟨_, rfl, ?_⟩) | ((with_reducible first | refine v8 ?_ ?_ | refine v9 ?_ ?_ | refine v10 ?_ ?_ | refine v12 ?_ ?_); exact rfl; intros) | ((with_reducible refine w2 ?_); try simp -implicitDefEqProofs only [SE, SU, SV, q1, q2, q3, q4, q5]; intros) | ((with_reducible refine w5 ?_ ?_); simp; refine ⟨_, rfl, ?_⟩) | ((with_reducible refine w12 ?_ ?_ ?_ ?_); simp; simp; simp [oneC]; intros) | (refine okF_i (bldP_eq rfl) ?_; try simp only [BLS, SB, Nat.reduceAdd])) | simp -implicitDefEqProofs only [SE, SU, SV, q1, q2, q3, q4, q5]))
  refine diskNew (by first | assumption | exact St.tick (by assumption) | exact St.tick (St.tick (by assumption))) (by omega) (by omega) fun p W3 h => ?_
  (repeat (first | (first | ((with_reducible first | refine w1 ?_ | refine w3 ?_ | refine w4 ?_ | refine w11 ?_ | refine stb_n ?_); intros) | ((with_reducible first | refine v5 ?_ | refine v6 ?_ | refine v7 ?_ | refine ve ?_ | refine vn ?_); refine ⟨_, rfl, ?_⟩) | ((with_reducible first | refine v8 ?_ ?_ | refine v9 ?_ ?_ | refine v10 ?_ ?_ | refine v12 ?_ ?_); exact rfl; intros) | ((with_reducible refine w2 ?_); try simp -implicitDefEqProofs only [SE, SU, SV]; intros) | ((with_reducible refine w5 ?_ ?_); simp; refine ⟨_, rfl, ?_⟩) | ((with_reducible refine w12 ?_ ?_ ?_ ?_); simp; simp; simp [oneC]; intros) | (refine okF_i (bldP_eq rfl) ?_; try simp only [BLS, SB, Nat.reduceAdd])) | simp -implicitDefEqProofs only [SE, SU, SV]))
  refine walOpenV (dp := p) (d := ⟨room, [], [], true, 1⟩) (part := part) (n := 500) (room := room) (used := 0) (turns := 0) (files := 0) (by first | assumption | exact St.tick (by assumption) | exact St.tick (St.tick (by assumption))) rfl q3 q4 rfl ⟨by simp only; omega, by simp only; omega, by show (0 : Int) ≤ room; omega⟩ rfl (nt := false) GD.fresh rfl (Int.le_refl _) (Nat.le_refl _) (Nat.le_refl _) (by decide) (by decide) (fun h => nomatch h) fun q d1 l1 W4 hv hd1 h => ?_
  have hv : WV 500 d1 l1 part [] [] 0 room 0 0 0 false := hv
  (repeat (first | (first | ((with_reducible first | refine w1 ?_ | refine w3 ?_ | refine w4 ?_ | refine w11 ?_ | refine stb_n ?_); intros) | ((with_reducible first | refine v5 ?_ | refine v6 ?_ | refine v7 ?_ | refine ve ?_ | refine vn ?_); refine ⟨_, rfl, ?_⟩) | ((with_reducible first | refine v8 ?_ ?_ | refine v9 ?_ ?_ | refine v10 ?_ ?_ | refine v12 ?_ ?_); exact rfl; intros) | ((with_reducible refine w2 ?_); try simp -implicitDefEqProofs only [SE, SU, SV]; intros) | ((with_reducible refine w5 ?_ ?_); simp; refine ⟨_, rfl, ?_⟩) | ((with_reducible refine w12 ?_ ?_ ?_ ?_); simp; simp; simp [oneC]; intros) | (refine okF_i (bldP_eq rfl) ?_; try simp only [BLS, SB, Nat.reduceAdd])) | simp -implicitDefEqProofs only [SE, SU, SV]))
  refine joinK_i ?_
  have hJ : ∀ (i : Nat) (d : DS) (t : Nat) (bn : Int) (P : List PT) (L : List Asn) (W1 : World), i ≤ l.length → d.on = true → d.ok → d.ws = [] → GD t bn [] P [] d.fs → t ≤ 0 → recsOf P = bsOf (l.take i) → St { W with drawn := 0 } (dk p d :: L) W1 →
      S.rostrumlaw6_WalFull.j1 (fun v W' => v = .bool true ∧ Lo W W') (.int .i64 part) (.slice a1 l.length c1) (.pointer (some ⟨p, 0, none⟩)) (.int .i64 (i : Int)) W1 := by
    intro i d t bn P L W1 hi ho hd hw hg ht hrec h
    unfold S.rostrumlaw6_WalFull.j1
    have hrl : (recsOf P).length = i := by rw [hrec]; simp; omega
    refine walOpenV (dp := p) (d := d) (part := part) (n := 500) h rfl q3 q4 ho hd hw hg rfl (Int.le_refl _) (Nat.le_refl _) ht (by decide) (by omega) (nt := false) (fun h => nomatch h) fun q2 d2 l2 W5 hv _ h => ?_
    (repeat (first | (first | ((with_reducible first | refine w1 ?_ | refine w3 ?_ | refine w4 ?_ | refine w11 ?_ | refine stb_n ?_); intros) | ((with_reducible first | refine v5 ?_ | refine v6 ?_ | refine v7 ?_ | refine ve ?_ | refine vn ?_); refine ⟨_, rfl, ?_⟩) | ((with_reducible first | refine v8 ?_ ?_ | refine v9 ?_ ?_ | refine v10 ?_ ?_ | refine v12 ?_ ?_); exact rfl; intros) | ((with_reducible refine w2 ?_); try simp -implicitDefEqProofs only [SE, SU, SV]; intros) | ((with_reducible refine w5 ?_ ?_); simp; refine ⟨_, rfl, ?_⟩) | ((with_reducible refine w12 ?_ ?_ ?_ ?_); simp; simp; simp [oneC]; intros) | (refine okF_i (bldP_eq rfl) ?_; try simp only [BLS, SB, Nat.reduceAdd])) | simp -implicitDefEqProofs only [SE, SU, SV]))
    have hsm := hv.small
    refine walAll (dp := p) (l := l2) (by first | assumption | exact St.tick (by assumption) | exact St.tick (St.tick (by assumption))) (by rw [hv.recs]; omega) hsm fun a6 c6 rs6 W17 hrs6 h => ?_
    have hl6 : rs6.length = i := by have := congrArg List.length hrs6; rw [hv.recs, hrl] at this; simpa using this
    rw [hl6]
    have f1 : decide ((i : Int) ≤ (i : Int)) = true := decide_eq_true (Int.le_refl _)
    have f2 : decide ((i : Int) ≤ (l.length : Int)) = true := decide_eq_true (by omega)
    (repeat (first | (first | ((with_reducible first | refine w1 ?_ | refine w3 ?_ | refine w4 ?_ | refine w11 ?_ | refine stb_n ?_); intros) | ((with_reducible first | refine v5 ?_ | refine v6 ?_ | refine v7 ?_ | refine ve ?_ | refine vn ?_); refine ⟨_, rfl, ?_⟩) | ((with_reducible first | refine v8 ?_ ?_ | refine v9 ?_ ?_ | refine v10 ?_ ?_ | refine v12 ?_ ?_); exact rfl; intros) | ((with_reducible refine w2 ?_); try simp -implicitDefEqProofs only [SE, SU, SV, f1, f2]; intros) | ((with_reducible refine w5 ?_ ?_); simp; refine ⟨_, rfl, ?_⟩) | ((with_reducible refine w12 ?_ ?_ ?_ ?_); simp; simp; simp [oneC]; intros) | (refine okF_i (bldP_eq rfl) ?_; try simp only [BLS, SB, Nat.reduceAdd])) | simp -implicitDefEqProofs only [SE, SU, SV, f1, f2]))
    refine slcRc (W0 := { W with drawn := 0 }) (L := []) (a := a1) (l := l) (A := BSY) (lo := 0) (hi := i) rfl rfl (bnd_nat (by omega)) bnd_none (Nat.zero_le _) hi hlc fun a12 c12 _ hr12 => ?_
    rw [List.drop_zero] at hr12 ⊢
    (repeat (first | (first | ((with_reducible first | refine w1 ?_ | refine w3 ?_ | refine w4 ?_ | refine w11 ?_ | refine stb_n ?_); intros) | ((with_reducible first | refine v5 ?_ | refine v6 ?_ | refine v7 ?_ | refine ve ?_ | refine vn ?_); refine ⟨_, rfl, ?_⟩) | ((with_reducible first | refine v8 ?_ ?_ | refine v9 ?_ ?_ | refine v10 ?_ ?_ | refine v12 ?_ ?_); exact rfl; intros) | ((with_reducible refine w2 ?_); try simp -implicitDefEqProofs only [SE, SU, SV]; intros) | ((with_reducible refine w5 ?_ ?_); simp; refine ⟨_, rfl, ?_⟩) | ((with_reducible refine w12 ?_ ?_ ?_ ?_); simp; simp; simp [oneC]; intros) | (refine okF_i (bldP_eq rfl) ?_; try simp only [BLS, SB, Nat.reduceAdd])) | simp -implicitDefEqProofs only [SE, SU, SV]))
    refine walAll (dp := p) (l := l2) (by first | assumption | exact St.tick (by assumption) | exact St.tick (St.tick (by assumption))) (by rw [hv.recs]; omega) hsm fun a13 c13 rs13 W23 hrs13 h => ?_
    rw [hv.recs, hrec] at hrs13
    refine refSame (hr2 := Rd.any hr12) (a := a13) (b := a12) (r1 := rs13) (r2 := l.take i) h (rdUp rdIn) (fun x hx => Rd.any (hlg x (List.mem_of_mem_take hx)).2.2) (by have := congrArg List.length hrs13; simp at this; omega) fun W24 h => ?_
    rw [hrs13]
    (repeat (first | (first | ((with_reducible first | refine w1 ?_ | refine w3 ?_ | refine w4 ?_ | refine w11 ?_ | refine stb_n ?_); intros) | ((with_reducible first | refine v5 ?_ | refine v6 ?_ | refine v7 ?_ | refine ve ?_ | refine vn ?_); refine ⟨_, rfl, ?_⟩) | ((with_reducible first | refine v8 ?_ ?_ | refine v9 ?_ ?_ | refine v10 ?_ ?_ | refine v12 ?_ ?_); exact rfl; intros) | ((with_reducible refine w2 ?_); try simp -implicitDefEqProofs only [SE, SU, SV, eq_self]; intros) | ((with_reducible refine w5 ?_ ?_); simp; refine ⟨_, rfl, ?_⟩) | ((with_reducible refine w12 ?_ ?_ ?_ ?_); simp; simp; simp [oneC]; intros) | (refine okF_i (bldP_eq rfl) ?_; try simp only [BLS, SB, Nat.reduceAdd])) | simp -implicitDefEqProofs only [SE, SU, SV, eq_self]))
    exact St.lo h
  refine loop_c (σ := DS × LS) l.length (fun i _ => [.int .i64 part, .slice a1 l.length c1, .pointer (some ⟨p, 0, none⟩), .pointer (some ⟨q, 0, none⟩), .int .i64 (i : Int), .int .i64 (i : Int)])
    (fun i x W1 => (∃ used safe, WV (500 - i) x.1 x.2 part [] (bsOf (l.take i)) safe room used 0 i false) ∧ x.1.ws = [] ∧ St { W with drawn := 0 } [lg q p x.2, dk p x.1] W1) (d1, l1) rfl ⟨⟨0, 0, hv⟩, hd1.2, (by first | assumption | exact St.tick (by assumption) | exact St.tick (St.tick (by assumption)))⟩ ?_
  clear h hv hd1
  rintro K i ⟨d2, l2⟩ W5 hi ⟨⟨used, safe, hv⟩, hws, h⟩ hK
  simp only at hv hws h
  simp -implicitDefEqProofs only [SE, SU, SV]
  unfold S.rostrumlaw6_WalFull.l1
  by_cases hlt : (i : Int) < (l.length : Int)
  · have hib : i < l.length := by omega
    have ew : IntKind.i64.wrap ((i : Int) + 1) = ((i + 1 : Nat) : Int) := by rw [i64w]; omega
    have hx := hlg _ (List.getElem_mem hib)
    have e1 : l.take (i + 1) = l.take i ++ [l[i]] := take_snoc hib
    rw [e1] at hK
    (repeat (first | (first | ((with_reducible first | refine w1 ?_ | refine w3 ?_ | refine w4 ?_ | refine w11 ?_ | refine stb_n ?_); intros) | ((with_reducible first | refine v5 ?_ | refine v6 ?_ | refine v7 ?_ | refine ve ?_ | refine vn ?_); refine ⟨_, rfl, ?_⟩) | ((with_reducible first | refine v8 ?_ ?_ | refine v9 ?_ ?_ | refine v10 ?_ ?_ | refine v12 ?_ ?_); exact rfl; intros) | ((with_reducible refine w2 ?_); try simp -implicitDefEqProofs only [SE, SU, SV, hlt]; intros) | ((with_reducible refine w5 ?_ ?_); simp; refine ⟨_, rfl, ?_⟩) | ((with_reducible refine w12 ?_ ?_ ?_ ?_); simp; simp; simp [oneC]; intros) | (refine okF_i (bldP_eq rfl) ?_; try simp only [BLS, SB, Nat.reduceAdd])) | simp -implicitDefEqProofs only [SE, SU, SV, hlt]))
    refine ixA (i := i) (a := a1) (l := l) (A := BSY) h rfl rfl hib fun g o ha => ?_
    refine ldA0 (i := i) (l := l) (A := BSY) (hr := ha ▸ Rd.any hlr) h rfl hib (v := l[i].v) rfl (by simp) ?_
    by_cases hb : (200 : Int) < (l[i].bs.length : Int)
    · (repeat (first | (first | ((with_reducible first | refine w1 ?_ | refine w3 ?_ | refine w4 ?_ | refine w11 ?_ | refine stb_n ?_); intros) | ((with_reducible first | refine v5 ?_ | refine v6 ?_ | refine v7 ?_ | refine ve ?_ | refine vn ?_); refine ⟨_, rfl, ?_⟩) | ((with_reducible first | refine v8 ?_ ?_ | refine v9 ?_ ?_ | refine v10 ?_ ?_ | refine v12 ?_ ?_); exact rfl; intros) | ((with_reducible refine w2 ?_); try simp -implicitDefEqProofs only [SE, SU, SV, hb]; intros) | ((with_reducible refine w5 ?_ ?_); simp; refine ⟨_, rfl, ?_⟩) | ((with_reducible refine w12 ?_ ?_ ?_ ?_); simp; simp; simp [oneC]; intros) | (refine okF_i (bldP_eq rfl) ?_; try simp only [BLS, SB, Nat.reduceAdd])) | simp -implicitDefEqProofs only [SE, SU, SV, hb])); exact St.lo h
    (repeat (first | (first | ((with_reducible first | refine w1 ?_ | refine w3 ?_ | refine w4 ?_ | refine w11 ?_ | refine stb_n ?_); intros) | ((with_reducible first | refine v5 ?_ | refine v6 ?_ | refine v7 ?_ | refine ve ?_ | refine vn ?_); refine ⟨_, rfl, ?_⟩) | ((with_reducible first | refine v8 ?_ ?_ | refine v9 ?_ ?_ | refine v10 ?_ ?_ | refine v12 ?_ ?_); exact rfl; intros) | ((with_reducible refine w2 ?_); try simp -implicitDefEqProofs only [SE, SU, SV, hb]; intros) | ((with_reducible refine w5 ?_ ?_); simp; refine ⟨_, rfl, ?_⟩) | ((with_reducible refine w12 ?_ ?_ ?_ ?_); simp; simp; simp [oneC]; intros) | (refine okF_i (bldP_eq rfl) ?_; try simp only [BLS, SB, Nat.reduceAdd])) | simp -implicitDefEqProofs only [SE, SU, SV, hb]))
    refine ixA (i := i) (a := a1) (l := l) (A := BSY) (by first | assumption | exact St.tick (by assumption) | exact St.tick (St.tick (by assumption))) rfl rfl hib fun g o ha => ?_
    refine ldA0 (i := i) (l := l) (A := BSY) (hr := ha ▸ Rd.any hlr) (by first | assumption | exact St.tick (by assumption) | exact St.tick (St.tick (by assumption))) rfl hib (v := l[i].v) rfl (by simp) ?_
    generalize l[i] = x at *
    obtain ⟨hx1, hx2, hx3⟩ := hx
    refine bsA BSY [x] (n := 1) (by first | assumption | exact St.tick (by assumption) | exact St.tick (St.tick (by assumption))) rfl rfl (by decide) (by decide) rfl fun a3 c3 W6 h => ?_
    haveI hx4 : Rd { W with drawn := 0 } [arr BSY T_s_uint8 a3 c3 [x]] x.a B8 x.bs := Rd.any hx3
    have hL := hv.lok
    have hal : l2.recs.length < 500000 := by rw [hv.recs]; simp; omega
    refine walAdd (dp := p) (q := q) (d := d2) (l := l2) (rs := [x]) h (fun y hy => by rw [List.mem_singleton.1 hy]; exact hx4) (by simp) hal (fun y hy => by rw [List.mem_singleton.1 hy]; omega) ⟨hL.ok, by have := hL.ws; simp; omega, by have := hL.nums; simp; omega, by have := hL.dirty; simp; omega, hL.turn, by have := hL.index; simp; omega, by have := hL.count; simp; omega⟩ fun W7 h => ?_
    have hb1 : bsOf [x] = [x.bs] := rfl
    rw [hb1] at h ⊢
    refine joinK_i ?_
    have hv' : WV ((499 - i) + 1) d2 l2 part [] (bsOf (l.take i)) safe room used 0 i false := hv.mono (by omega) (Int.le_refl _) (Nat.le_refl _)
    rcases hv'.add1 (r := x.bs) (by omega) (by omega) (by omega) with ⟨e2, hv2⟩ | ⟨e2, e3, e4, e6, e7⟩
    · rw [e2]
      (repeat (first | (first | ((with_reducible first | refine w1 ?_ | refine w3 ?_ | refine w4 ?_ | refine w11 ?_ | refine stb_n ?_); intros) | ((with_reducible first | refine v5 ?_ | refine v6 ?_ | refine v7 ?_ | refine ve ?_ | refine vn ?_); refine ⟨_, rfl, ?_⟩) | ((with_reducible first | refine v8 ?_ ?_ | refine v9 ?_ ?_ | refine v10 ?_ ?_ | refine v12 ?_ ?_); exact rfl; intros) | ((with_reducible refine w2 ?_); try simp -implicitDefEqProofs only [SE, SU, SV]; intros) | ((with_reducible refine w5 ?_ ?_); simp; refine ⟨_, rfl, ?_⟩) | ((with_reducible refine w12 ?_ ?_ ?_ ?_); simp; simp; simp [oneC]; intros) | (refine okF_i (bldP_eq rfl) ?_; try simp only [BLS, SB, Nat.reduceAdd])) | simp -implicitDefEqProofs only [SE, SU, SV]))
      refine walSyncV (dp := p) (q := q) (by first | assumption | exact St.tick (by assumption) | exact St.tick (St.tick (by assumption))) hv2 fun d4 l4 W8 hd4 hv h => ?_
      unfold S.rostrumlaw6_WalFull.j2
      (repeat (first | (first | ((with_reducible first | refine w1 ?_ | refine w3 ?_ | refine w4 ?_ | refine w11 ?_ | refine stb_n ?_); intros) | ((with_reducible first | refine v5 ?_ | refine v6 ?_ | refine v7 ?_ | refine ve ?_ | refine vn ?_); refine ⟨_, rfl, ?_⟩) | ((with_reducible first | refine v8 ?_ ?_ | refine v9 ?_ ?_ | refine v10 ?_ ?_ | refine v12 ?_ ?_); exact rfl; intros) | ((with_reducible refine w2 ?_); try simp -implicitDefEqProofs only [SE, SU, SV, ew]; intros) | ((with_reducible refine w5 ?_ ?_); simp; refine ⟨_, rfl, ?_⟩) | ((with_reducible refine w12 ?_ ?_ ?_ ?_); simp; simp; simp [oneC]; intros) | (refine okF_i (bldP_eq rfl) ?_; try simp only [BLS, SB, Nat.reduceAdd])) | simp -implicitDefEqProofs only [SE, SU, SV, ew]))
      refine hK (d4, l4) _ hib ⟨⟨_, _, WV.mono (n := 499 - i) (by rw [show bsOf (l.take i ++ [x]) = bsOf (l.take i) ++ [x.bs] from List.map_append]; exact hv) (by omega) (Int.le_refl _) (Nat.le_refl _)⟩, hd4.2, St.wk h⟩
    · rw [e2]
      obtain ⟨bn, P, P0, hlv, hrec, _⟩ := hv.live
      have hgd := hlv.gd
      rw [hv.base] at hgd
      have htn := hv.tn
      have hdone : ((LS.addAll d2 l2 [x.bs]).2.1).done (LS.addAll d2 l2 [x.bs]).1 = true := by unfold LS.done; rw [e4]; rfl
      unfold S.rostrumlaw6_WalFull.j2
      (repeat (first | (first | ((with_reducible first | refine w1 ?_ | refine w3 ?_ | refine w4 ?_ | refine w11 ?_ | refine stb_n ?_); intros) | ((with_reducible first | refine v5 ?_ | refine v6 ?_ | refine v7 ?_ | refine ve ?_ | refine vn ?_); refine ⟨_, rfl, ?_⟩) | ((with_reducible first | refine v8 ?_ ?_ | refine v9 ?_ ?_ | refine v10 ?_ ?_ | refine v12 ?_ ?_); exact rfl; intros) | ((with_reducible refine w2 ?_); try simp -implicitDefEqProofs only [SE, SU, SV]; intros) | ((with_reducible refine w5 ?_ ?_); simp; refine ⟨_, rfl, ?_⟩) | ((with_reducible refine w12 ?_ ?_ ?_ ?_); simp; simp; simp [oneC]; intros) | (refine okF_i (bldP_eq rfl) ?_; try simp only [BLS, SB, Nat.reduceAdd])) | simp -implicitDefEqProofs only [SE, SU, SV]))
      refine walDone (dp := p) (by first | assumption | exact St.tick (by assumption) | exact St.tick (St.tick (by assumption))) fun W8 h => ?_
      rw [hdone]
      (repeat (first | (first | ((with_reducible first | refine w1 ?_ | refine w3 ?_ | refine w4 ?_ | refine w11 ?_ | refine stb_n ?_); intros) | ((with_reducible first | refine v5 ?_ | refine v6 ?_ | refine v7 ?_ | refine ve ?_ | refine vn ?_); refine ⟨_, rfl, ?_⟩) | ((with_reducible first | refine v8 ?_ ?_ | refine v9 ?_ ?_ | refine v10 ?_ ?_ | refine v12 ?_ ?_); exact rfl; intros) | ((with_reducible refine w2 ?_); try simp -implicitDefEqProofs only [SE, SU, SV]; intros) | ((with_reducible refine w5 ?_ ?_); simp; refine ⟨_, rfl, ?_⟩) | ((with_reducible refine w12 ?_ ?_ ?_ ?_); simp; simp; simp [oneC]; intros) | (refine okF_i (bldP_eq rfl) ?_; try simp only [BLS, SB, Nat.reduceAdd])) | simp -implicitDefEqProofs only [SE, SU, SV]))
      refine bs0 B8 (by first | assumption | exact St.tick (by assumption) | exact St.tick (St.tick (by assumption))) fun a5 c5 W9 h => ?_
      (repeat (first | (first | ((with_reducible first | refine w1 ?_ | refine w3 ?_ | refine w4 ?_ | refine w11 ?_ | refine stb_n ?_); intros) | ((with_reducible first | refine v5 ?_ | refine v6 ?_ | refine v7 ?_ | refine ve ?_ | refine vn ?_); refine ⟨_, rfl, ?_⟩) | ((with_reducible first | refine v8 ?_ ?_ | refine v9 ?_ ?_ | refine v10 ?_ ?_ | refine v12 ?_ ?_); exact rfl; intros) | ((with_reducible refine w2 ?_); try simp -implicitDefEqProofs only [SE, SU, SV]; intros) | ((with_reducible refine w5 ?_ ?_); simp; refine ⟨_, rfl, ?_⟩) | ((with_reducible refine w12 ?_ ?_ ?_ ?_); simp; simp; simp [oneC]; intros) | (refine okF_i (bldP_eq rfl) ?_; try simp only [BLS, SB, Nat.reduceAdd])) | simp -implicitDefEqProofs only [SE, SU, SV]))
      refine bsA BSY [⟨a5, c5, []⟩] (n := 1) (by first | assumption | exact St.tick (by assumption) | exact St.tick (St.tick (by assumption))) rfl rfl (by decide) (by decide) rfl fun a6 c6 W10 h => ?_
      (repeat (first | (first | ((with_reducible first | refine w1 ?_ | refine w3 ?_ | refine w4 ?_ | refine w11 ?_ | refine stb_n ?_); intros) | ((with_reducible first | refine v5 ?_ | refine v6 ?_ | refine v7 ?_ | refine ve ?_ | refine vn ?_); refine ⟨_, rfl, ?_⟩) | ((with_reducible first | refine v8 ?_ ?_ | refine v9 ?_ ?_ | refine v10 ?_ ?_ | refine v12 ?_ ?_); exact rfl; intros) | ((with_reducible refine w2 ?_); try simp -implicitDefEqProofs only [SE, SU, SV]; intros) | ((with_reducible refine w5 ?_ ?_); simp; refine ⟨_, rfl, ?_⟩) | ((with_reducible refine w12 ?_ ?_ ?_ ?_); simp; simp; simp [oneC]; intros) | (refine okF_i (bldP_eq rfl) ?_; try simp only [BLS, SB, Nat.reduceAdd])) | simp -implicitDefEqProofs only [SE, SU, SV]))
      refine walAdd (dp := p) (q := q) (d := (LS.addAll d2 l2 [x.bs]).1) (l := (LS.addAll d2 l2 [x.bs]).2.1) (rs := [⟨a5, c5, []⟩]) (by first | assumption | exact St.tick (by assumption) | exact St.tick (St.tick (by assumption))) rd1 (by simp) (by rw [e7]; exact hal) (fun y hy => by rw [List.mem_singleton.1 hy]; simp) ⟨e6.ok, by have := e6.ws; simp; omega, by have := e6.nums; simp; omega, by have := e6.dirty; simp; omega, e6.turn, by have := e6.index; simp; omega, by have := e6.count; simp; omega⟩ fun W11 h => ?_
      have e5 : LS.addAll (LS.addAll d2 l2 [x.bs]).1 (LS.addAll d2 l2 [x.bs]).2.1 (bsOf [⟨a5, c5, []⟩]) = ((LS.addAll d2 l2 [x.bs]).1, (LS.addAll d2 l2 [x.bs]).2.1, 7) := by
        rw [LS.addAll, if_pos hdone]
      rw [e5] at h ⊢
      (repeat (first | (first | ((with_reducible first | refine w1 ?_ | refine w3 ?_ | refine w4 ?_ | refine w11 ?_ | refine stb_n ?_); intros) | ((with_reducible first | refine v5 ?_ | refine v6 ?_ | refine v7 ?_ | refine ve ?_ | refine vn ?_); refine ⟨_, rfl, ?_⟩) | ((with_reducible first | refine v8 ?_ ?_ | refine v9 ?_ ?_ | refine v10 ?_ ?_ | refine v12 ?_ ?_); exact rfl; intros) | ((with_reducible refine w2 ?_); try simp -implicitDefEqProofs only [SE, SU, SV]; intros) | ((with_reducible refine w5 ?_ ?_); simp; refine ⟨_, rfl, ?_⟩) | ((with_reducible refine w12 ?_ ?_ ?_ ?_); simp; simp; simp [oneC]; intros) | (refine okF_i (bldP_eq rfl) ?_; try simp only [BLS, SB, Nat.reduceAdd])) | simp -implicitDefEqProofs only [SE, SU, SV]))
      rw [e3] at h
      exact hJ i d2 l2.turn bn P _ _ hi hlv.on hL.ok hws hgd htn hrec (St.perm h (List.Perm.swap _ _ _))
  · rw [List.take_of_length_le (by omega)] at hv
    obtain ⟨bn, P, P0, hlv, hrec, _⟩ := hv.live
    have hgd := hlv.gd
    rw [hv.base] at hgd
    (repeat (first | (first | ((with_reducible first | refine w1 ?_ | refine w3 ?_ | refine w4 ?_ | refine w11 ?_ | refine stb_n ?_); intros) | ((with_reducible first | refine v5 ?_ | refine v6 ?_ | refine v7 ?_ | refine ve ?_ | refine vn ?_); refine ⟨_, rfl, ?_⟩) | ((with_reducible first | refine v8 ?_ ?_ | refine v9 ?_ ?_ | refine v10 ?_ ?_ | refine v12 ?_ ?_); exact rfl; intros) | ((with_reducible refine w2 ?_); try simp -implicitDefEqProofs only [SE, SU, SV, hlt]; intros) | ((with_reducible refine w5 ?_ ?_); simp; refine ⟨_, rfl, ?_⟩) | ((with_reducible refine w12 ?_ ?_ ?_ ?_); simp; simp; simp [oneC]; intros) | (refine okF_i (bldP_eq rfl) ?_; try simp only [BLS, SB, Nat.reduceAdd])) | simp -implicitDefEqProofs only [SE, SU, SV, hlt]))
    exact hJ i d2 l2.turn bn P _ _ hi hlv.on hv.lok.ok hws hgd hv.tn (by rw [hrec, List.take_of_length_le (by omega)]) (St.perm h (List.Perm.swap _ _ _))
end Go.Proofs.Ythladblmjoaeoaa
namespace Go.Proofs.Ythladblmjoaeoaa.walFullDone
set_option linter.unusedVariables false
set_option linter.unusedSimpArgs false
open Go Go.Eng Go.ChangeShapes Go.WideShapes Go.ChangeAt Go.RowKit

theorem own : ownKnob Try.prog.godebug = none := by kernel_rfl
theorem laidOut : laidOutB Try.prog = true := by kernel_rfl

set_option maxRecDepth 100000 in
theorem lifted (os : Os) (started : os.Started) (H : Type) (enc : TypeId × Value → H) :
    ReturnsInHanded {} Try.checked os F_rostrumlaw6_WalFull .any (Rows.walFullSpec.pre6 enc Try.prog Try.f8 Rows.walFullRow.domain false) (Rows.walFullSpec.post enc Try.prog Try.f8 false true false false) := by
  refine returnsInHanded_of_change (C := Try.checked) own started (by kernel_rfl) S.rostrumlaw6_WalFull.fn
    (ChangeSpec.witness6 (enc := enc) (C := Try.checked) false ⟨#[], #[(.int .i64 0), (.int .i64 0), (.slice none 0 0)], []⟩ 8 (by kernel_rfl) (by kernel_rfl) (by kernel_rfl) (by kernel_rfl)) ?_
  intro W base args ds gs before hval0 hW hcnd _
  have hval : ∀ (j : Nat) t v, Try.f8.params[j]? = some t → args[j]? = some v → Value.okWide Try.prog W .any base t v := hval0
  have hW' := hW
  obtain ⟨p, q, hA0, hV, rfl, hfz, hnd⟩ := hW
  have hA : DataW.TrodAll enc Try.prog W 0 (fun _ => true) true Try.f8.params.toList args.toList ds p := hA0
  have hpar : Try.f8.params.toList = [T_int, T_int, T_s_s_uint8] := by kernel_rfl
  rw [hpar] at hA
  have hA1 := hA
  obtain ⟨v0, vs0, d0, ds0, p0, q0, hargs, rfl, rfl, h0, r0⟩ := trodAll_cons hA
  obtain ⟨v1, vs1, d1, ds1, p1, q1, rfl, rfl, rfl, h1, r1⟩ := trodAll_cons r0
  obtain ⟨v2, vs2, d2, ds2, p2, q2, rfl, rfl, rfl, h2, r2⟩ := trodAll_cons r1
  obtain ⟨rfl, rfl, rfl⟩ := trodAll_nil r2
  obtain rfl : args = #[v0, v1, v2] := by cases args; simp_all
  obtain ⟨rfl, rfl⟩ := trodVars_none hV
  have g0 : GoodA W [.int .i64] false v0 := open_arg (m := 8) (by kernel_rfl) (by kernel_rfl) (hval 0 T_int v0 (by kernel_rfl) rfl) h0
  have g1 : GoodA W [.int .i64] false v1 := open_arg (m := 8) (by kernel_rfl) (by kernel_rfl) (hval 1 T_int v1 (by kernel_rfl) rfl) h1
  have g2 : GoodA W [.sl [.sl [.int .u8]]] false v2 := open_arg (m := 8) (by kernel_rfl) (by kernel_rfl) (hval 2 T_s_s_uint8 v2 (by kernel_rfl) rfl) h2
  clear hA0 hval0
  have hc : Calls Try.prog F_rostrumlaw6_WalFull #[v0, v1, v2] W fun e W' => e = .returned (.bool true) ∧ Below W.heap.size W W' :=
    Calls.mono (walFull_walk g0 g1 g2) fun e W' h => by
      cases e <;> first | exact ⟨by rw [h.1], h.2.below⟩ | exact h.elim
  refine hc.mono fun e W' ⟨he, bel⟩ => ?_
  subst he
  exact ⟨_, rfl, _, _, _, [], _, [], hW', trodAll_mk1 (shut_bool (t := T_bool) (by kernel_rfl) _), keep_all laidOut (by kernel_rfl) hA1 bel, rfl, bel.frame _, fun h => by cases h⟩

theorem proved : Rows.WalFullSaid :=
  OpenClaim.holds_of_wide F_rostrumlaw6_WalFull Try.f8 rfl rfl rfl rfl rfl rfl rfl ⟨rfl, rfl, rfl, rfl, rfl⟩ rfl rfl rfl rfl rfl (by kernel_rfl) S.rostrumlaw6_WalFull.fn (by kernel_rfl)
    (of_decide_eq_true (by kernel_rfl)) (by unfold Func.isWrapper; first | (rw [if_pos (by decide +kernel)]; kernel_rfl) | (rw [if_neg (by decide +kernel)]; exact ⟨rfl, rfl⟩))
    (fun os started H enc _ => lifted os started H enc)
end Go.Proofs.Ythladblmjoaeoaa.walFullDone
