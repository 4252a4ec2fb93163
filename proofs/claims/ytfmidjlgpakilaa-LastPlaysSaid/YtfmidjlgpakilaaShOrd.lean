import Derived.Test.YtfmidjlgpakilaaBase
namespace Go.Proofs.Ytfmidjlgpakilaa
set_option linter.unusedVariables false
set_option linter.unusedSimpArgs false
open Go.Eng
/-! ### rostrum/rostrumlaw11.LastOrder (3) -/
def S.rostrumlaw11_LastOrder.j2 (R : Value → World → Prop) (x7 x8 : Value) (W : World) : Prop :=
  callK PR F_last_Same [x7, x8] (fun v124 W =>
  R v124 W) W
def S.rostrumlaw11_LastOrder.l1 (J2 : List Value → World → Prop) (K1 : List Value → World → Prop) (x0 x1 x7 x8 x9 : Value) (W : World) : Prop :=
  okF (lenP (.slice T_rostrumlaw11_Act) x0) fun v78 =>
  okF (binP .lss x9 v78) fun v79 =>
  ifK v79 (
  okF (idxS 4 x0 x9) fun v84 =>
  rdK PR (Instr.loadAt T_rostrumlaw11_Act v84) (fun v85 W =>
  okF (lenP (.slice T_rostrumlaw11_Act) x0) fun v90 =>
  okF (binP .rem x1 v90) fun v91 =>
  okF (binP .add x9 v91) fun v92 =>
  okF (lenP (.slice T_rostrumlaw11_Act) x0) fun v94 =>
  okF (binP .rem v92 v94) fun v95 =>
  okF (idxS 4 x0 v95) fun v96 =>
  rdK PR (Instr.loadAt T_rostrumlaw11_Act v96) (fun v97 W =>
  (efK PR (Instr.alloc T_rostrumlaw11_Act true (.tuple #[])) (fun v10 W =>
  stb PR [(15, true, (Instr.loadAt T_rostrumlaw11_Act v96), v97), (3, true, (Instr.loadAt T_rostrumlaw11_Act v84), v85)] (fun W =>
  efK PR (Instr.alloc T_rostrumlaw11_Act true (.tuple #[])) (fun v11 W =>
  stb PR [(15, true, (Instr.loadAt T_rostrumlaw11_Act v96), v97), (3, true, (Instr.loadAt T_rostrumlaw11_Act v84), v85)] (fun W =>
  efK PR (Instr.storeAt T_rostrumlaw11_Act v10 v85) (fun _ W =>
  stb PR [(15, true, (Instr.loadAt T_rostrumlaw11_Act v96), v97)] (fun W =>
  efK PR (Instr.storeAt T_rostrumlaw11_Act v11 v97) (fun _ W =>
  okF (addrF 0 v10) fun v99 =>
  rdK PR (Instr.loadAt T_string v99) (fun v100 W =>
  okF (addrF 1 v10) fun v101 =>
  rdK PR (Instr.loadAt T_int64 v101) (fun v102 W =>
  okF (addrF 2 v10) fun v103 =>
  rdK PR (Instr.loadAt T_api_Dot v103) (fun v104 W =>
  callK PR F_last_Last_Write [x7, v100, v102, v104] (fun v105 W =>
  okF (addrF 0 v11) fun v107 =>
  rdK PR (Instr.loadAt T_string v107) (fun v108 W =>
  okF (addrF 1 v11) fun v109 =>
  rdK PR (Instr.loadAt T_int64 v109) (fun v110 W =>
  okF (addrF 2 v11) fun v111 =>
  rdK PR (Instr.loadAt T_api_Dot v111) (fun v112 W =>
  callK PR F_last_Last_Write [x8, v108, v110, v112] (fun v113 W =>
  okF (addrF 0 v11) fun v115 =>
  rdK PR (Instr.loadAt T_string v115) (fun v116 W =>
  okF (addrF 1 v11) fun v117 =>
  rdK PR (Instr.loadAt T_int64 v117) (fun v118 W =>
  okF (addrF 2 v11) fun v119 =>
  rdK PR (Instr.loadAt T_api_Dot v119) (fun v120 W =>
  callK PR F_last_Last_Write [x8, v116, v118, v120] (fun v121 W =>
  okF (binP .add x9 (.int .i64 1)) fun v81 =>
  K1 [x0, x1, x7, x8, v81] W) W) W) W) W) W) W) W) W) W) W) W) W) W) W) W) W) W) W) W) ∧ (efK PR (Instr.alloc T_rostrumlaw11_Act true (.tuple #[])) (fun v11_1 W =>
  stb PR [(15, true, (Instr.loadAt T_rostrumlaw11_Act v96), v97), (3, true, (Instr.loadAt T_rostrumlaw11_Act v84), v85)] (fun W =>
  efK PR (Instr.alloc T_rostrumlaw11_Act true (.tuple #[])) (fun v10_1 W =>
  stb PR [(15, true, (Instr.loadAt T_rostrumlaw11_Act v96), v97), (3, true, (Instr.loadAt T_rostrumlaw11_Act v84), v85)] (fun W =>
  efK PR (Instr.storeAt T_rostrumlaw11_Act v10_1 v85) (fun _ W =>
  stb PR [(15, true, (Instr.loadAt T_rostrumlaw11_Act v96), v97)] (fun W =>
  efK PR (Instr.storeAt T_rostrumlaw11_Act v11_1 v97) (fun _ W =>
  okF (addrF 0 v10_1) fun v99_1 =>
  rdK PR (Instr.loadAt T_string v99_1) (fun v100_1 W =>
  okF (addrF 1 v10_1) fun v101_1 =>
  rdK PR (Instr.loadAt T_int64 v101_1) (fun v102_1 W =>
  okF (addrF 2 v10_1) fun v103_1 =>
  rdK PR (Instr.loadAt T_api_Dot v103_1) (fun v104_1 W =>
  callK PR F_last_Last_Write [x7, v100_1, v102_1, v104_1] (fun v105_1 W =>
  okF (addrF 0 v11_1) fun v107_1 =>
  rdK PR (Instr.loadAt T_string v107_1) (fun v108_1 W =>
  okF (addrF 1 v11_1) fun v109_1 =>
  rdK PR (Instr.loadAt T_int64 v109_1) (fun v110_1 W =>
  okF (addrF 2 v11_1) fun v111_1 =>
  rdK PR (Instr.loadAt T_api_Dot v111_1) (fun v112_1 W =>
  callK PR F_last_Last_Write [x8, v108_1, v110_1, v112_1] (fun v113_1 W =>
  okF (addrF 0 v11_1) fun v115_1 =>
  rdK PR (Instr.loadAt T_string v115_1) (fun v116_1 W =>
  okF (addrF 1 v11_1) fun v117_1 =>
  rdK PR (Instr.loadAt T_int64 v117_1) (fun v118_1 W =>
  okF (addrF 2 v11_1) fun v119_1 =>
  rdK PR (Instr.loadAt T_api_Dot v119_1) (fun v120_1 W =>
  callK PR F_last_Last_Write [x8, v116_1, v118_1, v120_1] (fun v121_1 W =>
  okF (binP .add x9 (.int .i64 1)) fun v81_1 =>
  K1 [x0, x1, x7, x8, v81_1] W) W) W) W) W) W) W) W) W) W) W) W) W) W) W) W) W) W) W) W)) W) (tick W)) (
  J2 [x7, x8] W)
def S.rostrumlaw11_LastOrder.j1 (R : Value → World → Prop) (x0 x1 : Value) (W : World) : Prop :=
  callK PR F_last_New [] (fun v74 W =>
  callK PR F_last_New [] (fun v75 W =>
  joinK (fun s W => S.rostrumlaw11_LastOrder.j2 R (nthv s 0) (nthv s 1) W) (fun J2 =>
  loopK (fun K1 s W => S.rostrumlaw11_LastOrder.l1 J2 K1 (nthv s 0) (nthv s 1) (nthv s 2) (nthv s 3) (nthv s 4) W) [x0, x1, v74, v75, (.int .i64 0)] W)) W) W
def S.rostrumlaw11_LastOrder.j3 (K2 : List Value → World → Prop) (x0 x1 x5 : Value) (W : World) : Prop :=
  okF (binP .add x5 (.int .i64 1)) fun v31 =>
  K2 [x0, x1, v31] W
def S.rostrumlaw11_LastOrder.l3 (R : Value → World → Prop) (J3 : List Value → World → Prop) (K3 : List Value → World → Prop) (x0 x1 x5 x6 : Value) (W : World) : Prop :=
  okF (binP .lss x6 x5) fun v34 =>
  ifK v34 (
  okF (idxS 4 x0 x5) fun v39 =>
  okF (addrF 1 v39) fun v40 =>
  rdK PR (Instr.loadAt T_int64 v40) (fun v41 W =>
  okF (idxS 4 x0 x6) fun v44 =>
  okF (addrF 1 v44) fun v45 =>
  rdK PR (Instr.loadAt T_int64 v45) (fun v46 W =>
  okF (binP .eql v41 v46) fun v47 =>
  gdK (wantd v47 true) (fun k W => k x0 W) (fun v49 W =>
  gdK (wantd v47 true) (fun k W => k x5 W) (fun v50 W =>
  gdK (wantd v47 true) (fun k W => okF (idxS 4 v49 v50) fun v => k v W) (fun v51 W =>
  gdK (wantd v47 true) (fun k W => okF (addrF 2 v51) fun v => k v W) (fun v52 W =>
  gdK (wantd v47 true) (fun k W => rdK PR (Instr.loadAt T_api_Dot v52) k W) (fun v53 W =>
  gdK (wantd v47 true) (fun k W => k x0 W) (fun v54 W =>
  gdK (wantd v47 true) (fun k W => k x6 W) (fun v55 W =>
  gdK (wantd v47 true) (fun k W => okF (idxS 4 v54 v55) fun v => k v W) (fun v56 W =>
  gdK (wantd v47 true) (fun k W => okF (addrF 2 v56) fun v => k v W) (fun v57 W =>
  gdK (wantd v47 true) (fun k W => rdK PR (Instr.loadAt T_api_Dot v57) k W) (fun v58 W =>
  gdK (wantd v47 true) (fun k W => rdK PR (aggEq .eql T_api_Dot v53 v58) k W) (fun v59 W =>
  okF (pickP v47 v59 (.bool false)) fun v60 =>
  gdK (wantd v60 true) (fun k W => k x0 W) (fun v62 W =>
  gdK (wantd v60 true) (fun k W => k x5 W) (fun v63 W =>
  gdK (wantd v60 true) (fun k W => okF (idxS 4 v62 v63) fun v => k v W) (fun v64 W =>
  gdK (wantd v60 true) (fun k W => okF (addrF 0 v64) fun v => k v W) (fun v65 W =>
  gdK (wantd v60 true) (fun k W => rdK PR (Instr.loadAt T_string v65) k W) (fun v66 W =>
  gdK (wantd v60 true) (fun k W => k x0 W) (fun v67 W =>
  gdK (wantd v60 true) (fun k W => k x6 W) (fun v68 W =>
  gdK (wantd v60 true) (fun k W => okF (idxS 4 v67 v68) fun v => k v W) (fun v69 W =>
  gdK (wantd v60 true) (fun k W => okF (addrF 0 v69) fun v => k v W) (fun v70 W =>
  gdK (wantd v60 true) (fun k W => rdK PR (Instr.loadAt T_string v70) k W) (fun v71 W =>
  gdK (wantd v60 true) (fun k W => okF (binP .neq v66 v71) fun v => k v W) (fun v72 W =>
  okF (pickP v60 v72 (.bool false)) fun v73 =>
  ifK v73 (
  R (.bool true) W) (
  okF (binP .add x6 (.int .i64 1)) fun v36 =>
  K3 [x0, x1, x5, v36] W)) W) W) W) W) W) W) W) W) W) W) W) W) W) W) W) W) W) W) W) W) W) W) W) (tick W)) (
  J3 [x0, x1, x5] W)
def S.rostrumlaw11_LastOrder.l2 (R : Value → World → Prop) (J1 : List Value → World → Prop) (K2 : List Value → World → Prop) (x0 x1 x5 : Value) (W : World) : Prop :=
  okF (lenP (.slice T_rostrumlaw11_Act) x0) fun v28 =>
  okF (binP .lss x5 v28) fun v29 =>
  ifK v29 (
  joinK (fun s W => S.rostrumlaw11_LastOrder.j3 K2 (nthv s 0) (nthv s 1) (nthv s 2) W) (fun J3 =>
  loopK (fun K3 s W => S.rostrumlaw11_LastOrder.l3 R J3 K3 (nthv s 0) (nthv s 1) (nthv s 2) (nthv s 3) W) [x0, x1, x5, (.int .i64 0)] W)) (
  J1 [x0, x1] W)
def S.rostrumlaw11_LastOrder.body (R : Value → World → Prop) (v0 v1 : Value) (W : World) : Prop :=
  callK PR F_rostrumlaw11_awake [] (fun v12 W =>
  okF (unP .not v12) fun v13 =>
  ifK v13 (
  R (.bool false) W) (
  okF (lenP (.slice T_rostrumlaw11_Act) v0) fun v15 =>
  okF (binP .lss v15 (.int .i64 1)) fun v16 =>
  gdK (wantd v16 false) (fun k W => k v0 W) (fun v18 W =>
  gdK (wantd v16 false) (fun k W => okF (lenP (.slice T_rostrumlaw11_Act) v18) fun v => k v W) (fun v19 W =>
  gdK (wantd v16 false) (fun k W => okF (binP .gtr v19 (.int .i64 40)) fun v => k v W) (fun v20 W =>
  okF (pickP v16 (.bool true) v20) fun v21 =>
  gdK (wantd v21 false) (fun k W => k v1 W) (fun v23 W =>
  gdK (wantd v21 false) (fun k W => okF (binP .lss v23 (.int .i64 0)) fun v => k v W) (fun v24 W =>
  okF (pickP v21 (.bool true) v24) fun v25 =>
  ifK v25 (
  R (.bool true) W) (
  joinK (fun s W => S.rostrumlaw11_LastOrder.j1 R (nthv s 0) (nthv s 1) W) (fun J1 =>
  loopK (fun K2 s W => S.rostrumlaw11_LastOrder.l2 R J1 K2 (nthv s 0) (nthv s 1) (nthv s 2) W) [v0, v1, (.int .i64 0)] W))) W) W) W) W) W)) W
def S.rostrumlaw11_LastOrder.hint : Hint := (.two .nil (.two (.two .nil (.two (.two .nil .nil) .nil)) (.two (.two .nil (.two (.two .nil .nil) .nil)) (.at [0, 1] (.two .nil (.at [0, 1, 5] (.two (.two .nil (.two .nil .nil)) (.at [0, 1, 5] (.two .nil (.at [0, 1, 5, 6] (.two (.two .nil (.two .nil .nil)) (.two (.two .nil (.two (.two .nil .nil) .nil)) .nil)) .nil)) .nil)) .nil)) (.two .nil (.at [7, 8] (.two .nil (.at [0, 1, 7, 8, 9] (.two (.two .nil (.two .nil .nil)) (.two (.two .nil (.two .nil (.two .nil .nil))) .nil)) .nil)) (.two .nil .nil)))))))
theorem S.rostrumlaw11_LastOrder.ok (R : Value → World → Prop) (v0 v1 : Value) (W : World) : bodyK PR CB Try.f3 S.rostrumlaw11_LastOrder.hint [v0, v1] R W = S.rostrumlaw11_LastOrder.body R v0 v1 W := by kernel_rfl
theorem S.rostrumlaw11_LastOrder.fn : PR.funcs[F_rostrumlaw11_LastOrder]? = some Try.f3 := by kernel_rfl
theorem S.rostrumlaw11_LastOrder.call {R : Value → World → Prop} {v0 v1 : Value} {W : World} (h : S.rostrumlaw11_LastOrder.body R v0 v1 W) : callK PR F_rostrumlaw11_LastOrder [v0, v1] R W :=
  callK_of_body (g := F_rostrumlaw11_LastOrder) (fn := Try.f3) (args := [v0, v1]) (R := R) (w := W) mixed CBok S.rostrumlaw11_LastOrder.fn S.rostrumlaw11_LastOrder.hint (by rw [S.rostrumlaw11_LastOrder.ok]; exact h)
end Go.Proofs.Ytfmidjlgpakilaa
