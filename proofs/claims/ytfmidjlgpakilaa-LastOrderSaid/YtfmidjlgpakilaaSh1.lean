import Derived.Test.YtfmidjlgpakilaaBase
namespace Go.Proofs.Ytfmidjlgpakilaa
set_option linter.unusedVariables false
set_option linter.unusedSimpArgs false
open Go.Eng
/-! ### rostrum/rostrumlaw11.LastOrder (3) -/
def S.rostrumlaw11_LastOrder.j2 (R : Value → World → Prop) (x7 x8 : Value) (W : World) : Prop :=
  callK PR F_last_Same [x7, x8] (fun v124 W =>
  R v124 W) W
def S.rostrumlaw11_LastOrder.l1 (J2 : List Value → World → Prop) (K1 : List Value → World → Prop) (x0 x1 x7 x8 x9 : Value) (W : World) : Prop :=
  okF (lenP (.slice T_rostrumlaw11_Act) x0) fun v78 =>
  okF (binP .lss x9 v78) fun v79 =>
  ifK v79 (
  okF (idxS 4 x0 x9) fun v84 =>
  rdK PR (Instr.loadAt T_rostrumlaw11_Act v84) (fun v85 W =>
  okF (lenP (.slice T_rostrumlaw11_Act) x0) fun v90 =>
  okF (binP .rem x1 v90) fun v91 =>
  okF (binP .add x9 v91) fun v92 =>
  okF (lenP (.slice T_rostrumlaw11_Act) x0) fun v94 =>
  okF (binP .rem v92 v94) fun v95 =>
  okF (idxS 4 x0 v95) fun v96 =>
  rdK PR (Instr.loadAt T_rostrumlaw11_Act v96) (fun v97 W =>
  (efK PR (Instr.alloc T_rostrumlaw11_Act true (.tuple #[])) (fun v10 W =>
  stb PR [(15, true, (Instr.loadAt T_rostrumlaw11_Act v96), v97), (3, true, (Instr.loadAt T_rostrumlaw11_Act v84), v85)] (fun W =>
  efK PR (Instr.alloc T_rostrumlaw11_Act true (.tuple #[])) (fun v11 W =>
  stb PR [(15, true, (Instr.loadAt T_rostrumlaw11_Act v96), v97), (3, true, (Instr.loadAt T_rostrumlaw11_Act v84), v85)] (fun W =>
  efK PR (Instr.storeAt T_rostrumlaw11_Act v10 v85) (fun _ W =>
  stb PR [(15, true, (Instr.loadAt T_rostrumlaw11_Act v96), v97)] (fun W =>
  efK PR (Instr.storeAt T_rostrumlaw11_Act v11 v97) (fun _ W =>
  okF (addrF 0 v10) fun v99 =>
  rdK PR (Instr.loadAt T_string v99) (fun v100 W =>
  okF (addrF 1 v10) fun v101 =>
  rdK PR (Instr.loadAt T_int64 v101) (fun v102 W =>
  okF (addrF 2 v10) fun v103 =>
  rdK PR (Instr.loadAt T_api_Dot v103) (fun v104 W =>
  callK PR F_last_Last_Write [x7, v100, v102, v104] (fun v105 W =>
  okF (addrF 0 v11) fun v107 =>
  rdK PR (Instr.loadAt T_string v107) (fun v108 W =>
  okF (addrF 1 v11) fun v109 =>
  rdK PR (Instr.loadAt T_int64 v109) (fun v110 W =>
  okF (addrF 2 v11) fun v111 =>
  rdK PR (Instr.loadAt T_api_Dot v111) (fun v112 W =>
  callK PR F_last_Last_Write [x8, v108, v110, v112] (fun v113 W =>
  okF (addrF 0 v11) fun v115 =>
  rdK PR (Instr.loadAt T_string v115) (fun v116 W =>
  okF (addrF 1 v11) fun v117 =>
  rdK PR (Instr.loadAt T_int64 v117) (fun v118 W =>
  okF (addrF 2 v11) fun v119 =>
  rdK PR (Instr.loadAt T_api_Dot v119) (fun v120 W =>
  callK PR F_last_Last_Write [x8, v116, v118, v120] (fun v121 W =>
  okF (binP .add x9 (.int .i64 1)) fun v81 =>
  K1 [x0, x1, x7, x8, v81] W) W) W) W) W) W) W) W) W) W) W) W) W) W) W) W) W) W) W) W) ∧ (efK PR (Instr.alloc T_rostrumlaw11_Act true (.tuple #[])) (fun v11_1 W =>
  stb PR [(15, true, (Instr.loadAt T_rostrumlaw11_Act v96), v97), (3, true, (Instr.loadAt T_rostrumlaw11_Act v84), v85)] (fun W =>
  efK PR (Instr.alloc T_rostrumlaw11_Act true (.tuple #[])) (fun v10_1 W =>
  stb PR [(15, true, (Instr.loadAt T_rostrumlaw11_Act v96), v97), (3, true, (Instr.loadAt T_rostrumlaw11_Act v84), v85)] (fun W =>
  efK PR (Instr.storeAt T_rostrumlaw11_Act v10_1 v85) (fun _ W =>
  stb PR [(15, true, (Instr.loadAt T_rostrumlaw11_Act v96), v97)] (fun W =>
  efK PR (Instr.storeAt T_rostrumlaw11_Act v11_1 v97) (fun _ W =>
  okF (addrF 0 v10_1) fun v99_1 =>
  rdK PR (Instr.loadAt T_string v99_1) (fun v100_1 W =>
  okF (addrF 1 v10_1) fun v101_1 =>
  rdK PR (Instr.loadAt T_int64 v101_1) (fun v102_1 W =>
  okF (addrF 2 v10_1) fun v103_1 =>
  rdK PR (Instr.loadAt T_api_Dot v103_1) (fun v104_1 W =>
  callK PR F_last_Last_Write [x7, v100_1, v102_1, v104_1] (fun v105_1 W =>
  okF (addrF 0 v11_1) fun v107_1 =>
  rdK PR (Instr.loadAt T_string v107_1) (fun v108_1 W =>
  okF (addrF 1 v11_1) fun v109_1 =>
  rdK PR (Instr.loadAt T_int64 v109_1) (fun v110_1 W =>
  okF (addrF 2 v11_1) fun v111_1 =>
  rdK PR (Instr.loadAt T_api_Dot v111_1) (fun v112_1 W =>
  callK PR F_last_Last_Write [x8, v108_1, v110_1, v112_1] (fun v113_1 W =>
  okF (addrF 0 v11_1) fun v115_1 =>
  rdK PR (Instr.loadAt T_string v115_1) (fun v116_1 W =>
  okF (addrF 1 v11_1) fun v117_1 =>
  rdK PR (Instr.loadAt T_int64 v117_1) (fun v118_1 W =>
  okF (addrF 2 v11_1) fun v119_1 =>
  rdK PR (Instr.loadAt T_api_Dot v119_1) (fun v120_1 W =>
  callK PR F_last_Last_Write [x8, v116_1, v118_1, v120_1] (fun v121_1 W =>
  okF (binP .add x9 (.int .i64 1)) fun v81_1 =>
  K1 [x0, x1, x7, x8, v81_1] W) W) W) W) W) W) W) W) W) W) W) W) W) W) W) W) W) W) W) W)) W) (tick W)) (
  J2 [x7, x8] W)
def S.rostrumlaw11_LastOrder.j1 (R : Value → World → Prop) (x0 x1 : Value) (W : World) : Prop :=
  callK PR F_last_New [] (fun v74 W =>
  callK PR F_last_New [] (fun v75 W =>
  joinK (fun s W => S.rostrumlaw11_LastOrder.j2 R (nthv s 0) (nthv s 1) W) (fun J2 =>
  loopK (fun K1 s W => S.rostrumlaw11_LastOrder.l1 J2 K1 (nthv s 0) (nthv s 1) (nthv s 2) (nthv s 3) (nthv s 4) W) [x0, x1, v74, v75, (.int .i64 0)] W)) W) W
def S.rostrumlaw11_LastOrder.j3 (K2 : List Value → World → Prop) (x0 x1 x5 : Value) (W : World) : Prop :=
  okF (binP .add x5 (.int .i64 1)) fun v31 =>
  K2 [x0, x1, v31] W
def S.rostrumlaw11_LastOrder.l3 (R : Value → World → Prop) (J3 : List Value → World → Prop) (K3 : List Value → World → Prop) (x0 x1 x5 x6 : Value) (W : World) : Prop :=
  okF (binP .lss x6 x5) fun v34 =>
  ifK v34 (
  okF (idxS 4 x0 x5) fun v39 =>
  okF (addrF 1 v39) fun v40 =>
  rdK PR (Instr.loadAt T_int64 v40) (fun v41 W =>
  okF (idxS 4 x0 x6) fun v44 =>
  okF (addrF 1 v44) fun v45 =>
  rdK PR (Instr.loadAt T_int64 v45) (fun v46 W =>
  okF (binP .eql v41 v46) fun v47 =>
  gdK (wantd v47 true) (fun k W => k x0 W) (fun v49 W =>
  gdK (wantd v47 true) (fun k W => k x5 W) (fun v50 W =>
  gdK (wantd v47 true) (fun k W => okF (idxS 4 v49 v50) fun v => k v W) (fun v51 W =>
  gdK (wantd v47 true) (fun k W => okF (addrF 2 v51) fun v => k v W) (fun v52 W =>
  gdK (wantd v47 true) (fun k W => rdK PR (Instr.loadAt T_api_Dot v52) k W) (fun v53 W =>
  gdK (wantd v47 true) (fun k W => k x0 W) (fun v54 W =>
  gdK (wantd v47 true) (fun k W => k x6 W) (fun v55 W =>
  gdK (wantd v47 true) (fun k W => okF (idxS 4 v54 v55) fun v => k v W) (fun v56 W =>
  gdK (wantd v47 true) (fun k W => okF (addrF 2 v56) fun v => k v W) (fun v57 W =>
  gdK (wantd v47 true) (fun k W => rdK PR (Instr.loadAt T_api_Dot v57) k W) (fun v58 W =>
  gdK (wantd v47 true) (fun k W => rdK PR (aggEq .eql T_api_Dot v53 v58) k W) (fun v59 W =>
  okF (pickP v47 v59 (.bool false)) fun v60 =>
  gdK (wantd v60 true) (fun k W => k x0 W) (fun v62 W =>
  gdK (wantd v60 true) (fun k W => k x5 W) (fun v63 W =>
  gdK (wantd v60 true) (fun k W => okF (idxS 4 v62 v63) fun v => k v W) (fun v64 W =>
  gdK (wantd v60 true) (fun k W => okF (addrF 0 v64) fun v => k v W) (fun v65 W =>
  gdK (wantd v60 true) (fun k W => rdK PR (Instr.loadAt T_string v65) k W) (fun v66 W =>
  gdK (wantd v60 true) (fun k W => k x0 W) (fun v67 W =>
  gdK (wantd v60 true) (fun k W => k x6 W) (fun v68 W =>
  gdK (wantd v60 true) (fun k W => okF (idxS 4 v67 v68) fun v => k v W) (fun v69 W =>
  gdK (wantd v60 true) (fun k W => okF (addrF 0 v69) fun v => k v W) (fun v70 W =>
  gdK (wantd v60 true) (fun k W => rdK PR (Instr.loadAt T_string v70) k W) (fun v71 W =>
  gdK (wantd v60 true) (fun k W => okF (binP .neq v66 v71) fun v => k v W) (fun v72 W =>
  okF (pickP v60 v72 (.bool false)) fun v73 =>
  ifK v73 (
  R (.bool true) W) (
  okF (binP .add x6 (.int .i64 1)) fun v36 =>
  K3 [x0, x1, x5, v36] W)) W) W) W) W) W) W) W) W) W) W) W) W) W) W) W) W) W) W) W) W) W) W) W) (tick W)) (
  J3 [x0, x1, x5] W)
def S.rostrumlaw11_LastOrder.l2 (R : Value → World → Prop) (J1 : List Value → World → Prop) (K2 : List Value → World → Prop) (x0 x1 x5 : Value) (W : World) : Prop :=
  okF (lenP (.slice T_rostrumlaw11_Act) x0) fun v28 =>
  okF (binP .lss x5 v28) fun v29 =>
  ifK v29 (
  joinK (fun s W => S.rostrumlaw11_LastOrder.j3 K2 (nthv s 0) (nthv s 1) (nthv s 2) W) (fun J3 =>
  loopK (fun K3 s W => S.rostrumlaw11_LastOrder.l3 R J3 K3 (nthv s 0) (nthv s 1) (nthv s 2) (nthv s 3) W) [x0, x1, x5, (.int .i64 0)] W)) (
  J1 [x0, x1] W)
def S.rostrumlaw11_LastOrder.body (R : Value → World → Prop) (v0 v1 : Value) (W : World) : Prop :=
  callK PR F_rostrumlaw11_awake [] (fun v12 W =>
  okF (unP .not v12) fun v13 =>
  ifK v13 (
  R (.bool false) W) (
  okF (lenP (.slice T_rostrumlaw11_Act) v0) fun v15 =>
  okF (binP .lss v15 (.int .i64 1)) fun v16 =>
  gdK (wantd v16 false) (fun k W => k v0 W) (fun v18 W =>
  gdK (wantd v16 false) (fun k W => okF (lenP (.slice T_rostrumlaw11_Act) v18) fun v => k v W) (fun v19 W =>
  gdK (wantd v16 false) (fun k W => okF (binP .gtr v19 (.int .i64 40)) fun v => k v W) (fun v20 W =>
  okF (pickP v16 (.bool true) v20) fun v21 =>
  gdK (wantd v21 false) (fun k W => k v1 W) (fun v23 W =>
  gdK (wantd v21 false) (fun k W => okF (binP .lss v23 (.int .i64 0)) fun v => k v W) (fun v24 W =>
  okF (pickP v21 (.bool true) v24) fun v25 =>
  ifK v25 (
  R (.bool true) W) (
  joinK (fun s W => S.rostrumlaw11_LastOrder.j1 R (nthv s 0) (nthv s 1) W) (fun J1 =>
  loopK (fun K2 s W => S.rostrumlaw11_LastOrder.l2 R J1 K2 (nthv s 0) (nthv s 1) (nthv s 2) W) [v0, v1, (.int .i64 0)] W))) W) W) W) W) W)) W
def S.rostrumlaw11_LastOrder.hint : Hint := (.two .nil (.two (.two .nil (.two (.two .nil .nil) .nil)) (.two (.two .nil (.two (.two .nil .nil) .nil)) (.at [0, 1] (.two .nil (.at [0, 1, 5] (.two (.two .nil (.two .nil .nil)) (.at [0, 1, 5] (.two .nil (.at [0, 1, 5, 6] (.two (.two .nil (.two .nil .nil)) (.two (.two .nil (.two (.two .nil .nil) .nil)) .nil)) .nil)) .nil)) .nil)) (.two .nil (.at [7, 8] (.two .nil (.at [0, 1, 7, 8, 9] (.two (.two .nil (.two .nil .nil)) (.two (.two .nil (.two .nil (.two .nil .nil))) .nil)) .nil)) (.two .nil .nil)))))))
theorem S.rostrumlaw11_LastOrder.ok (R : Value → World → Prop) (v0 v1 : Value) (W : World) : bodyK PR CB Try.f3 S.rostrumlaw11_LastOrder.hint [v0, v1] R W = S.rostrumlaw11_LastOrder.body R v0 v1 W := by kernel_rfl
theorem S.rostrumlaw11_LastOrder.fn : PR.funcs[F_rostrumlaw11_LastOrder]? = some Try.f3 := by kernel_rfl
theorem S.rostrumlaw11_LastOrder.call {R : Value → World → Prop} {v0 v1 : Value} {W : World} (h : S.rostrumlaw11_LastOrder.body R v0 v1 W) : callK PR F_rostrumlaw11_LastOrder [v0, v1] R W :=
  callK_of_body (g := F_rostrumlaw11_LastOrder) (fn := Try.f3) (args := [v0, v1]) (R := R) (w := W) mixed CBok S.rostrumlaw11_LastOrder.fn S.rostrumlaw11_LastOrder.hint (by rw [S.rostrumlaw11_LastOrder.ok]; exact h)
/-! ### rostrum/rostrumlaw11.LastGrows (4) -/
def S.rostrumlaw11_LastGrows.j1 (K1 : List Value → World → Prop) (x0 x3 x4 x5 : Value) (W : World) : Prop :=
  okF (binP .add x5 (.int .i64 1)) fun v23 =>
  K1 [x0, x3, x4, v23] W
def S.rostrumlaw11_LastGrows.l1 (R : Value → World → Prop) (K1 : List Value → World → Prop) (x0 x3 x4 x5 : Value) (W : World) : Prop :=
  okF (lenP (.slice T_rostrumlaw11_Act) x0) fun v20 =>
  okF (binP .lss x5 v20) fun v21 =>
  ifK v21 (
  joinK (fun s W => S.rostrumlaw11_LastGrows.j1 K1 (nthv s 0) (nthv s 1) (nthv s 2) (nthv s 3) W) (fun J1 =>
  okF (idxS 4 x0 x5) fun v28 =>
  okF (addrF 0 v28) fun v29 =>
  rdK PR (Instr.loadAt T_string v29) (fun v30 W =>
  okF (idxS 4 x0 x5) fun v33 =>
  okF (addrF 1 v33) fun v34 =>
  rdK PR (Instr.loadAt T_int64 v34) (fun v35 W =>
  okF (idxS 4 x0 x5) fun v38 =>
  okF (addrF 2 v38) fun v39 =>
  rdK PR (Instr.loadAt T_api_Dot v39) (fun v40 W =>
  callK PR F_last_Last_Write [x3, v30, v35, v40] (fun v41 W =>
  okF (extP 0 v41) fun v42 =>
  okF (extP 1 v41) fun v43 =>
  callK PR F_last_Last_Value [x3] (fun v46 W =>
  okF (extP 0 v46) fun v47 =>
  okF (extP 1 v46) fun v48 =>
  callK PR F_last_Last_When [x3] (fun v51 W =>
  okF (extP 0 v51) fun v52 =>
  okF (extP 1 v51) fun v53 =>
  efK PR (Instr.alloc T_api_Dot true (.tuple #[])) (fun v11 W =>
  efK PR (Instr.storeAt T_api_Dot v11 v53) (fun _ W =>
  gdK (wantd v42 true) (fun k W => k v47 W) (fun v56 W =>
  gdK (wantd v42 true) (fun k W => k x0 W) (fun v57 W =>
  gdK (wantd v42 true) (fun k W => k x5 W) (fun v58 W =>
  gdK (wantd v42 true) (fun k W => okF (idxS 4 v57 v58) fun v => k v W) (fun v59 W =>
  gdK (wantd v42 true) (fun k W => okF (addrF 0 v59) fun v => k v W) (fun v60 W =>
  gdK (wantd v42 true) (fun k W => rdK PR (Instr.loadAt T_string v60) k W) (fun v61 W =>
  gdK (wantd v42 true) (fun k W => okF (binP .neq v56 v61) fun v => k v W) (fun v62 W =>
  gdK (wantd v42 true) (fun k W => k v62 W) (fun v63 W =>
  gdK (wantd v63 false) (fun k W => k v52 W) (fun v64 W =>
  gdK (wantd v63 false) (fun k W => k x0 W) (fun v65 W =>
  gdK (wantd v63 false) (fun k W => k x5 W) (fun v66 W =>
  gdK (wantd v63 false) (fun k W => okF (idxS 4 v65 v66) fun v => k v W) (fun v67 W =>
  gdK (wantd v63 false) (fun k W => okF (addrF 1 v67) fun v => k v W) (fun v68 W =>
  gdK (wantd v63 false) (fun k W => rdK PR (Instr.loadAt T_int64 v68) k W) (fun v69 W =>
  gdK (wantd v63 false) (fun k W => okF (binP .neq v64 v69) fun v => k v W) (fun v70 W =>
  gdK (wantd v42 true) (fun k W => okF (pickP v63 (.bool true) v70) fun v => k v W) (fun v71 W =>
  gdK (wantd v42 true) (fun k W => k v71 W) (fun v72 W =>
  gdK (wantd v72 false) (fun k W => rdK PR (Instr.loadAt T_api_Dot v11) k W) (fun v73 W =>
  gdK (wantd v72 false) (fun k W => k x0 W) (fun v74 W =>
  gdK (wantd v72 false) (fun k W => k x5 W) (fun v75 W =>
  gdK (wantd v72 false) (fun k W => okF (idxS 4 v74 v75) fun v => k v W) (fun v76 W =>
  gdK (wantd v72 false) (fun k W => okF (addrF 2 v76) fun v => k v W) (fun v77 W =>
  gdK (wantd v72 false) (fun k W => rdK PR (Instr.loadAt T_api_Dot v77) k W) (fun v78 W =>
  gdK (wantd v72 false) (fun k W => rdK PR (aggEq .neq T_api_Dot v73 v78) k W) (fun v79 W =>
  gdK (wantd v42 true) (fun k W => okF (pickP v72 (.bool true) v79) fun v => k v W) (fun v80 W =>
  gdK (wantd v42 true) (fun k W => k v80 W) (fun v81 W =>
  gdK (wantd v81 false) (fun k W => k v43 W) (fun v82 W =>
  gdK (wantd v81 false) (fun k W => okF (binP .neq v82 (.int .i64 0)) fun v => k v W) (fun v83 W =>
  gdK (wantd v42 true) (fun k W => okF (pickP v81 (.bool true) v83) fun v => k v W) (fun v84 W =>
  okF (pickP v42 v84 (.bool false)) fun v85 =>
  gdK (wantd v85 false) (fun k W => k v48 W) (fun v87 W =>
  gdK (wantd v85 false) (fun k W => k v87 W) (fun v88 W =>
  gdK (wantd v88 true) (fun k W => k v52 W) (fun v89 W =>
  gdK (wantd v88 true) (fun k W => k x4 W) (fun v90 W =>
  gdK (wantd v88 true) (fun k W => okF (binP .lss v89 v90) fun v => k v W) (fun v91 W =>
  gdK (wantd v85 false) (fun k W => okF (pickP v88 v91 (.bool false)) fun v => k v W) (fun v92 W =>
  okF (pickP v85 (.bool true) v92) fun v93 =>
  gdK (wantd v93 false) (fun k W => k v43 W) (fun v95 W =>
  gdK (wantd v93 false) (fun k W => okF (binP .neq v95 (.int .i64 0)) fun v => k v W) (fun v96 W =>
  gdK (wantd v93 false) (fun k W => k v96 W) (fun v97 W =>
  gdK (wantd v97 true) (fun k W => k v42 W) (fun v98 W =>
  gdK (wantd v93 false) (fun k W => okF (pickP v97 v98 (.bool false)) fun v => k v W) (fun v99 W =>
  okF (pickP v93 (.bool true) v99) fun v100 =>
  ifK v100 (
  R (.bool false) W) (
  ifK v48 (
  J1 [x0, x3, v52, x5] W) (
  J1 [x0, x3, x4, x5] W))) W) W) W) W) W) W) W) W) W) W) W) W) W) W) W) W) W) W) W) W) W) W) W) W) W) W) W) W) W) W) W) W) W) W) W) W) W) W) W) (tick W)) W) W) W) W) W) W) W) (tick W))) (
  R (.bool true) W)
def S.rostrumlaw11_LastGrows.body (R : Value → World → Prop) (v0 : Value) (W : World) : Prop :=
  callK PR F_rostrumlaw11_awake [] (fun v12 W =>
  okF (unP .not v12) fun v13 =>
  ifK v13 (
  R (.bool false) W) (
  okF (lenP (.slice T_rostrumlaw11_Act) v0) fun v15 =>
  okF (binP .gtr v15 (.int .i64 40)) fun v16 =>
  ifK v16 (
  R (.bool true) W) (
  callK PR F_last_New [] (fun v17 W =>
  loopK (fun K1 s W => S.rostrumlaw11_LastGrows.l1 R K1 (nthv s 0) (nthv s 1) (nthv s 2) (nthv s 3) W) [v0, v17, (.int .i64 (-1)), (.int .i64 0)] W) W))) W
def S.rostrumlaw11_LastGrows.hint : Hint := (.two .nil (.two (.two .nil (.two (.two .nil .nil) .nil)) (.two (.two .nil (.two (.two .nil .nil) .nil)) (.two .nil (.two .nil (.two (.two .nil (.at [0, 3, 4, 5] (.two (.two .nil (.two .nil .nil)) (.at [0, 3, 4, 5] (.two .nil (.two .nil (.two .nil (.two (.two .nil (.two (.two .nil .nil) .nil)) (.two .nil (.two .nil .nil)))))) .nil)) .nil)) (.two .nil .nil)))))))
theorem S.rostrumlaw11_LastGrows.ok (R : Value → World → Prop) (v0 : Value) (W : World) : bodyK PR CB Try.f4 S.rostrumlaw11_LastGrows.hint [v0] R W = S.rostrumlaw11_LastGrows.body R v0 W := by kernel_rfl
theorem S.rostrumlaw11_LastGrows.fn : PR.funcs[F_rostrumlaw11_LastGrows]? = some Try.f4 := by kernel_rfl
theorem S.rostrumlaw11_LastGrows.call {R : Value → World → Prop} {v0 : Value} {W : World} (h : S.rostrumlaw11_LastGrows.body R v0 W) : callK PR F_rostrumlaw11_LastGrows [v0] R W :=
  callK_of_body (g := F_rostrumlaw11_LastGrows) (fn := Try.f4) (args := [v0]) (R := R) (w := W) mixed CBok S.rostrumlaw11_LastGrows.fn S.rostrumlaw11_LastGrows.hint (by rw [S.rostrumlaw11_LastGrows.ok]; exact h)
/-! ### rostrum/rostrumlaw19.BallotOrder (5) -/
def S.rostrumlaw19_BallotOrder.body (R : Value → World → Prop) (v0 v1 v2 : Value) (W : World) : Prop :=
  efK PR (Instr.box T_ballot_Ballot v0) (fun v3 W =>
  efK PR (Instr.box T_ballot_Ballot v1) (fun v4 W =>
  efK PR (Instr.box T_ballot_Ballot v2) (fun v5 W =>
  callK PR F_rostrumlaw19_awake [] (fun v9 W =>
  okF (unP .not v9) fun v10 =>
  ifK v10 (
  R (.bool false) W) (
  rdK PR (Instr.loadAt T_ballot_Ballot v3) (fun v11 W =>
  rdK PR (Instr.loadAt T_ballot_Ballot v4) (fun v12 W =>
  rdK PR (Instr.loadAt T_ballot_Ballot v4) (fun v14 W =>
  rdK PR (Instr.loadAt T_ballot_Ballot v5) (fun v15 W =>
  callK PR F_ballot_Cmp [v11, v12] (fun v13 W =>
  stb PR [(4, true, (Instr.loadAt T_ballot_Ballot v5), v15), (3, true, (Instr.loadAt T_ballot_Ballot v4), v14)] (fun W =>
  callK PR F_ballot_Cmp [v14, v15] (fun v16 W =>
  rdK PR (Instr.loadAt T_ballot_Ballot v4) (fun v18 W =>
  rdK PR (Instr.loadAt T_ballot_Ballot v3) (fun v19 W =>
  callK PR F_ballot_Cmp [v18, v19] (fun v20 W =>
  okF (unP .neg v20) fun v21 =>
  okF (binP .eql v13 v21) fun v22 =>
  gdK (wantd v22 true) (fun k W => k v13 W) (fun v24 W =>
  gdK (wantd v22 true) (fun k W => okF (binP .eql v24 (.int .i64 0)) fun v => k v W) (fun v25 W =>
  gdK (wantd v22 true) (fun k W => rdK PR (Instr.loadAt T_ballot_Ballot v3) k W) (fun v26 W =>
  gdK (wantd v22 true) (fun k W => rdK PR (Instr.loadAt T_ballot_Ballot v4) k W) (fun v27 W =>
  gdK (wantd v22 true) (fun k W => rdK PR (aggEq .eql T_ballot_Ballot v26 v27) k W) (fun v28 W =>
  gdK (wantd v22 true) (fun k W => okF (eqP .bool .eql v25 v28) fun v => k v W) (fun v29 W =>
  okF (pickP v22 v29 (.bool false)) fun v30 =>
  gdK (wantd v30 true) (fun k W => k v13 W) (fun v32 W =>
  gdK (wantd v30 true) (fun k W => okF (binP .gtr v32 (.int .i64 0)) fun v => k v W) (fun v33 W =>
  gdK (wantd v30 true) (fun k W => k v33 W) (fun v34 W =>
  gdK (wantd v34 false) (fun k W => k v16 W) (fun v35 W =>
  gdK (wantd v34 false) (fun k W => okF (binP .gtr v35 (.int .i64 0)) fun v => k v W) (fun v36 W =>
  gdK (wantd v30 true) (fun k W => okF (pickP v34 (.bool true) v36) fun v => k v W) (fun v37 W =>
  gdK (wantd v30 true) (fun k W => k v37 W) (fun v38 W =>
  gdK (wantd v38 false) (fun k W => rdK PR (Instr.loadAt T_ballot_Ballot v3) k W) (fun v39 W =>
  gdK (wantd v38 false) (fun k W => rdK PR (Instr.loadAt T_ballot_Ballot v5) k W) (fun v40 W =>
  gdK (wantd v38 false) (fun k W => callK PR F_ballot_Cmp [v39, v40] k W) (fun v41 W =>
  gdK (wantd v38 false) (fun k W => okF (binP .leq v41 (.int .i64 0)) fun v => k v W) (fun v42 W =>
  gdK (wantd v30 true) (fun k W => okF (pickP v38 (.bool true) v42) fun v => k v W) (fun v43 W =>
  okF (pickP v30 v43 (.bool false)) fun v44 =>
  gdK (wantd v44 true) (fun k W => rdK PR (Instr.loadAt T_ballot_Ballot v3) k W) (fun v46 W =>
  gdK (wantd v44 true) (fun k W => rdK PR (Instr.loadAt T_ballot_Ballot v4) k W) (fun v47 W =>
  gdK (wantd v44 true) (fun k W => rdK PR (Instr.loadAt T_ballot_Ballot v5) k W) (fun v48 W =>
  gdK (wantd v44 true) (fun k W => rdK PR (Instr.loadAt T_ballot_Ballot v5) k W) (fun v51 W =>
  gdK (wantd v44 true) (fun k W => rdK PR (Instr.loadAt T_ballot_Ballot v4) k W) (fun v52 W =>
  gdK (wantd v44 true) (fun k W => rdK PR (Instr.loadAt T_ballot_Ballot v3) k W) (fun v53 W =>
  (gdK (wantd v44 true) (fun k W => efK PR (Instr.buildSlice T_s_ballot_Ballot 3 #[(0, v46), (1, v47), (2, v48)]) (fun v W => stb PR [(36, (wantd v44 true), (Instr.loadAt T_ballot_Ballot v3), v53), (35, (wantd v44 true), (Instr.loadAt T_ballot_Ballot v4), v52), (34, (wantd v44 true), (Instr.loadAt T_ballot_Ballot v5), v51)] (fun W => k v W) W) W) (fun v49 W =>
  (gdK (wantd v44 true) (fun k W => callK PR F_ballot_Most [v49] (fun v W => stb PR [(36, (wantd v44 true), (Instr.loadAt T_ballot_Ballot v3), v53), (35, (wantd v44 true), (Instr.loadAt T_ballot_Ballot v4), v52), (34, (wantd v44 true), (Instr.loadAt T_ballot_Ballot v5), v51)] (fun W => k v W) W) W) (fun v50 W =>
  gdK (wantd v44 true) (fun k W => efK PR (Instr.buildSlice T_s_ballot_Ballot 3 #[(0, v51), (1, v52), (2, v53)]) k W) (fun v54 W =>
  gdK (wantd v44 true) (fun k W => callK PR F_ballot_Most [v54] k W) (fun v55 W =>
  gdK (wantd v44 true) (fun k W => rdK PR (aggEq .eql T_ballot_Ballot v50 v55) k W) (fun v56 W =>
  okF (pickP v44 v56 (.bool false)) fun v57 =>
  R v57 W) W) W) W) W) ∧ (gdK (wantd v44 true) (fun k W => efK PR (Instr.buildSlice T_s_ballot_Ballot 3 #[(0, v51), (1, v52), (2, v53)]) k W) (fun v54_1 W =>
  gdK (wantd v44 true) (fun k W => callK PR F_ballot_Most [v49] k W) (fun v50_1 W =>
  gdK (wantd v44 true) (fun k W => callK PR F_ballot_Most [v54_1] k W) (fun v55_1 W =>
  gdK (wantd v44 true) (fun k W => rdK PR (aggEq .eql T_ballot_Ballot v50_1 v55_1) k W) (fun v56_1 W =>
  okF (pickP v44 v56_1 (.bool false)) fun v57_1 =>
  R v57_1 W) W) W) W) W)) W) ∧ (gdK (wantd v44 true) (fun k W => efK PR (Instr.buildSlice T_s_ballot_Ballot 3 #[(0, v51), (1, v52), (2, v53)]) (fun v W => stb PR [(31, (wantd v44 true), (Instr.loadAt T_ballot_Ballot v5), v48), (30, (wantd v44 true), (Instr.loadAt T_ballot_Ballot v4), v47), (29, (wantd v44 true), (Instr.loadAt T_ballot_Ballot v3), v46)] (fun W => k v W) W) W) (fun v54_2 W =>
  gdK (wantd v44 true) (fun k W => efK PR (Instr.buildSlice T_s_ballot_Ballot 3 #[(0, v46), (1, v47), (2, v48)]) k W) (fun v49_1 W =>
  gdK (wantd v44 true) (fun k W => callK PR F_ballot_Most [v49_1] k W) (fun v50_2 W =>
  gdK (wantd v44 true) (fun k W => callK PR F_ballot_Most [v54_2] k W) (fun v55_2 W =>
  gdK (wantd v44 true) (fun k W => rdK PR (aggEq .eql T_ballot_Ballot v50_2 v55_2) k W) (fun v56_2 W =>
  okF (pickP v44 v56_2 (.bool false)) fun v57_2 =>
  R v57_2 W) W) W) W) W) W)) W) W) W) W) W) W) W) W) W) W) W) W) W) W) W) W) W) W) W) W) W) W) W) W) W) W) (tick W)) W) W) W) W) W) W) (tick W))) W) W) W) W
def S.rostrumlaw19_BallotOrder.hint : Hint := (.two .nil (.two (.two .nil (.two (.two .nil .nil) .nil)) (.two .nil (.two .nil .nil))))
theorem S.rostrumlaw19_BallotOrder.ok (R : Value → World → Prop) (v0 v1 v2 : Value) (W : World) : bodyK PR CB Try.f5 S.rostrumlaw19_BallotOrder.hint [v0, v1, v2] R W = S.rostrumlaw19_BallotOrder.body R v0 v1 v2 W := by kernel_rfl
theorem S.rostrumlaw19_BallotOrder.fn : PR.funcs[F_rostrumlaw19_BallotOrder]? = some Try.f5 := by kernel_rfl
theorem S.rostrumlaw19_BallotOrder.call {R : Value → World → Prop} {v0 v1 v2 : Value} {W : World} (h : S.rostrumlaw19_BallotOrder.body R v0 v1 v2 W) : callK PR F_rostrumlaw19_BallotOrder [v0, v1, v2] R W :=
  callK_of_body (g := F_rostrumlaw19_BallotOrder) (fn := Try.f5) (args := [v0, v1, v2]) (R := R) (w := W) mixed CBok S.rostrumlaw19_BallotOrder.fn S.rostrumlaw19_BallotOrder.hint (by rw [S.rostrumlaw19_BallotOrder.ok]; exact h)
/-! ### rostrum/rostrumlaw19.BallotBack (6) -/
def S.rostrumlaw19_BallotBack.j2 (R : Value → World → Prop) (x5 : Value) (W : World) : Prop :=
  okF (eqP (.pointer T_pack_Reader) .neq x5 (.pointer none)) fun v50 =>
  gdK (wantd v50 true) (fun k W => k x5 W) (fun v52 W =>
  gdK (wantd v50 true) (fun k W => callK PR F_pack_Reader_End [v52] k W) (fun v53 W =>
  okF (pickP v50 v53 (.bool false)) fun v54 =>
  R v54 W) W) W
def S.rostrumlaw19_BallotBack.l1 (R : Value → World → Prop) (J2 : List Value → World → Prop) (K1 : List Value → World → Prop) (x0 x5 x6 : Value) (W : World) : Prop :=
  okF (lenP (.slice T_ballot_Ballot) x0) fun v34 =>
  okF (binP .lss x6 v34) fun v35 =>
  ifK v35 (
  okF (eqP (.pointer T_pack_Reader) .eql x5 (.pointer none)) fun v39 =>
  gdK (wantd v39 false) (fun k W => k x5 W) (fun v41 W =>
  gdK (wantd v39 false) (fun k W => k x0 W) (fun v43 W =>
  gdK (wantd v39 false) (fun k W => k x6 W) (fun v44 W =>
  gdK (wantd v39 false) (fun k W => okF (idxS 2 v43 v44) fun v => k v W) (fun v45 W =>
  gdK (wantd v39 false) (fun k W => rdK PR (Instr.loadAt T_ballot_Ballot v45) k W) (fun v46 W =>
  gdK (wantd v39 false) (fun k W => callK PR F_ballot_Get [v41] (fun v W => stb PR [(8, (wantd v39 false), (Instr.loadAt T_ballot_Ballot v45), v46)] (fun W => k v W) W) W) (fun v42 W =>
  gdK (wantd v39 false) (fun k W => rdK PR (aggEq .neq T_ballot_Ballot v42 v46) k W) (fun v47 W =>
  okF (pickP v39 (.bool true) v47) fun v48 =>
  ifK v48 (
  R (.bool false) W) (
  okF (binP .add x6 (.int .i64 1)) fun v37 =>
  K1 [x0, x5, v37] W)) W) W) W) W) W) W) (tick W)) (
  J2 [x5] W)
def S.rostrumlaw19_BallotBack.j1 (R : Value → World → Prop) (x0 x3 : Value) (W : World) : Prop :=
  callK PR F_pack_Read [x3] (fun v31 W =>
  joinK (fun s W => S.rostrumlaw19_BallotBack.j2 R (nthv s 0) W) (fun J2 =>
  loopK (fun K1 s W => S.rostrumlaw19_BallotBack.l1 R J2 K1 (nthv s 0) (nthv s 1) (nthv s 2) W) [x0, v31, (.int .i64 0)] W)) W
def S.rostrumlaw19_BallotBack.l2 (R : Value → World → Prop) (J1 : List Value → World → Prop) (K2 : List Value → World → Prop) (x0 x3 x4 : Value) (W : World) : Prop :=
  okF (lenP (.slice T_ballot_Ballot) x0) fun v14 =>
  okF (binP .lss x4 v14) fun v15 =>
  ifK v15 (
  okF (idxS 2 x0 x4) fun v20 =>
  rdK PR (Instr.loadAt T_ballot_Ballot v20) (fun v21 W =>
  callK PR F_ballot_Good [v21] (fun v22 W =>
  okF (unP .not v22) fun v23 =>
  ifK v23 (
  R (.bool true) W) (
  okF (idxS 2 x0 x4) fun v27 =>
  rdK PR (Instr.loadAt T_ballot_Ballot v27) (fun v28 W =>
  callK PR F_ballot_Put [x3, v28] (fun v29 W =>
  okF (binP .add x4 (.int .i64 1)) fun v17 =>
  K2 [x0, v29, v17] W) W) W)) W) W) (
  J1 [x0, x3] W)
def S.rostrumlaw19_BallotBack.body (R : Value → World → Prop) (v0 : Value) (W : World) : Prop :=
  callK PR F_rostrumlaw19_awake [] (fun v7 W =>
  okF (unP .not v7) fun v8 =>
  ifK v8 (
  R (.bool false) W) (
  okF (lenP (.slice T_ballot_Ballot) v0) fun v10 =>
  okF (binP .gtr v10 (.int .i64 20)) fun v11 =>
  ifK v11 (
  R (.bool true) W) (
  joinK (fun s W => S.rostrumlaw19_BallotBack.j1 R (nthv s 0) (nthv s 1) W) (fun J1 =>
  loopK (fun K2 s W => S.rostrumlaw19_BallotBack.l2 R J1 K2 (nthv s 0) (nthv s 1) (nthv s 2) W) [v0, (.slice none 0 0), (.int .i64 0)] W)))) W
def S.rostrumlaw19_BallotBack.hint : Hint := (.two .nil (.two (.two .nil (.two (.two .nil .nil) .nil)) (.two (.two .nil (.two (.two .nil .nil) .nil)) (.two .nil (.at [0, 3] (.two .nil (.at [0, 3, 4] (.two (.two .nil (.two .nil .nil)) (.two (.two (.two .nil (.two (.two .nil .nil) .nil)) .nil) .nil)) .nil)) (.two .nil (.at [5] (.two .nil (.at [0, 5, 6] (.two (.two .nil (.two .nil .nil)) (.two (.two .nil (.two (.two .nil .nil) .nil)) .nil)) .nil)) (.two .nil .nil))))))))
theorem S.rostrumlaw19_BallotBack.ok (R : Value → World → Prop) (v0 : Value) (W : World) : bodyK PR CB Try.f6 S.rostrumlaw19_BallotBack.hint [v0] R W = S.rostrumlaw19_BallotBack.body R v0 W := by kernel_rfl
theorem S.rostrumlaw19_BallotBack.fn : PR.funcs[F_rostrumlaw19_BallotBack]? = some Try.f6 := by kernel_rfl
theorem S.rostrumlaw19_BallotBack.call {R : Value → World → Prop} {v0 : Value} {W : World} (h : S.rostrumlaw19_BallotBack.body R v0 W) : callK PR F_rostrumlaw19_BallotBack [v0] R W :=
  callK_of_body (g := F_rostrumlaw19_BallotBack) (fn := Try.f6) (args := [v0]) (R := R) (w := W) mixed CBok S.rostrumlaw19_BallotBack.fn S.rostrumlaw19_BallotBack.hint (by rw [S.rostrumlaw19_BallotBack.ok]; exact h)
/-! ### rostrum/rostrumlaw19.BallotSays (7) -/
def S.rostrumlaw19_BallotSays.j1 (R : Value → World → Prop) (x1 x15 : Value) (W : World) : Prop :=
  rdK PR (Instr.loadAt T_ballot_Ballot x15) (fun v130 W =>
  callK PR F_ballot_Most [x1] (fun v129 W =>
  stb PR [(2, true, (Instr.loadAt T_ballot_Ballot x15), v130)] (fun W =>
  rdK PR (aggEq .eql T_ballot_Ballot v129 v130) (fun v131 W =>
  R v131 W) W) W) W) (tick W)
def S.rostrumlaw19_BallotSays.j2 (K1 : List Value → World → Prop) (x1 x4 x15 x16 : Value) (W : World) : Prop :=
  okF (binP .add x16 (.int .i64 1)) fun v97 =>
  K1 [x1, x4, x15, v97] W
def S.rostrumlaw19_BallotSays.l1 (R : Value → World → Prop) (J1 : List Value → World → Prop) (K1 : List Value → World → Prop) (x1 x4 x15 x16 : Value) (W : World) : Prop :=
  okF (lenP (.slice T_ballot_Ballot) x1) fun v94 =>
  okF (binP .lss x16 v94) fun v95 =>
  ifK v95 (
  joinK (fun s W => S.rostrumlaw19_BallotSays.j2 K1 (nthv s 0) (nthv s 1) (nthv s 2) (nthv s 3) W) (fun J2 =>
  rdK PR (Instr.loadAt T_ballot_Ballot x4) (fun v98 W =>
  okF (idxS 2 x1 x16) fun v101 =>
  rdK PR (Instr.loadAt T_ballot_Ballot v101) (fun v102 W =>
  rdK PR (Instr.loadAt T_ballot_Ballot x4) (fun v104 W =>
  okF (idxS 2 x1 x16) fun v108 =>
  rdK PR (Instr.loadAt T_ballot_Ballot v108) (fun v109 W =>
  callK PR F_ballot_Cmp [v98, v102] (fun v103 W =>
  stb PR [(11, true, (Instr.loadAt T_ballot_Ballot v108), v109), (6, true, (Instr.loadAt T_ballot_Ballot x4), v104)] (fun W =>
  callK PR F_rostrumlaw19_own [v104] (fun v105 W =>
  stb PR [(11, true, (Instr.loadAt T_ballot_Ballot v108), v109)] (fun W =>
  callK PR F_rostrumlaw19_own [v109] (fun v110 W =>
  callK PR F_rostrumref18_Cmp [v105, v110] (fun v111 W =>
  okF (binP .neq v103 v111) fun v112 =>
  ifK v112 (
  R (.bool false) W) (
  okF (binP .eql x16 (.int .i64 0)) fun v114 =>
  gdK (wantd v114 false) (fun k W => k x1 W) (fun v116 W =>
  gdK (wantd v114 false) (fun k W => k x16 W) (fun v117 W =>
  gdK (wantd v114 false) (fun k W => okF (idxS 2 v116 v117) fun v => k v W) (fun v118 W =>
  gdK (wantd v114 false) (fun k W => rdK PR (Instr.loadAt T_ballot_Ballot v118) k W) (fun v119 W =>
  gdK (wantd v114 false) (fun k W => rdK PR (Instr.loadAt T_ballot_Ballot x15) k W) (fun v120 W =>
  gdK (wantd v114 false) (fun k W => callK PR F_ballot_Cmp [v119, v120] k W) (fun v121 W =>
  gdK (wantd v114 false) (fun k W => okF (binP .gtr v121 (.int .i64 0)) fun v => k v W) (fun v122 W =>
  okF (pickP v114 (.bool true) v122) fun v123 =>
  ifK v123 (
  okF (idxS 2 x1 x16) fun v126 =>
  rdK PR (Instr.loadAt T_ballot_Ballot v126) (fun v127 W =>
  efK PR (Instr.storeAt T_ballot_Ballot x15 v127) (fun _ W =>
  J2 [x1, x4, x15, x16] W) W) W) (
  J2 [x1, x4, x15, x16] W)) W) W) W) W) W) W) (tick W))) W) W) W) W) W) W) W) W) W) (tick W))) (
  J1 [x1, x15] W)
def S.rostrumlaw19_BallotSays.body (R : Value → World → Prop) (v0 v1 v2 v3 : Value) (W : World) : Prop :=
  efK PR (Instr.box T_ballot_Ballot v0) (fun v4 W =>
  callK PR F_rostrumlaw19_awake [] (fun v17 W =>
  okF (unP .not v17) fun v18 =>
  ifK v18 (
  R (.bool false) W) (
  okF (lenP (.slice T_ballot_Ballot) v1) fun v20 =>
  okF (binP .gtr v20 (.int .i64 20)) fun v21 =>
  gdK (wantd v21 false) (fun k W => k v3 W) (fun v23 W =>
  gdK (wantd v21 false) (fun k W => okF (lenP (.slice T_uint8) v23) fun v => k v W) (fun v24 W =>
  gdK (wantd v21 false) (fun k W => okF (binP .gtr v24 (.int .i64 60)) fun v => k v W) (fun v25 W =>
  okF (pickP v21 (.bool true) v25) fun v26 =>
  ifK v26 (
  R (.bool true) W) (
  rdK PR (Instr.loadAt T_ballot_Ballot v4) (fun v28 W =>
  callK PR F_ballot_Next [v28, v2] (fun v30 W =>
  okF (extP 0 v30) fun v31 =>
  okF (extP 1 v30) fun v32 =>
  efK PR (Instr.alloc T_ballot_Ballot true (.tuple #[])) (fun v9 W =>
  efK PR (Instr.storeAt T_ballot_Ballot v9 v31) (fun _ W =>
  rdK PR (Instr.loadAt T_ballot_Ballot v4) (fun v34 W =>
  callK PR F_rostrumlaw19_own [v34] (fun v35 W =>
  callK PR F_rostrumref18_Next [v35, v2] (fun v37 W =>
  okF (extP 0 v37) fun v38 =>
  okF (extP 1 v37) fun v39 =>
  efK PR (Instr.alloc T_rostrumref18_Ballot true (.tuple #[])) (fun v11 W =>
  efK PR (Instr.storeAt T_rostrumref18_Ballot v11 v38) (fun _ W =>
  callK PR F_pack_Read [v3] (fun v41 W =>
  okF (bldP (fun i => ([(0, 1), (1, 1), (2, 1)] : List (Nat × Nat))[i]?) [.slice none 0 0, .int .i64 0, .bool false] [(0, v3)]) fun v43 =>
  efK PR (Instr.box T_rostrumref1_Reader v43) (fun v44 W =>
  rdK PR (Instr.loadAt T_ballot_Ballot v9) (fun v45 W =>
  rdK PR (Instr.loadAt T_rostrumref18_Ballot v11) (fun v47 W =>
  callK PR F_rostrumlaw19_own [v45] (fun v46 W =>
  stb PR [(2, true, (Instr.loadAt T_rostrumref18_Ballot v11), v47)] (fun W =>
  rdK PR (aggEq .neq T_rostrumref18_Ballot v46 v47) (fun v48 W =>
  gdK (wantd v48 false) (fun k W => k v32 W) (fun v50 W =>
  gdK (wantd v48 false) (fun k W => k v39 W) (fun v51 W =>
  gdK (wantd v48 false) (fun k W => okF (binP .neq v50 v51) fun v => k v W) (fun v52 W =>
  okF (pickP v48 (.bool true) v52) fun v53 =>
  gdK (wantd v53 false) (fun k W => rdK PR (Instr.loadAt T_ballot_Ballot v4) k W) (fun v55 W =>
  gdK (wantd v53 false) (fun k W => rdK PR (Instr.loadAt T_ballot_Ballot v4) k W) (fun v57 W =>
  gdK (wantd v53 false) (fun k W => callK PR F_ballot_Good [v55] (fun v W => stb PR [(12, (wantd v53 false), (Instr.loadAt T_ballot_Ballot v4), v57)] (fun W => k v W) W) W) (fun v56 W =>
  gdK (wantd v53 false) (fun k W => callK PR F_rostrumlaw19_own [v57] k W) (fun v58 W =>
  gdK (wantd v53 false) (fun k W => callK PR F_rostrumref18_GoodBallot [v58] k W) (fun v59 W =>
  gdK (wantd v53 false) (fun k W => okF (eqP .bool .neq v56 v59) fun v => k v W) (fun v60 W =>
  okF (pickP v53 (.bool true) v60) fun v61 =>
  gdK (wantd v61 false) (fun k W => k v41 W) (fun v63 W =>
  gdK (wantd v61 false) (fun k W => k v44 W) (fun v66 W =>
  gdK (wantd v61 false) (fun k W => callK PR F_ballot_Get [v63] k W) (fun v64 W =>
  gdK (wantd v61 false) (fun k W => callK PR F_rostrumlaw19_own [v64] k W) (fun v65 W =>
  gdK (wantd v61 false) (fun k W => callK PR F_rostrumref18_GetBallot [v66] k W) (fun v67 W =>
  gdK (wantd v61 false) (fun k W => rdK PR (aggEq .neq T_rostrumref18_Ballot v65 v67) k W) (fun v68 W =>
  okF (pickP v61 (.bool true) v68) fun v69 =>
  gdK (wantd v69 false) (fun k W => k v41 W) (fun v71 W =>
  gdK (wantd v69 false) (fun k W => k v44 W) (fun v73 W =>
  gdK (wantd v69 false) (fun k W => okF (nilP v73) fun v => k v W) (fun v74 W =>
  gdK (wantd v69 false) (fun k W => okF (addrF 2 v74) fun v => k v W) (fun v75 W =>
  gdK (wantd v69 false) (fun k W => rdK PR (Instr.loadAt T_bool v75) k W) (fun v76 W =>
  gdK (wantd v69 false) (fun k W => callK PR F_pack_Reader_Bad [v71] (fun v W => stb PR [(31, (wantd v69 false), (Instr.loadAt T_bool v75), v76)] (fun W => k v W) W) W) (fun v72 W =>
  gdK (wantd v69 false) (fun k W => okF (eqP .bool .neq v72 v76) fun v => k v W) (fun v77 W =>
  okF (pickP v69 (.bool true) v77) fun v78 =>
  gdK (wantd v78 false) (fun k W => k v3 W) (fun v80 W =>
  gdK (wantd v78 false) (fun k W => rdK PR (Instr.loadAt T_ballot_Ballot v4) k W) (fun v81 W =>
  gdK (wantd v78 false) (fun k W => k v3 W) (fun v84 W =>
  gdK (wantd v78 false) (fun k W => rdK PR (Instr.loadAt T_ballot_Ballot v4) k W) (fun v85 W =>
  gdK (wantd v78 false) (fun k W => callK PR F_ballot_Put [v80, v81] (fun v W => stb PR [(40, (wantd v78 false), (Instr.loadAt T_ballot_Ballot v4), v85)] (fun W => k v W) W) W) (fun v82 W =>
  gdK (wantd v78 false) (fun k W => rdK PR (convert T_s_uint8 T_string v82) k W) (fun v83 W =>
  gdK (wantd v78 false) (fun k W => callK PR F_rostrumlaw19_own [v85] (fun v W => stb PR [(38, (wantd v78 false), (convert T_s_uint8 T_string v82), v83)] (fun W => k v W) W) W) (fun v86 W =>
  gdK (wantd v78 false) (fun k W => callK PR F_rostrumref18_PutBallot [v84, v86] (fun v W => stb PR [(38, (wantd v78 false), (convert T_s_uint8 T_string v82), v83)] (fun W => k v W) W) W) (fun v87 W =>
  gdK (wantd v78 false) (fun k W => rdK PR (convert T_s_uint8 T_string v87) k W) (fun v88 W =>
  gdK (wantd v78 false) (fun k W => okF (binP .neq v83 v88) fun v => k v W) (fun v89 W =>
  okF (pickP v78 (.bool true) v89) fun v90 =>
  ifK v90 (
  R (.bool false) W) (
  okF (bldP (fun i => ([(0, 1), (1, 1)] : List (Nat × Nat))[i]?) [.int .i64 0, .int .i64 0] []) fun v91 =>
  efK PR (Instr.alloc T_ballot_Ballot true (.tuple #[])) (fun v15 W =>
  efK PR (Instr.storeAt T_ballot_Ballot v15 v91) (fun _ W =>
  joinK (fun s W => S.rostrumlaw19_BallotSays.j1 R (nthv s 0) (nthv s 1) W) (fun J1 =>
  loopK (fun K1 s W => S.rostrumlaw19_BallotSays.l1 R J1 K1 (nthv s 0) (nthv s 1) (nthv s 2) (nthv s 3) W) [v1, v4, v15, (.int .i64 0)] W)) W) W)) W) W) W) W) W) W) W) W) W) W) W) W) W) W) W) W) W) W) W) W) W) W) W) W) W) W) W) W) W) W) W) W) W) W) W) W) (tick W)) W) W) W) W) W) W) W) W) W) W) W)) W) W) W)) W) W
def S.rostrumlaw19_BallotSays.hint : Hint := (.two .nil (.two (.two .nil (.two (.two .nil .nil) .nil)) (.two (.two .nil (.two (.two .nil .nil) .nil)) (.two .nil (.two .nil (.two .nil (.two (.two .nil (.two (.two .nil .nil) .nil)) (.two .nil (.at [1, 15] (.two .nil (.at [1, 4, 15, 16] (.two (.two .nil (.two .nil .nil)) (.at [1, 4, 15, 16] (.two (.two .nil (.two (.two .nil .nil) .nil)) (.two .nil (.two .nil .nil))) .nil)) .nil)) (.two .nil .nil))))))))))
theorem S.rostrumlaw19_BallotSays.ok (R : Value → World → Prop) (v0 v1 v2 v3 : Value) (W : World) : bodyK PR CB Try.f7 S.rostrumlaw19_BallotSays.hint [v0, v1, v2, v3] R W = S.rostrumlaw19_BallotSays.body R v0 v1 v2 v3 W := by kernel_rfl
theorem S.rostrumlaw19_BallotSays.fn : PR.funcs[F_rostrumlaw19_BallotSays]? = some Try.f7 := by kernel_rfl
theorem S.rostrumlaw19_BallotSays.call {R : Value → World → Prop} {v0 v1 v2 v3 : Value} {W : World} (h : S.rostrumlaw19_BallotSays.body R v0 v1 v2 v3 W) : callK PR F_rostrumlaw19_BallotSays [v0, v1, v2, v3] R W :=
  callK_of_body (g := F_rostrumlaw19_BallotSays) (fn := Try.f7) (args := [v0, v1, v2, v3]) (R := R) (w := W) mixed CBok S.rostrumlaw19_BallotSays.fn S.rostrumlaw19_BallotSays.hint (by rw [S.rostrumlaw19_BallotSays.ok]; exact h)
/-! ### rostrum/rostrumlaw19.BallotNext (8) -/
def S.rostrumlaw19_BallotNext.j1 (R : Value → World → Prop) (x1 x2 x7 x9 : Value) (W : World) : Prop :=
  rdK PR (Instr.loadAt T_ballot_Ballot x7) (fun v67 W =>
  callK PR F_ballot_Put [(.slice none 0 0), v67] (fun v68 W =>
  callK PR F_pack_Read [v68] (fun v69 W =>
  rdK PR (Instr.loadAt T_ballot_Ballot x7) (fun v70 W =>
  rdK PR (Instr.loadAt T_ballot_Ballot x9) (fun v71 W =>
  rdK PR (aggEq .eql T_ballot_Ballot v70 v71) (fun v72 W =>
  okF (binP .eql x1 x2) fun v75 =>
  okF (eqP .bool .eql v72 v75) fun v76 =>
  gdK (wantd v76 true) (fun k W => k v69 W) (fun v78 W =>
  gdK (wantd v76 true) (fun k W => okF (eqP (.pointer T_pack_Reader) .neq v78 (.pointer none)) fun v => k v W) (fun v79 W =>
  okF (pickP v76 v79 (.bool false)) fun v80 =>
  gdK (wantd v80 true) (fun k W => k v69 W) (fun v82 W =>
  gdK (wantd v80 true) (fun k W => rdK PR (Instr.loadAt T_ballot_Ballot x7) k W) (fun v84 W =>
  gdK (wantd v80 true) (fun k W => callK PR F_ballot_Get [v82] (fun v W => stb PR [(14, (wantd v80 true), (Instr.loadAt T_ballot_Ballot x7), v84)] (fun W => k v W) W) W) (fun v83 W =>
  gdK (wantd v80 true) (fun k W => rdK PR (aggEq .eql T_ballot_Ballot v83 v84) k W) (fun v85 W =>
  okF (pickP v80 v85 (.bool false)) fun v86 =>
  okF (pickP v86 (.bool true) (.bool false)) fun v88 =>
  R v88 W) W) W) W) W) W) W) W) W) (tick W)) W) W) W
def S.rostrumlaw19_BallotNext.l1 (R : Value → World → Prop) (J1 : List Value → World → Prop) (K1 : List Value → World → Prop) (x0 x1 x2 x7 x9 x11 : Value) (W : World) : Prop :=
  okF (lenP (.slice T_ballot_Ballot) x0) fun v56 =>
  okF (binP .lss x11 v56) fun v57 =>
  ifK v57 (
  rdK PR (Instr.loadAt T_ballot_Ballot x7) (fun v60 W =>
  okF (idxS 2 x0 x11) fun v63 =>
  rdK PR (Instr.loadAt T_ballot_Ballot v63) (fun v64 W =>
  callK PR F_ballot_Cmp [v60, v64] (fun v65 W =>
  okF (binP .leq v65 (.int .i64 0)) fun v66 =>
  ifK v66 (
  R (.bool false) W) (
  okF (binP .add x11 (.int .i64 1)) fun v59 =>
  K1 [x0, x1, x2, x7, x9, v59] W)) W) W) (tick W)) (
  J1 [x1, x2, x7, x9] W)
def S.rostrumlaw19_BallotNext.body (R : Value → World → Prop) (v0 v1 v2 : Value) (W : World) : Prop :=
  callK PR F_rostrumlaw19_awake [] (fun v13 W =>
  okF (unP .not v13) fun v14 =>
  ifK v14 (
  R (.bool false) W) (
  okF (lenP (.slice T_ballot_Ballot) v0) fun v16 =>
  okF (binP .gtr v16 (.int .i64 20)) fun v17 =>
  ifK v17 (
  R (.bool true) W) (
  callK PR F_ballot_Most [v0] (fun v20 W =>
  callK PR F_ballot_Next [v20, v1] (fun v22 W =>
  okF (extP 0 v22) fun v23 =>
  okF (extP 1 v22) fun v24 =>
  efK PR (Instr.alloc T_ballot_Ballot true (.tuple #[])) (fun v7 W =>
  efK PR (Instr.storeAt T_ballot_Ballot v7 v23) (fun _ W =>
  callK PR F_ballot_Most [v0] (fun v27 W =>
  callK PR F_ballot_Next [v27, v2] (fun v29 W =>
  okF (extP 0 v29) fun v30 =>
  okF (extP 1 v29) fun v31 =>
  efK PR (Instr.alloc T_ballot_Ballot true (.tuple #[])) (fun v9 W =>
  efK PR (Instr.storeAt T_ballot_Ballot v9 v30) (fun _ W =>
  okF (binP .neq v24 (.int .i64 0)) fun v33 =>
  gdK (wantd v33 false) (fun k W => k v31 W) (fun v35 W =>
  gdK (wantd v33 false) (fun k W => okF (binP .neq v35 (.int .i64 0)) fun v => k v W) (fun v36 W =>
  okF (pickP v33 (.bool true) v36) fun v37 =>
  ifK v37 (
  okF (binP .neq v24 (.int .i64 0)) fun v39 =>
  gdK (wantd v39 true) (fun k W => rdK PR (Instr.loadAt T_ballot_Ballot v7) k W) (fun v41 W =>
  gdK (wantd v39 true) (fun k W => okF (bldP (fun i => ([(0, 1), (1, 1)] : List (Nat × Nat))[i]?) [.int .i64 0, .int .i64 0] []) fun v => k v W) (fun v42 W =>
  gdK (wantd v39 true) (fun k W => rdK PR (aggEq .eql T_ballot_Ballot v41 v42) k W) (fun v43 W =>
  okF (pickP v39 v43 (.bool false)) fun v44 =>
  gdK (wantd v44 false) (fun k W => k v31 W) (fun v46 W =>
  gdK (wantd v44 false) (fun k W => okF (binP .neq v46 (.int .i64 0)) fun v => k v W) (fun v47 W =>
  gdK (wantd v44 false) (fun k W => k v47 W) (fun v48 W =>
  gdK (wantd v48 true) (fun k W => rdK PR (Instr.loadAt T_ballot_Ballot v9) k W) (fun v49 W =>
  gdK (wantd v48 true) (fun k W => okF (bldP (fun i => ([(0, 1), (1, 1)] : List (Nat × Nat))[i]?) [.int .i64 0, .int .i64 0] []) fun v => k v W) (fun v50 W =>
  gdK (wantd v48 true) (fun k W => rdK PR (aggEq .eql T_ballot_Ballot v49 v50) k W) (fun v51 W =>
  gdK (wantd v44 false) (fun k W => okF (pickP v48 v51 (.bool false)) fun v => k v W) (fun v52 W =>
  okF (pickP v44 (.bool true) v52) fun v53 =>
  R v53 W) W) W) W) W) W) W) W) W) W) W) (
  joinK (fun s W => S.rostrumlaw19_BallotNext.j1 R (nthv s 0) (nthv s 1) (nthv s 2) (nthv s 3) W) (fun J1 =>
  loopK (fun K1 s W => S.rostrumlaw19_BallotNext.l1 R J1 K1 (nthv s 0) (nthv s 1) (nthv s 2) (nthv s 3) (nthv s 4) (nthv s 5) W) [v0, v1, v2, v7, v9, (.int .i64 0)] W))) W) W) W) W) W) W) W) W) W) W))) W
def S.rostrumlaw19_BallotNext.hint : Hint := (.two .nil (.two (.two .nil (.two (.two .nil .nil) .nil)) (.two (.two .nil (.two (.two .nil .nil) .nil)) (.two .nil (.two .nil (.two (.two .nil (.two (.two .nil .nil) .nil)) (.at [1, 2, 7, 9] (.two .nil (.at [0, 1, 2, 7, 9, 11] (.two (.two .nil (.two .nil .nil)) (.two (.two .nil (.two (.two .nil .nil) .nil)) .nil)) .nil)) (.two .nil (.two .nil .nil)))))))))
theorem S.rostrumlaw19_BallotNext.ok (R : Value → World → Prop) (v0 v1 v2 : Value) (W : World) : bodyK PR CB Try.f8 S.rostrumlaw19_BallotNext.hint [v0, v1, v2] R W = S.rostrumlaw19_BallotNext.body R v0 v1 v2 W := by kernel_rfl
theorem S.rostrumlaw19_BallotNext.fn : PR.funcs[F_rostrumlaw19_BallotNext]? = some Try.f8 := by kernel_rfl
theorem S.rostrumlaw19_BallotNext.call {R : Value → World → Prop} {v0 v1 v2 : Value} {W : World} (h : S.rostrumlaw19_BallotNext.body R v0 v1 v2 W) : callK PR F_rostrumlaw19_BallotNext [v0, v1, v2] R W :=
  callK_of_body (g := F_rostrumlaw19_BallotNext) (fn := Try.f8) (args := [v0, v1, v2]) (R := R) (w := W) mixed CBok S.rostrumlaw19_BallotNext.fn S.rostrumlaw19_BallotNext.hint (by rw [S.rostrumlaw19_BallotNext.ok]; exact h)
/-! ### rostrum/rostrumlaw11.LastKnown (9) -/
def S.rostrumlaw11_LastKnown.body (R : Value → World → Prop) (W : World) : Prop :=
  callK PR F_rostrumlaw11_awake [] (fun v19 W =>
  okF (unP .not v19) fun v20 =>
  ifK v20 (
  R (.bool false) W) (
  callK PR F_last_New [] (fun v21 W =>
  callK PR F_last_Last_Value [v21] (fun v24 W =>
  okF (extP 0 v24) fun v25 =>
  okF (extP 1 v24) fun v26 =>
  okF (bldP (fun i => ([(0, 1), (1, 1)] : List (Nat × Nat))[i]?) [.int .i64 0, .int .i64 0] [(1, (.int .i64 1))]) fun v29 =>
  callK PR F_last_Last_Write [v21, (.string ⟨#[97]⟩), (.int .i64 (-1)), v29] (fun v30 W =>
  okF (extP 0 v30) fun v31 =>
  okF (extP 1 v30) fun v32 =>
  okF (bldP (fun i => ([(0, 1), (1, 1)] : List (Nat × Nat))[i]?) [.int .i64 0, .int .i64 0] []) fun v35 =>
  callK PR F_last_Last_Write [v21, (.string ⟨#[97]⟩), (.int .i64 1), v35] (fun v36 W =>
  okF (extP 0 v36) fun v37 =>
  okF (extP 1 v36) fun v38 =>
  efK PR (Instr.makeSlice T_s_uint8 (.int .i64 101) (.int .i64 101)) (fun v41 W =>
  rdK PR (convert T_s_uint8 T_string v41) (fun v42 W =>
  okF (bldP (fun i => ([(0, 1), (1, 1)] : List (Nat × Nat))[i]?) [.int .i64 0, .int .i64 0] [(1, (.int .i64 1))]) fun v43 =>
  callK PR F_last_Last_Write [v21, v42, (.int .i64 1), v43] (fun v44 W =>
  okF (extP 0 v44) fun v45 =>
  okF (extP 1 v44) fun v46 =>
  okF (bldP (fun i => ([(0, 1), (1, 1)] : List (Nat × Nat))[i]?) [.int .i64 0, .int .i64 0] [(1, (.int .i64 1))]) fun v48 =>
  callK PR F_last_Last_Write [v21, (.string ⟨#[97]⟩), (.int .i64 1), v48] (fun v49 W =>
  okF (bldP (fun i => ([(0, 1), (1, 1)] : List (Nat × Nat))[i]?) [.int .i64 0, .int .i64 0] [(1, (.int .i64 1))]) fun v52 =>
  callK PR F_last_Last_Write [v21, (.string ⟨#[98]⟩), (.int .i64 1), v52] (fun v53 W =>
  okF (extP 0 v53) fun v54 =>
  okF (extP 1 v53) fun v55 =>
  okF (bldP (fun i => ([(0, 1), (1, 1)] : List (Nat × Nat))[i]?) [.int .i64 0, .int .i64 0] [(1, (.int .i64 1))]) fun v58 =>
  callK PR F_last_Last_Write [v21, (.string ⟨#[97]⟩), (.int .i64 1), v58] (fun v59 W =>
  okF (extP 0 v59) fun v60 =>
  okF (extP 1 v59) fun v61 =>
  okF (bldP (fun i => ([(0, 1), (1, 1)] : List (Nat × Nat))[i]?) [.int .i64 0, .int .i64 0] [(1, (.int .i64 2))]) fun v64 =>
  callK PR F_last_Last_Write [v21, (.string ⟨#[99]⟩), (.int .i64 1), v64] (fun v65 W =>
  okF (extP 0 v65) fun v66 =>
  okF (extP 1 v65) fun v67 =>
  callK PR F_last_Last_When [v21] (fun v70 W =>
  okF (extP 0 v70) fun v71 =>
  okF (extP 1 v70) fun v72 =>
  efK PR (Instr.alloc T_api_Dot true (.tuple #[])) (fun v17 W =>
  efK PR (Instr.storeAt T_api_Dot v17 v72) (fun _ W =>
  callK PR F_last_Last_Put [v21, (.slice none 0 0)] (fun v74 W =>
  callK PR F_pack_Read [v74] (fun v75 W =>
  callK PR F_last_Get [v75] (fun v76 W =>
  okF (unP .not v26) fun v78 =>
  gdK (wantd v78 true) (fun k W => k v32 W) (fun v80 W =>
  gdK (wantd v78 true) (fun k W => okF (binP .eql v80 (.int .i64 1)) fun v => k v W) (fun v81 W =>
  okF (pickP v78 v81 (.bool false)) fun v82 =>
  gdK (wantd v82 true) (fun k W => k v38 W) (fun v84 W =>
  gdK (wantd v82 true) (fun k W => okF (binP .eql v84 (.int .i64 1)) fun v => k v W) (fun v85 W =>
  okF (pickP v82 v85 (.bool false)) fun v86 =>
  gdK (wantd v86 true) (fun k W => k v46 W) (fun v88 W =>
  gdK (wantd v86 true) (fun k W => okF (binP .eql v88 (.int .i64 1)) fun v => k v W) (fun v89 W =>
  okF (pickP v86 v89 (.bool false)) fun v90 =>
  gdK (wantd v90 true) (fun k W => k v55 W) (fun v92 W =>
  gdK (wantd v90 true) (fun k W => okF (binP .eql v92 (.int .i64 5)) fun v => k v W) (fun v93 W =>
  okF (pickP v90 v93 (.bool false)) fun v94 =>
  gdK (wantd v94 true) (fun k W => k v60 W) (fun v96 W =>
  gdK (wantd v94 true) (fun k W => okF (unP .not v96) fun v => k v W) (fun v97 W =>
  okF (pickP v94 v97 (.bool false)) fun v98 =>
  gdK (wantd v98 true) (fun k W => k v66 W) (fun v100 W =>
  okF (pickP v98 v100 (.bool false)) fun v101 =>
  gdK (wantd v101 true) (fun k W => k v71 W) (fun v103 W =>
  gdK (wantd v101 true) (fun k W => okF (binP .eql v103 (.int .i64 1)) fun v => k v W) (fun v104 W =>
  okF (pickP v101 v104 (.bool false)) fun v105 =>
  gdK (wantd v105 true) (fun k W => rdK PR (Instr.loadAt T_api_Dot v17) k W) (fun v107 W =>
  gdK (wantd v105 true) (fun k W => okF (bldP (fun i => ([(0, 1), (1, 1)] : List (Nat × Nat))[i]?) [.int .i64 0, .int .i64 0] [(1, (.int .i64 2))]) fun v => k v W) (fun v108 W =>
  gdK (wantd v105 true) (fun k W => rdK PR (aggEq .eql T_api_Dot v107 v108) k W) (fun v109 W =>
  okF (pickP v105 v109 (.bool false)) fun v110 =>
  gdK (wantd v110 true) (fun k W => k v76 W) (fun v112 W =>
  gdK (wantd v110 true) (fun k W => okF (eqP (.pointer T_last_Last) .neq v112 (.pointer none)) fun v => k v W) (fun v113 W =>
  okF (pickP v110 v113 (.bool false)) fun v114 =>
  gdK (wantd v114 true) (fun k W => k v76 W) (fun v116 W =>
  gdK (wantd v114 true) (fun k W => k v21 W) (fun v117 W =>
  gdK (wantd v114 true) (fun k W => callK PR F_last_Same [v116, v117] k W) (fun v118 W =>
  okF (pickP v114 v118 (.bool false)) fun v119 =>
  gdK (wantd v119 true) (fun k W => k v76 W) (fun v121 W =>
  gdK (wantd v119 true) (fun k W => callK PR F_last_New [] k W) (fun v122 W =>
  gdK (wantd v119 true) (fun k W => callK PR F_last_Same [v121, v122] k W) (fun v123 W =>
  gdK (wantd v119 true) (fun k W => okF (unP .not v123) fun v => k v W) (fun v124 W =>
  okF (pickP v119 v124 (.bool false)) fun v125 =>
  gdK (wantd v125 true) (fun k W => callK PR F_last_New [] k W) (fun v127 W =>
  gdK (wantd v125 true) (fun k W => callK PR F_last_Last_Put [v127, (.slice none 0 0)] k W) (fun v128 W =>
  gdK (wantd v125 true) (fun k W => rdK PR (convert T_s_uint8 T_string v128) k W) (fun v129 W =>
  gdK (wantd v125 true) (fun k W => okF (binP .eql v129 (.string ⟨#[0]⟩)) fun v => k v W) (fun v130 W =>
  okF (pickP v125 v130 (.bool false)) fun v131 =>
  R v131 W) W) W) W) W) W) W) W) W) W) W) W) W) W) W) W) W) W) W) W) W) W) W) W) W) W) W) W) W) W) W) W) W) W) W) W) W) W) W) W) W) W) W) W) W) W) W)) W
def S.rostrumlaw11_LastKnown.hint : Hint := (.two .nil (.two (.two .nil (.two (.two .nil .nil) .nil)) (.two .nil (.two .nil (.two .nil (.two .nil (.two .nil (.two .nil (.two .nil (.two .nil (.two .nil (.two .nil (.two .nil (.two .nil .nil))))))))))))))
theorem S.rostrumlaw11_LastKnown.ok (R : Value → World → Prop) (W : World) : bodyK PR CB Try.f9 S.rostrumlaw11_LastKnown.hint [] R W = S.rostrumlaw11_LastKnown.body R  W := by kernel_rfl
theorem S.rostrumlaw11_LastKnown.fn : PR.funcs[F_rostrumlaw11_LastKnown]? = some Try.f9 := by kernel_rfl
theorem S.rostrumlaw11_LastKnown.call {R : Value → World → Prop} {W : World} (h : S.rostrumlaw11_LastKnown.body R  W) : callK PR F_rostrumlaw11_LastKnown [] R W :=
  callK_of_body (g := F_rostrumlaw11_LastKnown) (fn := Try.f9) (args := []) (R := R) (w := W) mixed CBok S.rostrumlaw11_LastKnown.fn S.rostrumlaw11_LastKnown.hint (by rw [S.rostrumlaw11_LastKnown.ok]; exact h)
/-! ### rostrum/rostrumlaw11.LastPlays (10) -/
def S.rostrumlaw11_LastPlays.j1 (R : Value → World → Prop) (x1 : Value) (W : World) : Prop :=
  callK PR F_pack_Read [x1] (fun v132 W =>
  okF (bldP (fun i => ([(0, 1), (1, 1), (2, 1)] : List (Nat × Nat))[i]?) [.slice none 0 0, .int .i64 0, .bool false] [(0, x1)]) fun v134 =>
  efK PR (Instr.box T_rostrumref1_Reader v134) (fun v135 W =>
  callK PR F_last_Get [v132] (fun v137 W =>
  callK PR F_rostrumref7_GetLast [v135] (fun v139 W =>
  okF (eqP (.pointer T_last_Last) .eql v137 (.pointer none)) fun v141 =>
  okF (eqP (.pointer T_rostrumref7_Last) .eql v139 (.pointer none)) fun v143 =>
  okF (eqP .bool .eql v141 v143) fun v144 =>
  gdK (wantd v144 true) (fun k W => k v137 W) (fun v146 W =>
  gdK (wantd v144 true) (fun k W => okF (eqP (.pointer T_last_Last) .eql v146 (.pointer none)) fun v => k v W) (fun v147 W =>
  gdK (wantd v144 true) (fun k W => k v147 W) (fun v148 W =>
  gdK (wantd v148 false) (fun k W => k v137 W) (fun v149 W =>
  gdK (wantd v148 false) (fun k W => k v139 W) (fun v152 W =>
  gdK (wantd v148 false) (fun k W => callK PR F_last_Last_Put [v149, (.slice none 0 0)] k W) (fun v150 W =>
  gdK (wantd v148 false) (fun k W => rdK PR (convert T_s_uint8 T_string v150) k W) (fun v151 W =>
  gdK (wantd v148 false) (fun k W => callK PR F_rostrumref7_Last_Put [v152, (.slice none 0 0)] (fun v W => stb PR [(11, (wantd v148 false), (convert T_s_uint8 T_string v150), v151)] (fun W => k v W) W) W) (fun v153 W =>
  gdK (wantd v148 false) (fun k W => rdK PR (convert T_s_uint8 T_string v153) k W) (fun v154 W =>
  gdK (wantd v148 false) (fun k W => okF (binP .eql v151 v154) fun v => k v W) (fun v155 W =>
  gdK (wantd v148 false) (fun k W => k v155 W) (fun v156 W =>
  gdK (wantd v156 true) (fun k W => k v132 W) (fun v157 W =>
  gdK (wantd v156 true) (fun k W => k v135 W) (fun v159 W =>
  gdK (wantd v156 true) (fun k W => callK PR F_pack_Reader_End [v157] k W) (fun v158 W =>
  gdK (wantd v156 true) (fun k W => callK PR F_rostrumref1_Reader_End [v159] k W) (fun v160 W =>
  gdK (wantd v156 true) (fun k W => okF (eqP .bool .eql v158 v160) fun v => k v W) (fun v161 W =>
  gdK (wantd v148 false) (fun k W => okF (pickP v156 v161 (.bool false)) fun v => k v W) (fun v162 W =>
  gdK (wantd v144 true) (fun k W => okF (pickP v148 (.bool true) v162) fun v => k v W) (fun v163 W =>
  okF (pickP v144 v163 (.bool false)) fun v164 =>
  R v164 W) W) W) W) W) W) W) W) W) W) W) W) W) W) W) W) W) W) (tick W)) W) W) W) W
def S.rostrumlaw11_LastPlays.l1 (R : Value → World → Prop) (J1 : List Value → World → Prop) (K1 : List Value → World → Prop) (x0 x1 x5 x6 x7 : Value) (W : World) : Prop :=
  okF (lenP (.slice T_rostrumlaw11_Act) x0) fun v36 =>
  okF (binP .lss x7 v36) fun v37 =>
  ifK v37 (
  okF (idxS 4 x0 x7) fun v42 =>
  rdK PR (Instr.loadAt T_rostrumlaw11_Act v42) (fun v43 W =>
  efK PR (Instr.alloc T_rostrumlaw11_Act true (.tuple #[])) (fun v8 W =>
  efK PR (Instr.storeAt T_rostrumlaw11_Act v8 v43) (fun _ W =>
  okF (addrF 0 v8) fun v44 =>
  rdK PR (Instr.loadAt T_string v44) (fun v45 W =>
  okF (lenP .string v45) fun v46 =>
  okF (binP .gtr v46 (.int .i64 150)) fun v47 =>
  ifK v47 (
  R (.bool true) W) (
  okF (addrF 0 v8) fun v50 =>
  rdK PR (Instr.loadAt T_string v50) (fun v51 W =>
  okF (addrF 1 v8) fun v52 =>
  rdK PR (Instr.loadAt T_int64 v52) (fun v53 W =>
  okF (addrF 2 v8) fun v54 =>
  rdK PR (Instr.loadAt T_api_Dot v54) (fun v55 W =>
  callK PR F_last_Last_Write [x5, v51, v53, v55] (fun v56 W =>
  okF (extP 0 v56) fun v57 =>
  okF (extP 1 v56) fun v58 =>
  okF (addrF 0 v8) fun v61 =>
  rdK PR (Instr.loadAt T_string v61) (fun v62 W =>
  okF (addrF 1 v8) fun v63 =>
  rdK PR (Instr.loadAt T_int64 v63) (fun v64 W =>
  okF (addrF 2 v8) fun v65 =>
  rdK PR (Instr.loadAt T_api_Dot v65) (fun v66 W =>
  callK PR F_rostrumref7_Last_Write [x6, v62, v64, v66] (fun v67 W =>
  okF (extP 0 v67) fun v68 =>
  okF (extP 1 v67) fun v69 =>
  callK PR F_last_Last_Value [x5] (fun v72 W =>
  okF (extP 0 v72) fun v73 =>
  okF (extP 1 v72) fun v74 =>
  callK PR F_last_Last_When [x5] (fun v77 W =>
  okF (extP 0 v77) fun v78 =>
  okF (extP 1 v77) fun v79 =>
  efK PR (Instr.alloc T_api_Dot true (.tuple #[])) (fun v16 W =>
  efK PR (Instr.storeAt T_api_Dot v16 v79) (fun _ W =>
  okF (eqP .bool .neq v57 v68) fun v82 =>
  gdK (wantd v82 false) (fun k W => k v58 W) (fun v84 W =>
  gdK (wantd v82 false) (fun k W => k v69 W) (fun v85 W =>
  gdK (wantd v82 false) (fun k W => okF (binP .neq v84 v85) fun v => k v W) (fun v86 W =>
  okF (pickP v82 (.bool true) v86) fun v87 =>
  gdK (wantd v87 false) (fun k W => k v73 W) (fun v89 W =>
  gdK (wantd v87 false) (fun k W => k x6 W) (fun v90 W =>
  gdK (wantd v87 false) (fun k W => okF (nilP v90) fun v => k v W) (fun v91 W =>
  gdK (wantd v87 false) (fun k W => okF (addrF 1 v91) fun v => k v W) (fun v92 W =>
  gdK (wantd v87 false) (fun k W => rdK PR (Instr.loadAt T_string v92) k W) (fun v93 W =>
  gdK (wantd v87 false) (fun k W => okF (binP .neq v89 v93) fun v => k v W) (fun v94 W =>
  okF (pickP v87 (.bool true) v94) fun v95 =>
  gdK (wantd v95 false) (fun k W => k v74 W) (fun v97 W =>
  gdK (wantd v95 false) (fun k W => k x6 W) (fun v98 W =>
  gdK (wantd v95 false) (fun k W => okF (nilP v98) fun v => k v W) (fun v99 W =>
  gdK (wantd v95 false) (fun k W => okF (addrF 0 v99) fun v => k v W) (fun v100 W =>
  gdK (wantd v95 false) (fun k W => rdK PR (Instr.loadAt T_bool v100) k W) (fun v101 W =>
  gdK (wantd v95 false) (fun k W => okF (eqP .bool .neq v97 v101) fun v => k v W) (fun v102 W =>
  okF (pickP v95 (.bool true) v102) fun v103 =>
  gdK (wantd v103 false) (fun k W => k v78 W) (fun v105 W =>
  gdK (wantd v103 false) (fun k W => k x6 W) (fun v106 W =>
  gdK (wantd v103 false) (fun k W => okF (nilP v106) fun v => k v W) (fun v107 W =>
  gdK (wantd v103 false) (fun k W => okF (addrF 2 v107) fun v => k v W) (fun v108 W =>
  gdK (wantd v103 false) (fun k W => rdK PR (Instr.loadAt T_int64 v108) k W) (fun v109 W =>
  gdK (wantd v103 false) (fun k W => okF (binP .neq v105 v109) fun v => k v W) (fun v110 W =>
  okF (pickP v103 (.bool true) v110) fun v111 =>
  gdK (wantd v111 false) (fun k W => rdK PR (Instr.loadAt T_api_Dot v16) k W) (fun v113 W =>
  gdK (wantd v111 false) (fun k W => k x6 W) (fun v114 W =>
  gdK (wantd v111 false) (fun k W => okF (nilP v114) fun v => k v W) (fun v115 W =>
  gdK (wantd v111 false) (fun k W => okF (addrF 3 v115) fun v => k v W) (fun v116 W =>
  gdK (wantd v111 false) (fun k W => rdK PR (Instr.loadAt T_api_Dot v116) k W) (fun v117 W =>
  gdK (wantd v111 false) (fun k W => rdK PR (aggEq .neq T_api_Dot v113 v117) k W) (fun v118 W =>
  okF (pickP v111 (.bool true) v118) fun v119 =>
  gdK (wantd v119 false) (fun k W => k x5 W) (fun v121 W =>
  gdK (wantd v119 false) (fun k W => k x1 W) (fun v122 W =>
  gdK (wantd v119 false) (fun k W => k x6 W) (fun v125 W =>
  gdK (wantd v119 false) (fun k W => k x1 W) (fun v126 W =>
  gdK (wantd v119 false) (fun k W => callK PR F_last_Last_Put [v121, v122] k W) (fun v123 W =>
  gdK (wantd v119 false) (fun k W => rdK PR (convert T_s_uint8 T_string v123) k W) (fun v124 W =>
  gdK (wantd v119 false) (fun k W => callK PR F_rostrumref7_Last_Put [v125, v126] (fun v W => stb PR [(44, (wantd v119 false), (convert T_s_uint8 T_string v123), v124)] (fun W => k v W) W) W) (fun v127 W =>
  gdK (wantd v119 false) (fun k W => rdK PR (convert T_s_uint8 T_string v127) k W) (fun v128 W =>
  gdK (wantd v119 false) (fun k W => okF (binP .neq v124 v128) fun v => k v W) (fun v129 W =>
  okF (pickP v119 (.bool true) v129) fun v130 =>
  ifK v130 (
  R (.bool false) W) (
  okF (binP .add x7 (.int .i64 1)) fun v39 =>
  K1 [x0, x1, x5, x6, v39] W)) W) W) W) W) W) W) W) W) W) W) W) W) W) W) W) W) W) W) W) W) W) W) W) W) W) W) W) W) W) W) W) W) W) W) W) (tick W)) W) W) W) W) W) W) W) W) W) W) W) W)) W) W) W) W) (
  J1 [x1] W)
def S.rostrumlaw11_LastPlays.body (R : Value → World → Prop) (v0 v1 : Value) (W : World) : Prop :=
  callK PR F_rostrumlaw11_awake [] (fun v21 W =>
  okF (unP .not v21) fun v22 =>
  ifK v22 (
  R (.bool false) W) (
  okF (lenP (.slice T_rostrumlaw11_Act) v0) fun v24 =>
  okF (binP .gtr v24 (.int .i64 60)) fun v25 =>
  gdK (wantd v25 false) (fun k W => k v1 W) (fun v27 W =>
  gdK (wantd v25 false) (fun k W => okF (lenP (.slice T_uint8) v27) fun v => k v W) (fun v28 W =>
  gdK (wantd v25 false) (fun k W => okF (binP .gtr v28 (.int .i64 200)) fun v => k v W) (fun v29 W =>
  okF (pickP v25 (.bool true) v29) fun v30 =>
  ifK v30 (
  R (.bool true) W) (
  callK PR F_last_New [] (fun v31 W =>
  okF (bldP (fun i => ([(0, 1), (1, 1), (2, 1), (3, 2)] : List (Nat × Nat))[i]?) [.bool false, .string ⟨#[]⟩, .int .i64 0, .int .i64 0, .int .i64 0] []) fun v32 =>
  efK PR (Instr.box T_rostrumref7_Last v32) (fun v33 W =>
  joinK (fun s W => S.rostrumlaw11_LastPlays.j1 R (nthv s 0) W) (fun J1 =>
  loopK (fun K1 s W => S.rostrumlaw11_LastPlays.l1 R J1 K1 (nthv s 0) (nthv s 1) (nthv s 2) (nthv s 3) (nthv s 4) W) [v0, v1, v31, v33, (.int .i64 0)] W)) W) W)) W) W) W)) W
def S.rostrumlaw11_LastPlays.hint : Hint := (.two .nil (.two (.two .nil (.two (.two .nil .nil) .nil)) (.two (.two .nil (.two (.two .nil .nil) .nil)) (.two .nil (.at [1] (.two .nil (.at [0, 1, 5, 6, 7] (.two (.two .nil (.two .nil .nil)) (.two (.two .nil (.two (.two .nil (.two (.two .nil .nil) .nil)) (.two .nil (.two .nil (.two .nil (.two .nil (.two .nil (.two (.two .nil .nil) .nil)))))))) .nil)) .nil)) (.two .nil (.two .nil (.two .nil .nil))))))))
theorem S.rostrumlaw11_LastPlays.ok (R : Value → World → Prop) (v0 v1 : Value) (W : World) : bodyK PR CB Try.f10 S.rostrumlaw11_LastPlays.hint [v0, v1] R W = S.rostrumlaw11_LastPlays.body R v0 v1 W := by kernel_rfl
theorem S.rostrumlaw11_LastPlays.fn : PR.funcs[F_rostrumlaw11_LastPlays]? = some Try.f10 := by kernel_rfl
theorem S.rostrumlaw11_LastPlays.call {R : Value → World → Prop} {v0 v1 : Value} {W : World} (h : S.rostrumlaw11_LastPlays.body R v0 v1 W) : callK PR F_rostrumlaw11_LastPlays [v0, v1] R W :=
  callK_of_body (g := F_rostrumlaw11_LastPlays) (fn := Try.f10) (args := [v0, v1]) (R := R) (w := W) mixed CBok S.rostrumlaw11_LastPlays.fn S.rostrumlaw11_LastPlays.hint (by rw [S.rostrumlaw11_LastPlays.ok]; exact h)
/-! ### rostrum/rostrumlaw11.LastBack (11) -/
def S.rostrumlaw11_LastBack.j1 (R : Value → World → Prop) (x3 x5 : Value) (W : World) : Prop :=
  callK PR F_last_Last_Put [x5, (.slice none 0 0)] (fun v43 W =>
  callK PR F_pack_Read [v43] (fun v44 W =>
  callK PR F_last_Get [v44] (fun v46 W =>
  okF (eqP (.pointer T_last_Last) .eql v46 (.pointer none)) fun v48 =>
  gdK (wantd v48 false) (fun k W => k v44 W) (fun v50 W =>
  gdK (wantd v48 false) (fun k W => callK PR F_pack_Reader_End [v50] k W) (fun v51 W =>
  gdK (wantd v48 false) (fun k W => okF (unP .not v51) fun v => k v W) (fun v52 W =>
  okF (pickP v48 (.bool true) v52) fun v53 =>
  gdK (wantd v53 false) (fun k W => k x5 W) (fun v55 W =>
  gdK (wantd v53 false) (fun k W => k v46 W) (fun v56 W =>
  gdK (wantd v53 false) (fun k W => callK PR F_last_Same [v55, v56] k W) (fun v57 W =>
  gdK (wantd v53 false) (fun k W => okF (unP .not v57) fun v => k v W) (fun v58 W =>
  okF (pickP v53 (.bool true) v58) fun v59 =>
  ifK v59 (
  R (.bool false) W) (
  okF (addrF 0 x3) fun v62 =>
  rdK PR (Instr.loadAt T_string v62) (fun v63 W =>
  okF (addrF 1 x3) fun v64 =>
  rdK PR (Instr.loadAt T_int64 v64) (fun v65 W =>
  okF (addrF 2 x3) fun v66 =>
  rdK PR (Instr.loadAt T_api_Dot v66) (fun v67 W =>
  callK PR F_last_Last_Write [x5, v63, v65, v67] (fun v68 W =>
  okF (extP 0 v68) fun v69 =>
  okF (extP 1 v68) fun v70 =>
  okF (addrF 0 x3) fun v73 =>
  rdK PR (Instr.loadAt T_string v73) (fun v74 W =>
  okF (addrF 1 x3) fun v75 =>
  rdK PR (Instr.loadAt T_int64 v75) (fun v76 W =>
  okF (addrF 2 x3) fun v77 =>
  rdK PR (Instr.loadAt T_api_Dot v77) (fun v78 W =>
  callK PR F_last_Last_Write [v46, v74, v76, v78] (fun v79 W =>
  okF (extP 0 v79) fun v80 =>
  okF (extP 1 v79) fun v81 =>
  okF (eqP .bool .eql v69 v80) fun v84 =>
  gdK (wantd v84 true) (fun k W => k v70 W) (fun v86 W =>
  gdK (wantd v84 true) (fun k W => k v81 W) (fun v87 W =>
  gdK (wantd v84 true) (fun k W => okF (binP .eql v86 v87) fun v => k v W) (fun v88 W =>
  okF (pickP v84 v88 (.bool false)) fun v89 =>
  gdK (wantd v89 true) (fun k W => k x5 W) (fun v91 W =>
  gdK (wantd v89 true) (fun k W => k v46 W) (fun v92 W =>
  gdK (wantd v89 true) (fun k W => callK PR F_last_Same [v91, v92] k W) (fun v93 W =>
  okF (pickP v89 v93 (.bool false)) fun v94 =>
  R v94 W) W) W) W) W) W) W) W) W) W) W) W) W) W) W)) W) W) W) W) W) W) W) W) W) W
def S.rostrumlaw11_LastBack.l1 (J1 : List Value → World → Prop) (K1 : List Value → World → Prop) (x0 x3 x5 x6 : Value) (W : World) : Prop :=
  okF (lenP (.slice T_rostrumlaw11_Act) x0) fun v21 =>
  okF (binP .lss x6 v21) fun v22 =>
  ifK v22 (
  okF (idxS 4 x0 x6) fun v28 =>
  okF (addrF 0 v28) fun v29 =>
  rdK PR (Instr.loadAt T_string v29) (fun v30 W =>
  okF (idxS 4 x0 x6) fun v33 =>
  okF (addrF 1 v33) fun v34 =>
  rdK PR (Instr.loadAt T_int64 v34) (fun v35 W =>
  okF (idxS 4 x0 x6) fun v38 =>
  okF (addrF 2 v38) fun v39 =>
  rdK PR (Instr.loadAt T_api_Dot v39) (fun v40 W =>
  callK PR F_last_Last_Write [x5, v30, v35, v40] (fun v41 W =>
  okF (binP .add x6 (.int .i64 1)) fun v24 =>
  K1 [x0, x3, x5, v24] W) W) W) W) (tick W)) (
  J1 [x3, x5] W)
def S.rostrumlaw11_LastBack.body (R : Value → World → Prop) (v0 v1 : Value) (W : World) : Prop :=
  efK PR (Instr.box T_rostrumlaw11_Act v1) (fun v3 W =>
  callK PR F_rostrumlaw11_awake [] (fun v13 W =>
  okF (unP .not v13) fun v14 =>
  ifK v14 (
  R (.bool false) W) (
  okF (lenP (.slice T_rostrumlaw11_Act) v0) fun v16 =>
  okF (binP .gtr v16 (.int .i64 30)) fun v17 =>
  ifK v17 (
  R (.bool true) W) (
  callK PR F_last_New [] (fun v18 W =>
  joinK (fun s W => S.rostrumlaw11_LastBack.j1 R (nthv s 0) (nthv s 1) W) (fun J1 =>
  loopK (fun K1 s W => S.rostrumlaw11_LastBack.l1 J1 K1 (nthv s 0) (nthv s 1) (nthv s 2) (nthv s 3) W) [v0, v3, v18, (.int .i64 0)] W)) W))) W) W
def S.rostrumlaw11_LastBack.hint : Hint := (.two .nil (.two (.two .nil (.two (.two .nil .nil) .nil)) (.two (.two .nil (.two (.two .nil .nil) .nil)) (.two .nil (.at [3, 5] (.two .nil (.at [0, 3, 5, 6] (.two (.two .nil (.two .nil .nil)) (.two .nil .nil)) .nil)) (.two .nil (.two .nil (.two (.two .nil (.two (.two .nil .nil) .nil)) (.two .nil (.two .nil (.two .nil .nil)))))))))))
theorem S.rostrumlaw11_LastBack.ok (R : Value → World → Prop) (v0 v1 : Value) (W : World) : bodyK PR CB Try.f11 S.rostrumlaw11_LastBack.hint [v0, v1] R W = S.rostrumlaw11_LastBack.body R v0 v1 W := by kernel_rfl
theorem S.rostrumlaw11_LastBack.fn : PR.funcs[F_rostrumlaw11_LastBack]? = some Try.f11 := by kernel_rfl
theorem S.rostrumlaw11_LastBack.call {R : Value → World → Prop} {v0 v1 : Value} {W : World} (h : S.rostrumlaw11_LastBack.body R v0 v1 W) : callK PR F_rostrumlaw11_LastBack [v0, v1] R W :=
  callK_of_body (g := F_rostrumlaw11_LastBack) (fn := Try.f11) (args := [v0, v1]) (R := R) (w := W) mixed CBok S.rostrumlaw11_LastBack.fn S.rostrumlaw11_LastBack.hint (by rw [S.rostrumlaw11_LastBack.ok]; exact h)
/-! ### rostrum/rostrumlaw11.awake (12) -/
def S.rostrumlaw11_awake.body (R : Value → World → Prop) (W : World) : Prop :=
  callK PR F_last_New [] (fun v8 W =>
  okF (eqP (.pointer T_last_Last) .eql v8 (.pointer none)) fun v10 =>
  ifK v10 (
  R (.bool false) W) (
  okF (bldP (fun i => ([(0, 1), (1, 1)] : List (Nat × Nat))[i]?) [.int .i64 0, .int .i64 0] [(1, (.int .i64 1))]) fun v13 =>
  callK PR F_last_Last_Write [v8, (.string ⟨#[97]⟩), (.int .i64 5), v13] (fun v14 W =>
  okF (extP 0 v14) fun v15 =>
  okF (extP 1 v14) fun v16 =>
  okF (bldP (fun i => ([(0, 1), (1, 1)] : List (Nat × Nat))[i]?) [.int .i64 0, .int .i64 0] [(0, (.int .i64 1)), (1, (.int .i64 1))]) fun v19 =>
  callK PR F_last_Last_Write [v8, (.string ⟨#[98]⟩), (.int .i64 3), v19] (fun v20 W =>
  okF (extP 0 v20) fun v21 =>
  okF (extP 1 v20) fun v22 =>
  callK PR F_last_Last_Value [v8] (fun v25 W =>
  okF (extP 0 v25) fun v26 =>
  okF (extP 1 v25) fun v27 =>
  gdK (wantd v15 true) (fun k W => k v16 W) (fun v30 W =>
  gdK (wantd v15 true) (fun k W => okF (binP .eql v30 (.int .i64 0)) fun v => k v W) (fun v31 W =>
  okF (pickP v15 v31 (.bool false)) fun v32 =>
  gdK (wantd v32 true) (fun k W => k v21 W) (fun v34 W =>
  gdK (wantd v32 true) (fun k W => okF (unP .not v34) fun v => k v W) (fun v35 W =>
  okF (pickP v32 v35 (.bool false)) fun v36 =>
  gdK (wantd v36 true) (fun k W => k v22 W) (fun v38 W =>
  gdK (wantd v36 true) (fun k W => okF (binP .eql v38 (.int .i64 0)) fun v => k v W) (fun v39 W =>
  okF (pickP v36 v39 (.bool false)) fun v40 =>
  gdK (wantd v40 true) (fun k W => k v27 W) (fun v42 W =>
  okF (pickP v40 v42 (.bool false)) fun v43 =>
  gdK (wantd v43 true) (fun k W => k v26 W) (fun v45 W =>
  gdK (wantd v43 true) (fun k W => okF (binP .eql v45 (.string ⟨#[97]⟩)) fun v => k v W) (fun v46 W =>
  okF (pickP v43 v46 (.bool false)) fun v47 =>
  R v47 W) W) W) W) W) W) W) W) W) W) W) W) W)) W
def S.rostrumlaw11_awake.hint : Hint := (.two .nil (.two .nil (.two (.two .nil (.two (.two .nil .nil) .nil)) (.two .nil (.two .nil (.two .nil (.two .nil .nil)))))))
theorem S.rostrumlaw11_awake.ok (R : Value → World → Prop) (W : World) : bodyK PR CB Try.f12 S.rostrumlaw11_awake.hint [] R W = S.rostrumlaw11_awake.body R  W := by kernel_rfl
theorem S.rostrumlaw11_awake.fn : PR.funcs[F_rostrumlaw11_awake]? = some Try.f12 := by kernel_rfl
theorem S.rostrumlaw11_awake.call {R : Value → World → Prop} {W : World} (h : S.rostrumlaw11_awake.body R  W) : callK PR F_rostrumlaw11_awake [] R W :=
  callK_of_body (g := F_rostrumlaw11_awake) (fn := Try.f12) (args := []) (R := R) (w := W) mixed CBok S.rostrumlaw11_awake.fn S.rostrumlaw11_awake.hint (by rw [S.rostrumlaw11_awake.ok]; exact h)
/-! ### rostrum/last.New (13) -/
def S.last_New.body (R : Value → World → Prop) (W : World) : Prop :=
  okF (bldP (fun i => ([(0, 1), (1, 1), (2, 1), (3, 2)] : List (Nat × Nat))[i]?) [.bool false, .string ⟨#[]⟩, .int .i64 0, .int .i64 0, .int .i64 0] []) fun v1 =>
  efK PR (Instr.box T_last_Last v1) (fun v2 W =>
  R v2 W) W
def S.last_New.hint : Hint := (.two .nil (.two .nil .nil))
theorem S.last_New.ok (R : Value → World → Prop) (W : World) : bodyK PR CB Try.f13 S.last_New.hint [] R W = S.last_New.body R  W := by kernel_rfl
theorem S.last_New.fn : PR.funcs[F_last_New]? = some Try.f13 := by kernel_rfl
theorem S.last_New.call {R : Value → World → Prop} {W : World} (h : S.last_New.body R  W) : callK PR F_last_New [] R W :=
  callK_of_body (g := F_last_New) (fn := Try.f13) (args := []) (R := R) (w := W) mixed CBok S.last_New.fn S.last_New.hint (by rw [S.last_New.ok]; exact h)
/-! ### (*rostrum/last.Last).Write (14) -/
def S.last_Last_Write.body (R : Value → World → Prop) (v0 v1 v2 v3 : Value) (W : World) : Prop :=
  efK PR (Instr.box T_api_Dot v3) (fun v7 W =>
  okF (lenP .string v1) fun v12 =>
  okF (binP .gtr v12 (.int .i64 100)) fun v13 =>
  gdK (wantd v13 false) (fun k W => k v2 W) (fun v15 W =>
  gdK (wantd v13 false) (fun k W => okF (binP .lss v15 (.int .i64 0)) fun v => k v W) (fun v16 W =>
  okF (pickP v13 (.bool true) v16) fun v17 =>
  gdK (wantd v17 false) (fun k W => k v2 W) (fun v19 W =>
  gdK (wantd v17 false) (fun k W => okF (binP .gtr v19 (.int .i64 1099511627776)) fun v => k v W) (fun v20 W =>
  okF (pickP v17 (.bool true) v20) fun v21 =>
  gdK (wantd v21 false) (fun k W => rdK PR (Instr.loadAt T_api_Dot v7) k W) (fun v23 W =>
  gdK (wantd v21 false) (fun k W => callK PR F_vec_Dot [v23] k W) (fun v24 W =>
  gdK (wantd v21 false) (fun k W => okF (unP .not v24) fun v => k v W) (fun v25 W =>
  okF (pickP v21 (.bool true) v25) fun v26 =>
  ifK v26 (
  R (.tuple #[(.bool false), (.int .i64 1)]) W) (
  okF (nilP v0) fun v29 =>
  okF (addrF 2 v29) fun v30 =>
  rdK PR (Instr.loadAt T_int64 v30) (fun v31 W =>
  rdK PR (Instr.loadAt T_api_Dot v7) (fun v33 W =>
  okF (nilP v0) fun v35 =>
  okF (addrF 3 v35) fun v36 =>
  rdK PR (Instr.loadAt T_api_Dot v36) (fun v37 W =>
  callK PR F_cmp_Compare_int64 [v2, v31] (fun v32 W =>
  stb PR [(10, true, (Instr.loadAt T_api_Dot v36), v37), (6, true, (Instr.loadAt T_api_Dot v7), v33)] (fun W =>
  callK PR F_dots_Order [v33, v37] (fun v38 W =>
  efK PR (Instr.buildSlice T_s_int 2 #[(0, v32), (1, v38)]) (fun v39 W =>
  callK PR F_cmp_Or_int [v39] (fun v40 W =>
  okF (nilP v0) fun v43 =>
  okF (addrF 0 v43) fun v44 =>
  rdK PR (Instr.loadAt T_bool v44) (fun v45 W =>
  gdK (wantd v45 true) (fun k W => k v40 W) (fun v47 W =>
  gdK (wantd v45 true) (fun k W => okF (binP .lss v47 (.int .i64 0)) fun v => k v W) (fun v48 W =>
  okF (pickP v45 v48 (.bool false)) fun v49 =>
  ifK v49 (
  R (.tuple #[(.bool false), (.int .i64 0)]) W) (
  okF (nilP v0) fun v52 =>
  okF (addrF 0 v52) fun v53 =>
  rdK PR (Instr.loadAt T_bool v53) (fun v54 W =>
  gdK (wantd v54 true) (fun k W => k v40 W) (fun v56 W =>
  gdK (wantd v54 true) (fun k W => okF (binP .eql v56 (.int .i64 0)) fun v => k v W) (fun v57 W =>
  okF (pickP v54 v57 (.bool false)) fun v58 =>
  ifK v58 (
  okF (nilP v0) fun v61 =>
  okF (addrF 1 v61) fun v62 =>
  rdK PR (Instr.loadAt T_string v62) (fun v63 W =>
  okF (binP .neq v1 v63) fun v64 =>
  ifK v64 (
  R (.tuple #[(.bool false), (.int .i64 5)]) W) (
  R (.tuple #[(.bool false), (.int .i64 0)]) W)) W) (
  rdK PR (Instr.loadAt T_api_Dot v7) (fun v68 W =>
  okF (bldP (fun i => ([(0, 1), (1, 1), (2, 1), (3, 2)] : List (Nat × Nat))[i]?) [.bool false, .string ⟨#[]⟩, .int .i64 0, .int .i64 0, .int .i64 0] [(0, (.bool true)), (1, v1), (2, v2), (3, v68)]) fun v69 =>
  okF (nilP v0) fun v70 =>
  efK PR (Instr.storeAt T_last_Last v70 v69) (fun _ W =>
  R (.tuple #[(.bool true), (.int .i64 0)]) W) W) W)) W) W) W)) W) W) W) W) W) W) W) W) W) W) (tick W))) W) W) W) W) W) W) W) W
def S.last_Last_Write.hint : Hint := (.two .nil (.two (.two .nil (.two (.two .nil .nil) .nil)) (.two .nil (.two (.two .nil (.two (.two .nil .nil) (.two .nil (.two (.two (.two .nil (.two (.two .nil .nil) .nil)) (.two .nil .nil)) .nil)))) (.two .nil (.two .nil .nil))))))
theorem S.last_Last_Write.ok (R : Value → World → Prop) (v0 v1 v2 v3 : Value) (W : World) : bodyK PR CB Try.f14 S.last_Last_Write.hint [v0, v1, v2, v3] R W = S.last_Last_Write.body R v0 v1 v2 v3 W := by kernel_rfl
theorem S.last_Last_Write.fn : PR.funcs[F_last_Last_Write]? = some Try.f14 := by kernel_rfl
theorem S.last_Last_Write.call {R : Value → World → Prop} {v0 v1 v2 v3 : Value} {W : World} (h : S.last_Last_Write.body R v0 v1 v2 v3 W) : callK PR F_last_Last_Write [v0, v1, v2, v3] R W :=
  callK_of_body (g := F_last_Last_Write) (fn := Try.f14) (args := [v0, v1, v2, v3]) (R := R) (w := W) mixed CBok S.last_Last_Write.fn S.last_Last_Write.hint (by rw [S.last_Last_Write.ok]; exact h)
/-! ### rostrum/last.Same (15) -/
def S.last_Same.body (R : Value → World → Prop) (v0 v1 : Value) (W : World) : Prop :=
  okF (nilP v0) fun v6 =>
  rdK PR (Instr.loadAt T_last_Last v6) (fun v7 W =>
  okF (nilP v1) fun v9 =>
  rdK PR (Instr.loadAt T_last_Last v9) (fun v10 W =>
  rdK PR (aggEq .eql T_last_Last v7 v10) (fun v11 W =>
  R v11 W) W) W) (tick W)
def S.last_Same.hint : Hint := (.two .nil (.two .nil .nil))
theorem S.last_Same.ok (R : Value → World → Prop) (v0 v1 : Value) (W : World) : bodyK PR CB Try.f15 S.last_Same.hint [v0, v1] R W = S.last_Same.body R v0 v1 W := by kernel_rfl
theorem S.last_Same.fn : PR.funcs[F_last_Same]? = some Try.f15 := by kernel_rfl
theorem S.last_Same.call {R : Value → World → Prop} {v0 v1 : Value} {W : World} (h : S.last_Same.body R v0 v1 W) : callK PR F_last_Same [v0, v1] R W :=
  callK_of_body (g := F_last_Same) (fn := Try.f15) (args := [v0, v1]) (R := R) (w := W) mixed CBok S.last_Same.fn S.last_Same.hint (by rw [S.last_Same.ok]; exact h)
/-! ### (*rostrum/last.Last).Value (16) -/
def S.last_Last_Value.body (R : Value → World → Prop) (v0 : Value) (W : World) : Prop :=
  okF (nilP v0) fun v5 =>
  okF (addrF 1 v5) fun v6 =>
  rdK PR (Instr.loadAt T_string v6) (fun v7 W =>
  okF (nilP v0) fun v9 =>
  okF (addrF 0 v9) fun v10 =>
  rdK PR (Instr.loadAt T_bool v10) (fun v11 W =>
  R (.tuple #[v7, v11]) W) W) (tick W)
def S.last_Last_Value.hint : Hint := (.two .nil (.two .nil .nil))
theorem S.last_Last_Value.ok (R : Value → World → Prop) (v0 : Value) (W : World) : bodyK PR CB Try.f16 S.last_Last_Value.hint [v0] R W = S.last_Last_Value.body R v0 W := by kernel_rfl
theorem S.last_Last_Value.fn : PR.funcs[F_last_Last_Value]? = some Try.f16 := by kernel_rfl
theorem S.last_Last_Value.call {R : Value → World → Prop} {v0 : Value} {W : World} (h : S.last_Last_Value.body R v0 W) : callK PR F_last_Last_Value [v0] R W :=
  callK_of_body (g := F_last_Last_Value) (fn := Try.f16) (args := [v0]) (R := R) (w := W) mixed CBok S.last_Last_Value.fn S.last_Last_Value.hint (by rw [S.last_Last_Value.ok]; exact h)
/-! ### (*rostrum/last.Last).When (17) -/
def S.last_Last_When.body (R : Value → World → Prop) (v0 : Value) (W : World) : Prop :=
  efK PR (Instr.alloc T_api_Dot true (.tuple #[])) (fun v3 W =>
  okF (nilP v0) fun v5 =>
  okF (addrF 2 v5) fun v6 =>
  rdK PR (Instr.loadAt T_int64 v6) (fun v7 W =>
  okF (nilP v0) fun v9 =>
  okF (addrF 3 v9) fun v10 =>
  rdK PR (Instr.loadAt T_api_Dot v10) (fun v11 W =>
  efK PR (Instr.storeAt T_api_Dot v3 v11) (fun _ W =>
  rdK PR (Instr.loadAt T_api_Dot v3) (fun r1 W =>
  R (.tuple #[v7, r1]) W) W) W) W) (tick W)) W
def S.last_Last_When.hint : Hint := (.two .nil (.two .nil .nil))
theorem S.last_Last_When.ok (R : Value → World → Prop) (v0 : Value) (W : World) : bodyK PR CB Try.f17 S.last_Last_When.hint [v0] R W = S.last_Last_When.body R v0 W := by kernel_rfl
theorem S.last_Last_When.fn : PR.funcs[F_last_Last_When]? = some Try.f17 := by kernel_rfl
theorem S.last_Last_When.call {R : Value → World → Prop} {v0 : Value} {W : World} (h : S.last_Last_When.body R v0 W) : callK PR F_last_Last_When [v0] R W :=
  callK_of_body (g := F_last_Last_When) (fn := Try.f17) (args := [v0]) (R := R) (w := W) mixed CBok S.last_Last_When.fn S.last_Last_When.hint (by rw [S.last_Last_When.ok]; exact h)
/-! ### rostrum/rostrumlaw19.awake (18) -/
def S.rostrumlaw19_awake.body (R : Value → World → Prop) (W : World) : Prop :=
  okF (bldP (fun i => ([(0, 1), (1, 1)] : List (Nat × Nat))[i]?) [.int .i64 0, .int .i64 0] []) fun v4 =>
  callK PR F_ballot_Next [v4, (.int .i64 2)] (fun v5 W =>
  okF (extP 0 v5) fun v6 =>
  okF (extP 1 v5) fun v7 =>
  efK PR (Instr.alloc T_ballot_Ballot true (.tuple #[])) (fun v1 W =>
  efK PR (Instr.storeAt T_ballot_Ballot v1 v6) (fun _ W =>
  okF (binP .eql v7 (.int .i64 0)) fun v9 =>
  gdK (wantd v9 true) (fun k W => rdK PR (Instr.loadAt T_ballot_Ballot v1) k W) (fun v11 W =>
  gdK (wantd v9 true) (fun k W => okF (bldP (fun i => ([(0, 1), (1, 1)] : List (Nat × Nat))[i]?) [.int .i64 0, .int .i64 0] [(0, (.int .i64 1)), (1, (.int .i64 2))]) fun v => k v W) (fun v12 W =>
  gdK (wantd v9 true) (fun k W => rdK PR (aggEq .eql T_ballot_Ballot v11 v12) k W) (fun v13 W =>
  okF (pickP v9 v13 (.bool false)) fun v14 =>
  gdK (wantd v14 true) (fun k W => rdK PR (Instr.loadAt T_ballot_Ballot v1) k W) (fun v16 W =>
  gdK (wantd v14 true) (fun k W => callK PR F_ballot_First [(.int .i64 6)] (fun v W => stb PR [(8, (wantd v14 true), (Instr.loadAt T_ballot_Ballot v1), v16)] (fun W => k v W) W) W) (fun v17 W =>
  gdK (wantd v14 true) (fun k W => callK PR F_ballot_Cmp [v16, v17] k W) (fun v18 W =>
  gdK (wantd v14 true) (fun k W => okF (binP .eql v18 (.int .i64 1)) fun v => k v W) (fun v19 W =>
  okF (pickP v14 v19 (.bool false)) fun v20 =>
  gdK (wantd v20 true) (fun k W => okF (bldP (fun i => ([(0, 1), (1, 1)] : List (Nat × Nat))[i]?) [.int .i64 0, .int .i64 0] [(1, (.int .i64 6))]) fun v => k v W) (fun v23 W =>
  gdK (wantd v20 true) (fun k W => callK PR F_ballot_First [(.int .i64 6)] k W) (fun v22 W =>
  gdK (wantd v20 true) (fun k W => rdK PR (aggEq .eql T_ballot_Ballot v22 v23) k W) (fun v24 W =>
  okF (pickP v20 v24 (.bool false)) fun v25 =>
  R v25 W) W) W) W) W) W) W) W) W) W) (tick W)) W) W) W
def S.rostrumlaw19_awake.hint : Hint := (.two .nil (.two .nil (.two .nil .nil)))
theorem S.rostrumlaw19_awake.ok (R : Value → World → Prop) (W : World) : bodyK PR CB Try.f18 S.rostrumlaw19_awake.hint [] R W = S.rostrumlaw19_awake.body R  W := by kernel_rfl
theorem S.rostrumlaw19_awake.fn : PR.funcs[F_rostrumlaw19_awake]? = some Try.f18 := by kernel_rfl
theorem S.rostrumlaw19_awake.call {R : Value → World → Prop} {W : World} (h : S.rostrumlaw19_awake.body R  W) : callK PR F_rostrumlaw19_awake [] R W :=
  callK_of_body (g := F_rostrumlaw19_awake) (fn := Try.f18) (args := []) (R := R) (w := W) mixed CBok S.rostrumlaw19_awake.fn S.rostrumlaw19_awake.hint (by rw [S.rostrumlaw19_awake.ok]; exact h)
/-! ### rostrum/ballot.Cmp (19) -/
def S.ballot_Cmp.body (R : Value → World → Prop) (v0 v1 : Value) (W : World) : Prop :=
  efK PR (Instr.box T_ballot_Ballot v0) (fun v2 W =>
  efK PR (Instr.box T_ballot_Ballot v1) (fun v3 W =>
  okF (addrF 0 v2) fun v5 =>
  rdK PR (Instr.loadAt T_int64 v5) (fun v6 W =>
  okF (addrF 0 v3) fun v7 =>
  rdK PR (Instr.loadAt T_int64 v7) (fun v8 W =>
  okF (addrF 1 v2) fun v10 =>
  rdK PR (Instr.loadAt T_int v10) (fun v11 W =>
  okF (addrF 1 v3) fun v12 =>
  rdK PR (Instr.loadAt T_int v12) (fun v13 W =>
  callK PR F_cmp_Compare_int64 [v6, v8] (fun v9 W =>
  stb PR [(8, true, (Instr.loadAt T_int v12), v13), (6, true, (Instr.loadAt T_int v10), v11)] (fun W =>
  callK PR F_cmp_Compare_int [v11, v13] (fun v14 W =>
  efK PR (Instr.buildSlice T_s_int 2 #[(0, v9), (1, v14)]) (fun v15 W =>
  callK PR F_cmp_Or_int [v15] (fun v16 W =>
  R v16 W) W) W) W) W) W) W) W) W) (tick W)) W) W
def S.ballot_Cmp.hint : Hint := (.two .nil (.two .nil .nil))
theorem S.ballot_Cmp.ok (R : Value → World → Prop) (v0 v1 : Value) (W : World) : bodyK PR CB Try.f19 S.ballot_Cmp.hint [v0, v1] R W = S.ballot_Cmp.body R v0 v1 W := by kernel_rfl
theorem S.ballot_Cmp.fn : PR.funcs[F_ballot_Cmp]? = some Try.f19 := by kernel_rfl
theorem S.ballot_Cmp.call {R : Value → World → Prop} {v0 v1 : Value} {W : World} (h : S.ballot_Cmp.body R v0 v1 W) : callK PR F_ballot_Cmp [v0, v1] R W :=
  callK_of_body (g := F_ballot_Cmp) (fn := Try.f19) (args := [v0, v1]) (R := R) (w := W) mixed CBok S.ballot_Cmp.fn S.ballot_Cmp.hint (by rw [S.ballot_Cmp.ok]; exact h)
/-! ### rostrum/ballot.Most (20) -/
def S.ballot_Most.j1 (R : Value → World → Prop) (x2 x3 : Value) (W : World) : Prop :=
  rdK PR (Instr.loadAt T_ballot_Ballot x3) (fun v25 W =>
  efK PR (Instr.storeAt T_ballot_Ballot x2 v25) (fun _ W =>
  rdK PR (Instr.loadAt T_ballot_Ballot x2) (fun r0 W =>
  R r0 W) W) W) W
def S.ballot_Most.j2 (K1 : List Value → World → Prop) (x2 x3 x13 x14 x15 : Value) (W : World) : Prop :=
  okF (binP .add x15 (.int .i64 1)) fun v24 =>
  K1 [x2, x3, x13, x14, v24] W
def S.ballot_Most.l1 (J1 : List Value → World → Prop) (K1 : List Value → World → Prop) (x2 x3 x13 x14 x15 : Value) (W : World) : Prop :=
  okF (binP .lss x15 x14) fun v16 =>
  ifK v16 (
  joinK (fun s W => S.ballot_Most.j2 K1 (nthv s 0) (nthv s 1) (nthv s 2) (nthv s 3) (nthv s 4) W) (fun J2 =>
  okF (idxS 2 x13 x15) fun v17 =>
  rdK PR (Instr.loadAt T_ballot_Ballot v17) (fun v18 W =>
  efK PR (Instr.alloc T_ballot_Ballot true (.tuple #[])) (fun v5 W =>
  efK PR (Instr.storeAt T_ballot_Ballot v5 v18) (fun _ W =>
  rdK PR (Instr.loadAt T_ballot_Ballot v5) (fun v19 W =>
  rdK PR (Instr.loadAt T_ballot_Ballot x3) (fun v20 W =>
  callK PR F_ballot_Cmp [v19, v20] (fun v21 W =>
  okF (binP .gtr v21 (.int .i64 0)) fun v22 =>
  ifK v22 (
  rdK PR (Instr.loadAt T_ballot_Ballot v5) (fun v23 W =>
  efK PR (Instr.storeAt T_ballot_Ballot x3 v23) (fun _ W =>
  J2 [x2, x3, x13, x14, x15] W) W) W) (
  J2 [x2, x3, x13, x14, x15] W)) W) W) W) W) W) W)) (
  J1 [x2, x3] W)
def S.ballot_Most.body (R : Value → World → Prop) (v0 : Value) (W : World) : Prop :=
  efK PR (Instr.alloc T_ballot_Ballot true (.tuple #[])) (fun v2 W =>
  okF (lenP (.slice T_ballot_Ballot) v0) fun v7 =>
  okF (binP .eql v7 (.int .i64 0)) fun v8 =>
  ifK v8 (
  okF (bldP (fun i => ([(0, 1), (1, 1)] : List (Nat × Nat))[i]?) [.int .i64 0, .int .i64 0] []) fun v9 =>
  efK PR (Instr.storeAt T_ballot_Ballot v2 v9) (fun _ W =>
  rdK PR (Instr.loadAt T_ballot_Ballot v2) (fun r0 W =>
  R r0 W) W) W) (
  okF (idxS 2 v0 (.int .i64 0)) fun v11 =>
  rdK PR (Instr.loadAt T_ballot_Ballot v11) (fun v12 W =>
  efK PR (Instr.alloc T_ballot_Ballot true (.tuple #[])) (fun v3 W =>
  efK PR (Instr.storeAt T_ballot_Ballot v3 v12) (fun _ W =>
  joinK (fun s W => S.ballot_Most.j1 R (nthv s 0) (nthv s 1) W) (fun J1 =>
  okF (lenP (.slice T_ballot_Ballot) v0) fun v14 =>
  loopK (fun K1 s W => S.ballot_Most.l1 J1 K1 (nthv s 0) (nthv s 1) (nthv s 2) (nthv s 3) (nthv s 4) W) [v2, v3, v0, v14, (.int .i64 0)] W)) W) W) W)) W
def S.ballot_Most.hint : Hint := (.two .nil (.two (.two .nil (.two (.two .nil .nil) .nil)) (.two .nil (.at [2, 3] (.two .nil (.at [2, 3, 13, 14, 15] (.two .nil (.two (.two .nil .nil) (.at [2, 3, 13, 14, 15] (.two .nil (.two .nil (.two .nil .nil))) .nil))) .nil)) (.two .nil .nil)))))
theorem S.ballot_Most.ok (R : Value → World → Prop) (v0 : Value) (W : World) : bodyK PR CB Try.f20 S.ballot_Most.hint [v0] R W = S.ballot_Most.body R v0 W := by kernel_rfl
theorem S.ballot_Most.fn : PR.funcs[F_ballot_Most]? = some Try.f20 := by kernel_rfl
theorem S.ballot_Most.call {R : Value → World → Prop} {v0 : Value} {W : World} (h : S.ballot_Most.body R v0 W) : callK PR F_ballot_Most [v0] R W :=
  callK_of_body (g := F_ballot_Most) (fn := Try.f20) (args := [v0]) (R := R) (w := W) mixed CBok S.ballot_Most.fn S.ballot_Most.hint (by rw [S.ballot_Most.ok]; exact h)
/-! ### rostrum/ballot.Good (21) -/
def S.ballot_Good.body (R : Value → World → Prop) (v0 : Value) (W : World) : Prop :=
  efK PR (Instr.box T_ballot_Ballot v0) (fun v1 W =>
  okF (addrF 0 v1) fun v3 =>
  rdK PR (Instr.loadAt T_int64 v3) (fun v4 W =>
  okF (binP .geq v4 (.int .i64 0)) fun v5 =>
  gdK (wantd v5 true) (fun k W => okF (addrF 0 v1) fun v => k v W) (fun v7 W =>
  gdK (wantd v5 true) (fun k W => rdK PR (Instr.loadAt T_int64 v7) k W) (fun v8 W =>
  gdK (wantd v5 true) (fun k W => okF (binP .leq v8 (.int .i64 1099511627776)) fun v => k v W) (fun v9 W =>
  okF (pickP v5 v9 (.bool false)) fun v10 =>
  gdK (wantd v10 true) (fun k W => okF (addrF 1 v1) fun v => k v W) (fun v12 W =>
  gdK (wantd v10 true) (fun k W => rdK PR (Instr.loadAt T_int v12) k W) (fun v13 W =>
  gdK (wantd v10 true) (fun k W => callK PR F_ballot_rep [v13] k W) (fun v14 W =>
  okF (pickP v10 v14 (.bool false)) fun v15 =>
  R v15 W) W) W) W) W) W) W) W) W
def S.ballot_Good.hint : Hint := (.two .nil (.two .nil .nil))
theorem S.ballot_Good.ok (R : Value → World → Prop) (v0 : Value) (W : World) : bodyK PR CB Try.f21 S.ballot_Good.hint [v0] R W = S.ballot_Good.body R v0 W := by kernel_rfl
theorem S.ballot_Good.fn : PR.funcs[F_ballot_Good]? = some Try.f21 := by kernel_rfl
theorem S.ballot_Good.call {R : Value → World → Prop} {v0 : Value} {W : World} (h : S.ballot_Good.body R v0 W) : callK PR F_ballot_Good [v0] R W :=
  callK_of_body (g := F_ballot_Good) (fn := Try.f21) (args := [v0]) (R := R) (w := W) mixed CBok S.ballot_Good.fn S.ballot_Good.hint (by rw [S.ballot_Good.ok]; exact h)
/-! ### rostrum/ballot.Put (22) -/
def S.ballot_Put.body (R : Value → World → Prop) (v0 v1 : Value) (W : World) : Prop :=
  efK PR (Instr.box T_ballot_Ballot v1) (fun v3 W =>
  okF (addrF 0 v3) fun v6 =>
  rdK PR (Instr.loadAt T_int64 v6) (fun v7 W =>
  okF (addrF 1 v3) fun v9 =>
  rdK PR (Instr.loadAt T_int v9) (fun v10 W =>
  callK PR F_pack_Num [v0, v7] (fun v8 W =>
  stb PR [(5, true, (Instr.loadAt T_int v9), v10)] (fun W =>
  callK PR F_pack_Num [v8, v10] (fun v11 W =>
  R v11 W) W) W) W) W) (tick W)) W
def S.ballot_Put.hint : Hint := (.two .nil (.two .nil .nil))
theorem S.ballot_Put.ok (R : Value → World → Prop) (v0 v1 : Value) (W : World) : bodyK PR CB Try.f22 S.ballot_Put.hint [v0, v1] R W = S.ballot_Put.body R v0 v1 W := by kernel_rfl
theorem S.ballot_Put.fn : PR.funcs[F_ballot_Put]? = some Try.f22 := by kernel_rfl
theorem S.ballot_Put.call {R : Value → World → Prop} {v0 v1 : Value} {W : World} (h : S.ballot_Put.body R v0 v1 W) : callK PR F_ballot_Put [v0, v1] R W :=
  callK_of_body (g := F_ballot_Put) (fn := Try.f22) (args := [v0, v1]) (R := R) (w := W) mixed CBok S.ballot_Put.fn S.ballot_Put.hint (by rw [S.ballot_Put.ok]; exact h)
/-! ### rostrum/pack.Read (23) -/
def S.pack_Read.body (R : Value → World → Prop) (v0 : Value) (W : World) : Prop :=
  callK PR F_bytes_Clone [v0] (fun v4 W =>
  okF (bldP (fun i => ([(0, 1), (1, 1)] : List (Nat × Nat))[i]?) [.slice none 0 0, .bool false] [(0, v4)]) fun v5 =>
  efK PR (Instr.box T_pack_Reader v5) (fun v6 W =>
  R v6 W) W) W
def S.pack_Read.hint : Hint := (.two .nil (.two .nil .nil))
theorem S.pack_Read.ok (R : Value → World → Prop) (v0 : Value) (W : World) : bodyK PR CB Try.f23 S.pack_Read.hint [v0] R W = S.pack_Read.body R v0 W := by kernel_rfl
theorem S.pack_Read.fn : PR.funcs[F_pack_Read]? = some Try.f23 := by kernel_rfl
theorem S.pack_Read.call {R : Value → World → Prop} {v0 : Value} {W : World} (h : S.pack_Read.body R v0 W) : callK PR F_pack_Read [v0] R W :=
  callK_of_body (g := F_pack_Read) (fn := Try.f23) (args := [v0]) (R := R) (w := W) mixed CBok S.pack_Read.fn S.pack_Read.hint (by rw [S.pack_Read.ok]; exact h)
/-! ### rostrum/ballot.Get (24) -/
def S.ballot_Get.body (R : Value → World → Prop) (v0 : Value) (W : World) : Prop :=
  efK PR (Instr.alloc T_ballot_Ballot true (.tuple #[])) (fun v2 W =>
  callK PR F_pack_Reader_Num [v0, (.int .i64 0), (.int .i64 1099511627776)] (fun v6 W =>
  callK PR F_pack_Reader_Num [v0, (.int .i64 0), (.int .i64 6)] (fun v8 W =>
  callK PR F_pack_Reader_Bad [v0] (fun v10 W =>
  ifK v10 (
  okF (bldP (fun i => ([(0, 1), (1, 1)] : List (Nat × Nat))[i]?) [.int .i64 0, .int .i64 0] []) fun v11 =>
  efK PR (Instr.storeAt T_ballot_Ballot v2 v11) (fun _ W =>
  rdK PR (Instr.loadAt T_ballot_Ballot v2) (fun r0 W =>
  R r0 W) W) W) (
  okF (bldP (fun i => ([(0, 1), (1, 1)] : List (Nat × Nat))[i]?) [.int .i64 0, .int .i64 0] [(0, v6), (1, v8)]) fun v14 =>
  efK PR (Instr.storeAt T_ballot_Ballot v2 v14) (fun _ W =>
  rdK PR (Instr.loadAt T_ballot_Ballot v2) (fun r0 W =>
  R r0 W) W) W)) W) W) W) W
def S.ballot_Get.hint : Hint := (.two .nil (.two .nil (.two .nil (.two (.two .nil (.two (.two .nil .nil) .nil)) (.two .nil .nil)))))
theorem S.ballot_Get.ok (R : Value → World → Prop) (v0 : Value) (W : World) : bodyK PR CB Try.f24 S.ballot_Get.hint [v0] R W = S.ballot_Get.body R v0 W := by kernel_rfl
theorem S.ballot_Get.fn : PR.funcs[F_ballot_Get]? = some Try.f24 := by kernel_rfl
theorem S.ballot_Get.call {R : Value → World → Prop} {v0 : Value} {W : World} (h : S.ballot_Get.body R v0 W) : callK PR F_ballot_Get [v0] R W :=
  callK_of_body (g := F_ballot_Get) (fn := Try.f24) (args := [v0]) (R := R) (w := W) mixed CBok S.ballot_Get.fn S.ballot_Get.hint (by rw [S.ballot_Get.ok]; exact h)
/-! ### (*rostrum/pack.Reader).End (25) -/
def S.pack_Reader_End.body (R : Value → World → Prop) (v0 : Value) (W : World) : Prop :=
  okF (nilP v0) fun v4 =>
  okF (addrF 1 v4) fun v5 =>
  rdK PR (Instr.loadAt T_bool v5) (fun v6 W =>
  okF (unP .not v6) fun v7 =>
  gdK (wantd v7 true) (fun k W => k v0 W) (fun v9 W =>
  gdK (wantd v7 true) (fun k W => okF (nilP v9) fun v => k v W) (fun v10 W =>
  gdK (wantd v7 true) (fun k W => okF (addrF 0 v10) fun v => k v W) (fun v11 W =>
  gdK (wantd v7 true) (fun k W => rdK PR (Instr.loadAt T_s_uint8 v11) k W) (fun v12 W =>
  gdK (wantd v7 true) (fun k W => okF (lenP (.slice T_uint8) v12) fun v => k v W) (fun v13 W =>
  gdK (wantd v7 true) (fun k W => okF (binP .eql v13 (.int .i64 0)) fun v => k v W) (fun v14 W =>
  okF (pickP v7 v14 (.bool false)) fun v15 =>
  R v15 W) W) W) W) W) W) W) W
def S.pack_Reader_End.hint : Hint := (.two .nil (.two .nil .nil))
theorem S.pack_Reader_End.ok (R : Value → World → Prop) (v0 : Value) (W : World) : bodyK PR CB Try.f25 S.pack_Reader_End.hint [v0] R W = S.pack_Reader_End.body R v0 W := by kernel_rfl
theorem S.pack_Reader_End.fn : PR.funcs[F_pack_Reader_End]? = some Try.f25 := by kernel_rfl
theorem S.pack_Reader_End.call {R : Value → World → Prop} {v0 : Value} {W : World} (h : S.pack_Reader_End.body R v0 W) : callK PR F_pack_Reader_End [v0] R W :=
  callK_of_body (g := F_pack_Reader_End) (fn := Try.f25) (args := [v0]) (R := R) (w := W) mixed CBok S.pack_Reader_End.fn S.pack_Reader_End.hint (by rw [S.pack_Reader_End.ok]; exact h)
/-! ### rostrum/ballot.Next (26) -/
def S.ballot_Next.body (R : Value → World → Prop) (v0 v1 : Value) (W : World) : Prop :=
  efK PR (Instr.box T_ballot_Ballot v0) (fun v2 W =>
  efK PR (Instr.alloc T_ballot_Ballot true (.tuple #[])) (fun v4 W =>
  rdK PR (Instr.loadAt T_ballot_Ballot v2) (fun v7 W =>
  callK PR F_ballot_Good [v7] (fun v8 W =>
  okF (unP .not v8) fun v9 =>
  gdK (wantd v9 false) (fun k W => k v1 W) (fun v11 W =>
  gdK (wantd v9 false) (fun k W => callK PR F_ballot_rep [v11] k W) (fun v12 W =>
  gdK (wantd v9 false) (fun k W => okF (unP .not v12) fun v => k v W) (fun v13 W =>
  okF (pickP v9 (.bool true) v13) fun v14 =>
  ifK v14 (
  okF (bldP (fun i => ([(0, 1), (1, 1)] : List (Nat × Nat))[i]?) [.int .i64 0, .int .i64 0] []) fun v15 =>
  efK PR (Instr.storeAt T_ballot_Ballot v4 v15) (fun _ W =>
  rdK PR (Instr.loadAt T_ballot_Ballot v4) (fun r0 W =>
  R (.tuple #[r0, (.int .i64 1)]) W) W) W) (
  okF (addrF 0 v2) fun v17 =>
  rdK PR (Instr.loadAt T_int64 v17) (fun v18 W =>
  okF (binP .eql v18 (.int .i64 1099511627776)) fun v19 =>
  ifK v19 (
  okF (bldP (fun i => ([(0, 1), (1, 1)] : List (Nat × Nat))[i]?) [.int .i64 0, .int .i64 0] []) fun v20 =>
  efK PR (Instr.storeAt T_ballot_Ballot v4 v20) (fun _ W =>
  rdK PR (Instr.loadAt T_ballot_Ballot v4) (fun r0 W =>
  R (.tuple #[r0, (.int .i64 2)]) W) W) W) (
  okF (addrF 0 v2) fun v21 =>
  rdK PR (Instr.loadAt T_int64 v21) (fun v22 W =>
  okF (binP .add v22 (.int .i64 1)) fun v23 =>
  okF (bldP (fun i => ([(0, 1), (1, 1)] : List (Nat × Nat))[i]?) [.int .i64 0, .int .i64 0] [(0, v23), (1, v1)]) fun v25 =>
  efK PR (Instr.storeAt T_ballot_Ballot v4 v25) (fun _ W =>
  rdK PR (Instr.loadAt T_ballot_Ballot v4) (fun r0 W =>
  R (.tuple #[r0, (.int .i64 0)]) W) W) W) W)) W)) W) W) W) W) W) W) W
def S.ballot_Next.hint : Hint := (.two .nil (.two (.two .nil (.two (.two .nil .nil) (.two .nil (.two (.two .nil .nil) .nil)))) (.two .nil .nil)))
theorem S.ballot_Next.ok (R : Value → World → Prop) (v0 v1 : Value) (W : World) : bodyK PR CB Try.f26 S.ballot_Next.hint [v0, v1] R W = S.ballot_Next.body R v0 v1 W := by kernel_rfl
theorem S.ballot_Next.fn : PR.funcs[F_ballot_Next]? = some Try.f26 := by kernel_rfl
theorem S.ballot_Next.call {R : Value → World → Prop} {v0 v1 : Value} {W : World} (h : S.ballot_Next.body R v0 v1 W) : callK PR F_ballot_Next [v0, v1] R W :=
  callK_of_body (g := F_ballot_Next) (fn := Try.f26) (args := [v0, v1]) (R := R) (w := W) mixed CBok S.ballot_Next.fn S.ballot_Next.hint (by rw [S.ballot_Next.ok]; exact h)
/-! ### rostrum/rostrumref18.Next (27) -/
def S.rostrumref18_Next.body (R : Value → World → Prop) (v0 v1 : Value) (W : World) : Prop :=
  efK PR (Instr.box T_rostrumref18_Ballot v0) (fun v2 W =>
  efK PR (Instr.alloc T_rostrumref18_Ballot true (.tuple #[])) (fun v4 W =>
  rdK PR (Instr.loadAt T_rostrumref18_Ballot v2) (fun v6 W =>
  callK PR F_rostrumref18_GoodBallot [v6] (fun v7 W =>
  okF (unP .not v7) fun v8 =>
  gdK (wantd v8 false) (fun k W => k v1 W) (fun v10 W =>
  gdK (wantd v8 false) (fun k W => okF (binP .lss v10 (.int .i64 0)) fun v => k v W) (fun v11 W =>
  okF (pickP v8 (.bool true) v11) fun v12 =>
  gdK (wantd v12 false) (fun k W => k v1 W) (fun v14 W =>
  gdK (wantd v12 false) (fun k W => okF (binP .gtr v14 (.int .i64 6)) fun v => k v W) (fun v15 W =>
  okF (pickP v12 (.bool true) v15) fun v16 =>
  ifK v16 (
  okF (bldP (fun i => ([(0, 1), (1, 1)] : List (Nat × Nat))[i]?) [.int .i64 0, .int .i64 0] []) fun v17 =>
  efK PR (Instr.storeAt T_rostrumref18_Ballot v4 v17) (fun _ W =>
  rdK PR (Instr.loadAt T_rostrumref18_Ballot v4) (fun r0 W =>
  R (.tuple #[r0, (.int .i64 1)]) W) W) W) (
  okF (addrF 0 v2) fun v18 =>
  rdK PR (Instr.loadAt T_int64 v18) (fun v19 W =>
  okF (binP .eql v19 (.int .i64 1099511627776)) fun v20 =>
  ifK v20 (
  okF (bldP (fun i => ([(0, 1), (1, 1)] : List (Nat × Nat))[i]?) [.int .i64 0, .int .i64 0] []) fun v21 =>
  efK PR (Instr.storeAt T_rostrumref18_Ballot v4 v21) (fun _ W =>
  rdK PR (Instr.loadAt T_rostrumref18_Ballot v4) (fun r0 W =>
  R (.tuple #[r0, (.int .i64 2)]) W) W) W) (
  okF (addrF 0 v2) fun v22 =>
  rdK PR (Instr.loadAt T_int64 v22) (fun v23 W =>
  okF (binP .add v23 (.int .i64 1)) fun v24 =>
  okF (bldP (fun i => ([(0, 1), (1, 1)] : List (Nat × Nat))[i]?) [.int .i64 0, .int .i64 0] [(0, v24), (1, v1)]) fun v26 =>
  efK PR (Instr.storeAt T_rostrumref18_Ballot v4 v26) (fun _ W =>
  rdK PR (Instr.loadAt T_rostrumref18_Ballot v4) (fun r0 W =>
  R (.tuple #[r0, (.int .i64 0)]) W) W) W) W)) W)) W) W) W) W) W) W) W) W
def S.rostrumref18_Next.hint : Hint := (.two .nil (.two (.two .nil (.two (.two .nil .nil) .nil)) (.two (.two .nil (.two (.two .nil .nil) .nil)) (.two .nil .nil))))
theorem S.rostrumref18_Next.ok (R : Value → World → Prop) (v0 v1 : Value) (W : World) : bodyK PR CB Try.f27 S.rostrumref18_Next.hint [v0, v1] R W = S.rostrumref18_Next.body R v0 v1 W := by kernel_rfl
theorem S.rostrumref18_Next.fn : PR.funcs[F_rostrumref18_Next]? = some Try.f27 := by kernel_rfl
theorem S.rostrumref18_Next.call {R : Value → World → Prop} {v0 v1 : Value} {W : World} (h : S.rostrumref18_Next.body R v0 v1 W) : callK PR F_rostrumref18_Next [v0, v1] R W :=
  callK_of_body (g := F_rostrumref18_Next) (fn := Try.f27) (args := [v0, v1]) (R := R) (w := W) mixed CBok S.rostrumref18_Next.fn S.rostrumref18_Next.hint (by rw [S.rostrumref18_Next.ok]; exact h)
/-! ### rostrum/rostrumlaw19.own (28) -/
def S.rostrumlaw19_own.body (R : Value → World → Prop) (v0 : Value) (W : World) : Prop :=
  efK PR (Instr.box T_ballot_Ballot v0) (fun v1 W =>
  efK PR (Instr.alloc T_rostrumref18_Ballot true (.tuple #[])) (fun v2 W =>
  okF (addrF 0 v1) fun v3 =>
  rdK PR (Instr.loadAt T_int64 v3) (fun v4 W =>
  okF (addrF 1 v1) fun v5 =>
  rdK PR (Instr.loadAt T_int v5) (fun v6 W =>
  okF (bldP (fun i => ([(0, 1), (1, 1)] : List (Nat × Nat))[i]?) [.int .i64 0, .int .i64 0] [(0, v4), (1, v6)]) fun v7 =>
  efK PR (Instr.storeAt T_rostrumref18_Ballot v2 v7) (fun _ W =>
  rdK PR (Instr.loadAt T_rostrumref18_Ballot v2) (fun r0 W =>
  R r0 W) W) W) W) W) W) W
def S.rostrumlaw19_own.hint : Hint := (.two .nil (.two .nil .nil))
theorem S.rostrumlaw19_own.ok (R : Value → World → Prop) (v0 : Value) (W : World) : bodyK PR CB Try.f28 S.rostrumlaw19_own.hint [v0] R W = S.rostrumlaw19_own.body R v0 W := by kernel_rfl
theorem S.rostrumlaw19_own.fn : PR.funcs[F_rostrumlaw19_own]? = some Try.f28 := by kernel_rfl
theorem S.rostrumlaw19_own.call {R : Value → World → Prop} {v0 : Value} {W : World} (h : S.rostrumlaw19_own.body R v0 W) : callK PR F_rostrumlaw19_own [v0] R W :=
  callK_of_body (g := F_rostrumlaw19_own) (fn := Try.f28) (args := [v0]) (R := R) (w := W) mixed CBok S.rostrumlaw19_own.fn S.rostrumlaw19_own.hint (by rw [S.rostrumlaw19_own.ok]; exact h)
/-! ### rostrum/rostrumref18.GoodBallot (29) -/
def S.rostrumref18_GoodBallot.body (R : Value → World → Prop) (v0 : Value) (W : World) : Prop :=
  efK PR (Instr.box T_rostrumref18_Ballot v0) (fun v1 W =>
  okF (addrF 0 v1) fun v3 =>
  rdK PR (Instr.loadAt T_int64 v3) (fun v4 W =>
  okF (binP .geq v4 (.int .i64 0)) fun v5 =>
  gdK (wantd v5 true) (fun k W => okF (addrF 0 v1) fun v => k v W) (fun v7 W =>
  gdK (wantd v5 true) (fun k W => rdK PR (Instr.loadAt T_int64 v7) k W) (fun v8 W =>
  gdK (wantd v5 true) (fun k W => okF (binP .leq v8 (.int .i64 1099511627776)) fun v => k v W) (fun v9 W =>
  okF (pickP v5 v9 (.bool false)) fun v10 =>
  gdK (wantd v10 true) (fun k W => okF (addrF 1 v1) fun v => k v W) (fun v12 W =>
  gdK (wantd v10 true) (fun k W => rdK PR (Instr.loadAt T_int v12) k W) (fun v13 W =>
  gdK (wantd v10 true) (fun k W => okF (binP .geq v13 (.int .i64 0)) fun v => k v W) (fun v14 W =>
  okF (pickP v10 v14 (.bool false)) fun v15 =>
  gdK (wantd v15 true) (fun k W => okF (addrF 1 v1) fun v => k v W) (fun v17 W =>
  gdK (wantd v15 true) (fun k W => rdK PR (Instr.loadAt T_int v17) k W) (fun v18 W =>
  gdK (wantd v15 true) (fun k W => okF (binP .leq v18 (.int .i64 6)) fun v => k v W) (fun v19 W =>
  okF (pickP v15 v19 (.bool false)) fun v20 =>
  R v20 W) W) W) W) W) W) W) W) W) W) W) W
def S.rostrumref18_GoodBallot.hint : Hint := (.two .nil (.two .nil .nil))
theorem S.rostrumref18_GoodBallot.ok (R : Value → World → Prop) (v0 : Value) (W : World) : bodyK PR CB Try.f29 S.rostrumref18_GoodBallot.hint [v0] R W = S.rostrumref18_GoodBallot.body R v0 W := by kernel_rfl
theorem S.rostrumref18_GoodBallot.fn : PR.funcs[F_rostrumref18_GoodBallot]? = some Try.f29 := by kernel_rfl
theorem S.rostrumref18_GoodBallot.call {R : Value → World → Prop} {v0 : Value} {W : World} (h : S.rostrumref18_GoodBallot.body R v0 W) : callK PR F_rostrumref18_GoodBallot [v0] R W :=
  callK_of_body (g := F_rostrumref18_GoodBallot) (fn := Try.f29) (args := [v0]) (R := R) (w := W) mixed CBok S.rostrumref18_GoodBallot.fn S.rostrumref18_GoodBallot.hint (by rw [S.rostrumref18_GoodBallot.ok]; exact h)
/-! ### rostrum/rostrumref18.GetBallot (30) -/
def S.rostrumref18_GetBallot.body (R : Value → World → Prop) (v0 : Value) (W : World) : Prop :=
  efK PR (Instr.alloc T_rostrumref18_Ballot true (.tuple #[])) (fun v2 W =>
  callK PR F_rostrumref1_Reader_Num [v0, (.int .i64 0), (.int .i64 1099511627776)] (fun v5 W =>
  okF (bldP (fun i => ([(0, 1), (1, 1)] : List (Nat × Nat))[i]?) [.int .i64 0, .int .i64 0] [(0, v5)]) fun v6 =>
  efK PR (Instr.alloc T_rostrumref18_Ballot true (.tuple #[])) (fun v3 W =>
  efK PR (Instr.storeAt T_rostrumref18_Ballot v3 v6) (fun _ W =>
  callK PR F_rostrumref1_Reader_Num [v0, (.int .i64 0), (.int .i64 6)] (fun v8 W =>
  okF (addrF 1 v3) fun v9 =>
  efK PR (Instr.storeAt T_int v9 v8) (fun _ W =>
  okF (nilP v0) fun v11 =>
  okF (addrF 2 v11) fun v12 =>
  rdK PR (Instr.loadAt T_bool v12) (fun v13 W =>
  ifK v13 (
  okF (bldP (fun i => ([(0, 1), (1, 1)] : List (Nat × Nat))[i]?) [.int .i64 0, .int .i64 0] []) fun v14 =>
  efK PR (Instr.storeAt T_rostrumref18_Ballot v2 v14) (fun _ W =>
  rdK PR (Instr.loadAt T_rostrumref18_Ballot v2) (fun r0 W =>
  R r0 W) W) W) (
  rdK PR (Instr.loadAt T_rostrumref18_Ballot v3) (fun v15 W =>
  efK PR (Instr.storeAt T_rostrumref18_Ballot v2 v15) (fun _ W =>
  rdK PR (Instr.loadAt T_rostrumref18_Ballot v2) (fun r0 W =>
  R r0 W) W) W) W)) W) W) W) W) W) W) W
def S.rostrumref18_GetBallot.hint : Hint := (.two .nil (.two .nil (.two .nil (.two (.two .nil (.two (.two .nil .nil) .nil)) (.two .nil .nil)))))
theorem S.rostrumref18_GetBallot.ok (R : Value → World → Prop) (v0 : Value) (W : World) : bodyK PR CB Try.f30 S.rostrumref18_GetBallot.hint [v0] R W = S.rostrumref18_GetBallot.body R v0 W := by kernel_rfl
theorem S.rostrumref18_GetBallot.fn : PR.funcs[F_rostrumref18_GetBallot]? = some Try.f30 := by kernel_rfl
theorem S.rostrumref18_GetBallot.call {R : Value → World → Prop} {v0 : Value} {W : World} (h : S.rostrumref18_GetBallot.body R v0 W) : callK PR F_rostrumref18_GetBallot [v0] R W :=
  callK_of_body (g := F_rostrumref18_GetBallot) (fn := Try.f30) (args := [v0]) (R := R) (w := W) mixed CBok S.rostrumref18_GetBallot.fn S.rostrumref18_GetBallot.hint (by rw [S.rostrumref18_GetBallot.ok]; exact h)
/-! ### (*rostrum/pack.Reader).Bad (31) -/
def S.pack_Reader_Bad.body (R : Value → World → Prop) (v0 : Value) (W : World) : Prop :=
  okF (nilP v0) fun v4 =>
  okF (addrF 1 v4) fun v5 =>
  rdK PR (Instr.loadAt T_bool v5) (fun v6 W =>
  R v6 W) W
def S.pack_Reader_Bad.hint : Hint := (.two .nil (.two .nil .nil))
theorem S.pack_Reader_Bad.ok (R : Value → World → Prop) (v0 : Value) (W : World) : bodyK PR CB Try.f31 S.pack_Reader_Bad.hint [v0] R W = S.pack_Reader_Bad.body R v0 W := by kernel_rfl
theorem S.pack_Reader_Bad.fn : PR.funcs[F_pack_Reader_Bad]? = some Try.f31 := by kernel_rfl
theorem S.pack_Reader_Bad.call {R : Value → World → Prop} {v0 : Value} {W : World} (h : S.pack_Reader_Bad.body R v0 W) : callK PR F_pack_Reader_Bad [v0] R W :=
  callK_of_body (g := F_pack_Reader_Bad) (fn := Try.f31) (args := [v0]) (R := R) (w := W) mixed CBok S.pack_Reader_Bad.fn S.pack_Reader_Bad.hint (by rw [S.pack_Reader_Bad.ok]; exact h)
/-! ### rostrum/rostrumref18.PutBallot (32) -/
def S.rostrumref18_PutBallot.body (R : Value → World → Prop) (v0 v1 : Value) (W : World) : Prop :=
  efK PR (Instr.box T_rostrumref18_Ballot v1) (fun v3 W =>
  okF (addrF 0 v3) fun v6 =>
  rdK PR (Instr.loadAt T_int64 v6) (fun v7 W =>
  okF (addrF 1 v3) fun v9 =>
  rdK PR (Instr.loadAt T_int v9) (fun v10 W =>
  callK PR F_rostrumref1_Num [v0, v7] (fun v8 W =>
  stb PR [(5, true, (Instr.loadAt T_int v9), v10)] (fun W =>
  callK PR F_rostrumref1_Num [v8, v10] (fun v11 W =>
  R v11 W) W) W) W) W) (tick W)) W
def S.rostrumref18_PutBallot.hint : Hint := (.two .nil (.two .nil .nil))
theorem S.rostrumref18_PutBallot.ok (R : Value → World → Prop) (v0 v1 : Value) (W : World) : bodyK PR CB Try.f32 S.rostrumref18_PutBallot.hint [v0, v1] R W = S.rostrumref18_PutBallot.body R v0 v1 W := by kernel_rfl
theorem S.rostrumref18_PutBallot.fn : PR.funcs[F_rostrumref18_PutBallot]? = some Try.f32 := by kernel_rfl
theorem S.rostrumref18_PutBallot.call {R : Value → World → Prop} {v0 v1 : Value} {W : World} (h : S.rostrumref18_PutBallot.body R v0 v1 W) : callK PR F_rostrumref18_PutBallot [v0, v1] R W :=
  callK_of_body (g := F_rostrumref18_PutBallot) (fn := Try.f32) (args := [v0, v1]) (R := R) (w := W) mixed CBok S.rostrumref18_PutBallot.fn S.rostrumref18_PutBallot.hint (by rw [S.rostrumref18_PutBallot.ok]; exact h)
/-! ### rostrum/rostrumref18.Cmp (33) -/
def S.rostrumref18_Cmp.body (R : Value → World → Prop) (v0 v1 : Value) (W : World) : Prop :=
  efK PR (Instr.box T_rostrumref18_Ballot v0) (fun v2 W =>
  efK PR (Instr.box T_rostrumref18_Ballot v1) (fun v3 W =>
  rdK PR (Instr.loadAt T_rostrumref18_Ballot v2) (fun v5 W =>
  rdK PR (Instr.loadAt T_rostrumref18_Ballot v3) (fun v6 W =>
  rdK PR (aggEq .eql T_rostrumref18_Ballot v5 v6) (fun v7 W =>
  ifK v7 (
  R (.int .i64 0) W) (
  okF (addrF 0 v2) fun v8 =>
  rdK PR (Instr.loadAt T_int64 v8) (fun v9 W =>
  okF (addrF 0 v3) fun v10 =>
  rdK PR (Instr.loadAt T_int64 v10) (fun v11 W =>
  okF (binP .lss v9 v11) fun v12 =>
  gdK (wantd v12 false) (fun k W => okF (addrF 0 v2) fun v => k v W) (fun v14 W =>
  gdK (wantd v12 false) (fun k W => rdK PR (Instr.loadAt T_int64 v14) k W) (fun v15 W =>
  gdK (wantd v12 false) (fun k W => okF (addrF 0 v3) fun v => k v W) (fun v16 W =>
  gdK (wantd v12 false) (fun k W => rdK PR (Instr.loadAt T_int64 v16) k W) (fun v17 W =>
  gdK (wantd v12 false) (fun k W => okF (binP .eql v15 v17) fun v => k v W) (fun v18 W =>
  gdK (wantd v12 false) (fun k W => k v18 W) (fun v19 W =>
  gdK (wantd v19 true) (fun k W => okF (addrF 1 v2) fun v => k v W) (fun v20 W =>
  gdK (wantd v19 true) (fun k W => rdK PR (Instr.loadAt T_int v20) k W) (fun v21 W =>
  gdK (wantd v19 true) (fun k W => okF (addrF 1 v3) fun v => k v W) (fun v22 W =>
  gdK (wantd v19 true) (fun k W => rdK PR (Instr.loadAt T_int v22) k W) (fun v23 W =>
  gdK (wantd v19 true) (fun k W => okF (binP .lss v21 v23) fun v => k v W) (fun v24 W =>
  gdK (wantd v12 false) (fun k W => okF (pickP v19 v24 (.bool false)) fun v => k v W) (fun v25 W =>
  okF (pickP v12 (.bool true) v25) fun v26 =>
  ifK v26 (
  R (.int .i64 (-1)) W) (
  R (.int .i64 1) W)) W) W) W) W) W) W) W) W) W) W) W) W) W) W)) W) W) W) W) W
def S.rostrumref18_Cmp.hint : Hint := (.two .nil (.two (.two .nil (.two (.two .nil .nil) .nil)) (.two (.two .nil (.two (.two .nil .nil) .nil)) (.two .nil .nil))))
theorem S.rostrumref18_Cmp.ok (R : Value → World → Prop) (v0 v1 : Value) (W : World) : bodyK PR CB Try.f33 S.rostrumref18_Cmp.hint [v0, v1] R W = S.rostrumref18_Cmp.body R v0 v1 W := by kernel_rfl
theorem S.rostrumref18_Cmp.fn : PR.funcs[F_rostrumref18_Cmp]? = some Try.f33 := by kernel_rfl
theorem S.rostrumref18_Cmp.call {R : Value → World → Prop} {v0 v1 : Value} {W : World} (h : S.rostrumref18_Cmp.body R v0 v1 W) : callK PR F_rostrumref18_Cmp [v0, v1] R W :=
  callK_of_body (g := F_rostrumref18_Cmp) (fn := Try.f33) (args := [v0, v1]) (R := R) (w := W) mixed CBok S.rostrumref18_Cmp.fn S.rostrumref18_Cmp.hint (by rw [S.rostrumref18_Cmp.ok]; exact h)
/-! ### rostrum/last.Get (34) -/
def S.last_Get.j1 (R : Value → World → Prop) (x0 x3 : Value) (W : World) : Prop :=
  callK PR F_pack_Reader_Bad [x0] (fun v34 W =>
  ifK v34 (
  R (.pointer none) W) (
  R x3 W)) W
def S.last_Get.body (R : Value → World → Prop) (v0 : Value) (W : World) : Prop :=
  callK PR F_last_New [] (fun v4 W =>
  joinK (fun s W => S.last_Get.j1 R (nthv s 0) (nthv s 1) W) (fun J1 =>
  callK PR F_pack_Reader_Num [v0, (.int .i64 0), (.int .i64 1)] (fun v6 W =>
  okF (binP .eql v6 (.int .i64 1)) fun v7 =>
  ifK v7 (
  okF (nilP v4) fun v9 =>
  okF (addrF 0 v9) fun v10 =>
  efK PR (Instr.storeAt T_bool v10 (.bool true)) (fun _ W =>
  callK PR F_pack_Reader_Num [v0, (.int .i64 0), (.int .i64 1099511627776)] (fun v13 W =>
  okF (nilP v4) fun v14 =>
  okF (addrF 2 v14) fun v15 =>
  efK PR (Instr.storeAt T_int64 v15 v13) (fun _ W =>
  callK PR F_pack_Reader_Num [v0, (.int .i64 0), (.int .i64 6)] (fun v18 W =>
  okF (nilP v4) fun v19 =>
  okF (addrF 3 v19) fun v20 =>
  okF (addrF 0 v20) fun v21 =>
  efK PR (Instr.storeAt T_int v21 v18) (fun _ W =>
  callK PR F_pack_Reader_Num [v0, (.int .i64 1), (.int .i64 1099511627776)] (fun v24 W =>
  okF (nilP v4) fun v25 =>
  okF (addrF 3 v25) fun v26 =>
  okF (addrF 1 v26) fun v27 =>
  efK PR (Instr.storeAt T_int64 v27 v24) (fun _ W =>
  callK PR F_pack_Reader_Text [v0, (.int .i64 100)] (fun v30 W =>
  okF (nilP v4) fun v31 =>
  okF (addrF 1 v31) fun v32 =>
  efK PR (Instr.storeAt T_string v32 v30) (fun _ W =>
  J1 [v0, v4] W) W) W) W) W) W) W) W) W) W) (
  J1 [v0, v4] W)) W)) W
def S.last_Get.hint : Hint := (.two .nil (.two .nil (.at [0, 3] (.two .nil (.two (.two .nil (.two .nil (.two .nil (.two .nil .nil)))) .nil)) (.two (.two .nil (.two (.two .nil .nil) .nil)) (.two .nil .nil)))))
theorem S.last_Get.ok (R : Value → World → Prop) (v0 : Value) (W : World) : bodyK PR CB Try.f34 S.last_Get.hint [v0] R W = S.last_Get.body R v0 W := by kernel_rfl
theorem S.last_Get.fn : PR.funcs[F_last_Get]? = some Try.f34 := by kernel_rfl
theorem S.last_Get.call {R : Value → World → Prop} {v0 : Value} {W : World} (h : S.last_Get.body R v0 W) : callK PR F_last_Get [v0] R W :=
  callK_of_body (g := F_last_Get) (fn := Try.f34) (args := [v0]) (R := R) (w := W) mixed CBok S.last_Get.fn S.last_Get.hint (by rw [S.last_Get.ok]; exact h)
/-! ### (*rostrum/last.Last).Put (35) -/
def S.last_Last_Put.body (R : Value → World → Prop) (v0 v1 : Value) (W : World) : Prop :=
  okF (nilP v0) fun v6 =>
  okF (addrF 0 v6) fun v7 =>
  rdK PR (Instr.loadAt T_bool v7) (fun v8 W =>
  okF (unP .not v8) fun v9 =>
  ifK v9 (
  callK PR F_pack_Num [v1, (.int .i64 0)] (fun v11 W =>
  R v11 W) W) (
  okF (nilP v0) fun v15 =>
  okF (addrF 2 v15) fun v16 =>
  rdK PR (Instr.loadAt T_int64 v16) (fun v17 W =>
  callK PR F_pack_Num [v1, (.int .i64 1)] (fun v13 W =>
  stb PR [(5, true, (Instr.loadAt T_int64 v16), v17)] (fun W =>
  callK PR F_pack_Num [v13, v17] (fun v18 W =>
  okF (nilP v0) fun v21 =>
  okF (addrF 3 v21) fun v22 =>
  okF (addrF 0 v22) fun v23 =>
  rdK PR (Instr.loadAt T_int v23) (fun v24 W =>
  okF (nilP v0) fun v27 =>
  okF (addrF 3 v27) fun v28 =>
  okF (addrF 1 v28) fun v29 =>
  rdK PR (Instr.loadAt T_int64 v29) (fun v30 W =>
  okF (nilP v0) fun v33 =>
  okF (addrF 1 v33) fun v34 =>
  rdK PR (Instr.loadAt T_string v34) (fun v35 W =>
  callK PR F_pack_Num [v18, v24] (fun v25 W =>
  stb PR [(16, true, (Instr.loadAt T_string v34), v35), (11, true, (Instr.loadAt T_int64 v29), v30)] (fun W =>
  callK PR F_pack_Num [v25, v30] (fun v31 W =>
  stb PR [(16, true, (Instr.loadAt T_string v34), v35)] (fun W =>
  callK PR F_pack_Text [v31, v35] (fun v36 W =>
  R v36 W) W) W) W) W) W) W) W) (tick W)) W) W) W) (tick W))) W
def S.last_Last_Put.hint : Hint := (.two .nil (.two (.two .nil (.two (.two .nil .nil) .nil)) (.two .nil (.two .nil .nil))))
theorem S.last_Last_Put.ok (R : Value → World → Prop) (v0 v1 : Value) (W : World) : bodyK PR CB Try.f35 S.last_Last_Put.hint [v0, v1] R W = S.last_Last_Put.body R v0 v1 W := by kernel_rfl
theorem S.last_Last_Put.fn : PR.funcs[F_last_Last_Put]? = some Try.f35 := by kernel_rfl
theorem S.last_Last_Put.call {R : Value → World → Prop} {v0 v1 : Value} {W : World} (h : S.last_Last_Put.body R v0 v1 W) : callK PR F_last_Last_Put [v0, v1] R W :=
  callK_of_body (g := F_last_Last_Put) (fn := Try.f35) (args := [v0, v1]) (R := R) (w := W) mixed CBok S.last_Last_Put.fn S.last_Last_Put.hint (by rw [S.last_Last_Put.ok]; exact h)
/-! ### (*rostrum/rostrumref7.Last).Write (36) -/
def S.rostrumref7_Last_Write.body (R : Value → World → Prop) (v0 v1 v2 v3 : Value) (W : World) : Prop :=
  efK PR (Instr.box T_api_Dot v3) (fun v7 W =>
  okF (lenP .string v1) fun v11 =>
  okF (binP .gtr v11 (.int .i64 100)) fun v12 =>
  gdK (wantd v12 false) (fun k W => k v2 W) (fun v14 W =>
  gdK (wantd v12 false) (fun k W => okF (binP .lss v14 (.int .i64 0)) fun v => k v W) (fun v15 W =>
  okF (pickP v12 (.bool true) v15) fun v16 =>
  gdK (wantd v16 false) (fun k W => k v2 W) (fun v18 W =>
  gdK (wantd v16 false) (fun k W => okF (binP .gtr v18 (.int .i64 1099511627776)) fun v => k v W) (fun v19 W =>
  okF (pickP v16 (.bool true) v19) fun v20 =>
  gdK (wantd v20 false) (fun k W => rdK PR (Instr.loadAt T_api_Dot v7) k W) (fun v22 W =>
  gdK (wantd v20 false) (fun k W => callK PR F_rostrumref7_May [v22] k W) (fun v23 W =>
  gdK (wantd v20 false) (fun k W => okF (unP .not v23) fun v => k v W) (fun v24 W =>
  okF (pickP v20 (.bool true) v24) fun v25 =>
  ifK v25 (
  R (.tuple #[(.bool false), (.int .i64 1)]) W) (
  okF (nilP v0) fun v27 =>
  okF (addrF 0 v27) fun v28 =>
  rdK PR (Instr.loadAt T_bool v28) (fun v29 W =>
  gdK (wantd v29 true) (fun k W => k v0 W) (fun v31 W =>
  gdK (wantd v29 true) (fun k W => okF (nilP v31) fun v => k v W) (fun v32 W =>
  gdK (wantd v29 true) (fun k W => okF (addrF 2 v32) fun v => k v W) (fun v33 W =>
  gdK (wantd v29 true) (fun k W => rdK PR (Instr.loadAt T_int64 v33) k W) (fun v34 W =>
  gdK (wantd v29 true) (fun k W => k v2 W) (fun v35 W =>
  gdK (wantd v29 true) (fun k W => okF (binP .eql v34 v35) fun v => k v W) (fun v36 W =>
  okF (pickP v29 v36 (.bool false)) fun v37 =>
  gdK (wantd v37 true) (fun k W => k v0 W) (fun v39 W =>
  gdK (wantd v37 true) (fun k W => okF (nilP v39) fun v => k v W) (fun v40 W =>
  gdK (wantd v37 true) (fun k W => okF (addrF 3 v40) fun v => k v W) (fun v41 W =>
  gdK (wantd v37 true) (fun k W => rdK PR (Instr.loadAt T_api_Dot v41) k W) (fun v42 W =>
  gdK (wantd v37 true) (fun k W => rdK PR (Instr.loadAt T_api_Dot v7) k W) (fun v43 W =>
  gdK (wantd v37 true) (fun k W => rdK PR (aggEq .eql T_api_Dot v42 v43) k W) (fun v44 W =>
  okF (pickP v37 v44 (.bool false)) fun v45 =>
  gdK (wantd v45 true) (fun k W => k v0 W) (fun v47 W =>
  gdK (wantd v45 true) (fun k W => okF (nilP v47) fun v => k v W) (fun v48 W =>
  gdK (wantd v45 true) (fun k W => okF (addrF 1 v48) fun v => k v W) (fun v49 W =>
  gdK (wantd v45 true) (fun k W => rdK PR (Instr.loadAt T_string v49) k W) (fun v50 W =>
  gdK (wantd v45 true) (fun k W => k v1 W) (fun v51 W =>
  gdK (wantd v45 true) (fun k W => okF (binP .neq v50 v51) fun v => k v W) (fun v52 W =>
  okF (pickP v45 v52 (.bool false)) fun v53 =>
  ifK v53 (
  R (.tuple #[(.bool false), (.int .i64 5)]) W) (
  okF (nilP v0) fun v55 =>
  okF (addrF 0 v55) fun v56 =>
  rdK PR (Instr.loadAt T_bool v56) (fun v57 W =>
  gdK (wantd v57 true) (fun k W => k v2 W) (fun v59 W =>
  gdK (wantd v57 true) (fun k W => k v0 W) (fun v60 W =>
  gdK (wantd v57 true) (fun k W => okF (nilP v60) fun v => k v W) (fun v61 W =>
  gdK (wantd v57 true) (fun k W => okF (addrF 2 v61) fun v => k v W) (fun v62 W =>
  gdK (wantd v57 true) (fun k W => rdK PR (Instr.loadAt T_int64 v62) k W) (fun v63 W =>
  gdK (wantd v57 true) (fun k W => okF (binP .lss v59 v63) fun v => k v W) (fun v64 W =>
  gdK (wantd v57 true) (fun k W => k v64 W) (fun v65 W =>
  gdK (wantd v65 false) (fun k W => k v2 W) (fun v66 W =>
  gdK (wantd v65 false) (fun k W => k v0 W) (fun v67 W =>
  gdK (wantd v65 false) (fun k W => okF (nilP v67) fun v => k v W) (fun v68 W =>
  gdK (wantd v65 false) (fun k W => okF (addrF 2 v68) fun v => k v W) (fun v69 W =>
  gdK (wantd v65 false) (fun k W => rdK PR (Instr.loadAt T_int64 v69) k W) (fun v70 W =>
  gdK (wantd v65 false) (fun k W => okF (binP .eql v66 v70) fun v => k v W) (fun v71 W =>
  gdK (wantd v65 false) (fun k W => k v71 W) (fun v72 W =>
  gdK (wantd v72 true) (fun k W => k v0 W) (fun v73 W =>
  gdK (wantd v72 true) (fun k W => okF (nilP v73) fun v => k v W) (fun v74 W =>
  gdK (wantd v72 true) (fun k W => okF (addrF 3 v74) fun v => k v W) (fun v75 W =>
  gdK (wantd v72 true) (fun k W => rdK PR (Instr.loadAt T_api_Dot v75) k W) (fun v76 W =>
  gdK (wantd v72 true) (fun k W => rdK PR (Instr.loadAt T_api_Dot v7) k W) (fun v77 W =>
  gdK (wantd v72 true) (fun k W => callK PR F_rostrumref7_Less [v76, v77] k W) (fun v78 W =>
  gdK (wantd v72 true) (fun k W => okF (unP .not v78) fun v => k v W) (fun v79 W =>
  gdK (wantd v65 false) (fun k W => okF (pickP v72 v79 (.bool false)) fun v => k v W) (fun v80 W =>
  gdK (wantd v57 true) (fun k W => okF (pickP v65 (.bool true) v80) fun v => k v W) (fun v81 W =>
  okF (pickP v57 v81 (.bool false)) fun v82 =>
  ifK v82 (
  R (.tuple #[(.bool false), (.int .i64 0)]) W) (
  rdK PR (Instr.loadAt T_api_Dot v7) (fun v86 W =>
  okF (bldP (fun i => ([(0, 1), (1, 1), (2, 1), (3, 2)] : List (Nat × Nat))[i]?) [.bool false, .string ⟨#[]⟩, .int .i64 0, .int .i64 0, .int .i64 0] [(0, (.bool true)), (1, v1), (2, v2), (3, v86)]) fun v87 =>
  okF (nilP v0) fun v88 =>
  efK PR (Instr.storeAt T_rostrumref7_Last v88 v87) (fun _ W =>
  R (.tuple #[(.bool true), (.int .i64 0)]) W) W) W)) W) W) W) W) W) W) W) W) W) W) W) W) W) W) W) W) W) W) W) W) W) W) W) (tick W))) W) W) W) W) W) W) W) W) W) W) W) W) W) W) W) W) W) W) (tick W))) W) W) W) W) W) W) W) W
def S.rostrumref7_Last_Write.hint : Hint := (.two .nil (.two (.two .nil (.two (.two .nil .nil) .nil)) (.two (.two .nil (.two (.two .nil .nil) .nil)) (.two (.two .nil (.two (.two .nil .nil) .nil)) (.two .nil (.two .nil .nil))))))
theorem S.rostrumref7_Last_Write.ok (R : Value → World → Prop) (v0 v1 v2 v3 : Value) (W : World) : bodyK PR CB Try.f36 S.rostrumref7_Last_Write.hint [v0, v1, v2, v3] R W = S.rostrumref7_Last_Write.body R v0 v1 v2 v3 W := by kernel_rfl
theorem S.rostrumref7_Last_Write.fn : PR.funcs[F_rostrumref7_Last_Write]? = some Try.f36 := by kernel_rfl
theorem S.rostrumref7_Last_Write.call {R : Value → World → Prop} {v0 v1 v2 v3 : Value} {W : World} (h : S.rostrumref7_Last_Write.body R v0 v1 v2 v3 W) : callK PR F_rostrumref7_Last_Write [v0, v1, v2, v3] R W :=
  callK_of_body (g := F_rostrumref7_Last_Write) (fn := Try.f36) (args := [v0, v1, v2, v3]) (R := R) (w := W) mixed CBok S.rostrumref7_Last_Write.fn S.rostrumref7_Last_Write.hint (by rw [S.rostrumref7_Last_Write.ok]; exact h)
/-! ### (*rostrum/rostrumref7.Last).Put (37) -/
def S.rostrumref7_Last_Put.body (R : Value → World → Prop) (v0 v1 : Value) (W : World) : Prop :=
  okF (nilP v0) fun v6 =>
  okF (addrF 0 v6) fun v7 =>
  rdK PR (Instr.loadAt T_bool v7) (fun v8 W =>
  okF (unP .not v8) fun v9 =>
  ifK v9 (
  callK PR F_rostrumref1_Num [v1, (.int .i64 0)] (fun v11 W =>
  R v11 W) W) (
  okF (nilP v0) fun v15 =>
  okF (addrF 2 v15) fun v16 =>
  rdK PR (Instr.loadAt T_int64 v16) (fun v17 W =>
  okF (nilP v0) fun v20 =>
  okF (addrF 3 v20) fun v21 =>
  okF (addrF 0 v21) fun v22 =>
  rdK PR (Instr.loadAt T_int v22) (fun v23 W =>
  callK PR F_rostrumref1_Num [v1, (.int .i64 1)] (fun v13 W =>
  stb PR [(11, true, (Instr.loadAt T_int v22), v23), (5, true, (Instr.loadAt T_int64 v16), v17)] (fun W =>
  callK PR F_rostrumref1_Num [v13, v17] (fun v18 W =>
  stb PR [(11, true, (Instr.loadAt T_int v22), v23)] (fun W =>
  callK PR F_rostrumref1_Num [v18, v23] (fun v24 W =>
  okF (nilP v0) fun v27 =>
  okF (addrF 3 v27) fun v28 =>
  okF (addrF 1 v28) fun v29 =>
  rdK PR (Instr.loadAt T_int64 v29) (fun v30 W =>
  okF (nilP v0) fun v33 =>
  okF (addrF 1 v33) fun v34 =>
  rdK PR (Instr.loadAt T_string v34) (fun v35 W =>
  (callK PR F_rostrumref1_Num [v24, v30] (fun v31 W =>
  stb PR [(10, true, (Instr.loadAt T_string v34), v35)] (fun W =>
  efK PR (convert T_string T_s_uint8 v35) (fun v36 W =>
  callK PR F_rostrumref1_Bytes [v31, v36] (fun v37 W =>
  R v37 W) W) W) W) W) ∧ (efK PR (convert T_string T_s_uint8 v35) (fun v36_1 W =>
  stb PR [(5, true, (Instr.loadAt T_int64 v29), v30)] (fun W =>
  callK PR F_rostrumref1_Num [v24, v30] (fun v31_1 W =>
  callK PR F_rostrumref1_Bytes [v31_1, v36_1] (fun v37_1 W =>
  R v37_1 W) W) W) W) W)) W) (tick W)) W) W) W) W) W) W) (tick W))) W
def S.rostrumref7_Last_Put.hint : Hint := (.two .nil (.two (.two .nil (.two (.two .nil .nil) .nil)) (.two .nil (.two .nil .nil))))
theorem S.rostrumref7_Last_Put.ok (R : Value → World → Prop) (v0 v1 : Value) (W : World) : bodyK PR CB Try.f37 S.rostrumref7_Last_Put.hint [v0, v1] R W = S.rostrumref7_Last_Put.body R v0 v1 W := by kernel_rfl
theorem S.rostrumref7_Last_Put.fn : PR.funcs[F_rostrumref7_Last_Put]? = some Try.f37 := by kernel_rfl
theorem S.rostrumref7_Last_Put.call {R : Value → World → Prop} {v0 v1 : Value} {W : World} (h : S.rostrumref7_Last_Put.body R v0 v1 W) : callK PR F_rostrumref7_Last_Put [v0, v1] R W :=
  callK_of_body (g := F_rostrumref7_Last_Put) (fn := Try.f37) (args := [v0, v1]) (R := R) (w := W) mixed CBok S.rostrumref7_Last_Put.fn S.rostrumref7_Last_Put.hint (by rw [S.rostrumref7_Last_Put.ok]; exact h)
/-! ### rostrum/rostrumref7.GetLast (38) -/
def S.rostrumref7_GetLast.j1 (R : Value → World → Prop) (x0 x3 : Value) (W : World) : Prop :=
  okF (nilP x0) fun v36 =>
  okF (addrF 2 v36) fun v37 =>
  rdK PR (Instr.loadAt T_bool v37) (fun v38 W =>
  ifK v38 (
  R (.pointer none) W) (
  R x3 W)) W
def S.rostrumref7_GetLast.body (R : Value → World → Prop) (v0 : Value) (W : World) : Prop :=
  okF (bldP (fun i => ([(0, 1), (1, 1), (2, 1), (3, 2)] : List (Nat × Nat))[i]?) [.bool false, .string ⟨#[]⟩, .int .i64 0, .int .i64 0, .int .i64 0] []) fun v4 =>
  efK PR (Instr.box T_rostrumref7_Last v4) (fun v5 W =>
  joinK (fun s W => S.rostrumref7_GetLast.j1 R (nthv s 0) (nthv s 1) W) (fun J1 =>
  callK PR F_rostrumref1_Reader_Num [v0, (.int .i64 0), (.int .i64 1)] (fun v7 W =>
  okF (binP .eql v7 (.int .i64 1)) fun v8 =>
  ifK v8 (
  okF (nilP v5) fun v10 =>
  okF (addrF 0 v10) fun v11 =>
  efK PR (Instr.storeAt T_bool v11 (.bool true)) (fun _ W =>
  callK PR F_rostrumref1_Reader_Num [v0, (.int .i64 0), (.int .i64 1099511627776)] (fun v14 W =>
  okF (nilP v5) fun v15 =>
  okF (addrF 2 v15) fun v16 =>
  efK PR (Instr.storeAt T_int64 v16 v14) (fun _ W =>
  callK PR F_rostrumref1_Reader_Num [v0, (.int .i64 0), (.int .i64 6)] (fun v19 W =>
  okF (nilP v5) fun v20 =>
  okF (addrF 3 v20) fun v21 =>
  okF (addrF 0 v21) fun v22 =>
  efK PR (Instr.storeAt T_int v22 v19) (fun _ W =>
  callK PR F_rostrumref1_Reader_Num [v0, (.int .i64 1), (.int .i64 1099511627776)] (fun v25 W =>
  okF (nilP v5) fun v26 =>
  okF (addrF 3 v26) fun v27 =>
  okF (addrF 1 v27) fun v28 =>
  efK PR (Instr.storeAt T_int64 v28 v25) (fun _ W =>
  callK PR F_rostrumref1_Reader_Bytes [v0, (.int .i64 100)] (fun v31 W =>
  rdK PR (convert T_s_uint8 T_string v31) (fun v32 W =>
  okF (nilP v5) fun v33 =>
  okF (addrF 1 v33) fun v34 =>
  efK PR (Instr.storeAt T_string v34 v32) (fun _ W =>
  J1 [v0, v5] W) W) W) W) W) W) W) W) W) W) W) (
  J1 [v0, v5] W)) W)) W
def S.rostrumref7_GetLast.hint : Hint := (.two .nil (.two .nil (.at [0, 3] (.two .nil (.two (.two .nil (.two .nil (.two .nil (.two .nil .nil)))) .nil)) (.two (.two .nil (.two (.two .nil .nil) .nil)) (.two .nil .nil)))))
theorem S.rostrumref7_GetLast.ok (R : Value → World → Prop) (v0 : Value) (W : World) : bodyK PR CB Try.f38 S.rostrumref7_GetLast.hint [v0] R W = S.rostrumref7_GetLast.body R v0 W := by kernel_rfl
theorem S.rostrumref7_GetLast.fn : PR.funcs[F_rostrumref7_GetLast]? = some Try.f38 := by kernel_rfl
theorem S.rostrumref7_GetLast.call {R : Value → World → Prop} {v0 : Value} {W : World} (h : S.rostrumref7_GetLast.body R v0 W) : callK PR F_rostrumref7_GetLast [v0] R W :=
  callK_of_body (g := F_rostrumref7_GetLast) (fn := Try.f38) (args := [v0]) (R := R) (w := W) mixed CBok S.rostrumref7_GetLast.fn S.rostrumref7_GetLast.hint (by rw [S.rostrumref7_GetLast.ok]; exact h)
/-! ### (*rostrum/rostrumref1.Reader).End (39) -/
def S.rostrumref1_Reader_End.body (R : Value → World → Prop) (v0 : Value) (W : World) : Prop :=
  okF (nilP v0) fun v4 =>
  okF (addrF 2 v4) fun v5 =>
  rdK PR (Instr.loadAt T_bool v5) (fun v6 W =>
  okF (unP .not v6) fun v7 =>
  gdK (wantd v7 true) (fun k W => k v0 W) (fun v9 W =>
  gdK (wantd v7 true) (fun k W => okF (nilP v9) fun v => k v W) (fun v10 W =>
  gdK (wantd v7 true) (fun k W => okF (addrF 1 v10) fun v => k v W) (fun v11 W =>
  gdK (wantd v7 true) (fun k W => rdK PR (Instr.loadAt T_int v11) k W) (fun v12 W =>
  gdK (wantd v7 true) (fun k W => k v0 W) (fun v13 W =>
  gdK (wantd v7 true) (fun k W => okF (nilP v13) fun v => k v W) (fun v14 W =>
  gdK (wantd v7 true) (fun k W => okF (addrF 0 v14) fun v => k v W) (fun v15 W =>
  gdK (wantd v7 true) (fun k W => rdK PR (Instr.loadAt T_s_uint8 v15) k W) (fun v16 W =>
  gdK (wantd v7 true) (fun k W => okF (lenP (.slice T_uint8) v16) fun v => k v W) (fun v17 W =>
  gdK (wantd v7 true) (fun k W => okF (binP .eql v12 v17) fun v => k v W) (fun v18 W =>
  okF (pickP v7 v18 (.bool false)) fun v19 =>
  R v19 W) W) W) W) W) W) W) W) W) W) W) (tick W)
def S.rostrumref1_Reader_End.hint : Hint := (.two .nil (.two .nil .nil))
theorem S.rostrumref1_Reader_End.ok (R : Value → World → Prop) (v0 : Value) (W : World) : bodyK PR CB Try.f39 S.rostrumref1_Reader_End.hint [v0] R W = S.rostrumref1_Reader_End.body R v0 W := by kernel_rfl
theorem S.rostrumref1_Reader_End.fn : PR.funcs[F_rostrumref1_Reader_End]? = some Try.f39 := by kernel_rfl
theorem S.rostrumref1_Reader_End.call {R : Value → World → Prop} {v0 : Value} {W : World} (h : S.rostrumref1_Reader_End.body R v0 W) : callK PR F_rostrumref1_Reader_End [v0] R W :=
  callK_of_body (g := F_rostrumref1_Reader_End) (fn := Try.f39) (args := [v0]) (R := R) (w := W) mixed CBok S.rostrumref1_Reader_End.fn S.rostrumref1_Reader_End.hint (by rw [S.rostrumref1_Reader_End.ok]; exact h)
/-! ### rostrum/vec.Dot (40) -/
def S.vec_Dot.body (R : Value → World → Prop) (v0 : Value) (W : World) : Prop :=
  efK PR (Instr.box T_api_Dot v0) (fun v1 W =>
  okF (addrF 0 v1) fun v3 =>
  rdK PR (Instr.loadAt T_int v3) (fun v4 W =>
  callK PR F_vec_Rep [v4] (fun v5 W =>
  gdK (wantd v5 true) (fun k W => okF (addrF 1 v1) fun v => k v W) (fun v7 W =>
  gdK (wantd v5 true) (fun k W => rdK PR (Instr.loadAt T_int64 v7) k W) (fun v8 W =>
  gdK (wantd v5 true) (fun k W => okF (binP .geq v8 (.int .i64 1)) fun v => k v W) (fun v9 W =>
  okF (pickP v5 v9 (.bool false)) fun v10 =>
  gdK (wantd v10 true) (fun k W => okF (addrF 1 v1) fun v => k v W) (fun v12 W =>
  gdK (wantd v10 true) (fun k W => rdK PR (Instr.loadAt T_int64 v12) k W) (fun v13 W =>
  gdK (wantd v10 true) (fun k W => okF (binP .leq v13 (.int .i64 1099511627776)) fun v => k v W) (fun v14 W =>
  okF (pickP v10 v14 (.bool false)) fun v15 =>
  R v15 W) W) W) W) W) W) W) W) W) W
def S.vec_Dot.hint : Hint := (.two .nil (.two .nil .nil))
theorem S.vec_Dot.ok (R : Value → World → Prop) (v0 : Value) (W : World) : bodyK PR CB Try.f40 S.vec_Dot.hint [v0] R W = S.vec_Dot.body R v0 W := by kernel_rfl
theorem S.vec_Dot.fn : PR.funcs[F_vec_Dot]? = some Try.f40 := by kernel_rfl
theorem S.vec_Dot.call {R : Value → World → Prop} {v0 : Value} {W : World} (h : S.vec_Dot.body R v0 W) : callK PR F_vec_Dot [v0] R W :=
  callK_of_body (g := F_vec_Dot) (fn := Try.f40) (args := [v0]) (R := R) (w := W) mixed CBok S.vec_Dot.fn S.vec_Dot.hint (by rw [S.vec_Dot.ok]; exact h)
/-! ### cmp.Or[int] (41) -/
def S.cmp_Or_int.j1 (R : Value → World → Prop) (x3 : Value) (W : World) : Prop :=
  R x3 W
def S.cmp_Or_int.l1 (R : Value → World → Prop) (J1 : List Value → World → Prop) (K1 : List Value → World → Prop) (x3 x6 x7 x8 : Value) (W : World) : Prop :=
  okF (binP .lss x8 x7) fun v9 =>
  ifK v9 (
  okF (idxS 1 x6 x8) fun v10 =>
  rdK PR (Instr.loadAt T_int v10) (fun v11 W =>
  okF (binP .neq v11 x3) fun v14 =>
  ifK v14 (
  R v11 W) (
  okF (binP .add x8 (.int .i64 1)) fun v16 =>
  K1 [x3, x6, x7, v16] W)) W) (
  J1 [x3] W)
def S.cmp_Or_int.body (R : Value → World → Prop) (v0 : Value) (W : World) : Prop :=
  joinK (fun s W => S.cmp_Or_int.j1 R (nthv s 0) W) (fun J1 =>
  okF (lenP (.slice T_int) v0) fun v7 =>
  loopK (fun K1 s W => S.cmp_Or_int.l1 R J1 K1 (nthv s 0) (nthv s 1) (nthv s 2) (nthv s 3) W) [(.int .i64 0), v0, v7, (.int .i64 0)] W)
def S.cmp_Or_int.hint : Hint := (.two .nil (.two .nil (.at [3] (.two .nil (.at [3, 6, 7, 8] (.two .nil (.two (.two .nil .nil) (.two (.two .nil (.two .nil (.two (.two .nil .nil) .nil))) .nil))) .nil)) (.two .nil .nil))))
theorem S.cmp_Or_int.ok (R : Value → World → Prop) (v0 : Value) (W : World) : bodyK PR CB Try.f41 S.cmp_Or_int.hint [v0] R W = S.cmp_Or_int.body R v0 W := by kernel_rfl
theorem S.cmp_Or_int.fn : PR.funcs[F_cmp_Or_int]? = some Try.f41 := by kernel_rfl
theorem S.cmp_Or_int.call {R : Value → World → Prop} {v0 : Value} {W : World} (h : S.cmp_Or_int.body R v0 W) : callK PR F_cmp_Or_int [v0] R W :=
  callK_of_body (g := F_cmp_Or_int) (fn := Try.f41) (args := [v0]) (R := R) (w := W) mixed CBok S.cmp_Or_int.fn S.cmp_Or_int.hint (by rw [S.cmp_Or_int.ok]; exact h)
/-! ### cmp.Compare[int64] (42) -/
def S.cmp_Compare_int64.body (R : Value → World → Prop) (v0 v1 : Value) (W : World) : Prop :=
  callK PR F_cmp_isNaN_int64 [v0] (fun v8 W =>
  callK PR F_cmp_isNaN_int64 [v1] (fun v10 W =>
  ifK v8 (
  ifK v10 (
  R (.int .i64 0) W) (
  R (.int .i64 (-1)) W)) (
  ifK v10 (
  R (.int .i64 1) W) (
  okF (binP .lss v0 v1) fun v16 =>
  ifK v16 (
  R (.int .i64 (-1)) W) (
  okF (binP .gtr v0 v1) fun v19 =>
  ifK v19 (
  R (.int .i64 1) W) (
  R (.int .i64 0) W))))) W) W
def S.cmp_Compare_int64.hint : Hint := (.two .nil (.two .nil (.two .nil (.two (.two .nil (.two (.two (.two .nil (.two (.two .nil .nil) .nil)) (.two .nil .nil)) .nil)) (.two (.two .nil (.two (.two .nil .nil) .nil)) (.two (.two .nil (.two (.two .nil .nil) .nil)) (.two (.two .nil (.two (.two .nil .nil) .nil)) (.two .nil .nil))))))))
theorem S.cmp_Compare_int64.ok (R : Value → World → Prop) (v0 v1 : Value) (W : World) : bodyK PR CB Try.f42 S.cmp_Compare_int64.hint [v0, v1] R W = S.cmp_Compare_int64.body R v0 v1 W := by kernel_rfl
theorem S.cmp_Compare_int64.fn : PR.funcs[F_cmp_Compare_int64]? = some Try.f42 := by kernel_rfl
theorem S.cmp_Compare_int64.call {R : Value → World → Prop} {v0 v1 : Value} {W : World} (h : S.cmp_Compare_int64.body R v0 v1 W) : callK PR F_cmp_Compare_int64 [v0, v1] R W :=
  callK_of_body (g := F_cmp_Compare_int64) (fn := Try.f42) (args := [v0, v1]) (R := R) (w := W) mixed CBok S.cmp_Compare_int64.fn S.cmp_Compare_int64.hint (by rw [S.cmp_Compare_int64.ok]; exact h)
/-! ### rostrum/dots.Order (43) -/
def S.dots_Order.body (R : Value → World → Prop) (v0 v1 : Value) (W : World) : Prop :=
  efK PR (Instr.box T_api_Dot v0) (fun v2 W =>
  efK PR (Instr.box T_api_Dot v1) (fun v3 W =>
  okF (addrF 0 v2) fun v5 =>
  rdK PR (Instr.loadAt T_int v5) (fun v6 W =>
  okF (addrF 0 v3) fun v7 =>
  rdK PR (Instr.loadAt T_int v7) (fun v8 W =>
  okF (addrF 1 v2) fun v10 =>
  rdK PR (Instr.loadAt T_int64 v10) (fun v11 W =>
  okF (addrF 1 v3) fun v12 =>
  rdK PR (Instr.loadAt T_int64 v12) (fun v13 W =>
  callK PR F_cmp_Compare_int [v6, v8] (fun v9 W =>
  stb PR [(8, true, (Instr.loadAt T_int64 v12), v13), (6, true, (Instr.loadAt T_int64 v10), v11)] (fun W =>
  callK PR F_cmp_Compare_int64 [v11, v13] (fun v14 W =>
  efK PR (Instr.buildSlice T_s_int 2 #[(0, v9), (1, v14)]) (fun v15 W =>
  callK PR F_cmp_Or_int [v15] (fun v16 W =>
  R v16 W) W) W) W) W) W) W) W) W) (tick W)) W) W
def S.dots_Order.hint : Hint := (.two .nil (.two .nil .nil))
theorem S.dots_Order.ok (R : Value → World → Prop) (v0 v1 : Value) (W : World) : bodyK PR CB Try.f43 S.dots_Order.hint [v0, v1] R W = S.dots_Order.body R v0 v1 W := by kernel_rfl
theorem S.dots_Order.fn : PR.funcs[F_dots_Order]? = some Try.f43 := by kernel_rfl
theorem S.dots_Order.call {R : Value → World → Prop} {v0 v1 : Value} {W : World} (h : S.dots_Order.body R v0 v1 W) : callK PR F_dots_Order [v0, v1] R W :=
  callK_of_body (g := F_dots_Order) (fn := Try.f43) (args := [v0, v1]) (R := R) (w := W) mixed CBok S.dots_Order.fn S.dots_Order.hint (by rw [S.dots_Order.ok]; exact h)
/-! ### rostrum/ballot.First (44) -/
def S.ballot_First.body (R : Value → World → Prop) (v0 : Value) (W : World) : Prop :=
  efK PR (Instr.alloc T_ballot_Ballot true (.tuple #[])) (fun v2 W =>
  okF (bldP (fun i => ([(0, 1), (1, 1)] : List (Nat × Nat))[i]?) [.int .i64 0, .int .i64 0] [(1, v0)]) fun v4 =>
  efK PR (Instr.storeAt T_ballot_Ballot v2 v4) (fun _ W =>
  rdK PR (Instr.loadAt T_ballot_Ballot v2) (fun r0 W =>
  R r0 W) W) W) W
def S.ballot_First.hint : Hint := (.two .nil (.two .nil .nil))
theorem S.ballot_First.ok (R : Value → World → Prop) (v0 : Value) (W : World) : bodyK PR CB Try.f44 S.ballot_First.hint [v0] R W = S.ballot_First.body R v0 W := by kernel_rfl
theorem S.ballot_First.fn : PR.funcs[F_ballot_First]? = some Try.f44 := by kernel_rfl
theorem S.ballot_First.call {R : Value → World → Prop} {v0 : Value} {W : World} (h : S.ballot_First.body R v0 W) : callK PR F_ballot_First [v0] R W :=
  callK_of_body (g := F_ballot_First) (fn := Try.f44) (args := [v0]) (R := R) (w := W) mixed CBok S.ballot_First.fn S.ballot_First.hint (by rw [S.ballot_First.ok]; exact h)
/-! ### cmp.Compare[int] (45) -/
def S.cmp_Compare_int.body (R : Value → World → Prop) (v0 v1 : Value) (W : World) : Prop :=
  callK PR F_cmp_isNaN_int [v0] (fun v8 W =>
  callK PR F_cmp_isNaN_int [v1] (fun v10 W =>
  ifK v8 (
  ifK v10 (
  R (.int .i64 0) W) (
  R (.int .i64 (-1)) W)) (
  ifK v10 (
  R (.int .i64 1) W) (
  okF (binP .lss v0 v1) fun v16 =>
  ifK v16 (
  R (.int .i64 (-1)) W) (
  okF (binP .gtr v0 v1) fun v19 =>
  ifK v19 (
  R (.int .i64 1) W) (
  R (.int .i64 0) W))))) W) W
def S.cmp_Compare_int.hint : Hint := (.two .nil (.two .nil (.two .nil (.two (.two .nil (.two (.two (.two .nil (.two (.two .nil .nil) .nil)) (.two .nil .nil)) .nil)) (.two (.two .nil (.two (.two .nil .nil) .nil)) (.two (.two .nil (.two (.two .nil .nil) .nil)) (.two (.two .nil (.two (.two .nil .nil) .nil)) (.two .nil .nil))))))))
theorem S.cmp_Compare_int.ok (R : Value → World → Prop) (v0 v1 : Value) (W : World) : bodyK PR CB Try.f45 S.cmp_Compare_int.hint [v0, v1] R W = S.cmp_Compare_int.body R v0 v1 W := by kernel_rfl
theorem S.cmp_Compare_int.fn : PR.funcs[F_cmp_Compare_int]? = some Try.f45 := by kernel_rfl
theorem S.cmp_Compare_int.call {R : Value → World → Prop} {v0 v1 : Value} {W : World} (h : S.cmp_Compare_int.body R v0 v1 W) : callK PR F_cmp_Compare_int [v0, v1] R W :=
  callK_of_body (g := F_cmp_Compare_int) (fn := Try.f45) (args := [v0, v1]) (R := R) (w := W) mixed CBok S.cmp_Compare_int.fn S.cmp_Compare_int.hint (by rw [S.cmp_Compare_int.ok]; exact h)
/-! ### rostrum/ballot.rep (46) -/
def S.ballot_rep.body (R : Value → World → Prop) (v0 : Value) (W : World) : Prop :=
  okF (binP .geq v0 (.int .i64 0)) fun v4 =>
  gdK (wantd v4 true) (fun k W => k v0 W) (fun v6 W =>
  gdK (wantd v4 true) (fun k W => okF (binP .lss v6 (.int .i64 7)) fun v => k v W) (fun v7 W =>
  okF (pickP v4 v7 (.bool false)) fun v8 =>
  R v8 W) W) W
def S.ballot_rep.hint : Hint := (.two .nil (.two .nil .nil))
theorem S.ballot_rep.ok (R : Value → World → Prop) (v0 : Value) (W : World) : bodyK PR CB Try.f46 S.ballot_rep.hint [v0] R W = S.ballot_rep.body R v0 W := by kernel_rfl
theorem S.ballot_rep.fn : PR.funcs[F_ballot_rep]? = some Try.f46 := by kernel_rfl
theorem S.ballot_rep.call {R : Value → World → Prop} {v0 : Value} {W : World} (h : S.ballot_rep.body R v0 W) : callK PR F_ballot_rep [v0] R W :=
  callK_of_body (g := F_ballot_rep) (fn := Try.f46) (args := [v0]) (R := R) (w := W) mixed CBok S.ballot_rep.fn S.ballot_rep.hint (by rw [S.ballot_rep.ok]; exact h)
/-! ### rostrum/pack.Num (47) -/
def S.pack_Num.j1 (R : Value → World → Prop) (x5 x6 : Value) (W : World) : Prop :=
  okF (cvtP (.int .u8) x6) fun v28 =>
  efK PR (Instr.buildSlice T_s_uint8 1 #[(0, v28)]) (fun v29 W =>
  efK PR (Builtin.append_ #[T_s_uint8, T_s_uint8] T_s_uint8 #[x5, v29]) (fun v30 W =>
  R v30 W) W) W
def S.pack_Num.l1 (J1 : List Value → World → Prop) (K1 : List Value → World → Prop) (x5 x6 : Value) (W : World) : Prop :=
  okF (binP .geq x6 (.int .u64 128)) fun v17 =>
  ifK v17 (
  okF (cvtP (.int .u8) x6) fun v22 =>
  okF (binP .or v22 (.int .u8 128)) fun v23 =>
  efK PR (Instr.buildSlice T_s_uint8 1 #[(0, v23)]) (fun v24 W =>
  efK PR (Builtin.append_ #[T_s_uint8, T_s_uint8] T_s_uint8 #[x5, v24]) (fun v25 W =>
  okF (binP .shr x6 (.int .u64 7)) fun v19 =>
  K1 [v25, v19] W) W) W) (
  J1 [x5, x6] W)
def S.pack_Num.body (R : Value → World → Prop) (v0 v1 : Value) (W : World) : Prop :=
  callK PR F_bytes_Clone [v0] (fun v8 W =>
  okF (cvtP (.int .u64) v1) fun v10 =>
  okF (binP .shl v10 (.int .u64 1)) fun v11 =>
  okF (binP .shr v1 (.int .u64 63)) fun v13 =>
  okF (cvtP (.int .u64) v13) fun v14 =>
  okF (binP .xor v11 v14) fun v15 =>
  joinK (fun s W => S.pack_Num.j1 R (nthv s 0) (nthv s 1) W) (fun J1 =>
  loopK (fun K1 s W => S.pack_Num.l1 J1 K1 (nthv s 0) (nthv s 1) W) [v8, v15] W)) W
def S.pack_Num.hint : Hint := (.two .nil (.two .nil (.two .nil (.at [5, 6] (.at [5, 6] (.two (.two .nil (.two .nil .nil)) (.two .nil .nil)) .nil) (.two .nil .nil)))))
theorem S.pack_Num.ok (R : Value → World → Prop) (v0 v1 : Value) (W : World) : bodyK PR CB Try.f47 S.pack_Num.hint [v0, v1] R W = S.pack_Num.body R v0 v1 W := by kernel_rfl
theorem S.pack_Num.fn : PR.funcs[F_pack_Num]? = some Try.f47 := by kernel_rfl
theorem S.pack_Num.call {R : Value → World → Prop} {v0 v1 : Value} {W : World} (h : S.pack_Num.body R v0 v1 W) : callK PR F_pack_Num [v0, v1] R W :=
  callK_of_body (g := F_pack_Num) (fn := Try.f47) (args := [v0, v1]) (R := R) (w := W) mixed CBok S.pack_Num.fn S.pack_Num.hint (by rw [S.pack_Num.ok]; exact h)
/-! ### bytes.Clone (48) -/
def S.bytes_Clone.body (R : Value → World → Prop) (v0 : Value) (W : World) : Prop :=
  okF (eqP (.slice T_uint8) .eql v0 (.slice none 0 0)) fun v4 =>
  ifK v4 (
  R (.slice none 0 0) W) (
  efK PR (Instr.buildSlice T_s_uint8 0 #[]) (fun v5 W =>
  efK PR (Builtin.append_ #[T_s_uint8, T_s_uint8] T_s_uint8 #[v5, v0]) (fun v7 W =>
  R v7 W) W) W)
def S.bytes_Clone.hint : Hint := (.two .nil (.two (.two .nil (.two (.two .nil .nil) .nil)) (.two .nil .nil)))
theorem S.bytes_Clone.ok (R : Value → World → Prop) (v0 : Value) (W : World) : bodyK PR CB Try.f48 S.bytes_Clone.hint [v0] R W = S.bytes_Clone.body R v0 W := by kernel_rfl
theorem S.bytes_Clone.fn : PR.funcs[F_bytes_Clone]? = some Try.f48 := by kernel_rfl
theorem S.bytes_Clone.call {R : Value → World → Prop} {v0 : Value} {W : World} (h : S.bytes_Clone.body R v0 W) : callK PR F_bytes_Clone [v0] R W :=
  callK_of_body (g := F_bytes_Clone) (fn := Try.f48) (args := [v0]) (R := R) (w := W) mixed CBok S.bytes_Clone.fn S.bytes_Clone.hint (by rw [S.bytes_Clone.ok]; exact h)
/-! ### (*rostrum/pack.Reader).Num (49) -/
def S.pack_Reader_Num.j1 (R : Value → World → Prop) (x0 : Value) (W : World) : Prop :=
  callK PR F_pack_Reader_fail [x0] (fun v86 W =>
  R v86 W) W
def S.pack_Reader_Num.l1 (R : Value → World → Prop) (J1 : List Value → World → Prop) (K1 : List Value → World → Prop) (x0 x1 x2 x7 x21 x22 x23 : Value) (W : World) : Prop :=
  okF (binP .lss x23 x22) fun v24 =>
  ifK v24 (
  okF (idxS 1 x21 x23) fun v26 =>
  rdK PR (Instr.loadAt T_uint8 v26) (fun v27 W =>
  okF (binP .andNot v27 (.int .u8 128)) fun v30 =>
  okF (cvtP (.int .u64) v30) fun v31 =>
  okF (binP .mul (.int .i64 7) x23) fun v33 =>
  okF (binP .shl v31 v33) fun v34 =>
  okF (binP .or x7 v34) fun v35 =>
  okF (binP .and v27 (.int .u8 128)) fun v37 =>
  okF (binP .neq v37 (.int .u8 0)) fun v38 =>
  ifK v38 (
  okF (binP .add x23 (.int .i64 1)) fun v84 =>
  K1 [x0, x1, x2, v35, x21, x22, v84] W) (
  okF (binP .shr v35 (.int .u64 1)) fun v40 =>
  okF (cvtP (.int .i64) v40) fun v41 =>
  okF (binP .and v35 (.int .u64 1)) fun v43 =>
  okF (cvtP (.int .i64) v43) fun v44 =>
  okF (unP .neg v44) fun v45 =>
  okF (binP .xor v41 v45) fun v46 =>
  okF (binP .gtr x23 (.int .i64 0)) fun v48 =>
  gdK (wantd v48 true) (fun k W => k v27 W) (fun v50 W =>
  gdK (wantd v48 true) (fun k W => okF (binP .eql v50 (.int .u8 0)) fun v => k v W) (fun v51 W =>
  okF (pickP v48 v51 (.bool false)) fun v52 =>
  gdK (wantd v52 false) (fun k W => k x23 W) (fun v54 W =>
  gdK (wantd v52 false) (fun k W => okF (binP .eql v54 (.int .i64 9)) fun v => k v W) (fun v55 W =>
  gdK (wantd v52 false) (fun k W => k v55 W) (fun v56 W =>
  gdK (wantd v56 true) (fun k W => k v27 W) (fun v57 W =>
  gdK (wantd v56 true) (fun k W => okF (binP .gtr v57 (.int .u8 1)) fun v => k v W) (fun v58 W =>
  gdK (wantd v52 false) (fun k W => okF (pickP v56 v58 (.bool false)) fun v => k v W) (fun v59 W =>
  okF (pickP v52 (.bool true) v59) fun v60 =>
  gdK (wantd v60 false) (fun k W => k v46 W) (fun v62 W =>
  gdK (wantd v60 false) (fun k W => k x1 W) (fun v63 W =>
  gdK (wantd v60 false) (fun k W => okF (binP .lss v62 v63) fun v => k v W) (fun v64 W =>
  okF (pickP v60 (.bool true) v64) fun v65 =>
  gdK (wantd v65 false) (fun k W => k v46 W) (fun v67 W =>
  gdK (wantd v65 false) (fun k W => k x2 W) (fun v68 W =>
  gdK (wantd v65 false) (fun k W => okF (binP .gtr v67 v68) fun v => k v W) (fun v69 W =>
  okF (pickP v65 (.bool true) v69) fun v70 =>
  ifK v70 (
  callK PR F_pack_Reader_fail [x0] (fun v72 W =>
  R v72 W) W) (
  okF (nilP x0) fun v75 =>
  okF (addrF 0 v75) fun v76 =>
  rdK PR (Instr.loadAt T_s_uint8 v76) (fun v77 W =>
  okF (binP .add x23 (.int .i64 1)) fun v79 =>
  okF (slcS 1 v77 (some v79) none none) fun v80 =>
  okF (nilP x0) fun v81 =>
  okF (addrF 0 v81) fun v82 =>
  efK PR (Instr.storeAt T_s_uint8 v82 v80) (fun _ W =>
  R v46 W) W) W)) W) W) W) W) W) W) W) W) W) W) W) W) W) W)) W) (
  J1 [x0] W)
def S.pack_Reader_Num.body (R : Value → World → Prop) (v0 v1 v2 : Value) (W : World) : Prop :=
  joinK (fun s W => S.pack_Reader_Num.j1 R (nthv s 0) W) (fun J1 =>
  okF (nilP v0) fun v12 =>
  okF (addrF 0 v12) fun v13 =>
  rdK PR (Instr.loadAt T_s_uint8 v13) (fun v14 W =>
  okF (nilP v0) fun v16 =>
  okF (addrF 0 v16) fun v17 =>
  rdK PR (Instr.loadAt T_s_uint8 v17) (fun v18 W =>
  okF (lenP (.slice T_uint8) v18) fun v19 =>
  okF (foldP min2P [v19, (.int .i64 10)]) fun v20 =>
  okF (slcS 1 v14 none (some v20) none) fun v21 =>
  okF (lenP (.slice T_uint8) v21) fun v22 =>
  loopK (fun K1 s W => S.pack_Reader_Num.l1 R J1 K1 (nthv s 0) (nthv s 1) (nthv s 2) (nthv s 3) (nthv s 4) (nthv s 5) (nthv s 6) W) [v0, v1, v2, (.int .u64 0), v21, v22, (.int .i64 0)] W) W) (tick W))
def S.pack_Reader_Num.hint : Hint := (.two .nil (.two .nil (.at [0] (.two .nil (.at [0, 1, 2, 7, 21, 22, 23] (.two .nil (.two (.two .nil .nil) (.two (.two .nil (.two .nil (.two (.two .nil (.two .nil .nil)) (.two .nil (.two (.two .nil (.two (.two .nil .nil) .nil)) (.two .nil (.two .nil .nil))))))) .nil))) .nil)) (.two .nil .nil))))
theorem S.pack_Reader_Num.ok (R : Value → World → Prop) (v0 v1 v2 : Value) (W : World) : bodyK PR CB Try.f49 S.pack_Reader_Num.hint [v0, v1, v2] R W = S.pack_Reader_Num.body R v0 v1 v2 W := by kernel_rfl
theorem S.pack_Reader_Num.fn : PR.funcs[F_pack_Reader_Num]? = some Try.f49 := by kernel_rfl
theorem S.pack_Reader_Num.call {R : Value → World → Prop} {v0 v1 v2 : Value} {W : World} (h : S.pack_Reader_Num.body R v0 v1 v2 W) : callK PR F_pack_Reader_Num [v0, v1, v2] R W :=
  callK_of_body (g := F_pack_Reader_Num) (fn := Try.f49) (args := [v0, v1, v2]) (R := R) (w := W) mixed CBok S.pack_Reader_Num.fn S.pack_Reader_Num.hint (by rw [S.pack_Reader_Num.ok]; exact h)
/-! ### (*rostrum/rostrumref1.Reader).Num (50) -/
def S.rostrumref1_Reader_Num.j1 (R : Value → World → Prop) (x0 x1 x2 x8 x9 : Value) (W : World) : Prop :=
  okF (unP .not x8) fun v28 =>
  gdK (wantd v28 false) (fun k W => k x9 W) (fun v30 W =>
  gdK (wantd v28 false) (fun k W => k x1 W) (fun v31 W =>
  gdK (wantd v28 false) (fun k W => okF (binP .lss v30 v31) fun v => k v W) (fun v32 W =>
  okF (pickP v28 (.bool true) v32) fun v33 =>
  gdK (wantd v33 false) (fun k W => k x9 W) (fun v35 W =>
  gdK (wantd v33 false) (fun k W => k x2 W) (fun v36 W =>
  gdK (wantd v33 false) (fun k W => okF (binP .gtr v35 v36) fun v => k v W) (fun v37 W =>
  okF (pickP v33 (.bool true) v37) fun v38 =>
  ifK v38 (
  okF (nilP x0) fun v40 =>
  okF (addrF 2 v40) fun v41 =>
  efK PR (Instr.storeAt T_bool v41 (.bool true)) (fun _ W =>
  R (.int .i64 0) W) W) (
  R x9 W)) W) W) W) W) W) W
def S.rostrumref1_Reader_Num.body (R : Value → World → Prop) (v0 v1 v2 : Value) (W : World) : Prop :=
  okF (nilP v0) fun v11 =>
  okF (addrF 2 v11) fun v12 =>
  rdK PR (Instr.loadAt T_bool v12) (fun v13 W =>
  ifK v13 (
  R (.int .i64 0) W) (
  callK PR F_rostrumref1_Reader_raw [v0] (fun v16 W =>
  okF (extP 0 v16) fun v17 =>
  okF (extP 1 v16) fun v18 =>
  okF (binP .shr v17 (.int .u64 1)) fun v20 =>
  okF (cvtP (.int .i64) v20) fun v21 =>
  joinK (fun s W => S.rostrumref1_Reader_Num.j1 R (nthv s 0) (nthv s 1) (nthv s 2) (nthv s 3) (nthv s 4) W) (fun J1 =>
  okF (binP .and v17 (.int .u64 1)) fun v23 =>
  okF (binP .eql v23 (.int .u64 1)) fun v24 =>
  ifK v24 (
  okF (binP .sub (.int .i64 (-1)) v21) fun v26 =>
  J1 [v0, v1, v2, v18, v26] W) (
  J1 [v0, v1, v2, v18, v21] W))) W)) W
def S.rostrumref1_Reader_Num.hint : Hint := (.two .nil (.two (.two .nil (.two (.two .nil .nil) .nil)) (.two .nil (.two .nil (.at [0, 1, 2, 8, 9] (.two .nil (.two .nil .nil)) (.two (.two .nil (.two (.two .nil (.two .nil .nil)) .nil)) (.two .nil .nil)))))))
theorem S.rostrumref1_Reader_Num.ok (R : Value → World → Prop) (v0 v1 v2 : Value) (W : World) : bodyK PR CB Try.f50 S.rostrumref1_Reader_Num.hint [v0, v1, v2] R W = S.rostrumref1_Reader_Num.body R v0 v1 v2 W := by kernel_rfl
theorem S.rostrumref1_Reader_Num.fn : PR.funcs[F_rostrumref1_Reader_Num]? = some Try.f50 := by kernel_rfl
theorem S.rostrumref1_Reader_Num.call {R : Value → World → Prop} {v0 v1 v2 : Value} {W : World} (h : S.rostrumref1_Reader_Num.body R v0 v1 v2 W) : callK PR F_rostrumref1_Reader_Num [v0, v1, v2] R W :=
  callK_of_body (g := F_rostrumref1_Reader_Num) (fn := Try.f50) (args := [v0, v1, v2]) (R := R) (w := W) mixed CBok S.rostrumref1_Reader_Num.fn S.rostrumref1_Reader_Num.hint (by rw [S.rostrumref1_Reader_Num.ok]; exact h)
/-! ### rostrum/rostrumref1.Num (51) -/
def S.rostrumref1_Num.j2 (R : Value → World → Prop) (x5 x6 : Value) (W : World) : Prop :=
  okF (cvtP (.int .u8) x5) fun v30 =>
  efK PR (Instr.buildSlice T_s_uint8 1 #[(0, v30)]) (fun v31 W =>
  efK PR (Builtin.append_ #[T_s_uint8, T_s_uint8] T_s_uint8 #[x6, v31]) (fun v32 W =>
  R v32 W) W) W
def S.rostrumref1_Num.l1 (J2 : List Value → World → Prop) (K1 : List Value → World → Prop) (x5 x6 : Value) (W : World) : Prop :=
  okF (binP .geq x5 (.int .u64 128)) fun v18 =>
  ifK v18 (
  okF (binP .rem x5 (.int .u64 128)) fun v21 =>
  okF (cvtP (.int .u8) v21) fun v22 =>
  okF (binP .add v22 (.int .u8 128)) fun v23 =>
  efK PR (Instr.buildSlice T_s_uint8 1 #[(0, v23)]) (fun v24 W =>
  efK PR (Builtin.append_ #[T_s_uint8, T_s_uint8] T_s_uint8 #[x6, v24]) (fun v25 W =>
  okF (binP .quo x5 (.int .u64 128)) fun v27 =>
  K1 [v27, v25] W) W) W) (
  J2 [x5, x6] W)
def S.rostrumref1_Num.j1 (R : Value → World → Prop) (x0 x5 : Value) (W : World) : Prop :=
  efK PR (Instr.buildSlice T_s_uint8 0 #[]) (fun v14 W =>
  efK PR (Builtin.append_ #[T_s_uint8, T_s_uint8] T_s_uint8 #[v14, x0]) (fun v16 W =>
  joinK (fun s W => S.rostrumref1_Num.j2 R (nthv s 0) (nthv s 1) W) (fun J2 =>
  loopK (fun K1 s W => S.rostrumref1_Num.l1 J2 K1 (nthv s 0) (nthv s 1) W) [x5, v16] W)) W) W
def S.rostrumref1_Num.body (R : Value → World → Prop) (v0 v1 : Value) (W : World) : Prop :=
  okF (cvtP (.int .u64) v1) fun v8 =>
  okF (binP .shl v8 (.int .u64 1)) fun v9 =>
  joinK (fun s W => S.rostrumref1_Num.j1 R (nthv s 0) (nthv s 1) W) (fun J1 =>
  okF (binP .lss v1 (.int .i64 0)) fun v11 =>
  ifK v11 (
  okF (unP .xor v9) fun v13 =>
  J1 [v0, v13] W) (
  J1 [v0, v9] W))
def S.rostrumref1_Num.hint : Hint := (.two .nil (.two .nil (.at [0, 5] (.two .nil (.two .nil .nil)) (.two .nil (.at [5, 6] (.at [5, 6] (.two (.two .nil (.two .nil .nil)) (.two .nil .nil)) .nil) (.two .nil .nil))))))
theorem S.rostrumref1_Num.ok (R : Value → World → Prop) (v0 v1 : Value) (W : World) : bodyK PR CB Try.f51 S.rostrumref1_Num.hint [v0, v1] R W = S.rostrumref1_Num.body R v0 v1 W := by kernel_rfl
theorem S.rostrumref1_Num.fn : PR.funcs[F_rostrumref1_Num]? = some Try.f51 := by kernel_rfl
theorem S.rostrumref1_Num.call {R : Value → World → Prop} {v0 v1 : Value} {W : World} (h : S.rostrumref1_Num.body R v0 v1 W) : callK PR F_rostrumref1_Num [v0, v1] R W :=
  callK_of_body (g := F_rostrumref1_Num) (fn := Try.f51) (args := [v0, v1]) (R := R) (w := W) mixed CBok S.rostrumref1_Num.fn S.rostrumref1_Num.hint (by rw [S.rostrumref1_Num.ok]; exact h)
/-! ### (*rostrum/pack.Reader).Text (52) -/
def S.pack_Reader_Text.body (R : Value → World → Prop) (v0 v1 : Value) (W : World) : Prop :=
  callK PR F_pack_Reader_Bytes [v0, v1] (fun v7 W =>
  rdK PR (convert T_s_uint8 T_string v7) (fun v8 W =>
  R v8 W) W) W
def S.pack_Reader_Text.hint : Hint := (.two .nil (.two .nil .nil))
theorem S.pack_Reader_Text.ok (R : Value → World → Prop) (v0 v1 : Value) (W : World) : bodyK PR CB Try.f52 S.pack_Reader_Text.hint [v0, v1] R W = S.pack_Reader_Text.body R v0 v1 W := by kernel_rfl
theorem S.pack_Reader_Text.fn : PR.funcs[F_pack_Reader_Text]? = some Try.f52 := by kernel_rfl
theorem S.pack_Reader_Text.call {R : Value → World → Prop} {v0 v1 : Value} {W : World} (h : S.pack_Reader_Text.body R v0 v1 W) : callK PR F_pack_Reader_Text [v0, v1] R W :=
  callK_of_body (g := F_pack_Reader_Text) (fn := Try.f52) (args := [v0, v1]) (R := R) (w := W) mixed CBok S.pack_Reader_Text.fn S.pack_Reader_Text.hint (by rw [S.pack_Reader_Text.ok]; exact h)
/-! ### rostrum/pack.Text (53) -/
def S.pack_Text.body (R : Value → World → Prop) (v0 v1 : Value) (W : World) : Prop :=
  efK PR (convert T_string T_s_uint8 v1) (fun v7 W =>
  callK PR F_pack_Bytes [v0, v7] (fun v8 W =>
  R v8 W) W) W
def S.pack_Text.hint : Hint := (.two .nil (.two .nil .nil))
theorem S.pack_Text.ok (R : Value → World → Prop) (v0 v1 : Value) (W : World) : bodyK PR CB Try.f53 S.pack_Text.hint [v0, v1] R W = S.pack_Text.body R v0 v1 W := by kernel_rfl
theorem S.pack_Text.fn : PR.funcs[F_pack_Text]? = some Try.f53 := by kernel_rfl
theorem S.pack_Text.call {R : Value → World → Prop} {v0 v1 : Value} {W : World} (h : S.pack_Text.body R v0 v1 W) : callK PR F_pack_Text [v0, v1] R W :=
  callK_of_body (g := F_pack_Text) (fn := Try.f53) (args := [v0, v1]) (R := R) (w := W) mixed CBok S.pack_Text.fn S.pack_Text.hint (by rw [S.pack_Text.ok]; exact h)
/-! ### rostrum/rostrumref7.May (54) -/
def S.rostrumref7_May.body (R : Value → World → Prop) (v0 : Value) (W : World) : Prop :=
  efK PR (Instr.box T_api_Dot v0) (fun v1 W =>
  okF (addrF 0 v1) fun v3 =>
  rdK PR (Instr.loadAt T_int v3) (fun v4 W =>
  okF (binP .geq v4 (.int .i64 0)) fun v5 =>
  gdK (wantd v5 true) (fun k W => okF (addrF 0 v1) fun v => k v W) (fun v7 W =>
  gdK (wantd v5 true) (fun k W => rdK PR (Instr.loadAt T_int v7) k W) (fun v8 W =>
  gdK (wantd v5 true) (fun k W => okF (binP .lss v8 (.int .i64 7)) fun v => k v W) (fun v9 W =>
  okF (pickP v5 v9 (.bool false)) fun v10 =>
  gdK (wantd v10 true) (fun k W => okF (addrF 1 v1) fun v => k v W) (fun v12 W =>
  gdK (wantd v10 true) (fun k W => rdK PR (Instr.loadAt T_int64 v12) k W) (fun v13 W =>
  gdK (wantd v10 true) (fun k W => okF (binP .geq v13 (.int .i64 1)) fun v => k v W) (fun v14 W =>
  okF (pickP v10 v14 (.bool false)) fun v15 =>
  gdK (wantd v15 true) (fun k W => okF (addrF 1 v1) fun v => k v W) (fun v17 W =>
  gdK (wantd v15 true) (fun k W => rdK PR (Instr.loadAt T_int64 v17) k W) (fun v18 W =>
  gdK (wantd v15 true) (fun k W => okF (binP .leq v18 (.int .i64 1099511627776)) fun v => k v W) (fun v19 W =>
  okF (pickP v15 v19 (.bool false)) fun v20 =>
  R v20 W) W) W) W) W) W) W) W) W) W) W) W
def S.rostrumref7_May.hint : Hint := (.two .nil (.two .nil .nil))
theorem S.rostrumref7_May.ok (R : Value → World → Prop) (v0 : Value) (W : World) : bodyK PR CB Try.f54 S.rostrumref7_May.hint [v0] R W = S.rostrumref7_May.body R v0 W := by kernel_rfl
theorem S.rostrumref7_May.fn : PR.funcs[F_rostrumref7_May]? = some Try.f54 := by kernel_rfl
theorem S.rostrumref7_May.call {R : Value → World → Prop} {v0 : Value} {W : World} (h : S.rostrumref7_May.body R v0 W) : callK PR F_rostrumref7_May [v0] R W :=
  callK_of_body (g := F_rostrumref7_May) (fn := Try.f54) (args := [v0]) (R := R) (w := W) mixed CBok S.rostrumref7_May.fn S.rostrumref7_May.hint (by rw [S.rostrumref7_May.ok]; exact h)
/-! ### rostrum/rostrumref7.Less (55) -/
def S.rostrumref7_Less.body (R : Value → World → Prop) (v0 v1 : Value) (W : World) : Prop :=
  efK PR (Instr.box T_api_Dot v0) (fun v2 W =>
  efK PR (Instr.box T_api_Dot v1) (fun v3 W =>
  okF (addrF 0 v2) fun v5 =>
  rdK PR (Instr.loadAt T_int v5) (fun v6 W =>
  okF (addrF 0 v3) fun v7 =>
  rdK PR (Instr.loadAt T_int v7) (fun v8 W =>
  okF (binP .lss v6 v8) fun v9 =>
  gdK (wantd v9 false) (fun k W => okF (addrF 0 v2) fun v => k v W) (fun v11 W =>
  gdK (wantd v9 false) (fun k W => rdK PR (Instr.loadAt T_int v11) k W) (fun v12 W =>
  gdK (wantd v9 false) (fun k W => okF (addrF 0 v3) fun v => k v W) (fun v13 W =>
  gdK (wantd v9 false) (fun k W => rdK PR (Instr.loadAt T_int v13) k W) (fun v14 W =>
  gdK (wantd v9 false) (fun k W => okF (binP .eql v12 v14) fun v => k v W) (fun v15 W =>
  gdK (wantd v9 false) (fun k W => k v15 W) (fun v16 W =>
  gdK (wantd v16 true) (fun k W => okF (addrF 1 v2) fun v => k v W) (fun v17 W =>
  gdK (wantd v16 true) (fun k W => rdK PR (Instr.loadAt T_int64 v17) k W) (fun v18 W =>
  gdK (wantd v16 true) (fun k W => okF (addrF 1 v3) fun v => k v W) (fun v19 W =>
  gdK (wantd v16 true) (fun k W => rdK PR (Instr.loadAt T_int64 v19) k W) (fun v20 W =>
  gdK (wantd v16 true) (fun k W => okF (binP .lss v18 v20) fun v => k v W) (fun v21 W =>
  gdK (wantd v9 false) (fun k W => okF (pickP v16 v21 (.bool false)) fun v => k v W) (fun v22 W =>
  okF (pickP v9 (.bool true) v22) fun v23 =>
  R v23 W) W) W) W) W) W) W) W) W) W) W) W) W) W) W) W) W
def S.rostrumref7_Less.hint : Hint := (.two .nil (.two .nil .nil))
theorem S.rostrumref7_Less.ok (R : Value → World → Prop) (v0 v1 : Value) (W : World) : bodyK PR CB Try.f55 S.rostrumref7_Less.hint [v0, v1] R W = S.rostrumref7_Less.body R v0 v1 W := by kernel_rfl
theorem S.rostrumref7_Less.fn : PR.funcs[F_rostrumref7_Less]? = some Try.f55 := by kernel_rfl
theorem S.rostrumref7_Less.call {R : Value → World → Prop} {v0 v1 : Value} {W : World} (h : S.rostrumref7_Less.body R v0 v1 W) : callK PR F_rostrumref7_Less [v0, v1] R W :=
  callK_of_body (g := F_rostrumref7_Less) (fn := Try.f55) (args := [v0, v1]) (R := R) (w := W) mixed CBok S.rostrumref7_Less.fn S.rostrumref7_Less.hint (by rw [S.rostrumref7_Less.ok]; exact h)
/-! ### rostrum/rostrumref1.Bytes (56) -/
def S.rostrumref1_Bytes.body (R : Value → World → Prop) (v0 v1 : Value) (W : World) : Prop :=
  okF (lenP (.slice T_uint8) v1) fun v7 =>
  callK PR F_rostrumref1_Num [v0, v7] (fun v8 W =>
  efK PR (Builtin.append_ #[T_s_uint8, T_s_uint8] T_s_uint8 #[v8, v1]) (fun v10 W =>
  R v10 W) W) W
def S.rostrumref1_Bytes.hint : Hint := (.two .nil (.two .nil .nil))
theorem S.rostrumref1_Bytes.ok (R : Value → World → Prop) (v0 v1 : Value) (W : World) : bodyK PR CB Try.f56 S.rostrumref1_Bytes.hint [v0, v1] R W = S.rostrumref1_Bytes.body R v0 v1 W := by kernel_rfl
theorem S.rostrumref1_Bytes.fn : PR.funcs[F_rostrumref1_Bytes]? = some Try.f56 := by kernel_rfl
theorem S.rostrumref1_Bytes.call {R : Value → World → Prop} {v0 v1 : Value} {W : World} (h : S.rostrumref1_Bytes.body R v0 v1 W) : callK PR F_rostrumref1_Bytes [v0, v1] R W :=
  callK_of_body (g := F_rostrumref1_Bytes) (fn := Try.f56) (args := [v0, v1]) (R := R) (w := W) mixed CBok S.rostrumref1_Bytes.fn S.rostrumref1_Bytes.hint (by rw [S.rostrumref1_Bytes.ok]; exact h)
/-! ### (*rostrum/rostrumref1.Reader).Bytes (57) -/
def S.rostrumref1_Reader_Bytes.body (R : Value → World → Prop) (v0 v1 : Value) (W : World) : Prop :=
  callK PR F_rostrumref1_Reader_Num [v0, (.int .i64 0), v1] (fun v9 W =>
  okF (nilP v0) fun v11 =>
  okF (addrF 2 v11) fun v12 =>
  rdK PR (Instr.loadAt T_bool v12) (fun v13 W =>
  gdK (wantd v13 false) (fun k W => k v9 W) (fun v15 W =>
  gdK (wantd v13 false) (fun k W => k v0 W) (fun v16 W =>
  gdK (wantd v13 false) (fun k W => okF (nilP v16) fun v => k v W) (fun v17 W =>
  gdK (wantd v13 false) (fun k W => okF (addrF 0 v17) fun v => k v W) (fun v18 W =>
  gdK (wantd v13 false) (fun k W => rdK PR (Instr.loadAt T_s_uint8 v18) k W) (fun v19 W =>
  gdK (wantd v13 false) (fun k W => okF (lenP (.slice T_uint8) v19) fun v => k v W) (fun v20 W =>
  gdK (wantd v13 false) (fun k W => k v0 W) (fun v21 W =>
  gdK (wantd v13 false) (fun k W => okF (nilP v21) fun v => k v W) (fun v22 W =>
  gdK (wantd v13 false) (fun k W => okF (addrF 1 v22) fun v => k v W) (fun v23 W =>
  gdK (wantd v13 false) (fun k W => rdK PR (Instr.loadAt T_int v23) k W) (fun v24 W =>
  gdK (wantd v13 false) (fun k W => okF (binP .sub v20 v24) fun v => k v W) (fun v25 W =>
  gdK (wantd v13 false) (fun k W => okF (binP .gtr v15 v25) fun v => k v W) (fun v26 W =>
  okF (pickP v13 (.bool true) v26) fun v27 =>
  ifK v27 (
  okF (nilP v0) fun v29 =>
  okF (addrF 2 v29) fun v30 =>
  efK PR (Instr.storeAt T_bool v30 (.bool true)) (fun _ W =>
  R (.slice none 0 0) W) W) (
  okF (nilP v0) fun v33 =>
  okF (addrF 0 v33) fun v34 =>
  rdK PR (Instr.loadAt T_s_uint8 v34) (fun v35 W =>
  okF (nilP v0) fun v37 =>
  okF (addrF 1 v37) fun v38 =>
  rdK PR (Instr.loadAt T_int v38) (fun v39 W =>
  okF (nilP v0) fun v41 =>
  okF (addrF 1 v41) fun v42 =>
  rdK PR (Instr.loadAt T_int v42) (fun v43 W =>
  okF (binP .add v43 v9) fun v45 =>
  okF (slcS 1 v35 (some v39) (some v45) none) fun v46 =>
  efK PR (Instr.buildSlice T_s_uint8 0 #[]) (fun v31 W =>
  stb PR [(12, true, (Instr.loadAt T_int v42), v43), (8, true, (Instr.loadAt T_int v38), v39), (4, true, (Instr.loadAt T_s_uint8 v34), v35)] (fun W =>
  efK PR (Builtin.append_ #[T_s_uint8, T_s_uint8] T_s_uint8 #[v31, v46]) (fun v47 W =>
  okF (nilP v0) fun v50 =>
  okF (addrF 1 v50) fun v51 =>
  rdK PR (Instr.loadAt T_int v51) (fun v52 W =>
  okF (binP .add v52 v9) fun v54 =>
  okF (nilP v0) fun v55 =>
  okF (addrF 1 v55) fun v56 =>
  efK PR (Instr.storeAt T_int v56 v54) (fun _ W =>
  R v47 W) W) W) W) W) W) W) W) (tick W))) W) W) W) W) W) W) W) W) W) W) W) W) (tick W)) W
def S.rostrumref1_Reader_Bytes.hint : Hint := (.two .nil (.two .nil (.two (.two .nil (.two (.two .nil (.two .nil .nil)) .nil)) (.two .nil (.two .nil (.two .nil .nil))))))
theorem S.rostrumref1_Reader_Bytes.ok (R : Value → World → Prop) (v0 v1 : Value) (W : World) : bodyK PR CB Try.f57 S.rostrumref1_Reader_Bytes.hint [v0, v1] R W = S.rostrumref1_Reader_Bytes.body R v0 v1 W := by kernel_rfl
theorem S.rostrumref1_Reader_Bytes.fn : PR.funcs[F_rostrumref1_Reader_Bytes]? = some Try.f57 := by kernel_rfl
theorem S.rostrumref1_Reader_Bytes.call {R : Value → World → Prop} {v0 v1 : Value} {W : World} (h : S.rostrumref1_Reader_Bytes.body R v0 v1 W) : callK PR F_rostrumref1_Reader_Bytes [v0, v1] R W :=
  callK_of_body (g := F_rostrumref1_Reader_Bytes) (fn := Try.f57) (args := [v0, v1]) (R := R) (w := W) mixed CBok S.rostrumref1_Reader_Bytes.fn S.rostrumref1_Reader_Bytes.hint (by rw [S.rostrumref1_Reader_Bytes.ok]; exact h)
/-! ### rostrum/vec.Rep (58) -/
def S.vec_Rep.body (R : Value → World → Prop) (v0 : Value) (W : World) : Prop :=
  okF (binP .geq v0 (.int .i64 0)) fun v4 =>
  gdK (wantd v4 true) (fun k W => k v0 W) (fun v6 W =>
  gdK (wantd v4 true) (fun k W => okF (binP .lss v6 (.int .i64 7)) fun v => k v W) (fun v7 W =>
  okF (pickP v4 v7 (.bool false)) fun v8 =>
  R v8 W) W) W
def S.vec_Rep.hint : Hint := (.two .nil (.two .nil .nil))
theorem S.vec_Rep.ok (R : Value → World → Prop) (v0 : Value) (W : World) : bodyK PR CB Try.f58 S.vec_Rep.hint [v0] R W = S.vec_Rep.body R v0 W := by kernel_rfl
theorem S.vec_Rep.fn : PR.funcs[F_vec_Rep]? = some Try.f58 := by kernel_rfl
theorem S.vec_Rep.call {R : Value → World → Prop} {v0 : Value} {W : World} (h : S.vec_Rep.body R v0 W) : callK PR F_vec_Rep [v0] R W :=
  callK_of_body (g := F_vec_Rep) (fn := Try.f58) (args := [v0]) (R := R) (w := W) mixed CBok S.vec_Rep.fn S.vec_Rep.hint (by rw [S.vec_Rep.ok]; exact h)
/-! ### cmp.isNaN[int64] (59) -/
def S.cmp_isNaN_int64.body (R : Value → World → Prop) (v0 : Value) (W : World) : Prop :=
  okF (binP .neq v0 v0) fun v5 =>
  R v5 W
def S.cmp_isNaN_int64.hint : Hint := (.two .nil (.two .nil .nil))
theorem S.cmp_isNaN_int64.ok (R : Value → World → Prop) (v0 : Value) (W : World) : bodyK PR CB Try.f59 S.cmp_isNaN_int64.hint [v0] R W = S.cmp_isNaN_int64.body R v0 W := by kernel_rfl
theorem S.cmp_isNaN_int64.fn : PR.funcs[F_cmp_isNaN_int64]? = some Try.f59 := by kernel_rfl
theorem S.cmp_isNaN_int64.call {R : Value → World → Prop} {v0 : Value} {W : World} (h : S.cmp_isNaN_int64.body R v0 W) : callK PR F_cmp_isNaN_int64 [v0] R W :=
  callK_of_body (g := F_cmp_isNaN_int64) (fn := Try.f59) (args := [v0]) (R := R) (w := W) mixed CBok S.cmp_isNaN_int64.fn S.cmp_isNaN_int64.hint (by rw [S.cmp_isNaN_int64.ok]; exact h)
/-! ### cmp.isNaN[int] (60) -/
def S.cmp_isNaN_int.body (R : Value → World → Prop) (v0 : Value) (W : World) : Prop :=
  okF (binP .neq v0 v0) fun v5 =>
  R v5 W
def S.cmp_isNaN_int.hint : Hint := (.two .nil (.two .nil .nil))
theorem S.cmp_isNaN_int.ok (R : Value → World → Prop) (v0 : Value) (W : World) : bodyK PR CB Try.f60 S.cmp_isNaN_int.hint [v0] R W = S.cmp_isNaN_int.body R v0 W := by kernel_rfl
theorem S.cmp_isNaN_int.fn : PR.funcs[F_cmp_isNaN_int]? = some Try.f60 := by kernel_rfl
theorem S.cmp_isNaN_int.call {R : Value → World → Prop} {v0 : Value} {W : World} (h : S.cmp_isNaN_int.body R v0 W) : callK PR F_cmp_isNaN_int [v0] R W :=
  callK_of_body (g := F_cmp_isNaN_int) (fn := Try.f60) (args := [v0]) (R := R) (w := W) mixed CBok S.cmp_isNaN_int.fn S.cmp_isNaN_int.hint (by rw [S.cmp_isNaN_int.ok]; exact h)
/-! ### (*rostrum/pack.Reader).fail (61) -/
def S.pack_Reader_fail.body (R : Value → World → Prop) (v0 : Value) (W : World) : Prop :=
  okF (nilP v0) fun v5 =>
  okF (addrF 0 v5) fun v6 =>
  efK PR (Instr.storeAt T_s_uint8 v6 (.slice none 0 0)) (fun _ W =>
  okF (nilP v0) fun v7 =>
  okF (addrF 1 v7) fun v8 =>
  efK PR (Instr.storeAt T_bool v8 (.bool true)) (fun _ W =>
  R (.int .i64 0) W) W) W
def S.pack_Reader_fail.hint : Hint := (.two .nil (.two .nil (.two .nil .nil)))
theorem S.pack_Reader_fail.ok (R : Value → World → Prop) (v0 : Value) (W : World) : bodyK PR CB Try.f61 S.pack_Reader_fail.hint [v0] R W = S.pack_Reader_fail.body R v0 W := by kernel_rfl
theorem S.pack_Reader_fail.fn : PR.funcs[F_pack_Reader_fail]? = some Try.f61 := by kernel_rfl
theorem S.pack_Reader_fail.call {R : Value → World → Prop} {v0 : Value} {W : World} (h : S.pack_Reader_fail.body R v0 W) : callK PR F_pack_Reader_fail [v0] R W :=
  callK_of_body (g := F_pack_Reader_fail) (fn := Try.f61) (args := [v0]) (R := R) (w := W) mixed CBok S.pack_Reader_fail.fn S.pack_Reader_fail.hint (by rw [S.pack_Reader_fail.ok]; exact h)
/-! ### (*rostrum/rostrumref1.Reader).raw (62) -/
def S.rostrumref1_Reader_raw.j1 (R : Value → World → Prop) (W : World) : Prop :=
  R (.tuple #[(.int .u64 0), (.bool false)]) W
def S.rostrumref1_Reader_raw.l1 (R : Value → World → Prop) (J1 : List Value → World → Prop) (K1 : List Value → World → Prop) (x0 x4 x5 : Value) (W : World) : Prop :=
  okF (binP .lss x5 (.int .i64 10)) fun v8 =>
  gdK (wantd v8 true) (fun k W => k x0 W) (fun v10 W =>
  gdK (wantd v8 true) (fun k W => okF (nilP v10) fun v => k v W) (fun v11 W =>
  gdK (wantd v8 true) (fun k W => okF (addrF 1 v11) fun v => k v W) (fun v12 W =>
  gdK (wantd v8 true) (fun k W => rdK PR (Instr.loadAt T_int v12) k W) (fun v13 W =>
  gdK (wantd v8 true) (fun k W => k x5 W) (fun v14 W =>
  gdK (wantd v8 true) (fun k W => okF (binP .add v13 v14) fun v => k v W) (fun v15 W =>
  gdK (wantd v8 true) (fun k W => k x0 W) (fun v16 W =>
  gdK (wantd v8 true) (fun k W => okF (nilP v16) fun v => k v W) (fun v17 W =>
  gdK (wantd v8 true) (fun k W => okF (addrF 0 v17) fun v => k v W) (fun v18 W =>
  gdK (wantd v8 true) (fun k W => rdK PR (Instr.loadAt T_s_uint8 v18) k W) (fun v19 W =>
  gdK (wantd v8 true) (fun k W => okF (lenP (.slice T_uint8) v19) fun v => k v W) (fun v20 W =>
  gdK (wantd v8 true) (fun k W => okF (binP .lss v15 v20) fun v => k v W) (fun v21 W =>
  okF (pickP v8 v21 (.bool false)) fun v22 =>
  ifK v22 (
  okF (nilP x0) fun v26 =>
  okF (addrF 0 v26) fun v27 =>
  rdK PR (Instr.loadAt T_s_uint8 v27) (fun v28 W =>
  okF (nilP x0) fun v30 =>
  okF (addrF 1 v30) fun v31 =>
  rdK PR (Instr.loadAt T_int v31) (fun v32 W =>
  okF (binP .add v32 x5) fun v34 =>
  okF (idxS 1 v28 v34) fun v35 =>
  rdK PR (Instr.loadAt T_uint8 v35) (fun v36 W =>
  okF (binP .eql x5 (.int .i64 9)) fun v38 =>
  gdK (wantd v38 true) (fun k W => k v36 W) (fun v40 W =>
  gdK (wantd v38 true) (fun k W => okF (binP .gtr v40 (.int .u8 1)) fun v => k v W) (fun v41 W =>
  okF (pickP v38 v41 (.bool false)) fun v42 =>
  ifK v42 (
  R (.tuple #[(.int .u64 0), (.bool false)]) W) (
  okF (binP .and v36 (.int .u8 127)) fun v45 =>
  okF (cvtP (.int .u64) v45) fun v46 =>
  okF (binP .mul (.int .i64 7) x5) fun v48 =>
  okF (cvtP (.int .u64) v48) fun v49 =>
  okF (binP .shl v46 v49) fun v50 =>
  okF (binP .or x4 v50) fun v51 =>
  okF (binP .lss v36 (.int .u8 128)) fun v53 =>
  ifK v53 (
  okF (nilP x0) fun v56 =>
  okF (addrF 1 v56) fun v57 =>
  rdK PR (Instr.loadAt T_int v57) (fun v58 W =>
  okF (binP .add v58 x5) fun v60 =>
  okF (binP .add v60 (.int .i64 1)) fun v61 =>
  okF (nilP x0) fun v62 =>
  okF (addrF 1 v62) fun v63 =>
  efK PR (Instr.storeAt T_int v63 v61) (fun _ W =>
  okF (binP .gtr v36 (.int .u8 0)) fun v66 =>
  gdK (wantd v66 false) (fun k W => k x5 W) (fun v68 W =>
  gdK (wantd v66 false) (fun k W => okF (binP .eql v68 (.int .i64 0)) fun v => k v W) (fun v69 W =>
  okF (pickP v66 (.bool true) v69) fun v70 =>
  R (.tuple #[v51, v70]) W) W) W) W) W) (
  okF (binP .add x5 (.int .i64 1)) fun v24 =>
  K1 [x0, v51, v24] W))) W) W) W) W) (tick W)) (
  J1 [] W)) W) W) W) W) W) W) W) W) W) W) W) (tick W)
def S.rostrumref1_Reader_raw.body (R : Value → World → Prop) (v0 : Value) (W : World) : Prop :=
  joinK (fun s W => S.rostrumref1_Reader_raw.j1 R W) (fun J1 =>
  loopK (fun K1 s W => S.rostrumref1_Reader_raw.l1 R J1 K1 (nthv s 0) (nthv s 1) (nthv s 2) W) [v0, (.int .u64 0), (.int .i64 0)] W)
def S.rostrumref1_Reader_raw.hint : Hint := (.two .nil (.two .nil (.at [] (.two .nil (.at [0, 4, 5] (.two (.two .nil (.two .nil .nil)) (.two (.two .nil (.two (.two .nil (.two (.two .nil .nil) .nil)) (.two .nil (.two .nil (.two (.two .nil (.two .nil .nil)) .nil))))) .nil)) .nil)) (.two .nil .nil))))
theorem S.rostrumref1_Reader_raw.ok (R : Value → World → Prop) (v0 : Value) (W : World) : bodyK PR CB Try.f62 S.rostrumref1_Reader_raw.hint [v0] R W = S.rostrumref1_Reader_raw.body R v0 W := by kernel_rfl
theorem S.rostrumref1_Reader_raw.fn : PR.funcs[F_rostrumref1_Reader_raw]? = some Try.f62 := by kernel_rfl
theorem S.rostrumref1_Reader_raw.call {R : Value → World → Prop} {v0 : Value} {W : World} (h : S.rostrumref1_Reader_raw.body R v0 W) : callK PR F_rostrumref1_Reader_raw [v0] R W :=
  callK_of_body (g := F_rostrumref1_Reader_raw) (fn := Try.f62) (args := [v0]) (R := R) (w := W) mixed CBok S.rostrumref1_Reader_raw.fn S.rostrumref1_Reader_raw.hint (by rw [S.rostrumref1_Reader_raw.ok]; exact h)
/-! ### (*rostrum/pack.Reader).Bytes (63) -/
def S.pack_Reader_Bytes.body (R : Value → World → Prop) (v0 v1 : Value) (W : World) : Prop :=
  callK PR F_pack_Reader_Num [v0, (.int .i64 0), v1] (fun v9 W =>
  okF (nilP v0) fun v12 =>
  okF (addrF 0 v12) fun v13 =>
  rdK PR (Instr.loadAt T_s_uint8 v13) (fun v14 W =>
  okF (lenP (.slice T_uint8) v14) fun v15 =>
  okF (binP .gtr v9 v15) fun v16 =>
  ifK v16 (
  callK PR F_pack_Reader_fail [v0] (fun v18 W =>
  R (.slice none 0 0) W) W) (
  okF (nilP v0) fun v20 =>
  okF (addrF 0 v20) fun v21 =>
  rdK PR (Instr.loadAt T_s_uint8 v21) (fun v22 W =>
  okF (slcS 1 v22 none (some v9) none) fun v24 =>
  callK PR F_bytes_Clone [v24] (fun v25 W =>
  okF (nilP v0) fun v28 =>
  okF (addrF 0 v28) fun v29 =>
  rdK PR (Instr.loadAt T_s_uint8 v29) (fun v30 W =>
  okF (slcS 1 v30 (some v9) none none) fun v32 =>
  okF (nilP v0) fun v33 =>
  okF (addrF 0 v33) fun v34 =>
  efK PR (Instr.storeAt T_s_uint8 v34 v32) (fun _ W =>
  R v25 W) W) W) W) W)) W) W
def S.pack_Reader_Bytes.hint : Hint := (.two .nil (.two .nil (.two (.two .nil (.two (.two .nil (.two .nil .nil)) .nil)) (.two .nil (.two .nil (.two .nil .nil))))))
theorem S.pack_Reader_Bytes.ok (R : Value → World → Prop) (v0 v1 : Value) (W : World) : bodyK PR CB Try.f63 S.pack_Reader_Bytes.hint [v0, v1] R W = S.pack_Reader_Bytes.body R v0 v1 W := by kernel_rfl
theorem S.pack_Reader_Bytes.fn : PR.funcs[F_pack_Reader_Bytes]? = some Try.f63 := by kernel_rfl
theorem S.pack_Reader_Bytes.call {R : Value → World → Prop} {v0 v1 : Value} {W : World} (h : S.pack_Reader_Bytes.body R v0 v1 W) : callK PR F_pack_Reader_Bytes [v0, v1] R W :=
  callK_of_body (g := F_pack_Reader_Bytes) (fn := Try.f63) (args := [v0, v1]) (R := R) (w := W) mixed CBok S.pack_Reader_Bytes.fn S.pack_Reader_Bytes.hint (by rw [S.pack_Reader_Bytes.ok]; exact h)
/-! ### rostrum/pack.Bytes (64) -/
def S.pack_Bytes.body (R : Value → World → Prop) (v0 v1 : Value) (W : World) : Prop :=
  okF (lenP (.slice T_uint8) v1) fun v7 =>
  callK PR F_pack_Num [v0, v7] (fun v8 W =>
  efK PR (Builtin.append_ #[T_s_uint8, T_s_uint8] T_s_uint8 #[v8, v1]) (fun v10 W =>
  R v10 W) W) W
def S.pack_Bytes.hint : Hint := (.two .nil (.two .nil .nil))
theorem S.pack_Bytes.ok (R : Value → World → Prop) (v0 v1 : Value) (W : World) : bodyK PR CB Try.f64 S.pack_Bytes.hint [v0, v1] R W = S.pack_Bytes.body R v0 v1 W := by kernel_rfl
theorem S.pack_Bytes.fn : PR.funcs[F_pack_Bytes]? = some Try.f64 := by kernel_rfl
theorem S.pack_Bytes.call {R : Value → World → Prop} {v0 v1 : Value} {W : World} (h : S.pack_Bytes.body R v0 v1 W) : callK PR F_pack_Bytes [v0, v1] R W :=
  callK_of_body (g := F_pack_Bytes) (fn := Try.f64) (args := [v0, v1]) (R := R) (w := W) mixed CBok S.pack_Bytes.fn S.pack_Bytes.hint (by rw [S.pack_Bytes.ok]; exact h)
end Go.Proofs.Ytfmidjlgpakilaa
