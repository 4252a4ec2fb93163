import Derived.Test.YthladblmjoaeoaaBase
namespace Go.Proofs.Ythladblmjoaeoaa
set_option linter.unusedVariables false
set_option linter.unusedSimpArgs false
open Go.Eng
/-! ### rostrum/rostrumlaw5.awake (14) -/
def S.rostrumlaw5_awake.body (R : Value → World → Prop) (W : World) : Prop :=
  callK PR F_disk_New [(.int .i64 64)] (fun v12 W =>
  okF (extP 0 v12) fun v13 =>
  okF (extP 1 v12) fun v14 =>
  okF (binP .neq v14 (.int .i64 0)) fun v16 =>
  gdK (wantd v16 false) (fun k W => k v13 W) (fun v18 W =>
  gdK (wantd v16 false) (fun k W => okF (eqP (.pointer T_disk_Disk) .eql v18 (.pointer none)) fun v => k v W) (fun v19 W =>
  okF (pickP v16 (.bool true) v19) fun v20 =>
  ifK v20 (
  R (.bool false) W) (
  efK PR (Instr.buildSlice T_s_uint8 2 #[(0, (.int .u8 120)), (1, (.int .u8 121))]) (fun v22 W =>
  efK PR (convert T_s_uint8 T_s_uint8 v22) (fun v23 W =>
  callK PR F_disk_Disk_Append [v13, (.int .i64 0), v23] (fun v24 W =>
  efK PR (Instr.buildSlice T_s_uint8 2 #[(0, (.int .u8 122)), (1, (.int .u8 122))]) (fun v26 W =>
  efK PR (convert T_s_uint8 T_s_uint8 v26) (fun v27 W =>
  callK PR F_disk_Disk_Append [v13, (.int .i64 1), v27] (fun v28 W =>
  callK PR F_disk_Disk_Crash [v13, (.int .i64 1), (.int .i64 1)] (fun v30 W =>
  callK PR F_disk_Disk_Read [v13, (.int .i64 0)] (fun v33 W =>
  okF (extP 0 v33) fun v34 =>
  okF (extP 1 v33) fun v35 =>
  callK PR F_disk_Disk_On [v13] (fun v37 W =>
  callK PR F_disk_Disk_Read [v13, (.int .i64 0)] (fun v40 W =>
  okF (extP 0 v40) fun v41 =>
  okF (extP 1 v40) fun v42 =>
  callK PR F_disk_Disk_Read [v13, (.int .i64 1)] (fun v45 W =>
  okF (extP 0 v45) fun v46 =>
  okF (extP 1 v45) fun v47 =>
  okF (binP .eql v24 (.int .i64 0)) fun v49 =>
  gdK (wantd v49 true) (fun k W => k v28 W) (fun v51 W =>
  gdK (wantd v49 true) (fun k W => okF (binP .eql v51 (.int .i64 0)) fun v => k v W) (fun v52 W =>
  okF (pickP v49 v52 (.bool false)) fun v53 =>
  gdK (wantd v53 true) (fun k W => k v35 W) (fun v55 W =>
  gdK (wantd v53 true) (fun k W => okF (binP .eql v55 (.int .i64 7)) fun v => k v W) (fun v56 W =>
  okF (pickP v53 v56 (.bool false)) fun v57 =>
  gdK (wantd v57 true) (fun k W => k v42 W) (fun v59 W =>
  gdK (wantd v57 true) (fun k W => okF (binP .eql v59 (.int .i64 0)) fun v => k v W) (fun v60 W =>
  okF (pickP v57 v60 (.bool false)) fun v61 =>
  gdK (wantd v61 true) (fun k W => k v47 W) (fun v63 W =>
  gdK (wantd v61 true) (fun k W => okF (binP .eql v63 (.int .i64 0)) fun v => k v W) (fun v64 W =>
  okF (pickP v61 v64 (.bool false)) fun v65 =>
  gdK (wantd v65 true) (fun k W => k v41 W) (fun v67 W =>
  gdK (wantd v65 true) (fun k W => rdK PR (convert T_s_uint8 T_string v67) k W) (fun v68 W =>
  gdK (wantd v65 true) (fun k W => okF (binP .eql v68 (.string ⟨#[120, 121]⟩)) fun v => k v W) (fun v69 W =>
  okF (pickP v65 v69 (.bool false)) fun v70 =>
  gdK (wantd v70 true) (fun k W => k v46 W) (fun v72 W =>
  gdK (wantd v70 true) (fun k W => rdK PR (convert T_s_uint8 T_string v72) k W) (fun v73 W =>
  gdK (wantd v70 true) (fun k W => okF (binP .eql v73 (.string ⟨#[122]⟩)) fun v => k v W) (fun v74 W =>
  okF (pickP v70 v74 (.bool false)) fun v75 =>
  gdK (wantd v75 true) (fun k W => k v13 W) (fun v77 W =>
  gdK (wantd v75 true) (fun k W => callK PR F_disk_Disk_Lives [v77] k W) (fun v78 W =>
  gdK (wantd v75 true) (fun k W => okF (binP .eql v78 (.int .i64 2)) fun v => k v W) (fun v79 W =>
  okF (pickP v75 v79 (.bool false)) fun v80 =>
  gdK (wantd v80 true) (fun k W => k v13 W) (fun v82 W =>
  gdK (wantd v80 true) (fun k W => callK PR F_disk_Disk_Power [v82] k W) (fun v83 W =>
  okF (pickP v80 v83 (.bool false)) fun v84 =>
  R v84 W) W) W) W) W) W) W) W) W) W) W) W) W) W) W) W) W) W) W) W) W) W) W) W) W) W) W) W) W) W) W)) W) W) W
def S.rostrumlaw5_awake.hint : Hint := (.two .nil (.two .nil (.two (.two .nil (.two (.two .nil .nil) .nil)) (.two .nil (.two .nil (.two .nil (.two .nil (.two .nil (.two .nil (.two .nil .nil))))))))))
theorem S.rostrumlaw5_awake.ok (R : Value → World → Prop) (W : World) : bodyK PR CB Try.f14 S.rostrumlaw5_awake.hint [] R W = S.rostrumlaw5_awake.body R  W := by kernel_rfl
theorem S.rostrumlaw5_awake.fn : PR.funcs[F_rostrumlaw5_awake]? = some Try.f14 := by kernel_rfl
theorem S.rostrumlaw5_awake.call {R : Value → World → Prop} {W : World} (h : S.rostrumlaw5_awake.body R  W) : callK PR F_rostrumlaw5_awake [] R W :=
  callK_of_body (g := F_rostrumlaw5_awake) (fn := Try.f14) (args := []) (R := R) (w := W) mixed CBok S.rostrumlaw5_awake.fn S.rostrumlaw5_awake.hint (by rw [S.rostrumlaw5_awake.ok]; exact h)
/-! ### rostrum/rostrumlaw5.DiskOrder (3) -/
def S.rostrumlaw5_DiskOrder.l1 (R : Value → World → Prop) (K1 : List Value → World → Prop) (x7 x11 x14 : Value) (W : World) : Prop :=
  okF (binP .lss x14 (.int .i64 4)) fun v115 =>
  ifK v115 (
  callK PR F_disk_Disk_Read [x7, x14] (fun v121 W =>
  okF (extP 0 v121) fun v122 =>
  okF (extP 1 v121) fun v123 =>
  rdK PR (convert T_s_uint8 T_string v122) (fun v125 W =>
  okF (idxA 4 1 x11 x14) fun v127 =>
  rdK PR (Instr.loadAt T_string v127) (fun v128 W =>
  okF (binP .neq v125 v128) fun v129 =>
  ifK v129 (
  R (.bool false) W) (
  okF (binP .add x14 (.int .i64 1)) fun v117 =>
  K1 [x7, x11, v117] W)) W) (tick W)) W) (
  R (.bool true) W)
def S.rostrumlaw5_DiskOrder.j2 (R : Value → World → Prop) (x7 x11 : Value) (W : World) : Prop :=
  loopK (fun K1 s W => S.rostrumlaw5_DiskOrder.l1 R K1 (nthv s 0) (nthv s 1) (nthv s 2) W) [x7, x11, (.int .i64 0)] W
def S.rostrumlaw5_DiskOrder.j3 (K2 : List Value → World → Prop) (x0 x1 x2 x7 x11 x12 x13 : Value) (W : World) : Prop :=
  okF (idxS 6 x0 x12) fun v98 =>
  okF (addrF 1 v98) fun v99 =>
  rdK PR (Instr.loadAt T_int v99) (fun v100 W =>
  okF (binP .and v100 (.int .i64 3)) fun v101 =>
  okF (idxS 6 x0 x12) fun v104 =>
  okF (addrF 1 v104) fun v105 =>
  rdK PR (Instr.loadAt T_int v105) (fun v106 W =>
  okF (binP .and v106 (.int .i64 3)) fun v107 =>
  okF (idxA 4 1 x11 v107) fun v108 =>
  rdK PR (Instr.loadAt T_string v108) (fun v109 W =>
  rdK PR (convert T_s_uint8 T_string x13) (fun v111 W =>
  okF (binP .add v109 v111) fun v112 =>
  okF (idxA 4 1 x11 v101) fun v113 =>
  efK PR (Instr.storeAt T_string v113 v112) (fun _ W =>
  okF (binP .add x12 (.int .i64 1)) fun v73 =>
  K2 [x0, x1, x2, x7, x11, v73] W) W) W) W) W) (tick W)
def S.rostrumlaw5_DiskOrder.l2 (J2 : List Value → World → Prop) (K2 : List Value → World → Prop) (x0 x1 x2 x7 x11 x12 : Value) (W : World) : Prop :=
  okF (lenP (.slice T_rostrumlaw5_Act) x0) fun v70 =>
  okF (binP .lss x12 v70) fun v71 =>
  ifK v71 (
  okF (idxS 6 x0 x12) fun v76 =>
  okF (addrF 5 v76) fun v77 =>
  rdK PR (Instr.loadAt T_s_uint8 v77) (fun v78 W =>
  joinK (fun s W => S.rostrumlaw5_DiskOrder.j3 K2 (nthv s 0) (nthv s 1) (nthv s 2) (nthv s 3) (nthv s 4) (nthv s 5) (nthv s 6) W) (fun J3 =>
  okF (binP .geq x12 x1) fun v81 =>
  ifK v81 (
  okF (binP .gtr x12 x1) fun v84 =>
  gdK (wantd v84 false) (fun k W => k x2 W) (fun v86 W =>
  gdK (wantd v84 false) (fun k W => okF (binP .leq v86 (.int .i64 0)) fun v => k v W) (fun v87 W =>
  okF (pickP v84 (.bool true) v87) fun v88 =>
  ifK v88 (
  J3 [x0, x1, x2, x7, x11, x12, (.slice none 0 0)] W) (
  okF (lenP (.slice T_uint8) v78) fun v91 =>
  okF (binP .lss x2 v91) fun v92 =>
  ifK v92 (
  okF (slcS 1 v78 none (some x2) none) fun v95 =>
  J3 [x0, x1, x2, x7, x11, x12, v95] W) (
  J3 [x0, x1, x2, x7, x11, x12, v78] W))) W) W) (
  J3 [x0, x1, x2, x7, x11, x12, v78] W))) W) (
  J2 [x7, x11] W)
def S.rostrumlaw5_DiskOrder.j1 (R : Value → World → Prop) (x0 x1 x2 x7 : Value) (W : World) : Prop :=
  callK PR F_disk_Disk_Crash [x7, x1, x2] (fun v64 W =>
  callK PR F_disk_Disk_On [x7] (fun v66 W =>
  okF (bldP (fun i => some (i * 1, 1)) [.string ⟨#[]⟩, .string ⟨#[]⟩, .string ⟨#[]⟩, .string ⟨#[]⟩] []) fun v67 =>
  efK PR (Instr.alloc T_a4_string true (.tuple #[])) (fun v11 W =>
  efK PR (Instr.storeAt T_a4_string v11 v67) (fun _ W =>
  joinK (fun s W => S.rostrumlaw5_DiskOrder.j2 R (nthv s 0) (nthv s 1) W) (fun J2 =>
  loopK (fun K2 s W => S.rostrumlaw5_DiskOrder.l2 J2 K2 (nthv s 0) (nthv s 1) (nthv s 2) (nthv s 3) (nthv s 4) (nthv s 5) W) [x0, x1, x2, x7, v11, (.int .i64 0)] W)) W) W) W) W
def S.rostrumlaw5_DiskOrder.l3 (R : Value → World → Prop) (J1 : List Value → World → Prop) (K3 : List Value → World → Prop) (x0 x1 x2 x7 x9 x10 : Value) (W : World) : Prop :=
  okF (lenP (.slice T_rostrumlaw5_Act) x0) fun v28 =>
  okF (binP .lss x10 v28) fun v29 =>
  ifK v29 (
  okF (idxS 6 x0 x10) fun v34 =>
  okF (addrF 5 v34) fun v35 =>
  rdK PR (Instr.loadAt T_s_uint8 v35) (fun v36 W =>
  okF (lenP (.slice T_uint8) v36) fun v37 =>
  okF (binP .gtr v37 (.int .i64 200)) fun v38 =>
  ifK v38 (
  R (.bool true) W) (
  okF (idxS 6 x0 x10) fun v42 =>
  okF (addrF 1 v42) fun v43 =>
  rdK PR (Instr.loadAt T_int v43) (fun v44 W =>
  okF (binP .and v44 (.int .i64 3)) fun v45 =>
  okF (idxS 6 x0 x10) fun v48 =>
  okF (addrF 5 v48) fun v49 =>
  rdK PR (Instr.loadAt T_s_uint8 v49) (fun v50 W =>
  callK PR F_disk_Disk_Append [x7, v45, v50] (fun v51 W =>
  okF (binP .neq v51 (.int .i64 0)) fun v52 =>
  ifK v52 (
  R (.bool false) W) (
  okF (idxS 6 x0 x10) fun v56 =>
  okF (addrF 5 v56) fun v57 =>
  rdK PR (Instr.loadAt T_s_uint8 v57) (fun v58 W =>
  okF (lenP (.slice T_uint8) v58) fun v59 =>
  okF (binP .add x9 v59) fun v60 =>
  okF (binP .add x10 (.int .i64 1)) fun v31 =>
  K3 [x0, x1, x2, x7, v60, v31] W) W)) W) W) (tick W))) W) (
  J1 [x0, x1, x2, x7] W)
def S.rostrumlaw5_DiskOrder.body (R : Value → World → Prop) (v0 v1 v2 : Value) (W : World) : Prop :=
  callK PR F_rostrumlaw5_awake [] (fun v17 W =>
  okF (unP .not v17) fun v18 =>
  ifK v18 (
  R (.bool false) W) (
  okF (lenP (.slice T_rostrumlaw5_Act) v0) fun v20 =>
  okF (binP .gtr v20 (.int .i64 30)) fun v21 =>
  ifK v21 (
  R (.bool true) W) (
  callK PR F_disk_New [(.int .i64 65536)] (fun v23 W =>
  okF (extP 0 v23) fun v24 =>
  okF (extP 1 v23) fun v25 =>
  joinK (fun s W => S.rostrumlaw5_DiskOrder.j1 R (nthv s 0) (nthv s 1) (nthv s 2) (nthv s 3) W) (fun J1 =>
  loopK (fun K3 s W => S.rostrumlaw5_DiskOrder.l3 R J1 K3 (nthv s 0) (nthv s 1) (nthv s 2) (nthv s 3) (nthv s 4) (nthv s 5) W) [v0, v1, v2, v24, (.int .i64 0), (.int .i64 0)] W)) W))) W
def S.rostrumlaw5_DiskOrder.hint : Hint := (.two .nil (.two (.two .nil (.two (.two .nil .nil) .nil)) (.two (.two .nil (.two (.two .nil .nil) .nil)) (.two .nil (.two .nil (.at [0, 1, 2, 7] (.two .nil (.at [0, 1, 2, 7, 9, 10] (.two (.two .nil (.two .nil .nil)) (.two (.two (.two .nil (.two (.two .nil .nil) .nil)) (.two (.two .nil (.two (.two .nil .nil) .nil)) .nil)) .nil)) .nil)) (.two .nil (.two .nil (.two .nil (.at [7, 11] (.two .nil (.at [0, 1, 2, 7, 11, 12] (.two (.two .nil (.two .nil .nil)) (.two (.two .nil (.at [0, 1, 2, 7, 11, 12, 13] (.two .nil (.two (.two .nil (.two .nil (.two .nil (.two .nil .nil)))) .nil)) .nil)) .nil)) .nil)) (.two (.two .nil (.at [7, 11, 14] (.two (.two .nil (.two .nil .nil)) (.two (.two .nil (.two .nil (.two (.two .nil .nil) .nil))) .nil)) .nil)) (.two .nil .nil))))))))))))
theorem S.rostrumlaw5_DiskOrder.ok (R : Value → World → Prop) (v0 v1 v2 : Value) (W : World) : bodyK PR CB Try.f3 S.rostrumlaw5_DiskOrder.hint [v0, v1, v2] R W = S.rostrumlaw5_DiskOrder.body R v0 v1 v2 W := by kernel_rfl
theorem S.rostrumlaw5_DiskOrder.fn : PR.funcs[F_rostrumlaw5_DiskOrder]? = some Try.f3 := by kernel_rfl
theorem S.rostrumlaw5_DiskOrder.call {R : Value → World → Prop} {v0 v1 v2 : Value} {W : World} (h : S.rostrumlaw5_DiskOrder.body R v0 v1 v2 W) : callK PR F_rostrumlaw5_DiskOrder [v0, v1, v2] R W :=
  callK_of_body (g := F_rostrumlaw5_DiskOrder) (fn := Try.f3) (args := [v0, v1, v2]) (R := R) (w := W) mixed CBok S.rostrumlaw5_DiskOrder.fn S.rostrumlaw5_DiskOrder.hint (by rw [S.rostrumlaw5_DiskOrder.ok]; exact h)
/-! ### rostrum/rostrumlaw5.DiskApart (4) -/
def S.rostrumlaw5_DiskApart.body (R : Value → World → Prop) (v0 : Value) (W : World) : Prop :=
  callK PR F_rostrumlaw5_awake [] (fun v10 W =>
  okF (unP .not v10) fun v11 =>
  ifK v11 (
  R (.bool false) W) (
  okF (lenP (.slice T_uint8) v0) fun v13 =>
  okF (binP .lss v13 (.int .i64 1)) fun v14 =>
  gdK (wantd v14 false) (fun k W => k v0 W) (fun v16 W =>
  gdK (wantd v14 false) (fun k W => okF (lenP (.slice T_uint8) v16) fun v => k v W) (fun v17 W =>
  gdK (wantd v14 false) (fun k W => okF (binP .gtr v17 (.int .i64 100)) fun v => k v W) (fun v18 W =>
  okF (pickP v14 (.bool true) v18) fun v19 =>
  ifK v19 (
  R (.bool true) W) (
  callK PR F_disk_New [(.int .i64 1000)] (fun v21 W =>
  okF (extP 0 v21) fun v22 =>
  okF (extP 1 v21) fun v23 =>
  efK PR (Instr.buildSlice T_s_uint8 0 #[]) (fun v24 W =>
  efK PR (Builtin.append_ #[T_s_uint8, T_s_uint8] T_s_uint8 #[v24, v0]) (fun v26 W =>
  callK PR F_disk_Disk_Append [v22, (.int .i64 3), v26] (fun v29 W =>
  okF (idxS 1 v26 (.int .i64 0)) fun v31 =>
  rdK PR (Instr.loadAt T_uint8 v31) (fun v32 W =>
  okF (binP .add v32 (.int .u8 1)) fun v33 =>
  okF (idxS 1 v26 (.int .i64 0)) fun v34 =>
  efK PR (Instr.storeAt T_uint8 v34 v33) (fun _ W =>
  callK PR F_disk_Disk_Read [v22, (.int .i64 3)] (fun v37 W =>
  okF (extP 0 v37) fun v38 =>
  okF (extP 1 v37) fun v39 =>
  okF (lenP (.slice T_uint8) v38) fun v41 =>
  okF (lenP (.slice T_uint8) v0) fun v43 =>
  okF (binP .neq v41 v43) fun v44 =>
  ifK v44 (
  R (.bool false) W) (
  okF (idxS 1 v38 (.int .i64 0)) fun v46 =>
  rdK PR (Instr.loadAt T_uint8 v46) (fun v47 W =>
  okF (binP .add v47 (.int .u8 1)) fun v48 =>
  okF (idxS 1 v38 (.int .i64 0)) fun v49 =>
  efK PR (Instr.storeAt T_uint8 v49 v48) (fun _ W =>
  callK PR F_disk_Disk_Read [v22, (.int .i64 3)] (fun v52 W =>
  okF (extP 0 v52) fun v53 =>
  okF (extP 1 v52) fun v54 =>
  okF (binP .eql v54 (.int .i64 0)) fun v56 =>
  gdK (wantd v56 true) (fun k W => k v53 W) (fun v58 W =>
  gdK (wantd v56 true) (fun k W => rdK PR (convert T_s_uint8 T_string v58) k W) (fun v59 W =>
  gdK (wantd v56 true) (fun k W => k v0 W) (fun v60 W =>
  gdK (wantd v56 true) (fun k W => rdK PR (convert T_s_uint8 T_string v60) k W) (fun v61 W =>
  gdK (wantd v56 true) (fun k W => okF (binP .eql v59 v61) fun v => k v W) (fun v62 W =>
  okF (pickP v56 v62 (.bool false)) fun v63 =>
  R v63 W) W) W) W) W) W) W) W) W)) W) W) W) W) W) W) W)) W) W) W)) W
def S.rostrumlaw5_DiskApart.hint : Hint := (.two .nil (.two (.two .nil (.two (.two .nil .nil) .nil)) (.two (.two .nil (.two (.two .nil .nil) .nil)) (.two .nil (.two .nil (.two .nil (.two .nil (.two .nil (.two (.two .nil (.two (.two .nil .nil) .nil)) (.two .nil (.two .nil (.two .nil .nil))))))))))))
theorem S.rostrumlaw5_DiskApart.ok (R : Value → World → Prop) (v0 : Value) (W : World) : bodyK PR CB Try.f4 S.rostrumlaw5_DiskApart.hint [v0] R W = S.rostrumlaw5_DiskApart.body R v0 W := by kernel_rfl
theorem S.rostrumlaw5_DiskApart.fn : PR.funcs[F_rostrumlaw5_DiskApart]? = some Try.f4 := by kernel_rfl
theorem S.rostrumlaw5_DiskApart.call {R : Value → World → Prop} {v0 : Value} {W : World} (h : S.rostrumlaw5_DiskApart.body R v0 W) : callK PR F_rostrumlaw5_DiskApart [v0] R W :=
  callK_of_body (g := F_rostrumlaw5_DiskApart) (fn := Try.f4) (args := [v0]) (R := R) (w := W) mixed CBok S.rostrumlaw5_DiskApart.fn S.rostrumlaw5_DiskApart.hint (by rw [S.rostrumlaw5_DiskApart.ok]; exact h)
/-! ### rostrum/rostrumlaw5.DiskSafe (5) -/
def S.rostrumlaw5_DiskSafe.j1 (R : Value → World → Prop) (x0 x1 x2 x3 x9 x11 : Value) (W : World) : Prop :=
  callK PR F_disk_Disk_Crash [x9, x2, x3] (fun v70 W =>
  callK PR F_disk_Disk_On [x9] (fun v72 W =>
  callK PR F_disk_Disk_Read [x9, (.int .i64 7)] (fun v75 W =>
  okF (extP 0 v75) fun v76 =>
  okF (extP 1 v75) fun v77 =>
  okF (binP .eql v77 (.int .i64 0)) fun v79 =>
  gdK (wantd v79 true) (fun k W => k v76 W) (fun v81 W =>
  gdK (wantd v79 true) (fun k W => okF (lenP (.slice T_uint8) v81) fun v => k v W) (fun v82 W =>
  gdK (wantd v79 true) (fun k W => k x0 W) (fun v83 W =>
  gdK (wantd v79 true) (fun k W => okF (lenP (.slice T_uint8) v83) fun v => k v W) (fun v84 W =>
  gdK (wantd v79 true) (fun k W => okF (binP .geq v82 v84) fun v => k v W) (fun v85 W =>
  okF (pickP v79 v85 (.bool false)) fun v86 =>
  gdK (wantd v86 true) (fun k W => k v76 W) (fun v88 W =>
  gdK (wantd v86 true) (fun k W => okF (lenP (.slice T_uint8) v88) fun v => k v W) (fun v89 W =>
  gdK (wantd v86 true) (fun k W => k x11 W) (fun v90 W =>
  gdK (wantd v86 true) (fun k W => okF (lenP .string v90) fun v => k v W) (fun v91 W =>
  gdK (wantd v86 true) (fun k W => okF (binP .leq v89 v91) fun v => k v W) (fun v92 W =>
  okF (pickP v86 v92 (.bool false)) fun v93 =>
  gdK (wantd v93 true) (fun k W => k v76 W) (fun v95 W =>
  gdK (wantd v93 true) (fun k W => rdK PR (convert T_s_uint8 T_string v95) k W) (fun v96 W =>
  gdK (wantd v93 true) (fun k W => k x11 W) (fun v97 W =>
  gdK (wantd v93 true) (fun k W => k v76 W) (fun v98 W =>
  gdK (wantd v93 true) (fun k W => okF (lenP (.slice T_uint8) v98) fun v => k v W) (fun v99 W =>
  gdK (wantd v93 true) (fun k W => okF (slcStr v97 none (some v99)) fun v => k v W) (fun v100 W =>
  gdK (wantd v93 true) (fun k W => okF (binP .eql v96 v100) fun v => k v W) (fun v101 W =>
  okF (pickP v93 v101 (.bool false)) fun v102 =>
  gdK (wantd v102 true) (fun k W => k x2 W) (fun v104 W =>
  gdK (wantd v102 true) (fun k W => k x1 W) (fun v105 W =>
  gdK (wantd v102 true) (fun k W => okF (lenP (.slice T_s_uint8) v105) fun v => k v W) (fun v106 W =>
  gdK (wantd v102 true) (fun k W => okF (binP .lss v104 v106) fun v => k v W) (fun v107 W =>
  gdK (wantd v102 true) (fun k W => k v107 W) (fun v108 W =>
  gdK (wantd v108 false) (fun k W => k v76 W) (fun v109 W =>
  gdK (wantd v108 false) (fun k W => rdK PR (convert T_s_uint8 T_string v109) k W) (fun v110 W =>
  gdK (wantd v108 false) (fun k W => k x11 W) (fun v111 W =>
  gdK (wantd v108 false) (fun k W => okF (binP .eql v110 v111) fun v => k v W) (fun v112 W =>
  gdK (wantd v102 true) (fun k W => okF (pickP v108 (.bool true) v112) fun v => k v W) (fun v113 W =>
  okF (pickP v102 v113 (.bool false)) fun v114 =>
  R v114 W) W) W) W) W) W) W) W) W) W) W) W) W) W) W) W) W) W) W) W) W) W) W) W) W) W) W) (tick W)) W) W) W
def S.rostrumlaw5_DiskSafe.j2 (K1 : List Value → World → Prop) (x0 x1 x2 x3 x9 x11 x12 : Value) (W : World) : Prop :=
  okF (binP .add x12 (.int .i64 1)) fun v41 =>
  K1 [x0, x1, x2, x3, x9, x11, v41] W
def S.rostrumlaw5_DiskSafe.l1 (R : Value → World → Prop) (J1 : List Value → World → Prop) (K1 : List Value → World → Prop) (x0 x1 x2 x3 x9 x11 x12 : Value) (W : World) : Prop :=
  okF (lenP (.slice T_s_uint8) x1) fun v38 =>
  okF (binP .lss x12 v38) fun v39 =>
  ifK v39 (
  joinK (fun s W => S.rostrumlaw5_DiskSafe.j2 K1 (nthv s 0) (nthv s 1) (nthv s 2) (nthv s 3) (nthv s 4) (nthv s 5) (nthv s 6) W) (fun J2 =>
  okF (idxS 1 x1 x12) fun v44 =>
  rdK PR (Instr.loadAt T_s_uint8 v44) (fun v45 W =>
  okF (lenP (.slice T_uint8) v45) fun v46 =>
  okF (binP .gtr v46 (.int .i64 100)) fun v47 =>
  ifK v47 (
  R (.bool true) W) (
  okF (binP .rem x12 (.int .i64 3)) fun v50 =>
  okF (binP .add v50 (.int .i64 6)) fun v51 =>
  okF (idxS 1 x1 x12) fun v54 =>
  rdK PR (Instr.loadAt T_s_uint8 v54) (fun v55 W =>
  callK PR F_disk_Disk_Append [x9, v51, v55] (fun v56 W =>
  okF (binP .rem x12 (.int .i64 3)) fun v58 =>
  okF (binP .eql v58 (.int .i64 1)) fun v59 =>
  ifK v59 (
  okF (idxS 1 x1 x12) fun v63 =>
  rdK PR (Instr.loadAt T_s_uint8 v63) (fun v64 W =>
  rdK PR (convert T_s_uint8 T_string v64) (fun v65 W =>
  okF (binP .add x11 v65) fun v66 =>
  J2 [x0, x1, x2, x3, x9, v66, x12] W) W) W) (
  J2 [x0, x1, x2, x3, x9, x11, x12] W)) W) W)) W)) (
  J1 [x0, x1, x2, x3, x9, x11] W)
def S.rostrumlaw5_DiskSafe.body (R : Value → World → Prop) (v0 v1 v2 v3 : Value) (W : World) : Prop :=
  callK PR F_rostrumlaw5_awake [] (fun v15 W =>
  okF (unP .not v15) fun v16 =>
  ifK v16 (
  R (.bool false) W) (
  okF (lenP (.slice T_uint8) v0) fun v18 =>
  okF (binP .gtr v18 (.int .i64 200)) fun v19 =>
  gdK (wantd v19 false) (fun k W => k v1 W) (fun v21 W =>
  gdK (wantd v19 false) (fun k W => okF (lenP (.slice T_s_uint8) v21) fun v => k v W) (fun v22 W =>
  gdK (wantd v19 false) (fun k W => okF (binP .gtr v22 (.int .i64 20)) fun v => k v W) (fun v23 W =>
  okF (pickP v19 (.bool true) v23) fun v24 =>
  ifK v24 (
  R (.bool true) W) (
  callK PR F_disk_New [(.int .i64 65536)] (fun v26 W =>
  okF (extP 0 v26) fun v27 =>
  okF (extP 1 v26) fun v28 =>
  callK PR F_disk_Disk_Append [v27, (.int .i64 7), v0] (fun v31 W =>
  callK PR F_disk_Disk_Sync [v27, (.int .i64 7)] (fun v33 W =>
  rdK PR (convert T_s_uint8 T_string v0) (fun v35 W =>
  joinK (fun s W => S.rostrumlaw5_DiskSafe.j1 R (nthv s 0) (nthv s 1) (nthv s 2) (nthv s 3) (nthv s 4) (nthv s 5) W) (fun J1 =>
  loopK (fun K1 s W => S.rostrumlaw5_DiskSafe.l1 R J1 K1 (nthv s 0) (nthv s 1) (nthv s 2) (nthv s 3) (nthv s 4) (nthv s 5) (nthv s 6) W) [v0, v1, v2, v3, v27, v35, (.int .i64 0)] W)) W) W) W) W)) W) W) W)) W
def S.rostrumlaw5_DiskSafe.hint : Hint := (.two .nil (.two (.two .nil (.two (.two .nil .nil) .nil)) (.two (.two .nil (.two (.two .nil .nil) .nil)) (.two .nil (.two .nil (.two .nil (.two .nil (.at [0, 1, 2, 3, 9, 11] (.two .nil (.at [0, 1, 2, 3, 9, 11, 12] (.two (.two .nil (.two .nil .nil)) (.at [0, 1, 2, 3, 9, 11, 12] (.two (.two .nil (.two (.two .nil .nil) .nil)) (.two .nil (.two .nil (.two .nil .nil)))) .nil)) .nil)) (.two .nil (.two .nil (.two .nil (.two .nil .nil))))))))))))
theorem S.rostrumlaw5_DiskSafe.ok (R : Value → World → Prop) (v0 v1 v2 v3 : Value) (W : World) : bodyK PR CB Try.f5 S.rostrumlaw5_DiskSafe.hint [v0, v1, v2, v3] R W = S.rostrumlaw5_DiskSafe.body R v0 v1 v2 v3 W := by kernel_rfl
theorem S.rostrumlaw5_DiskSafe.fn : PR.funcs[F_rostrumlaw5_DiskSafe]? = some Try.f5 := by kernel_rfl
theorem S.rostrumlaw5_DiskSafe.call {R : Value → World → Prop} {v0 v1 v2 v3 : Value} {W : World} (h : S.rostrumlaw5_DiskSafe.body R v0 v1 v2 v3 W) : callK PR F_rostrumlaw5_DiskSafe [v0, v1, v2, v3] R W :=
  callK_of_body (g := F_rostrumlaw5_DiskSafe) (fn := Try.f5) (args := [v0, v1, v2, v3]) (R := R) (w := W) mixed CBok S.rostrumlaw5_DiskSafe.fn S.rostrumlaw5_DiskSafe.hint (by rw [S.rostrumlaw5_DiskSafe.ok]; exact h)
end Go.Proofs.Ythladblmjoaeoaa
