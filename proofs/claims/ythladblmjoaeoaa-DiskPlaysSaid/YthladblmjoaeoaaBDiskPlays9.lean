/- Texts of the claim DiskPlays, joined: ShDiskL, Opn, Opn2, LDisk, LDisk4, ShPlays5. -/
import Derived.Test.YthladblmjoaeoaaBDiskPlays3
import Derived.Deep.Slices
import Derived.OpenShut
import Derived.ShutString
import Derived.ChangeOld
import Derived.Carry
import Derived.Test.YthladblmjoaeoaaBDiskPlays2
import Derived.Test.YthladblmjoaeoaaBDiskPlays5
import Derived.Test.YthladblmjoaeoaaBDiskPlays4
import Derived.Test.YthladblmjoaeoaaBDiskPlays6
namespace Go.Proofs.Ythladblmjoaeoaa
set_option linter.unusedVariables false
set_option linter.unusedSimpArgs false
open Go.Eng
/-! ### rostrum/rostrumlaw5.awake (14) -/
def S.rostrumlaw5_awake.body (R : Value → World → Prop) (W : World) : Prop :=
  callK PR F_disk_New [(.int .i64 64)] (fun v12 W =>
  okF (extP 0 v12) fun v13 =>
  okF (extP 1 v12) fun v14 =>
  okF (binP .neq v14 (.int .i64 0)) fun v16 =>
  gdK (wantd v16 false) (fun k W => k v13 W) (fun v18 W =>
  gdK (wantd v16 false) (fun k W => okF (eqP (.pointer T_disk_Disk) .eql v18 (.pointer none)) fun v => k v W) (fun v19 W =>
  okF (pickP v16 (.bool true) v19) fun v20 =>
  ifK v20 (
  R (.bool false) W) (
  efK PR (Instr.buildSlice T_s_uint8 2 #[(0, (.int .u8 120)), (1, (.int .u8 121))]) (fun v22 W =>
  efK PR (convert T_s_uint8 T_s_uint8 v22) (fun v23 W =>
  callK PR F_disk_Disk_Append [v13, (.int .i64 0), v23] (fun v24 W =>
  efK PR (Instr.buildSlice T_s_uint8 2 #[(0, (.int .u8 122)), (1, (.int .u8 122))]) (fun v26 W =>
  efK PR (convert T_s_uint8 T_s_uint8 v26) (fun v27 W =>
  callK PR F_disk_Disk_Append [v13, (.int .i64 1), v27] (fun v28 W =>
  callK PR F_disk_Disk_Crash [v13, (.int .i64 1), (.int .i64 1)] (fun v30 W =>
  callK PR F_disk_Disk_Read [v13, (.int .i64 0)] (fun v33 W =>
  okF (extP 0 v33) fun v34 =>
  okF (extP 1 v33) fun v35 =>
  callK PR F_disk_Disk_On [v13] (fun v37 W =>
  callK PR F_disk_Disk_Read [v13, (.int .i64 0)] (fun v40 W =>
  okF (extP 0 v40) fun v41 =>
  okF (extP 1 v40) fun v42 =>
  callK PR F_disk_Disk_Read [v13, (.int .i64 1)] (fun v45 W =>
  okF (extP 0 v45) fun v46 =>
  okF (extP 1 v45) fun v47 =>
  okF (binP .eql v24 (.int .i64 0)) fun v49 =>
  gdK (wantd v49 true) (fun k W => k v28 W) (fun v51 W =>
  gdK (wantd v49 true) (fun k W => okF (binP .eql v51 (.int .i64 0)) fun v => k v W) (fun v52 W =>
  okF (pickP v49 v52 (.bool false)) fun v53 =>
  gdK (wantd v53 true) (fun k W => k v35 W) (fun v55 W =>
  gdK (wantd v53 true) (fun k W => okF (binP .eql v55 (.int .i64 7)) fun v => k v W) (fun v56 W =>
  okF (pickP v53 v56 (.bool false)) fun v57 =>
  gdK (wantd v57 true) (fun k W => k v42 W) (fun v59 W =>
  gdK (wantd v57 true) (fun k W => okF (binP .eql v59 (.int .i64 0)) fun v => k v W) (fun v60 W =>
  okF (pickP v57 v60 (.bool false)) fun v61 =>
  gdK (wantd v61 true) (fun k W => k v47 W) (fun v63 W =>
  gdK (wantd v61 true) (fun k W => okF (binP .eql v63 (.int .i64 0)) fun v => k v W) (fun v64 W =>
  okF (pickP v61 v64 (.bool false)) fun v65 =>
  gdK (wantd v65 true) (fun k W => k v41 W) (fun v67 W =>
  gdK (wantd v65 true) (fun k W => rdK PR (convert T_s_uint8 T_string v67) k W) (fun v68 W =>
  gdK (wantd v65 true) (fun k W => okF (binP .eql v68 (.string ⟨#[120, 121]⟩)) fun v => k v W) (fun v69 W =>
  okF (pickP v65 v69 (.bool false)) fun v70 =>
  gdK (wantd v70 true) (fun k W => k v46 W) (fun v72 W =>
  gdK (wantd v70 true) (fun k W => rdK PR (convert T_s_uint8 T_string v72) k W) (fun v73 W =>
  gdK (wantd v70 true) (fun k W => okF (binP .eql v73 (.string ⟨#[122]⟩)) fun v => k v W) (fun v74 W =>
  okF (pickP v70 v74 (.bool false)) fun v75 =>
  gdK (wantd v75 true) (fun k W => k v13 W) (fun v77 W =>
  gdK (wantd v75 true) (fun k W => callK PR F_disk_Disk_Lives [v77] k W) (fun v78 W =>
  gdK (wantd v75 true) (fun k W => okF (binP .eql v78 (.int .i64 2)) fun v => k v W) (fun v79 W =>
  okF (pickP v75 v79 (.bool false)) fun v80 =>
  gdK (wantd v80 true) (fun k W => k v13 W) (fun v82 W =>
  gdK (wantd v80 true) (fun k W => callK PR F_disk_Disk_Power [v82] k W) (fun v83 W =>
  okF (pickP v80 v83 (.bool false)) fun v84 =>
  R v84 W) W) W) W) W) W) W) W) W) W) W) W) W) W) W) W) W) W) W) W) W) W) W) W) W) W) W) W) W) W) W)) W) W) W
def S.rostrumlaw5_awake.hint : Hint := (.two .nil (.two .nil (.two (.two .nil (.two (.two .nil .nil) .nil)) (.two .nil (.two .nil (.two .nil (.two .nil (.two .nil (.two .nil (.two .nil .nil))))))))))
theorem S.rostrumlaw5_awake.ok (R : Value → World → Prop) (W : World) : bodyK PR CB Try.f14 S.rostrumlaw5_awake.hint [] R W = S.rostrumlaw5_awake.body R  W := by kernel_rfl
theorem S.rostrumlaw5_awake.fn : PR.funcs[F_rostrumlaw5_awake]? = some Try.f14 := by kernel_rfl
theorem S.rostrumlaw5_awake.call {R : Value → World → Prop} {W : World} (h : S.rostrumlaw5_awake.body R  W) : callK PR F_rostrumlaw5_awake [] R W :=
  callK_of_body (g := F_rostrumlaw5_awake) (fn := Try.f14) (args := []) (R := R) (w := W) mixed CBok S.rostrumlaw5_awake.fn S.rostrumlaw5_awake.hint (by rw [S.rostrumlaw5_awake.ok]; exact h)
/-! ### rostrum/rostrumlaw5.DiskOrder (3) -/
def S.rostrumlaw5_DiskOrder.l1 (R : Value → World → Prop) (K1 : List Value → World → Prop) (x7 x11 x14 : Value) (W : World) : Prop :=
  okF (binP .lss x14 (.int .i64 4)) fun v115 =>
  ifK v115 (
  callK PR F_disk_Disk_Read [x7, x14] (fun v121 W =>
  okF (extP 0 v121) fun v122 =>
  okF (extP 1 v121) fun v123 =>
  rdK PR (convert T_s_uint8 T_string v122) (fun v125 W =>
  okF (idxA 4 1 x11 x14) fun v127 =>
  rdK PR (Instr.loadAt T_string v127) (fun v128 W =>
  okF (binP .neq v125 v128) fun v129 =>
  ifK v129 (
  R (.bool false) W) (
  okF (binP .add x14 (.int .i64 1)) fun v117 =>
  K1 [x7, x11, v117] W)) W) (tick W)) W) (
  R (.bool true) W)
def S.rostrumlaw5_DiskOrder.j2 (R : Value → World → Prop) (x7 x11 : Value) (W : World) : Prop :=
  loopK (fun K1 s W => S.rostrumlaw5_DiskOrder.l1 R K1 (nthv s 0) (nthv s 1) (nthv s 2) W) [x7, x11, (.int .i64 0)] W
def S.rostrumlaw5_DiskOrder.j3 (K2 : List Value → World → Prop) (x0 x1 x2 x7 x11 x12 x13 : Value) (W : World) : Prop :=
  okF (idxS 6 x0 x12) fun v98 =>
  okF (addrF 1 v98) fun v99 =>
  rdK PR (Instr.loadAt T_int v99) (fun v100 W =>
  okF (binP .and v100 (.int .i64 3)) fun v101 =>
  okF (idxS 6 x0 x12) fun v104 =>
  okF (addrF 1 v104) fun v105 =>
  rdK PR (Instr.loadAt T_int v105) (fun v106 W =>
  okF (binP .and v106 (.int .i64 3)) fun v107 =>
  okF (idxA 4 1 x11 v107) fun v108 =>
  rdK PR (Instr.loadAt T_string v108) (fun v109 W =>
  rdK PR (convert T_s_uint8 T_string x13) (fun v111 W =>
  okF (binP .add v109 v111) fun v112 =>
  okF (idxA 4 1 x11 v101) fun v113 =>
  efK PR (Instr.storeAt T_string v113 v112) (fun _ W =>
  okF (binP .add x12 (.int .i64 1)) fun v73 =>
  K2 [x0, x1, x2, x7, x11, v73] W) W) W) W) W) (tick W)
def S.rostrumlaw5_DiskOrder.l2 (J2 : List Value → World → Prop) (K2 : List Value → World → Prop) (x0 x1 x2 x7 x11 x12 : Value) (W : World) : Prop :=
  okF (lenP (.slice T_rostrumlaw5_Act) x0) fun v70 =>
  okF (binP .lss x12 v70) fun v71 =>
  ifK v71 (
  okF (idxS 6 x0 x12) fun v76 =>
  okF (addrF 5 v76) fun v77 =>
  rdK PR (Instr.loadAt T_s_uint8 v77) (fun v78 W =>
  joinK (fun s W => S.rostrumlaw5_DiskOrder.j3 K2 (nthv s 0) (nthv s 1) (nthv s 2) (nthv s 3) (nthv s 4) (nthv s 5) (nthv s 6) W) (fun J3 =>
  okF (binP .geq x12 x1) fun v81 =>
  ifK v81 (
  okF (binP .gtr x12 x1) fun v84 =>
  gdK (wantd v84 false) (fun k W => k x2 W) (fun v86 W =>
  gdK (wantd v84 false) (fun k W => okF (binP .leq v86 (.int .i64 0)) fun v => k v W) (fun v87 W =>
  okF (pickP v84 (.bool true) v87) fun v88 =>
  ifK v88 (
  J3 [x0, x1, x2, x7, x11, x12, (.slice none 0 0)] W) (
  okF (lenP (.slice T_uint8) v78) fun v91 =>
  okF (binP .lss x2 v91) fun v92 =>
  ifK v92 (
  okF (slcS 1 v78 none (some x2) none) fun v95 =>
  J3 [x0, x1, x2, x7, x11, x12, v95] W) (
  J3 [x0, x1, x2, x7, x11, x12, v78] W))) W) W) (
  J3 [x0, x1, x2, x7, x11, x12, v78] W))) W) (
  J2 [x7, x11] W)
def S.rostrumlaw5_DiskOrder.j1 (R : Value → World → Prop) (x0 x1 x2 x7 : Value) (W : World) : Prop :=
  callK PR F_disk_Disk_Crash [x7, x1, x2] (fun v64 W =>
  callK PR F_disk_Disk_On [x7] (fun v66 W =>
  okF (bldP (fun i => some (i * 1, 1)) [.string ⟨#[]⟩, .string ⟨#[]⟩, .string ⟨#[]⟩, .string ⟨#[]⟩] []) fun v67 =>
  efK PR (Instr.alloc T_a4_string true (.tuple #[])) (fun v11 W =>
  efK PR (Instr.storeAt T_a4_string v11 v67) (fun _ W =>
  joinK (fun s W => S.rostrumlaw5_DiskOrder.j2 R (nthv s 0) (nthv s 1) W) (fun J2 =>
  loopK (fun K2 s W => S.rostrumlaw5_DiskOrder.l2 J2 K2 (nthv s 0) (nthv s 1) (nthv s 2) (nthv s 3) (nthv s 4) (nthv s 5) W) [x0, x1, x2, x7, v11, (.int .i64 0)] W)) W) W) W) W
def S.rostrumlaw5_DiskOrder.l3 (R : Value → World → Prop) (J1 : List Value → World → Prop) (K3 : List Value → World → Prop) (x0 x1 x2 x7 x9 x10 : Value) (W : World) : Prop :=
  okF (lenP (.slice T_rostrumlaw5_Act) x0) fun v28 =>
  okF (binP .lss x10 v28) fun v29 =>
  ifK v29 (
  okF (idxS 6 x0 x10) fun v34 =>
  okF (addrF 5 v34) fun v35 =>
  rdK PR (Instr.loadAt T_s_uint8 v35) (fun v36 W =>
  okF (lenP (.slice T_uint8) v36) fun v37 =>
  okF (binP .gtr v37 (.int .i64 200)) fun v38 =>
  ifK v38 (
  R (.bool true) W) (
  okF (idxS 6 x0 x10) fun v42 =>
  okF (addrF 1 v42) fun v43 =>
  rdK PR (Instr.loadAt T_int v43) (fun v44 W =>
  okF (binP .and v44 (.int .i64 3)) fun v45 =>
  okF (idxS 6 x0 x10) fun v48 =>
  okF (addrF 5 v48) fun v49 =>
  rdK PR (Instr.loadAt T_s_uint8 v49) (fun v50 W =>
  callK PR F_disk_Disk_Append [x7, v45, v50] (fun v51 W =>
  okF (binP .neq v51 (.int .i64 0)) fun v52 =>
  ifK v52 (
  R (.bool false) W) (
  okF (idxS 6 x0 x10) fun v56 =>
  okF (addrF 5 v56) fun v57 =>
  rdK PR (Instr.loadAt T_s_uint8 v57) (fun v58 W =>
  okF (lenP (.slice T_uint8) v58) fun v59 =>
  okF (binP .add x9 v59) fun v60 =>
  okF (binP .add x10 (.int .i64 1)) fun v31 =>
  K3 [x0, x1, x2, x7, v60, v31] W) W)) W) W) (tick W))) W) (
  J1 [x0, x1, x2, x7] W)
def S.rostrumlaw5_DiskOrder.body (R : Value → World → Prop) (v0 v1 v2 : Value) (W : World) : Prop :=
  callK PR F_rostrumlaw5_awake [] (fun v17 W =>
  okF (unP .not v17) fun v18 =>
  ifK v18 (
  R (.bool false) W) (
  okF (lenP (.slice T_rostrumlaw5_Act) v0) fun v20 =>
  okF (binP .gtr v20 (.int .i64 30)) fun v21 =>
  ifK v21 (
  R (.bool true) W) (
  callK PR F_disk_New [(.int .i64 65536)] (fun v23 W =>
  okF (extP 0 v23) fun v24 =>
  okF (extP 1 v23) fun v25 =>
  joinK (fun s W => S.rostrumlaw5_DiskOrder.j1 R (nthv s 0) (nthv s 1) (nthv s 2) (nthv s 3) W) (fun J1 =>
  loopK (fun K3 s W => S.rostrumlaw5_DiskOrder.l3 R J1 K3 (nthv s 0) (nthv s 1) (nthv s 2) (nthv s 3) (nthv s 4) (nthv s 5) W) [v0, v1, v2, v24, (.int .i64 0), (.int .i64 0)] W)) W))) W
def S.rostrumlaw5_DiskOrder.hint : Hint := (.two .nil (.two (.two .nil (.two (.two .nil .nil) .nil)) (.two (.two .nil (.two (.two .nil .nil) .nil)) (.two .nil (.two .nil (.at [0, 1, 2, 7] (.two .nil (.at [0, 1, 2, 7, 9, 10] (.two (.two .nil (.two .nil .nil)) (.two (.two (.two .nil (.two (.two .nil .nil) .nil)) (.two (.two .nil (.two (.two .nil .nil) .nil)) .nil)) .nil)) .nil)) (.two .nil (.two .nil (.two .nil (.at [7, 11] (.two .nil (.at [0, 1, 2, 7, 11, 12] (.two (.two .nil (.two .nil .nil)) (.two (.two .nil (.at [0, 1, 2, 7, 11, 12, 13] (.two .nil (.two (.two .nil (.two .nil (.two .nil (.two .nil .nil)))) .nil)) .nil)) .nil)) .nil)) (.two (.two .nil (.at [7, 11, 14] (.two (.two .nil (.two .nil .nil)) (.two (.two .nil (.two .nil (.two (.two .nil .nil) .nil))) .nil)) .nil)) (.two .nil .nil))))))))))))
theorem S.rostrumlaw5_DiskOrder.ok (R : Value → World → Prop) (v0 v1 v2 : Value) (W : World) : bodyK PR CB Try.f3 S.rostrumlaw5_DiskOrder.hint [v0, v1, v2] R W = S.rostrumlaw5_DiskOrder.body R v0 v1 v2 W := by kernel_rfl
theorem S.rostrumlaw5_DiskOrder.fn : PR.funcs[F_rostrumlaw5_DiskOrder]? = some Try.f3 := by kernel_rfl
theorem S.rostrumlaw5_DiskOrder.call {R : Value → World → Prop} {v0 v1 v2 : Value} {W : World} (h : S.rostrumlaw5_DiskOrder.body R v0 v1 v2 W) : callK PR F_rostrumlaw5_DiskOrder [v0, v1, v2] R W :=
  callK_of_body (g := F_rostrumlaw5_DiskOrder) (fn := Try.f3) (args := [v0, v1, v2]) (R := R) (w := W) mixed CBok S.rostrumlaw5_DiskOrder.fn S.rostrumlaw5_DiskOrder.hint (by rw [S.rostrumlaw5_DiskOrder.ok]; exact h)
/-! ### rostrum/rostrumlaw5.DiskApart (4) -/
def S.rostrumlaw5_DiskApart.body (R : Value → World → Prop) (v0 : Value) (W : World) : Prop :=
  callK PR F_rostrumlaw5_awake [] (fun v10 W =>
  okF (unP .not v10) fun v11 =>
  ifK v11 (
  R (.bool false) W) (
  okF (lenP (.slice T_uint8) v0) fun v13 =>
  okF (binP .lss v13 (.int .i64 1)) fun v14 =>
  gdK (wantd v14 false) (fun k W => k v0 W) (fun v16 W =>
  gdK (wantd v14 false) (fun k W => okF (lenP (.slice T_uint8) v16) fun v => k v W) (fun v17 W =>
  gdK (wantd v14 false) (fun k W => okF (binP .gtr v17 (.int .i64 100)) fun v => k v W) (fun v18 W =>
  okF (pickP v14 (.bool true) v18) fun v19 =>
  ifK v19 (
  R (.bool true) W) (
  callK PR F_disk_New [(.int .i64 1000)] (fun v21 W =>
  okF (extP 0 v21) fun v22 =>
  okF (extP 1 v21) fun v23 =>
  efK PR (Instr.buildSlice T_s_uint8 0 #[]) (fun v24 W =>
  efK PR (Builtin.append_ #[T_s_uint8, T_s_uint8] T_s_uint8 #[v24, v0]) (fun v26 W =>
  callK PR F_disk_Disk_Append [v22, (.int .i64 3), v26] (fun v29 W =>
  okF (idxS 1 v26 (.int .i64 0)) fun v31 =>
  rdK PR (Instr.loadAt T_uint8 v31) (fun v32 W =>
  okF (binP .add v32 (.int .u8 1)) fun v33 =>
  okF (idxS 1 v26 (.int .i64 0)) fun v34 =>
  efK PR (Instr.storeAt T_uint8 v34 v33) (fun _ W =>
  callK PR F_disk_Disk_Read [v22, (.int .i64 3)] (fun v37 W =>
  okF (extP 0 v37) fun v38 =>
  okF (extP 1 v37) fun v39 =>
  okF (lenP (.slice T_uint8) v38) fun v41 =>
  okF (lenP (.slice T_uint8) v0) fun v43 =>
  okF (binP .neq v41 v43) fun v44 =>
  ifK v44 (
  R (.bool false) W) (
  okF (idxS 1 v38 (.int .i64 0)) fun v46 =>
  rdK PR (Instr.loadAt T_uint8 v46) (fun v47 W =>
  okF (binP .add v47 (.int .u8 1)) fun v48 =>
  okF (idxS 1 v38 (.int .i64 0)) fun v49 =>
  efK PR (Instr.storeAt T_uint8 v49 v48) (fun _ W =>
  callK PR F_disk_Disk_Read [v22, (.int .i64 3)] (fun v52 W =>
  okF (extP 0 v52) fun v53 =>
  okF (extP 1 v52) fun v54 =>
  okF (binP .eql v54 (.int .i64 0)) fun v56 =>
  gdK (wantd v56 true) (fun k W => k v53 W) (fun v58 W =>
  gdK (wantd v56 true) (fun k W => rdK PR (convert T_s_uint8 T_string v58) k W) (fun v59 W =>
  gdK (wantd v56 true) (fun k W => k v0 W) (fun v60 W =>
  gdK (wantd v56 true) (fun k W => rdK PR (convert T_s_uint8 T_string v60) k W) (fun v61 W =>
  gdK (wantd v56 true) (fun k W => okF (binP .eql v59 v61) fun v => k v W) (fun v62 W =>
  okF (pickP v56 v62 (.bool false)) fun v63 =>
  R v63 W) W) W) W) W) W) W) W) W)) W) W) W) W) W) W) W)) W) W) W)) W
def S.rostrumlaw5_DiskApart.hint : Hint := (.two .nil (.two (.two .nil (.two (.two .nil .nil) .nil)) (.two (.two .nil (.two (.two .nil .nil) .nil)) (.two .nil (.two .nil (.two .nil (.two .nil (.two .nil (.two (.two .nil (.two (.two .nil .nil) .nil)) (.two .nil (.two .nil (.two .nil .nil))))))))))))
theorem S.rostrumlaw5_DiskApart.ok (R : Value → World → Prop) (v0 : Value) (W : World) : bodyK PR CB Try.f4 S.rostrumlaw5_DiskApart.hint [v0] R W = S.rostrumlaw5_DiskApart.body R v0 W := by kernel_rfl
theorem S.rostrumlaw5_DiskApart.fn : PR.funcs[F_rostrumlaw5_DiskApart]? = some Try.f4 := by kernel_rfl
theorem S.rostrumlaw5_DiskApart.call {R : Value → World → Prop} {v0 : Value} {W : World} (h : S.rostrumlaw5_DiskApart.body R v0 W) : callK PR F_rostrumlaw5_DiskApart [v0] R W :=
  callK_of_body (g := F_rostrumlaw5_DiskApart) (fn := Try.f4) (args := [v0]) (R := R) (w := W) mixed CBok S.rostrumlaw5_DiskApart.fn S.rostrumlaw5_DiskApart.hint (by rw [S.rostrumlaw5_DiskApart.ok]; exact h)
/-! ### rostrum/rostrumlaw5.DiskSafe (5) -/
def S.rostrumlaw5_DiskSafe.j1 (R : Value → World → Prop) (x0 x1 x2 x3 x9 x11 : Value) (W : World) : Prop :=
  callK PR F_disk_Disk_Crash [x9, x2, x3] (fun v70 W =>
  callK PR F_disk_Disk_On [x9] (fun v72 W =>
  callK PR F_disk_Disk_Read [x9, (.int .i64 7)] (fun v75 W =>
  okF (extP 0 v75) fun v76 =>
  okF (extP 1 v75) fun v77 =>
  okF (binP .eql v77 (.int .i64 0)) fun v79 =>
  gdK (wantd v79 true) (fun k W => k v76 W) (fun v81 W =>
  gdK (wantd v79 true) (fun k W => okF (lenP (.slice T_uint8) v81) fun v => k v W) (fun v82 W =>
  gdK (wantd v79 true) (fun k W => k x0 W) (fun v83 W =>
  gdK (wantd v79 true) (fun k W => okF (lenP (.slice T_uint8) v83) fun v => k v W) (fun v84 W =>
  gdK (wantd v79 true) (fun k W => okF (binP .geq v82 v84) fun v => k v W) (fun v85 W =>
  okF (pickP v79 v85 (.bool false)) fun v86 =>
  gdK (wantd v86 true) (fun k W => k v76 W) (fun v88 W =>
  gdK (wantd v86 true) (fun k W => okF (lenP (.slice T_uint8) v88) fun v => k v W) (fun v89 W =>
  gdK (wantd v86 true) (fun k W => k x11 W) (fun v90 W =>
  gdK (wantd v86 true) (fun k W => okF (lenP .string v90) fun v => k v W) (fun v91 W =>
  gdK (wantd v86 true) (fun k W => okF (binP .leq v89 v91) fun v => k v W) (fun v92 W =>
  okF (pickP v86 v92 (.bool false)) fun v93 =>
  gdK (wantd v93 true) (fun k W => k v76 W) (fun v95 W =>
  gdK (wantd v93 true) (fun k W => rdK PR (convert T_s_uint8 T_string v95) k W) (fun v96 W =>
  gdK (wantd v93 true) (fun k W => k x11 W) (fun v97 W =>
  gdK (wantd v93 true) (fun k W => k v76 W) (fun v98 W =>
  gdK (wantd v93 true) (fun k W => okF (lenP (.slice T_uint8) v98) fun v => k v W) (fun v99 W =>
  gdK (wantd v93 true) (fun k W => okF (slcStr v97 none (some v99)) fun v => k v W) (fun v100 W =>
  gdK (wantd v93 true) (fun k W => okF (binP .eql v96 v100) fun v => k v W) (fun v101 W =>
  okF (pickP v93 v101 (.bool false)) fun v102 =>
  gdK (wantd v102 true) (fun k W => k x2 W) (fun v104 W =>
  gdK (wantd v102 true) (fun k W => k x1 W) (fun v105 W =>
  gdK (wantd v102 true) (fun k W => okF (lenP (.slice T_s_uint8) v105) fun v => k v W) (fun v106 W =>
  gdK (wantd v102 true) (fun k W => okF (binP .lss v104 v106) fun v => k v W) (fun v107 W =>
  gdK (wantd v102 true) (fun k W => k v107 W) (fun v108 W =>
  gdK (wantd v108 false) (fun k W => k v76 W) (fun v109 W =>
  gdK (wantd v108 false) (fun k W => rdK PR (convert T_s_uint8 T_string v109) k W) (fun v110 W =>
  gdK (wantd v108 false) (fun k W => k x11 W) (fun v111 W =>
  gdK (wantd v108 false) (fun k W => okF (binP .eql v110 v111) fun v => k v W) (fun v112 W =>
  gdK (wantd v102 true) (fun k W => okF (pickP v108 (.bool true) v112) fun v => k v W) (fun v113 W =>
  okF (pickP v102 v113 (.bool false)) fun v114 =>
  R v114 W) W) W) W) W) W) W) W) W) W) W) W) W) W) W) W) W) W) W) W) W) W) W) W) W) W) W) (tick W)) W) W) W
def S.rostrumlaw5_DiskSafe.j2 (K1 : List Value → World → Prop) (x0 x1 x2 x3 x9 x11 x12 : Value) (W : World) : Prop :=
  okF (binP .add x12 (.int .i64 1)) fun v41 =>
  K1 [x0, x1, x2, x3, x9, x11, v41] W
def S.rostrumlaw5_DiskSafe.l1 (R : Value → World → Prop) (J1 : List Value → World → Prop) (K1 : List Value → World → Prop) (x0 x1 x2 x3 x9 x11 x12 : Value) (W : World) : Prop :=
  okF (lenP (.slice T_s_uint8) x1) fun v38 =>
  okF (binP .lss x12 v38) fun v39 =>
  ifK v39 (
  joinK (fun s W => S.rostrumlaw5_DiskSafe.j2 K1 (nthv s 0) (nthv s 1) (nthv s 2) (nthv s 3) (nthv s 4) (nthv s 5) (nthv s 6) W) (fun J2 =>
  okF (idxS 1 x1 x12) fun v44 =>
  rdK PR (Instr.loadAt T_s_uint8 v44) (fun v45 W =>
  okF (lenP (.slice T_uint8) v45) fun v46 =>
  okF (binP .gtr v46 (.int .i64 100)) fun v47 =>
  ifK v47 (
  R (.bool true) W) (
  okF (binP .rem x12 (.int .i64 3)) fun v50 =>
  okF (binP .add v50 (.int .i64 6)) fun v51 =>
  okF (idxS 1 x1 x12) fun v54 =>
  rdK PR (Instr.loadAt T_s_uint8 v54) (fun v55 W =>
  callK PR F_disk_Disk_Append [x9, v51, v55] (fun v56 W =>
  okF (binP .rem x12 (.int .i64 3)) fun v58 =>
  okF (binP .eql v58 (.int .i64 1)) fun v59 =>
  ifK v59 (
  okF (idxS 1 x1 x12) fun v63 =>
  rdK PR (Instr.loadAt T_s_uint8 v63) (fun v64 W =>
  rdK PR (convert T_s_uint8 T_string v64) (fun v65 W =>
  okF (binP .add x11 v65) fun v66 =>
  J2 [x0, x1, x2, x3, x9, v66, x12] W) W) W) (
  J2 [x0, x1, x2, x3, x9, x11, x12] W)) W) W)) W)) (
  J1 [x0, x1, x2, x3, x9, x11] W)
def S.rostrumlaw5_DiskSafe.body (R : Value → World → Prop) (v0 v1 v2 v3 : Value) (W : World) : Prop :=
  callK PR F_rostrumlaw5_awake [] (fun v15 W =>
  okF (unP .not v15) fun v16 =>
  ifK v16 (
  R (.bool false) W) (
  okF (lenP (.slice T_uint8) v0) fun v18 =>
  okF (binP .gtr v18 (.int .i64 200)) fun v19 =>
  gdK (wantd v19 false) (fun k W => k v1 W) (fun v21 W =>
  gdK (wantd v19 false) (fun k W => okF (lenP (.slice T_s_uint8) v21) fun v => k v W) (fun v22 W =>
  gdK (wantd v19 false) (fun k W => okF (binP .gtr v22 (.int .i64 20)) fun v => k v W) (fun v23 W =>
  okF (pickP v19 (.bool true) v23) fun v24 =>
  ifK v24 (
  R (.bool true) W) (
  callK PR F_disk_New [(.int .i64 65536)] (fun v26 W =>
  okF (extP 0 v26) fun v27 =>
  okF (extP 1 v26) fun v28 =>
  callK PR F_disk_Disk_Append [v27, (.int .i64 7), v0] (fun v31 W =>
  callK PR F_disk_Disk_Sync [v27, (.int .i64 7)] (fun v33 W =>
  rdK PR (convert T_s_uint8 T_string v0) (fun v35 W =>
  joinK (fun s W => S.rostrumlaw5_DiskSafe.j1 R (nthv s 0) (nthv s 1) (nthv s 2) (nthv s 3) (nthv s 4) (nthv s 5) W) (fun J1 =>
  loopK (fun K1 s W => S.rostrumlaw5_DiskSafe.l1 R J1 K1 (nthv s 0) (nthv s 1) (nthv s 2) (nthv s 3) (nthv s 4) (nthv s 5) (nthv s 6) W) [v0, v1, v2, v3, v27, v35, (.int .i64 0)] W)) W) W) W) W)) W) W) W)) W
def S.rostrumlaw5_DiskSafe.hint : Hint := (.two .nil (.two (.two .nil (.two (.two .nil .nil) .nil)) (.two (.two .nil (.two (.two .nil .nil) .nil)) (.two .nil (.two .nil (.two .nil (.two .nil (.at [0, 1, 2, 3, 9, 11] (.two .nil (.at [0, 1, 2, 3, 9, 11, 12] (.two (.two .nil (.two .nil .nil)) (.at [0, 1, 2, 3, 9, 11, 12] (.two (.two .nil (.two (.two .nil .nil) .nil)) (.two .nil (.two .nil (.two .nil .nil)))) .nil)) .nil)) (.two .nil (.two .nil (.two .nil (.two .nil .nil))))))))))))
theorem S.rostrumlaw5_DiskSafe.ok (R : Value → World → Prop) (v0 v1 v2 v3 : Value) (W : World) : bodyK PR CB Try.f5 S.rostrumlaw5_DiskSafe.hint [v0, v1, v2, v3] R W = S.rostrumlaw5_DiskSafe.body R v0 v1 v2 v3 W := by kernel_rfl
theorem S.rostrumlaw5_DiskSafe.fn : PR.funcs[F_rostrumlaw5_DiskSafe]? = some Try.f5 := by kernel_rfl
theorem S.rostrumlaw5_DiskSafe.call {R : Value → World → Prop} {v0 v1 v2 v3 : Value} {W : World} (h : S.rostrumlaw5_DiskSafe.body R v0 v1 v2 v3 W) : callK PR F_rostrumlaw5_DiskSafe [v0, v1, v2, v3] R W :=
  callK_of_body (g := F_rostrumlaw5_DiskSafe) (fn := Try.f5) (args := [v0, v1, v2, v3]) (R := R) (w := W) mixed CBok S.rostrumlaw5_DiskSafe.fn S.rostrumlaw5_DiskSafe.hint (by rw [S.rostrumlaw5_DiskSafe.ok]; exact h)
end Go.Proofs.Ythladblmjoaeoaa
namespace Go.Eng
set_option linter.unusedVariables false
set_option linter.unusedSimpArgs false
open Go Go.RowKit Go.ChangeShapes Go.WideShapes Go.Deep

inductive Cl where
  | int (k : IntKind)
  | str
  | bool
  | sl (e : List Cl)

mutual
inductive GoodC (W : World) : Cl → Value → Prop where
  | int {k : IntKind} {n : Int} (h : (Lit.int k n).wf = true) : GoodC W (.int k) (.int k n)
  | str {s : ByteArray} (h : s.size ≤ maxLen) : GoodC W .str (.string s)
  | bool {b : Bool} : GoodC W .bool (.bool b)
  | sl {e : List Cl} {a : Option Addr} {n c : Nat} (rows : Nat → List Value) (hc : n ≤ c) (hm : c ≤ maxLen) (hn : a = none → c = 0)
      (hr : ∀ i, i < n → ∃ b o, a = some ⟨b, o, none⟩ ∧ ro W b (o + i * e.length) (rows i)) (hg : ∀ i, i < n → GoodL W e (rows i)) : GoodC W (.sl e) (.slice a n c)
inductive GoodL (W : World) : List Cl → List Value → Prop where
  | nil : GoodL W [] []
  | cons {c : Cl} {cs : List Cl} {v : Value} {vs : List Value} (h : GoodC W c v) (hs : GoodL W cs vs) : GoodL W (c :: cs) (v :: vs)
end

theorem GoodL.app {W : World} : ∀ {l : List Cl} {vs : List Value} {l' : List Cl} {vs' : List Value}, GoodL W l vs → GoodL W l' vs' → GoodL W (l ++ l') (vs ++ vs')
  | _, _, _, _, .nil, h => h
  | _, _, _, _, .cons h hs, h' => .cons h (hs.app h')
theorem GoodL.len {W : World} : ∀ {l : List Cl} {vs : List Value}, GoodL W l vs → vs.length = l.length
  | _, _, .nil => rfl
  | _, _, .cons h hs => by simp [hs.len]

def clF (P : Program) (g : TypeId → Option (List Cl)) : List Field → Nat → Option (List Cl)
  | [], _ => some []
  | f :: r, off => match Nat.beq f.offset off with
    | false => none
    | true => match g f.type with
      | some ks => match Nat.beq (P.cellsOf f.type) ks.length with
        | true => (match clF P g r (off + ks.length) with | some l => some (ks ++ l) | none => none)
        | false => none
      | none => none
/-- the cells of a type -/
def cls (P : Program) : Nat → TypeId → Option (List Cl)
  | 0, _ => none
  | d + 1, t => match P.underlying t with
    | some (.int k) => some [.int k]
    | some .string => some [.str]
    | some .bool => some [.bool]
    | some (.slice e) => (match cls P d e with | some l => (match Nat.beq (P.cellsOf e) l.length && !Nat.beq l.length 0 with | true => some [.sl l] | false => none) | none => none)
    | some (.struct fs) => (match clF P (cls P d) fs.toList 0 with | some l => (match Nat.beq (P.cellsOf t) l.length with | true => some l | false => none) | none => none)
    | some (.array n e) => (match cls P d e with | some l => (match Nat.beq (P.cellsOf e) l.length && Nat.beq (P.cellsOf t) (n * l.length) with | true => some (List.replicate n l).flatten | false => none) | none => none)
    | _ => none

section
variable {P : Program} {w : World} {H : Type} {enc : TypeId × Value → H}

theorem good_fields {g : TypeId → Option (List Cl)} {n : Nat} {cs : List Value}
    (hg : ∀ t l, g t = some l → ∀ cs x, DataW.trod enc P w 0 (fun _ => true) true n t cs = some x → GoodL w l cs) :
    ∀ (fs : List Field) (off : Nat) (l : List Cl), clF P g fs off = some l → (∀ f ∈ fs, ∃ x, DataW.trod enc P w 0 (fun _ => true) true n f.type ((cs.drop f.offset).take (P.cellsOf f.type)) = some x) →
      GoodL w l ((cs.drop off).take l.length)
  | [], off, l, h, _ => by simp only [clF, Option.some.injEq] at h; subst h; simpa using GoodL.nil
  | f :: fs, off, l, h, hx => by
    simp only [clF] at h
    split at h
    · cases h
    · rename_i ho
      have ho := Nat.eq_of_beq_eq_true ho
      split at h
      · rename_i ks hks
        split at h
        · rename_i hsz
          have hsz := Nat.eq_of_beq_eq_true hsz
          split at h
          · rename_i l' hl'
            simp only [Option.some.injEq] at h
            subst h
            obtain ⟨x, hx0⟩ := hx f (by simp)
            rw [hsz, ho] at hx0
            have h1 := hg _ _ hks _ _ hx0
            have h2 := good_fields hg fs _ _ hl' (fun f' hf' => hx f' (List.mem_cons_of_mem _ hf'))
            have := h1.app h2
            rw [← List.drop_drop, ← List.take_add] at this
            simpa using this
          · cases h
        · cases h
      · cases h

theorem open_cls : ∀ (m : Nat) (t : TypeId) (l : List Cl), cls P m t = some l → ∀ (fuel : Nat) (cs : List Value) (x : DataW H × List MemPlace), DataW.trod enc P w 0 (fun _ => true) true fuel t cs = some x → GoodL w l cs
  | 0, _, _, h => by simp [cls] at h
  | m + 1, t, l, h => by
    intro fuel cs x hx
    simp only [cls] at h
    cases ht : P.underlying t with
    | none => rw [ht] at h; cases h
    | some d =>
      rw [ht] at h
      cases d <;> simp only at h <;> try (cases h; done)
      case int k =>
        simp only [Option.some.injEq] at h
        subst h
        obtain ⟨n, rfl, _, hw⟩ := DataW.trod_int ht hx
        exact .cons (.int hw) .nil
      case string =>
        simp only [Option.some.injEq] at h
        subst h
        obtain ⟨n, rfl, _, hw⟩ := DataW.trod_string ht hx
        exact .cons (.str hw) .nil
      case bool =>
        simp only [Option.some.injEq] at h
        subst h
        obtain ⟨n, rfl, _⟩ := DataW.trod_bool ht hx
        exact .cons .bool .nil
      case slice e =>
        split at h
        · rename_i le hle
          split at h
          · rename_i hb
            simp only [Bool.and_eq_true, Bool.not_eq_true'] at hb
            have hsz := Nat.eq_of_beq_eq_true hb.1
            have hpos : 0 < le.length := Nat.pos_of_ne_zero fun e => by rw [e] at hb; simp at hb
            simp only [Option.some.injEq] at h
            subst h
            rcases open_slice ht hx with ⟨rfl, _⟩ | ⟨a, len, cap, mm, n, D, Pl, rfl, hb0, hl, hmx, hmm, rfl, hel⟩
            · exact .cons (.sl (fun _ => []) (by omega) (by simp [maxLen]) (fun _ => rfl) (fun i hi => by omega) (fun i hi => by omega)) .nil
            · simp only [if_true] at hmm
              subst hmm
              rw [hsz] at hel
              obtain ⟨rows, hrows⟩ := choose_lt (α := List Value) (p := fun i cs' => w.cells? 0 (a.add (i * le.length)) le.length = some cs' ∧ DataW.trod enc P w 0 (fun _ => true) true n e cs' = some (D i, Pl i)) hel
              refine .cons (.sl rows hl hmx (fun h => by cases h) (fun i hi => ?_) (fun i hi => open_cls m e le hle n _ _ (hrows i (by omega)).2)) .nil
              obtain ⟨_, hlen0, hcell0⟩ := World.cells?_some (hrows 0 (by omega)).1
              obtain ⟨_, hlen, hcell⟩ := World.cells?_some (hrows i (by omega)).1
              have h0 : ∃ v, w.cell? a = some v := by
                have := hcell0 0 hpos
                simp only [Nat.zero_mul, Addr.add, if_true] at this
                rw [this]
                exact ⟨(rows 0)[0]'(by omega), by simp⟩
              obtain ⟨v, hv⟩ := h0
              have hsp := World.cell?_spot hv
              obtain ⟨ab, ao, asp⟩ := a
              simp only at hsp
              subst hsp
              refine ⟨ab, ao, rfl, fun j hj => ?_⟩
              have := hcell j (by omega)
              rw [add_none, add_none] at this
              exact this
          · cases h
        · cases h
      case struct fs =>
        split at h
        · rename_i l' hl'
          split at h
          · rename_i hsz
            have hsz := Nat.eq_of_beq_eq_true hsz
            simp only [Option.some.injEq] at h
            subst h
            obtain ⟨xs, n, rfl, rfl, hlen, hxs, hf⟩ := DataW.trod_struct ht hx
            have := good_fields (cs := cs) (fun t l hl cs x hx => open_cls m t l hl n cs x hx) fs.toList 0 l' hl' (fun f hf' => by
              obtain ⟨i, hi, rfl⟩ := List.getElem_of_mem hf'
              have hi' : i < fs.size := by simpa using hi
              have := hf i fs[i] (by simp [hi'])
              rw [show fs.toList[i] = fs[i] by simp, this]
              exact ⟨xs[i]'(by omega), by simp⟩)
            rw [← hsz, ← hlen] at this
            simpa using this
          · cases h
        · cases h
      case array k e =>
        split at h
        · rename_i le hle
          split at h
          · rename_i hb
            simp only [Bool.and_eq_true] at hb
            have hsz := Nat.eq_of_beq_eq_true hb.1
            have hsz2 := Nat.eq_of_beq_eq_true hb.2
            simp only [Option.some.injEq] at h
            subst h
            obtain ⟨xs, n, rfl, rfl, hlen, hxs, hf⟩ := DataW.trod_array ht hx
            rw [hsz2] at hlen
            rw [hsz] at hf
            have key : ∀ j, j ≤ k → GoodL w (List.replicate j le).flatten (cs.take (j * le.length)) := by
              intro j
              induction j with
              | zero => intro _; simpa using GoodL.nil
              | succ j ih =>
                intro hj
                have h1 := hf j (by omega)
                have h2 : GoodL w le ((cs.drop (j * le.length)).take le.length) := by
                  refine open_cls m e le hle n _ (xs[j]'(by omega)) ?_
                  rw [h1]; simp
                have := (ih (by omega)).app h2
                rw [← List.take_add] at this
                rw [List.replicate_succ', List.flatten_append, Nat.succ_mul]
                simpa using this
            have := key k (Nat.le_refl _)
            rw [← hlen] at this
            simpa using this
          · cases h
        · cases h

/-- an argument of a law -/
def GoodA (w : World) (l : List Cl) (agg : Bool) (v : Value) : Prop := GoodL w l (vcells v) ∧ (agg = true → ∃ cs : List Value, v = .agg cs.toArray) ∧ (agg = false → vcells v = [v])
theorem open_arg {t : TypeId} {l : List Cl} {agg : Bool} {m : Nat} {v : Value} {d : DataW H} {ps : List MemPlace} {r : Reach} {b0 : Nat} (hl : cls P m t = some l) (ha : (P.underlying t).map aggB = some agg)
    (hval : Value.okWide P w r b0 t v) (h : DataW.Trod enc P w 0 (fun _ => true) true t v d ps) : GoodA w l agg v := by
  obtain ⟨fuel, hf⟩ := h
  obtain ⟨u, hu, hu'⟩ := Option.map_eq_some_iff.1 ha
  refine ⟨by have := open_cls m t l hl _ _ _ hf; rwa [vcells_eq] at this, fun hagg => ?_, fun hagg => ?_⟩
  · subst hagg
    cases u <;> simp only [aggB] at hu' <;> try (cases hu'; done)
    case struct fs =>
      obtain ⟨cs, rfl, _⟩ := okWide_struct hu hval
      exact ⟨cs.toList, rfl⟩
    case array n e =>
      simp only [Value.okWide, hu] at hval
      cases v <;> simp_all
      exact ⟨_, (Array.toArray_toList).symm⟩
  · subst hagg
    cases m with
    | zero => simp [cls] at hl
    | succ m =>
      simp only [cls, hu] at hl
      cases u <;> simp only [aggB] at hu' <;> simp only at hl <;> try (first | (cases hu'; done) | (cases hl; done))
      case int k => obtain ⟨n, rfl⟩ := okWide_int hu hval; rfl
      case string => obtain ⟨n, rfl⟩ := okWide_string hu hval; rfl
      case bool => obtain ⟨n, rfl⟩ := okWide_bool hu hval; rfl
      case slice e => obtain ⟨a, b, c, rfl⟩ := okWide_slice hu hval; rfl
theorem GoodL.cons' {c : Cl} {cs : List Cl} {vs : List Value} (h : GoodL w (c :: cs) vs) : ∃ v vs', vs = v :: vs' ∧ GoodC w c v ∧ GoodL w cs vs' := by
  cases h with | cons h1 h2 => exact ⟨_, _, rfl, h1, h2⟩
theorem GoodL.nil' {vs : List Value} (h : GoodL w [] vs) : vs = [] := by cases h; rfl
theorem GoodA.one {c : Cl} {v : Value} (h : GoodA w [c] false v) : GoodC w c v := by
  obtain ⟨h1, _, h2⟩ := h
  rw [h2 rfl] at h1
  cases h1 with | cons h _ => exact h
theorem GoodC.int' {k : IntKind} {v : Value} (h : GoodC w (.int k) v) : ∃ n, v = .int k n ∧ (Lit.int k n).wf = true := by
  cases h with | int h => exact ⟨_, rfl, h⟩
theorem GoodC.str' {v : Value} (h : GoodC w .str v) : ∃ s : ByteArray, v = .string s ∧ s.size ≤ maxLen := by
  cases h with | str h => exact ⟨_, rfl, h⟩
theorem GoodC.bool' {v : Value} (h : GoodC w .bool v) : ∃ b, v = .bool b := by
  cases h with | bool => exact ⟨_, rfl⟩
/-- a slice whose rows are of a kind -/
theorem GoodC.sl' {e : List Cl} {v : Value} {α : Type} [Inhabited α] {q : α → List Value → Prop} (h : GoodC w (.sl e) v) (hq : ∀ vs, GoodL w e vs → ∃ a, q a vs) :
    ∃ a n c, ∃ A : Nat → α, v = .slice a n c ∧ n ≤ c ∧ c ≤ maxLen ∧ (a = none → c = 0) ∧ ∀ i, i < n → ∃ b o vs, a = some ⟨b, o, none⟩ ∧ ro w b (o + i * e.length) vs ∧ q (A i) vs := by
  cases h with
  | sl rows hc hm hn hr hg =>
    obtain ⟨A, hA⟩ := choose_lt fun i hi => hq _ (hg i hi)
    exact ⟨_, _, _, A, rfl, hc, hm, hn, fun i hi => let ⟨b, o, h1, h2⟩ := hr i hi; ⟨b, o, rows i, h1, h2, hA i hi⟩⟩
theorem keep_all (hl : laidOutB P = true) : ∀ {ts : List TypeId} {vs : List Value} {ds : List (DataW H)} {ps : List MemPlace} {W W' : World}, ts.all (fun t => P.readableRec t && decide (t < P.types.size)) = true →
    DataW.TrodAll enc P W 0 (fun _ => true) true ts vs ds ps → Below W.heap.size W W' → DataW.TrodAll enc P W' 0 (fun b => decide (b < W.heap.size)) true ts vs ds ps
  | [], [], [], _, _, _, _, h, _ => h
  | [], [], _ :: _, _, _, _, _, h, _ => h.elim
  | [], _ :: _, _, _, _, _, _, h, _ => h.elim
  | _ :: _, [], _, _, _, _, _, h, _ => h.elim
  | _ :: _, _ :: _, [], _, _, _, _, h, _ => h.elim
  | t :: ts, v :: vs, d :: ds, ps, W, W', ha, h, hb => by
    obtain ⟨p, q, h1, h2, rfl⟩ := h
    simp only [List.all_cons, Bool.and_eq_true, decide_eq_true_eq] at ha
    have lt : ∀ x ∈ p, x.block < W.heap.size := by obtain ⟨m, hm⟩ := h1; exact DataW.trod_lt m _ _ _ hm
    exact ⟨p, q, Below.trod hl ha.1.1 ha.1.2 h1 hb lt, keep_all hl ha.2 h2 hb, rfl⟩
end
end Go.Eng
namespace Go.Eng
set_option linter.unusedVariables false
set_option linter.unusedSimpArgs false
open Go Go.RowKit

theorem wf64 {n : Int} (h : (Lit.int .i64 n).wf = true) : -9223372036854775808 ≤ n ∧ n ≤ 9223372036854775807 := by
  simp only [Lit.wf, Bool.and_eq_true, decide_eq_true_eq] at h
  exact h
theorem wf8 {n : Int} (h : (Lit.int .u8 n).wf = true) : 0 ≤ n ∧ n ≤ 255 := by
  simp only [Lit.wf, Bool.and_eq_true, decide_eq_true_eq] at h
  exact h
theorem ro_rows {α : Type} {A : Ly α} {w : World} {b o : Nat} : ∀ (l : List α), (∀ i (hi : i < l.length), ro w b (o + i * A.sz) (A.row l[i])) → ro w b o (A.rows l) := by
  intro l h j hj
  rw [Ly.rows_len] at hj
  have hp := A.pos
  have hi : j / A.sz < l.length := Nat.div_lt_of_lt_mul (by rw [Nat.mul_comm]; exact hj)
  have hr : j % A.sz < A.sz := Nat.mod_lt _ hp
  have h1 := h _ hi (j % A.sz) (by rw [A.len]; exact hr)
  have e : o + j / A.sz * A.sz + j % A.sz = o + j := by rw [Nat.add_assoc, Nat.div_add_mod']
  rw [e] at h1
  rw [h1, ← Ly.rows_at hi, List.getElem?_take_of_lt hr, List.getElem?_drop, Nat.div_add_mod']
theorem openArr {α : Type} [Inhabited α] (A : Ly α) {e : List Cl} (p : α → Prop) {w : World} {v : Value} (h : GoodC w (.sl e) v) (he : e.length = A.sz) (hq : ∀ vs, GoodL w e vs → ∃ a, vs = A.row a ∧ p a) :
    ∃ (a : Option Addr) (c : Nat) (l : List α), v = .slice a l.length c ∧ l.length ≤ c ∧ c ≤ maxLen ∧ Rd w [] a A l ∧ ∀ x ∈ l, p x := by
  obtain ⟨a, n, c, F, rfl, hn, hc, ha, hr⟩ := h.sl' (q := fun x vs => vs = A.row x ∧ p x) hq
  refine ⟨a, c, (List.range n).map F, by simp, by simpa using hn, hc, Rd.base ?_, fun x hx => ?_⟩
  · by_cases hn0 : n = 0
    · subst hn0; exact .inl rfl
    · right
      obtain ⟨b, o, vs, rfl, _⟩ := hr 0 (by omega)
      refine ⟨b, o, rfl, ro_rows _ fun i hi => ?_⟩
      obtain ⟨b', o', vs, h1, h2, h3, _⟩ := hr i (by simpa using hi)
      cases h1
      rw [he] at h2
      subst h3
      simpa using h2
  · obtain ⟨i, hi, rfl⟩ := List.mem_map.1 hx
    obtain ⟨_, _, _, _, _, _, h⟩ := hr i (by simpa using hi)
    exact h
/-- a slice of bytes -/
theorem openBytes {w : World} {v : Value} (h : GoodC w (.sl [.int .u8]) v) : ∃ (a : Option Addr) (c : Nat) (l : List UInt8), v = .slice a l.length c ∧ l.length ≤ c ∧ c ≤ maxLen ∧ Rd w [] a B8 l := by
  obtain ⟨a, c, l, h1, h2, h3, h4, _⟩ := openArr B8 (fun _ => True) h rfl fun vs hv => by
    obtain ⟨_, _, rfl, h1, h⟩ := hv.cons'
    obtain rfl := h.nil'
    obtain ⟨n, rfl, hn⟩ := h1.int'
    have := wf8 hn
    refine ⟨UInt8.ofNat n.toNat, ?_, trivial⟩
    have e : (UInt8.ofNat n.toNat).toNat = n.toNat := by simp [UInt8.toNat_ofNat']; omega
    show _ = [b8 _]
    simp only [b8, e]
    rw [Int.toNat_of_nonneg this.1]
  exact ⟨a, c, l, h1, h2, h3, h4⟩
end Go.Eng
namespace Go.Proofs.Ythladblmjoaeoaa
set_option linter.unusedVariables false
set_option linter.unusedSimpArgs false
open Go Go.Eng

instance diskAwake : Pure0 PR F_rostrumlaw5_awake [] (.bool true) := ⟨fun W => by
  apply S.rostrumlaw5_awake.call
  unfold S.rostrumlaw5_awake.body
  have h := St.start W
  refine diskNew h (by omega) (by omega) fun p W1 h => ?_
  (repeat (first | (first | (with_reducible (first | refine w1 fun _ _ => ?_ | refine w3 fun _ _ _ => ?_ | refine w4 fun _ _ _ => ?_ | refine w11 fun _ _ _ => ?_ | refine stb_n ?_)) | ((with_reducible refine w2 ?_); try simp -implicitDefEqProofs only [EN, lsub, lget, stL, beq_self_eq_true, ne_eq, if_true, if_false, List.cons_append, List.nil_append, Option.isNone_some, Option.isNone_none]; intro _ _) | ((with_reducible (first | refine w5 ?_ ?_ | refine w6 ?_ ?_ | refine w7 ?_ ?_)); simp; refine ⟨_, rfl, ?_⟩) | ((with_reducible (first | refine w8 ?_ ?_ ?_ | refine w9 ?_ ?_ ?_ | refine w10 ?_ ?_ ?_)); exact rfl; simp) | ((with_reducible refine w12 ?_ ?_ ?_ fun _ _ => ?_); simp; simp; simp [oneC]) | ((with_reducible (first | refine eqs ?_ | refine nes ?_)); refine ⟨_, rfl, ?_⟩) | ((refine okF_i (bldP_eq rfl) ?_); try simp only [BLS, List.take_succ_cons, List.take_zero, List.drop_succ_cons, List.drop_zero, List.cons_append, List.nil_append, Nat.reduceAdd])) | simp -implicitDefEqProofs only [EN, lsub, lget, stL, beq_self_eq_true, ne_eq, if_true, if_false, List.cons_append, List.nil_append, Option.isNone_some, Option.isNone_none]))
  have ok0 : DS.ok ⟨64, [], [], true, 1⟩ := ⟨by decide, by decide, by decide⟩
  have ft0 : DS.fit ⟨64, [], [], true, 1⟩ := trivial
  have s1 : DS.append ⟨64, [], [], true, 1⟩ 0 [120, 121] = (⟨64, [(0, [120, 121])], [(0, 0, 2)], true, 1⟩, 0) := by rfl
  have ok1 := ok0.append 0 [120, 121]
  have ft1 := ft0.append 0 [120, 121]
  rw [s1] at ok1 ft1
  have s2 : DS.append ⟨64, [(0, [120, 121])], [(0, 0, 2)], true, 1⟩ 1 [122, 122] = (⟨64, [(0, [120, 121]), (1, [122, 122])], [(0, 0, 2), (1, 0, 2)], true, 1⟩, 0) := by rfl
  have ok2 := ok1.append 1 [122, 122]
  have ft2 := ft1.append 1 [122, 122]
  rw [s2] at ok2 ft2
  have s3 : DS.crash ⟨64, [(0, [120, 121]), (1, [122, 122])], [(0, 0, 2), (1, 0, 2)], true, 1⟩ 1 1 = ⟨64, [(0, [120, 121]), (1, [122])], [], false, 1⟩ := by rfl
  have ok3 := ok2.crash 1 1
  rw [s3] at ok3
  refine bytesLit [120, 121] (by first | assumption | exact St.tick (by assumption) | exact St.tick (St.tick (by assumption))) rfl (by decide) (by decide) rfl fun a1 c1 W2 h => ?_
  refine diskAppend (f := 0) (bs := [120, 121]) (by first | assumption | exact St.tick (by assumption) | exact St.tick (St.tick (by assumption))) ok0 (by decide) (by decide) fun W3 h => ?_
  rw [s1] at h ⊢
  refine bytesLit [122, 122] (by first | assumption | exact St.tick (by assumption) | exact St.tick (St.tick (by assumption))) rfl (by decide) (by decide) rfl fun a2 c2 W4 h => ?_
  refine diskAppend (f := 1) (bs := [122, 122]) (by first | assumption | exact St.tick (by assumption) | exact St.tick (St.tick (by assumption))) ok1 (by decide) (by decide) fun W5 h => ?_
  rw [s2] at h ⊢
  refine diskCrash (keep := 1) (torn := 1) (by first | assumption | exact St.tick (by assumption) | exact St.tick (St.tick (by assumption))) ok2 ft2 (by decide) fun W6 h => ?_
  rw [s3] at h
  refine diskRead (d := ⟨64, [(0, [120, 121]), (1, [122])], [], false, 1⟩) (f := 0) (by first | assumption | exact St.tick (by assumption) | exact St.tick (St.tick (by assumption))) (by decide) fun a3 c3 W7 h => ?_
  have r1 : DS.read ⟨64, [(0, [120, 121]), (1, [122])], [], false, 1⟩ 0 = ([], 7) := by rfl
  rw [r1] at h ⊢
  (repeat (first | (first | (with_reducible (first | refine w1 fun _ _ => ?_ | refine w3 fun _ _ _ => ?_ | refine w4 fun _ _ _ => ?_ | refine w11 fun _ _ _ => ?_ | refine stb_n ?_)) | ((with_reducible refine w2 ?_); try simp -implicitDefEqProofs only [EN, lsub, lget, stL, beq_self_eq_true, ne_eq, if_true, if_false, List.cons_append, List.nil_append, Option.isNone_some, Option.isNone_none]; intro _ _) | ((with_reducible (first | refine w5 ?_ ?_ | refine w6 ?_ ?_ | refine w7 ?_ ?_)); simp; refine ⟨_, rfl, ?_⟩) | ((with_reducible (first | refine w8 ?_ ?_ ?_ | refine w9 ?_ ?_ ?_ | refine w10 ?_ ?_ ?_)); exact rfl; simp) | ((with_reducible refine w12 ?_ ?_ ?_ fun _ _ => ?_); simp; simp; simp [oneC]) | ((with_reducible (first | refine eqs ?_ | refine nes ?_)); refine ⟨_, rfl, ?_⟩) | ((refine okF_i (bldP_eq rfl) ?_); try simp only [BLS, List.take_succ_cons, List.take_zero, List.drop_succ_cons, List.drop_zero, List.cons_append, List.nil_append, Nat.reduceAdd])) | simp -implicitDefEqProofs only [EN, lsub, lget, stL, beq_self_eq_true, ne_eq, if_true, if_false, List.cons_append, List.nil_append, Option.isNone_some, Option.isNone_none]))
  refine diskOn (by first | assumption | exact St.tick (by assumption) | exact St.tick (St.tick (by assumption))) fun W8 h => ?_
  have s4 : DS.power ⟨64, [(0, [120, 121]), (1, [122])], [], false, 1⟩ = ⟨64, [(0, [120, 121]), (1, [122])], [], true, 2⟩ := by rfl
  rw [s4] at h
  refine diskRead (d := ⟨64, [(0, [120, 121]), (1, [122])], [], true, 2⟩) (f := 0) (by first | assumption | exact St.tick (by assumption) | exact St.tick (St.tick (by assumption))) (by decide) fun a4 c4 W9 h => ?_
  have r2 : DS.read ⟨64, [(0, [120, 121]), (1, [122])], [], true, 2⟩ 0 = ([120, 121], 0) := by rfl
  rw [r2] at h ⊢
  (repeat (first | (first | (with_reducible (first | refine w1 fun _ _ => ?_ | refine w3 fun _ _ _ => ?_ | refine w4 fun _ _ _ => ?_ | refine w11 fun _ _ _ => ?_ | refine stb_n ?_)) | ((with_reducible refine w2 ?_); try simp -implicitDefEqProofs only [EN, lsub, lget, stL, beq_self_eq_true, ne_eq, if_true, if_false, List.cons_append, List.nil_append, Option.isNone_some, Option.isNone_none]; intro _ _) | ((with_reducible (first | refine w5 ?_ ?_ | refine w6 ?_ ?_ | refine w7 ?_ ?_)); simp; refine ⟨_, rfl, ?_⟩) | ((with_reducible (first | refine w8 ?_ ?_ ?_ | refine w9 ?_ ?_ ?_ | refine w10 ?_ ?_ ?_)); exact rfl; simp) | ((with_reducible refine w12 ?_ ?_ ?_ fun _ _ => ?_); simp; simp; simp [oneC]) | ((with_reducible (first | refine eqs ?_ | refine nes ?_)); refine ⟨_, rfl, ?_⟩) | ((refine okF_i (bldP_eq rfl) ?_); try simp only [BLS, List.take_succ_cons, List.take_zero, List.drop_succ_cons, List.drop_zero, List.cons_append, List.nil_append, Nat.reduceAdd])) | simp -implicitDefEqProofs only [EN, lsub, lget, stL, beq_self_eq_true, ne_eq, if_true, if_false, List.cons_append, List.nil_append, Option.isNone_some, Option.isNone_none]))
  refine diskRead (d := ⟨64, [(0, [120, 121]), (1, [122])], [], true, 2⟩) (f := 1) (by first | assumption | exact St.tick (by assumption) | exact St.tick (St.tick (by assumption))) (by decide) fun a5 c5 W10 h => ?_
  have r3 : DS.read ⟨64, [(0, [120, 121]), (1, [122])], [], true, 2⟩ 1 = ([122], 0) := by rfl
  rw [r3] at h ⊢
  (repeat (first | (first | (with_reducible (first | refine w1 fun _ _ => ?_ | refine w3 fun _ _ _ => ?_ | refine w4 fun _ _ _ => ?_ | refine w11 fun _ _ _ => ?_ | refine stb_n ?_)) | ((with_reducible refine w2 ?_); try simp -implicitDefEqProofs only [EN, lsub, lget, stL, beq_self_eq_true, ne_eq, if_true, if_false, List.cons_append, List.nil_append, Option.isNone_some, Option.isNone_none]; intro _ _) | ((with_reducible (first | refine w5 ?_ ?_ | refine w6 ?_ ?_ | refine w7 ?_ ?_)); simp; refine ⟨_, rfl, ?_⟩) | ((with_reducible (first | refine w8 ?_ ?_ ?_ | refine w9 ?_ ?_ ?_ | refine w10 ?_ ?_ ?_)); exact rfl; simp) | ((with_reducible refine w12 ?_ ?_ ?_ fun _ _ => ?_); simp; simp; simp [oneC]) | ((with_reducible (first | refine eqs ?_ | refine nes ?_)); refine ⟨_, rfl, ?_⟩) | ((refine okF_i (bldP_eq rfl) ?_); try simp only [BLS, List.take_succ_cons, List.take_zero, List.drop_succ_cons, List.drop_zero, List.cons_append, List.nil_append, Nat.reduceAdd])) | simp -implicitDefEqProofs only [EN, lsub, lget, stL, beq_self_eq_true, ne_eq, if_true, if_false, List.cons_append, List.nil_append, Option.isNone_some, Option.isNone_none]))
  refine b2s (a := a4) (l := [120, 121]) (by first | assumption | exact St.tick (by assumption) | exact St.tick (St.tick (by assumption))) ?_
  (repeat (first | (first | (with_reducible (first | refine w1 fun _ _ => ?_ | refine w3 fun _ _ _ => ?_ | refine w4 fun _ _ _ => ?_ | refine w11 fun _ _ _ => ?_ | refine stb_n ?_)) | ((with_reducible refine w2 ?_); try simp -implicitDefEqProofs only [EN, lsub, lget, stL, beq_self_eq_true, ne_eq, if_true, if_false, List.cons_append, List.nil_append, Option.isNone_some, Option.isNone_none, eq_self]; intro _ _) | ((with_reducible (first | refine w5 ?_ ?_ | refine w6 ?_ ?_ | refine w7 ?_ ?_)); simp; refine ⟨_, rfl, ?_⟩) | ((with_reducible (first | refine w8 ?_ ?_ ?_ | refine w9 ?_ ?_ ?_ | refine w10 ?_ ?_ ?_)); exact rfl; simp) | ((with_reducible refine w12 ?_ ?_ ?_ fun _ _ => ?_); simp; simp; simp [oneC]) | ((with_reducible (first | refine eqs ?_ | refine nes ?_)); refine ⟨_, rfl, ?_⟩) | ((refine okF_i (bldP_eq rfl) ?_); try simp only [BLS, List.take_succ_cons, List.take_zero, List.drop_succ_cons, List.drop_zero, List.cons_append, List.nil_append, Nat.reduceAdd])) | simp -implicitDefEqProofs only [EN, lsub, lget, stL, beq_self_eq_true, ne_eq, if_true, if_false, List.cons_append, List.nil_append, Option.isNone_some, Option.isNone_none, eq_self]))
  refine b2s (a := a5) (l := [122]) (by first | assumption | exact St.tick (by assumption) | exact St.tick (St.tick (by assumption))) ?_
  (repeat (first | (first | (with_reducible (first | refine w1 fun _ _ => ?_ | refine w3 fun _ _ _ => ?_ | refine w4 fun _ _ _ => ?_ | refine w11 fun _ _ _ => ?_ | refine stb_n ?_)) | ((with_reducible refine w2 ?_); try simp -implicitDefEqProofs only [EN, lsub, lget, stL, beq_self_eq_true, ne_eq, if_true, if_false, List.cons_append, List.nil_append, Option.isNone_some, Option.isNone_none, eq_self]; intro _ _) | ((with_reducible (first | refine w5 ?_ ?_ | refine w6 ?_ ?_ | refine w7 ?_ ?_)); simp; refine ⟨_, rfl, ?_⟩) | ((with_reducible (first | refine w8 ?_ ?_ ?_ | refine w9 ?_ ?_ ?_ | refine w10 ?_ ?_ ?_)); exact rfl; simp) | ((with_reducible refine w12 ?_ ?_ ?_ fun _ _ => ?_); simp; simp; simp [oneC]) | ((with_reducible (first | refine eqs ?_ | refine nes ?_)); refine ⟨_, rfl, ?_⟩) | ((refine okF_i (bldP_eq rfl) ?_); try simp only [BLS, List.take_succ_cons, List.take_zero, List.drop_succ_cons, List.drop_zero, List.cons_append, List.nil_append, Nat.reduceAdd])) | simp -implicitDefEqProofs only [EN, lsub, lget, stL, beq_self_eq_true, ne_eq, if_true, if_false, List.cons_append, List.nil_append, Option.isNone_some, Option.isNone_none, eq_self]))
  refine diskLives (by first | assumption | exact St.tick (by assumption) | exact St.tick (St.tick (by assumption))) fun W11 h => ?_
  (repeat (first | (first | (with_reducible (first | refine w1 fun _ _ => ?_ | refine w3 fun _ _ _ => ?_ | refine w4 fun _ _ _ => ?_ | refine w11 fun _ _ _ => ?_ | refine stb_n ?_)) | ((with_reducible refine w2 ?_); try simp -implicitDefEqProofs only [EN, lsub, lget, stL, beq_self_eq_true, ne_eq, if_true, if_false, List.cons_append, List.nil_append, Option.isNone_some, Option.isNone_none, eq_self]; intro _ _) | ((with_reducible (first | refine w5 ?_ ?_ | refine w6 ?_ ?_ | refine w7 ?_ ?_)); simp; refine ⟨_, rfl, ?_⟩) | ((with_reducible (first | refine w8 ?_ ?_ ?_ | refine w9 ?_ ?_ ?_ | refine w10 ?_ ?_ ?_)); exact rfl; simp) | ((with_reducible refine w12 ?_ ?_ ?_ fun _ _ => ?_); simp; simp; simp [oneC]) | ((with_reducible (first | refine eqs ?_ | refine nes ?_)); refine ⟨_, rfl, ?_⟩) | ((refine okF_i (bldP_eq rfl) ?_); try simp only [BLS, List.take_succ_cons, List.take_zero, List.drop_succ_cons, List.drop_zero, List.cons_append, List.nil_append, Nat.reduceAdd])) | simp -implicitDefEqProofs only [EN, lsub, lget, stL, beq_self_eq_true, ne_eq, if_true, if_false, List.cons_append, List.nil_append, Option.isNone_some, Option.isNone_none, eq_self]))
  refine diskPower (by first | assumption | exact St.tick (by assumption) | exact St.tick (St.tick (by assumption))) fun W12 h => ?_
  (repeat (first | (first | (with_reducible (first | refine w1 fun _ _ => ?_ | refine w3 fun _ _ _ => ?_ | refine w4 fun _ _ _ => ?_ | refine w11 fun _ _ _ => ?_ | refine stb_n ?_)) | ((with_reducible refine w2 ?_); try simp -implicitDefEqProofs only [EN, lsub, lget, stL, beq_self_eq_true, ne_eq, if_true, if_false, List.cons_append, List.nil_append, Option.isNone_some, Option.isNone_none]; intro _ _) | ((with_reducible (first | refine w5 ?_ ?_ | refine w6 ?_ ?_ | refine w7 ?_ ?_)); simp; refine ⟨_, rfl, ?_⟩) | ((with_reducible (first | refine w8 ?_ ?_ ?_ | refine w9 ?_ ?_ ?_ | refine w10 ?_ ?_ ?_)); exact rfl; simp) | ((with_reducible refine w12 ?_ ?_ ?_ fun _ _ => ?_); simp; simp; simp [oneC]) | ((with_reducible (first | refine eqs ?_ | refine nes ?_)); refine ⟨_, rfl, ?_⟩) | ((refine okF_i (bldP_eq rfl) ?_); try simp only [BLS, List.take_succ_cons, List.take_zero, List.drop_succ_cons, List.drop_zero, List.cons_append, List.nil_append, Nat.reduceAdd])) | simp -implicitDefEqProofs only [EN, lsub, lget, stL, beq_self_eq_true, ne_eq, if_true, if_false, List.cons_append, List.nil_append, Option.isNone_some, Option.isNone_none]))
  exact St.nil (by first | assumption | exact St.tick (by assumption) | exact St.tick (St.tick (by assumption)))⟩

theorem diskApart_walk {W : World} {v0 : Value} (h0 : GoodA W [.sl [.int .u8]] false v0) : callK PR F_rostrumlaw5_DiskApart [v0] (fun v W' => v = .bool true ∧ St W [] W') W := by
  obtain ⟨b, c, l, rfl, hbc, hbm, hrb⟩ := openBytes h0.one
  apply S.rostrumlaw5_DiskApart.call
  unfold S.rostrumlaw5_DiskApart.body
  have h := St.start W
  by_cases h1 : (l.length : Int) < 1
  · (repeat (first | (first | (with_reducible (first | refine w1 fun _ _ => ?_ | refine w3 fun _ _ _ => ?_ | refine w4 fun _ _ _ => ?_ | refine w11 fun _ _ _ => ?_ | refine stb_n ?_)) | ((with_reducible refine w2 ?_); try simp -implicitDefEqProofs only [EN, lsub, lget, stL, beq_self_eq_true, ne_eq, if_true, if_false, List.cons_append, List.nil_append, Option.isNone_some, Option.isNone_none, h1]; intro _ _) | ((with_reducible (first | refine w5 ?_ ?_ | refine w6 ?_ ?_ | refine w7 ?_ ?_)); simp; refine ⟨_, rfl, ?_⟩) | ((with_reducible (first | refine w8 ?_ ?_ ?_ | refine w9 ?_ ?_ ?_ | refine w10 ?_ ?_ ?_)); exact rfl; simp) | ((with_reducible refine w12 ?_ ?_ ?_ fun _ _ => ?_); simp; simp; simp [oneC]) | ((with_reducible (first | refine eqs ?_ | refine nes ?_)); refine ⟨_, rfl, ?_⟩) | ((refine okF_i (bldP_eq rfl) ?_); try simp only [BLS, List.take_succ_cons, List.take_zero, List.drop_succ_cons, List.drop_zero, List.cons_append, List.nil_append, Nat.reduceAdd])) | simp -implicitDefEqProofs only [EN, lsub, lget, stL, beq_self_eq_true, ne_eq, if_true, if_false, List.cons_append, List.nil_append, Option.isNone_some, Option.isNone_none, h1]))
    (first | exact St.nil (by first | assumption | exact St.tick (by assumption) | exact St.tick (St.tick (by assumption))) | exact ⟨rfl, St.nil (by first | assumption | exact St.tick (by assumption) | exact St.tick (St.tick (by assumption)))⟩)
  by_cases h2 : (100 : Int) < (l.length : Int)
  · (repeat (first | (first | (with_reducible (first | refine w1 fun _ _ => ?_ | refine w3 fun _ _ _ => ?_ | refine w4 fun _ _ _ => ?_ | refine w11 fun _ _ _ => ?_ | refine stb_n ?_)) | ((with_reducible refine w2 ?_); try simp -implicitDefEqProofs only [EN, lsub, lget, stL, beq_self_eq_true, ne_eq, if_true, if_false, List.cons_append, List.nil_append, Option.isNone_some, Option.isNone_none, h1, h2]; intro _ _) | ((with_reducible (first | refine w5 ?_ ?_ | refine w6 ?_ ?_ | refine w7 ?_ ?_)); simp; refine ⟨_, rfl, ?_⟩) | ((with_reducible (first | refine w8 ?_ ?_ ?_ | refine w9 ?_ ?_ ?_ | refine w10 ?_ ?_ ?_)); exact rfl; simp) | ((with_reducible refine w12 ?_ ?_ ?_ fun _ _ => ?_); simp; simp; simp [oneC]) | ((with_reducible (first | refine eqs ?_ | refine nes ?_)); refine ⟨_, rfl, ?_⟩) | ((refine okF_i (bldP_eq rfl) ?_); try simp only [BLS, List.take_succ_cons, List.take_zero, List.drop_succ_cons, List.drop_zero, List.cons_append, List.nil_append, Nat.reduceAdd])) | simp -implicitDefEqProofs only [EN, lsub, lget, stL, beq_self_eq_true, ne_eq, if_true, if_false, List.cons_append, List.nil_append, Option.isNone_some, Option.isNone_none, h1, h2]))
    (first | exact St.nil (by first | assumption | exact St.tick (by assumption) | exact St.tick (St.tick (by assumption))) | exact ⟨rfl, St.nil (by first | assumption | exact St.tick (by assumption) | exact St.tick (St.tick (by assumption)))⟩)
  (repeat (first | (first | (with_reducible (first | refine w1 fun _ _ => ?_ | refine w3 fun _ _ _ => ?_ | refine w4 fun _ _ _ => ?_ | refine w11 fun _ _ _ => ?_ | refine stb_n ?_)) | ((with_reducible refine w2 ?_); try simp -implicitDefEqProofs only [EN, lsub, lget, stL, beq_self_eq_true, ne_eq, if_true, if_false, List.cons_append, List.nil_append, Option.isNone_some, Option.isNone_none, h1, h2]; intro _ _) | ((with_reducible (first | refine w5 ?_ ?_ | refine w6 ?_ ?_ | refine w7 ?_ ?_)); simp; refine ⟨_, rfl, ?_⟩) | ((with_reducible (first | refine w8 ?_ ?_ ?_ | refine w9 ?_ ?_ ?_ | refine w10 ?_ ?_ ?_)); exact rfl; simp) | ((with_reducible refine w12 ?_ ?_ ?_ fun _ _ => ?_); simp; simp; simp [oneC]) | ((with_reducible (first | refine eqs ?_ | refine nes ?_)); refine ⟨_, rfl, ?_⟩) | ((refine okF_i (bldP_eq rfl) ?_); try simp only [BLS, List.take_succ_cons, List.take_zero, List.drop_succ_cons, List.drop_zero, List.cons_append, List.nil_append, Nat.reduceAdd])) | simp -implicitDefEqProofs only [EN, lsub, lget, stL, beq_self_eq_true, ne_eq, if_true, if_false, List.cons_append, List.nil_append, Option.isNone_some, Option.isNone_none, h1, h2]))
  refine diskNew (by first | assumption | exact St.tick (by assumption) | exact St.tick (St.tick (by assumption))) (by omega) (by omega) fun p W1 h => ?_
  have ok0 : DS.ok ⟨1000, [], [], true, 1⟩ := ⟨by decide, by decide, by decide⟩
  (repeat (first | (first | (with_reducible (first | refine w1 fun _ _ => ?_ | refine w3 fun _ _ _ => ?_ | refine w4 fun _ _ _ => ?_ | refine w11 fun _ _ _ => ?_ | refine stb_n ?_)) | ((with_reducible refine w2 ?_); try simp -implicitDefEqProofs only [EN, lsub, lget, stL, beq_self_eq_true, ne_eq, if_true, if_false, List.cons_append, List.nil_append, Option.isNone_some, Option.isNone_none]; intro _ _) | ((with_reducible (first | refine w5 ?_ ?_ | refine w6 ?_ ?_ | refine w7 ?_ ?_)); simp; refine ⟨_, rfl, ?_⟩) | ((with_reducible (first | refine w8 ?_ ?_ ?_ | refine w9 ?_ ?_ ?_ | refine w10 ?_ ?_ ?_)); exact rfl; simp) | ((with_reducible refine w12 ?_ ?_ ?_ fun _ _ => ?_); simp; simp; simp [oneC]) | ((with_reducible (first | refine eqs ?_ | refine nes ?_)); refine ⟨_, rfl, ?_⟩) | ((refine okF_i (bldP_eq rfl) ?_); try simp only [BLS, List.take_succ_cons, List.take_zero, List.drop_succ_cons, List.drop_zero, List.cons_append, List.nil_append, Nat.reduceAdd])) | simp -implicitDefEqProofs only [EN, lsub, lget, stL, beq_self_eq_true, ne_eq, if_true, if_false, List.cons_append, List.nil_append, Option.isNone_some, Option.isNone_none]))
  refine bs0 B8 (by first | assumption | exact St.tick (by assumption) | exact St.tick (St.tick (by assumption))) fun a1 c1 W2 h => ?_
  refine appA (a := a1) (l := []) (m := l) h rfl (by simp; omega) (by simp [maxLen]; omega) fun a2 c2 W3 h => ?_
  have s1 : DS.append ⟨1000, [], [], true, 1⟩ 3 l = (⟨1000, [(3, l)], [(3, 0, (l.length : Int))], true, 1⟩, 0) := by
    unfold DS.append
    rw [if_neg (by decide), if_neg (by simp [lens]; omega)]
    simp [mput, cont, mget]
  have ok1 := ok0.append 3 l
  rw [s1] at ok1
  rw [List.nil_append] at h ⊢
  refine diskAppend (f := 3) (a := a2) (bs := l) (by first | assumption | exact St.tick (by assumption) | exact St.tick (St.tick (by assumption))) ok0 (by omega) (by decide) fun W4 h => ?_
  rw [s1] at h
  have hl0 : 0 < l.length := by omega
  have hb8 : ∀ x : UInt8, vcells (.int .u8 (IntKind.u8.wrap (((x.toNat : Nat) : Int) + 1))) = B8.row (x + 1) := by
    intro x
    have e : IntKind.u8.wrap (((x.toNat : Nat) : Int) + 1) = (((x + 1).toNat : Nat) : Int) := by
      simp [IntKind.wrap, IntKind.bits, IntKind.signed, UInt8.toNat_add]
    rw [e]; rfl
  refine ixA (i := 0) (a := a2) (l := l) (A := B8) h rfl rfl hl0 fun g o ha => ?_
  cases ha
  refine ldA0 (i := 0) (l := l) (A := B8) h rfl hl0 (v := .int .u8 (l[0].toNat : Nat)) rfl (by simp) ?_
  (repeat (first | (first | (with_reducible (first | refine w1 fun _ _ => ?_ | refine w3 fun _ _ _ => ?_ | refine w4 fun _ _ _ => ?_ | refine w11 fun _ _ _ => ?_ | refine stb_n ?_)) | ((with_reducible refine w2 ?_); try simp -implicitDefEqProofs only [EN, lsub, lget, stL, beq_self_eq_true, ne_eq, if_true, if_false, List.cons_append, List.nil_append, Option.isNone_some, Option.isNone_none]; intro _ _) | ((with_reducible (first | refine w5 ?_ ?_ | refine w6 ?_ ?_ | refine w7 ?_ ?_)); simp; refine ⟨_, rfl, ?_⟩) | ((with_reducible (first | refine w8 ?_ ?_ ?_ | refine w9 ?_ ?_ ?_ | refine w10 ?_ ?_ ?_)); exact rfl; simp) | ((with_reducible refine w12 ?_ ?_ ?_ fun _ _ => ?_); simp; simp; simp [oneC]) | ((with_reducible (first | refine eqs ?_ | refine nes ?_)); refine ⟨_, rfl, ?_⟩) | ((refine okF_i (bldP_eq rfl) ?_); try simp only [BLS, List.take_succ_cons, List.take_zero, List.drop_succ_cons, List.drop_zero, List.cons_append, List.nil_append, Nat.reduceAdd])) | simp -implicitDefEqProofs only [EN, lsub, lget, stL, beq_self_eq_true, ne_eq, if_true, if_false, List.cons_append, List.nil_append, Option.isNone_some, Option.isNone_none]))
  refine ixA (i := 0) (a := some ⟨g, o, none⟩) (l := l) (A := B8) (by first | assumption | exact St.tick (by assumption) | exact St.tick (St.tick (by assumption))) rfl rfl hl0 fun g' o' ha => ?_
  cases ha
  refine stA (i := 0) (l := l) (A := B8) (x := l[0] + 1) (by first | assumption | exact St.tick (by assumption) | exact St.tick (St.tick (by assumption))) rfl hl0 (hb8 _) fun W5 h => ?_
  have r1 : DS.read ⟨1000, [(3, l)], [(3, 0, (l.length : Int))], true, 1⟩ 3 = (l, 0) := by
    unfold DS.read
    rw [if_neg (by simp [DS.find, DS.ask, mget])]
    simp [cont, mget]
  have hls : lens [((3 : Int), l)] ≤ 1048576 := by simp [lens]; omega
  refine diskRead (d := ⟨1000, [(3, l)], [(3, 0, (l.length : Int))], true, 1⟩) (f := 3) (by first | assumption | exact St.tick (by assumption) | exact St.tick (St.tick (by assumption))) hls fun a3 c3 W6 h => ?_
  rw [r1] at h ⊢
  (repeat (first | (first | (with_reducible (first | refine w1 fun _ _ => ?_ | refine w3 fun _ _ _ => ?_ | refine w4 fun _ _ _ => ?_ | refine w11 fun _ _ _ => ?_ | refine stb_n ?_)) | ((with_reducible refine w2 ?_); try simp -implicitDefEqProofs only [EN, lsub, lget, stL, beq_self_eq_true, ne_eq, if_true, if_false, List.cons_append, List.nil_append, Option.isNone_some, Option.isNone_none, eq_self]; intro _ _) | ((with_reducible (first | refine w5 ?_ ?_ | refine w6 ?_ ?_ | refine w7 ?_ ?_)); simp; refine ⟨_, rfl, ?_⟩) | ((with_reducible (first | refine w8 ?_ ?_ ?_ | refine w9 ?_ ?_ ?_ | refine w10 ?_ ?_ ?_)); exact rfl; simp) | ((with_reducible refine w12 ?_ ?_ ?_ fun _ _ => ?_); simp; simp; simp [oneC]) | ((with_reducible (first | refine eqs ?_ | refine nes ?_)); refine ⟨_, rfl, ?_⟩) | ((refine okF_i (bldP_eq rfl) ?_); try simp only [BLS, List.take_succ_cons, List.take_zero, List.drop_succ_cons, List.drop_zero, List.cons_append, List.nil_append, Nat.reduceAdd])) | simp -implicitDefEqProofs only [EN, lsub, lget, stL, beq_self_eq_true, ne_eq, if_true, if_false, List.cons_append, List.nil_append, Option.isNone_some, Option.isNone_none, eq_self]))
  refine ixA (i := 0) (a := a3) (l := l) (A := B8) (by first | assumption | exact St.tick (by assumption) | exact St.tick (St.tick (by assumption))) rfl rfl hl0 fun g' o' ha => ?_
  cases ha
  refine ldA0 (i := 0) (l := l) (A := B8) (by first | assumption | exact St.tick (by assumption) | exact St.tick (St.tick (by assumption))) rfl hl0 (v := .int .u8 (l[0].toNat : Nat)) rfl (by simp) ?_
  (repeat (first | (first | (with_reducible (first | refine w1 fun _ _ => ?_ | refine w3 fun _ _ _ => ?_ | refine w4 fun _ _ _ => ?_ | refine w11 fun _ _ _ => ?_ | refine stb_n ?_)) | ((with_reducible refine w2 ?_); try simp -implicitDefEqProofs only [EN, lsub, lget, stL, beq_self_eq_true, ne_eq, if_true, if_false, List.cons_append, List.nil_append, Option.isNone_some, Option.isNone_none]; intro _ _) | ((with_reducible (first | refine w5 ?_ ?_ | refine w6 ?_ ?_ | refine w7 ?_ ?_)); simp; refine ⟨_, rfl, ?_⟩) | ((with_reducible (first | refine w8 ?_ ?_ ?_ | refine w9 ?_ ?_ ?_ | refine w10 ?_ ?_ ?_)); exact rfl; simp) | ((with_reducible refine w12 ?_ ?_ ?_ fun _ _ => ?_); simp; simp; simp [oneC]) | ((with_reducible (first | refine eqs ?_ | refine nes ?_)); refine ⟨_, rfl, ?_⟩) | ((refine okF_i (bldP_eq rfl) ?_); try simp only [BLS, List.take_succ_cons, List.take_zero, List.drop_succ_cons, List.drop_zero, List.cons_append, List.nil_append, Nat.reduceAdd])) | simp -implicitDefEqProofs only [EN, lsub, lget, stL, beq_self_eq_true, ne_eq, if_true, if_false, List.cons_append, List.nil_append, Option.isNone_some, Option.isNone_none]))
  refine ixA (i := 0) (a := some ⟨g', o', none⟩) (l := l) (A := B8) (by first | assumption | exact St.tick (by assumption) | exact St.tick (St.tick (by assumption))) rfl rfl hl0 fun g' o' ha => ?_
  cases ha
  refine stA (i := 0) (l := l) (A := B8) (x := l[0] + 1) (by first | assumption | exact St.tick (by assumption) | exact St.tick (St.tick (by assumption))) rfl hl0 (hb8 _) fun W7 h => ?_
  refine diskRead (d := ⟨1000, [(3, l)], [(3, 0, (l.length : Int))], true, 1⟩) (f := 3) (by first | assumption | exact St.tick (by assumption) | exact St.tick (St.tick (by assumption))) hls fun a4 c4 W8 h => ?_
  rw [r1] at h ⊢
  (repeat (first | (first | (with_reducible (first | refine w1 fun _ _ => ?_ | refine w3 fun _ _ _ => ?_ | refine w4 fun _ _ _ => ?_ | refine w11 fun _ _ _ => ?_ | refine stb_n ?_)) | ((with_reducible refine w2 ?_); try simp -implicitDefEqProofs only [EN, lsub, lget, stL, beq_self_eq_true, ne_eq, if_true, if_false, List.cons_append, List.nil_append, Option.isNone_some, Option.isNone_none]; intro _ _) | ((with_reducible (first | refine w5 ?_ ?_ | refine w6 ?_ ?_ | refine w7 ?_ ?_)); simp; refine ⟨_, rfl, ?_⟩) | ((with_reducible (first | refine w8 ?_ ?_ ?_ | refine w9 ?_ ?_ ?_ | refine w10 ?_ ?_ ?_)); exact rfl; simp) | ((with_reducible refine w12 ?_ ?_ ?_ fun _ _ => ?_); simp; simp; simp [oneC]) | ((with_reducible (first | refine eqs ?_ | refine nes ?_)); refine ⟨_, rfl, ?_⟩) | ((refine okF_i (bldP_eq rfl) ?_); try simp only [BLS, List.take_succ_cons, List.take_zero, List.drop_succ_cons, List.drop_zero, List.cons_append, List.nil_append, Nat.reduceAdd])) | simp -implicitDefEqProofs only [EN, lsub, lget, stL, beq_self_eq_true, ne_eq, if_true, if_false, List.cons_append, List.nil_append, Option.isNone_some, Option.isNone_none]))
  refine b2s (a := a4) (l := l) (by first | assumption | exact St.tick (by assumption) | exact St.tick (St.tick (by assumption))) ?_
  (repeat (first | (first | (with_reducible (first | refine w1 fun _ _ => ?_ | refine w3 fun _ _ _ => ?_ | refine w4 fun _ _ _ => ?_ | refine w11 fun _ _ _ => ?_ | refine stb_n ?_)) | ((with_reducible refine w2 ?_); try simp -implicitDefEqProofs only [EN, lsub, lget, stL, beq_self_eq_true, ne_eq, if_true, if_false, List.cons_append, List.nil_append, Option.isNone_some, Option.isNone_none]; intro _ _) | ((with_reducible (first | refine w5 ?_ ?_ | refine w6 ?_ ?_ | refine w7 ?_ ?_)); simp; refine ⟨_, rfl, ?_⟩) | ((with_reducible (first | refine w8 ?_ ?_ ?_ | refine w9 ?_ ?_ ?_ | refine w10 ?_ ?_ ?_)); exact rfl; simp) | ((with_reducible refine w12 ?_ ?_ ?_ fun _ _ => ?_); simp; simp; simp [oneC]) | ((with_reducible (first | refine eqs ?_ | refine nes ?_)); refine ⟨_, rfl, ?_⟩) | ((refine okF_i (bldP_eq rfl) ?_); try simp only [BLS, List.take_succ_cons, List.take_zero, List.drop_succ_cons, List.drop_zero, List.cons_append, List.nil_append, Nat.reduceAdd])) | simp -implicitDefEqProofs only [EN, lsub, lget, stL, beq_self_eq_true, ne_eq, if_true, if_false, List.cons_append, List.nil_append, Option.isNone_some, Option.isNone_none]))
  refine b2s (a := b) (l := l) (by first | assumption | exact St.tick (by assumption) | exact St.tick (St.tick (by assumption))) ?_
  (repeat (first | (first | (with_reducible (first | refine w1 fun _ _ => ?_ | refine w3 fun _ _ _ => ?_ | refine w4 fun _ _ _ => ?_ | refine w11 fun _ _ _ => ?_ | refine stb_n ?_)) | ((with_reducible refine w2 ?_); try simp -implicitDefEqProofs only [EN, lsub, lget, stL, beq_self_eq_true, ne_eq, if_true, if_false, List.cons_append, List.nil_append, Option.isNone_some, Option.isNone_none, eq_self]; intro _ _) | ((with_reducible (first | refine w5 ?_ ?_ | refine w6 ?_ ?_ | refine w7 ?_ ?_)); simp; refine ⟨_, rfl, ?_⟩) | ((with_reducible (first | refine w8 ?_ ?_ ?_ | refine w9 ?_ ?_ ?_ | refine w10 ?_ ?_ ?_)); exact rfl; simp) | ((with_reducible refine w12 ?_ ?_ ?_ fun _ _ => ?_); simp; simp; simp [oneC]) | ((with_reducible (first | refine eqs ?_ | refine nes ?_)); refine ⟨_, rfl, ?_⟩) | ((refine okF_i (bldP_eq rfl) ?_); try simp only [BLS, List.take_succ_cons, List.take_zero, List.drop_succ_cons, List.drop_zero, List.cons_append, List.nil_append, Nat.reduceAdd])) | simp -implicitDefEqProofs only [EN, lsub, lget, stL, beq_self_eq_true, ne_eq, if_true, if_false, List.cons_append, List.nil_append, Option.isNone_some, Option.isNone_none, eq_self]))
  exact St.nil (by first | assumption | exact St.tick (by assumption) | exact St.tick (St.tick (by assumption)))
end Go.Proofs.Ythladblmjoaeoaa
namespace Go.Proofs.Ythladblmjoaeoaa
set_option linter.unusedVariables false
set_option linter.unusedSimpArgs false
open Go Go.Eng Go.RowKit

structure Lo (W W' : World) : Prop where
  below : Below W.heap.size W W'
theorem St.startz (W : World) : St { W with drawn := 0 } [] W := ⟨⟨⟨rfl, rfl, rfl, Nat.le_refl _, fun _ _ => rfl⟩, Nat.zero_le _⟩, fun _ => none, fun _ => rfl, fun b o h => by cases h⟩
theorem St.lo {W W' : World} {L : List Asn} (h : St { W with drawn := 0 } L W') : Lo W W' := ⟨⟨h.bel.os, h.bel.tape, h.bel.output, h.bel.size, h.bel.block⟩⟩
section
variable {W0 W : World} {L L' : List Asn}
theorem diskNewNo {n : Int} {k : Value → World → Prop} (h : St W0 L W) (h0 : n < 64 ∨ 1048576 < n)
    (hk : ∀ W', St W0 L W' → k (.tuple #[.pointer none, .int .i64 1]) W') : callK PR F_disk_New [.int .i64 n] k W := by
  apply S.disk_New.call
  unfold S.disk_New.body
  by_cases h1 : n < 64
  · (repeat (first | (first | (with_reducible (first | refine w1 fun _ _ => ?_ | refine w3 fun _ _ _ => ?_ | refine w4 fun _ _ _ => ?_ | refine w11 fun _ _ _ => ?_ | refine stb_n ?_)) | ((with_reducible refine w2 ?_); try simp -implicitDefEqProofs only [EN, lsub, lget, stL, beq_self_eq_true, ne_eq, if_true, if_false, List.cons_append, List.nil_append, Option.isNone_some, Option.isNone_none, h1]; intro _ _) | ((with_reducible (first | refine w5 ?_ ?_ | refine w6 ?_ ?_ | refine w7 ?_ ?_)); simp; refine ⟨_, rfl, ?_⟩) | ((with_reducible (first | refine w8 ?_ ?_ ?_ | refine w9 ?_ ?_ ?_ | refine w10 ?_ ?_ ?_)); exact rfl; simp) | ((with_reducible refine w12 ?_ ?_ ?_ fun _ _ => ?_); simp; simp; simp [oneC]) | ((with_reducible (first | refine eqs ?_ | refine nes ?_)); refine ⟨_, rfl, ?_⟩) | ((refine okF_i (bldP_eq rfl) ?_); try simp only [BLS, List.take_succ_cons, List.take_zero, List.drop_succ_cons, List.drop_zero, List.cons_append, List.nil_append, Nat.reduceAdd])) | simp -implicitDefEqProofs only [EN, lsub, lget, stL, beq_self_eq_true, ne_eq, if_true, if_false, List.cons_append, List.nil_append, Option.isNone_some, Option.isNone_none, h1]))
    exact hk _ h
  · have h2 : 1048576 < n := by omega
    (repeat (first | (first | (with_reducible (first | refine w1 fun _ _ => ?_ | refine w3 fun _ _ _ => ?_ | refine w4 fun _ _ _ => ?_ | refine w11 fun _ _ _ => ?_ | refine stb_n ?_)) | ((with_reducible refine w2 ?_); try simp -implicitDefEqProofs only [EN, lsub, lget, stL, beq_self_eq_true, ne_eq, if_true, if_false, List.cons_append, List.nil_append, Option.isNone_some, Option.isNone_none, h1, h2]; intro _ _) | ((with_reducible (first | refine w5 ?_ ?_ | refine w6 ?_ ?_ | refine w7 ?_ ?_)); simp; refine ⟨_, rfl, ?_⟩) | ((with_reducible (first | refine w8 ?_ ?_ ?_ | refine w9 ?_ ?_ ?_ | refine w10 ?_ ?_ ?_)); exact rfl; simp) | ((with_reducible refine w12 ?_ ?_ ?_ fun _ _ => ?_); simp; simp; simp [oneC]) | ((with_reducible (first | refine eqs ?_ | refine nes ?_)); refine ⟨_, rfl, ?_⟩) | ((refine okF_i (bldP_eq rfl) ?_); try simp only [BLS, List.take_succ_cons, List.take_zero, List.drop_succ_cons, List.drop_zero, List.cons_append, List.nil_append, Nat.reduceAdd])) | simp -implicitDefEqProofs only [EN, lsub, lget, stL, beq_self_eq_true, ne_eq, if_true, if_false, List.cons_append, List.nil_append, Option.isNone_some, Option.isNone_none, h1, h2]))
    exact hk _ h
end
theorem sort29 : ([9, 2] : List Int).mergeSort (fun x y => decide (x ≤ y)) = [2, 9] := by
  have e : ([9, 2] : List Int).mergeSort (fun x y => decide (x ≤ y)) = ([2, 9] : List Int).mergeSort (fun x y => decide (x ≤ y)) := mergeSort_of_perm_i (List.Perm.swap 2 9 [])
  rw [e]
  exact List.mergeSort_of_pairwise (by simp)
set_option maxRecDepth 100000 in
set_option maxHeartbeats 4000000 in
theorem diskKnown_walk {W : World} : callK PR F_rostrumlaw5_DiskKnown [] (fun v W' => v = .bool true ∧ Lo W W') W := by
  apply S.rostrumlaw5_DiskKnown.call
  unfold S.rostrumlaw5_DiskKnown.body
  have h := St.startz W
  (repeat (first | (first | (with_reducible (first | refine w1 fun _ _ => ?_ | refine w3 fun _ _ _ => ?_ | refine w4 fun _ _ _ => ?_ | refine w11 fun _ _ _ => ?_ | refine stb_n ?_)) | ((with_reducible refine w2 ?_); try simp -implicitDefEqProofs only [EN, lsub, lget, stL, beq_self_eq_true, ne_eq, if_true, if_false, List.cons_append, List.nil_append, Option.isNone_some, Option.isNone_none]; intro _ _) | ((with_reducible (first | refine w5 ?_ ?_ | refine w6 ?_ ?_ | refine w7 ?_ ?_)); simp; refine ⟨_, rfl, ?_⟩) | ((with_reducible (first | refine w8 ?_ ?_ ?_ | refine w9 ?_ ?_ ?_ | refine w10 ?_ ?_ ?_)); exact rfl; simp) | ((with_reducible refine w12 ?_ ?_ ?_ fun _ _ => ?_); simp; simp; simp [oneC]) | ((with_reducible (first | refine eqs ?_ | refine nes ?_)); refine ⟨_, rfl, ?_⟩) | ((refine okF_i (bldP_eq rfl) ?_); try simp only [BLS, List.take_succ_cons, List.take_zero, List.drop_succ_cons, List.drop_zero, List.cons_append, List.nil_append, Nat.reduceAdd])) | simp -implicitDefEqProofs only [EN, lsub, lget, stL, beq_self_eq_true, ne_eq, if_true, if_false, List.cons_append, List.nil_append, Option.isNone_some, Option.isNone_none]))
  refine diskNewNo (by first | assumption | exact St.tick (by assumption) | exact St.tick (St.tick (by assumption))) (.inl (by decide)) fun W1 h => ?_
  (repeat (first | (first | (with_reducible (first | refine w1 fun _ _ => ?_ | refine w3 fun _ _ _ => ?_ | refine w4 fun _ _ _ => ?_ | refine w11 fun _ _ _ => ?_ | refine stb_n ?_)) | ((with_reducible refine w2 ?_); try simp -implicitDefEqProofs only [EN, lsub, lget, stL, beq_self_eq_true, ne_eq, if_true, if_false, List.cons_append, List.nil_append, Option.isNone_some, Option.isNone_none]; intro _ _) | ((with_reducible (first | refine w5 ?_ ?_ | refine w6 ?_ ?_ | refine w7 ?_ ?_)); simp; refine ⟨_, rfl, ?_⟩) | ((with_reducible (first | refine w8 ?_ ?_ ?_ | refine w9 ?_ ?_ ?_ | refine w10 ?_ ?_ ?_)); exact rfl; simp) | ((with_reducible refine w12 ?_ ?_ ?_ fun _ _ => ?_); simp; simp; simp [oneC]) | ((with_reducible (first | refine eqs ?_ | refine nes ?_)); refine ⟨_, rfl, ?_⟩) | ((refine okF_i (bldP_eq rfl) ?_); try simp only [BLS, List.take_succ_cons, List.take_zero, List.drop_succ_cons, List.drop_zero, List.cons_append, List.nil_append, Nat.reduceAdd])) | simp -implicitDefEqProofs only [EN, lsub, lget, stL, beq_self_eq_true, ne_eq, if_true, if_false, List.cons_append, List.nil_append, Option.isNone_some, Option.isNone_none]))
  refine diskNew (by first | assumption | exact St.tick (by assumption) | exact St.tick (St.tick (by assumption))) (by omega) (by omega) fun p W1 h => ?_
  have ok0 : DS.ok ⟨64, [], [], true, 1⟩ := ⟨by decide, by decide, by decide⟩
  have ft0 : DS.fit ⟨64, [], [], true, 1⟩ := trivial
  (repeat (first | (first | (with_reducible (first | refine w1 fun _ _ => ?_ | refine w3 fun _ _ _ => ?_ | refine w4 fun _ _ _ => ?_ | refine w11 fun _ _ _ => ?_ | refine stb_n ?_)) | ((with_reducible refine w2 ?_); try simp -implicitDefEqProofs only [EN, lsub, lget, stL, beq_self_eq_true, ne_eq, if_true, if_false, List.cons_append, List.nil_append, Option.isNone_some, Option.isNone_none]; intro _ _) | ((with_reducible (first | refine w5 ?_ ?_ | refine w6 ?_ ?_ | refine w7 ?_ ?_)); simp; refine ⟨_, rfl, ?_⟩) | ((with_reducible (first | refine w8 ?_ ?_ ?_ | refine w9 ?_ ?_ ?_ | refine w10 ?_ ?_ ?_)); exact rfl; simp) | ((with_reducible refine w12 ?_ ?_ ?_ fun _ _ => ?_); simp; simp; simp [oneC]) | ((with_reducible (first | refine eqs ?_ | refine nes ?_)); refine ⟨_, rfl, ?_⟩) | ((refine okF_i (bldP_eq rfl) ?_); try simp only [BLS, List.take_succ_cons, List.take_zero, List.drop_succ_cons, List.drop_zero, List.cons_append, List.nil_append, Nat.reduceAdd])) | simp -implicitDefEqProofs only [EN, lsub, lget, stL, beq_self_eq_true, ne_eq, if_true, if_false, List.cons_append, List.nil_append, Option.isNone_some, Option.isNone_none]))
  haveI : Rd { W with drawn := 0 } [] none B8 [] := Rd.nil _ _ _ _
  refine diskAppend (f := -1) (a := none) (c := 0) (bs := []) (by first | assumption | exact St.tick (by assumption) | exact St.tick (St.tick (by assumption))) ok0 (by decide) (by decide) fun W2 h => ?_
  rw [show DS.append ⟨64, [], [], true, 1⟩ (-1) [] = (⟨64, [], [], true, 1⟩, 1) from rfl] at h ⊢
  refine diskAppend (f := 1000) (a := none) (c := 0) (bs := []) (by first | assumption | exact St.tick (by assumption) | exact St.tick (St.tick (by assumption))) ok0 (by decide) (by decide) fun W3 h => ?_
  rw [show DS.append ⟨64, [], [], true, 1⟩ 1000 [] = (⟨64, [], [], true, 1⟩, 1) from rfl] at h ⊢
  refine mkS (A := B8) 0 65 (by first | assumption | exact St.tick (by assumption) | exact St.tick (St.tick (by assumption))) rfl rfl (by decide) (by decide) fun a1 c1 W4 h => ?_
  have h := St.perm h (List.Perm.swap _ _ _)
  refine diskAppend (f := 5) (a := a1) (bs := List.replicate 65 0) (by first | assumption | exact St.tick (by assumption) | exact St.tick (St.tick (by assumption))) ok0 (by simp) (by decide) fun W5 h => ?_
  rw [show DS.append ⟨64, [], [], true, 1⟩ 5 (List.replicate 65 0) = (⟨64, [], [], true, 1⟩, 6) from rfl] at h ⊢
  have h : St { W with drawn := 0 } [dk p ⟨64, [], [], true, 1⟩] W5 := St.wk h
  refine diskSync (f := 5) (d := ⟨64, [], [], true, 1⟩) (by first | assumption | exact St.tick (by assumption) | exact St.tick (St.tick (by assumption))) (by decide) fun W6 h => ?_
  rw [show DS.sync ⟨64, [], [], true, 1⟩ 5 = (⟨64, [], [], true, 1⟩, 4) from rfl] at h ⊢
  refine bytesLit [97, 98, 99] (by first | assumption | exact St.tick (by assumption) | exact St.tick (St.tick (by assumption))) rfl (by decide) (by decide) rfl fun a2 c2 W7 h => ?_
  have h := St.perm h (List.Perm.swap _ _ _)
  have ok1 := ok0.append 9 [97, 98, 99]
  have ft1 := ft0.append 9 [97, 98, 99]
  have s1 : DS.append ⟨64, [], [], true, 1⟩ 9 [97, 98, 99] = (⟨64, [(9, [97, 98, 99])], [(9, 0, 3)], true, 1⟩, 0) := rfl
  refine diskAppend (f := 9) (a := a2) (bs := [97, 98, 99]) (by first | assumption | exact St.tick (by assumption) | exact St.tick (St.tick (by assumption))) ok0 (by decide) (by decide) fun W8 h => ?_
  rw [s1] at h ok1 ft1
  have h : St { W with drawn := 0 } [dk p ⟨64, [(9, [97, 98, 99])], [(9, 0, 3)], true, 1⟩] W8 := St.wk h
  refine diskSync (f := 9) (d := ⟨64, [(9, [97, 98, 99])], [(9, 0, 3)], true, 1⟩) (by first | assumption | exact St.tick (by assumption) | exact St.tick (St.tick (by assumption))) (by decide) fun W9 h => ?_
  rw [show DS.sync ⟨64, [(9, [97, 98, 99])], [(9, 0, 3)], true, 1⟩ 9 = (⟨64, [(9, [97, 98, 99])], [], true, 1⟩, 0) from rfl] at h
  have ok2 : DS.ok ⟨64, [(9, [97, 98, 99])], [], true, 1⟩ := ⟨by decide, by decide, by decide⟩
  refine diskSpoil (f := 9) (at' := 1) (b := 1) (d := ⟨64, [(9, [97, 98, 99])], [], true, 1⟩) (by first | assumption | exact St.tick (by assumption) | exact St.tick (St.tick (by assumption))) ok2 fun W10 h => ?_
  rw [show DS.spoil ⟨64, [(9, [97, 98, 99])], [], true, 1⟩ 9 1 1 = (⟨64, [(9, [97, 99, 99])], [], true, 1⟩, true) by rfl] at h ⊢
  have ok3 : DS.ok ⟨64, [(9, [97, 99, 99])], [], true, 1⟩ := ⟨by decide, by decide, by decide⟩
  refine diskSpoil (f := 9) (at' := 3) (b := 1) (d := ⟨64, [(9, [97, 99, 99])], [], true, 1⟩) (by first | assumption | exact St.tick (by assumption) | exact St.tick (St.tick (by assumption))) ok3 fun W11 h => ?_
  rw [show DS.spoil ⟨64, [(9, [97, 99, 99])], [], true, 1⟩ 9 3 1 = (⟨64, [(9, [97, 99, 99])], [], true, 1⟩, false) by rfl] at h ⊢
  refine diskSpoil (f := 9) (at' := 0) (b := 0) (d := ⟨64, [(9, [97, 99, 99])], [], true, 1⟩) (by first | assumption | exact St.tick (by assumption) | exact St.tick (St.tick (by assumption))) ok3 fun W12 h => ?_
  rw [show DS.spoil ⟨64, [(9, [97, 99, 99])], [], true, 1⟩ 9 0 0 = (⟨64, [(9, [97, 99, 99])], [], true, 1⟩, false) by rfl] at h ⊢
  refine diskRead (f := 9) (d := ⟨64, [(9, [97, 99, 99])], [], true, 1⟩) (by first | assumption | exact St.tick (by assumption) | exact St.tick (St.tick (by assumption))) (by decide) fun a3 c3 W13 h => ?_
  rw [show DS.read ⟨64, [(9, [97, 99, 99])], [], true, 1⟩ 9 = ([97, 99, 99], 0) by rfl] at h ⊢
  (repeat (first | (first | (with_reducible (first | refine w1 fun _ _ => ?_ | refine w3 fun _ _ _ => ?_ | refine w4 fun _ _ _ => ?_ | refine w11 fun _ _ _ => ?_ | refine stb_n ?_)) | ((with_reducible refine w2 ?_); try simp -implicitDefEqProofs only [EN, lsub, lget, stL, beq_self_eq_true, ne_eq, if_true, if_false, List.cons_append, List.nil_append, Option.isNone_some, Option.isNone_none]; intro _ _) | ((with_reducible (first | refine w5 ?_ ?_ | refine w6 ?_ ?_ | refine w7 ?_ ?_)); simp; refine ⟨_, rfl, ?_⟩) | ((with_reducible (first | refine w8 ?_ ?_ ?_ | refine w9 ?_ ?_ ?_ | refine w10 ?_ ?_ ?_)); exact rfl; simp) | ((with_reducible refine w12 ?_ ?_ ?_ fun _ _ => ?_); simp; simp; simp [oneC]) | ((with_reducible (first | refine eqs ?_ | refine nes ?_)); refine ⟨_, rfl, ?_⟩) | ((refine okF_i (bldP_eq rfl) ?_); try simp only [BLS, List.take_succ_cons, List.take_zero, List.drop_succ_cons, List.drop_zero, List.cons_append, List.nil_append, Nat.reduceAdd])) | simp -implicitDefEqProofs only [EN, lsub, lget, stL, beq_self_eq_true, ne_eq, if_true, if_false, List.cons_append, List.nil_append, Option.isNone_some, Option.isNone_none]))
  have h := St.perm h (List.Perm.swap _ _ _)
  haveI : Rd { W with drawn := 0 } [arr B8 T_uint8 a3 c3 [97, 99, 99]] none B8 [] := Rd.nil _ _ _ _
  have ft3 : DS.fit ⟨64, [(9, [97, 99, 99])], [], true, 1⟩ := trivial
  have ft4 := ft3.append 2 []
  have ok4 := ok3.append 2 []
  have s4 : DS.append ⟨64, [(9, [97, 99, 99])], [], true, 1⟩ 2 [] = (⟨64, [(9, [97, 99, 99]), (2, [])], [(2, 0, 0)], true, 1⟩, 0) := rfl
  refine diskAppend (f := 2) (a := none) (c := 0) (bs := []) (by first | assumption | exact St.tick (by assumption) | exact St.tick (St.tick (by assumption))) ok3 (by decide) (by decide) fun W14 h => ?_
  rw [s4] at h ft4 ok4
  refine diskFiles (d := ⟨64, [(9, [97, 99, 99]), (2, [])], [(2, 0, 0)], true, 1⟩) (by first | assumption | exact St.tick (by assumption) | exact St.tick (St.tick (by assumption))) rfl (by decide) (by simp) fun a4 c4 W15 h => ?_
  rw [show DS.files ⟨64, [(9, [97, 99, 99]), (2, [])], [(2, 0, 0)], true, 1⟩ = [2, 9] from sort29] at h ⊢
  refine diskCrash (keep := 0) (torn := 0) (d := ⟨64, [(9, [97, 99, 99]), (2, [])], [(2, 0, 0)], true, 1⟩) (by first | assumption | exact St.tick (by assumption) | exact St.tick (St.tick (by assumption))) ok4 ft4 (by decide) fun W16 h => ?_
  rw [show DS.crash ⟨64, [(9, [97, 99, 99]), (2, [])], [(2, 0, 0)], true, 1⟩ 0 0 = ⟨64, [(9, [97, 99, 99]), (2, [])], [], false, 1⟩ by rfl] at h
  refine diskFiles (d := ⟨64, [(9, [97, 99, 99]), (2, [])], [], false, 1⟩) (by first | assumption | exact St.tick (by assumption) | exact St.tick (St.tick (by assumption))) rfl (by decide) (by simp) fun a5 c5 W17 h => ?_
  rw [show DS.files ⟨64, [(9, [97, 99, 99]), (2, [])], [], false, 1⟩ = [] from rfl] at h ⊢
  refine diskOn (by first | assumption | exact St.tick (by assumption) | exact St.tick (St.tick (by assumption))) fun W18 h => ?_
  rw [show DS.power ⟨64, [(9, [97, 99, 99]), (2, [])], [], false, 1⟩ = ⟨64, [(9, [97, 99, 99]), (2, [])], [], true, 2⟩ by rfl] at h
  refine diskRead (f := 9) (d := ⟨64, [(9, [97, 99, 99]), (2, [])], [], true, 2⟩) (by first | assumption | exact St.tick (by assumption) | exact St.tick (St.tick (by assumption))) (by decide) fun a6 c6 W19 h => ?_
  rw [show DS.read ⟨64, [(9, [97, 99, 99]), (2, [])], [], true, 2⟩ 9 = ([97, 99, 99], 0) by rfl] at h ⊢
  (repeat (first | (first | (with_reducible (first | refine w1 fun _ _ => ?_ | refine w3 fun _ _ _ => ?_ | refine w4 fun _ _ _ => ?_ | refine w11 fun _ _ _ => ?_ | refine stb_n ?_)) | ((with_reducible refine w2 ?_); try simp -implicitDefEqProofs only [EN, lsub, lget, stL, beq_self_eq_true, ne_eq, if_true, if_false, List.cons_append, List.nil_append, Option.isNone_some, Option.isNone_none]; intro _ _) | ((with_reducible (first | refine w5 ?_ ?_ | refine w6 ?_ ?_ | refine w7 ?_ ?_)); simp; refine ⟨_, rfl, ?_⟩) | ((with_reducible (first | refine w8 ?_ ?_ ?_ | refine w9 ?_ ?_ ?_ | refine w10 ?_ ?_ ?_)); exact rfl; simp) | ((with_reducible refine w12 ?_ ?_ ?_ fun _ _ => ?_); simp; simp; simp [oneC]) | ((with_reducible (first | refine eqs ?_ | refine nes ?_)); refine ⟨_, rfl, ?_⟩) | ((refine okF_i (bldP_eq rfl) ?_); try simp only [BLS, List.take_succ_cons, List.take_zero, List.drop_succ_cons, List.drop_zero, List.cons_append, List.nil_append, Nat.reduceAdd])) | simp -implicitDefEqProofs only [EN, lsub, lget, stL, beq_self_eq_true, ne_eq, if_true, if_false, List.cons_append, List.nil_append, Option.isNone_some, Option.isNone_none]))
  refine diskDrop (f := 9) (d := ⟨64, [(9, [97, 99, 99]), (2, [])], [], true, 2⟩) (by first | assumption | exact St.tick (by assumption) | exact St.tick (St.tick (by assumption))) (by decide) fun W20 h => ?_
  rw [show DS.drop ⟨64, [(9, [97, 99, 99]), (2, [])], [], true, 2⟩ 9 = (⟨64, [(2, [])], [], true, 2⟩, 0) by rfl] at h ⊢
  refine diskDrop (f := 9) (d := ⟨64, [(2, [])], [], true, 2⟩) (by first | assumption | exact St.tick (by assumption) | exact St.tick (St.tick (by assumption))) (by decide) fun W21 h => ?_
  rw [show DS.drop ⟨64, [(2, [])], [], true, 2⟩ 9 = (⟨64, [(2, [])], [], true, 2⟩, 4) by rfl] at h ⊢
  have h : St { W with drawn := 0 } (dk p ⟨64, [(2, [])], [], true, 2⟩ :: arr B8 T_uint8 a3 c3 [97, 99, 99] :: arr I64 T_int a4 c4 [2, 9] :: arr B8 T_uint8 a6 c6 [97, 99, 99] :: []) W21 := St.wk h
  (repeat (first | (first | (with_reducible (first | refine w1 fun _ _ => ?_ | refine w3 fun _ _ _ => ?_ | refine w4 fun _ _ _ => ?_ | refine w11 fun _ _ _ => ?_ | refine stb_n ?_)) | ((with_reducible refine w2 ?_); try simp -implicitDefEqProofs only [EN, lsub, lget, stL, beq_self_eq_true, ne_eq, if_true, if_false, List.cons_append, List.nil_append, Option.isNone_some, Option.isNone_none]; intro _ _) | ((with_reducible (first | refine w5 ?_ ?_ | refine w6 ?_ ?_ | refine w7 ?_ ?_)); simp; refine ⟨_, rfl, ?_⟩) | ((with_reducible (first | refine w8 ?_ ?_ ?_ | refine w9 ?_ ?_ ?_ | refine w10 ?_ ?_ ?_)); exact rfl; simp) | ((with_reducible refine w12 ?_ ?_ ?_ fun _ _ => ?_); simp; simp; simp [oneC]) | ((with_reducible (first | refine eqs ?_ | refine nes ?_)); refine ⟨_, rfl, ?_⟩) | ((refine okF_i (bldP_eq rfl) ?_); try simp only [BLS, List.take_succ_cons, List.take_zero, List.drop_succ_cons, List.drop_zero, List.cons_append, List.nil_append, Nat.reduceAdd])) | simp -implicitDefEqProofs only [EN, lsub, lget, stL, beq_self_eq_true, ne_eq, if_true, if_false, List.cons_append, List.nil_append, Option.isNone_some, Option.isNone_none]))
  refine b2s (a := a3) (l := [97, 99, 99]) (by first | assumption | exact St.tick (by assumption) | exact St.tick (St.tick (by assumption))) ?_
  (repeat (first | (first | (with_reducible (first | refine w1 fun _ _ => ?_ | refine w3 fun _ _ _ => ?_ | refine w4 fun _ _ _ => ?_ | refine w11 fun _ _ _ => ?_ | refine stb_n ?_)) | ((with_reducible refine w2 ?_); try simp -implicitDefEqProofs only [EN, lsub, lget, stL, beq_self_eq_true, ne_eq, if_true, if_false, List.cons_append, List.nil_append, Option.isNone_some, Option.isNone_none, eq_self]; intro _ _) | ((with_reducible (first | refine w5 ?_ ?_ | refine w6 ?_ ?_ | refine w7 ?_ ?_)); simp; refine ⟨_, rfl, ?_⟩) | ((with_reducible (first | refine w8 ?_ ?_ ?_ | refine w9 ?_ ?_ ?_ | refine w10 ?_ ?_ ?_)); exact rfl; simp) | ((with_reducible refine w12 ?_ ?_ ?_ fun _ _ => ?_); simp; simp; simp [oneC]) | ((with_reducible (first | refine eqs ?_ | refine nes ?_)); refine ⟨_, rfl, ?_⟩) | ((refine okF_i (bldP_eq rfl) ?_); try simp only [BLS, List.take_succ_cons, List.take_zero, List.drop_succ_cons, List.drop_zero, List.cons_append, List.nil_append, Nat.reduceAdd])) | simp -implicitDefEqProofs only [EN, lsub, lget, stL, beq_self_eq_true, ne_eq, if_true, if_false, List.cons_append, List.nil_append, Option.isNone_some, Option.isNone_none, eq_self]))
  refine bsA I64 [2, 9] (n := 2) (by first | assumption | exact St.tick (by assumption) | exact St.tick (St.tick (by assumption))) rfl rfl (by decide) (by decide) rfl fun a7 c7 W22 h => ?_
  (repeat (first | (first | (with_reducible (first | refine w1 fun _ _ => ?_ | refine w3 fun _ _ _ => ?_ | refine w4 fun _ _ _ => ?_ | refine w11 fun _ _ _ => ?_ | refine stb_n ?_)) | ((with_reducible refine w2 ?_); try simp -implicitDefEqProofs only [EN, lsub, lget, stL, beq_self_eq_true, ne_eq, if_true, if_false, List.cons_append, List.nil_append, Option.isNone_some, Option.isNone_none]; intro _ _) | ((with_reducible (first | refine w5 ?_ ?_ | refine w6 ?_ ?_ | refine w7 ?_ ?_)); simp; refine ⟨_, rfl, ?_⟩) | ((with_reducible (first | refine w8 ?_ ?_ ?_ | refine w9 ?_ ?_ ?_ | refine w10 ?_ ?_ ?_)); exact rfl; simp) | ((with_reducible refine w12 ?_ ?_ ?_ fun _ _ => ?_); simp; simp; simp [oneC]) | ((with_reducible (first | refine eqs ?_ | refine nes ?_)); refine ⟨_, rfl, ?_⟩) | ((refine okF_i (bldP_eq rfl) ?_); try simp only [BLS, List.take_succ_cons, List.take_zero, List.drop_succ_cons, List.drop_zero, List.cons_append, List.nil_append, Nat.reduceAdd])) | simp -implicitDefEqProofs only [EN, lsub, lget, stL, beq_self_eq_true, ne_eq, if_true, if_false, List.cons_append, List.nil_append, Option.isNone_some, Option.isNone_none]))
  refine lawInts (a := a4) (b := a7) (l := [2, 9]) (m := [2, 9]) (by first | assumption | exact St.tick (by assumption) | exact St.tick (St.tick (by assumption))) (by decide) fun W23 h => ?_
  (repeat (first | (first | (with_reducible (first | refine w1 fun _ _ => ?_ | refine w3 fun _ _ _ => ?_ | refine w4 fun _ _ _ => ?_ | refine w11 fun _ _ _ => ?_ | refine stb_n ?_)) | ((with_reducible refine w2 ?_); try simp -implicitDefEqProofs only [EN, lsub, lget, stL, beq_self_eq_true, ne_eq, if_true, if_false, List.cons_append, List.nil_append, Option.isNone_some, Option.isNone_none, eq_self]; intro _ _) | ((with_reducible (first | refine w5 ?_ ?_ | refine w6 ?_ ?_ | refine w7 ?_ ?_)); simp; refine ⟨_, rfl, ?_⟩) | ((with_reducible (first | refine w8 ?_ ?_ ?_ | refine w9 ?_ ?_ ?_ | refine w10 ?_ ?_ ?_)); exact rfl; simp) | ((with_reducible refine w12 ?_ ?_ ?_ fun _ _ => ?_); simp; simp; simp [oneC]) | ((with_reducible (first | refine eqs ?_ | refine nes ?_)); refine ⟨_, rfl, ?_⟩) | ((refine okF_i (bldP_eq rfl) ?_); try simp only [BLS, List.take_succ_cons, List.take_zero, List.drop_succ_cons, List.drop_zero, List.cons_append, List.nil_append, Nat.reduceAdd])) | simp -implicitDefEqProofs only [EN, lsub, lget, stL, beq_self_eq_true, ne_eq, if_true, if_false, List.cons_append, List.nil_append, Option.isNone_some, Option.isNone_none, eq_self]))
  refine b2s (a := a6) (l := [97, 99, 99]) (by first | assumption | exact St.tick (by assumption) | exact St.tick (St.tick (by assumption))) ?_
  (repeat (first | (first | (with_reducible (first | refine w1 fun _ _ => ?_ | refine w3 fun _ _ _ => ?_ | refine w4 fun _ _ _ => ?_ | refine w11 fun _ _ _ => ?_ | refine stb_n ?_)) | ((with_reducible refine w2 ?_); try simp -implicitDefEqProofs only [EN, lsub, lget, stL, beq_self_eq_true, ne_eq, if_true, if_false, List.cons_append, List.nil_append, Option.isNone_some, Option.isNone_none, eq_self]; intro _ _) | ((with_reducible (first | refine w5 ?_ ?_ | refine w6 ?_ ?_ | refine w7 ?_ ?_)); simp; refine ⟨_, rfl, ?_⟩) | ((with_reducible (first | refine w8 ?_ ?_ ?_ | refine w9 ?_ ?_ ?_ | refine w10 ?_ ?_ ?_)); exact rfl; simp) | ((with_reducible refine w12 ?_ ?_ ?_ fun _ _ => ?_); simp; simp; simp [oneC]) | ((with_reducible (first | refine eqs ?_ | refine nes ?_)); refine ⟨_, rfl, ?_⟩) | ((refine okF_i (bldP_eq rfl) ?_); try simp only [BLS, List.take_succ_cons, List.take_zero, List.drop_succ_cons, List.drop_zero, List.cons_append, List.nil_append, Nat.reduceAdd])) | simp -implicitDefEqProofs only [EN, lsub, lget, stL, beq_self_eq_true, ne_eq, if_true, if_false, List.cons_append, List.nil_append, Option.isNone_some, Option.isNone_none, eq_self]))
  refine diskFiles (d := ⟨64, [(2, [])], [], true, 2⟩) (by first | assumption | exact St.tick (by assumption) | exact St.tick (St.tick (by assumption))) rfl (by decide) (by simp) fun a8 c8 W24 h => ?_
  rw [show DS.files ⟨64, [(2, [])], [], true, 2⟩ = [2] from List.mergeSort_singleton _] at h ⊢
  (repeat (first | (first | (with_reducible (first | refine w1 fun _ _ => ?_ | refine w3 fun _ _ _ => ?_ | refine w4 fun _ _ _ => ?_ | refine w11 fun _ _ _ => ?_ | refine stb_n ?_)) | ((with_reducible refine w2 ?_); try simp -implicitDefEqProofs only [EN, lsub, lget, stL, beq_self_eq_true, ne_eq, if_true, if_false, List.cons_append, List.nil_append, Option.isNone_some, Option.isNone_none]; intro _ _) | ((with_reducible (first | refine w5 ?_ ?_ | refine w6 ?_ ?_ | refine w7 ?_ ?_)); simp; refine ⟨_, rfl, ?_⟩) | ((with_reducible (first | refine w8 ?_ ?_ ?_ | refine w9 ?_ ?_ ?_ | refine w10 ?_ ?_ ?_)); exact rfl; simp) | ((with_reducible refine w12 ?_ ?_ ?_ fun _ _ => ?_); simp; simp; simp [oneC]) | ((with_reducible (first | refine eqs ?_ | refine nes ?_)); refine ⟨_, rfl, ?_⟩) | ((refine okF_i (bldP_eq rfl) ?_); try simp only [BLS, List.take_succ_cons, List.take_zero, List.drop_succ_cons, List.drop_zero, List.cons_append, List.nil_append, Nat.reduceAdd])) | simp -implicitDefEqProofs only [EN, lsub, lget, stL, beq_self_eq_true, ne_eq, if_true, if_false, List.cons_append, List.nil_append, Option.isNone_some, Option.isNone_none]))
  refine bsA I64 [2] (n := 1) (by first | assumption | exact St.tick (by assumption) | exact St.tick (St.tick (by assumption))) rfl rfl (by decide) (by decide) rfl fun a9 c9 W25 h => ?_
  (repeat (first | (first | (with_reducible (first | refine w1 fun _ _ => ?_ | refine w3 fun _ _ _ => ?_ | refine w4 fun _ _ _ => ?_ | refine w11 fun _ _ _ => ?_ | refine stb_n ?_)) | ((with_reducible refine w2 ?_); try simp -implicitDefEqProofs only [EN, lsub, lget, stL, beq_self_eq_true, ne_eq, if_true, if_false, List.cons_append, List.nil_append, Option.isNone_some, Option.isNone_none]; intro _ _) | ((with_reducible (first | refine w5 ?_ ?_ | refine w6 ?_ ?_ | refine w7 ?_ ?_)); simp; refine ⟨_, rfl, ?_⟩) | ((with_reducible (first | refine w8 ?_ ?_ ?_ | refine w9 ?_ ?_ ?_ | refine w10 ?_ ?_ ?_)); exact rfl; simp) | ((with_reducible refine w12 ?_ ?_ ?_ fun _ _ => ?_); simp; simp; simp [oneC]) | ((with_reducible (first | refine eqs ?_ | refine nes ?_)); refine ⟨_, rfl, ?_⟩) | ((refine okF_i (bldP_eq rfl) ?_); try simp only [BLS, List.take_succ_cons, List.take_zero, List.drop_succ_cons, List.drop_zero, List.cons_append, List.nil_append, Nat.reduceAdd])) | simp -implicitDefEqProofs only [EN, lsub, lget, stL, beq_self_eq_true, ne_eq, if_true, if_false, List.cons_append, List.nil_append, Option.isNone_some, Option.isNone_none]))
  refine lawInts (a := a8) (b := a9) (l := [2]) (m := [2]) (by first | assumption | exact St.tick (by assumption) | exact St.tick (St.tick (by assumption))) (by decide) fun W26 h => ?_
  (repeat (first | (first | (with_reducible (first | refine w1 fun _ _ => ?_ | refine w3 fun _ _ _ => ?_ | refine w4 fun _ _ _ => ?_ | refine w11 fun _ _ _ => ?_ | refine stb_n ?_)) | ((with_reducible refine w2 ?_); try simp -implicitDefEqProofs only [EN, lsub, lget, stL, beq_self_eq_true, ne_eq, if_true, if_false, List.cons_append, List.nil_append, Option.isNone_some, Option.isNone_none, eq_self]; intro _ _) | ((with_reducible (first | refine w5 ?_ ?_ | refine w6 ?_ ?_ | refine w7 ?_ ?_)); simp; refine ⟨_, rfl, ?_⟩) | ((with_reducible (first | refine w8 ?_ ?_ ?_ | refine w9 ?_ ?_ ?_ | refine w10 ?_ ?_ ?_)); exact rfl; simp) | ((with_reducible refine w12 ?_ ?_ ?_ fun _ _ => ?_); simp; simp; simp [oneC]) | ((with_reducible (first | refine eqs ?_ | refine nes ?_)); refine ⟨_, rfl, ?_⟩) | ((refine okF_i (bldP_eq rfl) ?_); try simp only [BLS, List.take_succ_cons, List.take_zero, List.drop_succ_cons, List.drop_zero, List.cons_append, List.nil_append, Nat.reduceAdd])) | simp -implicitDefEqProofs only [EN, lsub, lget, stL, beq_self_eq_true, ne_eq, if_true, if_false, List.cons_append, List.nil_append, Option.isNone_some, Option.isNone_none, eq_self]))
  exact St.lo h
end Go.Proofs.Ythladblmjoaeoaa
namespace Go.Proofs.Ythladblmjoaeoaa
set_option linter.unusedVariables false
set_option linter.unusedSimpArgs false
open Go.Eng
/-! ### rostrum/rostrumlaw5.DiskPlays (7) -/
def S.rostrumlaw5_DiskPlays.j1 (R : Value → World → Prop) (K1 : List Value → World → Prop) (x1 x5 x7 x8 x9 x10 : Value) (W : World) : Prop :=
  okF (addrF 1 x9) fun v146 =>
  rdK PR (Instr.loadAt T_int v146) (fun v147 W =>
  callK PR F_disk_Disk_Read [x5, v147] (fun v148 W =>
  okF (extP 0 v148) fun v149 =>
  okF (extP 1 v148) fun v150 =>
  okF (addrF 1 x9) fun v153 =>
  rdK PR (Instr.loadAt T_int v153) (fun v154 W =>
  callK PR F_rostrumref5_Disk_Read [x7, v154] (fun v155 W =>
  okF (extP 0 v155) fun v156 =>
  okF (extP 1 v155) fun v157 =>
  okF (unP .not x10) fun v159 =>
  gdK (wantd v159 false) (fun k W => k v149 W) (fun v161 W =>
  gdK (wantd v159 false) (fun k W => rdK PR (convert T_s_uint8 T_string v161) k W) (fun v162 W =>
  gdK (wantd v159 false) (fun k W => k v156 W) (fun v163 W =>
  gdK (wantd v159 false) (fun k W => rdK PR (convert T_s_uint8 T_string v163) k W) (fun v164 W =>
  gdK (wantd v159 false) (fun k W => okF (binP .neq v162 v164) fun v => k v W) (fun v165 W =>
  okF (pickP v159 (.bool true) v165) fun v166 =>
  gdK (wantd v166 false) (fun k W => k v150 W) (fun v168 W =>
  gdK (wantd v166 false) (fun k W => k v157 W) (fun v169 W =>
  gdK (wantd v166 false) (fun k W => okF (binP .neq v168 v169) fun v => k v W) (fun v170 W =>
  okF (pickP v166 (.bool true) v170) fun v171 =>
  gdK (wantd v171 false) (fun k W => k x5 W) (fun v173 W =>
  gdK (wantd v171 false) (fun k W => k x7 W) (fun v175 W =>
  gdK (wantd v171 false) (fun k W => callK PR F_disk_Disk_Files [v173] k W) (fun v174 W =>
  gdK (wantd v171 false) (fun k W => callK PR F_rostrumref5_Disk_Files [v175] k W) (fun v176 W =>
  gdK (wantd v171 false) (fun k W => callK PR F_rostrumlaw5_ints [v174, v176] k W) (fun v177 W =>
  gdK (wantd v171 false) (fun k W => okF (unP .not v177) fun v => k v W) (fun v178 W =>
  okF (pickP v171 (.bool true) v178) fun v179 =>
  gdK (wantd v179 false) (fun k W => k x5 W) (fun v181 W =>
  gdK (wantd v179 false) (fun k W => k x7 W) (fun v183 W =>
  gdK (wantd v179 false) (fun k W => okF (nilP v183) fun v => k v W) (fun v184 W =>
  gdK (wantd v179 false) (fun k W => okF (addrF 1002 v184) fun v => k v W) (fun v185 W =>
  gdK (wantd v179 false) (fun k W => rdK PR (Instr.loadAt T_bool v185) k W) (fun v186 W =>
  gdK (wantd v179 false) (fun k W => callK PR F_disk_Disk_Power [v181] (fun v W => stb PR [(28, (wantd v179 false), (Instr.loadAt T_bool v185), v186)] (fun W => k v W) W) W) (fun v182 W =>
  gdK (wantd v179 false) (fun k W => okF (eqP .bool .eql v182 v186) fun v => k v W) (fun v187 W =>
  okF (pickP v179 (.bool true) v187) fun v188 =>
  gdK (wantd v188 false) (fun k W => k x5 W) (fun v190 W =>
  gdK (wantd v188 false) (fun k W => k x7 W) (fun v192 W =>
  gdK (wantd v188 false) (fun k W => okF (nilP v192) fun v => k v W) (fun v193 W =>
  gdK (wantd v188 false) (fun k W => okF (addrF 1003 v193) fun v => k v W) (fun v194 W =>
  gdK (wantd v188 false) (fun k W => rdK PR (Instr.loadAt T_int v194) k W) (fun v195 W =>
  gdK (wantd v188 false) (fun k W => callK PR F_disk_Disk_Lives [v190] (fun v W => stb PR [(37, (wantd v188 false), (Instr.loadAt T_int v194), v195)] (fun W => k v W) W) W) (fun v191 W =>
  gdK (wantd v188 false) (fun k W => okF (binP .neq v191 v195) fun v => k v W) (fun v196 W =>
  okF (pickP v188 (.bool true) v196) fun v197 =>
  ifK v197 (
  R (.bool false) W) (
  okF (binP .add x8 (.int .i64 1)) fun v59 =>
  K1 [x1, x5, x7, v59] W)) W) W) W) W) W) W) W) W) W) W) W) W) W) W) W) W) W) W) W) W) W) W) W) W) W) W) W) (tick W)) W) W) W) W
def S.rostrumlaw5_DiskPlays.l1 (R : Value → World → Prop) (K1 : List Value → World → Prop) (x1 x5 x7 x8 : Value) (W : World) : Prop :=
  okF (lenP (.slice T_rostrumlaw5_Act) x1) fun v56 =>
  okF (binP .lss x8 v56) fun v57 =>
  ifK v57 (
  okF (idxS 6 x1 x8) fun v62 =>
  rdK PR (Instr.loadAt T_rostrumlaw5_Act v62) (fun v63 W =>
  efK PR (Instr.alloc T_rostrumlaw5_Act true (.tuple #[])) (fun v9 W =>
  efK PR (Instr.storeAt T_rostrumlaw5_Act v9 v63) (fun _ W =>
  okF (addrF 5 v9) fun v64 =>
  rdK PR (Instr.loadAt T_s_uint8 v64) (fun v65 W =>
  okF (lenP (.slice T_uint8) v65) fun v66 =>
  okF (binP .gtr v66 (.int .i64 200)) fun v67 =>
  ifK v67 (
  R (.bool true) W) (
  joinK (fun s W => S.rostrumlaw5_DiskPlays.j1 R K1 (nthv s 0) (nthv s 1) (nthv s 2) (nthv s 3) (nthv s 4) (nthv s 5) W) (fun J1 =>
  okF (addrF 0 v9) fun v68 =>
  rdK PR (Instr.loadAt T_int v68) (fun v69 W =>
  okF (binP .eql v69 (.int .i64 0)) fun v88 =>
  ifK v88 (
  okF (addrF 1 v9) fun v90 =>
  rdK PR (Instr.loadAt T_int v90) (fun v91 W =>
  okF (addrF 5 v9) fun v92 =>
  rdK PR (Instr.loadAt T_s_uint8 v92) (fun v93 W =>
  okF (addrF 1 v9) fun v96 =>
  rdK PR (Instr.loadAt T_int v96) (fun v97 W =>
  okF (addrF 5 v9) fun v98 =>
  rdK PR (Instr.loadAt T_s_uint8 v98) (fun v99 W =>
  callK PR F_disk_Disk_Append [x5, v91, v93] (fun v94 W =>
  stb PR [(10, true, (Instr.loadAt T_s_uint8 v98), v99), (8, true, (Instr.loadAt T_int v96), v97)] (fun W =>
  callK PR F_rostrumref5_Disk_Append [x7, v97, v99] (fun v100 W =>
  okF (binP .eql v94 v100) fun v101 =>
  J1 [x1, x5, x7, x8, v9, v101] W) W) W) W) W) W) W) (tick W)) (
  okF (binP .eql v69 (.int .i64 1)) fun v103 =>
  ifK v103 (
  okF (addrF 1 v9) fun v105 =>
  rdK PR (Instr.loadAt T_int v105) (fun v106 W =>
  okF (addrF 1 v9) fun v109 =>
  rdK PR (Instr.loadAt T_int v109) (fun v110 W =>
  callK PR F_disk_Disk_Sync [x5, v106] (fun v107 W =>
  stb PR [(6, true, (Instr.loadAt T_int v109), v110)] (fun W =>
  callK PR F_rostrumref5_Disk_Sync [x7, v110] (fun v111 W =>
  okF (binP .eql v107 v111) fun v112 =>
  J1 [x1, x5, x7, x8, v9, v112] W) W) W) W) W) (tick W)) (
  okF (binP .eql v69 (.int .i64 2)) fun v114 =>
  ifK v114 (
  okF (addrF 1 v9) fun v116 =>
  rdK PR (Instr.loadAt T_int v116) (fun v117 W =>
  okF (addrF 1 v9) fun v120 =>
  rdK PR (Instr.loadAt T_int v120) (fun v121 W =>
  callK PR F_disk_Disk_Drop [x5, v117] (fun v118 W =>
  stb PR [(6, true, (Instr.loadAt T_int v120), v121)] (fun W =>
  callK PR F_rostrumref5_Disk_Drop [x7, v121] (fun v122 W =>
  okF (binP .eql v118 v122) fun v123 =>
  J1 [x1, x5, x7, x8, v9, v123] W) W) W) W) W) (tick W)) (
  okF (binP .eql v69 (.int .i64 3)) fun v125 =>
  ifK v125 (
  okF (addrF 2 v9) fun v127 =>
  rdK PR (Instr.loadAt T_int v127) (fun v128 W =>
  okF (addrF 3 v9) fun v129 =>
  rdK PR (Instr.loadAt T_int v129) (fun v130 W =>
  callK PR F_disk_Disk_Crash [x5, v128, v130] (fun v131 W =>
  okF (addrF 2 v9) fun v133 =>
  rdK PR (Instr.loadAt T_int v133) (fun v134 W =>
  okF (addrF 3 v9) fun v135 =>
  rdK PR (Instr.loadAt T_int v135) (fun v136 W =>
  callK PR F_rostrumref5_Disk_Crash [x7, v134, v136] (fun v137 W =>
  J1 [x1, x5, x7, x8, v9, (.bool true)] W) W) W) W) W) W) W) (
  okF (binP .eql v69 (.int .i64 4)) fun v139 =>
  ifK v139 (
  callK PR F_disk_Disk_On [x5] (fun v141 W =>
  callK PR F_rostrumref5_Disk_On [x7] (fun v143 W =>
  J1 [x1, x5, x7, x8, v9, (.bool true)] W) W) W) (
  okF (addrF 1 v9) fun v71 =>
  rdK PR (Instr.loadAt T_int v71) (fun v72 W =>
  okF (addrF 2 v9) fun v73 =>
  rdK PR (Instr.loadAt T_int v73) (fun v74 W =>
  okF (addrF 4 v9) fun v75 =>
  rdK PR (Instr.loadAt T_uint8 v75) (fun v76 W =>
  okF (addrF 1 v9) fun v79 =>
  rdK PR (Instr.loadAt T_int v79) (fun v80 W =>
  okF (addrF 2 v9) fun v81 =>
  rdK PR (Instr.loadAt T_int v81) (fun v82 W =>
  okF (addrF 4 v9) fun v83 =>
  rdK PR (Instr.loadAt T_uint8 v83) (fun v84 W =>
  callK PR F_disk_Disk_Spoil [x5, v72, v74, v76] (fun v77 W =>
  stb PR [(14, true, (Instr.loadAt T_uint8 v83), v84), (12, true, (Instr.loadAt T_int v81), v82), (10, true, (Instr.loadAt T_int v79), v80)] (fun W =>
  callK PR F_rostrumref5_Disk_Spoil [x7, v80, v82, v84] (fun v85 W =>
  okF (eqP .bool .eql v77 v85) fun v86 =>
  J1 [x1, x5, x7, x8, v9, v86] W) W) W) W) W) W) W) W) W) (tick W))))))) W))) W) W) W) W) (
  R (.bool true) W)
def S.rostrumlaw5_DiskPlays.body (R : Value → World → Prop) (v0 v1 : Value) (W : World) : Prop :=
  callK PR F_rostrumlaw5_awake [] (fun v15 W =>
  okF (unP .not v15) fun v16 =>
  ifK v16 (
  R (.bool false) W) (
  callK PR F_disk_New [v0] (fun v19 W =>
  okF (extP 0 v19) fun v20 =>
  okF (extP 1 v19) fun v21 =>
  okF (binP .lss v0 (.int .i64 64)) fun v23 =>
  gdK (wantd v23 false) (fun k W => k v0 W) (fun v25 W =>
  gdK (wantd v23 false) (fun k W => okF (binP .gtr v25 (.int .i64 1048576)) fun v => k v W) (fun v26 W =>
  okF (pickP v23 (.bool true) v26) fun v27 =>
  ifK v27 (
  okF (binP .eql v21 (.int .i64 1)) fun v29 =>
  gdK (wantd v29 true) (fun k W => k v20 W) (fun v31 W =>
  gdK (wantd v29 true) (fun k W => okF (eqP (.pointer T_disk_Disk) .eql v31 (.pointer none)) fun v => k v W) (fun v32 W =>
  okF (pickP v29 v32 (.bool false)) fun v33 =>
  R v33 W) W) W) (
  okF (binP .neq v21 (.int .i64 0)) fun v35 =>
  gdK (wantd v35 false) (fun k W => k v20 W) (fun v37 W =>
  gdK (wantd v35 false) (fun k W => okF (eqP (.pointer T_disk_Disk) .eql v37 (.pointer none)) fun v => k v W) (fun v38 W =>
  okF (pickP v35 (.bool true) v38) fun v39 =>
  gdK (wantd v39 false) (fun k W => k v1 W) (fun v41 W =>
  gdK (wantd v39 false) (fun k W => okF (lenP (.slice T_rostrumlaw5_Act) v41) fun v => k v W) (fun v42 W =>
  gdK (wantd v39 false) (fun k W => okF (binP .gtr v42 (.int .i64 80)) fun v => k v W) (fun v43 W =>
  okF (pickP v39 (.bool true) v43) fun v44 =>
  ifK v44 (
  okF (binP .eql v21 (.int .i64 0)) fun v46 =>
  gdK (wantd v46 true) (fun k W => k v20 W) (fun v48 W =>
  gdK (wantd v46 true) (fun k W => okF (eqP (.pointer T_disk_Disk) .neq v48 (.pointer none)) fun v => k v W) (fun v49 W =>
  okF (pickP v46 v49 (.bool false)) fun v50 =>
  R v50 W) W) W) (
  okF (bldP (fun i => ([(0, 1), (1, 1000), (1001, 1), (1002, 1), (1003, 1)] : List (Nat × Nat))[i]?) (.int .i64 0 :: (List.replicate 1000 (.bool false) ++ [.slice none 0 0, .bool false, .int .i64 0])) [(0, v0), (4, (.int .i64 1))]) fun v52 =>
  efK PR (Instr.box T_rostrumref5_Disk v52) (fun v53 W =>
  loopK (fun K1 s W => S.rostrumlaw5_DiskPlays.l1 R K1 (nthv s 0) (nthv s 1) (nthv s 2) (nthv s 3) W) [v1, v20, v53, (.int .i64 0)] W) W)) W) W) W) W) W)) W) W) W)) W
def S.rostrumlaw5_DiskPlays.hint : Hint := (.two .nil (.two (.two .nil (.two (.two .nil .nil) .nil)) (.two .nil (.two (.two .nil (.two (.two .nil .nil) .nil)) (.two (.two .nil (.two (.two .nil .nil) .nil)) (.two .nil (.two (.two .nil (.at [1, 5, 7, 8] (.two (.two .nil (.two .nil .nil)) (.two (.two .nil (.two (.two .nil (.two (.two .nil .nil) .nil)) (.two .nil (.at [1, 5, 7, 8, 9, 10] (.two .nil (.two .nil (.two .nil (.two .nil (.two .nil (.two .nil (.two .nil (.two .nil (.two (.two .nil .nil) (.two .nil (.two (.two .nil .nil) .nil))))))))))) (.two .nil (.two .nil (.two .nil (.two (.two .nil .nil) .nil)))))))) .nil)) .nil)) (.two .nil .nil))))))))
theorem S.rostrumlaw5_DiskPlays.ok (R : Value → World → Prop) (v0 v1 : Value) (W : World) : bodyK PR CB Try.f7 S.rostrumlaw5_DiskPlays.hint [v0, v1] R W = S.rostrumlaw5_DiskPlays.body R v0 v1 W := by kernel_rfl
theorem S.rostrumlaw5_DiskPlays.fn : PR.funcs[F_rostrumlaw5_DiskPlays]? = some Try.f7 := by kernel_rfl
theorem S.rostrumlaw5_DiskPlays.call {R : Value → World → Prop} {v0 v1 : Value} {W : World} (h : S.rostrumlaw5_DiskPlays.body R v0 v1 W) : callK PR F_rostrumlaw5_DiskPlays [v0, v1] R W :=
  callK_of_body (g := F_rostrumlaw5_DiskPlays) (fn := Try.f7) (args := [v0, v1]) (R := R) (w := W) mixed CBok S.rostrumlaw5_DiskPlays.fn S.rostrumlaw5_DiskPlays.hint (by rw [S.rostrumlaw5_DiskPlays.ok]; exact h)
end Go.Proofs.Ythladblmjoaeoaa
