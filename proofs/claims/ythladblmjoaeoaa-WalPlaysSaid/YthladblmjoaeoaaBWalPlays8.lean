/- Texts of the claim WalPlays, joined: ShDiskL, Opn, Opn2, LDisk, LDisk4, ShWlaw, CWal12, Sl6, LWal, LWal2, ShWPlays. -/
import Derived.Test.YthladblmjoaeoaaBWalPlays1
import Derived.Test.YthladblmjoaeoaaBWalPlays2
import Derived.Deep.Slices
import Derived.OpenShut
import Derived.ShutString
import Derived.ChangeOld
import Derived.Carry
import Derived.Test.YthladblmjoaeoaaBWalPlays5
import Derived.Test.YthladblmjoaeoaaBWalPlays4
import Derived.Test.YthladblmjoaeoaaBWalPlays7
namespace Go.Proofs.Ythladblmjoaeoaa
set_option linter.unusedVariables false
set_option linter.unusedSimpArgs false
open Go.Eng
/-! ### rostrum/rostrumlaw5.awake (14) -/
def S.rostrumlaw5_awake.body (R : Value → World → Prop) (W : World) : Prop :=
  callK PR F_disk_New [(.int .i64 64)] (fun v12 W =>
  okF (extP 0 v12) fun v13 =>
  okF (extP 1 v12) fun v14 =>
  okF (binP .neq v14 (.int .i64 0)) fun v16 =>
  gdK (wantd v16 false) (fun k W => k v13 W) (fun v18 W =>
  gdK (wantd v16 false) (fun k W => okF (eqP (.pointer T_disk_Disk) .eql v18 (.pointer none)) fun v => k v W) (fun v19 W =>
  okF (pickP v16 (.bool true) v19) fun v20 =>
  ifK v20 (
  R (.bool false) W) (
  efK PR (Instr.buildSlice T_s_uint8 2 #[(0, (.int .u8 120)), (1, (.int .u8 121))]) (fun v22 W =>
  efK PR (convert T_s_uint8 T_s_uint8 v22) (fun v23 W =>
  callK PR F_disk_Disk_Append [v13, (.int .i64 0), v23] (fun v24 W =>
  efK PR (Instr.buildSlice T_s_uint8 2 #[(0, (.int .u8 122)), (1, (.int .u8 122))]) (fun v26 W =>
  efK PR (convert T_s_uint8 T_s_uint8 v26) (fun v27 W =>
  callK PR F_disk_Disk_Append [v13, (.int .i64 1), v27] (fun v28 W =>
  callK PR F_disk_Disk_Crash [v13, (.int .i64 1), (.int .i64 1)] (fun v30 W =>
  callK PR F_disk_Disk_Read [v13, (.int .i64 0)] (fun v33 W =>
  okF (extP 0 v33) fun v34 =>
  okF (extP 1 v33) fun v35 =>
  callK PR F_disk_Disk_On [v13] (fun v37 W =>
  callK PR F_disk_Disk_Read [v13, (.int .i64 0)] (fun v40 W =>
  okF (extP 0 v40) fun v41 =>
  okF (extP 1 v40) fun v42 =>
  callK PR F_disk_Disk_Read [v13, (.int .i64 1)] (fun v45 W =>
  okF (extP 0 v45) fun v46 =>
  okF (extP 1 v45) fun v47 =>
  okF (binP .eql v24 (.int .i64 0)) fun v49 =>
  gdK (wantd v49 true) (fun k W => k v28 W) (fun v51 W =>
  gdK (wantd v49 true) (fun k W => okF (binP .eql v51 (.int .i64 0)) fun v => k v W) (fun v52 W =>
  okF (pickP v49 v52 (.bool false)) fun v53 =>
  gdK (wantd v53 true) (fun k W => k v35 W) (fun v55 W =>
  gdK (wantd v53 true) (fun k W => okF (binP .eql v55 (.int .i64 7)) fun v => k v W) (fun v56 W =>
  okF (pickP v53 v56 (.bool false)) fun v57 =>
  gdK (wantd v57 true) (fun k W => k v42 W) (fun v59 W =>
  gdK (wantd v57 true) (fun k W => okF (binP .eql v59 (.int .i64 0)) fun v => k v W) (fun v60 W =>
  okF (pickP v57 v60 (.bool false)) fun v61 =>
  gdK (wantd v61 true) (fun k W => k v47 W) (fun v63 W =>
  gdK (wantd v61 true) (fun k W => okF (binP .eql v63 (.int .i64 0)) fun v => k v W) (fun v64 W =>
  okF (pickP v61 v64 (.bool false)) fun v65 =>
  gdK (wantd v65 true) (fun k W => k v41 W) (fun v67 W =>
  gdK (wantd v65 true) (fun k W => rdK PR (convert T_s_uint8 T_string v67) k W) (fun v68 W =>
  gdK (wantd v65 true) (fun k W => okF (binP .eql v68 (.string ⟨#[120, 121]⟩)) fun v => k v W) (fun v69 W =>
  okF (pickP v65 v69 (.bool false)) fun v70 =>
  gdK (wantd v70 true) (fun k W => k v46 W) (fun v72 W =>
  gdK (wantd v70 true) (fun k W => rdK PR (convert T_s_uint8 T_string v72) k W) (fun v73 W =>
  gdK (wantd v70 true) (fun k W => okF (binP .eql v73 (.string ⟨#[122]⟩)) fun v => k v W) (fun v74 W =>
  okF (pickP v70 v74 (.bool false)) fun v75 =>
  gdK (wantd v75 true) (fun k W => k v13 W) (fun v77 W =>
  gdK (wantd v75 true) (fun k W => callK PR F_disk_Disk_Lives [v77] k W) (fun v78 W =>
  gdK (wantd v75 true) (fun k W => okF (binP .eql v78 (.int .i64 2)) fun v => k v W) (fun v79 W =>
  okF (pickP v75 v79 (.bool false)) fun v80 =>
  gdK (wantd v80 true) (fun k W => k v13 W) (fun v82 W =>
  gdK (wantd v80 true) (fun k W => callK PR F_disk_Disk_Power [v82] k W) (fun v83 W =>
  okF (pickP v80 v83 (.bool false)) fun v84 =>
  R v84 W) W) W) W) W) W) W) W) W) W) W) W) W) W) W) W) W) W) W) W) W) W) W) W) W) W) W) W) W) W) W)) W) W) W
def S.rostrumlaw5_awake.hint : Hint := (.two .nil (.two .nil (.two (.two .nil (.two (.two .nil .nil) .nil)) (.two .nil (.two .nil (.two .nil (.two .nil (.two .nil (.two .nil (.two .nil .nil))))))))))
theorem S.rostrumlaw5_awake.ok (R : Value → World → Prop) (W : World) : bodyK PR CB Try.f14 S.rostrumlaw5_awake.hint [] R W = S.rostrumlaw5_awake.body R  W := by kernel_rfl
theorem S.rostrumlaw5_awake.fn : PR.funcs[F_rostrumlaw5_awake]? = some Try.f14 := by kernel_rfl
theorem S.rostrumlaw5_awake.call {R : Value → World → Prop} {W : World} (h : S.rostrumlaw5_awake.body R  W) : callK PR F_rostrumlaw5_awake [] R W :=
  callK_of_body (g := F_rostrumlaw5_awake) (fn := Try.f14) (args := []) (R := R) (w := W) mixed CBok S.rostrumlaw5_awake.fn S.rostrumlaw5_awake.hint (by rw [S.rostrumlaw5_awake.ok]; exact h)
/-! ### rostrum/rostrumlaw5.DiskOrder (3) -/
def S.rostrumlaw5_DiskOrder.l1 (R : Value → World → Prop) (K1 : List Value → World → Prop) (x7 x11 x14 : Value) (W : World) : Prop :=
  okF (binP .lss x14 (.int .i64 4)) fun v115 =>
  ifK v115 (
  callK PR F_disk_Disk_Read [x7, x14] (fun v121 W =>
  okF (extP 0 v121) fun v122 =>
  okF (extP 1 v121) fun v123 =>
  rdK PR (convert T_s_uint8 T_string v122) (fun v125 W =>
  okF (idxA 4 1 x11 x14) fun v127 =>
  rdK PR (Instr.loadAt T_string v127) (fun v128 W =>
  okF (binP .neq v125 v128) fun v129 =>
  ifK v129 (
  R (.bool false) W) (
  okF (binP .add x14 (.int .i64 1)) fun v117 =>
  K1 [x7, x11, v117] W)) W) (tick W)) W) (
  R (.bool true) W)
def S.rostrumlaw5_DiskOrder.j2 (R : Value → World → Prop) (x7 x11 : Value) (W : World) : Prop :=
  loopK (fun K1 s W => S.rostrumlaw5_DiskOrder.l1 R K1 (nthv s 0) (nthv s 1) (nthv s 2) W) [x7, x11, (.int .i64 0)] W
def S.rostrumlaw5_DiskOrder.j3 (K2 : List Value → World → Prop) (x0 x1 x2 x7 x11 x12 x13 : Value) (W : World) : Prop :=
  okF (idxS 6 x0 x12) fun v98 =>
  okF (addrF 1 v98) fun v99 =>
  rdK PR (Instr.loadAt T_int v99) (fun v100 W =>
  okF (binP .and v100 (.int .i64 3)) fun v101 =>
  okF (idxS 6 x0 x12) fun v104 =>
  okF (addrF 1 v104) fun v105 =>
  rdK PR (Instr.loadAt T_int v105) (fun v106 W =>
  okF (binP .and v106 (.int .i64 3)) fun v107 =>
  okF (idxA 4 1 x11 v107) fun v108 =>
  rdK PR (Instr.loadAt T_string v108) (fun v109 W =>
  rdK PR (convert T_s_uint8 T_string x13) (fun v111 W =>
  okF (binP .add v109 v111) fun v112 =>
  okF (idxA 4 1 x11 v101) fun v113 =>
  efK PR (Instr.storeAt T_string v113 v112) (fun _ W =>
  okF (binP .add x12 (.int .i64 1)) fun v73 =>
  K2 [x0, x1, x2, x7, x11, v73] W) W) W) W) W) (tick W)
def S.rostrumlaw5_DiskOrder.l2 (J2 : List Value → World → Prop) (K2 : List Value → World → Prop) (x0 x1 x2 x7 x11 x12 : Value) (W : World) : Prop :=
  okF (lenP (.slice T_rostrumlaw5_Act) x0) fun v70 =>
  okF (binP .lss x12 v70) fun v71 =>
  ifK v71 (
  okF (idxS 6 x0 x12) fun v76 =>
  okF (addrF 5 v76) fun v77 =>
  rdK PR (Instr.loadAt T_s_uint8 v77) (fun v78 W =>
  joinK (fun s W => S.rostrumlaw5_DiskOrder.j3 K2 (nthv s 0) (nthv s 1) (nthv s 2) (nthv s 3) (nthv s 4) (nthv s 5) (nthv s 6) W) (fun J3 =>
  okF (binP .geq x12 x1) fun v81 =>
  ifK v81 (
  okF (binP .gtr x12 x1) fun v84 =>
  gdK (wantd v84 false) (fun k W => k x2 W) (fun v86 W =>
  gdK (wantd v84 false) (fun k W => okF (binP .leq v86 (.int .i64 0)) fun v => k v W) (fun v87 W =>
  okF (pickP v84 (.bool true) v87) fun v88 =>
  ifK v88 (
  J3 [x0, x1, x2, x7, x11, x12, (.slice none 0 0)] W) (
  okF (lenP (.slice T_uint8) v78) fun v91 =>
  okF (binP .lss x2 v91) fun v92 =>
  ifK v92 (
  okF (slcS 1 v78 none (some x2) none) fun v95 =>
  J3 [x0, x1, x2, x7, x11, x12, v95] W) (
  J3 [x0, x1, x2, x7, x11, x12, v78] W))) W) W) (
  J3 [x0, x1, x2, x7, x11, x12, v78] W))) W) (
  J2 [x7, x11] W)
def S.rostrumlaw5_DiskOrder.j1 (R : Value → World → Prop) (x0 x1 x2 x7 : Value) (W : World) : Prop :=
  callK PR F_disk_Disk_Crash [x7, x1, x2] (fun v64 W =>
  callK PR F_disk_Disk_On [x7] (fun v66 W =>
  okF (bldP (fun i => some (i * 1, 1)) [.string ⟨#[]⟩, .string ⟨#[]⟩, .string ⟨#[]⟩, .string ⟨#[]⟩] []) fun v67 =>
  efK PR (Instr.alloc T_a4_string true (.tuple #[])) (fun v11 W =>
  efK PR (Instr.storeAt T_a4_string v11 v67) (fun _ W =>
  joinK (fun s W => S.rostrumlaw5_DiskOrder.j2 R (nthv s 0) (nthv s 1) W) (fun J2 =>
  loopK (fun K2 s W => S.rostrumlaw5_DiskOrder.l2 J2 K2 (nthv s 0) (nthv s 1) (nthv s 2) (nthv s 3) (nthv s 4) (nthv s 5) W) [x0, x1, x2, x7, v11, (.int .i64 0)] W)) W) W) W) W
def S.rostrumlaw5_DiskOrder.l3 (R : Value → World → Prop) (J1 : List Value → World → Prop) (K3 : List Value → World → Prop) (x0 x1 x2 x7 x9 x10 : Value) (W : World) : Prop :=
  okF (lenP (.slice T_rostrumlaw5_Act) x0) fun v28 =>
  okF (binP .lss x10 v28) fun v29 =>
  ifK v29 (
  okF (idxS 6 x0 x10) fun v34 =>
  okF (addrF 5 v34) fun v35 =>
  rdK PR (Instr.loadAt T_s_uint8 v35) (fun v36 W =>
  okF (lenP (.slice T_uint8) v36) fun v37 =>
  okF (binP .gtr v37 (.int .i64 200)) fun v38 =>
  ifK v38 (
  R (.bool true) W) (
  okF (idxS 6 x0 x10) fun v42 =>
  okF (addrF 1 v42) fun v43 =>
  rdK PR (Instr.loadAt T_int v43) (fun v44 W =>
  okF (binP .and v44 (.int .i64 3)) fun v45 =>
  okF (idxS 6 x0 x10) fun v48 =>
  okF (addrF 5 v48) fun v49 =>
  rdK PR (Instr.loadAt T_s_uint8 v49) (fun v50 W =>
  callK PR F_disk_Disk_Append [x7, v45, v50] (fun v51 W =>
  okF (binP .neq v51 (.int .i64 0)) fun v52 =>
  ifK v52 (
  R (.bool false) W) (
  okF (idxS 6 x0 x10) fun v56 =>
  okF (addrF 5 v56) fun v57 =>
  rdK PR (Instr.loadAt T_s_uint8 v57) (fun v58 W =>
  okF (lenP (.slice T_uint8) v58) fun v59 =>
  okF (binP .add x9 v59) fun v60 =>
  okF (binP .add x10 (.int .i64 1)) fun v31 =>
  K3 [x0, x1, x2, x7, v60, v31] W) W)) W) W) (tick W))) W) (
  J1 [x0, x1, x2, x7] W)
def S.rostrumlaw5_DiskOrder.body (R : Value → World → Prop) (v0 v1 v2 : Value) (W : World) : Prop :=
  callK PR F_rostrumlaw5_awake [] (fun v17 W =>
  okF (unP .not v17) fun v18 =>
  ifK v18 (
  R (.bool false) W) (
  okF (lenP (.slice T_rostrumlaw5_Act) v0) fun v20 =>
  okF (binP .gtr v20 (.int .i64 30)) fun v21 =>
  ifK v21 (
  R (.bool true) W) (
  callK PR F_disk_New [(.int .i64 65536)] (fun v23 W =>
  okF (extP 0 v23) fun v24 =>
  okF (extP 1 v23) fun v25 =>
  joinK (fun s W => S.rostrumlaw5_DiskOrder.j1 R (nthv s 0) (nthv s 1) (nthv s 2) (nthv s 3) W) (fun J1 =>
  loopK (fun K3 s W => S.rostrumlaw5_DiskOrder.l3 R J1 K3 (nthv s 0) (nthv s 1) (nthv s 2) (nthv s 3) (nthv s 4) (nthv s 5) W) [v0, v1, v2, v24, (.int .i64 0), (.int .i64 0)] W)) W))) W
def S.rostrumlaw5_DiskOrder.hint : Hint := (.two .nil (.two (.two .nil (.two (.two .nil .nil) .nil)) (.two (.two .nil (.two (.two .nil .nil) .nil)) (.two .nil (.two .nil (.at [0, 1, 2, 7] (.two .nil (.at [0, 1, 2, 7, 9, 10] (.two (.two .nil (.two .nil .nil)) (.two (.two (.two .nil (.two (.two .nil .nil) .nil)) (.two (.two .nil (.two (.two .nil .nil) .nil)) .nil)) .nil)) .nil)) (.two .nil (.two .nil (.two .nil (.at [7, 11] (.two .nil (.at [0, 1, 2, 7, 11, 12] (.two (.two .nil (.two .nil .nil)) (.two (.two .nil (.at [0, 1, 2, 7, 11, 12, 13] (.two .nil (.two (.two .nil (.two .nil (.two .nil (.two .nil .nil)))) .nil)) .nil)) .nil)) .nil)) (.two (.two .nil (.at [7, 11, 14] (.two (.two .nil (.two .nil .nil)) (.two (.two .nil (.two .nil (.two (.two .nil .nil) .nil))) .nil)) .nil)) (.two .nil .nil))))))))))))
theorem S.rostrumlaw5_DiskOrder.ok (R : Value → World → Prop) (v0 v1 v2 : Value) (W : World) : bodyK PR CB Try.f3 S.rostrumlaw5_DiskOrder.hint [v0, v1, v2] R W = S.rostrumlaw5_DiskOrder.body R v0 v1 v2 W := by kernel_rfl
theorem S.rostrumlaw5_DiskOrder.fn : PR.funcs[F_rostrumlaw5_DiskOrder]? = some Try.f3 := by kernel_rfl
theorem S.rostrumlaw5_DiskOrder.call {R : Value → World → Prop} {v0 v1 v2 : Value} {W : World} (h : S.rostrumlaw5_DiskOrder.body R v0 v1 v2 W) : callK PR F_rostrumlaw5_DiskOrder [v0, v1, v2] R W :=
  callK_of_body (g := F_rostrumlaw5_DiskOrder) (fn := Try.f3) (args := [v0, v1, v2]) (R := R) (w := W) mixed CBok S.rostrumlaw5_DiskOrder.fn S.rostrumlaw5_DiskOrder.hint (by rw [S.rostrumlaw5_DiskOrder.ok]; exact h)
/-! ### rostrum/rostrumlaw5.DiskApart (4) -/
def S.rostrumlaw5_DiskApart.body (R : Value → World → Prop) (v0 : Value) (W : World) : Prop :=
  callK PR F_rostrumlaw5_awake [] (fun v10 W =>
  okF (unP .not v10) fun v11 =>
  ifK v11 (
  R (.bool false) W) (
  okF (lenP (.slice T_uint8) v0) fun v13 =>
  okF (binP .lss v13 (.int .i64 1)) fun v14 =>
  gdK (wantd v14 false) (fun k W => k v0 W) (fun v16 W =>
  gdK (wantd v14 false) (fun k W => okF (lenP (.slice T_uint8) v16) fun v => k v W) (fun v17 W =>
  gdK (wantd v14 false) (fun k W => okF (binP .gtr v17 (.int .i64 100)) fun v => k v W) (fun v18 W =>
  okF (pickP v14 (.bool true) v18) fun v19 =>
  ifK v19 (
  R (.bool true) W) (
  callK PR F_disk_New [(.int .i64 1000)] (fun v21 W =>
  okF (extP 0 v21) fun v22 =>
  okF (extP 1 v21) fun v23 =>
  efK PR (Instr.buildSlice T_s_uint8 0 #[]) (fun v24 W =>
  efK PR (Builtin.append_ #[T_s_uint8, T_s_uint8] T_s_uint8 #[v24, v0]) (fun v26 W =>
  callK PR F_disk_Disk_Append [v22, (.int .i64 3), v26] (fun v29 W =>
  okF (idxS 1 v26 (.int .i64 0)) fun v31 =>
  rdK PR (Instr.loadAt T_uint8 v31) (fun v32 W =>
  okF (binP .add v32 (.int .u8 1)) fun v33 =>
  okF (idxS 1 v26 (.int .i64 0)) fun v34 =>
  efK PR (Instr.storeAt T_uint8 v34 v33) (fun _ W =>
  callK PR F_disk_Disk_Read [v22, (.int .i64 3)] (fun v37 W =>
  okF (extP 0 v37) fun v38 =>
  okF (extP 1 v37) fun v39 =>
  okF (lenP (.slice T_uint8) v38) fun v41 =>
  okF (lenP (.slice T_uint8) v0) fun v43 =>
  okF (binP .neq v41 v43) fun v44 =>
  ifK v44 (
  R (.bool false) W) (
  okF (idxS 1 v38 (.int .i64 0)) fun v46 =>
  rdK PR (Instr.loadAt T_uint8 v46) (fun v47 W =>
  okF (binP .add v47 (.int .u8 1)) fun v48 =>
  okF (idxS 1 v38 (.int .i64 0)) fun v49 =>
  efK PR (Instr.storeAt T_uint8 v49 v48) (fun _ W =>
  callK PR F_disk_Disk_Read [v22, (.int .i64 3)] (fun v52 W =>
  okF (extP 0 v52) fun v53 =>
  okF (extP 1 v52) fun v54 =>
  okF (binP .eql v54 (.int .i64 0)) fun v56 =>
  gdK (wantd v56 true) (fun k W => k v53 W) (fun v58 W =>
  gdK (wantd v56 true) (fun k W => rdK PR (convert T_s_uint8 T_string v58) k W) (fun v59 W =>
  gdK (wantd v56 true) (fun k W => k v0 W) (fun v60 W =>
  gdK (wantd v56 true) (fun k W => rdK PR (convert T_s_uint8 T_string v60) k W) (fun v61 W =>
  gdK (wantd v56 true) (fun k W => okF (binP .eql v59 v61) fun v => k v W) (fun v62 W =>
  okF (pickP v56 v62 (.bool false)) fun v63 =>
  R v63 W) W) W) W) W) W) W) W) W)) W) W) W) W) W) W) W)) W) W) W)) W
def S.rostrumlaw5_DiskApart.hint : Hint := (.two .nil (.two (.two .nil (.two (.two .nil .nil) .nil)) (.two (.two .nil (.two (.two .nil .nil) .nil)) (.two .nil (.two .nil (.two .nil (.two .nil (.two .nil (.two (.two .nil (.two (.two .nil .nil) .nil)) (.two .nil (.two .nil (.two .nil .nil))))))))))))
theorem S.rostrumlaw5_DiskApart.ok (R : Value → World → Prop) (v0 : Value) (W : World) : bodyK PR CB Try.f4 S.rostrumlaw5_DiskApart.hint [v0] R W = S.rostrumlaw5_DiskApart.body R v0 W := by kernel_rfl
theorem S.rostrumlaw5_DiskApart.fn : PR.funcs[F_rostrumlaw5_DiskApart]? = some Try.f4 := by kernel_rfl
theorem S.rostrumlaw5_DiskApart.call {R : Value → World → Prop} {v0 : Value} {W : World} (h : S.rostrumlaw5_DiskApart.body R v0 W) : callK PR F_rostrumlaw5_DiskApart [v0] R W :=
  callK_of_body (g := F_rostrumlaw5_DiskApart) (fn := Try.f4) (args := [v0]) (R := R) (w := W) mixed CBok S.rostrumlaw5_DiskApart.fn S.rostrumlaw5_DiskApart.hint (by rw [S.rostrumlaw5_DiskApart.ok]; exact h)
/-! ### rostrum/rostrumlaw5.DiskSafe (5) -/
def S.rostrumlaw5_DiskSafe.j1 (R : Value → World → Prop) (x0 x1 x2 x3 x9 x11 : Value) (W : World) : Prop :=
  callK PR F_disk_Disk_Crash [x9, x2, x3] (fun v70 W =>
  callK PR F_disk_Disk_On [x9] (fun v72 W =>
  callK PR F_disk_Disk_Read [x9, (.int .i64 7)] (fun v75 W =>
  okF (extP 0 v75) fun v76 =>
  okF (extP 1 v75) fun v77 =>
  okF (binP .eql v77 (.int .i64 0)) fun v79 =>
  gdK (wantd v79 true) (fun k W => k v76 W) (fun v81 W =>
  gdK (wantd v79 true) (fun k W => okF (lenP (.slice T_uint8) v81) fun v => k v W) (fun v82 W =>
  gdK (wantd v79 true) (fun k W => k x0 W) (fun v83 W =>
  gdK (wantd v79 true) (fun k W => okF (lenP (.slice T_uint8) v83) fun v => k v W) (fun v84 W =>
  gdK (wantd v79 true) (fun k W => okF (binP .geq v82 v84) fun v => k v W) (fun v85 W =>
  okF (pickP v79 v85 (.bool false)) fun v86 =>
  gdK (wantd v86 true) (fun k W => k v76 W) (fun v88 W =>
  gdK (wantd v86 true) (fun k W => okF (lenP (.slice T_uint8) v88) fun v => k v W) (fun v89 W =>
  gdK (wantd v86 true) (fun k W => k x11 W) (fun v90 W =>
  gdK (wantd v86 true) (fun k W => okF (lenP .string v90) fun v => k v W) (fun v91 W =>
  gdK (wantd v86 true) (fun k W => okF (binP .leq v89 v91) fun v => k v W) (fun v92 W =>
  okF (pickP v86 v92 (.bool false)) fun v93 =>
  gdK (wantd v93 true) (fun k W => k v76 W) (fun v95 W =>
  gdK (wantd v93 true) (fun k W => rdK PR (convert T_s_uint8 T_string v95) k W) (fun v96 W =>
  gdK (wantd v93 true) (fun k W => k x11 W) (fun v97 W =>
  gdK (wantd v93 true) (fun k W => k v76 W) (fun v98 W =>
  gdK (wantd v93 true) (fun k W => okF (lenP (.slice T_uint8) v98) fun v => k v W) (fun v99 W =>
  gdK (wantd v93 true) (fun k W => okF (slcStr v97 none (some v99)) fun v => k v W) (fun v100 W =>
  gdK (wantd v93 true) (fun k W => okF (binP .eql v96 v100) fun v => k v W) (fun v101 W =>
  okF (pickP v93 v101 (.bool false)) fun v102 =>
  gdK (wantd v102 true) (fun k W => k x2 W) (fun v104 W =>
  gdK (wantd v102 true) (fun k W => k x1 W) (fun v105 W =>
  gdK (wantd v102 true) (fun k W => okF (lenP (.slice T_s_uint8) v105) fun v => k v W) (fun v106 W =>
  gdK (wantd v102 true) (fun k W => okF (binP .lss v104 v106) fun v => k v W) (fun v107 W =>
  gdK (wantd v102 true) (fun k W => k v107 W) (fun v108 W =>
  gdK (wantd v108 false) (fun k W => k v76 W) (fun v109 W =>
  gdK (wantd v108 false) (fun k W => rdK PR (convert T_s_uint8 T_string v109) k W) (fun v110 W =>
  gdK (wantd v108 false) (fun k W => k x11 W) (fun v111 W =>
  gdK (wantd v108 false) (fun k W => okF (binP .eql v110 v111) fun v => k v W) (fun v112 W =>
  gdK (wantd v102 true) (fun k W => okF (pickP v108 (.bool true) v112) fun v => k v W) (fun v113 W =>
  okF (pickP v102 v113 (.bool false)) fun v114 =>
  R v114 W) W) W) W) W) W) W) W) W) W) W) W) W) W) W) W) W) W) W) W) W) W) W) W) W) W) W) (tick W)) W) W) W
def S.rostrumlaw5_DiskSafe.j2 (K1 : List Value → World → Prop) (x0 x1 x2 x3 x9 x11 x12 : Value) (W : World) : Prop :=
  okF (binP .add x12 (.int .i64 1)) fun v41 =>
  K1 [x0, x1, x2, x3, x9, x11, v41] W
def S.rostrumlaw5_DiskSafe.l1 (R : Value → World → Prop) (J1 : List Value → World → Prop) (K1 : List Value → World → Prop) (x0 x1 x2 x3 x9 x11 x12 : Value) (W : World) : Prop :=
  okF (lenP (.slice T_s_uint8) x1) fun v38 =>
  okF (binP .lss x12 v38) fun v39 =>
  ifK v39 (
  joinK (fun s W => S.rostrumlaw5_DiskSafe.j2 K1 (nthv s 0) (nthv s 1) (nthv s 2) (nthv s 3) (nthv s 4) (nthv s 5) (nthv s 6) W) (fun J2 =>
  okF (idxS 1 x1 x12) fun v44 =>
  rdK PR (Instr.loadAt T_s_uint8 v44) (fun v45 W =>
  okF (lenP (.slice T_uint8) v45) fun v46 =>
  okF (binP .gtr v46 (.int .i64 100)) fun v47 =>
  ifK v47 (
  R (.bool true) W) (
  okF (binP .rem x12 (.int .i64 3)) fun v50 =>
  okF (binP .add v50 (.int .i64 6)) fun v51 =>
  okF (idxS 1 x1 x12) fun v54 =>
  rdK PR (Instr.loadAt T_s_uint8 v54) (fun v55 W =>
  callK PR F_disk_Disk_Append [x9, v51, v55] (fun v56 W =>
  okF (binP .rem x12 (.int .i64 3)) fun v58 =>
  okF (binP .eql v58 (.int .i64 1)) fun v59 =>
  ifK v59 (
  okF (idxS 1 x1 x12) fun v63 =>
  rdK PR (Instr.loadAt T_s_uint8 v63) (fun v64 W =>
  rdK PR (convert T_s_uint8 T_string v64) (fun v65 W =>
  okF (binP .add x11 v65) fun v66 =>
  J2 [x0, x1, x2, x3, x9, v66, x12] W) W) W) (
  J2 [x0, x1, x2, x3, x9, x11, x12] W)) W) W)) W)) (
  J1 [x0, x1, x2, x3, x9, x11] W)
def S.rostrumlaw5_DiskSafe.body (R : Value → World → Prop) (v0 v1 v2 v3 : Value) (W : World) : Prop :=
  callK PR F_rostrumlaw5_awake [] (fun v15 W =>
  okF (unP .not v15) fun v16 =>
  ifK v16 (
  R (.bool false) W) (
  okF (lenP (.slice T_uint8) v0) fun v18 =>
  okF (binP .gtr v18 (.int .i64 200)) fun v19 =>
  gdK (wantd v19 false) (fun k W => k v1 W) (fun v21 W =>
  gdK (wantd v19 false) (fun k W => okF (lenP (.slice T_s_uint8) v21) fun v => k v W) (fun v22 W =>
  gdK (wantd v19 false) (fun k W => okF (binP .gtr v22 (.int .i64 20)) fun v => k v W) (fun v23 W =>
  okF (pickP v19 (.bool true) v23) fun v24 =>
  ifK v24 (
  R (.bool true) W) (
  callK PR F_disk_New [(.int .i64 65536)] (fun v26 W =>
  okF (extP 0 v26) fun v27 =>
  okF (extP 1 v26) fun v28 =>
  callK PR F_disk_Disk_Append [v27, (.int .i64 7), v0] (fun v31 W =>
  callK PR F_disk_Disk_Sync [v27, (.int .i64 7)] (fun v33 W =>
  rdK PR (convert T_s_uint8 T_string v0) (fun v35 W =>
  joinK (fun s W => S.rostrumlaw5_DiskSafe.j1 R (nthv s 0) (nthv s 1) (nthv s 2) (nthv s 3) (nthv s 4) (nthv s 5) W) (fun J1 =>
  loopK (fun K1 s W => S.rostrumlaw5_DiskSafe.l1 R J1 K1 (nthv s 0) (nthv s 1) (nthv s 2) (nthv s 3) (nthv s 4) (nthv s 5) (nthv s 6) W) [v0, v1, v2, v3, v27, v35, (.int .i64 0)] W)) W) W) W) W)) W) W) W)) W
def S.rostrumlaw5_DiskSafe.hint : Hint := (.two .nil (.two (.two .nil (.two (.two .nil .nil) .nil)) (.two (.two .nil (.two (.two .nil .nil) .nil)) (.two .nil (.two .nil (.two .nil (.two .nil (.at [0, 1, 2, 3, 9, 11] (.two .nil (.at [0, 1, 2, 3, 9, 11, 12] (.two (.two .nil (.two .nil .nil)) (.at [0, 1, 2, 3, 9, 11, 12] (.two (.two .nil (.two (.two .nil .nil) .nil)) (.two .nil (.two .nil (.two .nil .nil)))) .nil)) .nil)) (.two .nil (.two .nil (.two .nil (.two .nil .nil))))))))))))
theorem S.rostrumlaw5_DiskSafe.ok (R : Value → World → Prop) (v0 v1 v2 v3 : Value) (W : World) : bodyK PR CB Try.f5 S.rostrumlaw5_DiskSafe.hint [v0, v1, v2, v3] R W = S.rostrumlaw5_DiskSafe.body R v0 v1 v2 v3 W := by kernel_rfl
theorem S.rostrumlaw5_DiskSafe.fn : PR.funcs[F_rostrumlaw5_DiskSafe]? = some Try.f5 := by kernel_rfl
theorem S.rostrumlaw5_DiskSafe.call {R : Value → World → Prop} {v0 v1 v2 v3 : Value} {W : World} (h : S.rostrumlaw5_DiskSafe.body R v0 v1 v2 v3 W) : callK PR F_rostrumlaw5_DiskSafe [v0, v1, v2, v3] R W :=
  callK_of_body (g := F_rostrumlaw5_DiskSafe) (fn := Try.f5) (args := [v0, v1, v2, v3]) (R := R) (w := W) mixed CBok S.rostrumlaw5_DiskSafe.fn S.rostrumlaw5_DiskSafe.hint (by rw [S.rostrumlaw5_DiskSafe.ok]; exact h)
end Go.Proofs.Ythladblmjoaeoaa
namespace Go.Eng
set_option linter.unusedVariables false
set_option linter.unusedSimpArgs false
open Go Go.RowKit Go.ChangeShapes Go.WideShapes Go.Deep

inductive Cl where
  | int (k : IntKind)
  | str
  | bool
  | sl (e : List Cl)

mutual
inductive GoodC (W : World) : Cl → Value → Prop where
  | int {k : IntKind} {n : Int} (h : (Lit.int k n).wf = true) : GoodC W (.int k) (.int k n)
  | str {s : ByteArray} (h : s.size ≤ maxLen) : GoodC W .str (.string s)
  | bool {b : Bool} : GoodC W .bool (.bool b)
  | sl {e : List Cl} {a : Option Addr} {n c : Nat} (rows : Nat → List Value) (hc : n ≤ c) (hm : c ≤ maxLen) (hn : a = none → c = 0)
      (hr : ∀ i, i < n → ∃ b o, a = some ⟨b, o, none⟩ ∧ ro W b (o + i * e.length) (rows i)) (hg : ∀ i, i < n → GoodL W e (rows i)) : GoodC W (.sl e) (.slice a n c)
inductive GoodL (W : World) : List Cl → List Value → Prop where
  | nil : GoodL W [] []
  | cons {c : Cl} {cs : List Cl} {v : Value} {vs : List Value} (h : GoodC W c v) (hs : GoodL W cs vs) : GoodL W (c :: cs) (v :: vs)
end

theorem GoodL.app {W : World} : ∀ {l : List Cl} {vs : List Value} {l' : List Cl} {vs' : List Value}, GoodL W l vs → GoodL W l' vs' → GoodL W (l ++ l') (vs ++ vs')
  | _, _, _, _, .nil, h => h
  | _, _, _, _, .cons h hs, h' => .cons h (hs.app h')
theorem GoodL.len {W : World} : ∀ {l : List Cl} {vs : List Value}, GoodL W l vs → vs.length = l.length
  | _, _, .nil => rfl
  | _, _, .cons h hs => by simp [hs.len]

def clF (P : Program) (g : TypeId → Option (List Cl)) : List Field → Nat → Option (List Cl)
  | [], _ => some []
  | f :: r, off => match Nat.beq f.offset off with
    | false => none
    | true => match g f.type with
      | some ks => match Nat.beq (P.cellsOf f.type) ks.length with
        | true => (match clF P g r (off + ks.length) with | some l => some (ks ++ l) | none => none)
        | false => none
      | none => none
/-- the cells of a type -/
def cls (P : Program) : Nat → TypeId → Option (List Cl)
  | 0, _ => none
  | d + 1, t => match P.underlying t with
    | some (.int k) => some [.int k]
    | some .string => some [.str]
    | some .bool => some [.bool]
    | some (.slice e) => (match cls P d e with | some l => (match Nat.beq (P.cellsOf e) l.length && !Nat.beq l.length 0 with | true => some [.sl l] | false => none) | none => none)
    | some (.struct fs) => (match clF P (cls P d) fs.toList 0 with | some l => (match Nat.beq (P.cellsOf t) l.length with | true => some l | false => none) | none => none)
    | some (.array n e) => (match cls P d e with | some l => (match Nat.beq (P.cellsOf e) l.length && Nat.beq (P.cellsOf t) (n * l.length) with | true => some (List.replicate n l).flatten | false => none) | none => none)
    | _ => none

section
variable {P : Program} {w : World} {H : Type} {enc : TypeId × Value → H}

theorem good_fields {g : TypeId → Option (List Cl)} {n : Nat} {cs : List Value}
    (hg : ∀ t l, g t = some l → ∀ cs x, DataW.trod enc P w 0 (fun _ => true) true n t cs = some x → GoodL w l cs) :
    ∀ (fs : List Field) (off : Nat) (l : List Cl), clF P g fs off = some l → (∀ f ∈ fs, ∃ x, DataW.trod enc P w 0 (fun _ => true) true n f.type ((cs.drop f.offset).take (P.cellsOf f.type)) = some x) →
      GoodL w l ((cs.drop off).take l.length)
  | [], off, l, h, _ => by simp only [clF, Option.some.injEq] at h; subst h; simpa using GoodL.nil
  | f :: fs, off, l, h, hx => by
    simp only [clF] at h
    split at h
    · cases h
    · rename_i ho
      have ho := Nat.eq_of_beq_eq_true ho
      split at h
      · rename_i ks hks
        split at h
        · rename_i hsz
          have hsz := Nat.eq_of_beq_eq_true hsz
          split at h
          · rename_i l' hl'
            simp only [Option.some.injEq] at h
            subst h
            obtain ⟨x, hx0⟩ := hx f (by simp)
            rw [hsz, ho] at hx0
            have h1 := hg _ _ hks _ _ hx0
            have h2 := good_fields hg fs _ _ hl' (fun f' hf' => hx f' (List.mem_cons_of_mem _ hf'))
            have := h1.app h2
            rw [← List.drop_drop, ← List.take_add] at this
            simpa using this
          · cases h
        · cases h
      · cases h

theorem open_cls : ∀ (m : Nat) (t : TypeId) (l : List Cl), cls P m t = some l → ∀ (fuel : Nat) (cs : List Value) (x : DataW H × List MemPlace), DataW.trod enc P w 0 (fun _ => true) true fuel t cs = some x → GoodL w l cs
  | 0, _, _, h => by simp [cls] at h
  | m + 1, t, l, h => by
    intro fuel cs x hx
    simp only [cls] at h
    cases ht : P.underlying t with
    | none => rw [ht] at h; cases h
    | some d =>
      rw [ht] at h
      cases d <;> simp only at h <;> try (cases h; done)
      case int k =>
        simp only [Option.some.injEq] at h
        subst h
        obtain ⟨n, rfl, _, hw⟩ := DataW.trod_int ht hx
        exact .cons (.int hw) .nil
      case string =>
        simp only [Option.some.injEq] at h
        subst h
        obtain ⟨n, rfl, _, hw⟩ := DataW.trod_string ht hx
        exact .cons (.str hw) .nil
      case bool =>
        simp only [Option.some.injEq] at h
        subst h
        obtain ⟨n, rfl, _⟩ := DataW.trod_bool ht hx
        exact .cons .bool .nil
      case slice e =>
        split at h
        · rename_i le hle
          split at h
          · rename_i hb
            simp only [Bool.and_eq_true, Bool.not_eq_true'] at hb
            have hsz := Nat.eq_of_beq_eq_true hb.1
            have hpos : 0 < le.length := Nat.pos_of_ne_zero fun e => by rw [e] at hb; simp at hb
            simp only [Option.some.injEq] at h
            subst h
            rcases open_slice ht hx with ⟨rfl, _⟩ | ⟨a, len, cap, mm, n, D, Pl, rfl, hb0, hl, hmx, hmm, rfl, hel⟩
            · exact .cons (.sl (fun _ => []) (by omega) (by simp [maxLen]) (fun _ => rfl) (fun i hi => by omega) (fun i hi => by omega)) .nil
            · simp only [if_true] at hmm
              subst hmm
              rw [hsz] at hel
              obtain ⟨rows, hrows⟩ := choose_lt (α := List Value) (p := fun i cs' => w.cells? 0 (a.add (i * le.length)) le.length = some cs' ∧ DataW.trod enc P w 0 (fun _ => true) true n e cs' = some (D i, Pl i)) hel
              refine .cons (.sl rows hl hmx (fun h => by cases h) (fun i hi => ?_) (fun i hi => open_cls m e le hle n _ _ (hrows i (by omega)).2)) .nil
              obtain ⟨_, hlen0, hcell0⟩ := World.cells?_some (hrows 0 (by omega)).1
              obtain ⟨_, hlen, hcell⟩ := World.cells?_some (hrows i (by omega)).1
              have h0 : ∃ v, w.cell? a = some v := by
                have := hcell0 0 hpos
                simp only [Nat.zero_mul, Addr.add, if_true] at this
                rw [this]
                exact ⟨(rows 0)[0]'(by omega), by simp⟩
              obtain ⟨v, hv⟩ := h0
              have hsp := World.cell?_spot hv
              obtain ⟨ab, ao, asp⟩ := a
              simp only at hsp
              subst hsp
              refine ⟨ab, ao, rfl, fun j hj => ?_⟩
              have := hcell j (by omega)
              rw [add_none, add_none] at this
              exact this
          · cases h
        · cases h
      case struct fs =>
        split at h
        · rename_i l' hl'
          split at h
          · rename_i hsz
            have hsz := Nat.eq_of_beq_eq_true hsz
            simp only [Option.some.injEq] at h
            subst h
            obtain ⟨xs, n, rfl, rfl, hlen, hxs, hf⟩ := DataW.trod_struct ht hx
            have := good_fields (cs := cs) (fun t l hl cs x hx => open_cls m t l hl n cs x hx) fs.toList 0 l' hl' (fun f hf' => by
              obtain ⟨i, hi, rfl⟩ := List.getElem_of_mem hf'
              have hi' : i < fs.size := by simpa using hi
              have := hf i fs[i] (by simp [hi'])
              rw [show fs.toList[i] = fs[i] by simp, this]
              exact ⟨xs[i]'(by omega), by simp⟩)
            rw [← hsz, ← hlen] at this
            simpa using this
          · cases h
        · cases h
      case array k e =>
        split at h
        · rename_i le hle
          split at h
          · rename_i hb
            simp only [Bool.and_eq_true] at hb
            have hsz := Nat.eq_of_beq_eq_true hb.1
            have hsz2 := Nat.eq_of_beq_eq_true hb.2
            simp only [Option.some.injEq] at h
            subst h
            obtain ⟨xs, n, rfl, rfl, hlen, hxs, hf⟩ := DataW.trod_array ht hx
            rw [hsz2] at hlen
            rw [hsz] at hf
            have key : ∀ j, j ≤ k → GoodL w (List.replicate j le).flatten (cs.take (j * le.length)) := by
              intro j
              induction j with
              | zero => intro _; simpa using GoodL.nil
              | succ j ih =>
                intro hj
                have h1 := hf j (by omega)
                have h2 : GoodL w le ((cs.drop (j * le.length)).take le.length) := by
                  refine open_cls m e le hle n _ (xs[j]'(by omega)) ?_
                  rw [h1]; simp
                have := (ih (by omega)).app h2
                rw [← List.take_add] at this
                rw [List.replicate_succ', List.flatten_append, Nat.succ_mul]
                simpa using this
            have := key k (Nat.le_refl _)
            rw [← hlen] at this
            simpa using this
          · cases h
        · cases h

/-- an argument of a law -/
def GoodA (w : World) (l : List Cl) (agg : Bool) (v : Value) : Prop := GoodL w l (vcells v) ∧ (agg = true → ∃ cs : List Value, v = .agg cs.toArray) ∧ (agg = false → vcells v = [v])
theorem open_arg {t : TypeId} {l : List Cl} {agg : Bool} {m : Nat} {v : Value} {d : DataW H} {ps : List MemPlace} {r : Reach} {b0 : Nat} (hl : cls P m t = some l) (ha : (P.underlying t).map aggB = some agg)
    (hval : Value.okWide P w r b0 t v) (h : DataW.Trod enc P w 0 (fun _ => true) true t v d ps) : GoodA w l agg v := by
  obtain ⟨fuel, hf⟩ := h
  obtain ⟨u, hu, hu'⟩ := Option.map_eq_some_iff.1 ha
  refine ⟨by have := open_cls m t l hl _ _ _ hf; rwa [vcells_eq] at this, fun hagg => ?_, fun hagg => ?_⟩
  · subst hagg
    cases u <;> simp only [aggB] at hu' <;> try (cases hu'; done)
    case struct fs =>
      obtain ⟨cs, rfl, _⟩ := okWide_struct hu hval
      exact ⟨cs.toList, rfl⟩
    case array n e =>
      simp only [Value.okWide, hu] at hval
      cases v <;> simp_all
      exact ⟨_, (Array.toArray_toList).symm⟩
  · subst hagg
    cases m with
    | zero => simp [cls] at hl
    | succ m =>
      simp only [cls, hu] at hl
      cases u <;> simp only [aggB] at hu' <;> simp only at hl <;> try (first | (cases hu'; done) | (cases hl; done))
      case int k => obtain ⟨n, rfl⟩ := okWide_int hu hval; rfl
      case string => obtain ⟨n, rfl⟩ := okWide_string hu hval; rfl
      case bool => obtain ⟨n, rfl⟩ := okWide_bool hu hval; rfl
      case slice e => obtain ⟨a, b, c, rfl⟩ := okWide_slice hu hval; rfl
theorem GoodL.cons' {c : Cl} {cs : List Cl} {vs : List Value} (h : GoodL w (c :: cs) vs) : ∃ v vs', vs = v :: vs' ∧ GoodC w c v ∧ GoodL w cs vs' := by
  cases h with | cons h1 h2 => exact ⟨_, _, rfl, h1, h2⟩
theorem GoodL.nil' {vs : List Value} (h : GoodL w [] vs) : vs = [] := by cases h; rfl
theorem GoodA.one {c : Cl} {v : Value} (h : GoodA w [c] false v) : GoodC w c v := by
  obtain ⟨h1, _, h2⟩ := h
  rw [h2 rfl] at h1
  cases h1 with | cons h _ => exact h
theorem GoodC.int' {k : IntKind} {v : Value} (h : GoodC w (.int k) v) : ∃ n, v = .int k n ∧ (Lit.int k n).wf = true := by
  cases h with | int h => exact ⟨_, rfl, h⟩
/-- a slice whose rows are of a kind -/
theorem GoodC.sl' {e : List Cl} {v : Value} {α : Type} [Inhabited α] {q : α → List Value → Prop} (h : GoodC w (.sl e) v) (hq : ∀ vs, GoodL w e vs → ∃ a, q a vs) :
    ∃ a n c, ∃ A : Nat → α, v = .slice a n c ∧ n ≤ c ∧ c ≤ maxLen ∧ (a = none → c = 0) ∧ ∀ i, i < n → ∃ b o vs, a = some ⟨b, o, none⟩ ∧ ro w b (o + i * e.length) vs ∧ q (A i) vs := by
  cases h with
  | sl rows hc hm hn hr hg =>
    obtain ⟨A, hA⟩ := choose_lt fun i hi => hq _ (hg i hi)
    exact ⟨_, _, _, A, rfl, hc, hm, hn, fun i hi => let ⟨b, o, h1, h2⟩ := hr i hi; ⟨b, o, rows i, h1, h2, hA i hi⟩⟩
theorem keep_all (hl : laidOutB P = true) : ∀ {ts : List TypeId} {vs : List Value} {ds : List (DataW H)} {ps : List MemPlace} {W W' : World}, ts.all (fun t => P.readableRec t && decide (t < P.types.size)) = true →
    DataW.TrodAll enc P W 0 (fun _ => true) true ts vs ds ps → Below W.heap.size W W' → DataW.TrodAll enc P W' 0 (fun b => decide (b < W.heap.size)) true ts vs ds ps
  | [], [], [], _, _, _, _, h, _ => h
  | [], [], _ :: _, _, _, _, _, h, _ => h.elim
  | [], _ :: _, _, _, _, _, _, h, _ => h.elim
  | _ :: _, [], _, _, _, _, _, h, _ => h.elim
  | _ :: _, _ :: _, [], _, _, _, _, h, _ => h.elim
  | t :: ts, v :: vs, d :: ds, ps, W, W', ha, h, hb => by
    obtain ⟨p, q, h1, h2, rfl⟩ := h
    simp only [List.all_cons, Bool.and_eq_true, decide_eq_true_eq] at ha
    have lt : ∀ x ∈ p, x.block < W.heap.size := by obtain ⟨m, hm⟩ := h1; exact DataW.trod_lt m _ _ _ hm
    exact ⟨p, q, Below.trod hl ha.1.1 ha.1.2 h1 hb lt, keep_all hl ha.2 h2 hb, rfl⟩
end
end Go.Eng
namespace Go.Eng
set_option linter.unusedVariables false
set_option linter.unusedSimpArgs false
open Go Go.RowKit

theorem wf8 {n : Int} (h : (Lit.int .u8 n).wf = true) : 0 ≤ n ∧ n ≤ 255 := by
  simp only [Lit.wf, Bool.and_eq_true, decide_eq_true_eq] at h
  exact h
theorem ro_rows {α : Type} {A : Ly α} {w : World} {b o : Nat} : ∀ (l : List α), (∀ i (hi : i < l.length), ro w b (o + i * A.sz) (A.row l[i])) → ro w b o (A.rows l) := by
  intro l h j hj
  rw [Ly.rows_len] at hj
  have hp := A.pos
  have hi : j / A.sz < l.length := Nat.div_lt_of_lt_mul (by rw [Nat.mul_comm]; exact hj)
  have hr : j % A.sz < A.sz := Nat.mod_lt _ hp
  have h1 := h _ hi (j % A.sz) (by rw [A.len]; exact hr)
  have e : o + j / A.sz * A.sz + j % A.sz = o + j := by rw [Nat.add_assoc, Nat.div_add_mod']
  rw [e] at h1
  rw [h1, ← Ly.rows_at hi, List.getElem?_take_of_lt hr, List.getElem?_drop, Nat.div_add_mod']
theorem openArr {α : Type} [Inhabited α] (A : Ly α) {e : List Cl} (p : α → Prop) {w : World} {v : Value} (h : GoodC w (.sl e) v) (he : e.length = A.sz) (hq : ∀ vs, GoodL w e vs → ∃ a, vs = A.row a ∧ p a) :
    ∃ (a : Option Addr) (c : Nat) (l : List α), v = .slice a l.length c ∧ l.length ≤ c ∧ c ≤ maxLen ∧ Rd w [] a A l ∧ ∀ x ∈ l, p x := by
  obtain ⟨a, n, c, F, rfl, hn, hc, ha, hr⟩ := h.sl' (q := fun x vs => vs = A.row x ∧ p x) hq
  refine ⟨a, c, (List.range n).map F, by simp, by simpa using hn, hc, Rd.base ?_, fun x hx => ?_⟩
  · by_cases hn0 : n = 0
    · subst hn0; exact .inl rfl
    · right
      obtain ⟨b, o, vs, rfl, _⟩ := hr 0 (by omega)
      refine ⟨b, o, rfl, ro_rows _ fun i hi => ?_⟩
      obtain ⟨b', o', vs, h1, h2, h3, _⟩ := hr i (by simpa using hi)
      cases h1
      rw [he] at h2
      subst h3
      simpa using h2
  · obtain ⟨i, hi, rfl⟩ := List.mem_map.1 hx
    obtain ⟨_, _, _, _, _, _, h⟩ := hr i (by simpa using hi)
    exact h
/-- a slice of bytes -/
theorem openBytes {w : World} {v : Value} (h : GoodC w (.sl [.int .u8]) v) : ∃ (a : Option Addr) (c : Nat) (l : List UInt8), v = .slice a l.length c ∧ l.length ≤ c ∧ c ≤ maxLen ∧ Rd w [] a B8 l := by
  obtain ⟨a, c, l, h1, h2, h3, h4, _⟩ := openArr B8 (fun _ => True) h rfl fun vs hv => by
    obtain ⟨_, _, rfl, h1, h⟩ := hv.cons'
    obtain rfl := h.nil'
    obtain ⟨n, rfl, hn⟩ := h1.int'
    have := wf8 hn
    refine ⟨UInt8.ofNat n.toNat, ?_, trivial⟩
    have e : (UInt8.ofNat n.toNat).toNat = n.toNat := by simp [UInt8.toNat_ofNat']; omega
    show _ = [b8 _]
    simp only [b8, e]
    rw [Int.toNat_of_nonneg this.1]
  exact ⟨a, c, l, h1, h2, h3, h4⟩
end Go.Eng
namespace Go.Proofs.Ythladblmjoaeoaa
set_option linter.unusedVariables false
set_option linter.unusedSimpArgs false
open Go Go.Eng

instance diskAwake : Pure0 PR F_rostrumlaw5_awake [] (.bool true) := ⟨fun W => by
  apply S.rostrumlaw5_awake.call
  unfold S.rostrumlaw5_awake.body
  have h := St.start W
  refine diskNew h (by omega) (by omega) fun p W1 h => ?_
  (repeat (first | (first | ((with_reducible first | refine w1 ?_ | refine w3 ?_ | refine w4 ?_ | refine w11 ?_ | refine stb_n ?_); intros) | ((with_reducible first | refine v5 ?_ | refine v6 ?_ | refine v7 ?_ | refine ve ?_ | refine vn ?_); refine ⟨_, rfl, ?_⟩) | ((with_reducible first | refine v8 ?_ ?_ | refine v9 ?_ ?_ | refine v10 ?_ ?_ | refine v12 ?_ ?_); exact rfl; intros) | ((with_reducible refine w2 ?_); try simp -implicitDefEqProofs only [SE, SU, SV]; intros) | ((with_reducible refine w5 ?_ ?_); simp; refine ⟨_, rfl, ?_⟩) | ((with_reducible refine w12 ?_ ?_ ?_ ?_); simp; simp; simp [oneC]; intros) | (refine okF_i (bldP_eq rfl) ?_; try simp only [BLS, SB, Nat.reduceAdd])) | simp -implicitDefEqProofs only [SE, SU, SV]))
  have ok0 : DS.ok ⟨64, [], [], true, 1⟩ := ⟨by decide, by decide, by decide⟩
  have ft0 : DS.fit ⟨64, [], [], true, 1⟩ := trivial
  have s1 : DS.append ⟨64, [], [], true, 1⟩ 0 [120, 121] = (⟨64, [(0, [120, 121])], [(0, 0, 2)], true, 1⟩, 0) := by rfl
  have ok1 := ok0.append 0 [120, 121]
  have ft1 := ft0.append 0 [120, 121]
  rw [s1] at ok1 ft1
  have s2 : DS.append ⟨64, [(0, [120, 121])], [(0, 0, 2)], true, 1⟩ 1 [122, 122] = (⟨64, [(0, [120, 121]), (1, [122, 122])], [(0, 0, 2), (1, 0, 2)], true, 1⟩, 0) := by rfl
  have ok2 := ok1.append 1 [122, 122]
  have ft2 := ft1.append 1 [122, 122]
  rw [s2] at ok2 ft2
  have s3 : DS.crash ⟨64, [(0, [120, 121]), (1, [122, 122])], [(0, 0, 2), (1, 0, 2)], true, 1⟩ 1 1 = ⟨64, [(0, [120, 121]), (1, [122])], [], false, 1⟩ := by rfl
  have ok3 := ok2.crash 1 1
  rw [s3] at ok3
  refine bytesLit [120, 121] (by first | assumption | exact St.tick (by assumption) | exact St.tick (St.tick (by assumption))) rfl (by decide) (by decide) rfl fun a1 c1 W2 h => ?_
  refine diskAppend (f := 0) (bs := [120, 121]) (by first | assumption | exact St.tick (by assumption) | exact St.tick (St.tick (by assumption))) ok0 (by decide) (by decide) fun W3 h => ?_
  rw [s1] at h ⊢
  refine bytesLit [122, 122] (by first | assumption | exact St.tick (by assumption) | exact St.tick (St.tick (by assumption))) rfl (by decide) (by decide) rfl fun a2 c2 W4 h => ?_
  refine diskAppend (f := 1) (bs := [122, 122]) (by first | assumption | exact St.tick (by assumption) | exact St.tick (St.tick (by assumption))) ok1 (by decide) (by decide) fun W5 h => ?_
  rw [s2] at h ⊢
  refine diskCrash (keep := 1) (torn := 1) (by first | assumption | exact St.tick (by assumption) | exact St.tick (St.tick (by assumption))) ok2 ft2 (by decide) fun W6 h => ?_
  rw [s3] at h
  refine diskRead (d := ⟨64, [(0, [120, 121]), (1, [122])], [], false, 1⟩) (f := 0) (by first | assumption | exact St.tick (by assumption) | exact St.tick (St.tick (by assumption))) (by decide) fun a3 c3 W7 h => ?_
  have r1 : DS.read ⟨64, [(0, [120, 121]), (1, [122])], [], false, 1⟩ 0 = ([], 7) := by rfl
  rw [r1] at h ⊢
  (repeat (first | (first | ((with_reducible first | refine w1 ?_ | refine w3 ?_ | refine w4 ?_ | refine w11 ?_ | refine stb_n ?_); intros) | ((with_reducible first | refine v5 ?_ | refine v6 ?_ | refine v7 ?_ | refine ve ?_ | refine vn ?_); refine ⟨_, rfl, ?_⟩) | ((with_reducible first | refine v8 ?_ ?_ | refine v9 ?_ ?_ | refine v10 ?_ ?_ | refine v12 ?_ ?_); exact rfl; intros) | ((with_reducible refine w2 ?_); try simp -implicitDefEqProofs only [SE, SU, SV]; intros) | ((with_reducible refine w5 ?_ ?_); simp; refine ⟨_, rfl, ?_⟩) | ((with_reducible refine w12 ?_ ?_ ?_ ?_); simp; simp; simp [oneC]; intros) | (refine okF_i (bldP_eq rfl) ?_; try simp only [BLS, SB, Nat.reduceAdd])) | simp -implicitDefEqProofs only [SE, SU, SV]))
  refine diskOn (by first | assumption | exact St.tick (by assumption) | exact St.tick (St.tick (by assumption))) fun W8 h => ?_
  have s4 : DS.power ⟨64, [(0, [120, 121]), (1, [122])], [], false, 1⟩ = ⟨64, [(0, [120, 121]), (1, [122])], [], true, 2⟩ := by rfl
  rw [s4] at h
  refine diskRead (d := ⟨64, [(0, [120, 121]), (1, [122])], [], true, 2⟩) (f := 0) (by first | assumption | exact St.tick (by assumption) | exact St.tick (St.tick (by assumption))) (by decide) fun a4 c4 W9 h => ?_
  have r2 : DS.read ⟨64, [(0, [120, 121]), (1, [122])], [], true, 2⟩ 0 = ([120, 121], 0) := by rfl
  rw [r2] at h ⊢
  (repeat (first | (first | ((with_reducible first | refine w1 ?_ | refine w3 ?_ | refine w4 ?_ | refine w11 ?_ | refine stb_n ?_); intros) | ((with_reducible first | refine v5 ?_ | refine v6 ?_ | refine v7 ?_ | refine ve ?_ | refine vn ?_); refine ⟨_, rfl, ?_⟩) | ((with_reducible first | refine v8 ?_ ?_ | refine v9 ?_ ?_ | refine v10 ?_ ?_ | refine v12 ?_ ?_); exact rfl; intros) | ((with_reducible refine w2 ?_); try simp -implicitDefEqProofs only [SE, SU, SV]; intros) | ((with_reducible refine w5 ?_ ?_); simp; refine ⟨_, rfl, ?_⟩) | ((with_reducible refine w12 ?_ ?_ ?_ ?_); simp; simp; simp [oneC]; intros) | (refine okF_i (bldP_eq rfl) ?_; try simp only [BLS, SB, Nat.reduceAdd])) | simp -implicitDefEqProofs only [SE, SU, SV]))
  refine diskRead (d := ⟨64, [(0, [120, 121]), (1, [122])], [], true, 2⟩) (f := 1) (by first | assumption | exact St.tick (by assumption) | exact St.tick (St.tick (by assumption))) (by decide) fun a5 c5 W10 h => ?_
  have r3 : DS.read ⟨64, [(0, [120, 121]), (1, [122])], [], true, 2⟩ 1 = ([122], 0) := by rfl
  rw [r3] at h ⊢
  (repeat (first | (first | ((with_reducible first | refine w1 ?_ | refine w3 ?_ | refine w4 ?_ | refine w11 ?_ | refine stb_n ?_); intros) | ((with_reducible first | refine v5 ?_ | refine v6 ?_ | refine v7 ?_ | refine ve ?_ | refine vn ?_); refine ⟨_, rfl, ?_⟩) | ((with_reducible first | refine v8 ?_ ?_ | refine v9 ?_ ?_ | refine v10 ?_ ?_ | refine v12 ?_ ?_); exact rfl; intros) | ((with_reducible refine w2 ?_); try simp -implicitDefEqProofs only [SE, SU, SV]; intros) | ((with_reducible refine w5 ?_ ?_); simp; refine ⟨_, rfl, ?_⟩) | ((with_reducible refine w12 ?_ ?_ ?_ ?_); simp; simp; simp [oneC]; intros) | (refine okF_i (bldP_eq rfl) ?_; try simp only [BLS, SB, Nat.reduceAdd])) | simp -implicitDefEqProofs only [SE, SU, SV]))
  refine b2s (a := a4) (l := [120, 121]) (by first | assumption | exact St.tick (by assumption) | exact St.tick (St.tick (by assumption))) ?_
  (repeat (first | (first | ((with_reducible first | refine w1 ?_ | refine w3 ?_ | refine w4 ?_ | refine w11 ?_ | refine stb_n ?_); intros) | ((with_reducible first | refine v5 ?_ | refine v6 ?_ | refine v7 ?_ | refine ve ?_ | refine vn ?_); refine ⟨_, rfl, ?_⟩) | ((with_reducible first | refine v8 ?_ ?_ | refine v9 ?_ ?_ | refine v10 ?_ ?_ | refine v12 ?_ ?_); exact rfl; intros) | ((with_reducible refine w2 ?_); try simp -implicitDefEqProofs only [SE, SU, SV, eq_self]; intros) | ((with_reducible refine w5 ?_ ?_); simp; refine ⟨_, rfl, ?_⟩) | ((with_reducible refine w12 ?_ ?_ ?_ ?_); simp; simp; simp [oneC]; intros) | (refine okF_i (bldP_eq rfl) ?_; try simp only [BLS, SB, Nat.reduceAdd])) | simp -implicitDefEqProofs only [SE, SU, SV, eq_self]))
  refine b2s (a := a5) (l := [122]) (by first | assumption | exact St.tick (by assumption) | exact St.tick (St.tick (by assumption))) ?_
  (repeat (first | (first | ((with_reducible first | refine w1 ?_ | refine w3 ?_ | refine w4 ?_ | refine w11 ?_ | refine stb_n ?_); intros) | ((with_reducible first | refine v5 ?_ | refine v6 ?_ | refine v7 ?_ | refine ve ?_ | refine vn ?_); refine ⟨_, rfl, ?_⟩) | ((with_reducible first | refine v8 ?_ ?_ | refine v9 ?_ ?_ | refine v10 ?_ ?_ | refine v12 ?_ ?_); exact rfl; intros) | ((with_reducible refine w2 ?_); try simp -implicitDefEqProofs only [SE, SU, SV, eq_self]; intros) | ((with_reducible refine w5 ?_ ?_); simp; refine ⟨_, rfl, ?_⟩) | ((with_reducible refine w12 ?_ ?_ ?_ ?_); simp; simp; simp [oneC]; intros) | (refine okF_i (bldP_eq rfl) ?_; try simp only [BLS, SB, Nat.reduceAdd])) | simp -implicitDefEqProofs only [SE, SU, SV, eq_self]))
  refine diskLives (by first | assumption | exact St.tick (by assumption) | exact St.tick (St.tick (by assumption))) fun W11 h => ?_
  (repeat (first | (first | ((with_reducible first | refine w1 ?_ | refine w3 ?_ | refine w4 ?_ | refine w11 ?_ | refine stb_n ?_); intros) | ((with_reducible first | refine v5 ?_ | refine v6 ?_ | refine v7 ?_ | refine ve ?_ | refine vn ?_); refine ⟨_, rfl, ?_⟩) | ((with_reducible first | refine v8 ?_ ?_ | refine v9 ?_ ?_ | refine v10 ?_ ?_ | refine v12 ?_ ?_); exact rfl; intros) | ((with_reducible refine w2 ?_); try simp -implicitDefEqProofs only [SE, SU, SV, eq_self]; intros) | ((with_reducible refine w5 ?_ ?_); simp; refine ⟨_, rfl, ?_⟩) | ((with_reducible refine w12 ?_ ?_ ?_ ?_); simp; simp; simp [oneC]; intros) | (refine okF_i (bldP_eq rfl) ?_; try simp only [BLS, SB, Nat.reduceAdd])) | simp -implicitDefEqProofs only [SE, SU, SV, eq_self]))
  refine diskPower (by first | assumption | exact St.tick (by assumption) | exact St.tick (St.tick (by assumption))) fun W12 h => ?_
  (repeat (first | (first | ((with_reducible first | refine w1 ?_ | refine w3 ?_ | refine w4 ?_ | refine w11 ?_ | refine stb_n ?_); intros) | ((with_reducible first | refine v5 ?_ | refine v6 ?_ | refine v7 ?_ | refine ve ?_ | refine vn ?_); refine ⟨_, rfl, ?_⟩) | ((with_reducible first | refine v8 ?_ ?_ | refine v9 ?_ ?_ | refine v10 ?_ ?_ | refine v12 ?_ ?_); exact rfl; intros) | ((with_reducible refine w2 ?_); try simp -implicitDefEqProofs only [SE, SU, SV]; intros) | ((with_reducible refine w5 ?_ ?_); simp; refine ⟨_, rfl, ?_⟩) | ((with_reducible refine w12 ?_ ?_ ?_ ?_); simp; simp; simp [oneC]; intros) | (refine okF_i (bldP_eq rfl) ?_; try simp only [BLS, SB, Nat.reduceAdd])) | simp -implicitDefEqProofs only [SE, SU, SV]))
  exact St.nil (by first | assumption | exact St.tick (by assumption) | exact St.tick (St.tick (by assumption)))⟩

end Go.Proofs.Ythladblmjoaeoaa
namespace Go.Proofs.Ythladblmjoaeoaa
set_option linter.unusedVariables false
set_option linter.unusedSimpArgs false
open Go Go.Eng Go.RowKit

structure Lo (W W' : World) : Prop where
  below : Below W.heap.size W W'
theorem St.startz (W : World) : St { W with drawn := 0 } [] W := ⟨⟨⟨rfl, rfl, rfl, Nat.le_refl _, fun _ _ => rfl⟩, Nat.zero_le _⟩, fun _ => none, fun _ => rfl, fun b o h => by cases h⟩
theorem St.lo {W W' : World} {L : List Asn} (h : St { W with drawn := 0 } L W') : Lo W W' := ⟨⟨h.bel.os, h.bel.tape, h.bel.output, h.bel.size, h.bel.block⟩⟩
section
variable {W0 W : World} {L L' : List Asn}
end
end Go.Proofs.Ythladblmjoaeoaa
namespace Go.Proofs.Ythladblmjoaeoaa
set_option linter.unusedVariables false
set_option linter.unusedSimpArgs false
open Go.Eng
/-! ### rostrum/rostrumlaw6.awake (35) -/
def S.rostrumlaw6_awake.body (R : Value → World → Prop) (W : World) : Prop :=
  callK PR F_disk_New [(.int .i64 10000)] (fun v12 W =>
  okF (extP 0 v12) fun v13 =>
  okF (extP 1 v12) fun v14 =>
  callK PR F_wal_Open [v13, (.int .i64 2)] (fun v17 W =>
  okF (extP 0 v17) fun v18 =>
  okF (extP 1 v17) fun v19 =>
  okF (binP .neq v19 (.int .i64 0)) fun v21 =>
  gdK (wantd v21 false) (fun k W => k v18 W) (fun v23 W =>
  gdK (wantd v21 false) (fun k W => okF (eqP (.pointer T_wal_Log) .eql v23 (.pointer none)) fun v => k v W) (fun v24 W =>
  okF (pickP v21 (.bool true) v24) fun v25 =>
  ifK v25 (
  R (.bool false) W) (
  efK PR (Instr.buildSlice T_s_uint8 1 #[(0, (.int .u8 120))]) (fun v27 W =>
  efK PR (convert T_s_uint8 T_s_uint8 v27) (fun v28 W =>
  efK PR (Instr.buildSlice T_s_s_uint8 1 #[(0, v28)]) (fun v29 W =>
  callK PR F_wal_Log_Add [v18, v29] (fun v30 W =>
  callK PR F_wal_Log_Sync [v18] (fun v32 W =>
  efK PR (Instr.buildSlice T_s_uint8 1 #[(0, (.int .u8 121))]) (fun v34 W =>
  efK PR (convert T_s_uint8 T_s_uint8 v34) (fun v35 W =>
  efK PR (Instr.buildSlice T_s_s_uint8 1 #[(0, v35)]) (fun v36 W =>
  callK PR F_wal_Log_Add [v18, v36] (fun v37 W =>
  callK PR F_wal_Log_All [v18] (fun v39 W =>
  callK PR F_disk_Disk_Crash [v13, (.int .i64 0), (.int .i64 0)] (fun v41 W =>
  callK PR F_disk_Disk_On [v13] (fun v43 W =>
  callK PR F_wal_Open [v13, (.int .i64 2)] (fun v46 W =>
  okF (extP 0 v46) fun v47 =>
  okF (extP 1 v46) fun v48 =>
  okF (binP .neq v48 (.int .i64 0)) fun v50 =>
  gdK (wantd v50 false) (fun k W => k v47 W) (fun v52 W =>
  gdK (wantd v50 false) (fun k W => okF (eqP (.pointer T_wal_Log) .eql v52 (.pointer none)) fun v => k v W) (fun v53 W =>
  okF (pickP v50 (.bool true) v53) fun v54 =>
  ifK v54 (
  R (.bool false) W) (
  okF (binP .eql v30 (.int .i64 0)) fun v56 =>
  gdK (wantd v56 true) (fun k W => k v32 W) (fun v58 W =>
  gdK (wantd v56 true) (fun k W => okF (binP .eql v58 (.int .i64 0)) fun v => k v W) (fun v59 W =>
  okF (pickP v56 v59 (.bool false)) fun v60 =>
  gdK (wantd v60 true) (fun k W => k v37 W) (fun v62 W =>
  gdK (wantd v60 true) (fun k W => okF (binP .eql v62 (.int .i64 0)) fun v => k v W) (fun v63 W =>
  okF (pickP v60 v63 (.bool false)) fun v64 =>
  gdK (wantd v64 true) (fun k W => k v39 W) (fun v66 W =>
  gdK (wantd v64 true) (fun k W => efK PR (Instr.buildSlice T_s_uint8 1 #[(0, (.int .u8 120))]) k W) (fun v67 W =>
  gdK (wantd v64 true) (fun k W => efK PR (convert T_s_uint8 T_s_uint8 v67) k W) (fun v68 W =>
  gdK (wantd v64 true) (fun k W => efK PR (Instr.buildSlice T_s_uint8 1 #[(0, (.int .u8 121))]) k W) (fun v69 W =>
  gdK (wantd v64 true) (fun k W => efK PR (convert T_s_uint8 T_s_uint8 v69) k W) (fun v70 W =>
  gdK (wantd v64 true) (fun k W => efK PR (Instr.buildSlice T_s_s_uint8 2 #[(0, v68), (1, v70)]) k W) (fun v71 W =>
  gdK (wantd v64 true) (fun k W => callK PR F_rostrumref1_Same [v66, v71] k W) (fun v72 W =>
  okF (pickP v64 v72 (.bool false)) fun v73 =>
  gdK (wantd v73 true) (fun k W => k v47 W) (fun v75 W =>
  gdK (wantd v73 true) (fun k W => callK PR F_wal_Log_All [v75] k W) (fun v76 W =>
  gdK (wantd v73 true) (fun k W => efK PR (Instr.buildSlice T_s_uint8 1 #[(0, (.int .u8 120))]) k W) (fun v77 W =>
  gdK (wantd v73 true) (fun k W => efK PR (convert T_s_uint8 T_s_uint8 v77) k W) (fun v78 W =>
  gdK (wantd v73 true) (fun k W => efK PR (Instr.buildSlice T_s_s_uint8 1 #[(0, v78)]) k W) (fun v79 W =>
  gdK (wantd v73 true) (fun k W => callK PR F_rostrumref1_Same [v76, v79] k W) (fun v80 W =>
  okF (pickP v73 v80 (.bool false)) fun v81 =>
  gdK (wantd v81 true) (fun k W => k v47 W) (fun v83 W =>
  gdK (wantd v81 true) (fun k W => callK PR F_wal_Log_Base [v83] k W) (fun v84 W =>
  gdK (wantd v81 true) (fun k W => okF (lenP (.slice T_uint8) v84) fun v => k v W) (fun v85 W =>
  gdK (wantd v81 true) (fun k W => okF (binP .eql v85 (.int .i64 0)) fun v => k v W) (fun v86 W =>
  okF (pickP v81 v86 (.bool false)) fun v87 =>
  R v87 W) W) W) W) W) W) W) W) W) W) W) W) W) W) W) W) W) W) W) W) W) W)) W) W) W) W) W) W) W) W) W) W) W) W) W) W) W)) W) W) W) W
def S.rostrumlaw6_awake.hint : Hint := (.two .nil (.two .nil (.two .nil (.two (.two .nil (.two (.two .nil .nil) .nil)) (.two .nil (.two .nil (.two .nil (.two .nil (.two .nil (.two (.two .nil (.two (.two .nil .nil) .nil)) (.two .nil .nil)))))))))))
theorem S.rostrumlaw6_awake.ok (R : Value → World → Prop) (W : World) : bodyK PR CB Try.f35 S.rostrumlaw6_awake.hint [] R W = S.rostrumlaw6_awake.body R  W := by kernel_rfl
theorem S.rostrumlaw6_awake.fn : PR.funcs[F_rostrumlaw6_awake]? = some Try.f35 := by kernel_rfl
theorem S.rostrumlaw6_awake.call {R : Value → World → Prop} {W : World} (h : S.rostrumlaw6_awake.body R  W) : callK PR F_rostrumlaw6_awake [] R W :=
  callK_of_body (g := F_rostrumlaw6_awake) (fn := Try.f35) (args := []) (R := R) (w := W) mixed CBok S.rostrumlaw6_awake.fn S.rostrumlaw6_awake.hint (by rw [S.rostrumlaw6_awake.ok]; exact h)
/-! ### rostrum/rostrumref1.Same (41) -/
def S.rostrumref1_Same.l1 (R : Value → World → Prop) (K1 : List Value → World → Prop) (x0 x1 x5 : Value) (W : World) : Prop :=
  okF (lenP (.slice T_s_uint8) x0) fun v13 =>
  okF (binP .lss x5 v13) fun v14 =>
  ifK v14 (
  okF (idxS 1 x0 x5) fun v19 =>
  rdK PR (Instr.loadAt T_s_uint8 v19) (fun v20 W =>
  rdK PR (convert T_s_uint8 T_string v20) (fun v21 W =>
  okF (idxS 1 x1 x5) fun v24 =>
  rdK PR (Instr.loadAt T_s_uint8 v24) (fun v25 W =>
  rdK PR (convert T_s_uint8 T_string v25) (fun v26 W =>
  okF (binP .neq v21 v26) fun v27 =>
  ifK v27 (
  R (.bool false) W) (
  okF (binP .add x5 (.int .i64 1)) fun v16 =>
  K1 [x0, x1, v16] W)) W) W) W) (tick W)) (
  R (.bool true) W)
def S.rostrumref1_Same.body (R : Value → World → Prop) (v0 v1 : Value) (W : World) : Prop :=
  okF (lenP (.slice T_s_uint8) v0) fun v7 =>
  okF (lenP (.slice T_s_uint8) v1) fun v9 =>
  okF (binP .neq v7 v9) fun v10 =>
  ifK v10 (
  R (.bool false) W) (
  loopK (fun K1 s W => S.rostrumref1_Same.l1 R K1 (nthv s 0) (nthv s 1) (nthv s 2) W) [v0, v1, (.int .i64 0)] W)
def S.rostrumref1_Same.hint : Hint := (.two .nil (.two (.two .nil (.two (.two .nil .nil) .nil)) (.two (.two .nil (.at [0, 1, 5] (.two (.two .nil (.two .nil .nil)) (.two (.two .nil (.two (.two .nil .nil) .nil)) .nil)) .nil)) (.two .nil .nil))))
theorem S.rostrumref1_Same.ok (R : Value → World → Prop) (v0 v1 : Value) (W : World) : bodyK PR CB Try.f41 S.rostrumref1_Same.hint [v0, v1] R W = S.rostrumref1_Same.body R v0 v1 W := by kernel_rfl
theorem S.rostrumref1_Same.fn : PR.funcs[F_rostrumref1_Same]? = some Try.f41 := by kernel_rfl
theorem S.rostrumref1_Same.call {R : Value → World → Prop} {v0 v1 : Value} {W : World} (h : S.rostrumref1_Same.body R v0 v1 W) : callK PR F_rostrumref1_Same [v0, v1] R W :=
  callK_of_body (g := F_rostrumref1_Same) (fn := Try.f41) (args := [v0, v1]) (R := R) (w := W) mixed CBok S.rostrumref1_Same.fn S.rostrumref1_Same.hint (by rw [S.rostrumref1_Same.ok]; exact h)
end Go.Proofs.Ythladblmjoaeoaa
namespace Go.Proofs.Ythladblmjoaeoaa
set_option linter.unusedVariables false
set_option linter.unusedSimpArgs false
open Go Go.Eng

theorem str_eq {l m : Bs} : ((⟨l.toArray⟩ : ByteArray) = ⟨m.toArray⟩) ↔ l = m := by
  constructor
  · intro h
    injection h with h
    exact Array.toList_inj.2 h |> fun h => by simpa using h
  · rintro rfl; rfl
theorem GD.fresh : GD 0 0 [] [] [] [] := ⟨.refl _, .nil, fun x hx => (by cases hx), fun p hp => (by cases hp), fun p hp => (by cases hp), fun _ => rfl, by simp, fun x hx => (by cases hx), by decide⟩
section
variable {W0 W : World} {L L' L1 L2 : List Asn} {q dp : Nat} {d : DS} {l : LS} {k : Value → World → Prop}
theorem refSame {a b : Option Addr} {c e : Nat} {r1 r2 : List BSl} (h : St W0 L W) [hr1 : Rd W0 L a BSY r1] [hr2 : Rd W0 L b BSY r2] (h1 : ∀ x ∈ r1, Rd W0 L x.a B8 x.bs) (h2 : ∀ x ∈ r2, Rd W0 L x.a B8 x.bs) (hl : r1.length < 4611686018427387904)
    (hk : ∀ W', St W0 L W' → k (.bool (decide (bsOf r1 = bsOf r2))) W') : callK PR F_rostrumref1_Same [.slice a r1.length c, .slice b r2.length e] k W := by
  apply S.rostrumref1_Same.call
  unfold S.rostrumref1_Same.body
  by_cases hn : r1.length = r2.length
  · have f1 : decide ((r1.length : Int) = (r2.length : Int)) = true := decide_eq_true (by omega)
    (repeat (first | (first | ((with_reducible first | refine w1 ?_ | refine w3 ?_ | refine w4 ?_ | refine w11 ?_ | refine stb_n ?_); intros) | ((with_reducible first | refine v5 ?_ | refine v6 ?_ | refine v7 ?_ | refine ve ?_ | refine vn ?_); refine ⟨_, rfl, ?_⟩) | ((with_reducible first | refine v8 ?_ ?_ | refine v9 ?_ ?_ | refine v10 ?_ ?_ | refine v12 ?_ ?_); exact rfl; intros) | ((with_reducible refine w2 ?_); try simp -implicitDefEqProofs only [SE, SU, SV, f1]; intros) | ((with_reducible refine w5 ?_ ?_); simp; refine ⟨_, rfl, ?_⟩) | ((with_reducible refine w12 ?_ ?_ ?_ ?_); simp; simp; simp [oneC]; intros) | (refine okF_i (bldP_eq rfl) ?_; try simp only [BLS, SB, Nat.reduceAdd])) | simp -implicitDefEqProofs only [SE, SU, SV, f1]))
    refine loop_c (σ := Unit) r1.length (fun i _ => [.slice a r1.length c, .slice b r2.length e, .int .i64 i]) (fun i _ W1 => bsOf (r1.take i) = bsOf (r2.take i) ∧ St W0 L W1) () rfl ⟨rfl, h⟩ ?_
    clear h
    rintro K i _ W1 hi ⟨hall, h⟩ hK
    simp -implicitDefEqProofs only [SE, SU, SV]
    unfold S.rostrumref1_Same.l1
    by_cases hlt : (i : Int) < (r1.length : Int)
    · have hib : i < r1.length := by omega
      have hib2 : i < r2.length := by omega
      have ew : IntKind.i64.wrap ((i : Int) + 1) = ((i + 1 : Nat) : Int) := by rw [i64w]; omega
      haveI := h1 _ (List.getElem_mem hib)
      haveI := h2 _ (List.getElem_mem hib2)
      (repeat (first | (first | ((with_reducible first | refine w1 ?_ | refine w3 ?_ | refine w4 ?_ | refine w11 ?_ | refine stb_n ?_); intros) | ((with_reducible first | refine v5 ?_ | refine v6 ?_ | refine v7 ?_ | refine ve ?_ | refine vn ?_); refine ⟨_, rfl, ?_⟩) | ((with_reducible first | refine v8 ?_ ?_ | refine v9 ?_ ?_ | refine v10 ?_ ?_ | refine v12 ?_ ?_); exact rfl; intros) | ((with_reducible refine w2 ?_); try simp -implicitDefEqProofs only [SE, SU, SV, hlt]; intros) | ((with_reducible refine w5 ?_ ?_); simp; refine ⟨_, rfl, ?_⟩) | ((with_reducible refine w12 ?_ ?_ ?_ ?_); simp; simp; simp [oneC]; intros) | (refine okF_i (bldP_eq rfl) ?_; try simp only [BLS, SB, Nat.reduceAdd])) | simp -implicitDefEqProofs only [SE, SU, SV, hlt]))
      refine ixA (i := i) (a := a) (l := r1) (A := BSY) h.tick rfl rfl hib fun g o ha => ?_
      cases ha
      refine ldA0 (i := i) (l := r1) (A := BSY) h.tick rfl hib (v := r1[i].v) rfl (by simp) ?_
      refine b2s (a := r1[i].a) (l := r1[i].bs) h.tick ?_
      refine ixA (i := i) (a := b) (l := r2) (A := BSY) h.tick rfl rfl hib2 fun g' o' ha => ?_
      cases ha
      refine ldA0 (i := i) (l := r2) (A := BSY) h.tick rfl hib2 (v := r2[i].v) rfl (by simp) ?_
      refine b2s (a := r2[i].a) (l := r2[i].bs) h.tick ?_
      by_cases he : r1[i].bs = r2[i].bs
      · have f2 : decide ((⟨r1[i].bs.toArray⟩ : ByteArray) = ⟨r2[i].bs.toArray⟩) = true := decide_eq_true (str_eq.2 he)
        (repeat (first | (first | ((with_reducible first | refine w1 ?_ | refine w3 ?_ | refine w4 ?_ | refine w11 ?_ | refine stb_n ?_); intros) | ((with_reducible first | refine v5 ?_ | refine v6 ?_ | refine v7 ?_ | refine ve ?_ | refine vn ?_); refine ⟨_, rfl, ?_⟩) | ((with_reducible first | refine v8 ?_ ?_ | refine v9 ?_ ?_ | refine v10 ?_ ?_ | refine v12 ?_ ?_); exact rfl; intros) | ((with_reducible refine w2 ?_); try simp -implicitDefEqProofs only [SE, SU, SV, f2, ew]; intros) | ((with_reducible refine w5 ?_ ?_); simp; refine ⟨_, rfl, ?_⟩) | ((with_reducible refine w12 ?_ ?_ ?_ ?_); simp; simp; simp [oneC]; intros) | (refine okF_i (bldP_eq rfl) ?_; try simp only [BLS, SB, Nat.reduceAdd])) | simp -implicitDefEqProofs only [SE, SU, SV, f2, ew]))
        refine hK () _ hib ⟨?_, h.tick⟩
        simp only [bsOf] at hall ⊢
        rw [take_snoc hib, take_snoc hib2, List.map_append, List.map_append, hall, List.map_cons, List.map_cons, he]
      · have f2 : decide ((⟨r1[i].bs.toArray⟩ : ByteArray) = ⟨r2[i].bs.toArray⟩) = false := decide_eq_false fun h => he (str_eq.1 h)
        have f3 : decide (bsOf r1 = bsOf r2) = false := decide_eq_false fun e => he (by
          have e1 : (bsOf r1)[i]? = (bsOf r2)[i]? := by rw [e]
          simpa [hib, hib2] using e1)
        rw [f3] at hk
        (repeat (first | (first | ((with_reducible first | refine w1 ?_ | refine w3 ?_ | refine w4 ?_ | refine w11 ?_ | refine stb_n ?_); intros) | ((with_reducible first | refine v5 ?_ | refine v6 ?_ | refine v7 ?_ | refine ve ?_ | refine vn ?_); refine ⟨_, rfl, ?_⟩) | ((with_reducible first | refine v8 ?_ ?_ | refine v9 ?_ ?_ | refine v10 ?_ ?_ | refine v12 ?_ ?_); exact rfl; intros) | ((with_reducible refine w2 ?_); try simp -implicitDefEqProofs only [SE, SU, SV, f2]; intros) | ((with_reducible refine w5 ?_ ?_); simp; refine ⟨_, rfl, ?_⟩) | ((with_reducible refine w12 ?_ ?_ ?_ ?_); simp; simp; simp [oneC]; intros) | (refine okF_i (bldP_eq rfl) ?_; try simp only [BLS, SB, Nat.reduceAdd])) | simp -implicitDefEqProofs only [SE, SU, SV, f2]))
        exact hk _ h.tick
    · rw [List.take_of_length_le (by omega), List.take_of_length_le (by omega)] at hall
      have f3 := decide_eq_true hall
      rw [f3] at hk
      (repeat (first | (first | ((with_reducible first | refine w1 ?_ | refine w3 ?_ | refine w4 ?_ | refine w11 ?_ | refine stb_n ?_); intros) | ((with_reducible first | refine v5 ?_ | refine v6 ?_ | refine v7 ?_ | refine ve ?_ | refine vn ?_); refine ⟨_, rfl, ?_⟩) | ((with_reducible first | refine v8 ?_ ?_ | refine v9 ?_ ?_ | refine v10 ?_ ?_ | refine v12 ?_ ?_); exact rfl; intros) | ((with_reducible refine w2 ?_); try simp -implicitDefEqProofs only [SE, SU, SV, hlt]; intros) | ((with_reducible refine w5 ?_ ?_); simp; refine ⟨_, rfl, ?_⟩) | ((with_reducible refine w12 ?_ ?_ ?_ ?_); simp; simp; simp [oneC]; intros) | (refine okF_i (bldP_eq rfl) ?_; try simp only [BLS, SB, Nat.reduceAdd])) | simp -implicitDefEqProofs only [SE, SU, SV, hlt]))
      exact hk _ h
  · have f1 : decide ((r1.length : Int) = (r2.length : Int)) = false := decide_eq_false (by omega)
    have f3 : decide (bsOf r1 = bsOf r2) = false := decide_eq_false fun e => hn (by have := congrArg List.length e; simpa using this)
    rw [f3] at hk
    (repeat (first | (first | ((with_reducible first | refine w1 ?_ | refine w3 ?_ | refine w4 ?_ | refine w11 ?_ | refine stb_n ?_); intros) | ((with_reducible first | refine v5 ?_ | refine v6 ?_ | refine v7 ?_ | refine ve ?_ | refine vn ?_); refine ⟨_, rfl, ?_⟩) | ((with_reducible first | refine v8 ?_ ?_ | refine v9 ?_ ?_ | refine v10 ?_ ?_ | refine v12 ?_ ?_); exact rfl; intros) | ((with_reducible refine w2 ?_); try simp -implicitDefEqProofs only [SE, SU, SV, f1]; intros) | ((with_reducible refine w5 ?_ ?_); simp; refine ⟨_, rfl, ?_⟩) | ((with_reducible refine w12 ?_ ?_ ?_ ?_); simp; simp; simp [oneC]; intros) | (refine okF_i (bldP_eq rfl) ?_; try simp only [BLS, SB, Nat.reduceAdd])) | simp -implicitDefEqProofs only [SE, SU, SV, f1]))
    exact hk _ h
variable {n : Nat} {part : Int} {base : Bs} {all : List Bs} {safe : Nat} {room used : Int} {turns files : Nat} {nt : Bool}
theorem walOpenV {t : Nat} {bn : Int} {P : List PT} {J : Fs} (h : St W0 L W) (h0 : W0.drawn = 0) [ht : Tk (dk dp) L d L'] (h1 : ¬ part < 1) (h2 : ¬ 1000 < part) (ho : d.on = true) (hd : d.ok) (hw : d.ws = []) (hg : GD t bn base P J d.fs) (hroom : d.room = room) (hu : lens d.fs ≤ used) (hf : d.fs.length ≤ files) (htn : t ≤ turns) (htn2 : turns < 2 ^ 62)
    (hrl : (recsOf P).length + n < 400000) (hnt : nt = true → ∀ p ∈ P, p.tail = []) (hk : ∀ q d' l W', WV n d' l part base (recsOf P) (recsOf P).length room used turns files nt → d'.lives = d.lives ∧ d'.ws = [] → St W0 (lg q dp l :: dk dp d' :: L') W' → k (.tuple #[.pointer (some ⟨q, 0, none⟩), .int .i64 0]) W') :
    callK PR F_wal_Open [.pointer (some ⟨dp, 0, none⟩), .int .i64 part] k W := by
  refine walOpen h h0 h1 h2 ho hd hw hg (by omega) fun q fs' nums W1 e1 e2 e3 h => ?_
  refine hk q _ _ _ (WV.opened (P := P) e1 hw (pfx_recs t P 0) rfl rfl hroom (Int.le_trans e3 hu) (Nat.le_trans e2 hf) htn htn2 ⟨hd.1, hd.2.1, Int.le_trans e3 hd.2.2⟩ hrl rfl ?_ hnt) ⟨rfl, hw⟩ h
  have := lastCount_le (pfx t 0 P)
  rw [pfx_recs] at this
  exact this
theorem walAddV {a : Option Addr} {c : Nat} {rs : List BSl} (h : St W0 L W) [hl : Tk (lg q dp) L l L1] [hd : Tk (dk dp) L1 d L2] [hr : Rd W0 L2 a BSY rs] (hrs : ∀ x ∈ rs, Rd W0 L2 x.a B8 x.bs) (hv : WV (n + rs.length) d l part base all safe room used turns files nt) (hal : all.length < 500000)
    (hb : ∀ r ∈ bsOf rs, r.length ≤ 65536) (hp : 1 ≤ part) (hf : files + rs.length ≤ 1000) (hroom : used + cost (bsOf rs) ≤ room)
    (hk : ∀ d' l' W', d'.lives = d.lives → WV n d' l' part base (all ++ bsOf rs) safe room (used + cost (bsOf rs)) turns (files + rs.length) nt → St W0 (lg q dp l' :: dk dp d' :: L2) W' → k (.int .i64 0) W') : callK PR F_wal_Log_Add [.pointer (some ⟨q, 0, none⟩), .slice a rs.length c] k W := by
  have e0 : (bsOf rs).length = rs.length := by simp
  have hv2 : WV (n + (bsOf rs).length) d l part base all safe room used turns files nt := by rw [e0]; exact hv
  obtain ⟨e1, e2⟩ := hv2.addAll hb hp (by rw [e0]; exact hf) hroom
  rw [e0] at e2
  have hlv : (LS.addAll d l (bsOf rs)).1.lives = d.lives := by
    obtain ⟨_, _, _, g1, _⟩ := hv.live
    obtain ⟨_, _, _, g2, _⟩ := e2.live
    rw [← g1.lives, ← g2.lives]
    exact addAll_lives _ _ _
  have hL := hv.lok
  refine walAdd (dp := dp) h hrs (by have := hL.ws; omega) (by rw [hv.recs]; exact hal) (fun x hx => by have := hb x.bs (List.mem_map_of_mem hx); omega) ⟨hL.ok, by have := hL.ws; omega, by have := hL.nums; omega, by have := hL.dirty; omega, hL.turn, by have := hL.index; omega, by have := hL.count; omega⟩ fun W1 h => ?_
  rw [e1]
  exact hk _ _ _ hlv e2 h
theorem walSyncV (h : St W0 L W) [hl : Tk (lg q dp) L l L1] [hd : Tk (dk dp) L1 d L2] (hv : WV n d l part base all safe room used turns files nt)
    (hk : ∀ d' l' W', d'.lives = d.lives ∧ d'.ws = [] → WV n d' l' part base all all.length room used turns files nt → St W0 (lg q dp l' :: dk dp d' :: L2) W' → k (.int .i64 0) W') : callK PR F_wal_Log_Sync [.pointer (some ⟨q, 0, none⟩)] k W := by
  obtain ⟨e1, e2⟩ := hv.sync
  have hlv : (LS.sync d l).1.lives = d.lives ∧ (LS.sync d l).1.ws = [] := by
    obtain ⟨_, _, _, g1, _⟩ := hv.live
    rw [g1.sync.1]; exact ⟨rfl, rfl⟩
  refine walSync (dp := dp) h (by have := hv.lok.ws; omega) (by have := hv.lok.dirty; omega) fun W1 h => ?_
  rw [e1]
  exact hk _ _ _ hlv e2 h
theorem walKeepV {a : Option Addr} {c : Nat} {b : Bs} (h : St W0 L W) [hl : Tk (lg q dp) L l L1] [hd : Tk (dk dp) L1 d L2] [hr : Rd W0 L2 a B8 b] (hv : WV (n + 2) d l part base all safe room used turns files nt) (hb : b.length ≤ 65536) (hf : files < 1000) (ht : turns + 1 < 2 ^ 62) (hroom : used + 44 + (b.length : Int) ≤ room)
    (hk : ∀ d' l' W', d'.lives = d.lives → WV (n + 1) d' l' part b [] 0 room (44 + (b.length : Int)) (turns + 1) 1 nt → St W0 (lg q dp l' :: dk dp d' :: L2) W' → k (.int .i64 0) W') : callK PR F_wal_Log_Keep [.pointer (some ⟨q, 0, none⟩), .slice a b.length c] k W := by
  obtain ⟨e1, e2⟩ := WV.keep (n := n + 1) hv hb hf ht hroom
  have hlv : (LS.keep d l b).1.lives = d.lives := by
    obtain ⟨_, _, _, g1, _⟩ := hv.live
    obtain ⟨_, _, _, g2, _⟩ := e2.live
    rw [← g1.lives, ← g2.lives]
    exact keep_lives _ _ _
  obtain ⟨g1, g2, g3, g4, g5, g6, g7⟩ := hv.lok
  refine walKeep (dp := dp) h ⟨g1, by omega, by omega, by omega, g5, by omega, by omega⟩ (by omega) fun W1 h => ?_
  rw [e1]
  exact hk _ _ _ hlv e2 h
end
end Go.Proofs.Ythladblmjoaeoaa
namespace Go.Eng
set_option linter.unusedVariables false
set_option linter.unusedSimpArgs false
open Go Go.RowKit
section
variable {P : Program} {W0 W : World} {L : List Asn} {e : TypeId}
theorem bl1 (l : List UInt8) {t : TypeId} {by' n : Nat} {z : Value} [ht : TyS P t e 1 by' z] {ps : List (Nat × Value)} {k : Value → World → Prop} (h : St W0 L W) (hln : l.length = n) (hn : n ≤ 16777216) (hn0 : n ≠ 0)
    (hc : fillL (fun i => some (i * 1, 1)) ((List.range (n * 1)).map fun i => ((vcells z)[i % (vcells z).length]?).getD undef) ps = some (B8.rows l))
    (hk : ∀ b W', St W0 (blk b (.cells (B8.rows l).toArray e) :: L) W' → k (.slice (some ⟨b, 0, none⟩) l.length l.length) W') : efK P (Instr.buildSlice t n ps.toArray) k W := by
  subst hln
  exact ⟨_, _, bs_run (P := P) (t := t) (e := e) (by omega) (by omega) hc, hk _ _ (h.alloc _)⟩
theorem bl2 (l : List UInt8) {b n c : Nat} {t : TypeId} [hb : BytesT P t e] {k : Value → World → Prop} (h : St W0 (blk b (.cells (B8.rows l).toArray e) :: L) W) (hl : l.length ≤ maxLen)
    (hk : ∀ W', St W0 (arr B8 e (some ⟨b, 0, none⟩) l.length l :: L) W' → k (.slice (some ⟨b, 0, none⟩) n c) W') : efK P (convert t t (.slice (some ⟨b, 0, none⟩) n c)) k W := by
  have hbl := h.blk.2
  have hsh : W.shape? b = some (e, (B8.rows l).toArray.size) := by
    unfold World.shape?; rw [hbl]
  have hfr : W.freeze ⟨b, (B8.rows l).toArray.size, none⟩ 1 = { W with heap := W.heap.setIfInBounds b (.cells (B8.rows l).toArray e ((B8.rows l).toArray.size, (B8.rows l).toArray.size + 1)) } := by
    unfold World.freeze
    rw [if_neg (by decide)]
    congr 1
    apply Array.ext_getElem?
    intro i
    rw [Array.getElem?_modify, Array.getElem?_setIfInBounds]
    by_cases hi : b = i
    · subst hi
      rw [if_pos rfl, if_pos rfl, hbl]
      rw [if_pos (Array.getElem?_eq_some_iff.1 hbl).1]
      rfl
    · rw [if_neg hi, if_neg hi]
  refine ⟨.slice (some ⟨b, 0, none⟩) n c, W.freeze ⟨b, (B8.rows l).toArray.size, none⟩ 1, ?_, hk _ ?_⟩
  · simp [convert, run_underlying hb.ok.1, run_underlying hb.ok.2, markStringish, hsh]
  · rw [hfr]
    refine (((h.setBlk _).weak (a' := cells b (B8.rows l) e) fun p hp => ⟨((B8.rows l).toArray.size, (B8.rows l).toArray.size + 1), ?_, hp⟩).ent (arr_full (A := B8) hl))
    intro i hi
    simp; omega
end
end Go.Eng
namespace Go.Proofs.Ythladblmjoaeoaa
set_option linter.unusedVariables false
set_option linter.unusedSimpArgs false
open Go Go.Eng

section
variable {W0 W : World} {L L' : List Asn} {k : Value → World → Prop}
theorem bsOf1 (a : Option Addr) (c : Nat) (b : Bs) : bsOf [⟨a, c, b⟩] = [b] := rfl
theorem rd1 {W0 : World} {L : List Asn} {a : Option Addr} {c : Nat} {b : Bs} [h : Rd W0 L a B8 b] : ∀ x ∈ [(⟨a, c, b⟩ : BSl)], Rd W0 L x.a B8 x.bs := fun x hx => by rw [List.mem_singleton.1 hx]; exact h
theorem rdIn {rs : List BSl} {L : List Asn} : ∀ x ∈ rs, Rd W0 (many fch rs :: L) x.a B8 x.bs := fun x hx => rdMany (.inr hx)
theorem rdUp {rs : List BSl} {x : Asn} {L : List Asn} (h : ∀ y ∈ rs, Rd W0 L y.a B8 y.bs) : ∀ y ∈ rs, Rd W0 (x :: L) y.a B8 y.bs := fun y hy => by haveI := h y hy; exact Rd.there _ _ _ _ _ _
set_option maxRecDepth 20000 in
set_option maxHeartbeats 2000000 in
theorem lawAwake6 (h : St W0 L W) (h0 : W0.drawn = 0) (hk : ∀ W', St W0 L W' → k (.bool true) W') : callK PR F_rostrumlaw6_awake [] k W := by
  apply S.rostrumlaw6_awake.call
  unfold S.rostrumlaw6_awake.body
  refine diskNew h (by decide) (by decide) fun p W1 h => ?_
  (repeat (first | (first | ((with_reducible first | refine w1 ?_ | refine w3 ?_ | refine w4 ?_ | refine w11 ?_ | refine stb_n ?_); intros) | ((with_reducible first | refine v5 ?_ | refine v6 ?_ | refine v7 ?_ | refine ve ?_ | refine vn ?_); refine ⟨_, rfl, ?_⟩) | ((with_reducible first | refine v8 ?_ ?_ | refine v9 ?_ ?_ | refine v10 ?_ ?_ | refine v12 ?_ ?_); exact rfl; intros) | ((with_reducible refine w2 ?_); try simp -implicitDefEqProofs only [SE, SU, SV]; intros) | ((with_reducible refine w5 ?_ ?_); simp; refine ⟨_, rfl, ?_⟩) | ((with_reducible refine w12 ?_ ?_ ?_ ?_); simp; simp; simp [oneC]; intros) | (refine okF_i (bldP_eq rfl) ?_; try simp only [BLS, SB, Nat.reduceAdd])) | simp -implicitDefEqProofs only [SE, SU, SV]))
  refine walOpenV (dp := p) (d := ⟨10000, [], [], true, 1⟩) (part := 2) (n := 1000) (room := 10000) (used := 0) (turns := 0) (files := 0) (by first | assumption | exact St.tick (by assumption) | exact St.tick (St.tick (by assumption))) h0 (by decide) (by decide) rfl ⟨by decide, by decide, by decide⟩ rfl (nt := false) GD.fresh rfl (Int.le_refl _) (Nat.le_refl _) (Nat.le_refl _) (by decide) (by decide) (fun h => nomatch h) fun q d1 l1 W2 hv _ h => ?_
  (repeat (first | (first | ((with_reducible first | refine w1 ?_ | refine w3 ?_ | refine w4 ?_ | refine w11 ?_ | refine stb_n ?_); intros) | ((with_reducible first | refine v5 ?_ | refine v6 ?_ | refine v7 ?_ | refine ve ?_ | refine vn ?_); refine ⟨_, rfl, ?_⟩) | ((with_reducible first | refine v8 ?_ ?_ | refine v9 ?_ ?_ | refine v10 ?_ ?_ | refine v12 ?_ ?_); exact rfl; intros) | ((with_reducible refine w2 ?_); try simp -implicitDefEqProofs only [SE, SU, SV]; intros) | ((with_reducible refine w5 ?_ ?_); simp; refine ⟨_, rfl, ?_⟩) | ((with_reducible refine w12 ?_ ?_ ?_ ?_); simp; simp; simp [oneC]; intros) | (refine okF_i (bldP_eq rfl) ?_; try simp only [BLS, SB, Nat.reduceAdd])) | simp -implicitDefEqProofs only [SE, SU, SV]))
  refine bytesLit [120] (by first | assumption | exact St.tick (by assumption) | exact St.tick (St.tick (by assumption))) rfl (by decide) (by decide) rfl fun a1 c1 W3 h => ?_
  refine bsA BSY [⟨a1, c1, [120]⟩] (n := 1) h rfl rfl (by decide) (by decide) rfl fun a2 c2 W4 h => ?_
  refine walAddV (dp := p) (q := q) (rs := [⟨a1, c1, [120]⟩]) (n := 999) h rd1 hv (by decide) (by rw [bsOf1]; decide) (by decide) (show 0 + 1 ≤ 1000 by decide) (by rw [bsOf1]; decide) fun d2 l2 W5 _ hv h => ?_
  have hv : WV 999 d2 l2 2 [] [[120]] 0 10000 45 0 1 false := hv
  refine walSyncV (dp := p) (q := q) h hv fun d3 l3 W6 _ hv h => ?_
  refine bytesLit [121] h rfl (by decide) (by decide) rfl fun a3 c3 W7 h => ?_
  refine bsA BSY [⟨a3, c3, [121]⟩] (n := 1) h rfl rfl (by decide) (by decide) rfl fun a4 c4 W8 h => ?_
  refine walAddV (dp := p) (q := q) (rs := [⟨a3, c3, [121]⟩]) (n := 998) h rd1 hv (by decide) (by rw [bsOf1]; decide) (by decide) (show 1 + 1 ≤ 1000 by decide) (by rw [bsOf1]; decide) fun d4 l4 W9 _ hv h => ?_
  have hv : WV 998 d4 l4 2 [] [[120], [121]] 1 10000 90 0 2 false := hv
  refine walAll (dp := p) (l := l4) h (by rw [hv.recs]; decide) (by rw [hv.recs]; decide) fun a5 c5 rs5 W10 hrs5 h => ?_
  rw [hv.recs] at hrs5
  obtain ⟨t, bn, P, J, m, g1, g2, g3, g4, g5, g6, g7, g8, g9, g10, g11⟩ := hv.crash 0 0
  have hm := g6 (Int.le_refl _) (Int.le_refl _)
  refine diskCrash (d := d4) (keep := 0) (torn := 0) h hv.lok.ok g11 (by have := hv.lok.ws; omega) fun W11 h => ?_
  refine diskOn (d := d4.crash 0 0) h fun W12 h => ?_
  have hr3 : recsOf P = [[120]] := by rw [g3, hm]; rfl
  refine walOpenV (dp := p) (d := (d4.crash 0 0).power) (part := 2) (n := 1000) h h0 (by decide) (by decide) rfl g9 rfl g1 g10 g7 g8 g2 (by decide) (by rw [hr3]; decide) (nt := false) (fun h => nomatch h) fun q2 d5 l5 W13 hv _ h => ?_
  rw [hr3] at hv
  (repeat (first | (first | ((with_reducible first | refine w1 ?_ | refine w3 ?_ | refine w4 ?_ | refine w11 ?_ | refine stb_n ?_); intros) | ((with_reducible first | refine v5 ?_ | refine v6 ?_ | refine v7 ?_ | refine ve ?_ | refine vn ?_); refine ⟨_, rfl, ?_⟩) | ((with_reducible first | refine v8 ?_ ?_ | refine v9 ?_ ?_ | refine v10 ?_ ?_ | refine v12 ?_ ?_); exact rfl; intros) | ((with_reducible refine w2 ?_); try simp -implicitDefEqProofs only [SE, SU, SV]; intros) | ((with_reducible refine w5 ?_ ?_); simp; refine ⟨_, rfl, ?_⟩) | ((with_reducible refine w12 ?_ ?_ ?_ ?_); simp; simp; simp [oneC]; intros) | (refine okF_i (bldP_eq rfl) ?_; try simp only [BLS, SB, Nat.reduceAdd])) | simp -implicitDefEqProofs only [SE, SU, SV]))
  refine bl1 [120] (by first | assumption | exact St.tick (by assumption) | exact St.tick (St.tick (by assumption))) rfl (by decide) (by decide) rfl fun b1 W14 h => ?_
  (repeat (first | (first | ((with_reducible first | refine w1 ?_ | refine w3 ?_ | refine w4 ?_ | refine w11 ?_ | refine stb_n ?_); intros) | ((with_reducible first | refine v5 ?_ | refine v6 ?_ | refine v7 ?_ | refine ve ?_ | refine vn ?_); refine ⟨_, rfl, ?_⟩) | ((with_reducible first | refine v8 ?_ ?_ | refine v9 ?_ ?_ | refine v10 ?_ ?_ | refine v12 ?_ ?_); exact rfl; intros) | ((with_reducible refine w2 ?_); try simp -implicitDefEqProofs only [SE, SU, SV]; intros) | ((with_reducible refine w5 ?_ ?_); simp; refine ⟨_, rfl, ?_⟩) | ((with_reducible refine w12 ?_ ?_ ?_ ?_); simp; simp; simp [oneC]; intros) | (refine okF_i (bldP_eq rfl) ?_; try simp only [BLS, SB, Nat.reduceAdd])) | simp -implicitDefEqProofs only [SE, SU, SV]))
  refine bl2 [120] (by first | assumption | exact St.tick (by assumption) | exact St.tick (St.tick (by assumption))) (by decide) fun W15 h => ?_
  (repeat (first | (first | ((with_reducible first | refine w1 ?_ | refine w3 ?_ | refine w4 ?_ | refine w11 ?_ | refine stb_n ?_); intros) | ((with_reducible first | refine v5 ?_ | refine v6 ?_ | refine v7 ?_ | refine ve ?_ | refine vn ?_); refine ⟨_, rfl, ?_⟩) | ((with_reducible first | refine v8 ?_ ?_ | refine v9 ?_ ?_ | refine v10 ?_ ?_ | refine v12 ?_ ?_); exact rfl; intros) | ((with_reducible refine w2 ?_); try simp -implicitDefEqProofs only [SE, SU, SV]; intros) | ((with_reducible refine w5 ?_ ?_); simp; refine ⟨_, rfl, ?_⟩) | ((with_reducible refine w12 ?_ ?_ ?_ ?_); simp; simp; simp [oneC]; intros) | (refine okF_i (bldP_eq rfl) ?_; try simp only [BLS, SB, Nat.reduceAdd])) | simp -implicitDefEqProofs only [SE, SU, SV]))
  refine bl1 [121] (by first | assumption | exact St.tick (by assumption) | exact St.tick (St.tick (by assumption))) rfl (by decide) (by decide) rfl fun b2 W16 h => ?_
  (repeat (first | (first | ((with_reducible first | refine w1 ?_ | refine w3 ?_ | refine w4 ?_ | refine w11 ?_ | refine stb_n ?_); intros) | ((with_reducible first | refine v5 ?_ | refine v6 ?_ | refine v7 ?_ | refine ve ?_ | refine vn ?_); refine ⟨_, rfl, ?_⟩) | ((with_reducible first | refine v8 ?_ ?_ | refine v9 ?_ ?_ | refine v10 ?_ ?_ | refine v12 ?_ ?_); exact rfl; intros) | ((with_reducible refine w2 ?_); try simp -implicitDefEqProofs only [SE, SU, SV]; intros) | ((with_reducible refine w5 ?_ ?_); simp; refine ⟨_, rfl, ?_⟩) | ((with_reducible refine w12 ?_ ?_ ?_ ?_); simp; simp; simp [oneC]; intros) | (refine okF_i (bldP_eq rfl) ?_; try simp only [BLS, SB, Nat.reduceAdd])) | simp -implicitDefEqProofs only [SE, SU, SV]))
  refine bl2 [121] (by first | assumption | exact St.tick (by assumption) | exact St.tick (St.tick (by assumption))) (by decide) fun W17 h => ?_
  (repeat (first | (first | ((with_reducible first | refine w1 ?_ | refine w3 ?_ | refine w4 ?_ | refine w11 ?_ | refine stb_n ?_); intros) | ((with_reducible first | refine v5 ?_ | refine v6 ?_ | refine v7 ?_ | refine ve ?_ | refine vn ?_); refine ⟨_, rfl, ?_⟩) | ((with_reducible first | refine v8 ?_ ?_ | refine v9 ?_ ?_ | refine v10 ?_ ?_ | refine v12 ?_ ?_); exact rfl; intros) | ((with_reducible refine w2 ?_); try simp -implicitDefEqProofs only [SE, SU, SV]; intros) | ((with_reducible refine w5 ?_ ?_); simp; refine ⟨_, rfl, ?_⟩) | ((with_reducible refine w12 ?_ ?_ ?_ ?_); simp; simp; simp [oneC]; intros) | (refine okF_i (bldP_eq rfl) ?_; try simp only [BLS, SB, Nat.reduceAdd])) | simp -implicitDefEqProofs only [SE, SU, SV]))
  refine bsA BSY [⟨some ⟨b1, 0, none⟩, 1, [120]⟩, ⟨some ⟨b2, 0, none⟩, 1, [121]⟩] (n := 2) (by first | assumption | exact St.tick (by assumption) | exact St.tick (St.tick (by assumption))) rfl rfl (by decide) (by decide) rfl fun a6 c6 W18 h => ?_
  (repeat (first | (first | ((with_reducible first | refine w1 ?_ | refine w3 ?_ | refine w4 ?_ | refine w11 ?_ | refine stb_n ?_); intros) | ((with_reducible first | refine v5 ?_ | refine v6 ?_ | refine v7 ?_ | refine ve ?_ | refine vn ?_); refine ⟨_, rfl, ?_⟩) | ((with_reducible first | refine v8 ?_ ?_ | refine v9 ?_ ?_ | refine v10 ?_ ?_ | refine v12 ?_ ?_); exact rfl; intros) | ((with_reducible refine w2 ?_); try simp -implicitDefEqProofs only [SE, SU, SV]; intros) | ((with_reducible refine w5 ?_ ?_); simp; refine ⟨_, rfl, ?_⟩) | ((with_reducible refine w12 ?_ ?_ ?_ ?_); simp; simp; simp [oneC]; intros) | (refine okF_i (bldP_eq rfl) ?_; try simp only [BLS, SB, Nat.reduceAdd])) | simp -implicitDefEqProofs only [SE, SU, SV]))
  have h := St.wk (L' := arr BSY T_s_uint8 a6 c6 [⟨some ⟨b1, 0, none⟩, 1, [120]⟩, ⟨some ⟨b2, 0, none⟩, 1, [121]⟩] :: arr B8 T_uint8 (some ⟨b1, 0, none⟩) 1 [120] :: arr B8 T_uint8 (some ⟨b2, 0, none⟩) 1 [121] :: arr BSY T_s_uint8 a5 c5 rs5 :: many fch rs5 :: lg q2 p l5 :: dk p d5 :: L) (by first | assumption | exact St.tick (by assumption) | exact St.tick (St.tick (by assumption)))
  refine refSame (a := a5) (b := a6) (r1 := rs5) (r2 := [⟨some ⟨b1, 0, none⟩, 1, [120]⟩, ⟨some ⟨b2, 0, none⟩, 1, [121]⟩]) h (rdUp (rdUp (rdUp (rdUp rdIn)))) (fun x hx => ?_) (by have := congrArg List.length hrs5; simp at this; omega) fun W19 h => ?_
  · simp only [List.mem_cons, List.not_mem_nil, or_false] at hx
    rcases hx with rfl | rfl <;> exact inferInstance
  rw [hrs5, decide_eq_true (show ([[120], [121]] : List Bs) = bsOf [⟨some ⟨b1, 0, none⟩, 1, [120]⟩, ⟨some ⟨b2, 0, none⟩, 1, [121]⟩] from rfl)]
  (repeat (first | (first | ((with_reducible first | refine w1 ?_ | refine w3 ?_ | refine w4 ?_ | refine w11 ?_ | refine stb_n ?_); intros) | ((with_reducible first | refine v5 ?_ | refine v6 ?_ | refine v7 ?_ | refine ve ?_ | refine vn ?_); refine ⟨_, rfl, ?_⟩) | ((with_reducible first | refine v8 ?_ ?_ | refine v9 ?_ ?_ | refine v10 ?_ ?_ | refine v12 ?_ ?_); exact rfl; intros) | ((with_reducible refine w2 ?_); try simp -implicitDefEqProofs only [SE, SU, SV]; intros) | ((with_reducible refine w5 ?_ ?_); simp; refine ⟨_, rfl, ?_⟩) | ((with_reducible refine w12 ?_ ?_ ?_ ?_); simp; simp; simp [oneC]; intros) | (refine okF_i (bldP_eq rfl) ?_; try simp only [BLS, SB, Nat.reduceAdd])) | simp -implicitDefEqProofs only [SE, SU, SV]))
  refine walAll (dp := p) (l := l5) (by first | assumption | exact St.tick (by assumption) | exact St.tick (St.tick (by assumption))) (by rw [hv.recs]; decide) (by rw [hv.recs]; decide) fun a7 c7 rs7 W20 hrs7 h => ?_
  rw [hv.recs] at hrs7
  (repeat (first | (first | ((with_reducible first | refine w1 ?_ | refine w3 ?_ | refine w4 ?_ | refine w11 ?_ | refine stb_n ?_); intros) | ((with_reducible first | refine v5 ?_ | refine v6 ?_ | refine v7 ?_ | refine ve ?_ | refine vn ?_); refine ⟨_, rfl, ?_⟩) | ((with_reducible first | refine v8 ?_ ?_ | refine v9 ?_ ?_ | refine v10 ?_ ?_ | refine v12 ?_ ?_); exact rfl; intros) | ((with_reducible refine w2 ?_); try simp -implicitDefEqProofs only [SE, SU, SV]; intros) | ((with_reducible refine w5 ?_ ?_); simp; refine ⟨_, rfl, ?_⟩) | ((with_reducible refine w12 ?_ ?_ ?_ ?_); simp; simp; simp [oneC]; intros) | (refine okF_i (bldP_eq rfl) ?_; try simp only [BLS, SB, Nat.reduceAdd])) | simp -implicitDefEqProofs only [SE, SU, SV]))
  refine bl1 [120] (by first | assumption | exact St.tick (by assumption) | exact St.tick (St.tick (by assumption))) rfl (by decide) (by decide) rfl fun b3 W21 h => ?_
  (repeat (first | (first | ((with_reducible first | refine w1 ?_ | refine w3 ?_ | refine w4 ?_ | refine w11 ?_ | refine stb_n ?_); intros) | ((with_reducible first | refine v5 ?_ | refine v6 ?_ | refine v7 ?_ | refine ve ?_ | refine vn ?_); refine ⟨_, rfl, ?_⟩) | ((with_reducible first | refine v8 ?_ ?_ | refine v9 ?_ ?_ | refine v10 ?_ ?_ | refine v12 ?_ ?_); exact rfl; intros) | ((with_reducible refine w2 ?_); try simp -implicitDefEqProofs only [SE, SU, SV]; intros) | ((with_reducible refine w5 ?_ ?_); simp; refine ⟨_, rfl, ?_⟩) | ((with_reducible refine w12 ?_ ?_ ?_ ?_); simp; simp; simp [oneC]; intros) | (refine okF_i (bldP_eq rfl) ?_; try simp only [BLS, SB, Nat.reduceAdd])) | simp -implicitDefEqProofs only [SE, SU, SV]))
  refine bl2 [120] (by first | assumption | exact St.tick (by assumption) | exact St.tick (St.tick (by assumption))) (by decide) fun W22 h => ?_
  (repeat (first | (first | ((with_reducible first | refine w1 ?_ | refine w3 ?_ | refine w4 ?_ | refine w11 ?_ | refine stb_n ?_); intros) | ((with_reducible first | refine v5 ?_ | refine v6 ?_ | refine v7 ?_ | refine ve ?_ | refine vn ?_); refine ⟨_, rfl, ?_⟩) | ((with_reducible first | refine v8 ?_ ?_ | refine v9 ?_ ?_ | refine v10 ?_ ?_ | refine v12 ?_ ?_); exact rfl; intros) | ((with_reducible refine w2 ?_); try simp -implicitDefEqProofs only [SE, SU, SV]; intros) | ((with_reducible refine w5 ?_ ?_); simp; refine ⟨_, rfl, ?_⟩) | ((with_reducible refine w12 ?_ ?_ ?_ ?_); simp; simp; simp [oneC]; intros) | (refine okF_i (bldP_eq rfl) ?_; try simp only [BLS, SB, Nat.reduceAdd])) | simp -implicitDefEqProofs only [SE, SU, SV]))
  refine bsA BSY [⟨some ⟨b3, 0, none⟩, 1, [120]⟩] (n := 1) (by first | assumption | exact St.tick (by assumption) | exact St.tick (St.tick (by assumption))) rfl rfl (by decide) (by decide) rfl fun a8 c8 W23 h => ?_
  (repeat (first | (first | ((with_reducible first | refine w1 ?_ | refine w3 ?_ | refine w4 ?_ | refine w11 ?_ | refine stb_n ?_); intros) | ((with_reducible first | refine v5 ?_ | refine v6 ?_ | refine v7 ?_ | refine ve ?_ | refine vn ?_); refine ⟨_, rfl, ?_⟩) | ((with_reducible first | refine v8 ?_ ?_ | refine v9 ?_ ?_ | refine v10 ?_ ?_ | refine v12 ?_ ?_); exact rfl; intros) | ((with_reducible refine w2 ?_); try simp -implicitDefEqProofs only [SE, SU, SV]; intros) | ((with_reducible refine w5 ?_ ?_); simp; refine ⟨_, rfl, ?_⟩) | ((with_reducible refine w12 ?_ ?_ ?_ ?_); simp; simp; simp [oneC]; intros) | (refine okF_i (bldP_eq rfl) ?_; try simp only [BLS, SB, Nat.reduceAdd])) | simp -implicitDefEqProofs only [SE, SU, SV]))
  have h := St.wk (L' := arr BSY T_s_uint8 a8 c8 [⟨some ⟨b3, 0, none⟩, 1, [120]⟩] :: arr B8 T_uint8 (some ⟨b3, 0, none⟩) 1 [120] :: arr BSY T_s_uint8 a7 c7 rs7 :: many fch rs7 :: lg q2 p l5 :: dk p d5 :: L) (by first | assumption | exact St.tick (by assumption) | exact St.tick (St.tick (by assumption)))
  refine refSame (a := a7) (b := a8) (r1 := rs7) (r2 := [⟨some ⟨b3, 0, none⟩, 1, [120]⟩]) h (rdUp (rdUp (rdUp rdIn))) rd1 (by have := congrArg List.length hrs7; simp at this; omega) fun W24 h => ?_
  rw [hrs7, decide_eq_true (show ([[120]] : List Bs) = bsOf [⟨some ⟨b3, 0, none⟩, 1, [120]⟩] from rfl)]
  (repeat (first | (first | ((with_reducible first | refine w1 ?_ | refine w3 ?_ | refine w4 ?_ | refine w11 ?_ | refine stb_n ?_); intros) | ((with_reducible first | refine v5 ?_ | refine v6 ?_ | refine v7 ?_ | refine ve ?_ | refine vn ?_); refine ⟨_, rfl, ?_⟩) | ((with_reducible first | refine v8 ?_ ?_ | refine v9 ?_ ?_ | refine v10 ?_ ?_ | refine v12 ?_ ?_); exact rfl; intros) | ((with_reducible refine w2 ?_); try simp -implicitDefEqProofs only [SE, SU, SV]; intros) | ((with_reducible refine w5 ?_ ?_); simp; refine ⟨_, rfl, ?_⟩) | ((with_reducible refine w12 ?_ ?_ ?_ ?_); simp; simp; simp [oneC]; intros) | (refine okF_i (bldP_eq rfl) ?_; try simp only [BLS, SB, Nat.reduceAdd])) | simp -implicitDefEqProofs only [SE, SU, SV]))
  refine walBase (dp := p) (l := l5) (by first | assumption | exact St.tick (by assumption) | exact St.tick (St.tick (by assumption))) (by rw [hv.base]; decide) fun a9 c9 W25 h => ?_
  rw [hv.base]
  (repeat (first | (first | ((with_reducible first | refine w1 ?_ | refine w3 ?_ | refine w4 ?_ | refine w11 ?_ | refine stb_n ?_); intros) | ((with_reducible first | refine v5 ?_ | refine v6 ?_ | refine v7 ?_ | refine ve ?_ | refine vn ?_); refine ⟨_, rfl, ?_⟩) | ((with_reducible first | refine v8 ?_ ?_ | refine v9 ?_ ?_ | refine v10 ?_ ?_ | refine v12 ?_ ?_); exact rfl; intros) | ((with_reducible refine w2 ?_); try simp -implicitDefEqProofs only [SE, SU, SV]; intros) | ((with_reducible refine w5 ?_ ?_); simp; refine ⟨_, rfl, ?_⟩) | ((with_reducible refine w12 ?_ ?_ ?_ ?_); simp; simp; simp [oneC]; intros) | (refine okF_i (bldP_eq rfl) ?_; try simp only [BLS, SB, Nat.reduceAdd])) | simp -implicitDefEqProofs only [SE, SU, SV]))
  exact hk _ (St.wk (by first | assumption | exact St.tick (by assumption) | exact St.tick (St.tick (by assumption))))
end
end Go.Proofs.Ythladblmjoaeoaa
namespace Go.Proofs.Ythladblmjoaeoaa
set_option linter.unusedVariables false
set_option linter.unusedSimpArgs false
open Go Go.Eng Go.RowKit

mutual
theorem goodCz {W : World} {c : Cl} {v : Value} : GoodC W c v → GoodC { W with drawn := 0 } c v
  | .int h => .int h
  | .str h => .str h
  | .bool => .bool
  | .sl rows hc hm hn hr hg => .sl rows hc hm hn hr fun i hi => goodLz (hg i hi)
theorem goodLz {W : World} {l : List Cl} {v : List Value} : GoodL W l v → GoodL { W with drawn := 0 } l v
  | .nil => .nil
  | .cons h hs => .cons (goodCz h) (goodLz hs)
end
theorem goodAz {W : World} {l : List Cl} {b : Bool} {v : Value} (h : GoodA W l b v) : GoodA { W with drawn := 0 } l b v := ⟨goodLz h.1, h.2⟩
def rgBs (W : World) (x : BSl) : Prop := x.bs.length ≤ x.c ∧ x.c ≤ maxLen ∧ Rd W [] x.a B8 x.bs
instance : Inhabited BSl := ⟨⟨none, 0, []⟩⟩
theorem openBsC {W : World} {v : Value} (h : GoodC W (.sl [.sl [.int .u8]]) v) : ∃ (a : Option Addr) (c : Nat) (l : List BSl), v = .slice a l.length c ∧ l.length ≤ c ∧ c ≤ maxLen ∧ Rd W [] a BSY l ∧ ∀ x ∈ l, rgBs W x :=
  openArr BSY (rgBs W) h rfl fun vs h => by
    obtain ⟨_, _, rfl, h1, h⟩ := h.cons'
    obtain rfl := h.nil'
    obtain ⟨a, c, l, rfl, hl, hc, hr⟩ := openBytes h1
    exact ⟨⟨a, c, l⟩, rfl, hl, hc, hr⟩
theorem Rd.any {α : Type} {A : Ly α} {W0 : World} {L : List Asn} {a : Option Addr} {l : List α} (h : Rd W0 [] a A l) : Rd W0 L a A l := ⟨fun W hs => h.ok W hs.nil⟩
theorem rdAnyL {W0 : World} {L : List Asn} {rs : List BSl} (h : ∀ x ∈ rs, rgBs W0 x) : ∀ x ∈ rs, Rd W0 L x.a B8 x.bs := fun x hx => Rd.any (h x hx).2.2
theorem Rd.wk {α : Type} {A : Ly α} {W0 : World} {L L' : List Asn} {a : Option Addr} {l : List α} (h : Rd W0 L' a A l) [hw : Wk L L'] : Rd W0 L a A l := ⟨fun W hs => h.ok W hs.wk⟩
theorem cost_le {B : Nat} : ∀ {rs : List BSl}, (∀ x ∈ rs, x.bs.length ≤ B) → 0 ≤ cost (bsOf rs) ∧ cost (bsOf rs) ≤ rs.length * (44 + (B : Int))
  | [], _ => ⟨Int.le_refl _, by simp [cost]⟩
  | x :: rs, h => by
    have := h x (by simp)
    have ih := cost_le (rs := rs) fun y hy => h y (by simp [hy])
    have e : cost (bsOf (x :: rs)) = 44 + (x.bs.length : Int) + cost (bsOf rs) := by simp [cost]
    have e2 : (((x :: rs).length : Nat) : Int) * (44 + (B : Int)) = (rs.length : Int) * (44 + (B : Int)) + (44 + (B : Int)) := by
      rw [List.length_cons, Int.natCast_add, Int.add_mul]; simp
    rw [e, e2]
    omega
theorem WV.small {n : Nat} {d : DS} {l : LS} {part : Int} {base : Bs} {all : List Bs} {safe : Nat} {room used : Int} {turns files : Nat} {nt : Bool} (h : WV n d l part base all safe room used turns files nt) : ∀ r ∈ l.recs, r.length < 70368744177664 := by
  obtain ⟨bn, P, P0, h1, h2, _⟩ := h.live
  intro r hr
  rw [h.recs, ← h2] at hr
  obtain ⟨p, hp, hr⟩ := List.mem_flatMap.1 hr
  have := h1.gd.rl p hp r hr
  omega
theorem WV.bl0 {n : Nat} {d : DS} {l : LS} {part : Int} {base : Bs} {all : List Bs} {safe : Nat} {room used : Int} {turns files : Nat} {nt : Bool} (h : WV n d l part base all safe room used turns files nt) : base.length ≤ 65536 := by
  obtain ⟨bn, P, P0, h1, _⟩ := h.live
  have := h1.gd.bl
  rwa [h.base] at this
theorem WV.mono {n m : Nat} {d : DS} {l : LS} {part : Int} {base : Bs} {all : List Bs} {safe : Nat} {room used used' : Int} {turns files files' : Nat} {nt : Bool} (h : WV n d l part base all safe room used turns files nt) (hm : m ≤ n) (hu : used ≤ used') (hf : files ≤ files') : WV m d l part base all safe room used' turns files' nt :=
  ⟨h.live, h.recs, h.part, h.base, h.room, Int.le_trans h.used hu, Nat.le_trans h.nf hf, h.tn, ⟨h.lok.ok, by have := h.lok.ws; omega, by have := h.lok.nums; omega, by have := h.lok.dirty; omega, h.lok.turn, by have := h.lok.index; omega, by have := h.lok.count; omega⟩⟩
theorem WV.turns {n : Nat} {d : DS} {l : LS} {part : Int} {base : Bs} {all : List Bs} {safe : Nat} {room used : Int} {turns turns' files : Nat} {nt : Bool} (h : WV n d l part base all safe room used turns files nt) (ht : turns ≤ turns') : WV n d l part base all safe room used turns' files nt :=
  ⟨h.live, h.recs, h.part, h.base, h.room, h.used, h.nf, Nat.le_trans h.tn ht, h.lok⟩
end Go.Proofs.Ythladblmjoaeoaa
namespace Go.Proofs.Ythladblmjoaeoaa
set_option linter.unusedVariables false
set_option linter.unusedSimpArgs false
open Go.Eng
/-! ### rostrum/rostrumlaw6.WalPlays (10) -/
def S.rostrumlaw6_WalPlays.j1 (R : Value → World → Prop) (K1 : List Value → World → Prop) (x0 x1 x5 x7 x9 x10 x11 x12 : Value) (W : World) : Prop :=
  callK PR F_wal_Log_Base [x7] (fun v136 W =>
  rdK PR (convert T_s_uint8 T_string v136) (fun v137 W =>
  okF (binP .neq v137 x9) fun v139 =>
  gdK (wantd v139 false) (fun k W => k x7 W) (fun v141 W =>
  gdK (wantd v139 false) (fun k W => callK PR F_wal_Log_All [v141] k W) (fun v142 W =>
  gdK (wantd v139 false) (fun k W => k x10 W) (fun v143 W =>
  gdK (wantd v139 false) (fun k W => callK PR F_rostrumref1_Same [v142, v143] k W) (fun v144 W =>
  gdK (wantd v139 false) (fun k W => okF (unP .not v144) fun v => k v W) (fun v145 W =>
  okF (pickP v139 (.bool true) v145) fun v146 =>
  gdK (wantd v146 false) (fun k W => k x7 W) (fun v148 W =>
  gdK (wantd v146 false) (fun k W => callK PR F_wal_Log_Done [v148] k W) (fun v149 W =>
  okF (pickP v146 (.bool true) v149) fun v150 =>
  ifK v150 (
  R (.bool false) W) (
  okF (binP .add x12 (.int .i64 1)) fun v51 =>
  K1 [x0, x1, x5, x7, x9, x10, x11, v51] W)) W) W) W) W) W) W) W) W) W
def S.rostrumlaw6_WalPlays.l1 (R : Value → World → Prop) (K1 : List Value → World → Prop) (x0 x1 x5 x7 x9 x10 x11 x12 : Value) (W : World) : Prop :=
  okF (lenP (.slice T_rostrumlaw6_Act) x1) fun v48 =>
  okF (binP .lss x12 v48) fun v49 =>
  ifK v49 (
  okF (idxS 5 x1 x12) fun v54 =>
  rdK PR (Instr.loadAt T_rostrumlaw6_Act v54) (fun v55 W =>
  efK PR (Instr.alloc T_rostrumlaw6_Act true (.tuple #[])) (fun v13 W =>
  efK PR (Instr.storeAt T_rostrumlaw6_Act v13 v55) (fun _ W =>
  joinK (fun s W => S.rostrumlaw6_WalPlays.j1 R K1 (nthv s 0) (nthv s 1) (nthv s 2) (nthv s 3) (nthv s 4) (nthv s 5) (nthv s 6) (nthv s 7) W) (fun J1 =>
  okF (addrF 0 v13) fun v56 =>
  rdK PR (Instr.loadAt T_int v56) (fun v57 W =>
  okF (binP .eql v57 (.int .i64 0)) fun v106 =>
  ifK v106 (
  okF (addrF 4 v13) fun v108 =>
  rdK PR (Instr.loadAt T_s_s_uint8 v108) (fun v109 W =>
  callK PR F_wal_Log_Add [x7, v109] (fun v110 W =>
  okF (binP .neq v110 (.int .i64 0)) fun v111 =>
  ifK v111 (
  R (.bool false) W) (
  okF (addrF 4 v13) fun v115 =>
  rdK PR (Instr.loadAt T_s_s_uint8 v115) (fun v116 W =>
  efK PR (Instr.buildSlice T_s_s_uint8 0 #[]) (fun v112 W =>
  stb PR [(4, true, (Instr.loadAt T_s_s_uint8 v115), v116)] (fun W =>
  efK PR (Builtin.append_ #[T_s_s_uint8, T_s_s_uint8] T_s_s_uint8 #[v112, x10]) (fun v114 W =>
  stb PR [(4, true, (Instr.loadAt T_s_s_uint8 v115), v116)] (fun W =>
  efK PR (Builtin.append_ #[T_s_s_uint8, T_s_s_uint8] T_s_s_uint8 #[v114, v116]) (fun v117 W =>
  J1 [x0, x1, x5, x7, x9, v117, x11, x12] W) W) W) W) W) W) (tick W))) W) W) (
  okF (binP .eql v57 (.int .i64 1)) fun v119 =>
  ifK v119 (
  callK PR F_wal_Log_Sync [x7] (fun v121 W =>
  okF (binP .neq v121 (.int .i64 0)) fun v122 =>
  ifK v122 (
  R (.bool false) W) (
  okF (lenP (.slice T_s_uint8) x10) fun v124 =>
  J1 [x0, x1, x5, x7, x9, x10, v124, x12] W)) W) (
  okF (binP .eql v57 (.int .i64 2)) fun v126 =>
  ifK v126 (
  okF (addrF 3 v13) fun v128 =>
  rdK PR (Instr.loadAt T_s_uint8 v128) (fun v129 W =>
  callK PR F_wal_Log_Keep [x7, v129] (fun v130 W =>
  okF (binP .neq v130 (.int .i64 0)) fun v131 =>
  ifK v131 (
  R (.bool false) W) (
  okF (addrF 3 v13) fun v132 =>
  rdK PR (Instr.loadAt T_s_uint8 v132) (fun v133 W =>
  rdK PR (convert T_s_uint8 T_string v133) (fun v134 W =>
  J1 [x0, x1, x5, x7, v134, (.slice none 0 0), (.int .i64 0), x12] W) W) W)) W) W) (
  okF (addrF 1 v13) fun v59 =>
  rdK PR (Instr.loadAt T_int v59) (fun v60 W =>
  okF (addrF 2 v13) fun v61 =>
  rdK PR (Instr.loadAt T_int v61) (fun v62 W =>
  callK PR F_disk_Disk_Crash [x5, v60, v62] (fun v63 W =>
  callK PR F_disk_Disk_On [x5] (fun v65 W =>
  callK PR F_wal_Open [x5, x0] (fun v69 W =>
  okF (extP 0 v69) fun v70 =>
  okF (extP 1 v69) fun v71 =>
  okF (binP .neq v71 (.int .i64 0)) fun v73 =>
  gdK (wantd v73 false) (fun k W => k v70 W) (fun v75 W =>
  gdK (wantd v73 false) (fun k W => okF (eqP (.pointer T_wal_Log) .eql v75 (.pointer none)) fun v => k v W) (fun v76 W =>
  okF (pickP v73 (.bool true) v76) fun v77 =>
  ifK v77 (
  R (.bool false) W) (
  callK PR F_wal_Log_All [v70] (fun v79 W =>
  okF (lenP (.slice T_s_uint8) v79) fun v80 =>
  okF (binP .lss v80 x11) fun v83 =>
  gdK (wantd v83 false) (fun k W => k v80 W) (fun v85 W =>
  gdK (wantd v83 false) (fun k W => k x10 W) (fun v86 W =>
  gdK (wantd v83 false) (fun k W => okF (lenP (.slice T_s_uint8) v86) fun v => k v W) (fun v87 W =>
  gdK (wantd v83 false) (fun k W => okF (binP .gtr v85 v87) fun v => k v W) (fun v88 W =>
  okF (pickP v83 (.bool true) v88) fun v89 =>
  gdK (wantd v89 false) (fun k W => k v70 W) (fun v91 W =>
  gdK (wantd v89 false) (fun k W => k x10 W) (fun v93 W =>
  gdK (wantd v89 false) (fun k W => k v80 W) (fun v94 W =>
  gdK (wantd v89 false) (fun k W => okF (slcS 1 v93 none (some v94) none) fun v => k v W) (fun v95 W =>
  gdK (wantd v89 false) (fun k W => callK PR F_wal_Log_All [v91] k W) (fun v92 W =>
  gdK (wantd v89 false) (fun k W => callK PR F_rostrumref1_Same [v92, v95] k W) (fun v96 W =>
  gdK (wantd v89 false) (fun k W => okF (unP .not v96) fun v => k v W) (fun v97 W =>
  okF (pickP v89 (.bool true) v97) fun v98 =>
  ifK v98 (
  R (.bool false) W) (
  okF (slcS 1 x10 none (some v80) (some v80)) fun v103 =>
  J1 [x0, x1, x5, v70, x9, v103, v80, x12] (tick W))) W) W) W) W) W) W) W) W) W) W) (tick W)) W)) W) W) W) W) W) W) W)))) W)) W) W) W) (
  R (.bool true) W)
def S.rostrumlaw6_WalPlays.body (R : Value → World → Prop) (v0 v1 : Value) (W : World) : Prop :=
  callK PR F_rostrumlaw6_awake [] (fun v17 W =>
  okF (unP .not v17) fun v18 =>
  ifK v18 (
  R (.bool false) W) (
  okF (binP .lss v0 (.int .i64 1)) fun v20 =>
  gdK (wantd v20 false) (fun k W => k v0 W) (fun v22 W =>
  gdK (wantd v20 false) (fun k W => okF (binP .gtr v22 (.int .i64 1000)) fun v => k v W) (fun v23 W =>
  okF (pickP v20 (.bool true) v23) fun v24 =>
  gdK (wantd v24 false) (fun k W => k v1 W) (fun v26 W =>
  gdK (wantd v24 false) (fun k W => callK PR F_rostrumlaw6_light [v26] k W) (fun v27 W =>
  gdK (wantd v24 false) (fun k W => okF (unP .not v27) fun v => k v W) (fun v28 W =>
  okF (pickP v24 (.bool true) v28) fun v29 =>
  ifK v29 (
  R (.bool true) W) (
  callK PR F_disk_New [(.int .i64 262144)] (fun v31 W =>
  okF (extP 0 v31) fun v32 =>
  okF (extP 1 v31) fun v33 =>
  callK PR F_wal_Open [v32, v0] (fun v37 W =>
  okF (extP 0 v37) fun v38 =>
  okF (extP 1 v37) fun v39 =>
  okF (binP .neq v39 (.int .i64 0)) fun v41 =>
  gdK (wantd v41 false) (fun k W => k v38 W) (fun v43 W =>
  gdK (wantd v41 false) (fun k W => okF (eqP (.pointer T_wal_Log) .eql v43 (.pointer none)) fun v => k v W) (fun v44 W =>
  okF (pickP v41 (.bool true) v44) fun v45 =>
  ifK v45 (
  R (.bool false) W) (
  loopK (fun K1 s W => S.rostrumlaw6_WalPlays.l1 R K1 (nthv s 0) (nthv s 1) (nthv s 2) (nthv s 3) (nthv s 4) (nthv s 5) (nthv s 6) (nthv s 7) W) [v0, v1, v32, v38, (.string ⟨#[]⟩), (.slice none 0 0), (.int .i64 0), (.int .i64 0)] W)) W) W) W) W)) W) W) W) W) W)) W
def S.rostrumlaw6_WalPlays.hint : Hint := (.two .nil (.two (.two .nil (.two (.two .nil .nil) .nil)) (.two (.two .nil (.two (.two .nil .nil) .nil)) (.two .nil (.two .nil (.two (.two .nil (.two (.two .nil .nil) .nil)) (.two .nil (.two .nil (.two .nil (.two (.two .nil (.at [0, 1, 5, 7, 9, 10, 11, 12] (.two (.two .nil (.two .nil .nil)) (.two (.two .nil (.at [0, 1, 5, 7, 9, 10, 11, 12] (.two .nil (.two .nil (.two (.two (.two .nil (.two (.two .nil .nil) .nil)) .nil) (.two .nil (.two (.two (.two .nil (.two (.two .nil .nil) .nil)) .nil) (.two .nil (.two (.two (.two .nil (.two (.two .nil .nil) .nil)) .nil) (.two .nil (.two .nil (.two .nil (.two (.two .nil (.two (.two .nil .nil) .nil)) (.two .nil (.two (.two .nil (.two (.two .nil .nil) .nil)) .nil))))))))))))) (.two .nil (.two (.two .nil .nil) .nil)))) .nil)) .nil)) (.two .nil .nil)))))))))))
theorem S.rostrumlaw6_WalPlays.ok (R : Value → World → Prop) (v0 v1 : Value) (W : World) : bodyK PR CB Try.f10 S.rostrumlaw6_WalPlays.hint [v0, v1] R W = S.rostrumlaw6_WalPlays.body R v0 v1 W := by kernel_rfl
theorem S.rostrumlaw6_WalPlays.fn : PR.funcs[F_rostrumlaw6_WalPlays]? = some Try.f10 := by kernel_rfl
theorem S.rostrumlaw6_WalPlays.call {R : Value → World → Prop} {v0 v1 : Value} {W : World} (h : S.rostrumlaw6_WalPlays.body R v0 v1 W) : callK PR F_rostrumlaw6_WalPlays [v0, v1] R W :=
  callK_of_body (g := F_rostrumlaw6_WalPlays) (fn := Try.f10) (args := [v0, v1]) (R := R) (w := W) mixed CBok S.rostrumlaw6_WalPlays.fn S.rostrumlaw6_WalPlays.hint (by rw [S.rostrumlaw6_WalPlays.ok]; exact h)
/-! ### rostrum/rostrumlaw6.light (44) -/
def S.rostrumlaw6_light.j1 (K1 : List Value → World → Prop) (x0 x3 : Value) (W : World) : Prop :=
  okF (binP .add x3 (.int .i64 1)) fun v13 =>
  K1 [x0, v13] W
def S.rostrumlaw6_light.l2 (R : Value → World → Prop) (J1 : List Value → World → Prop) (K2 : List Value → World → Prop) (x0 x3 x4 : Value) (W : World) : Prop :=
  okF (idxS 5 x0 x3) fun v33 =>
  okF (addrF 4 v33) fun v34 =>
  rdK PR (Instr.loadAt T_s_s_uint8 v34) (fun v35 W =>
  okF (lenP (.slice T_s_uint8) v35) fun v36 =>
  okF (binP .lss x4 v36) fun v37 =>
  ifK v37 (
  okF (idxS 5 x0 x3) fun v42 =>
  okF (addrF 4 v42) fun v43 =>
  rdK PR (Instr.loadAt T_s_s_uint8 v43) (fun v44 W =>
  okF (idxS 1 v44 x4) fun v46 =>
  rdK PR (Instr.loadAt T_s_uint8 v46) (fun v47 W =>
  okF (lenP (.slice T_uint8) v47) fun v48 =>
  okF (binP .gtr v48 (.int .i64 200)) fun v49 =>
  ifK v49 (
  R (.bool false) W) (
  okF (binP .add x4 (.int .i64 1)) fun v39 =>
  K2 [x0, x3, v39] W)) W) W) (
  J1 [x0, x3] W)) W
def S.rostrumlaw6_light.l1 (R : Value → World → Prop) (K1 : List Value → World → Prop) (x0 x3 : Value) (W : World) : Prop :=
  okF (lenP (.slice T_rostrumlaw6_Act) x0) fun v10 =>
  okF (binP .lss x3 v10) fun v11 =>
  ifK v11 (
  joinK (fun s W => S.rostrumlaw6_light.j1 K1 (nthv s 0) (nthv s 1) W) (fun J1 =>
  okF (idxS 5 x0 x3) fun v16 =>
  okF (addrF 3 v16) fun v17 =>
  rdK PR (Instr.loadAt T_s_uint8 v17) (fun v18 W =>
  okF (lenP (.slice T_uint8) v18) fun v19 =>
  okF (binP .gtr v19 (.int .i64 300)) fun v20 =>
  gdK (wantd v20 false) (fun k W => k x0 W) (fun v22 W =>
  gdK (wantd v20 false) (fun k W => k x3 W) (fun v23 W =>
  gdK (wantd v20 false) (fun k W => okF (idxS 5 v22 v23) fun v => k v W) (fun v24 W =>
  gdK (wantd v20 false) (fun k W => okF (addrF 4 v24) fun v => k v W) (fun v25 W =>
  gdK (wantd v20 false) (fun k W => rdK PR (Instr.loadAt T_s_s_uint8 v25) k W) (fun v26 W =>
  gdK (wantd v20 false) (fun k W => okF (lenP (.slice T_s_uint8) v26) fun v => k v W) (fun v27 W =>
  gdK (wantd v20 false) (fun k W => okF (binP .gtr v27 (.int .i64 6)) fun v => k v W) (fun v28 W =>
  okF (pickP v20 (.bool true) v28) fun v29 =>
  ifK v29 (
  R (.bool false) W) (
  loopK (fun K2 s W => S.rostrumlaw6_light.l2 R J1 K2 (nthv s 0) (nthv s 1) (nthv s 2) W) [x0, x3, (.int .i64 0)] W)) W) W) W) W) W) W) W) W)) (
  R (.bool true) W)
def S.rostrumlaw6_light.body (R : Value → World → Prop) (v0 : Value) (W : World) : Prop :=
  okF (lenP (.slice T_rostrumlaw6_Act) v0) fun v6 =>
  okF (binP .gtr v6 (.int .i64 40)) fun v7 =>
  ifK v7 (
  R (.bool false) W) (
  loopK (fun K1 s W => S.rostrumlaw6_light.l1 R K1 (nthv s 0) (nthv s 1) W) [v0, (.int .i64 0)] W)
def S.rostrumlaw6_light.hint : Hint := (.two .nil (.two (.two .nil (.two (.two .nil .nil) .nil)) (.two (.two .nil (.at [0, 3] (.two (.two .nil (.two .nil .nil)) (.at [0, 3] (.two (.two .nil (.two (.two .nil .nil) .nil)) (.two .nil (.at [0, 3, 4] (.two (.two .nil (.two .nil .nil)) (.two (.two .nil (.two (.two .nil .nil) .nil)) .nil)) .nil))) .nil)) .nil)) (.two .nil .nil))))
theorem S.rostrumlaw6_light.ok (R : Value → World → Prop) (v0 : Value) (W : World) : bodyK PR CB Try.f44 S.rostrumlaw6_light.hint [v0] R W = S.rostrumlaw6_light.body R v0 W := by kernel_rfl
theorem S.rostrumlaw6_light.fn : PR.funcs[F_rostrumlaw6_light]? = some Try.f44 := by kernel_rfl
theorem S.rostrumlaw6_light.call {R : Value → World → Prop} {v0 : Value} {W : World} (h : S.rostrumlaw6_light.body R v0 W) : callK PR F_rostrumlaw6_light [v0] R W :=
  callK_of_body (g := F_rostrumlaw6_light) (fn := Try.f44) (args := [v0]) (R := R) (w := W) mixed CBok S.rostrumlaw6_light.fn S.rostrumlaw6_light.hint (by rw [S.rostrumlaw6_light.ok]; exact h)
end Go.Proofs.Ythladblmjoaeoaa
