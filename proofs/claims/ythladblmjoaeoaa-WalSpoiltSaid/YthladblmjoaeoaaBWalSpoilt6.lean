/- Texts of the claim WalSpoilt, joined: ShWlog, ShCont, CWal5, CWal6, CWal7, CWal8. -/
import Derived.Test.YthladblmjoaeoaaBWalSpoilt1
import Derived.Test.YthladblmjoaeoaaBWalSpoilt5
import Derived.Test.YthladblmjoaeoaaBWalSpoilt4
namespace Go.Proofs.Ythladblmjoaeoaa
set_option linter.unusedVariables false
set_option linter.unusedSimpArgs false
open Go.Eng
/-! ### rostrum/wal.readAll (53) -/
def S.wal_readAll.j1 (R : Value → World → Prop) (x4 : Value) (W : World) : Prop :=
  R (.tuple #[x4, (.int .i64 0)]) W
def S.wal_readAll.j2 (K1 : List Value → World → Prop) (x0 x4 x12 x13 x14 : Value) (W : World) : Prop :=
  okF (binP .add x14 (.int .i64 1)) fun v45 =>
  K1 [x0, x4, x12, x13, v45] W
def S.wal_readAll.l1 (R : Value → World → Prop) (J1 : List Value → World → Prop) (K1 : List Value → World → Prop) (x0 x4 x12 x13 x14 : Value) (W : World) : Prop :=
  okF (binP .lss x14 x13) fun v15 =>
  ifK v15 (
  joinK (fun s W => S.wal_readAll.j2 K1 (nthv s 0) (nthv s 1) (nthv s 2) (nthv s 3) (nthv s 4) W) (fun J2 =>
  okF (idxS 1 x12 x14) fun v16 =>
  rdK PR (Instr.loadAt T_int v16) (fun v17 W =>
  callK PR F_disk_Disk_Read [x0, v17] (fun v21 W =>
  okF (extP 0 v21) fun v22 =>
  okF (extP 1 v21) fun v23 =>
  okF (binP .neq v23 (.int .i64 0)) fun v25 =>
  ifK v25 (
  R (.tuple #[(.slice none 0 0), v23]) W) (
  callK PR F_wal_parse [v17, v22] (fun v30 W =>
  okF (extP 0 v30) fun v31 =>
  okF (extP 1 v30) fun v32 =>
  okF (extP 2 v30) fun v33 =>
  efK PR (Instr.alloc T_wal_file true (.tuple #[])) (fun v9 W =>
  efK PR (Instr.storeAt T_wal_file v9 v31) (fun _ W =>
  okF (binP .neq v33 (.int .i64 0)) fun v35 =>
  ifK v35 (
  R (.tuple #[(.slice none 0 0), v33]) W) (
  ifK v32 (
  rdK PR (Instr.loadAt T_wal_file v9) (fun v39 W =>
  efK PR (Instr.buildSlice T_s_wal_file 1 #[(0, v39)]) (fun v40 W =>
  efK PR (Builtin.append_ #[T_s_wal_file, T_s_wal_file] T_s_wal_file #[x4, v40]) (fun v41 W =>
  J2 [x0, v41, x12, x13, x14] W) W) W) W) (
  callK PR F_disk_Disk_Drop [x0, v17] (fun v44 W =>
  J2 [x0, x4, x12, x13, x14] W) W))) W) W) W)) W) W)) (
  J1 [x4] W)
def S.wal_readAll.body (R : Value → World → Prop) (v0 : Value) (W : World) : Prop :=
  joinK (fun s W => S.wal_readAll.j1 R (nthv s 0) W) (fun J1 =>
  callK PR F_disk_Disk_Files [v0] (fun v12 W =>
  okF (lenP (.slice T_int) v12) fun v13 =>
  loopK (fun K1 s W => S.wal_readAll.l1 R J1 K1 (nthv s 0) (nthv s 1) (nthv s 2) (nthv s 3) (nthv s 4) W) [v0, (.slice none 0 0), v12, v13, (.int .i64 0)] W) W)
def S.wal_readAll.hint : Hint := (.two .nil (.two .nil (.at [4] (.two .nil (.at [0, 4, 12, 13, 14] (.two .nil (.two (.two .nil .nil) (.at [0, 4, 12, 13, 14] (.two .nil (.two .nil (.two (.two .nil (.two (.two .nil .nil) .nil)) (.two .nil (.two (.two .nil (.two (.two .nil .nil) .nil)) (.two .nil (.two .nil .nil))))))) .nil))) .nil)) (.two .nil .nil))))
theorem S.wal_readAll.ok (R : Value → World → Prop) (v0 : Value) (W : World) : bodyK PR CB Try.f53 S.wal_readAll.hint [v0] R W = S.wal_readAll.body R v0 W := by kernel_rfl
theorem S.wal_readAll.fn : PR.funcs[F_wal_readAll]? = some Try.f53 := by kernel_rfl
theorem S.wal_readAll.call {R : Value → World → Prop} {v0 : Value} {W : World} (h : S.wal_readAll.body R v0 W) : callK PR F_wal_readAll [v0] R W :=
  callK_of_body (g := F_wal_readAll) (fn := Try.f53) (args := [v0]) (R := R) (w := W) mixed CBok S.wal_readAll.fn S.wal_readAll.hint (by rw [S.wal_readAll.ok]; exact h)
/-! ### (*rostrum/wal.Log).take (54) -/
def S.wal_Log_take.j3 (K1 : List Value → World → Prop) (x0 x108 x109 x110 : Value) (W : World) : Prop :=
  okF (binP .add x110 (.int .i64 1)) fun v150 =>
  K1 [x0, x108, x109, v150] W
def S.wal_Log_take.l1 (R : Value → World → Prop) (K1 : List Value → World → Prop) (x0 x108 x109 x110 : Value) (W : World) : Prop :=
  okF (binP .lss x110 x109) fun v111 =>
  ifK v111 (
  joinK (fun s W => S.wal_Log_take.j3 K1 (nthv s 0) (nthv s 1) (nthv s 2) (nthv s 3) W) (fun J3 =>
  okF (idxS 6 x108 x110) fun v113 =>
  rdK PR (Instr.loadAt T_wal_file v113) (fun v114 W =>
  efK PR (Instr.alloc T_wal_file true (.tuple #[])) (fun v12 W =>
  efK PR (Instr.storeAt T_wal_file v12 v114) (fun _ W =>
  okF (addrF 2 v12) fun v115 =>
  rdK PR (Instr.loadAt T_int v115) (fun v116 W =>
  okF (binP .neq v116 x110) fun v118 =>
  ifK v118 (
  R (.int .i64 3) W) (
  okF (nilP x0) fun v121 =>
  okF (addrF 10 v121) fun v122 =>
  rdK PR (Instr.loadAt T_s_s_uint8 v122) (fun v123 W =>
  okF (addrF 4 v12) fun v124 =>
  rdK PR (Instr.loadAt T_s_s_uint8 v124) (fun v125 W =>
  efK PR (Builtin.append_ #[T_s_s_uint8, T_s_s_uint8] T_s_s_uint8 #[v123, v125]) (fun v126 W =>
  okF (nilP x0) fun v127 =>
  okF (addrF 10 v127) fun v128 =>
  efK PR (Instr.storeAt T_s_s_uint8 v128 v126) (fun _ W =>
  okF (addrF 0 v12) fun v132 =>
  rdK PR (Instr.loadAt T_int v132) (fun v133 W =>
  okF (addrF 4 v12) fun v134 =>
  rdK PR (Instr.loadAt T_s_s_uint8 v134) (fun v135 W =>
  okF (lenP (.slice T_s_uint8) v135) fun v136 =>
  okF (binP .add x110 (.int .i64 1)) fun v138 =>
  okF (nilP x0) fun v139 =>
  okF (addrF 5 v139) fun v140 =>
  efK PR (Instr.storeAt T_int v140 v133) (fun _ W =>
  stb PR [(6, true, (Instr.loadAt T_s_s_uint8 v134), v135)] (fun W =>
  okF (nilP x0) fun v141 =>
  okF (addrF 6 v141) fun v142 =>
  efK PR (Instr.storeAt T_int v142 v136) (fun _ W =>
  okF (nilP x0) fun v143 =>
  okF (addrF 7 v143) fun v144 =>
  efK PR (Instr.storeAt T_int v144 v138) (fun _ W =>
  okF (addrF 5 v12) fun v145 =>
  rdK PR (Instr.loadAt T_bool v145) (fun v146 W =>
  ifK v146 (
  okF (nilP x0) fun v148 =>
  okF (addrF 5 v148) fun v149 =>
  efK PR (Instr.storeAt T_int v149 (.int .i64 (-1))) (fun _ W =>
  J3 [x0, x108, x109, x110] W) W) (
  J3 [x0, x108, x109, x110] W)) W) W) W) W) W) W) (tick W)) W) W) W) (tick W))) W) W) W) W)) (
  R (.int .i64 0) W)
def S.wal_Log_take.j2 (R : Value → World → Prop) (x0 x8 : Value) (W : World) : Prop :=
  callK PR F_slices_SortFunc_wal_file_wal_file [x8, (.func (.func F_wal_Log_take_2) #[] #[])] (fun v107 W =>
  okF (lenP (.slice T_wal_file) x8) fun v109 =>
  loopK (fun K1 s W => S.wal_Log_take.l1 R K1 (nthv s 0) (nthv s 1) (nthv s 2) (nthv s 3) W) [x0, x8, v109, (.int .i64 0)] W) W
def S.wal_Log_take.j4 (K2 : List Value → World → Prop) (x0 x5 x8 x44 x45 x46 : Value) (W : World) : Prop :=
  okF (binP .add x46 (.int .i64 1)) fun v105 =>
  K2 [x0, x5, x8, x44, x45, v105] W
def S.wal_Log_take.j5 (J4 : List Value → World → Prop) (x0 x5 x8 x10 x44 x45 x46 : Value) (W : World) : Prop :=
  okF (nilP x0) fun v89 =>
  okF (addrF 4 v89) fun v90 =>
  rdK PR (Instr.loadAt T_s_int v90) (fun v91 W =>
  okF (addrF 0 x10) fun v92 =>
  rdK PR (Instr.loadAt T_int v92) (fun v93 W =>
  efK PR (Instr.buildSlice T_s_int 1 #[(0, v93)]) (fun v94 W =>
  stb PR [(4, true, (Instr.loadAt T_s_int v90), v91)] (fun W =>
  efK PR (Builtin.append_ #[T_s_int, T_s_int] T_s_int #[v91, v94]) (fun v95 W =>
  okF (nilP x0) fun v96 =>
  okF (addrF 4 v96) fun v97 =>
  efK PR (Instr.storeAt T_s_int v97 v95) (fun _ W =>
  okF (nilP x0) fun v99 =>
  okF (addrF 0 v99) fun v100 =>
  rdK PR (Instr.loadAt T_p_disk_Disk v100) (fun v101 W =>
  okF (addrF 0 x10) fun v102 =>
  rdK PR (Instr.loadAt T_int v102) (fun v103 W =>
  callK PR F_disk_Disk_Sync [v101, v103] (fun v104 W =>
  J4 [x0, x5, x8, x44, x45, x46] W) W) W) (tick W)) W) W) W) W) W) (tick W)
def S.wal_Log_take.l2 (J2 : List Value → World → Prop) (K2 : List Value → World → Prop) (x0 x5 x8 x44 x45 x46 : Value) (W : World) : Prop :=
  okF (binP .lss x46 x45) fun v47 =>
  ifK v47 (
  joinK (fun s W => S.wal_Log_take.j4 K2 (nthv s 0) (nthv s 1) (nthv s 2) (nthv s 3) (nthv s 4) (nthv s 5) W) (fun J4 =>
  okF (idxS 6 x44 x46) fun v48 =>
  rdK PR (Instr.loadAt T_wal_file v48) (fun v49 W =>
  efK PR (Instr.alloc T_wal_file true (.tuple #[])) (fun v10 W =>
  efK PR (Instr.storeAt T_wal_file v10 v49) (fun _ W =>
  joinK (fun s W => S.wal_Log_take.j5 J4 (nthv s 0) (nthv s 1) (nthv s 2) (nthv s 3) (nthv s 4) (nthv s 5) (nthv s 6) W) (fun J5 =>
  okF (addrF 3 v10) fun v58 =>
  rdK PR (Instr.loadAt T_uint64 v58) (fun v59 W =>
  okF (nilP x0) fun v61 =>
  okF (addrF 3 v61) fun v62 =>
  rdK PR (Instr.loadAt T_uint64 v62) (fun v63 W =>
  okF (binP .eql v59 v63) fun v64 =>
  gdK (wantd v64 true) (fun k W => okF (addrF 1 v10) fun v => k v W) (fun v66 W =>
  gdK (wantd v64 true) (fun k W => rdK PR (Instr.loadAt T_int v66) k W) (fun v67 W =>
  gdK (wantd v64 true) (fun k W => okF (binP .eql v67 (.int .i64 1)) fun v => k v W) (fun v68 W =>
  okF (pickP v64 v68 (.bool false)) fun v69 =>
  ifK v69 (
  rdK PR (Instr.loadAt T_wal_file v10) (fun v71 W =>
  efK PR (Instr.buildSlice T_s_wal_file 1 #[(0, v71)]) (fun v72 W =>
  efK PR (Builtin.append_ #[T_s_wal_file, T_s_wal_file] T_s_wal_file #[x8, v72]) (fun v73 W =>
  J5 [x0, x5, v73, v10, x44, x45, x46] W) W) W) W) (
  okF (addrF 3 v10) fun v75 =>
  rdK PR (Instr.loadAt T_uint64 v75) (fun v76 W =>
  okF (nilP x0) fun v78 =>
  okF (addrF 3 v78) fun v79 =>
  rdK PR (Instr.loadAt T_uint64 v79) (fun v80 W =>
  okF (binP .eql v76 v80) fun v81 =>
  gdK (wantd v81 true) (fun k W => k x5 W) (fun v83 W =>
  gdK (wantd v81 true) (fun k W => rdK PR (Instr.loadAt T_wal_file v10) k W) (fun v84 W =>
  gdK (wantd v81 true) (fun k W => vcK PR v83 [v84] k W) (fun v85 W =>
  okF (pickP v81 v85 (.bool false)) fun v86 =>
  ifK v86 (
  J5 [x0, x5, x8, v10, x44, x45, x46] W) (
  okF (nilP x0) fun v51 =>
  okF (addrF 0 v51) fun v52 =>
  rdK PR (Instr.loadAt T_p_disk_Disk v52) (fun v53 W =>
  okF (addrF 0 v10) fun v54 =>
  rdK PR (Instr.loadAt T_int v54) (fun v55 W =>
  callK PR F_disk_Disk_Drop [v53, v55] (fun v56 W =>
  J4 [x0, x5, x8, x44, x45, x46] W) W) W) (tick W))) W) W) W) W) (tick W))) W) W) W) W) (tick W))) W) W) W)) (
  J2 [x0, x8] W)
def S.wal_Log_take.j1 (R : Value → World → Prop) (x0 x1 x5 : Value) (W : World) : Prop :=
  joinK (fun s W => S.wal_Log_take.j2 R (nthv s 0) (nthv s 1) W) (fun J2 =>
  okF (lenP (.slice T_wal_file) x1) fun v45 =>
  loopK (fun K2 s W => S.wal_Log_take.l2 J2 K2 (nthv s 0) (nthv s 1) (nthv s 2) (nthv s 3) (nthv s 4) (nthv s 5) W) [x0, x5, (.slice none 0 0), x1, v45, (.int .i64 0)] W)
def S.wal_Log_take.j6 (K3 : List Value → World → Prop) (x0 x1 x5 x13 x14 x15 : Value) (W : World) : Prop :=
  okF (binP .add x15 (.int .i64 1)) fun v43 =>
  K3 [x0, x1, x5, x13, x14, v43] W
def S.wal_Log_take.l3 (J1 : List Value → World → Prop) (K3 : List Value → World → Prop) (x0 x1 x5 x13 x14 x15 : Value) (W : World) : Prop :=
  okF (binP .lss x15 x14) fun v16 =>
  ifK v16 (
  joinK (fun s W => S.wal_Log_take.j6 K3 (nthv s 0) (nthv s 1) (nthv s 2) (nthv s 3) (nthv s 4) (nthv s 5) W) (fun J6 =>
  okF (idxS 6 x13 x15) fun v17 =>
  rdK PR (Instr.loadAt T_wal_file v17) (fun v18 W =>
  efK PR (Instr.alloc T_wal_file true (.tuple #[])) (fun v7 W =>
  efK PR (Instr.storeAt T_wal_file v7 v18) (fun _ W =>
  rdK PR (Instr.loadAt T_wal_file v7) (fun v20 W =>
  vcK PR x5 [v20] (fun v21 W =>
  gdK (wantd v21 true) (fun k W => okF (addrF 3 v7) fun v => k v W) (fun v23 W =>
  gdK (wantd v21 true) (fun k W => rdK PR (Instr.loadAt T_uint64 v23) k W) (fun v24 W =>
  gdK (wantd v21 true) (fun k W => k x0 W) (fun v25 W =>
  gdK (wantd v21 true) (fun k W => okF (nilP v25) fun v => k v W) (fun v26 W =>
  gdK (wantd v21 true) (fun k W => okF (addrF 3 v26) fun v => k v W) (fun v27 W =>
  gdK (wantd v21 true) (fun k W => rdK PR (Instr.loadAt T_uint64 v27) k W) (fun v28 W =>
  gdK (wantd v21 true) (fun k W => okF (binP .gtr v24 v28) fun v => k v W) (fun v29 W =>
  okF (pickP v21 v29 (.bool false)) fun v30 =>
  ifK v30 (
  okF (addrF 3 v7) fun v33 =>
  rdK PR (Instr.loadAt T_uint64 v33) (fun v34 W =>
  okF (addrF 4 v7) fun v35 =>
  rdK PR (Instr.loadAt T_s_s_uint8 v35) (fun v36 W =>
  okF (idxS 1 v36 (.int .i64 0)) fun v37 =>
  rdK PR (Instr.loadAt T_s_uint8 v37) (fun v38 W =>
  okF (nilP x0) fun v39 =>
  okF (addrF 3 v39) fun v40 =>
  efK PR (Instr.storeAt T_uint64 v40 v34) (fun _ W =>
  okF (nilP x0) fun v41 =>
  okF (addrF 9 v41) fun v42 =>
  efK PR (Instr.storeAt T_s_uint8 v42 v38) (fun _ W =>
  J6 [x0, x1, x5, x13, x14, x15] W) W) W) W) W) (tick W)) (
  J6 [x0, x1, x5, x13, x14, x15] W)) W) W) W) W) W) W) W) W) (tick W)) W) W) W)) (
  J1 [x0, x1, x5] W)
def S.wal_Log_take.body (R : Value → World → Prop) (v0 v1 : Value) (W : World) : Prop :=
  joinK (fun s W => S.wal_Log_take.j1 R (nthv s 0) (nthv s 1) (nthv s 2) W) (fun J1 =>
  okF (lenP (.slice T_wal_file) v1) fun v14 =>
  loopK (fun K3 s W => S.wal_Log_take.l3 J1 K3 (nthv s 0) (nthv s 1) (nthv s 2) (nthv s 3) (nthv s 4) (nthv s 5) W) [v0, v1, (.func (.func F_wal_Log_take_1) #[] #[]), v1, v14, (.int .i64 0)] W)
def S.wal_Log_take.hint : Hint := (.two .nil (.two .nil (.at [0, 1, 5] (.two .nil (.at [0, 1, 5, 13, 14, 15] (.two .nil (.two (.two .nil .nil) (.at [0, 1, 5, 13, 14, 15] (.two .nil (.two .nil (.two .nil .nil))) .nil))) .nil)) (.two .nil (.at [0, 8] (.two .nil (.at [0, 5, 8, 44, 45, 46] (.two .nil (.two (.two .nil .nil) (.at [0, 5, 8, 44, 45, 46] (.two .nil (.at [0, 5, 8, 10, 44, 45, 46] (.two .nil (.two .nil (.two .nil (.two .nil (.two .nil .nil))))) (.two .nil .nil))) .nil))) .nil)) (.two .nil (.two (.two .nil (.at [0, 108, 109, 110] (.two .nil (.two (.two .nil .nil) (.at [0, 108, 109, 110] (.two .nil (.two (.two .nil (.two (.two .nil .nil) .nil)) (.two .nil (.two .nil (.two .nil (.two .nil .nil)))))) .nil))) .nil)) (.two .nil .nil))))))))
theorem S.wal_Log_take.ok (R : Value → World → Prop) (v0 v1 : Value) (W : World) : bodyK PR CB Try.f54 S.wal_Log_take.hint [v0, v1] R W = S.wal_Log_take.body R v0 v1 W := by kernel_rfl
theorem S.wal_Log_take.fn : PR.funcs[F_wal_Log_take]? = some Try.f54 := by kernel_rfl
theorem S.wal_Log_take.call {R : Value → World → Prop} {v0 v1 : Value} {W : World} (h : S.wal_Log_take.body R v0 v1 W) : callK PR F_wal_Log_take [v0, v1] R W :=
  callK_of_body (g := F_wal_Log_take) (fn := Try.f54) (args := [v0, v1]) (R := R) (w := W) mixed CBok S.wal_Log_take.fn S.wal_Log_take.hint (by rw [S.wal_Log_take.ok]; exact h)
/-! ### (*rostrum/wal.Log).take$1 (66) -/
def S.wal_Log_take_1.body (R : Value → World → Prop) (v0 : Value) (W : World) : Prop :=
  efK PR (Instr.box T_wal_file v0) (fun v1 W =>
  okF (addrF 1 v1) fun v3 =>
  rdK PR (Instr.loadAt T_int v3) (fun v4 W =>
  okF (binP .eql v4 (.int .i64 0)) fun v5 =>
  gdK (wantd v5 true) (fun k W => okF (addrF 4 v1) fun v => k v W) (fun v7 W =>
  gdK (wantd v5 true) (fun k W => rdK PR (Instr.loadAt T_s_s_uint8 v7) k W) (fun v8 W =>
  gdK (wantd v5 true) (fun k W => okF (lenP (.slice T_s_uint8) v8) fun v => k v W) (fun v9 W =>
  gdK (wantd v5 true) (fun k W => okF (binP .eql v9 (.int .i64 1)) fun v => k v W) (fun v10 W =>
  okF (pickP v5 v10 (.bool false)) fun v11 =>
  gdK (wantd v11 true) (fun k W => okF (addrF 5 v1) fun v => k v W) (fun v13 W =>
  gdK (wantd v11 true) (fun k W => rdK PR (Instr.loadAt T_bool v13) k W) (fun v14 W =>
  gdK (wantd v11 true) (fun k W => okF (unP .not v14) fun v => k v W) (fun v15 W =>
  okF (pickP v11 v15 (.bool false)) fun v16 =>
  R v16 W) W) W) W) W) W) W) W) W) W
def S.wal_Log_take_1.hint : Hint := (.two .nil (.two .nil .nil))
theorem S.wal_Log_take_1.ok (R : Value → World → Prop) (v0 : Value) (W : World) : bodyK PR CB Try.f66 S.wal_Log_take_1.hint [v0] R W = S.wal_Log_take_1.body R v0 W := by kernel_rfl
theorem S.wal_Log_take_1.fn : PR.funcs[F_wal_Log_take_1]? = some Try.f66 := by kernel_rfl
theorem S.wal_Log_take_1.call {R : Value → World → Prop} {v0 : Value} {W : World} (h : S.wal_Log_take_1.body R v0 W) : callK PR F_wal_Log_take_1 [v0] R W :=
  callK_of_body (g := F_wal_Log_take_1) (fn := Try.f66) (args := [v0]) (R := R) (w := W) mixed CBok S.wal_Log_take_1.fn S.wal_Log_take_1.hint (by rw [S.wal_Log_take_1.ok]; exact h)
/-! ### (*rostrum/wal.Log).take$2 (68) -/
def S.wal_Log_take_2.body (R : Value → World → Prop) (v0 v1 : Value) (W : World) : Prop :=
  efK PR (Instr.box T_wal_file v0) (fun v2 W =>
  efK PR (Instr.box T_wal_file v1) (fun v3 W =>
  okF (addrF 2 v2) fun v5 =>
  rdK PR (Instr.loadAt T_int v5) (fun v6 W =>
  okF (addrF 2 v3) fun v7 =>
  rdK PR (Instr.loadAt T_int v7) (fun v8 W =>
  callK PR F_cmp_Compare_int [v6, v8] (fun v9 W =>
  R v9 W) W) W) W) W) W
def S.wal_Log_take_2.hint : Hint := (.two .nil (.two .nil .nil))
theorem S.wal_Log_take_2.ok (R : Value → World → Prop) (v0 v1 : Value) (W : World) : bodyK PR CB Try.f68 S.wal_Log_take_2.hint [v0, v1] R W = S.wal_Log_take_2.body R v0 v1 W := by kernel_rfl
theorem S.wal_Log_take_2.fn : PR.funcs[F_wal_Log_take_2]? = some Try.f68 := by kernel_rfl
theorem S.wal_Log_take_2.call {R : Value → World → Prop} {v0 v1 : Value} {W : World} (h : S.wal_Log_take_2.body R v0 v1 W) : callK PR F_wal_Log_take_2 [v0, v1] R W :=
  callK_of_body (g := F_wal_Log_take_2) (fn := Try.f68) (args := [v0, v1]) (R := R) (w := W) mixed CBok S.wal_Log_take_2.fn S.wal_Log_take_2.hint (by rw [S.wal_Log_take_2.ok]; exact h)
/-! ### rostrum/wal.Open (36) -/
def S.wal_Open.body (R : Value → World → Prop) (v0 v1 : Value) (W : World) : Prop :=
  okF (binP .lss v1 (.int .i64 1)) fun v11 =>
  gdK (wantd v11 false) (fun k W => k v1 W) (fun v13 W =>
  gdK (wantd v11 false) (fun k W => okF (binP .gtr v13 (.int .i64 1000)) fun v => k v W) (fun v14 W =>
  okF (pickP v11 (.bool true) v14) fun v15 =>
  ifK v15 (
  R (.tuple #[(.pointer none), (.int .i64 1)]) W) (
  callK PR F_disk_Disk_Power [v0] (fun v17 W =>
  okF (unP .not v17) fun v18 =>
  ifK v18 (
  R (.tuple #[(.pointer none), (.int .i64 7)]) W) (
  callK PR F_wal_readAll [v0] (fun v21 W =>
  okF (extP 0 v21) fun v22 =>
  okF (extP 1 v21) fun v23 =>
  okF (binP .neq v23 (.int .i64 0)) fun v25 =>
  ifK v25 (
  R (.tuple #[(.pointer none), v23]) W) (
  callK PR F_disk_Disk_Lives [v0] (fun v30 W =>
  okF (bldP (fun i => ([(0, 1), (1, 1), (2, 1), (3, 1), (4, 1), (5, 1), (6, 1), (7, 1), (8, 1), (9, 1), (10, 1), (11, 1)] : List (Nat × Nat))[i]?) [.pointer none, .int .i64 0, .int .i64 0, .int .u64 0, .slice none 0 0, .int .i64 0, .int .i64 0, .int .i64 0, .slice none 0 0, .slice none 0 0, .slice none 0 0, .bool false] [(0, v0), (1, v1), (2, v30), (5, (.int .i64 (-1)))]) fun v31 =>
  efK PR (Instr.box T_wal_Log v31) (fun v32 W =>
  callK PR F_wal_Log_take [v32, v22] (fun v35 W =>
  okF (binP .neq v35 (.int .i64 0)) fun v37 =>
  ifK v37 (
  R (.tuple #[(.pointer none), v35]) W) (
  R (.tuple #[v32, (.int .i64 0)]) W)) W) W) W)) W)) W)) W) W
def S.wal_Open.hint : Hint := (.two .nil (.two (.two .nil (.two (.two .nil .nil) .nil)) (.two (.two .nil (.two (.two .nil .nil) .nil)) (.two .nil (.two (.two .nil (.two (.two .nil .nil) .nil)) (.two .nil (.two (.two .nil (.two .nil (.two (.two .nil .nil) .nil))) (.two .nil .nil))))))))
theorem S.wal_Open.ok (R : Value → World → Prop) (v0 v1 : Value) (W : World) : bodyK PR CB Try.f36 S.wal_Open.hint [v0, v1] R W = S.wal_Open.body R v0 v1 W := by kernel_rfl
theorem S.wal_Open.fn : PR.funcs[F_wal_Open]? = some Try.f36 := by kernel_rfl
theorem S.wal_Open.call {R : Value → World → Prop} {v0 v1 : Value} {W : World} (h : S.wal_Open.body R v0 v1 W) : callK PR F_wal_Open [v0, v1] R W :=
  callK_of_body (g := F_wal_Open) (fn := Try.f36) (args := [v0, v1]) (R := R) (w := W) mixed CBok S.wal_Open.fn S.wal_Open.hint (by rw [S.wal_Open.ok]; exact h)
/-! ### (*rostrum/wal.Log).Done (39) -/
def S.wal_Log_Done.body (R : Value → World → Prop) (v0 : Value) (W : World) : Prop :=
  okF (nilP v0) fun v4 =>
  okF (addrF 11 v4) fun v5 =>
  rdK PR (Instr.loadAt T_bool v5) (fun v6 W =>
  gdK (wantd v6 false) (fun k W => k v0 W) (fun v8 W =>
  gdK (wantd v6 false) (fun k W => okF (nilP v8) fun v => k v W) (fun v9 W =>
  gdK (wantd v6 false) (fun k W => okF (addrF 0 v9) fun v => k v W) (fun v10 W =>
  gdK (wantd v6 false) (fun k W => rdK PR (Instr.loadAt T_p_disk_Disk v10) k W) (fun v11 W =>
  gdK (wantd v6 false) (fun k W => callK PR F_disk_Disk_Power [v11] k W) (fun v12 W =>
  gdK (wantd v6 false) (fun k W => okF (unP .not v12) fun v => k v W) (fun v13 W =>
  okF (pickP v6 (.bool true) v13) fun v14 =>
  gdK (wantd v14 false) (fun k W => k v0 W) (fun v16 W =>
  gdK (wantd v14 false) (fun k W => okF (nilP v16) fun v => k v W) (fun v17 W =>
  gdK (wantd v14 false) (fun k W => okF (addrF 0 v17) fun v => k v W) (fun v18 W =>
  gdK (wantd v14 false) (fun k W => rdK PR (Instr.loadAt T_p_disk_Disk v18) k W) (fun v19 W =>
  gdK (wantd v14 false) (fun k W => k v0 W) (fun v21 W =>
  gdK (wantd v14 false) (fun k W => okF (nilP v21) fun v => k v W) (fun v22 W =>
  gdK (wantd v14 false) (fun k W => okF (addrF 2 v22) fun v => k v W) (fun v23 W =>
  gdK (wantd v14 false) (fun k W => rdK PR (Instr.loadAt T_int v23) k W) (fun v24 W =>
  gdK (wantd v14 false) (fun k W => callK PR F_disk_Disk_Lives [v19] (fun v W => stb PR [(21, (wantd v14 false), (Instr.loadAt T_int v23), v24)] (fun W => k v W) W) W) (fun v20 W =>
  gdK (wantd v14 false) (fun k W => okF (binP .neq v20 v24) fun v => k v W) (fun v25 W =>
  okF (pickP v14 (.bool true) v25) fun v26 =>
  R v26 W) W) W) W) W) W) W) W) W) W) W) W) W) W) W) W) W) (tick W)
def S.wal_Log_Done.hint : Hint := (.two .nil (.two .nil .nil))
theorem S.wal_Log_Done.ok (R : Value → World → Prop) (v0 : Value) (W : World) : bodyK PR CB Try.f39 S.wal_Log_Done.hint [v0] R W = S.wal_Log_Done.body R v0 W := by kernel_rfl
theorem S.wal_Log_Done.fn : PR.funcs[F_wal_Log_Done]? = some Try.f39 := by kernel_rfl
theorem S.wal_Log_Done.call {R : Value → World → Prop} {v0 : Value} {W : World} (h : S.wal_Log_Done.body R v0 W) : callK PR F_wal_Log_Done [v0] R W :=
  callK_of_body (g := F_wal_Log_Done) (fn := Try.f39) (args := [v0]) (R := R) (w := W) mixed CBok S.wal_Log_Done.fn S.wal_Log_Done.hint (by rw [S.wal_Log_Done.ok]; exact h)
/-! ### (*rostrum/wal.Log).free (56) -/
def S.wal_Log_free.l1 (R : Value → World → Prop) (K1 : List Value → World → Prop) (x0 x4 : Value) (W : World) : Prop :=
  okF (binP .lss x4 (.int .i64 1000)) fun v5 =>
  ifK v5 (
  okF (nilP x0) fun v8 =>
  okF (addrF 4 v8) fun v9 =>
  rdK PR (Instr.loadAt T_s_int v9) (fun v10 W =>
  callK PR F_slices_Contains_int_int [v10, x4] (fun v12 W =>
  okF (unP .not v12) fun v13 =>
  ifK v13 (
  R x4 W) (
  okF (binP .add x4 (.int .i64 1)) fun v15 =>
  K1 [x0, v15] W)) W) W) (
  R (.int .i64 (-1)) W)
def S.wal_Log_free.body (R : Value → World → Prop) (v0 : Value) (W : World) : Prop :=
  loopK (fun K1 s W => S.wal_Log_free.l1 R K1 (nthv s 0) (nthv s 1) W) [v0, (.int .i64 0)] W
def S.wal_Log_free.hint : Hint := (.two .nil (.two (.two .nil (.at [0, 4] (.two .nil (.two (.two .nil .nil) (.two (.two .nil (.two .nil (.two (.two .nil .nil) .nil))) .nil))) .nil)) (.two .nil .nil)))
theorem S.wal_Log_free.ok (R : Value → World → Prop) (v0 : Value) (W : World) : bodyK PR CB Try.f56 S.wal_Log_free.hint [v0] R W = S.wal_Log_free.body R v0 W := by kernel_rfl
theorem S.wal_Log_free.fn : PR.funcs[F_wal_Log_free]? = some Try.f56 := by kernel_rfl
theorem S.wal_Log_free.call {R : Value → World → Prop} {v0 : Value} {W : World} (h : S.wal_Log_free.body R v0 W) : callK PR F_wal_Log_free [v0] R W :=
  callK_of_body (g := F_wal_Log_free) (fn := Try.f56) (args := [v0]) (R := R) (w := W) mixed CBok S.wal_Log_free.fn S.wal_Log_free.hint (by rw [S.wal_Log_free.ok]; exact h)
/-! ### (*rostrum/wal.Log).write (57) -/
def S.wal_Log_write.body (R : Value → World → Prop) (v0 v1 v2 : Value) (W : World) : Prop :=
  okF (nilP v0) fun v9 =>
  okF (addrF 0 v9) fun v10 =>
  rdK PR (Instr.loadAt T_p_disk_Disk v10) (fun v11 W =>
  callK PR F_disk_Disk_Append [v11, v1, v2] (fun v14 W =>
  okF (binP .neq v14 (.int .i64 0)) fun v16 =>
  ifK v16 (
  okF (nilP v0) fun v18 =>
  okF (addrF 11 v18) fun v19 =>
  efK PR (Instr.storeAt T_bool v19 (.bool true)) (fun _ W =>
  R v14 W) W) (
  okF (nilP v0) fun v22 =>
  okF (addrF 8 v22) fun v23 =>
  rdK PR (Instr.loadAt T_s_int v23) (fun v24 W =>
  callK PR F_slices_Contains_int_int [v24, v1] (fun v26 W =>
  okF (unP .not v26) fun v27 =>
  ifK v27 (
  okF (nilP v0) fun v30 =>
  okF (addrF 8 v30) fun v31 =>
  rdK PR (Instr.loadAt T_s_int v31) (fun v32 W =>
  efK PR (Instr.buildSlice T_s_int 1 #[(0, v1)]) (fun v34 W =>
  efK PR (Builtin.append_ #[T_s_int, T_s_int] T_s_int #[v32, v34]) (fun v35 W =>
  okF (nilP v0) fun v36 =>
  okF (addrF 8 v36) fun v37 =>
  efK PR (Instr.storeAt T_s_int v37 v35) (fun _ W =>
  R (.int .i64 0) W) W) W) W) W) (
  R (.int .i64 0) W)) W) W)) W) W
def S.wal_Log_write.hint : Hint := (.two .nil (.two .nil (.two (.two .nil (.two (.two .nil (.two .nil .nil)) .nil)) (.two (.two .nil (.two .nil .nil)) (.two .nil .nil)))))
theorem S.wal_Log_write.ok (R : Value → World → Prop) (v0 v1 v2 : Value) (W : World) : bodyK PR CB Try.f57 S.wal_Log_write.hint [v0, v1, v2] R W = S.wal_Log_write.body R v0 v1 v2 W := by kernel_rfl
theorem S.wal_Log_write.fn : PR.funcs[F_wal_Log_write]? = some Try.f57 := by kernel_rfl
theorem S.wal_Log_write.call {R : Value → World → Prop} {v0 v1 v2 : Value} {W : World} (h : S.wal_Log_write.body R v0 v1 v2 W) : callK PR F_wal_Log_write [v0, v1, v2] R W :=
  callK_of_body (g := F_wal_Log_write) (fn := Try.f57) (args := [v0, v1, v2]) (R := R) (w := W) mixed CBok S.wal_Log_write.fn S.wal_Log_write.hint (by rw [S.wal_Log_write.ok]; exact h)
/-! ### (*rostrum/wal.Log).add (55) -/
def S.wal_Log_add.j1 (R : Value → World → Prop) (x0 x5 : Value) (W : World) : Prop :=
  okF (nilP x0) fun v65 =>
  okF (addrF 5 v65) fun v66 =>
  rdK PR (Instr.loadAt T_int v66) (fun v67 W =>
  okF (binP .lss v67 (.int .i64 0)) fun v68 =>
  ifK v68 (
  okF (nilP x0) fun v70 =>
  okF (addrF 11 v70) fun v71 =>
  efK PR (Instr.storeAt T_bool v71 (.bool true)) (fun _ W =>
  R (.int .i64 6) W) W) (
  okF (nilP x0) fun v73 =>
  okF (addrF 6 v73) fun v74 =>
  rdK PR (Instr.loadAt T_int v74) (fun v75 W =>
  okF (binP .add v75 (.int .i64 1)) fun v76 =>
  okF (nilP x0) fun v77 =>
  okF (addrF 6 v77) fun v78 =>
  efK PR (Instr.storeAt T_int v78 v76) (fun _ W =>
  okF (nilP x0) fun v81 =>
  okF (addrF 5 v81) fun v82 =>
  rdK PR (Instr.loadAt T_int v82) (fun v83 W =>
  callK PR F_wal_Log_write [x0, v83, x5] (fun v85 W =>
  R v85 W) W) W) W) W)) W
def S.wal_Log_add.body (R : Value → World → Prop) (v0 v1 : Value) (W : World) : Prop :=
  callK PR F_wal_unit [v1] (fun v8 W =>
  joinK (fun s W => S.wal_Log_add.j1 R (nthv s 0) (nthv s 1) W) (fun J1 =>
  okF (nilP v0) fun v10 =>
  okF (addrF 5 v10) fun v11 =>
  rdK PR (Instr.loadAt T_int v11) (fun v12 W =>
  okF (binP .lss v12 (.int .i64 0)) fun v13 =>
  gdK (wantd v13 false) (fun k W => k v0 W) (fun v15 W =>
  gdK (wantd v13 false) (fun k W => okF (nilP v15) fun v => k v W) (fun v16 W =>
  gdK (wantd v13 false) (fun k W => okF (addrF 6 v16) fun v => k v W) (fun v17 W =>
  gdK (wantd v13 false) (fun k W => rdK PR (Instr.loadAt T_int v17) k W) (fun v18 W =>
  gdK (wantd v13 false) (fun k W => k v0 W) (fun v19 W =>
  gdK (wantd v13 false) (fun k W => okF (nilP v19) fun v => k v W) (fun v20 W =>
  gdK (wantd v13 false) (fun k W => okF (addrF 1 v20) fun v => k v W) (fun v21 W =>
  gdK (wantd v13 false) (fun k W => rdK PR (Instr.loadAt T_int v21) k W) (fun v22 W =>
  gdK (wantd v13 false) (fun k W => okF (binP .geq v18 v22) fun v => k v W) (fun v23 W =>
  okF (pickP v13 (.bool true) v23) fun v24 =>
  ifK v24 (
  callK PR F_wal_Log_free [v0] (fun v26 W =>
  okF (binP .geq v26 (.int .i64 0)) fun v28 =>
  ifK v28 (
  okF (nilP v0) fun v30 =>
  okF (addrF 3 v30) fun v31 =>
  rdK PR (Instr.loadAt T_uint64 v31) (fun v32 W =>
  okF (nilP v0) fun v34 =>
  okF (addrF 7 v34) fun v35 =>
  rdK PR (Instr.loadAt T_int v35) (fun v36 W =>
  callK PR F_wal_top [(.int .i64 1), v32, v36] (fun v37 W =>
  efK PR (Builtin.append_ #[T_s_uint8, T_s_uint8] T_s_uint8 #[v37, v8]) (fun v39 W =>
  okF (nilP v0) fun v42 =>
  okF (addrF 4 v42) fun v43 =>
  rdK PR (Instr.loadAt T_s_int v43) (fun v44 W =>
  efK PR (Instr.buildSlice T_s_int 1 #[(0, v26)]) (fun v46 W =>
  efK PR (Builtin.append_ #[T_s_int, T_s_int] T_s_int #[v44, v46]) (fun v47 W =>
  okF (nilP v0) fun v48 =>
  okF (addrF 4 v48) fun v49 =>
  efK PR (Instr.storeAt T_s_int v49 v47) (fun _ W =>
  okF (nilP v0) fun v53 =>
  okF (addrF 5 v53) fun v54 =>
  efK PR (Instr.storeAt T_int v54 v26) (fun _ W =>
  okF (nilP v0) fun v55 =>
  okF (addrF 6 v55) fun v56 =>
  efK PR (Instr.storeAt T_int v56 (.int .i64 0)) (fun _ W =>
  okF (nilP v0) fun v58 =>
  okF (addrF 7 v58) fun v59 =>
  rdK PR (Instr.loadAt T_int v59) (fun v60 W =>
  okF (binP .add v60 (.int .i64 1)) fun v61 =>
  okF (nilP v0) fun v62 =>
  okF (addrF 7 v62) fun v63 =>
  efK PR (Instr.storeAt T_int v63 v61) (fun _ W =>
  J1 [v0, v39] W) W) W) W) W) W) W) W) W) W) W) W) (tick W)) (
  J1 [v0, v8] W)) W) (
  J1 [v0, v8] W)) W) W) W) W) W) W) W) W) W) (tick W))) W
def S.wal_Log_add.hint : Hint := (.two .nil (.two .nil (.at [0, 5] (.two .nil (.two (.two .nil (.two .nil (.two (.two .nil (.two .nil (.two .nil .nil))) .nil))) .nil)) (.two (.two .nil (.two (.two .nil (.two .nil .nil)) .nil)) (.two .nil (.two .nil .nil))))))
theorem S.wal_Log_add.ok (R : Value → World → Prop) (v0 v1 : Value) (W : World) : bodyK PR CB Try.f55 S.wal_Log_add.hint [v0, v1] R W = S.wal_Log_add.body R v0 v1 W := by kernel_rfl
theorem S.wal_Log_add.fn : PR.funcs[F_wal_Log_add]? = some Try.f55 := by kernel_rfl
theorem S.wal_Log_add.call {R : Value → World → Prop} {v0 v1 : Value} {W : World} (h : S.wal_Log_add.body R v0 v1 W) : callK PR F_wal_Log_add [v0, v1] R W :=
  callK_of_body (g := F_wal_Log_add) (fn := Try.f55) (args := [v0, v1]) (R := R) (w := W) mixed CBok S.wal_Log_add.fn S.wal_Log_add.hint (by rw [S.wal_Log_add.ok]; exact h)
/-! ### (*rostrum/wal.Log).Add (37) -/
def S.wal_Log_Add.l1 (R : Value → World → Prop) (K1 : List Value → World → Prop) (x0 x37 x38 x39 : Value) (W : World) : Prop :=
  okF (binP .lss x39 x38) fun v40 =>
  ifK v40 (
  okF (idxS 1 x37 x39) fun v41 =>
  rdK PR (Instr.loadAt T_s_uint8 v41) (fun v42 W =>
  okF (nilP x0) fun v45 =>
  okF (addrF 10 v45) fun v46 =>
  rdK PR (Instr.loadAt T_s_s_uint8 v46) (fun v47 W =>
  callK PR F_bytes_Clone [v42] (fun v49 W =>
  stb PR [(4, true, (Instr.loadAt T_s_s_uint8 v46), v47)] (fun W =>
  efK PR (Instr.buildSlice T_s_s_uint8 1 #[(0, v49)]) (fun v50 W =>
  stb PR [(4, true, (Instr.loadAt T_s_s_uint8 v46), v47)] (fun W =>
  efK PR (Builtin.append_ #[T_s_s_uint8, T_s_s_uint8] T_s_s_uint8 #[v47, v50]) (fun v51 W =>
  okF (nilP x0) fun v52 =>
  okF (addrF 10 v52) fun v53 =>
  efK PR (Instr.storeAt T_s_s_uint8 v53 v51) (fun _ W =>
  okF (binP .add x39 (.int .i64 1)) fun v54 =>
  K1 [x0, x37, x38, v54] W) W) W) W) W) W) W) (tick W)) W) (
  R (.int .i64 0) W)
def S.wal_Log_Add.j2 (R : Value → World → Prop) (x0 x1 : Value) (W : World) : Prop :=
  okF (lenP (.slice T_s_uint8) x1) fun v38 =>
  loopK (fun K1 s W => S.wal_Log_Add.l1 R K1 (nthv s 0) (nthv s 1) (nthv s 2) (nthv s 3) W) [x0, x1, v38, (.int .i64 0)] W
def S.wal_Log_Add.l2 (R : Value → World → Prop) (J2 : List Value → World → Prop) (K2 : List Value → World → Prop) (x0 x1 x24 x25 x26 : Value) (W : World) : Prop :=
  okF (binP .lss x26 x25) fun v27 =>
  ifK v27 (
  okF (idxS 1 x24 x26) fun v28 =>
  rdK PR (Instr.loadAt T_s_uint8 v28) (fun v29 W =>
  callK PR F_wal_Log_add [x0, v29] (fun v32 W =>
  okF (binP .neq v32 (.int .i64 0)) fun v34 =>
  ifK v34 (
  R v32 W) (
  okF (binP .add x26 (.int .i64 1)) fun v36 =>
  K2 [x0, x1, x24, x25, v36] W)) W) W) (
  J2 [x0, x1] W)
def S.wal_Log_Add.j1 (R : Value → World → Prop) (x0 x1 : Value) (W : World) : Prop :=
  joinK (fun s W => S.wal_Log_Add.j2 R (nthv s 0) (nthv s 1) W) (fun J2 =>
  okF (lenP (.slice T_s_uint8) x1) fun v25 =>
  loopK (fun K2 s W => S.wal_Log_Add.l2 R J2 K2 (nthv s 0) (nthv s 1) (nthv s 2) (nthv s 3) (nthv s 4) W) [x0, x1, x1, v25, (.int .i64 0)] W)
def S.wal_Log_Add.l3 (R : Value → World → Prop) (J1 : List Value → World → Prop) (K3 : List Value → World → Prop) (x0 x1 x14 x15 x16 : Value) (W : World) : Prop :=
  okF (binP .lss x16 x15) fun v17 =>
  ifK v17 (
  okF (idxS 1 x14 x16) fun v18 =>
  rdK PR (Instr.loadAt T_s_uint8 v18) (fun v19 W =>
  okF (lenP (.slice T_uint8) v19) fun v21 =>
  okF (binP .gtr v21 (.int .i64 65536)) fun v22 =>
  ifK v22 (
  R (.int .i64 2) W) (
  okF (binP .add x16 (.int .i64 1)) fun v23 =>
  K3 [x0, x1, x14, x15, v23] W)) W) (
  J1 [x0, x1] W)
def S.wal_Log_Add.body (R : Value → World → Prop) (v0 v1 : Value) (W : World) : Prop :=
  callK PR F_wal_Log_Done [v0] (fun v13 W =>
  ifK v13 (
  R (.int .i64 7) W) (
  joinK (fun s W => S.wal_Log_Add.j1 R (nthv s 0) (nthv s 1) W) (fun J1 =>
  okF (lenP (.slice T_s_uint8) v1) fun v15 =>
  loopK (fun K3 s W => S.wal_Log_Add.l3 R J1 K3 (nthv s 0) (nthv s 1) (nthv s 2) (nthv s 3) (nthv s 4) W) [v0, v1, v1, v15, (.int .i64 0)] W))) W
def S.wal_Log_Add.hint : Hint := (.two .nil (.two (.two .nil (.two (.two .nil .nil) .nil)) (.at [0, 1] (.two .nil (.at [0, 1, 14, 15, 16] (.two .nil (.two (.two .nil .nil) (.two (.two .nil (.two .nil (.two (.two .nil .nil) .nil))) .nil))) .nil)) (.at [0, 1] (.two .nil (.at [0, 1, 24, 25, 26] (.two .nil (.two (.two .nil .nil) (.two (.two .nil (.two .nil (.two .nil (.two (.two .nil .nil) .nil)))) .nil))) .nil)) (.two (.two .nil (.at [0, 37, 38, 39] (.two .nil (.two (.two .nil .nil) (.two (.two .nil .nil) .nil))) .nil)) (.two .nil .nil))))))
theorem S.wal_Log_Add.ok (R : Value → World → Prop) (v0 v1 : Value) (W : World) : bodyK PR CB Try.f37 S.wal_Log_Add.hint [v0, v1] R W = S.wal_Log_Add.body R v0 v1 W := by kernel_rfl
theorem S.wal_Log_Add.fn : PR.funcs[F_wal_Log_Add]? = some Try.f37 := by kernel_rfl
theorem S.wal_Log_Add.call {R : Value → World → Prop} {v0 v1 : Value} {W : World} (h : S.wal_Log_Add.body R v0 v1 W) : callK PR F_wal_Log_Add [v0, v1] R W :=
  callK_of_body (g := F_wal_Log_Add) (fn := Try.f37) (args := [v0, v1]) (R := R) (w := W) mixed CBok S.wal_Log_Add.fn S.wal_Log_Add.hint (by rw [S.wal_Log_Add.ok]; exact h)
/-! ### (*rostrum/wal.Log).Sync (38) -/
def S.wal_Log_Sync.j1 (R : Value → World → Prop) (x0 : Value) (W : World) : Prop :=
  okF (nilP x0) fun v28 =>
  okF (addrF 8 v28) fun v29 =>
  efK PR (Instr.storeAt T_s_int v29 (.slice none 0 0)) (fun _ W =>
  R (.int .i64 0) W) W
def S.wal_Log_Sync.l1 (R : Value → World → Prop) (J1 : List Value → World → Prop) (K1 : List Value → World → Prop) (x0 x11 x12 x13 : Value) (W : World) : Prop :=
  okF (binP .lss x13 x12) fun v14 =>
  ifK v14 (
  okF (idxS 1 x11 x13) fun v15 =>
  rdK PR (Instr.loadAt T_int v15) (fun v16 W =>
  okF (nilP x0) fun v18 =>
  okF (addrF 0 v18) fun v19 =>
  rdK PR (Instr.loadAt T_p_disk_Disk v19) (fun v20 W =>
  callK PR F_disk_Disk_Sync [v20, v16] (fun v22 W =>
  okF (binP .neq v22 (.int .i64 0)) fun v24 =>
  ifK v24 (
  R v22 W) (
  okF (binP .add x13 (.int .i64 1)) fun v26 =>
  K1 [x0, x11, x12, v26] W)) W) W) W) (
  J1 [x0] W)
def S.wal_Log_Sync.body (R : Value → World → Prop) (v0 : Value) (W : World) : Prop :=
  callK PR F_wal_Log_Done [v0] (fun v7 W =>
  ifK v7 (
  R (.int .i64 7) W) (
  joinK (fun s W => S.wal_Log_Sync.j1 R (nthv s 0) W) (fun J1 =>
  okF (nilP v0) fun v9 =>
  okF (addrF 8 v9) fun v10 =>
  rdK PR (Instr.loadAt T_s_int v10) (fun v11 W =>
  okF (lenP (.slice T_int) v11) fun v12 =>
  loopK (fun K1 s W => S.wal_Log_Sync.l1 R J1 K1 (nthv s 0) (nthv s 1) (nthv s 2) (nthv s 3) W) [v0, v11, v12, (.int .i64 0)] W) W))) W
def S.wal_Log_Sync.hint : Hint := (.two .nil (.two (.two .nil (.two (.two .nil .nil) .nil)) (.at [0] (.two .nil (.at [0, 11, 12, 13] (.two .nil (.two (.two .nil .nil) (.two (.two .nil (.two .nil (.two .nil (.two (.two .nil .nil) .nil)))) .nil))) .nil)) (.two .nil (.two .nil .nil)))))
theorem S.wal_Log_Sync.ok (R : Value → World → Prop) (v0 : Value) (W : World) : bodyK PR CB Try.f38 S.wal_Log_Sync.hint [v0] R W = S.wal_Log_Sync.body R v0 W := by kernel_rfl
theorem S.wal_Log_Sync.fn : PR.funcs[F_wal_Log_Sync]? = some Try.f38 := by kernel_rfl
theorem S.wal_Log_Sync.call {R : Value → World → Prop} {v0 : Value} {W : World} (h : S.wal_Log_Sync.body R v0 W) : callK PR F_wal_Log_Sync [v0] R W :=
  callK_of_body (g := F_wal_Log_Sync) (fn := Try.f38) (args := [v0]) (R := R) (w := W) mixed CBok S.wal_Log_Sync.fn S.wal_Log_Sync.hint (by rw [S.wal_Log_Sync.ok]; exact h)
/-! ### (*rostrum/wal.Log).Base (43) -/
def S.wal_Log_Base.body (R : Value → World → Prop) (v0 : Value) (W : World) : Prop :=
  okF (nilP v0) fun v4 =>
  okF (addrF 9 v4) fun v5 =>
  rdK PR (Instr.loadAt T_s_uint8 v5) (fun v6 W =>
  callK PR F_bytes_Clone [v6] (fun v7 W =>
  R v7 W) W) W
def S.wal_Log_Base.hint : Hint := (.two .nil (.two .nil .nil))
theorem S.wal_Log_Base.ok (R : Value → World → Prop) (v0 : Value) (W : World) : bodyK PR CB Try.f43 S.wal_Log_Base.hint [v0] R W = S.wal_Log_Base.body R v0 W := by kernel_rfl
theorem S.wal_Log_Base.fn : PR.funcs[F_wal_Log_Base]? = some Try.f43 := by kernel_rfl
theorem S.wal_Log_Base.call {R : Value → World → Prop} {v0 : Value} {W : World} (h : S.wal_Log_Base.body R v0 W) : callK PR F_wal_Log_Base [v0] R W :=
  callK_of_body (g := F_wal_Log_Base) (fn := Try.f43) (args := [v0]) (R := R) (w := W) mixed CBok S.wal_Log_Base.fn S.wal_Log_Base.hint (by rw [S.wal_Log_Base.ok]; exact h)
/-! ### (*rostrum/wal.Log).All (40) -/
def S.wal_Log_All.j1 (R : Value → World → Prop) (x3 : Value) (W : World) : Prop :=
  R x3 W
def S.wal_Log_All.l1 (J1 : List Value → World → Prop) (K1 : List Value → World → Prop) (x3 x9 x10 x11 : Value) (W : World) : Prop :=
  okF (binP .lss x11 x10) fun v12 =>
  ifK v12 (
  okF (idxS 1 x9 x11) fun v13 =>
  rdK PR (Instr.loadAt T_s_uint8 v13) (fun v14 W =>
  callK PR F_bytes_Clone [v14] (fun v17 W =>
  efK PR (Instr.buildSlice T_s_s_uint8 1 #[(0, v17)]) (fun v18 W =>
  efK PR (Builtin.append_ #[T_s_s_uint8, T_s_s_uint8] T_s_s_uint8 #[x3, v18]) (fun v19 W =>
  okF (binP .add x11 (.int .i64 1)) fun v20 =>
  K1 [v19, x9, x10, v20] W) W) W) W) W) (
  J1 [x3] W)
def S.wal_Log_All.body (R : Value → World → Prop) (v0 : Value) (W : World) : Prop :=
  joinK (fun s W => S.wal_Log_All.j1 R (nthv s 0) W) (fun J1 =>
  okF (nilP v0) fun v7 =>
  okF (addrF 10 v7) fun v8 =>
  rdK PR (Instr.loadAt T_s_s_uint8 v8) (fun v9 W =>
  okF (lenP (.slice T_s_uint8) v9) fun v10 =>
  loopK (fun K1 s W => S.wal_Log_All.l1 J1 K1 (nthv s 0) (nthv s 1) (nthv s 2) (nthv s 3) W) [(.slice none 0 0), v9, v10, (.int .i64 0)] W) W)
def S.wal_Log_All.hint : Hint := (.two .nil (.two .nil (.at [3] (.two .nil (.at [3, 9, 10, 11] (.two .nil (.two (.two .nil .nil) (.two (.two .nil .nil) .nil))) .nil)) (.two .nil .nil))))
theorem S.wal_Log_All.ok (R : Value → World → Prop) (v0 : Value) (W : World) : bodyK PR CB Try.f40 S.wal_Log_All.hint [v0] R W = S.wal_Log_All.body R v0 W := by kernel_rfl
theorem S.wal_Log_All.fn : PR.funcs[F_wal_Log_All]? = some Try.f40 := by kernel_rfl
theorem S.wal_Log_All.call {R : Value → World → Prop} {v0 : Value} {W : World} (h : S.wal_Log_All.body R v0 W) : callK PR F_wal_Log_All [v0] R W :=
  callK_of_body (g := F_wal_Log_All) (fn := Try.f40) (args := [v0]) (R := R) (w := W) mixed CBok S.wal_Log_All.fn S.wal_Log_All.hint (by rw [S.wal_Log_All.ok]; exact h)
/-! ### (*rostrum/wal.Log).Keep (42) -/
def S.wal_Log_Keep.j1 (R : Value → World → Prop) (x0 x1 x5 : Value) (W : World) : Prop :=
  okF (nilP x0) fun v61 =>
  okF (addrF 3 v61) fun v62 =>
  rdK PR (Instr.loadAt T_uint64 v62) (fun v63 W =>
  okF (binP .add v63 (.int .u64 1)) fun v64 =>
  okF (nilP x0) fun v65 =>
  okF (addrF 3 v65) fun v66 =>
  efK PR (Instr.storeAt T_uint64 v66 v64) (fun _ W =>
  efK PR (Instr.buildSlice T_s_int 1 #[(0, x5)]) (fun v70 W =>
  okF (nilP x0) fun v71 =>
  okF (addrF 4 v71) fun v72 =>
  efK PR (Instr.storeAt T_s_int v72 v70) (fun _ W =>
  okF (nilP x0) fun v73 =>
  okF (addrF 8 v73) fun v74 =>
  efK PR (Instr.storeAt T_s_int v74 (.slice none 0 0)) (fun _ W =>
  okF (nilP x0) fun v78 =>
  okF (addrF 5 v78) fun v79 =>
  efK PR (Instr.storeAt T_int v79 (.int .i64 (-1))) (fun _ W =>
  okF (nilP x0) fun v80 =>
  okF (addrF 6 v80) fun v81 =>
  efK PR (Instr.storeAt T_int v81 (.int .i64 0)) (fun _ W =>
  okF (nilP x0) fun v82 =>
  okF (addrF 7 v82) fun v83 =>
  efK PR (Instr.storeAt T_int v83 (.int .i64 0)) (fun _ W =>
  callK PR F_bytes_Clone [x1] (fun v87 W =>
  okF (nilP x0) fun v88 =>
  okF (addrF 9 v88) fun v89 =>
  efK PR (Instr.storeAt T_s_uint8 v89 v87) (fun _ W =>
  okF (nilP x0) fun v90 =>
  okF (addrF 10 v90) fun v91 =>
  efK PR (Instr.storeAt T_s_s_uint8 v91 (.slice none 0 0)) (fun _ W =>
  R (.int .i64 0) W) W) W) W) W) W) W) W) W) W) W) W
def S.wal_Log_Keep.l1 (J1 : List Value → World → Prop) (K1 : List Value → World → Prop) (x0 x1 x5 x47 x48 x49 : Value) (W : World) : Prop :=
  okF (binP .lss x49 x48) fun v50 =>
  ifK v50 (
  okF (idxS 1 x47 x49) fun v51 =>
  rdK PR (Instr.loadAt T_int v51) (fun v52 W =>
  okF (nilP x0) fun v54 =>
  okF (addrF 0 v54) fun v55 =>
  rdK PR (Instr.loadAt T_p_disk_Disk v55) (fun v56 W =>
  callK PR F_disk_Disk_Drop [v56, v52] (fun v58 W =>
  okF (binP .add x49 (.int .i64 1)) fun v59 =>
  K1 [x0, x1, x5, x47, x48, v59] W) W) W) W) (
  J1 [x0, x1, x5] W)
def S.wal_Log_Keep.body (R : Value → World → Prop) (v0 v1 : Value) (W : World) : Prop :=
  callK PR F_wal_Log_Done [v0] (fun v11 W =>
  ifK v11 (
  R (.int .i64 7) W) (
  okF (lenP (.slice T_uint8) v1) fun v14 =>
  okF (binP .gtr v14 (.int .i64 65536)) fun v15 =>
  ifK v15 (
  R (.int .i64 2) W) (
  callK PR F_wal_Log_free [v0] (fun v17 W =>
  okF (binP .lss v17 (.int .i64 0)) fun v19 =>
  ifK v19 (
  okF (nilP v0) fun v21 =>
  okF (addrF 11 v21) fun v22 =>
  efK PR (Instr.storeAt T_bool v22 (.bool true)) (fun _ W =>
  R (.int .i64 6) W) W) (
  okF (nilP v0) fun v26 =>
  okF (addrF 3 v26) fun v27 =>
  rdK PR (Instr.loadAt T_uint64 v27) (fun v28 W =>
  okF (binP .add v28 (.int .u64 1)) fun v29 =>
  callK PR F_wal_top [(.int .i64 0), v29, (.int .i64 0)] (fun v30 W =>
  callK PR F_wal_unit [v1] (fun v32 W =>
  efK PR (Builtin.append_ #[T_s_uint8, T_s_uint8] T_s_uint8 #[v30, v32]) (fun v33 W =>
  callK PR F_wal_Log_write [v0, v17, v33] (fun v34 W =>
  okF (binP .neq v34 (.int .i64 0)) fun v36 =>
  ifK v36 (
  R v34 W) (
  okF (nilP v0) fun v39 =>
  okF (addrF 0 v39) fun v40 =>
  rdK PR (Instr.loadAt T_p_disk_Disk v40) (fun v41 W =>
  callK PR F_disk_Disk_Sync [v41, v17] (fun v43 W =>
  joinK (fun s W => S.wal_Log_Keep.j1 R (nthv s 0) (nthv s 1) (nthv s 2) W) (fun J1 =>
  okF (nilP v0) fun v45 =>
  okF (addrF 4 v45) fun v46 =>
  rdK PR (Instr.loadAt T_s_int v46) (fun v47 W =>
  okF (lenP (.slice T_int) v47) fun v48 =>
  loopK (fun K1 s W => S.wal_Log_Keep.l1 J1 K1 (nthv s 0) (nthv s 1) (nthv s 2) (nthv s 3) (nthv s 4) (nthv s 5) W) [v0, v1, v17, v47, v48, (.int .i64 0)] W) W)) W) W)) W) W) W) W) W)) W))) W
def S.wal_Log_Keep.hint : Hint := (.two .nil (.two (.two .nil (.two (.two .nil .nil) (.two .nil (.two (.two .nil .nil) .nil)))) (.two .nil (.two (.two .nil (.two (.two .nil (.two .nil .nil)) .nil)) (.two (.two .nil (.two .nil (.two (.two .nil .nil) .nil))) (.two .nil (.at [0, 1, 5] (.two .nil (.at [0, 1, 5, 47, 48, 49] (.two .nil (.two (.two .nil .nil) (.two (.two .nil .nil) .nil))) .nil)) (.two .nil (.two .nil (.two .nil (.two .nil (.two .nil .nil))))))))))))
theorem S.wal_Log_Keep.ok (R : Value → World → Prop) (v0 v1 : Value) (W : World) : bodyK PR CB Try.f42 S.wal_Log_Keep.hint [v0, v1] R W = S.wal_Log_Keep.body R v0 v1 W := by kernel_rfl
theorem S.wal_Log_Keep.fn : PR.funcs[F_wal_Log_Keep]? = some Try.f42 := by kernel_rfl
theorem S.wal_Log_Keep.call {R : Value → World → Prop} {v0 v1 : Value} {W : World} (h : S.wal_Log_Keep.body R v0 v1 W) : callK PR F_wal_Log_Keep [v0, v1] R W :=
  callK_of_body (g := F_wal_Log_Keep) (fn := Try.f42) (args := [v0, v1]) (R := R) (w := W) mixed CBok S.wal_Log_Keep.fn S.wal_Log_Keep.hint (by rw [S.wal_Log_Keep.ok]; exact h)
end Go.Proofs.Ythladblmjoaeoaa
namespace Go.Proofs.Ythladblmjoaeoaa
set_option linter.unusedVariables false
set_option linter.unusedSimpArgs false
open Go.Eng
/-! ### slices.Contains[[]int,int] (70) -/
def S.slices_Contains_int_int.body (R : Value → World → Prop) (v0 v1 : Value) (W : World) : Prop :=
  callK PR F_slices_Index_int_int [v0, v1] (fun v7 W =>
  okF (binP .geq v7 (.int .i64 0)) fun v8 =>
  R v8 W) W
def S.slices_Contains_int_int.hint : Hint := (.two .nil (.two .nil .nil))
theorem S.slices_Contains_int_int.ok (R : Value → World → Prop) (v0 v1 : Value) (W : World) : bodyK PR CB Try.f70 S.slices_Contains_int_int.hint [v0, v1] R W = S.slices_Contains_int_int.body R v0 v1 W := by kernel_rfl
theorem S.slices_Contains_int_int.fn : PR.funcs[F_slices_Contains_int_int]? = some Try.f70 := by kernel_rfl
theorem S.slices_Contains_int_int.call {R : Value → World → Prop} {v0 v1 : Value} {W : World} (h : S.slices_Contains_int_int.body R v0 v1 W) : callK PR F_slices_Contains_int_int [v0, v1] R W :=
  callK_of_body (g := F_slices_Contains_int_int) (fn := Try.f70) (args := [v0, v1]) (R := R) (w := W) mixed CBok S.slices_Contains_int_int.fn S.slices_Contains_int_int.hint (by rw [S.slices_Contains_int_int.ok]; exact h)
/-! ### slices.Index[[]int,int] (81) -/
def S.slices_Index_int_int.l1 (R : Value → World → Prop) (K1 : List Value → World → Prop) (x0 x1 x7 x8 : Value) (W : World) : Prop :=
  okF (binP .lss x8 x7) fun v9 =>
  ifK v9 (
  okF (idxS 1 x0 x8) fun v14 =>
  rdK PR (Instr.loadAt T_int v14) (fun v15 W =>
  okF (binP .eql x1 v15) fun v16 =>
  ifK v16 (
  R x8 W) (
  okF (binP .add x8 (.int .i64 1)) fun v18 =>
  K1 [x0, x1, x7, v18] W)) W) (
  R (.int .i64 (-1)) W)
def S.slices_Index_int_int.body (R : Value → World → Prop) (v0 v1 : Value) (W : World) : Prop :=
  okF (lenP (.slice T_int) v0) fun v7 =>
  loopK (fun K1 s W => S.slices_Index_int_int.l1 R K1 (nthv s 0) (nthv s 1) (nthv s 2) (nthv s 3) W) [v0, v1, v7, (.int .i64 0)] W
def S.slices_Index_int_int.hint : Hint := (.two .nil (.two (.two .nil (.at [0, 1, 7, 8] (.two .nil (.two (.two .nil .nil) (.two (.two .nil (.two .nil (.two (.two .nil .nil) .nil))) .nil))) .nil)) (.two .nil .nil)))
theorem S.slices_Index_int_int.ok (R : Value → World → Prop) (v0 v1 : Value) (W : World) : bodyK PR CB Try.f81 S.slices_Index_int_int.hint [v0, v1] R W = S.slices_Index_int_int.body R v0 v1 W := by kernel_rfl
theorem S.slices_Index_int_int.fn : PR.funcs[F_slices_Index_int_int]? = some Try.f81 := by kernel_rfl
theorem S.slices_Index_int_int.call {R : Value → World → Prop} {v0 v1 : Value} {W : World} (h : S.slices_Index_int_int.body R v0 v1 W) : callK PR F_slices_Index_int_int [v0, v1] R W :=
  callK_of_body (g := F_slices_Index_int_int) (fn := Try.f81) (args := [v0, v1]) (R := R) (w := W) mixed CBok S.slices_Index_int_int.fn S.slices_Index_int_int.hint (by rw [S.slices_Index_int_int.ok]; exact h)
end Go.Proofs.Ythladblmjoaeoaa
namespace Go.Proofs.Ythladblmjoaeoaa
set_option linter.unusedVariables false
set_option linter.unusedSimpArgs false
open Go Go.Eng

/-- a log, as it lies -/
structure LG where
  na : Option Addr
  nc : Nat
  da : Option Addr
  dc : Nat
  bb : BSl
  ra : Option Addr
  rc : Nat
  rows : List BSl
def lg (q dp : Nat) (l : LS) : Asn := fun h => ∃ x : LG, (x.bb.bs = l.base ∧ x.rows.map (·.bs) = l.recs) ∧
  sep [cells q [.pointer (some ⟨dp, 0, none⟩), .int .i64 l.part, .int .i64 l.lives, .int .u64 (l.turn : Int), .slice x.na l.nums.length x.nc, .int .i64 l.cur, .int .i64 l.count, .int .i64 l.index, .slice x.da l.dirty.length x.dc, .slice x.bb.a x.bb.bs.length x.bb.c, .slice x.ra x.rows.length x.rc, .bool l.full] T_wal_Log,
    arr I64 T_int x.na x.nc l.nums, arr I64 T_int x.da x.dc l.dirty, fch x.bb, arr BSY T_s_uint8 x.ra x.rc x.rows, many fch x.rows] h
section
variable {W0 W : World} {L L' L1 L2 : List Asn}
theorem lg_at {q dp : Nat} {l : LS} (h : St W0 (lg q dp l :: L) W) : ∃ na nc da dc bb ra rc rows, bb.bs = l.base ∧ rows.map (fun x : BSl => x.bs) = l.recs ∧
    St W0 (cells q [.pointer (some ⟨dp, 0, none⟩), .int .i64 l.part, .int .i64 l.lives, .int .u64 (l.turn : Int), .slice na l.nums.length nc, .int .i64 l.cur, .int .i64 l.count, .int .i64 l.index, .slice da l.dirty.length dc, .slice bb.a bb.bs.length bb.c, .slice ra rows.length rc, .bool l.full] T_wal_Log ::
    arr I64 T_int na nc l.nums :: arr I64 T_int da dc l.dirty :: fch bb :: arr BSY T_s_uint8 ra rc rows :: many fch rows :: L) W := by
  obtain ⟨x, h⟩ := h.ex
  obtain ⟨h1, h⟩ := h.fact
  exact ⟨x.na, x.nc, x.da, x.dc, x.bb, x.ra, x.rc, x.rows, h1.1, h1.2, h.flat⟩
theorem lg_ent {q dp : Nat} {l : LS} {na da ra : Option Addr} {nc dc rc : Nat} {bb : BSl} {rows : List BSl} (h1 : bb.bs = l.base) (h2 : rows.map (fun x : BSl => x.bs) = l.recs) :
    ent (cells q [.pointer (some ⟨dp, 0, none⟩), .int .i64 l.part, .int .i64 l.lives, .int .u64 (l.turn : Int), .slice na l.nums.length nc, .int .i64 l.cur, .int .i64 l.count, .int .i64 l.index, .slice da l.dirty.length dc, .slice bb.a bb.bs.length bb.c, .slice ra rows.length rc, .bool l.full] T_wal_Log ::
    arr I64 T_int na nc l.nums :: arr I64 T_int da dc l.dirty :: fch bb :: arr BSY T_s_uint8 ra rc rows :: many fch rows :: L) (lg q dp l :: L) :=
  (ent.pack [_, _, _, _, _, _] L).trans (ent.weak fun _ hp => ⟨⟨na, nc, da, dc, bb, ra, rc, rows⟩, ⟨h1, h2⟩, hp⟩)
theorem lg_dk {q dp : Nat} {l : LS} {na da ra : Option Addr} {nc dc rc : Nat} {bb : BSl} {rows : List BSl} {x : Asn} (h1 : bb.bs = l.base) (h2 : rows.map (fun x : BSl => x.bs) = l.recs) :
    ent (x :: cells q [.pointer (some ⟨dp, 0, none⟩), .int .i64 l.part, .int .i64 l.lives, .int .u64 (l.turn : Int), .slice na l.nums.length nc, .int .i64 l.cur, .int .i64 l.count, .int .i64 l.index, .slice da l.dirty.length dc, .slice bb.a bb.bs.length bb.c, .slice ra rows.length rc, .bool l.full] T_wal_Log ::
    arr I64 T_int na nc l.nums :: arr I64 T_int da dc l.dirty :: fch bb :: arr BSY T_s_uint8 ra rc rows :: many fch rows :: L) (lg q dp l :: x :: L) :=
  (ent.cons x (lg_ent h1 h2)).trans (ent.swap _ _ _)
/-- the log ahead, the disk behind it -/
theorem lg_two {q dp : Nat} {l : LS} {d : DS} (h : St W0 L W) (hl : Tk (lg q dp) L l L1) (hd : Tk (dk dp) L1 d L2) : St W0 (lg q dp l :: dk dp d :: L2) W := (h.perm hl.perm).ent (ent.cons _ (ent.perm hd.perm))
/-- the log's chunks, wherever they stand -/
theorem lg_mk (q dp : Nat) (l : LS) {La Lb Lc Ld Le Lf : List Asn} (na : Option Addr) (nc : Nat) (da : Option Addr) (dc : Nat) (bb : BSl) (ra : Option Addr) (rc : Nat) (rows : List BSl) (h : St W0 L W) (h1 : bb.bs = l.base) (h2 : rows.map (fun x : BSl => x.bs) = l.recs)
    [p1 : Pk (cells q [.pointer (some ⟨dp, 0, none⟩), .int .i64 l.part, .int .i64 l.lives, .int .u64 (l.turn : Int), .slice na l.nums.length nc, .int .i64 l.cur, .int .i64 l.count, .int .i64 l.index, .slice da l.dirty.length dc, .slice bb.a bb.bs.length bb.c, .slice ra rows.length rc, .bool l.full] T_wal_Log) L La]
    [p2 : Pk (arr I64 T_int na nc l.nums) La Lb] [p3 : Pk (arr I64 T_int da dc l.dirty) Lb Lc] [p4 : Pk (fch bb) Lc Ld] [p5 : Pk (arr BSY T_s_uint8 ra rc rows) Ld Le] [p6 : Pk (many fch rows) Le Lf] : St W0 (lg q dp l :: Lf) W :=
  (((((((h.perm p1.perm).ent (ent.cons _ (ent.perm p2.perm))).ent (ent.cons _ (ent.cons _ (ent.perm p3.perm)))).ent (ent.cons _ (ent.cons _ (ent.cons _ (ent.perm p4.perm))))).ent (ent.cons _ (ent.cons _ (ent.cons _ (ent.cons _ (ent.perm p5.perm)))))).ent (ent.cons _ (ent.cons _ (ent.cons _ (ent.cons _ (ent.cons _ (ent.perm p6.perm))))))).ent (lg_ent h1 h2))
theorem St.manyPush {β : Type} {F : β → Asn} (x : β) (rows : List β) {La Lb : List Asn} (h : St W0 L W) [p1 : Pk (F x) L La] [p2 : Pk (many F rows) La Lb] : St W0 (many F (rows ++ [x]) :: Lb) W :=
  ((h.perm p1.perm).ent (ent.cons _ (ent.perm p2.perm))).ent ((many_uncons (F := F) x rows).trans (many_perm (F := F) (List.perm_append_singleton _ _).symm))
theorem ent.rot4 (a b c d : Asn) (L : List Asn) : ent (a :: b :: c :: d :: L) (b :: c :: d :: a :: L) := (ent.rot3 a b c _).trans (ent.cons b (ent.cons c (ent.swap a d L)))
theorem contI {a : Option Addr} {c : Nat} {l : List Int} {x : Int} {k : Value → World → Prop} (h : St W0 L W) [hr : Rd W0 L a I64 l] (hl : l.length < 4611686018427387904) (hk : ∀ W', St W0 L W' → k (.bool (decide (x ∈ l))) W') : callK PR F_slices_Contains_int_int [.slice a l.length c, .int .i64 x] k W := by
  apply S.slices_Contains_int_int.call
  unfold S.slices_Contains_int_int.body
  apply S.slices_Index_int_int.call
  unfold S.slices_Index_int_int.body
  simp -implicitDefEqProofs only [SE, SU, SV]
  refine loop_c (σ := Unit) l.length (fun i _ => [.slice a l.length c, .int .i64 x, .int .i64 (l.length : Int), .int .i64 (i : Int)]) (fun i _ W1 => x ∉ l.take i ∧ St W0 L W1) () rfl ⟨by simp, h⟩ ?_
  clear h
  rintro K i _ W1 hi ⟨hno, h⟩ hK
  simp -implicitDefEqProofs only [SE, SU, SV]
  unfold S.slices_Index_int_int.l1
  by_cases hlt : (i : Int) < (l.length : Int)
  · have hib : i < l.length := by omega
    have ew : IntKind.i64.wrap ((i : Int) + 1) = ((i + 1 : Nat) : Int) := by rw [i64w]; omega
    (repeat (first | (first | ((with_reducible first | refine w1 ?_ | refine w3 ?_ | refine w4 ?_ | refine w11 ?_ | refine stb_n ?_); intros) | ((with_reducible first | refine v5 ?_ | refine v6 ?_ | refine v7 ?_ | refine ve ?_ | refine vn ?_); refine ⟨_, rfl, ?_⟩) | ((with_reducible first | refine v8 ?_ ?_ | refine v9 ?_ ?_ | refine v10 ?_ ?_ | refine v12 ?_ ?_); exact rfl; intros) | ((with_reducible refine w2 ?_); try simp -implicitDefEqProofs only [SE, SU, SV, hlt]; intros) | ((with_reducible refine w5 ?_ ?_); simp; refine ⟨_, rfl, ?_⟩) | ((with_reducible refine w12 ?_ ?_ ?_ ?_); simp; simp; simp [oneC]; intros) | (refine okF_i (bldP_eq rfl) ?_; try simp only [BLS, SB, Nat.reduceAdd])) | simp -implicitDefEqProofs only [SE, SU, SV, hlt]))
    refine ixA (i := i) (a := a) (l := l) (A := I64) h rfl rfl hib fun g o ha => ?_
    cases ha
    refine ldA0 (i := i) (l := l) (A := I64) h rfl hib (v := .int .i64 l[i]) rfl (by simp) ?_
    by_cases he : x = l[i]
    · have f1 := decide_eq_true he
      have f2 : decide ((0 : Int) ≤ (i : Int)) = true := decide_eq_true (by omega)
      have f3 : decide (x ∈ l) = true := decide_eq_true (by rw [he]; exact List.getElem_mem hib)
      rw [f3] at hk
      (repeat (first | (first | ((with_reducible first | refine w1 ?_ | refine w3 ?_ | refine w4 ?_ | refine w11 ?_ | refine stb_n ?_); intros) | ((with_reducible first | refine v5 ?_ | refine v6 ?_ | refine v7 ?_ | refine ve ?_ | refine vn ?_); refine ⟨_, rfl, ?_⟩) | ((with_reducible first | refine v8 ?_ ?_ | refine v9 ?_ ?_ | refine v10 ?_ ?_ | refine v12 ?_ ?_); exact rfl; intros) | ((with_reducible refine w2 ?_); try simp -implicitDefEqProofs only [SE, SU, SV, f1, f2]; intros) | ((with_reducible refine w5 ?_ ?_); simp; refine ⟨_, rfl, ?_⟩) | ((with_reducible refine w12 ?_ ?_ ?_ ?_); simp; simp; simp [oneC]; intros) | (refine okF_i (bldP_eq rfl) ?_; try simp only [BLS, SB, Nat.reduceAdd])) | simp -implicitDefEqProofs only [SE, SU, SV, f1, f2]))
      exact hk _ h
    · have f1 := decide_eq_false he
      (repeat (first | (first | ((with_reducible first | refine w1 ?_ | refine w3 ?_ | refine w4 ?_ | refine w11 ?_ | refine stb_n ?_); intros) | ((with_reducible first | refine v5 ?_ | refine v6 ?_ | refine v7 ?_ | refine ve ?_ | refine vn ?_); refine ⟨_, rfl, ?_⟩) | ((with_reducible first | refine v8 ?_ ?_ | refine v9 ?_ ?_ | refine v10 ?_ ?_ | refine v12 ?_ ?_); exact rfl; intros) | ((with_reducible refine w2 ?_); try simp -implicitDefEqProofs only [SE, SU, SV, f1, ew]; intros) | ((with_reducible refine w5 ?_ ?_); simp; refine ⟨_, rfl, ?_⟩) | ((with_reducible refine w12 ?_ ?_ ?_ ?_); simp; simp; simp [oneC]; intros) | (refine okF_i (bldP_eq rfl) ?_; try simp only [BLS, SB, Nat.reduceAdd])) | simp -implicitDefEqProofs only [SE, SU, SV, f1, ew]))
      refine hK () _ hib ⟨?_, h⟩
      rw [take_snoc hib, List.mem_append, List.mem_singleton]
      rintro (h1 | h1)
      · exact hno h1
      · exact he h1
  · have e : l.take i = l := List.take_of_length_le (by omega)
    rw [e] at hno
    have f3 : decide (x ∈ l) = false := decide_eq_false hno
    rw [f3] at hk
    (repeat (first | (first | ((with_reducible first | refine w1 ?_ | refine w3 ?_ | refine w4 ?_ | refine w11 ?_ | refine stb_n ?_); intros) | ((with_reducible first | refine v5 ?_ | refine v6 ?_ | refine v7 ?_ | refine ve ?_ | refine vn ?_); refine ⟨_, rfl, ?_⟩) | ((with_reducible first | refine v8 ?_ ?_ | refine v9 ?_ ?_ | refine v10 ?_ ?_ | refine v12 ?_ ?_); exact rfl; intros) | ((with_reducible refine w2 ?_); try simp -implicitDefEqProofs only [SE, SU, SV, hlt]; intros) | ((with_reducible refine w5 ?_ ?_); simp; refine ⟨_, rfl, ?_⟩) | ((with_reducible refine w12 ?_ ?_ ?_ ?_); simp; simp; simp [oneC]; intros) | (refine okF_i (bldP_eq rfl) ?_; try simp only [BLS, SB, Nat.reduceAdd])) | simp -implicitDefEqProofs only [SE, SU, SV, hlt]))
    exact hk _ h
variable {q dp : Nat} {l : LS} {d : DS} {k : Value → World → Prop}
theorem walDone (h : St W0 L W) [hl : Tk (lg q dp) L l L1] [hd : Tk (dk dp) L1 d L2] (hk : ∀ W', St W0 (lg q dp l :: dk dp d :: L2) W' → k (.bool (l.done d)) W') : callK PR F_wal_Log_Done [.pointer (some ⟨q, 0, none⟩)] k W := by
  apply S.wal_Log_Done.call
  unfold S.wal_Log_Done.body
  obtain ⟨na, nc, da, dc, bb, ra, rc, rows, hb, hrw, h⟩ := lg_at (lg_two h hl hd)
  unfold LS.done at hk
  cases hf : l.full with
  | true =>
    rw [hf] at hk h
    (repeat (first | (first | ((with_reducible first | refine w1 ?_ | refine w3 ?_ | refine w4 ?_ | refine w11 ?_ | refine stb_n ?_); intros) | ((with_reducible first | refine v5 ?_ | refine v6 ?_ | refine v7 ?_ | refine ve ?_ | refine vn ?_); refine ⟨_, rfl, ?_⟩) | ((with_reducible first | refine v8 ?_ ?_ | refine v9 ?_ ?_ | refine v10 ?_ ?_ | refine v12 ?_ ?_); exact rfl; intros) | ((with_reducible refine w2 ?_); try simp -implicitDefEqProofs only [SE, SU, SV]; intros) | ((with_reducible refine w5 ?_ ?_); simp; refine ⟨_, rfl, ?_⟩) | ((with_reducible refine w12 ?_ ?_ ?_ ?_); simp; simp; simp [oneC]; intros) | (refine okF_i (bldP_eq rfl) ?_; try simp only [BLS, SB, Nat.reduceAdd])) | simp -implicitDefEqProofs only [SE, SU, SV]))
    rename_i h
    exact hk _ ((St.tick h).ent (hf ▸ lg_ent hb hrw))
  | false =>
    have hend : ∀ W1, St W0 (cells q [.pointer (some ⟨dp, 0, none⟩), .int .i64 l.part, .int .i64 l.lives, .int .u64 (l.turn : Int), .slice na l.nums.length nc, .int .i64 l.cur, .int .i64 l.count, .int .i64 l.index, .slice da l.dirty.length dc, .slice bb.a bb.bs.length bb.c, .slice ra rows.length rc, .bool false] T_wal_Log ::
        arr I64 T_int na nc l.nums :: arr I64 T_int da dc l.dirty :: fch bb :: arr BSY T_s_uint8 ra rc rows :: many fch rows :: dk dp d :: L2) W1 → St W0 (lg q dp l :: dk dp d :: L2) W1 := fun W1 h => h.ent (hf ▸ lg_ent hb hrw)
    rw [hf] at hk h
    (repeat (first | (first | ((with_reducible first | refine w1 ?_ | refine w3 ?_ | refine w4 ?_ | refine w11 ?_ | refine stb_n ?_); intros) | ((with_reducible first | refine v5 ?_ | refine v6 ?_ | refine v7 ?_ | refine ve ?_ | refine vn ?_); refine ⟨_, rfl, ?_⟩) | ((with_reducible first | refine v8 ?_ ?_ | refine v9 ?_ ?_ | refine v10 ?_ ?_ | refine v12 ?_ ?_); exact rfl; intros) | ((with_reducible refine w2 ?_); try simp -implicitDefEqProofs only [SE, SU, SV]; intros) | ((with_reducible refine w5 ?_ ?_); simp; refine ⟨_, rfl, ?_⟩) | ((with_reducible refine w12 ?_ ?_ ?_ ?_); simp; simp; simp [oneC]; intros) | (refine okF_i (bldP_eq rfl) ?_; try simp only [BLS, SB, Nat.reduceAdd])) | simp -implicitDefEqProofs only [SE, SU, SV]))
    refine diskPower (d := d) (by first | assumption | exact St.tick (by assumption) | exact St.tick (St.tick (by assumption))) fun W1 h => ?_
    cases ho : d.on with
    | false =>
      rw [ho] at hk
      (repeat (first | (first | ((with_reducible first | refine w1 ?_ | refine w3 ?_ | refine w4 ?_ | refine w11 ?_ | refine stb_n ?_); intros) | ((with_reducible first | refine v5 ?_ | refine v6 ?_ | refine v7 ?_ | refine ve ?_ | refine vn ?_); refine ⟨_, rfl, ?_⟩) | ((with_reducible first | refine v8 ?_ ?_ | refine v9 ?_ ?_ | refine v10 ?_ ?_ | refine v12 ?_ ?_); exact rfl; intros) | ((with_reducible refine w2 ?_); try simp -implicitDefEqProofs only [SE, SU, SV]; intros) | ((with_reducible refine w5 ?_ ?_); simp; refine ⟨_, rfl, ?_⟩) | ((with_reducible refine w12 ?_ ?_ ?_ ?_); simp; simp; simp [oneC]; intros) | (refine okF_i (bldP_eq rfl) ?_; try simp only [BLS, SB, Nat.reduceAdd])) | simp -implicitDefEqProofs only [SE, SU, SV]))
      exact hk _ (hend _ (St.wk (by first | assumption | exact St.tick (by assumption) | exact St.tick (St.tick (by assumption)))))
    | true =>
      rw [ho] at hk
      (repeat (first | (first | ((with_reducible first | refine w1 ?_ | refine w3 ?_ | refine w4 ?_ | refine w11 ?_ | refine stb_n ?_); intros) | ((with_reducible first | refine v5 ?_ | refine v6 ?_ | refine v7 ?_ | refine ve ?_ | refine vn ?_); refine ⟨_, rfl, ?_⟩) | ((with_reducible first | refine v8 ?_ ?_ | refine v9 ?_ ?_ | refine v10 ?_ ?_ | refine v12 ?_ ?_); exact rfl; intros) | ((with_reducible refine w2 ?_); try simp -implicitDefEqProofs only [SE, SU, SV]; intros) | ((with_reducible refine w5 ?_ ?_); simp; refine ⟨_, rfl, ?_⟩) | ((with_reducible refine w12 ?_ ?_ ?_ ?_); simp; simp; simp [oneC]; intros) | (refine okF_i (bldP_eq rfl) ?_; try simp only [BLS, SB, Nat.reduceAdd])) | simp -implicitDefEqProofs only [SE, SU, SV]))
      refine diskLives (d := d) (by first | assumption | exact St.tick (by assumption) | exact St.tick (St.tick (by assumption))) fun W2 h => ?_
      simp only [Bool.not_true, Bool.false_or] at hk
      (repeat (first | (first | ((with_reducible first | refine w1 ?_ | refine w3 ?_ | refine w4 ?_ | refine w11 ?_ | refine stb_n ?_); intros) | ((with_reducible first | refine v5 ?_ | refine v6 ?_ | refine v7 ?_ | refine ve ?_ | refine vn ?_); refine ⟨_, rfl, ?_⟩) | ((with_reducible first | refine v8 ?_ ?_ | refine v9 ?_ ?_ | refine v10 ?_ ?_ | refine v12 ?_ ?_); exact rfl; intros) | ((with_reducible refine w2 ?_); try simp -implicitDefEqProofs only [SE, SU, SV]; intros) | ((with_reducible refine w5 ?_ ?_); simp; refine ⟨_, rfl, ?_⟩) | ((with_reducible refine w12 ?_ ?_ ?_ ?_); simp; simp; simp [oneC]; intros) | (refine okF_i (bldP_eq rfl) ?_; try simp only [BLS, SB, Nat.reduceAdd])) | simp -implicitDefEqProofs only [SE, SU, SV]))
      exact hk _ (hend _ (St.wk (by first | assumption | exact St.tick (by assumption) | exact St.tick (St.tick (by assumption)))))
set_option maxRecDepth 20000 in
theorem walFree (h : St W0 L W) [hl : Tk (lg q dp) L l L1] (hn : l.nums.length < 4611686018427387904) (hk : ∀ W', St W0 (lg q dp l :: L1) W' → k (.int .i64 l.free) W') : callK PR F_wal_Log_free [.pointer (some ⟨q, 0, none⟩)] k W := by
  apply S.wal_Log_free.call
  unfold S.wal_Log_free.body
  have h := h.perm hl.perm
  obtain ⟨N, hN⟩ : ∃ N : Nat, N = 1000 := ⟨_, rfl⟩
  have hf0 : freeGo l.nums 0 (N - 0) = l.free := by rw [hN]; rfl
  refine loop_c (σ := Unit) N (fun i _ => [.pointer (some ⟨q, 0, none⟩), .int .i64 (i : Int)]) (fun i _ W1 => freeGo l.nums i (N - i) = l.free ∧ St W0 (lg q dp l :: L1) W1) () rfl ⟨hf0, h⟩ ?_
  clear h
  rintro K i _ W1 hi ⟨hfr, h⟩ hK
  simp -implicitDefEqProofs only [SE, SU, SV]
  unfold S.wal_Log_free.l1
  by_cases hlt : (i : Int) < 1000
  · have ew : IntKind.i64.wrap ((i : Int) + 1) = ((i + 1 : Nat) : Int) := by rw [i64w]; omega
    obtain ⟨m, hm⟩ : ∃ m, N - i = m + 1 := ⟨999 - i, by omega⟩
    rw [hm, freeGo] at hfr
    obtain ⟨na, nc, da, dc, bb, ra, rc, rows, hb, hrw, h⟩ := lg_at h
    (repeat (first | (first | ((with_reducible first | refine w1 ?_ | refine w3 ?_ | refine w4 ?_ | refine w11 ?_ | refine stb_n ?_); intros) | ((with_reducible first | refine v5 ?_ | refine v6 ?_ | refine v7 ?_ | refine ve ?_ | refine vn ?_); refine ⟨_, rfl, ?_⟩) | ((with_reducible first | refine v8 ?_ ?_ | refine v9 ?_ ?_ | refine v10 ?_ ?_ | refine v12 ?_ ?_); exact rfl; intros) | ((with_reducible refine w2 ?_); try simp -implicitDefEqProofs only [SE, SU, SV, hlt]; intros) | ((with_reducible refine w5 ?_ ?_); simp; refine ⟨_, rfl, ?_⟩) | ((with_reducible refine w12 ?_ ?_ ?_ ?_); simp; simp; simp [oneC]; intros) | (refine okF_i (bldP_eq rfl) ?_; try simp only [BLS, SB, Nat.reduceAdd])) | simp -implicitDefEqProofs only [SE, SU, SV, hlt]))
    refine contI (a := na) (l := l.nums) (by first | assumption | exact St.tick (by assumption) | exact St.tick (St.tick (by assumption))) hn fun W2 h => ?_
    by_cases hc : (i : Int) ∈ l.nums
    · rw [if_pos hc] at hfr
      have f1 := decide_eq_true hc
      (repeat (first | (first | ((with_reducible first | refine w1 ?_ | refine w3 ?_ | refine w4 ?_ | refine w11 ?_ | refine stb_n ?_); intros) | ((with_reducible first | refine v5 ?_ | refine v6 ?_ | refine v7 ?_ | refine ve ?_ | refine vn ?_); refine ⟨_, rfl, ?_⟩) | ((with_reducible first | refine v8 ?_ ?_ | refine v9 ?_ ?_ | refine v10 ?_ ?_ | refine v12 ?_ ?_); exact rfl; intros) | ((with_reducible refine w2 ?_); try simp -implicitDefEqProofs only [SE, SU, SV, f1, ew]; intros) | ((with_reducible refine w5 ?_ ?_); simp; refine ⟨_, rfl, ?_⟩) | ((with_reducible refine w12 ?_ ?_ ?_ ?_); simp; simp; simp [oneC]; intros) | (refine okF_i (bldP_eq rfl) ?_; try simp only [BLS, SB, Nat.reduceAdd])) | simp -implicitDefEqProofs only [SE, SU, SV, f1, ew]))
      refine hK () _ (by omega) ⟨?_, h.ent (lg_ent hb hrw)⟩
      rw [show N - (i + 1) = m by omega]; exact hfr
    · rw [if_neg hc] at hfr
      have f1 := decide_eq_false hc
      rw [← hfr] at hk
      (repeat (first | (first | ((with_reducible first | refine w1 ?_ | refine w3 ?_ | refine w4 ?_ | refine w11 ?_ | refine stb_n ?_); intros) | ((with_reducible first | refine v5 ?_ | refine v6 ?_ | refine v7 ?_ | refine ve ?_ | refine vn ?_); refine ⟨_, rfl, ?_⟩) | ((with_reducible first | refine v8 ?_ ?_ | refine v9 ?_ ?_ | refine v10 ?_ ?_ | refine v12 ?_ ?_); exact rfl; intros) | ((with_reducible refine w2 ?_); try simp -implicitDefEqProofs only [SE, SU, SV, f1]; intros) | ((with_reducible refine w5 ?_ ?_); simp; refine ⟨_, rfl, ?_⟩) | ((with_reducible refine w12 ?_ ?_ ?_ ?_); simp; simp; simp [oneC]; intros) | (refine okF_i (bldP_eq rfl) ?_; try simp only [BLS, SB, Nat.reduceAdd])) | simp -implicitDefEqProofs only [SE, SU, SV, f1]))
      exact hk _ (h.ent (lg_ent hb hrw))
  · have : N - i = 0 := by omega
    rw [this, freeGo] at hfr
    rw [← hfr] at hk
    (repeat (first | (first | ((with_reducible first | refine w1 ?_ | refine w3 ?_ | refine w4 ?_ | refine w11 ?_ | refine stb_n ?_); intros) | ((with_reducible first | refine v5 ?_ | refine v6 ?_ | refine v7 ?_ | refine ve ?_ | refine vn ?_); refine ⟨_, rfl, ?_⟩) | ((with_reducible first | refine v8 ?_ ?_ | refine v9 ?_ ?_ | refine v10 ?_ ?_ | refine v12 ?_ ?_); exact rfl; intros) | ((with_reducible refine w2 ?_); try simp -implicitDefEqProofs only [SE, SU, SV, hlt]; intros) | ((with_reducible refine w5 ?_ ?_); simp; refine ⟨_, rfl, ?_⟩) | ((with_reducible refine w12 ?_ ?_ ?_ ?_); simp; simp; simp [oneC]; intros) | (refine okF_i (bldP_eq rfl) ?_; try simp only [BLS, SB, Nat.reduceAdd])) | simp -implicitDefEqProofs only [SE, SU, SV, hlt]))
    exact hk _ h
/-- what a log's numbers must be, n more adds ahead -/
structure LOk (n : Nat) (d : DS) (l : LS) : Prop where
  ok : d.ok
  ws : d.ws.length + n < 500000
  nums : l.nums.length + n < 500000
  dirty : l.dirty.length + n < 500000
  turn : l.turn < 2 ^ 62
  index : 0 ≤ l.index ∧ l.index + n < 2 ^ 31
  count : 0 ≤ l.count ∧ l.count + n < 2 ^ 62
theorem append_ws (d : DS) (f : Int) (b : Bs) : (d.append f b).1.ws.length ≤ d.ws.length + 1 := by
  unfold DS.append
  split
  · simp
  · split <;> simp
theorem LOk.add {n : Nat} {d : DS} {l : LS} (h : LOk (n + 1) d l) (r : Bs) : LOk n (LS.add d l r).1 (LS.add d l r).2.1 := by
  obtain ⟨h1, h2, h3, h4, h5, ⟨h6, h7⟩, ⟨h8, h9⟩⟩ := h
  have hw : ∀ (l' : LS) (f : Int) (b : Bs), l'.nums.length + n < 500000 → l'.dirty.length + n + 1 < 500000 → l'.turn < 2 ^ 62 → (0 ≤ l'.index ∧ l'.index + n < 2 ^ 31) → (0 ≤ l'.count ∧ l'.count + n < 2 ^ 62) → LOk n (LS.write d l' f b).1 (LS.write d l' f b).2.1 := by
    intro l' f b g1 g2 g3 g4 g5
    have ga := append_ws d f b
    unfold LS.write
    split
    · exact ⟨h1.append f b, by simp only; omega, g1, by simp only; omega, g3, g4, g5⟩
    · refine ⟨h1.append f b, by simp only; omega, g1, ?_, g3, g4, g5⟩
      simp only
      split
      · omega
      · simp only [List.length_append, List.length_singleton]; omega
  unfold LS.add
  split
  · exact hw _ _ _ (by simp only [List.length_append, List.length_singleton]; omega) (by simp only; omega) h5 ⟨by simp only; omega, by simp only; omega⟩ ⟨by simp only; omega, by simp only; omega⟩
  · split
    · exact ⟨h1, by simp only; omega, by simp only; omega, by simp only; omega, h5, ⟨h6, by simp only; omega⟩, ⟨h8, by simp only; omega⟩⟩
    · exact hw _ _ _ (by simp only; omega) (by simp only; omega) h5 ⟨h6, by simp only; omega⟩ ⟨by simp only; omega, by simp only; omega⟩
theorem add_recs (d : DS) (l : LS) (r : Bs) : (LS.add d l r).2.1.recs = l.recs := by
  unfold LS.add
  split
  · unfold LS.write; split <;> rfl
  · split
    · rfl
    · unfold LS.write; split <;> rfl
theorem walWrite {f : Int} {a : Option Addr} {c : Nat} {b : Bs} (h : St W0 L W) [hl : Tk (lg q dp) L l L1] [hd : Tk (dk dp) L1 d L2] [hr : Rd W0 L2 a B8 b] (hk0 : d.ok) (hw : d.ws.length < 500000) (hdl : l.dirty.length < 500000) (hb2 : b.length < 16777216)
    (hk : ∀ W', St W0 (lg q dp (LS.write d l f b).2.1 :: dk dp (LS.write d l f b).1 :: L2) W' → k (.int .i64 (LS.write d l f b).2.2) W') : callK PR F_wal_Log_write [.pointer (some ⟨q, 0, none⟩), .int .i64 f, .slice a b.length c] k W := by
  apply S.wal_Log_write.call
  unfold S.wal_Log_write.body
  obtain ⟨na, nc, da, dc, bb, ra, rc, rows, hb, hrw, h⟩ := lg_at (lg_two h hl hd)
  unfold LS.write at hk
  (repeat (first | (first | ((with_reducible first | refine w1 ?_ | refine w3 ?_ | refine w4 ?_ | refine w11 ?_ | refine stb_n ?_); intros) | ((with_reducible first | refine v5 ?_ | refine v6 ?_ | refine v7 ?_ | refine ve ?_ | refine vn ?_); refine ⟨_, rfl, ?_⟩) | ((with_reducible first | refine v8 ?_ ?_ | refine v9 ?_ ?_ | refine v10 ?_ ?_ | refine v12 ?_ ?_); exact rfl; intros) | ((with_reducible refine w2 ?_); try simp -implicitDefEqProofs only [SE, SU, SV]; intros) | ((with_reducible refine w5 ?_ ?_); simp; refine ⟨_, rfl, ?_⟩) | ((with_reducible refine w12 ?_ ?_ ?_ ?_); simp; simp; simp [oneC]; intros) | (refine okF_i (bldP_eq rfl) ?_; try simp only [BLS, SB, Nat.reduceAdd])) | simp -implicitDefEqProofs only [SE, SU, SV]))
  refine diskAppend (d := d) (f := f) (a := a) (bs := b) (by first | assumption | exact St.tick (by assumption) | exact St.tick (St.tick (by assumption))) hk0 hb2 (by omega) fun W1 h => ?_
  by_cases he : (d.append f b).2 = 0
  · rw [if_neg (fun hh => hh he)] at hk
    rw [he]
    (repeat (first | (first | ((with_reducible first | refine w1 ?_ | refine w3 ?_ | refine w4 ?_ | refine w11 ?_ | refine stb_n ?_); intros) | ((with_reducible first | refine v5 ?_ | refine v6 ?_ | refine v7 ?_ | refine ve ?_ | refine vn ?_); refine ⟨_, rfl, ?_⟩) | ((with_reducible first | refine v8 ?_ ?_ | refine v9 ?_ ?_ | refine v10 ?_ ?_ | refine v12 ?_ ?_); exact rfl; intros) | ((with_reducible refine w2 ?_); try simp -implicitDefEqProofs only [SE, SU, SV]; intros) | ((with_reducible refine w5 ?_ ?_); simp; refine ⟨_, rfl, ?_⟩) | ((with_reducible refine w12 ?_ ?_ ?_ ?_); simp; simp; simp [oneC]; intros) | (refine okF_i (bldP_eq rfl) ?_; try simp only [BLS, SB, Nat.reduceAdd])) | simp -implicitDefEqProofs only [SE, SU, SV]))
    refine contI (a := da) (l := l.dirty) (by first | assumption | exact St.tick (by assumption) | exact St.tick (St.tick (by assumption))) (by omega) fun W2 h => ?_
    by_cases hc : f ∈ l.dirty
    · rw [if_pos hc] at hk
      have f1 := decide_eq_true hc
      (repeat (first | (first | ((with_reducible first | refine w1 ?_ | refine w3 ?_ | refine w4 ?_ | refine w11 ?_ | refine stb_n ?_); intros) | ((with_reducible first | refine v5 ?_ | refine v6 ?_ | refine v7 ?_ | refine ve ?_ | refine vn ?_); refine ⟨_, rfl, ?_⟩) | ((with_reducible first | refine v8 ?_ ?_ | refine v9 ?_ ?_ | refine v10 ?_ ?_ | refine v12 ?_ ?_); exact rfl; intros) | ((with_reducible refine w2 ?_); try simp -implicitDefEqProofs only [SE, SU, SV, f1]; intros) | ((with_reducible refine w5 ?_ ?_); simp; refine ⟨_, rfl, ?_⟩) | ((with_reducible refine w12 ?_ ?_ ?_ ?_); simp; simp; simp [oneC]; intros) | (refine okF_i (bldP_eq rfl) ?_; try simp only [BLS, SB, Nat.reduceAdd])) | simp -implicitDefEqProofs only [SE, SU, SV, f1]))
      rename_i h
      exact hk _ (h.ent (lg_dk (l := { l with dirty := l.dirty }) hb hrw))
    · rw [if_neg hc] at hk
      have f1 := decide_eq_false hc
      (repeat (first | (first | ((with_reducible first | refine w1 ?_ | refine w3 ?_ | refine w4 ?_ | refine w11 ?_ | refine stb_n ?_); intros) | ((with_reducible first | refine v5 ?_ | refine v6 ?_ | refine v7 ?_ | refine ve ?_ | refine vn ?_); refine ⟨_, rfl, ?_⟩) | ((with_reducible first | refine v8 ?_ ?_ | refine v9 ?_ ?_ | refine v10 ?_ ?_ | refine v12 ?_ ?_); exact rfl; intros) | ((with_reducible refine w2 ?_); try simp -implicitDefEqProofs only [SE, SU, SV, f1]; intros) | ((with_reducible refine w5 ?_ ?_); simp; refine ⟨_, rfl, ?_⟩) | ((with_reducible refine w12 ?_ ?_ ?_ ?_); simp; simp; simp [oneC]; intros) | (refine okF_i (bldP_eq rfl) ?_; try simp only [BLS, SB, Nat.reduceAdd])) | simp -implicitDefEqProofs only [SE, SU, SV, f1]))
      refine pushA (A := I64) (l := l.dirty) (a := da) f (by first | assumption | exact St.tick (by assumption) | exact St.tick (St.tick (by assumption))) rfl rfl (by omega) (by simp only [maxLen]; omega) (by decide) fun a3 c3 W3 h => ?_
      (repeat (first | (first | ((with_reducible first | refine w1 ?_ | refine w3 ?_ | refine w4 ?_ | refine w11 ?_ | refine stb_n ?_); intros) | ((with_reducible first | refine v5 ?_ | refine v6 ?_ | refine v7 ?_ | refine ve ?_ | refine vn ?_); refine ⟨_, rfl, ?_⟩) | ((with_reducible first | refine v8 ?_ ?_ | refine v9 ?_ ?_ | refine v10 ?_ ?_ | refine v12 ?_ ?_); exact rfl; intros) | ((with_reducible refine w2 ?_); try simp -implicitDefEqProofs only [SE, SU, SV]; intros) | ((with_reducible refine w5 ?_ ?_); simp; refine ⟨_, rfl, ?_⟩) | ((with_reducible refine w12 ?_ ?_ ?_ ?_); simp; simp; simp [oneC]; intros) | (refine okF_i (bldP_eq rfl) ?_; try simp only [BLS, SB, Nat.reduceAdd])) | simp -implicitDefEqProofs only [SE, SU, SV]))
      rename_i h
      (try simp only [BLS, SB, stL_a, stL_b, stL_c, List.append_nil, List.take_nil, List.drop_nil, Nat.reduceAdd] at h)
      exact hk _ ((h.ent (ent.rot4 _ _ _ _ _)).ent (lg_dk (l := { l with dirty := l.dirty ++ [f] }) hb hrw))
  · rw [if_pos he] at hk
    have f1 := decide_eq_false he
    (repeat (first | (first | ((with_reducible first | refine w1 ?_ | refine w3 ?_ | refine w4 ?_ | refine w11 ?_ | refine stb_n ?_); intros) | ((with_reducible first | refine v5 ?_ | refine v6 ?_ | refine v7 ?_ | refine ve ?_ | refine vn ?_); refine ⟨_, rfl, ?_⟩) | ((with_reducible first | refine v8 ?_ ?_ | refine v9 ?_ ?_ | refine v10 ?_ ?_ | refine v12 ?_ ?_); exact rfl; intros) | ((with_reducible refine w2 ?_); try simp -implicitDefEqProofs only [SE, SU, SV, f1]; intros) | ((with_reducible refine w5 ?_ ?_); simp; refine ⟨_, rfl, ?_⟩) | ((with_reducible refine w12 ?_ ?_ ?_ ?_); simp; simp; simp [oneC]; intros) | (refine okF_i (bldP_eq rfl) ?_; try simp only [BLS, SB, Nat.reduceAdd])) | simp -implicitDefEqProofs only [SE, SU, SV, f1]))
    rename_i h
    (try simp only [BLS, SB, stL_a, stL_b, stL_c, List.append_nil, List.take_nil, List.drop_nil, Nat.reduceAdd] at h)
    exact hk _ (h.ent (lg_dk (l := { l with full := true }) hb hrw))
end
end Go.Proofs.Ythladblmjoaeoaa
namespace Go.Proofs.Ythladblmjoaeoaa
set_option linter.unusedVariables false
set_option linter.unusedSimpArgs false
open Go Go.Eng

section
variable {W0 W : World} {L L' L1 L2 : List Asn} {q dp : Nat} {l : LS} {d : DS} {k : Value → World → Prop}
theorem walAdd1 {a : Option Addr} {c : Nat} {r : Bs} (h : St W0 L W) [hl : Tk (lg q dp) L l L1] [hd : Tk (dk dp) L1 d L2] [hr : Rd W0 L a B8 r] (hr0 : r.length ≤ 65536) {n : Nat} (hL : LOk n d l)
    (hk : ∀ W', St W0 (lg q dp (LS.add d l r).2.1 :: dk dp (LS.add d l r).1 :: L2) W' → k (.int .i64 (LS.add d l r).2.2) W') : callK PR F_wal_Log_add [.pointer (some ⟨q, 0, none⟩), .slice a r.length c] k W := by
  have hJ : ∀ (l1 : LS) (a1 : Option Addr) (c1 : Nat) (bs : Bs) (W1 : World), l1.dirty = l.dirty → 0 ≤ l1.count → l1.count < 2 ^ 62 → bs.length < 16777216 →
      (l1.cur < 0 → ∀ W', St W0 (lg q dp { l1 with full := true } :: dk dp d :: L2) W' → k (.int .i64 6) W') →
      (¬ l1.cur < 0 → ∀ W', St W0 (lg q dp (LS.write d { l1 with count := l1.count + 1 } l1.cur bs).2.1 :: dk dp (LS.write d { l1 with count := l1.count + 1 } l1.cur bs).1 :: L2) W' → k (.int .i64 (LS.write d { l1 with count := l1.count + 1 } l1.cur bs).2.2) W') →
      St W0 (lg q dp l1 :: dk dp d :: arr B8 T_uint8 a1 c1 bs :: L2) W1 → S.wal_Log_add.j1 k (.pointer (some ⟨q, 0, none⟩)) (.slice a1 bs.length c1) W1 := by
    intro l1 a1 c1 bs W1 hdi hc0 hc1 hbs h1 h2 h
    unfold S.wal_Log_add.j1
    obtain ⟨na, nc, da, dc, bb, ra, rc, rows, hb, hrw, h⟩ := lg_at h
    by_cases hc : l1.cur < 0
    · (repeat (first | (first | ((with_reducible first | refine w1 ?_ | refine w3 ?_ | refine w4 ?_ | refine w11 ?_ | refine stb_n ?_); intros) | ((with_reducible first | refine v5 ?_ | refine v6 ?_ | refine v7 ?_ | refine ve ?_ | refine vn ?_); refine ⟨_, rfl, ?_⟩) | ((with_reducible first | refine v8 ?_ ?_ | refine v9 ?_ ?_ | refine v10 ?_ ?_ | refine v12 ?_ ?_); exact rfl; intros) | ((with_reducible refine w2 ?_); try simp -implicitDefEqProofs only [SE, SU, SV, hc]; intros) | ((with_reducible refine w5 ?_ ?_); simp; refine ⟨_, rfl, ?_⟩) | ((with_reducible refine w12 ?_ ?_ ?_ ?_); simp; simp; simp [oneC]; intros) | (refine okF_i (bldP_eq rfl) ?_; try simp only [BLS, SB, Nat.reduceAdd])) | simp -implicitDefEqProofs only [SE, SU, SV, hc]))
      rename_i h
      (try simp only [BLS, SB, stL_a, stL_b, stL_c, List.append_nil, List.take_nil, List.drop_nil, Nat.reduceAdd] at h)
      have h := h.ent (lg_ent (l := { l1 with full := true }) hb hrw)
      exact h1 hc _ (St.wk h)
    · have ew : IntKind.i64.wrap (l1.count + 1) = l1.count + 1 := by rw [i64w]; omega
      (repeat (first | (first | ((with_reducible first | refine w1 ?_ | refine w3 ?_ | refine w4 ?_ | refine w11 ?_ | refine stb_n ?_); intros) | ((with_reducible first | refine v5 ?_ | refine v6 ?_ | refine v7 ?_ | refine ve ?_ | refine vn ?_); refine ⟨_, rfl, ?_⟩) | ((with_reducible first | refine v8 ?_ ?_ | refine v9 ?_ ?_ | refine v10 ?_ ?_ | refine v12 ?_ ?_); exact rfl; intros) | ((with_reducible refine w2 ?_); try simp -implicitDefEqProofs only [SE, SU, SV, hc, ew]; intros) | ((with_reducible refine w5 ?_ ?_); simp; refine ⟨_, rfl, ?_⟩) | ((with_reducible refine w12 ?_ ?_ ?_ ?_); simp; simp; simp [oneC]; intros) | (refine okF_i (bldP_eq rfl) ?_; try simp only [BLS, SB, Nat.reduceAdd])) | simp -implicitDefEqProofs only [SE, SU, SV, hc, ew]))
      rename_i h
      (try simp only [BLS, SB, stL_a, stL_b, stL_c, List.append_nil, List.take_nil, List.drop_nil, Nat.reduceAdd] at h)
      have h := h.ent (lg_ent (l := { l1 with count := l1.count + 1 }) hb hrw)
      refine walWrite (dp := dp) (d := d) (l := { l1 with count := l1.count + 1 }) (f := l1.cur) (a := a1) (b := bs) h hL.ok (by have := hL.ws; omega) (by have := hL.dirty; simp only [hdi]; omega) hbs fun W2 h => ?_
      exact h2 hc _ (St.wk h)
  apply S.wal_Log_add.call
  unfold S.wal_Log_add.body
  obtain ⟨hx0, hx1⟩ := hL.index
  obtain ⟨hc0, hc1⟩ := hL.count
  have hnl := hL.nums
  refine walUnit (a := a) (r := r) h hr0 fun a1 c1 W1 h => ?_
  have hul : (unitB r).length < 16777216 := by simp; omega
  refine joinK_i ?_
  have h := St.wk (L' := lg q dp l :: dk dp d :: arr B8 T_uint8 a1 c1 (unitB r) :: L2) ((h.ent (ent.cons _ (ent.perm hl.perm))).ent (ent.cons _ (ent.cons _ (ent.perm hd.perm))))
  unfold LS.add at hk
  have hfree : 0 ≤ l.free ∨ l.free = -1 := by
    rcases freeGo_spec l.nums 1000 0 with ⟨e, _⟩ | ⟨j, e, _⟩
    · exact .inr e
    · exact .inl (by unfold LS.free; rw [e]; omega)
  by_cases hcond : l.cur < 0 ∨ l.part ≤ l.count
  · have hw : l.cur < 0 ∨ (¬ l.cur < 0 ∧ l.part ≤ l.count) := by omega
    obtain ⟨na, nc, da, dc, bb, ra, rc, rows, hb, hrw, h⟩ := lg_at h
    rcases hw with hc | ⟨hc, hp⟩
    case' inl => (repeat (first | (first | ((with_reducible first | refine w1 ?_ | refine w3 ?_ | refine w4 ?_ | refine w11 ?_ | refine stb_n ?_); intros) | ((with_reducible first | refine v5 ?_ | refine v6 ?_ | refine v7 ?_ | refine ve ?_ | refine vn ?_); refine ⟨_, rfl, ?_⟩) | ((with_reducible first | refine v8 ?_ ?_ | refine v9 ?_ ?_ | refine v10 ?_ ?_ | refine v12 ?_ ?_); exact rfl; intros) | ((with_reducible refine w2 ?_); try simp -implicitDefEqProofs only [SE, SU, SV, hc]; intros) | ((with_reducible refine w5 ?_ ?_); simp; refine ⟨_, rfl, ?_⟩) | ((with_reducible refine w12 ?_ ?_ ?_ ?_); simp; simp; simp [oneC]; intros) | (refine okF_i (bldP_eq rfl) ?_; try simp only [BLS, SB, Nat.reduceAdd])) | simp -implicitDefEqProofs only [SE, SU, SV, hc]))
    case' inr => (repeat (first | (first | ((with_reducible first | refine w1 ?_ | refine w3 ?_ | refine w4 ?_ | refine w11 ?_ | refine stb_n ?_); intros) | ((with_reducible first | refine v5 ?_ | refine v6 ?_ | refine v7 ?_ | refine ve ?_ | refine vn ?_); refine ⟨_, rfl, ?_⟩) | ((with_reducible first | refine v8 ?_ ?_ | refine v9 ?_ ?_ | refine v10 ?_ ?_ | refine v12 ?_ ?_); exact rfl; intros) | ((with_reducible refine w2 ?_); try simp -implicitDefEqProofs only [SE, SU, SV, hc, hp]; intros) | ((with_reducible refine w5 ?_ ?_); simp; refine ⟨_, rfl, ?_⟩) | ((with_reducible refine w12 ?_ ?_ ?_ ?_); simp; simp; simp [oneC]; intros) | (refine okF_i (bldP_eq rfl) ?_; try simp only [BLS, SB, Nat.reduceAdd])) | simp -implicitDefEqProofs only [SE, SU, SV, hc, hp]))
    all_goals
      refine walFree (dp := dp) (l := l) (hl := Tk.here _ _ _) (St.ent (by first | assumption | exact St.tick (by assumption) | exact St.tick (St.tick (by assumption))) (lg_ent hb hrw)) (by omega) fun W2 h => ?_
      by_cases hfr : 0 ≤ l.free
      · rw [if_pos ⟨hcond, hfr⟩] at hk
        have f1 := decide_eq_true hfr
        obtain ⟨na, nc, da, dc, bb, ra, rc, rows, hb, hrw, h⟩ := lg_at h
        (repeat (first | (first | ((with_reducible first | refine w1 ?_ | refine w3 ?_ | refine w4 ?_ | refine w11 ?_ | refine stb_n ?_); intros) | ((with_reducible first | refine v5 ?_ | refine v6 ?_ | refine v7 ?_ | refine ve ?_ | refine vn ?_); refine ⟨_, rfl, ?_⟩) | ((with_reducible first | refine v8 ?_ ?_ | refine v9 ?_ ?_ | refine v10 ?_ ?_ | refine v12 ?_ ?_); exact rfl; intros) | ((with_reducible refine w2 ?_); try simp -implicitDefEqProofs only [SE, SU, SV, f1]; intros) | ((with_reducible refine w5 ?_ ?_); simp; refine ⟨_, rfl, ?_⟩) | ((with_reducible refine w12 ?_ ?_ ?_ ?_); simp; simp; simp [oneC]; intros) | (refine okF_i (bldP_eq rfl) ?_; try simp only [BLS, SB, Nat.reduceAdd])) | simp -implicitDefEqProofs only [SE, SU, SV, f1]))
        obtain ⟨ix, hix⟩ : ∃ ix : Nat, l.index = ix := ⟨l.index.toNat, by omega⟩
        rw [hix]
        have htu := hL.turn
        refine walTop (kd := 1) (t := l.turn) (i := ix) (by first | assumption | exact St.tick (by assumption) | exact St.tick (St.tick (by assumption))) (by decide) (by omega) (by omega) fun a2 c2 W3 h => ?_
        refine appA (a := a2) (m := unitB r) h rfl (by simp; omega) (by simp [maxLen]; omega) fun a3 c3 W4 h => ?_
        (repeat (first | (first | ((with_reducible first | refine w1 ?_ | refine w3 ?_ | refine w4 ?_ | refine w11 ?_ | refine stb_n ?_); intros) | ((with_reducible first | refine v5 ?_ | refine v6 ?_ | refine v7 ?_ | refine ve ?_ | refine vn ?_); refine ⟨_, rfl, ?_⟩) | ((with_reducible first | refine v8 ?_ ?_ | refine v9 ?_ ?_ | refine v10 ?_ ?_ | refine v12 ?_ ?_); exact rfl; intros) | ((with_reducible refine w2 ?_); try simp -implicitDefEqProofs only [SE, SU, SV]; intros) | ((with_reducible refine w5 ?_ ?_); simp; refine ⟨_, rfl, ?_⟩) | ((with_reducible refine w12 ?_ ?_ ?_ ?_); simp; simp; simp [oneC]; intros) | (refine okF_i (bldP_eq rfl) ?_; try simp only [BLS, SB, Nat.reduceAdd])) | simp -implicitDefEqProofs only [SE, SU, SV]))
        refine pushA (A := I64) (l := l.nums) (a := na) l.free (by first | assumption | exact St.tick (by assumption) | exact St.tick (St.tick (by assumption))) rfl rfl (by omega) (by simp only [maxLen]; omega) (by decide) fun a5 c5 W5 h => ?_
        have ew : IntKind.i64.wrap (l.index + 1) = l.index + 1 := by rw [i64w]; omega
        (repeat (first | (first | ((with_reducible first | refine w1 ?_ | refine w3 ?_ | refine w4 ?_ | refine w11 ?_ | refine stb_n ?_); intros) | ((with_reducible first | refine v5 ?_ | refine v6 ?_ | refine v7 ?_ | refine ve ?_ | refine vn ?_); refine ⟨_, rfl, ?_⟩) | ((with_reducible first | refine v8 ?_ ?_ | refine v9 ?_ ?_ | refine v10 ?_ ?_ | refine v12 ?_ ?_); exact rfl; intros) | ((with_reducible refine w2 ?_); try simp -implicitDefEqProofs only [SE, SU, SV, ew]; intros) | ((with_reducible refine w5 ?_ ?_); simp; refine ⟨_, rfl, ?_⟩) | ((with_reducible refine w12 ?_ ?_ ?_ ?_); simp; simp; simp [oneC]; intros) | (refine okF_i (bldP_eq rfl) ?_; try simp only [BLS, SB, Nat.reduceAdd])) | simp -implicitDefEqProofs only [SE, SU, SV, ew]))
        rename_i h
        (try simp only [BLS, SB, stL_a, stL_b, stL_c, List.append_nil, List.take_nil, List.drop_nil, Nat.reduceAdd] at h)
        have h := lg_mk q dp { l with nums := l.nums ++ [l.free], cur := l.free, count := 0, index := l.index + 1 } a5 c5 da dc bb ra rc rows h hb hrw
        have eix : l.index.toNat = ix := by omega
        rw [eix] at hk
        refine hJ { l with nums := l.nums ++ [l.free], cur := l.free, count := 0, index := l.index + 1 } a3 c3 (topB 1 l.turn ix ++ unitB r) _ rfl (Int.le_refl _) (show (0 : Int) < 2 ^ 62 by decide) (by simp only [List.length_append, topB_len, unitB_len]; omega) (fun hc => absurd hfr (by simp only at hc; omega)) (fun hc W' h => hk _ h) (St.wk h)
      · rw [if_neg fun hh => hfr hh.2] at hk
        have f1 := decide_eq_false hfr
        (repeat (first | (first | ((with_reducible first | refine w1 ?_ | refine w3 ?_ | refine w4 ?_ | refine w11 ?_ | refine stb_n ?_); intros) | ((with_reducible first | refine v5 ?_ | refine v6 ?_ | refine v7 ?_ | refine ve ?_ | refine vn ?_); refine ⟨_, rfl, ?_⟩) | ((with_reducible first | refine v8 ?_ ?_ | refine v9 ?_ ?_ | refine v10 ?_ ?_ | refine v12 ?_ ?_); exact rfl; intros) | ((with_reducible refine w2 ?_); try simp -implicitDefEqProofs only [SE, SU, SV, f1]; intros) | ((with_reducible refine w5 ?_ ?_); simp; refine ⟨_, rfl, ?_⟩) | ((with_reducible refine w12 ?_ ?_ ?_ ?_); simp; simp; simp [oneC]; intros) | (refine okF_i (bldP_eq rfl) ?_; try simp only [BLS, SB, Nat.reduceAdd])) | simp -implicitDefEqProofs only [SE, SU, SV, f1]))
        refine hJ l a1 c1 (unitB r) _ rfl hc0 (by omega) hul (fun hc W' h => ?_) (fun hc W' h => ?_) (by first | assumption | exact St.tick (by assumption) | exact St.tick (St.tick (by assumption)))
        · rw [if_pos hc] at hk; exact hk _ h
        · rw [if_neg hc] at hk; exact hk _ h
  · obtain ⟨na, nc, da, dc, bb, ra, rc, rows, hb, hrw, h⟩ := lg_at h
    have hc : ¬ l.cur < 0 := fun hh => hcond (.inl hh)
    have hp : ¬ l.part ≤ l.count := fun hh => hcond (.inr hh)
    (repeat (first | (first | ((with_reducible first | refine w1 ?_ | refine w3 ?_ | refine w4 ?_ | refine w11 ?_ | refine stb_n ?_); intros) | ((with_reducible first | refine v5 ?_ | refine v6 ?_ | refine v7 ?_ | refine ve ?_ | refine vn ?_); refine ⟨_, rfl, ?_⟩) | ((with_reducible first | refine v8 ?_ ?_ | refine v9 ?_ ?_ | refine v10 ?_ ?_ | refine v12 ?_ ?_); exact rfl; intros) | ((with_reducible refine w2 ?_); try simp -implicitDefEqProofs only [SE, SU, SV, hc, hp]; intros) | ((with_reducible refine w5 ?_ ?_); simp; refine ⟨_, rfl, ?_⟩) | ((with_reducible refine w12 ?_ ?_ ?_ ?_); simp; simp; simp [oneC]; intros) | (refine okF_i (bldP_eq rfl) ?_; try simp only [BLS, SB, Nat.reduceAdd])) | simp -implicitDefEqProofs only [SE, SU, SV, hc, hp]))
    rw [if_neg fun hh => hcond hh.1, if_neg hc] at hk
    exact hJ l a1 c1 (unitB r) _ rfl hc0 (by omega) hul (fun hh => absurd hh hc) (fun _ W' h => hk _ h) (St.ent (by first | assumption | exact St.tick (by assumption) | exact St.tick (St.tick (by assumption))) (lg_ent hb hrw))
end
end Go.Proofs.Ythladblmjoaeoaa
namespace Go.Proofs.Ythladblmjoaeoaa
set_option linter.unusedVariables false
set_option linter.unusedSimpArgs false
open Go Go.Eng

section
variable {W0 W : World} {L L' L1 L2 : List Asn} {q dp : Nat} {l : LS} {d : DS} {k : Value → World → Prop}
abbrev bsOf (rs : List BSl) : List Bs := rs.map (·.bs)
theorem walAdd {a : Option Addr} {c : Nat} {rs : List BSl} (h : St W0 L W) [hl : Tk (lg q dp) L l L1] [hd : Tk (dk dp) L1 d L2] [hr : Rd W0 L2 a BSY rs] (hrs : ∀ x ∈ rs, Rd W0 L2 x.a B8 x.bs) (hlen : rs.length < 500000) (hrl : l.recs.length < 500000) (hbl : ∀ x ∈ rs, x.bs.length < 4611686018427387904) (hL : LOk rs.length d l)
    (hk : ∀ W', St W0 (lg q dp (LS.addAll d l (bsOf rs)).2.1 :: dk dp (LS.addAll d l (bsOf rs)).1 :: L2) W' → k (.int .i64 (LS.addAll d l (bsOf rs)).2.2) W') : callK PR F_wal_Log_Add [.pointer (some ⟨q, 0, none⟩), .slice a rs.length c] k W := by
  apply S.wal_Log_Add.call
  unfold S.wal_Log_Add.body
  refine walDone (dp := dp) h fun W1 h => ?_
  unfold LS.addAll at hk
  cases hdn : l.done d with
  | true =>
    rw [hdn, if_pos rfl] at hk
    (repeat (first | (first | ((with_reducible first | refine w1 ?_ | refine w3 ?_ | refine w4 ?_ | refine w11 ?_ | refine stb_n ?_); intros) | ((with_reducible first | refine v5 ?_ | refine v6 ?_ | refine v7 ?_ | refine ve ?_ | refine vn ?_); refine ⟨_, rfl, ?_⟩) | ((with_reducible first | refine v8 ?_ ?_ | refine v9 ?_ ?_ | refine v10 ?_ ?_ | refine v12 ?_ ?_); exact rfl; intros) | ((with_reducible refine w2 ?_); try simp -implicitDefEqProofs only [SE, SU, SV]; intros) | ((with_reducible refine w5 ?_ ?_); simp; refine ⟨_, rfl, ?_⟩) | ((with_reducible refine w12 ?_ ?_ ?_ ?_); simp; simp; simp [oneC]; intros) | (refine okF_i (bldP_eq rfl) ?_; try simp only [BLS, SB, Nat.reduceAdd])) | simp -implicitDefEqProofs only [SE, SU, SV]))
    exact hk _ (by first | assumption | exact St.tick (by assumption) | exact St.tick (St.tick (by assumption)))
  | false =>
  rw [hdn] at hk
  simp only [Bool.false_eq_true, if_false] at hk
  (repeat (first | (first | ((with_reducible first | refine w1 ?_ | refine w3 ?_ | refine w4 ?_ | refine w11 ?_ | refine stb_n ?_); intros) | ((with_reducible first | refine v5 ?_ | refine v6 ?_ | refine v7 ?_ | refine ve ?_ | refine vn ?_); refine ⟨_, rfl, ?_⟩) | ((with_reducible first | refine v8 ?_ ?_ | refine v9 ?_ ?_ | refine v10 ?_ ?_ | refine v12 ?_ ?_); exact rfl; intros) | ((with_reducible refine w2 ?_); try simp -implicitDefEqProofs only [SE, SU, SV]; intros) | ((with_reducible refine w5 ?_ ?_); simp; refine ⟨_, rfl, ?_⟩) | ((with_reducible refine w12 ?_ ?_ ?_ ?_); simp; simp; simp [oneC]; intros) | (refine okF_i (bldP_eq rfl) ?_; try simp only [BLS, SB, Nat.reduceAdd])) | simp -implicitDefEqProofs only [SE, SU, SV]))
  refine joinK_i ?_
  (repeat (first | (first | ((with_reducible first | refine w1 ?_ | refine w3 ?_ | refine w4 ?_ | refine w11 ?_ | refine stb_n ?_); intros) | ((with_reducible first | refine v5 ?_ | refine v6 ?_ | refine v7 ?_ | refine ve ?_ | refine vn ?_); refine ⟨_, rfl, ?_⟩) | ((with_reducible first | refine v8 ?_ ?_ | refine v9 ?_ ?_ | refine v10 ?_ ?_ | refine v12 ?_ ?_); exact rfl; intros) | ((with_reducible refine w2 ?_); try simp -implicitDefEqProofs only [SE, SU, SV]; intros) | ((with_reducible refine w5 ?_ ?_); simp; refine ⟨_, rfl, ?_⟩) | ((with_reducible refine w12 ?_ ?_ ?_ ?_); simp; simp; simp [oneC]; intros) | (refine okF_i (bldP_eq rfl) ?_; try simp only [BLS, SB, Nat.reduceAdd])) | simp -implicitDefEqProofs only [SE, SU, SV]))
  refine loop_c (σ := Unit) rs.length (fun i _ => [.pointer (some ⟨q, 0, none⟩), .slice a rs.length c, .slice a rs.length c, .int .i64 (rs.length : Int), .int .i64 (i : Int)]) (fun i _ W1 => (∀ x ∈ rs.take i, x.bs.length ≤ 65536) ∧ St W0 (lg q dp l :: dk dp d :: L2) W1) () rfl ⟨by simp, (by first | assumption | exact St.tick (by assumption) | exact St.tick (St.tick (by assumption)))⟩ ?_
  clear h
  rintro K i _ W1 hi ⟨hok, h⟩ hK
  simp -implicitDefEqProofs only [SE, SU, SV]
  unfold S.wal_Log_Add.l3
  by_cases hlt : (i : Int) < (rs.length : Int)
  · have hib : i < rs.length := by omega
    have ew : IntKind.i64.wrap ((i : Int) + 1) = ((i + 1 : Nat) : Int) := by rw [i64w]; omega
    (repeat (first | (first | ((with_reducible first | refine w1 ?_ | refine w3 ?_ | refine w4 ?_ | refine w11 ?_ | refine stb_n ?_); intros) | ((with_reducible first | refine v5 ?_ | refine v6 ?_ | refine v7 ?_ | refine ve ?_ | refine vn ?_); refine ⟨_, rfl, ?_⟩) | ((with_reducible first | refine v8 ?_ ?_ | refine v9 ?_ ?_ | refine v10 ?_ ?_ | refine v12 ?_ ?_); exact rfl; intros) | ((with_reducible refine w2 ?_); try simp -implicitDefEqProofs only [SE, SU, SV, hlt]; intros) | ((with_reducible refine w5 ?_ ?_); simp; refine ⟨_, rfl, ?_⟩) | ((with_reducible refine w12 ?_ ?_ ?_ ?_); simp; simp; simp [oneC]; intros) | (refine okF_i (bldP_eq rfl) ?_; try simp only [BLS, SB, Nat.reduceAdd])) | simp -implicitDefEqProofs only [SE, SU, SV, hlt]))
    refine ixA (i := i) (a := a) (l := rs) (A := BSY) h rfl rfl hib fun g o ha => ?_
    cases ha
    refine ldA0 (i := i) (l := rs) (A := BSY) h rfl hib (v := rs[i].v) rfl (by simp) ?_
    by_cases hbig : rs[i].bs.length ≤ 65536
    · have f1 : decide ((65536 : Int) < (rs[i].bs.length : Int)) = false := decide_eq_false (by omega)
      (repeat (first | (first | ((with_reducible first | refine w1 ?_ | refine w3 ?_ | refine w4 ?_ | refine w11 ?_ | refine stb_n ?_); intros) | ((with_reducible first | refine v5 ?_ | refine v6 ?_ | refine v7 ?_ | refine ve ?_ | refine vn ?_); refine ⟨_, rfl, ?_⟩) | ((with_reducible first | refine v8 ?_ ?_ | refine v9 ?_ ?_ | refine v10 ?_ ?_ | refine v12 ?_ ?_); exact rfl; intros) | ((with_reducible refine w2 ?_); try simp -implicitDefEqProofs only [SE, SU, SV, f1, ew]; intros) | ((with_reducible refine w5 ?_ ?_); simp; refine ⟨_, rfl, ?_⟩) | ((with_reducible refine w12 ?_ ?_ ?_ ?_); simp; simp; simp [oneC]; intros) | (refine okF_i (bldP_eq rfl) ?_; try simp only [BLS, SB, Nat.reduceAdd])) | simp -implicitDefEqProofs only [SE, SU, SV, f1, ew]))
      refine hK () _ hib ⟨fun x hx => ?_, h⟩
      rw [take_snoc hib] at hx
      rcases List.mem_append.1 hx with hx | hx
      · exact hok x hx
      · rw [List.mem_singleton.1 hx]; exact hbig
    · have f1 : decide ((65536 : Int) < (rs[i].bs.length : Int)) = true := decide_eq_true (by omega)
      have f2 : ((bsOf rs).any fun r => decide (65536 < r.length)) = true := by
        rw [List.any_eq_true]
        exact ⟨rs[i].bs, List.mem_map_of_mem (List.getElem_mem hib), decide_eq_true (by omega)⟩
      rw [f2, if_pos rfl] at hk
      (repeat (first | (first | ((with_reducible first | refine w1 ?_ | refine w3 ?_ | refine w4 ?_ | refine w11 ?_ | refine stb_n ?_); intros) | ((with_reducible first | refine v5 ?_ | refine v6 ?_ | refine v7 ?_ | refine ve ?_ | refine vn ?_); refine ⟨_, rfl, ?_⟩) | ((with_reducible first | refine v8 ?_ ?_ | refine v9 ?_ ?_ | refine v10 ?_ ?_ | refine v12 ?_ ?_); exact rfl; intros) | ((with_reducible refine w2 ?_); try simp -implicitDefEqProofs only [SE, SU, SV, f1]; intros) | ((with_reducible refine w5 ?_ ?_); simp; refine ⟨_, rfl, ?_⟩) | ((with_reducible refine w12 ?_ ?_ ?_ ?_); simp; simp; simp [oneC]; intros) | (refine okF_i (bldP_eq rfl) ?_; try simp only [BLS, SB, Nat.reduceAdd])) | simp -implicitDefEqProofs only [SE, SU, SV, f1]))
      exact hk _ h
  have ei : rs.take i = rs := List.take_of_length_le (by omega)
  rw [ei] at hok
  have f2 : ((bsOf rs).any fun r => decide (65536 < r.length)) = false := by
    rw [List.any_eq_false]
    intro r hr2
    obtain ⟨x, hx, rfl⟩ := List.mem_map.1 hr2
    have := hok x hx
    simp; omega
  rw [f2] at hk
  simp only [Bool.false_eq_true, if_false] at hk
  (repeat (first | (first | ((with_reducible first | refine w1 ?_ | refine w3 ?_ | refine w4 ?_ | refine w11 ?_ | refine stb_n ?_); intros) | ((with_reducible first | refine v5 ?_ | refine v6 ?_ | refine v7 ?_ | refine ve ?_ | refine vn ?_); refine ⟨_, rfl, ?_⟩) | ((with_reducible first | refine v8 ?_ ?_ | refine v9 ?_ ?_ | refine v10 ?_ ?_ | refine v12 ?_ ?_); exact rfl; intros) | ((with_reducible refine w2 ?_); try simp -implicitDefEqProofs only [SE, SU, SV, hlt]; intros) | ((with_reducible refine w5 ?_ ?_); simp; refine ⟨_, rfl, ?_⟩) | ((with_reducible refine w12 ?_ ?_ ?_ ?_); simp; simp; simp [oneC]; intros) | (refine okF_i (bldP_eq rfl) ?_; try simp only [BLS, SB, Nat.reduceAdd])) | simp -implicitDefEqProofs only [SE, SU, SV, hlt]))
  clear hK hlt
  unfold S.wal_Log_Add.j1
  refine joinK_i ?_
  simp -implicitDefEqProofs only [SE, SU, SV]
  refine loop_c (σ := DS × LS) rs.length (fun i _ => [.pointer (some ⟨q, 0, none⟩), .slice a rs.length c, .slice a rs.length c, .int .i64 (rs.length : Int), .int .i64 (i : Int)])
    (fun i x W1 => addGo d l (bsOf rs) = addGo x.1 x.2 (bsOf (rs.drop i)) ∧ LOk (rs.length - i) x.1 x.2 ∧ x.2.recs = l.recs ∧ St W0 (lg q dp x.2 :: dk dp x.1 :: L2) W1) (d, l) rfl ⟨by simp, by simpa using hL, rfl, h⟩ ?_
  clear h
  rintro K i ⟨d1, l1⟩ W2 hi ⟨hgo, hL1, hre, h⟩ hK
  simp only at hgo hL1 hre h
  simp -implicitDefEqProofs only [SE, SU, SV]
  unfold S.wal_Log_Add.l2
  by_cases hlt : (i : Int) < (rs.length : Int)
  · have hib : i < rs.length := by omega
    have ew : IntKind.i64.wrap ((i : Int) + 1) = ((i + 1 : Nat) : Int) := by rw [i64w]; omega
    have hx := hrs _ (List.getElem_mem hib)
    have hxl := hok _ (List.getElem_mem hib)
    have ed : rs.drop i = rs[i] :: rs.drop (i + 1) := List.drop_eq_getElem_cons hib
    rw [ed, show bsOf (rs[i] :: rs.drop (i + 1)) = rs[i].bs :: bsOf (rs.drop (i + 1)) from rfl, addGo] at hgo
    rw [show rs.length - i = (rs.length - (i + 1)) + 1 by omega] at hL1
    (repeat (first | (first | ((with_reducible first | refine w1 ?_ | refine w3 ?_ | refine w4 ?_ | refine w11 ?_ | refine stb_n ?_); intros) | ((with_reducible first | refine v5 ?_ | refine v6 ?_ | refine v7 ?_ | refine ve ?_ | refine vn ?_); refine ⟨_, rfl, ?_⟩) | ((with_reducible first | refine v8 ?_ ?_ | refine v9 ?_ ?_ | refine v10 ?_ ?_ | refine v12 ?_ ?_); exact rfl; intros) | ((with_reducible refine w2 ?_); try simp -implicitDefEqProofs only [SE, SU, SV, hlt]; intros) | ((with_reducible refine w5 ?_ ?_); simp; refine ⟨_, rfl, ?_⟩) | ((with_reducible refine w12 ?_ ?_ ?_ ?_); simp; simp; simp [oneC]; intros) | (refine okF_i (bldP_eq rfl) ?_; try simp only [BLS, SB, Nat.reduceAdd])) | simp -implicitDefEqProofs only [SE, SU, SV, hlt]))
    refine ixA (i := i) (a := a) (l := rs) (A := BSY) h rfl rfl hib fun g o ha => ?_
    cases ha
    refine ldA0 (i := i) (l := rs) (A := BSY) h rfl hib (v := rs[i].v) rfl (by simp) ?_
    refine walAdd1 (dp := dp) (a := rs[i].a) (c := rs[i].c) (r := rs[i].bs) (d := d1) (l := l1) h hxl hL1 fun W3 h => ?_
    by_cases he : (LS.add d1 l1 rs[i].bs).2.2 = 0
    · rw [if_neg fun hh => hh he] at hgo
      have f1 := decide_eq_true he
      (repeat (first | (first | ((with_reducible first | refine w1 ?_ | refine w3 ?_ | refine w4 ?_ | refine w11 ?_ | refine stb_n ?_); intros) | ((with_reducible first | refine v5 ?_ | refine v6 ?_ | refine v7 ?_ | refine ve ?_ | refine vn ?_); refine ⟨_, rfl, ?_⟩) | ((with_reducible first | refine v8 ?_ ?_ | refine v9 ?_ ?_ | refine v10 ?_ ?_ | refine v12 ?_ ?_); exact rfl; intros) | ((with_reducible refine w2 ?_); try simp -implicitDefEqProofs only [SE, SU, SV, f1, ew]; intros) | ((with_reducible refine w5 ?_ ?_); simp; refine ⟨_, rfl, ?_⟩) | ((with_reducible refine w12 ?_ ?_ ?_ ?_); simp; simp; simp [oneC]; intros) | (refine okF_i (bldP_eq rfl) ?_; try simp only [BLS, SB, Nat.reduceAdd])) | simp -implicitDefEqProofs only [SE, SU, SV, f1, ew]))
      refine hK (_, _) _ hib ⟨hgo, hL1.add _, ?_, h⟩
      rw [← hre]
      exact add_recs _ _ _
    · rw [if_pos he] at hgo
      have f1 := decide_eq_false he
      rw [hgo, if_pos he] at hk
      (repeat (first | (first | ((with_reducible first | refine w1 ?_ | refine w3 ?_ | refine w4 ?_ | refine w11 ?_ | refine stb_n ?_); intros) | ((with_reducible first | refine v5 ?_ | refine v6 ?_ | refine v7 ?_ | refine ve ?_ | refine vn ?_); refine ⟨_, rfl, ?_⟩) | ((with_reducible first | refine v8 ?_ ?_ | refine v9 ?_ ?_ | refine v10 ?_ ?_ | refine v12 ?_ ?_); exact rfl; intros) | ((with_reducible refine w2 ?_); try simp -implicitDefEqProofs only [SE, SU, SV, f1]; intros) | ((with_reducible refine w5 ?_ ?_); simp; refine ⟨_, rfl, ?_⟩) | ((with_reducible refine w12 ?_ ?_ ?_ ?_); simp; simp; simp [oneC]; intros) | (refine okF_i (bldP_eq rfl) ?_; try simp only [BLS, SB, Nat.reduceAdd])) | simp -implicitDefEqProofs only [SE, SU, SV, f1]))
      exact hk _ h
  have ei : rs.drop i = [] := List.drop_eq_nil_of_le (by omega)
  rw [ei] at hgo
  rw [hgo, show bsOf [] = [] from rfl] at hk
  simp only [addGo, ne_eq, not_true, if_false] at hk
  (repeat (first | (first | ((with_reducible first | refine w1 ?_ | refine w3 ?_ | refine w4 ?_ | refine w11 ?_ | refine stb_n ?_); intros) | ((with_reducible first | refine v5 ?_ | refine v6 ?_ | refine v7 ?_ | refine ve ?_ | refine vn ?_); refine ⟨_, rfl, ?_⟩) | ((with_reducible first | refine v8 ?_ ?_ | refine v9 ?_ ?_ | refine v10 ?_ ?_ | refine v12 ?_ ?_); exact rfl; intros) | ((with_reducible refine w2 ?_); try simp -implicitDefEqProofs only [SE, SU, SV, hlt]; intros) | ((with_reducible refine w5 ?_ ?_); simp; refine ⟨_, rfl, ?_⟩) | ((with_reducible refine w12 ?_ ?_ ?_ ?_); simp; simp; simp [oneC]; intros) | (refine okF_i (bldP_eq rfl) ?_; try simp only [BLS, SB, Nat.reduceAdd])) | simp -implicitDefEqProofs only [SE, SU, SV, hlt]))
  clear hK hlt hgo
  unfold S.wal_Log_Add.j2
  simp -implicitDefEqProofs only [SE, SU, SV]
  refine loop_c (σ := Unit) rs.length (fun i _ => [.pointer (some ⟨q, 0, none⟩), .slice a rs.length c, .int .i64 (rs.length : Int), .int .i64 (i : Int)])
    (fun i _ W1 => St W0 (lg q dp { l1 with recs := l1.recs ++ bsOf (rs.take i) } :: dk dp d1 :: L2) W1) () rfl (by simpa using h) ?_
  clear h
  rintro K i _ W3 hi h hK
  simp -implicitDefEqProofs only [SE, SU, SV]
  unfold S.wal_Log_Add.l1
  by_cases hlt : (i : Int) < (rs.length : Int)
  · have hib : i < rs.length := by omega
    have ew : IntKind.i64.wrap ((i : Int) + 1) = ((i + 1 : Nat) : Int) := by rw [i64w]; omega
    have hx := hrs _ (List.getElem_mem hib)
    have hxl := hok _ (List.getElem_mem hib)
    (repeat (first | (first | ((with_reducible first | refine w1 ?_ | refine w3 ?_ | refine w4 ?_ | refine w11 ?_ | refine stb_n ?_); intros) | ((with_reducible first | refine v5 ?_ | refine v6 ?_ | refine v7 ?_ | refine ve ?_ | refine vn ?_); refine ⟨_, rfl, ?_⟩) | ((with_reducible first | refine v8 ?_ ?_ | refine v9 ?_ ?_ | refine v10 ?_ ?_ | refine v12 ?_ ?_); exact rfl; intros) | ((with_reducible refine w2 ?_); try simp -implicitDefEqProofs only [SE, SU, SV, hlt]; intros) | ((with_reducible refine w5 ?_ ?_); simp; refine ⟨_, rfl, ?_⟩) | ((with_reducible refine w12 ?_ ?_ ?_ ?_); simp; simp; simp [oneC]; intros) | (refine okF_i (bldP_eq rfl) ?_; try simp only [BLS, SB, Nat.reduceAdd])) | simp -implicitDefEqProofs only [SE, SU, SV, hlt]))
    refine ixA (i := i) (a := a) (l := rs) (A := BSY) h rfl rfl hib fun g o ha => ?_
    cases ha
    refine ldA0 (i := i) (l := rs) (A := BSY) h rfl hib (v := rs[i].v) rfl (by simp) ?_
    obtain ⟨na, nc, da, dc, bb, ra, rc, rows, hb, hrw, h⟩ := lg_at h
    have hrwl : rows.length = l1.recs.length + i := by
      have := congrArg List.length hrw
      simpa [Nat.min_eq_left hi] using this
    have hrl1 := congrArg List.length hre
    (repeat (first | (first | ((with_reducible first | refine w1 ?_ | refine w3 ?_ | refine w4 ?_ | refine w11 ?_ | refine stb_n ?_); intros) | ((with_reducible first | refine v5 ?_ | refine v6 ?_ | refine v7 ?_ | refine ve ?_ | refine vn ?_); refine ⟨_, rfl, ?_⟩) | ((with_reducible first | refine v8 ?_ ?_ | refine v9 ?_ ?_ | refine v10 ?_ ?_ | refine v12 ?_ ?_); exact rfl; intros) | ((with_reducible refine w2 ?_); try simp -implicitDefEqProofs only [SE, SU, SV]; intros) | ((with_reducible refine w5 ?_ ?_); simp; refine ⟨_, rfl, ?_⟩) | ((with_reducible refine w12 ?_ ?_ ?_ ?_); simp; simp; simp [oneC]; intros) | (refine okF_i (bldP_eq rfl) ?_; try simp only [BLS, SB, Nat.reduceAdd])) | simp -implicitDefEqProofs only [SE, SU, SV]))
    refine bytesClone (a := rs[i].a) (l := rs[i].bs) (by first | assumption | exact St.tick (by assumption) | exact St.tick (St.tick (by assumption))) (by omega) fun a2 c2 W4 h => ?_
    (repeat (first | (first | ((with_reducible first | refine w1 ?_ | refine w3 ?_ | refine w4 ?_ | refine w11 ?_ | refine stb_n ?_); intros) | ((with_reducible first | refine v5 ?_ | refine v6 ?_ | refine v7 ?_ | refine ve ?_ | refine vn ?_); refine ⟨_, rfl, ?_⟩) | ((with_reducible first | refine v8 ?_ ?_ | refine v9 ?_ ?_ | refine v10 ?_ ?_ | refine v12 ?_ ?_); exact rfl; intros) | ((with_reducible refine w2 ?_); try simp -implicitDefEqProofs only [SE, SU, SV]; intros) | ((with_reducible refine w5 ?_ ?_); simp; refine ⟨_, rfl, ?_⟩) | ((with_reducible refine w12 ?_ ?_ ?_ ?_); simp; simp; simp [oneC]; intros) | (refine okF_i (bldP_eq rfl) ?_; try simp only [BLS, SB, Nat.reduceAdd])) | simp -implicitDefEqProofs only [SE, SU, SV]))
    refine bsA BSY [⟨a2, c2, rs[i].bs⟩] (n := 1) (by first | assumption | exact St.tick (by assumption) | exact St.tick (St.tick (by assumption))) rfl rfl (by decide) (by decide) rfl fun a3 c3 W5 h => ?_
    (repeat (first | (first | ((with_reducible first | refine w1 ?_ | refine w3 ?_ | refine w4 ?_ | refine w11 ?_ | refine stb_n ?_); intros) | ((with_reducible first | refine v5 ?_ | refine v6 ?_ | refine v7 ?_ | refine ve ?_ | refine vn ?_); refine ⟨_, rfl, ?_⟩) | ((with_reducible first | refine v8 ?_ ?_ | refine v9 ?_ ?_ | refine v10 ?_ ?_ | refine v12 ?_ ?_); exact rfl; intros) | ((with_reducible refine w2 ?_); try simp -implicitDefEqProofs only [SE, SU, SV]; intros) | ((with_reducible refine w5 ?_ ?_); simp; refine ⟨_, rfl, ?_⟩) | ((with_reducible refine w12 ?_ ?_ ?_ ?_); simp; simp; simp [oneC]; intros) | (refine okF_i (bldP_eq rfl) ?_; try simp only [BLS, SB, Nat.reduceAdd])) | simp -implicitDefEqProofs only [SE, SU, SV]))
    refine appA (A := BSY) (a := ra) (l := rows) (m := [⟨a2, c2, rs[i].bs⟩]) (by first | assumption | exact St.tick (by assumption) | exact St.tick (St.tick (by assumption))) rfl (by simp; omega) (by simp [maxLen]; omega) fun a4 c4 W6 h => ?_
    (repeat (first | (first | ((with_reducible first | refine w1 ?_ | refine w3 ?_ | refine w4 ?_ | refine w11 ?_ | refine stb_n ?_); intros) | ((with_reducible first | refine v5 ?_ | refine v6 ?_ | refine v7 ?_ | refine ve ?_ | refine vn ?_); refine ⟨_, rfl, ?_⟩) | ((with_reducible first | refine v8 ?_ ?_ | refine v9 ?_ ?_ | refine v10 ?_ ?_ | refine v12 ?_ ?_); exact rfl; intros) | ((with_reducible refine w2 ?_); try simp -implicitDefEqProofs only [SE, SU, SV, ew]; intros) | ((with_reducible refine w5 ?_ ?_); simp; refine ⟨_, rfl, ?_⟩) | ((with_reducible refine w12 ?_ ?_ ?_ ?_); simp; simp; simp [oneC]; intros) | (refine okF_i (bldP_eq rfl) ?_; try simp only [BLS, SB, Nat.reduceAdd])) | simp -implicitDefEqProofs only [SE, SU, SV, ew]))
    rename_i h
    (try simp only [BLS, SB, stL_a, stL_b, stL_c, List.append_nil, List.take_nil, List.drop_nil, Nat.reduceAdd] at h)
    have h := St.manyPush (F := fch) ⟨a2, c2, rs[i].bs⟩ rows h
    have h := lg_mk q dp { l1 with recs := l1.recs ++ bsOf (rs.take (i + 1)) } na nc da dc bb a4 c4 (rows ++ [⟨a2, c2, rs[i].bs⟩]) h hb
      (by rw [List.map_append, hrw]; simp only [bsOf]; rw [take_snoc hib, List.map_append, List.append_assoc]; rfl)
    exact hK () _ hib (St.wk h)
  · have ei : rs.take i = rs := List.take_of_length_le (by omega)
    rw [ei, hre] at h
    rw [hre] at hk
    (repeat (first | (first | ((with_reducible first | refine w1 ?_ | refine w3 ?_ | refine w4 ?_ | refine w11 ?_ | refine stb_n ?_); intros) | ((with_reducible first | refine v5 ?_ | refine v6 ?_ | refine v7 ?_ | refine ve ?_ | refine vn ?_); refine ⟨_, rfl, ?_⟩) | ((with_reducible first | refine v8 ?_ ?_ | refine v9 ?_ ?_ | refine v10 ?_ ?_ | refine v12 ?_ ?_); exact rfl; intros) | ((with_reducible refine w2 ?_); try simp -implicitDefEqProofs only [SE, SU, SV, hlt]; intros) | ((with_reducible refine w5 ?_ ?_); simp; refine ⟨_, rfl, ?_⟩) | ((with_reducible refine w12 ?_ ?_ ?_ ?_); simp; simp; simp [oneC]; intros) | (refine okF_i (bldP_eq rfl) ?_; try simp only [BLS, SB, Nat.reduceAdd])) | simp -implicitDefEqProofs only [SE, SU, SV, hlt]))
    exact hk _ h
end
end Go.Proofs.Ythladblmjoaeoaa
namespace Go.Proofs.Ythladblmjoaeoaa
set_option linter.unusedVariables false
set_option linter.unusedSimpArgs false
open Go Go.Eng

section
variable {W0 W : World} {L L' L1 L2 : List Asn} {q dp : Nat} {l : LS} {d : DS} {k : Value → World → Prop}
theorem sync_ws (d : DS) (f : Int) : (d.sync f).1.ws.length ≤ d.ws.length := by
  unfold DS.sync DS.safe
  split
  · exact List.length_filter_le _ _
  · exact Nat.le_refl _
theorem drop_ws (d : DS) (f : Int) : (d.drop f).1.ws.length ≤ d.ws.length := by
  unfold DS.drop DS.safe
  split
  · exact List.length_filter_le _ _
  · exact Nat.le_refl _
theorem walSync (h : St W0 L W) [hl : Tk (lg q dp) L l L1] [hd : Tk (dk dp) L1 d L2] (hw : d.ws.length < 500000) (hdl : l.dirty.length < 500000)
    (hk : ∀ W', St W0 (lg q dp (LS.sync d l).2.1 :: dk dp (LS.sync d l).1 :: L2) W' → k (.int .i64 (LS.sync d l).2.2) W') : callK PR F_wal_Log_Sync [.pointer (some ⟨q, 0, none⟩)] k W := by
  apply S.wal_Log_Sync.call
  unfold S.wal_Log_Sync.body
  refine walDone (dp := dp) h fun W1 h => ?_
  unfold LS.sync at hk
  cases hdn : l.done d with
  | true =>
    rw [hdn, if_pos rfl] at hk
    (repeat (first | (first | ((with_reducible first | refine w1 ?_ | refine w3 ?_ | refine w4 ?_ | refine w11 ?_ | refine stb_n ?_); intros) | ((with_reducible first | refine v5 ?_ | refine v6 ?_ | refine v7 ?_ | refine ve ?_ | refine vn ?_); refine ⟨_, rfl, ?_⟩) | ((with_reducible first | refine v8 ?_ ?_ | refine v9 ?_ ?_ | refine v10 ?_ ?_ | refine v12 ?_ ?_); exact rfl; intros) | ((with_reducible refine w2 ?_); try simp -implicitDefEqProofs only [SE, SU, SV]; intros) | ((with_reducible refine w5 ?_ ?_); simp; refine ⟨_, rfl, ?_⟩) | ((with_reducible refine w12 ?_ ?_ ?_ ?_); simp; simp; simp [oneC]; intros) | (refine okF_i (bldP_eq rfl) ?_; try simp only [BLS, SB, Nat.reduceAdd])) | simp -implicitDefEqProofs only [SE, SU, SV]))
    exact hk _ (by first | assumption | exact St.tick (by assumption) | exact St.tick (St.tick (by assumption)))
  | false =>
  rw [hdn] at hk
  simp only [Bool.false_eq_true, if_false] at hk
  obtain ⟨na, nc, da, dc, bb, ra, rc, rows, hb, hrw, h⟩ := lg_at h
  (repeat (first | (first | ((with_reducible first | refine w1 ?_ | refine w3 ?_ | refine w4 ?_ | refine w11 ?_ | refine stb_n ?_); intros) | ((with_reducible first | refine v5 ?_ | refine v6 ?_ | refine v7 ?_ | refine ve ?_ | refine vn ?_); refine ⟨_, rfl, ?_⟩) | ((with_reducible first | refine v8 ?_ ?_ | refine v9 ?_ ?_ | refine v10 ?_ ?_ | refine v12 ?_ ?_); exact rfl; intros) | ((with_reducible refine w2 ?_); try simp -implicitDefEqProofs only [SE, SU, SV]; intros) | ((with_reducible refine w5 ?_ ?_); simp; refine ⟨_, rfl, ?_⟩) | ((with_reducible refine w12 ?_ ?_ ?_ ?_); simp; simp; simp [oneC]; intros) | (refine okF_i (bldP_eq rfl) ?_; try simp only [BLS, SB, Nat.reduceAdd])) | simp -implicitDefEqProofs only [SE, SU, SV]))
  refine joinK_i ?_
  (repeat (first | (first | ((with_reducible first | refine w1 ?_ | refine w3 ?_ | refine w4 ?_ | refine w11 ?_ | refine stb_n ?_); intros) | ((with_reducible first | refine v5 ?_ | refine v6 ?_ | refine v7 ?_ | refine ve ?_ | refine vn ?_); refine ⟨_, rfl, ?_⟩) | ((with_reducible first | refine v8 ?_ ?_ | refine v9 ?_ ?_ | refine v10 ?_ ?_ | refine v12 ?_ ?_); exact rfl; intros) | ((with_reducible refine w2 ?_); try simp -implicitDefEqProofs only [SE, SU, SV]; intros) | ((with_reducible refine w5 ?_ ?_); simp; refine ⟨_, rfl, ?_⟩) | ((with_reducible refine w12 ?_ ?_ ?_ ?_); simp; simp; simp [oneC]; intros) | (refine okF_i (bldP_eq rfl) ?_; try simp only [BLS, SB, Nat.reduceAdd])) | simp -implicitDefEqProofs only [SE, SU, SV]))
  refine loop_c (σ := DS) l.dirty.length (fun i _ => [.pointer (some ⟨q, 0, none⟩), .slice da l.dirty.length dc, .int .i64 (l.dirty.length : Int), .int .i64 (i : Int)])
    (fun i d1 W1 => syncGo d l.dirty = syncGo d1 (l.dirty.drop i) ∧ d1.ws.length < 500000 ∧ St W0 (dk dp d1 :: cells q [.pointer (some ⟨dp, 0, none⟩), .int .i64 l.part, .int .i64 l.lives, .int .u64 (l.turn : Int), .slice na l.nums.length nc, .int .i64 l.cur, .int .i64 l.count, .int .i64 l.index, .slice da l.dirty.length dc, .slice bb.a bb.bs.length bb.c, .slice ra rows.length rc, .bool l.full] T_wal_Log ::
      arr I64 T_int na nc l.nums :: arr I64 T_int da dc l.dirty :: fch bb :: arr BSY T_s_uint8 ra rc rows :: many fch rows :: L2) W1) d rfl ⟨rfl, hw, St.wk (by first | assumption | exact St.tick (by assumption) | exact St.tick (St.tick (by assumption)))⟩ ?_
  clear h
  rintro K i d1 W2 hi ⟨hgo, hw1, h⟩ hK
  simp -implicitDefEqProofs only [SE, SU, SV]
  unfold S.wal_Log_Sync.l1
  by_cases hlt : (i : Int) < (l.dirty.length : Int)
  · have hib : i < l.dirty.length := by omega
    have ew : IntKind.i64.wrap ((i : Int) + 1) = ((i + 1 : Nat) : Int) := by rw [i64w]; omega
    rw [List.drop_eq_getElem_cons hib, syncGo] at hgo
    (repeat (first | (first | ((with_reducible first | refine w1 ?_ | refine w3 ?_ | refine w4 ?_ | refine w11 ?_ | refine stb_n ?_); intros) | ((with_reducible first | refine v5 ?_ | refine v6 ?_ | refine v7 ?_ | refine ve ?_ | refine vn ?_); refine ⟨_, rfl, ?_⟩) | ((with_reducible first | refine v8 ?_ ?_ | refine v9 ?_ ?_ | refine v10 ?_ ?_ | refine v12 ?_ ?_); exact rfl; intros) | ((with_reducible refine w2 ?_); try simp -implicitDefEqProofs only [SE, SU, SV, hlt]; intros) | ((with_reducible refine w5 ?_ ?_); simp; refine ⟨_, rfl, ?_⟩) | ((with_reducible refine w12 ?_ ?_ ?_ ?_); simp; simp; simp [oneC]; intros) | (refine okF_i (bldP_eq rfl) ?_; try simp only [BLS, SB, Nat.reduceAdd])) | simp -implicitDefEqProofs only [SE, SU, SV, hlt]))
    refine ixA (i := i) (a := da) (l := l.dirty) (A := I64) h rfl rfl hib fun g o ha => ?_
    cases ha
    refine ldA0 (i := i) (l := l.dirty) (A := I64) h rfl hib (v := .int .i64 l.dirty[i]) rfl (by simp) ?_
    (repeat (first | (first | ((with_reducible first | refine w1 ?_ | refine w3 ?_ | refine w4 ?_ | refine w11 ?_ | refine stb_n ?_); intros) | ((with_reducible first | refine v5 ?_ | refine v6 ?_ | refine v7 ?_ | refine ve ?_ | refine vn ?_); refine ⟨_, rfl, ?_⟩) | ((with_reducible first | refine v8 ?_ ?_ | refine v9 ?_ ?_ | refine v10 ?_ ?_ | refine v12 ?_ ?_); exact rfl; intros) | ((with_reducible refine w2 ?_); try simp -implicitDefEqProofs only [SE, SU, SV]; intros) | ((with_reducible refine w5 ?_ ?_); simp; refine ⟨_, rfl, ?_⟩) | ((with_reducible refine w12 ?_ ?_ ?_ ?_); simp; simp; simp [oneC]; intros) | (refine okF_i (bldP_eq rfl) ?_; try simp only [BLS, SB, Nat.reduceAdd])) | simp -implicitDefEqProofs only [SE, SU, SV]))
    refine diskSync (d := d1) (f := l.dirty[i]) (by first | assumption | exact St.tick (by assumption) | exact St.tick (St.tick (by assumption))) (by omega) fun W3 h => ?_
    have := sync_ws d1 l.dirty[i]
    by_cases he : (d1.sync l.dirty[i]).2 = 0
    · rw [if_neg fun hh => hh he] at hgo
      have f1 := decide_eq_true he
      (repeat (first | (first | ((with_reducible first | refine w1 ?_ | refine w3 ?_ | refine w4 ?_ | refine w11 ?_ | refine stb_n ?_); intros) | ((with_reducible first | refine v5 ?_ | refine v6 ?_ | refine v7 ?_ | refine ve ?_ | refine vn ?_); refine ⟨_, rfl, ?_⟩) | ((with_reducible first | refine v8 ?_ ?_ | refine v9 ?_ ?_ | refine v10 ?_ ?_ | refine v12 ?_ ?_); exact rfl; intros) | ((with_reducible refine w2 ?_); try simp -implicitDefEqProofs only [SE, SU, SV, f1, ew]; intros) | ((with_reducible refine w5 ?_ ?_); simp; refine ⟨_, rfl, ?_⟩) | ((with_reducible refine w12 ?_ ?_ ?_ ?_); simp; simp; simp [oneC]; intros) | (refine okF_i (bldP_eq rfl) ?_; try simp only [BLS, SB, Nat.reduceAdd])) | simp -implicitDefEqProofs only [SE, SU, SV, f1, ew]))
      exact hK _ _ hib ⟨hgo, by omega, h⟩
    · rw [if_pos he] at hgo
      have f1 := decide_eq_false he
      rw [hgo, if_pos he] at hk
      (repeat (first | (first | ((with_reducible first | refine w1 ?_ | refine w3 ?_ | refine w4 ?_ | refine w11 ?_ | refine stb_n ?_); intros) | ((with_reducible first | refine v5 ?_ | refine v6 ?_ | refine v7 ?_ | refine ve ?_ | refine vn ?_); refine ⟨_, rfl, ?_⟩) | ((with_reducible first | refine v8 ?_ ?_ | refine v9 ?_ ?_ | refine v10 ?_ ?_ | refine v12 ?_ ?_); exact rfl; intros) | ((with_reducible refine w2 ?_); try simp -implicitDefEqProofs only [SE, SU, SV, f1]; intros) | ((with_reducible refine w5 ?_ ?_); simp; refine ⟨_, rfl, ?_⟩) | ((with_reducible refine w12 ?_ ?_ ?_ ?_); simp; simp; simp [oneC]; intros) | (refine okF_i (bldP_eq rfl) ?_; try simp only [BLS, SB, Nat.reduceAdd])) | simp -implicitDefEqProofs only [SE, SU, SV, f1]))
      exact hk _ (h.ent (lg_dk hb hrw))
  · rw [List.drop_eq_nil_of_le (by omega)] at hgo
    rw [hgo] at hk
    simp only [syncGo, ne_eq, not_true, if_false] at hk
    unfold S.wal_Log_Sync.j1
    (repeat (first | (first | ((with_reducible first | refine w1 ?_ | refine w3 ?_ | refine w4 ?_ | refine w11 ?_ | refine stb_n ?_); intros) | ((with_reducible first | refine v5 ?_ | refine v6 ?_ | refine v7 ?_ | refine ve ?_ | refine vn ?_); refine ⟨_, rfl, ?_⟩) | ((with_reducible first | refine v8 ?_ ?_ | refine v9 ?_ ?_ | refine v10 ?_ ?_ | refine v12 ?_ ?_); exact rfl; intros) | ((with_reducible refine w2 ?_); try simp -implicitDefEqProofs only [SE, SU, SV, hlt]; intros) | ((with_reducible refine w5 ?_ ?_); simp; refine ⟨_, rfl, ?_⟩) | ((with_reducible refine w12 ?_ ?_ ?_ ?_); simp; simp; simp [oneC]; intros) | (refine okF_i (bldP_eq rfl) ?_; try simp only [BLS, SB, Nat.reduceAdd])) | simp -implicitDefEqProofs only [SE, SU, SV, hlt]))
    rename_i h
    (try simp only [BLS, SB, stL_a, stL_b, stL_c, List.append_nil, List.take_nil, List.drop_nil, Nat.reduceAdd] at h)
    have h := h.ent (arr_nil I64 T_int)
    have h := lg_mk q dp { l with dirty := [] } na nc none 0 bb ra rc rows h hb hrw
    exact hk _ (St.wk h)
theorem walBase (h : St W0 L W) [hl : Tk (lg q dp) L l L1] (hb0 : l.base.length < 70368744177664) (hk : ∀ a c W', St W0 (arr B8 T_uint8 a c l.base :: lg q dp l :: L1) W' → k (.slice a l.base.length c) W') : callK PR F_wal_Log_Base [.pointer (some ⟨q, 0, none⟩)] k W := by
  apply S.wal_Log_Base.call
  unfold S.wal_Log_Base.body
  obtain ⟨na, nc, da, dc, bb, ra, rc, rows, hb, hrw, h⟩ := lg_at (h.perm hl.perm)
  rw [← hb] at hk hb0
  (repeat (first | (first | ((with_reducible first | refine w1 ?_ | refine w3 ?_ | refine w4 ?_ | refine w11 ?_ | refine stb_n ?_); intros) | ((with_reducible first | refine v5 ?_ | refine v6 ?_ | refine v7 ?_ | refine ve ?_ | refine vn ?_); refine ⟨_, rfl, ?_⟩) | ((with_reducible first | refine v8 ?_ ?_ | refine v9 ?_ ?_ | refine v10 ?_ ?_ | refine v12 ?_ ?_); exact rfl; intros) | ((with_reducible refine w2 ?_); try simp -implicitDefEqProofs only [SE, SU, SV]; intros) | ((with_reducible refine w5 ?_ ?_); simp; refine ⟨_, rfl, ?_⟩) | ((with_reducible refine w12 ?_ ?_ ?_ ?_); simp; simp; simp [oneC]; intros) | (refine okF_i (bldP_eq rfl) ?_; try simp only [BLS, SB, Nat.reduceAdd])) | simp -implicitDefEqProofs only [SE, SU, SV]))
  refine bytesClone (a := bb.a) (l := bb.bs) (by first | assumption | exact St.tick (by assumption) | exact St.tick (St.tick (by assumption))) hb0 fun a1 c1 W1 h => ?_
  exact hk a1 c1 _ (h.ent (ent.cons _ (lg_ent hb hrw)))
theorem walAll (h : St W0 L W) [hl : Tk (lg q dp) L l L1] (hn : l.recs.length < 500000) (hb0 : ∀ r ∈ l.recs, r.length < 70368744177664) (hk : ∀ a c (rs : List BSl) W', bsOf rs = l.recs → St W0 (arr BSY T_s_uint8 a c rs :: many fch rs :: lg q dp l :: L1) W' → k (.slice a rs.length c) W') :
    callK PR F_wal_Log_All [.pointer (some ⟨q, 0, none⟩)] k W := by
  apply S.wal_Log_All.call
  unfold S.wal_Log_All.body
  refine joinK_i ?_
  obtain ⟨na, nc, da, dc, bb, ra, rc, rows, hb, hrw, h⟩ := lg_at (h.perm hl.perm)
  have hrl : rows.length = l.recs.length := by rw [← hrw]; simp
  (repeat (first | (first | ((with_reducible first | refine w1 ?_ | refine w3 ?_ | refine w4 ?_ | refine w11 ?_ | refine stb_n ?_); intros) | ((with_reducible first | refine v5 ?_ | refine v6 ?_ | refine v7 ?_ | refine ve ?_ | refine vn ?_); refine ⟨_, rfl, ?_⟩) | ((with_reducible first | refine v8 ?_ ?_ | refine v9 ?_ ?_ | refine v10 ?_ ?_ | refine v12 ?_ ?_); exact rfl; intros) | ((with_reducible refine w2 ?_); try simp -implicitDefEqProofs only [SE, SU, SV]; intros) | ((with_reducible refine w5 ?_ ?_); simp; refine ⟨_, rfl, ?_⟩) | ((with_reducible refine w12 ?_ ?_ ?_ ?_); simp; simp; simp [oneC]; intros) | (refine okF_i (bldP_eq rfl) ?_; try simp only [BLS, SB, Nat.reduceAdd])) | simp -implicitDefEqProofs only [SE, SU, SV]))
  refine loop_c (σ := Option Addr × Nat × List BSl) rows.length (fun i x => [.slice x.1 x.2.2.length x.2.1, .slice ra rows.length rc, .int .i64 (rows.length : Int), .int .i64 (i : Int)])
    (fun i x W1 => bsOf x.2.2 = bsOf (rows.take i) ∧ St W0 (arr BSY T_s_uint8 x.1 x.2.1 x.2.2 :: many fch x.2.2 :: cells q [.pointer (some ⟨dp, 0, none⟩), .int .i64 l.part, .int .i64 l.lives, .int .u64 (l.turn : Int), .slice na l.nums.length nc, .int .i64 l.cur, .int .i64 l.count, .int .i64 l.index, .slice da l.dirty.length dc, .slice bb.a bb.bs.length bb.c, .slice ra rows.length rc, .bool l.full] T_wal_Log ::
      arr I64 T_int na nc l.nums :: arr I64 T_int da dc l.dirty :: fch bb :: arr BSY T_s_uint8 ra rc rows :: many fch rows :: L1) W1) (none, 0, []) rfl ⟨rfl, St.ent (by first | assumption | exact St.tick (by assumption) | exact St.tick (St.tick (by assumption))) ((many_nil (F := fch)).trans (arr_nil BSY T_s_uint8))⟩ ?_
  clear h
  rintro K i ⟨a1, c1, rs⟩ W2 hi ⟨hrs, h⟩ hK
  simp only at hrs h
  have hrsl : rs.length = i := by have := congrArg List.length hrs; simpa [Nat.min_eq_left hi] using this
  simp -implicitDefEqProofs only [SE, SU, SV]
  unfold S.wal_Log_All.l1
  by_cases hlt : (i : Int) < (rows.length : Int)
  · have hib : i < rows.length := by omega
    have ew : IntKind.i64.wrap ((i : Int) + 1) = ((i + 1 : Nat) : Int) := by rw [i64w]; omega
    have hbl : rows[i].bs.length < 70368744177664 := hb0 _ (by rw [← hrw]; exact List.mem_map_of_mem (List.getElem_mem hib))
    (repeat (first | (first | ((with_reducible first | refine w1 ?_ | refine w3 ?_ | refine w4 ?_ | refine w11 ?_ | refine stb_n ?_); intros) | ((with_reducible first | refine v5 ?_ | refine v6 ?_ | refine v7 ?_ | refine ve ?_ | refine vn ?_); refine ⟨_, rfl, ?_⟩) | ((with_reducible first | refine v8 ?_ ?_ | refine v9 ?_ ?_ | refine v10 ?_ ?_ | refine v12 ?_ ?_); exact rfl; intros) | ((with_reducible refine w2 ?_); try simp -implicitDefEqProofs only [SE, SU, SV, hlt]; intros) | ((with_reducible refine w5 ?_ ?_); simp; refine ⟨_, rfl, ?_⟩) | ((with_reducible refine w12 ?_ ?_ ?_ ?_); simp; simp; simp [oneC]; intros) | (refine okF_i (bldP_eq rfl) ?_; try simp only [BLS, SB, Nat.reduceAdd])) | simp -implicitDefEqProofs only [SE, SU, SV, hlt]))
    haveI hrd : Rd W0 (arr BSY T_s_uint8 a1 c1 rs :: many fch rs :: cells q [.pointer (some ⟨dp, 0, none⟩), .int .i64 l.part, .int .i64 l.lives, .int .u64 (l.turn : Int), .slice na l.nums.length nc, .int .i64 l.cur, .int .i64 l.count, .int .i64 l.index, .slice da l.dirty.length dc, .slice bb.a bb.bs.length bb.c, .slice ra rows.length rc, .bool l.full] T_wal_Log ::
      arr I64 T_int na nc l.nums :: arr I64 T_int da dc l.dirty :: fch bb :: arr BSY T_s_uint8 ra rc rows :: many fch rows :: L1) ra BSY rows := ⟨fun W h => by
        have h2 := St.wk (L' := arr BSY T_s_uint8 ra rc rows :: []) h
        have hr : Rd W0 (arr BSY T_s_uint8 ra rc rows :: []) ra BSY rows := inferInstance
        exact hr.ok W h2⟩
    refine ixA (i := i) (a := ra) (l := rows) (A := BSY) h rfl rfl hib fun g o ha => ?_
    refine ldA0 (i := i) (l := rows) (A := BSY) (hr := ha ▸ hrd) h rfl hib (v := rows[i].v) rfl (by simp) ?_
    haveI hrd2 : Rd W0 (arr BSY T_s_uint8 a1 c1 rs :: many fch rs :: cells q [.pointer (some ⟨dp, 0, none⟩), .int .i64 l.part, .int .i64 l.lives, .int .u64 (l.turn : Int), .slice na l.nums.length nc, .int .i64 l.cur, .int .i64 l.count, .int .i64 l.index, .slice da l.dirty.length dc, .slice bb.a bb.bs.length bb.c, .slice ra rows.length rc, .bool l.full] T_wal_Log ::
      arr I64 T_int na nc l.nums :: arr I64 T_int da dc l.dirty :: fch bb :: arr BSY T_s_uint8 ra rc rows :: many fch rows :: L1) rows[i].a B8 rows[i].bs := ⟨fun W h => by
        have h2 := St.wk (L' := many fch rows :: []) h
        exact (rdMany (W0 := W0) (L := []) (.inr (List.getElem_mem hib))).ok W h2⟩
    refine bytesClone (a := rows[i].a) (l := rows[i].bs) h hbl fun a2 c2 W3 h => ?_
    refine pushA (A := BSY) (l := rs) (a := a1) (⟨a2, c2, rows[i].bs⟩ : BSl) h rfl rfl (by omega) (by simp only [maxLen]; omega) (by decide) fun a3 c3 W4 h => ?_
    (repeat (first | (first | ((with_reducible first | refine w1 ?_ | refine w3 ?_ | refine w4 ?_ | refine w11 ?_ | refine stb_n ?_); intros) | ((with_reducible first | refine v5 ?_ | refine v6 ?_ | refine v7 ?_ | refine ve ?_ | refine vn ?_); refine ⟨_, rfl, ?_⟩) | ((with_reducible first | refine v8 ?_ ?_ | refine v9 ?_ ?_ | refine v10 ?_ ?_ | refine v12 ?_ ?_); exact rfl; intros) | ((with_reducible refine w2 ?_); try simp -implicitDefEqProofs only [SE, SU, SV, ew]; intros) | ((with_reducible refine w5 ?_ ?_); simp; refine ⟨_, rfl, ?_⟩) | ((with_reducible refine w12 ?_ ?_ ?_ ?_); simp; simp; simp [oneC]; intros) | (refine okF_i (bldP_eq rfl) ?_; try simp only [BLS, SB, Nat.reduceAdd])) | simp -implicitDefEqProofs only [SE, SU, SV, ew]))
    have h := St.manyPush (F := fch) ⟨a2, c2, rows[i].bs⟩ rs h
    exact hK (a3, c3, rs ++ [⟨a2, c2, rows[i].bs⟩]) _ hib ⟨by simp only [bsOf] at hrs ⊢; rw [List.map_append, hrs, take_snoc hib, List.map_append]; rfl, St.perm h (List.Perm.swap _ _ _)⟩
  · rw [List.take_of_length_le (by omega)] at hrs
    unfold S.wal_Log_All.j1
    (repeat (first | (first | ((with_reducible first | refine w1 ?_ | refine w3 ?_ | refine w4 ?_ | refine w11 ?_ | refine stb_n ?_); intros) | ((with_reducible first | refine v5 ?_ | refine v6 ?_ | refine v7 ?_ | refine ve ?_ | refine vn ?_); refine ⟨_, rfl, ?_⟩) | ((with_reducible first | refine v8 ?_ ?_ | refine v9 ?_ ?_ | refine v10 ?_ ?_ | refine v12 ?_ ?_); exact rfl; intros) | ((with_reducible refine w2 ?_); try simp -implicitDefEqProofs only [SE, SU, SV, hlt]; intros) | ((with_reducible refine w5 ?_ ?_); simp; refine ⟨_, rfl, ?_⟩) | ((with_reducible refine w12 ?_ ?_ ?_ ?_); simp; simp; simp [oneC]; intros) | (refine okF_i (bldP_eq rfl) ?_; try simp only [BLS, SB, Nat.reduceAdd])) | simp -implicitDefEqProofs only [SE, SU, SV, hlt]))
    exact hk a1 c1 rs _ (hrs.trans hrw) (h.ent (ent.cons _ (ent.cons _ (lg_ent hb hrw))))
theorem walKeep {a : Option Addr} {c : Nat} {b : Bs} (h : St W0 L W) [hl : Tk (lg q dp) L l L1] [hd : Tk (dk dp) L1 d L2] [hr : Rd W0 L2 a B8 b] (hL : LOk 2 d l) (hbl : b.length < 4611686018427387904)
    (hk : ∀ W', St W0 (lg q dp (LS.keep d l b).2.1 :: dk dp (LS.keep d l b).1 :: L2) W' → k (.int .i64 (LS.keep d l b).2.2) W') : callK PR F_wal_Log_Keep [.pointer (some ⟨q, 0, none⟩), .slice a b.length c] k W := by
  apply S.wal_Log_Keep.call
  unfold S.wal_Log_Keep.body
  refine walDone (dp := dp) h fun W1 h => ?_
  obtain ⟨g1, g2, g3, g4, g5, g6, g7⟩ := hL
  unfold LS.keep at hk
  cases hdn : l.done d with
  | true =>
    rw [hdn, if_pos rfl] at hk
    (repeat (first | (first | ((with_reducible first | refine w1 ?_ | refine w3 ?_ | refine w4 ?_ | refine w11 ?_ | refine stb_n ?_); intros) | ((with_reducible first | refine v5 ?_ | refine v6 ?_ | refine v7 ?_ | refine ve ?_ | refine vn ?_); refine ⟨_, rfl, ?_⟩) | ((with_reducible first | refine v8 ?_ ?_ | refine v9 ?_ ?_ | refine v10 ?_ ?_ | refine v12 ?_ ?_); exact rfl; intros) | ((with_reducible refine w2 ?_); try simp -implicitDefEqProofs only [SE, SU, SV]; intros) | ((with_reducible refine w5 ?_ ?_); simp; refine ⟨_, rfl, ?_⟩) | ((with_reducible refine w12 ?_ ?_ ?_ ?_); simp; simp; simp [oneC]; intros) | (refine okF_i (bldP_eq rfl) ?_; try simp only [BLS, SB, Nat.reduceAdd])) | simp -implicitDefEqProofs only [SE, SU, SV]))
    exact hk _ (by first | assumption | exact St.tick (by assumption) | exact St.tick (St.tick (by assumption)))
  | false =>
  rw [hdn] at hk
  simp only [Bool.false_eq_true, if_false] at hk
  by_cases hbig : 65536 < b.length
  · rw [if_pos hbig] at hk
    have f1 : decide ((65536 : Int) < (b.length : Int)) = true := decide_eq_true (by omega)
    (repeat (first | (first | ((with_reducible first | refine w1 ?_ | refine w3 ?_ | refine w4 ?_ | refine w11 ?_ | refine stb_n ?_); intros) | ((with_reducible first | refine v5 ?_ | refine v6 ?_ | refine v7 ?_ | refine ve ?_ | refine vn ?_); refine ⟨_, rfl, ?_⟩) | ((with_reducible first | refine v8 ?_ ?_ | refine v9 ?_ ?_ | refine v10 ?_ ?_ | refine v12 ?_ ?_); exact rfl; intros) | ((with_reducible refine w2 ?_); try simp -implicitDefEqProofs only [SE, SU, SV, f1]; intros) | ((with_reducible refine w5 ?_ ?_); simp; refine ⟨_, rfl, ?_⟩) | ((with_reducible refine w12 ?_ ?_ ?_ ?_); simp; simp; simp [oneC]; intros) | (refine okF_i (bldP_eq rfl) ?_; try simp only [BLS, SB, Nat.reduceAdd])) | simp -implicitDefEqProofs only [SE, SU, SV, f1]))
    exact hk _ (by first | assumption | exact St.tick (by assumption) | exact St.tick (St.tick (by assumption)))
  rw [if_neg hbig] at hk
  have f1 : decide ((65536 : Int) < (b.length : Int)) = false := decide_eq_false (by omega)
  (repeat (first | (first | ((with_reducible first | refine w1 ?_ | refine w3 ?_ | refine w4 ?_ | refine w11 ?_ | refine stb_n ?_); intros) | ((with_reducible first | refine v5 ?_ | refine v6 ?_ | refine v7 ?_ | refine ve ?_ | refine vn ?_); refine ⟨_, rfl, ?_⟩) | ((with_reducible first | refine v8 ?_ ?_ | refine v9 ?_ ?_ | refine v10 ?_ ?_ | refine v12 ?_ ?_); exact rfl; intros) | ((with_reducible refine w2 ?_); try simp -implicitDefEqProofs only [SE, SU, SV, f1]; intros) | ((with_reducible refine w5 ?_ ?_); simp; refine ⟨_, rfl, ?_⟩) | ((with_reducible refine w12 ?_ ?_ ?_ ?_); simp; simp; simp [oneC]; intros) | (refine okF_i (bldP_eq rfl) ?_; try simp only [BLS, SB, Nat.reduceAdd])) | simp -implicitDefEqProofs only [SE, SU, SV, f1]))
  refine walFree (dp := dp) (l := l) (by first | assumption | exact St.tick (by assumption) | exact St.tick (St.tick (by assumption))) (by omega) fun W2 h => ?_
  by_cases hfr : l.free < 0
  · rw [if_pos hfr] at hk
    have f2 := decide_eq_true hfr
    obtain ⟨na, nc, da, dc, bb, ra, rc, rows, hb, hrw, h⟩ := lg_at h
    (repeat (first | (first | ((with_reducible first | refine w1 ?_ | refine w3 ?_ | refine w4 ?_ | refine w11 ?_ | refine stb_n ?_); intros) | ((with_reducible first | refine v5 ?_ | refine v6 ?_ | refine v7 ?_ | refine ve ?_ | refine vn ?_); refine ⟨_, rfl, ?_⟩) | ((with_reducible first | refine v8 ?_ ?_ | refine v9 ?_ ?_ | refine v10 ?_ ?_ | refine v12 ?_ ?_); exact rfl; intros) | ((with_reducible refine w2 ?_); try simp -implicitDefEqProofs only [SE, SU, SV, f2]; intros) | ((with_reducible refine w5 ?_ ?_); simp; refine ⟨_, rfl, ?_⟩) | ((with_reducible refine w12 ?_ ?_ ?_ ?_); simp; simp; simp [oneC]; intros) | (refine okF_i (bldP_eq rfl) ?_; try simp only [BLS, SB, Nat.reduceAdd])) | simp -implicitDefEqProofs only [SE, SU, SV, f2]))
    rename_i h
    (try simp only [BLS, SB, stL_a, stL_b, stL_c, List.append_nil, List.take_nil, List.drop_nil, Nat.reduceAdd] at h)
    exact hk _ (h.ent (lg_ent (l := { l with full := true }) hb hrw))
  rw [if_neg hfr] at hk
  have f2 := decide_eq_false hfr
  have et : IntKind.u64.wrap ((l.turn : Int) + 1) = ((l.turn + 1 : Nat) : Int) := by rw [u64w]; omega
  obtain ⟨na, nc, da, dc, bb, ra, rc, rows, hb, hrw, h⟩ := lg_at h
  (repeat (first | (first | ((with_reducible first | refine w1 ?_ | refine w3 ?_ | refine w4 ?_ | refine w11 ?_ | refine stb_n ?_); intros) | ((with_reducible first | refine v5 ?_ | refine v6 ?_ | refine v7 ?_ | refine ve ?_ | refine vn ?_); refine ⟨_, rfl, ?_⟩) | ((with_reducible first | refine v8 ?_ ?_ | refine v9 ?_ ?_ | refine v10 ?_ ?_ | refine v12 ?_ ?_); exact rfl; intros) | ((with_reducible refine w2 ?_); try simp -implicitDefEqProofs only [SE, SU, SV, f2, et]; intros) | ((with_reducible refine w5 ?_ ?_); simp; refine ⟨_, rfl, ?_⟩) | ((with_reducible refine w12 ?_ ?_ ?_ ?_); simp; simp; simp [oneC]; intros) | (refine okF_i (bldP_eq rfl) ?_; try simp only [BLS, SB, Nat.reduceAdd])) | simp -implicitDefEqProofs only [SE, SU, SV, f2, et]))
  refine walTop (kd := 0) (t := l.turn + 1) (i := 0) (by first | assumption | exact St.tick (by assumption) | exact St.tick (St.tick (by assumption))) (by decide) (by omega) (by decide) fun a2 c2 W3 h => ?_
  refine walUnit (a := a) (r := b) h (by omega) fun a3 c3 W4 h => ?_
  refine appA (a := a2) (m := unitB b) h rfl (by simp; omega) (by simp [maxLen]; omega) fun a4 c4 W5 h => ?_
  have h := lg_mk q dp l na nc da dc bb ra rc rows h hb hrw
  refine walWrite (dp := dp) (d := d) (l := l) (f := l.free) (a := a4) (b := topB 0 (l.turn + 1) 0 ++ unitB b) h g1 (by omega) (by omega) (by simp; omega) fun W6 h => ?_
  by_cases he : (LS.write d l l.free (topB 0 (l.turn + 1) 0 ++ unitB b)).2.2 = 0
  · rw [if_neg fun hh => hh he] at hk
    have f3 := decide_eq_true he
    have hwd : (LS.write d l l.free (topB 0 (l.turn + 1) 0 ++ unitB b)).1.ws.length < 500000 := by
      have := append_ws d l.free (topB 0 (l.turn + 1) 0 ++ unitB b)
      unfold LS.write; split <;> (simp only; omega)
    have hl1 : (LS.write d l l.free (topB 0 (l.turn + 1) 0 ++ unitB b)).2.1 = { l with dirty := (LS.write d l l.free (topB 0 (l.turn + 1) 0 ++ unitB b)).2.1.dirty } := by
      unfold LS.write at he ⊢
      split
      · rename_i hx; rw [if_pos hx] at he; exact absurd he hx
      · rfl
    generalize (LS.write d l l.free (topB 0 (l.turn + 1) 0 ++ unitB b)).1 = d1 at *
    generalize (LS.write d l l.free (topB 0 (l.turn + 1) 0 ++ unitB b)).2.1 = l1 at *
    rw [hl1] at h
    clear hb hrw
    obtain ⟨na, nc, da, dc, bb, ra, rc, rows, hb, hrw, h⟩ := lg_at h
    (repeat (first | (first | ((with_reducible first | refine w1 ?_ | refine w3 ?_ | refine w4 ?_ | refine w11 ?_ | refine stb_n ?_); intros) | ((with_reducible first | refine v5 ?_ | refine v6 ?_ | refine v7 ?_ | refine ve ?_ | refine vn ?_); refine ⟨_, rfl, ?_⟩) | ((with_reducible first | refine v8 ?_ ?_ | refine v9 ?_ ?_ | refine v10 ?_ ?_ | refine v12 ?_ ?_); exact rfl; intros) | ((with_reducible refine w2 ?_); try simp -implicitDefEqProofs only [SE, SU, SV, f3]; intros) | ((with_reducible refine w5 ?_ ?_); simp; refine ⟨_, rfl, ?_⟩) | ((with_reducible refine w12 ?_ ?_ ?_ ?_); simp; simp; simp [oneC]; intros) | (refine okF_i (bldP_eq rfl) ?_; try simp only [BLS, SB, Nat.reduceAdd])) | simp -implicitDefEqProofs only [SE, SU, SV, f3]))
    refine diskSync (d := d1) (f := l.free) (by first | assumption | exact St.tick (by assumption) | exact St.tick (St.tick (by assumption))) (by omega) fun W7 h => ?_
    have hws := sync_ws d1 l.free
    generalize (d1.sync l.free).1 = d2 at *
    refine joinK_i ?_
    (repeat (first | (first | ((with_reducible first | refine w1 ?_ | refine w3 ?_ | refine w4 ?_ | refine w11 ?_ | refine stb_n ?_); intros) | ((with_reducible first | refine v5 ?_ | refine v6 ?_ | refine v7 ?_ | refine ve ?_ | refine vn ?_); refine ⟨_, rfl, ?_⟩) | ((with_reducible first | refine v8 ?_ ?_ | refine v9 ?_ ?_ | refine v10 ?_ ?_ | refine v12 ?_ ?_); exact rfl; intros) | ((with_reducible refine w2 ?_); try simp -implicitDefEqProofs only [SE, SU, SV]; intros) | ((with_reducible refine w5 ?_ ?_); simp; refine ⟨_, rfl, ?_⟩) | ((with_reducible refine w12 ?_ ?_ ?_ ?_); simp; simp; simp [oneC]; intros) | (refine okF_i (bldP_eq rfl) ?_; try simp only [BLS, SB, Nat.reduceAdd])) | simp -implicitDefEqProofs only [SE, SU, SV]))
    refine loop_c (σ := DS) l.nums.length (fun i _ => [.pointer (some ⟨q, 0, none⟩), .slice a b.length c, .int .i64 l.free, .slice na l.nums.length nc, .int .i64 (l.nums.length : Int), .int .i64 (i : Int)])
      (fun i d3 W1 => dropGo d2 l.nums = dropGo d3 (l.nums.drop i) ∧ d3.ws.length < 500000 ∧ St W0 (dk dp d3 :: cells q [.pointer (some ⟨dp, 0, none⟩), .int .i64 l.part, .int .i64 l.lives, .int .u64 (l.turn : Int), .slice na l.nums.length nc, .int .i64 l.cur, .int .i64 l.count, .int .i64 l.index, .slice da l1.dirty.length dc, .slice bb.a bb.bs.length bb.c, .slice ra rows.length rc, .bool l.full] T_wal_Log ::
        arr I64 T_int na nc l.nums :: fch bb :: L2) W1) d2 rfl ⟨rfl, by omega, St.wk (by first | assumption | exact St.tick (by assumption) | exact St.tick (St.tick (by assumption)))⟩ ?_
    clear h
    rintro K i d3 W8 hi ⟨hgo, hw1, h⟩ hK
    simp -implicitDefEqProofs only [SE, SU, SV]
    unfold S.wal_Log_Keep.l1
    by_cases hlt : (i : Int) < (l.nums.length : Int)
    · have hib : i < l.nums.length := by omega
      have ew : IntKind.i64.wrap ((i : Int) + 1) = ((i + 1 : Nat) : Int) := by rw [i64w]; omega
      rw [List.drop_eq_getElem_cons hib, dropGo] at hgo
      (repeat (first | (first | ((with_reducible first | refine w1 ?_ | refine w3 ?_ | refine w4 ?_ | refine w11 ?_ | refine stb_n ?_); intros) | ((with_reducible first | refine v5 ?_ | refine v6 ?_ | refine v7 ?_ | refine ve ?_ | refine vn ?_); refine ⟨_, rfl, ?_⟩) | ((with_reducible first | refine v8 ?_ ?_ | refine v9 ?_ ?_ | refine v10 ?_ ?_ | refine v12 ?_ ?_); exact rfl; intros) | ((with_reducible refine w2 ?_); try simp -implicitDefEqProofs only [SE, SU, SV, hlt]; intros) | ((with_reducible refine w5 ?_ ?_); simp; refine ⟨_, rfl, ?_⟩) | ((with_reducible refine w12 ?_ ?_ ?_ ?_); simp; simp; simp [oneC]; intros) | (refine okF_i (bldP_eq rfl) ?_; try simp only [BLS, SB, Nat.reduceAdd])) | simp -implicitDefEqProofs only [SE, SU, SV, hlt]))
      refine ixA (i := i) (a := na) (l := l.nums) (A := I64) h rfl rfl hib fun g o ha => ?_
      cases ha
      refine ldA0 (i := i) (l := l.nums) (A := I64) h rfl hib (v := .int .i64 l.nums[i]) rfl (by simp) ?_
      (repeat (first | (first | ((with_reducible first | refine w1 ?_ | refine w3 ?_ | refine w4 ?_ | refine w11 ?_ | refine stb_n ?_); intros) | ((with_reducible first | refine v5 ?_ | refine v6 ?_ | refine v7 ?_ | refine ve ?_ | refine vn ?_); refine ⟨_, rfl, ?_⟩) | ((with_reducible first | refine v8 ?_ ?_ | refine v9 ?_ ?_ | refine v10 ?_ ?_ | refine v12 ?_ ?_); exact rfl; intros) | ((with_reducible refine w2 ?_); try simp -implicitDefEqProofs only [SE, SU, SV]; intros) | ((with_reducible refine w5 ?_ ?_); simp; refine ⟨_, rfl, ?_⟩) | ((with_reducible refine w12 ?_ ?_ ?_ ?_); simp; simp; simp [oneC]; intros) | (refine okF_i (bldP_eq rfl) ?_; try simp only [BLS, SB, Nat.reduceAdd])) | simp -implicitDefEqProofs only [SE, SU, SV]))
      refine diskDrop (d := d3) (f := l.nums[i]) (by first | assumption | exact St.tick (by assumption) | exact St.tick (St.tick (by assumption))) (by omega) fun W9 h => ?_
      have := drop_ws d3 l.nums[i]
      (repeat (first | (first | ((with_reducible first | refine w1 ?_ | refine w3 ?_ | refine w4 ?_ | refine w11 ?_ | refine stb_n ?_); intros) | ((with_reducible first | refine v5 ?_ | refine v6 ?_ | refine v7 ?_ | refine ve ?_ | refine vn ?_); refine ⟨_, rfl, ?_⟩) | ((with_reducible first | refine v8 ?_ ?_ | refine v9 ?_ ?_ | refine v10 ?_ ?_ | refine v12 ?_ ?_); exact rfl; intros) | ((with_reducible refine w2 ?_); try simp -implicitDefEqProofs only [SE, SU, SV, ew]; intros) | ((with_reducible refine w5 ?_ ?_); simp; refine ⟨_, rfl, ?_⟩) | ((with_reducible refine w12 ?_ ?_ ?_ ?_); simp; simp; simp [oneC]; intros) | (refine okF_i (bldP_eq rfl) ?_; try simp only [BLS, SB, Nat.reduceAdd])) | simp -implicitDefEqProofs only [SE, SU, SV, ew]))
      exact hK _ _ hib ⟨hgo, by omega, h⟩
    · rw [List.drop_eq_nil_of_le (by omega), dropGo] at hgo
      rw [hgo] at hk
      clear hK
      unfold S.wal_Log_Keep.j1
      (repeat (first | (first | ((with_reducible first | refine w1 ?_ | refine w3 ?_ | refine w4 ?_ | refine w11 ?_ | refine stb_n ?_); intros) | ((with_reducible first | refine v5 ?_ | refine v6 ?_ | refine v7 ?_ | refine ve ?_ | refine vn ?_); refine ⟨_, rfl, ?_⟩) | ((with_reducible first | refine v8 ?_ ?_ | refine v9 ?_ ?_ | refine v10 ?_ ?_ | refine v12 ?_ ?_); exact rfl; intros) | ((with_reducible refine w2 ?_); try simp -implicitDefEqProofs only [SE, SU, SV, hlt, et]; intros) | ((with_reducible refine w5 ?_ ?_); simp; refine ⟨_, rfl, ?_⟩) | ((with_reducible refine w12 ?_ ?_ ?_ ?_); simp; simp; simp [oneC]; intros) | (refine okF_i (bldP_eq rfl) ?_; try simp only [BLS, SB, Nat.reduceAdd])) | simp -implicitDefEqProofs only [SE, SU, SV, hlt, et]))
      refine bsA I64 [l.free] (n := 1) (by first | assumption | exact St.tick (by assumption) | exact St.tick (St.tick (by assumption))) rfl rfl (by decide) (by decide) rfl fun a5 c5 W9 h => ?_
      (repeat (first | (first | ((with_reducible first | refine w1 ?_ | refine w3 ?_ | refine w4 ?_ | refine w11 ?_ | refine stb_n ?_); intros) | ((with_reducible first | refine v5 ?_ | refine v6 ?_ | refine v7 ?_ | refine ve ?_ | refine vn ?_); refine ⟨_, rfl, ?_⟩) | ((with_reducible first | refine v8 ?_ ?_ | refine v9 ?_ ?_ | refine v10 ?_ ?_ | refine v12 ?_ ?_); exact rfl; intros) | ((with_reducible refine w2 ?_); try simp -implicitDefEqProofs only [SE, SU, SV]; intros) | ((with_reducible refine w5 ?_ ?_); simp; refine ⟨_, rfl, ?_⟩) | ((with_reducible refine w12 ?_ ?_ ?_ ?_); simp; simp; simp [oneC]; intros) | (refine okF_i (bldP_eq rfl) ?_; try simp only [BLS, SB, Nat.reduceAdd])) | simp -implicitDefEqProofs only [SE, SU, SV]))
      refine bytesClone (a := a) (l := b) (by first | assumption | exact St.tick (by assumption) | exact St.tick (St.tick (by assumption))) (by omega) fun a6 c6 W10 h => ?_
      (repeat (first | (first | ((with_reducible first | refine w1 ?_ | refine w3 ?_ | refine w4 ?_ | refine w11 ?_ | refine stb_n ?_); intros) | ((with_reducible first | refine v5 ?_ | refine v6 ?_ | refine v7 ?_ | refine ve ?_ | refine vn ?_); refine ⟨_, rfl, ?_⟩) | ((with_reducible first | refine v8 ?_ ?_ | refine v9 ?_ ?_ | refine v10 ?_ ?_ | refine v12 ?_ ?_); exact rfl; intros) | ((with_reducible refine w2 ?_); try simp -implicitDefEqProofs only [SE, SU, SV]; intros) | ((with_reducible refine w5 ?_ ?_); simp; refine ⟨_, rfl, ?_⟩) | ((with_reducible refine w12 ?_ ?_ ?_ ?_); simp; simp; simp [oneC]; intros) | (refine okF_i (bldP_eq rfl) ?_; try simp only [BLS, SB, Nat.reduceAdd])) | simp -implicitDefEqProofs only [SE, SU, SV]))
      rename_i h
      (try simp only [BLS, SB, stL_a, stL_b, stL_c, List.append_nil, List.take_nil, List.drop_nil, Nat.reduceAdd] at h)
      have h := (((h.ent (many_nil (F := fch))).ent (arr_nil BSY T_s_uint8)).ent (arr_nil I64 T_int))
      have h := lg_mk q dp { l with turn := l.turn + 1, nums := [l.free], dirty := [], cur := -1, count := 0, index := 0, base := b, recs := [] } a5 c5 none 0 ⟨a6, c6, b⟩ none 0 [] h rfl rfl
      exact hk _ (St.wk h)
  · rw [if_pos he] at hk
    have f3 := decide_eq_false he
    (repeat (first | (first | ((with_reducible first | refine w1 ?_ | refine w3 ?_ | refine w4 ?_ | refine w11 ?_ | refine stb_n ?_); intros) | ((with_reducible first | refine v5 ?_ | refine v6 ?_ | refine v7 ?_ | refine ve ?_ | refine vn ?_); refine ⟨_, rfl, ?_⟩) | ((with_reducible first | refine v8 ?_ ?_ | refine v9 ?_ ?_ | refine v10 ?_ ?_ | refine v12 ?_ ?_); exact rfl; intros) | ((with_reducible refine w2 ?_); try simp -implicitDefEqProofs only [SE, SU, SV, f3]; intros) | ((with_reducible refine w5 ?_ ?_); simp; refine ⟨_, rfl, ?_⟩) | ((with_reducible refine w12 ?_ ?_ ?_ ?_); simp; simp; simp [oneC]; intros) | (refine okF_i (bldP_eq rfl) ?_; try simp only [BLS, SB, Nat.reduceAdd])) | simp -implicitDefEqProofs only [SE, SU, SV, f3]))
    exact hk _ (St.wk h)
end
end Go.Proofs.Ythladblmjoaeoaa
