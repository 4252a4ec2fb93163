/- Texts of the claim DiskPlays, joined: ShDisk, ShPack, CBytes, CDisk, PNum, Bit, CDisk2, CDisk3, Sl4, Sl5. -/
import Derived.Test.YthladblmjoaeoaaBDiskPlays3
import Derived.Test.YthladblmjoaeoaaBDiskPlays2
import Derived.Lib.SlBytesConst
namespace Go.Proofs.Ythladblmjoaeoaa
set_option linter.unusedVariables false
set_option linter.unusedSimpArgs false
open Go.Eng
/-! ### rostrum/disk.New (15) -/
def S.disk_New.body (R : Value → World → Prop) (v0 : Value) (W : World) : Prop :=
  okF (binP .lss v0 (.int .i64 64)) fun v5 =>
  gdK (wantd v5 false) (fun k W => k v0 W) (fun v7 W =>
  gdK (wantd v5 false) (fun k W => okF (binP .gtr v7 (.int .i64 1048576)) fun v => k v W) (fun v8 W =>
  okF (pickP v5 (.bool true) v8) fun v9 =>
  ifK v9 (
  R (.tuple #[(.pointer none), (.int .i64 1)]) W) (
  efK PR (Instr.makeMap T_m_int_s_uint8 none) (fun v11 W =>
  okF (bldP (fun i => ([(0, 1), (1, 1), (2, 1), (3, 1), (4, 1)] : List (Nat × Nat))[i]?) [.int .i64 0, .map none, .slice none 0 0, .bool false, .int .i64 0] [(0, v0), (1, v11), (3, (.bool true)), (4, (.int .i64 1))]) fun v12 =>
  efK PR (Instr.box T_disk_Disk v12) (fun v13 W =>
  R (.tuple #[v13, (.int .i64 0)]) W) W) W)) W) W
def S.disk_New.hint : Hint := (.two .nil (.two (.two .nil (.two (.two .nil .nil) .nil)) (.two .nil .nil)))
theorem S.disk_New.ok (R : Value → World → Prop) (v0 : Value) (W : World) : bodyK PR CB Try.f15 S.disk_New.hint [v0] R W = S.disk_New.body R v0 W := by kernel_rfl
theorem S.disk_New.fn : PR.funcs[F_disk_New]? = some Try.f15 := by kernel_rfl
theorem S.disk_New.call {R : Value → World → Prop} {v0 : Value} {W : World} (h : S.disk_New.body R v0 W) : callK PR F_disk_New [v0] R W :=
  callK_of_body (g := F_disk_New) (fn := Try.f15) (args := [v0]) (R := R) (w := W) mixed CBok S.disk_New.fn S.disk_New.hint (by rw [S.disk_New.ok]; exact h)
/-! ### (*rostrum/disk.Disk).ask (45) -/
def S.disk_Disk_ask.body (R : Value → World → Prop) (v0 v1 : Value) (W : World) : Prop :=
  okF (nilP v0) fun v7 =>
  okF (addrF 3 v7) fun v8 =>
  rdK PR (Instr.loadAt T_bool v8) (fun v9 W =>
  okF (unP .not v9) fun v10 =>
  ifK v10 (
  R (.int .i64 7) W) (
  okF (binP .lss v1 (.int .i64 0)) fun v13 =>
  gdK (wantd v13 false) (fun k W => k v1 W) (fun v15 W =>
  gdK (wantd v13 false) (fun k W => okF (binP .geq v15 (.int .i64 1000)) fun v => k v W) (fun v16 W =>
  okF (pickP v13 (.bool true) v16) fun v17 =>
  ifK v17 (
  R (.int .i64 1) W) (
  R (.int .i64 0) W)) W) W)) W
def S.disk_Disk_ask.hint : Hint := (.two .nil (.two (.two .nil (.two (.two .nil .nil) (.two .nil (.two (.two .nil .nil) .nil)))) (.two .nil .nil)))
theorem S.disk_Disk_ask.ok (R : Value → World → Prop) (v0 v1 : Value) (W : World) : bodyK PR CB Try.f45 S.disk_Disk_ask.hint [v0, v1] R W = S.disk_Disk_ask.body R v0 v1 W := by kernel_rfl
theorem S.disk_Disk_ask.fn : PR.funcs[F_disk_Disk_ask]? = some Try.f45 := by kernel_rfl
theorem S.disk_Disk_ask.call {R : Value → World → Prop} {v0 v1 : Value} {W : World} (h : S.disk_Disk_ask.body R v0 v1 W) : callK PR F_disk_Disk_ask [v0, v1] R W :=
  callK_of_body (g := F_disk_Disk_ask) (fn := Try.f45) (args := [v0, v1]) (R := R) (w := W) mixed CBok S.disk_Disk_ask.fn S.disk_Disk_ask.hint (by rw [S.disk_Disk_ask.ok]; exact h)
/-! ### (*rostrum/disk.Disk).find (47) -/
def S.disk_Disk_find.body (R : Value → World → Prop) (v0 v1 : Value) (W : World) : Prop :=
  callK PR F_disk_Disk_ask [v0, v1] (fun v10 W =>
  okF (binP .neq v10 (.int .i64 0)) fun v12 =>
  ifK v12 (
  R v10 W) (
  okF (nilP v0) fun v16 =>
  okF (addrF 1 v16) fun v17 =>
  rdK PR (Instr.loadAt T_m_int_s_uint8 v17) (fun v18 W =>
  rdK PR (Instr.lookup T_m_int_s_uint8 v18 v1 true) (fun v20 W =>
  okF (extP 0 v20) fun v21 =>
  okF (extP 1 v20) fun v22 =>
  okF (unP .not v22) fun v24 =>
  ifK v24 (
  R (.int .i64 4) W) (
  R (.int .i64 0) W)) W) W)) W
def S.disk_Disk_find.hint : Hint := (.two .nil (.two (.two .nil (.two .nil (.two (.two .nil .nil) .nil))) (.two (.two .nil (.two .nil (.two (.two .nil .nil) .nil))) (.two .nil .nil))))
theorem S.disk_Disk_find.ok (R : Value → World → Prop) (v0 v1 : Value) (W : World) : bodyK PR CB Try.f47 S.disk_Disk_find.hint [v0, v1] R W = S.disk_Disk_find.body R v0 v1 W := by kernel_rfl
theorem S.disk_Disk_find.fn : PR.funcs[F_disk_Disk_find]? = some Try.f47 := by kernel_rfl
theorem S.disk_Disk_find.call {R : Value → World → Prop} {v0 v1 : Value} {W : World} (h : S.disk_Disk_find.body R v0 v1 W) : callK PR F_disk_Disk_find [v0, v1] R W :=
  callK_of_body (g := F_disk_Disk_find) (fn := Try.f47) (args := [v0, v1]) (R := R) (w := W) mixed CBok S.disk_Disk_find.fn S.disk_Disk_find.hint (by rw [S.disk_Disk_find.ok]; exact h)
/-! ### (*rostrum/disk.Disk).size (46) -/
def S.disk_Disk_size.j1 (R : Value → World → Prop) (x3 : Value) (W : World) : Prop :=
  R x3 W
def S.disk_Disk_size.l1 (J1 : List Value → World → Prop) (K1 : List Value → World → Prop) (x3 x10 : Value) (W : World) : Prop :=
  efK PR (Instr.next x10 false T_t0) (fun v11 W =>
  okF (extP 0 v11) fun v12 =>
  ifK v12 (
  efK PR (Instr.entry x10) (fun v13 W =>
  okF (extP 1 v13) fun v14 =>
  okF (lenP (.slice T_uint8) v14) fun v17 =>
  okF (binP .add x3 v17) fun v18 =>
  K1 [v18, x10] W) W) (
  J1 [x3] W)) W
def S.disk_Disk_size.body (R : Value → World → Prop) (v0 : Value) (W : World) : Prop :=
  joinK (fun s W => S.disk_Disk_size.j1 R (nthv s 0) W) (fun J1 =>
  okF (nilP v0) fun v7 =>
  okF (addrF 1 v7) fun v8 =>
  rdK PR (Instr.loadAt T_m_int_s_uint8 v8) (fun v9 W =>
  efK PR (Instr.range T_m_int_s_uint8 v9) (fun v10 W =>
  loopK (fun K1 s W => S.disk_Disk_size.l1 J1 K1 (nthv s 0) (nthv s 1) W) [(.int .i64 0), v10] W) W) W)
def S.disk_Disk_size.hint : Hint := (.two .nil (.two .nil (.at [3] (.two .nil (.at [3, 10] (.two .nil (.two (.two .nil .nil) (.two .nil .nil))) .nil)) (.two .nil .nil))))
theorem S.disk_Disk_size.ok (R : Value → World → Prop) (v0 : Value) (W : World) : bodyK PR CB Try.f46 S.disk_Disk_size.hint [v0] R W = S.disk_Disk_size.body R v0 W := by kernel_rfl
theorem S.disk_Disk_size.fn : PR.funcs[F_disk_Disk_size]? = some Try.f46 := by kernel_rfl
theorem S.disk_Disk_size.call {R : Value → World → Prop} {v0 : Value} {W : World} (h : S.disk_Disk_size.body R v0 W) : callK PR F_disk_Disk_size [v0] R W :=
  callK_of_body (g := F_disk_Disk_size) (fn := Try.f46) (args := [v0]) (R := R) (w := W) mixed CBok S.disk_Disk_size.fn S.disk_Disk_size.hint (by rw [S.disk_Disk_size.ok]; exact h)
/-! ### (*rostrum/disk.Disk).Append (16) -/
def S.disk_Disk_Append.body (R : Value → World → Prop) (v0 v1 v2 : Value) (W : World) : Prop :=
  callK PR F_disk_Disk_ask [v0, v1] (fun v11 W =>
  okF (binP .neq v11 (.int .i64 0)) fun v13 =>
  ifK v13 (
  R v11 W) (
  okF (lenP (.slice T_uint8) v2) fun v16 =>
  okF (nilP v0) fun v18 =>
  okF (addrF 0 v18) fun v19 =>
  rdK PR (Instr.loadAt T_int v19) (fun v20 W =>
  callK PR F_disk_Disk_size [v0] (fun v22 W =>
  stb PR [(5, true, (Instr.loadAt T_int v19), v20)] (fun W =>
  okF (binP .sub v20 v22) fun v23 =>
  okF (binP .gtr v16 v23) fun v24 =>
  ifK v24 (
  R (.int .i64 6) W) (
  okF (nilP v0) fun v26 =>
  okF (addrF 1 v26) fun v27 =>
  rdK PR (Instr.loadAt T_m_int_s_uint8 v27) (fun v28 W =>
  rdK PR (Instr.lookup T_m_int_s_uint8 v28 v1 false) (fun v30 W =>
  okF (lenP (.slice T_uint8) v30) fun v31 =>
  okF (nilP v0) fun v33 =>
  okF (addrF 1 v33) fun v34 =>
  rdK PR (Instr.loadAt T_m_int_s_uint8 v34) (fun v35 W =>
  okF (nilP v0) fun v38 =>
  okF (addrF 1 v38) fun v39 =>
  rdK PR (Instr.loadAt T_m_int_s_uint8 v39) (fun v40 W =>
  rdK PR (Instr.lookup T_m_int_s_uint8 v40 v1 false) (fun v42 W =>
  efK PR (Builtin.append_ #[T_s_uint8, T_s_uint8] T_s_uint8 #[v42, v2]) (fun v44 W =>
  stb PR [(3, true, (Instr.loadAt T_m_int_s_uint8 v34), v35)] (fun W =>
  efK PR (Instr.mapUpdate T_m_int_s_uint8 v35 v1 v44) (fun _ W =>
  okF (nilP v0) fun v47 =>
  okF (addrF 2 v47) fun v48 =>
  rdK PR (Instr.loadAt T_s_disk_write v48) (fun v49 W =>
  okF (lenP (.slice T_uint8) v2) fun v54 =>
  okF (binP .add v31 v54) fun v55 =>
  okF (bldP (fun i => ([(0, 1), (1, 1), (2, 1)] : List (Nat × Nat))[i]?) [.int .i64 0, .int .i64 0, .int .i64 0] [(0, v1), (1, v31), (2, v55)]) fun v56 =>
  efK PR (Instr.buildSlice T_s_disk_write 1 #[(0, v56)]) (fun v57 W =>
  efK PR (Builtin.append_ #[T_s_disk_write, T_s_disk_write] T_s_disk_write #[v49, v57]) (fun v58 W =>
  okF (nilP v0) fun v59 =>
  okF (addrF 2 v59) fun v60 =>
  efK PR (Instr.storeAt T_s_disk_write v60 v58) (fun _ W =>
  R (.int .i64 0) W) W) W) W) W) W) W) W) W) W) (tick W)) W) W)) W) W) (tick W))) W
def S.disk_Disk_Append.hint : Hint := (.two .nil (.two (.two .nil (.two .nil (.two (.two .nil .nil) .nil))) (.two (.two .nil (.two (.two .nil .nil) .nil)) (.two .nil (.two .nil (.two .nil (.two .nil .nil)))))))
theorem S.disk_Disk_Append.ok (R : Value → World → Prop) (v0 v1 v2 : Value) (W : World) : bodyK PR CB Try.f16 S.disk_Disk_Append.hint [v0, v1, v2] R W = S.disk_Disk_Append.body R v0 v1 v2 W := by kernel_rfl
theorem S.disk_Disk_Append.fn : PR.funcs[F_disk_Disk_Append]? = some Try.f16 := by kernel_rfl
theorem S.disk_Disk_Append.call {R : Value → World → Prop} {v0 v1 v2 : Value} {W : World} (h : S.disk_Disk_Append.body R v0 v1 v2 W) : callK PR F_disk_Disk_Append [v0, v1, v2] R W :=
  callK_of_body (g := F_disk_Disk_Append) (fn := Try.f16) (args := [v0, v1, v2]) (R := R) (w := W) mixed CBok S.disk_Disk_Append.fn S.disk_Disk_Append.hint (by rw [S.disk_Disk_Append.ok]; exact h)
/-! ### (*rostrum/disk.Disk).Read (19) -/
def S.disk_Disk_Read.body (R : Value → World → Prop) (v0 v1 : Value) (W : World) : Prop :=
  callK PR F_disk_Disk_find [v0, v1] (fun v9 W =>
  okF (binP .neq v9 (.int .i64 0)) fun v11 =>
  ifK v11 (
  R (.tuple #[(.slice none 0 0), v9]) W) (
  okF (nilP v0) fun v14 =>
  okF (addrF 1 v14) fun v15 =>
  rdK PR (Instr.loadAt T_m_int_s_uint8 v15) (fun v16 W =>
  rdK PR (Instr.lookup T_m_int_s_uint8 v16 v1 false) (fun v18 W =>
  callK PR F_bytes_Clone [v18] (fun v19 W =>
  R (.tuple #[v19, (.int .i64 0)]) W) W) W) W)) W
def S.disk_Disk_Read.hint : Hint := (.two .nil (.two (.two .nil (.two .nil (.two (.two .nil .nil) .nil))) (.two .nil .nil)))
theorem S.disk_Disk_Read.ok (R : Value → World → Prop) (v0 v1 : Value) (W : World) : bodyK PR CB Try.f19 S.disk_Disk_Read.hint [v0, v1] R W = S.disk_Disk_Read.body R v0 v1 W := by kernel_rfl
theorem S.disk_Disk_Read.fn : PR.funcs[F_disk_Disk_Read]? = some Try.f19 := by kernel_rfl
theorem S.disk_Disk_Read.call {R : Value → World → Prop} {v0 v1 : Value} {W : World} (h : S.disk_Disk_Read.body R v0 v1 W) : callK PR F_disk_Disk_Read [v0, v1] R W :=
  callK_of_body (g := F_disk_Disk_Read) (fn := Try.f19) (args := [v0, v1]) (R := R) (w := W) mixed CBok S.disk_Disk_Read.fn S.disk_Disk_Read.hint (by rw [S.disk_Disk_Read.ok]; exact h)
/-! ### (*rostrum/disk.Disk).Crash (17) -/
def S.disk_Disk_Crash.j1 (R : Value → World → Prop) (x0 : Value) (W : World) : Prop :=
  okF (nilP x0) fun v60 =>
  okF (addrF 2 v60) fun v61 =>
  efK PR (Instr.storeAt T_s_disk_write v61 (.slice none 0 0)) (fun _ W =>
  okF (nilP x0) fun v63 =>
  okF (addrF 3 v63) fun v64 =>
  efK PR (Instr.storeAt T_bool v64 (.bool false)) (fun _ W =>
  R (.tuple #[]) W) W) W
def S.disk_Disk_Crash.j2 (K1 : List Value → World → Prop) (x0 x1 x2 x6 x7 x8 : Value) (W : World) : Prop :=
  okF (nilP x0) fun v45 =>
  okF (addrF 1 v45) fun v46 =>
  rdK PR (Instr.loadAt T_m_int_s_uint8 v46) (fun v47 W =>
  okF (addrF 0 x7) fun v48 =>
  rdK PR (Instr.loadAt T_int v48) (fun v49 W =>
  okF (nilP x0) fun v51 =>
  okF (addrF 1 v51) fun v52 =>
  rdK PR (Instr.loadAt T_m_int_s_uint8 v52) (fun v53 W =>
  okF (addrF 0 x7) fun v54 =>
  rdK PR (Instr.loadAt T_int v54) (fun v55 W =>
  rdK PR (Instr.lookup T_m_int_s_uint8 v53 v55 false) (fun v56 W =>
  okF (slcS 1 v56 none (some x8) none) fun v58 =>
  efK PR (Instr.mapUpdate T_m_int_s_uint8 v47 v49 v58) (fun _ W =>
  okF (binP .sub x6 (.int .i64 1)) fun v18 =>
  K1 [x0, x1, x2, v18] W) W) W) W) W) W) (tick W)
def S.disk_Disk_Crash.l1 (J1 : List Value → World → Prop) (K1 : List Value → World → Prop) (x0 x1 x2 x6 : Value) (W : World) : Prop :=
  okF (binP .geq x6 (.int .i64 0)) fun v16 =>
  ifK v16 (
  okF (nilP x0) fun v20 =>
  okF (addrF 2 v20) fun v21 =>
  rdK PR (Instr.loadAt T_s_disk_write v21) (fun v22 W =>
  okF (idxS 3 v22 x6) fun v24 =>
  rdK PR (Instr.loadAt T_disk_write v24) (fun v25 W =>
  efK PR (Instr.alloc T_disk_write true (.tuple #[])) (fun v7 W =>
  efK PR (Instr.storeAt T_disk_write v7 v25) (fun _ W =>
  okF (binP .lss x6 x1) fun v28 =>
  ifK v28 (
  J1 [x0] W) (
  okF (addrF 1 v7) fun v29 =>
  rdK PR (Instr.loadAt T_int v29) (fun v30 W =>
  joinK (fun s W => S.disk_Disk_Crash.j2 K1 (nthv s 0) (nthv s 1) (nthv s 2) (nthv s 3) (nthv s 4) (nthv s 5) W) (fun J2 =>
  okF (binP .eql x6 x1) fun v33 =>
  ifK v33 (
  okF (addrF 2 v7) fun v36 =>
  rdK PR (Instr.loadAt T_int v36) (fun v37 W =>
  okF (addrF 1 v7) fun v38 =>
  rdK PR (Instr.loadAt T_int v38) (fun v39 W =>
  okF (binP .sub v37 v39) fun v40 =>
  okF (foldP min2P [x2, v40]) fun v41 =>
  okF (foldP max2P [v41, (.int .i64 0)]) fun v42 =>
  okF (binP .add v30 v42) fun v43 =>
  J2 [x0, x1, x2, x6, v7, v43] W) W) W) (
  J2 [x0, x1, x2, x6, v7, v30] W))) W)) W) W) W) W) (
  J1 [x0] W)
def S.disk_Disk_Crash.body (R : Value → World → Prop) (v0 v1 v2 : Value) (W : World) : Prop :=
  joinK (fun s W => S.disk_Disk_Crash.j1 R (nthv s 0) W) (fun J1 =>
  okF (nilP v0) fun v10 =>
  okF (addrF 2 v10) fun v11 =>
  rdK PR (Instr.loadAt T_s_disk_write v11) (fun v12 W =>
  okF (lenP (.slice T_disk_write) v12) fun v13 =>
  okF (binP .sub v13 (.int .i64 1)) fun v14 =>
  loopK (fun K1 s W => S.disk_Disk_Crash.l1 J1 K1 (nthv s 0) (nthv s 1) (nthv s 2) (nthv s 3) W) [v0, v1, v2, v14] W) W)
def S.disk_Disk_Crash.hint : Hint := (.at [0] (.two .nil (.at [0, 1, 2, 6] (.two (.two .nil (.two .nil .nil)) (.two (.two .nil (.two (.two .nil (.two .nil .nil)) (.two .nil (.at [0, 1, 2, 6, 7, 8] (.two .nil (.two .nil .nil)) .nil)))) .nil)) .nil)) (.two .nil .nil))
theorem S.disk_Disk_Crash.ok (R : Value → World → Prop) (v0 v1 v2 : Value) (W : World) : bodyK PR CB Try.f17 S.disk_Disk_Crash.hint [v0, v1, v2] R W = S.disk_Disk_Crash.body R v0 v1 v2 W := by kernel_rfl
theorem S.disk_Disk_Crash.fn : PR.funcs[F_disk_Disk_Crash]? = some Try.f17 := by kernel_rfl
theorem S.disk_Disk_Crash.call {R : Value → World → Prop} {v0 v1 v2 : Value} {W : World} (h : S.disk_Disk_Crash.body R v0 v1 v2 W) : callK PR F_disk_Disk_Crash [v0, v1, v2] R W :=
  callK_of_body (g := F_disk_Disk_Crash) (fn := Try.f17) (args := [v0, v1, v2]) (R := R) (w := W) mixed CBok S.disk_Disk_Crash.fn S.disk_Disk_Crash.hint (by rw [S.disk_Disk_Crash.ok]; exact h)
/-! ### (*rostrum/disk.Disk).On (18) -/
def S.disk_Disk_On.body (R : Value → World → Prop) (v0 : Value) (W : World) : Prop :=
  okF (nilP v0) fun v3 =>
  okF (addrF 3 v3) fun v4 =>
  efK PR (Instr.storeAt T_bool v4 (.bool true)) (fun _ W =>
  okF (nilP v0) fun v6 =>
  okF (addrF 4 v6) fun v7 =>
  rdK PR (Instr.loadAt T_int v7) (fun v8 W =>
  okF (binP .add v8 (.int .i64 1)) fun v9 =>
  okF (nilP v0) fun v10 =>
  okF (addrF 4 v10) fun v11 =>
  efK PR (Instr.storeAt T_int v11 v9) (fun _ W =>
  R (.tuple #[]) W) W) W) W
def S.disk_Disk_On.hint : Hint := (.two .nil .nil)
theorem S.disk_Disk_On.ok (R : Value → World → Prop) (v0 : Value) (W : World) : bodyK PR CB Try.f18 S.disk_Disk_On.hint [v0] R W = S.disk_Disk_On.body R v0 W := by kernel_rfl
theorem S.disk_Disk_On.fn : PR.funcs[F_disk_Disk_On]? = some Try.f18 := by kernel_rfl
theorem S.disk_Disk_On.call {R : Value → World → Prop} {v0 : Value} {W : World} (h : S.disk_Disk_On.body R v0 W) : callK PR F_disk_Disk_On [v0] R W :=
  callK_of_body (g := F_disk_Disk_On) (fn := Try.f18) (args := [v0]) (R := R) (w := W) mixed CBok S.disk_Disk_On.fn S.disk_Disk_On.hint (by rw [S.disk_Disk_On.ok]; exact h)
/-! ### (*rostrum/disk.Disk).Power (33) -/
def S.disk_Disk_Power.body (R : Value → World → Prop) (v0 : Value) (W : World) : Prop :=
  okF (nilP v0) fun v4 =>
  okF (addrF 3 v4) fun v5 =>
  rdK PR (Instr.loadAt T_bool v5) (fun v6 W =>
  R v6 W) W
def S.disk_Disk_Power.hint : Hint := (.two .nil (.two .nil .nil))
theorem S.disk_Disk_Power.ok (R : Value → World → Prop) (v0 : Value) (W : World) : bodyK PR CB Try.f33 S.disk_Disk_Power.hint [v0] R W = S.disk_Disk_Power.body R v0 W := by kernel_rfl
theorem S.disk_Disk_Power.fn : PR.funcs[F_disk_Disk_Power]? = some Try.f33 := by kernel_rfl
theorem S.disk_Disk_Power.call {R : Value → World → Prop} {v0 : Value} {W : World} (h : S.disk_Disk_Power.body R v0 W) : callK PR F_disk_Disk_Power [v0] R W :=
  callK_of_body (g := F_disk_Disk_Power) (fn := Try.f33) (args := [v0]) (R := R) (w := W) mixed CBok S.disk_Disk_Power.fn S.disk_Disk_Power.hint (by rw [S.disk_Disk_Power.ok]; exact h)
/-! ### (*rostrum/disk.Disk).Lives (34) -/
def S.disk_Disk_Lives.body (R : Value → World → Prop) (v0 : Value) (W : World) : Prop :=
  okF (nilP v0) fun v4 =>
  okF (addrF 4 v4) fun v5 =>
  rdK PR (Instr.loadAt T_int v5) (fun v6 W =>
  R v6 W) W
def S.disk_Disk_Lives.hint : Hint := (.two .nil (.two .nil .nil))
theorem S.disk_Disk_Lives.ok (R : Value → World → Prop) (v0 : Value) (W : World) : bodyK PR CB Try.f34 S.disk_Disk_Lives.hint [v0] R W = S.disk_Disk_Lives.body R v0 W := by kernel_rfl
theorem S.disk_Disk_Lives.fn : PR.funcs[F_disk_Disk_Lives]? = some Try.f34 := by kernel_rfl
theorem S.disk_Disk_Lives.call {R : Value → World → Prop} {v0 : Value} {W : World} (h : S.disk_Disk_Lives.body R v0 W) : callK PR F_disk_Disk_Lives [v0] R W :=
  callK_of_body (g := F_disk_Disk_Lives) (fn := Try.f34) (args := [v0]) (R := R) (w := W) mixed CBok S.disk_Disk_Lives.fn S.disk_Disk_Lives.hint (by rw [S.disk_Disk_Lives.ok]; exact h)
/-! ### (*rostrum/disk.Disk).Sync (20) -/
def S.disk_Disk_Sync.j1 (R : Value → World → Prop) (x5 : Value) (W : World) : Prop :=
  R x5 W
def S.disk_Disk_Sync.body (R : Value → World → Prop) (v0 v1 : Value) (W : World) : Prop :=
  callK PR F_disk_Disk_find [v0, v1] (fun v8 W =>
  joinK (fun s W => S.disk_Disk_Sync.j1 R (nthv s 0) W) (fun J1 =>
  okF (binP .eql v8 (.int .i64 0)) fun v10 =>
  ifK v10 (
  callK PR F_disk_Disk_safe [v0, v1] (fun v13 W =>
  J1 [v8] W) W) (
  J1 [v8] W))) W
def S.disk_Disk_Sync.hint : Hint := (.two .nil (.two .nil (.at [5] (.two .nil (.two .nil .nil)) (.two .nil .nil))))
theorem S.disk_Disk_Sync.ok (R : Value → World → Prop) (v0 v1 : Value) (W : World) : bodyK PR CB Try.f20 S.disk_Disk_Sync.hint [v0, v1] R W = S.disk_Disk_Sync.body R v0 v1 W := by kernel_rfl
theorem S.disk_Disk_Sync.fn : PR.funcs[F_disk_Disk_Sync]? = some Try.f20 := by kernel_rfl
theorem S.disk_Disk_Sync.call {R : Value → World → Prop} {v0 v1 : Value} {W : World} (h : S.disk_Disk_Sync.body R v0 v1 W) : callK PR F_disk_Disk_Sync [v0, v1] R W :=
  callK_of_body (g := F_disk_Disk_Sync) (fn := Try.f20) (args := [v0, v1]) (R := R) (w := W) mixed CBok S.disk_Disk_Sync.fn S.disk_Disk_Sync.hint (by rw [S.disk_Disk_Sync.ok]; exact h)
/-! ### (*rostrum/disk.Disk).safe (49) -/
def S.disk_Disk_safe.body (R : Value → World → Prop) (v0 v1 : Value) (W : World) : Prop :=
  efK PR (Instr.box T_int v1) (fun v3 W =>
  okF (nilP v0) fun v6 =>
  okF (addrF 2 v6) fun v7 =>
  rdK PR (Instr.loadAt T_s_disk_write v7) (fun v8 W =>
  callK PR F_slices_DeleteFunc_disk_write_disk_write [v8, (.func (.func F_disk_Disk_safe_1) #[] #[v3])] (fun v10 W =>
  okF (nilP v0) fun v11 =>
  okF (addrF 2 v11) fun v12 =>
  efK PR (Instr.storeAt T_s_disk_write v12 v10) (fun _ W =>
  R (.tuple #[]) W) W) W) W) W
def S.disk_Disk_safe.hint : Hint := (.two .nil .nil)
theorem S.disk_Disk_safe.ok (R : Value → World → Prop) (v0 v1 : Value) (W : World) : bodyK PR CB Try.f49 S.disk_Disk_safe.hint [v0, v1] R W = S.disk_Disk_safe.body R v0 v1 W := by kernel_rfl
theorem S.disk_Disk_safe.fn : PR.funcs[F_disk_Disk_safe]? = some Try.f49 := by kernel_rfl
theorem S.disk_Disk_safe.call {R : Value → World → Prop} {v0 v1 : Value} {W : World} (h : S.disk_Disk_safe.body R v0 v1 W) : callK PR F_disk_Disk_safe [v0, v1] R W :=
  callK_of_body (g := F_disk_Disk_safe) (fn := Try.f49) (args := [v0, v1]) (R := R) (w := W) mixed CBok S.disk_Disk_safe.fn S.disk_Disk_safe.hint (by rw [S.disk_Disk_safe.ok]; exact h)
/-! ### (*rostrum/disk.Disk).Spoil (21) -/
def S.disk_Disk_Spoil.body (R : Value → World → Prop) (v0 v1 v2 v3 : Value) (W : World) : Prop :=
  callK PR F_disk_Disk_find [v0, v1] (fun v11 W =>
  okF (binP .neq v11 (.int .i64 0)) fun v12 =>
  gdK (wantd v12 false) (fun k W => k v2 W) (fun v14 W =>
  gdK (wantd v12 false) (fun k W => okF (binP .lss v14 (.int .i64 0)) fun v => k v W) (fun v15 W =>
  okF (pickP v12 (.bool true) v15) fun v16 =>
  gdK (wantd v16 false) (fun k W => k v2 W) (fun v18 W =>
  gdK (wantd v16 false) (fun k W => k v0 W) (fun v19 W =>
  gdK (wantd v16 false) (fun k W => okF (nilP v19) fun v => k v W) (fun v20 W =>
  gdK (wantd v16 false) (fun k W => okF (addrF 1 v20) fun v => k v W) (fun v21 W =>
  gdK (wantd v16 false) (fun k W => rdK PR (Instr.loadAt T_m_int_s_uint8 v21) k W) (fun v22 W =>
  gdK (wantd v16 false) (fun k W => k v1 W) (fun v23 W =>
  gdK (wantd v16 false) (fun k W => rdK PR (Instr.lookup T_m_int_s_uint8 v22 v23 false) k W) (fun v24 W =>
  gdK (wantd v16 false) (fun k W => okF (lenP (.slice T_uint8) v24) fun v => k v W) (fun v25 W =>
  gdK (wantd v16 false) (fun k W => okF (binP .geq v18 v25) fun v => k v W) (fun v26 W =>
  okF (pickP v16 (.bool true) v26) fun v27 =>
  gdK (wantd v27 false) (fun k W => k v3 W) (fun v29 W =>
  gdK (wantd v27 false) (fun k W => okF (binP .eql v29 (.int .u8 0)) fun v => k v W) (fun v30 W =>
  okF (pickP v27 (.bool true) v30) fun v31 =>
  ifK v31 (
  R (.bool false) W) (
  okF (nilP v0) fun v33 =>
  okF (addrF 1 v33) fun v34 =>
  rdK PR (Instr.loadAt T_m_int_s_uint8 v34) (fun v35 W =>
  rdK PR (Instr.lookup T_m_int_s_uint8 v35 v1 false) (fun v37 W =>
  okF (idxS 1 v37 v2) fun v39 =>
  rdK PR (Instr.loadAt T_uint8 v39) (fun v40 W =>
  okF (binP .xor v40 v3) fun v42 =>
  okF (idxS 1 v37 v2) fun v43 =>
  efK PR (Instr.storeAt T_uint8 v43 v42) (fun _ W =>
  R (.bool true) W) W) W) W) W)) W) W) W) W) W) W) W) W) W) W) W) W) W) W
def S.disk_Disk_Spoil.hint : Hint := (.two .nil (.two (.two .nil (.two (.two .nil .nil) .nil)) (.two .nil (.two .nil .nil))))
theorem S.disk_Disk_Spoil.ok (R : Value → World → Prop) (v0 v1 v2 v3 : Value) (W : World) : bodyK PR CB Try.f21 S.disk_Disk_Spoil.hint [v0, v1, v2, v3] R W = S.disk_Disk_Spoil.body R v0 v1 v2 v3 W := by kernel_rfl
theorem S.disk_Disk_Spoil.fn : PR.funcs[F_disk_Disk_Spoil]? = some Try.f21 := by kernel_rfl
theorem S.disk_Disk_Spoil.call {R : Value → World → Prop} {v0 v1 v2 v3 : Value} {W : World} (h : S.disk_Disk_Spoil.body R v0 v1 v2 v3 W) : callK PR F_disk_Disk_Spoil [v0, v1, v2, v3] R W :=
  callK_of_body (g := F_disk_Disk_Spoil) (fn := Try.f21) (args := [v0, v1, v2, v3]) (R := R) (w := W) mixed CBok S.disk_Disk_Spoil.fn S.disk_Disk_Spoil.hint (by rw [S.disk_Disk_Spoil.ok]; exact h)
/-! ### (*rostrum/disk.Disk).Drop (23) -/
def S.disk_Disk_Drop.j1 (R : Value → World → Prop) (x5 : Value) (W : World) : Prop :=
  R x5 W
def S.disk_Disk_Drop.body (R : Value → World → Prop) (v0 v1 : Value) (W : World) : Prop :=
  callK PR F_disk_Disk_find [v0, v1] (fun v8 W =>
  joinK (fun s W => S.disk_Disk_Drop.j1 R (nthv s 0) W) (fun J1 =>
  okF (binP .eql v8 (.int .i64 0)) fun v10 =>
  ifK v10 (
  callK PR F_disk_Disk_safe [v0, v1] (fun v13 W =>
  okF (nilP v0) fun v15 =>
  okF (addrF 1 v15) fun v16 =>
  rdK PR (Instr.loadAt T_m_int_s_uint8 v16) (fun v17 W =>
  efK PR (Builtin.delete_ #[T_m_int_s_uint8, T_int] T_t0 #[v17, v1]) (fun _ W =>
  J1 [v8] W) W) W) W) (
  J1 [v8] W))) W
def S.disk_Disk_Drop.hint : Hint := (.two .nil (.two .nil (.at [5] (.two .nil (.two (.two .nil .nil) .nil)) (.two .nil .nil))))
theorem S.disk_Disk_Drop.ok (R : Value → World → Prop) (v0 v1 : Value) (W : World) : bodyK PR CB Try.f23 S.disk_Disk_Drop.hint [v0, v1] R W = S.disk_Disk_Drop.body R v0 v1 W := by kernel_rfl
theorem S.disk_Disk_Drop.fn : PR.funcs[F_disk_Disk_Drop]? = some Try.f23 := by kernel_rfl
theorem S.disk_Disk_Drop.call {R : Value → World → Prop} {v0 v1 : Value} {W : World} (h : S.disk_Disk_Drop.body R v0 v1 W) : callK PR F_disk_Disk_Drop [v0, v1] R W :=
  callK_of_body (g := F_disk_Disk_Drop) (fn := Try.f23) (args := [v0, v1]) (R := R) (w := W) mixed CBok S.disk_Disk_Drop.fn S.disk_Disk_Drop.hint (by rw [S.disk_Disk_Drop.ok]; exact h)
end Go.Proofs.Ythladblmjoaeoaa
namespace Go.Proofs.Ythladblmjoaeoaa
set_option linter.unusedVariables false
set_option linter.unusedSimpArgs false
open Go.Eng
/-! ### bytes.Clone (48) -/
def S.bytes_Clone.body (R : Value → World → Prop) (v0 : Value) (W : World) : Prop :=
  okF (eqP (.slice T_uint8) .eql v0 (.slice none 0 0)) fun v4 =>
  ifK v4 (
  R (.slice none 0 0) W) (
  efK PR (Instr.buildSlice T_s_uint8 0 #[]) (fun v5 W =>
  efK PR (Builtin.append_ #[T_s_uint8, T_s_uint8] T_s_uint8 #[v5, v0]) (fun v7 W =>
  R v7 W) W) W)
def S.bytes_Clone.hint : Hint := (.two .nil (.two (.two .nil (.two (.two .nil .nil) .nil)) (.two .nil .nil)))
theorem S.bytes_Clone.ok (R : Value → World → Prop) (v0 : Value) (W : World) : bodyK PR CB Try.f48 S.bytes_Clone.hint [v0] R W = S.bytes_Clone.body R v0 W := by kernel_rfl
theorem S.bytes_Clone.fn : PR.funcs[F_bytes_Clone]? = some Try.f48 := by kernel_rfl
theorem S.bytes_Clone.call {R : Value → World → Prop} {v0 : Value} {W : World} (h : S.bytes_Clone.body R v0 W) : callK PR F_bytes_Clone [v0] R W :=
  callK_of_body (g := F_bytes_Clone) (fn := Try.f48) (args := [v0]) (R := R) (w := W) mixed CBok S.bytes_Clone.fn S.bytes_Clone.hint (by rw [S.bytes_Clone.ok]; exact h)
end Go.Proofs.Ythladblmjoaeoaa
namespace Go.Proofs.Ythladblmjoaeoaa
set_option linter.unusedVariables false
set_option linter.unusedSimpArgs false
open Go Go.Eng

section
variable {W0 W : World} {L L' : List Asn}
theorem bytesClone {a : Option Addr} {l : List UInt8} {c : Nat} {k : Value → World → Prop} (h : St W0 L W) [hr : Rd W0 L a B8 l] (hl : l.length < 70368744177664)
    (hk : ∀ a' c' W', St W0 (arr B8 T_uint8 a' c' l :: L) W' → k (.slice a' l.length c') W') : callK PR F_bytes_Clone [.slice a l.length c] k W := by
  apply S.bytes_Clone.call
  unfold S.bytes_Clone.body
  cases a with
  | none =>
    have hl0 : l = [] := by
      rcases Classical.em (l = []) with h0 | h0
      · exact h0
      · obtain ⟨g, o, h1, _⟩ := Rd.at (A := B8) (l := l) (a := none) h h0
        cases h1
    subst hl0
    simp -implicitDefEqProofs only [EN, lsub, lget, stL, beq_self_eq_true, ne_eq, if_true, if_false, List.cons_append, List.nil_append, Option.isNone_some, Option.isNone_none]
    exact hk none 0 W (h.ent (arr_nil _ _))
  | some ad =>
    simp -implicitDefEqProofs only [EN, lsub, lget, stL, beq_self_eq_true, ne_eq, if_true, if_false, List.cons_append, List.nil_append, Option.isNone_some, Option.isNone_none]
    refine bs0 B8 h fun a1 c1 W1 h1 => ?_
    refine appA (a := a1) (l := []) (m := l) h1 rfl (by simp; omega) (by simp [maxLen]; omega) fun a2 c2 W2 h2 => ?_
    exact hk a2 c2 W2 h2

@[reducible] def fch (x : BSl) : Asn := arr B8 T_uint8 x.a x.c x.bs
theorem fch0 (L : List Asn) : ent L (fch ⟨none, 0, []⟩ :: L) := arr_nil _ _
def InB (x : BSl) (B : List BSl) : Prop := x.bs = [] ∨ x ∈ B
theorem InB.cons {x y : BSl} {B : List BSl} (h : InB x B) : InB x (y :: B) := h.imp id fun h => List.mem_cons_of_mem _ h
theorem InB.head (x : BSl) (B : List BSl) : InB x (x :: B) := .inr (by simp)
theorem InB.nil (x : BSl) (B : List BSl) (h : x.bs = []) : InB x B := .inl h
theorem rdMany {x : BSl} {B : List BSl} (hx : InB x B) : Rd W0 (many fch B :: L) x.a B8 x.bs := ⟨fun W h => by
  rcases hx with hx | hx
  · rw [hx]; exact .inl rfl
  · obtain ⟨A, C, rfl⟩ := List.append_of_mem hx
    have h1 := h.ent ((many_perm (F := fch) (List.perm_middle (a := x) (l₁ := A) (l₂ := C))).trans (many_cons _ _))
    have hr : Rd W0 (arr B8 T_uint8 x.a x.c x.bs :: many fch (A ++ C) :: L) x.a B8 x.bs := inferInstance
    exact hr.ok W h1⟩
end
end Go.Proofs.Ythladblmjoaeoaa
namespace Go.Proofs.Ythladblmjoaeoaa
set_option linter.unusedVariables false
set_option linter.unusedSimpArgs false
open Go Go.Eng

section
variable {W0 W : World} {L L' : List Asn}
def WRT : Ly Wr := ⟨3, by omega, fun w => [.int .i64 w.1, .int .i64 w.2.1, .int .i64 w.2.2], fun _ => rfl, fun _ => rfl⟩
abbrev mvs (fs : List (Int × BSl)) : List (Int × Value) := fs.map fun p => (p.1, p.2.v)
abbrev cts (fs : List (Int × BSl)) : List (Int × List UInt8) := fs.map fun p => (p.1, p.2.bs)
/-- a disk, as it lies -/
structure DX where
  r : Nat
  a : Option Addr
  c : Nat
  fs : List (Int × BSl)
def dk (p : Nat) (d : DS) : Asn := fun h => ∃ x : DX, cts x.fs = d.fs ∧
  sep [cells p [.int .i64 d.room, .map (some x.r), .slice x.a d.ws.length x.c, .bool d.on, .int .i64 d.lives] T_disk_Disk, mp KI x.r (mvs x.fs), arr WRT T_disk_write x.a x.c d.ws, many fch (x.fs.map (·.2))] h
theorem dk_at {p : Nat} {d : DS} (h : St W0 (dk p d :: L) W) : ∃ r a c fs, cts fs = d.fs ∧
    St W0 (cells p [.int .i64 d.room, .map (some r), .slice a d.ws.length c, .bool d.on, .int .i64 d.lives] T_disk_Disk :: mp KI r (mvs fs) :: arr WRT T_disk_write a c d.ws :: many fch (fs.map (·.2)) :: L) W := by
  obtain ⟨x, h⟩ := h.ex
  obtain ⟨h1, h⟩ := h.fact
  exact ⟨x.r, x.a, x.c, x.fs, h1, h.flat⟩
theorem dk_ent {p r : Nat} {d : DS} {a : Option Addr} {c : Nat} {fs : List (Int × BSl)} (h : cts fs = d.fs) :
    ent (cells p [.int .i64 d.room, .map (some r), .slice a d.ws.length c, .bool d.on, .int .i64 d.lives] T_disk_Disk :: mp KI r (mvs fs) :: arr WRT T_disk_write a c d.ws :: many fch (fs.map (·.2)) :: L) (dk p d :: L) :=
  (ent.pack [_, _, _, _] L).trans (ent.weak fun _ hp => ⟨⟨r, a, c, fs⟩, h, hp⟩)
theorem mget_mvs (fs : List (Int × BSl)) (f : Int) : (mget (mvs fs) f).getD (.slice none 0 0) = ((mget fs f).getD ⟨none, 0, []⟩).v := by
  rw [mvs, mget_map]
  cases mget fs f <;> rfl
theorem mget_mvs_some (fs : List (Int × BSl)) (f : Int) : (mget (mvs fs) f).isSome = (mget (cts fs) f).isSome := by
  rw [mvs, cts, mget_map, mget_map]
  cases mget fs f <;> rfl
theorem cont_cts (fs : List (Int × BSl)) (f : Int) : cont (cts fs) f = ((mget fs f).getD ⟨none, 0, []⟩).bs := by
  rw [cont, cts, mget_map]
  cases mget fs f <;> rfl

theorem diskNew {n : Int} {k : Value → World → Prop} (h : St W0 L W) (h0 : 64 ≤ n) (h1 : n ≤ 1048576)
    (hk : ∀ p W', St W0 (dk p ⟨n, [], [], true, 1⟩ :: L) W' → k (.tuple #[.pointer (some ⟨p, 0, none⟩), .int .i64 0]) W') : callK PR F_disk_New [.int .i64 n] k W := by
  apply S.disk_New.call
  unfold S.disk_New.body
  have e1 : decide (n < 64) = false := decide_eq_false (by omega)
  have e2 : decide (1048576 < n) = false := decide_eq_false (by omega)
  (repeat (first | (first | (with_reducible (first | refine w1 fun _ _ => ?_ | refine w3 fun _ _ _ => ?_ | refine w4 fun _ _ _ => ?_ | refine w11 fun _ _ _ => ?_ | refine stb_n ?_)) | ((with_reducible refine w2 ?_); try simp -implicitDefEqProofs only [EN, lsub, lget, stL, beq_self_eq_true, ne_eq, if_true, if_false, List.cons_append, List.nil_append, Option.isNone_some, Option.isNone_none, e1, e2]; intro _ _) | ((with_reducible (first | refine w5 ?_ ?_ | refine w6 ?_ ?_ | refine w7 ?_ ?_)); simp; refine ⟨_, rfl, ?_⟩) | ((with_reducible (first | refine w8 ?_ ?_ ?_ | refine w9 ?_ ?_ ?_ | refine w10 ?_ ?_ ?_)); exact rfl; simp) | ((with_reducible refine w12 ?_ ?_ ?_ fun _ _ => ?_); simp; simp; simp [oneC]) | ((with_reducible (first | refine eqs ?_ | refine nes ?_)); refine ⟨_, rfl, ?_⟩) | ((refine okF_i (bldP_eq rfl) ?_); try simp only [BLS, List.take_succ_cons, List.take_zero, List.drop_succ_cons, List.drop_zero, List.cons_append, List.nil_append, Nat.reduceAdd])) | simp -implicitDefEqProofs only [EN, lsub, lget, stL, beq_self_eq_true, ne_eq, if_true, if_false, List.cons_append, List.nil_append, Option.isNone_some, Option.isNone_none, e1, e2]))
  refine mkMap (K := KI) h fun r W1 h => ?_
  (repeat (first | (first | (with_reducible (first | refine w1 fun _ _ => ?_ | refine w3 fun _ _ _ => ?_ | refine w4 fun _ _ _ => ?_ | refine w11 fun _ _ _ => ?_ | refine stb_n ?_)) | ((with_reducible refine w2 ?_); try simp -implicitDefEqProofs only [EN, lsub, lget, stL, beq_self_eq_true, ne_eq, if_true, if_false, List.cons_append, List.nil_append, Option.isNone_some, Option.isNone_none]; intro _ _) | ((with_reducible (first | refine w5 ?_ ?_ | refine w6 ?_ ?_ | refine w7 ?_ ?_)); simp; refine ⟨_, rfl, ?_⟩) | ((with_reducible (first | refine w8 ?_ ?_ ?_ | refine w9 ?_ ?_ ?_ | refine w10 ?_ ?_ ?_)); exact rfl; simp) | ((with_reducible refine w12 ?_ ?_ ?_ fun _ _ => ?_); simp; simp; simp [oneC]) | ((with_reducible (first | refine eqs ?_ | refine nes ?_)); refine ⟨_, rfl, ?_⟩) | ((refine okF_i (bldP_eq rfl) ?_); try simp only [BLS, List.take_succ_cons, List.take_zero, List.drop_succ_cons, List.drop_zero, List.cons_append, List.nil_append, Nat.reduceAdd])) | simp -implicitDefEqProofs only [EN, lsub, lget, stL, beq_self_eq_true, ne_eq, if_true, if_false, List.cons_append, List.nil_append, Option.isNone_some, Option.isNone_none]))
  refine hk _ _ (St.ent (by first | assumption | exact St.tick (by assumption) | exact St.tick (St.tick (by assumption))) (((ent.cons _ (ent.cons _ ((arr_nil WRT T_disk_write).trans (ent.cons _ (many_nil (F := fch)))))).trans (dk_ent (d := ⟨n, [], [], true, 1⟩) (r := r) (a := none) (c := 0) (fs := []) rfl))))
theorem diskAsk {p : Nat} {d : DS} {f : Int} {k : Value → World → Prop} (h : St W0 L W) [ht : Tk (dk p) L d L'] (hk : ∀ W', St W0 (dk p d :: L') W' → k (.int .i64 (d.ask f)) W') : callK PR F_disk_Disk_ask [.pointer (some ⟨p, 0, none⟩), .int .i64 f] k W := by
  apply S.disk_Disk_ask.call
  unfold S.disk_Disk_ask.body
  obtain ⟨r, a, c, fs, hf, h⟩ := dk_at (h.perm ht.perm)
  unfold DS.ask at hk
  cases hon : d.on with
  | false =>
    rw [hon] at hk h
    (repeat (first | (first | (with_reducible (first | refine w1 fun _ _ => ?_ | refine w3 fun _ _ _ => ?_ | refine w4 fun _ _ _ => ?_ | refine w11 fun _ _ _ => ?_ | refine stb_n ?_)) | ((with_reducible refine w2 ?_); try simp -implicitDefEqProofs only [EN, lsub, lget, stL, beq_self_eq_true, ne_eq, if_true, if_false, List.cons_append, List.nil_append, Option.isNone_some, Option.isNone_none]; intro _ _) | ((with_reducible (first | refine w5 ?_ ?_ | refine w6 ?_ ?_ | refine w7 ?_ ?_)); simp; refine ⟨_, rfl, ?_⟩) | ((with_reducible (first | refine w8 ?_ ?_ ?_ | refine w9 ?_ ?_ ?_ | refine w10 ?_ ?_ ?_)); exact rfl; simp) | ((with_reducible refine w12 ?_ ?_ ?_ fun _ _ => ?_); simp; simp; simp [oneC]) | ((with_reducible (first | refine eqs ?_ | refine nes ?_)); refine ⟨_, rfl, ?_⟩) | ((refine okF_i (bldP_eq rfl) ?_); try simp only [BLS, List.take_succ_cons, List.take_zero, List.drop_succ_cons, List.drop_zero, List.cons_append, List.nil_append, Nat.reduceAdd])) | simp -implicitDefEqProofs only [EN, lsub, lget, stL, beq_self_eq_true, ne_eq, if_true, if_false, List.cons_append, List.nil_append, Option.isNone_some, Option.isNone_none]))
    refine hk _ ?_
    exact St.ent (by first | assumption | exact St.tick (by assumption) | exact St.tick (St.tick (by assumption))) (hon ▸ dk_ent (d := d) hf)
  | true =>
    rw [hon] at hk h
    have hend : ∀ W1, St W0 (cells p [.int .i64 d.room, .map (some r), .slice a d.ws.length c, .bool true, .int .i64 d.lives] T_disk_Disk :: mp KI r (mvs fs) :: arr WRT T_disk_write a c d.ws :: many fch (fs.map (·.2)) :: L') W1 → St W0 (dk p d :: L') W1 :=
      fun W1 h => h.ent (hon ▸ dk_ent (d := d) hf)
    simp only [Bool.not_true, Bool.false_eq_true, if_false] at hk
    by_cases h1 : f < 0
    · rw [if_pos (by omega)] at hk
      (repeat (first | (first | (with_reducible (first | refine w1 fun _ _ => ?_ | refine w3 fun _ _ _ => ?_ | refine w4 fun _ _ _ => ?_ | refine w11 fun _ _ _ => ?_ | refine stb_n ?_)) | ((with_reducible refine w2 ?_); try simp -implicitDefEqProofs only [EN, lsub, lget, stL, beq_self_eq_true, ne_eq, if_true, if_false, List.cons_append, List.nil_append, Option.isNone_some, Option.isNone_none, h1]; intro _ _) | ((with_reducible (first | refine w5 ?_ ?_ | refine w6 ?_ ?_ | refine w7 ?_ ?_)); simp; refine ⟨_, rfl, ?_⟩) | ((with_reducible (first | refine w8 ?_ ?_ ?_ | refine w9 ?_ ?_ ?_ | refine w10 ?_ ?_ ?_)); exact rfl; simp) | ((with_reducible refine w12 ?_ ?_ ?_ fun _ _ => ?_); simp; simp; simp [oneC]) | ((with_reducible (first | refine eqs ?_ | refine nes ?_)); refine ⟨_, rfl, ?_⟩) | ((refine okF_i (bldP_eq rfl) ?_); try simp only [BLS, List.take_succ_cons, List.take_zero, List.drop_succ_cons, List.drop_zero, List.cons_append, List.nil_append, Nat.reduceAdd])) | simp -implicitDefEqProofs only [EN, lsub, lget, stL, beq_self_eq_true, ne_eq, if_true, if_false, List.cons_append, List.nil_append, Option.isNone_some, Option.isNone_none, h1]))
      exact hk _ (hend _ (by first | assumption | exact St.tick (by assumption) | exact St.tick (St.tick (by assumption))))
    · by_cases h2 : 1000 ≤ f
      · rw [if_pos (by omega)] at hk
        (repeat (first | (first | (with_reducible (first | refine w1 fun _ _ => ?_ | refine w3 fun _ _ _ => ?_ | refine w4 fun _ _ _ => ?_ | refine w11 fun _ _ _ => ?_ | refine stb_n ?_)) | ((with_reducible refine w2 ?_); try simp -implicitDefEqProofs only [EN, lsub, lget, stL, beq_self_eq_true, ne_eq, if_true, if_false, List.cons_append, List.nil_append, Option.isNone_some, Option.isNone_none, h1, h2]; intro _ _) | ((with_reducible (first | refine w5 ?_ ?_ | refine w6 ?_ ?_ | refine w7 ?_ ?_)); simp; refine ⟨_, rfl, ?_⟩) | ((with_reducible (first | refine w8 ?_ ?_ ?_ | refine w9 ?_ ?_ ?_ | refine w10 ?_ ?_ ?_)); exact rfl; simp) | ((with_reducible refine w12 ?_ ?_ ?_ fun _ _ => ?_); simp; simp; simp [oneC]) | ((with_reducible (first | refine eqs ?_ | refine nes ?_)); refine ⟨_, rfl, ?_⟩) | ((refine okF_i (bldP_eq rfl) ?_); try simp only [BLS, List.take_succ_cons, List.take_zero, List.drop_succ_cons, List.drop_zero, List.cons_append, List.nil_append, Nat.reduceAdd])) | simp -implicitDefEqProofs only [EN, lsub, lget, stL, beq_self_eq_true, ne_eq, if_true, if_false, List.cons_append, List.nil_append, Option.isNone_some, Option.isNone_none, h1, h2]))
        exact hk _ (hend _ (by first | assumption | exact St.tick (by assumption) | exact St.tick (St.tick (by assumption))))
      · rw [if_neg (by omega)] at hk
        (repeat (first | (first | (with_reducible (first | refine w1 fun _ _ => ?_ | refine w3 fun _ _ _ => ?_ | refine w4 fun _ _ _ => ?_ | refine w11 fun _ _ _ => ?_ | refine stb_n ?_)) | ((with_reducible refine w2 ?_); try simp -implicitDefEqProofs only [EN, lsub, lget, stL, beq_self_eq_true, ne_eq, if_true, if_false, List.cons_append, List.nil_append, Option.isNone_some, Option.isNone_none, h1, h2]; intro _ _) | ((with_reducible (first | refine w5 ?_ ?_ | refine w6 ?_ ?_ | refine w7 ?_ ?_)); simp; refine ⟨_, rfl, ?_⟩) | ((with_reducible (first | refine w8 ?_ ?_ ?_ | refine w9 ?_ ?_ ?_ | refine w10 ?_ ?_ ?_)); exact rfl; simp) | ((with_reducible refine w12 ?_ ?_ ?_ fun _ _ => ?_); simp; simp; simp [oneC]) | ((with_reducible (first | refine eqs ?_ | refine nes ?_)); refine ⟨_, rfl, ?_⟩) | ((refine okF_i (bldP_eq rfl) ?_); try simp only [BLS, List.take_succ_cons, List.take_zero, List.drop_succ_cons, List.drop_zero, List.cons_append, List.nil_append, Nat.reduceAdd])) | simp -implicitDefEqProofs only [EN, lsub, lget, stL, beq_self_eq_true, ne_eq, if_true, if_false, List.cons_append, List.nil_append, Option.isNone_some, Option.isNone_none, h1, h2]))
        exact hk _ (hend _ (by first | assumption | exact St.tick (by assumption) | exact St.tick (St.tick (by assumption))))
theorem diskFind {p : Nat} {d : DS} {f : Int} {k : Value → World → Prop} (h : St W0 L W) [ht : Tk (dk p) L d L'] (hk : ∀ W', St W0 (dk p d :: L') W' → k (.int .i64 (d.find f)) W') : callK PR F_disk_Disk_find [.pointer (some ⟨p, 0, none⟩), .int .i64 f] k W := by
  apply S.disk_Disk_find.call
  unfold S.disk_Disk_find.body
  refine diskAsk h fun W1 h => ?_
  unfold DS.find at hk
  by_cases ha : d.ask f = 0
  · rw [ha] at hk ⊢
    obtain ⟨r, a, c, fs, hf, h⟩ := dk_at h
    simp only [ne_eq, not_true, if_false] at hk
    rw [← hf, ← mget_mvs_some] at hk
    (repeat (first | (first | (with_reducible (first | refine w1 fun _ _ => ?_ | refine w3 fun _ _ _ => ?_ | refine w4 fun _ _ _ => ?_ | refine w11 fun _ _ _ => ?_ | refine stb_n ?_)) | ((with_reducible refine w2 ?_); try simp -implicitDefEqProofs only [EN, lsub, lget, stL, beq_self_eq_true, ne_eq, if_true, if_false, List.cons_append, List.nil_append, Option.isNone_some, Option.isNone_none]; intro _ _) | ((with_reducible (first | refine w5 ?_ ?_ | refine w6 ?_ ?_ | refine w7 ?_ ?_)); simp; refine ⟨_, rfl, ?_⟩) | ((with_reducible (first | refine w8 ?_ ?_ ?_ | refine w9 ?_ ?_ ?_ | refine w10 ?_ ?_ ?_)); exact rfl; simp) | ((with_reducible refine w12 ?_ ?_ ?_ fun _ _ => ?_); simp; simp; simp [oneC]) | ((with_reducible (first | refine eqs ?_ | refine nes ?_)); refine ⟨_, rfl, ?_⟩) | ((refine okF_i (bldP_eq rfl) ?_); try simp only [BLS, List.take_succ_cons, List.take_zero, List.drop_succ_cons, List.drop_zero, List.cons_append, List.nil_append, Nat.reduceAdd])) | simp -implicitDefEqProofs only [EN, lsub, lget, stL, beq_self_eq_true, ne_eq, if_true, if_false, List.cons_append, List.nil_append, Option.isNone_some, Option.isNone_none]))
    refine lkpOk (K := KI) f (by first | assumption | exact St.tick (by assumption) | exact St.tick (St.tick (by assumption))) ?_
    cases hs : (mget (mvs fs) f).isSome with
    | true => rw [hs] at hk; (repeat (first | (first | (with_reducible (first | refine w1 fun _ _ => ?_ | refine w3 fun _ _ _ => ?_ | refine w4 fun _ _ _ => ?_ | refine w11 fun _ _ _ => ?_ | refine stb_n ?_)) | ((with_reducible refine w2 ?_); try simp -implicitDefEqProofs only [EN, lsub, lget, stL, beq_self_eq_true, ne_eq, if_true, if_false, List.cons_append, List.nil_append, Option.isNone_some, Option.isNone_none]; intro _ _) | ((with_reducible (first | refine w5 ?_ ?_ | refine w6 ?_ ?_ | refine w7 ?_ ?_)); simp; refine ⟨_, rfl, ?_⟩) | ((with_reducible (first | refine w8 ?_ ?_ ?_ | refine w9 ?_ ?_ ?_ | refine w10 ?_ ?_ ?_)); exact rfl; simp) | ((with_reducible refine w12 ?_ ?_ ?_ fun _ _ => ?_); simp; simp; simp [oneC]) | ((with_reducible (first | refine eqs ?_ | refine nes ?_)); refine ⟨_, rfl, ?_⟩) | ((refine okF_i (bldP_eq rfl) ?_); try simp only [BLS, List.take_succ_cons, List.take_zero, List.drop_succ_cons, List.drop_zero, List.cons_append, List.nil_append, Nat.reduceAdd])) | simp -implicitDefEqProofs only [EN, lsub, lget, stL, beq_self_eq_true, ne_eq, if_true, if_false, List.cons_append, List.nil_append, Option.isNone_some, Option.isNone_none])); exact hk _ (St.ent (by first | assumption | exact St.tick (by assumption) | exact St.tick (St.tick (by assumption))) (dk_ent (d := d) hf))
    | false => rw [hs] at hk; (repeat (first | (first | (with_reducible (first | refine w1 fun _ _ => ?_ | refine w3 fun _ _ _ => ?_ | refine w4 fun _ _ _ => ?_ | refine w11 fun _ _ _ => ?_ | refine stb_n ?_)) | ((with_reducible refine w2 ?_); try simp -implicitDefEqProofs only [EN, lsub, lget, stL, beq_self_eq_true, ne_eq, if_true, if_false, List.cons_append, List.nil_append, Option.isNone_some, Option.isNone_none]; intro _ _) | ((with_reducible (first | refine w5 ?_ ?_ | refine w6 ?_ ?_ | refine w7 ?_ ?_)); simp; refine ⟨_, rfl, ?_⟩) | ((with_reducible (first | refine w8 ?_ ?_ ?_ | refine w9 ?_ ?_ ?_ | refine w10 ?_ ?_ ?_)); exact rfl; simp) | ((with_reducible refine w12 ?_ ?_ ?_ fun _ _ => ?_); simp; simp; simp [oneC]) | ((with_reducible (first | refine eqs ?_ | refine nes ?_)); refine ⟨_, rfl, ?_⟩) | ((refine okF_i (bldP_eq rfl) ?_); try simp only [BLS, List.take_succ_cons, List.take_zero, List.drop_succ_cons, List.drop_zero, List.cons_append, List.nil_append, Nat.reduceAdd])) | simp -implicitDefEqProofs only [EN, lsub, lget, stL, beq_self_eq_true, ne_eq, if_true, if_false, List.cons_append, List.nil_append, Option.isNone_some, Option.isNone_none])); exact hk _ (St.ent (by first | assumption | exact St.tick (by assumption) | exact St.tick (St.tick (by assumption))) (dk_ent (d := d) hf))
  · have e1 : decide (d.ask f = 0) = false := decide_eq_false ha
    rw [if_pos ha] at hk
    (repeat (first | (first | (with_reducible (first | refine w1 fun _ _ => ?_ | refine w3 fun _ _ _ => ?_ | refine w4 fun _ _ _ => ?_ | refine w11 fun _ _ _ => ?_ | refine stb_n ?_)) | ((with_reducible refine w2 ?_); try simp -implicitDefEqProofs only [EN, lsub, lget, stL, beq_self_eq_true, ne_eq, if_true, if_false, List.cons_append, List.nil_append, Option.isNone_some, Option.isNone_none, e1]; intro _ _) | ((with_reducible (first | refine w5 ?_ ?_ | refine w6 ?_ ?_ | refine w7 ?_ ?_)); simp; refine ⟨_, rfl, ?_⟩) | ((with_reducible (first | refine w8 ?_ ?_ ?_ | refine w9 ?_ ?_ ?_ | refine w10 ?_ ?_ ?_)); exact rfl; simp) | ((with_reducible refine w12 ?_ ?_ ?_ fun _ _ => ?_); simp; simp; simp [oneC]) | ((with_reducible (first | refine eqs ?_ | refine nes ?_)); refine ⟨_, rfl, ?_⟩) | ((refine okF_i (bldP_eq rfl) ?_); try simp only [BLS, List.take_succ_cons, List.take_zero, List.drop_succ_cons, List.drop_zero, List.cons_append, List.nil_append, Nat.reduceAdd])) | simp -implicitDefEqProofs only [EN, lsub, lget, stL, beq_self_eq_true, ne_eq, if_true, if_false, List.cons_append, List.nil_append, Option.isNone_some, Option.isNone_none, e1]))
    exact hk _ (by first | assumption | exact St.tick (by assumption) | exact St.tick (St.tick (by assumption)))
end
end Go.Proofs.Ythladblmjoaeoaa
namespace Go.Eng
set_option linter.unusedVariables false
set_option linter.unusedSimpArgs false

def zig (v : Int) : Nat := if 0 ≤ v then 2 * v.toNat else 2 * (-v).toNat - 1
def unzig (u : Nat) : Int := if u % 2 = 0 then ((u / 2 : Nat) : Int) else - ((u / 2 : Nat) : Int) - 1
theorem unzig_zig (v : Int) : unzig (zig v) = v := by unfold zig unzig; split <;> split <;> omega
theorem zig_lt {v : Int} (h0 : -9223372036854775808 ≤ v) (h1 : v ≤ 9223372036854775807) : zig v < 18446744073709551616 := by unfold zig; split <;> omega
theorem unzig_ge (u : Nat) (h : u < 18446744073709551616) : -9223372036854775808 ≤ unzig u ∧ unzig u ≤ 9223372036854775807 := by unfold unzig; split <;> omega
def encU (u : Nat) : List UInt8 := if u < 128 then [UInt8.ofNat u] else UInt8.ofNat (u % 128 + 128) :: encU (u / 128)
termination_by u
decreasing_by omega
def encN (v : Int) : List UInt8 := encU (zig v)
theorem encU_small {u : Nat} (h : u < 128) : encU u = [UInt8.ofNat u] := by rw [encU, if_pos h]
theorem encU_big {u : Nat} (h : ¬ u < 128) : encU u = UInt8.ofNat (u % 128 + 128) :: encU (u / 128) := by rw [encU, if_neg h]
/-- how many groups at most -/
theorem encU_len : ∀ (k u : Nat), u < 128 ^ (k + 1) → (encU u).length ≤ k + 1
  | 0, u, h => by rw [encU_small (by simpa using h)]; simp
  | k + 1, u, h => by
    by_cases hu : u < 128
    · rw [encU_small hu]; simp
    · rw [encU_big hu]
      have := encU_len k (u / 128) (Nat.div_lt_of_lt_mul (by rw [Nat.pow_succ] at h; rw [Nat.mul_comm]; exact h))
      simp only [List.length_cons]; omega
theorem encU_le {u : Nat} (h : u < 18446744073709551616) : (encU u).length ≤ 10 := encU_len 9 u (Nat.lt_of_lt_of_le h (by decide))
theorem encN_le {v : Int} (h0 : -9223372036854775808 ≤ v) (h1 : v ≤ 9223372036854775807) : (encN v).length ≤ 10 := encU_le (zig_lt h0 h1)

/-- a number's groups, of which i are read: their sum, what is behind them -/
def dec (i u : Nat) : List UInt8 → Option (Nat × List UInt8)
  | [] => none
  | c :: r => if 10 ≤ i then none else
      if 128 ≤ c.toNat then dec (i + 1) (u + (c.toNat - 128) * 128 ^ i) r
      else if (0 < i ∧ c.toNat = 0) ∨ (i = 9 ∧ 1 < c.toNat) then none
      else some (u + c.toNat * 128 ^ i, r)
theorem ofNat_toNat {n : Nat} (h : n < 256) : (UInt8.ofNat n).toNat = n := by simp [UInt8.toNat_ofNat', Nat.mod_eq_of_lt h]
theorem dec_encU : ∀ (k i u s : Nat) (r : List UInt8), i + k = 9 → u < 128 ^ (k + 1) → (i = 0 ∨ 0 < u) → (u * 128 ^ i < 18446744073709551616) → dec i s (encU u ++ r) = some (s + u * 128 ^ i, r)
  | 0, i, u, s, r, hi, hu, hp, hb => by
    have : i = 9 := by omega
    subst this
    have hu : u < 128 := by simpa using hu
    rw [encU_small hu]
    simp only [List.cons_append, List.nil_append, dec, ofNat_toNat (show u < 256 by omega)]
    rw [if_neg (by omega), if_neg (by omega), if_neg]
    have : (128 : Nat) ^ 9 = 9223372036854775808 := by decide
    omega
  | k + 1, i, u, s, r, hi, hu, hp, hb => by
    by_cases h : u < 128
    · rw [encU_small h]
      simp only [List.cons_append, List.nil_append, dec, ofNat_toNat (show u < 256 by omega)]
      rw [if_neg (by omega), if_neg (by omega), if_neg (by omega)]
    · rw [encU_big h]
      simp only [List.cons_append, dec, ofNat_toNat (show u % 128 + 128 < 256 by omega)]
      have e1 : u / 128 * 128 ^ (i + 1) + u % 128 * 128 ^ i = u * 128 ^ i := by
        rw [Nat.pow_succ, Nat.mul_comm (128 ^ i) 128, ← Nat.mul_assoc, ← Nat.add_mul]
        congr 1; omega
      rw [if_neg (by omega), if_pos (by omega), dec_encU k (i + 1) (u / 128) _ r (by omega)
        (Nat.div_lt_of_lt_mul (by rw [Nat.pow_succ] at hu; rw [Nat.mul_comm]; exact hu)) (by omega) (by omega)]
      rw [Nat.add_sub_cancel, Nat.add_assoc]
      congr 3; omega
theorem dec_enc (u : Nat) (r : List UInt8) (h : u < 18446744073709551616) : dec 0 0 (encU u ++ r) = some (u, r) := by
  rw [dec_encU 9 0 u 0 r rfl (Nat.lt_of_lt_of_le h (by decide)) (.inl rfl) (by omega)]; simp
theorem dec_len : ∀ (bs : List UInt8) (i u v : Nat) (r : List UInt8), dec i u bs = some (v, r) → r.length ≤ bs.length
  | [], i, u, v, r, h => by simp [dec] at h
  | c :: bs, i, u, v, r, h => by
    simp only [dec] at h
    split at h
    · cases h
    · split at h
      · have := dec_len bs _ _ _ _ h
        simp only [List.length_cons]; omega
      · split at h
        · cases h
        · simp only [Option.some.injEq, Prod.mk.injEq] at h
          rw [← h.2]; simp
/-- what a reader reads -/
def rdN (bs : List UInt8) (lo hi : Int) : Option (Int × List UInt8) :=
  match dec 0 0 bs with
  | some (u, r) => if unzig u < lo ∨ hi < unzig u then none else some (unzig u, r)
  | none => none
theorem rdN_enc {v lo hi : Int} {r : List UInt8} (h0 : -9223372036854775808 ≤ lo) (h1 : hi ≤ 9223372036854775807) (h2 : lo ≤ v) (h3 : v ≤ hi) : rdN (encN v ++ r) lo hi = some (v, r) := by
  unfold rdN encN
  rw [dec_enc _ _ (zig_lt (by omega) (by omega))]
  simp only [unzig_zig]
  rw [if_neg (by omega)]
end Go.Eng
namespace Go.Eng
set_option linter.unusedVariables false
set_option linter.unusedSimpArgs false
open Go

theorem u64w (n : Int) : IntKind.u64.wrap n = n % 18446744073709551616 := by
  unfold IntKind.wrap
  have : IntKind.u64.signed = false := rfl
  simp only [this, Bool.false_and, Bool.false_eq_true, if_false]
  rfl
theorem i64w (n : Int) : IntKind.i64.wrap n = (n + 9223372036854775808) % 18446744073709551616 - 9223372036854775808 := by rw [IntKind.wrap_i64]
theorem u8w (n : Int) : IntKind.u8.wrap n = n % 256 := by rw [IntKind.wrap_u8]
theorem ofInt_toNat (n : Int) (h0 : 0 ≤ n) (h1 : n < 18446744073709551616) : (BitVec.ofInt 64 n).toNat = n.toNat := by
  rw [BitVec.toNat_ofInt]; congr 1; exact Int.emod_eq_of_lt h0 h1
theorem ones64 : BitVec.ofInt 64 18446744073709551615 = BitVec.allOnes 64 := by decide
theorem ones64' : BitVec.ofInt 64 (-1) = BitVec.allOnes 64 := by decide
theorem xor_ones (x : Int) (h0 : 0 ≤ x) (h1 : x < 18446744073709551616) : (BitVec.ofInt 64 x ^^^ BitVec.allOnes 64).toNat = 18446744073709551615 - x.toNat := by
  rw [BitVec.xor_allOnes, BitVec.toNat_not, ofInt_toNat x h0 h1]
theorem xor_zero (x : Int) (h0 : 0 ≤ x) (h1 : x < 18446744073709551616) : (BitVec.ofInt 64 x ^^^ BitVec.ofInt 64 0).toNat = x.toNat := by
  have : BitVec.ofInt 64 0 = 0#64 := by decide
  rw [this, BitVec.xor_zero, ofInt_toNat x h0 h1]
theorem shl1 (v : Int) : IntKind.u64.wrap (IntKind.u64.wrap v * 2 ^ (min (1 : Int).toNat IntKind.u64.bits)) = (2 * v) % 18446744073709551616 := by
  have : (2 : Int) ^ (min (1 : Int).toNat IntKind.u64.bits) = 2 := by decide
  rw [this, u64w, u64w]; omega
theorem sar63 (v : Int) (h0 : -9223372036854775808 ≤ v) (h1 : v ≤ 9223372036854775807) : v.fdiv (2 ^ (min (63 : Int).toNat IntKind.i64.bits)) = if 0 ≤ v then 0 else -1 := by
  have : (2 : Int) ^ (min (63 : Int).toNat IntKind.i64.bits) = 9223372036854775808 := by decide
  rw [this, Int.fdiv_eq_ediv_of_nonneg _ (by decide)]
  split <;> omega
theorem zig_xor (v : Int) (h0 : -9223372036854775808 ≤ v) (h1 : v ≤ 9223372036854775807) :
    IntKind.u64.wrap (BitVec.ofInt 64 ((2 * v) % 18446744073709551616) ^^^ BitVec.ofInt 64 (IntKind.u64.wrap (if 0 ≤ v then 0 else -1))).toNat = zig v := by
  unfold zig
  by_cases h : 0 ≤ v
  · simp only [h, if_true]
    rw [u64w 0, show (0 : Int) % 18446744073709551616 = 0 from rfl, xor_zero _ (by omega) (by omega), u64w]; omega
  · simp only [h, if_false]
    rw [u64w (-1), show (-1 : Int) % 18446744073709551616 = 18446744073709551615 from rfl, ones64, xor_ones _ (by omega) (by omega), u64w]; omega
theorem zig_not (v : Int) (h0 : -9223372036854775808 ≤ v) (h1 : v < 0) :
    IntKind.u64.wrap (BitVec.ofInt 64 (if IntKind.u64.signed = true then -1 else IntKind.u64.max) ^^^ BitVec.ofInt 64 ((2 * v) % 18446744073709551616)).toNat = zig v := by
  have : (if IntKind.u64.signed = true then (-1 : Int) else IntKind.u64.max) = 18446744073709551615 := by decide
  rw [this, ones64, BitVec.xor_comm, xor_ones _ (by omega) (by omega), u64w]
  unfold zig; rw [if_neg (by omega)]; omega
theorem zig_pos (v : Int) (h0 : 0 ≤ v) (h1 : v ≤ 9223372036854775807) : (2 * v) % 18446744073709551616 = zig v := by unfold zig; rw [if_pos h0]; omega
theorem shr_u (u k : Nat) (hk : k ≤ 64) : ((u : Int).fdiv (2 ^ (min ((k : Nat) : Int).toNat IntKind.u64.bits))) = ((u / 2 ^ k : Nat) : Int) := by
  have h64 : IntKind.u64.bits = 64 := rfl
  rw [h64, Int.toNat_natCast, Nat.min_eq_left hk, Int.fdiv_eq_ediv_of_nonneg _ (by exact Int.pow_nonneg (by decide))]
  rw [Int.natCast_ediv, Int.natCast_pow]; rfl
theorem and1 (u : Nat) (h : u < 18446744073709551616) : IntKind.u64.wrap (BitVec.ofInt 64 (u : Int) &&& BitVec.ofInt 64 1).toNat = ((u % 2 : Nat) : Int) := by
  have h1 : (BitVec.ofInt 64 1).toNat = 1 := by decide
  rw [BitVec.toNat_and, ofInt_toNat _ (by omega) (by omega), h1, Int.toNat_natCast, Nat.and_one_is_mod, u64w]; omega
theorem unzig_xor (u : Nat) (h : u < 18446744073709551616) : IntKind.i64.wrap (BitVec.ofInt 64 (IntKind.i64.wrap ((u / 2 : Nat) : Int)) ^^^ BitVec.ofInt 64 (IntKind.i64.wrap (0 - IntKind.i64.wrap ((u % 2 : Nat) : Int)))).toNat = unzig u := by
  have e0 : IntKind.i64.wrap ((u / 2 : Nat) : Int) = ((u / 2 : Nat) : Int) := by rw [i64w]; omega
  rw [e0]
  unfold unzig
  by_cases hu : u % 2 = 0
  · rw [hu, if_pos rfl, show IntKind.i64.wrap (0 - IntKind.i64.wrap ((0 : Nat) : Int)) = 0 from by decide, xor_zero _ (by omega) (by omega), Int.toNat_natCast, i64w]; omega
  · have h1 : u % 2 = 1 := by omega
    rw [h1, if_neg (by omega), show IntKind.i64.wrap (0 - IntKind.i64.wrap ((1 : Nat) : Int)) = -1 from by decide, ones64', xor_ones _ (by omega) (by omega), i64w]; omega
set_option maxRecDepth 100000 in
theorem andNot7 : ∀ c : Fin 256, IntKind.u8.wrap (BitVec.ofInt 8 ((c.val : Nat) : Int) &&& ~~~(BitVec.ofInt 8 128)).toNat = ((c.val % 128 : Nat) : Int) := by decide
set_option maxRecDepth 100000 in
theorem and7 : ∀ c : Fin 256, IntKind.u8.wrap (BitVec.ofInt 8 ((c.val : Nat) : Int) &&& BitVec.ofInt 8 127).toNat = ((c.val % 128 : Nat) : Int) := by decide
set_option maxRecDepth 100000 in
theorem and8 : ∀ c : Fin 256, IntKind.u8.wrap (BitVec.ofInt 8 ((c.val : Nat) : Int) &&& BitVec.ofInt 8 128).toNat = (if 128 ≤ c.val then 128 else 0 : Int) := by decide
set_option maxRecDepth 100000 in
theorem or8 : ∀ c : Fin 256, IntKind.u8.wrap (BitVec.ofInt 8 ((c.val : Nat) : Int) ||| BitVec.ofInt 8 128).toNat = ((c.val % 128 + 128 : Nat) : Int) := by decide
theorem or8' (n : Nat) (h : n < 256) : IntKind.u8.wrap (BitVec.ofInt IntKind.u8.bits (n : Int) ||| BitVec.ofInt IntKind.u8.bits 128).toNat = ((n % 128 + 128 : Nat) : Int) := or8 ⟨n, h⟩
theorem and7' (n : Nat) (h : n < 256) : IntKind.u8.wrap (BitVec.ofInt IntKind.u8.bits (n : Int) &&& BitVec.ofInt IntKind.u8.bits 127).toNat = ((n % 128 : Nat) : Int) := and7 ⟨n, h⟩
theorem and8' (n : Nat) (h : n < 256) : IntKind.u8.wrap (BitVec.ofInt IntKind.u8.bits (n : Int) &&& BitVec.ofInt IntKind.u8.bits 128).toNat = (if 128 ≤ n then 128 else 0 : Int) := and8 ⟨n, h⟩
theorem andNot7' (n : Nat) (h : n < 256) : IntKind.u8.wrap (BitVec.ofInt IntKind.u8.bits (n : Int) &&& ~~~(BitVec.ofInt IntKind.u8.bits 128)).toNat = ((n % 128 : Nat) : Int) := andNot7 ⟨n, h⟩
theorem shl7 (x i : Nat) (hi : i ≤ 9) (hx : x * 128 ^ i < 18446744073709551616) : IntKind.u64.wrap ((x : Int) * 2 ^ (min ((7 * i : Nat) : Int).toNat IntKind.u64.bits)) = ((x * 128 ^ i : Nat) : Int) := by
  have h64 : IntKind.u64.bits = 64 := rfl
  rw [h64, Int.toNat_natCast, Nat.min_eq_left (by omega)]
  have : (2 : Int) ^ (7 * i) = ((128 ^ i : Nat) : Int) := by
    rw [Int.pow_mul, Int.natCast_pow]; rfl
  rw [this, ← Int.natCast_mul, u64w]
  generalize x * 128 ^ i = y at *
  omega
theorem or_add (u x i : Nat) (hu : u < 128 ^ i) (hx : u + x * 128 ^ i < 18446744073709551616) : IntKind.u64.wrap (BitVec.ofInt 64 (u : Int) ||| BitVec.ofInt 64 ((x * 128 ^ i : Nat) : Int)).toNat = ((u + x * 128 ^ i : Nat) : Int) := by
  rw [BitVec.toNat_or, ofInt_toNat _ (by omega) (by omega), ofInt_toNat _ (by omega) (by omega), Int.toNat_natCast, Int.toNat_natCast]
  have e : (128 : Nat) ^ i = 2 ^ (7 * i) := by rw [Nat.pow_mul]
  have := Nat.two_pow_add_eq_or_of_lt (i := 7 * i) (b := u) (by rw [← e]; exact hu) x
  rw [Nat.or_comm, e, Nat.mul_comm x, ← this, u64w, Nat.add_comm]
  rw [e, Nat.mul_comm x] at hx
  generalize 2 ^ (7 * i) * x = y at *
  omega
theorem cvt8 (u : Nat) : IntKind.u8.wrap (u : Int) = ((u % 256 : Nat) : Int) := by rw [u8w]; rfl
theorem b8_ofNat {n : Nat} (h : n < 256) : Value.int .u8 (n : Int) = b8 (UInt8.ofNat n) := by unfold b8; rw [ofNat_toNat h]
end Go.Eng
namespace Go.Proofs.Ythladblmjoaeoaa
set_option linter.unusedVariables false
set_option linter.unusedSimpArgs false
open Go Go.Eng

section
variable {W0 W : World} {L L' : List Asn}
theorem lens_app (a b : List (Int × List UInt8)) : lens (a ++ b) = lens a + lens b := by simp [lens, List.sum_append]
theorem diskSize {p : Nat} {d : DS} {k : Value → World → Prop} (h : St W0 L W) [ht : Tk (dk p) L d L'] (hs : lens d.fs ≤ 1048576) (hk : ∀ W', St W0 (dk p d :: L') W' → k (.int .i64 (lens d.fs)) W') : callK PR F_disk_Disk_size [.pointer (some ⟨p, 0, none⟩)] k W := by
  apply S.disk_Disk_size.call
  unfold S.disk_Disk_size.body
  obtain ⟨r, a, c, fs, hf, h⟩ := dk_at (h.perm ht.perm)
  refine joinK_i ?_
  (repeat (first | (first | (with_reducible (first | refine w1 fun _ _ => ?_ | refine w3 fun _ _ _ => ?_ | refine w4 fun _ _ _ => ?_ | refine w11 fun _ _ _ => ?_ | refine stb_n ?_)) | ((with_reducible refine w2 ?_); try simp -implicitDefEqProofs only [EN, lsub, lget, stL, beq_self_eq_true, ne_eq, if_true, if_false, List.cons_append, List.nil_append, Option.isNone_some, Option.isNone_none]; intro _ _) | ((with_reducible (first | refine w5 ?_ ?_ | refine w6 ?_ ?_ | refine w7 ?_ ?_)); simp; refine ⟨_, rfl, ?_⟩) | ((with_reducible (first | refine w8 ?_ ?_ ?_ | refine w9 ?_ ?_ ?_ | refine w10 ?_ ?_ ?_)); exact rfl; simp) | ((with_reducible refine w12 ?_ ?_ ?_ fun _ _ => ?_); simp; simp; simp [oneC]) | ((with_reducible (first | refine eqs ?_ | refine nes ?_)); refine ⟨_, rfl, ?_⟩) | ((refine okF_i (bldP_eq rfl) ?_); try simp only [BLS, List.take_succ_cons, List.take_zero, List.drop_succ_cons, List.drop_zero, List.cons_append, List.nil_append, Nat.reduceAdd])) | simp -implicitDefEqProofs only [EN, lsub, lget, stL, beq_self_eq_true, ne_eq, if_true, if_false, List.cons_append, List.nil_append, Option.isNone_some, Option.isNone_none]))
  refine rangeM (K := KI) (by first | assumption | exact St.tick (by assumption) | exact St.tick (St.tick (by assumption))) fun b W1 h => ?_
  refine loop_x (σ := List (Int × BSl)) (fun gs => [.int .i64 (lens d.fs - lens (cts gs)), .pointer (some ⟨b, 0, none⟩)])
    (fun gs W1 => lens (cts gs) ≤ lens d.fs ∧ ∃ cur, St W0 (mpi KI r b (mvs fs) (mvs gs) cur :: cells p [.int .i64 d.room, .map (some r), .slice a d.ws.length c, .bool d.on, .int .i64 d.lives] T_disk_Disk :: arr WRT T_disk_write a c d.ws :: many fch (fs.map (·.2)) :: L') W1)
    List.length fs (by rw [hf, Int.sub_self]) ⟨by rw [hf]; omega, none, h⟩ ?_
  rintro K gs W2 ⟨hle, cur, h⟩ hK
  simp -implicitDefEqProofs only [EN, lsub, lget, stL, beq_self_eq_true, ne_eq, if_true, if_false, List.cons_append, List.nil_append, Option.isNone_some, Option.isNone_none]
  unfold S.disk_Disk_size.l1
  refine nextM h (fun h0 => ?_) (fun pre f v post W3 h1 h => ?_)
  · have : gs = [] := by simpa [mvs] using h0
    subst this
    (repeat (first | (first | (with_reducible (first | refine w1 fun _ _ => ?_ | refine w3 fun _ _ _ => ?_ | refine w4 fun _ _ _ => ?_ | refine w11 fun _ _ _ => ?_ | refine stb_n ?_)) | ((with_reducible refine w2 ?_); try simp -implicitDefEqProofs only [EN, lsub, lget, stL, beq_self_eq_true, ne_eq, if_true, if_false, List.cons_append, List.nil_append, Option.isNone_some, Option.isNone_none]; intro _ _) | ((with_reducible (first | refine w5 ?_ ?_ | refine w6 ?_ ?_ | refine w7 ?_ ?_)); simp; refine ⟨_, rfl, ?_⟩) | ((with_reducible (first | refine w8 ?_ ?_ ?_ | refine w9 ?_ ?_ ?_ | refine w10 ?_ ?_ ?_)); exact rfl; simp) | ((with_reducible refine w12 ?_ ?_ ?_ fun _ _ => ?_); simp; simp; simp [oneC]) | ((with_reducible (first | refine eqs ?_ | refine nes ?_)); refine ⟨_, rfl, ?_⟩) | ((refine okF_i (bldP_eq rfl) ?_); try simp only [BLS, List.take_succ_cons, List.take_zero, List.drop_succ_cons, List.drop_zero, List.cons_append, List.nil_append, Nat.reduceAdd])) | simp -implicitDefEqProofs only [EN, lsub, lget, stL, beq_self_eq_true, ne_eq, if_true, if_false, List.cons_append, List.nil_append, Option.isNone_some, Option.isNone_none]))
    unfold S.disk_Disk_size.j1
    have e : lens d.fs - lens (cts []) = lens d.fs := by simp [lens, cts]
    rw [e]
    exact hk _ ((h.mpiEnd.ent (ent.swap _ _ _)).ent (dk_ent (d := d) hf))
  · obtain ⟨A, tl, rfl, rfl, h2⟩ := List.map_eq_append_iff.1 h1
    obtain ⟨x, B, rfl, h3, rfl⟩ := List.map_eq_cons_iff.1 h2
    simp only [Prod.mk.injEq] at h3
    obtain ⟨rfl, rfl⟩ := h3
    (repeat (first | (first | (with_reducible (first | refine w1 fun _ _ => ?_ | refine w3 fun _ _ _ => ?_ | refine w4 fun _ _ _ => ?_ | refine w11 fun _ _ _ => ?_ | refine stb_n ?_)) | ((with_reducible refine w2 ?_); try simp -implicitDefEqProofs only [EN, lsub, lget, stL, beq_self_eq_true, ne_eq, if_true, if_false, List.cons_append, List.nil_append, Option.isNone_some, Option.isNone_none]; intro _ _) | ((with_reducible (first | refine w5 ?_ ?_ | refine w6 ?_ ?_ | refine w7 ?_ ?_)); simp; refine ⟨_, rfl, ?_⟩) | ((with_reducible (first | refine w8 ?_ ?_ ?_ | refine w9 ?_ ?_ ?_ | refine w10 ?_ ?_ ?_)); exact rfl; simp) | ((with_reducible refine w12 ?_ ?_ ?_ fun _ _ => ?_); simp; simp; simp [oneC]) | ((with_reducible (first | refine eqs ?_ | refine nes ?_)); refine ⟨_, rfl, ?_⟩) | ((refine okF_i (bldP_eq rfl) ?_); try simp only [BLS, List.take_succ_cons, List.take_zero, List.drop_succ_cons, List.drop_zero, List.cons_append, List.nil_append, Nat.reduceAdd])) | simp -implicitDefEqProofs only [EN, lsub, lget, stL, beq_self_eq_true, ne_eq, if_true, if_false, List.cons_append, List.nil_append, Option.isNone_some, Option.isNone_none]))
    refine entryM h ?_
    have hc : cts (A ++ x :: B) = cts A ++ (x.1, x.2.bs) :: cts B := by simp [cts]
    have hc2 : cts (A ++ B) = cts A ++ cts B := by simp [cts]
    have e : lens (cts (A ++ x :: B)) = lens (cts (A ++ B)) + x.2.bs.length := by
      rw [hc, hc2, lens_app, lens_app]
      have : lens ((x.1, x.2.bs) :: cts B) = x.2.bs.length + lens (cts B) := by simp [lens]
      rw [this]; omega
    have hn := lens_nonneg (cts (A ++ B))
    have ew : IntKind.i64.wrap (lens d.fs - lens (cts (A ++ x :: B)) + (x.2.bs.length : Int)) = lens d.fs - lens (cts (A ++ B)) := by rw [e, i64w]; omega
    (repeat (first | (first | (with_reducible (first | refine w1 fun _ _ => ?_ | refine w3 fun _ _ _ => ?_ | refine w4 fun _ _ _ => ?_ | refine w11 fun _ _ _ => ?_ | refine stb_n ?_)) | ((with_reducible refine w2 ?_); try simp -implicitDefEqProofs only [EN, lsub, lget, stL, beq_self_eq_true, ne_eq, if_true, if_false, List.cons_append, List.nil_append, Option.isNone_some, Option.isNone_none, ew]; intro _ _) | ((with_reducible (first | refine w5 ?_ ?_ | refine w6 ?_ ?_ | refine w7 ?_ ?_)); simp; refine ⟨_, rfl, ?_⟩) | ((with_reducible (first | refine w8 ?_ ?_ ?_ | refine w9 ?_ ?_ ?_ | refine w10 ?_ ?_ ?_)); exact rfl; simp) | ((with_reducible refine w12 ?_ ?_ ?_ fun _ _ => ?_); simp; simp; simp [oneC]) | ((with_reducible (first | refine eqs ?_ | refine nes ?_)); refine ⟨_, rfl, ?_⟩) | ((refine okF_i (bldP_eq rfl) ?_); try simp only [BLS, List.take_succ_cons, List.take_zero, List.drop_succ_cons, List.drop_zero, List.cons_append, List.nil_append, Nat.reduceAdd])) | simp -implicitDefEqProofs only [EN, lsub, lget, stL, beq_self_eq_true, ne_eq, if_true, if_false, List.cons_append, List.nil_append, Option.isNone_some, Option.isNone_none, ew]))
    refine hK (A ++ B) _ (by simp) ⟨by omega, some (x.1, x.2.v), ?_⟩
    have : mvs (A ++ B) = mvs A ++ mvs B := by simp [mvs]
    rw [this]
    exact h
theorem diskOn {p : Nat} {d : DS} {k : Value → World → Prop} (h : St W0 L W) [ht : Tk (dk p) L d L'] (hk : ∀ W', St W0 (dk p d.power :: L') W' → k (.tuple #[]) W') : callK PR F_disk_Disk_On [.pointer (some ⟨p, 0, none⟩)] k W := by
  apply S.disk_Disk_On.call
  unfold S.disk_Disk_On.body
  obtain ⟨r, a, c, fs, hf, h⟩ := dk_at (h.perm ht.perm)
  (repeat (first | (first | (with_reducible (first | refine w1 fun _ _ => ?_ | refine w3 fun _ _ _ => ?_ | refine w4 fun _ _ _ => ?_ | refine w11 fun _ _ _ => ?_ | refine stb_n ?_)) | ((with_reducible refine w2 ?_); try simp -implicitDefEqProofs only [EN, lsub, lget, stL, beq_self_eq_true, ne_eq, if_true, if_false, List.cons_append, List.nil_append, Option.isNone_some, Option.isNone_none]; intro _ _) | ((with_reducible (first | refine w5 ?_ ?_ | refine w6 ?_ ?_ | refine w7 ?_ ?_)); simp; refine ⟨_, rfl, ?_⟩) | ((with_reducible (first | refine w8 ?_ ?_ ?_ | refine w9 ?_ ?_ ?_ | refine w10 ?_ ?_ ?_)); exact rfl; simp) | ((with_reducible refine w12 ?_ ?_ ?_ fun _ _ => ?_); simp; simp; simp [oneC]) | ((with_reducible (first | refine eqs ?_ | refine nes ?_)); refine ⟨_, rfl, ?_⟩) | ((refine okF_i (bldP_eq rfl) ?_); try simp only [BLS, List.take_succ_cons, List.take_zero, List.drop_succ_cons, List.drop_zero, List.cons_append, List.nil_append, Nat.reduceAdd])) | simp -implicitDefEqProofs only [EN, lsub, lget, stL, beq_self_eq_true, ne_eq, if_true, if_false, List.cons_append, List.nil_append, Option.isNone_some, Option.isNone_none]))
  exact hk _ (St.ent (by first | assumption | exact St.tick (by assumption) | exact St.tick (St.tick (by assumption))) (dk_ent (d := d.power) hf))
theorem diskPower {p : Nat} {d : DS} {k : Value → World → Prop} (h : St W0 L W) [ht : Tk (dk p) L d L'] (hk : ∀ W', St W0 (dk p d :: L') W' → k (.bool d.on) W') : callK PR F_disk_Disk_Power [.pointer (some ⟨p, 0, none⟩)] k W := by
  apply S.disk_Disk_Power.call
  unfold S.disk_Disk_Power.body
  obtain ⟨r, a, c, fs, hf, h⟩ := dk_at (h.perm ht.perm)
  (repeat (first | (first | (with_reducible (first | refine w1 fun _ _ => ?_ | refine w3 fun _ _ _ => ?_ | refine w4 fun _ _ _ => ?_ | refine w11 fun _ _ _ => ?_ | refine stb_n ?_)) | ((with_reducible refine w2 ?_); try simp -implicitDefEqProofs only [EN, lsub, lget, stL, beq_self_eq_true, ne_eq, if_true, if_false, List.cons_append, List.nil_append, Option.isNone_some, Option.isNone_none]; intro _ _) | ((with_reducible (first | refine w5 ?_ ?_ | refine w6 ?_ ?_ | refine w7 ?_ ?_)); simp; refine ⟨_, rfl, ?_⟩) | ((with_reducible (first | refine w8 ?_ ?_ ?_ | refine w9 ?_ ?_ ?_ | refine w10 ?_ ?_ ?_)); exact rfl; simp) | ((with_reducible refine w12 ?_ ?_ ?_ fun _ _ => ?_); simp; simp; simp [oneC]) | ((with_reducible (first | refine eqs ?_ | refine nes ?_)); refine ⟨_, rfl, ?_⟩) | ((refine okF_i (bldP_eq rfl) ?_); try simp only [BLS, List.take_succ_cons, List.take_zero, List.drop_succ_cons, List.drop_zero, List.cons_append, List.nil_append, Nat.reduceAdd])) | simp -implicitDefEqProofs only [EN, lsub, lget, stL, beq_self_eq_true, ne_eq, if_true, if_false, List.cons_append, List.nil_append, Option.isNone_some, Option.isNone_none]))
  exact hk _ (St.ent (by first | assumption | exact St.tick (by assumption) | exact St.tick (St.tick (by assumption))) (dk_ent (d := d) hf))
theorem diskLives {p : Nat} {d : DS} {k : Value → World → Prop} (h : St W0 L W) [ht : Tk (dk p) L d L'] (hk : ∀ W', St W0 (dk p d :: L') W' → k (.int .i64 d.lives) W') : callK PR F_disk_Disk_Lives [.pointer (some ⟨p, 0, none⟩)] k W := by
  apply S.disk_Disk_Lives.call
  unfold S.disk_Disk_Lives.body
  obtain ⟨r, a, c, fs, hf, h⟩ := dk_at (h.perm ht.perm)
  (repeat (first | (first | (with_reducible (first | refine w1 fun _ _ => ?_ | refine w3 fun _ _ _ => ?_ | refine w4 fun _ _ _ => ?_ | refine w11 fun _ _ _ => ?_ | refine stb_n ?_)) | ((with_reducible refine w2 ?_); try simp -implicitDefEqProofs only [EN, lsub, lget, stL, beq_self_eq_true, ne_eq, if_true, if_false, List.cons_append, List.nil_append, Option.isNone_some, Option.isNone_none]; intro _ _) | ((with_reducible (first | refine w5 ?_ ?_ | refine w6 ?_ ?_ | refine w7 ?_ ?_)); simp; refine ⟨_, rfl, ?_⟩) | ((with_reducible (first | refine w8 ?_ ?_ ?_ | refine w9 ?_ ?_ ?_ | refine w10 ?_ ?_ ?_)); exact rfl; simp) | ((with_reducible refine w12 ?_ ?_ ?_ fun _ _ => ?_); simp; simp; simp [oneC]) | ((with_reducible (first | refine eqs ?_ | refine nes ?_)); refine ⟨_, rfl, ?_⟩) | ((refine okF_i (bldP_eq rfl) ?_); try simp only [BLS, List.take_succ_cons, List.take_zero, List.drop_succ_cons, List.drop_zero, List.cons_append, List.nil_append, Nat.reduceAdd])) | simp -implicitDefEqProofs only [EN, lsub, lget, stL, beq_self_eq_true, ne_eq, if_true, if_false, List.cons_append, List.nil_append, Option.isNone_some, Option.isNone_none]))
  exact hk _ (St.ent (by first | assumption | exact St.tick (by assumption) | exact St.tick (St.tick (by assumption))) (dk_ent (d := d) hf))
theorem find_some {d : DS} {f : Int} (h : d.find f = 0) : (mget d.fs f).isSome = true ∧ d.ask f = 0 := by
  unfold DS.find at h
  split at h
  · rename_i h1; exact absurd h h1
  · rename_i h1
    have h1 : d.ask f = 0 := by omega
    split at h
    · rename_i h2; exact ⟨h2, h1⟩
    · cases h
theorem many_back {fs : List (Int × BSl)} {f : Int} {x : BSl} (h : mget fs f = some x) : ent (fch x :: many fch ((mdel fs f).map (·.2)) :: L) (many fch (fs.map (·.2)) :: L) :=
  (many_uncons x _).trans (many_perm (List.Perm.map (fun x : Int × BSl => x.2) (mdel_perm h)).symm)
theorem diskRead {p : Nat} {d : DS} {f : Int} {k : Value → World → Prop} (h : St W0 L W) [ht : Tk (dk p) L d L'] (hs : lens d.fs ≤ 1048576)
    (hk : ∀ a c W', St W0 (arr B8 T_uint8 a c (d.read f).1 :: dk p d :: L') W' → k (.tuple #[.slice a (d.read f).1.length c, .int .i64 (d.read f).2]) W') : callK PR F_disk_Disk_Read [.pointer (some ⟨p, 0, none⟩), .int .i64 f] k W := by
  apply S.disk_Disk_Read.call
  unfold S.disk_Disk_Read.body
  refine diskFind h fun W1 h => ?_
  unfold DS.read at hk
  by_cases ha : d.find f = 0
  · rw [ha] at hk ⊢
    obtain ⟨r, a, c, fs, hf, h⟩ := dk_at h
    simp only [ne_eq, not_true, if_false] at hk
    have hcl := lens_cont d.fs f
    rw [← hf, cont_cts] at hk hcl
    have hsm := (find_some ha).1
    rw [← hf] at hs
    rw [← hf, ← mget_mvs_some, mvs, mget_map] at hsm
    obtain ⟨y, hy⟩ : ∃ y, mget fs f = some y := by
      cases hm : mget fs f with
      | none => rw [hm] at hsm; cases hsm
      | some y => exact ⟨y, rfl⟩
    (repeat (first | (first | (with_reducible (first | refine w1 fun _ _ => ?_ | refine w3 fun _ _ _ => ?_ | refine w4 fun _ _ _ => ?_ | refine w11 fun _ _ _ => ?_ | refine stb_n ?_)) | ((with_reducible refine w2 ?_); try simp -implicitDefEqProofs only [EN, lsub, lget, stL, beq_self_eq_true, ne_eq, if_true, if_false, List.cons_append, List.nil_append, Option.isNone_some, Option.isNone_none]; intro _ _) | ((with_reducible (first | refine w5 ?_ ?_ | refine w6 ?_ ?_ | refine w7 ?_ ?_)); simp; refine ⟨_, rfl, ?_⟩) | ((with_reducible (first | refine w8 ?_ ?_ ?_ | refine w9 ?_ ?_ ?_ | refine w10 ?_ ?_ ?_)); exact rfl; simp) | ((with_reducible refine w12 ?_ ?_ ?_ fun _ _ => ?_); simp; simp; simp [oneC]) | ((with_reducible (first | refine eqs ?_ | refine nes ?_)); refine ⟨_, rfl, ?_⟩) | ((refine okF_i (bldP_eq rfl) ?_); try simp only [BLS, List.take_succ_cons, List.take_zero, List.drop_succ_cons, List.drop_zero, List.cons_append, List.nil_append, Nat.reduceAdd])) | simp -implicitDefEqProofs only [EN, lsub, lget, stL, beq_self_eq_true, ne_eq, if_true, if_false, List.cons_append, List.nil_append, Option.isNone_some, Option.isNone_none]))
    refine lkp (K := KI) (z := .slice none 0 0) f (by first | assumption | exact St.tick (by assumption) | exact St.tick (St.tick (by assumption))) ?_
    rw [mget_mvs]
    have h' := St.ent (by first | assumption | exact St.tick (by assumption) | exact St.tick (St.tick (by assumption))) (ent.cons _ (ent.cons _ (ent.cons _ (many_take (F := fch) f ⟨none, 0, []⟩ fch0))))
    rw [hy] at h' hk hcl ⊢
    simp only [Option.getD_some] at h' hk hcl ⊢
    have h'' : St W0 (_ :: _ :: _ :: arr B8 T_uint8 y.a y.c y.bs :: _) _ := h'
    refine bytesClone (a := y.a) (l := y.bs) h'' (by omega) fun a1 c1 W2 h => ?_
    (repeat (first | (first | (with_reducible (first | refine w1 fun _ _ => ?_ | refine w3 fun _ _ _ => ?_ | refine w4 fun _ _ _ => ?_ | refine w11 fun _ _ _ => ?_ | refine stb_n ?_)) | ((with_reducible refine w2 ?_); try simp -implicitDefEqProofs only [EN, lsub, lget, stL, beq_self_eq_true, ne_eq, if_true, if_false, List.cons_append, List.nil_append, Option.isNone_some, Option.isNone_none]; intro _ _) | ((with_reducible (first | refine w5 ?_ ?_ | refine w6 ?_ ?_ | refine w7 ?_ ?_)); simp; refine ⟨_, rfl, ?_⟩) | ((with_reducible (first | refine w8 ?_ ?_ ?_ | refine w9 ?_ ?_ ?_ | refine w10 ?_ ?_ ?_)); exact rfl; simp) | ((with_reducible refine w12 ?_ ?_ ?_ fun _ _ => ?_); simp; simp; simp [oneC]) | ((with_reducible (first | refine eqs ?_ | refine nes ?_)); refine ⟨_, rfl, ?_⟩) | ((refine okF_i (bldP_eq rfl) ?_); try simp only [BLS, List.take_succ_cons, List.take_zero, List.drop_succ_cons, List.drop_zero, List.cons_append, List.nil_append, Nat.reduceAdd])) | simp -implicitDefEqProofs only [EN, lsub, lget, stL, beq_self_eq_true, ne_eq, if_true, if_false, List.cons_append, List.nil_append, Option.isNone_some, Option.isNone_none]))
    exact hk a1 c1 _ (h.ent (ent.cons _ ((ent.cons _ (ent.cons _ (ent.cons _ (many_back hy)))).trans (dk_ent (d := d) hf))))
  · have e1 : decide (d.find f = 0) = false := decide_eq_false ha
    rw [if_pos ha] at hk
    (repeat (first | (first | (with_reducible (first | refine w1 fun _ _ => ?_ | refine w3 fun _ _ _ => ?_ | refine w4 fun _ _ _ => ?_ | refine w11 fun _ _ _ => ?_ | refine stb_n ?_)) | ((with_reducible refine w2 ?_); try simp -implicitDefEqProofs only [EN, lsub, lget, stL, beq_self_eq_true, ne_eq, if_true, if_false, List.cons_append, List.nil_append, Option.isNone_some, Option.isNone_none, e1]; intro _ _) | ((with_reducible (first | refine w5 ?_ ?_ | refine w6 ?_ ?_ | refine w7 ?_ ?_)); simp; refine ⟨_, rfl, ?_⟩) | ((with_reducible (first | refine w8 ?_ ?_ ?_ | refine w9 ?_ ?_ ?_ | refine w10 ?_ ?_ ?_)); exact rfl; simp) | ((with_reducible refine w12 ?_ ?_ ?_ fun _ _ => ?_); simp; simp; simp [oneC]) | ((with_reducible (first | refine eqs ?_ | refine nes ?_)); refine ⟨_, rfl, ?_⟩) | ((refine okF_i (bldP_eq rfl) ?_); try simp only [BLS, List.take_succ_cons, List.take_zero, List.drop_succ_cons, List.drop_zero, List.cons_append, List.nil_append, Nat.reduceAdd])) | simp -implicitDefEqProofs only [EN, lsub, lget, stL, beq_self_eq_true, ne_eq, if_true, if_false, List.cons_append, List.nil_append, Option.isNone_some, Option.isNone_none, e1]))
    exact hk none 0 _ (St.ent (by first | assumption | exact St.tick (by assumption) | exact St.tick (St.tick (by assumption))) (arr_nil _ _))
end
end Go.Proofs.Ythladblmjoaeoaa
namespace Go.Proofs.Ythladblmjoaeoaa
set_option linter.unusedVariables false
set_option linter.unusedSimpArgs false
open Go Go.Eng

section
variable {W0 W : World} {L L' : List Asn}
theorem ent.p4 (a b c d : Asn) (L : List Asn) : ent (a :: b :: c :: d :: L) (d :: b :: a :: c :: L) :=
  (ent.swap a b _).trans ((ent.cons b ((ent.cons a (ent.swap c d L)).trans (ent.swap a d _))).trans (ent.swap b d _))
theorem diskAppend {p : Nat} {d : DS} {f : Int} {a : Option Addr} {c : Nat} {bs : List UInt8} {k : Value → World → Prop} (h : St W0 L W) [ht : Tk (dk p) L d L'] [hr : Rd W0 L' a B8 bs] (hd : d.ok) (hb : bs.length < 16777216) (hw : d.ws.length < 1000000)
    (hk : ∀ W', St W0 (dk p (d.append f bs).1 :: L') W' → k (.int .i64 (d.append f bs).2) W') : callK PR F_disk_Disk_Append [.pointer (some ⟨p, 0, none⟩), .int .i64 f, .slice a bs.length c] k W := by
  apply S.disk_Disk_Append.call
  unfold S.disk_Disk_Append.body
  refine diskAsk h fun W1 h => ?_
  unfold DS.append at hk
  obtain ⟨hd1, hd2, hd3⟩ := hd
  by_cases ha : d.ask f = 0
  · rw [ha] at hk ⊢
    simp only [ne_eq, not_true, if_false] at hk
    have hln := lens_nonneg d.fs
    have hcl := lens_cont d.fs f
    have ew : IntKind.i64.wrap (d.room - lens d.fs) = d.room - lens d.fs := by rw [i64w]; omega
    obtain ⟨r, wa, wc, fs, hf, h1⟩ := dk_at h
    (repeat (first | (first | (with_reducible (first | refine w1 fun _ _ => ?_ | refine w3 fun _ _ _ => ?_ | refine w4 fun _ _ _ => ?_ | refine w11 fun _ _ _ => ?_ | refine stb_n ?_)) | ((with_reducible refine w2 ?_); try simp -implicitDefEqProofs only [EN, lsub, lget, stL, beq_self_eq_true, ne_eq, if_true, if_false, List.cons_append, List.nil_append, Option.isNone_some, Option.isNone_none]; intro _ _) | ((with_reducible (first | refine w5 ?_ ?_ | refine w6 ?_ ?_ | refine w7 ?_ ?_)); simp; refine ⟨_, rfl, ?_⟩) | ((with_reducible (first | refine w8 ?_ ?_ ?_ | refine w9 ?_ ?_ ?_ | refine w10 ?_ ?_ ?_)); exact rfl; simp) | ((with_reducible refine w12 ?_ ?_ ?_ fun _ _ => ?_); simp; simp; simp [oneC]) | ((with_reducible (first | refine eqs ?_ | refine nes ?_)); refine ⟨_, rfl, ?_⟩) | ((refine okF_i (bldP_eq rfl) ?_); try simp only [BLS, List.take_succ_cons, List.take_zero, List.drop_succ_cons, List.drop_zero, List.cons_append, List.nil_append, Nat.reduceAdd])) | simp -implicitDefEqProofs only [EN, lsub, lget, stL, beq_self_eq_true, ne_eq, if_true, if_false, List.cons_append, List.nil_append, Option.isNone_some, Option.isNone_none]))
    clear h1
    refine diskSize (d := d) (St.tick h) (by omega) fun W2 h => ?_
    obtain ⟨r, wa, wc, fs, hf, h1⟩ := dk_at h
    clear h
    by_cases hfull : d.room - lens d.fs < (bs.length : Int)
    · rw [if_pos hfull] at hk
      (repeat (first | (first | (with_reducible (first | refine w1 fun _ _ => ?_ | refine w3 fun _ _ _ => ?_ | refine w4 fun _ _ _ => ?_ | refine w11 fun _ _ _ => ?_ | refine stb_n ?_)) | ((with_reducible refine w2 ?_); try simp -implicitDefEqProofs only [EN, lsub, lget, stL, beq_self_eq_true, ne_eq, if_true, if_false, List.cons_append, List.nil_append, Option.isNone_some, Option.isNone_none, ew, hfull]; intro _ _) | ((with_reducible (first | refine w5 ?_ ?_ | refine w6 ?_ ?_ | refine w7 ?_ ?_)); simp; refine ⟨_, rfl, ?_⟩) | ((with_reducible (first | refine w8 ?_ ?_ ?_ | refine w9 ?_ ?_ ?_ | refine w10 ?_ ?_ ?_)); exact rfl; simp) | ((with_reducible refine w12 ?_ ?_ ?_ fun _ _ => ?_); simp; simp; simp [oneC]) | ((with_reducible (first | refine eqs ?_ | refine nes ?_)); refine ⟨_, rfl, ?_⟩) | ((refine okF_i (bldP_eq rfl) ?_); try simp only [BLS, List.take_succ_cons, List.take_zero, List.drop_succ_cons, List.drop_zero, List.cons_append, List.nil_append, Nat.reduceAdd])) | simp -implicitDefEqProofs only [EN, lsub, lget, stL, beq_self_eq_true, ne_eq, if_true, if_false, List.cons_append, List.nil_append, Option.isNone_some, Option.isNone_none, ew, hfull]))
      exact hk _ (St.ent (by first | assumption | exact St.tick (by assumption) | exact St.tick (St.tick (by assumption))) (dk_ent (d := d) hf))
    rw [if_neg hfull] at hk
    (repeat (first | (first | (with_reducible (first | refine w1 fun _ _ => ?_ | refine w3 fun _ _ _ => ?_ | refine w4 fun _ _ _ => ?_ | refine w11 fun _ _ _ => ?_ | refine stb_n ?_)) | ((with_reducible refine w2 ?_); try simp -implicitDefEqProofs only [EN, lsub, lget, stL, beq_self_eq_true, ne_eq, if_true, if_false, List.cons_append, List.nil_append, Option.isNone_some, Option.isNone_none, ew, hfull]; intro _ _) | ((with_reducible (first | refine w5 ?_ ?_ | refine w6 ?_ ?_ | refine w7 ?_ ?_)); simp; refine ⟨_, rfl, ?_⟩) | ((with_reducible (first | refine w8 ?_ ?_ ?_ | refine w9 ?_ ?_ ?_ | refine w10 ?_ ?_ ?_)); exact rfl; simp) | ((with_reducible refine w12 ?_ ?_ ?_ fun _ _ => ?_); simp; simp; simp [oneC]) | ((with_reducible (first | refine eqs ?_ | refine nes ?_)); refine ⟨_, rfl, ?_⟩) | ((refine okF_i (bldP_eq rfl) ?_); try simp only [BLS, List.take_succ_cons, List.take_zero, List.drop_succ_cons, List.drop_zero, List.cons_append, List.nil_append, Nat.reduceAdd])) | simp -implicitDefEqProofs only [EN, lsub, lget, stL, beq_self_eq_true, ne_eq, if_true, if_false, List.cons_append, List.nil_append, Option.isNone_some, Option.isNone_none, ew, hfull]))
    refine lkp (K := KI) (z := .slice none 0 0) f (by first | assumption | exact St.tick (by assumption) | exact St.tick (St.tick (by assumption))) ?_
    rw [mget_mvs]
    (repeat (first | (first | (with_reducible (first | refine w1 fun _ _ => ?_ | refine w3 fun _ _ _ => ?_ | refine w4 fun _ _ _ => ?_ | refine w11 fun _ _ _ => ?_ | refine stb_n ?_)) | ((with_reducible refine w2 ?_); try simp -implicitDefEqProofs only [EN, lsub, lget, stL, beq_self_eq_true, ne_eq, if_true, if_false, List.cons_append, List.nil_append, Option.isNone_some, Option.isNone_none]; intro _ _) | ((with_reducible (first | refine w5 ?_ ?_ | refine w6 ?_ ?_ | refine w7 ?_ ?_)); simp; refine ⟨_, rfl, ?_⟩) | ((with_reducible (first | refine w8 ?_ ?_ ?_ | refine w9 ?_ ?_ ?_ | refine w10 ?_ ?_ ?_)); exact rfl; simp) | ((with_reducible refine w12 ?_ ?_ ?_ fun _ _ => ?_); simp; simp; simp [oneC]) | ((with_reducible (first | refine eqs ?_ | refine nes ?_)); refine ⟨_, rfl, ?_⟩) | ((refine okF_i (bldP_eq rfl) ?_); try simp only [BLS, List.take_succ_cons, List.take_zero, List.drop_succ_cons, List.drop_zero, List.cons_append, List.nil_append, Nat.reduceAdd])) | simp -implicitDefEqProofs only [EN, lsub, lget, stL, beq_self_eq_true, ne_eq, if_true, if_false, List.cons_append, List.nil_append, Option.isNone_some, Option.isNone_none]))
    refine lkp (K := KI) (z := .slice none 0 0) f (by first | assumption | exact St.tick (by assumption) | exact St.tick (St.tick (by assumption))) ?_
    rw [mget_mvs]
    have h' := St.ent (by first | assumption | exact St.tick (by assumption) | exact St.tick (St.tick (by assumption))) (ent.cons _ (ent.cons _ (ent.cons _ (many_take (F := fch) f ⟨none, 0, []⟩ fch0))))
    rw [← hf, cont_cts] at hk hcl
    generalize hy : (mget fs f).getD ⟨none, 0, []⟩ = y at *
    have h'' : St W0 (_ :: _ :: _ :: arr B8 T_uint8 y.a y.c y.bs :: _) _ := h'
    clear h'
    clear h1
    have hyl : (y.bs.length : Int) ≤ 1048576 := by rw [hf] at hcl; omega
    clear ew
    have e2 : IntKind.i64.wrap ((y.bs.length : Int) + (bs.length : Int)) = (y.bs.length : Int) + (bs.length : Int) := by rw [i64w]; omega
    (repeat (first | (first | (with_reducible (first | refine w1 fun _ _ => ?_ | refine w3 fun _ _ _ => ?_ | refine w4 fun _ _ _ => ?_ | refine w11 fun _ _ _ => ?_ | refine stb_n ?_)) | ((with_reducible refine w2 ?_); try simp -implicitDefEqProofs only [EN, lsub, lget, stL, beq_self_eq_true, ne_eq, if_true, if_false, List.cons_append, List.nil_append, Option.isNone_some, Option.isNone_none, e2]; intro _ _) | ((with_reducible (first | refine w5 ?_ ?_ | refine w6 ?_ ?_ | refine w7 ?_ ?_)); simp; refine ⟨_, rfl, ?_⟩) | ((with_reducible (first | refine w8 ?_ ?_ ?_ | refine w9 ?_ ?_ ?_ | refine w10 ?_ ?_ ?_)); exact rfl; simp) | ((with_reducible refine w12 ?_ ?_ ?_ fun _ _ => ?_); simp; simp; simp [oneC]) | ((with_reducible (first | refine eqs ?_ | refine nes ?_)); refine ⟨_, rfl, ?_⟩) | ((refine okF_i (bldP_eq rfl) ?_); try simp only [BLS, List.take_succ_cons, List.take_zero, List.drop_succ_cons, List.drop_zero, List.cons_append, List.nil_append, Nat.reduceAdd])) | simp -implicitDefEqProofs only [EN, lsub, lget, stL, beq_self_eq_true, ne_eq, if_true, if_false, List.cons_append, List.nil_append, Option.isNone_some, Option.isNone_none, e2]))
    refine appA (a := y.a) (l := y.bs) (m := bs) (St.tick h'') rfl (by omega) (by simp only [maxLen]; omega) fun a1 c1 W3 h => ?_
    clear h''
    (repeat (first | (first | (with_reducible (first | refine w1 fun _ _ => ?_ | refine w3 fun _ _ _ => ?_ | refine w4 fun _ _ _ => ?_ | refine w11 fun _ _ _ => ?_ | refine stb_n ?_)) | ((with_reducible refine w2 ?_); try simp -implicitDefEqProofs only [EN, lsub, lget, stL, beq_self_eq_true, ne_eq, if_true, if_false, List.cons_append, List.nil_append, Option.isNone_some, Option.isNone_none]; intro _ _) | ((with_reducible (first | refine w5 ?_ ?_ | refine w6 ?_ ?_ | refine w7 ?_ ?_)); simp; refine ⟨_, rfl, ?_⟩) | ((with_reducible (first | refine w8 ?_ ?_ ?_ | refine w9 ?_ ?_ ?_ | refine w10 ?_ ?_ ?_)); exact rfl; simp) | ((with_reducible refine w12 ?_ ?_ ?_ fun _ _ => ?_); simp; simp; simp [oneC]) | ((with_reducible (first | refine eqs ?_ | refine nes ?_)); refine ⟨_, rfl, ?_⟩) | ((refine okF_i (bldP_eq rfl) ?_); try simp only [BLS, List.take_succ_cons, List.take_zero, List.drop_succ_cons, List.drop_zero, List.cons_append, List.nil_append, Nat.reduceAdd])) | simp -implicitDefEqProofs only [EN, lsub, lget, stL, beq_self_eq_true, ne_eq, if_true, if_false, List.cons_append, List.nil_append, Option.isNone_some, Option.isNone_none]))
    refine mset (K := KI) f (by first | assumption | exact St.tick (by assumption) | exact St.tick (St.tick (by assumption))) fun W4 h => ?_
    (repeat (first | (first | (with_reducible (first | refine w1 fun _ _ => ?_ | refine w3 fun _ _ _ => ?_ | refine w4 fun _ _ _ => ?_ | refine w11 fun _ _ _ => ?_ | refine stb_n ?_)) | ((with_reducible refine w2 ?_); try simp -implicitDefEqProofs only [EN, lsub, lget, stL, beq_self_eq_true, ne_eq, if_true, if_false, List.cons_append, List.nil_append, Option.isNone_some, Option.isNone_none]; intro _ _) | ((with_reducible (first | refine w5 ?_ ?_ | refine w6 ?_ ?_ | refine w7 ?_ ?_)); simp; refine ⟨_, rfl, ?_⟩) | ((with_reducible (first | refine w8 ?_ ?_ ?_ | refine w9 ?_ ?_ ?_ | refine w10 ?_ ?_ ?_)); exact rfl; simp) | ((with_reducible refine w12 ?_ ?_ ?_ fun _ _ => ?_); simp; simp; simp [oneC]) | ((with_reducible (first | refine eqs ?_ | refine nes ?_)); refine ⟨_, rfl, ?_⟩) | ((refine okF_i (bldP_eq rfl) ?_); try simp only [BLS, List.take_succ_cons, List.take_zero, List.drop_succ_cons, List.drop_zero, List.cons_append, List.nil_append, Nat.reduceAdd])) | simp -implicitDefEqProofs only [EN, lsub, lget, stL, beq_self_eq_true, ne_eq, if_true, if_false, List.cons_append, List.nil_append, Option.isNone_some, Option.isNone_none]))
    refine pushA (A := WRT) ((f, (y.bs.length : Int), (y.bs.length : Int) + (bs.length : Int)) : Wr) (l := d.ws) (by first | assumption | exact St.tick (by assumption) | exact St.tick (St.tick (by assumption))) rfl rfl (by omega) (by simp only [maxLen]; omega) (by decide) fun a2 c2 W5 h => ?_
    (repeat (first | (first | (with_reducible (first | refine w1 fun _ _ => ?_ | refine w3 fun _ _ _ => ?_ | refine w4 fun _ _ _ => ?_ | refine w11 fun _ _ _ => ?_ | refine stb_n ?_)) | ((with_reducible refine w2 ?_); try simp -implicitDefEqProofs only [EN, lsub, lget, stL, beq_self_eq_true, ne_eq, if_true, if_false, List.cons_append, List.nil_append, Option.isNone_some, Option.isNone_none]; intro _ _) | ((with_reducible (first | refine w5 ?_ ?_ | refine w6 ?_ ?_ | refine w7 ?_ ?_)); simp; refine ⟨_, rfl, ?_⟩) | ((with_reducible (first | refine w8 ?_ ?_ ?_ | refine w9 ?_ ?_ ?_ | refine w10 ?_ ?_ ?_)); exact rfl; simp) | ((with_reducible refine w12 ?_ ?_ ?_ fun _ _ => ?_); simp; simp; simp [oneC]) | ((with_reducible (first | refine eqs ?_ | refine nes ?_)); refine ⟨_, rfl, ?_⟩) | ((refine okF_i (bldP_eq rfl) ?_); try simp only [BLS, List.take_succ_cons, List.take_zero, List.drop_succ_cons, List.drop_zero, List.cons_append, List.nil_append, Nat.reduceAdd])) | simp -implicitDefEqProofs only [EN, lsub, lget, stL, beq_self_eq_true, ne_eq, if_true, if_false, List.cons_append, List.nil_append, Option.isNone_some, Option.isNone_none]))
    rename_i h
    have h' : St W0 (arr WRT T_disk_write a2 c2 (d.ws ++ [(f, (y.bs.length : Int), (y.bs.length : Int) + (bs.length : Int))]) :: mp KI r (mput (mvs fs) f (BSl.v ⟨a1, c1, y.bs ++ bs⟩)) :: fch ⟨a1, c1, y.bs ++ bs⟩ ::
      cells p [.int .i64 d.room, .map (some r), .slice a2 (d.ws ++ [(f, (y.bs.length : Int), (y.bs.length : Int) + (bs.length : Int))]).length c2, .bool d.on, .int .i64 d.lives] T_disk_Disk :: many fch ((mdel fs f).map (·.2)) :: L') _ := h
    rw [show mput (mvs fs) f (BSl.v ⟨a1, c1, y.bs ++ bs⟩) = mvs (mput fs f ⟨a1, c1, y.bs ++ bs⟩) from mput_map BSl.v fs f _] at h'
    refine hk _ ((h'.ent (ent.p4 _ _ _ _ _)).ent ((ent.cons _ (ent.cons _ (ent.cons _ (many_put f _)))).trans (dk_ent (d := ⟨d.room, mput (cts fs) f (y.bs ++ bs), d.ws ++ [(f, (y.bs.length : Int), (y.bs.length : Int) + (bs.length : Int))], d.on, d.lives⟩) ?_)))
    exact (mput_map BSl.bs fs f ⟨a1, c1, y.bs ++ bs⟩).symm
  · have e1 : decide (d.ask f = 0) = false := decide_eq_false ha
    rw [if_pos ha] at hk
    (repeat (first | (first | (with_reducible (first | refine w1 fun _ _ => ?_ | refine w3 fun _ _ _ => ?_ | refine w4 fun _ _ _ => ?_ | refine w11 fun _ _ _ => ?_ | refine stb_n ?_)) | ((with_reducible refine w2 ?_); try simp -implicitDefEqProofs only [EN, lsub, lget, stL, beq_self_eq_true, ne_eq, if_true, if_false, List.cons_append, List.nil_append, Option.isNone_some, Option.isNone_none, e1]; intro _ _) | ((with_reducible (first | refine w5 ?_ ?_ | refine w6 ?_ ?_ | refine w7 ?_ ?_)); simp; refine ⟨_, rfl, ?_⟩) | ((with_reducible (first | refine w8 ?_ ?_ ?_ | refine w9 ?_ ?_ ?_ | refine w10 ?_ ?_ ?_)); exact rfl; simp) | ((with_reducible refine w12 ?_ ?_ ?_ fun _ _ => ?_); simp; simp; simp [oneC]) | ((with_reducible (first | refine eqs ?_ | refine nes ?_)); refine ⟨_, rfl, ?_⟩) | ((refine okF_i (bldP_eq rfl) ?_); try simp only [BLS, List.take_succ_cons, List.take_zero, List.drop_succ_cons, List.drop_zero, List.cons_append, List.nil_append, Nat.reduceAdd])) | simp -implicitDefEqProofs only [EN, lsub, lget, stL, beq_self_eq_true, ne_eq, if_true, if_false, List.cons_append, List.nil_append, Option.isNone_some, Option.isNone_none, e1]))
    exact hk _ (by first | assumption | exact St.tick (by assumption) | exact St.tick (St.tick (by assumption)))
end
end Go.Proofs.Ythladblmjoaeoaa
namespace Go.Eng
set_option linter.unusedVariables false
set_option linter.unusedSimpArgs false
open Go Go.RowKit
section
variable {P : Program} {W0 W : World} {L : List Asn} {e : TypeId}
theorem bs_run {t : TypeId} {sz by' : Nat} {z : Value} [ht : TyS P t e sz by' z] {n : Nat} {ps : List (Nat × Value)} {cs : List Value} (hn : n * sz ≤ 16777216) (hn0 : n * sz ≠ 0)
    (hc : fillL (fun i => some (i * sz, sz)) ((List.range (n * sz)).map fun i => ((vcells z)[i % (vcells z).length]?).getD undef) ps = some cs) :
    (Instr.buildSlice t n ps.toArray).run P W = .ok (.slice (some ⟨W.heap.size, 0, none⟩) n n) (W.alloc (.cells cs.toArray e)) := by
  obtain ⟨⟨i, h1, h2, h3, h4, h5⟩, hzz⟩ := ht.ok
  subst h3
  rw [← vcells_eq] at hc
  have hz : z.cells.size = i.size → ((List.range (n * i.size)).map fun j => (z.cells.toList[j % z.cells.toList.length]?).getD undef).toArray = (Array.range (n * i.size)).map (z.cells[· % z.cells.size]!) := by
    intro hzs
    apply Array.ext_getElem?
    intro j
    simp only [List.getElem?_toArray, List.getElem?_map, Array.getElem?_map, Array.length_toList]
    by_cases hj : j < n * i.size
    · have hpos : 0 < z.cells.size := by rw [hzs]; exact Nat.pos_of_ne_zero fun h => by rw [h] at hj; simp at hj
      have hm : j % z.cells.size < z.cells.size := Nat.mod_lt _ hpos
      simp [hj, hm]
    · simp [hj]
  have hf := fillL_run _ _ _ _ hc
  rw [hz hzz] at hf
  simp only [Instr.buildSlice, Sem.run_bind, run_underlying h1, Result.andThen_ok, run_sizeOf' h2]
  rw [if_neg (by omega), if_neg hn0]
  simp only [pure_bind, Sem.run_bind, run_zeroValue' h2 h5, Result.andThen_ok, Sem.run_pure, hf]
  rfl
/-- the bytes of a literal -/
theorem bytesLit (l : List UInt8) {t : TypeId} {by' n : Nat} {z : Value} [ht : TyS P t e 1 by' z] [hb : BytesT P t e] {ps : List (Nat × Value)} {k : Value → World → Prop} (h : St W0 L W) (hln : l.length = n) (hn : n ≤ 16777216) (hn0 : n ≠ 0)
    (hc : fillL (fun i => some (i * 1, 1)) ((List.range (n * 1)).map fun i => ((vcells z)[i % (vcells z).length]?).getD undef) ps = some (B8.rows l))
    (hk : ∀ a c W', St W0 (arr B8 e a c l :: L) W' → k (.slice a l.length c) W') : efK P (Instr.buildSlice t n ps.toArray) (fun u W => efK P (convert t t u) k W) W := by
  subst hln
  refine ⟨_, _, bs_run (P := P) (t := t) (e := e) (by omega) (by omega) hc, _, _, Go.Lib.run_convert_bytes_const W t e _ _ _ hb.ok.1 hb.ok.2, ?_⟩
  refine hk _ _ _ (((h.alloc _).weak (a' := cells W.heap.size (B8.rows l) e) fun p hp => ⟨((B8.rows l).toArray.size, (B8.rows l).toArray.size + 1), ?_, by simpa using hp⟩).ent (arr_full (A := B8) (by unfold maxLen; omega)))
  intro i hi
  simp; omega
end
end Go.Eng
namespace Go.Eng
set_option linter.unusedVariables false
set_option linter.unusedSimpArgs false
open Go Go.RowKit
section
variable {α : Type} {A : Ly α} {P : Program} {W0 W W' : World} {L L' : List Asn} {e : TypeId} {a : Option Addr} {c : Nat} {l : List α}
theorem arr_pre (i : Nat) : ∀ p, arr A e a c l p → arr A e a c (l.take i) p := by
  rintro p ⟨h5, h6, h7⟩
  refine ⟨by simp; omega, h6, ?_⟩
  rcases h7 with ⟨rfl, rfl, h7⟩ | ⟨g, o, cur, rfl, h8, h9, h10⟩
  · exact .inl ⟨rfl, rfl, h7⟩
  · refine .inr ⟨g, o, cur, rfl, h8, ?_, h10⟩
    rw [← Ly.rows_take, ← h9, List.take_take, List.length_take, Nat.min_def, Nat.min_def]
    by_cases h : i ≤ l.length
    · rw [if_pos h, if_pos (Nat.mul_le_mul_right _ h)]
    · rw [if_neg h]
      by_cases h' : i * A.sz ≤ l.length * A.sz
      · rw [if_pos h', Nat.le_antisymm h' (Nat.mul_le_mul_right _ (by omega))]
      · rw [if_neg h']
theorem clrA {t ty : TypeId} {sz by' i n : Nat} {z : Value} [ht : TyS P t e sz by' z] {a' : Option Addr} {c' : Nat} {k : Value → World → Prop} (h : St W0 L W) [ho : Own a L A e c l L'] (hs : A.sz = sz) (hz1 : (vcells z).all oneC = true) (hi : i ≤ l.length)
    (ha : a' = if c = i then a else a.map (·.add (i * sz))) (hn : n = l.length - i) (hk : ∀ W', St W0 (arr A e a c (l.take i) :: L') W' → k (.tuple #[]) W') : efK P (Builtin.clear_ #[t] ty #[.slice a' n c']) k W := by
  subst hs
  obtain ⟨⟨x, h1, h2, h3, h4, h5⟩, hzz⟩ := ht.ok
  have h := h.took (a := a)
  have hf := h.arrFacts
  by_cases hn0 : n = 0
  · subst hn0
    refine ⟨_, W, ?_, hk W (h.weak (arr_pre i))⟩
    simp only [Builtin.clear_, List.getElem?_toArray, List.getElem?_cons_zero, Sem.run_bind, run_underlying h1, Result.andThen_ok]
    cases a' <;> rfl
  · have ha0 : a ≠ none := fun e => by have := hf.2.2.1 e; omega
    obtain ⟨g, o, cur, rfl, h6, h7, h8⟩ := h.arrCells ha0
    rw [if_neg (by omega)] at ha
    simp only [Option.map_some, add_none] at ha
    subst ha
    have hle : l.length * A.sz ≤ c * A.sz := Nat.mul_le_mul_right _ hf.1
    have hil : i * A.sz + (l.length - i) * A.sz = l.length * A.sz := by rw [← Nat.add_mul]; congr 1; omega
    have hzl : (Builtin.zeroCells z.cells n).toList.length = n * A.sz := by rw [zeroCells_len, hzz]
    have hone : (Builtin.zeroCells z.cells n).toList.all oneC = true := by
      rw [List.all_eq_true]
      intro u hu
      simp only [Builtin.zeroCells, Array.toList_map, List.mem_map, Array.toList_range, List.mem_range] at hu
      obtain ⟨j, hj, rfl⟩ := hu
      have hpos := A.pos
      have hm : j % z.cells.size < z.cells.size := Nat.mod_lt _ (by rw [hzz]; exact hpos)
      rw [← vcells_eq] at hz1
      have := List.all_eq_true.1 hz1 z.cells[j % z.cells.size]! (by simp [hm])
      exact this
    obtain ⟨W1, hr, hs'⟩ := storeCells_over (P := P) (off := o + i * A.sz) h8 hone (by rw [hzl, hn]; omega)
    refine ⟨_, W1, ?_, hk W1 (hs'.ent (arr_of_cells (by simp; omega) hf.2.1 (by rw [List.length_append, List.length_append, hzl]; simp; rw [hn]; omega) ?_))⟩
    · simp only [Builtin.clear_, List.getElem?_toArray, List.getElem?_cons_zero, Sem.run_bind, run_underlying h1, Result.andThen_ok]
      have hz' := run_zeroValue' (P := P) (w := W) h2 h5
      obtain ⟨m, rfl⟩ : ∃ m, n = m + 1 := ⟨n - 1, by omega⟩
      simp only [hz', Result.andThen_ok, hr, Sem.run_bind]
      rfl
    · rw [List.append_assoc, List.drop_append_of_le_length (by simp; omega), List.drop_take, Nat.add_sub_cancel_left, List.length_take, Nat.min_eq_left hi,
        List.take_append_of_le_length (by simp; omega), List.take_take, Nat.min_self, ← Ly.rows_take, ← h7, List.take_take, Nat.min_eq_left (by omega)]
theorem slcStr_eq {s : ByteArray} {lo hi : Option Value} {l h : Nat} (h1 : bnd hi s.size s.size = some h) (h2 : bnd lo 0 h = some l) : slcStr (.string s) lo hi = some (.string (s.extract l h)) := by
  have e1 : slcB s.size s.size lo hi none = some (l, h, s.size) := by
    cases hi with
    | none => rw [bnd_none] at h1; cases h1; simp only [slcB, bnd_none, h2]
    | some v => simp only [slcB, bnd_none, h1, h2]
  simp only [slcStr, e1]
theorem ba_ext (l : List UInt8) (i j : Nat) : (⟨l.toArray⟩ : ByteArray).extract i j = ⟨((l.take j).drop i).toArray⟩ := by
  apply ByteArray.ext
  simp [ByteArray.data_extract, List.extract_toArray, List.extract_eq_take_drop, List.drop_take]
theorem min2i {k : IntKind} {a b : Int} : foldP min2P [.int k a, .int k b] = some (.int k (if b < a then b else a)) := rfl
theorem max2i {k : IntKind} {a b : Int} : foldP max2P [.int k a, .int k b] = some (.int k (if a < b then b else a)) := rfl
/-- an element, as a value -/
def Ly.val (A : Ly α) (agg : Bool) (x : α) : Value := if agg then .agg (A.row x).toArray else (A.row x).headD undef
theorem Ly.val_agg (x : α) : A.val true x = .agg (A.row x).toArray := rfl
/-- a function value that tests an element; what it needs is C -/
def PredF (P : Program) (A : Ly α) (agg : Bool) (C : Asn) (fv : Value) (p : α → Bool) : Prop :=
  ∀ (W0 : World) (L : List Asn) (x : α) (W : World) (k : Value → World → Prop), St W0 (C :: L) W → (∀ W', St W0 (C :: L) W' → k (.bool (p x)) W') → vcK P fv [A.val agg x] k W
theorem lsub_self : ∀ (l : List Value), lsub l 0 l.length = l
  | [] => rfl
  | v :: l => by simp [lsub, lsub_self l]
theorem getL_val {agg : Bool} {sz : Nat} (hs : A.sz = sz) (h1 : agg = false → sz = 1) (x : α) : getL agg (A.row x) 0 sz = some (A.val agg x) := by
  subst hs
  cases agg with
  | true => rw [Ly.val_agg, getL, ← A.len x, lsub_self]
  | false =>
    have hl := A.len x
    rw [h1 rfl] at hl
    match h : A.row x, hl with
    | [v], _ => simp [getL, lget, Ly.val, h]
theorem val_cells {agg : Bool} {sz : Nat} (hs : A.sz = sz) (h1 : agg = false → sz = 1) (x : α) : vcells (A.val agg x) = A.row x := by
  subst hs
  cases agg with
  | true => rw [Ly.val_agg, vcells_agg]
  | false =>
    have hl := A.len x
    have ho := A.one x
    rw [h1 rfl] at hl
    match h : A.row x, hl, ho with
    | [v], _, ho =>
      have h2 : A.val false x = v := by simp [Ly.val, h]
      rw [h2]
      cases v <;> first | rfl | (simp [oneC] at ho)
/-- a new variable that is laid at once -/
theorem newV (x : α) {t : TypeId} {agg : Bool} {sz : Nat} {z : Value} [ht : TyI P t agg sz] [hz : TyZ P t z] {k : Value → World → Prop} (h : St W0 L W) (hs : A.sz = sz) (h1 : agg = false → sz = 1) (hzl : (vcells z).length = sz)
    (hk : ∀ b W', St W0 (cells b (A.row x) t :: L) W' → k (.pointer (some ⟨b, 0, none⟩)) W') :
    efK P (Instr.alloc t true (.tuple #[])) (fun v W => efK P (Instr.storeAt t v (A.val agg x)) (fun _ W => k v W) W) W := by
  refine al h fun b W1 h => ?_
  have e : stL (vcells z) 0 (vcells (A.val agg x)) = A.row x := by
    rw [val_cells hs h1, stL_eq _ _ _ (by rw [A.len]; omega), A.len, Nat.zero_add, List.drop_eq_nil_of_le (by omega)]
    simp
  refine sto (off := 0) h (by rw [val_cells hs h1, A.len, hs]) (by omega) (by rw [val_cells hs h1]; exact A.one _) fun W2 h => ?_
  rw [e] at h
  exact hk b W2 h
theorem ldV (x : α) {t : TypeId} {agg : Bool} {sz b : Nat} {T : TypeId} [ht : TyI P t agg sz] {k : Value → World → Prop} (h : St W0 L W) [hc : Ck b L (A.row x) T L'] (hs : A.sz = sz) (h1 : agg = false → sz = 1) (hk : k (A.val agg x) W) :
    rdK P (Instr.loadAt t (.pointer (some ⟨b, 0, none⟩))) k W := ld h (getL_val hs h1 x) (fun _ => by rw [A.len]; omega) hk
theorem slc_pre {sz n i : Nat} {k : IntKind} {K : Value → Prop} (h : St W0 (arr A e a c l :: L) W) (hi : i ≤ c) (hk : K (.slice a i c)) : okF (slcS sz (.slice a n c) none (some (.int k (i : Int))) none) K := by
  refine okF_i (slcS_eq (bnd_nat hi) bnd_none) ?_
  have hf := h.arrFacts
  by_cases hc : c = 0
  · rw [if_pos hc]; simpa using hk
  · obtain ⟨g, o, rfl⟩ := hf.2.2.2 (by omega)
    rw [if_neg hc]
    simpa [add_none] using hk
end
end Go.Eng
