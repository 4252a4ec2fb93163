import Derived.Test.YthladblmjoaeoaaBase
namespace Go.Proofs.Ythladblmjoaeoaa
set_option linter.unusedVariables false
set_option linter.unusedSimpArgs false
open Go.Eng
/-! ### rostrum/disk.New (15) -/
def S.disk_New.body (R : Value → World → Prop) (v0 : Value) (W : World) : Prop :=
  okF (binP .lss v0 (.int .i64 64)) fun v5 =>
  gdK (wantd v5 false) (fun k W => k v0 W) (fun v7 W =>
  gdK (wantd v5 false) (fun k W => okF (binP .gtr v7 (.int .i64 1048576)) fun v => k v W) (fun v8 W =>
  okF (pickP v5 (.bool true) v8) fun v9 =>
  ifK v9 (
  R (.tuple #[(.pointer none), (.int .i64 1)]) W) (
  efK PR (Instr.makeMap T_m_int_s_uint8 none) (fun v11 W =>
  okF (bldP (fun i => ([(0, 1), (1, 1), (2, 1), (3, 1), (4, 1)] : List (Nat × Nat))[i]?) [.int .i64 0, .map none, .slice none 0 0, .bool false, .int .i64 0] [(0, v0), (1, v11), (3, (.bool true)), (4, (.int .i64 1))]) fun v12 =>
  efK PR (Instr.box T_disk_Disk v12) (fun v13 W =>
  R (.tuple #[v13, (.int .i64 0)]) W) W) W)) W) W
def S.disk_New.hint : Hint := (.two .nil (.two (.two .nil (.two (.two .nil .nil) .nil)) (.two .nil .nil)))
theorem S.disk_New.ok (R : Value → World → Prop) (v0 : Value) (W : World) : bodyK PR CB Try.f15 S.disk_New.hint [v0] R W = S.disk_New.body R v0 W := by kernel_rfl
theorem S.disk_New.fn : PR.funcs[F_disk_New]? = some Try.f15 := by kernel_rfl
theorem S.disk_New.call {R : Value → World → Prop} {v0 : Value} {W : World} (h : S.disk_New.body R v0 W) : callK PR F_disk_New [v0] R W :=
  callK_of_body (g := F_disk_New) (fn := Try.f15) (args := [v0]) (R := R) (w := W) mixed CBok S.disk_New.fn S.disk_New.hint (by rw [S.disk_New.ok]; exact h)
/-! ### (*rostrum/disk.Disk).ask (45) -/
def S.disk_Disk_ask.body (R : Value → World → Prop) (v0 v1 : Value) (W : World) : Prop :=
  okF (nilP v0) fun v7 =>
  okF (addrF 3 v7) fun v8 =>
  rdK PR (Instr.loadAt T_bool v8) (fun v9 W =>
  okF (unP .not v9) fun v10 =>
  ifK v10 (
  R (.int .i64 7) W) (
  okF (binP .lss v1 (.int .i64 0)) fun v13 =>
  gdK (wantd v13 false) (fun k W => k v1 W) (fun v15 W =>
  gdK (wantd v13 false) (fun k W => okF (binP .geq v15 (.int .i64 1000)) fun v => k v W) (fun v16 W =>
  okF (pickP v13 (.bool true) v16) fun v17 =>
  ifK v17 (
  R (.int .i64 1) W) (
  R (.int .i64 0) W)) W) W)) W
def S.disk_Disk_ask.hint : Hint := (.two .nil (.two (.two .nil (.two (.two .nil .nil) (.two .nil (.two (.two .nil .nil) .nil)))) (.two .nil .nil)))
theorem S.disk_Disk_ask.ok (R : Value → World → Prop) (v0 v1 : Value) (W : World) : bodyK PR CB Try.f45 S.disk_Disk_ask.hint [v0, v1] R W = S.disk_Disk_ask.body R v0 v1 W := by kernel_rfl
theorem S.disk_Disk_ask.fn : PR.funcs[F_disk_Disk_ask]? = some Try.f45 := by kernel_rfl
theorem S.disk_Disk_ask.call {R : Value → World → Prop} {v0 v1 : Value} {W : World} (h : S.disk_Disk_ask.body R v0 v1 W) : callK PR F_disk_Disk_ask [v0, v1] R W :=
  callK_of_body (g := F_disk_Disk_ask) (fn := Try.f45) (args := [v0, v1]) (R := R) (w := W) mixed CBok S.disk_Disk_ask.fn S.disk_Disk_ask.hint (by rw [S.disk_Disk_ask.ok]; exact h)
/-! ### (*rostrum/disk.Disk).find (47) -/
def S.disk_Disk_find.body (R : Value → World → Prop) (v0 v1 : Value) (W : World) : Prop :=
  callK PR F_disk_Disk_ask [v0, v1] (fun v10 W =>
  okF (binP .neq v10 (.int .i64 0)) fun v12 =>
  ifK v12 (
  R v10 W) (
  okF (nilP v0) fun v16 =>
  okF (addrF 1 v16) fun v17 =>
  rdK PR (Instr.loadAt T_m_int_s_uint8 v17) (fun v18 W =>
  rdK PR (Instr.lookup T_m_int_s_uint8 v18 v1 true) (fun v20 W =>
  okF (extP 0 v20) fun v21 =>
  okF (extP 1 v20) fun v22 =>
  okF (unP .not v22) fun v24 =>
  ifK v24 (
  R (.int .i64 4) W) (
  R (.int .i64 0) W)) W) W)) W
def S.disk_Disk_find.hint : Hint := (.two .nil (.two (.two .nil (.two .nil (.two (.two .nil .nil) .nil))) (.two (.two .nil (.two .nil (.two (.two .nil .nil) .nil))) (.two .nil .nil))))
theorem S.disk_Disk_find.ok (R : Value → World → Prop) (v0 v1 : Value) (W : World) : bodyK PR CB Try.f47 S.disk_Disk_find.hint [v0, v1] R W = S.disk_Disk_find.body R v0 v1 W := by kernel_rfl
theorem S.disk_Disk_find.fn : PR.funcs[F_disk_Disk_find]? = some Try.f47 := by kernel_rfl
theorem S.disk_Disk_find.call {R : Value → World → Prop} {v0 v1 : Value} {W : World} (h : S.disk_Disk_find.body R v0 v1 W) : callK PR F_disk_Disk_find [v0, v1] R W :=
  callK_of_body (g := F_disk_Disk_find) (fn := Try.f47) (args := [v0, v1]) (R := R) (w := W) mixed CBok S.disk_Disk_find.fn S.disk_Disk_find.hint (by rw [S.disk_Disk_find.ok]; exact h)
/-! ### (*rostrum/disk.Disk).size (46) -/
def S.disk_Disk_size.j1 (R : Value → World → Prop) (x3 : Value) (W : World) : Prop :=
  R x3 W
def S.disk_Disk_size.l1 (J1 : List Value → World → Prop) (K1 : List Value → World → Prop) (x3 x10 : Value) (W : World) : Prop :=
  efK PR (Instr.next x10 false T_t0) (fun v11 W =>
  okF (extP 0 v11) fun v12 =>
  ifK v12 (
  efK PR (Instr.entry x10) (fun v13 W =>
  okF (extP 1 v13) fun v14 =>
  okF (lenP (.slice T_uint8) v14) fun v17 =>
  okF (binP .add x3 v17) fun v18 =>
  K1 [v18, x10] W) W) (
  J1 [x3] W)) W
def S.disk_Disk_size.body (R : Value → World → Prop) (v0 : Value) (W : World) : Prop :=
  joinK (fun s W => S.disk_Disk_size.j1 R (nthv s 0) W) (fun J1 =>
  okF (nilP v0) fun v7 =>
  okF (addrF 1 v7) fun v8 =>
  rdK PR (Instr.loadAt T_m_int_s_uint8 v8) (fun v9 W =>
  efK PR (Instr.range T_m_int_s_uint8 v9) (fun v10 W =>
  loopK (fun K1 s W => S.disk_Disk_size.l1 J1 K1 (nthv s 0) (nthv s 1) W) [(.int .i64 0), v10] W) W) W)
def S.disk_Disk_size.hint : Hint := (.two .nil (.two .nil (.at [3] (.two .nil (.at [3, 10] (.two .nil (.two (.two .nil .nil) (.two .nil .nil))) .nil)) (.two .nil .nil))))
theorem S.disk_Disk_size.ok (R : Value → World → Prop) (v0 : Value) (W : World) : bodyK PR CB Try.f46 S.disk_Disk_size.hint [v0] R W = S.disk_Disk_size.body R v0 W := by kernel_rfl
theorem S.disk_Disk_size.fn : PR.funcs[F_disk_Disk_size]? = some Try.f46 := by kernel_rfl
theorem S.disk_Disk_size.call {R : Value → World → Prop} {v0 : Value} {W : World} (h : S.disk_Disk_size.body R v0 W) : callK PR F_disk_Disk_size [v0] R W :=
  callK_of_body (g := F_disk_Disk_size) (fn := Try.f46) (args := [v0]) (R := R) (w := W) mixed CBok S.disk_Disk_size.fn S.disk_Disk_size.hint (by rw [S.disk_Disk_size.ok]; exact h)
/-! ### (*rostrum/disk.Disk).Append (16) -/
def S.disk_Disk_Append.body (R : Value → World → Prop) (v0 v1 v2 : Value) (W : World) : Prop :=
  callK PR F_disk_Disk_ask [v0, v1] (fun v11 W =>
  okF (binP .neq v11 (.int .i64 0)) fun v13 =>
  ifK v13 (
  R v11 W) (
  okF (lenP (.slice T_uint8) v2) fun v16 =>
  okF (nilP v0) fun v18 =>
  okF (addrF 0 v18) fun v19 =>
  rdK PR (Instr.loadAt T_int v19) (fun v20 W =>
  callK PR F_disk_Disk_size [v0] (fun v22 W =>
  stb PR [(5, true, (Instr.loadAt T_int v19), v20)] (fun W =>
  okF (binP .sub v20 v22) fun v23 =>
  okF (binP .gtr v16 v23) fun v24 =>
  ifK v24 (
  R (.int .i64 6) W) (
  okF (nilP v0) fun v26 =>
  okF (addrF 1 v26) fun v27 =>
  rdK PR (Instr.loadAt T_m_int_s_uint8 v27) (fun v28 W =>
  rdK PR (Instr.lookup T_m_int_s_uint8 v28 v1 false) (fun v30 W =>
  okF (lenP (.slice T_uint8) v30) fun v31 =>
  okF (nilP v0) fun v33 =>
  okF (addrF 1 v33) fun v34 =>
  rdK PR (Instr.loadAt T_m_int_s_uint8 v34) (fun v35 W =>
  okF (nilP v0) fun v38 =>
  okF (addrF 1 v38) fun v39 =>
  rdK PR (Instr.loadAt T_m_int_s_uint8 v39) (fun v40 W =>
  rdK PR (Instr.lookup T_m_int_s_uint8 v40 v1 false) (fun v42 W =>
  efK PR (Builtin.append_ #[T_s_uint8, T_s_uint8] T_s_uint8 #[v42, v2]) (fun v44 W =>
  stb PR [(3, true, (Instr.loadAt T_m_int_s_uint8 v34), v35)] (fun W =>
  efK PR (Instr.mapUpdate T_m_int_s_uint8 v35 v1 v44) (fun _ W =>
  okF (nilP v0) fun v47 =>
  okF (addrF 2 v47) fun v48 =>
  rdK PR (Instr.loadAt T_s_disk_write v48) (fun v49 W =>
  okF (lenP (.slice T_uint8) v2) fun v54 =>
  okF (binP .add v31 v54) fun v55 =>
  okF (bldP (fun i => ([(0, 1), (1, 1), (2, 1)] : List (Nat × Nat))[i]?) [.int .i64 0, .int .i64 0, .int .i64 0] [(0, v1), (1, v31), (2, v55)]) fun v56 =>
  efK PR (Instr.buildSlice T_s_disk_write 1 #[(0, v56)]) (fun v57 W =>
  efK PR (Builtin.append_ #[T_s_disk_write, T_s_disk_write] T_s_disk_write #[v49, v57]) (fun v58 W =>
  okF (nilP v0) fun v59 =>
  okF (addrF 2 v59) fun v60 =>
  efK PR (Instr.storeAt T_s_disk_write v60 v58) (fun _ W =>
  R (.int .i64 0) W) W) W) W) W) W) W) W) W) W) (tick W)) W) W)) W) W) (tick W))) W
def S.disk_Disk_Append.hint : Hint := (.two .nil (.two (.two .nil (.two .nil (.two (.two .nil .nil) .nil))) (.two (.two .nil (.two (.two .nil .nil) .nil)) (.two .nil (.two .nil (.two .nil (.two .nil .nil)))))))
theorem S.disk_Disk_Append.ok (R : Value → World → Prop) (v0 v1 v2 : Value) (W : World) : bodyK PR CB Try.f16 S.disk_Disk_Append.hint [v0, v1, v2] R W = S.disk_Disk_Append.body R v0 v1 v2 W := by kernel_rfl
theorem S.disk_Disk_Append.fn : PR.funcs[F_disk_Disk_Append]? = some Try.f16 := by kernel_rfl
theorem S.disk_Disk_Append.call {R : Value → World → Prop} {v0 v1 v2 : Value} {W : World} (h : S.disk_Disk_Append.body R v0 v1 v2 W) : callK PR F_disk_Disk_Append [v0, v1, v2] R W :=
  callK_of_body (g := F_disk_Disk_Append) (fn := Try.f16) (args := [v0, v1, v2]) (R := R) (w := W) mixed CBok S.disk_Disk_Append.fn S.disk_Disk_Append.hint (by rw [S.disk_Disk_Append.ok]; exact h)
/-! ### (*rostrum/disk.Disk).Read (19) -/
def S.disk_Disk_Read.body (R : Value → World → Prop) (v0 v1 : Value) (W : World) : Prop :=
  callK PR F_disk_Disk_find [v0, v1] (fun v9 W =>
  okF (binP .neq v9 (.int .i64 0)) fun v11 =>
  ifK v11 (
  R (.tuple #[(.slice none 0 0), v9]) W) (
  okF (nilP v0) fun v14 =>
  okF (addrF 1 v14) fun v15 =>
  rdK PR (Instr.loadAt T_m_int_s_uint8 v15) (fun v16 W =>
  rdK PR (Instr.lookup T_m_int_s_uint8 v16 v1 false) (fun v18 W =>
  callK PR F_bytes_Clone [v18] (fun v19 W =>
  R (.tuple #[v19, (.int .i64 0)]) W) W) W) W)) W
def S.disk_Disk_Read.hint : Hint := (.two .nil (.two (.two .nil (.two .nil (.two (.two .nil .nil) .nil))) (.two .nil .nil)))
theorem S.disk_Disk_Read.ok (R : Value → World → Prop) (v0 v1 : Value) (W : World) : bodyK PR CB Try.f19 S.disk_Disk_Read.hint [v0, v1] R W = S.disk_Disk_Read.body R v0 v1 W := by kernel_rfl
theorem S.disk_Disk_Read.fn : PR.funcs[F_disk_Disk_Read]? = some Try.f19 := by kernel_rfl
theorem S.disk_Disk_Read.call {R : Value → World → Prop} {v0 v1 : Value} {W : World} (h : S.disk_Disk_Read.body R v0 v1 W) : callK PR F_disk_Disk_Read [v0, v1] R W :=
  callK_of_body (g := F_disk_Disk_Read) (fn := Try.f19) (args := [v0, v1]) (R := R) (w := W) mixed CBok S.disk_Disk_Read.fn S.disk_Disk_Read.hint (by rw [S.disk_Disk_Read.ok]; exact h)
/-! ### (*rostrum/disk.Disk).Crash (17) -/
def S.disk_Disk_Crash.j1 (R : Value → World → Prop) (x0 : Value) (W : World) : Prop :=
  okF (nilP x0) fun v60 =>
  okF (addrF 2 v60) fun v61 =>
  efK PR (Instr.storeAt T_s_disk_write v61 (.slice none 0 0)) (fun _ W =>
  okF (nilP x0) fun v63 =>
  okF (addrF 3 v63) fun v64 =>
  efK PR (Instr.storeAt T_bool v64 (.bool false)) (fun _ W =>
  R (.tuple #[]) W) W) W
def S.disk_Disk_Crash.j2 (K1 : List Value → World → Prop) (x0 x1 x2 x6 x7 x8 : Value) (W : World) : Prop :=
  okF (nilP x0) fun v45 =>
  okF (addrF 1 v45) fun v46 =>
  rdK PR (Instr.loadAt T_m_int_s_uint8 v46) (fun v47 W =>
  okF (addrF 0 x7) fun v48 =>
  rdK PR (Instr.loadAt T_int v48) (fun v49 W =>
  okF (nilP x0) fun v51 =>
  okF (addrF 1 v51) fun v52 =>
  rdK PR (Instr.loadAt T_m_int_s_uint8 v52) (fun v53 W =>
  okF (addrF 0 x7) fun v54 =>
  rdK PR (Instr.loadAt T_int v54) (fun v55 W =>
  rdK PR (Instr.lookup T_m_int_s_uint8 v53 v55 false) (fun v56 W =>
  okF (slcS 1 v56 none (some x8) none) fun v58 =>
  efK PR (Instr.mapUpdate T_m_int_s_uint8 v47 v49 v58) (fun _ W =>
  okF (binP .sub x6 (.int .i64 1)) fun v18 =>
  K1 [x0, x1, x2, v18] W) W) W) W) W) W) (tick W)
def S.disk_Disk_Crash.l1 (J1 : List Value → World → Prop) (K1 : List Value → World → Prop) (x0 x1 x2 x6 : Value) (W : World) : Prop :=
  okF (binP .geq x6 (.int .i64 0)) fun v16 =>
  ifK v16 (
  okF (nilP x0) fun v20 =>
  okF (addrF 2 v20) fun v21 =>
  rdK PR (Instr.loadAt T_s_disk_write v21) (fun v22 W =>
  okF (idxS 3 v22 x6) fun v24 =>
  rdK PR (Instr.loadAt T_disk_write v24) (fun v25 W =>
  efK PR (Instr.alloc T_disk_write true (.tuple #[])) (fun v7 W =>
  efK PR (Instr.storeAt T_disk_write v7 v25) (fun _ W =>
  okF (binP .lss x6 x1) fun v28 =>
  ifK v28 (
  J1 [x0] W) (
  okF (addrF 1 v7) fun v29 =>
  rdK PR (Instr.loadAt T_int v29) (fun v30 W =>
  joinK (fun s W => S.disk_Disk_Crash.j2 K1 (nthv s 0) (nthv s 1) (nthv s 2) (nthv s 3) (nthv s 4) (nthv s 5) W) (fun J2 =>
  okF (binP .eql x6 x1) fun v33 =>
  ifK v33 (
  okF (addrF 2 v7) fun v36 =>
  rdK PR (Instr.loadAt T_int v36) (fun v37 W =>
  okF (addrF 1 v7) fun v38 =>
  rdK PR (Instr.loadAt T_int v38) (fun v39 W =>
  okF (binP .sub v37 v39) fun v40 =>
  okF (foldP min2P [x2, v40]) fun v41 =>
  okF (foldP max2P [v41, (.int .i64 0)]) fun v42 =>
  okF (binP .add v30 v42) fun v43 =>
  J2 [x0, x1, x2, x6, v7, v43] W) W) W) (
  J2 [x0, x1, x2, x6, v7, v30] W))) W)) W) W) W) W) (
  J1 [x0] W)
def S.disk_Disk_Crash.body (R : Value → World → Prop) (v0 v1 v2 : Value) (W : World) : Prop :=
  joinK (fun s W => S.disk_Disk_Crash.j1 R (nthv s 0) W) (fun J1 =>
  okF (nilP v0) fun v10 =>
  okF (addrF 2 v10) fun v11 =>
  rdK PR (Instr.loadAt T_s_disk_write v11) (fun v12 W =>
  okF (lenP (.slice T_disk_write) v12) fun v13 =>
  okF (binP .sub v13 (.int .i64 1)) fun v14 =>
  loopK (fun K1 s W => S.disk_Disk_Crash.l1 J1 K1 (nthv s 0) (nthv s 1) (nthv s 2) (nthv s 3) W) [v0, v1, v2, v14] W) W)
def S.disk_Disk_Crash.hint : Hint := (.at [0] (.two .nil (.at [0, 1, 2, 6] (.two (.two .nil (.two .nil .nil)) (.two (.two .nil (.two (.two .nil (.two .nil .nil)) (.two .nil (.at [0, 1, 2, 6, 7, 8] (.two .nil (.two .nil .nil)) .nil)))) .nil)) .nil)) (.two .nil .nil))
theorem S.disk_Disk_Crash.ok (R : Value → World → Prop) (v0 v1 v2 : Value) (W : World) : bodyK PR CB Try.f17 S.disk_Disk_Crash.hint [v0, v1, v2] R W = S.disk_Disk_Crash.body R v0 v1 v2 W := by kernel_rfl
theorem S.disk_Disk_Crash.fn : PR.funcs[F_disk_Disk_Crash]? = some Try.f17 := by kernel_rfl
theorem S.disk_Disk_Crash.call {R : Value → World → Prop} {v0 v1 v2 : Value} {W : World} (h : S.disk_Disk_Crash.body R v0 v1 v2 W) : callK PR F_disk_Disk_Crash [v0, v1, v2] R W :=
  callK_of_body (g := F_disk_Disk_Crash) (fn := Try.f17) (args := [v0, v1, v2]) (R := R) (w := W) mixed CBok S.disk_Disk_Crash.fn S.disk_Disk_Crash.hint (by rw [S.disk_Disk_Crash.ok]; exact h)
/-! ### (*rostrum/disk.Disk).On (18) -/
def S.disk_Disk_On.body (R : Value → World → Prop) (v0 : Value) (W : World) : Prop :=
  okF (nilP v0) fun v3 =>
  okF (addrF 3 v3) fun v4 =>
  efK PR (Instr.storeAt T_bool v4 (.bool true)) (fun _ W =>
  okF (nilP v0) fun v6 =>
  okF (addrF 4 v6) fun v7 =>
  rdK PR (Instr.loadAt T_int v7) (fun v8 W =>
  okF (binP .add v8 (.int .i64 1)) fun v9 =>
  okF (nilP v0) fun v10 =>
  okF (addrF 4 v10) fun v11 =>
  efK PR (Instr.storeAt T_int v11 v9) (fun _ W =>
  R (.tuple #[]) W) W) W) W
def S.disk_Disk_On.hint : Hint := (.two .nil .nil)
theorem S.disk_Disk_On.ok (R : Value → World → Prop) (v0 : Value) (W : World) : bodyK PR CB Try.f18 S.disk_Disk_On.hint [v0] R W = S.disk_Disk_On.body R v0 W := by kernel_rfl
theorem S.disk_Disk_On.fn : PR.funcs[F_disk_Disk_On]? = some Try.f18 := by kernel_rfl
theorem S.disk_Disk_On.call {R : Value → World → Prop} {v0 : Value} {W : World} (h : S.disk_Disk_On.body R v0 W) : callK PR F_disk_Disk_On [v0] R W :=
  callK_of_body (g := F_disk_Disk_On) (fn := Try.f18) (args := [v0]) (R := R) (w := W) mixed CBok S.disk_Disk_On.fn S.disk_Disk_On.hint (by rw [S.disk_Disk_On.ok]; exact h)
/-! ### (*rostrum/disk.Disk).Power (33) -/
def S.disk_Disk_Power.body (R : Value → World → Prop) (v0 : Value) (W : World) : Prop :=
  okF (nilP v0) fun v4 =>
  okF (addrF 3 v4) fun v5 =>
  rdK PR (Instr.loadAt T_bool v5) (fun v6 W =>
  R v6 W) W
def S.disk_Disk_Power.hint : Hint := (.two .nil (.two .nil .nil))
theorem S.disk_Disk_Power.ok (R : Value → World → Prop) (v0 : Value) (W : World) : bodyK PR CB Try.f33 S.disk_Disk_Power.hint [v0] R W = S.disk_Disk_Power.body R v0 W := by kernel_rfl
theorem S.disk_Disk_Power.fn : PR.funcs[F_disk_Disk_Power]? = some Try.f33 := by kernel_rfl
theorem S.disk_Disk_Power.call {R : Value → World → Prop} {v0 : Value} {W : World} (h : S.disk_Disk_Power.body R v0 W) : callK PR F_disk_Disk_Power [v0] R W :=
  callK_of_body (g := F_disk_Disk_Power) (fn := Try.f33) (args := [v0]) (R := R) (w := W) mixed CBok S.disk_Disk_Power.fn S.disk_Disk_Power.hint (by rw [S.disk_Disk_Power.ok]; exact h)
/-! ### (*rostrum/disk.Disk).Lives (34) -/
def S.disk_Disk_Lives.body (R : Value → World → Prop) (v0 : Value) (W : World) : Prop :=
  okF (nilP v0) fun v4 =>
  okF (addrF 4 v4) fun v5 =>
  rdK PR (Instr.loadAt T_int v5) (fun v6 W =>
  R v6 W) W
def S.disk_Disk_Lives.hint : Hint := (.two .nil (.two .nil .nil))
theorem S.disk_Disk_Lives.ok (R : Value → World → Prop) (v0 : Value) (W : World) : bodyK PR CB Try.f34 S.disk_Disk_Lives.hint [v0] R W = S.disk_Disk_Lives.body R v0 W := by kernel_rfl
theorem S.disk_Disk_Lives.fn : PR.funcs[F_disk_Disk_Lives]? = some Try.f34 := by kernel_rfl
theorem S.disk_Disk_Lives.call {R : Value → World → Prop} {v0 : Value} {W : World} (h : S.disk_Disk_Lives.body R v0 W) : callK PR F_disk_Disk_Lives [v0] R W :=
  callK_of_body (g := F_disk_Disk_Lives) (fn := Try.f34) (args := [v0]) (R := R) (w := W) mixed CBok S.disk_Disk_Lives.fn S.disk_Disk_Lives.hint (by rw [S.disk_Disk_Lives.ok]; exact h)
/-! ### (*rostrum/disk.Disk).Sync (20) -/
def S.disk_Disk_Sync.j1 (R : Value → World → Prop) (x5 : Value) (W : World) : Prop :=
  R x5 W
def S.disk_Disk_Sync.body (R : Value → World → Prop) (v0 v1 : Value) (W : World) : Prop :=
  callK PR F_disk_Disk_find [v0, v1] (fun v8 W =>
  joinK (fun s W => S.disk_Disk_Sync.j1 R (nthv s 0) W) (fun J1 =>
  okF (binP .eql v8 (.int .i64 0)) fun v10 =>
  ifK v10 (
  callK PR F_disk_Disk_safe [v0, v1] (fun v13 W =>
  J1 [v8] W) W) (
  J1 [v8] W))) W
def S.disk_Disk_Sync.hint : Hint := (.two .nil (.two .nil (.at [5] (.two .nil (.two .nil .nil)) (.two .nil .nil))))
theorem S.disk_Disk_Sync.ok (R : Value → World → Prop) (v0 v1 : Value) (W : World) : bodyK PR CB Try.f20 S.disk_Disk_Sync.hint [v0, v1] R W = S.disk_Disk_Sync.body R v0 v1 W := by kernel_rfl
theorem S.disk_Disk_Sync.fn : PR.funcs[F_disk_Disk_Sync]? = some Try.f20 := by kernel_rfl
theorem S.disk_Disk_Sync.call {R : Value → World → Prop} {v0 v1 : Value} {W : World} (h : S.disk_Disk_Sync.body R v0 v1 W) : callK PR F_disk_Disk_Sync [v0, v1] R W :=
  callK_of_body (g := F_disk_Disk_Sync) (fn := Try.f20) (args := [v0, v1]) (R := R) (w := W) mixed CBok S.disk_Disk_Sync.fn S.disk_Disk_Sync.hint (by rw [S.disk_Disk_Sync.ok]; exact h)
/-! ### (*rostrum/disk.Disk).safe (49) -/
def S.disk_Disk_safe.body (R : Value → World → Prop) (v0 v1 : Value) (W : World) : Prop :=
  efK PR (Instr.box T_int v1) (fun v3 W =>
  okF (nilP v0) fun v6 =>
  okF (addrF 2 v6) fun v7 =>
  rdK PR (Instr.loadAt T_s_disk_write v7) (fun v8 W =>
  callK PR F_slices_DeleteFunc_disk_write_disk_write [v8, (.func (.func F_disk_Disk_safe_1) #[] #[v3])] (fun v10 W =>
  okF (nilP v0) fun v11 =>
  okF (addrF 2 v11) fun v12 =>
  efK PR (Instr.storeAt T_s_disk_write v12 v10) (fun _ W =>
  R (.tuple #[]) W) W) W) W) W
def S.disk_Disk_safe.hint : Hint := (.two .nil .nil)
theorem S.disk_Disk_safe.ok (R : Value → World → Prop) (v0 v1 : Value) (W : World) : bodyK PR CB Try.f49 S.disk_Disk_safe.hint [v0, v1] R W = S.disk_Disk_safe.body R v0 v1 W := by kernel_rfl
theorem S.disk_Disk_safe.fn : PR.funcs[F_disk_Disk_safe]? = some Try.f49 := by kernel_rfl
theorem S.disk_Disk_safe.call {R : Value → World → Prop} {v0 v1 : Value} {W : World} (h : S.disk_Disk_safe.body R v0 v1 W) : callK PR F_disk_Disk_safe [v0, v1] R W :=
  callK_of_body (g := F_disk_Disk_safe) (fn := Try.f49) (args := [v0, v1]) (R := R) (w := W) mixed CBok S.disk_Disk_safe.fn S.disk_Disk_safe.hint (by rw [S.disk_Disk_safe.ok]; exact h)
/-! ### (*rostrum/disk.Disk).Spoil (21) -/
def S.disk_Disk_Spoil.body (R : Value → World → Prop) (v0 v1 v2 v3 : Value) (W : World) : Prop :=
  callK PR F_disk_Disk_find [v0, v1] (fun v11 W =>
  okF (binP .neq v11 (.int .i64 0)) fun v12 =>
  gdK (wantd v12 false) (fun k W => k v2 W) (fun v14 W =>
  gdK (wantd v12 false) (fun k W => okF (binP .lss v14 (.int .i64 0)) fun v => k v W) (fun v15 W =>
  okF (pickP v12 (.bool true) v15) fun v16 =>
  gdK (wantd v16 false) (fun k W => k v2 W) (fun v18 W =>
  gdK (wantd v16 false) (fun k W => k v0 W) (fun v19 W =>
  gdK (wantd v16 false) (fun k W => okF (nilP v19) fun v => k v W) (fun v20 W =>
  gdK (wantd v16 false) (fun k W => okF (addrF 1 v20) fun v => k v W) (fun v21 W =>
  gdK (wantd v16 false) (fun k W => rdK PR (Instr.loadAt T_m_int_s_uint8 v21) k W) (fun v22 W =>
  gdK (wantd v16 false) (fun k W => k v1 W) (fun v23 W =>
  gdK (wantd v16 false) (fun k W => rdK PR (Instr.lookup T_m_int_s_uint8 v22 v23 false) k W) (fun v24 W =>
  gdK (wantd v16 false) (fun k W => okF (lenP (.slice T_uint8) v24) fun v => k v W) (fun v25 W =>
  gdK (wantd v16 false) (fun k W => okF (binP .geq v18 v25) fun v => k v W) (fun v26 W =>
  okF (pickP v16 (.bool true) v26) fun v27 =>
  gdK (wantd v27 false) (fun k W => k v3 W) (fun v29 W =>
  gdK (wantd v27 false) (fun k W => okF (binP .eql v29 (.int .u8 0)) fun v => k v W) (fun v30 W =>
  okF (pickP v27 (.bool true) v30) fun v31 =>
  ifK v31 (
  R (.bool false) W) (
  okF (nilP v0) fun v33 =>
  okF (addrF 1 v33) fun v34 =>
  rdK PR (Instr.loadAt T_m_int_s_uint8 v34) (fun v35 W =>
  rdK PR (Instr.lookup T_m_int_s_uint8 v35 v1 false) (fun v37 W =>
  okF (idxS 1 v37 v2) fun v39 =>
  rdK PR (Instr.loadAt T_uint8 v39) (fun v40 W =>
  okF (binP .xor v40 v3) fun v42 =>
  okF (idxS 1 v37 v2) fun v43 =>
  efK PR (Instr.storeAt T_uint8 v43 v42) (fun _ W =>
  R (.bool true) W) W) W) W) W)) W) W) W) W) W) W) W) W) W) W) W) W) W) W
def S.disk_Disk_Spoil.hint : Hint := (.two .nil (.two (.two .nil (.two (.two .nil .nil) .nil)) (.two .nil (.two .nil .nil))))
theorem S.disk_Disk_Spoil.ok (R : Value → World → Prop) (v0 v1 v2 v3 : Value) (W : World) : bodyK PR CB Try.f21 S.disk_Disk_Spoil.hint [v0, v1, v2, v3] R W = S.disk_Disk_Spoil.body R v0 v1 v2 v3 W := by kernel_rfl
theorem S.disk_Disk_Spoil.fn : PR.funcs[F_disk_Disk_Spoil]? = some Try.f21 := by kernel_rfl
theorem S.disk_Disk_Spoil.call {R : Value → World → Prop} {v0 v1 v2 v3 : Value} {W : World} (h : S.disk_Disk_Spoil.body R v0 v1 v2 v3 W) : callK PR F_disk_Disk_Spoil [v0, v1, v2, v3] R W :=
  callK_of_body (g := F_disk_Disk_Spoil) (fn := Try.f21) (args := [v0, v1, v2, v3]) (R := R) (w := W) mixed CBok S.disk_Disk_Spoil.fn S.disk_Disk_Spoil.hint (by rw [S.disk_Disk_Spoil.ok]; exact h)
/-! ### (*rostrum/disk.Disk).Drop (23) -/
def S.disk_Disk_Drop.j1 (R : Value → World → Prop) (x5 : Value) (W : World) : Prop :=
  R x5 W
def S.disk_Disk_Drop.body (R : Value → World → Prop) (v0 v1 : Value) (W : World) : Prop :=
  callK PR F_disk_Disk_find [v0, v1] (fun v8 W =>
  joinK (fun s W => S.disk_Disk_Drop.j1 R (nthv s 0) W) (fun J1 =>
  okF (binP .eql v8 (.int .i64 0)) fun v10 =>
  ifK v10 (
  callK PR F_disk_Disk_safe [v0, v1] (fun v13 W =>
  okF (nilP v0) fun v15 =>
  okF (addrF 1 v15) fun v16 =>
  rdK PR (Instr.loadAt T_m_int_s_uint8 v16) (fun v17 W =>
  efK PR (Builtin.delete_ #[T_m_int_s_uint8, T_int] T_t0 #[v17, v1]) (fun _ W =>
  J1 [v8] W) W) W) W) (
  J1 [v8] W))) W
def S.disk_Disk_Drop.hint : Hint := (.two .nil (.two .nil (.at [5] (.two .nil (.two (.two .nil .nil) .nil)) (.two .nil .nil))))
theorem S.disk_Disk_Drop.ok (R : Value → World → Prop) (v0 v1 : Value) (W : World) : bodyK PR CB Try.f23 S.disk_Disk_Drop.hint [v0, v1] R W = S.disk_Disk_Drop.body R v0 v1 W := by kernel_rfl
theorem S.disk_Disk_Drop.fn : PR.funcs[F_disk_Disk_Drop]? = some Try.f23 := by kernel_rfl
theorem S.disk_Disk_Drop.call {R : Value → World → Prop} {v0 v1 : Value} {W : World} (h : S.disk_Disk_Drop.body R v0 v1 W) : callK PR F_disk_Disk_Drop [v0, v1] R W :=
  callK_of_body (g := F_disk_Disk_Drop) (fn := Try.f23) (args := [v0, v1]) (R := R) (w := W) mixed CBok S.disk_Disk_Drop.fn S.disk_Disk_Drop.hint (by rw [S.disk_Disk_Drop.ok]; exact h)
end Go.Proofs.Ythladblmjoaeoaa
