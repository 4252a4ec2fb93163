/- Texts of the claim WalPlays, joined: ShDisk, CDisk, CDisk2, CDisk3, CDisk4, ShDelW, DelFW, ShDisk5, CDisk5, ShWlog. -/
import Derived.Test.YthladblmjoaeoaaBWalPlays1
import Derived.Test.YthladblmjoaeoaaBWalPlays3
import Derived.Test.YthladblmjoaeoaaBWalPlays4
namespace Go.Proofs.Ythladblmjoaeoaa
set_option linter.unusedVariables false
set_option linter.unusedSimpArgs false
open Go.Eng
/-! ### rostrum/disk.New (15) -/
def S.disk_New.body (R : Value → World → Prop) (v0 : Value) (W : World) : Prop :=
  okF (binP .lss v0 (.int .i64 64)) fun v5 =>
  gdK (wantd v5 false) (fun k W => k v0 W) (fun v7 W =>
  gdK (wantd v5 false) (fun k W => okF (binP .gtr v7 (.int .i64 1048576)) fun v => k v W) (fun v8 W =>
  okF (pickP v5 (.bool true) v8) fun v9 =>
  ifK v9 (
  R (.tuple #[(.pointer none), (.int .i64 1)]) W) (
  efK PR (Instr.makeMap T_m_int_s_uint8 none) (fun v11 W =>
  okF (bldP (fun i => ([(0, 1), (1, 1), (2, 1), (3, 1), (4, 1)] : List (Nat × Nat))[i]?) [.int .i64 0, .map none, .slice none 0 0, .bool false, .int .i64 0] [(0, v0), (1, v11), (3, (.bool true)), (4, (.int .i64 1))]) fun v12 =>
  efK PR (Instr.box T_disk_Disk v12) (fun v13 W =>
  R (.tuple #[v13, (.int .i64 0)]) W) W) W)) W) W
def S.disk_New.hint : Hint := (.two .nil (.two (.two .nil (.two (.two .nil .nil) .nil)) (.two .nil .nil)))
theorem S.disk_New.ok (R : Value → World → Prop) (v0 : Value) (W : World) : bodyK PR CB Try.f15 S.disk_New.hint [v0] R W = S.disk_New.body R v0 W := by kernel_rfl
theorem S.disk_New.fn : PR.funcs[F_disk_New]? = some Try.f15 := by kernel_rfl
theorem S.disk_New.call {R : Value → World → Prop} {v0 : Value} {W : World} (h : S.disk_New.body R v0 W) : callK PR F_disk_New [v0] R W :=
  callK_of_body (g := F_disk_New) (fn := Try.f15) (args := [v0]) (R := R) (w := W) mixed CBok S.disk_New.fn S.disk_New.hint (by rw [S.disk_New.ok]; exact h)
/-! ### (*rostrum/disk.Disk).ask (45) -/
def S.disk_Disk_ask.body (R : Value → World → Prop) (v0 v1 : Value) (W : World) : Prop :=
  okF (nilP v0) fun v7 =>
  okF (addrF 3 v7) fun v8 =>
  rdK PR (Instr.loadAt T_bool v8) (fun v9 W =>
  okF (unP .not v9) fun v10 =>
  ifK v10 (
  R (.int .i64 7) W) (
  okF (binP .lss v1 (.int .i64 0)) fun v13 =>
  gdK (wantd v13 false) (fun k W => k v1 W) (fun v15 W =>
  gdK (wantd v13 false) (fun k W => okF (binP .geq v15 (.int .i64 1000)) fun v => k v W) (fun v16 W =>
  okF (pickP v13 (.bool true) v16) fun v17 =>
  ifK v17 (
  R (.int .i64 1) W) (
  R (.int .i64 0) W)) W) W)) W
def S.disk_Disk_ask.hint : Hint := (.two .nil (.two (.two .nil (.two (.two .nil .nil) (.two .nil (.two (.two .nil .nil) .nil)))) (.two .nil .nil)))
theorem S.disk_Disk_ask.ok (R : Value → World → Prop) (v0 v1 : Value) (W : World) : bodyK PR CB Try.f45 S.disk_Disk_ask.hint [v0, v1] R W = S.disk_Disk_ask.body R v0 v1 W := by kernel_rfl
theorem S.disk_Disk_ask.fn : PR.funcs[F_disk_Disk_ask]? = some Try.f45 := by kernel_rfl
theorem S.disk_Disk_ask.call {R : Value → World → Prop} {v0 v1 : Value} {W : World} (h : S.disk_Disk_ask.body R v0 v1 W) : callK PR F_disk_Disk_ask [v0, v1] R W :=
  callK_of_body (g := F_disk_Disk_ask) (fn := Try.f45) (args := [v0, v1]) (R := R) (w := W) mixed CBok S.disk_Disk_ask.fn S.disk_Disk_ask.hint (by rw [S.disk_Disk_ask.ok]; exact h)
/-! ### (*rostrum/disk.Disk).find (47) -/
def S.disk_Disk_find.body (R : Value → World → Prop) (v0 v1 : Value) (W : World) : Prop :=
  callK PR F_disk_Disk_ask [v0, v1] (fun v10 W =>
  okF (binP .neq v10 (.int .i64 0)) fun v12 =>
  ifK v12 (
  R v10 W) (
  okF (nilP v0) fun v16 =>
  okF (addrF 1 v16) fun v17 =>
  rdK PR (Instr.loadAt T_m_int_s_uint8 v17) (fun v18 W =>
  rdK PR (Instr.lookup T_m_int_s_uint8 v18 v1 true) (fun v20 W =>
  okF (extP 0 v20) fun v21 =>
  okF (extP 1 v20) fun v22 =>
  okF (unP .not v22) fun v24 =>
  ifK v24 (
  R (.int .i64 4) W) (
  R (.int .i64 0) W)) W) W)) W
def S.disk_Disk_find.hint : Hint := (.two .nil (.two (.two .nil (.two .nil (.two (.two .nil .nil) .nil))) (.two (.two .nil (.two .nil (.two (.two .nil .nil) .nil))) (.two .nil .nil))))
theorem S.disk_Disk_find.ok (R : Value → World → Prop) (v0 v1 : Value) (W : World) : bodyK PR CB Try.f47 S.disk_Disk_find.hint [v0, v1] R W = S.disk_Disk_find.body R v0 v1 W := by kernel_rfl
theorem S.disk_Disk_find.fn : PR.funcs[F_disk_Disk_find]? = some Try.f47 := by kernel_rfl
theorem S.disk_Disk_find.call {R : Value → World → Prop} {v0 v1 : Value} {W : World} (h : S.disk_Disk_find.body R v0 v1 W) : callK PR F_disk_Disk_find [v0, v1] R W :=
  callK_of_body (g := F_disk_Disk_find) (fn := Try.f47) (args := [v0, v1]) (R := R) (w := W) mixed CBok S.disk_Disk_find.fn S.disk_Disk_find.hint (by rw [S.disk_Disk_find.ok]; exact h)
/-! ### (*rostrum/disk.Disk).size (46) -/
def S.disk_Disk_size.j1 (R : Value → World → Prop) (x3 : Value) (W : World) : Prop :=
  R x3 W
def S.disk_Disk_size.l1 (J1 : List Value → World → Prop) (K1 : List Value → World → Prop) (x3 x10 : Value) (W : World) : Prop :=
  efK PR (Instr.next x10 false T_t0) (fun v11 W =>
  okF (extP 0 v11) fun v12 =>
  ifK v12 (
  efK PR (Instr.entry x10) (fun v13 W =>
  okF (extP 1 v13) fun v14 =>
  okF (lenP (.slice T_uint8) v14) fun v17 =>
  okF (binP .add x3 v17) fun v18 =>
  K1 [v18, x10] W) W) (
  J1 [x3] W)) W
def S.disk_Disk_size.body (R : Value → World → Prop) (v0 : Value) (W : World) : Prop :=
  joinK (fun s W => S.disk_Disk_size.j1 R (nthv s 0) W) (fun J1 =>
  okF (nilP v0) fun v7 =>
  okF (addrF 1 v7) fun v8 =>
  rdK PR (Instr.loadAt T_m_int_s_uint8 v8) (fun v9 W =>
  efK PR (Instr.range T_m_int_s_uint8 v9) (fun v10 W =>
  loopK (fun K1 s W => S.disk_Disk_size.l1 J1 K1 (nthv s 0) (nthv s 1) W) [(.int .i64 0), v10] W) W) W)
def S.disk_Disk_size.hint : Hint := (.two .nil (.two .nil (.at [3] (.two .nil (.at [3, 10] (.two .nil (.two (.two .nil .nil) (.two .nil .nil))) .nil)) (.two .nil .nil))))
theorem S.disk_Disk_size.ok (R : Value → World → Prop) (v0 : Value) (W : World) : bodyK PR CB Try.f46 S.disk_Disk_size.hint [v0] R W = S.disk_Disk_size.body R v0 W := by kernel_rfl
theorem S.disk_Disk_size.fn : PR.funcs[F_disk_Disk_size]? = some Try.f46 := by kernel_rfl
theorem S.disk_Disk_size.call {R : Value → World → Prop} {v0 : Value} {W : World} (h : S.disk_Disk_size.body R v0 W) : callK PR F_disk_Disk_size [v0] R W :=
  callK_of_body (g := F_disk_Disk_size) (fn := Try.f46) (args := [v0]) (R := R) (w := W) mixed CBok S.disk_Disk_size.fn S.disk_Disk_size.hint (by rw [S.disk_Disk_size.ok]; exact h)
/-! ### (*rostrum/disk.Disk).Append (16) -/
def S.disk_Disk_Append.body (R : Value → World → Prop) (v0 v1 v2 : Value) (W : World) : Prop :=
  callK PR F_disk_Disk_ask [v0, v1] (fun v11 W =>
  okF (binP .neq v11 (.int .i64 0)) fun v13 =>
  ifK v13 (
  R v11 W) (
  okF (lenP (.slice T_uint8) v2) fun v16 =>
  okF (nilP v0) fun v18 =>
  okF (addrF 0 v18) fun v19 =>
  rdK PR (Instr.loadAt T_int v19) (fun v20 W =>
  callK PR F_disk_Disk_size [v0] (fun v22 W =>
  stb PR [(5, true, (Instr.loadAt T_int v19), v20)] (fun W =>
  okF (binP .sub v20 v22) fun v23 =>
  okF (binP .gtr v16 v23) fun v24 =>
  ifK v24 (
  R (.int .i64 6) W) (
  okF (nilP v0) fun v26 =>
  okF (addrF 1 v26) fun v27 =>
  rdK PR (Instr.loadAt T_m_int_s_uint8 v27) (fun v28 W =>
  rdK PR (Instr.lookup T_m_int_s_uint8 v28 v1 false) (fun v30 W =>
  okF (lenP (.slice T_uint8) v30) fun v31 =>
  okF (nilP v0) fun v33 =>
  okF (addrF 1 v33) fun v34 =>
  rdK PR (Instr.loadAt T_m_int_s_uint8 v34) (fun v35 W =>
  okF (nilP v0) fun v38 =>
  okF (addrF 1 v38) fun v39 =>
  rdK PR (Instr.loadAt T_m_int_s_uint8 v39) (fun v40 W =>
  rdK PR (Instr.lookup T_m_int_s_uint8 v40 v1 false) (fun v42 W =>
  efK PR (Builtin.append_ #[T_s_uint8, T_s_uint8] T_s_uint8 #[v42, v2]) (fun v44 W =>
  stb PR [(3, true, (Instr.loadAt T_m_int_s_uint8 v34), v35)] (fun W =>
  efK PR (Instr.mapUpdate T_m_int_s_uint8 v35 v1 v44) (fun _ W =>
  okF (nilP v0) fun v47 =>
  okF (addrF 2 v47) fun v48 =>
  rdK PR (Instr.loadAt T_s_disk_write v48) (fun v49 W =>
  okF (lenP (.slice T_uint8) v2) fun v54 =>
  okF (binP .add v31 v54) fun v55 =>
  okF (bldP (fun i => ([(0, 1), (1, 1), (2, 1)] : List (Nat × Nat))[i]?) [.int .i64 0, .int .i64 0, .int .i64 0] [(0, v1), (1, v31), (2, v55)]) fun v56 =>
  efK PR (Instr.buildSlice T_s_disk_write 1 #[(0, v56)]) (fun v57 W =>
  efK PR (Builtin.append_ #[T_s_disk_write, T_s_disk_write] T_s_disk_write #[v49, v57]) (fun v58 W =>
  okF (nilP v0) fun v59 =>
  okF (addrF 2 v59) fun v60 =>
  efK PR (Instr.storeAt T_s_disk_write v60 v58) (fun _ W =>
  R (.int .i64 0) W) W) W) W) W) W) W) W) W) W) (tick W)) W) W)) W) W) (tick W))) W
def S.disk_Disk_Append.hint : Hint := (.two .nil (.two (.two .nil (.two .nil (.two (.two .nil .nil) .nil))) (.two (.two .nil (.two (.two .nil .nil) .nil)) (.two .nil (.two .nil (.two .nil (.two .nil .nil)))))))
theorem S.disk_Disk_Append.ok (R : Value → World → Prop) (v0 v1 v2 : Value) (W : World) : bodyK PR CB Try.f16 S.disk_Disk_Append.hint [v0, v1, v2] R W = S.disk_Disk_Append.body R v0 v1 v2 W := by kernel_rfl
theorem S.disk_Disk_Append.fn : PR.funcs[F_disk_Disk_Append]? = some Try.f16 := by kernel_rfl
theorem S.disk_Disk_Append.call {R : Value → World → Prop} {v0 v1 v2 : Value} {W : World} (h : S.disk_Disk_Append.body R v0 v1 v2 W) : callK PR F_disk_Disk_Append [v0, v1, v2] R W :=
  callK_of_body (g := F_disk_Disk_Append) (fn := Try.f16) (args := [v0, v1, v2]) (R := R) (w := W) mixed CBok S.disk_Disk_Append.fn S.disk_Disk_Append.hint (by rw [S.disk_Disk_Append.ok]; exact h)
/-! ### (*rostrum/disk.Disk).Read (19) -/
def S.disk_Disk_Read.body (R : Value → World → Prop) (v0 v1 : Value) (W : World) : Prop :=
  callK PR F_disk_Disk_find [v0, v1] (fun v9 W =>
  okF (binP .neq v9 (.int .i64 0)) fun v11 =>
  ifK v11 (
  R (.tuple #[(.slice none 0 0), v9]) W) (
  okF (nilP v0) fun v14 =>
  okF (addrF 1 v14) fun v15 =>
  rdK PR (Instr.loadAt T_m_int_s_uint8 v15) (fun v16 W =>
  rdK PR (Instr.lookup T_m_int_s_uint8 v16 v1 false) (fun v18 W =>
  callK PR F_bytes_Clone [v18] (fun v19 W =>
  R (.tuple #[v19, (.int .i64 0)]) W) W) W) W)) W
def S.disk_Disk_Read.hint : Hint := (.two .nil (.two (.two .nil (.two .nil (.two (.two .nil .nil) .nil))) (.two .nil .nil)))
theorem S.disk_Disk_Read.ok (R : Value → World → Prop) (v0 v1 : Value) (W : World) : bodyK PR CB Try.f19 S.disk_Disk_Read.hint [v0, v1] R W = S.disk_Disk_Read.body R v0 v1 W := by kernel_rfl
theorem S.disk_Disk_Read.fn : PR.funcs[F_disk_Disk_Read]? = some Try.f19 := by kernel_rfl
theorem S.disk_Disk_Read.call {R : Value → World → Prop} {v0 v1 : Value} {W : World} (h : S.disk_Disk_Read.body R v0 v1 W) : callK PR F_disk_Disk_Read [v0, v1] R W :=
  callK_of_body (g := F_disk_Disk_Read) (fn := Try.f19) (args := [v0, v1]) (R := R) (w := W) mixed CBok S.disk_Disk_Read.fn S.disk_Disk_Read.hint (by rw [S.disk_Disk_Read.ok]; exact h)
/-! ### (*rostrum/disk.Disk).Crash (17) -/
def S.disk_Disk_Crash.j1 (R : Value → World → Prop) (x0 : Value) (W : World) : Prop :=
  okF (nilP x0) fun v60 =>
  okF (addrF 2 v60) fun v61 =>
  efK PR (Instr.storeAt T_s_disk_write v61 (.slice none 0 0)) (fun _ W =>
  okF (nilP x0) fun v63 =>
  okF (addrF 3 v63) fun v64 =>
  efK PR (Instr.storeAt T_bool v64 (.bool false)) (fun _ W =>
  R (.tuple #[]) W) W) W
def S.disk_Disk_Crash.j2 (K1 : List Value → World → Prop) (x0 x1 x2 x6 x7 x8 : Value) (W : World) : Prop :=
  okF (nilP x0) fun v45 =>
  okF (addrF 1 v45) fun v46 =>
  rdK PR (Instr.loadAt T_m_int_s_uint8 v46) (fun v47 W =>
  okF (addrF 0 x7) fun v48 =>
  rdK PR (Instr.loadAt T_int v48) (fun v49 W =>
  okF (nilP x0) fun v51 =>
  okF (addrF 1 v51) fun v52 =>
  rdK PR (Instr.loadAt T_m_int_s_uint8 v52) (fun v53 W =>
  okF (addrF 0 x7) fun v54 =>
  rdK PR (Instr.loadAt T_int v54) (fun v55 W =>
  rdK PR (Instr.lookup T_m_int_s_uint8 v53 v55 false) (fun v56 W =>
  okF (slcS 1 v56 none (some x8) none) fun v58 =>
  efK PR (Instr.mapUpdate T_m_int_s_uint8 v47 v49 v58) (fun _ W =>
  okF (binP .sub x6 (.int .i64 1)) fun v18 =>
  K1 [x0, x1, x2, v18] W) W) W) W) W) W) (tick W)
def S.disk_Disk_Crash.l1 (J1 : List Value → World → Prop) (K1 : List Value → World → Prop) (x0 x1 x2 x6 : Value) (W : World) : Prop :=
  okF (binP .geq x6 (.int .i64 0)) fun v16 =>
  ifK v16 (
  okF (nilP x0) fun v20 =>
  okF (addrF 2 v20) fun v21 =>
  rdK PR (Instr.loadAt T_s_disk_write v21) (fun v22 W =>
  okF (idxS 3 v22 x6) fun v24 =>
  rdK PR (Instr.loadAt T_disk_write v24) (fun v25 W =>
  efK PR (Instr.alloc T_disk_write true (.tuple #[])) (fun v7 W =>
  efK PR (Instr.storeAt T_disk_write v7 v25) (fun _ W =>
  okF (binP .lss x6 x1) fun v28 =>
  ifK v28 (
  J1 [x0] W) (
  okF (addrF 1 v7) fun v29 =>
  rdK PR (Instr.loadAt T_int v29) (fun v30 W =>
  joinK (fun s W => S.disk_Disk_Crash.j2 K1 (nthv s 0) (nthv s 1) (nthv s 2) (nthv s 3) (nthv s 4) (nthv s 5) W) (fun J2 =>
  okF (binP .eql x6 x1) fun v33 =>
  ifK v33 (
  okF (addrF 2 v7) fun v36 =>
  rdK PR (Instr.loadAt T_int v36) (fun v37 W =>
  okF (addrF 1 v7) fun v38 =>
  rdK PR (Instr.loadAt T_int v38) (fun v39 W =>
  okF (binP .sub v37 v39) fun v40 =>
  okF (foldP min2P [x2, v40]) fun v41 =>
  okF (foldP max2P [v41, (.int .i64 0)]) fun v42 =>
  okF (binP .add v30 v42) fun v43 =>
  J2 [x0, x1, x2, x6, v7, v43] W) W) W) (
  J2 [x0, x1, x2, x6, v7, v30] W))) W)) W) W) W) W) (
  J1 [x0] W)
def S.disk_Disk_Crash.body (R : Value → World → Prop) (v0 v1 v2 : Value) (W : World) : Prop :=
  joinK (fun s W => S.disk_Disk_Crash.j1 R (nthv s 0) W) (fun J1 =>
  okF (nilP v0) fun v10 =>
  okF (addrF 2 v10) fun v11 =>
  rdK PR (Instr.loadAt T_s_disk_write v11) (fun v12 W =>
  okF (lenP (.slice T_disk_write) v12) fun v13 =>
  okF (binP .sub v13 (.int .i64 1)) fun v14 =>
  loopK (fun K1 s W => S.disk_Disk_Crash.l1 J1 K1 (nthv s 0) (nthv s 1) (nthv s 2) (nthv s 3) W) [v0, v1, v2, v14] W) W)
def S.disk_Disk_Crash.hint : Hint := (.at [0] (.two .nil (.at [0, 1, 2, 6] (.two (.two .nil (.two .nil .nil)) (.two (.two .nil (.two (.two .nil (.two .nil .nil)) (.two .nil (.at [0, 1, 2, 6, 7, 8] (.two .nil (.two .nil .nil)) .nil)))) .nil)) .nil)) (.two .nil .nil))
theorem S.disk_Disk_Crash.ok (R : Value → World → Prop) (v0 v1 v2 : Value) (W : World) : bodyK PR CB Try.f17 S.disk_Disk_Crash.hint [v0, v1, v2] R W = S.disk_Disk_Crash.body R v0 v1 v2 W := by kernel_rfl
theorem S.disk_Disk_Crash.fn : PR.funcs[F_disk_Disk_Crash]? = some Try.f17 := by kernel_rfl
theorem S.disk_Disk_Crash.call {R : Value → World → Prop} {v0 v1 v2 : Value} {W : World} (h : S.disk_Disk_Crash.body R v0 v1 v2 W) : callK PR F_disk_Disk_Crash [v0, v1, v2] R W :=
  callK_of_body (g := F_disk_Disk_Crash) (fn := Try.f17) (args := [v0, v1, v2]) (R := R) (w := W) mixed CBok S.disk_Disk_Crash.fn S.disk_Disk_Crash.hint (by rw [S.disk_Disk_Crash.ok]; exact h)
/-! ### (*rostrum/disk.Disk).On (18) -/
def S.disk_Disk_On.body (R : Value → World → Prop) (v0 : Value) (W : World) : Prop :=
  okF (nilP v0) fun v3 =>
  okF (addrF 3 v3) fun v4 =>
  efK PR (Instr.storeAt T_bool v4 (.bool true)) (fun _ W =>
  okF (nilP v0) fun v6 =>
  okF (addrF 4 v6) fun v7 =>
  rdK PR (Instr.loadAt T_int v7) (fun v8 W =>
  okF (binP .add v8 (.int .i64 1)) fun v9 =>
  okF (nilP v0) fun v10 =>
  okF (addrF 4 v10) fun v11 =>
  efK PR (Instr.storeAt T_int v11 v9) (fun _ W =>
  R (.tuple #[]) W) W) W) W
def S.disk_Disk_On.hint : Hint := (.two .nil .nil)
theorem S.disk_Disk_On.ok (R : Value → World → Prop) (v0 : Value) (W : World) : bodyK PR CB Try.f18 S.disk_Disk_On.hint [v0] R W = S.disk_Disk_On.body R v0 W := by kernel_rfl
theorem S.disk_Disk_On.fn : PR.funcs[F_disk_Disk_On]? = some Try.f18 := by kernel_rfl
theorem S.disk_Disk_On.call {R : Value → World → Prop} {v0 : Value} {W : World} (h : S.disk_Disk_On.body R v0 W) : callK PR F_disk_Disk_On [v0] R W :=
  callK_of_body (g := F_disk_Disk_On) (fn := Try.f18) (args := [v0]) (R := R) (w := W) mixed CBok S.disk_Disk_On.fn S.disk_Disk_On.hint (by rw [S.disk_Disk_On.ok]; exact h)
/-! ### (*rostrum/disk.Disk).Power (33) -/
def S.disk_Disk_Power.body (R : Value → World → Prop) (v0 : Value) (W : World) : Prop :=
  okF (nilP v0) fun v4 =>
  okF (addrF 3 v4) fun v5 =>
  rdK PR (Instr.loadAt T_bool v5) (fun v6 W =>
  R v6 W) W
def S.disk_Disk_Power.hint : Hint := (.two .nil (.two .nil .nil))
theorem S.disk_Disk_Power.ok (R : Value → World → Prop) (v0 : Value) (W : World) : bodyK PR CB Try.f33 S.disk_Disk_Power.hint [v0] R W = S.disk_Disk_Power.body R v0 W := by kernel_rfl
theorem S.disk_Disk_Power.fn : PR.funcs[F_disk_Disk_Power]? = some Try.f33 := by kernel_rfl
theorem S.disk_Disk_Power.call {R : Value → World → Prop} {v0 : Value} {W : World} (h : S.disk_Disk_Power.body R v0 W) : callK PR F_disk_Disk_Power [v0] R W :=
  callK_of_body (g := F_disk_Disk_Power) (fn := Try.f33) (args := [v0]) (R := R) (w := W) mixed CBok S.disk_Disk_Power.fn S.disk_Disk_Power.hint (by rw [S.disk_Disk_Power.ok]; exact h)
/-! ### (*rostrum/disk.Disk).Lives (34) -/
def S.disk_Disk_Lives.body (R : Value → World → Prop) (v0 : Value) (W : World) : Prop :=
  okF (nilP v0) fun v4 =>
  okF (addrF 4 v4) fun v5 =>
  rdK PR (Instr.loadAt T_int v5) (fun v6 W =>
  R v6 W) W
def S.disk_Disk_Lives.hint : Hint := (.two .nil (.two .nil .nil))
theorem S.disk_Disk_Lives.ok (R : Value → World → Prop) (v0 : Value) (W : World) : bodyK PR CB Try.f34 S.disk_Disk_Lives.hint [v0] R W = S.disk_Disk_Lives.body R v0 W := by kernel_rfl
theorem S.disk_Disk_Lives.fn : PR.funcs[F_disk_Disk_Lives]? = some Try.f34 := by kernel_rfl
theorem S.disk_Disk_Lives.call {R : Value → World → Prop} {v0 : Value} {W : World} (h : S.disk_Disk_Lives.body R v0 W) : callK PR F_disk_Disk_Lives [v0] R W :=
  callK_of_body (g := F_disk_Disk_Lives) (fn := Try.f34) (args := [v0]) (R := R) (w := W) mixed CBok S.disk_Disk_Lives.fn S.disk_Disk_Lives.hint (by rw [S.disk_Disk_Lives.ok]; exact h)
/-! ### (*rostrum/disk.Disk).Sync (20) -/
def S.disk_Disk_Sync.j1 (R : Value → World → Prop) (x5 : Value) (W : World) : Prop :=
  R x5 W
def S.disk_Disk_Sync.body (R : Value → World → Prop) (v0 v1 : Value) (W : World) : Prop :=
  callK PR F_disk_Disk_find [v0, v1] (fun v8 W =>
  joinK (fun s W => S.disk_Disk_Sync.j1 R (nthv s 0) W) (fun J1 =>
  okF (binP .eql v8 (.int .i64 0)) fun v10 =>
  ifK v10 (
  callK PR F_disk_Disk_safe [v0, v1] (fun v13 W =>
  J1 [v8] W) W) (
  J1 [v8] W))) W
def S.disk_Disk_Sync.hint : Hint := (.two .nil (.two .nil (.at [5] (.two .nil (.two .nil .nil)) (.two .nil .nil))))
theorem S.disk_Disk_Sync.ok (R : Value → World → Prop) (v0 v1 : Value) (W : World) : bodyK PR CB Try.f20 S.disk_Disk_Sync.hint [v0, v1] R W = S.disk_Disk_Sync.body R v0 v1 W := by kernel_rfl
theorem S.disk_Disk_Sync.fn : PR.funcs[F_disk_Disk_Sync]? = some Try.f20 := by kernel_rfl
theorem S.disk_Disk_Sync.call {R : Value → World → Prop} {v0 v1 : Value} {W : World} (h : S.disk_Disk_Sync.body R v0 v1 W) : callK PR F_disk_Disk_Sync [v0, v1] R W :=
  callK_of_body (g := F_disk_Disk_Sync) (fn := Try.f20) (args := [v0, v1]) (R := R) (w := W) mixed CBok S.disk_Disk_Sync.fn S.disk_Disk_Sync.hint (by rw [S.disk_Disk_Sync.ok]; exact h)
/-! ### (*rostrum/disk.Disk).safe (49) -/
def S.disk_Disk_safe.body (R : Value → World → Prop) (v0 v1 : Value) (W : World) : Prop :=
  efK PR (Instr.box T_int v1) (fun v3 W =>
  okF (nilP v0) fun v6 =>
  okF (addrF 2 v6) fun v7 =>
  rdK PR (Instr.loadAt T_s_disk_write v7) (fun v8 W =>
  callK PR F_slices_DeleteFunc_disk_write_disk_write [v8, (.func (.func F_disk_Disk_safe_1) #[] #[v3])] (fun v10 W =>
  okF (nilP v0) fun v11 =>
  okF (addrF 2 v11) fun v12 =>
  efK PR (Instr.storeAt T_s_disk_write v12 v10) (fun _ W =>
  R (.tuple #[]) W) W) W) W) W
def S.disk_Disk_safe.hint : Hint := (.two .nil .nil)
theorem S.disk_Disk_safe.ok (R : Value → World → Prop) (v0 v1 : Value) (W : World) : bodyK PR CB Try.f49 S.disk_Disk_safe.hint [v0, v1] R W = S.disk_Disk_safe.body R v0 v1 W := by kernel_rfl
theorem S.disk_Disk_safe.fn : PR.funcs[F_disk_Disk_safe]? = some Try.f49 := by kernel_rfl
theorem S.disk_Disk_safe.call {R : Value → World → Prop} {v0 v1 : Value} {W : World} (h : S.disk_Disk_safe.body R v0 v1 W) : callK PR F_disk_Disk_safe [v0, v1] R W :=
  callK_of_body (g := F_disk_Disk_safe) (fn := Try.f49) (args := [v0, v1]) (R := R) (w := W) mixed CBok S.disk_Disk_safe.fn S.disk_Disk_safe.hint (by rw [S.disk_Disk_safe.ok]; exact h)
/-! ### (*rostrum/disk.Disk).Spoil (21) -/
def S.disk_Disk_Spoil.body (R : Value → World → Prop) (v0 v1 v2 v3 : Value) (W : World) : Prop :=
  callK PR F_disk_Disk_find [v0, v1] (fun v11 W =>
  okF (binP .neq v11 (.int .i64 0)) fun v12 =>
  gdK (wantd v12 false) (fun k W => k v2 W) (fun v14 W =>
  gdK (wantd v12 false) (fun k W => okF (binP .lss v14 (.int .i64 0)) fun v => k v W) (fun v15 W =>
  okF (pickP v12 (.bool true) v15) fun v16 =>
  gdK (wantd v16 false) (fun k W => k v2 W) (fun v18 W =>
  gdK (wantd v16 false) (fun k W => k v0 W) (fun v19 W =>
  gdK (wantd v16 false) (fun k W => okF (nilP v19) fun v => k v W) (fun v20 W =>
  gdK (wantd v16 false) (fun k W => okF (addrF 1 v20) fun v => k v W) (fun v21 W =>
  gdK (wantd v16 false) (fun k W => rdK PR (Instr.loadAt T_m_int_s_uint8 v21) k W) (fun v22 W =>
  gdK (wantd v16 false) (fun k W => k v1 W) (fun v23 W =>
  gdK (wantd v16 false) (fun k W => rdK PR (Instr.lookup T_m_int_s_uint8 v22 v23 false) k W) (fun v24 W =>
  gdK (wantd v16 false) (fun k W => okF (lenP (.slice T_uint8) v24) fun v => k v W) (fun v25 W =>
  gdK (wantd v16 false) (fun k W => okF (binP .geq v18 v25) fun v => k v W) (fun v26 W =>
  okF (pickP v16 (.bool true) v26) fun v27 =>
  gdK (wantd v27 false) (fun k W => k v3 W) (fun v29 W =>
  gdK (wantd v27 false) (fun k W => okF (binP .eql v29 (.int .u8 0)) fun v => k v W) (fun v30 W =>
  okF (pickP v27 (.bool true) v30) fun v31 =>
  ifK v31 (
  R (.bool false) W) (
  okF (nilP v0) fun v33 =>
  okF (addrF 1 v33) fun v34 =>
  rdK PR (Instr.loadAt T_m_int_s_uint8 v34) (fun v35 W =>
  rdK PR (Instr.lookup T_m_int_s_uint8 v35 v1 false) (fun v37 W =>
  okF (idxS 1 v37 v2) fun v39 =>
  rdK PR (Instr.loadAt T_uint8 v39) (fun v40 W =>
  okF (binP .xor v40 v3) fun v42 =>
  okF (idxS 1 v37 v2) fun v43 =>
  efK PR (Instr.storeAt T_uint8 v43 v42) (fun _ W =>
  R (.bool true) W) W) W) W) W)) W) W) W) W) W) W) W) W) W) W) W) W) W) W
def S.disk_Disk_Spoil.hint : Hint := (.two .nil (.two (.two .nil (.two (.two .nil .nil) .nil)) (.two .nil (.two .nil .nil))))
theorem S.disk_Disk_Spoil.ok (R : Value → World → Prop) (v0 v1 v2 v3 : Value) (W : World) : bodyK PR CB Try.f21 S.disk_Disk_Spoil.hint [v0, v1, v2, v3] R W = S.disk_Disk_Spoil.body R v0 v1 v2 v3 W := by kernel_rfl
theorem S.disk_Disk_Spoil.fn : PR.funcs[F_disk_Disk_Spoil]? = some Try.f21 := by kernel_rfl
theorem S.disk_Disk_Spoil.call {R : Value → World → Prop} {v0 v1 v2 v3 : Value} {W : World} (h : S.disk_Disk_Spoil.body R v0 v1 v2 v3 W) : callK PR F_disk_Disk_Spoil [v0, v1, v2, v3] R W :=
  callK_of_body (g := F_disk_Disk_Spoil) (fn := Try.f21) (args := [v0, v1, v2, v3]) (R := R) (w := W) mixed CBok S.disk_Disk_Spoil.fn S.disk_Disk_Spoil.hint (by rw [S.disk_Disk_Spoil.ok]; exact h)
/-! ### (*rostrum/disk.Disk).Drop (23) -/
def S.disk_Disk_Drop.j1 (R : Value → World → Prop) (x5 : Value) (W : World) : Prop :=
  R x5 W
def S.disk_Disk_Drop.body (R : Value → World → Prop) (v0 v1 : Value) (W : World) : Prop :=
  callK PR F_disk_Disk_find [v0, v1] (fun v8 W =>
  joinK (fun s W => S.disk_Disk_Drop.j1 R (nthv s 0) W) (fun J1 =>
  okF (binP .eql v8 (.int .i64 0)) fun v10 =>
  ifK v10 (
  callK PR F_disk_Disk_safe [v0, v1] (fun v13 W =>
  okF (nilP v0) fun v15 =>
  okF (addrF 1 v15) fun v16 =>
  rdK PR (Instr.loadAt T_m_int_s_uint8 v16) (fun v17 W =>
  efK PR (Builtin.delete_ #[T_m_int_s_uint8, T_int] T_t0 #[v17, v1]) (fun _ W =>
  J1 [v8] W) W) W) W) (
  J1 [v8] W))) W
def S.disk_Disk_Drop.hint : Hint := (.two .nil (.two .nil (.at [5] (.two .nil (.two (.two .nil .nil) .nil)) (.two .nil .nil))))
theorem S.disk_Disk_Drop.ok (R : Value → World → Prop) (v0 v1 : Value) (W : World) : bodyK PR CB Try.f23 S.disk_Disk_Drop.hint [v0, v1] R W = S.disk_Disk_Drop.body R v0 v1 W := by kernel_rfl
theorem S.disk_Disk_Drop.fn : PR.funcs[F_disk_Disk_Drop]? = some Try.f23 := by kernel_rfl
theorem S.disk_Disk_Drop.call {R : Value → World → Prop} {v0 v1 : Value} {W : World} (h : S.disk_Disk_Drop.body R v0 v1 W) : callK PR F_disk_Disk_Drop [v0, v1] R W :=
  callK_of_body (g := F_disk_Disk_Drop) (fn := Try.f23) (args := [v0, v1]) (R := R) (w := W) mixed CBok S.disk_Disk_Drop.fn S.disk_Disk_Drop.hint (by rw [S.disk_Disk_Drop.ok]; exact h)
end Go.Proofs.Ythladblmjoaeoaa
namespace Go.Proofs.Ythladblmjoaeoaa
set_option linter.unusedVariables false
set_option linter.unusedSimpArgs false
open Go Go.Eng

section
variable {W0 W : World} {L L' : List Asn}
def WRT : Ly Wr := ⟨3, by omega, fun w => [.int .i64 w.1, .int .i64 w.2.1, .int .i64 w.2.2], fun _ => rfl, fun _ => rfl⟩
abbrev mvs (fs : List (Int × BSl)) : List (Int × Value) := fs.map fun p => (p.1, p.2.v)
abbrev cts (fs : List (Int × BSl)) : List (Int × List UInt8) := fs.map fun p => (p.1, p.2.bs)
/-- a disk, as it lies -/
structure DX where
  r : Nat
  a : Option Addr
  c : Nat
  fs : List (Int × BSl)
def dk (p : Nat) (d : DS) : Asn := fun h => ∃ x : DX, cts x.fs = d.fs ∧
  sep [cells p [.int .i64 d.room, .map (some x.r), .slice x.a d.ws.length x.c, .bool d.on, .int .i64 d.lives] T_disk_Disk, mp KI x.r (mvs x.fs), arr WRT T_disk_write x.a x.c d.ws, many fch (x.fs.map (·.2))] h
theorem dk_at {p : Nat} {d : DS} (h : St W0 (dk p d :: L) W) : ∃ r a c fs, cts fs = d.fs ∧
    St W0 (cells p [.int .i64 d.room, .map (some r), .slice a d.ws.length c, .bool d.on, .int .i64 d.lives] T_disk_Disk :: mp KI r (mvs fs) :: arr WRT T_disk_write a c d.ws :: many fch (fs.map (·.2)) :: L) W := by
  obtain ⟨x, h⟩ := h.ex
  obtain ⟨h1, h⟩ := h.fact
  exact ⟨x.r, x.a, x.c, x.fs, h1, h.flat⟩
theorem dk_ent {p r : Nat} {d : DS} {a : Option Addr} {c : Nat} {fs : List (Int × BSl)} (h : cts fs = d.fs) :
    ent (cells p [.int .i64 d.room, .map (some r), .slice a d.ws.length c, .bool d.on, .int .i64 d.lives] T_disk_Disk :: mp KI r (mvs fs) :: arr WRT T_disk_write a c d.ws :: many fch (fs.map (·.2)) :: L) (dk p d :: L) :=
  (ent.pack [_, _, _, _] L).trans (ent.weak fun _ hp => ⟨⟨r, a, c, fs⟩, h, hp⟩)
theorem mget_mvs (fs : List (Int × BSl)) (f : Int) : (mget (mvs fs) f).getD (.slice none 0 0) = ((mget fs f).getD ⟨none, 0, []⟩).v := by
  rw [mvs, mget_map]
  cases mget fs f <;> rfl
theorem mget_mvs_some (fs : List (Int × BSl)) (f : Int) : (mget (mvs fs) f).isSome = (mget (cts fs) f).isSome := by
  rw [mvs, cts, mget_map, mget_map]
  cases mget fs f <;> rfl
theorem cont_cts (fs : List (Int × BSl)) (f : Int) : cont (cts fs) f = ((mget fs f).getD ⟨none, 0, []⟩).bs := by
  rw [cont, cts, mget_map]
  cases mget fs f <;> rfl

theorem diskNew {n : Int} {k : Value → World → Prop} (h : St W0 L W) (h0 : 64 ≤ n) (h1 : n ≤ 1048576)
    (hk : ∀ p W', St W0 (dk p ⟨n, [], [], true, 1⟩ :: L) W' → k (.tuple #[.pointer (some ⟨p, 0, none⟩), .int .i64 0]) W') : callK PR F_disk_New [.int .i64 n] k W := by
  apply S.disk_New.call
  unfold S.disk_New.body
  have e1 : decide (n < 64) = false := decide_eq_false (by omega)
  have e2 : decide (1048576 < n) = false := decide_eq_false (by omega)
  (repeat (first | (first | ((with_reducible first | refine w1 ?_ | refine w3 ?_ | refine w4 ?_ | refine w11 ?_ | refine stb_n ?_); intros) | ((with_reducible first | refine v5 ?_ | refine v6 ?_ | refine v7 ?_ | refine ve ?_ | refine vn ?_); refine ⟨_, rfl, ?_⟩) | ((with_reducible first | refine v8 ?_ ?_ | refine v9 ?_ ?_ | refine v10 ?_ ?_ | refine v12 ?_ ?_); exact rfl; intros) | ((with_reducible refine w2 ?_); try simp -implicitDefEqProofs only [SE, SU, SV, e1, e2]; intros) | ((with_reducible refine w5 ?_ ?_); simp; refine ⟨_, rfl, ?_⟩) | ((with_reducible refine w12 ?_ ?_ ?_ ?_); simp; simp; simp [oneC]; intros) | (refine okF_i (bldP_eq rfl) ?_; try simp only [BLS, SB, Nat.reduceAdd])) | simp -implicitDefEqProofs only [SE, SU, SV, e1, e2]))
  refine mkMap (K := KI) h fun r W1 h => ?_
  (repeat (first | (first | ((with_reducible first | refine w1 ?_ | refine w3 ?_ | refine w4 ?_ | refine w11 ?_ | refine stb_n ?_); intros) | ((with_reducible first | refine v5 ?_ | refine v6 ?_ | refine v7 ?_ | refine ve ?_ | refine vn ?_); refine ⟨_, rfl, ?_⟩) | ((with_reducible first | refine v8 ?_ ?_ | refine v9 ?_ ?_ | refine v10 ?_ ?_ | refine v12 ?_ ?_); exact rfl; intros) | ((with_reducible refine w2 ?_); try simp -implicitDefEqProofs only [SE, SU, SV]; intros) | ((with_reducible refine w5 ?_ ?_); simp; refine ⟨_, rfl, ?_⟩) | ((with_reducible refine w12 ?_ ?_ ?_ ?_); simp; simp; simp [oneC]; intros) | (refine okF_i (bldP_eq rfl) ?_; try simp only [BLS, SB, Nat.reduceAdd])) | simp -implicitDefEqProofs only [SE, SU, SV]))
  refine hk _ _ (St.ent (by first | assumption | exact St.tick (by assumption) | exact St.tick (St.tick (by assumption))) (((ent.cons _ (ent.cons _ ((arr_nil WRT T_disk_write).trans (ent.cons _ (many_nil (F := fch)))))).trans (dk_ent (d := ⟨n, [], [], true, 1⟩) (r := r) (a := none) (c := 0) (fs := []) rfl))))
theorem diskAsk {p : Nat} {d : DS} {f : Int} {k : Value → World → Prop} (h : St W0 L W) [ht : Tk (dk p) L d L'] (hk : ∀ W', St W0 (dk p d :: L') W' → k (.int .i64 (d.ask f)) W') : callK PR F_disk_Disk_ask [.pointer (some ⟨p, 0, none⟩), .int .i64 f] k W := by
  apply S.disk_Disk_ask.call
  unfold S.disk_Disk_ask.body
  obtain ⟨r, a, c, fs, hf, h⟩ := dk_at (h.perm ht.perm)
  unfold DS.ask at hk
  cases hon : d.on with
  | false =>
    rw [hon] at hk h
    (repeat (first | (first | ((with_reducible first | refine w1 ?_ | refine w3 ?_ | refine w4 ?_ | refine w11 ?_ | refine stb_n ?_); intros) | ((with_reducible first | refine v5 ?_ | refine v6 ?_ | refine v7 ?_ | refine ve ?_ | refine vn ?_); refine ⟨_, rfl, ?_⟩) | ((with_reducible first | refine v8 ?_ ?_ | refine v9 ?_ ?_ | refine v10 ?_ ?_ | refine v12 ?_ ?_); exact rfl; intros) | ((with_reducible refine w2 ?_); try simp -implicitDefEqProofs only [SE, SU, SV]; intros) | ((with_reducible refine w5 ?_ ?_); simp; refine ⟨_, rfl, ?_⟩) | ((with_reducible refine w12 ?_ ?_ ?_ ?_); simp; simp; simp [oneC]; intros) | (refine okF_i (bldP_eq rfl) ?_; try simp only [BLS, SB, Nat.reduceAdd])) | simp -implicitDefEqProofs only [SE, SU, SV]))
    refine hk _ ?_
    exact St.ent (by first | assumption | exact St.tick (by assumption) | exact St.tick (St.tick (by assumption))) (hon ▸ dk_ent (d := d) hf)
  | true =>
    rw [hon] at hk h
    have hend : ∀ W1, St W0 (cells p [.int .i64 d.room, .map (some r), .slice a d.ws.length c, .bool true, .int .i64 d.lives] T_disk_Disk :: mp KI r (mvs fs) :: arr WRT T_disk_write a c d.ws :: many fch (fs.map (·.2)) :: L') W1 → St W0 (dk p d :: L') W1 :=
      fun W1 h => h.ent (hon ▸ dk_ent (d := d) hf)
    simp only [Bool.not_true, Bool.false_eq_true, if_false] at hk
    by_cases h1 : f < 0
    · rw [if_pos (by omega)] at hk
      (repeat (first | (first | ((with_reducible first | refine w1 ?_ | refine w3 ?_ | refine w4 ?_ | refine w11 ?_ | refine stb_n ?_); intros) | ((with_reducible first | refine v5 ?_ | refine v6 ?_ | refine v7 ?_ | refine ve ?_ | refine vn ?_); refine ⟨_, rfl, ?_⟩) | ((with_reducible first | refine v8 ?_ ?_ | refine v9 ?_ ?_ | refine v10 ?_ ?_ | refine v12 ?_ ?_); exact rfl; intros) | ((with_reducible refine w2 ?_); try simp -implicitDefEqProofs only [SE, SU, SV, h1]; intros) | ((with_reducible refine w5 ?_ ?_); simp; refine ⟨_, rfl, ?_⟩) | ((with_reducible refine w12 ?_ ?_ ?_ ?_); simp; simp; simp [oneC]; intros) | (refine okF_i (bldP_eq rfl) ?_; try simp only [BLS, SB, Nat.reduceAdd])) | simp -implicitDefEqProofs only [SE, SU, SV, h1]))
      exact hk _ (hend _ (by first | assumption | exact St.tick (by assumption) | exact St.tick (St.tick (by assumption))))
    · by_cases h2 : 1000 ≤ f
      · rw [if_pos (by omega)] at hk
        (repeat (first | (first | ((with_reducible first | refine w1 ?_ | refine w3 ?_ | refine w4 ?_ | refine w11 ?_ | refine stb_n ?_); intros) | ((with_reducible first | refine v5 ?_ | refine v6 ?_ | refine v7 ?_ | refine ve ?_ | refine vn ?_); refine ⟨_, rfl, ?_⟩) | ((with_reducible first | refine v8 ?_ ?_ | refine v9 ?_ ?_ | refine v10 ?_ ?_ | refine v12 ?_ ?_); exact rfl; intros) | ((with_reducible refine w2 ?_); try simp -implicitDefEqProofs only [SE, SU, SV, h1, h2]; intros) | ((with_reducible refine w5 ?_ ?_); simp; refine ⟨_, rfl, ?_⟩) | ((with_reducible refine w12 ?_ ?_ ?_ ?_); simp; simp; simp [oneC]; intros) | (refine okF_i (bldP_eq rfl) ?_; try simp only [BLS, SB, Nat.reduceAdd])) | simp -implicitDefEqProofs only [SE, SU, SV, h1, h2]))
        exact hk _ (hend _ (by first | assumption | exact St.tick (by assumption) | exact St.tick (St.tick (by assumption))))
      · rw [if_neg (by omega)] at hk
        (repeat (first | (first | ((with_reducible first | refine w1 ?_ | refine w3 ?_ | refine w4 ?_ | refine w11 ?_ | refine stb_n ?_); intros) | ((with_reducible first | refine v5 ?_ | refine v6 ?_ | refine v7 ?_ | refine ve ?_ | refine vn ?_); refine ⟨_, rfl, ?_⟩) | ((with_reducible first | refine v8 ?_ ?_ | refine v9 ?_ ?_ | refine v10 ?_ ?_ | refine v12 ?_ ?_); exact rfl; intros) | ((with_reducible refine w2 ?_); try simp -implicitDefEqProofs only [SE, SU, SV, h1, h2]; intros) | ((with_reducible refine w5 ?_ ?_); simp; refine ⟨_, rfl, ?_⟩) | ((with_reducible refine w12 ?_ ?_ ?_ ?_); simp; simp; simp [oneC]; intros) | (refine okF_i (bldP_eq rfl) ?_; try simp only [BLS, SB, Nat.reduceAdd])) | simp -implicitDefEqProofs only [SE, SU, SV, h1, h2]))
        exact hk _ (hend _ (by first | assumption | exact St.tick (by assumption) | exact St.tick (St.tick (by assumption))))
theorem diskFind {p : Nat} {d : DS} {f : Int} {k : Value → World → Prop} (h : St W0 L W) [ht : Tk (dk p) L d L'] (hk : ∀ W', St W0 (dk p d :: L') W' → k (.int .i64 (d.find f)) W') : callK PR F_disk_Disk_find [.pointer (some ⟨p, 0, none⟩), .int .i64 f] k W := by
  apply S.disk_Disk_find.call
  unfold S.disk_Disk_find.body
  refine diskAsk h fun W1 h => ?_
  unfold DS.find at hk
  by_cases ha : d.ask f = 0
  · rw [ha] at hk ⊢
    obtain ⟨r, a, c, fs, hf, h⟩ := dk_at h
    simp only [ne_eq, not_true, if_false] at hk
    rw [← hf, ← mget_mvs_some] at hk
    (repeat (first | (first | ((with_reducible first | refine w1 ?_ | refine w3 ?_ | refine w4 ?_ | refine w11 ?_ | refine stb_n ?_); intros) | ((with_reducible first | refine v5 ?_ | refine v6 ?_ | refine v7 ?_ | refine ve ?_ | refine vn ?_); refine ⟨_, rfl, ?_⟩) | ((with_reducible first | refine v8 ?_ ?_ | refine v9 ?_ ?_ | refine v10 ?_ ?_ | refine v12 ?_ ?_); exact rfl; intros) | ((with_reducible refine w2 ?_); try simp -implicitDefEqProofs only [SE, SU, SV]; intros) | ((with_reducible refine w5 ?_ ?_); simp; refine ⟨_, rfl, ?_⟩) | ((with_reducible refine w12 ?_ ?_ ?_ ?_); simp; simp; simp [oneC]; intros) | (refine okF_i (bldP_eq rfl) ?_; try simp only [BLS, SB, Nat.reduceAdd])) | simp -implicitDefEqProofs only [SE, SU, SV]))
    refine lkpOk (K := KI) f (by first | assumption | exact St.tick (by assumption) | exact St.tick (St.tick (by assumption))) ?_
    cases hs : (mget (mvs fs) f).isSome with
    | true => rw [hs] at hk; (repeat (first | (first | ((with_reducible first | refine w1 ?_ | refine w3 ?_ | refine w4 ?_ | refine w11 ?_ | refine stb_n ?_); intros) | ((with_reducible first | refine v5 ?_ | refine v6 ?_ | refine v7 ?_ | refine ve ?_ | refine vn ?_); refine ⟨_, rfl, ?_⟩) | ((with_reducible first | refine v8 ?_ ?_ | refine v9 ?_ ?_ | refine v10 ?_ ?_ | refine v12 ?_ ?_); exact rfl; intros) | ((with_reducible refine w2 ?_); try simp -implicitDefEqProofs only [SE, SU, SV]; intros) | ((with_reducible refine w5 ?_ ?_); simp; refine ⟨_, rfl, ?_⟩) | ((with_reducible refine w12 ?_ ?_ ?_ ?_); simp; simp; simp [oneC]; intros) | (refine okF_i (bldP_eq rfl) ?_; try simp only [BLS, SB, Nat.reduceAdd])) | simp -implicitDefEqProofs only [SE, SU, SV])); exact hk _ (St.ent (by first | assumption | exact St.tick (by assumption) | exact St.tick (St.tick (by assumption))) (dk_ent (d := d) hf))
    | false => rw [hs] at hk; (repeat (first | (first | ((with_reducible first | refine w1 ?_ | refine w3 ?_ | refine w4 ?_ | refine w11 ?_ | refine stb_n ?_); intros) | ((with_reducible first | refine v5 ?_ | refine v6 ?_ | refine v7 ?_ | refine ve ?_ | refine vn ?_); refine ⟨_, rfl, ?_⟩) | ((with_reducible first | refine v8 ?_ ?_ | refine v9 ?_ ?_ | refine v10 ?_ ?_ | refine v12 ?_ ?_); exact rfl; intros) | ((with_reducible refine w2 ?_); try simp -implicitDefEqProofs only [SE, SU, SV]; intros) | ((with_reducible refine w5 ?_ ?_); simp; refine ⟨_, rfl, ?_⟩) | ((with_reducible refine w12 ?_ ?_ ?_ ?_); simp; simp; simp [oneC]; intros) | (refine okF_i (bldP_eq rfl) ?_; try simp only [BLS, SB, Nat.reduceAdd])) | simp -implicitDefEqProofs only [SE, SU, SV])); exact hk _ (St.ent (by first | assumption | exact St.tick (by assumption) | exact St.tick (St.tick (by assumption))) (dk_ent (d := d) hf))
  · have e1 : decide (d.ask f = 0) = false := decide_eq_false ha
    rw [if_pos ha] at hk
    (repeat (first | (first | ((with_reducible first | refine w1 ?_ | refine w3 ?_ | refine w4 ?_ | refine w11 ?_ | refine stb_n ?_); intros) | ((with_reducible first | refine v5 ?_ | refine v6 ?_ | refine v7 ?_ | refine ve ?_ | refine vn ?_); refine ⟨_, rfl, ?_⟩) | ((with_reducible first | refine v8 ?_ ?_ | refine v9 ?_ ?_ | refine v10 ?_ ?_ | refine v12 ?_ ?_); exact rfl; intros) | ((with_reducible refine w2 ?_); try simp -implicitDefEqProofs only [SE, SU, SV, e1]; intros) | ((with_reducible refine w5 ?_ ?_); simp; refine ⟨_, rfl, ?_⟩) | ((with_reducible refine w12 ?_ ?_ ?_ ?_); simp; simp; simp [oneC]; intros) | (refine okF_i (bldP_eq rfl) ?_; try simp only [BLS, SB, Nat.reduceAdd])) | simp -implicitDefEqProofs only [SE, SU, SV, e1]))
    exact hk _ (by first | assumption | exact St.tick (by assumption) | exact St.tick (St.tick (by assumption)))
end
end Go.Proofs.Ythladblmjoaeoaa
namespace Go.Proofs.Ythladblmjoaeoaa
set_option linter.unusedVariables false
set_option linter.unusedSimpArgs false
open Go Go.Eng

section
variable {W0 W : World} {L L' : List Asn}
theorem lens_app (a b : List (Int × List UInt8)) : lens (a ++ b) = lens a + lens b := by simp [lens, List.sum_append]
theorem diskSize {p : Nat} {d : DS} {k : Value → World → Prop} (h : St W0 L W) [ht : Tk (dk p) L d L'] (hs : lens d.fs ≤ 1048576) (hk : ∀ W', St W0 (dk p d :: L') W' → k (.int .i64 (lens d.fs)) W') : callK PR F_disk_Disk_size [.pointer (some ⟨p, 0, none⟩)] k W := by
  apply S.disk_Disk_size.call
  unfold S.disk_Disk_size.body
  obtain ⟨r, a, c, fs, hf, h⟩ := dk_at (h.perm ht.perm)
  refine joinK_i ?_
  (repeat (first | (first | ((with_reducible first | refine w1 ?_ | refine w3 ?_ | refine w4 ?_ | refine w11 ?_ | refine stb_n ?_); intros) | ((with_reducible first | refine v5 ?_ | refine v6 ?_ | refine v7 ?_ | refine ve ?_ | refine vn ?_); refine ⟨_, rfl, ?_⟩) | ((with_reducible first | refine v8 ?_ ?_ | refine v9 ?_ ?_ | refine v10 ?_ ?_ | refine v12 ?_ ?_); exact rfl; intros) | ((with_reducible refine w2 ?_); try simp -implicitDefEqProofs only [SE, SU, SV]; intros) | ((with_reducible refine w5 ?_ ?_); simp; refine ⟨_, rfl, ?_⟩) | ((with_reducible refine w12 ?_ ?_ ?_ ?_); simp; simp; simp [oneC]; intros) | (refine okF_i (bldP_eq rfl) ?_; try simp only [BLS, SB, Nat.reduceAdd])) | simp -implicitDefEqProofs only [SE, SU, SV]))
  refine rangeM (K := KI) (by first | assumption | exact St.tick (by assumption) | exact St.tick (St.tick (by assumption))) fun b W1 h => ?_
  refine loop_x (σ := List (Int × BSl)) (fun gs => [.int .i64 (lens d.fs - lens (cts gs)), .pointer (some ⟨b, 0, none⟩)])
    (fun gs W1 => lens (cts gs) ≤ lens d.fs ∧ ∃ cur, St W0 (mpi KI r b (mvs fs) (mvs gs) cur :: cells p [.int .i64 d.room, .map (some r), .slice a d.ws.length c, .bool d.on, .int .i64 d.lives] T_disk_Disk :: arr WRT T_disk_write a c d.ws :: many fch (fs.map (·.2)) :: L') W1)
    List.length fs (by rw [hf, Int.sub_self]) ⟨by rw [hf]; omega, none, h⟩ ?_
  rintro K gs W2 ⟨hle, cur, h⟩ hK
  simp -implicitDefEqProofs only [SE, SU, SV]
  unfold S.disk_Disk_size.l1
  refine nextM h (fun h0 => ?_) (fun pre f v post W3 h1 h => ?_)
  · have : gs = [] := by simpa [mvs] using h0
    subst this
    (repeat (first | (first | ((with_reducible first | refine w1 ?_ | refine w3 ?_ | refine w4 ?_ | refine w11 ?_ | refine stb_n ?_); intros) | ((with_reducible first | refine v5 ?_ | refine v6 ?_ | refine v7 ?_ | refine ve ?_ | refine vn ?_); refine ⟨_, rfl, ?_⟩) | ((with_reducible first | refine v8 ?_ ?_ | refine v9 ?_ ?_ | refine v10 ?_ ?_ | refine v12 ?_ ?_); exact rfl; intros) | ((with_reducible refine w2 ?_); try simp -implicitDefEqProofs only [SE, SU, SV]; intros) | ((with_reducible refine w5 ?_ ?_); simp; refine ⟨_, rfl, ?_⟩) | ((with_reducible refine w12 ?_ ?_ ?_ ?_); simp; simp; simp [oneC]; intros) | (refine okF_i (bldP_eq rfl) ?_; try simp only [BLS, SB, Nat.reduceAdd])) | simp -implicitDefEqProofs only [SE, SU, SV]))
    unfold S.disk_Disk_size.j1
    have e : lens d.fs - lens (cts []) = lens d.fs := by simp [lens, cts]
    rw [e]
    exact hk _ ((h.mpiEnd.ent (ent.swap _ _ _)).ent (dk_ent (d := d) hf))
  · obtain ⟨A, tl, rfl, rfl, h2⟩ := List.map_eq_append_iff.1 h1
    obtain ⟨x, B, rfl, h3, rfl⟩ := List.map_eq_cons_iff.1 h2
    simp only [Prod.mk.injEq] at h3
    obtain ⟨rfl, rfl⟩ := h3
    (repeat (first | (first | ((with_reducible first | refine w1 ?_ | refine w3 ?_ | refine w4 ?_ | refine w11 ?_ | refine stb_n ?_); intros) | ((with_reducible first | refine v5 ?_ | refine v6 ?_ | refine v7 ?_ | refine ve ?_ | refine vn ?_); refine ⟨_, rfl, ?_⟩) | ((with_reducible first | refine v8 ?_ ?_ | refine v9 ?_ ?_ | refine v10 ?_ ?_ | refine v12 ?_ ?_); exact rfl; intros) | ((with_reducible refine w2 ?_); try simp -implicitDefEqProofs only [SE, SU, SV]; intros) | ((with_reducible refine w5 ?_ ?_); simp; refine ⟨_, rfl, ?_⟩) | ((with_reducible refine w12 ?_ ?_ ?_ ?_); simp; simp; simp [oneC]; intros) | (refine okF_i (bldP_eq rfl) ?_; try simp only [BLS, SB, Nat.reduceAdd])) | simp -implicitDefEqProofs only [SE, SU, SV]))
    refine entryM h ?_
    have hc : cts (A ++ x :: B) = cts A ++ (x.1, x.2.bs) :: cts B := by simp [cts]
    have hc2 : cts (A ++ B) = cts A ++ cts B := by simp [cts]
    have e : lens (cts (A ++ x :: B)) = lens (cts (A ++ B)) + x.2.bs.length := by
      rw [hc, hc2, lens_app, lens_app]
      have : lens ((x.1, x.2.bs) :: cts B) = x.2.bs.length + lens (cts B) := by simp [lens]
      rw [this]; omega
    have hn := lens_nonneg (cts (A ++ B))
    have ew : IntKind.i64.wrap (lens d.fs - lens (cts (A ++ x :: B)) + (x.2.bs.length : Int)) = lens d.fs - lens (cts (A ++ B)) := by rw [e, i64w]; omega
    (repeat (first | (first | ((with_reducible first | refine w1 ?_ | refine w3 ?_ | refine w4 ?_ | refine w11 ?_ | refine stb_n ?_); intros) | ((with_reducible first | refine v5 ?_ | refine v6 ?_ | refine v7 ?_ | refine ve ?_ | refine vn ?_); refine ⟨_, rfl, ?_⟩) | ((with_reducible first | refine v8 ?_ ?_ | refine v9 ?_ ?_ | refine v10 ?_ ?_ | refine v12 ?_ ?_); exact rfl; intros) | ((with_reducible refine w2 ?_); try simp -implicitDefEqProofs only [SE, SU, SV, ew]; intros) | ((with_reducible refine w5 ?_ ?_); simp; refine ⟨_, rfl, ?_⟩) | ((with_reducible refine w12 ?_ ?_ ?_ ?_); simp; simp; simp [oneC]; intros) | (refine okF_i (bldP_eq rfl) ?_; try simp only [BLS, SB, Nat.reduceAdd])) | simp -implicitDefEqProofs only [SE, SU, SV, ew]))
    refine hK (A ++ B) _ (by simp) ⟨by omega, some (x.1, x.2.v), ?_⟩
    have : mvs (A ++ B) = mvs A ++ mvs B := by simp [mvs]
    rw [this]
    exact h
theorem diskOn {p : Nat} {d : DS} {k : Value → World → Prop} (h : St W0 L W) [ht : Tk (dk p) L d L'] (hk : ∀ W', St W0 (dk p d.power :: L') W' → k (.tuple #[]) W') : callK PR F_disk_Disk_On [.pointer (some ⟨p, 0, none⟩)] k W := by
  apply S.disk_Disk_On.call
  unfold S.disk_Disk_On.body
  obtain ⟨r, a, c, fs, hf, h⟩ := dk_at (h.perm ht.perm)
  (repeat (first | (first | ((with_reducible first | refine w1 ?_ | refine w3 ?_ | refine w4 ?_ | refine w11 ?_ | refine stb_n ?_); intros) | ((with_reducible first | refine v5 ?_ | refine v6 ?_ | refine v7 ?_ | refine ve ?_ | refine vn ?_); refine ⟨_, rfl, ?_⟩) | ((with_reducible first | refine v8 ?_ ?_ | refine v9 ?_ ?_ | refine v10 ?_ ?_ | refine v12 ?_ ?_); exact rfl; intros) | ((with_reducible refine w2 ?_); try simp -implicitDefEqProofs only [SE, SU, SV]; intros) | ((with_reducible refine w5 ?_ ?_); simp; refine ⟨_, rfl, ?_⟩) | ((with_reducible refine w12 ?_ ?_ ?_ ?_); simp; simp; simp [oneC]; intros) | (refine okF_i (bldP_eq rfl) ?_; try simp only [BLS, SB, Nat.reduceAdd])) | simp -implicitDefEqProofs only [SE, SU, SV]))
  exact hk _ (St.ent (by first | assumption | exact St.tick (by assumption) | exact St.tick (St.tick (by assumption))) (dk_ent (d := d.power) hf))
theorem diskPower {p : Nat} {d : DS} {k : Value → World → Prop} (h : St W0 L W) [ht : Tk (dk p) L d L'] (hk : ∀ W', St W0 (dk p d :: L') W' → k (.bool d.on) W') : callK PR F_disk_Disk_Power [.pointer (some ⟨p, 0, none⟩)] k W := by
  apply S.disk_Disk_Power.call
  unfold S.disk_Disk_Power.body
  obtain ⟨r, a, c, fs, hf, h⟩ := dk_at (h.perm ht.perm)
  (repeat (first | (first | ((with_reducible first | refine w1 ?_ | refine w3 ?_ | refine w4 ?_ | refine w11 ?_ | refine stb_n ?_); intros) | ((with_reducible first | refine v5 ?_ | refine v6 ?_ | refine v7 ?_ | refine ve ?_ | refine vn ?_); refine ⟨_, rfl, ?_⟩) | ((with_reducible first | refine v8 ?_ ?_ | refine v9 ?_ ?_ | refine v10 ?_ ?_ | refine v12 ?_ ?_); exact rfl; intros) | ((with_reducible refine w2 ?_); try simp -implicitDefEqProofs only [SE, SU, SV]; intros) | ((with_reducible refine w5 ?_ ?_); simp; refine ⟨_, rfl, ?_⟩) | ((with_reducible refine w12 ?_ ?_ ?_ ?_); simp; simp; simp [oneC]; intros) | (refine okF_i (bldP_eq rfl) ?_; try simp only [BLS, SB, Nat.reduceAdd])) | simp -implicitDefEqProofs only [SE, SU, SV]))
  exact hk _ (St.ent (by first | assumption | exact St.tick (by assumption) | exact St.tick (St.tick (by assumption))) (dk_ent (d := d) hf))
theorem diskLives {p : Nat} {d : DS} {k : Value → World → Prop} (h : St W0 L W) [ht : Tk (dk p) L d L'] (hk : ∀ W', St W0 (dk p d :: L') W' → k (.int .i64 d.lives) W') : callK PR F_disk_Disk_Lives [.pointer (some ⟨p, 0, none⟩)] k W := by
  apply S.disk_Disk_Lives.call
  unfold S.disk_Disk_Lives.body
  obtain ⟨r, a, c, fs, hf, h⟩ := dk_at (h.perm ht.perm)
  (repeat (first | (first | ((with_reducible first | refine w1 ?_ | refine w3 ?_ | refine w4 ?_ | refine w11 ?_ | refine stb_n ?_); intros) | ((with_reducible first | refine v5 ?_ | refine v6 ?_ | refine v7 ?_ | refine ve ?_ | refine vn ?_); refine ⟨_, rfl, ?_⟩) | ((with_reducible first | refine v8 ?_ ?_ | refine v9 ?_ ?_ | refine v10 ?_ ?_ | refine v12 ?_ ?_); exact rfl; intros) | ((with_reducible refine w2 ?_); try simp -implicitDefEqProofs only [SE, SU, SV]; intros) | ((with_reducible refine w5 ?_ ?_); simp; refine ⟨_, rfl, ?_⟩) | ((with_reducible refine w12 ?_ ?_ ?_ ?_); simp; simp; simp [oneC]; intros) | (refine okF_i (bldP_eq rfl) ?_; try simp only [BLS, SB, Nat.reduceAdd])) | simp -implicitDefEqProofs only [SE, SU, SV]))
  exact hk _ (St.ent (by first | assumption | exact St.tick (by assumption) | exact St.tick (St.tick (by assumption))) (dk_ent (d := d) hf))
theorem find_some {d : DS} {f : Int} (h : d.find f = 0) : (mget d.fs f).isSome = true ∧ d.ask f = 0 := by
  unfold DS.find at h
  split at h
  · rename_i h1; exact absurd h h1
  · rename_i h1
    have h1 : d.ask f = 0 := by omega
    split at h
    · rename_i h2; exact ⟨h2, h1⟩
    · cases h
theorem many_back {fs : List (Int × BSl)} {f : Int} {x : BSl} (h : mget fs f = some x) : ent (fch x :: many fch ((mdel fs f).map (·.2)) :: L) (many fch (fs.map (·.2)) :: L) :=
  (many_uncons x _).trans (many_perm (List.Perm.map (fun x : Int × BSl => x.2) (mdel_perm h)).symm)
theorem diskRead {p : Nat} {d : DS} {f : Int} {k : Value → World → Prop} (h : St W0 L W) [ht : Tk (dk p) L d L'] (hs : lens d.fs ≤ 1048576)
    (hk : ∀ a c W', St W0 (arr B8 T_uint8 a c (d.read f).1 :: dk p d :: L') W' → k (.tuple #[.slice a (d.read f).1.length c, .int .i64 (d.read f).2]) W') : callK PR F_disk_Disk_Read [.pointer (some ⟨p, 0, none⟩), .int .i64 f] k W := by
  apply S.disk_Disk_Read.call
  unfold S.disk_Disk_Read.body
  refine diskFind h fun W1 h => ?_
  unfold DS.read at hk
  by_cases ha : d.find f = 0
  · rw [ha] at hk ⊢
    obtain ⟨r, a, c, fs, hf, h⟩ := dk_at h
    simp only [ne_eq, not_true, if_false] at hk
    have hcl := lens_cont d.fs f
    rw [← hf, cont_cts] at hk hcl
    have hsm := (find_some ha).1
    rw [← hf] at hs
    rw [← hf, ← mget_mvs_some, mvs, mget_map] at hsm
    obtain ⟨y, hy⟩ : ∃ y, mget fs f = some y := by
      cases hm : mget fs f with
      | none => rw [hm] at hsm; cases hsm
      | some y => exact ⟨y, rfl⟩
    (repeat (first | (first | ((with_reducible first | refine w1 ?_ | refine w3 ?_ | refine w4 ?_ | refine w11 ?_ | refine stb_n ?_); intros) | ((with_reducible first | refine v5 ?_ | refine v6 ?_ | refine v7 ?_ | refine ve ?_ | refine vn ?_); refine ⟨_, rfl, ?_⟩) | ((with_reducible first | refine v8 ?_ ?_ | refine v9 ?_ ?_ | refine v10 ?_ ?_ | refine v12 ?_ ?_); exact rfl; intros) | ((with_reducible refine w2 ?_); try simp -implicitDefEqProofs only [SE, SU, SV]; intros) | ((with_reducible refine w5 ?_ ?_); simp; refine ⟨_, rfl, ?_⟩) | ((with_reducible refine w12 ?_ ?_ ?_ ?_); simp; simp; simp [oneC]; intros) | (refine okF_i (bldP_eq rfl) ?_; try simp only [BLS, SB, Nat.reduceAdd])) | simp -implicitDefEqProofs only [SE, SU, SV]))
    refine lkp (K := KI) (z := .slice none 0 0) f (by first | assumption | exact St.tick (by assumption) | exact St.tick (St.tick (by assumption))) ?_
    rw [mget_mvs]
    have h' := St.ent (by first | assumption | exact St.tick (by assumption) | exact St.tick (St.tick (by assumption))) (ent.cons _ (ent.cons _ (ent.cons _ (many_take (F := fch) f ⟨none, 0, []⟩ fch0))))
    rw [hy] at h' hk hcl ⊢
    simp only [Option.getD_some] at h' hk hcl ⊢
    have h'' : St W0 (_ :: _ :: _ :: arr B8 T_uint8 y.a y.c y.bs :: _) _ := h'
    refine bytesClone (a := y.a) (l := y.bs) h'' (by omega) fun a1 c1 W2 h => ?_
    (repeat (first | (first | ((with_reducible first | refine w1 ?_ | refine w3 ?_ | refine w4 ?_ | refine w11 ?_ | refine stb_n ?_); intros) | ((with_reducible first | refine v5 ?_ | refine v6 ?_ | refine v7 ?_ | refine ve ?_ | refine vn ?_); refine ⟨_, rfl, ?_⟩) | ((with_reducible first | refine v8 ?_ ?_ | refine v9 ?_ ?_ | refine v10 ?_ ?_ | refine v12 ?_ ?_); exact rfl; intros) | ((with_reducible refine w2 ?_); try simp -implicitDefEqProofs only [SE, SU, SV]; intros) | ((with_reducible refine w5 ?_ ?_); simp; refine ⟨_, rfl, ?_⟩) | ((with_reducible refine w12 ?_ ?_ ?_ ?_); simp; simp; simp [oneC]; intros) | (refine okF_i (bldP_eq rfl) ?_; try simp only [BLS, SB, Nat.reduceAdd])) | simp -implicitDefEqProofs only [SE, SU, SV]))
    exact hk a1 c1 _ (h.ent (ent.cons _ ((ent.cons _ (ent.cons _ (ent.cons _ (many_back hy)))).trans (dk_ent (d := d) hf))))
  · have e1 : decide (d.find f = 0) = false := decide_eq_false ha
    rw [if_pos ha] at hk
    (repeat (first | (first | ((with_reducible first | refine w1 ?_ | refine w3 ?_ | refine w4 ?_ | refine w11 ?_ | refine stb_n ?_); intros) | ((with_reducible first | refine v5 ?_ | refine v6 ?_ | refine v7 ?_ | refine ve ?_ | refine vn ?_); refine ⟨_, rfl, ?_⟩) | ((with_reducible first | refine v8 ?_ ?_ | refine v9 ?_ ?_ | refine v10 ?_ ?_ | refine v12 ?_ ?_); exact rfl; intros) | ((with_reducible refine w2 ?_); try simp -implicitDefEqProofs only [SE, SU, SV, e1]; intros) | ((with_reducible refine w5 ?_ ?_); simp; refine ⟨_, rfl, ?_⟩) | ((with_reducible refine w12 ?_ ?_ ?_ ?_); simp; simp; simp [oneC]; intros) | (refine okF_i (bldP_eq rfl) ?_; try simp only [BLS, SB, Nat.reduceAdd])) | simp -implicitDefEqProofs only [SE, SU, SV, e1]))
    exact hk none 0 _ (St.ent (by first | assumption | exact St.tick (by assumption) | exact St.tick (St.tick (by assumption))) (arr_nil _ _))
end
end Go.Proofs.Ythladblmjoaeoaa
namespace Go.Proofs.Ythladblmjoaeoaa
set_option linter.unusedVariables false
set_option linter.unusedSimpArgs false
open Go Go.Eng

section
variable {W0 W : World} {L L' : List Asn}
theorem ent.p4 (a b c d : Asn) (L : List Asn) : ent (a :: b :: c :: d :: L) (d :: b :: a :: c :: L) :=
  (ent.swap a b _).trans ((ent.cons b ((ent.cons a (ent.swap c d L)).trans (ent.swap a d _))).trans (ent.swap b d _))
theorem diskAppend {p : Nat} {d : DS} {f : Int} {a : Option Addr} {c : Nat} {bs : List UInt8} {k : Value → World → Prop} (h : St W0 L W) [ht : Tk (dk p) L d L'] [hr : Rd W0 L' a B8 bs] (hd : d.ok) (hb : bs.length < 16777216) (hw : d.ws.length < 1000000)
    (hk : ∀ W', St W0 (dk p (d.append f bs).1 :: L') W' → k (.int .i64 (d.append f bs).2) W') : callK PR F_disk_Disk_Append [.pointer (some ⟨p, 0, none⟩), .int .i64 f, .slice a bs.length c] k W := by
  apply S.disk_Disk_Append.call
  unfold S.disk_Disk_Append.body
  refine diskAsk h fun W1 h => ?_
  unfold DS.append at hk
  obtain ⟨hd1, hd2, hd3⟩ := hd
  by_cases ha : d.ask f = 0
  · rw [ha] at hk ⊢
    simp only [ne_eq, not_true, if_false] at hk
    have hln := lens_nonneg d.fs
    have hcl := lens_cont d.fs f
    have ew : IntKind.i64.wrap (d.room - lens d.fs) = d.room - lens d.fs := by rw [i64w]; omega
    obtain ⟨r, wa, wc, fs, hf, h1⟩ := dk_at h
    (repeat (first | (first | ((with_reducible first | refine w1 ?_ | refine w3 ?_ | refine w4 ?_ | refine w11 ?_ | refine stb_n ?_); intros) | ((with_reducible first | refine v5 ?_ | refine v6 ?_ | refine v7 ?_ | refine ve ?_ | refine vn ?_); refine ⟨_, rfl, ?_⟩) | ((with_reducible first | refine v8 ?_ ?_ | refine v9 ?_ ?_ | refine v10 ?_ ?_ | refine v12 ?_ ?_); exact rfl; intros) | ((with_reducible refine w2 ?_); try simp -implicitDefEqProofs only [SE, SU, SV]; intros) | ((with_reducible refine w5 ?_ ?_); simp; refine ⟨_, rfl, ?_⟩) | ((with_reducible refine w12 ?_ ?_ ?_ ?_); simp; simp; simp [oneC]; intros) | (refine okF_i (bldP_eq rfl) ?_; try simp only [BLS, SB, Nat.reduceAdd])) | simp -implicitDefEqProofs only [SE, SU, SV]))
    clear h1
    refine diskSize (d := d) (St.tick h) (by omega) fun W2 h => ?_
    obtain ⟨r, wa, wc, fs, hf, h1⟩ := dk_at h
    clear h
    by_cases hfull : d.room - lens d.fs < (bs.length : Int)
    · rw [if_pos hfull] at hk
      (repeat (first | (first | ((with_reducible first | refine w1 ?_ | refine w3 ?_ | refine w4 ?_ | refine w11 ?_ | refine stb_n ?_); intros) | ((with_reducible first | refine v5 ?_ | refine v6 ?_ | refine v7 ?_ | refine ve ?_ | refine vn ?_); refine ⟨_, rfl, ?_⟩) | ((with_reducible first | refine v8 ?_ ?_ | refine v9 ?_ ?_ | refine v10 ?_ ?_ | refine v12 ?_ ?_); exact rfl; intros) | ((with_reducible refine w2 ?_); try simp -implicitDefEqProofs only [SE, SU, SV, ew, hfull]; intros) | ((with_reducible refine w5 ?_ ?_); simp; refine ⟨_, rfl, ?_⟩) | ((with_reducible refine w12 ?_ ?_ ?_ ?_); simp; simp; simp [oneC]; intros) | (refine okF_i (bldP_eq rfl) ?_; try simp only [BLS, SB, Nat.reduceAdd])) | simp -implicitDefEqProofs only [SE, SU, SV, ew, hfull]))
      exact hk _ (St.ent (by first | assumption | exact St.tick (by assumption) | exact St.tick (St.tick (by assumption))) (dk_ent (d := d) hf))
    rw [if_neg hfull] at hk
    (repeat (first | (first | ((with_reducible first | refine w1 ?_ | refine w3 ?_ | refine w4 ?_ | refine w11 ?_ | refine stb_n ?_); intros) | ((with_reducible first | refine v5 ?_ | refine v6 ?_ | refine v7 ?_ | refine ve ?_ | refine vn ?_); refine ⟨_, rfl, ?_⟩) | ((with_reducible first | refine v8 ?_ ?_ | refine v9 ?_ ?_ | refine v10 ?_ ?_ | refine v12 ?_ ?_); exact rfl; intros) | ((with_reducible refine w2 ?_); try simp -implicitDefEqProofs only [SE, SU, SV, ew, hfull]; intros) | ((with_reducible refine w5 ?_ ?_); simp; refine ⟨_, rfl, ?_⟩) | ((with_reducible refine w12 ?_ ?_ ?_ ?_); simp; simp; simp [oneC]; intros) | (refine okF_i (bldP_eq rfl) ?_; try simp only [BLS, SB, Nat.reduceAdd])) | simp -implicitDefEqProofs only [SE, SU, SV, ew, hfull]))
    refine lkp (K := KI) (z := .slice none 0 0) f (by first | assumption | exact St.tick (by assumption) | exact St.tick (St.tick (by assumption))) ?_
    rw [mget_mvs]
    (repeat (first | (first | ((with_reducible first | refine w1 ?_ | refine w3 ?_ | refine w4 ?_ | refine w11 ?_ | refine stb_n ?_); intros) | ((with_reducible first | refine v5 ?_ | refine v6 ?_ | refine v7 ?_ | refine ve ?_ | refine vn ?_); refine ⟨_, rfl, ?_⟩) | ((with_reducible first | refine v8 ?_ ?_ | refine v9 ?_ ?_ | refine v10 ?_ ?_ | refine v12 ?_ ?_); exact rfl; intros) | ((with_reducible refine w2 ?_); try simp -implicitDefEqProofs only [SE, SU, SV]; intros) | ((with_reducible refine w5 ?_ ?_); simp; refine ⟨_, rfl, ?_⟩) | ((with_reducible refine w12 ?_ ?_ ?_ ?_); simp; simp; simp [oneC]; intros) | (refine okF_i (bldP_eq rfl) ?_; try simp only [BLS, SB, Nat.reduceAdd])) | simp -implicitDefEqProofs only [SE, SU, SV]))
    refine lkp (K := KI) (z := .slice none 0 0) f (by first | assumption | exact St.tick (by assumption) | exact St.tick (St.tick (by assumption))) ?_
    rw [mget_mvs]
    have h' := St.ent (by first | assumption | exact St.tick (by assumption) | exact St.tick (St.tick (by assumption))) (ent.cons _ (ent.cons _ (ent.cons _ (many_take (F := fch) f ⟨none, 0, []⟩ fch0))))
    rw [← hf, cont_cts] at hk hcl
    generalize hy : (mget fs f).getD ⟨none, 0, []⟩ = y at *
    have h'' : St W0 (_ :: _ :: _ :: arr B8 T_uint8 y.a y.c y.bs :: _) _ := h'
    clear h'
    clear h1
    have hyl : (y.bs.length : Int) ≤ 1048576 := by rw [hf] at hcl; omega
    clear ew
    have e2 : IntKind.i64.wrap ((y.bs.length : Int) + (bs.length : Int)) = (y.bs.length : Int) + (bs.length : Int) := by rw [i64w]; omega
    (repeat (first | (first | ((with_reducible first | refine w1 ?_ | refine w3 ?_ | refine w4 ?_ | refine w11 ?_ | refine stb_n ?_); intros) | ((with_reducible first | refine v5 ?_ | refine v6 ?_ | refine v7 ?_ | refine ve ?_ | refine vn ?_); refine ⟨_, rfl, ?_⟩) | ((with_reducible first | refine v8 ?_ ?_ | refine v9 ?_ ?_ | refine v10 ?_ ?_ | refine v12 ?_ ?_); exact rfl; intros) | ((with_reducible refine w2 ?_); try simp -implicitDefEqProofs only [SE, SU, SV, e2]; intros) | ((with_reducible refine w5 ?_ ?_); simp; refine ⟨_, rfl, ?_⟩) | ((with_reducible refine w12 ?_ ?_ ?_ ?_); simp; simp; simp [oneC]; intros) | (refine okF_i (bldP_eq rfl) ?_; try simp only [BLS, SB, Nat.reduceAdd])) | simp -implicitDefEqProofs only [SE, SU, SV, e2]))
    refine appA (a := y.a) (l := y.bs) (m := bs) (St.tick h'') rfl (by omega) (by simp only [maxLen]; omega) fun a1 c1 W3 h => ?_
    clear h''
    (repeat (first | (first | ((with_reducible first | refine w1 ?_ | refine w3 ?_ | refine w4 ?_ | refine w11 ?_ | refine stb_n ?_); intros) | ((with_reducible first | refine v5 ?_ | refine v6 ?_ | refine v7 ?_ | refine ve ?_ | refine vn ?_); refine ⟨_, rfl, ?_⟩) | ((with_reducible first | refine v8 ?_ ?_ | refine v9 ?_ ?_ | refine v10 ?_ ?_ | refine v12 ?_ ?_); exact rfl; intros) | ((with_reducible refine w2 ?_); try simp -implicitDefEqProofs only [SE, SU, SV]; intros) | ((with_reducible refine w5 ?_ ?_); simp; refine ⟨_, rfl, ?_⟩) | ((with_reducible refine w12 ?_ ?_ ?_ ?_); simp; simp; simp [oneC]; intros) | (refine okF_i (bldP_eq rfl) ?_; try simp only [BLS, SB, Nat.reduceAdd])) | simp -implicitDefEqProofs only [SE, SU, SV]))
    refine mset (K := KI) f (by first | assumption | exact St.tick (by assumption) | exact St.tick (St.tick (by assumption))) fun W4 h => ?_
    (repeat (first | (first | ((with_reducible first | refine w1 ?_ | refine w3 ?_ | refine w4 ?_ | refine w11 ?_ | refine stb_n ?_); intros) | ((with_reducible first | refine v5 ?_ | refine v6 ?_ | refine v7 ?_ | refine ve ?_ | refine vn ?_); refine ⟨_, rfl, ?_⟩) | ((with_reducible first | refine v8 ?_ ?_ | refine v9 ?_ ?_ | refine v10 ?_ ?_ | refine v12 ?_ ?_); exact rfl; intros) | ((with_reducible refine w2 ?_); try simp -implicitDefEqProofs only [SE, SU, SV]; intros) | ((with_reducible refine w5 ?_ ?_); simp; refine ⟨_, rfl, ?_⟩) | ((with_reducible refine w12 ?_ ?_ ?_ ?_); simp; simp; simp [oneC]; intros) | (refine okF_i (bldP_eq rfl) ?_; try simp only [BLS, SB, Nat.reduceAdd])) | simp -implicitDefEqProofs only [SE, SU, SV]))
    refine pushA (A := WRT) ((f, (y.bs.length : Int), (y.bs.length : Int) + (bs.length : Int)) : Wr) (l := d.ws) (by first | assumption | exact St.tick (by assumption) | exact St.tick (St.tick (by assumption))) rfl rfl (by omega) (by simp only [maxLen]; omega) (by decide) fun a2 c2 W5 h => ?_
    (repeat (first | (first | ((with_reducible first | refine w1 ?_ | refine w3 ?_ | refine w4 ?_ | refine w11 ?_ | refine stb_n ?_); intros) | ((with_reducible first | refine v5 ?_ | refine v6 ?_ | refine v7 ?_ | refine ve ?_ | refine vn ?_); refine ⟨_, rfl, ?_⟩) | ((with_reducible first | refine v8 ?_ ?_ | refine v9 ?_ ?_ | refine v10 ?_ ?_ | refine v12 ?_ ?_); exact rfl; intros) | ((with_reducible refine w2 ?_); try simp -implicitDefEqProofs only [SE, SU, SV]; intros) | ((with_reducible refine w5 ?_ ?_); simp; refine ⟨_, rfl, ?_⟩) | ((with_reducible refine w12 ?_ ?_ ?_ ?_); simp; simp; simp [oneC]; intros) | (refine okF_i (bldP_eq rfl) ?_; try simp only [BLS, SB, Nat.reduceAdd])) | simp -implicitDefEqProofs only [SE, SU, SV]))
    rename_i h
    have h' : St W0 (arr WRT T_disk_write a2 c2 (d.ws ++ [(f, (y.bs.length : Int), (y.bs.length : Int) + (bs.length : Int))]) :: mp KI r (mput (mvs fs) f (BSl.v ⟨a1, c1, y.bs ++ bs⟩)) :: fch ⟨a1, c1, y.bs ++ bs⟩ ::
      cells p [.int .i64 d.room, .map (some r), .slice a2 (d.ws ++ [(f, (y.bs.length : Int), (y.bs.length : Int) + (bs.length : Int))]).length c2, .bool d.on, .int .i64 d.lives] T_disk_Disk :: many fch ((mdel fs f).map (·.2)) :: L') _ := h
    rw [show mput (mvs fs) f (BSl.v ⟨a1, c1, y.bs ++ bs⟩) = mvs (mput fs f ⟨a1, c1, y.bs ++ bs⟩) from mput_map BSl.v fs f _] at h'
    refine hk _ ((h'.ent (ent.p4 _ _ _ _ _)).ent ((ent.cons _ (ent.cons _ (ent.cons _ (many_put f _)))).trans (dk_ent (d := ⟨d.room, mput (cts fs) f (y.bs ++ bs), d.ws ++ [(f, (y.bs.length : Int), (y.bs.length : Int) + (bs.length : Int))], d.on, d.lives⟩) ?_)))
    exact (mput_map BSl.bs fs f ⟨a1, c1, y.bs ++ bs⟩).symm
  · have e1 : decide (d.ask f = 0) = false := decide_eq_false ha
    rw [if_pos ha] at hk
    (repeat (first | (first | ((with_reducible first | refine w1 ?_ | refine w3 ?_ | refine w4 ?_ | refine w11 ?_ | refine stb_n ?_); intros) | ((with_reducible first | refine v5 ?_ | refine v6 ?_ | refine v7 ?_ | refine ve ?_ | refine vn ?_); refine ⟨_, rfl, ?_⟩) | ((with_reducible first | refine v8 ?_ ?_ | refine v9 ?_ ?_ | refine v10 ?_ ?_ | refine v12 ?_ ?_); exact rfl; intros) | ((with_reducible refine w2 ?_); try simp -implicitDefEqProofs only [SE, SU, SV, e1]; intros) | ((with_reducible refine w5 ?_ ?_); simp; refine ⟨_, rfl, ?_⟩) | ((with_reducible refine w12 ?_ ?_ ?_ ?_); simp; simp; simp [oneC]; intros) | (refine okF_i (bldP_eq rfl) ?_; try simp only [BLS, SB, Nat.reduceAdd])) | simp -implicitDefEqProofs only [SE, SU, SV, e1]))
    exact hk _ (by first | assumption | exact St.tick (by assumption) | exact St.tick (St.tick (by assumption)))
end
end Go.Proofs.Ythladblmjoaeoaa
namespace Go.Proofs.Ythladblmjoaeoaa
set_option linter.unusedVariables false
set_option linter.unusedSimpArgs false
open Go Go.Eng

section
variable {W0 W : World} {L L' : List Asn}
theorem crashGo_succ {keep torn : Int} {ws : List Wr} {n : Nat} {w : Wr} {fs : List (Int × List UInt8)} (h : ws[n]? = some w) :
    crashGo keep torn ws (n + 1) fs = if (n : Int) < keep then fs else crashGo keep torn ws n (mput fs w.1 ((cont fs w.1).take (stayN keep torn n w).toNat)) := by
  rw [crashGo, h]
abbrev dcells (p r : Nat) (d : DS) (a : Option Addr) (c : Nat) : Asn := cells p [.int .i64 d.room, .map (some r), .slice a d.ws.length c, .bool d.on, .int .i64 d.lives] T_disk_Disk
theorem diskCrash {p : Nat} {d : DS} {keep torn : Int} {k : Value → World → Prop} (h : St W0 L W) [ht : Tk (dk p) L d L'] (hd : d.ok) (hf : d.fit) (hw : d.ws.length < 1000000)
    (hk : ∀ W', St W0 (dk p (d.crash keep torn) :: L') W' → k (.tuple #[]) W') : callK PR F_disk_Disk_Crash [.pointer (some ⟨p, 0, none⟩), .int .i64 keep, .int .i64 torn] k W := by
  apply S.disk_Disk_Crash.call
  unfold S.disk_Disk_Crash.body
  obtain ⟨r, a, c, fs, hfs, h⟩ := dk_at (h.perm ht.perm)
  have hend : ∀ (fs' : List (Int × BSl)) W1, cts fs' = crashGo keep torn d.ws d.ws.length d.fs → St W0 (dcells p r d a c :: mp KI r (mvs fs') :: arr WRT T_disk_write a c d.ws :: many fch (fs'.map (·.2)) :: L') W1 →
      S.disk_Disk_Crash.j1 k (.pointer (some ⟨p, 0, none⟩)) W1 := by
    intro fs' W1 hfs' h
    unfold S.disk_Disk_Crash.j1
    have h1 := (h.ent (ent.rot3' _ _ _ _)).drop
    clear h
    (repeat (first | (first | ((with_reducible first | refine w1 ?_ | refine w3 ?_ | refine w4 ?_ | refine w11 ?_ | refine stb_n ?_); intros) | ((with_reducible first | refine v5 ?_ | refine v6 ?_ | refine v7 ?_ | refine ve ?_ | refine vn ?_); refine ⟨_, rfl, ?_⟩) | ((with_reducible first | refine v8 ?_ ?_ | refine v9 ?_ ?_ | refine v10 ?_ ?_ | refine v12 ?_ ?_); exact rfl; intros) | ((with_reducible refine w2 ?_); try simp -implicitDefEqProofs only [SE, SU, SV]; intros) | ((with_reducible refine w5 ?_ ?_); simp; refine ⟨_, rfl, ?_⟩) | ((with_reducible refine w12 ?_ ?_ ?_ ?_); simp; simp; simp [oneC]; intros) | (refine okF_i (bldP_eq rfl) ?_; try simp only [BLS, SB, Nat.reduceAdd])) | simp -implicitDefEqProofs only [SE, SU, SV]))
    rename_i h
    exact hk _ (h.ent ((ent.cons _ (ent.cons _ (arr_nil WRT T_disk_write))).trans (dk_ent (d := d.crash keep torn) (r := r) (a := none) (c := 0) hfs')))
  have ew : IntKind.i64.wrap ((d.ws.length : Int) - 1) = (d.ws.length : Int) - 1 := by rw [i64w]; omega
  refine joinK_i ?_
  (repeat (first | (first | ((with_reducible first | refine w1 ?_ | refine w3 ?_ | refine w4 ?_ | refine w11 ?_ | refine stb_n ?_); intros) | ((with_reducible first | refine v5 ?_ | refine v6 ?_ | refine v7 ?_ | refine ve ?_ | refine vn ?_); refine ⟨_, rfl, ?_⟩) | ((with_reducible first | refine v8 ?_ ?_ | refine v9 ?_ ?_ | refine v10 ?_ ?_ | refine v12 ?_ ?_); exact rfl; intros) | ((with_reducible refine w2 ?_); try simp -implicitDefEqProofs only [SE, SU, SV, ew]; intros) | ((with_reducible refine w5 ?_ ?_); simp; refine ⟨_, rfl, ?_⟩) | ((with_reducible refine w12 ?_ ?_ ?_ ?_); simp; simp; simp [oneC]; intros) | (refine okF_i (bldP_eq rfl) ?_; try simp only [BLS, SB, Nat.reduceAdd])) | simp -implicitDefEqProofs only [SE, SU, SV, ew]))
  refine loop_x (σ := Nat × List (Int × BSl)) (fun x => [.pointer (some ⟨p, 0, none⟩), .int .i64 keep, .int .i64 torn, .int .i64 ((x.1 : Int) - 1)])
    (fun x W1 => x.1 ≤ d.ws.length ∧ (fitGo d.ws x.1 (cts x.2) ∨ (x.1 : Int) ≤ keep) ∧ crashGo keep torn d.ws x.1 (cts x.2) = crashGo keep torn d.ws d.ws.length d.fs ∧ lens (cts x.2) ≤ d.room ∧
      St W0 (dcells p r d a c :: mp KI r (mvs x.2) :: arr WRT T_disk_write a c d.ws :: many fch (x.2.map (·.2)) :: L') W1)
    (fun x => x.1) (d.ws.length, fs) rfl ⟨Nat.le_refl _, .inl (hfs ▸ hf), by rw [hfs], by rw [hfs]; exact hd.2.2, (by first | assumption | exact St.tick (by assumption) | exact St.tick (St.tick (by assumption)))⟩ ?_
  clear h
  rintro K ⟨n, gs⟩ W2 ⟨hn, hfit, hgo, hln, h⟩ hK
  simp only at hn hfit hgo hln h hK ⊢
  simp -implicitDefEqProofs only [SE, SU, SV]
  unfold S.disk_Disk_Crash.l1
  cases n with
  | zero =>
    (repeat (first | (first | ((with_reducible first | refine w1 ?_ | refine w3 ?_ | refine w4 ?_ | refine w11 ?_ | refine stb_n ?_); intros) | ((with_reducible first | refine v5 ?_ | refine v6 ?_ | refine v7 ?_ | refine ve ?_ | refine vn ?_); refine ⟨_, rfl, ?_⟩) | ((with_reducible first | refine v8 ?_ ?_ | refine v9 ?_ ?_ | refine v10 ?_ ?_ | refine v12 ?_ ?_); exact rfl; intros) | ((with_reducible refine w2 ?_); try simp -implicitDefEqProofs only [SE, SU, SV]; intros) | ((with_reducible refine w5 ?_ ?_); simp; refine ⟨_, rfl, ?_⟩) | ((with_reducible refine w12 ?_ ?_ ?_ ?_); simp; simp; simp [oneC]; intros) | (refine okF_i (bldP_eq rfl) ?_; try simp only [BLS, SB, Nat.reduceAdd])) | simp -implicitDefEqProofs only [SE, SU, SV]))
    exact hend gs _ hgo h
  | succ n =>
    have e1 : ((n + 1 : Nat) : Int) - 1 = n := by omega
    rw [e1]
    have hib : n < d.ws.length := by omega
    have hget : d.ws[n]? = some d.ws[n] := List.getElem?_eq_getElem hib
    rw [crashGo_succ hget] at hgo
    have hfit' : (fitGo d.ws (n + 1) (cts gs)) → _ := fun h => h _ hget
    have e0 : decide (0 ≤ (n : Int)) = true := decide_eq_true (by omega)
    (repeat (first | (first | ((with_reducible first | refine w1 ?_ | refine w3 ?_ | refine w4 ?_ | refine w11 ?_ | refine stb_n ?_); intros) | ((with_reducible first | refine v5 ?_ | refine v6 ?_ | refine v7 ?_ | refine ve ?_ | refine vn ?_); refine ⟨_, rfl, ?_⟩) | ((with_reducible first | refine v8 ?_ ?_ | refine v9 ?_ ?_ | refine v10 ?_ ?_ | refine v12 ?_ ?_); exact rfl; intros) | ((with_reducible refine w2 ?_); try simp -implicitDefEqProofs only [SE, SU, SV, e0]; intros) | ((with_reducible refine w5 ?_ ?_); simp; refine ⟨_, rfl, ?_⟩) | ((with_reducible refine w12 ?_ ?_ ?_ ?_); simp; simp; simp [oneC]; intros) | (refine okF_i (bldP_eq rfl) ?_; try simp only [BLS, SB, Nat.reduceAdd])) | simp -implicitDefEqProofs only [SE, SU, SV, e0]))
    refine ixA (i := n) (a := a) (l := d.ws) (A := WRT) (by first | assumption | exact St.tick (by assumption) | exact St.tick (St.tick (by assumption))) rfl rfl hib fun g o ha => ?_
    cases ha
    have hwr : getL true (WRT.row d.ws[n]) 0 3 = some (.agg #[.int .i64 d.ws[n].1, .int .i64 d.ws[n].2.1, .int .i64 d.ws[n].2.2]) := rfl
    refine ldA0 (l := d.ws) (A := WRT) (by first | assumption | exact St.tick (by assumption) | exact St.tick (St.tick (by assumption))) rfl hib hwr (by simp) ?_
    generalize d.ws[n] = w at *
    (repeat (first | (first | ((with_reducible first | refine w1 ?_ | refine w3 ?_ | refine w4 ?_ | refine w11 ?_ | refine stb_n ?_); intros) | ((with_reducible first | refine v5 ?_ | refine v6 ?_ | refine v7 ?_ | refine ve ?_ | refine vn ?_); refine ⟨_, rfl, ?_⟩) | ((with_reducible first | refine v8 ?_ ?_ | refine v9 ?_ ?_ | refine v10 ?_ ?_ | refine v12 ?_ ?_); exact rfl; intros) | ((with_reducible refine w2 ?_); try simp -implicitDefEqProofs only [SE, SU, SV]; intros) | ((with_reducible refine w5 ?_ ?_); simp; refine ⟨_, rfl, ?_⟩) | ((with_reducible refine w12 ?_ ?_ ?_ ?_); simp; simp; simp [oneC]; intros) | (refine okF_i (bldP_eq rfl) ?_; try simp only [BLS, SB, Nat.reduceAdd])) | simp -implicitDefEqProofs only [SE, SU, SV]))
    by_cases hkeep : (n : Int) < keep
    · rw [if_pos hkeep] at hgo
      (repeat (first | (first | ((with_reducible first | refine w1 ?_ | refine w3 ?_ | refine w4 ?_ | refine w11 ?_ | refine stb_n ?_); intros) | ((with_reducible first | refine v5 ?_ | refine v6 ?_ | refine v7 ?_ | refine ve ?_ | refine vn ?_); refine ⟨_, rfl, ?_⟩) | ((with_reducible first | refine v8 ?_ ?_ | refine v9 ?_ ?_ | refine v10 ?_ ?_ | refine v12 ?_ ?_); exact rfl; intros) | ((with_reducible refine w2 ?_); try simp -implicitDefEqProofs only [SE, SU, SV, hkeep]; intros) | ((with_reducible refine w5 ?_ ?_); simp; refine ⟨_, rfl, ?_⟩) | ((with_reducible refine w12 ?_ ?_ ?_ ?_); simp; simp; simp [oneC]; intros) | (refine okF_i (bldP_eq rfl) ?_; try simp only [BLS, SB, Nat.reduceAdd])) | simp -implicitDefEqProofs only [SE, SU, SV, hkeep]))
      have h' := St.drop (by first | assumption | exact St.tick (by assumption) | exact St.tick (St.tick (by assumption)))
      exact hend gs _ hgo h'
    rw [if_neg hkeep] at hgo
    (repeat (first | (first | ((with_reducible first | refine w1 ?_ | refine w3 ?_ | refine w4 ?_ | refine w11 ?_ | refine stb_n ?_); intros) | ((with_reducible first | refine v5 ?_ | refine v6 ?_ | refine v7 ?_ | refine ve ?_ | refine vn ?_); refine ⟨_, rfl, ?_⟩) | ((with_reducible first | refine v8 ?_ ?_ | refine v9 ?_ ?_ | refine v10 ?_ ?_ | refine v12 ?_ ?_); exact rfl; intros) | ((with_reducible refine w2 ?_); try simp -implicitDefEqProofs only [SE, SU, SV, hkeep]; intros) | ((with_reducible refine w5 ?_ ?_); simp; refine ⟨_, rfl, ?_⟩) | ((with_reducible refine w12 ?_ ?_ ?_ ?_); simp; simp; simp [oneC]; intros) | (refine okF_i (bldP_eq rfl) ?_; try simp only [BLS, SB, Nat.reduceAdd])) | simp -implicitDefEqProofs only [SE, SU, SV, hkeep]))
    rename_i cb _ _ W3 h
    have hf1 : fitGo d.ws (n + 1) (cts gs) := hfit.resolve_right (by omega)
    obtain ⟨w1, w2, w3, w4⟩ := hfit' hf1
    have hcl := lens_cont (cts gs) w.1
    have hlc := lens_cut (cts gs) w.1 (stayN keep torn n w).toNat
    obtain ⟨hd1, hd2, _⟩ := hd
    have htr := tornN_range torn (x := w.2.2 - w.2.1) (by omega)
    have hm : w.2.1 ≤ stayN keep torn n w ∧ stayN keep torn n w ≤ w.2.2 := by unfold stayN; split <;> omega
    have hft : fitGo d.ws n (mput (cts gs) w.1 ((cont (cts gs) w.1).take (stayN keep torn n w).toNat)) ∨ (n : Int) ≤ keep := by
      by_cases hk' : (n : Int) = keep
      · exact .inr (by omega)
      · left; have : stayN keep torn n w = w.2.1 := by unfold stayN; rw [if_neg hk']
        rw [this]; exact w4
    have hJ : ∀ (m : Int) W1, m = stayN keep torn n w → St W0 (cells cb [.int .i64 w.1, .int .i64 w.2.1, .int .i64 w.2.2] T_disk_write :: dcells p r d (some ⟨g, o, none⟩) c :: mp KI r (mvs gs) :: arr WRT T_disk_write (some ⟨g, o, none⟩) c d.ws :: many fch (gs.map (·.2)) :: L') W1 →
        S.disk_Disk_Crash.j2 K (.pointer (some ⟨p, 0, none⟩)) (.int .i64 keep) (.int .i64 torn) (.int .i64 n) (.pointer (some ⟨cb, 0, none⟩)) (.int .i64 m) W1 := by
      intro m W1 hme h
      rw [← hme] at hm hgo hlc hft
      clear hme
      unfold S.disk_Disk_Crash.j2
      (repeat (first | (first | ((with_reducible first | refine w1 ?_ | refine w3 ?_ | refine w4 ?_ | refine w11 ?_ | refine stb_n ?_); intros) | ((with_reducible first | refine v5 ?_ | refine v6 ?_ | refine v7 ?_ | refine ve ?_ | refine vn ?_); refine ⟨_, rfl, ?_⟩) | ((with_reducible first | refine v8 ?_ ?_ | refine v9 ?_ ?_ | refine v10 ?_ ?_ | refine v12 ?_ ?_); exact rfl; intros) | ((with_reducible refine w2 ?_); try simp -implicitDefEqProofs only [SE, SU, SV]; intros) | ((with_reducible refine w5 ?_ ?_); simp; refine ⟨_, rfl, ?_⟩) | ((with_reducible refine w12 ?_ ?_ ?_ ?_); simp; simp; simp [oneC]; intros) | (refine okF_i (bldP_eq rfl) ?_; try simp only [BLS, SB, Nat.reduceAdd])) | simp -implicitDefEqProofs only [SE, SU, SV]))
      refine lkp (K := KI) (z := .slice none 0 0) w.1 (by first | assumption | exact St.tick (by assumption) | exact St.tick (St.tick (by assumption))) ?_
      rw [mget_mvs]
      rename_i h0
      have h := (St.tick h).drop
      have h' := h.ent (ent.cons _ (ent.cons _ (ent.cons _ (many_take (F := fch) w.1 ⟨none, 0, []⟩ fch0))))
      clear h h0
      have hcc := cont_cts gs w.1
      rw [hcc] at hcl hlc hgo hft w3
      generalize hy : (mget gs w.1).getD ⟨none, 0, []⟩ = y at *
      have h : St W0 (_ :: _ :: _ :: arr B8 T_uint8 y.a y.c y.bs :: _) _ := h'
      clear h'
      have hyc := (h.took (a := y.a)).arrFacts
      refine slcO (a := y.a) (l := y.bs) (lo := 0) (hi := m.toNat) h rfl rfl (bnd_int (by omega) (by omega)) bnd_none (by omega) (by omega) fun a' c' he => ?_
      rw [List.drop_zero] at he ⊢
      refine mset (K := KI) w.1 (h.ent he) fun W5 h5 => ?_
      clear h he
      have e4 : IntKind.i64.wrap ((n : Int) - 1) = (n : Int) - 1 := by rw [i64w]; omega
      rw [e4]
      have hp : cts (mput gs w.1 ⟨a', c', y.bs.take m.toNat⟩) = mput (cts gs) w.1 (y.bs.take m.toNat) := (mput_map BSl.bs gs w.1 ⟨a', c', y.bs.take m.toNat⟩).symm
      refine hK (n, mput gs w.1 ⟨a', c', y.bs.take m.toNat⟩) W5 (Nat.lt_succ_self n) ⟨Nat.le_of_lt hib, ?_, ?_, ?_, ?_⟩
      · simp only [hp]; exact hft
      · simp only [hp]; exact hgo
      · simp only [hp]; omega
      · have h6 : St W0 (mp KI r (mput (mvs gs) w.1 (BSl.v ⟨a', c', y.bs.take m.toNat⟩)) :: fch ⟨a', c', y.bs.take m.toNat⟩ :: dcells p r d (some ⟨g, o, none⟩) c :: arr WRT T_disk_write (some ⟨g, o, none⟩) c d.ws :: many fch ((mdel gs w.1).map (·.2)) :: L') W5 := h5
        rw [show mput (mvs gs) w.1 (BSl.v ⟨a', c', y.bs.take m.toNat⟩) = mvs (mput gs w.1 ⟨a', c', y.bs.take m.toNat⟩) from mput_map BSl.v gs w.1 _] at h6
        exact h6.ent ((ent.rot3' _ _ _ _).trans (ent.cons _ (ent.cons _ ((ent.swap _ _ _).trans (ent.cons _ (many_put w.1 _))))))
    clear hK hgo hfit hft hlc
    refine joinK_i ?_
    by_cases hk' : (n : Int) = keep
    · have e5 : IntKind.i64.wrap (w.2.2 - w.2.1) = w.2.2 - w.2.1 := by rw [i64w]; omega
      have hst : stayN keep torn n w = w.2.1 + (if (if w.2.2 - w.2.1 < torn then w.2.2 - w.2.1 else torn) < 0 then 0 else (if w.2.2 - w.2.1 < torn then w.2.2 - w.2.1 else torn)) := by unfold stayN; rw [if_pos hk']; rfl
      have e6 : IntKind.i64.wrap (stayN keep torn n w) = stayN keep torn n w := by rw [i64w]; omega
      have e7 : decide ((n : Int) = keep) = true := decide_eq_true hk'
      (repeat (first | (first | ((with_reducible first | refine w1 ?_ | refine w3 ?_ | refine w4 ?_ | refine w11 ?_ | refine stb_n ?_); intros) | ((with_reducible first | refine v5 ?_ | refine v6 ?_ | refine v7 ?_ | refine ve ?_ | refine vn ?_); refine ⟨_, rfl, ?_⟩) | ((with_reducible first | refine v8 ?_ ?_ | refine v9 ?_ ?_ | refine v10 ?_ ?_ | refine v12 ?_ ?_); exact rfl; intros) | ((with_reducible refine w2 ?_); try simp -implicitDefEqProofs only [SE, SU, SV, e7, e5, min2i, max2i]; intros) | ((with_reducible refine w5 ?_ ?_); simp; refine ⟨_, rfl, ?_⟩) | ((with_reducible refine w12 ?_ ?_ ?_ ?_); simp; simp; simp [oneC]; intros) | (refine okF_i (bldP_eq rfl) ?_; try simp only [BLS, SB, Nat.reduceAdd])) | simp -implicitDefEqProofs only [SE, SU, SV, e7, e5, min2i, max2i]))
      rw [← hst, e6]
      exact hJ (stayN keep torn n w) _ rfl (by first | assumption | exact St.tick (by assumption) | exact St.tick (St.tick (by assumption)))
    · have e7 : decide ((n : Int) = keep) = false := decide_eq_false hk'
      (repeat (first | (first | ((with_reducible first | refine w1 ?_ | refine w3 ?_ | refine w4 ?_ | refine w11 ?_ | refine stb_n ?_); intros) | ((with_reducible first | refine v5 ?_ | refine v6 ?_ | refine v7 ?_ | refine ve ?_ | refine vn ?_); refine ⟨_, rfl, ?_⟩) | ((with_reducible first | refine v8 ?_ ?_ | refine v9 ?_ ?_ | refine v10 ?_ ?_ | refine v12 ?_ ?_); exact rfl; intros) | ((with_reducible refine w2 ?_); try simp -implicitDefEqProofs only [SE, SU, SV, e7]; intros) | ((with_reducible refine w5 ?_ ?_); simp; refine ⟨_, rfl, ?_⟩) | ((with_reducible refine w12 ?_ ?_ ?_ ?_); simp; simp; simp [oneC]; intros) | (refine okF_i (bldP_eq rfl) ?_; try simp only [BLS, SB, Nat.reduceAdd])) | simp -implicitDefEqProofs only [SE, SU, SV, e7]))
      exact hJ w.2.1 _ (by unfold stayN; rw [if_neg hk']) (by first | assumption | exact St.tick (by assumption) | exact St.tick (St.tick (by assumption)))
end
end Go.Proofs.Ythladblmjoaeoaa
namespace Go.Proofs.Ythladblmjoaeoaa
set_option linter.unusedVariables false
set_option linter.unusedSimpArgs false
open Go.Eng
/-! ### slices.DeleteFunc[[]rostrum/disk.write,rostrum/disk.write] (60) -/
def S.slices_DeleteFunc_disk_write_disk_write.j1 (R : Value → World → Prop) (x0 x5 : Value) (W : World) : Prop :=
  okF (slcS 3 x0 (some x5) none none) fun v38 =>
  efK PR (Builtin.clear_ #[T_s_disk_write] T_t0 #[v38]) (fun _ W =>
  okF (slcS 3 x0 none (some x5) none) fun v41 =>
  R v41 W) W
def S.slices_DeleteFunc_disk_write_disk_write.j2 (K1 : List Value → World → Prop) (x0 x1 x5 x6 : Value) (W : World) : Prop :=
  okF (binP .add x6 (.int .i64 1)) fun v21 =>
  K1 [x0, x1, x5, v21] W
def S.slices_DeleteFunc_disk_write_disk_write.l1 (J1 : List Value → World → Prop) (K1 : List Value → World → Prop) (x0 x1 x5 x6 : Value) (W : World) : Prop :=
  okF (lenP (.slice T_disk_write) x0) fun v18 =>
  okF (binP .lss x6 v18) fun v19 =>
  ifK v19 (
  joinK (fun s W => S.slices_DeleteFunc_disk_write_disk_write.j2 K1 (nthv s 0) (nthv s 1) (nthv s 2) (nthv s 3) W) (fun J2 =>
  okF (idxS 3 x0 x6) fun v24 =>
  rdK PR (Instr.loadAt T_disk_write v24) (fun v25 W =>
  efK PR (Instr.alloc T_disk_write true (.tuple #[])) (fun v7 W =>
  efK PR (Instr.storeAt T_disk_write v7 v25) (fun _ W =>
  rdK PR (Instr.loadAt T_disk_write v7) (fun v27 W =>
  vcK PR x1 [v27] (fun v28 W =>
  okF (unP .not v28) fun v29 =>
  ifK v29 (
  rdK PR (Instr.loadAt T_disk_write v7) (fun v32 W =>
  okF (idxS 3 x0 x5) fun v33 =>
  efK PR (Instr.storeAt T_disk_write v33 v32) (fun _ W =>
  okF (binP .add x5 (.int .i64 1)) fun v35 =>
  J2 [x0, x1, v35, x6] W) W) W) (
  J2 [x0, x1, x5, x6] W)) W) W) W) W) W)) (
  J1 [x0, x5] W)
def S.slices_DeleteFunc_disk_write_disk_write.body (R : Value → World → Prop) (v0 v1 : Value) (W : World) : Prop :=
  callK PR F_slices_IndexFunc_disk_write_disk_write [v0, v1] (fun v10 W =>
  okF (binP .eql v10 (.int .i64 (-1))) fun v12 =>
  ifK v12 (
  R v0 W) (
  joinK (fun s W => S.slices_DeleteFunc_disk_write_disk_write.j1 R (nthv s 0) (nthv s 1) W) (fun J1 =>
  okF (binP .add v10 (.int .i64 1)) fun v15 =>
  loopK (fun K1 s W => S.slices_DeleteFunc_disk_write_disk_write.l1 J1 K1 (nthv s 0) (nthv s 1) (nthv s 2) (nthv s 3) W) [v0, v1, v10, v15] W))) W
def S.slices_DeleteFunc_disk_write_disk_write.hint : Hint := (.two .nil (.two .nil (.two (.two .nil (.two (.two .nil .nil) .nil)) (.at [0, 5] (.two .nil (.at [0, 1, 5, 6] (.two (.two .nil (.two .nil .nil)) (.at [0, 1, 5, 6] (.two .nil (.two .nil (.two (.two .nil .nil) .nil))) .nil)) .nil)) (.two .nil (.two .nil .nil))))))
theorem S.slices_DeleteFunc_disk_write_disk_write.ok (R : Value → World → Prop) (v0 v1 : Value) (W : World) : bodyK PR CB Try.f60 S.slices_DeleteFunc_disk_write_disk_write.hint [v0, v1] R W = S.slices_DeleteFunc_disk_write_disk_write.body R v0 v1 W := by kernel_rfl
theorem S.slices_DeleteFunc_disk_write_disk_write.fn : PR.funcs[F_slices_DeleteFunc_disk_write_disk_write]? = some Try.f60 := by kernel_rfl
theorem S.slices_DeleteFunc_disk_write_disk_write.call {R : Value → World → Prop} {v0 v1 : Value} {W : World} (h : S.slices_DeleteFunc_disk_write_disk_write.body R v0 v1 W) : callK PR F_slices_DeleteFunc_disk_write_disk_write [v0, v1] R W :=
  callK_of_body (g := F_slices_DeleteFunc_disk_write_disk_write) (fn := Try.f60) (args := [v0, v1]) (R := R) (w := W) mixed CBok S.slices_DeleteFunc_disk_write_disk_write.fn S.slices_DeleteFunc_disk_write_disk_write.hint (by rw [S.slices_DeleteFunc_disk_write_disk_write.ok]; exact h)
/-! ### slices.IndexFunc[[]rostrum/disk.write,rostrum/disk.write] (73) -/
def S.slices_IndexFunc_disk_write_disk_write.l1 (R : Value → World → Prop) (K1 : List Value → World → Prop) (x0 x1 x7 x8 : Value) (W : World) : Prop :=
  okF (binP .lss x8 x7) fun v9 =>
  ifK v9 (
  okF (idxS 3 x0 x8) fun v14 =>
  rdK PR (Instr.loadAt T_disk_write v14) (fun v15 W =>
  vcK PR x1 [v15] (fun v16 W =>
  ifK v16 (
  R x8 W) (
  okF (binP .add x8 (.int .i64 1)) fun v18 =>
  K1 [x0, x1, x7, v18] W)) W) W) (
  R (.int .i64 (-1)) W)
def S.slices_IndexFunc_disk_write_disk_write.body (R : Value → World → Prop) (v0 v1 : Value) (W : World) : Prop :=
  okF (lenP (.slice T_disk_write) v0) fun v7 =>
  loopK (fun K1 s W => S.slices_IndexFunc_disk_write_disk_write.l1 R K1 (nthv s 0) (nthv s 1) (nthv s 2) (nthv s 3) W) [v0, v1, v7, (.int .i64 0)] W
def S.slices_IndexFunc_disk_write_disk_write.hint : Hint := (.two .nil (.two (.two .nil (.at [0, 1, 7, 8] (.two .nil (.two (.two .nil .nil) (.two (.two .nil (.two .nil (.two (.two .nil .nil) .nil))) .nil))) .nil)) (.two .nil .nil)))
theorem S.slices_IndexFunc_disk_write_disk_write.ok (R : Value → World → Prop) (v0 v1 : Value) (W : World) : bodyK PR CB Try.f73 S.slices_IndexFunc_disk_write_disk_write.hint [v0, v1] R W = S.slices_IndexFunc_disk_write_disk_write.body R v0 v1 W := by kernel_rfl
theorem S.slices_IndexFunc_disk_write_disk_write.fn : PR.funcs[F_slices_IndexFunc_disk_write_disk_write]? = some Try.f73 := by kernel_rfl
theorem S.slices_IndexFunc_disk_write_disk_write.call {R : Value → World → Prop} {v0 v1 : Value} {W : World} (h : S.slices_IndexFunc_disk_write_disk_write.body R v0 v1 W) : callK PR F_slices_IndexFunc_disk_write_disk_write [v0, v1] R W :=
  callK_of_body (g := F_slices_IndexFunc_disk_write_disk_write) (fn := Try.f73) (args := [v0, v1]) (R := R) (w := W) mixed CBok S.slices_IndexFunc_disk_write_disk_write.fn S.slices_IndexFunc_disk_write_disk_write.hint (by rw [S.slices_IndexFunc_disk_write_disk_write.ok]; exact h)
end Go.Proofs.Ythladblmjoaeoaa
namespace Go.Proofs.Ythladblmjoaeoaa
set_option linter.unusedVariables false
set_option linter.unusedSimpArgs false
open Go Go.Eng
section
variable {W0 W : World} {L L' : List Asn} {α : Type} {A : Ly α} {C : Asn} {fv : Value} {p : α → Bool}
theorem indexFunc_disk_write_disk_write {a : Option Addr} {c : Nat} {l : List α} {k : Value → World → Prop} (hs : A.sz = 3) (h : St W0 (C :: L) W) [hr : Rd W0 L a A l] (hp : PredF PR A true C fv p) (hl : l.length < 4611686018427387904)
    (hk : ∀ W', St W0 (C :: L) W' → k (.int .i64 (match l.findIdx? p with | some i => (i : Int) | none => -1)) W') : callK PR F_slices_IndexFunc_disk_write_disk_write [.slice a l.length c, fv] k W := by
  apply S.slices_IndexFunc_disk_write_disk_write.call
  unfold S.slices_IndexFunc_disk_write_disk_write.body
  simp -implicitDefEqProofs only [SE, SU, SV]
  refine loop_c (σ := Unit) l.length (fun i _ => [.slice a l.length c, fv, .int .i64 l.length, .int .i64 i]) (fun i _ W1 => (∀ j, (hj : j < l.length) → j < i → p l[j] = false) ∧ St W0 (C :: L) W1) () rfl ⟨fun j _ h => by omega, h⟩ ?_
  clear h
  rintro K i _ W1 hi ⟨hno, h⟩ hK
  simp -implicitDefEqProofs only [SE, SU, SV]
  unfold S.slices_IndexFunc_disk_write_disk_write.l1
  simp -implicitDefEqProofs only [SE, SU, SV]
  refine ifK_d (fun hlt => ?_) (fun hge => ?_)
  · have hib : i < l.length := by omega
    refine ixA (i := i) (a := a) (l := l) (A := A) (by first | assumption | exact St.tick (by assumption) | exact St.tick (St.tick (by assumption))) hs rfl hib fun g o ha => ?_
    cases ha
    refine ldA0 (l := l) (A := A) (by first | assumption | exact St.tick (by assumption) | exact St.tick (St.tick (by assumption))) hs hib (getL_val hs (by decide) _) (by simp) ?_
    refine hp W0 L l[i] W1 _ h fun W2 h => ?_
    cases hpx : p l[i] with
    | true =>
      simp -implicitDefEqProofs only [SE, SU, SV]
      have : l.findIdx? p = some i := by
        rw [List.findIdx?_eq_some_iff_getElem]
        exact ⟨hib, hpx, fun j hj => by rw [hno j (by omega) hj]; simp⟩
      rw [this] at hk
      exact hk _ h
    | false =>
      have ew : IntKind.i64.wrap ((i : Int) + 1) = ((i + 1 : Nat) : Int) := by rw [i64w]; omega
      simp -implicitDefEqProofs only [SE, SU, SV, ew]
      refine hK () _ hib ⟨fun j hj hji => ?_, h⟩
      by_cases e : j = i
      · subst e; exact hpx
      · exact hno j hj (by omega)
  · have : l.findIdx? p = none := by
      rw [List.findIdx?_eq_none_iff]
      intro x hx
      obtain ⟨j, hj, rfl⟩ := List.getElem_of_mem hx
      exact hno j hj (by omega)
    rw [this] at hk
    exact hk _ h
theorem deleteFunc_disk_write_disk_write {a : Option Addr} {c : Nat} {l : List α} {k : Value → World → Prop} (hs : A.sz = 3) (h : St W0 (C :: arr A T_disk_write a c l :: L) W) (hp : PredF PR A true C fv p) (hl : l.length < 4611686018427387904)
    (hk : ∀ W', St W0 (C :: arr A T_disk_write a c (l.filter (!p ·)) :: L) W' → k (.slice a (l.filter (!p ·)).length c) W') : callK PR F_slices_DeleteFunc_disk_write_disk_write [.slice a l.length c, fv] k W := by
  apply S.slices_DeleteFunc_disk_write_disk_write.call
  unfold S.slices_DeleteFunc_disk_write_disk_write.body
  refine indexFunc_disk_write_disk_write (a := a) (l := l) hs h hp hl fun W1 h => ?_
  cases hf : l.findIdx? p with
  | none =>
    have : l.filter (!p ·) = l := by
      rw [List.filter_eq_self]
      intro x hx
      rw [List.findIdx?_eq_none_iff] at hf
      simp [hf x hx]
    rw [this] at hk
    (repeat (first | (first | ((with_reducible first | refine w1 ?_ | refine w3 ?_ | refine w4 ?_ | refine w11 ?_ | refine stb_n ?_); intros) | ((with_reducible first | refine v5 ?_ | refine v6 ?_ | refine v7 ?_ | refine ve ?_ | refine vn ?_); refine ⟨_, rfl, ?_⟩) | ((with_reducible first | refine v8 ?_ ?_ | refine v9 ?_ ?_ | refine v10 ?_ ?_ | refine v12 ?_ ?_); exact rfl; intros) | ((with_reducible refine w2 ?_); try simp -implicitDefEqProofs only [SE, SU, SV]; intros) | ((with_reducible refine w5 ?_ ?_); simp; refine ⟨_, rfl, ?_⟩) | ((with_reducible refine w12 ?_ ?_ ?_ ?_); simp; simp; simp [oneC]; intros) | (refine okF_i (bldP_eq rfl) ?_; try simp only [BLS, SB, Nat.reduceAdd])) | simp -implicitDefEqProofs only [SE, SU, SV]))
    exact hk _ h
  | some i =>
    rw [List.findIdx?_eq_some_iff_getElem] at hf
    obtain ⟨hil, hpi, hno⟩ := hf
    have e1 : decide ((i : Int) = -1) = false := decide_eq_false (by omega)
    have ew : IntKind.i64.wrap ((i : Int) + 1) = ((i + 1 : Nat) : Int) := by rw [i64w]; omega
    simp only []
    simp -implicitDefEqProofs only [SE, SU, SV, e1]
    refine joinK_i ?_
    simp -implicitDefEqProofs only [SE, SU, SV, ew]
    have hpre : (l.take (i + 1)).filter (!p ·) = l.take i := by
      rw [List.take_succ_eq_append_getElem hil, List.filter_append]
      rw [show (l.take i).filter (!p ·) = l.take i by
        rw [List.filter_eq_self]
        intro x hx
        obtain ⟨j, hj, rfl⟩ := List.getElem_of_mem hx
        simp only [List.length_take] at hj
        rw [List.getElem_take]
        have := hno j (by omega)
        simpa using this]
      simp [hpi]
    refine loop_x (σ := Nat × Nat × List α) (fun x => [.slice a l.length c, fv, .int .i64 x.1, .int .i64 x.2.1])
      (fun x W1 => x.1 < x.2.1 ∧ x.2.1 ≤ l.length ∧ x.2.2.length = l.length ∧ x.2.2.take x.1 = (l.take x.2.1).filter (!p ·) ∧ (∀ j, x.2.1 ≤ j → x.2.2[j]? = l[j]?) ∧ St W0 (C :: arr A T_disk_write a c x.2.2 :: L) W1)
      (fun x => l.length - x.2.1) (i, i + 1, l) rfl ⟨by simp, by simp only; omega, rfl, hpre.symm, fun _ _ => rfl, h⟩ ?_
    clear h hpre
    rintro K ⟨q, j, m⟩ W2 ⟨hqj, hjl, hml, hpre, hsuf, h⟩ hK
    simp only at hqj hjl hml hpre hsuf h hK ⊢
    simp -implicitDefEqProofs only [SE, SU, SV]
    unfold S.slices_DeleteFunc_disk_write_disk_write.l1
    simp -implicitDefEqProofs only [SE, SU, SV]
    refine ifK_d (fun hlt => ?_) (fun hge => ?_)
    · have hjm : j < m.length := by omega
      have hjb : j < l.length := by omega
      have hmj : m[j] = l[j] := by
        have := hsuf j (Nat.le_refl _)
        rw [List.getElem?_eq_getElem hjm, List.getElem?_eq_getElem hjb] at this
        exact Option.some.inj this
      refine joinK_i ?_
      rw [← hml]
      refine ixA (i := j) (a := a) (l := m) (A := A) (by first | assumption | exact St.tick (by assumption) | exact St.tick (St.tick (by assumption))) hs rfl hjm fun g o ha => ?_
      cases ha
      refine ldA0 (l := m) (A := A) (by first | assumption | exact St.tick (by assumption) | exact St.tick (St.tick (by assumption))) hs hjm (getL_val hs (by decide) _) (by simp) ?_
      rw [hmj]
      have ew : IntKind.i64.wrap ((j : Int) + 1) = ((j + 1 : Nat) : Int) := by rw [i64w]; omega
      have ew2 : IntKind.i64.wrap ((q : Int) + 1) = ((q + 1 : Nat) : Int) := by rw [i64w]; omega
      refine newV (A := A) l[j] h hs (by decide) rfl fun b W3 h => ?_
      refine ldV (A := A) l[j] h hs (by decide) ?_
      refine hp W0 _ l[j] _ _ (h.ent (ent.swap _ _ _)) fun W4 h => ?_
      cases hpx : p l[j] with
      | true =>
        simp -implicitDefEqProofs only [SE, SU, SV]
        unfold S.slices_DeleteFunc_disk_write_disk_write.j2
        simp -implicitDefEqProofs only [SE, SU, SV, ew]
        rw [hml]
        refine hK (q, j + 1, m) _ (by simp only; omega) ⟨by simp only; omega, by simp only; omega, hml, ?_, fun j' hj' => hsuf j' (by simp only at hj'; omega), h.drop2⟩
        simp only
        rw [hpre, List.take_succ_eq_append_getElem hjb, List.filter_append]
        simp [hpx]
      | false =>
        simp -implicitDefEqProofs only [SE, SU, SV]
        refine ldV (A := A) l[j] h hs (by decide) ?_
        refine ixA (i := q) (a := some ⟨g, o, none⟩) (l := m) (A := A) (by first | assumption | exact St.tick (by assumption) | exact St.tick (St.tick (by assumption))) hs rfl (by omega) fun g' o' ha => ?_
        cases ha
        refine stA (g := g) (o := o) (agg := true) (l := m) (A := A) (x := l[j]) (by first | assumption | exact St.tick (by assumption) | exact St.tick (St.tick (by assumption))) hs (by omega) (val_cells hs (by decide) _) fun W3 h => ?_
        simp -implicitDefEqProofs only [SE, SU, SV, ew2]
        unfold S.slices_DeleteFunc_disk_write_disk_write.j2
        simp -implicitDefEqProofs only [SE, SU, SV, ew]
        rw [hml]
        refine hK (q + 1, j + 1, m.set q l[j]) _ (by simp only; omega) ⟨by simp only; omega, by simp only; omega, by simp [hml], ?_, fun j' hj' => ?_, ?_⟩
        · simp only
          rw [List.take_succ_eq_append_getElem (by rw [List.length_set]; omega), List.take_set_of_le (Nat.le_refl _), hpre, List.take_succ_eq_append_getElem hjb, List.filter_append]
          simp [hpx]
        · simp only at hj' ⊢
          rw [List.getElem?_set_ne (by omega)]
          exact hsuf j' (by omega)
        · exact (h.ent (ent.rot3 _ _ _ _)).drop2
    · unfold S.slices_DeleteFunc_disk_write_disk_write.j1
      have hjn : j = l.length := by omega
      subst hjn
      rw [List.take_length] at hpre
      have hqc : q ≤ c := by have := (h.ent (ent.swap _ _ _)).arrFacts; omega
      refine okF_i (slcS_eq (n := l.length) (c := c) (l := q) (h := l.length) bnd_none (bnd_nat (by omega))) ?_
      refine clrA (a := a) (l := m) (L' := C :: L) (i := q) (A := A) (by first | assumption | exact St.tick (by assumption) | exact St.tick (St.tick (by assumption))) hs rfl (by omega) rfl (by rw [hml]) fun W3 h => ?_
      rw [hpre] at h
      have hql : q = (l.filter (!p ·)).length := by rw [← hpre, List.length_take]; omega
      refine slc_pre (L := C :: L) (A := A) (e := T_disk_write) h hqc ?_
      rw [hql]
      exact hk _ (h.ent (ent.swap _ _ _))
end
end Go.Proofs.Ythladblmjoaeoaa
namespace Go.Proofs.Ythladblmjoaeoaa
set_option linter.unusedVariables false
set_option linter.unusedSimpArgs false
open Go.Eng
/-! ### (*rostrum/disk.Disk).safe$1 (61) -/
def S.disk_Disk_safe_1.body (R : Value → World → Prop) (v0 v1 : Value) (W : World) : Prop :=
  efK PR (Instr.box T_disk_write v0) (fun v2 W =>
  okF (addrF 0 v2) fun v4 =>
  rdK PR (Instr.loadAt T_int v4) (fun v5 W =>
  rdK PR (Instr.loadAt T_int v1) (fun v6 W =>
  okF (binP .eql v5 v6) fun v7 =>
  R v7 W) W) W) W
def S.disk_Disk_safe_1.hint : Hint := (.two .nil (.two .nil .nil))
theorem S.disk_Disk_safe_1.ok (R : Value → World → Prop) (v0 v1 : Value) (W : World) : bodyK PR CB Try.f61 S.disk_Disk_safe_1.hint [v0, v1] R W = S.disk_Disk_safe_1.body R v0 v1 W := by kernel_rfl
theorem S.disk_Disk_safe_1.fn : PR.funcs[F_disk_Disk_safe_1]? = some Try.f61 := by kernel_rfl
theorem S.disk_Disk_safe_1.call {R : Value → World → Prop} {v0 v1 : Value} {W : World} (h : S.disk_Disk_safe_1.body R v0 v1 W) : callK PR F_disk_Disk_safe_1 [v0, v1] R W :=
  callK_of_body (g := F_disk_Disk_safe_1) (fn := Try.f61) (args := [v0, v1]) (R := R) (w := W) mixed CBok S.disk_Disk_safe_1.fn S.disk_Disk_safe_1.hint (by rw [S.disk_Disk_safe_1.ok]; exact h)
end Go.Proofs.Ythladblmjoaeoaa
namespace Go.Proofs.Ythladblmjoaeoaa
set_option linter.unusedVariables false
set_option linter.unusedSimpArgs false
open Go Go.Eng

section
variable {W0 W : World} {L L' : List Asn}
theorem safe_pred (b : Nat) (f : Int) : PredF PR WRT true (cells b [.int .i64 f] T_int) (.func (.func F_disk_Disk_safe_1) #[] #[.pointer (some ⟨b, 0, none⟩)]) (fun w => decide (w.1 = f)) := by
  intro W0 L x W k h hk
  refine ⟨CBok _ (by kernel_rfl), ?_⟩
  apply S.disk_Disk_safe_1.call
  unfold S.disk_Disk_safe_1.body
  rw [Ly.val_agg]
  simp only [WRT]
  (repeat (first | (first | ((with_reducible first | refine w1 ?_ | refine w3 ?_ | refine w4 ?_ | refine w11 ?_ | refine stb_n ?_); intros) | ((with_reducible first | refine v5 ?_ | refine v6 ?_ | refine v7 ?_ | refine ve ?_ | refine vn ?_); refine ⟨_, rfl, ?_⟩) | ((with_reducible first | refine v8 ?_ ?_ | refine v9 ?_ ?_ | refine v10 ?_ ?_ | refine v12 ?_ ?_); exact rfl; intros) | ((with_reducible refine w2 ?_); try simp -implicitDefEqProofs only [SE, SU, SV]; intros) | ((with_reducible refine w5 ?_ ?_); simp; refine ⟨_, rfl, ?_⟩) | ((with_reducible refine w12 ?_ ?_ ?_ ?_); simp; simp; simp [oneC]; intros) | (refine okF_i (bldP_eq rfl) ?_; try simp only [BLS, SB, Nat.reduceAdd])) | simp -implicitDefEqProofs only [SE, SU, SV]))
  rename_i h
  exact hk _ h.drop
theorem diskSafe {p : Nat} {d : DS} {f : Int} {k : Value → World → Prop} (h : St W0 L W) [ht : Tk (dk p) L d L'] (hw : d.ws.length < 1000000)
    (hk : ∀ W', St W0 (dk p (d.safe f) :: L') W' → k (.tuple #[]) W') : callK PR F_disk_Disk_safe [.pointer (some ⟨p, 0, none⟩), .int .i64 f] k W := by
  apply S.disk_Disk_safe.call
  unfold S.disk_Disk_safe.body
  obtain ⟨r, a, c, fs, hf, h⟩ := dk_at (h.perm ht.perm)
  refine bxi h fun b W1 h => ?_
  (repeat (first | (first | ((with_reducible first | refine w1 ?_ | refine w3 ?_ | refine w4 ?_ | refine w11 ?_ | refine stb_n ?_); intros) | ((with_reducible first | refine v5 ?_ | refine v6 ?_ | refine v7 ?_ | refine ve ?_ | refine vn ?_); refine ⟨_, rfl, ?_⟩) | ((with_reducible first | refine v8 ?_ ?_ | refine v9 ?_ ?_ | refine v10 ?_ ?_ | refine v12 ?_ ?_); exact rfl; intros) | ((with_reducible refine w2 ?_); try simp -implicitDefEqProofs only [SE, SU, SV]; intros) | ((with_reducible refine w5 ?_ ?_); simp; refine ⟨_, rfl, ?_⟩) | ((with_reducible refine w12 ?_ ?_ ?_ ?_); simp; simp; simp [oneC]; intros) | (refine okF_i (bldP_eq rfl) ?_; try simp only [BLS, SB, Nat.reduceAdd])) | simp -implicitDefEqProofs only [SE, SU, SV]))
  have h' := h.ent (ent.cons _ (ent.rot3' _ _ _ _))
  clear h
  refine deleteFunc_disk_write_disk_write (a := a) (l := d.ws) (A := WRT) rfl h' (safe_pred b f) (by omega) fun W2 h => ?_
  clear h'
  (repeat (first | (first | ((with_reducible first | refine w1 ?_ | refine w3 ?_ | refine w4 ?_ | refine w11 ?_ | refine stb_n ?_); intros) | ((with_reducible first | refine v5 ?_ | refine v6 ?_ | refine v7 ?_ | refine ve ?_ | refine vn ?_); refine ⟨_, rfl, ?_⟩) | ((with_reducible first | refine v8 ?_ ?_ | refine v9 ?_ ?_ | refine v10 ?_ ?_ | refine v12 ?_ ?_); exact rfl; intros) | ((with_reducible refine w2 ?_); try simp -implicitDefEqProofs only [SE, SU, SV]; intros) | ((with_reducible refine w5 ?_ ?_); simp; refine ⟨_, rfl, ?_⟩) | ((with_reducible refine w12 ?_ ?_ ?_ ?_); simp; simp; simp [oneC]; intros) | (refine okF_i (bldP_eq rfl) ?_; try simp only [BLS, SB, Nat.reduceAdd])) | simp -implicitDefEqProofs only [SE, SU, SV]))
  rename_i h
  exact hk _ ((h.drop).ent ((ent.rot3 _ _ _ _).trans (dk_ent (d := d.safe f) hf)))
theorem diskSync {p : Nat} {d : DS} {f : Int} {k : Value → World → Prop} (h : St W0 L W) [ht : Tk (dk p) L d L'] (hw : d.ws.length < 1000000)
    (hk : ∀ W', St W0 (dk p (d.sync f).1 :: L') W' → k (.int .i64 (d.sync f).2) W') : callK PR F_disk_Disk_Sync [.pointer (some ⟨p, 0, none⟩), .int .i64 f] k W := by
  apply S.disk_Disk_Sync.call
  unfold S.disk_Disk_Sync.body
  refine diskFind h fun W1 h => ?_
  refine joinK_i ?_
  unfold DS.sync at hk
  by_cases ha : d.find f = 0
  · rw [if_pos ha] at hk
    rw [ha]
    (repeat (first | (first | ((with_reducible first | refine w1 ?_ | refine w3 ?_ | refine w4 ?_ | refine w11 ?_ | refine stb_n ?_); intros) | ((with_reducible first | refine v5 ?_ | refine v6 ?_ | refine v7 ?_ | refine ve ?_ | refine vn ?_); refine ⟨_, rfl, ?_⟩) | ((with_reducible first | refine v8 ?_ ?_ | refine v9 ?_ ?_ | refine v10 ?_ ?_ | refine v12 ?_ ?_); exact rfl; intros) | ((with_reducible refine w2 ?_); try simp -implicitDefEqProofs only [SE, SU, SV]; intros) | ((with_reducible refine w5 ?_ ?_); simp; refine ⟨_, rfl, ?_⟩) | ((with_reducible refine w12 ?_ ?_ ?_ ?_); simp; simp; simp [oneC]; intros) | (refine okF_i (bldP_eq rfl) ?_; try simp only [BLS, SB, Nat.reduceAdd])) | simp -implicitDefEqProofs only [SE, SU, SV]))
    refine diskSafe (d := d) h hw fun W2 h => ?_
    exact hk _ h
  · rw [if_neg ha] at hk
    have e1 : decide (d.find f = 0) = false := decide_eq_false ha
    (repeat (first | (first | ((with_reducible first | refine w1 ?_ | refine w3 ?_ | refine w4 ?_ | refine w11 ?_ | refine stb_n ?_); intros) | ((with_reducible first | refine v5 ?_ | refine v6 ?_ | refine v7 ?_ | refine ve ?_ | refine vn ?_); refine ⟨_, rfl, ?_⟩) | ((with_reducible first | refine v8 ?_ ?_ | refine v9 ?_ ?_ | refine v10 ?_ ?_ | refine v12 ?_ ?_); exact rfl; intros) | ((with_reducible refine w2 ?_); try simp -implicitDefEqProofs only [SE, SU, SV, e1]; intros) | ((with_reducible refine w5 ?_ ?_); simp; refine ⟨_, rfl, ?_⟩) | ((with_reducible refine w12 ?_ ?_ ?_ ?_); simp; simp; simp [oneC]; intros) | (refine okF_i (bldP_eq rfl) ?_; try simp only [BLS, SB, Nat.reduceAdd])) | simp -implicitDefEqProofs only [SE, SU, SV, e1]))
    exact hk _ h
theorem diskDrop {p : Nat} {d : DS} {f : Int} {k : Value → World → Prop} (h : St W0 L W) [ht : Tk (dk p) L d L'] (hw : d.ws.length < 1000000)
    (hk : ∀ W', St W0 (dk p (d.drop f).1 :: L') W' → k (.int .i64 (d.drop f).2) W') : callK PR F_disk_Disk_Drop [.pointer (some ⟨p, 0, none⟩), .int .i64 f] k W := by
  apply S.disk_Disk_Drop.call
  unfold S.disk_Disk_Drop.body
  refine diskFind h fun W1 h => ?_
  refine joinK_i ?_
  unfold DS.drop at hk
  by_cases ha : d.find f = 0
  · rw [if_pos ha] at hk
    rw [ha]
    (repeat (first | (first | ((with_reducible first | refine w1 ?_ | refine w3 ?_ | refine w4 ?_ | refine w11 ?_ | refine stb_n ?_); intros) | ((with_reducible first | refine v5 ?_ | refine v6 ?_ | refine v7 ?_ | refine ve ?_ | refine vn ?_); refine ⟨_, rfl, ?_⟩) | ((with_reducible first | refine v8 ?_ ?_ | refine v9 ?_ ?_ | refine v10 ?_ ?_ | refine v12 ?_ ?_); exact rfl; intros) | ((with_reducible refine w2 ?_); try simp -implicitDefEqProofs only [SE, SU, SV]; intros) | ((with_reducible refine w5 ?_ ?_); simp; refine ⟨_, rfl, ?_⟩) | ((with_reducible refine w12 ?_ ?_ ?_ ?_); simp; simp; simp [oneC]; intros) | (refine okF_i (bldP_eq rfl) ?_; try simp only [BLS, SB, Nat.reduceAdd])) | simp -implicitDefEqProofs only [SE, SU, SV]))
    refine diskSafe (d := d) h hw fun W2 h => ?_
    obtain ⟨r, a, c, fs, hf, h⟩ := dk_at h
    (repeat (first | (first | ((with_reducible first | refine w1 ?_ | refine w3 ?_ | refine w4 ?_ | refine w11 ?_ | refine stb_n ?_); intros) | ((with_reducible first | refine v5 ?_ | refine v6 ?_ | refine v7 ?_ | refine ve ?_ | refine vn ?_); refine ⟨_, rfl, ?_⟩) | ((with_reducible first | refine v8 ?_ ?_ | refine v9 ?_ ?_ | refine v10 ?_ ?_ | refine v12 ?_ ?_); exact rfl; intros) | ((with_reducible refine w2 ?_); try simp -implicitDefEqProofs only [SE, SU, SV]; intros) | ((with_reducible refine w5 ?_ ?_); simp; refine ⟨_, rfl, ?_⟩) | ((with_reducible refine w12 ?_ ?_ ?_ ?_); simp; simp; simp [oneC]; intros) | (refine okF_i (bldP_eq rfl) ?_; try simp only [BLS, SB, Nat.reduceAdd])) | simp -implicitDefEqProofs only [SE, SU, SV]))
    refine mdelete (K := KI) f (by first | assumption | exact St.tick (by assumption) | exact St.tick (St.tick (by assumption))) fun W3 h => ?_
    unfold S.disk_Disk_Drop.j1
    have h2 := h.ent (ent.cons _ (ent.cons _ (ent.cons _ (many_take (F := fch) f ⟨none, 0, []⟩ fch0))))
    rw [mvs, mdel_map] at h2
    refine hk _ (((h2.ent (ent.p4 _ _ _ _ _)).drop).ent (dk_ent (d := { d.safe f with fs := mdel d.fs f }) ?_))
    have : fs.map (fun p => (p.1, p.2.bs)) = d.fs := hf
    simp only [cts, ← this]
    exact (mdel_map BSl.bs fs f).symm
  · rw [if_neg ha] at hk
    have e1 : decide (d.find f = 0) = false := decide_eq_false ha
    (repeat (first | (first | ((with_reducible first | refine w1 ?_ | refine w3 ?_ | refine w4 ?_ | refine w11 ?_ | refine stb_n ?_); intros) | ((with_reducible first | refine v5 ?_ | refine v6 ?_ | refine v7 ?_ | refine ve ?_ | refine vn ?_); refine ⟨_, rfl, ?_⟩) | ((with_reducible first | refine v8 ?_ ?_ | refine v9 ?_ ?_ | refine v10 ?_ ?_ | refine v12 ?_ ?_); exact rfl; intros) | ((with_reducible refine w2 ?_); try simp -implicitDefEqProofs only [SE, SU, SV, e1]; intros) | ((with_reducible refine w5 ?_ ?_); simp; refine ⟨_, rfl, ?_⟩) | ((with_reducible refine w12 ?_ ?_ ?_ ?_); simp; simp; simp [oneC]; intros) | (refine okF_i (bldP_eq rfl) ?_; try simp only [BLS, SB, Nat.reduceAdd])) | simp -implicitDefEqProofs only [SE, SU, SV, e1]))
    exact hk _ h
end
end Go.Proofs.Ythladblmjoaeoaa
namespace Go.Proofs.Ythladblmjoaeoaa
set_option linter.unusedVariables false
set_option linter.unusedSimpArgs false
open Go.Eng
/-! ### rostrum/wal.readAll (53) -/
def S.wal_readAll.j1 (R : Value → World → Prop) (x4 : Value) (W : World) : Prop :=
  R (.tuple #[x4, (.int .i64 0)]) W
def S.wal_readAll.j2 (K1 : List Value → World → Prop) (x0 x4 x12 x13 x14 : Value) (W : World) : Prop :=
  okF (binP .add x14 (.int .i64 1)) fun v45 =>
  K1 [x0, x4, x12, x13, v45] W
def S.wal_readAll.l1 (R : Value → World → Prop) (J1 : List Value → World → Prop) (K1 : List Value → World → Prop) (x0 x4 x12 x13 x14 : Value) (W : World) : Prop :=
  okF (binP .lss x14 x13) fun v15 =>
  ifK v15 (
  joinK (fun s W => S.wal_readAll.j2 K1 (nthv s 0) (nthv s 1) (nthv s 2) (nthv s 3) (nthv s 4) W) (fun J2 =>
  okF (idxS 1 x12 x14) fun v16 =>
  rdK PR (Instr.loadAt T_int v16) (fun v17 W =>
  callK PR F_disk_Disk_Read [x0, v17] (fun v21 W =>
  okF (extP 0 v21) fun v22 =>
  okF (extP 1 v21) fun v23 =>
  okF (binP .neq v23 (.int .i64 0)) fun v25 =>
  ifK v25 (
  R (.tuple #[(.slice none 0 0), v23]) W) (
  callK PR F_wal_parse [v17, v22] (fun v30 W =>
  okF (extP 0 v30) fun v31 =>
  okF (extP 1 v30) fun v32 =>
  okF (extP 2 v30) fun v33 =>
  efK PR (Instr.alloc T_wal_file true (.tuple #[])) (fun v9 W =>
  efK PR (Instr.storeAt T_wal_file v9 v31) (fun _ W =>
  okF (binP .neq v33 (.int .i64 0)) fun v35 =>
  ifK v35 (
  R (.tuple #[(.slice none 0 0), v33]) W) (
  ifK v32 (
  rdK PR (Instr.loadAt T_wal_file v9) (fun v39 W =>
  efK PR (Instr.buildSlice T_s_wal_file 1 #[(0, v39)]) (fun v40 W =>
  efK PR (Builtin.append_ #[T_s_wal_file, T_s_wal_file] T_s_wal_file #[x4, v40]) (fun v41 W =>
  J2 [x0, v41, x12, x13, x14] W) W) W) W) (
  callK PR F_disk_Disk_Drop [x0, v17] (fun v44 W =>
  J2 [x0, x4, x12, x13, x14] W) W))) W) W) W)) W) W)) (
  J1 [x4] W)
def S.wal_readAll.body (R : Value → World → Prop) (v0 : Value) (W : World) : Prop :=
  joinK (fun s W => S.wal_readAll.j1 R (nthv s 0) W) (fun J1 =>
  callK PR F_disk_Disk_Files [v0] (fun v12 W =>
  okF (lenP (.slice T_int) v12) fun v13 =>
  loopK (fun K1 s W => S.wal_readAll.l1 R J1 K1 (nthv s 0) (nthv s 1) (nthv s 2) (nthv s 3) (nthv s 4) W) [v0, (.slice none 0 0), v12, v13, (.int .i64 0)] W) W)
def S.wal_readAll.hint : Hint := (.two .nil (.two .nil (.at [4] (.two .nil (.at [0, 4, 12, 13, 14] (.two .nil (.two (.two .nil .nil) (.at [0, 4, 12, 13, 14] (.two .nil (.two .nil (.two (.two .nil (.two (.two .nil .nil) .nil)) (.two .nil (.two (.two .nil (.two (.two .nil .nil) .nil)) (.two .nil (.two .nil .nil))))))) .nil))) .nil)) (.two .nil .nil))))
theorem S.wal_readAll.ok (R : Value → World → Prop) (v0 : Value) (W : World) : bodyK PR CB Try.f53 S.wal_readAll.hint [v0] R W = S.wal_readAll.body R v0 W := by kernel_rfl
theorem S.wal_readAll.fn : PR.funcs[F_wal_readAll]? = some Try.f53 := by kernel_rfl
theorem S.wal_readAll.call {R : Value → World → Prop} {v0 : Value} {W : World} (h : S.wal_readAll.body R v0 W) : callK PR F_wal_readAll [v0] R W :=
  callK_of_body (g := F_wal_readAll) (fn := Try.f53) (args := [v0]) (R := R) (w := W) mixed CBok S.wal_readAll.fn S.wal_readAll.hint (by rw [S.wal_readAll.ok]; exact h)
/-! ### (*rostrum/wal.Log).take (54) -/
def S.wal_Log_take.j3 (K1 : List Value → World → Prop) (x0 x108 x109 x110 : Value) (W : World) : Prop :=
  okF (binP .add x110 (.int .i64 1)) fun v150 =>
  K1 [x0, x108, x109, v150] W
def S.wal_Log_take.l1 (R : Value → World → Prop) (K1 : List Value → World → Prop) (x0 x108 x109 x110 : Value) (W : World) : Prop :=
  okF (binP .lss x110 x109) fun v111 =>
  ifK v111 (
  joinK (fun s W => S.wal_Log_take.j3 K1 (nthv s 0) (nthv s 1) (nthv s 2) (nthv s 3) W) (fun J3 =>
  okF (idxS 6 x108 x110) fun v113 =>
  rdK PR (Instr.loadAt T_wal_file v113) (fun v114 W =>
  efK PR (Instr.alloc T_wal_file true (.tuple #[])) (fun v12 W =>
  efK PR (Instr.storeAt T_wal_file v12 v114) (fun _ W =>
  okF (addrF 2 v12) fun v115 =>
  rdK PR (Instr.loadAt T_int v115) (fun v116 W =>
  okF (binP .neq v116 x110) fun v118 =>
  ifK v118 (
  R (.int .i64 3) W) (
  okF (nilP x0) fun v121 =>
  okF (addrF 10 v121) fun v122 =>
  rdK PR (Instr.loadAt T_s_s_uint8 v122) (fun v123 W =>
  okF (addrF 4 v12) fun v124 =>
  rdK PR (Instr.loadAt T_s_s_uint8 v124) (fun v125 W =>
  efK PR (Builtin.append_ #[T_s_s_uint8, T_s_s_uint8] T_s_s_uint8 #[v123, v125]) (fun v126 W =>
  okF (nilP x0) fun v127 =>
  okF (addrF 10 v127) fun v128 =>
  efK PR (Instr.storeAt T_s_s_uint8 v128 v126) (fun _ W =>
  okF (addrF 0 v12) fun v132 =>
  rdK PR (Instr.loadAt T_int v132) (fun v133 W =>
  okF (addrF 4 v12) fun v134 =>
  rdK PR (Instr.loadAt T_s_s_uint8 v134) (fun v135 W =>
  okF (lenP (.slice T_s_uint8) v135) fun v136 =>
  okF (binP .add x110 (.int .i64 1)) fun v138 =>
  okF (nilP x0) fun v139 =>
  okF (addrF 5 v139) fun v140 =>
  efK PR (Instr.storeAt T_int v140 v133) (fun _ W =>
  stb PR [(6, true, (Instr.loadAt T_s_s_uint8 v134), v135)] (fun W =>
  okF (nilP x0) fun v141 =>
  okF (addrF 6 v141) fun v142 =>
  efK PR (Instr.storeAt T_int v142 v136) (fun _ W =>
  okF (nilP x0) fun v143 =>
  okF (addrF 7 v143) fun v144 =>
  efK PR (Instr.storeAt T_int v144 v138) (fun _ W =>
  okF (addrF 5 v12) fun v145 =>
  rdK PR (Instr.loadAt T_bool v145) (fun v146 W =>
  ifK v146 (
  okF (nilP x0) fun v148 =>
  okF (addrF 5 v148) fun v149 =>
  efK PR (Instr.storeAt T_int v149 (.int .i64 (-1))) (fun _ W =>
  J3 [x0, x108, x109, x110] W) W) (
  J3 [x0, x108, x109, x110] W)) W) W) W) W) W) W) (tick W)) W) W) W) (tick W))) W) W) W) W)) (
  R (.int .i64 0) W)
def S.wal_Log_take.j2 (R : Value → World → Prop) (x0 x8 : Value) (W : World) : Prop :=
  callK PR F_slices_SortFunc_wal_file_wal_file [x8, (.func (.func F_wal_Log_take_2) #[] #[])] (fun v107 W =>
  okF (lenP (.slice T_wal_file) x8) fun v109 =>
  loopK (fun K1 s W => S.wal_Log_take.l1 R K1 (nthv s 0) (nthv s 1) (nthv s 2) (nthv s 3) W) [x0, x8, v109, (.int .i64 0)] W) W
def S.wal_Log_take.j4 (K2 : List Value → World → Prop) (x0 x5 x8 x44 x45 x46 : Value) (W : World) : Prop :=
  okF (binP .add x46 (.int .i64 1)) fun v105 =>
  K2 [x0, x5, x8, x44, x45, v105] W
def S.wal_Log_take.j5 (J4 : List Value → World → Prop) (x0 x5 x8 x10 x44 x45 x46 : Value) (W : World) : Prop :=
  okF (nilP x0) fun v89 =>
  okF (addrF 4 v89) fun v90 =>
  rdK PR (Instr.loadAt T_s_int v90) (fun v91 W =>
  okF (addrF 0 x10) fun v92 =>
  rdK PR (Instr.loadAt T_int v92) (fun v93 W =>
  efK PR (Instr.buildSlice T_s_int 1 #[(0, v93)]) (fun v94 W =>
  stb PR [(4, true, (Instr.loadAt T_s_int v90), v91)] (fun W =>
  efK PR (Builtin.append_ #[T_s_int, T_s_int] T_s_int #[v91, v94]) (fun v95 W =>
  okF (nilP x0) fun v96 =>
  okF (addrF 4 v96) fun v97 =>
  efK PR (Instr.storeAt T_s_int v97 v95) (fun _ W =>
  okF (nilP x0) fun v99 =>
  okF (addrF 0 v99) fun v100 =>
  rdK PR (Instr.loadAt T_p_disk_Disk v100) (fun v101 W =>
  okF (addrF 0 x10) fun v102 =>
  rdK PR (Instr.loadAt T_int v102) (fun v103 W =>
  callK PR F_disk_Disk_Sync [v101, v103] (fun v104 W =>
  J4 [x0, x5, x8, x44, x45, x46] W) W) W) (tick W)) W) W) W) W) W) (tick W)
def S.wal_Log_take.l2 (J2 : List Value → World → Prop) (K2 : List Value → World → Prop) (x0 x5 x8 x44 x45 x46 : Value) (W : World) : Prop :=
  okF (binP .lss x46 x45) fun v47 =>
  ifK v47 (
  joinK (fun s W => S.wal_Log_take.j4 K2 (nthv s 0) (nthv s 1) (nthv s 2) (nthv s 3) (nthv s 4) (nthv s 5) W) (fun J4 =>
  okF (idxS 6 x44 x46) fun v48 =>
  rdK PR (Instr.loadAt T_wal_file v48) (fun v49 W =>
  efK PR (Instr.alloc T_wal_file true (.tuple #[])) (fun v10 W =>
  efK PR (Instr.storeAt T_wal_file v10 v49) (fun _ W =>
  joinK (fun s W => S.wal_Log_take.j5 J4 (nthv s 0) (nthv s 1) (nthv s 2) (nthv s 3) (nthv s 4) (nthv s 5) (nthv s 6) W) (fun J5 =>
  okF (addrF 3 v10) fun v58 =>
  rdK PR (Instr.loadAt T_uint64 v58) (fun v59 W =>
  okF (nilP x0) fun v61 =>
  okF (addrF 3 v61) fun v62 =>
  rdK PR (Instr.loadAt T_uint64 v62) (fun v63 W =>
  okF (binP .eql v59 v63) fun v64 =>
  gdK (wantd v64 true) (fun k W => okF (addrF 1 v10) fun v => k v W) (fun v66 W =>
  gdK (wantd v64 true) (fun k W => rdK PR (Instr.loadAt T_int v66) k W) (fun v67 W =>
  gdK (wantd v64 true) (fun k W => okF (binP .eql v67 (.int .i64 1)) fun v => k v W) (fun v68 W =>
  okF (pickP v64 v68 (.bool false)) fun v69 =>
  ifK v69 (
  rdK PR (Instr.loadAt T_wal_file v10) (fun v71 W =>
  efK PR (Instr.buildSlice T_s_wal_file 1 #[(0, v71)]) (fun v72 W =>
  efK PR (Builtin.append_ #[T_s_wal_file, T_s_wal_file] T_s_wal_file #[x8, v72]) (fun v73 W =>
  J5 [x0, x5, v73, v10, x44, x45, x46] W) W) W) W) (
  okF (addrF 3 v10) fun v75 =>
  rdK PR (Instr.loadAt T_uint64 v75) (fun v76 W =>
  okF (nilP x0) fun v78 =>
  okF (addrF 3 v78) fun v79 =>
  rdK PR (Instr.loadAt T_uint64 v79) (fun v80 W =>
  okF (binP .eql v76 v80) fun v81 =>
  gdK (wantd v81 true) (fun k W => k x5 W) (fun v83 W =>
  gdK (wantd v81 true) (fun k W => rdK PR (Instr.loadAt T_wal_file v10) k W) (fun v84 W =>
  gdK (wantd v81 true) (fun k W => vcK PR v83 [v84] k W) (fun v85 W =>
  okF (pickP v81 v85 (.bool false)) fun v86 =>
  ifK v86 (
  J5 [x0, x5, x8, v10, x44, x45, x46] W) (
  okF (nilP x0) fun v51 =>
  okF (addrF 0 v51) fun v52 =>
  rdK PR (Instr.loadAt T_p_disk_Disk v52) (fun v53 W =>
  okF (addrF 0 v10) fun v54 =>
  rdK PR (Instr.loadAt T_int v54) (fun v55 W =>
  callK PR F_disk_Disk_Drop [v53, v55] (fun v56 W =>
  J4 [x0, x5, x8, x44, x45, x46] W) W) W) (tick W))) W) W) W) W) (tick W))) W) W) W) W) (tick W))) W) W) W)) (
  J2 [x0, x8] W)
def S.wal_Log_take.j1 (R : Value → World → Prop) (x0 x1 x5 : Value) (W : World) : Prop :=
  joinK (fun s W => S.wal_Log_take.j2 R (nthv s 0) (nthv s 1) W) (fun J2 =>
  okF (lenP (.slice T_wal_file) x1) fun v45 =>
  loopK (fun K2 s W => S.wal_Log_take.l2 J2 K2 (nthv s 0) (nthv s 1) (nthv s 2) (nthv s 3) (nthv s 4) (nthv s 5) W) [x0, x5, (.slice none 0 0), x1, v45, (.int .i64 0)] W)
def S.wal_Log_take.j6 (K3 : List Value → World → Prop) (x0 x1 x5 x13 x14 x15 : Value) (W : World) : Prop :=
  okF (binP .add x15 (.int .i64 1)) fun v43 =>
  K3 [x0, x1, x5, x13, x14, v43] W
def S.wal_Log_take.l3 (J1 : List Value → World → Prop) (K3 : List Value → World → Prop) (x0 x1 x5 x13 x14 x15 : Value) (W : World) : Prop :=
  okF (binP .lss x15 x14) fun v16 =>
  ifK v16 (
  joinK (fun s W => S.wal_Log_take.j6 K3 (nthv s 0) (nthv s 1) (nthv s 2) (nthv s 3) (nthv s 4) (nthv s 5) W) (fun J6 =>
  okF (idxS 6 x13 x15) fun v17 =>
  rdK PR (Instr.loadAt T_wal_file v17) (fun v18 W =>
  efK PR (Instr.alloc T_wal_file true (.tuple #[])) (fun v7 W =>
  efK PR (Instr.storeAt T_wal_file v7 v18) (fun _ W =>
  rdK PR (Instr.loadAt T_wal_file v7) (fun v20 W =>
  vcK PR x5 [v20] (fun v21 W =>
  gdK (wantd v21 true) (fun k W => okF (addrF 3 v7) fun v => k v W) (fun v23 W =>
  gdK (wantd v21 true) (fun k W => rdK PR (Instr.loadAt T_uint64 v23) k W) (fun v24 W =>
  gdK (wantd v21 true) (fun k W => k x0 W) (fun v25 W =>
  gdK (wantd v21 true) (fun k W => okF (nilP v25) fun v => k v W) (fun v26 W =>
  gdK (wantd v21 true) (fun k W => okF (addrF 3 v26) fun v => k v W) (fun v27 W =>
  gdK (wantd v21 true) (fun k W => rdK PR (Instr.loadAt T_uint64 v27) k W) (fun v28 W =>
  gdK (wantd v21 true) (fun k W => okF (binP .gtr v24 v28) fun v => k v W) (fun v29 W =>
  okF (pickP v21 v29 (.bool false)) fun v30 =>
  ifK v30 (
  okF (addrF 3 v7) fun v33 =>
  rdK PR (Instr.loadAt T_uint64 v33) (fun v34 W =>
  okF (addrF 4 v7) fun v35 =>
  rdK PR (Instr.loadAt T_s_s_uint8 v35) (fun v36 W =>
  okF (idxS 1 v36 (.int .i64 0)) fun v37 =>
  rdK PR (Instr.loadAt T_s_uint8 v37) (fun v38 W =>
  okF (nilP x0) fun v39 =>
  okF (addrF 3 v39) fun v40 =>
  efK PR (Instr.storeAt T_uint64 v40 v34) (fun _ W =>
  okF (nilP x0) fun v41 =>
  okF (addrF 9 v41) fun v42 =>
  efK PR (Instr.storeAt T_s_uint8 v42 v38) (fun _ W =>
  J6 [x0, x1, x5, x13, x14, x15] W) W) W) W) W) (tick W)) (
  J6 [x0, x1, x5, x13, x14, x15] W)) W) W) W) W) W) W) W) W) (tick W)) W) W) W)) (
  J1 [x0, x1, x5] W)
def S.wal_Log_take.body (R : Value → World → Prop) (v0 v1 : Value) (W : World) : Prop :=
  joinK (fun s W => S.wal_Log_take.j1 R (nthv s 0) (nthv s 1) (nthv s 2) W) (fun J1 =>
  okF (lenP (.slice T_wal_file) v1) fun v14 =>
  loopK (fun K3 s W => S.wal_Log_take.l3 J1 K3 (nthv s 0) (nthv s 1) (nthv s 2) (nthv s 3) (nthv s 4) (nthv s 5) W) [v0, v1, (.func (.func F_wal_Log_take_1) #[] #[]), v1, v14, (.int .i64 0)] W)
def S.wal_Log_take.hint : Hint := (.two .nil (.two .nil (.at [0, 1, 5] (.two .nil (.at [0, 1, 5, 13, 14, 15] (.two .nil (.two (.two .nil .nil) (.at [0, 1, 5, 13, 14, 15] (.two .nil (.two .nil (.two .nil .nil))) .nil))) .nil)) (.two .nil (.at [0, 8] (.two .nil (.at [0, 5, 8, 44, 45, 46] (.two .nil (.two (.two .nil .nil) (.at [0, 5, 8, 44, 45, 46] (.two .nil (.at [0, 5, 8, 10, 44, 45, 46] (.two .nil (.two .nil (.two .nil (.two .nil (.two .nil .nil))))) (.two .nil .nil))) .nil))) .nil)) (.two .nil (.two (.two .nil (.at [0, 108, 109, 110] (.two .nil (.two (.two .nil .nil) (.at [0, 108, 109, 110] (.two .nil (.two (.two .nil (.two (.two .nil .nil) .nil)) (.two .nil (.two .nil (.two .nil (.two .nil .nil)))))) .nil))) .nil)) (.two .nil .nil))))))))
theorem S.wal_Log_take.ok (R : Value → World → Prop) (v0 v1 : Value) (W : World) : bodyK PR CB Try.f54 S.wal_Log_take.hint [v0, v1] R W = S.wal_Log_take.body R v0 v1 W := by kernel_rfl
theorem S.wal_Log_take.fn : PR.funcs[F_wal_Log_take]? = some Try.f54 := by kernel_rfl
theorem S.wal_Log_take.call {R : Value → World → Prop} {v0 v1 : Value} {W : World} (h : S.wal_Log_take.body R v0 v1 W) : callK PR F_wal_Log_take [v0, v1] R W :=
  callK_of_body (g := F_wal_Log_take) (fn := Try.f54) (args := [v0, v1]) (R := R) (w := W) mixed CBok S.wal_Log_take.fn S.wal_Log_take.hint (by rw [S.wal_Log_take.ok]; exact h)
/-! ### (*rostrum/wal.Log).take$1 (66) -/
def S.wal_Log_take_1.body (R : Value → World → Prop) (v0 : Value) (W : World) : Prop :=
  efK PR (Instr.box T_wal_file v0) (fun v1 W =>
  okF (addrF 1 v1) fun v3 =>
  rdK PR (Instr.loadAt T_int v3) (fun v4 W =>
  okF (binP .eql v4 (.int .i64 0)) fun v5 =>
  gdK (wantd v5 true) (fun k W => okF (addrF 4 v1) fun v => k v W) (fun v7 W =>
  gdK (wantd v5 true) (fun k W => rdK PR (Instr.loadAt T_s_s_uint8 v7) k W) (fun v8 W =>
  gdK (wantd v5 true) (fun k W => okF (lenP (.slice T_s_uint8) v8) fun v => k v W) (fun v9 W =>
  gdK (wantd v5 true) (fun k W => okF (binP .eql v9 (.int .i64 1)) fun v => k v W) (fun v10 W =>
  okF (pickP v5 v10 (.bool false)) fun v11 =>
  gdK (wantd v11 true) (fun k W => okF (addrF 5 v1) fun v => k v W) (fun v13 W =>
  gdK (wantd v11 true) (fun k W => rdK PR (Instr.loadAt T_bool v13) k W) (fun v14 W =>
  gdK (wantd v11 true) (fun k W => okF (unP .not v14) fun v => k v W) (fun v15 W =>
  okF (pickP v11 v15 (.bool false)) fun v16 =>
  R v16 W) W) W) W) W) W) W) W) W) W
def S.wal_Log_take_1.hint : Hint := (.two .nil (.two .nil .nil))
theorem S.wal_Log_take_1.ok (R : Value → World → Prop) (v0 : Value) (W : World) : bodyK PR CB Try.f66 S.wal_Log_take_1.hint [v0] R W = S.wal_Log_take_1.body R v0 W := by kernel_rfl
theorem S.wal_Log_take_1.fn : PR.funcs[F_wal_Log_take_1]? = some Try.f66 := by kernel_rfl
theorem S.wal_Log_take_1.call {R : Value → World → Prop} {v0 : Value} {W : World} (h : S.wal_Log_take_1.body R v0 W) : callK PR F_wal_Log_take_1 [v0] R W :=
  callK_of_body (g := F_wal_Log_take_1) (fn := Try.f66) (args := [v0]) (R := R) (w := W) mixed CBok S.wal_Log_take_1.fn S.wal_Log_take_1.hint (by rw [S.wal_Log_take_1.ok]; exact h)
/-! ### (*rostrum/wal.Log).take$2 (68) -/
def S.wal_Log_take_2.body (R : Value → World → Prop) (v0 v1 : Value) (W : World) : Prop :=
  efK PR (Instr.box T_wal_file v0) (fun v2 W =>
  efK PR (Instr.box T_wal_file v1) (fun v3 W =>
  okF (addrF 2 v2) fun v5 =>
  rdK PR (Instr.loadAt T_int v5) (fun v6 W =>
  okF (addrF 2 v3) fun v7 =>
  rdK PR (Instr.loadAt T_int v7) (fun v8 W =>
  callK PR F_cmp_Compare_int [v6, v8] (fun v9 W =>
  R v9 W) W) W) W) W) W
def S.wal_Log_take_2.hint : Hint := (.two .nil (.two .nil .nil))
theorem S.wal_Log_take_2.ok (R : Value → World → Prop) (v0 v1 : Value) (W : World) : bodyK PR CB Try.f68 S.wal_Log_take_2.hint [v0, v1] R W = S.wal_Log_take_2.body R v0 v1 W := by kernel_rfl
theorem S.wal_Log_take_2.fn : PR.funcs[F_wal_Log_take_2]? = some Try.f68 := by kernel_rfl
theorem S.wal_Log_take_2.call {R : Value → World → Prop} {v0 v1 : Value} {W : World} (h : S.wal_Log_take_2.body R v0 v1 W) : callK PR F_wal_Log_take_2 [v0, v1] R W :=
  callK_of_body (g := F_wal_Log_take_2) (fn := Try.f68) (args := [v0, v1]) (R := R) (w := W) mixed CBok S.wal_Log_take_2.fn S.wal_Log_take_2.hint (by rw [S.wal_Log_take_2.ok]; exact h)
/-! ### rostrum/wal.Open (36) -/
def S.wal_Open.body (R : Value → World → Prop) (v0 v1 : Value) (W : World) : Prop :=
  okF (binP .lss v1 (.int .i64 1)) fun v11 =>
  gdK (wantd v11 false) (fun k W => k v1 W) (fun v13 W =>
  gdK (wantd v11 false) (fun k W => okF (binP .gtr v13 (.int .i64 1000)) fun v => k v W) (fun v14 W =>
  okF (pickP v11 (.bool true) v14) fun v15 =>
  ifK v15 (
  R (.tuple #[(.pointer none), (.int .i64 1)]) W) (
  callK PR F_disk_Disk_Power [v0] (fun v17 W =>
  okF (unP .not v17) fun v18 =>
  ifK v18 (
  R (.tuple #[(.pointer none), (.int .i64 7)]) W) (
  callK PR F_wal_readAll [v0] (fun v21 W =>
  okF (extP 0 v21) fun v22 =>
  okF (extP 1 v21) fun v23 =>
  okF (binP .neq v23 (.int .i64 0)) fun v25 =>
  ifK v25 (
  R (.tuple #[(.pointer none), v23]) W) (
  callK PR F_disk_Disk_Lives [v0] (fun v30 W =>
  okF (bldP (fun i => ([(0, 1), (1, 1), (2, 1), (3, 1), (4, 1), (5, 1), (6, 1), (7, 1), (8, 1), (9, 1), (10, 1), (11, 1)] : List (Nat × Nat))[i]?) [.pointer none, .int .i64 0, .int .i64 0, .int .u64 0, .slice none 0 0, .int .i64 0, .int .i64 0, .int .i64 0, .slice none 0 0, .slice none 0 0, .slice none 0 0, .bool false] [(0, v0), (1, v1), (2, v30), (5, (.int .i64 (-1)))]) fun v31 =>
  efK PR (Instr.box T_wal_Log v31) (fun v32 W =>
  callK PR F_wal_Log_take [v32, v22] (fun v35 W =>
  okF (binP .neq v35 (.int .i64 0)) fun v37 =>
  ifK v37 (
  R (.tuple #[(.pointer none), v35]) W) (
  R (.tuple #[v32, (.int .i64 0)]) W)) W) W) W)) W)) W)) W) W
def S.wal_Open.hint : Hint := (.two .nil (.two (.two .nil (.two (.two .nil .nil) .nil)) (.two (.two .nil (.two (.two .nil .nil) .nil)) (.two .nil (.two (.two .nil (.two (.two .nil .nil) .nil)) (.two .nil (.two (.two .nil (.two .nil (.two (.two .nil .nil) .nil))) (.two .nil .nil))))))))
theorem S.wal_Open.ok (R : Value → World → Prop) (v0 v1 : Value) (W : World) : bodyK PR CB Try.f36 S.wal_Open.hint [v0, v1] R W = S.wal_Open.body R v0 v1 W := by kernel_rfl
theorem S.wal_Open.fn : PR.funcs[F_wal_Open]? = some Try.f36 := by kernel_rfl
theorem S.wal_Open.call {R : Value → World → Prop} {v0 v1 : Value} {W : World} (h : S.wal_Open.body R v0 v1 W) : callK PR F_wal_Open [v0, v1] R W :=
  callK_of_body (g := F_wal_Open) (fn := Try.f36) (args := [v0, v1]) (R := R) (w := W) mixed CBok S.wal_Open.fn S.wal_Open.hint (by rw [S.wal_Open.ok]; exact h)
/-! ### (*rostrum/wal.Log).Done (39) -/
def S.wal_Log_Done.body (R : Value → World → Prop) (v0 : Value) (W : World) : Prop :=
  okF (nilP v0) fun v4 =>
  okF (addrF 11 v4) fun v5 =>
  rdK PR (Instr.loadAt T_bool v5) (fun v6 W =>
  gdK (wantd v6 false) (fun k W => k v0 W) (fun v8 W =>
  gdK (wantd v6 false) (fun k W => okF (nilP v8) fun v => k v W) (fun v9 W =>
  gdK (wantd v6 false) (fun k W => okF (addrF 0 v9) fun v => k v W) (fun v10 W =>
  gdK (wantd v6 false) (fun k W => rdK PR (Instr.loadAt T_p_disk_Disk v10) k W) (fun v11 W =>
  gdK (wantd v6 false) (fun k W => callK PR F_disk_Disk_Power [v11] k W) (fun v12 W =>
  gdK (wantd v6 false) (fun k W => okF (unP .not v12) fun v => k v W) (fun v13 W =>
  okF (pickP v6 (.bool true) v13) fun v14 =>
  gdK (wantd v14 false) (fun k W => k v0 W) (fun v16 W =>
  gdK (wantd v14 false) (fun k W => okF (nilP v16) fun v => k v W) (fun v17 W =>
  gdK (wantd v14 false) (fun k W => okF (addrF 0 v17) fun v => k v W) (fun v18 W =>
  gdK (wantd v14 false) (fun k W => rdK PR (Instr.loadAt T_p_disk_Disk v18) k W) (fun v19 W =>
  gdK (wantd v14 false) (fun k W => k v0 W) (fun v21 W =>
  gdK (wantd v14 false) (fun k W => okF (nilP v21) fun v => k v W) (fun v22 W =>
  gdK (wantd v14 false) (fun k W => okF (addrF 2 v22) fun v => k v W) (fun v23 W =>
  gdK (wantd v14 false) (fun k W => rdK PR (Instr.loadAt T_int v23) k W) (fun v24 W =>
  gdK (wantd v14 false) (fun k W => callK PR F_disk_Disk_Lives [v19] (fun v W => stb PR [(21, (wantd v14 false), (Instr.loadAt T_int v23), v24)] (fun W => k v W) W) W) (fun v20 W =>
  gdK (wantd v14 false) (fun k W => okF (binP .neq v20 v24) fun v => k v W) (fun v25 W =>
  okF (pickP v14 (.bool true) v25) fun v26 =>
  R v26 W) W) W) W) W) W) W) W) W) W) W) W) W) W) W) W) W) (tick W)
def S.wal_Log_Done.hint : Hint := (.two .nil (.two .nil .nil))
theorem S.wal_Log_Done.ok (R : Value → World → Prop) (v0 : Value) (W : World) : bodyK PR CB Try.f39 S.wal_Log_Done.hint [v0] R W = S.wal_Log_Done.body R v0 W := by kernel_rfl
theorem S.wal_Log_Done.fn : PR.funcs[F_wal_Log_Done]? = some Try.f39 := by kernel_rfl
theorem S.wal_Log_Done.call {R : Value → World → Prop} {v0 : Value} {W : World} (h : S.wal_Log_Done.body R v0 W) : callK PR F_wal_Log_Done [v0] R W :=
  callK_of_body (g := F_wal_Log_Done) (fn := Try.f39) (args := [v0]) (R := R) (w := W) mixed CBok S.wal_Log_Done.fn S.wal_Log_Done.hint (by rw [S.wal_Log_Done.ok]; exact h)
/-! ### (*rostrum/wal.Log).free (56) -/
def S.wal_Log_free.l1 (R : Value → World → Prop) (K1 : List Value → World → Prop) (x0 x4 : Value) (W : World) : Prop :=
  okF (binP .lss x4 (.int .i64 1000)) fun v5 =>
  ifK v5 (
  okF (nilP x0) fun v8 =>
  okF (addrF 4 v8) fun v9 =>
  rdK PR (Instr.loadAt T_s_int v9) (fun v10 W =>
  callK PR F_slices_Contains_int_int [v10, x4] (fun v12 W =>
  okF (unP .not v12) fun v13 =>
  ifK v13 (
  R x4 W) (
  okF (binP .add x4 (.int .i64 1)) fun v15 =>
  K1 [x0, v15] W)) W) W) (
  R (.int .i64 (-1)) W)
def S.wal_Log_free.body (R : Value → World → Prop) (v0 : Value) (W : World) : Prop :=
  loopK (fun K1 s W => S.wal_Log_free.l1 R K1 (nthv s 0) (nthv s 1) W) [v0, (.int .i64 0)] W
def S.wal_Log_free.hint : Hint := (.two .nil (.two (.two .nil (.at [0, 4] (.two .nil (.two (.two .nil .nil) (.two (.two .nil (.two .nil (.two (.two .nil .nil) .nil))) .nil))) .nil)) (.two .nil .nil)))
theorem S.wal_Log_free.ok (R : Value → World → Prop) (v0 : Value) (W : World) : bodyK PR CB Try.f56 S.wal_Log_free.hint [v0] R W = S.wal_Log_free.body R v0 W := by kernel_rfl
theorem S.wal_Log_free.fn : PR.funcs[F_wal_Log_free]? = some Try.f56 := by kernel_rfl
theorem S.wal_Log_free.call {R : Value → World → Prop} {v0 : Value} {W : World} (h : S.wal_Log_free.body R v0 W) : callK PR F_wal_Log_free [v0] R W :=
  callK_of_body (g := F_wal_Log_free) (fn := Try.f56) (args := [v0]) (R := R) (w := W) mixed CBok S.wal_Log_free.fn S.wal_Log_free.hint (by rw [S.wal_Log_free.ok]; exact h)
/-! ### (*rostrum/wal.Log).write (57) -/
def S.wal_Log_write.body (R : Value → World → Prop) (v0 v1 v2 : Value) (W : World) : Prop :=
  okF (nilP v0) fun v9 =>
  okF (addrF 0 v9) fun v10 =>
  rdK PR (Instr.loadAt T_p_disk_Disk v10) (fun v11 W =>
  callK PR F_disk_Disk_Append [v11, v1, v2] (fun v14 W =>
  okF (binP .neq v14 (.int .i64 0)) fun v16 =>
  ifK v16 (
  okF (nilP v0) fun v18 =>
  okF (addrF 11 v18) fun v19 =>
  efK PR (Instr.storeAt T_bool v19 (.bool true)) (fun _ W =>
  R v14 W) W) (
  okF (nilP v0) fun v22 =>
  okF (addrF 8 v22) fun v23 =>
  rdK PR (Instr.loadAt T_s_int v23) (fun v24 W =>
  callK PR F_slices_Contains_int_int [v24, v1] (fun v26 W =>
  okF (unP .not v26) fun v27 =>
  ifK v27 (
  okF (nilP v0) fun v30 =>
  okF (addrF 8 v30) fun v31 =>
  rdK PR (Instr.loadAt T_s_int v31) (fun v32 W =>
  efK PR (Instr.buildSlice T_s_int 1 #[(0, v1)]) (fun v34 W =>
  efK PR (Builtin.append_ #[T_s_int, T_s_int] T_s_int #[v32, v34]) (fun v35 W =>
  okF (nilP v0) fun v36 =>
  okF (addrF 8 v36) fun v37 =>
  efK PR (Instr.storeAt T_s_int v37 v35) (fun _ W =>
  R (.int .i64 0) W) W) W) W) W) (
  R (.int .i64 0) W)) W) W)) W) W
def S.wal_Log_write.hint : Hint := (.two .nil (.two .nil (.two (.two .nil (.two (.two .nil (.two .nil .nil)) .nil)) (.two (.two .nil (.two .nil .nil)) (.two .nil .nil)))))
theorem S.wal_Log_write.ok (R : Value → World → Prop) (v0 v1 v2 : Value) (W : World) : bodyK PR CB Try.f57 S.wal_Log_write.hint [v0, v1, v2] R W = S.wal_Log_write.body R v0 v1 v2 W := by kernel_rfl
theorem S.wal_Log_write.fn : PR.funcs[F_wal_Log_write]? = some Try.f57 := by kernel_rfl
theorem S.wal_Log_write.call {R : Value → World → Prop} {v0 v1 v2 : Value} {W : World} (h : S.wal_Log_write.body R v0 v1 v2 W) : callK PR F_wal_Log_write [v0, v1, v2] R W :=
  callK_of_body (g := F_wal_Log_write) (fn := Try.f57) (args := [v0, v1, v2]) (R := R) (w := W) mixed CBok S.wal_Log_write.fn S.wal_Log_write.hint (by rw [S.wal_Log_write.ok]; exact h)
/-! ### (*rostrum/wal.Log).add (55) -/
def S.wal_Log_add.j1 (R : Value → World → Prop) (x0 x5 : Value) (W : World) : Prop :=
  okF (nilP x0) fun v65 =>
  okF (addrF 5 v65) fun v66 =>
  rdK PR (Instr.loadAt T_int v66) (fun v67 W =>
  okF (binP .lss v67 (.int .i64 0)) fun v68 =>
  ifK v68 (
  okF (nilP x0) fun v70 =>
  okF (addrF 11 v70) fun v71 =>
  efK PR (Instr.storeAt T_bool v71 (.bool true)) (fun _ W =>
  R (.int .i64 6) W) W) (
  okF (nilP x0) fun v73 =>
  okF (addrF 6 v73) fun v74 =>
  rdK PR (Instr.loadAt T_int v74) (fun v75 W =>
  okF (binP .add v75 (.int .i64 1)) fun v76 =>
  okF (nilP x0) fun v77 =>
  okF (addrF 6 v77) fun v78 =>
  efK PR (Instr.storeAt T_int v78 v76) (fun _ W =>
  okF (nilP x0) fun v81 =>
  okF (addrF 5 v81) fun v82 =>
  rdK PR (Instr.loadAt T_int v82) (fun v83 W =>
  callK PR F_wal_Log_write [x0, v83, x5] (fun v85 W =>
  R v85 W) W) W) W) W)) W
def S.wal_Log_add.body (R : Value → World → Prop) (v0 v1 : Value) (W : World) : Prop :=
  callK PR F_wal_unit [v1] (fun v8 W =>
  joinK (fun s W => S.wal_Log_add.j1 R (nthv s 0) (nthv s 1) W) (fun J1 =>
  okF (nilP v0) fun v10 =>
  okF (addrF 5 v10) fun v11 =>
  rdK PR (Instr.loadAt T_int v11) (fun v12 W =>
  okF (binP .lss v12 (.int .i64 0)) fun v13 =>
  gdK (wantd v13 false) (fun k W => k v0 W) (fun v15 W =>
  gdK (wantd v13 false) (fun k W => okF (nilP v15) fun v => k v W) (fun v16 W =>
  gdK (wantd v13 false) (fun k W => okF (addrF 6 v16) fun v => k v W) (fun v17 W =>
  gdK (wantd v13 false) (fun k W => rdK PR (Instr.loadAt T_int v17) k W) (fun v18 W =>
  gdK (wantd v13 false) (fun k W => k v0 W) (fun v19 W =>
  gdK (wantd v13 false) (fun k W => okF (nilP v19) fun v => k v W) (fun v20 W =>
  gdK (wantd v13 false) (fun k W => okF (addrF 1 v20) fun v => k v W) (fun v21 W =>
  gdK (wantd v13 false) (fun k W => rdK PR (Instr.loadAt T_int v21) k W) (fun v22 W =>
  gdK (wantd v13 false) (fun k W => okF (binP .geq v18 v22) fun v => k v W) (fun v23 W =>
  okF (pickP v13 (.bool true) v23) fun v24 =>
  ifK v24 (
  callK PR F_wal_Log_free [v0] (fun v26 W =>
  okF (binP .geq v26 (.int .i64 0)) fun v28 =>
  ifK v28 (
  okF (nilP v0) fun v30 =>
  okF (addrF 3 v30) fun v31 =>
  rdK PR (Instr.loadAt T_uint64 v31) (fun v32 W =>
  okF (nilP v0) fun v34 =>
  okF (addrF 7 v34) fun v35 =>
  rdK PR (Instr.loadAt T_int v35) (fun v36 W =>
  callK PR F_wal_top [(.int .i64 1), v32, v36] (fun v37 W =>
  efK PR (Builtin.append_ #[T_s_uint8, T_s_uint8] T_s_uint8 #[v37, v8]) (fun v39 W =>
  okF (nilP v0) fun v42 =>
  okF (addrF 4 v42) fun v43 =>
  rdK PR (Instr.loadAt T_s_int v43) (fun v44 W =>
  efK PR (Instr.buildSlice T_s_int 1 #[(0, v26)]) (fun v46 W =>
  efK PR (Builtin.append_ #[T_s_int, T_s_int] T_s_int #[v44, v46]) (fun v47 W =>
  okF (nilP v0) fun v48 =>
  okF (addrF 4 v48) fun v49 =>
  efK PR (Instr.storeAt T_s_int v49 v47) (fun _ W =>
  okF (nilP v0) fun v53 =>
  okF (addrF 5 v53) fun v54 =>
  efK PR (Instr.storeAt T_int v54 v26) (fun _ W =>
  okF (nilP v0) fun v55 =>
  okF (addrF 6 v55) fun v56 =>
  efK PR (Instr.storeAt T_int v56 (.int .i64 0)) (fun _ W =>
  okF (nilP v0) fun v58 =>
  okF (addrF 7 v58) fun v59 =>
  rdK PR (Instr.loadAt T_int v59) (fun v60 W =>
  okF (binP .add v60 (.int .i64 1)) fun v61 =>
  okF (nilP v0) fun v62 =>
  okF (addrF 7 v62) fun v63 =>
  efK PR (Instr.storeAt T_int v63 v61) (fun _ W =>
  J1 [v0, v39] W) W) W) W) W) W) W) W) W) W) W) W) (tick W)) (
  J1 [v0, v8] W)) W) (
  J1 [v0, v8] W)) W) W) W) W) W) W) W) W) W) (tick W))) W
def S.wal_Log_add.hint : Hint := (.two .nil (.two .nil (.at [0, 5] (.two .nil (.two (.two .nil (.two .nil (.two (.two .nil (.two .nil (.two .nil .nil))) .nil))) .nil)) (.two (.two .nil (.two (.two .nil (.two .nil .nil)) .nil)) (.two .nil (.two .nil .nil))))))
theorem S.wal_Log_add.ok (R : Value → World → Prop) (v0 v1 : Value) (W : World) : bodyK PR CB Try.f55 S.wal_Log_add.hint [v0, v1] R W = S.wal_Log_add.body R v0 v1 W := by kernel_rfl
theorem S.wal_Log_add.fn : PR.funcs[F_wal_Log_add]? = some Try.f55 := by kernel_rfl
theorem S.wal_Log_add.call {R : Value → World → Prop} {v0 v1 : Value} {W : World} (h : S.wal_Log_add.body R v0 v1 W) : callK PR F_wal_Log_add [v0, v1] R W :=
  callK_of_body (g := F_wal_Log_add) (fn := Try.f55) (args := [v0, v1]) (R := R) (w := W) mixed CBok S.wal_Log_add.fn S.wal_Log_add.hint (by rw [S.wal_Log_add.ok]; exact h)
/-! ### (*rostrum/wal.Log).Add (37) -/
def S.wal_Log_Add.l1 (R : Value → World → Prop) (K1 : List Value → World → Prop) (x0 x37 x38 x39 : Value) (W : World) : Prop :=
  okF (binP .lss x39 x38) fun v40 =>
  ifK v40 (
  okF (idxS 1 x37 x39) fun v41 =>
  rdK PR (Instr.loadAt T_s_uint8 v41) (fun v42 W =>
  okF (nilP x0) fun v45 =>
  okF (addrF 10 v45) fun v46 =>
  rdK PR (Instr.loadAt T_s_s_uint8 v46) (fun v47 W =>
  callK PR F_bytes_Clone [v42] (fun v49 W =>
  stb PR [(4, true, (Instr.loadAt T_s_s_uint8 v46), v47)] (fun W =>
  efK PR (Instr.buildSlice T_s_s_uint8 1 #[(0, v49)]) (fun v50 W =>
  stb PR [(4, true, (Instr.loadAt T_s_s_uint8 v46), v47)] (fun W =>
  efK PR (Builtin.append_ #[T_s_s_uint8, T_s_s_uint8] T_s_s_uint8 #[v47, v50]) (fun v51 W =>
  okF (nilP x0) fun v52 =>
  okF (addrF 10 v52) fun v53 =>
  efK PR (Instr.storeAt T_s_s_uint8 v53 v51) (fun _ W =>
  okF (binP .add x39 (.int .i64 1)) fun v54 =>
  K1 [x0, x37, x38, v54] W) W) W) W) W) W) W) (tick W)) W) (
  R (.int .i64 0) W)
def S.wal_Log_Add.j2 (R : Value → World → Prop) (x0 x1 : Value) (W : World) : Prop :=
  okF (lenP (.slice T_s_uint8) x1) fun v38 =>
  loopK (fun K1 s W => S.wal_Log_Add.l1 R K1 (nthv s 0) (nthv s 1) (nthv s 2) (nthv s 3) W) [x0, x1, v38, (.int .i64 0)] W
def S.wal_Log_Add.l2 (R : Value → World → Prop) (J2 : List Value → World → Prop) (K2 : List Value → World → Prop) (x0 x1 x24 x25 x26 : Value) (W : World) : Prop :=
  okF (binP .lss x26 x25) fun v27 =>
  ifK v27 (
  okF (idxS 1 x24 x26) fun v28 =>
  rdK PR (Instr.loadAt T_s_uint8 v28) (fun v29 W =>
  callK PR F_wal_Log_add [x0, v29] (fun v32 W =>
  okF (binP .neq v32 (.int .i64 0)) fun v34 =>
  ifK v34 (
  R v32 W) (
  okF (binP .add x26 (.int .i64 1)) fun v36 =>
  K2 [x0, x1, x24, x25, v36] W)) W) W) (
  J2 [x0, x1] W)
def S.wal_Log_Add.j1 (R : Value → World → Prop) (x0 x1 : Value) (W : World) : Prop :=
  joinK (fun s W => S.wal_Log_Add.j2 R (nthv s 0) (nthv s 1) W) (fun J2 =>
  okF (lenP (.slice T_s_uint8) x1) fun v25 =>
  loopK (fun K2 s W => S.wal_Log_Add.l2 R J2 K2 (nthv s 0) (nthv s 1) (nthv s 2) (nthv s 3) (nthv s 4) W) [x0, x1, x1, v25, (.int .i64 0)] W)
def S.wal_Log_Add.l3 (R : Value → World → Prop) (J1 : List Value → World → Prop) (K3 : List Value → World → Prop) (x0 x1 x14 x15 x16 : Value) (W : World) : Prop :=
  okF (binP .lss x16 x15) fun v17 =>
  ifK v17 (
  okF (idxS 1 x14 x16) fun v18 =>
  rdK PR (Instr.loadAt T_s_uint8 v18) (fun v19 W =>
  okF (lenP (.slice T_uint8) v19) fun v21 =>
  okF (binP .gtr v21 (.int .i64 65536)) fun v22 =>
  ifK v22 (
  R (.int .i64 2) W) (
  okF (binP .add x16 (.int .i64 1)) fun v23 =>
  K3 [x0, x1, x14, x15, v23] W)) W) (
  J1 [x0, x1] W)
def S.wal_Log_Add.body (R : Value → World → Prop) (v0 v1 : Value) (W : World) : Prop :=
  callK PR F_wal_Log_Done [v0] (fun v13 W =>
  ifK v13 (
  R (.int .i64 7) W) (
  joinK (fun s W => S.wal_Log_Add.j1 R (nthv s 0) (nthv s 1) W) (fun J1 =>
  okF (lenP (.slice T_s_uint8) v1) fun v15 =>
  loopK (fun K3 s W => S.wal_Log_Add.l3 R J1 K3 (nthv s 0) (nthv s 1) (nthv s 2) (nthv s 3) (nthv s 4) W) [v0, v1, v1, v15, (.int .i64 0)] W))) W
def S.wal_Log_Add.hint : Hint := (.two .nil (.two (.two .nil (.two (.two .nil .nil) .nil)) (.at [0, 1] (.two .nil (.at [0, 1, 14, 15, 16] (.two .nil (.two (.two .nil .nil) (.two (.two .nil (.two .nil (.two (.two .nil .nil) .nil))) .nil))) .nil)) (.at [0, 1] (.two .nil (.at [0, 1, 24, 25, 26] (.two .nil (.two (.two .nil .nil) (.two (.two .nil (.two .nil (.two .nil (.two (.two .nil .nil) .nil)))) .nil))) .nil)) (.two (.two .nil (.at [0, 37, 38, 39] (.two .nil (.two (.two .nil .nil) (.two (.two .nil .nil) .nil))) .nil)) (.two .nil .nil))))))
theorem S.wal_Log_Add.ok (R : Value → World → Prop) (v0 v1 : Value) (W : World) : bodyK PR CB Try.f37 S.wal_Log_Add.hint [v0, v1] R W = S.wal_Log_Add.body R v0 v1 W := by kernel_rfl
theorem S.wal_Log_Add.fn : PR.funcs[F_wal_Log_Add]? = some Try.f37 := by kernel_rfl
theorem S.wal_Log_Add.call {R : Value → World → Prop} {v0 v1 : Value} {W : World} (h : S.wal_Log_Add.body R v0 v1 W) : callK PR F_wal_Log_Add [v0, v1] R W :=
  callK_of_body (g := F_wal_Log_Add) (fn := Try.f37) (args := [v0, v1]) (R := R) (w := W) mixed CBok S.wal_Log_Add.fn S.wal_Log_Add.hint (by rw [S.wal_Log_Add.ok]; exact h)
/-! ### (*rostrum/wal.Log).Sync (38) -/
def S.wal_Log_Sync.j1 (R : Value → World → Prop) (x0 : Value) (W : World) : Prop :=
  okF (nilP x0) fun v28 =>
  okF (addrF 8 v28) fun v29 =>
  efK PR (Instr.storeAt T_s_int v29 (.slice none 0 0)) (fun _ W =>
  R (.int .i64 0) W) W
def S.wal_Log_Sync.l1 (R : Value → World → Prop) (J1 : List Value → World → Prop) (K1 : List Value → World → Prop) (x0 x11 x12 x13 : Value) (W : World) : Prop :=
  okF (binP .lss x13 x12) fun v14 =>
  ifK v14 (
  okF (idxS 1 x11 x13) fun v15 =>
  rdK PR (Instr.loadAt T_int v15) (fun v16 W =>
  okF (nilP x0) fun v18 =>
  okF (addrF 0 v18) fun v19 =>
  rdK PR (Instr.loadAt T_p_disk_Disk v19) (fun v20 W =>
  callK PR F_disk_Disk_Sync [v20, v16] (fun v22 W =>
  okF (binP .neq v22 (.int .i64 0)) fun v24 =>
  ifK v24 (
  R v22 W) (
  okF (binP .add x13 (.int .i64 1)) fun v26 =>
  K1 [x0, x11, x12, v26] W)) W) W) W) (
  J1 [x0] W)
def S.wal_Log_Sync.body (R : Value → World → Prop) (v0 : Value) (W : World) : Prop :=
  callK PR F_wal_Log_Done [v0] (fun v7 W =>
  ifK v7 (
  R (.int .i64 7) W) (
  joinK (fun s W => S.wal_Log_Sync.j1 R (nthv s 0) W) (fun J1 =>
  okF (nilP v0) fun v9 =>
  okF (addrF 8 v9) fun v10 =>
  rdK PR (Instr.loadAt T_s_int v10) (fun v11 W =>
  okF (lenP (.slice T_int) v11) fun v12 =>
  loopK (fun K1 s W => S.wal_Log_Sync.l1 R J1 K1 (nthv s 0) (nthv s 1) (nthv s 2) (nthv s 3) W) [v0, v11, v12, (.int .i64 0)] W) W))) W
def S.wal_Log_Sync.hint : Hint := (.two .nil (.two (.two .nil (.two (.two .nil .nil) .nil)) (.at [0] (.two .nil (.at [0, 11, 12, 13] (.two .nil (.two (.two .nil .nil) (.two (.two .nil (.two .nil (.two .nil (.two (.two .nil .nil) .nil)))) .nil))) .nil)) (.two .nil (.two .nil .nil)))))
theorem S.wal_Log_Sync.ok (R : Value → World → Prop) (v0 : Value) (W : World) : bodyK PR CB Try.f38 S.wal_Log_Sync.hint [v0] R W = S.wal_Log_Sync.body R v0 W := by kernel_rfl
theorem S.wal_Log_Sync.fn : PR.funcs[F_wal_Log_Sync]? = some Try.f38 := by kernel_rfl
theorem S.wal_Log_Sync.call {R : Value → World → Prop} {v0 : Value} {W : World} (h : S.wal_Log_Sync.body R v0 W) : callK PR F_wal_Log_Sync [v0] R W :=
  callK_of_body (g := F_wal_Log_Sync) (fn := Try.f38) (args := [v0]) (R := R) (w := W) mixed CBok S.wal_Log_Sync.fn S.wal_Log_Sync.hint (by rw [S.wal_Log_Sync.ok]; exact h)
/-! ### (*rostrum/wal.Log).Base (43) -/
def S.wal_Log_Base.body (R : Value → World → Prop) (v0 : Value) (W : World) : Prop :=
  okF (nilP v0) fun v4 =>
  okF (addrF 9 v4) fun v5 =>
  rdK PR (Instr.loadAt T_s_uint8 v5) (fun v6 W =>
  callK PR F_bytes_Clone [v6] (fun v7 W =>
  R v7 W) W) W
def S.wal_Log_Base.hint : Hint := (.two .nil (.two .nil .nil))
theorem S.wal_Log_Base.ok (R : Value → World → Prop) (v0 : Value) (W : World) : bodyK PR CB Try.f43 S.wal_Log_Base.hint [v0] R W = S.wal_Log_Base.body R v0 W := by kernel_rfl
theorem S.wal_Log_Base.fn : PR.funcs[F_wal_Log_Base]? = some Try.f43 := by kernel_rfl
theorem S.wal_Log_Base.call {R : Value → World → Prop} {v0 : Value} {W : World} (h : S.wal_Log_Base.body R v0 W) : callK PR F_wal_Log_Base [v0] R W :=
  callK_of_body (g := F_wal_Log_Base) (fn := Try.f43) (args := [v0]) (R := R) (w := W) mixed CBok S.wal_Log_Base.fn S.wal_Log_Base.hint (by rw [S.wal_Log_Base.ok]; exact h)
/-! ### (*rostrum/wal.Log).All (40) -/
def S.wal_Log_All.j1 (R : Value → World → Prop) (x3 : Value) (W : World) : Prop :=
  R x3 W
def S.wal_Log_All.l1 (J1 : List Value → World → Prop) (K1 : List Value → World → Prop) (x3 x9 x10 x11 : Value) (W : World) : Prop :=
  okF (binP .lss x11 x10) fun v12 =>
  ifK v12 (
  okF (idxS 1 x9 x11) fun v13 =>
  rdK PR (Instr.loadAt T_s_uint8 v13) (fun v14 W =>
  callK PR F_bytes_Clone [v14] (fun v17 W =>
  efK PR (Instr.buildSlice T_s_s_uint8 1 #[(0, v17)]) (fun v18 W =>
  efK PR (Builtin.append_ #[T_s_s_uint8, T_s_s_uint8] T_s_s_uint8 #[x3, v18]) (fun v19 W =>
  okF (binP .add x11 (.int .i64 1)) fun v20 =>
  K1 [v19, x9, x10, v20] W) W) W) W) W) (
  J1 [x3] W)
def S.wal_Log_All.body (R : Value → World → Prop) (v0 : Value) (W : World) : Prop :=
  joinK (fun s W => S.wal_Log_All.j1 R (nthv s 0) W) (fun J1 =>
  okF (nilP v0) fun v7 =>
  okF (addrF 10 v7) fun v8 =>
  rdK PR (Instr.loadAt T_s_s_uint8 v8) (fun v9 W =>
  okF (lenP (.slice T_s_uint8) v9) fun v10 =>
  loopK (fun K1 s W => S.wal_Log_All.l1 J1 K1 (nthv s 0) (nthv s 1) (nthv s 2) (nthv s 3) W) [(.slice none 0 0), v9, v10, (.int .i64 0)] W) W)
def S.wal_Log_All.hint : Hint := (.two .nil (.two .nil (.at [3] (.two .nil (.at [3, 9, 10, 11] (.two .nil (.two (.two .nil .nil) (.two (.two .nil .nil) .nil))) .nil)) (.two .nil .nil))))
theorem S.wal_Log_All.ok (R : Value → World → Prop) (v0 : Value) (W : World) : bodyK PR CB Try.f40 S.wal_Log_All.hint [v0] R W = S.wal_Log_All.body R v0 W := by kernel_rfl
theorem S.wal_Log_All.fn : PR.funcs[F_wal_Log_All]? = some Try.f40 := by kernel_rfl
theorem S.wal_Log_All.call {R : Value → World → Prop} {v0 : Value} {W : World} (h : S.wal_Log_All.body R v0 W) : callK PR F_wal_Log_All [v0] R W :=
  callK_of_body (g := F_wal_Log_All) (fn := Try.f40) (args := [v0]) (R := R) (w := W) mixed CBok S.wal_Log_All.fn S.wal_Log_All.hint (by rw [S.wal_Log_All.ok]; exact h)
/-! ### (*rostrum/wal.Log).Keep (42) -/
def S.wal_Log_Keep.j1 (R : Value → World → Prop) (x0 x1 x5 : Value) (W : World) : Prop :=
  okF (nilP x0) fun v61 =>
  okF (addrF 3 v61) fun v62 =>
  rdK PR (Instr.loadAt T_uint64 v62) (fun v63 W =>
  okF (binP .add v63 (.int .u64 1)) fun v64 =>
  okF (nilP x0) fun v65 =>
  okF (addrF 3 v65) fun v66 =>
  efK PR (Instr.storeAt T_uint64 v66 v64) (fun _ W =>
  efK PR (Instr.buildSlice T_s_int 1 #[(0, x5)]) (fun v70 W =>
  okF (nilP x0) fun v71 =>
  okF (addrF 4 v71) fun v72 =>
  efK PR (Instr.storeAt T_s_int v72 v70) (fun _ W =>
  okF (nilP x0) fun v73 =>
  okF (addrF 8 v73) fun v74 =>
  efK PR (Instr.storeAt T_s_int v74 (.slice none 0 0)) (fun _ W =>
  okF (nilP x0) fun v78 =>
  okF (addrF 5 v78) fun v79 =>
  efK PR (Instr.storeAt T_int v79 (.int .i64 (-1))) (fun _ W =>
  okF (nilP x0) fun v80 =>
  okF (addrF 6 v80) fun v81 =>
  efK PR (Instr.storeAt T_int v81 (.int .i64 0)) (fun _ W =>
  okF (nilP x0) fun v82 =>
  okF (addrF 7 v82) fun v83 =>
  efK PR (Instr.storeAt T_int v83 (.int .i64 0)) (fun _ W =>
  callK PR F_bytes_Clone [x1] (fun v87 W =>
  okF (nilP x0) fun v88 =>
  okF (addrF 9 v88) fun v89 =>
  efK PR (Instr.storeAt T_s_uint8 v89 v87) (fun _ W =>
  okF (nilP x0) fun v90 =>
  okF (addrF 10 v90) fun v91 =>
  efK PR (Instr.storeAt T_s_s_uint8 v91 (.slice none 0 0)) (fun _ W =>
  R (.int .i64 0) W) W) W) W) W) W) W) W) W) W) W) W
def S.wal_Log_Keep.l1 (J1 : List Value → World → Prop) (K1 : List Value → World → Prop) (x0 x1 x5 x47 x48 x49 : Value) (W : World) : Prop :=
  okF (binP .lss x49 x48) fun v50 =>
  ifK v50 (
  okF (idxS 1 x47 x49) fun v51 =>
  rdK PR (Instr.loadAt T_int v51) (fun v52 W =>
  okF (nilP x0) fun v54 =>
  okF (addrF 0 v54) fun v55 =>
  rdK PR (Instr.loadAt T_p_disk_Disk v55) (fun v56 W =>
  callK PR F_disk_Disk_Drop [v56, v52] (fun v58 W =>
  okF (binP .add x49 (.int .i64 1)) fun v59 =>
  K1 [x0, x1, x5, x47, x48, v59] W) W) W) W) (
  J1 [x0, x1, x5] W)
def S.wal_Log_Keep.body (R : Value → World → Prop) (v0 v1 : Value) (W : World) : Prop :=
  callK PR F_wal_Log_Done [v0] (fun v11 W =>
  ifK v11 (
  R (.int .i64 7) W) (
  okF (lenP (.slice T_uint8) v1) fun v14 =>
  okF (binP .gtr v14 (.int .i64 65536)) fun v15 =>
  ifK v15 (
  R (.int .i64 2) W) (
  callK PR F_wal_Log_free [v0] (fun v17 W =>
  okF (binP .lss v17 (.int .i64 0)) fun v19 =>
  ifK v19 (
  okF (nilP v0) fun v21 =>
  okF (addrF 11 v21) fun v22 =>
  efK PR (Instr.storeAt T_bool v22 (.bool true)) (fun _ W =>
  R (.int .i64 6) W) W) (
  okF (nilP v0) fun v26 =>
  okF (addrF 3 v26) fun v27 =>
  rdK PR (Instr.loadAt T_uint64 v27) (fun v28 W =>
  okF (binP .add v28 (.int .u64 1)) fun v29 =>
  callK PR F_wal_top [(.int .i64 0), v29, (.int .i64 0)] (fun v30 W =>
  callK PR F_wal_unit [v1] (fun v32 W =>
  efK PR (Builtin.append_ #[T_s_uint8, T_s_uint8] T_s_uint8 #[v30, v32]) (fun v33 W =>
  callK PR F_wal_Log_write [v0, v17, v33] (fun v34 W =>
  okF (binP .neq v34 (.int .i64 0)) fun v36 =>
  ifK v36 (
  R v34 W) (
  okF (nilP v0) fun v39 =>
  okF (addrF 0 v39) fun v40 =>
  rdK PR (Instr.loadAt T_p_disk_Disk v40) (fun v41 W =>
  callK PR F_disk_Disk_Sync [v41, v17] (fun v43 W =>
  joinK (fun s W => S.wal_Log_Keep.j1 R (nthv s 0) (nthv s 1) (nthv s 2) W) (fun J1 =>
  okF (nilP v0) fun v45 =>
  okF (addrF 4 v45) fun v46 =>
  rdK PR (Instr.loadAt T_s_int v46) (fun v47 W =>
  okF (lenP (.slice T_int) v47) fun v48 =>
  loopK (fun K1 s W => S.wal_Log_Keep.l1 J1 K1 (nthv s 0) (nthv s 1) (nthv s 2) (nthv s 3) (nthv s 4) (nthv s 5) W) [v0, v1, v17, v47, v48, (.int .i64 0)] W) W)) W) W)) W) W) W) W) W)) W))) W
def S.wal_Log_Keep.hint : Hint := (.two .nil (.two (.two .nil (.two (.two .nil .nil) (.two .nil (.two (.two .nil .nil) .nil)))) (.two .nil (.two (.two .nil (.two (.two .nil (.two .nil .nil)) .nil)) (.two (.two .nil (.two .nil (.two (.two .nil .nil) .nil))) (.two .nil (.at [0, 1, 5] (.two .nil (.at [0, 1, 5, 47, 48, 49] (.two .nil (.two (.two .nil .nil) (.two (.two .nil .nil) .nil))) .nil)) (.two .nil (.two .nil (.two .nil (.two .nil (.two .nil .nil))))))))))))
theorem S.wal_Log_Keep.ok (R : Value → World → Prop) (v0 v1 : Value) (W : World) : bodyK PR CB Try.f42 S.wal_Log_Keep.hint [v0, v1] R W = S.wal_Log_Keep.body R v0 v1 W := by kernel_rfl
theorem S.wal_Log_Keep.fn : PR.funcs[F_wal_Log_Keep]? = some Try.f42 := by kernel_rfl
theorem S.wal_Log_Keep.call {R : Value → World → Prop} {v0 v1 : Value} {W : World} (h : S.wal_Log_Keep.body R v0 v1 W) : callK PR F_wal_Log_Keep [v0, v1] R W :=
  callK_of_body (g := F_wal_Log_Keep) (fn := Try.f42) (args := [v0, v1]) (R := R) (w := W) mixed CBok S.wal_Log_Keep.fn S.wal_Log_Keep.hint (by rw [S.wal_Log_Keep.ok]; exact h)
end Go.Proofs.Ythladblmjoaeoaa
