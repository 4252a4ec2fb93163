import Derived.Test.YthladblmjoaeoaaBase
namespace Go.Proofs.Ythladblmjoaeoaa
set_option linter.unusedVariables false
set_option linter.unusedSimpArgs false
open Go.Eng
/-! ### slices.DeleteFunc[[]rostrum/disk.write,rostrum/disk.write] (60) -/
def S.slices_DeleteFunc_disk_write_disk_write.j1 (R : Value → World → Prop) (x0 x5 : Value) (W : World) : Prop :=
  okF (slcS 3 x0 (some x5) none none) fun v38 =>
  efK PR (Builtin.clear_ #[T_s_disk_write] T_t0 #[v38]) (fun _ W =>
  okF (slcS 3 x0 none (some x5) none) fun v41 =>
  R v41 W) W
def S.slices_DeleteFunc_disk_write_disk_write.j2 (K1 : List Value → World → Prop) (x0 x1 x5 x6 : Value) (W : World) : Prop :=
  okF (binP .add x6 (.int .i64 1)) fun v21 =>
  K1 [x0, x1, x5, v21] W
def S.slices_DeleteFunc_disk_write_disk_write.l1 (J1 : List Value → World → Prop) (K1 : List Value → World → Prop) (x0 x1 x5 x6 : Value) (W : World) : Prop :=
  okF (lenP (.slice T_disk_write) x0) fun v18 =>
  okF (binP .lss x6 v18) fun v19 =>
  ifK v19 (
  joinK (fun s W => S.slices_DeleteFunc_disk_write_disk_write.j2 K1 (nthv s 0) (nthv s 1) (nthv s 2) (nthv s 3) W) (fun J2 =>
  okF (idxS 3 x0 x6) fun v24 =>
  rdK PR (Instr.loadAt T_disk_write v24) (fun v25 W =>
  efK PR (Instr.alloc T_disk_write true (.tuple #[])) (fun v7 W =>
  efK PR (Instr.storeAt T_disk_write v7 v25) (fun _ W =>
  rdK PR (Instr.loadAt T_disk_write v7) (fun v27 W =>
  vcK PR x1 [v27] (fun v28 W =>
  okF (unP .not v28) fun v29 =>
  ifK v29 (
  rdK PR (Instr.loadAt T_disk_write v7) (fun v32 W =>
  okF (idxS 3 x0 x5) fun v33 =>
  efK PR (Instr.storeAt T_disk_write v33 v32) (fun _ W =>
  okF (binP .add x5 (.int .i64 1)) fun v35 =>
  J2 [x0, x1, v35, x6] W) W) W) (
  J2 [x0, x1, x5, x6] W)) W) W) W) W) W)) (
  J1 [x0, x5] W)
def S.slices_DeleteFunc_disk_write_disk_write.body (R : Value → World → Prop) (v0 v1 : Value) (W : World) : Prop :=
  callK PR F_slices_IndexFunc_disk_write_disk_write [v0, v1] (fun v10 W =>
  okF (binP .eql v10 (.int .i64 (-1))) fun v12 =>
  ifK v12 (
  R v0 W) (
  joinK (fun s W => S.slices_DeleteFunc_disk_write_disk_write.j1 R (nthv s 0) (nthv s 1) W) (fun J1 =>
  okF (binP .add v10 (.int .i64 1)) fun v15 =>
  loopK (fun K1 s W => S.slices_DeleteFunc_disk_write_disk_write.l1 J1 K1 (nthv s 0) (nthv s 1) (nthv s 2) (nthv s 3) W) [v0, v1, v10, v15] W))) W
def S.slices_DeleteFunc_disk_write_disk_write.hint : Hint := (.two .nil (.two .nil (.two (.two .nil (.two (.two .nil .nil) .nil)) (.at [0, 5] (.two .nil (.at [0, 1, 5, 6] (.two (.two .nil (.two .nil .nil)) (.at [0, 1, 5, 6] (.two .nil (.two .nil (.two (.two .nil .nil) .nil))) .nil)) .nil)) (.two .nil (.two .nil .nil))))))
theorem S.slices_DeleteFunc_disk_write_disk_write.ok (R : Value → World → Prop) (v0 v1 : Value) (W : World) : bodyK PR CB Try.f60 S.slices_DeleteFunc_disk_write_disk_write.hint [v0, v1] R W = S.slices_DeleteFunc_disk_write_disk_write.body R v0 v1 W := by kernel_rfl
theorem S.slices_DeleteFunc_disk_write_disk_write.fn : PR.funcs[F_slices_DeleteFunc_disk_write_disk_write]? = some Try.f60 := by kernel_rfl
theorem S.slices_DeleteFunc_disk_write_disk_write.call {R : Value → World → Prop} {v0 v1 : Value} {W : World} (h : S.slices_DeleteFunc_disk_write_disk_write.body R v0 v1 W) : callK PR F_slices_DeleteFunc_disk_write_disk_write [v0, v1] R W :=
  callK_of_body (g := F_slices_DeleteFunc_disk_write_disk_write) (fn := Try.f60) (args := [v0, v1]) (R := R) (w := W) mixed CBok S.slices_DeleteFunc_disk_write_disk_write.fn S.slices_DeleteFunc_disk_write_disk_write.hint (by rw [S.slices_DeleteFunc_disk_write_disk_write.ok]; exact h)
/-! ### slices.IndexFunc[[]rostrum/disk.write,rostrum/disk.write] (73) -/
def S.slices_IndexFunc_disk_write_disk_write.l1 (R : Value → World → Prop) (K1 : List Value → World → Prop) (x0 x1 x7 x8 : Value) (W : World) : Prop :=
  okF (binP .lss x8 x7) fun v9 =>
  ifK v9 (
  okF (idxS 3 x0 x8) fun v14 =>
  rdK PR (Instr.loadAt T_disk_write v14) (fun v15 W =>
  vcK PR x1 [v15] (fun v16 W =>
  ifK v16 (
  R x8 W) (
  okF (binP .add x8 (.int .i64 1)) fun v18 =>
  K1 [x0, x1, x7, v18] W)) W) W) (
  R (.int .i64 (-1)) W)
def S.slices_IndexFunc_disk_write_disk_write.body (R : Value → World → Prop) (v0 v1 : Value) (W : World) : Prop :=
  okF (lenP (.slice T_disk_write) v0) fun v7 =>
  loopK (fun K1 s W => S.slices_IndexFunc_disk_write_disk_write.l1 R K1 (nthv s 0) (nthv s 1) (nthv s 2) (nthv s 3) W) [v0, v1, v7, (.int .i64 0)] W
def S.slices_IndexFunc_disk_write_disk_write.hint : Hint := (.two .nil (.two (.two .nil (.at [0, 1, 7, 8] (.two .nil (.two (.two .nil .nil) (.two (.two .nil (.two .nil (.two (.two .nil .nil) .nil))) .nil))) .nil)) (.two .nil .nil)))
theorem S.slices_IndexFunc_disk_write_disk_write.ok (R : Value → World → Prop) (v0 v1 : Value) (W : World) : bodyK PR CB Try.f73 S.slices_IndexFunc_disk_write_disk_write.hint [v0, v1] R W = S.slices_IndexFunc_disk_write_disk_write.body R v0 v1 W := by kernel_rfl
theorem S.slices_IndexFunc_disk_write_disk_write.fn : PR.funcs[F_slices_IndexFunc_disk_write_disk_write]? = some Try.f73 := by kernel_rfl
theorem S.slices_IndexFunc_disk_write_disk_write.call {R : Value → World → Prop} {v0 v1 : Value} {W : World} (h : S.slices_IndexFunc_disk_write_disk_write.body R v0 v1 W) : callK PR F_slices_IndexFunc_disk_write_disk_write [v0, v1] R W :=
  callK_of_body (g := F_slices_IndexFunc_disk_write_disk_write) (fn := Try.f73) (args := [v0, v1]) (R := R) (w := W) mixed CBok S.slices_IndexFunc_disk_write_disk_write.fn S.slices_IndexFunc_disk_write_disk_write.hint (by rw [S.slices_IndexFunc_disk_write_disk_write.ok]; exact h)
end Go.Proofs.Ythladblmjoaeoaa
