import Derived.Test.YthladblmjoaeoaaBase
namespace Go.Proofs.Ythladblmjoaeoaa
set_option linter.unusedVariables false
set_option linter.unusedSimpArgs false
open Go.Eng
/-! ### (*rostrum/disk.Disk).safe$1 (61) -/
def S.disk_Disk_safe_1.body (R : Value → World → Prop) (v0 v1 : Value) (W : World) : Prop :=
  efK PR (Instr.box T_disk_write v0) (fun v2 W =>
  okF (addrF 0 v2) fun v4 =>
  rdK PR (Instr.loadAt T_int v4) (fun v5 W =>
  rdK PR (Instr.loadAt T_int v1) (fun v6 W =>
  okF (binP .eql v5 v6) fun v7 =>
  R v7 W) W) W) W
def S.disk_Disk_safe_1.hint : Hint := (.two .nil (.two .nil .nil))
theorem S.disk_Disk_safe_1.ok (R : Value → World → Prop) (v0 v1 : Value) (W : World) : bodyK PR CB Try.f61 S.disk_Disk_safe_1.hint [v0, v1] R W = S.disk_Disk_safe_1.body R v0 v1 W := by kernel_rfl
theorem S.disk_Disk_safe_1.fn : PR.funcs[F_disk_Disk_safe_1]? = some Try.f61 := by kernel_rfl
theorem S.disk_Disk_safe_1.call {R : Value → World → Prop} {v0 v1 : Value} {W : World} (h : S.disk_Disk_safe_1.body R v0 v1 W) : callK PR F_disk_Disk_safe_1 [v0, v1] R W :=
  callK_of_body (g := F_disk_Disk_safe_1) (fn := Try.f61) (args := [v0, v1]) (R := R) (w := W) mixed CBok S.disk_Disk_safe_1.fn S.disk_Disk_safe_1.hint (by rw [S.disk_Disk_safe_1.ok]; exact h)
end Go.Proofs.Ythladblmjoaeoaa
