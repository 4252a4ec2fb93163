import Derived.Test.YthladblmjoaeoaaBase
namespace Go.Proofs.Ythladblmjoaeoaa
set_option linter.unusedVariables false
set_option linter.unusedSimpArgs false
open Go.Eng
/-! ### bytes.Clone (48) -/
def S.bytes_Clone.body (R : Value → World → Prop) (v0 : Value) (W : World) : Prop :=
  okF (eqP (.slice T_uint8) .eql v0 (.slice none 0 0)) fun v4 =>
  ifK v4 (
  R (.slice none 0 0) W) (
  efK PR (Instr.buildSlice T_s_uint8 0 #[]) (fun v5 W =>
  efK PR (Builtin.append_ #[T_s_uint8, T_s_uint8] T_s_uint8 #[v5, v0]) (fun v7 W =>
  R v7 W) W) W)
def S.bytes_Clone.hint : Hint := (.two .nil (.two (.two .nil (.two (.two .nil .nil) .nil)) (.two .nil .nil)))
theorem S.bytes_Clone.ok (R : Value → World → Prop) (v0 : Value) (W : World) : bodyK PR CB Try.f48 S.bytes_Clone.hint [v0] R W = S.bytes_Clone.body R v0 W := by kernel_rfl
theorem S.bytes_Clone.fn : PR.funcs[F_bytes_Clone]? = some Try.f48 := by kernel_rfl
theorem S.bytes_Clone.call {R : Value → World → Prop} {v0 : Value} {W : World} (h : S.bytes_Clone.body R v0 W) : callK PR F_bytes_Clone [v0] R W :=
  callK_of_body (g := F_bytes_Clone) (fn := Try.f48) (args := [v0]) (R := R) (w := W) mixed CBok S.bytes_Clone.fn S.bytes_Clone.hint (by rw [S.bytes_Clone.ok]; exact h)
end Go.Proofs.Ythladblmjoaeoaa
