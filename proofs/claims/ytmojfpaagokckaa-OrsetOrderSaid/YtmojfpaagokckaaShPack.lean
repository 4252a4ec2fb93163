import Derived.Test.YtmojfpaagokckaaBase
namespace Go.Proofs.Ytmojfpaagokckaa
set_option linter.unusedVariables false
set_option linter.unusedSimpArgs false
open Go.Eng
/-! ### bytes.Clone (62) -/
def S.bytes_Clone.body (R : Value → World → Prop) (v0 : Value) (W : World) : Prop :=
  okF (eqP (.slice T_uint8) .eql v0 (.slice none 0 0)) fun v4 =>
  ifK v4 (
  R (.slice none 0 0) W) (
  efK PR (Instr.buildSlice T_s_uint8 0 #[]) (fun v5 W =>
  efK PR (Builtin.append_ #[T_s_uint8, T_s_uint8] T_s_uint8 #[v5, v0]) (fun v7 W =>
  R v7 W) W) W)
def S.bytes_Clone.hint : Hint := (.two .nil (.two (.two .nil (.two (.two .nil .nil) .nil)) (.two .nil .nil)))
theorem S.bytes_Clone.ok (R : Value → World → Prop) (v0 : Value) (W : World) : bodyK PR CB Try.f62 S.bytes_Clone.hint [v0] R W = S.bytes_Clone.body R v0 W := by kernel_rfl
theorem S.bytes_Clone.fn : PR.funcs[F_bytes_Clone]? = some Try.f62 := by kernel_rfl
theorem S.bytes_Clone.call {R : Value → World → Prop} {v0 : Value} {W : World} (h : S.bytes_Clone.body R v0 W) : callK PR F_bytes_Clone [v0] R W :=
  callK_of_body (g := F_bytes_Clone) (fn := Try.f62) (args := [v0]) (R := R) (w := W) mixed CBok S.bytes_Clone.fn S.bytes_Clone.hint (by rw [S.bytes_Clone.ok]; exact h)
/-! ### rostrum/pack.Num (43) -/
def S.pack_Num.j1 (R : Value → World → Prop) (x5 x6 : Value) (W : World) : Prop :=
  okF (cvtP (.int .u8) x6) fun v28 =>
  efK PR (Instr.buildSlice T_s_uint8 1 #[(0, v28)]) (fun v29 W =>
  efK PR (Builtin.append_ #[T_s_uint8, T_s_uint8] T_s_uint8 #[x5, v29]) (fun v30 W =>
  R v30 W) W) W
def S.pack_Num.l1 (J1 : List Value → World → Prop) (K1 : List Value → World → Prop) (x5 x6 : Value) (W : World) : Prop :=
  okF (binP .geq x6 (.int .u64 128)) fun v17 =>
  ifK v17 (
  okF (cvtP (.int .u8) x6) fun v22 =>
  okF (binP .or v22 (.int .u8 128)) fun v23 =>
  efK PR (Instr.buildSlice T_s_uint8 1 #[(0, v23)]) (fun v24 W =>
  efK PR (Builtin.append_ #[T_s_uint8, T_s_uint8] T_s_uint8 #[x5, v24]) (fun v25 W =>
  okF (binP .shr x6 (.int .u64 7)) fun v19 =>
  K1 [v25, v19] W) W) W) (
  J1 [x5, x6] W)
def S.pack_Num.body (R : Value → World → Prop) (v0 v1 : Value) (W : World) : Prop :=
  callK PR F_bytes_Clone [v0] (fun v8 W =>
  okF (cvtP (.int .u64) v1) fun v10 =>
  okF (binP .shl v10 (.int .u64 1)) fun v11 =>
  okF (binP .shr v1 (.int .u64 63)) fun v13 =>
  okF (cvtP (.int .u64) v13) fun v14 =>
  okF (binP .xor v11 v14) fun v15 =>
  joinK (fun s W => S.pack_Num.j1 R (nthv s 0) (nthv s 1) W) (fun J1 =>
  loopK (fun K1 s W => S.pack_Num.l1 J1 K1 (nthv s 0) (nthv s 1) W) [v8, v15] W)) W
def S.pack_Num.hint : Hint := (.two .nil (.two .nil (.two .nil (.at [5, 6] (.at [5, 6] (.two (.two .nil (.two .nil .nil)) (.two .nil .nil)) .nil) (.two .nil .nil)))))
theorem S.pack_Num.ok (R : Value → World → Prop) (v0 v1 : Value) (W : World) : bodyK PR CB Try.f43 S.pack_Num.hint [v0, v1] R W = S.pack_Num.body R v0 v1 W := by kernel_rfl
theorem S.pack_Num.fn : PR.funcs[F_pack_Num]? = some Try.f43 := by kernel_rfl
theorem S.pack_Num.call {R : Value → World → Prop} {v0 v1 : Value} {W : World} (h : S.pack_Num.body R v0 v1 W) : callK PR F_pack_Num [v0, v1] R W :=
  callK_of_body (g := F_pack_Num) (fn := Try.f43) (args := [v0, v1]) (R := R) (w := W) mixed CBok S.pack_Num.fn S.pack_Num.hint (by rw [S.pack_Num.ok]; exact h)
/-! ### rostrum/pack.Text (44) -/
def S.pack_Text.body (R : Value → World → Prop) (v0 v1 : Value) (W : World) : Prop :=
  efK PR (convert T_string T_s_uint8 v1) (fun v7 W =>
  callK PR F_pack_Bytes [v0, v7] (fun v8 W =>
  R v8 W) W) W
def S.pack_Text.hint : Hint := (.two .nil (.two .nil .nil))
theorem S.pack_Text.ok (R : Value → World → Prop) (v0 v1 : Value) (W : World) : bodyK PR CB Try.f44 S.pack_Text.hint [v0, v1] R W = S.pack_Text.body R v0 v1 W := by kernel_rfl
theorem S.pack_Text.fn : PR.funcs[F_pack_Text]? = some Try.f44 := by kernel_rfl
theorem S.pack_Text.call {R : Value → World → Prop} {v0 v1 : Value} {W : World} (h : S.pack_Text.body R v0 v1 W) : callK PR F_pack_Text [v0, v1] R W :=
  callK_of_body (g := F_pack_Text) (fn := Try.f44) (args := [v0, v1]) (R := R) (w := W) mixed CBok S.pack_Text.fn S.pack_Text.hint (by rw [S.pack_Text.ok]; exact h)
/-! ### rostrum/pack.Bytes (63) -/
def S.pack_Bytes.body (R : Value → World → Prop) (v0 v1 : Value) (W : World) : Prop :=
  okF (lenP (.slice T_uint8) v1) fun v7 =>
  callK PR F_pack_Num [v0, v7] (fun v8 W =>
  efK PR (Builtin.append_ #[T_s_uint8, T_s_uint8] T_s_uint8 #[v8, v1]) (fun v10 W =>
  R v10 W) W) W
def S.pack_Bytes.hint : Hint := (.two .nil (.two .nil .nil))
theorem S.pack_Bytes.ok (R : Value → World → Prop) (v0 v1 : Value) (W : World) : bodyK PR CB Try.f63 S.pack_Bytes.hint [v0, v1] R W = S.pack_Bytes.body R v0 v1 W := by kernel_rfl
theorem S.pack_Bytes.fn : PR.funcs[F_pack_Bytes]? = some Try.f63 := by kernel_rfl
theorem S.pack_Bytes.call {R : Value → World → Prop} {v0 v1 : Value} {W : World} (h : S.pack_Bytes.body R v0 v1 W) : callK PR F_pack_Bytes [v0, v1] R W :=
  callK_of_body (g := F_pack_Bytes) (fn := Try.f63) (args := [v0, v1]) (R := R) (w := W) mixed CBok S.pack_Bytes.fn S.pack_Bytes.hint (by rw [S.pack_Bytes.ok]; exact h)
/-! ### rostrum/rostrumref1.Num (45) -/
def S.rostrumref1_Num.j2 (R : Value → World → Prop) (x5 x6 : Value) (W : World) : Prop :=
  okF (cvtP (.int .u8) x5) fun v30 =>
  efK PR (Instr.buildSlice T_s_uint8 1 #[(0, v30)]) (fun v31 W =>
  efK PR (Builtin.append_ #[T_s_uint8, T_s_uint8] T_s_uint8 #[x6, v31]) (fun v32 W =>
  R v32 W) W) W
def S.rostrumref1_Num.l1 (J2 : List Value → World → Prop) (K1 : List Value → World → Prop) (x5 x6 : Value) (W : World) : Prop :=
  okF (binP .geq x5 (.int .u64 128)) fun v18 =>
  ifK v18 (
  okF (binP .rem x5 (.int .u64 128)) fun v21 =>
  okF (cvtP (.int .u8) v21) fun v22 =>
  okF (binP .add v22 (.int .u8 128)) fun v23 =>
  efK PR (Instr.buildSlice T_s_uint8 1 #[(0, v23)]) (fun v24 W =>
  efK PR (Builtin.append_ #[T_s_uint8, T_s_uint8] T_s_uint8 #[x6, v24]) (fun v25 W =>
  okF (binP .quo x5 (.int .u64 128)) fun v27 =>
  K1 [v27, v25] W) W) W) (
  J2 [x5, x6] W)
def S.rostrumref1_Num.j1 (R : Value → World → Prop) (x0 x5 : Value) (W : World) : Prop :=
  efK PR (Instr.buildSlice T_s_uint8 0 #[]) (fun v14 W =>
  efK PR (Builtin.append_ #[T_s_uint8, T_s_uint8] T_s_uint8 #[v14, x0]) (fun v16 W =>
  joinK (fun s W => S.rostrumref1_Num.j2 R (nthv s 0) (nthv s 1) W) (fun J2 =>
  loopK (fun K1 s W => S.rostrumref1_Num.l1 J2 K1 (nthv s 0) (nthv s 1) W) [x5, v16] W)) W) W
def S.rostrumref1_Num.body (R : Value → World → Prop) (v0 v1 : Value) (W : World) : Prop :=
  okF (cvtP (.int .u64) v1) fun v8 =>
  okF (binP .shl v8 (.int .u64 1)) fun v9 =>
  joinK (fun s W => S.rostrumref1_Num.j1 R (nthv s 0) (nthv s 1) W) (fun J1 =>
  okF (binP .lss v1 (.int .i64 0)) fun v11 =>
  ifK v11 (
  okF (unP .xor v9) fun v13 =>
  J1 [v0, v13] W) (
  J1 [v0, v9] W))
def S.rostrumref1_Num.hint : Hint := (.two .nil (.two .nil (.at [0, 5] (.two .nil (.two .nil .nil)) (.two .nil (.at [5, 6] (.at [5, 6] (.two (.two .nil (.two .nil .nil)) (.two .nil .nil)) .nil) (.two .nil .nil))))))
theorem S.rostrumref1_Num.ok (R : Value → World → Prop) (v0 v1 : Value) (W : World) : bodyK PR CB Try.f45 S.rostrumref1_Num.hint [v0, v1] R W = S.rostrumref1_Num.body R v0 v1 W := by kernel_rfl
theorem S.rostrumref1_Num.fn : PR.funcs[F_rostrumref1_Num]? = some Try.f45 := by kernel_rfl
theorem S.rostrumref1_Num.call {R : Value → World → Prop} {v0 v1 : Value} {W : World} (h : S.rostrumref1_Num.body R v0 v1 W) : callK PR F_rostrumref1_Num [v0, v1] R W :=
  callK_of_body (g := F_rostrumref1_Num) (fn := Try.f45) (args := [v0, v1]) (R := R) (w := W) mixed CBok S.rostrumref1_Num.fn S.rostrumref1_Num.hint (by rw [S.rostrumref1_Num.ok]; exact h)
/-! ### rostrum/rostrumref1.Bytes (46) -/
def S.rostrumref1_Bytes.body (R : Value → World → Prop) (v0 v1 : Value) (W : World) : Prop :=
  okF (lenP (.slice T_uint8) v1) fun v7 =>
  callK PR F_rostrumref1_Num [v0, v7] (fun v8 W =>
  efK PR (Builtin.append_ #[T_s_uint8, T_s_uint8] T_s_uint8 #[v8, v1]) (fun v10 W =>
  R v10 W) W) W
def S.rostrumref1_Bytes.hint : Hint := (.two .nil (.two .nil .nil))
theorem S.rostrumref1_Bytes.ok (R : Value → World → Prop) (v0 v1 : Value) (W : World) : bodyK PR CB Try.f46 S.rostrumref1_Bytes.hint [v0, v1] R W = S.rostrumref1_Bytes.body R v0 v1 W := by kernel_rfl
theorem S.rostrumref1_Bytes.fn : PR.funcs[F_rostrumref1_Bytes]? = some Try.f46 := by kernel_rfl
theorem S.rostrumref1_Bytes.call {R : Value → World → Prop} {v0 v1 : Value} {W : World} (h : S.rostrumref1_Bytes.body R v0 v1 W) : callK PR F_rostrumref1_Bytes [v0, v1] R W :=
  callK_of_body (g := F_rostrumref1_Bytes) (fn := Try.f46) (args := [v0, v1]) (R := R) (w := W) mixed CBok S.rostrumref1_Bytes.fn S.rostrumref1_Bytes.hint (by rw [S.rostrumref1_Bytes.ok]; exact h)
end Go.Proofs.Ytmojfpaagokckaa
