/- Texts of the claim OrsetPlays, joined: Bit, ShVec, V7, Srt, POrs, ShOrs, Sl6. -/
import Derived.Test.YtmojfpaagokckaaBOrsetPlays3
import Derived.Test.YtmojfpaagokckaaBOrsetPlays2
import Derived.Shelf.SlSortCmp.NoneTotal
namespace Go.Eng
set_option linter.unusedVariables false
set_option linter.unusedSimpArgs false
open Go

theorem u64w (n : Int) : IntKind.u64.wrap n = n % 18446744073709551616 := by
  unfold IntKind.wrap
  have : IntKind.u64.signed = false := rfl
  simp only [this, Bool.false_and, Bool.false_eq_true, if_false]
  rfl
theorem i64w (n : Int) : IntKind.i64.wrap n = (n + 9223372036854775808) % 18446744073709551616 - 9223372036854775808 := by rw [IntKind.wrap_i64]
theorem u8w (n : Int) : IntKind.u8.wrap n = n % 256 := by rw [IntKind.wrap_u8]
theorem ofInt_toNat (n : Int) (h0 : 0 ≤ n) (h1 : n < 18446744073709551616) : (BitVec.ofInt 64 n).toNat = n.toNat := by
  rw [BitVec.toNat_ofInt]; congr 1; exact Int.emod_eq_of_lt h0 h1
theorem ones64 : BitVec.ofInt 64 18446744073709551615 = BitVec.allOnes 64 := by decide
theorem ones64' : BitVec.ofInt 64 (-1) = BitVec.allOnes 64 := by decide
theorem xor_ones (x : Int) (h0 : 0 ≤ x) (h1 : x < 18446744073709551616) : (BitVec.ofInt 64 x ^^^ BitVec.allOnes 64).toNat = 18446744073709551615 - x.toNat := by
  rw [BitVec.xor_allOnes, BitVec.toNat_not, ofInt_toNat x h0 h1]
theorem xor_zero (x : Int) (h0 : 0 ≤ x) (h1 : x < 18446744073709551616) : (BitVec.ofInt 64 x ^^^ BitVec.ofInt 64 0).toNat = x.toNat := by
  have : BitVec.ofInt 64 0 = 0#64 := by decide
  rw [this, BitVec.xor_zero, ofInt_toNat x h0 h1]
theorem shl1 (v : Int) : IntKind.u64.wrap (IntKind.u64.wrap v * 2 ^ (min (1 : Int).toNat IntKind.u64.bits)) = (2 * v) % 18446744073709551616 := by
  have : (2 : Int) ^ (min (1 : Int).toNat IntKind.u64.bits) = 2 := by decide
  rw [this, u64w, u64w]; omega
theorem sar63 (v : Int) (h0 : -9223372036854775808 ≤ v) (h1 : v ≤ 9223372036854775807) : v.fdiv (2 ^ (min (63 : Int).toNat IntKind.i64.bits)) = if 0 ≤ v then 0 else -1 := by
  have : (2 : Int) ^ (min (63 : Int).toNat IntKind.i64.bits) = 9223372036854775808 := by decide
  rw [this, Int.fdiv_eq_ediv_of_nonneg _ (by decide)]
  split <;> omega
theorem zig_xor (v : Int) (h0 : -9223372036854775808 ≤ v) (h1 : v ≤ 9223372036854775807) :
    IntKind.u64.wrap (BitVec.ofInt 64 ((2 * v) % 18446744073709551616) ^^^ BitVec.ofInt 64 (IntKind.u64.wrap (if 0 ≤ v then 0 else -1))).toNat = zig v := by
  unfold zig
  by_cases h : 0 ≤ v
  · simp only [h, if_true]
    rw [u64w 0, show (0 : Int) % 18446744073709551616 = 0 from rfl, xor_zero _ (by omega) (by omega), u64w]; omega
  · simp only [h, if_false]
    rw [u64w (-1), show (-1 : Int) % 18446744073709551616 = 18446744073709551615 from rfl, ones64, xor_ones _ (by omega) (by omega), u64w]; omega
theorem zig_not (v : Int) (h0 : -9223372036854775808 ≤ v) (h1 : v < 0) :
    IntKind.u64.wrap (BitVec.ofInt 64 (if IntKind.u64.signed = true then -1 else IntKind.u64.max) ^^^ BitVec.ofInt 64 ((2 * v) % 18446744073709551616)).toNat = zig v := by
  have : (if IntKind.u64.signed = true then (-1 : Int) else IntKind.u64.max) = 18446744073709551615 := by decide
  rw [this, ones64, BitVec.xor_comm, xor_ones _ (by omega) (by omega), u64w]
  unfold zig; rw [if_neg (by omega)]; omega
theorem zig_pos (v : Int) (h0 : 0 ≤ v) (h1 : v ≤ 9223372036854775807) : (2 * v) % 18446744073709551616 = zig v := by unfold zig; rw [if_pos h0]; omega
theorem shr_u (u k : Nat) (hk : k ≤ 64) : ((u : Int).fdiv (2 ^ (min ((k : Nat) : Int).toNat IntKind.u64.bits))) = ((u / 2 ^ k : Nat) : Int) := by
  have h64 : IntKind.u64.bits = 64 := rfl
  rw [h64, Int.toNat_natCast, Nat.min_eq_left hk, Int.fdiv_eq_ediv_of_nonneg _ (by exact Int.pow_nonneg (by decide))]
  rw [Int.natCast_ediv, Int.natCast_pow]; rfl
theorem and1 (u : Nat) (h : u < 18446744073709551616) : IntKind.u64.wrap (BitVec.ofInt 64 (u : Int) &&& BitVec.ofInt 64 1).toNat = ((u % 2 : Nat) : Int) := by
  have h1 : (BitVec.ofInt 64 1).toNat = 1 := by decide
  rw [BitVec.toNat_and, ofInt_toNat _ (by omega) (by omega), h1, Int.toNat_natCast, Nat.and_one_is_mod, u64w]; omega
theorem unzig_xor (u : Nat) (h : u < 18446744073709551616) : IntKind.i64.wrap (BitVec.ofInt 64 (IntKind.i64.wrap ((u / 2 : Nat) : Int)) ^^^ BitVec.ofInt 64 (IntKind.i64.wrap (0 - IntKind.i64.wrap ((u % 2 : Nat) : Int)))).toNat = unzig u := by
  have e0 : IntKind.i64.wrap ((u / 2 : Nat) : Int) = ((u / 2 : Nat) : Int) := by rw [i64w]; omega
  rw [e0]
  unfold unzig
  by_cases hu : u % 2 = 0
  · rw [hu, if_pos rfl, show IntKind.i64.wrap (0 - IntKind.i64.wrap ((0 : Nat) : Int)) = 0 from by decide, xor_zero _ (by omega) (by omega), Int.toNat_natCast, i64w]; omega
  · have h1 : u % 2 = 1 := by omega
    rw [h1, if_neg (by omega), show IntKind.i64.wrap (0 - IntKind.i64.wrap ((1 : Nat) : Int)) = -1 from by decide, ones64', xor_ones _ (by omega) (by omega), i64w]; omega
set_option maxRecDepth 100000 in
theorem andNot7 : ∀ c : Fin 256, IntKind.u8.wrap (BitVec.ofInt 8 ((c.val : Nat) : Int) &&& ~~~(BitVec.ofInt 8 128)).toNat = ((c.val % 128 : Nat) : Int) := by decide
set_option maxRecDepth 100000 in
theorem and7 : ∀ c : Fin 256, IntKind.u8.wrap (BitVec.ofInt 8 ((c.val : Nat) : Int) &&& BitVec.ofInt 8 127).toNat = ((c.val % 128 : Nat) : Int) := by decide
set_option maxRecDepth 100000 in
theorem and8 : ∀ c : Fin 256, IntKind.u8.wrap (BitVec.ofInt 8 ((c.val : Nat) : Int) &&& BitVec.ofInt 8 128).toNat = (if 128 ≤ c.val then 128 else 0 : Int) := by decide
set_option maxRecDepth 100000 in
theorem or8 : ∀ c : Fin 256, IntKind.u8.wrap (BitVec.ofInt 8 ((c.val : Nat) : Int) ||| BitVec.ofInt 8 128).toNat = ((c.val % 128 + 128 : Nat) : Int) := by decide
theorem or8' (n : Nat) (h : n < 256) : IntKind.u8.wrap (BitVec.ofInt IntKind.u8.bits (n : Int) ||| BitVec.ofInt IntKind.u8.bits 128).toNat = ((n % 128 + 128 : Nat) : Int) := or8 ⟨n, h⟩
theorem and7' (n : Nat) (h : n < 256) : IntKind.u8.wrap (BitVec.ofInt IntKind.u8.bits (n : Int) &&& BitVec.ofInt IntKind.u8.bits 127).toNat = ((n % 128 : Nat) : Int) := and7 ⟨n, h⟩
theorem and8' (n : Nat) (h : n < 256) : IntKind.u8.wrap (BitVec.ofInt IntKind.u8.bits (n : Int) &&& BitVec.ofInt IntKind.u8.bits 128).toNat = (if 128 ≤ n then 128 else 0 : Int) := and8 ⟨n, h⟩
theorem andNot7' (n : Nat) (h : n < 256) : IntKind.u8.wrap (BitVec.ofInt IntKind.u8.bits (n : Int) &&& ~~~(BitVec.ofInt IntKind.u8.bits 128)).toNat = ((n % 128 : Nat) : Int) := andNot7 ⟨n, h⟩
theorem shl7 (x i : Nat) (hi : i ≤ 9) (hx : x * 128 ^ i < 18446744073709551616) : IntKind.u64.wrap ((x : Int) * 2 ^ (min ((7 * i : Nat) : Int).toNat IntKind.u64.bits)) = ((x * 128 ^ i : Nat) : Int) := by
  have h64 : IntKind.u64.bits = 64 := rfl
  rw [h64, Int.toNat_natCast, Nat.min_eq_left (by omega)]
  have : (2 : Int) ^ (7 * i) = ((128 ^ i : Nat) : Int) := by
    rw [Int.pow_mul, Int.natCast_pow]; rfl
  rw [this, ← Int.natCast_mul, u64w]
  generalize x * 128 ^ i = y at *
  omega
theorem or_add (u x i : Nat) (hu : u < 128 ^ i) (hx : u + x * 128 ^ i < 18446744073709551616) : IntKind.u64.wrap (BitVec.ofInt 64 (u : Int) ||| BitVec.ofInt 64 ((x * 128 ^ i : Nat) : Int)).toNat = ((u + x * 128 ^ i : Nat) : Int) := by
  rw [BitVec.toNat_or, ofInt_toNat _ (by omega) (by omega), ofInt_toNat _ (by omega) (by omega), Int.toNat_natCast, Int.toNat_natCast]
  have e : (128 : Nat) ^ i = 2 ^ (7 * i) := by rw [Nat.pow_mul]
  have := Nat.two_pow_add_eq_or_of_lt (i := 7 * i) (b := u) (by rw [← e]; exact hu) x
  rw [Nat.or_comm, e, Nat.mul_comm x, ← this, u64w, Nat.add_comm]
  rw [e, Nat.mul_comm x] at hx
  generalize 2 ^ (7 * i) * x = y at *
  omega
theorem cvt8 (u : Nat) : IntKind.u8.wrap (u : Int) = ((u % 256 : Nat) : Int) := by rw [u8w]; rfl
theorem b8_ofNat {n : Nat} (h : n < 256) : Value.int .u8 (n : Int) = b8 (UInt8.ofNat n) := by unfold b8; rw [ofNat_toNat h]
end Go.Eng
namespace Go.Proofs.Ytmojfpaagokckaa
set_option linter.unusedVariables false
set_option linter.unusedSimpArgs false
open Go.Eng
/-! ### rostrum/vec.Good (10) -/
def S.vec_Good.l1 (R : Value → World → Prop) (K1 : List Value → World → Prop) (x5 x6 : Value) (W : World) : Prop :=
  okF (binP .lss x6 (.int .i64 7)) fun v7 =>
  ifK v7 (
  okF (idxV 7 false 1 x5 x6) fun v8 =>
  okF (binP .lss v8 (.int .i64 0)) fun v10 =>
  gdK (wantd v10 false) (fun k W => k v8 W) (fun v12 W =>
  gdK (wantd v10 false) (fun k W => okF (binP .gtr v12 (.int .i64 1099511627776)) fun v => k v W) (fun v13 W =>
  okF (pickP v10 (.bool true) v13) fun v14 =>
  ifK v14 (
  R (.bool false) W) (
  okF (binP .add x6 (.int .i64 1)) fun v15 =>
  K1 [x5, v15] W)) W) W) (
  R (.bool true) W)
def S.vec_Good.body (R : Value → World → Prop) (v0 : Value) (W : World) : Prop :=
  efK PR (Instr.box T_vec_Vec v0) (fun v1 W =>
  rdK PR (Instr.loadAt T_vec_Vec v1) (fun v5 W =>
  loopK (fun K1 s W => S.vec_Good.l1 R K1 (nthv s 0) (nthv s 1) W) [v5, (.int .i64 0)] W) W) W
def S.vec_Good.hint : Hint := (.two .nil (.two (.two .nil (.at [5, 6] (.two .nil (.two (.two .nil .nil) (.two (.two .nil (.two .nil (.two (.two .nil .nil) .nil))) .nil))) .nil)) (.two .nil .nil)))
theorem S.vec_Good.ok (R : Value → World → Prop) (v0 : Value) (W : World) : bodyK PR CB Try.f10 S.vec_Good.hint [v0] R W = S.vec_Good.body R v0 W := by kernel_rfl
theorem S.vec_Good.fn : PR.funcs[F_vec_Good]? = some Try.f10 := by kernel_rfl
theorem S.vec_Good.call {R : Value → World → Prop} {v0 : Value} {W : World} (h : S.vec_Good.body R v0 W) : callK PR F_vec_Good [v0] R W :=
  callK_of_body (g := F_vec_Good) (fn := Try.f10) (args := [v0]) (R := R) (w := W) mixed CBok S.vec_Good.fn S.vec_Good.hint (by rw [S.vec_Good.ok]; exact h)
/-! ### rostrum/vec.Has (14) -/
def S.vec_Has.body (R : Value → World → Prop) (v0 v1 : Value) (W : World) : Prop :=
  efK PR (Instr.box T_vec_Vec v0) (fun v2 W =>
  efK PR (Instr.box T_api_Dot v1) (fun v3 W =>
  okF (addrF 0 v3) fun v5 =>
  rdK PR (Instr.loadAt T_int v5) (fun v6 W =>
  callK PR F_vec_Rep [v6] (fun v7 W =>
  gdK (wantd v7 true) (fun k W => okF (addrF 1 v3) fun v => k v W) (fun v9 W =>
  gdK (wantd v7 true) (fun k W => rdK PR (Instr.loadAt T_int64 v9) k W) (fun v10 W =>
  gdK (wantd v7 true) (fun k W => okF (binP .geq v10 (.int .i64 1)) fun v => k v W) (fun v11 W =>
  okF (pickP v7 v11 (.bool false)) fun v12 =>
  gdK (wantd v12 true) (fun k W => okF (addrF 1 v3) fun v => k v W) (fun v14 W =>
  gdK (wantd v12 true) (fun k W => rdK PR (Instr.loadAt T_int64 v14) k W) (fun v15 W =>
  gdK (wantd v12 true) (fun k W => okF (addrF 0 v3) fun v => k v W) (fun v16 W =>
  gdK (wantd v12 true) (fun k W => rdK PR (Instr.loadAt T_int v16) k W) (fun v17 W =>
  gdK (wantd v12 true) (fun k W => okF (idxA 7 1 v2 v17) fun v => k v W) (fun v18 W =>
  gdK (wantd v12 true) (fun k W => rdK PR (Instr.loadAt T_int64 v18) k W) (fun v19 W =>
  gdK (wantd v12 true) (fun k W => okF (binP .leq v15 v19) fun v => k v W) (fun v20 W =>
  okF (pickP v12 v20 (.bool false)) fun v21 =>
  R v21 W) W) W) W) W) W) W) W) W) W) W) W) (tick W)) W) W
def S.vec_Has.hint : Hint := (.two .nil (.two .nil .nil))
theorem S.vec_Has.ok (R : Value → World → Prop) (v0 v1 : Value) (W : World) : bodyK PR CB Try.f14 S.vec_Has.hint [v0, v1] R W = S.vec_Has.body R v0 v1 W := by kernel_rfl
theorem S.vec_Has.fn : PR.funcs[F_vec_Has]? = some Try.f14 := by kernel_rfl
theorem S.vec_Has.call {R : Value → World → Prop} {v0 v1 : Value} {W : World} (h : S.vec_Has.body R v0 v1 W) : callK PR F_vec_Has [v0, v1] R W :=
  callK_of_body (g := F_vec_Has) (fn := Try.f14) (args := [v0, v1]) (R := R) (w := W) mixed CBok S.vec_Has.fn S.vec_Has.hint (by rw [S.vec_Has.ok]; exact h)
/-! ### rostrum/vec.Le (29) -/
def S.vec_Le.l1 (R : Value → World → Prop) (K1 : List Value → World → Prop) (x2 x3 x6 : Value) (W : World) : Prop :=
  okF (binP .lss x6 (.int .i64 7)) fun v7 =>
  ifK v7 (
  okF (idxA 7 1 x2 x6) fun v10 =>
  rdK PR (Instr.loadAt T_int64 v10) (fun v11 W =>
  okF (idxA 7 1 x3 x6) fun v13 =>
  rdK PR (Instr.loadAt T_int64 v13) (fun v14 W =>
  okF (binP .gtr v11 v14) fun v15 =>
  ifK v15 (
  R (.bool false) W) (
  okF (binP .add x6 (.int .i64 1)) fun v16 =>
  K1 [x2, x3, v16] W)) W) (tick W)) (
  R (.bool true) W)
def S.vec_Le.body (R : Value → World → Prop) (v0 v1 : Value) (W : World) : Prop :=
  efK PR (Instr.box T_vec_Vec v0) (fun v2 W =>
  efK PR (Instr.box T_vec_Vec v1) (fun v3 W =>
  loopK (fun K1 s W => S.vec_Le.l1 R K1 (nthv s 0) (nthv s 1) (nthv s 2) W) [v2, v3, (.int .i64 0)] W) W) W
def S.vec_Le.hint : Hint := (.two .nil (.two (.two .nil (.at [2, 3, 6] (.two .nil (.two (.two .nil .nil) (.two (.two .nil (.two .nil (.two (.two .nil .nil) .nil))) .nil))) .nil)) (.two .nil .nil)))
theorem S.vec_Le.ok (R : Value → World → Prop) (v0 v1 : Value) (W : World) : bodyK PR CB Try.f29 S.vec_Le.hint [v0, v1] R W = S.vec_Le.body R v0 v1 W := by kernel_rfl
theorem S.vec_Le.fn : PR.funcs[F_vec_Le]? = some Try.f29 := by kernel_rfl
theorem S.vec_Le.call {R : Value → World → Prop} {v0 v1 : Value} {W : World} (h : S.vec_Le.body R v0 v1 W) : callK PR F_vec_Le [v0, v1] R W :=
  callK_of_body (g := F_vec_Le) (fn := Try.f29) (args := [v0, v1]) (R := R) (w := W) mixed CBok S.vec_Le.fn S.vec_Le.hint (by rw [S.vec_Le.ok]; exact h)
/-! ### rostrum/vec.Merge (30) -/
def S.vec_Merge.j1 (R : Value → World → Prop) (x2 x4 : Value) (W : World) : Prop :=
  rdK PR (Instr.loadAt T_vec_Vec x2) (fun v19 W =>
  efK PR (Instr.storeAt T_vec_Vec x4 v19) (fun _ W =>
  rdK PR (Instr.loadAt T_vec_Vec x4) (fun r0 W =>
  R r0 W) W) W) W
def S.vec_Merge.l1 (J1 : List Value → World → Prop) (K1 : List Value → World → Prop) (x2 x3 x4 x6 : Value) (W : World) : Prop :=
  okF (binP .lss x6 (.int .i64 7)) fun v7 =>
  ifK v7 (
  okF (idxA 7 1 x2 x6) fun v11 =>
  rdK PR (Instr.loadAt T_int64 v11) (fun v12 W =>
  okF (idxA 7 1 x3 x6) fun v14 =>
  rdK PR (Instr.loadAt T_int64 v14) (fun v15 W =>
  okF (foldP max2P [v12, v15]) fun v16 =>
  okF (idxA 7 1 x2 x6) fun v17 =>
  efK PR (Instr.storeAt T_int64 v17 v16) (fun _ W =>
  okF (binP .add x6 (.int .i64 1)) fun v18 =>
  K1 [x2, x3, x4, v18] W) W) W) (tick W)) (
  J1 [x2, x4] W)
def S.vec_Merge.body (R : Value → World → Prop) (v0 v1 : Value) (W : World) : Prop :=
  efK PR (Instr.box T_vec_Vec v0) (fun v2 W =>
  efK PR (Instr.box T_vec_Vec v1) (fun v3 W =>
  efK PR (Instr.alloc T_vec_Vec true (.tuple #[])) (fun v4 W =>
  joinK (fun s W => S.vec_Merge.j1 R (nthv s 0) (nthv s 1) W) (fun J1 =>
  loopK (fun K1 s W => S.vec_Merge.l1 J1 K1 (nthv s 0) (nthv s 1) (nthv s 2) (nthv s 3) W) [v2, v3, v4, (.int .i64 0)] W)) W) W) W
def S.vec_Merge.hint : Hint := (.two .nil (.at [2, 4] (.two .nil (.at [2, 3, 4, 6] (.two .nil (.two (.two .nil .nil) (.two (.two .nil .nil) .nil))) .nil)) (.two .nil .nil)))
theorem S.vec_Merge.ok (R : Value → World → Prop) (v0 v1 : Value) (W : World) : bodyK PR CB Try.f30 S.vec_Merge.hint [v0, v1] R W = S.vec_Merge.body R v0 v1 W := by kernel_rfl
theorem S.vec_Merge.fn : PR.funcs[F_vec_Merge]? = some Try.f30 := by kernel_rfl
theorem S.vec_Merge.call {R : Value → World → Prop} {v0 v1 : Value} {W : World} (h : S.vec_Merge.body R v0 v1 W) : callK PR F_vec_Merge [v0, v1] R W :=
  callK_of_body (g := F_vec_Merge) (fn := Try.f30) (args := [v0, v1]) (R := R) (w := W) mixed CBok S.vec_Merge.fn S.vec_Merge.hint (by rw [S.vec_Merge.ok]; exact h)
/-! ### rostrum/rostrumref7.May (33) -/
def S.rostrumref7_May.body (R : Value → World → Prop) (v0 : Value) (W : World) : Prop :=
  efK PR (Instr.box T_api_Dot v0) (fun v1 W =>
  okF (addrF 0 v1) fun v3 =>
  rdK PR (Instr.loadAt T_int v3) (fun v4 W =>
  okF (binP .geq v4 (.int .i64 0)) fun v5 =>
  gdK (wantd v5 true) (fun k W => okF (addrF 0 v1) fun v => k v W) (fun v7 W =>
  gdK (wantd v5 true) (fun k W => rdK PR (Instr.loadAt T_int v7) k W) (fun v8 W =>
  gdK (wantd v5 true) (fun k W => okF (binP .lss v8 (.int .i64 7)) fun v => k v W) (fun v9 W =>
  okF (pickP v5 v9 (.bool false)) fun v10 =>
  gdK (wantd v10 true) (fun k W => okF (addrF 1 v1) fun v => k v W) (fun v12 W =>
  gdK (wantd v10 true) (fun k W => rdK PR (Instr.loadAt T_int64 v12) k W) (fun v13 W =>
  gdK (wantd v10 true) (fun k W => okF (binP .geq v13 (.int .i64 1)) fun v => k v W) (fun v14 W =>
  okF (pickP v10 v14 (.bool false)) fun v15 =>
  gdK (wantd v15 true) (fun k W => okF (addrF 1 v1) fun v => k v W) (fun v17 W =>
  gdK (wantd v15 true) (fun k W => rdK PR (Instr.loadAt T_int64 v17) k W) (fun v18 W =>
  gdK (wantd v15 true) (fun k W => okF (binP .leq v18 (.int .i64 1099511627776)) fun v => k v W) (fun v19 W =>
  okF (pickP v15 v19 (.bool false)) fun v20 =>
  R v20 W) W) W) W) W) W) W) W) W) W) W) W
def S.rostrumref7_May.hint : Hint := (.two .nil (.two .nil .nil))
theorem S.rostrumref7_May.ok (R : Value → World → Prop) (v0 : Value) (W : World) : bodyK PR CB Try.f33 S.rostrumref7_May.hint [v0] R W = S.rostrumref7_May.body R v0 W := by kernel_rfl
theorem S.rostrumref7_May.fn : PR.funcs[F_rostrumref7_May]? = some Try.f33 := by kernel_rfl
theorem S.rostrumref7_May.call {R : Value → World → Prop} {v0 : Value} {W : World} (h : S.rostrumref7_May.body R v0 W) : callK PR F_rostrumref7_May [v0] R W :=
  callK_of_body (g := F_rostrumref7_May) (fn := Try.f33) (args := [v0]) (R := R) (w := W) mixed CBok S.rostrumref7_May.fn S.rostrumref7_May.hint (by rw [S.rostrumref7_May.ok]; exact h)
/-! ### rostrum/rostrumref7.Has (34) -/
def S.rostrumref7_Has.body (R : Value → World → Prop) (v0 v1 : Value) (W : World) : Prop :=
  efK PR (Instr.box T_rostrumref7_Vec v0) (fun v2 W =>
  efK PR (Instr.box T_api_Dot v1) (fun v3 W =>
  okF (addrF 0 v3) fun v5 =>
  rdK PR (Instr.loadAt T_int v5) (fun v6 W =>
  okF (binP .geq v6 (.int .i64 0)) fun v7 =>
  gdK (wantd v7 true) (fun k W => okF (addrF 0 v3) fun v => k v W) (fun v9 W =>
  gdK (wantd v7 true) (fun k W => rdK PR (Instr.loadAt T_int v9) k W) (fun v10 W =>
  gdK (wantd v7 true) (fun k W => okF (binP .lss v10 (.int .i64 7)) fun v => k v W) (fun v11 W =>
  okF (pickP v7 v11 (.bool false)) fun v12 =>
  gdK (wantd v12 true) (fun k W => okF (addrF 1 v3) fun v => k v W) (fun v14 W =>
  gdK (wantd v12 true) (fun k W => rdK PR (Instr.loadAt T_int64 v14) k W) (fun v15 W =>
  gdK (wantd v12 true) (fun k W => okF (binP .geq v15 (.int .i64 1)) fun v => k v W) (fun v16 W =>
  okF (pickP v12 v16 (.bool false)) fun v17 =>
  gdK (wantd v17 true) (fun k W => okF (addrF 1 v3) fun v => k v W) (fun v19 W =>
  gdK (wantd v17 true) (fun k W => rdK PR (Instr.loadAt T_int64 v19) k W) (fun v20 W =>
  gdK (wantd v17 true) (fun k W => okF (addrF 0 v3) fun v => k v W) (fun v21 W =>
  gdK (wantd v17 true) (fun k W => rdK PR (Instr.loadAt T_int v21) k W) (fun v22 W =>
  gdK (wantd v17 true) (fun k W => okF (idxA 7 1 v2 v22) fun v => k v W) (fun v23 W =>
  gdK (wantd v17 true) (fun k W => rdK PR (Instr.loadAt T_int64 v23) k W) (fun v24 W =>
  gdK (wantd v17 true) (fun k W => okF (binP .leq v20 v24) fun v => k v W) (fun v25 W =>
  okF (pickP v17 v25 (.bool false)) fun v26 =>
  R v26 W) W) W) W) W) W) W) W) W) W) W) W) W) W) (tick W)) W) W
def S.rostrumref7_Has.hint : Hint := (.two .nil (.two .nil .nil))
theorem S.rostrumref7_Has.ok (R : Value → World → Prop) (v0 v1 : Value) (W : World) : bodyK PR CB Try.f34 S.rostrumref7_Has.hint [v0, v1] R W = S.rostrumref7_Has.body R v0 v1 W := by kernel_rfl
theorem S.rostrumref7_Has.fn : PR.funcs[F_rostrumref7_Has]? = some Try.f34 := by kernel_rfl
theorem S.rostrumref7_Has.call {R : Value → World → Prop} {v0 v1 : Value} {W : World} (h : S.rostrumref7_Has.body R v0 v1 W) : callK PR F_rostrumref7_Has [v0, v1] R W :=
  callK_of_body (g := F_rostrumref7_Has) (fn := Try.f34) (args := [v0, v1]) (R := R) (w := W) mixed CBok S.rostrumref7_Has.fn S.rostrumref7_Has.hint (by rw [S.rostrumref7_Has.ok]; exact h)
/-! ### rostrum/rostrumref7.Good (35) -/
def S.rostrumref7_Good.l1 (R : Value → World → Prop) (K1 : List Value → World → Prop) (x1 x3 : Value) (W : World) : Prop :=
  okF (binP .lss x3 (.int .i64 7)) fun v5 =>
  ifK v5 (
  okF (idxA 7 1 x1 x3) fun v9 =>
  rdK PR (Instr.loadAt T_int64 v9) (fun v10 W =>
  okF (binP .lss v10 (.int .i64 0)) fun v11 =>
  gdK (wantd v11 false) (fun k W => k x3 W) (fun v13 W =>
  gdK (wantd v11 false) (fun k W => okF (idxA 7 1 x1 v13) fun v => k v W) (fun v14 W =>
  gdK (wantd v11 false) (fun k W => rdK PR (Instr.loadAt T_int64 v14) k W) (fun v15 W =>
  gdK (wantd v11 false) (fun k W => okF (binP .gtr v15 (.int .i64 1099511627776)) fun v => k v W) (fun v16 W =>
  okF (pickP v11 (.bool true) v16) fun v17 =>
  ifK v17 (
  R (.bool false) W) (
  okF (binP .add x3 (.int .i64 1)) fun v7 =>
  K1 [x1, v7] W)) W) W) W) W) W) (
  R (.bool true) W)
def S.rostrumref7_Good.body (R : Value → World → Prop) (v0 : Value) (W : World) : Prop :=
  efK PR (Instr.box T_rostrumref7_Vec v0) (fun v1 W =>
  loopK (fun K1 s W => S.rostrumref7_Good.l1 R K1 (nthv s 0) (nthv s 1) W) [v1, (.int .i64 0)] W) W
def S.rostrumref7_Good.hint : Hint := (.two .nil (.two (.two .nil (.at [1, 3] (.two (.two .nil (.two .nil .nil)) (.two (.two .nil (.two (.two .nil .nil) .nil)) .nil)) .nil)) (.two .nil .nil)))
theorem S.rostrumref7_Good.ok (R : Value → World → Prop) (v0 : Value) (W : World) : bodyK PR CB Try.f35 S.rostrumref7_Good.hint [v0] R W = S.rostrumref7_Good.body R v0 W := by kernel_rfl
theorem S.rostrumref7_Good.fn : PR.funcs[F_rostrumref7_Good]? = some Try.f35 := by kernel_rfl
theorem S.rostrumref7_Good.call {R : Value → World → Prop} {v0 : Value} {W : World} (h : S.rostrumref7_Good.body R v0 W) : callK PR F_rostrumref7_Good [v0] R W :=
  callK_of_body (g := F_rostrumref7_Good) (fn := Try.f35) (args := [v0]) (R := R) (w := W) mixed CBok S.rostrumref7_Good.fn S.rostrumref7_Good.hint (by rw [S.rostrumref7_Good.ok]; exact h)
/-! ### rostrum/rostrumref7.Less (61) -/
def S.rostrumref7_Less.body (R : Value → World → Prop) (v0 v1 : Value) (W : World) : Prop :=
  efK PR (Instr.box T_api_Dot v0) (fun v2 W =>
  efK PR (Instr.box T_api_Dot v1) (fun v3 W =>
  okF (addrF 0 v2) fun v5 =>
  rdK PR (Instr.loadAt T_int v5) (fun v6 W =>
  okF (addrF 0 v3) fun v7 =>
  rdK PR (Instr.loadAt T_int v7) (fun v8 W =>
  okF (binP .lss v6 v8) fun v9 =>
  gdK (wantd v9 false) (fun k W => okF (addrF 0 v2) fun v => k v W) (fun v11 W =>
  gdK (wantd v9 false) (fun k W => rdK PR (Instr.loadAt T_int v11) k W) (fun v12 W =>
  gdK (wantd v9 false) (fun k W => okF (addrF 0 v3) fun v => k v W) (fun v13 W =>
  gdK (wantd v9 false) (fun k W => rdK PR (Instr.loadAt T_int v13) k W) (fun v14 W =>
  gdK (wantd v9 false) (fun k W => okF (binP .eql v12 v14) fun v => k v W) (fun v15 W =>
  gdK (wantd v9 false) (fun k W => k v15 W) (fun v16 W =>
  gdK (wantd v16 true) (fun k W => okF (addrF 1 v2) fun v => k v W) (fun v17 W =>
  gdK (wantd v16 true) (fun k W => rdK PR (Instr.loadAt T_int64 v17) k W) (fun v18 W =>
  gdK (wantd v16 true) (fun k W => okF (addrF 1 v3) fun v => k v W) (fun v19 W =>
  gdK (wantd v16 true) (fun k W => rdK PR (Instr.loadAt T_int64 v19) k W) (fun v20 W =>
  gdK (wantd v16 true) (fun k W => okF (binP .lss v18 v20) fun v => k v W) (fun v21 W =>
  gdK (wantd v9 false) (fun k W => okF (pickP v16 v21 (.bool false)) fun v => k v W) (fun v22 W =>
  okF (pickP v9 (.bool true) v22) fun v23 =>
  R v23 W) W) W) W) W) W) W) W) W) W) W) W) W) W) W) W) W
def S.rostrumref7_Less.hint : Hint := (.two .nil (.two .nil .nil))
theorem S.rostrumref7_Less.ok (R : Value → World → Prop) (v0 v1 : Value) (W : World) : bodyK PR CB Try.f61 S.rostrumref7_Less.hint [v0, v1] R W = S.rostrumref7_Less.body R v0 v1 W := by kernel_rfl
theorem S.rostrumref7_Less.fn : PR.funcs[F_rostrumref7_Less]? = some Try.f61 := by kernel_rfl
theorem S.rostrumref7_Less.call {R : Value → World → Prop} {v0 v1 : Value} {W : World} (h : S.rostrumref7_Less.body R v0 v1 W) : callK PR F_rostrumref7_Less [v0, v1] R W :=
  callK_of_body (g := F_rostrumref7_Less) (fn := Try.f61) (args := [v0, v1]) (R := R) (w := W) mixed CBok S.rostrumref7_Less.fn S.rostrumref7_Less.hint (by rw [S.rostrumref7_Less.ok]; exact h)
end Go.Proofs.Ytmojfpaagokckaa
namespace Go.Proofs.Ytmojfpaagokckaa
set_option linter.unusedVariables false
set_option linter.unusedSimpArgs false
open Go Go.Eng

abbrev KD : Dot → Value := fun d => .agg #[.int .i64 d.rep, .int .i64 d.n]
set_option maxRecDepth 100000 in
instance keyDot : KeyT PR T_api_Dot KD := KeyT.agg (cs := fun d => [.int .i64 d.rep, .int .i64 d.n]) (fun _ => rfl) (d := (PR.underlying T_api_Dot).getD .bool) (by kernel_rfl) (fun a b => rfl) (fun a b => by
    cases a; cases b
    simp only [eqC, eq1, if_true, Bool.and_true, Dot.mk.injEq]
    congr 1
    rw [Bool.eq_iff_iff]
    simp) (fun k => by simp [KD, Instr.sameBits]) (fun w em k => by kernel_rfl)
def imax (a b : Int) : Int := if a < b then b else a
def vmerge (a b : P7 Int) : P7 Int := a.zip imax b
def goodV (v : P7 Int) : Bool := v.list.all fun n => decide (0 ≤ n ∧ n ≤ 1099511627776)
def hasV (v : P7 Int) (d : Dot) : Bool := decide (0 ≤ d.rep ∧ d.rep < 7 ∧ 1 ≤ d.n ∧ d.n ≤ v.get d.rep.toNat)
def leV (a b : P7 Int) : Bool := (List.range 7).all fun i => decide (a.get i ≤ b.get i)
section
variable {W0 W : World} {L L' : List Asn}
theorem idxV7i {x : P7 Int} {i : Nat} (hi : i < 7) : idxV 7 false 1 (.agg #[.int .i64 x.x0, .int .i64 x.x1, .int .i64 x.x2, .int .i64 x.x3, .int .i64 x.x4, .int .i64 x.x5, .int .i64 x.x6]) (.int .i64 (i : Int)) = some (.int .i64 (x.get i)) := by
  rcases P7.cases7 hi with rfl | rfl | rfl | rfl | rfl | rfl | rfl <;> rfl
theorem getL7 {x : P7 Int} {i : Nat} (hi : i < 7) : getL false [.int .i64 x.x0, .int .i64 x.x1, .int .i64 x.x2, .int .i64 x.x3, .int .i64 x.x4, .int .i64 x.x5, .int .i64 x.x6] i 1 = some (.int .i64 (x.get i)) := by
  rcases P7.cases7 hi with rfl | rfl | rfl | rfl | rfl | rfl | rfl <;> rfl
theorem idxA7 {z i : Nat} (hi : i < 7) : idxA 7 1 (.pointer (some ⟨z, 0, none⟩)) (.int .i64 (i : Int)) = some (.pointer (some ⟨z, i, none⟩)) := by
  rw [idxA_blk (by omega) (by omega)]; simp
theorem idxA7i {z : Nat} {i : Int} (h0 : 0 ≤ i) (hi : i < 7) : idxA 7 1 (.pointer (some ⟨z, 0, none⟩)) (.int .i64 i) = some (.pointer (some ⟨z, i.toNat, none⟩)) := by
  have := idxA7 (z := z) (i := i.toNat) (by omega)
  rwa [Int.toNat_of_nonneg h0] at this
theorem goodV_iff (v : P7 Int) : goodV v = true ↔ ∀ i, i < 7 → 0 ≤ v.get i ∧ v.get i ≤ 1099511627776 := by
  simp only [goodV, P7.list, List.all_cons, List.all_nil, Bool.and_true, Bool.and_eq_true, decide_eq_true_eq]
  constructor
  · rintro ⟨h0, h1, h2, h3, h4, h5, h6⟩ i hi
    rcases P7.cases7 hi with rfl | rfl | rfl | rfl | rfl | rfl | rfl <;> assumption
  · intro h
    exact ⟨h 0 (by omega), h 1 (by omega), h 2 (by omega), h 3 (by omega), h 4 (by omega), h 5 (by omega), h 6 (by omega)⟩
theorem leV_iff (a b : P7 Int) : leV a b = true ↔ ∀ i, i < 7 → a.get i ≤ b.get i := by simp only [leV, List.all_eq_true, List.mem_range, decide_eq_true_eq]
theorem vecGood_run (v : P7 Int) (W : World) : callK PR F_vec_Good [.agg #[.int .i64 v.x0, .int .i64 v.x1, .int .i64 v.x2, .int .i64 v.x3, .int .i64 v.x4, .int .i64 v.x5, .int .i64 v.x6]] (fun u W' => u = .bool (goodV v) ∧ St W [] W') W := by
  apply S.vec_Good.call
  unfold S.vec_Good.body
  refine bxa (St.start W) fun b W1 h => ?_
  (repeat (first | (first | (with_reducible (first | refine w1 fun _ _ => ?_ | refine w3 fun _ _ _ => ?_ | refine w4 fun _ _ _ => ?_ | refine w11 fun _ _ _ => ?_ | refine stb_n ?_)) | ((with_reducible refine w2 ?_); try simp -implicitDefEqProofs only [EN, lsub, lget, stL, beq_self_eq_true, ne_eq, if_true, if_false, List.cons_append, List.nil_append, Option.isNone_some, Option.isNone_none]; intro _ _) | ((with_reducible (first | refine w5 ?_ ?_ | refine w6 ?_ ?_ | refine w7 ?_ ?_)); simp; refine ⟨_, rfl, ?_⟩) | ((with_reducible (first | refine w8 ?_ ?_ ?_ | refine w9 ?_ ?_ ?_ | refine w10 ?_ ?_ ?_)); exact rfl; simp) | ((with_reducible refine w12 ?_ ?_ ?_ fun _ _ => ?_); simp; simp; simp [oneC]) | ((with_reducible (first | refine eqs ?_ | refine nes ?_)); refine ⟨_, rfl, ?_⟩) | ((refine okF_i (bldP_eq rfl) ?_); try simp only [BLS, List.take_succ_cons, List.take_zero, List.drop_succ_cons, List.drop_zero, List.cons_append, List.nil_append, Nat.reduceAdd])) | simp -implicitDefEqProofs only [EN, lsub, lget, stL, beq_self_eq_true, ne_eq, if_true, if_false, List.cons_append, List.nil_append, Option.isNone_some, Option.isNone_none]))
  refine loop_c (σ := Unit) 7 (fun i _ => [.agg #[.int .i64 v.x0, .int .i64 v.x1, .int .i64 v.x2, .int .i64 v.x3, .int .i64 v.x4, .int .i64 v.x5, .int .i64 v.x6], .int .i64 i]) (fun i _ W1 => (∀ j, j < i → 0 ≤ v.get j ∧ v.get j ≤ 1099511627776) ∧ St W [] W1) () rfl ⟨fun j h => by omega, h.drop⟩ ?_
  clear h
  rintro K i _ W2 hi ⟨hv, h⟩ hK
  simp -implicitDefEqProofs only [EN, lsub, lget, stL, beq_self_eq_true, ne_eq, if_true, if_false, List.cons_append, List.nil_append, Option.isNone_some, Option.isNone_none]
  unfold S.vec_Good.l1
  have hno : i < 7 → (v.get i < 0 ∨ 1099511627776 < v.get i) → goodV v = false := fun hi h => by
    rw [Bool.eq_false_iff]
    intro hd
    have := (goodV_iff v).1 hd i hi
    omega
  by_cases hlt : (i : Int) < 7
  · have e := idxV7i (x := v) (i := i) (by omega)
    by_cases h1 : v.get i < 0
    · have hc := hno (by omega) (.inl h1)
      (repeat (first | (first | (with_reducible (first | refine w1 fun _ _ => ?_ | refine w3 fun _ _ _ => ?_ | refine w4 fun _ _ _ => ?_ | refine w11 fun _ _ _ => ?_ | refine stb_n ?_)) | ((with_reducible refine w2 ?_); try simp -implicitDefEqProofs only [EN, lsub, lget, stL, beq_self_eq_true, ne_eq, if_true, if_false, List.cons_append, List.nil_append, Option.isNone_some, Option.isNone_none, hlt, e, h1]; intro _ _) | ((with_reducible (first | refine w5 ?_ ?_ | refine w6 ?_ ?_ | refine w7 ?_ ?_)); simp; refine ⟨_, rfl, ?_⟩) | ((with_reducible (first | refine w8 ?_ ?_ ?_ | refine w9 ?_ ?_ ?_ | refine w10 ?_ ?_ ?_)); exact rfl; simp) | ((with_reducible refine w12 ?_ ?_ ?_ fun _ _ => ?_); simp; simp; simp [oneC]) | ((with_reducible (first | refine eqs ?_ | refine nes ?_)); refine ⟨_, rfl, ?_⟩) | ((refine okF_i (bldP_eq rfl) ?_); try simp only [BLS, List.take_succ_cons, List.take_zero, List.drop_succ_cons, List.drop_zero, List.cons_append, List.nil_append, Nat.reduceAdd])) | simp -implicitDefEqProofs only [EN, lsub, lget, stL, beq_self_eq_true, ne_eq, if_true, if_false, List.cons_append, List.nil_append, Option.isNone_some, Option.isNone_none, hlt, e, h1]))
      exact ⟨by rw [hc], h⟩
    · by_cases h2 : 1099511627776 < v.get i
      · have hc := hno (by omega) (.inr h2)
        (repeat (first | (first | (with_reducible (first | refine w1 fun _ _ => ?_ | refine w3 fun _ _ _ => ?_ | refine w4 fun _ _ _ => ?_ | refine w11 fun _ _ _ => ?_ | refine stb_n ?_)) | ((with_reducible refine w2 ?_); try simp -implicitDefEqProofs only [EN, lsub, lget, stL, beq_self_eq_true, ne_eq, if_true, if_false, List.cons_append, List.nil_append, Option.isNone_some, Option.isNone_none, hlt, e, h1, h2]; intro _ _) | ((with_reducible (first | refine w5 ?_ ?_ | refine w6 ?_ ?_ | refine w7 ?_ ?_)); simp; refine ⟨_, rfl, ?_⟩) | ((with_reducible (first | refine w8 ?_ ?_ ?_ | refine w9 ?_ ?_ ?_ | refine w10 ?_ ?_ ?_)); exact rfl; simp) | ((with_reducible refine w12 ?_ ?_ ?_ fun _ _ => ?_); simp; simp; simp [oneC]) | ((with_reducible (first | refine eqs ?_ | refine nes ?_)); refine ⟨_, rfl, ?_⟩) | ((refine okF_i (bldP_eq rfl) ?_); try simp only [BLS, List.take_succ_cons, List.take_zero, List.drop_succ_cons, List.drop_zero, List.cons_append, List.nil_append, Nat.reduceAdd])) | simp -implicitDefEqProofs only [EN, lsub, lget, stL, beq_self_eq_true, ne_eq, if_true, if_false, List.cons_append, List.nil_append, Option.isNone_some, Option.isNone_none, hlt, e, h1, h2]))
        exact ⟨by rw [hc], h⟩
      · have ew : IntKind.i64.wrap ((i : Int) + 1) = ((i + 1 : Nat) : Int) := by rw [i64w]; omega
        (repeat (first | (first | (with_reducible (first | refine w1 fun _ _ => ?_ | refine w3 fun _ _ _ => ?_ | refine w4 fun _ _ _ => ?_ | refine w11 fun _ _ _ => ?_ | refine stb_n ?_)) | ((with_reducible refine w2 ?_); try simp -implicitDefEqProofs only [EN, lsub, lget, stL, beq_self_eq_true, ne_eq, if_true, if_false, List.cons_append, List.nil_append, Option.isNone_some, Option.isNone_none, hlt, e, h1, h2, ew]; intro _ _) | ((with_reducible (first | refine w5 ?_ ?_ | refine w6 ?_ ?_ | refine w7 ?_ ?_)); simp; refine ⟨_, rfl, ?_⟩) | ((with_reducible (first | refine w8 ?_ ?_ ?_ | refine w9 ?_ ?_ ?_ | refine w10 ?_ ?_ ?_)); exact rfl; simp) | ((with_reducible refine w12 ?_ ?_ ?_ fun _ _ => ?_); simp; simp; simp [oneC]) | ((with_reducible (first | refine eqs ?_ | refine nes ?_)); refine ⟨_, rfl, ?_⟩) | ((refine okF_i (bldP_eq rfl) ?_); try simp only [BLS, List.take_succ_cons, List.take_zero, List.drop_succ_cons, List.drop_zero, List.cons_append, List.nil_append, Nat.reduceAdd])) | simp -implicitDefEqProofs only [EN, lsub, lget, stL, beq_self_eq_true, ne_eq, if_true, if_false, List.cons_append, List.nil_append, Option.isNone_some, Option.isNone_none, hlt, e, h1, h2, ew]))
        refine hK () _ (by omega) ⟨fun j hj => ?_, h⟩
        by_cases hji : j = i
        · subst hji; omega
        · exact hv j (by omega)
  · (repeat (first | (first | (with_reducible (first | refine w1 fun _ _ => ?_ | refine w3 fun _ _ _ => ?_ | refine w4 fun _ _ _ => ?_ | refine w11 fun _ _ _ => ?_ | refine stb_n ?_)) | ((with_reducible refine w2 ?_); try simp -implicitDefEqProofs only [EN, lsub, lget, stL, beq_self_eq_true, ne_eq, if_true, if_false, List.cons_append, List.nil_append, Option.isNone_some, Option.isNone_none, hlt]; intro _ _) | ((with_reducible (first | refine w5 ?_ ?_ | refine w6 ?_ ?_ | refine w7 ?_ ?_)); simp; refine ⟨_, rfl, ?_⟩) | ((with_reducible (first | refine w8 ?_ ?_ ?_ | refine w9 ?_ ?_ ?_ | refine w10 ?_ ?_ ?_)); exact rfl; simp) | ((with_reducible refine w12 ?_ ?_ ?_ fun _ _ => ?_); simp; simp; simp [oneC]) | ((with_reducible (first | refine eqs ?_ | refine nes ?_)); refine ⟨_, rfl, ?_⟩) | ((refine okF_i (bldP_eq rfl) ?_); try simp only [BLS, List.take_succ_cons, List.take_zero, List.drop_succ_cons, List.drop_zero, List.cons_append, List.nil_append, Nat.reduceAdd])) | simp -implicitDefEqProofs only [EN, lsub, lget, stL, beq_self_eq_true, ne_eq, if_true, if_false, List.cons_append, List.nil_append, Option.isNone_some, Option.isNone_none, hlt]))
    exact ⟨by rw [(goodV_iff v).2 fun j hj => hv j (by omega)], h⟩
instance vecGood (x0 x1 x2 x3 x4 x5 x6 : Int) : Pure0 PR F_vec_Good [.agg #[.int .i64 x0, .int .i64 x1, .int .i64 x2, .int .i64 x3, .int .i64 x4, .int .i64 x5, .int .i64 x6]] (.bool (goodV ⟨x0, x1, x2, x3, x4, x5, x6⟩)) :=
  ⟨fun W => vecGood_run ⟨x0, x1, x2, x3, x4, x5, x6⟩ W⟩
theorem vecHas_run (v : P7 Int) (d : Dot) (W : World) : callK PR F_vec_Has [.agg #[.int .i64 v.x0, .int .i64 v.x1, .int .i64 v.x2, .int .i64 v.x3, .int .i64 v.x4, .int .i64 v.x5, .int .i64 v.x6], .agg #[.int .i64 d.rep, .int .i64 d.n]] (fun u W' => u = .bool (hasV v d) ∧ St W [] W') W := by
  apply S.vec_Has.call
  unfold S.vec_Has.body
  have h := St.start W
  by_cases h1 : 0 ≤ d.rep ∧ d.rep < 7
  · have f1 : decide (0 ≤ d.rep ∧ d.rep < 7) = true := decide_eq_true h1
    by_cases h2 : 1 ≤ d.n
    · have ei := fun z => idxA7i (z := z) h1.1 h1.2
      have hg := fun (x : P7 Int) => getL7 (x := x) (i := d.rep.toNat) (by omega)
      (repeat (first | (first | (with_reducible (first | refine w1 fun _ _ => ?_ | refine w3 fun _ _ _ => ?_ | refine w4 fun _ _ _ => ?_ | refine w11 fun _ _ _ => ?_ | refine stb_n ?_)) | ((with_reducible refine w2 ?_); try simp -implicitDefEqProofs only [EN, lsub, lget, stL, beq_self_eq_true, ne_eq, if_true, if_false, List.cons_append, List.nil_append, Option.isNone_some, Option.isNone_none, f1, h2, ei]; intro _ _) | ((with_reducible (first | refine w5 ?_ ?_ | refine w6 ?_ ?_ | refine w7 ?_ ?_)); simp; refine ⟨_, rfl, ?_⟩) | ((with_reducible (first | refine w8 ?_ ?_ ?_ | refine w9 ?_ ?_ ?_ | refine w10 ?_ ?_ ?_)); exact rfl; simp) | ((with_reducible refine w12 ?_ ?_ ?_ fun _ _ => ?_); simp; simp; simp [oneC]) | ((with_reducible (first | refine eqs ?_ | refine nes ?_)); refine ⟨_, rfl, ?_⟩) | ((refine okF_i (bldP_eq rfl) ?_); try simp only [BLS, List.take_succ_cons, List.take_zero, List.drop_succ_cons, List.drop_zero, List.cons_append, List.nil_append, Nat.reduceAdd])) | simp -implicitDefEqProofs only [EN, lsub, lget, stL, beq_self_eq_true, ne_eq, if_true, if_false, List.cons_append, List.nil_append, Option.isNone_some, Option.isNone_none, f1, h2, ei]))
      refine ld (v := .int .i64 (v.get d.rep.toNat)) (by first | assumption | exact St.tick (by assumption) | exact St.tick (St.tick (by assumption))) (hg v) (by simp) ?_
      (repeat (first | (first | (with_reducible (first | refine w1 fun _ _ => ?_ | refine w3 fun _ _ _ => ?_ | refine w4 fun _ _ _ => ?_ | refine w11 fun _ _ _ => ?_ | refine stb_n ?_)) | ((with_reducible refine w2 ?_); try simp -implicitDefEqProofs only [EN, lsub, lget, stL, beq_self_eq_true, ne_eq, if_true, if_false, List.cons_append, List.nil_append, Option.isNone_some, Option.isNone_none]; intro _ _) | ((with_reducible (first | refine w5 ?_ ?_ | refine w6 ?_ ?_ | refine w7 ?_ ?_)); simp; refine ⟨_, rfl, ?_⟩) | ((with_reducible (first | refine w8 ?_ ?_ ?_ | refine w9 ?_ ?_ ?_ | refine w10 ?_ ?_ ?_)); exact rfl; simp) | ((with_reducible refine w12 ?_ ?_ ?_ fun _ _ => ?_); simp; simp; simp [oneC]) | ((with_reducible (first | refine eqs ?_ | refine nes ?_)); refine ⟨_, rfl, ?_⟩) | ((refine okF_i (bldP_eq rfl) ?_); try simp only [BLS, List.take_succ_cons, List.take_zero, List.drop_succ_cons, List.drop_zero, List.cons_append, List.nil_append, Nat.reduceAdd])) | simp -implicitDefEqProofs only [EN, lsub, lget, stL, beq_self_eq_true, ne_eq, if_true, if_false, List.cons_append, List.nil_append, Option.isNone_some, Option.isNone_none]))
      refine ⟨?_, St.nil (by first | assumption | exact St.tick (by assumption) | exact St.tick (St.tick (by assumption)))⟩
      congr 1
      unfold hasV
      (first | rfl | (rw [decide_eq_decide]; omega) | (symm; rw [decide_eq_true_eq]; omega) | (symm; rw [decide_eq_false_iff_not]; omega) | (simp; omega))
    · (repeat (first | (first | (with_reducible (first | refine w1 fun _ _ => ?_ | refine w3 fun _ _ _ => ?_ | refine w4 fun _ _ _ => ?_ | refine w11 fun _ _ _ => ?_ | refine stb_n ?_)) | ((with_reducible refine w2 ?_); try simp -implicitDefEqProofs only [EN, lsub, lget, stL, beq_self_eq_true, ne_eq, if_true, if_false, List.cons_append, List.nil_append, Option.isNone_some, Option.isNone_none, f1, h2]; intro _ _) | ((with_reducible (first | refine w5 ?_ ?_ | refine w6 ?_ ?_ | refine w7 ?_ ?_)); simp; refine ⟨_, rfl, ?_⟩) | ((with_reducible (first | refine w8 ?_ ?_ ?_ | refine w9 ?_ ?_ ?_ | refine w10 ?_ ?_ ?_)); exact rfl; simp) | ((with_reducible refine w12 ?_ ?_ ?_ fun _ _ => ?_); simp; simp; simp [oneC]) | ((with_reducible (first | refine eqs ?_ | refine nes ?_)); refine ⟨_, rfl, ?_⟩) | ((refine okF_i (bldP_eq rfl) ?_); try simp only [BLS, List.take_succ_cons, List.take_zero, List.drop_succ_cons, List.drop_zero, List.cons_append, List.nil_append, Nat.reduceAdd])) | simp -implicitDefEqProofs only [EN, lsub, lget, stL, beq_self_eq_true, ne_eq, if_true, if_false, List.cons_append, List.nil_append, Option.isNone_some, Option.isNone_none, f1, h2]))
      refine ⟨?_, St.nil (by first | assumption | exact St.tick (by assumption) | exact St.tick (St.tick (by assumption)))⟩
      congr 1
      unfold hasV
      (first | rfl | (rw [decide_eq_decide]; omega) | (symm; rw [decide_eq_true_eq]; omega) | (symm; rw [decide_eq_false_iff_not]; omega) | (simp; omega))
  · have f1 : decide (0 ≤ d.rep ∧ d.rep < 7) = false := decide_eq_false h1
    (repeat (first | (first | (with_reducible (first | refine w1 fun _ _ => ?_ | refine w3 fun _ _ _ => ?_ | refine w4 fun _ _ _ => ?_ | refine w11 fun _ _ _ => ?_ | refine stb_n ?_)) | ((with_reducible refine w2 ?_); try simp -implicitDefEqProofs only [EN, lsub, lget, stL, beq_self_eq_true, ne_eq, if_true, if_false, List.cons_append, List.nil_append, Option.isNone_some, Option.isNone_none, f1]; intro _ _) | ((with_reducible (first | refine w5 ?_ ?_ | refine w6 ?_ ?_ | refine w7 ?_ ?_)); simp; refine ⟨_, rfl, ?_⟩) | ((with_reducible (first | refine w8 ?_ ?_ ?_ | refine w9 ?_ ?_ ?_ | refine w10 ?_ ?_ ?_)); exact rfl; simp) | ((with_reducible refine w12 ?_ ?_ ?_ fun _ _ => ?_); simp; simp; simp [oneC]) | ((with_reducible (first | refine eqs ?_ | refine nes ?_)); refine ⟨_, rfl, ?_⟩) | ((refine okF_i (bldP_eq rfl) ?_); try simp only [BLS, List.take_succ_cons, List.take_zero, List.drop_succ_cons, List.drop_zero, List.cons_append, List.nil_append, Nat.reduceAdd])) | simp -implicitDefEqProofs only [EN, lsub, lget, stL, beq_self_eq_true, ne_eq, if_true, if_false, List.cons_append, List.nil_append, Option.isNone_some, Option.isNone_none, f1]))
    refine ⟨?_, St.nil (by first | assumption | exact St.tick (by assumption) | exact St.tick (St.tick (by assumption)))⟩
    congr 1
    unfold hasV
    symm
    rw [decide_eq_false_iff_not]
    omega
instance vecHas (x0 x1 x2 x3 x4 x5 x6 r n : Int) : Pure0 PR F_vec_Has [.agg #[.int .i64 x0, .int .i64 x1, .int .i64 x2, .int .i64 x3, .int .i64 x4, .int .i64 x5, .int .i64 x6], .agg #[.int .i64 r, .int .i64 n]] (.bool (hasV ⟨x0, x1, x2, x3, x4, x5, x6⟩ ⟨r, n⟩)) :=
  ⟨fun W => vecHas_run ⟨x0, x1, x2, x3, x4, x5, x6⟩ ⟨r, n⟩ W⟩
theorem vecLe_run (a b : P7 Int) (W : World) : callK PR F_vec_Le [.agg #[.int .i64 a.x0, .int .i64 a.x1, .int .i64 a.x2, .int .i64 a.x3, .int .i64 a.x4, .int .i64 a.x5, .int .i64 a.x6], .agg #[.int .i64 b.x0, .int .i64 b.x1, .int .i64 b.x2, .int .i64 b.x3, .int .i64 b.x4, .int .i64 b.x5, .int .i64 b.x6]] (fun u W' => u = .bool (leV a b) ∧ St W [] W') W := by
  apply S.vec_Le.call
  unfold S.vec_Le.body
  refine bxa (St.start W) fun p W1 h => ?_
  refine bxa h fun q W1 h => ?_
  refine loop_c (σ := Unit) 7 (fun i _ => [.pointer (some ⟨p, 0, none⟩), .pointer (some ⟨q, 0, none⟩), .int .i64 i]) (fun i _ W1 => (∀ j, j < i → a.get j ≤ b.get j) ∧ St W [cells q [.int .i64 b.x0, .int .i64 b.x1, .int .i64 b.x2, .int .i64 b.x3, .int .i64 b.x4, .int .i64 b.x5, .int .i64 b.x6] T_vec_Vec, cells p [.int .i64 a.x0, .int .i64 a.x1, .int .i64 a.x2, .int .i64 a.x3, .int .i64 a.x4, .int .i64 a.x5, .int .i64 a.x6] T_vec_Vec] W1) () rfl ⟨fun j h => by omega, h⟩ ?_
  clear h
  rintro K i _ W2 hi ⟨hv, h⟩ hK
  simp -implicitDefEqProofs only [EN, lsub, lget, stL, beq_self_eq_true, ne_eq, if_true, if_false, List.cons_append, List.nil_append, Option.isNone_some, Option.isNone_none]
  unfold S.vec_Le.l1
  by_cases hlt : (i : Int) < 7
  · have hi7 : i < 7 := by omega
    have ei := fun z => idxA7 (z := z) (i := i) hi7
    (repeat (first | (first | (with_reducible (first | refine w1 fun _ _ => ?_ | refine w3 fun _ _ _ => ?_ | refine w4 fun _ _ _ => ?_ | refine w11 fun _ _ _ => ?_ | refine stb_n ?_)) | ((with_reducible refine w2 ?_); try simp -implicitDefEqProofs only [EN, lsub, lget, stL, beq_self_eq_true, ne_eq, if_true, if_false, List.cons_append, List.nil_append, Option.isNone_some, Option.isNone_none, hlt, ei]; intro _ _) | ((with_reducible (first | refine w5 ?_ ?_ | refine w6 ?_ ?_ | refine w7 ?_ ?_)); simp; refine ⟨_, rfl, ?_⟩) | ((with_reducible (first | refine w8 ?_ ?_ ?_ | refine w9 ?_ ?_ ?_ | refine w10 ?_ ?_ ?_)); exact rfl; simp) | ((with_reducible refine w12 ?_ ?_ ?_ fun _ _ => ?_); simp; simp; simp [oneC]) | ((with_reducible (first | refine eqs ?_ | refine nes ?_)); refine ⟨_, rfl, ?_⟩) | ((refine okF_i (bldP_eq rfl) ?_); try simp only [BLS, List.take_succ_cons, List.take_zero, List.drop_succ_cons, List.drop_zero, List.cons_append, List.nil_append, Nat.reduceAdd])) | simp -implicitDefEqProofs only [EN, lsub, lget, stL, beq_self_eq_true, ne_eq, if_true, if_false, List.cons_append, List.nil_append, Option.isNone_some, Option.isNone_none, hlt, ei]))
    refine ld (v := .int .i64 (a.get i)) (by first | assumption | exact St.tick (by assumption) | exact St.tick (St.tick (by assumption))) (getL7 hi7) (by simp) ?_
    (repeat (first | (first | (with_reducible (first | refine w1 fun _ _ => ?_ | refine w3 fun _ _ _ => ?_ | refine w4 fun _ _ _ => ?_ | refine w11 fun _ _ _ => ?_ | refine stb_n ?_)) | ((with_reducible refine w2 ?_); try simp -implicitDefEqProofs only [EN, lsub, lget, stL, beq_self_eq_true, ne_eq, if_true, if_false, List.cons_append, List.nil_append, Option.isNone_some, Option.isNone_none, ei]; intro _ _) | ((with_reducible (first | refine w5 ?_ ?_ | refine w6 ?_ ?_ | refine w7 ?_ ?_)); simp; refine ⟨_, rfl, ?_⟩) | ((with_reducible (first | refine w8 ?_ ?_ ?_ | refine w9 ?_ ?_ ?_ | refine w10 ?_ ?_ ?_)); exact rfl; simp) | ((with_reducible refine w12 ?_ ?_ ?_ fun _ _ => ?_); simp; simp; simp [oneC]) | ((with_reducible (first | refine eqs ?_ | refine nes ?_)); refine ⟨_, rfl, ?_⟩) | ((refine okF_i (bldP_eq rfl) ?_); try simp only [BLS, List.take_succ_cons, List.take_zero, List.drop_succ_cons, List.drop_zero, List.cons_append, List.nil_append, Nat.reduceAdd])) | simp -implicitDefEqProofs only [EN, lsub, lget, stL, beq_self_eq_true, ne_eq, if_true, if_false, List.cons_append, List.nil_append, Option.isNone_some, Option.isNone_none, ei]))
    refine ld (v := .int .i64 (b.get i)) (by first | assumption | exact St.tick (by assumption) | exact St.tick (St.tick (by assumption))) (getL7 hi7) (by simp) ?_
    by_cases h1 : b.get i < a.get i
    · have hc : leV a b = false := by
        rw [Bool.eq_false_iff]; intro hd
        have := (leV_iff a b).1 hd i hi7
        omega
      (repeat (first | (first | (with_reducible (first | refine w1 fun _ _ => ?_ | refine w3 fun _ _ _ => ?_ | refine w4 fun _ _ _ => ?_ | refine w11 fun _ _ _ => ?_ | refine stb_n ?_)) | ((with_reducible refine w2 ?_); try simp -implicitDefEqProofs only [EN, lsub, lget, stL, beq_self_eq_true, ne_eq, if_true, if_false, List.cons_append, List.nil_append, Option.isNone_some, Option.isNone_none, h1]; intro _ _) | ((with_reducible (first | refine w5 ?_ ?_ | refine w6 ?_ ?_ | refine w7 ?_ ?_)); simp; refine ⟨_, rfl, ?_⟩) | ((with_reducible (first | refine w8 ?_ ?_ ?_ | refine w9 ?_ ?_ ?_ | refine w10 ?_ ?_ ?_)); exact rfl; simp) | ((with_reducible refine w12 ?_ ?_ ?_ fun _ _ => ?_); simp; simp; simp [oneC]) | ((with_reducible (first | refine eqs ?_ | refine nes ?_)); refine ⟨_, rfl, ?_⟩) | ((refine okF_i (bldP_eq rfl) ?_); try simp only [BLS, List.take_succ_cons, List.take_zero, List.drop_succ_cons, List.drop_zero, List.cons_append, List.nil_append, Nat.reduceAdd])) | simp -implicitDefEqProofs only [EN, lsub, lget, stL, beq_self_eq_true, ne_eq, if_true, if_false, List.cons_append, List.nil_append, Option.isNone_some, Option.isNone_none, h1]))
      exact ⟨by rw [hc], St.nil (by first | assumption | exact St.tick (by assumption) | exact St.tick (St.tick (by assumption)))⟩
    · have ew : IntKind.i64.wrap ((i : Int) + 1) = ((i + 1 : Nat) : Int) := by rw [i64w]; omega
      (repeat (first | (first | (with_reducible (first | refine w1 fun _ _ => ?_ | refine w3 fun _ _ _ => ?_ | refine w4 fun _ _ _ => ?_ | refine w11 fun _ _ _ => ?_ | refine stb_n ?_)) | ((with_reducible refine w2 ?_); try simp -implicitDefEqProofs only [EN, lsub, lget, stL, beq_self_eq_true, ne_eq, if_true, if_false, List.cons_append, List.nil_append, Option.isNone_some, Option.isNone_none, h1, ew]; intro _ _) | ((with_reducible (first | refine w5 ?_ ?_ | refine w6 ?_ ?_ | refine w7 ?_ ?_)); simp; refine ⟨_, rfl, ?_⟩) | ((with_reducible (first | refine w8 ?_ ?_ ?_ | refine w9 ?_ ?_ ?_ | refine w10 ?_ ?_ ?_)); exact rfl; simp) | ((with_reducible refine w12 ?_ ?_ ?_ fun _ _ => ?_); simp; simp; simp [oneC]) | ((with_reducible (first | refine eqs ?_ | refine nes ?_)); refine ⟨_, rfl, ?_⟩) | ((refine okF_i (bldP_eq rfl) ?_); try simp only [BLS, List.take_succ_cons, List.take_zero, List.drop_succ_cons, List.drop_zero, List.cons_append, List.nil_append, Nat.reduceAdd])) | simp -implicitDefEqProofs only [EN, lsub, lget, stL, beq_self_eq_true, ne_eq, if_true, if_false, List.cons_append, List.nil_append, Option.isNone_some, Option.isNone_none, h1, ew]))
      refine hK () _ hi7 ⟨fun j hj => ?_, (by first | assumption | exact St.tick (by assumption) | exact St.tick (St.tick (by assumption)))⟩
      by_cases hji : j = i
      · subst hji; omega
      · exact hv j (by omega)
  · (repeat (first | (first | (with_reducible (first | refine w1 fun _ _ => ?_ | refine w3 fun _ _ _ => ?_ | refine w4 fun _ _ _ => ?_ | refine w11 fun _ _ _ => ?_ | refine stb_n ?_)) | ((with_reducible refine w2 ?_); try simp -implicitDefEqProofs only [EN, lsub, lget, stL, beq_self_eq_true, ne_eq, if_true, if_false, List.cons_append, List.nil_append, Option.isNone_some, Option.isNone_none, hlt]; intro _ _) | ((with_reducible (first | refine w5 ?_ ?_ | refine w6 ?_ ?_ | refine w7 ?_ ?_)); simp; refine ⟨_, rfl, ?_⟩) | ((with_reducible (first | refine w8 ?_ ?_ ?_ | refine w9 ?_ ?_ ?_ | refine w10 ?_ ?_ ?_)); exact rfl; simp) | ((with_reducible refine w12 ?_ ?_ ?_ fun _ _ => ?_); simp; simp; simp [oneC]) | ((with_reducible (first | refine eqs ?_ | refine nes ?_)); refine ⟨_, rfl, ?_⟩) | ((refine okF_i (bldP_eq rfl) ?_); try simp only [BLS, List.take_succ_cons, List.take_zero, List.drop_succ_cons, List.drop_zero, List.cons_append, List.nil_append, Nat.reduceAdd])) | simp -implicitDefEqProofs only [EN, lsub, lget, stL, beq_self_eq_true, ne_eq, if_true, if_false, List.cons_append, List.nil_append, Option.isNone_some, Option.isNone_none, hlt]))
    exact ⟨by rw [(leV_iff a b).2 fun j hj => hv j (by omega)], St.nil (by first | assumption | exact St.tick (by assumption) | exact St.tick (St.tick (by assumption)))⟩
instance vecLe (x0 x1 x2 x3 x4 x5 x6 y0 y1 y2 y3 y4 y5 y6 : Int) : Pure0 PR F_vec_Le [.agg #[.int .i64 x0, .int .i64 x1, .int .i64 x2, .int .i64 x3, .int .i64 x4, .int .i64 x5, .int .i64 x6], .agg #[.int .i64 y0, .int .i64 y1, .int .i64 y2, .int .i64 y3, .int .i64 y4, .int .i64 y5, .int .i64 y6]] (.bool (leV ⟨x0, x1, x2, x3, x4, x5, x6⟩ ⟨y0, y1, y2, y3, y4, y5, y6⟩)) :=
  ⟨fun W => vecLe_run ⟨x0, x1, x2, x3, x4, x5, x6⟩ ⟨y0, y1, y2, y3, y4, y5, y6⟩ W⟩
theorem vecMerge {a b : P7 Int} {k : Value → World → Prop} (h : St W0 L W) (hk : ∀ W', St W0 L W' → k (.agg #[.int .i64 (vmerge a b).x0, .int .i64 (vmerge a b).x1, .int .i64 (vmerge a b).x2, .int .i64 (vmerge a b).x3, .int .i64 (vmerge a b).x4, .int .i64 (vmerge a b).x5, .int .i64 (vmerge a b).x6]) W') : callK PR F_vec_Merge [.agg #[.int .i64 a.x0, .int .i64 a.x1, .int .i64 a.x2, .int .i64 a.x3, .int .i64 a.x4, .int .i64 a.x5, .int .i64 a.x6], .agg #[.int .i64 b.x0, .int .i64 b.x1, .int .i64 b.x2, .int .i64 b.x3, .int .i64 b.x4, .int .i64 b.x5, .int .i64 b.x6]] k W := by
  apply S.vec_Merge.call
  unfold S.vec_Merge.body
  refine bxa h fun p W1 h => ?_
  refine bxa h fun q W1 h => ?_
  refine al h fun r W1 h => ?_
  refine joinK_i ?_
  refine loop_c (σ := P7 Int) 7 (fun i _ => [.pointer (some ⟨p, 0, none⟩), .pointer (some ⟨q, 0, none⟩), .pointer (some ⟨r, 0, none⟩), .int .i64 i])
    (fun i s W1 => (∀ j, j < 7 → s.get j = if j < i then imax (a.get j) (b.get j) else a.get j) ∧ St W0 (cells r [.int .i64 (P7.all 0).x0, .int .i64 (P7.all 0).x1, .int .i64 (P7.all 0).x2, .int .i64 (P7.all 0).x3, .int .i64 (P7.all 0).x4, .int .i64 (P7.all 0).x5, .int .i64 (P7.all 0).x6] T_vec_Vec :: cells q [.int .i64 b.x0, .int .i64 b.x1, .int .i64 b.x2, .int .i64 b.x3, .int .i64 b.x4, .int .i64 b.x5, .int .i64 b.x6] T_vec_Vec :: cells p [.int .i64 s.x0, .int .i64 s.x1, .int .i64 s.x2, .int .i64 s.x3, .int .i64 s.x4, .int .i64 s.x5, .int .i64 s.x6] T_vec_Vec :: L) W1)
    a rfl ⟨fun j h => by simp, h⟩ ?_
  clear h
  rintro K i s W2 hi ⟨hs, h⟩ hK
  simp -implicitDefEqProofs only [EN, lsub, lget, stL, beq_self_eq_true, ne_eq, if_true, if_false, List.cons_append, List.nil_append, Option.isNone_some, Option.isNone_none]
  unfold S.vec_Merge.l1
  have ew : IntKind.i64.wrap ((i : Int) + 1) = ((i + 1 : Nat) : Int) := by rw [i64w]; omega
  by_cases hlt : i < 7
  · have hK' : ∀ W', St W0 (cells r [.int .i64 (P7.all 0).x0, .int .i64 (P7.all 0).x1, .int .i64 (P7.all 0).x2, .int .i64 (P7.all 0).x3, .int .i64 (P7.all 0).x4, .int .i64 (P7.all 0).x5, .int .i64 (P7.all 0).x6] T_vec_Vec :: cells q [.int .i64 b.x0, .int .i64 b.x1, .int .i64 b.x2, .int .i64 b.x3, .int .i64 b.x4, .int .i64 b.x5, .int .i64 b.x6] T_vec_Vec :: cells p [.int .i64 (s.set i (imax (s.get i) (b.get i))).x0, .int .i64 (s.set i (imax (s.get i) (b.get i))).x1, .int .i64 (s.set i (imax (s.get i) (b.get i))).x2, .int .i64 (s.set i (imax (s.get i) (b.get i))).x3, .int .i64 (s.set i (imax (s.get i) (b.get i))).x4, .int .i64 (s.set i (imax (s.get i) (b.get i))).x5, .int .i64 (s.set i (imax (s.get i) (b.get i))).x6] T_vec_Vec :: L) W' → K [.pointer (some ⟨p, 0, none⟩), .pointer (some ⟨q, 0, none⟩), .pointer (some ⟨r, 0, none⟩), .int .i64 ((i + 1 : Nat) : Int)] W' :=
      fun W' h => hK _ W' hlt ⟨fun j hj => by
        rw [P7.get_set _ _ _ _ hj]
        by_cases hji : j = i
        · subst hji; rw [if_pos rfl, if_pos (by omega), hs j hj, if_neg (by omega)]
        · rw [if_neg hji, hs j hj]
          by_cases h1 : j < i
          · rw [if_pos h1, if_pos (by omega)]
          · rw [if_neg h1, if_neg (by omega)], h⟩
    clear hK hs
    have ia : ∀ z, idxA 7 1 (.pointer (some ⟨z, 0, none⟩)) (.int .i64 (i : Int)) = some (.pointer (some ⟨z, i, none⟩)) := fun z => idxA7 hlt
    have e1 : decide ((i : Int) < 7) = true := decide_eq_true (by omega)
    rcases P7.cases7 hlt with rfl | rfl | rfl | rfl | rfl | rfl | rfl
    all_goals
      (repeat (first | (first | (with_reducible (first | refine w1 fun _ _ => ?_ | refine w3 fun _ _ _ => ?_ | refine w4 fun _ _ _ => ?_ | refine w11 fun _ _ _ => ?_ | refine stb_n ?_)) | ((with_reducible refine w2 ?_); try simp -implicitDefEqProofs only [EN, lsub, lget, stL, beq_self_eq_true, ne_eq, if_true, if_false, List.cons_append, List.nil_append, Option.isNone_some, Option.isNone_none, e1, ia, max2i, ew]; intro _ _) | ((with_reducible (first | refine w5 ?_ ?_ | refine w6 ?_ ?_ | refine w7 ?_ ?_)); simp; refine ⟨_, rfl, ?_⟩) | ((with_reducible (first | refine w8 ?_ ?_ ?_ | refine w9 ?_ ?_ ?_ | refine w10 ?_ ?_ ?_)); exact rfl; simp) | ((with_reducible refine w12 ?_ ?_ ?_ fun _ _ => ?_); simp; simp; simp [oneC]) | ((with_reducible (first | refine eqs ?_ | refine nes ?_)); refine ⟨_, rfl, ?_⟩) | ((refine okF_i (bldP_eq rfl) ?_); try simp only [BLS, List.take_succ_cons, List.take_zero, List.drop_succ_cons, List.drop_zero, List.cons_append, List.nil_append, Nat.reduceAdd])) | simp -implicitDefEqProofs only [EN, lsub, lget, stL, beq_self_eq_true, ne_eq, if_true, if_false, List.cons_append, List.nil_append, Option.isNone_some, Option.isNone_none, e1, ia, max2i, ew]))
      exact hK' _ (by first | assumption | exact St.tick (by assumption) | exact St.tick (St.tick (by assumption)))
  · have e1 : decide ((i : Int) < 7) = false := decide_eq_false (by omega)
    (repeat (first | (first | (with_reducible (first | refine w1 fun _ _ => ?_ | refine w3 fun _ _ _ => ?_ | refine w4 fun _ _ _ => ?_ | refine w11 fun _ _ _ => ?_ | refine stb_n ?_)) | ((with_reducible refine w2 ?_); try simp -implicitDefEqProofs only [EN, lsub, lget, stL, beq_self_eq_true, ne_eq, if_true, if_false, List.cons_append, List.nil_append, Option.isNone_some, Option.isNone_none, e1]; intro _ _) | ((with_reducible (first | refine w5 ?_ ?_ | refine w6 ?_ ?_ | refine w7 ?_ ?_)); simp; refine ⟨_, rfl, ?_⟩) | ((with_reducible (first | refine w8 ?_ ?_ ?_ | refine w9 ?_ ?_ ?_ | refine w10 ?_ ?_ ?_)); exact rfl; simp) | ((with_reducible refine w12 ?_ ?_ ?_ fun _ _ => ?_); simp; simp; simp [oneC]) | ((with_reducible (first | refine eqs ?_ | refine nes ?_)); refine ⟨_, rfl, ?_⟩) | ((refine okF_i (bldP_eq rfl) ?_); try simp only [BLS, List.take_succ_cons, List.take_zero, List.drop_succ_cons, List.drop_zero, List.cons_append, List.nil_append, Nat.reduceAdd])) | simp -implicitDefEqProofs only [EN, lsub, lget, stL, beq_self_eq_true, ne_eq, if_true, if_false, List.cons_append, List.nil_append, Option.isNone_some, Option.isNone_none, e1]))
    unfold S.vec_Merge.j1
    (repeat (first | (first | (with_reducible (first | refine w1 fun _ _ => ?_ | refine w3 fun _ _ _ => ?_ | refine w4 fun _ _ _ => ?_ | refine w11 fun _ _ _ => ?_ | refine stb_n ?_)) | ((with_reducible refine w2 ?_); try simp -implicitDefEqProofs only [EN, lsub, lget, stL, beq_self_eq_true, ne_eq, if_true, if_false, List.cons_append, List.nil_append, Option.isNone_some, Option.isNone_none]; intro _ _) | ((with_reducible (first | refine w5 ?_ ?_ | refine w6 ?_ ?_ | refine w7 ?_ ?_)); simp; refine ⟨_, rfl, ?_⟩) | ((with_reducible (first | refine w8 ?_ ?_ ?_ | refine w9 ?_ ?_ ?_ | refine w10 ?_ ?_ ?_)); exact rfl; simp) | ((with_reducible refine w12 ?_ ?_ ?_ fun _ _ => ?_); simp; simp; simp [oneC]) | ((with_reducible (first | refine eqs ?_ | refine nes ?_)); refine ⟨_, rfl, ?_⟩) | ((refine okF_i (bldP_eq rfl) ?_); try simp only [BLS, List.take_succ_cons, List.take_zero, List.drop_succ_cons, List.drop_zero, List.cons_append, List.nil_append, Nat.reduceAdd])) | simp -implicitDefEqProofs only [EN, lsub, lget, stL, beq_self_eq_true, ne_eq, if_true, if_false, List.cons_append, List.nil_append, Option.isNone_some, Option.isNone_none]))
    have hi7 : i = 7 := by omega
    subst hi7
    have : s = vmerge a b := P7.ext7 fun j hj => by rw [hs j hj, if_pos hj, vmerge, P7.get_zip]
    rw [this] at *
    exact hk _ (St.wk (by first | assumption | exact St.tick (by assumption) | exact St.tick (St.tick (by assumption))))
end
end Go.Proofs.Ytmojfpaagokckaa
namespace Go.Eng
set_option linter.unusedVariables false
set_option linter.unusedSimpArgs false
open Go Go.RowKit Go.Sort Go.Proofs
section
variable {P : Program} {W0 W W' : World} {L L' : List Asn} {e : TypeId}
/-- what a call comes to that keeps all and makes what it makes -/
theorem St.grown (h : St W [] W') : ∃ q os, W' = grow (W.drewN q) os := by
  obtain ⟨⟨⟨h1, h2, h3, h4, h5⟩, h6⟩, _⟩ := h
  refine ⟨W'.drawn - W.drawn, W'.heap.extract W.heap.size W'.heap.size, ?_⟩
  obtain ⟨hp, tp, dr, os, ou⟩ := W'
  simp only at h1 h2 h3 h4 h5 h6
  subst h1 h2 h3
  simp only [grow, World.drewN, World.mk.injEq, true_and, and_true]
  refine ⟨?_, by omega⟩
  apply Array.ext_getElem?
  intro i
  by_cases hi : i < W.heap.size
  · rw [h5 i hi, Array.getElem?_append_left hi]
  · rw [Array.getElem?_append_right (by omega), Array.getElem?_extract]
    by_cases hj : i < hp.size
    · rw [if_pos (by omega)]; congr 1; omega
    · rw [if_neg (by omega), Array.getElem?_eq_none (by omega)]
theorem St.more (h : St W0 L W) (os : Array Obj) : St W0 L (grow W os) := by
  obtain ⟨hb, p, hs, ho⟩ := h
  have hk : ∀ k, k < W.heap.size → (grow W os).heap[k]? = W.heap[k]? := fun k hk => by
    show (W.heap ++ os)[k]? = _
    rw [Array.getElem?_append_left hk]
  refine ⟨hb.trans ⟨⟨rfl, rfl, rfl, by simp, fun k hk' => hk k (Nat.lt_of_lt_of_le hk' hb.size)⟩, Nat.le_refl _⟩, p, hs, fun b o hbo => ⟨(ho b o hbo).1, ?_⟩⟩
  rw [hk b (Array.getElem?_eq_some_iff.1 (ho b o hbo).2).1]
  exact (ho b o hbo).2
theorem St.ahead (h : St W0 L W) (n : Nat) : St W0 L (Sort.ahead W n) :=
  ⟨h.bel.trans ⟨⟨rfl, rfl, rfl, Nat.le_refl _, fun _ _ => rfl⟩, Nat.le_add_right _ _⟩, h.own⟩
theorem putCells_id {F : List Value} {cur : List Value} {o : Nat} (h : o + F.length ≤ cur.length) : putCells id o F.toArray cur.toArray = (cur.take o ++ F ++ cur.drop (o + F.length)).toArray := by
  apply Array.ext_getElem?
  intro i
  simp only [putCells, Array.getElem?_mapIdx, List.getElem?_toArray, List.size_toArray, id_eq]
  by_cases h1 : i < o
  · rw [List.append_assoc, List.getElem?_append_left (by simp; omega), List.getElem?_take_of_lt h1]
    rw [List.getElem?_eq_getElem (by omega)]
    simp only [Option.map_some]
    rw [if_neg (by omega)]
  · by_cases h2 : i < o + F.length
    · rw [List.getElem?_append_left (by simp; omega), List.getElem?_append_right (by simp; omega)]
      simp only [List.length_take]
      rw [Nat.min_eq_left (by omega), List.getElem?_eq_getElem (by omega), List.getElem?_eq_getElem (by omega)]
      simp only [Option.map_some]
      rw [if_pos (by omega), getElem!_pos F.toArray _ (by simp; omega)]
      simp
    · rw [List.getElem?_append_right (by simp; omega), List.getElem?_drop]
      simp only [List.length_append, List.length_take]
      rw [Nat.min_eq_left (by omega)]
      rw [show o + F.length + (i - (o + F.length)) = i by omega]
      cases hc : cur[i]? with
      | none => rfl
      | some v => simp only [Option.map_some]; rw [if_neg (by omega)]
theorem St.putRow {g o n : Nat} {cur F : List Value} {os : Array Obj} (h : St W0 (Eng.cells g cur e :: L) W) (hF : o + F.length ≤ cur.length) :
    St W0 (Eng.cells g (cur.take o ++ F ++ cur.drop (o + F.length)) e :: L) (grow (Sort.putRow id (Sort.ahead W n) g o F.toArray) os) := by
  refine St.more ?_ os
  obtain ⟨fr, hf, hb⟩ := (h.ahead n).cells
  have hbl := hb.blk.2
  have hlt : g < W.heap.size := (Array.getElem?_eq_some_iff.1 hbl).1
  have he : Sort.putRow id (Sort.ahead W n) g o F.toArray = { (Sort.ahead W n) with heap := (Sort.ahead W n).heap.setIfInBounds g (.cells (cur.take o ++ F ++ cur.drop (o + F.length)).toArray e fr) } := by
    unfold Sort.putRow mapBlock
    congr 1
    apply Array.ext_getElem?
    intro j
    rw [Array.getElem?_modify, Array.getElem?_setIfInBounds]
    by_cases hj : g = j
    · subst hj
      rw [if_pos rfl, if_pos rfl, if_pos (show g < (Sort.ahead W n).heap.size from hlt), hbl]
      simp only [Option.map_some, onCells, putCells_id hF]
    · rw [if_neg hj, if_neg hj]
  rw [he]
  refine (hb.setBlk _).weak fun p hp => ⟨fr, ?_, hp⟩
  intro j hj
  refine hf j ?_
  simp at hj
  omega
theorem cells_hold {g o : Nat} {cur : List Value} (h : St W0 (cells g cur e :: L) W) (n : Nat) (hn : o + n ≤ cur.length) : ∀ j, j < n → W.cell? ⟨g, o + j, none⟩ = cur[o + j]? ∧ W.frozen? ⟨g, o + j, none⟩ = false := fun j hj =>
  St.cellOf (L' := L) (b := g) (cs := cur) (T := e) h (o + j) (by omega)
end
section
variable {P : Program} {ρ : Go.Shelf.Ren} {W0 W W' : World} {L L' : List Asn} {e : TypeId} {α : Type} [Inhabited α] {A : Ly α}
theorem flatK_rows {k : Nat} (hk : A.sz = k) (l : List α) : (flatK A.row k l.toArray).toList = A.rows l := by
  subst hk
  refine List.ext_getElem? fun t => ?_
  by_cases ht : t < l.length * A.sz
  · have h0 := get_flatK A.row A.sz l.toArray t (by simpa using ht)
    have hq : t / A.sz < l.length := Nat.div_lt_of_lt_mul (by rw [Nat.mul_comm]; exact ht)
    have hr : t % A.sz < A.sz := Nat.mod_lt _ A.pos
    have hs : t < (flatK A.row A.sz l.toArray).size := by simpa using ht
    rw [getElem!_pos _ t hs] at h0
    rw [Array.getElem?_toList, Array.getElem?_eq_getElem hs, h0]
    have e1 : (A.rows l)[t]? = (A.row l[t / A.sz])[t % A.sz]? := by
      rw [← Ly.rows_at hq, List.getElem?_take_of_lt hr, List.getElem?_drop, Nat.div_add_mod']
    rw [e1, getElem!_pos l.toArray _ (by simpa using hq), getElem!_pos _ _ (by rw [A.len]; exact hr), List.getElem?_eq_getElem (by rw [A.len]; exact hr)]
    simp
  · rw [List.getElem?_eq_none (by simp; omega), List.getElem?_eq_none (by rw [Ly.rows_len]; omega)]
/-- slices.SortFunc at structs, under a function value that parts any two -/
theorem sortFK (L6 : SlLaysF0.n6 P ρ) (aE : ∀ w, (isAgg (ρ.t 24)).run P w = .ok true w) (zE : ∀ w, (Go.sizeOf (ρ.t 24)).run P w = .ok A.sz w) (cf : α → α → Int) (hO : SWO (ltOf cf)) (hT : ∀ x y, (ltOf cf) x y = false → (ltOf cf) y x = false → x = y)
    (g : Nat) (cb : List Value) {a : Option Addr} {c : Nat} {l : List α} {k : Value → World → Prop} (eg : ∀ args w, (callFunc g args).run P w = .ok (.enter g args) w)
    (hc : ∀ x y W, callK P g (.agg (A.row x).toArray :: .agg (A.row y).toArray :: cb) (fun v W' => v = .int .i64 (cf x y) ∧ St W [] W') W)
    (h : St W0 L W) [ho : Own a L A e c l L'] (hl : l.length < 4611686018427387904) (hk : ∀ W', St W0 (arr A e a c (l.mergeSort fun x y => !(ltOf cf) y x) :: L') W' → k (.tuple #[]) W') : callK P (ρ.f 6) [.slice a l.length c, .func (.func g) #[] cb.toArray] k W := by
  have h := h.took (a := a)
  have hf := h.arrFacts
  by_cases ha : a = none
  · subst ha
    have hl0 : l = [] := List.eq_nil_of_length_eq_zero (by have := hf.2.2.1 rfl; omega)
    subst hl0
    refine (AnyF.slices_SortFunc_none L6 none c (.func (.func g) #[] cb.toArray) W).mono ?_
    rintro ed w' ⟨rfl, rfl⟩
    exact hk _ (by rw [List.mergeSort_nil]; exact h)
  · obtain ⟨b, o, cur, rfl, h1, h2, h3⟩ := h.arrCells ha
    have hle : l.length * A.sz ≤ c * A.sz := Nat.mul_le_mul_right _ hf.1
    have hcell := cells_hold (o := o) h3 (l.length * A.sz) (by omega)
    have hH : HoldsK A.row A.sz W b o l.toArray := by
      intro j hj
      have hj' : j < l.length * A.sz := by simpa using hj
      refine ⟨?_, (hcell j hj').2⟩
      rw [(hcell j hj').1, getElem!_pos _ j hj]
      have e1 := flatK_rows (A := A) rfl l
      have e2 : (flatK A.row A.sz l.toArray)[j] = (flatK A.row A.sz l.toArray).toList[j]'(by simpa using hj) := by simp
      rw [e2]
      have e3 : (A.rows l)[j]? = cur[o + j]? := by rw [← h2, List.getElem?_take_of_lt hj', List.getElem?_drop]
      rw [← e3, ← e1, List.getElem?_eq_getElem (by simpa using hj)]
      rfl
    have hblk : b < W.heap.size := by
      obtain ⟨fr, _, hb⟩ := h3.cells
      exact (Array.getElem?_eq_some_iff.1 hb.blk.2).1
    have hcmp : CmpLays P g cb.toArray A.row A.sz cf b o l.toArray.size W := by
      intro m os dk _ x y
      have := hc x y (sortWorldK A.row A.sz W b o m dk os)
      refine (show Calls P g _ _ _ from ?_)
      have h5 : Calls P g (.agg (A.row x).toArray :: .agg (A.row y).toArray :: cb).toArray (sortWorldK A.row A.sz W b o m dk os) _ := this
      have e5 : (#[.agg (A.row x).toArray, .agg (A.row y).toArray] ++ cb.toArray : Array Value) = (.agg (A.row x).toArray :: .agg (A.row y).toArray :: cb).toArray := by simp
      rw [e5]
      refine h5.mono fun ed w' hq => ?_
      cases ed with
      | returned v => exact ⟨by rw [hq.1], hq.2.grown⟩
      | _ => exact hq.elim
    have hcon := AnyQ.slices_SortFunc_total L6 A.sz aE zE A.row A.len (fun x v hv => ?_) cf hO g cb.toArray b o c l.toArray W eg hcmp hH hblk (by simpa using hl) hT
    · have e0 : (#[.slice (some ⟨b, o, none⟩) l.toArray.size c, .func (.func g) #[] cb.toArray] : Array Value) = [.slice (some ⟨b, o, none⟩) l.length c, .func (.func g) #[] cb.toArray].toArray := by simp
      rw [e0] at hcon
      refine hcon.mono ?_
      rintro ed w' ⟨rfl, n, os, rfl⟩
      have hlen : (l.mergeSort fun x y => !(ltOf cf) y x).length = l.length := List.length_mergeSort _
      refine hk _ ?_
      unfold sortWorldK putRowK
      have e6 : flatK A.row A.sz (l.mergeSort fun x y => !(ltOf cf) y x).toArray = (A.rows (l.mergeSort fun x y => !(ltOf cf) y x)).toArray := by
        rw [← flatK_rows (A := A) rfl]
      rw [e6]
      have hrl : (A.rows (l.mergeSort fun x y => !(ltOf cf) y x)).length = l.length * A.sz := by rw [Ly.rows_len, hlen]
      refine (St.putRow (n := n) (os := os) h3 (F := A.rows (l.mergeSort fun x y => !(ltOf cf) y x)) (by omega)).ent (arr_of_cells (by omega) hf.2.1 ?_ ?_)
      · simp only [List.length_append, List.length_take, List.length_drop]; omega
      · rw [List.append_assoc, List.drop_append_of_le_length (by simp; omega), List.drop_take, Nat.sub_self, List.take_zero, List.nil_append, hlen, ← hrl, List.take_left]
    · have := List.all_eq_true.1 (A.one x) v hv
      cases v <;> first | rfl | (simp [oneC] at this)
end
end Go.Eng
namespace Go.Proofs.Ytmojfpaagokckaa
set_option linter.unusedVariables false
set_option linter.unusedSimpArgs false
open Go Go.Eng

abbrev Bs := List UInt8
abbrev sv (x : Bs) : Value := .string ⟨x.toArray⟩

/-! ### sorted rows -/
theorem sort_perm {α : Type} {le : α → α → Bool} (ht : ∀ a b c, le a b = true → le b c = true → le a c = true) (hto : ∀ a b, (le a b || le b a) = true) (ha : ∀ a b, le a b = true → le b a = true → a = b)
    {l l' : List α} (h : l.Perm l') : l.mergeSort le = l'.mergeSort le :=
  List.Perm.eq_of_pairwise (le := fun a b => le a b = true) (fun a b _ _ h1 h2 => ha a b h1 h2) (List.pairwise_mergeSort ht hto l) (List.pairwise_mergeSort ht hto l') (((List.mergeSort_perm l le).trans h).trans (List.mergeSort_perm l' le).symm)
def leB (a b : Bs) : Bool := decide (a ≤ b)
theorem leB_trans (a b c : Bs) (h : leB a b = true) (h' : leB b c = true) : leB a c = true := by
  unfold leB at *; simp only [decide_eq_true_eq] at *; exact List.le_trans h h'
theorem leB_total (a b : Bs) : (leB a b || leB b a) = true := by
  unfold leB; simp only [Bool.or_eq_true, decide_eq_true_eq]; exact List.le_total a b
theorem leB_anti (a b : Bs) (h : leB a b = true) (h' : leB b a = true) : a = b := by
  unfold leB at *; simp only [decide_eq_true_eq] at *; exact List.le_antisymm h h'
def dlt (a b : Dot) : Bool := decide (a.rep < b.rep ∨ (a.rep = b.rep ∧ a.n < b.n))
def leD (a b : Dot) : Bool := !dlt b a
theorem leD_iff (a b : Dot) : leD a b = true ↔ (a.rep < b.rep ∨ (a.rep = b.rep ∧ a.n ≤ b.n)) := by
  unfold leD dlt
  rw [Bool.not_eq_true', decide_eq_false_iff_not]
  omega
theorem leD_trans (a b c : Dot) (h : leD a b = true) (h' : leD b c = true) : leD a c = true := by rw [leD_iff] at *; omega
theorem leD_total (a b : Dot) : (leD a b || leD b a) = true := by rw [Bool.or_eq_true, leD_iff, leD_iff]; omega
theorem leD_anti (a b : Dot) (h : leD a b = true) (h' : leD b a = true) : a = b := by
  rw [leD_iff] at *
  cases a; cases b
  simp only [Dot.mk.injEq] at *
  omega
theorem lt_cmp (a b : Dot) : Proofs.ltOf Dot.cmp a b = dlt a b := by
  unfold Proofs.ltOf Dot.cmp dlt cmpI
  rw [decide_eq_decide]
  split <;> split <;> (try split) <;> (try split) <;> omega
theorem swoD : Sort.SWO (Proofs.ltOf Dot.cmp) where
  irrefl x := by rw [lt_cmp, dlt, decide_eq_false_iff_not]; omega
  trans x y z h1 h2 := by rw [lt_cmp, dlt, decide_eq_true_eq] at *; omega
  ntrans x y z h1 h2 := by rw [lt_cmp, dlt, decide_eq_false_iff_not] at *; omega
theorem partD (x y : Dot) (h1 : Proofs.ltOf Dot.cmp x y = false) (h2 : Proofs.ltOf Dot.cmp y x = false) : x = y := by
  rw [lt_cmp] at h1 h2
  exact leD_anti x y (by rw [leD, h2]; rfl) (by rw [leD, h1]; rfl)
def sortD (l : List Dot) : List Dot := l.mergeSort leD
def sortB (l : List Bs) : List Bs := l.mergeSort leB
theorem sortD_cmp (l : List Dot) : (l.mergeSort fun x y => !(Proofs.ltOf Dot.cmp) y x) = sortD l := by
  unfold sortD; congr 1; funext x y; rw [lt_cmp, leD]
theorem sortD_perm {l l' : List Dot} (h : l.Perm l') : sortD l = sortD l' := sort_perm leD_trans leD_total leD_anti h
theorem sortB_perm {l l' : List Bs} (h : l.Perm l') : sortB l = sortB l' := sort_perm leB_trans leB_total leB_anti h
/-- of neighbours that are alike the first -/
def cpt {α : Type} [DecidableEq α] : List α → List α
  | [] => []
  | [a] => [a]
  | a :: b :: l => if a = b then cpt (b :: l) else a :: cpt (b :: l)

/-! ### a set -/
structure OS where
  added : List (Dot × Bs)
  gone : List (Bs × P7 Int)
def OS.gv (s : OS) (x : Bs) : P7 Int := (mget s.gone x).getD (P7.all 0)
def OS.live (s : OS) (d : Dot) (x : Bs) : Bool := !hasV (s.gv x) d
def OS.new : OS := ⟨[], []⟩
def OS.add (s : OS) (d : Dot) (x : Bs) : OS × Int :=
  if d.ok = false ∨ 100 < x.length then (s, 1)
  else if (mget s.added d).isSome = true ∧ mget s.added d ≠ some x then (s, 5)
  else ({ s with added := mput s.added d x }, 0)
def OS.remove (s : OS) (x : Bs) (v : P7 Int) : OS × Int :=
  if 100 < x.length ∨ goodV v = false then (s, 1) else ({ s with gone := mput s.gone x (vmerge (s.gv x) v) }, 0)
def OS.lives (s : OS) : List (Dot × Bs) := s.added.filter fun p => s.live p.1 p.2
def OS.all (s : OS) : List Bs := cpt (sortB (s.lives.map (·.2)))
def OS.dots (s : OS) (x : Bs) : List Dot := sortD ((s.added.filter fun p => decide (x = p.2) && s.live p.1 x).map (·.1))
def OS.has (s : OS) (x : Bs) : Bool := decide (0 < (s.dots x).length)
def putD (b : Bs) (d : Dot) : Bs := b ++ encN d.rep ++ encN d.n
def OS.putX (s : OS) (b : Bs) (x : Bs) : Bs := (s.dots x).foldl putD (b ++ encN x.length ++ x ++ encN (s.dots x).length)
def OS.put (s : OS) : Bs := s.all.foldl s.putX (encN s.all.length)
def OS.drop (s : OS) (st : P7 Int) : OS :=
  ⟨s.added.filter fun p => !(!s.live p.1 p.2 && hasV st p.1), s.gone.filter fun p => !leV p.2 st⟩
def sameO (a b : OS) : Bool := decide (a.all = b.all) && a.all.all fun x => decide (a.dots x = b.dots x)
/-- what a set holds at all -/
structure OS.ok (s : OS) : Prop where
  add : ∀ p ∈ s.added, p.1.ok = true ∧ p.2.length ≤ 100
theorem mem_mput {κ β : Type} [DecidableEq κ] {l : List (κ × β)} {k : κ} {v : β} {p : κ × β} (h : p ∈ mput l k v) : p = (k, v) ∨ p ∈ l := by
  induction l with
  | nil => simp [mput] at h; exact .inl h
  | cons q l ih =>
    obtain ⟨a, b⟩ := q
    by_cases hk : a = k
    · simp only [mput, if_pos hk] at h
      rcases List.mem_cons.1 h with h | h
      · exact .inl h
      · exact .inr (List.mem_cons_of_mem _ h)
    · simp only [mput, if_neg hk] at h
      rcases List.mem_cons.1 h with h | h
      · exact .inr (h ▸ List.mem_cons_self)
      · exact (ih h).imp id (List.mem_cons_of_mem _)
theorem OS.ok.new : OS.new.ok := ⟨fun p h => by cases h⟩
theorem OS.ok.addS {s : OS} (h : s.ok) (d : Dot) (x : Bs) : (s.add d x).1.ok := by
  unfold OS.add
  split
  · exact h
  · split
    · exact h
    · rename_i h1 _
      refine ⟨fun p hp => ?_⟩
      rcases mem_mput hp with rfl | hp
      · refine ⟨?_, by simp only; omega⟩
        cases hd : d.ok with
        | true => rfl
        | false => exact absurd (.inl hd) h1
      · exact h.add p hp
theorem OS.ok.removeS {s : OS} (h : s.ok) (x : Bs) (v : P7 Int) : (s.remove x v).1.ok := by
  unfold OS.remove
  split
  · exact h
  · exact ⟨h.add⟩
theorem OS.ok.dropS {s : OS} (h : s.ok) (st : P7 Int) : (s.drop st).ok := ⟨fun p hp => h.add p (List.mem_filter.1 hp).1⟩
theorem mput_len {κ β : Type} [DecidableEq κ] (l : List (κ × β)) (k : κ) (v : β) : (mput l k v).length ≤ l.length + 1 := by
  induction l with
  | nil => simp [mput]
  | cons q l ih =>
    obtain ⟨a, b⟩ := q
    by_cases hk : a = k
    · simp [mput, if_pos hk]
    · simp [mput, if_neg hk]; omega
theorem OS.add_len (s : OS) (d : Dot) (x : Bs) : (s.add d x).1.added.length ≤ s.added.length + 1 := by
  unfold OS.add
  split
  · simp
  · split
    · simp
    · exact mput_len _ _ _
theorem cpt_mem {α : Type} [DecidableEq α] : ∀ {l : List α} {x : α}, x ∈ cpt l ↔ x ∈ l
  | [], x => Iff.rfl
  | [a], x => Iff.rfl
  | a :: b :: l, x => by
    simp only [cpt]
    split
    · rename_i h
      subst h
      rw [cpt_mem]; simp
    · rw [List.mem_cons, cpt_mem]; simp
theorem cpt_len {α : Type} [DecidableEq α] : ∀ (l : List α), (cpt l).length ≤ l.length
  | [] => Nat.le_refl _
  | [a] => Nat.le_refl _
  | a :: b :: l => by
    have := cpt_len (b :: l)
    simp only [cpt]
    split
    · simp only [List.length_cons] at *; omega
    · simp only [List.length_cons] at *; omega
theorem OS.all_mem {s : OS} {x : Bs} : x ∈ s.all ↔ ∃ d, (d, x) ∈ s.added ∧ s.live d x = true := by
  unfold OS.all sortB OS.lives
  rw [cpt_mem, List.mem_mergeSort]
  constructor
  · intro h
    obtain ⟨p, hp, rfl⟩ := List.mem_map.1 h
    obtain ⟨h1, h2⟩ := List.mem_filter.1 hp
    exact ⟨p.1, h1, h2⟩
  · rintro ⟨d, h1, h2⟩
    exact List.mem_map.2 ⟨(d, x), List.mem_filter.2 ⟨h1, h2⟩, rfl⟩
theorem OS.dots_mem {s : OS} {x : Bs} {d : Dot} : d ∈ s.dots x ↔ (d, x) ∈ s.added ∧ s.live d x = true := by
  unfold OS.dots sortD
  rw [List.mem_mergeSort]
  constructor
  · intro h
    obtain ⟨p, hp, rfl⟩ := List.mem_map.1 h
    obtain ⟨h1, h2⟩ := List.mem_filter.1 hp
    simp only [Bool.and_eq_true, decide_eq_true_eq] at h2
    obtain ⟨rfl, h2⟩ := h2
    exact ⟨h1, h2⟩
  · rintro ⟨h1, h2⟩
    exact List.mem_map.2 ⟨(d, x), List.mem_filter.2 ⟨h1, by simp [h2]⟩, rfl⟩
theorem OS.all_len (s : OS) : s.all.length ≤ s.added.length := by
  unfold OS.all
  refine Nat.le_trans (cpt_len _) ?_
  unfold sortB OS.lives
  rw [List.length_mergeSort, List.length_map]
  exact List.length_filter_le _ _
theorem OS.dots_len (s : OS) (x : Bs) : (s.dots x).length ≤ s.added.length := by
  unfold OS.dots sortD
  rw [List.length_mergeSort, List.length_map]
  exact List.length_filter_le _ _
end Go.Proofs.Ytmojfpaagokckaa
namespace Go.Proofs.Ytmojfpaagokckaa
set_option linter.unusedVariables false
set_option linter.unusedSimpArgs false
open Go.Eng
/-! ### rostrum/orset.New (11) -/
def S.orset_New.body (R : Value → World → Prop) (W : World) : Prop :=
  efK PR (Instr.makeMap T_m_api_Dot_string none) (fun v1 W =>
  efK PR (Instr.makeMap T_m_string_vec_Vec none) (fun v2 W =>
  okF (bldP (fun i => ([(0, 1), (1, 1)] : List (Nat × Nat))[i]?) [.map none, .map none] [(0, v1), (1, v2)]) fun v3 =>
  efK PR (Instr.box T_orset_Set v3) (fun v4 W =>
  R v4 W) W) W) W
def S.orset_New.hint : Hint := (.two .nil (.two .nil .nil))
theorem S.orset_New.ok (R : Value → World → Prop) (W : World) : bodyK PR CB Try.f11 S.orset_New.hint [] R W = S.orset_New.body R  W := by kernel_rfl
theorem S.orset_New.fn : PR.funcs[F_orset_New]? = some Try.f11 := by kernel_rfl
theorem S.orset_New.call {R : Value → World → Prop} {W : World} (h : S.orset_New.body R  W) : callK PR F_orset_New [] R W :=
  callK_of_body (g := F_orset_New) (fn := Try.f11) (args := []) (R := R) (w := W) mixed CBok S.orset_New.fn S.orset_New.hint (by rw [S.orset_New.ok]; exact h)
/-! ### (*rostrum/orset.Set).Remove (12) -/
def S.orset_Set_Remove.body (R : Value → World → Prop) (v0 v1 v2 : Value) (W : World) : Prop :=
  efK PR (Instr.box T_vec_Vec v2) (fun v5 W =>
  okF (lenP .string v1) fun v8 =>
  okF (binP .gtr v8 (.int .i64 100)) fun v9 =>
  gdK (wantd v9 false) (fun k W => rdK PR (Instr.loadAt T_vec_Vec v5) k W) (fun v11 W =>
  gdK (wantd v9 false) (fun k W => callK PR F_vec_Good [v11] k W) (fun v12 W =>
  gdK (wantd v9 false) (fun k W => okF (unP .not v12) fun v => k v W) (fun v13 W =>
  okF (pickP v9 (.bool true) v13) fun v14 =>
  ifK v14 (
  R (.int .i64 1) W) (
  okF (nilP v0) fun v16 =>
  okF (addrF 1 v16) fun v17 =>
  rdK PR (Instr.loadAt T_m_string_vec_Vec v17) (fun v18 W =>
  okF (nilP v0) fun v21 =>
  okF (addrF 1 v21) fun v22 =>
  rdK PR (Instr.loadAt T_m_string_vec_Vec v22) (fun v23 W =>
  rdK PR (Instr.lookup T_m_string_vec_Vec v23 v1 false) (fun v25 W =>
  rdK PR (Instr.loadAt T_vec_Vec v5) (fun v26 W =>
  callK PR F_vec_Merge [v25, v26] (fun v27 W =>
  stb PR [(3, true, (Instr.loadAt T_m_string_vec_Vec v17), v18)] (fun W =>
  efK PR (Instr.mapUpdate T_m_string_vec_Vec v18 v1 v27) (fun _ W =>
  R (.int .i64 0) W) W) W) W) W) W) W) (tick W))) W) W) W) W
def S.orset_Set_Remove.hint : Hint := (.two .nil (.two (.two .nil (.two (.two .nil .nil) .nil)) (.two .nil (.two .nil .nil))))
theorem S.orset_Set_Remove.ok (R : Value → World → Prop) (v0 v1 v2 : Value) (W : World) : bodyK PR CB Try.f12 S.orset_Set_Remove.hint [v0, v1, v2] R W = S.orset_Set_Remove.body R v0 v1 v2 W := by kernel_rfl
theorem S.orset_Set_Remove.fn : PR.funcs[F_orset_Set_Remove]? = some Try.f12 := by kernel_rfl
theorem S.orset_Set_Remove.call {R : Value → World → Prop} {v0 v1 v2 : Value} {W : World} (h : S.orset_Set_Remove.body R v0 v1 v2 W) : callK PR F_orset_Set_Remove [v0, v1, v2] R W :=
  callK_of_body (g := F_orset_Set_Remove) (fn := Try.f12) (args := [v0, v1, v2]) (R := R) (w := W) mixed CBok S.orset_Set_Remove.fn S.orset_Set_Remove.hint (by rw [S.orset_Set_Remove.ok]; exact h)
/-! ### (*rostrum/orset.Set).Add (13) -/
def S.orset_Set_Add.body (R : Value → World → Prop) (v0 v1 v2 : Value) (W : World) : Prop :=
  efK PR (Instr.box T_api_Dot v1) (fun v4 W =>
  rdK PR (Instr.loadAt T_api_Dot v4) (fun v9 W =>
  callK PR F_vec_Dot [v9] (fun v10 W =>
  okF (unP .not v10) fun v11 =>
  gdK (wantd v11 false) (fun k W => k v2 W) (fun v13 W =>
  gdK (wantd v11 false) (fun k W => okF (lenP .string v13) fun v => k v W) (fun v14 W =>
  gdK (wantd v11 false) (fun k W => okF (binP .gtr v14 (.int .i64 100)) fun v => k v W) (fun v15 W =>
  okF (pickP v11 (.bool true) v15) fun v16 =>
  ifK v16 (
  R (.int .i64 1) W) (
  okF (nilP v0) fun v19 =>
  okF (addrF 0 v19) fun v20 =>
  rdK PR (Instr.loadAt T_m_api_Dot_string v20) (fun v21 W =>
  rdK PR (Instr.loadAt T_api_Dot v4) (fun v22 W =>
  rdK PR (Instr.lookup T_m_api_Dot_string v21 v22 true) (fun v23 W =>
  okF (extP 0 v23) fun v24 =>
  okF (extP 1 v23) fun v25 =>
  gdK (wantd v25 true) (fun k W => k v24 W) (fun v28 W =>
  gdK (wantd v25 true) (fun k W => k v2 W) (fun v29 W =>
  gdK (wantd v25 true) (fun k W => okF (binP .neq v28 v29) fun v => k v W) (fun v30 W =>
  okF (pickP v25 v30 (.bool false)) fun v31 =>
  ifK v31 (
  R (.int .i64 5) W) (
  okF (nilP v0) fun v33 =>
  okF (addrF 0 v33) fun v34 =>
  rdK PR (Instr.loadAt T_m_api_Dot_string v34) (fun v35 W =>
  rdK PR (Instr.loadAt T_api_Dot v4) (fun v36 W =>
  efK PR (Instr.mapUpdate T_m_api_Dot_string v35 v36 v2) (fun _ W =>
  R (.int .i64 0) W) W) W) (tick W))) W) W) W) W) W) (tick W))) W) W) W) W) W) W
def S.orset_Set_Add.hint : Hint := (.two .nil (.two (.two .nil (.two (.two .nil .nil) .nil)) (.two (.two .nil (.two .nil (.two (.two .nil .nil) .nil))) (.two .nil (.two .nil .nil)))))
theorem S.orset_Set_Add.ok (R : Value → World → Prop) (v0 v1 v2 : Value) (W : World) : bodyK PR CB Try.f13 S.orset_Set_Add.hint [v0, v1, v2] R W = S.orset_Set_Add.body R v0 v1 v2 W := by kernel_rfl
theorem S.orset_Set_Add.fn : PR.funcs[F_orset_Set_Add]? = some Try.f13 := by kernel_rfl
theorem S.orset_Set_Add.call {R : Value → World → Prop} {v0 v1 v2 : Value} {W : World} (h : S.orset_Set_Add.body R v0 v1 v2 W) : callK PR F_orset_Set_Add [v0, v1, v2] R W :=
  callK_of_body (g := F_orset_Set_Add) (fn := Try.f13) (args := [v0, v1, v2]) (R := R) (w := W) mixed CBok S.orset_Set_Add.fn S.orset_Set_Add.hint (by rw [S.orset_Set_Add.ok]; exact h)
/-! ### (*rostrum/orset.Set).Has (15) -/
def S.orset_Set_Has.body (R : Value → World → Prop) (v0 v1 : Value) (W : World) : Prop :=
  callK PR F_orset_Set_Dots [v0, v1] (fun v7 W =>
  okF (lenP (.slice T_api_Dot) v7) fun v8 =>
  okF (binP .gtr v8 (.int .i64 0)) fun v9 =>
  R v9 W) W
def S.orset_Set_Has.hint : Hint := (.two .nil (.two .nil .nil))
theorem S.orset_Set_Has.ok (R : Value → World → Prop) (v0 v1 : Value) (W : World) : bodyK PR CB Try.f15 S.orset_Set_Has.hint [v0, v1] R W = S.orset_Set_Has.body R v0 v1 W := by kernel_rfl
theorem S.orset_Set_Has.fn : PR.funcs[F_orset_Set_Has]? = some Try.f15 := by kernel_rfl
theorem S.orset_Set_Has.call {R : Value → World → Prop} {v0 v1 : Value} {W : World} (h : S.orset_Set_Has.body R v0 v1 W) : callK PR F_orset_Set_Has [v0, v1] R W :=
  callK_of_body (g := F_orset_Set_Has) (fn := Try.f15) (args := [v0, v1]) (R := R) (w := W) mixed CBok S.orset_Set_Has.fn S.orset_Set_Has.hint (by rw [S.orset_Set_Has.ok]; exact h)
/-! ### (*rostrum/orset.Set).All (19) -/
def S.orset_Set_All.j1 (R : Value → World → Prop) (x3 : Value) (W : World) : Prop :=
  callK PR F_slices_Sort_string_string [x3] (fun v25 W =>
  callK PR F_slices_Compact_string_string [x3] (fun v27 W =>
  R v27 W) W) W
def S.orset_Set_All.l1 (J1 : List Value → World → Prop) (K1 : List Value → World → Prop) (x0 x3 x10 : Value) (W : World) : Prop :=
  efK PR (Instr.next x10 false T_t0) (fun v11 W =>
  okF (extP 0 v11) fun v12 =>
  ifK v12 (
  efK PR (Instr.entry x10) (fun v13 W =>
  okF (extP 0 v13) fun v14 =>
  okF (extP 1 v13) fun v15 =>
  efK PR (Instr.alloc T_api_Dot true (.tuple #[])) (fun v4 W =>
  efK PR (Instr.storeAt T_api_Dot v4 v14) (fun _ W =>
  rdK PR (Instr.loadAt T_api_Dot v4) (fun v17 W =>
  callK PR F_orset_Set_live [x0, v17, v15] (fun v19 W =>
  ifK v19 (
  efK PR (Instr.buildSlice T_s_string 1 #[(0, v15)]) (fun v22 W =>
  efK PR (Builtin.append_ #[T_s_string, T_s_string] T_s_string #[x3, v22]) (fun v23 W =>
  K1 [x0, v23, x10] W) W) W) (
  K1 [x0, x3, x10] W)) W) W) W) W) W) (
  J1 [x3] W)) W
def S.orset_Set_All.body (R : Value → World → Prop) (v0 : Value) (W : World) : Prop :=
  joinK (fun s W => S.orset_Set_All.j1 R (nthv s 0) W) (fun J1 =>
  okF (nilP v0) fun v7 =>
  okF (addrF 0 v7) fun v8 =>
  rdK PR (Instr.loadAt T_m_api_Dot_string v8) (fun v9 W =>
  efK PR (Instr.range T_m_api_Dot_string v9) (fun v10 W =>
  loopK (fun K1 s W => S.orset_Set_All.l1 J1 K1 (nthv s 0) (nthv s 1) (nthv s 2) W) [v0, (.slice none 0 0), v10] W) W) W)
def S.orset_Set_All.hint : Hint := (.two .nil (.two .nil (.at [3] (.two .nil (.at [0, 3, 10] (.two .nil (.two (.two .nil .nil) (.two .nil (.two .nil (.two .nil .nil))))) .nil)) (.two .nil (.two .nil .nil)))))
theorem S.orset_Set_All.ok (R : Value → World → Prop) (v0 : Value) (W : World) : bodyK PR CB Try.f19 S.orset_Set_All.hint [v0] R W = S.orset_Set_All.body R v0 W := by kernel_rfl
theorem S.orset_Set_All.fn : PR.funcs[F_orset_Set_All]? = some Try.f19 := by kernel_rfl
theorem S.orset_Set_All.call {R : Value → World → Prop} {v0 : Value} {W : World} (h : S.orset_Set_All.body R v0 W) : callK PR F_orset_Set_All [v0] R W :=
  callK_of_body (g := F_orset_Set_All) (fn := Try.f19) (args := [v0]) (R := R) (w := W) mixed CBok S.orset_Set_All.fn S.orset_Set_All.hint (by rw [S.orset_Set_All.ok]; exact h)
/-! ### (*rostrum/orset.Set).Dots (22) -/
def S.orset_Set_Dots.j1 (R : Value → World → Prop) (x5 : Value) (W : World) : Prop :=
  callK PR F_slices_SortFunc_api_Dot_api_Dot [x5, (.func (.func F_dots_Order) #[] #[])] (fun v32 W =>
  R x5 W) W
def S.orset_Set_Dots.l1 (J1 : List Value → World → Prop) (K1 : List Value → World → Prop) (x0 x1 x5 x12 : Value) (W : World) : Prop :=
  efK PR (Instr.next x12 false T_t0) (fun v13 W =>
  okF (extP 0 v13) fun v14 =>
  ifK v14 (
  efK PR (Instr.entry x12) (fun v15 W =>
  okF (extP 0 v15) fun v16 =>
  okF (extP 1 v15) fun v17 =>
  efK PR (Instr.alloc T_api_Dot true (.tuple #[])) (fun v6 W =>
  efK PR (Instr.storeAt T_api_Dot v6 v16) (fun _ W =>
  okF (binP .eql x1 v17) fun v20 =>
  gdK (wantd v20 true) (fun k W => k x0 W) (fun v22 W =>
  gdK (wantd v20 true) (fun k W => rdK PR (Instr.loadAt T_api_Dot v6) k W) (fun v23 W =>
  gdK (wantd v20 true) (fun k W => k x1 W) (fun v24 W =>
  gdK (wantd v20 true) (fun k W => callK PR F_orset_Set_live [v22, v23, v24] k W) (fun v25 W =>
  okF (pickP v20 v25 (.bool false)) fun v26 =>
  ifK v26 (
  rdK PR (Instr.loadAt T_api_Dot v6) (fun v28 W =>
  efK PR (Instr.buildSlice T_s_api_Dot 1 #[(0, v28)]) (fun v29 W =>
  efK PR (Builtin.append_ #[T_s_api_Dot, T_s_api_Dot] T_s_api_Dot #[x5, v29]) (fun v30 W =>
  K1 [x0, x1, v30, x12] W) W) W) W) (
  K1 [x0, x1, x5, x12] W)) W) W) W) W) W) W) W) (
  J1 [x5] W)) W
def S.orset_Set_Dots.body (R : Value → World → Prop) (v0 v1 : Value) (W : World) : Prop :=
  joinK (fun s W => S.orset_Set_Dots.j1 R (nthv s 0) W) (fun J1 =>
  okF (nilP v0) fun v9 =>
  okF (addrF 0 v9) fun v10 =>
  rdK PR (Instr.loadAt T_m_api_Dot_string v10) (fun v11 W =>
  efK PR (Instr.range T_m_api_Dot_string v11) (fun v12 W =>
  loopK (fun K1 s W => S.orset_Set_Dots.l1 J1 K1 (nthv s 0) (nthv s 1) (nthv s 2) (nthv s 3) W) [v0, v1, (.slice none 0 0), v12] W) W) W)
def S.orset_Set_Dots.hint : Hint := (.two .nil (.two .nil (.at [5] (.two .nil (.at [0, 1, 5, 12] (.two .nil (.two (.two .nil .nil) (.two .nil (.two .nil (.two .nil .nil))))) .nil)) (.two .nil (.two .nil .nil)))))
theorem S.orset_Set_Dots.ok (R : Value → World → Prop) (v0 v1 : Value) (W : World) : bodyK PR CB Try.f22 S.orset_Set_Dots.hint [v0, v1] R W = S.orset_Set_Dots.body R v0 v1 W := by kernel_rfl
theorem S.orset_Set_Dots.fn : PR.funcs[F_orset_Set_Dots]? = some Try.f22 := by kernel_rfl
theorem S.orset_Set_Dots.call {R : Value → World → Prop} {v0 v1 : Value} {W : World} (h : S.orset_Set_Dots.body R v0 v1 W) : callK PR F_orset_Set_Dots [v0, v1] R W :=
  callK_of_body (g := F_orset_Set_Dots) (fn := Try.f22) (args := [v0, v1]) (R := R) (w := W) mixed CBok S.orset_Set_Dots.fn S.orset_Set_Dots.hint (by rw [S.orset_Set_Dots.ok]; exact h)
/-! ### (*rostrum/orset.Set).Put (24) -/
def S.orset_Set_Put.j1 (R : Value → World → Prop) (x1 : Value) (W : World) : Prop :=
  R x1 W
def S.orset_Set_Put.j2 (K1 : List Value → World → Prop) (x0 x1 x17 x18 x19 : Value) (W : World) : Prop :=
  okF (binP .add x19 (.int .i64 1)) fun v46 =>
  K1 [x0, x1, x17, x18, v46] W
def S.orset_Set_Put.l2 (J2 : List Value → World → Prop) (K2 : List Value → World → Prop) (x0 x1 x17 x18 x19 x32 x33 x34 : Value) (W : World) : Prop :=
  okF (binP .lss x34 x33) fun v35 =>
  ifK v35 (
  okF (idxS 2 x32 x34) fun v36 =>
  rdK PR (Instr.loadAt T_api_Dot v36) (fun v37 W =>
  efK PR (Instr.alloc T_api_Dot true (.tuple #[])) (fun v10 W =>
  efK PR (Instr.storeAt T_api_Dot v10 v37) (fun _ W =>
  okF (addrF 0 v10) fun v39 =>
  rdK PR (Instr.loadAt T_int v39) (fun v40 W =>
  okF (addrF 1 v10) fun v42 =>
  rdK PR (Instr.loadAt T_int64 v42) (fun v43 W =>
  callK PR F_pack_Num [x1, v40] (fun v41 W =>
  stb PR [(5, true, (Instr.loadAt T_int64 v42), v43)] (fun W =>
  callK PR F_pack_Num [v41, v43] (fun v44 W =>
  okF (binP .add x34 (.int .i64 1)) fun v45 =>
  K2 [x0, v44, x17, x18, x19, x32, x33, v45] W) W) W) W) W) (tick W)) W) W) W) (
  J2 [x0, x1, x17, x18, x19] W)
def S.orset_Set_Put.l1 (J1 : List Value → World → Prop) (K1 : List Value → World → Prop) (x0 x1 x17 x18 x19 : Value) (W : World) : Prop :=
  okF (binP .lss x19 x18) fun v20 =>
  ifK v20 (
  joinK (fun s W => S.orset_Set_Put.j2 K1 (nthv s 0) (nthv s 1) (nthv s 2) (nthv s 3) (nthv s 4) W) (fun J2 =>
  okF (idxS 1 x17 x19) fun v21 =>
  rdK PR (Instr.loadAt T_string v21) (fun v22 W =>
  callK PR F_orset_Set_Dots [x0, v22] (fun v25 W =>
  callK PR F_pack_Text [x1, v22] (fun v28 W =>
  okF (lenP (.slice T_api_Dot) v25) fun v30 =>
  callK PR F_pack_Num [v28, v30] (fun v31 W =>
  okF (lenP (.slice T_api_Dot) v25) fun v33 =>
  loopK (fun K2 s W => S.orset_Set_Put.l2 J2 K2 (nthv s 0) (nthv s 1) (nthv s 2) (nthv s 3) (nthv s 4) (nthv s 5) (nthv s 6) (nthv s 7) W) [x0, v31, x17, x18, x19, v25, v33, (.int .i64 0)] W) W) W) W) W)) (
  J1 [x1] W)
def S.orset_Set_Put.body (R : Value → World → Prop) (v0 v1 : Value) (W : World) : Prop :=
  callK PR F_orset_Set_All [v0] (fun v12 W =>
  okF (lenP (.slice T_string) v12) fun v15 =>
  callK PR F_pack_Num [v1, v15] (fun v16 W =>
  joinK (fun s W => S.orset_Set_Put.j1 R (nthv s 0) W) (fun J1 =>
  okF (lenP (.slice T_string) v12) fun v18 =>
  loopK (fun K1 s W => S.orset_Set_Put.l1 J1 K1 (nthv s 0) (nthv s 1) (nthv s 2) (nthv s 3) (nthv s 4) W) [v0, v16, v12, v18, (.int .i64 0)] W)) W) W
def S.orset_Set_Put.hint : Hint := (.two .nil (.two .nil (.two .nil (.at [1] (.two .nil (.at [0, 1, 17, 18, 19] (.two .nil (.two (.two .nil .nil) (.at [0, 1, 17, 18, 19] (.two .nil (.two .nil (.two .nil (.two .nil (.at [0, 1, 17, 18, 19, 32, 33, 34] (.two .nil (.two (.two .nil .nil) (.two (.two .nil .nil) .nil))) .nil))))) .nil))) .nil)) (.two .nil .nil)))))
theorem S.orset_Set_Put.ok (R : Value → World → Prop) (v0 v1 : Value) (W : World) : bodyK PR CB Try.f24 S.orset_Set_Put.hint [v0, v1] R W = S.orset_Set_Put.body R v0 v1 W := by kernel_rfl
theorem S.orset_Set_Put.fn : PR.funcs[F_orset_Set_Put]? = some Try.f24 := by kernel_rfl
theorem S.orset_Set_Put.call {R : Value → World → Prop} {v0 v1 : Value} {W : World} (h : S.orset_Set_Put.body R v0 v1 W) : callK PR F_orset_Set_Put [v0, v1] R W :=
  callK_of_body (g := F_orset_Set_Put) (fn := Try.f24) (args := [v0, v1]) (R := R) (w := W) mixed CBok S.orset_Set_Put.fn S.orset_Set_Put.hint (by rw [S.orset_Set_Put.ok]; exact h)
/-! ### (*rostrum/orset.Set).Copy (26) -/
def S.orset_Set_Copy.body (R : Value → World → Prop) (v0 : Value) (W : World) : Prop :=
  okF (nilP v0) fun v4 =>
  okF (addrF 0 v4) fun v5 =>
  rdK PR (Instr.loadAt T_m_api_Dot_string v5) (fun v6 W =>
  okF (nilP v0) fun v9 =>
  okF (addrF 1 v9) fun v10 =>
  rdK PR (Instr.loadAt T_m_string_vec_Vec v10) (fun v11 W =>
  callK PR F_maps_Clone_map_api_Dot_string_api_Dot_string [v6] (fun v7 W =>
  stb PR [(8, true, (Instr.loadAt T_m_string_vec_Vec v10), v11)] (fun W =>
  callK PR F_maps_Clone_map_string_vec_Vec_string_vec_Vec [v11] (fun v12 W =>
  okF (bldP (fun i => ([(0, 1), (1, 1)] : List (Nat × Nat))[i]?) [.map none, .map none] [(0, v7), (1, v12)]) fun v13 =>
  efK PR (Instr.box T_orset_Set v13) (fun v14 W =>
  R v14 W) W) W) W) W) W) (tick W)
def S.orset_Set_Copy.hint : Hint := (.two .nil (.two .nil .nil))
theorem S.orset_Set_Copy.ok (R : Value → World → Prop) (v0 : Value) (W : World) : bodyK PR CB Try.f26 S.orset_Set_Copy.hint [v0] R W = S.orset_Set_Copy.body R v0 W := by kernel_rfl
theorem S.orset_Set_Copy.fn : PR.funcs[F_orset_Set_Copy]? = some Try.f26 := by kernel_rfl
theorem S.orset_Set_Copy.call {R : Value → World → Prop} {v0 : Value} {W : World} (h : S.orset_Set_Copy.body R v0 W) : callK PR F_orset_Set_Copy [v0] R W :=
  callK_of_body (g := F_orset_Set_Copy) (fn := Try.f26) (args := [v0]) (R := R) (w := W) mixed CBok S.orset_Set_Copy.fn S.orset_Set_Copy.hint (by rw [S.orset_Set_Copy.ok]; exact h)
/-! ### rostrum/orset.Same (27) -/
def S.orset_Same.l1 (R : Value → World → Prop) (K1 : List Value → World → Prop) (x0 x1 x15 x16 x17 : Value) (W : World) : Prop :=
  okF (binP .lss x17 x16) fun v18 =>
  ifK v18 (
  okF (idxS 1 x15 x17) fun v19 =>
  rdK PR (Instr.loadAt T_string v19) (fun v20 W =>
  callK PR F_orset_Set_Dots [x0, v20] (fun v23 W =>
  callK PR F_orset_Set_Dots [x1, v20] (fun v26 W =>
  callK PR F_slices_Equal_api_Dot_api_Dot [v23, v26] (fun v27 W =>
  okF (unP .not v27) fun v28 =>
  ifK v28 (
  R (.bool false) W) (
  okF (binP .add x17 (.int .i64 1)) fun v29 =>
  K1 [x0, x1, x15, x16, v29] W)) W) W) W) W) (
  R (.bool true) W)
def S.orset_Same.body (R : Value → World → Prop) (v0 v1 : Value) (W : World) : Prop :=
  callK PR F_orset_Set_All [v0] (fun v9 W =>
  callK PR F_orset_Set_All [v1] (fun v12 W =>
  callK PR F_slices_Equal_string_string [v9, v12] (fun v13 W =>
  okF (unP .not v13) fun v14 =>
  ifK v14 (
  R (.bool false) W) (
  okF (lenP (.slice T_string) v9) fun v16 =>
  loopK (fun K1 s W => S.orset_Same.l1 R K1 (nthv s 0) (nthv s 1) (nthv s 2) (nthv s 3) (nthv s 4) W) [v0, v1, v9, v16, (.int .i64 0)] W)) W) W) W
def S.orset_Same.hint : Hint := (.two .nil (.two .nil (.two (.two .nil (.two (.two .nil .nil) .nil)) (.two (.two .nil (.at [0, 1, 15, 16, 17] (.two .nil (.two (.two .nil .nil) (.two (.two .nil (.two .nil (.two (.two .nil .nil) .nil))) .nil))) .nil)) (.two .nil .nil)))))
theorem S.orset_Same.ok (R : Value → World → Prop) (v0 v1 : Value) (W : World) : bodyK PR CB Try.f27 S.orset_Same.hint [v0, v1] R W = S.orset_Same.body R v0 v1 W := by kernel_rfl
theorem S.orset_Same.fn : PR.funcs[F_orset_Same]? = some Try.f27 := by kernel_rfl
theorem S.orset_Same.call {R : Value → World → Prop} {v0 v1 : Value} {W : World} (h : S.orset_Same.body R v0 v1 W) : callK PR F_orset_Same [v0, v1] R W :=
  callK_of_body (g := F_orset_Same) (fn := Try.f27) (args := [v0, v1]) (R := R) (w := W) mixed CBok S.orset_Same.fn S.orset_Same.hint (by rw [S.orset_Same.ok]; exact h)
/-! ### (*rostrum/orset.Set).Drop (28) -/
def S.orset_Set_Drop.body (R : Value → World → Prop) (v0 v1 : Value) (W : World) : Prop :=
  efK PR (Instr.box T_p_orset_Set v0) (fun v2 W =>
  efK PR (Instr.box T_vec_Vec v1) (fun v3 W =>
  rdK PR (Instr.loadAt T_p_orset_Set v2) (fun v4 W =>
  okF (nilP v4) fun v5 =>
  okF (addrF 0 v5) fun v6 =>
  rdK PR (Instr.loadAt T_m_api_Dot_string v6) (fun v7 W =>
  callK PR F_maps_DeleteFunc_map_api_Dot_string_api_Dot_string [v7, (.func (.func F_orset_Set_Drop_1) #[] #[v2, v3])] (fun v9 W =>
  rdK PR (Instr.loadAt T_p_orset_Set v2) (fun v10 W =>
  okF (nilP v10) fun v11 =>
  okF (addrF 1 v11) fun v12 =>
  rdK PR (Instr.loadAt T_m_string_vec_Vec v12) (fun v13 W =>
  callK PR F_maps_DeleteFunc_map_string_vec_Vec_string_vec_Vec [v13, (.func (.func F_orset_Set_Drop_2) #[] #[v3])] (fun v15 W =>
  R (.tuple #[]) W) W) W) W) W) W) W) W) W
def S.orset_Set_Drop.hint : Hint := (.two .nil (.two .nil .nil))
theorem S.orset_Set_Drop.ok (R : Value → World → Prop) (v0 v1 : Value) (W : World) : bodyK PR CB Try.f28 S.orset_Set_Drop.hint [v0, v1] R W = S.orset_Set_Drop.body R v0 v1 W := by kernel_rfl
theorem S.orset_Set_Drop.fn : PR.funcs[F_orset_Set_Drop]? = some Try.f28 := by kernel_rfl
theorem S.orset_Set_Drop.call {R : Value → World → Prop} {v0 v1 : Value} {W : World} (h : S.orset_Set_Drop.body R v0 v1 W) : callK PR F_orset_Set_Drop [v0, v1] R W :=
  callK_of_body (g := F_orset_Set_Drop) (fn := Try.f28) (args := [v0, v1]) (R := R) (w := W) mixed CBok S.orset_Set_Drop.fn S.orset_Set_Drop.hint (by rw [S.orset_Set_Drop.ok]; exact h)
/-! ### (*rostrum/orset.Set).live (36) -/
def S.orset_Set_live.body (R : Value → World → Prop) (v0 v1 v2 : Value) (W : World) : Prop :=
  efK PR (Instr.box T_api_Dot v1) (fun v4 W =>
  okF (nilP v0) fun v8 =>
  okF (addrF 1 v8) fun v9 =>
  rdK PR (Instr.loadAt T_m_string_vec_Vec v9) (fun v10 W =>
  rdK PR (Instr.lookup T_m_string_vec_Vec v10 v2 false) (fun v12 W =>
  rdK PR (Instr.loadAt T_api_Dot v4) (fun v13 W =>
  callK PR F_vec_Has [v12, v13] (fun v14 W =>
  okF (unP .not v14) fun v15 =>
  R v15 W) W) W) W) (tick W)) W
def S.orset_Set_live.hint : Hint := (.two .nil (.two .nil .nil))
theorem S.orset_Set_live.ok (R : Value → World → Prop) (v0 v1 v2 : Value) (W : World) : bodyK PR CB Try.f36 S.orset_Set_live.hint [v0, v1, v2] R W = S.orset_Set_live.body R v0 v1 v2 W := by kernel_rfl
theorem S.orset_Set_live.fn : PR.funcs[F_orset_Set_live]? = some Try.f36 := by kernel_rfl
theorem S.orset_Set_live.call {R : Value → World → Prop} {v0 v1 v2 : Value} {W : World} (h : S.orset_Set_live.body R v0 v1 v2 W) : callK PR F_orset_Set_live [v0, v1, v2] R W :=
  callK_of_body (g := F_orset_Set_live) (fn := Try.f36) (args := [v0, v1, v2]) (R := R) (w := W) mixed CBok S.orset_Set_live.fn S.orset_Set_live.hint (by rw [S.orset_Set_live.ok]; exact h)
/-! ### slices.Compact[[]string,string] (38) -/
def S.slices_Compact_string_string.j1 (R : Value → World → Prop) (x0 : Value) (W : World) : Prop :=
  R x0 W
def S.slices_Compact_string_string.j2 (K1 : List Value → World → Prop) (x0 x3 : Value) (W : World) : Prop :=
  okF (binP .add x3 (.int .i64 1)) fun v15 =>
  K1 [x0, v15] W
def S.slices_Compact_string_string.j3 (R : Value → World → Prop) (x0 x3 : Value) (W : World) : Prop :=
  okF (slcS 1 x0 (some x3) none none) fun v56 =>
  efK PR (Builtin.clear_ #[T_s_string] T_t0 #[v56]) (fun _ W =>
  okF (slcS 1 x0 none (some x3) none) fun v59 =>
  R v59 W) W
def S.slices_Compact_string_string.j4 (K2 : List Value → World → Prop) (x0 x3 x4 x5 : Value) (W : World) : Prop :=
  okF (binP .add x5 (.int .i64 1)) fun v34 =>
  K2 [x0, x3, x4, v34] W
def S.slices_Compact_string_string.l2 (J3 : List Value → World → Prop) (K2 : List Value → World → Prop) (x0 x3 x4 x5 : Value) (W : World) : Prop :=
  okF (lenP (.slice T_string) x4) fun v31 =>
  okF (binP .lss x5 v31) fun v32 =>
  ifK v32 (
  joinK (fun s W => S.slices_Compact_string_string.j4 K2 (nthv s 0) (nthv s 1) (nthv s 2) (nthv s 3) W) (fun J4 =>
  okF (idxS 1 x4 x5) fun v37 =>
  rdK PR (Instr.loadAt T_string v37) (fun v38 W =>
  okF (binP .sub x5 (.int .i64 1)) fun v41 =>
  okF (idxS 1 x4 v41) fun v42 =>
  rdK PR (Instr.loadAt T_string v42) (fun v43 W =>
  okF (binP .neq v38 v43) fun v44 =>
  ifK v44 (
  okF (idxS 1 x4 x5) fun v49 =>
  rdK PR (Instr.loadAt T_string v49) (fun v50 W =>
  okF (idxS 1 x0 x3) fun v51 =>
  efK PR (Instr.storeAt T_string v51 v50) (fun _ W =>
  okF (binP .add x3 (.int .i64 1)) fun v53 =>
  J4 [x0, v53, x4, x5] W) W) W) (
  J4 [x0, x3, x4, x5] W)) W) (tick W))) (
  J3 [x0, x3] W)
def S.slices_Compact_string_string.l1 (R : Value → World → Prop) (J1 : List Value → World → Prop) (K1 : List Value → World → Prop) (x0 x3 : Value) (W : World) : Prop :=
  okF (lenP (.slice T_string) x0) fun v12 =>
  okF (binP .lss x3 v12) fun v13 =>
  ifK v13 (
  joinK (fun s W => S.slices_Compact_string_string.j2 K1 (nthv s 0) (nthv s 1) W) (fun J2 =>
  okF (idxS 1 x0 x3) fun v18 =>
  rdK PR (Instr.loadAt T_string v18) (fun v19 W =>
  okF (binP .sub x3 (.int .i64 1)) fun v22 =>
  okF (idxS 1 x0 v22) fun v23 =>
  rdK PR (Instr.loadAt T_string v23) (fun v24 W =>
  okF (binP .eql v19 v24) fun v25 =>
  ifK v25 (
  okF (slcS 1 x0 (some x3) none none) fun v28 =>
  joinK (fun s W => S.slices_Compact_string_string.j3 R (nthv s 0) (nthv s 1) W) (fun J3 =>
  loopK (fun K2 s W => S.slices_Compact_string_string.l2 J3 K2 (nthv s 0) (nthv s 1) (nthv s 2) (nthv s 3) W) [x0, x3, v28, (.int .i64 1)] W)) (
  J2 [x0, x3] W)) W) (tick W))) (
  J1 [x0] W)
def S.slices_Compact_string_string.body (R : Value → World → Prop) (v0 : Value) (W : World) : Prop :=
  okF (lenP (.slice T_string) v0) fun v7 =>
  okF (binP .lss v7 (.int .i64 2)) fun v8 =>
  ifK v8 (
  R v0 W) (
  joinK (fun s W => S.slices_Compact_string_string.j1 R (nthv s 0) W) (fun J1 =>
  loopK (fun K1 s W => S.slices_Compact_string_string.l1 R J1 K1 (nthv s 0) (nthv s 1) W) [v0, (.int .i64 1)] W))
def S.slices_Compact_string_string.hint : Hint := (.two .nil (.two (.two .nil (.two (.two .nil .nil) .nil)) (.at [0] (.two .nil (.at [0, 3] (.two (.two .nil (.two .nil .nil)) (.at [0, 3] (.two .nil (.two (.two .nil (.at [0, 3] (.two .nil (.at [0, 3, 4, 5] (.two (.two .nil (.two .nil .nil)) (.at [0, 3, 4, 5] (.two .nil (.two (.two .nil .nil) .nil)) .nil)) .nil)) (.two .nil (.two .nil .nil)))) .nil)) .nil)) .nil)) (.two .nil .nil))))
theorem S.slices_Compact_string_string.ok (R : Value → World → Prop) (v0 : Value) (W : World) : bodyK PR CB Try.f38 S.slices_Compact_string_string.hint [v0] R W = S.slices_Compact_string_string.body R v0 W := by kernel_rfl
theorem S.slices_Compact_string_string.fn : PR.funcs[F_slices_Compact_string_string]? = some Try.f38 := by kernel_rfl
theorem S.slices_Compact_string_string.call {R : Value → World → Prop} {v0 : Value} {W : World} (h : S.slices_Compact_string_string.body R v0 W) : callK PR F_slices_Compact_string_string [v0] R W :=
  callK_of_body (g := F_slices_Compact_string_string) (fn := Try.f38) (args := [v0]) (R := R) (w := W) mixed CBok S.slices_Compact_string_string.fn S.slices_Compact_string_string.hint (by rw [S.slices_Compact_string_string.ok]; exact h)
/-! ### slices.Equal[[]string,string] (49) -/
def S.slices_Equal_string_string.l1 (R : Value → World → Prop) (K1 : List Value → World → Prop) (x0 x1 x12 x13 : Value) (W : World) : Prop :=
  okF (binP .lss x13 x12) fun v14 =>
  ifK v14 (
  okF (idxS 1 x0 x13) fun v18 =>
  rdK PR (Instr.loadAt T_string v18) (fun v19 W =>
  okF (idxS 1 x1 x13) fun v22 =>
  rdK PR (Instr.loadAt T_string v22) (fun v23 W =>
  okF (binP .neq v19 v23) fun v24 =>
  ifK v24 (
  R (.bool false) W) (
  okF (binP .add x13 (.int .i64 1)) fun v25 =>
  K1 [x0, x1, x12, v25] W)) W) (tick W)) (
  R (.bool true) W)
def S.slices_Equal_string_string.body (R : Value → World → Prop) (v0 v1 : Value) (W : World) : Prop :=
  okF (lenP (.slice T_string) v0) fun v7 =>
  okF (lenP (.slice T_string) v1) fun v9 =>
  okF (binP .neq v7 v9) fun v10 =>
  ifK v10 (
  R (.bool false) W) (
  okF (lenP (.slice T_string) v0) fun v12 =>
  loopK (fun K1 s W => S.slices_Equal_string_string.l1 R K1 (nthv s 0) (nthv s 1) (nthv s 2) (nthv s 3) W) [v0, v1, v12, (.int .i64 0)] W)
def S.slices_Equal_string_string.hint : Hint := (.two .nil (.two (.two .nil (.two (.two .nil .nil) .nil)) (.two (.two .nil (.at [0, 1, 12, 13] (.two .nil (.two (.two .nil .nil) (.two (.two .nil (.two .nil (.two (.two .nil .nil) .nil))) .nil))) .nil)) (.two .nil .nil))))
theorem S.slices_Equal_string_string.ok (R : Value → World → Prop) (v0 v1 : Value) (W : World) : bodyK PR CB Try.f49 S.slices_Equal_string_string.hint [v0, v1] R W = S.slices_Equal_string_string.body R v0 v1 W := by kernel_rfl
theorem S.slices_Equal_string_string.fn : PR.funcs[F_slices_Equal_string_string]? = some Try.f49 := by kernel_rfl
theorem S.slices_Equal_string_string.call {R : Value → World → Prop} {v0 v1 : Value} {W : World} (h : S.slices_Equal_string_string.body R v0 v1 W) : callK PR F_slices_Equal_string_string [v0, v1] R W :=
  callK_of_body (g := F_slices_Equal_string_string) (fn := Try.f49) (args := [v0, v1]) (R := R) (w := W) mixed CBok S.slices_Equal_string_string.fn S.slices_Equal_string_string.hint (by rw [S.slices_Equal_string_string.ok]; exact h)
/-! ### slices.Equal[[]rostrum/api.Dot,rostrum/api.Dot] (50) -/
def S.slices_Equal_api_Dot_api_Dot.l1 (R : Value → World → Prop) (K1 : List Value → World → Prop) (x0 x1 x12 x13 : Value) (W : World) : Prop :=
  okF (binP .lss x13 x12) fun v14 =>
  ifK v14 (
  okF (idxS 2 x0 x13) fun v18 =>
  rdK PR (Instr.loadAt T_api_Dot v18) (fun v19 W =>
  okF (idxS 2 x1 x13) fun v22 =>
  rdK PR (Instr.loadAt T_api_Dot v22) (fun v23 W =>
  rdK PR (aggEq .neq T_api_Dot v19 v23) (fun v24 W =>
  ifK v24 (
  R (.bool false) W) (
  okF (binP .add x13 (.int .i64 1)) fun v25 =>
  K1 [x0, x1, x12, v25] W)) W) W) (tick W)) (
  R (.bool true) W)
def S.slices_Equal_api_Dot_api_Dot.body (R : Value → World → Prop) (v0 v1 : Value) (W : World) : Prop :=
  okF (lenP (.slice T_api_Dot) v0) fun v7 =>
  okF (lenP (.slice T_api_Dot) v1) fun v9 =>
  okF (binP .neq v7 v9) fun v10 =>
  ifK v10 (
  R (.bool false) W) (
  okF (lenP (.slice T_api_Dot) v0) fun v12 =>
  loopK (fun K1 s W => S.slices_Equal_api_Dot_api_Dot.l1 R K1 (nthv s 0) (nthv s 1) (nthv s 2) (nthv s 3) W) [v0, v1, v12, (.int .i64 0)] W)
def S.slices_Equal_api_Dot_api_Dot.hint : Hint := (.two .nil (.two (.two .nil (.two (.two .nil .nil) .nil)) (.two (.two .nil (.at [0, 1, 12, 13] (.two .nil (.two (.two .nil .nil) (.two (.two .nil (.two .nil (.two (.two .nil .nil) .nil))) .nil))) .nil)) (.two .nil .nil))))
theorem S.slices_Equal_api_Dot_api_Dot.ok (R : Value → World → Prop) (v0 v1 : Value) (W : World) : bodyK PR CB Try.f50 S.slices_Equal_api_Dot_api_Dot.hint [v0, v1] R W = S.slices_Equal_api_Dot_api_Dot.body R v0 v1 W := by kernel_rfl
theorem S.slices_Equal_api_Dot_api_Dot.fn : PR.funcs[F_slices_Equal_api_Dot_api_Dot]? = some Try.f50 := by kernel_rfl
theorem S.slices_Equal_api_Dot_api_Dot.call {R : Value → World → Prop} {v0 v1 : Value} {W : World} (h : S.slices_Equal_api_Dot_api_Dot.body R v0 v1 W) : callK PR F_slices_Equal_api_Dot_api_Dot [v0, v1] R W :=
  callK_of_body (g := F_slices_Equal_api_Dot_api_Dot) (fn := Try.f50) (args := [v0, v1]) (R := R) (w := W) mixed CBok S.slices_Equal_api_Dot_api_Dot.fn S.slices_Equal_api_Dot_api_Dot.hint (by rw [S.slices_Equal_api_Dot_api_Dot.ok]; exact h)
/-! ### maps.DeleteFunc[map[rostrum/api.Dot]string,rostrum/api.Dot,string] (51) -/
def S.maps_DeleteFunc_map_api_Dot_string_api_Dot_string.l1 (R : Value → World → Prop) (K1 : List Value → World → Prop) (x0 x1 x7 : Value) (W : World) : Prop :=
  efK PR (Instr.next x7 false T_t0) (fun v8 W =>
  okF (extP 0 v8) fun v9 =>
  ifK v9 (
  efK PR (Instr.entry x7) (fun v10 W =>
  okF (extP 0 v10) fun v11 =>
  okF (extP 1 v10) fun v12 =>
  efK PR (Instr.alloc T_api_Dot true (.tuple #[])) (fun v4 W =>
  efK PR (Instr.storeAt T_api_Dot v4 v11) (fun _ W =>
  rdK PR (Instr.loadAt T_api_Dot v4) (fun v14 W =>
  vcK PR x1 [v14, v12] (fun v16 W =>
  ifK v16 (
  rdK PR (Instr.loadAt T_api_Dot v4) (fun v18 W =>
  efK PR (Builtin.delete_ #[T_m_api_Dot_string, T_api_Dot] T_t0 #[x0, v18]) (fun _ W =>
  K1 [x0, x1, x7] W) W) W) (
  K1 [x0, x1, x7] W)) W) W) W) W) W) (
  R (.tuple #[]) W)) W
def S.maps_DeleteFunc_map_api_Dot_string_api_Dot_string.body (R : Value → World → Prop) (v0 v1 : Value) (W : World) : Prop :=
  efK PR (Instr.range T_m_api_Dot_string v0) (fun v7 W =>
  loopK (fun K1 s W => S.maps_DeleteFunc_map_api_Dot_string_api_Dot_string.l1 R K1 (nthv s 0) (nthv s 1) (nthv s 2) W) [v0, v1, v7] W) W
def S.maps_DeleteFunc_map_api_Dot_string_api_Dot_string.hint : Hint := (.two .nil (.at [0, 1, 7] (.two .nil (.two (.two .nil .nil) (.two .nil (.two .nil (.two .nil .nil))))) .nil))
theorem S.maps_DeleteFunc_map_api_Dot_string_api_Dot_string.ok (R : Value → World → Prop) (v0 v1 : Value) (W : World) : bodyK PR CB Try.f51 S.maps_DeleteFunc_map_api_Dot_string_api_Dot_string.hint [v0, v1] R W = S.maps_DeleteFunc_map_api_Dot_string_api_Dot_string.body R v0 v1 W := by kernel_rfl
theorem S.maps_DeleteFunc_map_api_Dot_string_api_Dot_string.fn : PR.funcs[F_maps_DeleteFunc_map_api_Dot_string_api_Dot_string]? = some Try.f51 := by kernel_rfl
theorem S.maps_DeleteFunc_map_api_Dot_string_api_Dot_string.call {R : Value → World → Prop} {v0 v1 : Value} {W : World} (h : S.maps_DeleteFunc_map_api_Dot_string_api_Dot_string.body R v0 v1 W) : callK PR F_maps_DeleteFunc_map_api_Dot_string_api_Dot_string [v0, v1] R W :=
  callK_of_body (g := F_maps_DeleteFunc_map_api_Dot_string_api_Dot_string) (fn := Try.f51) (args := [v0, v1]) (R := R) (w := W) mixed CBok S.maps_DeleteFunc_map_api_Dot_string_api_Dot_string.fn S.maps_DeleteFunc_map_api_Dot_string_api_Dot_string.hint (by rw [S.maps_DeleteFunc_map_api_Dot_string_api_Dot_string.ok]; exact h)
/-! ### (*rostrum/orset.Set).Drop$1 (52) -/
def S.orset_Set_Drop_1.body (R : Value → World → Prop) (v0 v1 v2 v3 : Value) (W : World) : Prop :=
  efK PR (Instr.box T_api_Dot v0) (fun v4 W =>
  rdK PR (Instr.loadAt T_p_orset_Set v2) (fun v7 W =>
  rdK PR (Instr.loadAt T_api_Dot v4) (fun v8 W =>
  callK PR F_orset_Set_live [v7, v8, v1] (fun v10 W =>
  okF (unP .not v10) fun v11 =>
  gdK (wantd v11 true) (fun k W => rdK PR (Instr.loadAt T_vec_Vec v3) k W) (fun v13 W =>
  gdK (wantd v11 true) (fun k W => rdK PR (Instr.loadAt T_api_Dot v4) k W) (fun v14 W =>
  gdK (wantd v11 true) (fun k W => callK PR F_vec_Has [v13, v14] k W) (fun v15 W =>
  okF (pickP v11 v15 (.bool false)) fun v16 =>
  R v16 W) W) W) W) W) W) W) W
def S.orset_Set_Drop_1.hint : Hint := (.two .nil (.two .nil .nil))
theorem S.orset_Set_Drop_1.ok (R : Value → World → Prop) (v0 v1 v2 v3 : Value) (W : World) : bodyK PR CB Try.f52 S.orset_Set_Drop_1.hint [v0, v1, v2, v3] R W = S.orset_Set_Drop_1.body R v0 v1 v2 v3 W := by kernel_rfl
theorem S.orset_Set_Drop_1.fn : PR.funcs[F_orset_Set_Drop_1]? = some Try.f52 := by kernel_rfl
theorem S.orset_Set_Drop_1.call {R : Value → World → Prop} {v0 v1 v2 v3 : Value} {W : World} (h : S.orset_Set_Drop_1.body R v0 v1 v2 v3 W) : callK PR F_orset_Set_Drop_1 [v0, v1, v2, v3] R W :=
  callK_of_body (g := F_orset_Set_Drop_1) (fn := Try.f52) (args := [v0, v1, v2, v3]) (R := R) (w := W) mixed CBok S.orset_Set_Drop_1.fn S.orset_Set_Drop_1.hint (by rw [S.orset_Set_Drop_1.ok]; exact h)
/-! ### maps.DeleteFunc[map[string]rostrum/vec.Vec,string,rostrum/vec.Vec] (53) -/
def S.maps_DeleteFunc_map_string_vec_Vec_string_vec_Vec.l1 (R : Value → World → Prop) (K1 : List Value → World → Prop) (x0 x1 x7 : Value) (W : World) : Prop :=
  efK PR (Instr.next x7 false T_t0) (fun v8 W =>
  okF (extP 0 v8) fun v9 =>
  ifK v9 (
  efK PR (Instr.entry x7) (fun v10 W =>
  okF (extP 0 v10) fun v11 =>
  okF (extP 1 v10) fun v12 =>
  efK PR (Instr.alloc T_vec_Vec true (.tuple #[])) (fun v5 W =>
  efK PR (Instr.storeAt T_vec_Vec v5 v12) (fun _ W =>
  rdK PR (Instr.loadAt T_vec_Vec v5) (fun v15 W =>
  vcK PR x1 [v11, v15] (fun v16 W =>
  ifK v16 (
  efK PR (Builtin.delete_ #[T_m_string_vec_Vec, T_string] T_t0 #[x0, v11]) (fun _ W =>
  K1 [x0, x1, x7] W) W) (
  K1 [x0, x1, x7] W)) W) W) W) W) W) (
  R (.tuple #[]) W)) W
def S.maps_DeleteFunc_map_string_vec_Vec_string_vec_Vec.body (R : Value → World → Prop) (v0 v1 : Value) (W : World) : Prop :=
  efK PR (Instr.range T_m_string_vec_Vec v0) (fun v7 W =>
  loopK (fun K1 s W => S.maps_DeleteFunc_map_string_vec_Vec_string_vec_Vec.l1 R K1 (nthv s 0) (nthv s 1) (nthv s 2) W) [v0, v1, v7] W) W
def S.maps_DeleteFunc_map_string_vec_Vec_string_vec_Vec.hint : Hint := (.two .nil (.at [0, 1, 7] (.two .nil (.two (.two .nil .nil) (.two .nil (.two .nil (.two .nil .nil))))) .nil))
theorem S.maps_DeleteFunc_map_string_vec_Vec_string_vec_Vec.ok (R : Value → World → Prop) (v0 v1 : Value) (W : World) : bodyK PR CB Try.f53 S.maps_DeleteFunc_map_string_vec_Vec_string_vec_Vec.hint [v0, v1] R W = S.maps_DeleteFunc_map_string_vec_Vec_string_vec_Vec.body R v0 v1 W := by kernel_rfl
theorem S.maps_DeleteFunc_map_string_vec_Vec_string_vec_Vec.fn : PR.funcs[F_maps_DeleteFunc_map_string_vec_Vec_string_vec_Vec]? = some Try.f53 := by kernel_rfl
theorem S.maps_DeleteFunc_map_string_vec_Vec_string_vec_Vec.call {R : Value → World → Prop} {v0 v1 : Value} {W : World} (h : S.maps_DeleteFunc_map_string_vec_Vec_string_vec_Vec.body R v0 v1 W) : callK PR F_maps_DeleteFunc_map_string_vec_Vec_string_vec_Vec [v0, v1] R W :=
  callK_of_body (g := F_maps_DeleteFunc_map_string_vec_Vec_string_vec_Vec) (fn := Try.f53) (args := [v0, v1]) (R := R) (w := W) mixed CBok S.maps_DeleteFunc_map_string_vec_Vec_string_vec_Vec.fn S.maps_DeleteFunc_map_string_vec_Vec_string_vec_Vec.hint (by rw [S.maps_DeleteFunc_map_string_vec_Vec_string_vec_Vec.ok]; exact h)
/-! ### (*rostrum/orset.Set).Drop$2 (54) -/
def S.orset_Set_Drop_2.body (R : Value → World → Prop) (v0 v1 v2 : Value) (W : World) : Prop :=
  efK PR (Instr.box T_vec_Vec v1) (fun v4 W =>
  rdK PR (Instr.loadAt T_vec_Vec v4) (fun v6 W =>
  rdK PR (Instr.loadAt T_vec_Vec v2) (fun v7 W =>
  callK PR F_vec_Le [v6, v7] (fun v8 W =>
  R v8 W) W) W) W) W
def S.orset_Set_Drop_2.hint : Hint := (.two .nil (.two .nil .nil))
theorem S.orset_Set_Drop_2.ok (R : Value → World → Prop) (v0 v1 v2 : Value) (W : World) : bodyK PR CB Try.f54 S.orset_Set_Drop_2.hint [v0, v1, v2] R W = S.orset_Set_Drop_2.body R v0 v1 v2 W := by kernel_rfl
theorem S.orset_Set_Drop_2.fn : PR.funcs[F_orset_Set_Drop_2]? = some Try.f54 := by kernel_rfl
theorem S.orset_Set_Drop_2.call {R : Value → World → Prop} {v0 v1 v2 : Value} {W : World} (h : S.orset_Set_Drop_2.body R v0 v1 v2 W) : callK PR F_orset_Set_Drop_2 [v0, v1, v2] R W :=
  callK_of_body (g := F_orset_Set_Drop_2) (fn := Try.f54) (args := [v0, v1, v2]) (R := R) (w := W) mixed CBok S.orset_Set_Drop_2.fn S.orset_Set_Drop_2.hint (by rw [S.orset_Set_Drop_2.ok]; exact h)
end Go.Proofs.Ytmojfpaagokckaa
namespace Go.Eng
set_option linter.unusedVariables false
set_option linter.unusedSimpArgs false
open Go Go.RowKit
section
variable {P : Program} {W0 W : World} {L : List Asn} {e : TypeId}
theorem bl1 (l : List UInt8) {t : TypeId} {by' n : Nat} {z : Value} [ht : TyS P t e 1 by' z] {ps : List (Nat × Value)} {k : Value → World → Prop} (h : St W0 L W) (hln : l.length = n) (hn : n ≤ 16777216) (hn0 : n ≠ 0)
    (hc : fillL (fun i => some (i * 1, 1)) ((List.range (n * 1)).map fun i => ((vcells z)[i % (vcells z).length]?).getD undef) ps = some (B8.rows l))
    (hk : ∀ b W', St W0 (blk b (.cells (B8.rows l).toArray e) :: L) W' → k (.slice (some ⟨b, 0, none⟩) l.length l.length) W') : efK P (Instr.buildSlice t n ps.toArray) k W := by
  subst hln
  exact ⟨_, _, bs_run (P := P) (t := t) (e := e) (by omega) (by omega) hc, hk _ _ (h.alloc _)⟩
theorem bl2 (l : List UInt8) {b n c : Nat} {t : TypeId} [hb : BytesT P t e] {k : Value → World → Prop} (h : St W0 (blk b (.cells (B8.rows l).toArray e) :: L) W) (hl : l.length ≤ maxLen)
    (hk : ∀ W', St W0 (arr B8 e (some ⟨b, 0, none⟩) l.length l :: L) W' → k (.slice (some ⟨b, 0, none⟩) n c) W') : efK P (convert t t (.slice (some ⟨b, 0, none⟩) n c)) k W := by
  have hbl := h.blk.2
  have hsh : W.shape? b = some (e, (B8.rows l).toArray.size) := by
    unfold World.shape?; rw [hbl]
  have hfr : W.freeze ⟨b, (B8.rows l).toArray.size, none⟩ 1 = { W with heap := W.heap.setIfInBounds b (.cells (B8.rows l).toArray e ((B8.rows l).toArray.size, (B8.rows l).toArray.size + 1)) } := by
    unfold World.freeze
    rw [if_neg (by decide)]
    congr 1
    apply Array.ext_getElem?
    intro i
    rw [Array.getElem?_modify, Array.getElem?_setIfInBounds]
    by_cases hi : b = i
    · subst hi
      rw [if_pos rfl, if_pos rfl, hbl]
      rw [if_pos (Array.getElem?_eq_some_iff.1 hbl).1]
      rfl
    · rw [if_neg hi, if_neg hi]
  refine ⟨.slice (some ⟨b, 0, none⟩) n c, W.freeze ⟨b, (B8.rows l).toArray.size, none⟩ 1, ?_, hk _ ?_⟩
  · simp [convert, run_underlying hb.ok.1, run_underlying hb.ok.2, markStringish, hsh]
  · rw [hfr]
    refine (((h.setBlk _).weak (a' := cells b (B8.rows l) e) fun p hp => ⟨((B8.rows l).toArray.size, (B8.rows l).toArray.size + 1), ?_, hp⟩).ent (arr_full (A := B8) hl))
    intro i hi
    simp; omega
end
end Go.Eng
