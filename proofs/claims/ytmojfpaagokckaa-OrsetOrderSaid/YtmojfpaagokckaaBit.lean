/- The plain law of the bits of numbers in bytes. -/
import Derived.Test.YtmojfpaagokckaaPNum
namespace Go.Eng
set_option linter.unusedVariables false
set_option linter.unusedSimpArgs false
open Go

theorem u64w (n : Int) : IntKind.u64.wrap n = n % 18446744073709551616 := by
  unfold IntKind.wrap
  have : IntKind.u64.signed = false := rfl
  simp only [this, Bool.false_and, Bool.false_eq_true, if_false]
  rfl
theorem i64w (n : Int) : IntKind.i64.wrap n = (n + 9223372036854775808) % 18446744073709551616 - 9223372036854775808 := by rw [IntKind.wrap_i64]
theorem u8w (n : Int) : IntKind.u8.wrap n = n % 256 := by rw [IntKind.wrap_u8]
theorem ofInt_toNat (n : Int) (h0 : 0 ≤ n) (h1 : n < 18446744073709551616) : (BitVec.ofInt 64 n).toNat = n.toNat := by
  rw [BitVec.toNat_ofInt]; congr 1; exact Int.emod_eq_of_lt h0 h1
theorem ones64 : BitVec.ofInt 64 18446744073709551615 = BitVec.allOnes 64 := by decide
theorem ones64' : BitVec.ofInt 64 (-1) = BitVec.allOnes 64 := by decide
theorem xor_ones (x : Int) (h0 : 0 ≤ x) (h1 : x < 18446744073709551616) : (BitVec.ofInt 64 x ^^^ BitVec.allOnes 64).toNat = 18446744073709551615 - x.toNat := by
  rw [BitVec.xor_allOnes, BitVec.toNat_not, ofInt_toNat x h0 h1]
theorem xor_zero (x : Int) (h0 : 0 ≤ x) (h1 : x < 18446744073709551616) : (BitVec.ofInt 64 x ^^^ BitVec.ofInt 64 0).toNat = x.toNat := by
  have : BitVec.ofInt 64 0 = 0#64 := by decide
  rw [this, BitVec.xor_zero, ofInt_toNat x h0 h1]
theorem shl1 (v : Int) : IntKind.u64.wrap (IntKind.u64.wrap v * 2 ^ (min (1 : Int).toNat IntKind.u64.bits)) = (2 * v) % 18446744073709551616 := by
  have : (2 : Int) ^ (min (1 : Int).toNat IntKind.u64.bits) = 2 := by decide
  rw [this, u64w, u64w]; omega
theorem sar63 (v : Int) (h0 : -9223372036854775808 ≤ v) (h1 : v ≤ 9223372036854775807) : v.fdiv (2 ^ (min (63 : Int).toNat IntKind.i64.bits)) = if 0 ≤ v then 0 else -1 := by
  have : (2 : Int) ^ (min (63 : Int).toNat IntKind.i64.bits) = 9223372036854775808 := by decide
  rw [this, Int.fdiv_eq_ediv_of_nonneg _ (by decide)]
  split <;> omega
theorem zig_xor (v : Int) (h0 : -9223372036854775808 ≤ v) (h1 : v ≤ 9223372036854775807) :
    IntKind.u64.wrap (BitVec.ofInt 64 ((2 * v) % 18446744073709551616) ^^^ BitVec.ofInt 64 (IntKind.u64.wrap (if 0 ≤ v then 0 else -1))).toNat = zig v := by
  unfold zig
  by_cases h : 0 ≤ v
  · simp only [h, if_true]
    rw [u64w 0, show (0 : Int) % 18446744073709551616 = 0 from rfl, xor_zero _ (by omega) (by omega), u64w]; omega
  · simp only [h, if_false]
    rw [u64w (-1), show (-1 : Int) % 18446744073709551616 = 18446744073709551615 from rfl, ones64, xor_ones _ (by omega) (by omega), u64w]; omega
theorem zig_not (v : Int) (h0 : -9223372036854775808 ≤ v) (h1 : v < 0) :
    IntKind.u64.wrap (BitVec.ofInt 64 (if IntKind.u64.signed = true then -1 else IntKind.u64.max) ^^^ BitVec.ofInt 64 ((2 * v) % 18446744073709551616)).toNat = zig v := by
  have : (if IntKind.u64.signed = true then (-1 : Int) else IntKind.u64.max) = 18446744073709551615 := by decide
  rw [this, ones64, BitVec.xor_comm, xor_ones _ (by omega) (by omega), u64w]
  unfold zig; rw [if_neg (by omega)]; omega
theorem zig_pos (v : Int) (h0 : 0 ≤ v) (h1 : v ≤ 9223372036854775807) : (2 * v) % 18446744073709551616 = zig v := by unfold zig; rw [if_pos h0]; omega
theorem shr_u (u k : Nat) (hk : k ≤ 64) : ((u : Int).fdiv (2 ^ (min ((k : Nat) : Int).toNat IntKind.u64.bits))) = ((u / 2 ^ k : Nat) : Int) := by
  have h64 : IntKind.u64.bits = 64 := rfl
  rw [h64, Int.toNat_natCast, Nat.min_eq_left hk, Int.fdiv_eq_ediv_of_nonneg _ (by exact Int.pow_nonneg (by decide))]
  rw [Int.natCast_ediv, Int.natCast_pow]; rfl
theorem and1 (u : Nat) (h : u < 18446744073709551616) : IntKind.u64.wrap (BitVec.ofInt 64 (u : Int) &&& BitVec.ofInt 64 1).toNat = ((u % 2 : Nat) : Int) := by
  have h1 : (BitVec.ofInt 64 1).toNat = 1 := by decide
  rw [BitVec.toNat_and, ofInt_toNat _ (by omega) (by omega), h1, Int.toNat_natCast, Nat.and_one_is_mod, u64w]; omega
theorem unzig_xor (u : Nat) (h : u < 18446744073709551616) : IntKind.i64.wrap (BitVec.ofInt 64 (IntKind.i64.wrap ((u / 2 : Nat) : Int)) ^^^ BitVec.ofInt 64 (IntKind.i64.wrap (0 - IntKind.i64.wrap ((u % 2 : Nat) : Int)))).toNat = unzig u := by
  have e0 : IntKind.i64.wrap ((u / 2 : Nat) : Int) = ((u / 2 : Nat) : Int) := by rw [i64w]; omega
  rw [e0]
  unfold unzig
  by_cases hu : u % 2 = 0
  · rw [hu, if_pos rfl, show IntKind.i64.wrap (0 - IntKind.i64.wrap ((0 : Nat) : Int)) = 0 from by decide, xor_zero _ (by omega) (by omega), Int.toNat_natCast, i64w]; omega
  · have h1 : u % 2 = 1 := by omega
    rw [h1, if_neg (by omega), show IntKind.i64.wrap (0 - IntKind.i64.wrap ((1 : Nat) : Int)) = -1 from by decide, ones64', xor_ones _ (by omega) (by omega), i64w]; omega
set_option maxRecDepth 100000 in
theorem andNot7 : ∀ c : Fin 256, IntKind.u8.wrap (BitVec.ofInt 8 ((c.val : Nat) : Int) &&& ~~~(BitVec.ofInt 8 128)).toNat = ((c.val % 128 : Nat) : Int) := by decide
set_option maxRecDepth 100000 in
theorem and7 : ∀ c : Fin 256, IntKind.u8.wrap (BitVec.ofInt 8 ((c.val : Nat) : Int) &&& BitVec.ofInt 8 127).toNat = ((c.val % 128 : Nat) : Int) := by decide
set_option maxRecDepth 100000 in
theorem and8 : ∀ c : Fin 256, IntKind.u8.wrap (BitVec.ofInt 8 ((c.val : Nat) : Int) &&& BitVec.ofInt 8 128).toNat = (if 128 ≤ c.val then 128 else 0 : Int) := by decide
set_option maxRecDepth 100000 in
theorem or8 : ∀ c : Fin 256, IntKind.u8.wrap (BitVec.ofInt 8 ((c.val : Nat) : Int) ||| BitVec.ofInt 8 128).toNat = ((c.val % 128 + 128 : Nat) : Int) := by decide
theorem or8' (n : Nat) (h : n < 256) : IntKind.u8.wrap (BitVec.ofInt IntKind.u8.bits (n : Int) ||| BitVec.ofInt IntKind.u8.bits 128).toNat = ((n % 128 + 128 : Nat) : Int) := or8 ⟨n, h⟩
theorem and7' (n : Nat) (h : n < 256) : IntKind.u8.wrap (BitVec.ofInt IntKind.u8.bits (n : Int) &&& BitVec.ofInt IntKind.u8.bits 127).toNat = ((n % 128 : Nat) : Int) := and7 ⟨n, h⟩
theorem and8' (n : Nat) (h : n < 256) : IntKind.u8.wrap (BitVec.ofInt IntKind.u8.bits (n : Int) &&& BitVec.ofInt IntKind.u8.bits 128).toNat = (if 128 ≤ n then 128 else 0 : Int) := and8 ⟨n, h⟩
theorem andNot7' (n : Nat) (h : n < 256) : IntKind.u8.wrap (BitVec.ofInt IntKind.u8.bits (n : Int) &&& ~~~(BitVec.ofInt IntKind.u8.bits 128)).toNat = ((n % 128 : Nat) : Int) := andNot7 ⟨n, h⟩
theorem shl7 (x i : Nat) (hi : i ≤ 9) (hx : x * 128 ^ i < 18446744073709551616) : IntKind.u64.wrap ((x : Int) * 2 ^ (min ((7 * i : Nat) : Int).toNat IntKind.u64.bits)) = ((x * 128 ^ i : Nat) : Int) := by
  have h64 : IntKind.u64.bits = 64 := rfl
  rw [h64, Int.toNat_natCast, Nat.min_eq_left (by omega)]
  have : (2 : Int) ^ (7 * i) = ((128 ^ i : Nat) : Int) := by
    rw [Int.pow_mul, Int.natCast_pow]; rfl
  rw [this, ← Int.natCast_mul, u64w]
  generalize x * 128 ^ i = y at *
  omega
theorem or_add (u x i : Nat) (hu : u < 128 ^ i) (hx : u + x * 128 ^ i < 18446744073709551616) : IntKind.u64.wrap (BitVec.ofInt 64 (u : Int) ||| BitVec.ofInt 64 ((x * 128 ^ i : Nat) : Int)).toNat = ((u + x * 128 ^ i : Nat) : Int) := by
  rw [BitVec.toNat_or, ofInt_toNat _ (by omega) (by omega), ofInt_toNat _ (by omega) (by omega), Int.toNat_natCast, Int.toNat_natCast]
  have e : (128 : Nat) ^ i = 2 ^ (7 * i) := by rw [Nat.pow_mul]
  have := Nat.two_pow_add_eq_or_of_lt (i := 7 * i) (b := u) (by rw [← e]; exact hu) x
  rw [Nat.or_comm, e, Nat.mul_comm x, ← this, u64w, Nat.add_comm]
  rw [e, Nat.mul_comm x] at hx
  generalize 2 ^ (7 * i) * x = y at *
  omega
theorem cvt8 (u : Nat) : IntKind.u8.wrap (u : Int) = ((u % 256 : Nat) : Int) := by rw [u8w]; rfl
theorem b8_ofNat {n : Nat} (h : n < 256) : Value.int .u8 (n : Int) = b8 (UInt8.ofNat n) := by unfold b8; rw [ofNat_toNat h]
end Go.Eng
