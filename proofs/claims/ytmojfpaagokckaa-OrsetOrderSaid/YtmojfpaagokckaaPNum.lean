/- The plain law of numbers in bytes. -/
import Derived.Test.YtmojfpaagokckaaSl
namespace Go.Eng
set_option linter.unusedVariables false
set_option linter.unusedSimpArgs false

def zig (v : Int) : Nat := if 0 ≤ v then 2 * v.toNat else 2 * (-v).toNat - 1
def unzig (u : Nat) : Int := if u % 2 = 0 then ((u / 2 : Nat) : Int) else - ((u / 2 : Nat) : Int) - 1
theorem unzig_zig (v : Int) : unzig (zig v) = v := by unfold zig unzig; split <;> split <;> omega
theorem zig_lt {v : Int} (h0 : -9223372036854775808 ≤ v) (h1 : v ≤ 9223372036854775807) : zig v < 18446744073709551616 := by unfold zig; split <;> omega
theorem unzig_ge (u : Nat) (h : u < 18446744073709551616) : -9223372036854775808 ≤ unzig u ∧ unzig u ≤ 9223372036854775807 := by unfold unzig; split <;> omega
def encU (u : Nat) : List UInt8 := if u < 128 then [UInt8.ofNat u] else UInt8.ofNat (u % 128 + 128) :: encU (u / 128)
termination_by u
decreasing_by omega
def encN (v : Int) : List UInt8 := encU (zig v)
theorem encU_small {u : Nat} (h : u < 128) : encU u = [UInt8.ofNat u] := by rw [encU, if_pos h]
theorem encU_big {u : Nat} (h : ¬ u < 128) : encU u = UInt8.ofNat (u % 128 + 128) :: encU (u / 128) := by rw [encU, if_neg h]
/-- how many groups at most -/
theorem encU_len : ∀ (k u : Nat), u < 128 ^ (k + 1) → (encU u).length ≤ k + 1
  | 0, u, h => by rw [encU_small (by simpa using h)]; simp
  | k + 1, u, h => by
    by_cases hu : u < 128
    · rw [encU_small hu]; simp
    · rw [encU_big hu]
      have := encU_len k (u / 128) (Nat.div_lt_of_lt_mul (by rw [Nat.pow_succ] at h; rw [Nat.mul_comm]; exact h))
      simp only [List.length_cons]; omega
theorem encU_le {u : Nat} (h : u < 18446744073709551616) : (encU u).length ≤ 10 := encU_len 9 u (Nat.lt_of_lt_of_le h (by decide))
theorem encN_le {v : Int} (h0 : -9223372036854775808 ≤ v) (h1 : v ≤ 9223372036854775807) : (encN v).length ≤ 10 := encU_le (zig_lt h0 h1)

/-- a number's groups, of which i are read: their sum, what is behind them -/
def dec (i u : Nat) : List UInt8 → Option (Nat × List UInt8)
  | [] => none
  | c :: r => if 10 ≤ i then none else
      if 128 ≤ c.toNat then dec (i + 1) (u + (c.toNat - 128) * 128 ^ i) r
      else if (0 < i ∧ c.toNat = 0) ∨ (i = 9 ∧ 1 < c.toNat) then none
      else some (u + c.toNat * 128 ^ i, r)
theorem ofNat_toNat {n : Nat} (h : n < 256) : (UInt8.ofNat n).toNat = n := by simp [UInt8.toNat_ofNat', Nat.mod_eq_of_lt h]
theorem dec_encU : ∀ (k i u s : Nat) (r : List UInt8), i + k = 9 → u < 128 ^ (k + 1) → (i = 0 ∨ 0 < u) → (u * 128 ^ i < 18446744073709551616) → dec i s (encU u ++ r) = some (s + u * 128 ^ i, r)
  | 0, i, u, s, r, hi, hu, hp, hb => by
    have : i = 9 := by omega
    subst this
    have hu : u < 128 := by simpa using hu
    rw [encU_small hu]
    simp only [List.cons_append, List.nil_append, dec, ofNat_toNat (show u < 256 by omega)]
    rw [if_neg (by omega), if_neg (by omega), if_neg]
    have : (128 : Nat) ^ 9 = 9223372036854775808 := by decide
    omega
  | k + 1, i, u, s, r, hi, hu, hp, hb => by
    by_cases h : u < 128
    · rw [encU_small h]
      simp only [List.cons_append, List.nil_append, dec, ofNat_toNat (show u < 256 by omega)]
      rw [if_neg (by omega), if_neg (by omega), if_neg (by omega)]
    · rw [encU_big h]
      simp only [List.cons_append, dec, ofNat_toNat (show u % 128 + 128 < 256 by omega)]
      have e1 : u / 128 * 128 ^ (i + 1) + u % 128 * 128 ^ i = u * 128 ^ i := by
        rw [Nat.pow_succ, Nat.mul_comm (128 ^ i) 128, ← Nat.mul_assoc, ← Nat.add_mul]
        congr 1; omega
      rw [if_neg (by omega), if_pos (by omega), dec_encU k (i + 1) (u / 128) _ r (by omega)
        (Nat.div_lt_of_lt_mul (by rw [Nat.pow_succ] at hu; rw [Nat.mul_comm]; exact hu)) (by omega) (by omega)]
      rw [Nat.add_sub_cancel, Nat.add_assoc]
      congr 3; omega
theorem dec_enc (u : Nat) (r : List UInt8) (h : u < 18446744073709551616) : dec 0 0 (encU u ++ r) = some (u, r) := by
  rw [dec_encU 9 0 u 0 r rfl (Nat.lt_of_lt_of_le h (by decide)) (.inl rfl) (by omega)]; simp
theorem dec_len : ∀ (bs : List UInt8) (i u v : Nat) (r : List UInt8), dec i u bs = some (v, r) → r.length ≤ bs.length
  | [], i, u, v, r, h => by simp [dec] at h
  | c :: bs, i, u, v, r, h => by
    simp only [dec] at h
    split at h
    · cases h
    · split at h
      · have := dec_len bs _ _ _ _ h
        simp only [List.length_cons]; omega
      · split at h
        · cases h
        · simp only [Option.some.injEq, Prod.mk.injEq] at h
          rw [← h.2]; simp
/-- what a reader reads -/
def rdN (bs : List UInt8) (lo hi : Int) : Option (Int × List UInt8) :=
  match dec 0 0 bs with
  | some (u, r) => if unzig u < lo ∨ hi < unzig u then none else some (unzig u, r)
  | none => none
theorem rdN_enc {v lo hi : Int} {r : List UInt8} (h0 : -9223372036854775808 ≤ lo) (h1 : hi ≤ 9223372036854775807) (h2 : lo ≤ v) (h3 : v ≤ hi) : rdN (encN v ++ r) lo hi = some (v, r) := by
  unfold rdN encN
  rw [dec_enc _ _ (zig_lt (by omega) (by omega))]
  simp only [unzig_zig]
  rw [if_neg (by omega)]
end Go.Eng
