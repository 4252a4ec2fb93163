/- Contracts: pack, what writes. -/
import Derived.Test.YtmojfpaagokckaaCBytes
import Derived.Test.YtmojfpaagokckaaPNum
import Derived.Test.YtmojfpaagokckaaBit
namespace Go.Proofs.Ytmojfpaagokckaa
set_option linter.unusedVariables false
set_option linter.unusedSimpArgs false
open Go Go.Eng

section
variable {W0 W : World} {L L' : List Asn}
theorem b8v {n : Nat} (h : n < 256) : vcells (Value.int .u8 (n : Int)) = B8.row (UInt8.ofNat n) := by rw [b8_ofNat h]; rfl
theorem packNum {a : Option Addr} {l : List UInt8} {c : Nat} {v : Int} {k : Value → World → Prop} (h : St W0 L W) [hr : Rd W0 L a B8 l] (hl : l.length < 70368744177664 - 10) (h0 : -9223372036854775808 ≤ v) (h1 : v ≤ 9223372036854775807)
    (hk : ∀ a' c' W', St W0 (arr B8 T_uint8 a' c' (l ++ encN v) :: L) W' → k (.slice a' (l ++ encN v).length c') W') : callK PR F_pack_Num [.slice a l.length c, .int .i64 v] k W := by
  apply S.pack_Num.call
  unfold S.pack_Num.body
  refine bytesClone h (by omega) fun a1 c1 W1 h => ?_
  simp -implicitDefEqProofs only [EN, lsub, lget, stL, beq_self_eq_true, ne_eq, if_true, if_false, List.cons_append, List.nil_append, Option.isNone_some, Option.isNone_none]
  refine okF_i (binP_shl (by decide)) ?_
  refine okF_i (binP_shr (by decide)) ?_
  simp -implicitDefEqProofs only [EN, lsub, lget, stL, beq_self_eq_true, ne_eq, if_true, if_false, List.cons_append, List.nil_append, Option.isNone_some, Option.isNone_none]
  rw [shl1, sar63 v h0 h1]
  have hx : IntKind.u64.bits = 64 := rfl
  rw [hx, zig_xor v h0 h1]
  refine joinK_i ?_
  have hz := zig_lt h0 h1
  refine loop_i (fun m s W => ∃ (a : Option Addr) (c u : Nat) (out : List UInt8), u = m ∧ u < 18446744073709551616 ∧ s = [.slice a out.length c, .int .u64 u] ∧ out ++ encU u = l ++ encN v ∧ St W0 (arr B8 T_uint8 a c out :: L) W)
    _ ⟨a1, c1, _, l, rfl, hz, rfl, rfl, h⟩ ?_
  rintro m s W2 ⟨a2, c2, u, out, rfl, hu, rfl, he, h⟩
  have hlen : out.length ≤ l.length + 10 := by
    have := congrArg List.length he
    have h10 := encN_le h0 h1
    simp only [List.length_append] at this
    omega
  simp -implicitDefEqProofs only [EN, lsub, lget, stL, beq_self_eq_true, ne_eq, if_true, if_false, List.cons_append, List.nil_append, Option.isNone_some, Option.isNone_none]
  unfold S.pack_Num.l1
  simp -implicitDefEqProofs only [EN, lsub, lget, stL, beq_self_eq_true, ne_eq, if_true, if_false, List.cons_append, List.nil_append, Option.isNone_some, Option.isNone_none]
  refine ifK_d (fun hge => ?_) (fun hlt => ?_)
  · rw [cvt8 u]
    rw [or8' (u % 256) (Nat.mod_lt _ (by decide))]
    refine pushA (UInt8.ofNat (u % 128 + 128)) h ?_ rfl (by omega) (by simp only [maxLen]; omega) (by decide) fun a3 c3 W3 h => ?_
    · rw [show u % 256 % 128 = u % 128 by omega]; exact b8v (by omega)
    refine okF_i (binP_shr (by decide)) ?_
    rw [show (7 : Int) = ((7 : Nat) : Int) from rfl, shr_u u 7 (by omega)]
    refine ⟨u / 128, by omega, a3, c3, u / 128, _, rfl, by omega, rfl, ?_, h⟩
    rw [← he, encU_big (u := u) (by omega)]; simp only [List.append_assoc, List.cons_append, List.nil_append]
  · unfold S.pack_Num.j1
    simp -implicitDefEqProofs only [EN, lsub, lget, stL, beq_self_eq_true, ne_eq, if_true, if_false, List.cons_append, List.nil_append, Option.isNone_some, Option.isNone_none]
    rw [cvt8 u]
    refine pushA (UInt8.ofNat u) h ?_ rfl (by omega) (by simp only [maxLen]; omega) (by decide) fun a3 c3 W3 h => ?_
    · rw [show u % 256 = u by omega]; exact b8v (by omega)
    have e : out ++ [UInt8.ofNat u] = l ++ encN v := by rw [← he, encU_small (u := u) (by omega)]
    rw [e] at h ⊢
    exact hk a3 c3 W3 h
theorem packBytes {a b : Option Addr} {l m : List UInt8} {c d : Nat} {k : Value → World → Prop} (h : St W0 L W) [hr : Rd W0 L a B8 l] [hr2 : Rd W0 L b B8 m] (hl : l.length < 35184372088832) (hm : m.length < 35184372088832)
    (hk : ∀ a' c' W', St W0 (arr B8 T_uint8 a' c' (l ++ encN m.length ++ m) :: L) W' → k (.slice a' (l ++ encN m.length ++ m).length c') W') : callK PR F_pack_Bytes [.slice a l.length c, .slice b m.length d] k W := by
  apply S.pack_Bytes.call
  unfold S.pack_Bytes.body
  simp -implicitDefEqProofs only [EN, lsub, lget, stL, beq_self_eq_true, ne_eq, if_true, if_false, List.cons_append, List.nil_append, Option.isNone_some, Option.isNone_none]
  refine packNum h (by omega) (by omega) (by omega) fun a1 c1 W1 h => ?_
  have := encN_le (v := m.length) (by omega) (by omega)
  refine appA (a := a1) (m := m) h rfl (by simp only [List.length_append]; omega) (by simp only [List.length_append, maxLen]; omega) fun a2 c2 W2 h => ?_
  exact hk a2 c2 W2 h
theorem packText {a : Option Addr} {l : List UInt8} {s : ByteArray} {c : Nat} {k : Value → World → Prop} (h : St W0 L W) [hr : Rd W0 L a B8 l] (hl : l.length < 35184372088832) (hm : s.size < 35184372088832)
    (hk : ∀ a' c' W', St W0 (arr B8 T_uint8 a' c' (l ++ encN s.size ++ s.data.toList) :: L) W' → k (.slice a' (l ++ encN s.size ++ s.data.toList).length c') W') : callK PR F_pack_Text [.slice a l.length c, .string s] k W := by
  apply S.pack_Text.call
  unfold S.pack_Text.body
  refine s2b h (by simp only [maxLen]; omega) fun a1 c1 W1 h => ?_
  refine packBytes (a := a) (b := a1) (l := l) (m := s.data.toList) h hl hm fun a2 c2 W2 h => ?_
  exact hk a2 c2 W2 h.drop2
end
end Go.Proofs.Ytmojfpaagokckaa
