/- Texts of the claim OrsetPlays, joined: CSlB2, Lay, COrs2, Mp4, ShPack, CBytes, CPackW. -/
import Derived.Test.YtmojfpaagokckaaBOrsetPlays5
import Derived.Test.YtmojfpaagokckaaBOrsetPlays2
import Derived.Shelf.SortM.SortNone
import Derived.Shelf.SlMaps.Clone
import Derived.Shelf.SlSortCmp.NoneTotal
import Derived.Test.YtmojfpaagokckaaBOrsetPlays3
import Derived.Test.YtmojfpaagokckaaBOrsetPlays4
namespace Go.Proofs.Ytmojfpaagokckaa
set_option linter.unusedVariables false
set_option linter.unusedSimpArgs false
open Go Go.Eng

def DT : Ly Dot := ⟨2, by omega, fun d => [.int .i64 d.rep, .int .i64 d.n], fun _ => rfl, fun _ => rfl⟩
theorem dot_eq (x y : Dot) : (decide (x.rep = y.rep) && decide (x.n = y.n)) = decide (x = y) := by
  cases x; cases y
  rw [Bool.eq_iff_iff]
  simp
theorem take_step {α : Type} {l m : List α} {i : Nat} (h : l.take i = m.take i) (hi : i < l.length) (hj : i < m.length) (he : l[i] = m[i]) : l.take (i + 1) = m.take (i + 1) := by
  rw [List.take_succ_eq_append_getElem hi, List.take_succ_eq_append_getElem hj, h, he]
section
variable {W0 W : World} {L L' : List Asn}
theorem equalStr {a b : Option Addr} {c d : Nat} {l m : List Bs} {k : Value → World → Prop} (h : St W0 L W) [hr : Rd W0 L a STB l] [hr2 : Rd W0 L b STB m] (hl : l.length < 4611686018427387904)
    (hk : ∀ W', St W0 L W' → k (.bool (decide (l = m))) W') : callK PR F_slices_Equal_string_string [.slice a l.length c, .slice b m.length d] k W := by
  apply S.slices_Equal_string_string.call
  unfold S.slices_Equal_string_string.body
  by_cases hn : l.length = m.length
  · have f1 : decide ((l.length : Int) = (m.length : Int)) = true := decide_eq_true (by omega)
    (repeat (first | (first | (with_reducible (first | refine w1 fun _ _ => ?_ | refine w3 fun _ _ _ => ?_ | refine w4 fun _ _ _ => ?_ | refine w11 fun _ _ _ => ?_ | refine stb_n ?_)) | ((with_reducible refine w2 ?_); try simp -implicitDefEqProofs only [EN, lsub, lget, stL, beq_self_eq_true, ne_eq, if_true, if_false, List.cons_append, List.nil_append, Option.isNone_some, Option.isNone_none, f1]; intro _ _) | ((with_reducible (first | refine w5 ?_ ?_ | refine w6 ?_ ?_ | refine w7 ?_ ?_)); simp; refine ⟨_, rfl, ?_⟩) | ((with_reducible (first | refine w8 ?_ ?_ ?_ | refine w9 ?_ ?_ ?_ | refine w10 ?_ ?_ ?_)); exact rfl; simp) | ((with_reducible refine w12 ?_ ?_ ?_ fun _ _ => ?_); simp; simp; simp [oneC]) | ((with_reducible (first | refine eqs ?_ | refine nes ?_)); refine ⟨_, rfl, ?_⟩) | ((refine okF_i (bldP_eq rfl) ?_); try simp only [BLS, List.take_succ_cons, List.take_zero, List.drop_succ_cons, List.drop_zero, List.cons_append, List.nil_append, Nat.reduceAdd])) | simp -implicitDefEqProofs only [EN, lsub, lget, stL, beq_self_eq_true, ne_eq, if_true, if_false, List.cons_append, List.nil_append, Option.isNone_some, Option.isNone_none, f1]))
    refine loop_c (σ := Unit) l.length (fun i _ => [.slice a l.length c, .slice b m.length d, .int .i64 l.length, .int .i64 i]) (fun i _ W1 => l.take i = m.take i ∧ St W0 L W1) () rfl ⟨rfl, h⟩ ?_
    clear h
    rintro K i _ W2 hi ⟨ht, h⟩ hK
    simp -implicitDefEqProofs only [EN, lsub, lget, stL, beq_self_eq_true, ne_eq, if_true, if_false, List.cons_append, List.nil_append, Option.isNone_some, Option.isNone_none]
    unfold S.slices_Equal_string_string.l1
    by_cases hlt : (i : Int) < (l.length : Int)
    · have hib : i < l.length := by omega
      have hjb : i < m.length := by omega
      have ew : IntKind.i64.wrap ((i : Int) + 1) = ((i + 1 : Nat) : Int) := by rw [i64w]; omega
      (repeat (first | (first | (with_reducible (first | refine w1 fun _ _ => ?_ | refine w3 fun _ _ _ => ?_ | refine w4 fun _ _ _ => ?_ | refine w11 fun _ _ _ => ?_ | refine stb_n ?_)) | ((with_reducible refine w2 ?_); try simp -implicitDefEqProofs only [EN, lsub, lget, stL, beq_self_eq_true, ne_eq, if_true, if_false, List.cons_append, List.nil_append, Option.isNone_some, Option.isNone_none, hlt]; intro _ _) | ((with_reducible (first | refine w5 ?_ ?_ | refine w6 ?_ ?_ | refine w7 ?_ ?_)); simp; refine ⟨_, rfl, ?_⟩) | ((with_reducible (first | refine w8 ?_ ?_ ?_ | refine w9 ?_ ?_ ?_ | refine w10 ?_ ?_ ?_)); exact rfl; simp) | ((with_reducible refine w12 ?_ ?_ ?_ fun _ _ => ?_); simp; simp; simp [oneC]) | ((with_reducible (first | refine eqs ?_ | refine nes ?_)); refine ⟨_, rfl, ?_⟩) | ((refine okF_i (bldP_eq rfl) ?_); try simp only [BLS, List.take_succ_cons, List.take_zero, List.drop_succ_cons, List.drop_zero, List.cons_append, List.nil_append, Nat.reduceAdd])) | simp -implicitDefEqProofs only [EN, lsub, lget, stL, beq_self_eq_true, ne_eq, if_true, if_false, List.cons_append, List.nil_append, Option.isNone_some, Option.isNone_none, hlt]))
      refine ixA (i := i) (a := a) (l := l) (A := STB) h.tick rfl rfl hib fun g o ha => ?_
      cases ha
      refine ldA0 (i := i) (l := l) (A := STB) h.tick rfl hib (v := sv l[i]) rfl (by simp) ?_
      refine ixA (i := i) (a := b) (l := m) (A := STB) h.tick rfl rfl hjb fun g' o' ha => ?_
      cases ha
      refine ldA0 (i := i) (l := m) (A := STB) h.tick rfl hjb (v := sv m[i]) rfl (by simp) ?_
      generalize hx : l[i] = x at *
      generalize hy : m[i] = y at *
      by_cases he : x = y
      · have f2 : decide ((⟨x.toArray⟩ : ByteArray) = ⟨y.toArray⟩) = true := by rw [ba_eq]; exact decide_eq_true he
        (repeat (first | (first | (with_reducible (first | refine w1 fun _ _ => ?_ | refine w3 fun _ _ _ => ?_ | refine w4 fun _ _ _ => ?_ | refine w11 fun _ _ _ => ?_ | refine stb_n ?_)) | ((with_reducible refine w2 ?_); try simp -implicitDefEqProofs only [EN, lsub, lget, stL, beq_self_eq_true, ne_eq, if_true, if_false, List.cons_append, List.nil_append, Option.isNone_some, Option.isNone_none, f2, ew]; intro _ _) | ((with_reducible (first | refine w5 ?_ ?_ | refine w6 ?_ ?_ | refine w7 ?_ ?_)); simp; refine ⟨_, rfl, ?_⟩) | ((with_reducible (first | refine w8 ?_ ?_ ?_ | refine w9 ?_ ?_ ?_ | refine w10 ?_ ?_ ?_)); exact rfl; simp) | ((with_reducible refine w12 ?_ ?_ ?_ fun _ _ => ?_); simp; simp; simp [oneC]) | ((with_reducible (first | refine eqs ?_ | refine nes ?_)); refine ⟨_, rfl, ?_⟩) | ((refine okF_i (bldP_eq rfl) ?_); try simp only [BLS, List.take_succ_cons, List.take_zero, List.drop_succ_cons, List.drop_zero, List.cons_append, List.nil_append, Nat.reduceAdd])) | simp -implicitDefEqProofs only [EN, lsub, lget, stL, beq_self_eq_true, ne_eq, if_true, if_false, List.cons_append, List.nil_append, Option.isNone_some, Option.isNone_none, f2, ew]))
        refine hK () _ hib ⟨take_step ht hib hjb (by rw [hx, hy, he]), h.tick⟩
      · have f2 : decide ((⟨x.toArray⟩ : ByteArray) = ⟨y.toArray⟩) = false := by rw [ba_eq]; exact decide_eq_false he
        have hne : decide (l = m) = false := decide_eq_false fun e => he (by subst e; rw [← hx, ← hy])
        rw [hne] at hk
        (repeat (first | (first | (with_reducible (first | refine w1 fun _ _ => ?_ | refine w3 fun _ _ _ => ?_ | refine w4 fun _ _ _ => ?_ | refine w11 fun _ _ _ => ?_ | refine stb_n ?_)) | ((with_reducible refine w2 ?_); try simp -implicitDefEqProofs only [EN, lsub, lget, stL, beq_self_eq_true, ne_eq, if_true, if_false, List.cons_append, List.nil_append, Option.isNone_some, Option.isNone_none, f2]; intro _ _) | ((with_reducible (first | refine w5 ?_ ?_ | refine w6 ?_ ?_ | refine w7 ?_ ?_)); simp; refine ⟨_, rfl, ?_⟩) | ((with_reducible (first | refine w8 ?_ ?_ ?_ | refine w9 ?_ ?_ ?_ | refine w10 ?_ ?_ ?_)); exact rfl; simp) | ((with_reducible refine w12 ?_ ?_ ?_ fun _ _ => ?_); simp; simp; simp [oneC]) | ((with_reducible (first | refine eqs ?_ | refine nes ?_)); refine ⟨_, rfl, ?_⟩) | ((refine okF_i (bldP_eq rfl) ?_); try simp only [BLS, List.take_succ_cons, List.take_zero, List.drop_succ_cons, List.drop_zero, List.cons_append, List.nil_append, Nat.reduceAdd])) | simp -implicitDefEqProofs only [EN, lsub, lget, stL, beq_self_eq_true, ne_eq, if_true, if_false, List.cons_append, List.nil_append, Option.isNone_some, Option.isNone_none, f2]))
        exact hk _ h.tick
    · (repeat (first | (first | (with_reducible (first | refine w1 fun _ _ => ?_ | refine w3 fun _ _ _ => ?_ | refine w4 fun _ _ _ => ?_ | refine w11 fun _ _ _ => ?_ | refine stb_n ?_)) | ((with_reducible refine w2 ?_); try simp -implicitDefEqProofs only [EN, lsub, lget, stL, beq_self_eq_true, ne_eq, if_true, if_false, List.cons_append, List.nil_append, Option.isNone_some, Option.isNone_none, hlt]; intro _ _) | ((with_reducible (first | refine w5 ?_ ?_ | refine w6 ?_ ?_ | refine w7 ?_ ?_)); simp; refine ⟨_, rfl, ?_⟩) | ((with_reducible (first | refine w8 ?_ ?_ ?_ | refine w9 ?_ ?_ ?_ | refine w10 ?_ ?_ ?_)); exact rfl; simp) | ((with_reducible refine w12 ?_ ?_ ?_ fun _ _ => ?_); simp; simp; simp [oneC]) | ((with_reducible (first | refine eqs ?_ | refine nes ?_)); refine ⟨_, rfl, ?_⟩) | ((refine okF_i (bldP_eq rfl) ?_); try simp only [BLS, List.take_succ_cons, List.take_zero, List.drop_succ_cons, List.drop_zero, List.cons_append, List.nil_append, Nat.reduceAdd])) | simp -implicitDefEqProofs only [EN, lsub, lget, stL, beq_self_eq_true, ne_eq, if_true, if_false, List.cons_append, List.nil_append, Option.isNone_some, Option.isNone_none, hlt]))
      have hall : l = m := by
        have := ht
        rw [List.take_of_length_le (by omega), List.take_of_length_le (by omega)] at this
        exact this
      rw [decide_eq_true hall] at hk
      exact hk _ h
  · have f1 : decide ((l.length : Int) = (m.length : Int)) = false := decide_eq_false (by omega)
    have hne : decide (l = m) = false := decide_eq_false fun e => hn (by rw [e])
    rw [hne] at hk
    (repeat (first | (first | (with_reducible (first | refine w1 fun _ _ => ?_ | refine w3 fun _ _ _ => ?_ | refine w4 fun _ _ _ => ?_ | refine w11 fun _ _ _ => ?_ | refine stb_n ?_)) | ((with_reducible refine w2 ?_); try simp -implicitDefEqProofs only [EN, lsub, lget, stL, beq_self_eq_true, ne_eq, if_true, if_false, List.cons_append, List.nil_append, Option.isNone_some, Option.isNone_none, f1]; intro _ _) | ((with_reducible (first | refine w5 ?_ ?_ | refine w6 ?_ ?_ | refine w7 ?_ ?_)); simp; refine ⟨_, rfl, ?_⟩) | ((with_reducible (first | refine w8 ?_ ?_ ?_ | refine w9 ?_ ?_ ?_ | refine w10 ?_ ?_ ?_)); exact rfl; simp) | ((with_reducible refine w12 ?_ ?_ ?_ fun _ _ => ?_); simp; simp; simp [oneC]) | ((with_reducible (first | refine eqs ?_ | refine nes ?_)); refine ⟨_, rfl, ?_⟩) | ((refine okF_i (bldP_eq rfl) ?_); try simp only [BLS, List.take_succ_cons, List.take_zero, List.drop_succ_cons, List.drop_zero, List.cons_append, List.nil_append, Nat.reduceAdd])) | simp -implicitDefEqProofs only [EN, lsub, lget, stL, beq_self_eq_true, ne_eq, if_true, if_false, List.cons_append, List.nil_append, Option.isNone_some, Option.isNone_none, f1]))
    exact hk _ h
theorem equalDot {a b : Option Addr} {c d : Nat} {l m : List Dot} {k : Value → World → Prop} (h : St W0 L W) [hr : Rd W0 L a DT l] [hr2 : Rd W0 L b DT m] (hl : l.length < 4611686018427387904)
    (hk : ∀ W', St W0 L W' → k (.bool (decide (l = m))) W') : callK PR F_slices_Equal_api_Dot_api_Dot [.slice a l.length c, .slice b m.length d] k W := by
  apply S.slices_Equal_api_Dot_api_Dot.call
  unfold S.slices_Equal_api_Dot_api_Dot.body
  by_cases hn : l.length = m.length
  · have f1 : decide ((l.length : Int) = (m.length : Int)) = true := decide_eq_true (by omega)
    (repeat (first | (first | (with_reducible (first | refine w1 fun _ _ => ?_ | refine w3 fun _ _ _ => ?_ | refine w4 fun _ _ _ => ?_ | refine w11 fun _ _ _ => ?_ | refine stb_n ?_)) | ((with_reducible refine w2 ?_); try simp -implicitDefEqProofs only [EN, lsub, lget, stL, beq_self_eq_true, ne_eq, if_true, if_false, List.cons_append, List.nil_append, Option.isNone_some, Option.isNone_none, f1]; intro _ _) | ((with_reducible (first | refine w5 ?_ ?_ | refine w6 ?_ ?_ | refine w7 ?_ ?_)); simp; refine ⟨_, rfl, ?_⟩) | ((with_reducible (first | refine w8 ?_ ?_ ?_ | refine w9 ?_ ?_ ?_ | refine w10 ?_ ?_ ?_)); exact rfl; simp) | ((with_reducible refine w12 ?_ ?_ ?_ fun _ _ => ?_); simp; simp; simp [oneC]) | ((with_reducible (first | refine eqs ?_ | refine nes ?_)); refine ⟨_, rfl, ?_⟩) | ((refine okF_i (bldP_eq rfl) ?_); try simp only [BLS, List.take_succ_cons, List.take_zero, List.drop_succ_cons, List.drop_zero, List.cons_append, List.nil_append, Nat.reduceAdd])) | simp -implicitDefEqProofs only [EN, lsub, lget, stL, beq_self_eq_true, ne_eq, if_true, if_false, List.cons_append, List.nil_append, Option.isNone_some, Option.isNone_none, f1]))
    refine loop_c (σ := Unit) l.length (fun i _ => [.slice a l.length c, .slice b m.length d, .int .i64 l.length, .int .i64 i]) (fun i _ W1 => l.take i = m.take i ∧ St W0 L W1) () rfl ⟨rfl, h⟩ ?_
    clear h
    rintro K i _ W2 hi ⟨ht, h⟩ hK
    simp -implicitDefEqProofs only [EN, lsub, lget, stL, beq_self_eq_true, ne_eq, if_true, if_false, List.cons_append, List.nil_append, Option.isNone_some, Option.isNone_none]
    unfold S.slices_Equal_api_Dot_api_Dot.l1
    by_cases hlt : (i : Int) < (l.length : Int)
    · have hib : i < l.length := by omega
      have hjb : i < m.length := by omega
      have ew : IntKind.i64.wrap ((i : Int) + 1) = ((i + 1 : Nat) : Int) := by rw [i64w]; omega
      (repeat (first | (first | (with_reducible (first | refine w1 fun _ _ => ?_ | refine w3 fun _ _ _ => ?_ | refine w4 fun _ _ _ => ?_ | refine w11 fun _ _ _ => ?_ | refine stb_n ?_)) | ((with_reducible refine w2 ?_); try simp -implicitDefEqProofs only [EN, lsub, lget, stL, beq_self_eq_true, ne_eq, if_true, if_false, List.cons_append, List.nil_append, Option.isNone_some, Option.isNone_none, hlt]; intro _ _) | ((with_reducible (first | refine w5 ?_ ?_ | refine w6 ?_ ?_ | refine w7 ?_ ?_)); simp; refine ⟨_, rfl, ?_⟩) | ((with_reducible (first | refine w8 ?_ ?_ ?_ | refine w9 ?_ ?_ ?_ | refine w10 ?_ ?_ ?_)); exact rfl; simp) | ((with_reducible refine w12 ?_ ?_ ?_ fun _ _ => ?_); simp; simp; simp [oneC]) | ((with_reducible (first | refine eqs ?_ | refine nes ?_)); refine ⟨_, rfl, ?_⟩) | ((refine okF_i (bldP_eq rfl) ?_); try simp only [BLS, List.take_succ_cons, List.take_zero, List.drop_succ_cons, List.drop_zero, List.cons_append, List.nil_append, Nat.reduceAdd])) | simp -implicitDefEqProofs only [EN, lsub, lget, stL, beq_self_eq_true, ne_eq, if_true, if_false, List.cons_append, List.nil_append, Option.isNone_some, Option.isNone_none, hlt]))
      refine ixA (i := i) (a := a) (l := l) (A := DT) h.tick rfl rfl hib fun g o ha => ?_
      cases ha
      refine ldA0 (i := i) (l := l) (A := DT) h.tick rfl hib (v := .agg #[.int .i64 (l[i]).rep, .int .i64 (l[i]).n]) rfl (by simp) ?_
      refine ixA (i := i) (a := b) (l := m) (A := DT) h.tick rfl rfl hjb fun g' o' ha => ?_
      cases ha
      refine ldA0 (i := i) (l := m) (A := DT) h.tick rfl hjb (v := .agg #[.int .i64 (m[i]).rep, .int .i64 (m[i]).n]) rfl (by simp) ?_
      generalize hx : l[i] = x at *
      generalize hy : m[i] = y at *
      by_cases he : x = y
      · have f2 : (decide (x.rep = y.rep) && decide (x.n = y.n)) = true := by rw [dot_eq]; exact decide_eq_true he
        (repeat (first | (first | (with_reducible (first | refine w1 fun _ _ => ?_ | refine w3 fun _ _ _ => ?_ | refine w4 fun _ _ _ => ?_ | refine w11 fun _ _ _ => ?_ | refine stb_n ?_)) | ((with_reducible refine w2 ?_); try simp -implicitDefEqProofs only [EN, lsub, lget, stL, beq_self_eq_true, ne_eq, if_true, if_false, List.cons_append, List.nil_append, Option.isNone_some, Option.isNone_none, f2, ew]; intro _ _) | ((with_reducible (first | refine w5 ?_ ?_ | refine w6 ?_ ?_ | refine w7 ?_ ?_)); simp; refine ⟨_, rfl, ?_⟩) | ((with_reducible (first | refine w8 ?_ ?_ ?_ | refine w9 ?_ ?_ ?_ | refine w10 ?_ ?_ ?_)); exact rfl; simp) | ((with_reducible refine w12 ?_ ?_ ?_ fun _ _ => ?_); simp; simp; simp [oneC]) | ((with_reducible (first | refine eqs ?_ | refine nes ?_)); refine ⟨_, rfl, ?_⟩) | ((refine okF_i (bldP_eq rfl) ?_); try simp only [BLS, List.take_succ_cons, List.take_zero, List.drop_succ_cons, List.drop_zero, List.cons_append, List.nil_append, Nat.reduceAdd])) | simp -implicitDefEqProofs only [EN, lsub, lget, stL, beq_self_eq_true, ne_eq, if_true, if_false, List.cons_append, List.nil_append, Option.isNone_some, Option.isNone_none, f2, ew]))
        refine hK () _ hib ⟨take_step ht hib hjb (by rw [hx, hy, he]), h.tick⟩
      · have f2 : (decide (x.rep = y.rep) && decide (x.n = y.n)) = false := by rw [dot_eq]; exact decide_eq_false he
        have hne : decide (l = m) = false := decide_eq_false fun e => he (by subst e; rw [← hx, ← hy])
        rw [hne] at hk
        (repeat (first | (first | (with_reducible (first | refine w1 fun _ _ => ?_ | refine w3 fun _ _ _ => ?_ | refine w4 fun _ _ _ => ?_ | refine w11 fun _ _ _ => ?_ | refine stb_n ?_)) | ((with_reducible refine w2 ?_); try simp -implicitDefEqProofs only [EN, lsub, lget, stL, beq_self_eq_true, ne_eq, if_true, if_false, List.cons_append, List.nil_append, Option.isNone_some, Option.isNone_none, f2]; intro _ _) | ((with_reducible (first | refine w5 ?_ ?_ | refine w6 ?_ ?_ | refine w7 ?_ ?_)); simp; refine ⟨_, rfl, ?_⟩) | ((with_reducible (first | refine w8 ?_ ?_ ?_ | refine w9 ?_ ?_ ?_ | refine w10 ?_ ?_ ?_)); exact rfl; simp) | ((with_reducible refine w12 ?_ ?_ ?_ fun _ _ => ?_); simp; simp; simp [oneC]) | ((with_reducible (first | refine eqs ?_ | refine nes ?_)); refine ⟨_, rfl, ?_⟩) | ((refine okF_i (bldP_eq rfl) ?_); try simp only [BLS, List.take_succ_cons, List.take_zero, List.drop_succ_cons, List.drop_zero, List.cons_append, List.nil_append, Nat.reduceAdd])) | simp -implicitDefEqProofs only [EN, lsub, lget, stL, beq_self_eq_true, ne_eq, if_true, if_false, List.cons_append, List.nil_append, Option.isNone_some, Option.isNone_none, f2]))
        exact hk _ h.tick
    · (repeat (first | (first | (with_reducible (first | refine w1 fun _ _ => ?_ | refine w3 fun _ _ _ => ?_ | refine w4 fun _ _ _ => ?_ | refine w11 fun _ _ _ => ?_ | refine stb_n ?_)) | ((with_reducible refine w2 ?_); try simp -implicitDefEqProofs only [EN, lsub, lget, stL, beq_self_eq_true, ne_eq, if_true, if_false, List.cons_append, List.nil_append, Option.isNone_some, Option.isNone_none, hlt]; intro _ _) | ((with_reducible (first | refine w5 ?_ ?_ | refine w6 ?_ ?_ | refine w7 ?_ ?_)); simp; refine ⟨_, rfl, ?_⟩) | ((with_reducible (first | refine w8 ?_ ?_ ?_ | refine w9 ?_ ?_ ?_ | refine w10 ?_ ?_ ?_)); exact rfl; simp) | ((with_reducible refine w12 ?_ ?_ ?_ fun _ _ => ?_); simp; simp; simp [oneC]) | ((with_reducible (first | refine eqs ?_ | refine nes ?_)); refine ⟨_, rfl, ?_⟩) | ((refine okF_i (bldP_eq rfl) ?_); try simp only [BLS, List.take_succ_cons, List.take_zero, List.drop_succ_cons, List.drop_zero, List.cons_append, List.nil_append, Nat.reduceAdd])) | simp -implicitDefEqProofs only [EN, lsub, lget, stL, beq_self_eq_true, ne_eq, if_true, if_false, List.cons_append, List.nil_append, Option.isNone_some, Option.isNone_none, hlt]))
      have hall : l = m := by
        have := ht
        rw [List.take_of_length_le (by omega), List.take_of_length_le (by omega)] at this
        exact this
      rw [decide_eq_true hall] at hk
      exact hk _ h
  · have f1 : decide ((l.length : Int) = (m.length : Int)) = false := decide_eq_false (by omega)
    have hne : decide (l = m) = false := decide_eq_false fun e => hn (by rw [e])
    rw [hne] at hk
    (repeat (first | (first | (with_reducible (first | refine w1 fun _ _ => ?_ | refine w3 fun _ _ _ => ?_ | refine w4 fun _ _ _ => ?_ | refine w11 fun _ _ _ => ?_ | refine stb_n ?_)) | ((with_reducible refine w2 ?_); try simp -implicitDefEqProofs only [EN, lsub, lget, stL, beq_self_eq_true, ne_eq, if_true, if_false, List.cons_append, List.nil_append, Option.isNone_some, Option.isNone_none, f1]; intro _ _) | ((with_reducible (first | refine w5 ?_ ?_ | refine w6 ?_ ?_ | refine w7 ?_ ?_)); simp; refine ⟨_, rfl, ?_⟩) | ((with_reducible (first | refine w8 ?_ ?_ ?_ | refine w9 ?_ ?_ ?_ | refine w10 ?_ ?_ ?_)); exact rfl; simp) | ((with_reducible refine w12 ?_ ?_ ?_ fun _ _ => ?_); simp; simp; simp [oneC]) | ((with_reducible (first | refine eqs ?_ | refine nes ?_)); refine ⟨_, rfl, ?_⟩) | ((refine okF_i (bldP_eq rfl) ?_); try simp only [BLS, List.take_succ_cons, List.take_zero, List.drop_succ_cons, List.drop_zero, List.cons_append, List.nil_append, Nat.reduceAdd])) | simp -implicitDefEqProofs only [EN, lsub, lget, stL, beq_self_eq_true, ne_eq, if_true, if_false, List.cons_append, List.nil_append, Option.isNone_some, Option.isNone_none, f1]))
    exact hk _ h
theorem lawTexts {a b : Option Addr} {c d : Nat} {l m : List Bs} {k : Value → World → Prop} (h : St W0 L W) [hr : Rd W0 L a STB l] [hr2 : Rd W0 L b STB m] (hl : l.length < 4611686018427387904)
    (hk : ∀ W', St W0 L W' → k (.bool (decide (l = m))) W') : callK PR F_rostrumlaw9_texts [.slice a l.length c, .slice b m.length d] k W := by
  apply S.rostrumlaw9_texts.call
  unfold S.rostrumlaw9_texts.body
  by_cases hn : l.length = m.length
  · have f1 : decide ((l.length : Int) = (m.length : Int)) = true := decide_eq_true (by omega)
    (repeat (first | (first | (with_reducible (first | refine w1 fun _ _ => ?_ | refine w3 fun _ _ _ => ?_ | refine w4 fun _ _ _ => ?_ | refine w11 fun _ _ _ => ?_ | refine stb_n ?_)) | ((with_reducible refine w2 ?_); try simp -implicitDefEqProofs only [EN, lsub, lget, stL, beq_self_eq_true, ne_eq, if_true, if_false, List.cons_append, List.nil_append, Option.isNone_some, Option.isNone_none, f1]; intro _ _) | ((with_reducible (first | refine w5 ?_ ?_ | refine w6 ?_ ?_ | refine w7 ?_ ?_)); simp; refine ⟨_, rfl, ?_⟩) | ((with_reducible (first | refine w8 ?_ ?_ ?_ | refine w9 ?_ ?_ ?_ | refine w10 ?_ ?_ ?_)); exact rfl; simp) | ((with_reducible refine w12 ?_ ?_ ?_ fun _ _ => ?_); simp; simp; simp [oneC]) | ((with_reducible (first | refine eqs ?_ | refine nes ?_)); refine ⟨_, rfl, ?_⟩) | ((refine okF_i (bldP_eq rfl) ?_); try simp only [BLS, List.take_succ_cons, List.take_zero, List.drop_succ_cons, List.drop_zero, List.cons_append, List.nil_append, Nat.reduceAdd])) | simp -implicitDefEqProofs only [EN, lsub, lget, stL, beq_self_eq_true, ne_eq, if_true, if_false, List.cons_append, List.nil_append, Option.isNone_some, Option.isNone_none, f1]))
    refine loop_c (σ := Unit) l.length (fun i _ => [.slice a l.length c, .slice b m.length d, .int .i64 i]) (fun i _ W1 => l.take i = m.take i ∧ St W0 L W1) () rfl ⟨rfl, h⟩ ?_
    clear h
    rintro K i _ W2 hi ⟨ht, h⟩ hK
    simp -implicitDefEqProofs only [EN, lsub, lget, stL, beq_self_eq_true, ne_eq, if_true, if_false, List.cons_append, List.nil_append, Option.isNone_some, Option.isNone_none]
    unfold S.rostrumlaw9_texts.l1
    by_cases hlt : (i : Int) < (l.length : Int)
    · have hib : i < l.length := by omega
      have hjb : i < m.length := by omega
      have ew : IntKind.i64.wrap ((i : Int) + 1) = ((i + 1 : Nat) : Int) := by rw [i64w]; omega
      (repeat (first | (first | (with_reducible (first | refine w1 fun _ _ => ?_ | refine w3 fun _ _ _ => ?_ | refine w4 fun _ _ _ => ?_ | refine w11 fun _ _ _ => ?_ | refine stb_n ?_)) | ((with_reducible refine w2 ?_); try simp -implicitDefEqProofs only [EN, lsub, lget, stL, beq_self_eq_true, ne_eq, if_true, if_false, List.cons_append, List.nil_append, Option.isNone_some, Option.isNone_none, hlt]; intro _ _) | ((with_reducible (first | refine w5 ?_ ?_ | refine w6 ?_ ?_ | refine w7 ?_ ?_)); simp; refine ⟨_, rfl, ?_⟩) | ((with_reducible (first | refine w8 ?_ ?_ ?_ | refine w9 ?_ ?_ ?_ | refine w10 ?_ ?_ ?_)); exact rfl; simp) | ((with_reducible refine w12 ?_ ?_ ?_ fun _ _ => ?_); simp; simp; simp [oneC]) | ((with_reducible (first | refine eqs ?_ | refine nes ?_)); refine ⟨_, rfl, ?_⟩) | ((refine okF_i (bldP_eq rfl) ?_); try simp only [BLS, List.take_succ_cons, List.take_zero, List.drop_succ_cons, List.drop_zero, List.cons_append, List.nil_append, Nat.reduceAdd])) | simp -implicitDefEqProofs only [EN, lsub, lget, stL, beq_self_eq_true, ne_eq, if_true, if_false, List.cons_append, List.nil_append, Option.isNone_some, Option.isNone_none, hlt]))
      refine ixA (i := i) (a := a) (l := l) (A := STB) h.tick rfl rfl hib fun g o ha => ?_
      cases ha
      refine ldA0 (i := i) (l := l) (A := STB) h.tick rfl hib (v := sv l[i]) rfl (by simp) ?_
      refine ixA (i := i) (a := b) (l := m) (A := STB) h.tick rfl rfl hjb fun g' o' ha => ?_
      cases ha
      refine ldA0 (i := i) (l := m) (A := STB) h.tick rfl hjb (v := sv m[i]) rfl (by simp) ?_
      generalize hx : l[i] = x at *
      generalize hy : m[i] = y at *
      by_cases he : x = y
      · have f2 : decide ((⟨x.toArray⟩ : ByteArray) = ⟨y.toArray⟩) = true := by rw [ba_eq]; exact decide_eq_true he
        (repeat (first | (first | (with_reducible (first | refine w1 fun _ _ => ?_ | refine w3 fun _ _ _ => ?_ | refine w4 fun _ _ _ => ?_ | refine w11 fun _ _ _ => ?_ | refine stb_n ?_)) | ((with_reducible refine w2 ?_); try simp -implicitDefEqProofs only [EN, lsub, lget, stL, beq_self_eq_true, ne_eq, if_true, if_false, List.cons_append, List.nil_append, Option.isNone_some, Option.isNone_none, f2, ew]; intro _ _) | ((with_reducible (first | refine w5 ?_ ?_ | refine w6 ?_ ?_ | refine w7 ?_ ?_)); simp; refine ⟨_, rfl, ?_⟩) | ((with_reducible (first | refine w8 ?_ ?_ ?_ | refine w9 ?_ ?_ ?_ | refine w10 ?_ ?_ ?_)); exact rfl; simp) | ((with_reducible refine w12 ?_ ?_ ?_ fun _ _ => ?_); simp; simp; simp [oneC]) | ((with_reducible (first | refine eqs ?_ | refine nes ?_)); refine ⟨_, rfl, ?_⟩) | ((refine okF_i (bldP_eq rfl) ?_); try simp only [BLS, List.take_succ_cons, List.take_zero, List.drop_succ_cons, List.drop_zero, List.cons_append, List.nil_append, Nat.reduceAdd])) | simp -implicitDefEqProofs only [EN, lsub, lget, stL, beq_self_eq_true, ne_eq, if_true, if_false, List.cons_append, List.nil_append, Option.isNone_some, Option.isNone_none, f2, ew]))
        refine hK () _ hib ⟨take_step ht hib hjb (by rw [hx, hy, he]), h.tick⟩
      · have f2 : decide ((⟨x.toArray⟩ : ByteArray) = ⟨y.toArray⟩) = false := by rw [ba_eq]; exact decide_eq_false he
        have hne : decide (l = m) = false := decide_eq_false fun e => he (by subst e; rw [← hx, ← hy])
        rw [hne] at hk
        (repeat (first | (first | (with_reducible (first | refine w1 fun _ _ => ?_ | refine w3 fun _ _ _ => ?_ | refine w4 fun _ _ _ => ?_ | refine w11 fun _ _ _ => ?_ | refine stb_n ?_)) | ((with_reducible refine w2 ?_); try simp -implicitDefEqProofs only [EN, lsub, lget, stL, beq_self_eq_true, ne_eq, if_true, if_false, List.cons_append, List.nil_append, Option.isNone_some, Option.isNone_none, f2]; intro _ _) | ((with_reducible (first | refine w5 ?_ ?_ | refine w6 ?_ ?_ | refine w7 ?_ ?_)); simp; refine ⟨_, rfl, ?_⟩) | ((with_reducible (first | refine w8 ?_ ?_ ?_ | refine w9 ?_ ?_ ?_ | refine w10 ?_ ?_ ?_)); exact rfl; simp) | ((with_reducible refine w12 ?_ ?_ ?_ fun _ _ => ?_); simp; simp; simp [oneC]) | ((with_reducible (first | refine eqs ?_ | refine nes ?_)); refine ⟨_, rfl, ?_⟩) | ((refine okF_i (bldP_eq rfl) ?_); try simp only [BLS, List.take_succ_cons, List.take_zero, List.drop_succ_cons, List.drop_zero, List.cons_append, List.nil_append, Nat.reduceAdd])) | simp -implicitDefEqProofs only [EN, lsub, lget, stL, beq_self_eq_true, ne_eq, if_true, if_false, List.cons_append, List.nil_append, Option.isNone_some, Option.isNone_none, f2]))
        exact hk _ h.tick
    · (repeat (first | (first | (with_reducible (first | refine w1 fun _ _ => ?_ | refine w3 fun _ _ _ => ?_ | refine w4 fun _ _ _ => ?_ | refine w11 fun _ _ _ => ?_ | refine stb_n ?_)) | ((with_reducible refine w2 ?_); try simp -implicitDefEqProofs only [EN, lsub, lget, stL, beq_self_eq_true, ne_eq, if_true, if_false, List.cons_append, List.nil_append, Option.isNone_some, Option.isNone_none, hlt]; intro _ _) | ((with_reducible (first | refine w5 ?_ ?_ | refine w6 ?_ ?_ | refine w7 ?_ ?_)); simp; refine ⟨_, rfl, ?_⟩) | ((with_reducible (first | refine w8 ?_ ?_ ?_ | refine w9 ?_ ?_ ?_ | refine w10 ?_ ?_ ?_)); exact rfl; simp) | ((with_reducible refine w12 ?_ ?_ ?_ fun _ _ => ?_); simp; simp; simp [oneC]) | ((with_reducible (first | refine eqs ?_ | refine nes ?_)); refine ⟨_, rfl, ?_⟩) | ((refine okF_i (bldP_eq rfl) ?_); try simp only [BLS, List.take_succ_cons, List.take_zero, List.drop_succ_cons, List.drop_zero, List.cons_append, List.nil_append, Nat.reduceAdd])) | simp -implicitDefEqProofs only [EN, lsub, lget, stL, beq_self_eq_true, ne_eq, if_true, if_false, List.cons_append, List.nil_append, Option.isNone_some, Option.isNone_none, hlt]))
      have hall : l = m := by
        have := ht
        rw [List.take_of_length_le (by omega), List.take_of_length_le (by omega)] at this
        exact this
      rw [decide_eq_true hall] at hk
      exact hk _ h
  · have f1 : decide ((l.length : Int) = (m.length : Int)) = false := decide_eq_false (by omega)
    have hne : decide (l = m) = false := decide_eq_false fun e => hn (by rw [e])
    rw [hne] at hk
    (repeat (first | (first | (with_reducible (first | refine w1 fun _ _ => ?_ | refine w3 fun _ _ _ => ?_ | refine w4 fun _ _ _ => ?_ | refine w11 fun _ _ _ => ?_ | refine stb_n ?_)) | ((with_reducible refine w2 ?_); try simp -implicitDefEqProofs only [EN, lsub, lget, stL, beq_self_eq_true, ne_eq, if_true, if_false, List.cons_append, List.nil_append, Option.isNone_some, Option.isNone_none, f1]; intro _ _) | ((with_reducible (first | refine w5 ?_ ?_ | refine w6 ?_ ?_ | refine w7 ?_ ?_)); simp; refine ⟨_, rfl, ?_⟩) | ((with_reducible (first | refine w8 ?_ ?_ ?_ | refine w9 ?_ ?_ ?_ | refine w10 ?_ ?_ ?_)); exact rfl; simp) | ((with_reducible refine w12 ?_ ?_ ?_ fun _ _ => ?_); simp; simp; simp [oneC]) | ((with_reducible (first | refine eqs ?_ | refine nes ?_)); refine ⟨_, rfl, ?_⟩) | ((refine okF_i (bldP_eq rfl) ?_); try simp only [BLS, List.take_succ_cons, List.take_zero, List.drop_succ_cons, List.drop_zero, List.cons_append, List.nil_append, Nat.reduceAdd])) | simp -implicitDefEqProofs only [EN, lsub, lget, stL, beq_self_eq_true, ne_eq, if_true, if_false, List.cons_append, List.nil_append, Option.isNone_some, Option.isNone_none, f1]))
    exact hk _ h
theorem refSameDots {a b : Option Addr} {c d : Nat} {l m : List Dot} {k : Value → World → Prop} (h : St W0 L W) [hr : Rd W0 L a DT l] [hr2 : Rd W0 L b DT m] (hl : l.length < 4611686018427387904)
    (hk : ∀ W', St W0 L W' → k (.bool (decide (l = m))) W') : callK PR F_rostrumref7_SameDots [.slice a l.length c, .slice b m.length d] k W := by
  apply S.rostrumref7_SameDots.call
  unfold S.rostrumref7_SameDots.body
  by_cases hn : l.length = m.length
  · have f1 : decide ((l.length : Int) = (m.length : Int)) = true := decide_eq_true (by omega)
    (repeat (first | (first | (with_reducible (first | refine w1 fun _ _ => ?_ | refine w3 fun _ _ _ => ?_ | refine w4 fun _ _ _ => ?_ | refine w11 fun _ _ _ => ?_ | refine stb_n ?_)) | ((with_reducible refine w2 ?_); try simp -implicitDefEqProofs only [EN, lsub, lget, stL, beq_self_eq_true, ne_eq, if_true, if_false, List.cons_append, List.nil_append, Option.isNone_some, Option.isNone_none, f1]; intro _ _) | ((with_reducible (first | refine w5 ?_ ?_ | refine w6 ?_ ?_ | refine w7 ?_ ?_)); simp; refine ⟨_, rfl, ?_⟩) | ((with_reducible (first | refine w8 ?_ ?_ ?_ | refine w9 ?_ ?_ ?_ | refine w10 ?_ ?_ ?_)); exact rfl; simp) | ((with_reducible refine w12 ?_ ?_ ?_ fun _ _ => ?_); simp; simp; simp [oneC]) | ((with_reducible (first | refine eqs ?_ | refine nes ?_)); refine ⟨_, rfl, ?_⟩) | ((refine okF_i (bldP_eq rfl) ?_); try simp only [BLS, List.take_succ_cons, List.take_zero, List.drop_succ_cons, List.drop_zero, List.cons_append, List.nil_append, Nat.reduceAdd])) | simp -implicitDefEqProofs only [EN, lsub, lget, stL, beq_self_eq_true, ne_eq, if_true, if_false, List.cons_append, List.nil_append, Option.isNone_some, Option.isNone_none, f1]))
    refine loop_c (σ := Unit) l.length (fun i _ => [.slice a l.length c, .slice b m.length d, .int .i64 i]) (fun i _ W1 => l.take i = m.take i ∧ St W0 L W1) () rfl ⟨rfl, h⟩ ?_
    clear h
    rintro K i _ W2 hi ⟨ht, h⟩ hK
    simp -implicitDefEqProofs only [EN, lsub, lget, stL, beq_self_eq_true, ne_eq, if_true, if_false, List.cons_append, List.nil_append, Option.isNone_some, Option.isNone_none]
    unfold S.rostrumref7_SameDots.l1
    by_cases hlt : (i : Int) < (l.length : Int)
    · have hib : i < l.length := by omega
      have hjb : i < m.length := by omega
      have ew : IntKind.i64.wrap ((i : Int) + 1) = ((i + 1 : Nat) : Int) := by rw [i64w]; omega
      (repeat (first | (first | (with_reducible (first | refine w1 fun _ _ => ?_ | refine w3 fun _ _ _ => ?_ | refine w4 fun _ _ _ => ?_ | refine w11 fun _ _ _ => ?_ | refine stb_n ?_)) | ((with_reducible refine w2 ?_); try simp -implicitDefEqProofs only [EN, lsub, lget, stL, beq_self_eq_true, ne_eq, if_true, if_false, List.cons_append, List.nil_append, Option.isNone_some, Option.isNone_none, hlt]; intro _ _) | ((with_reducible (first | refine w5 ?_ ?_ | refine w6 ?_ ?_ | refine w7 ?_ ?_)); simp; refine ⟨_, rfl, ?_⟩) | ((with_reducible (first | refine w8 ?_ ?_ ?_ | refine w9 ?_ ?_ ?_ | refine w10 ?_ ?_ ?_)); exact rfl; simp) | ((with_reducible refine w12 ?_ ?_ ?_ fun _ _ => ?_); simp; simp; simp [oneC]) | ((with_reducible (first | refine eqs ?_ | refine nes ?_)); refine ⟨_, rfl, ?_⟩) | ((refine okF_i (bldP_eq rfl) ?_); try simp only [BLS, List.take_succ_cons, List.take_zero, List.drop_succ_cons, List.drop_zero, List.cons_append, List.nil_append, Nat.reduceAdd])) | simp -implicitDefEqProofs only [EN, lsub, lget, stL, beq_self_eq_true, ne_eq, if_true, if_false, List.cons_append, List.nil_append, Option.isNone_some, Option.isNone_none, hlt]))
      refine ixA (i := i) (a := a) (l := l) (A := DT) h.tick rfl rfl hib fun g o ha => ?_
      cases ha
      refine ldA0 (i := i) (l := l) (A := DT) h.tick rfl hib (v := .agg #[.int .i64 (l[i]).rep, .int .i64 (l[i]).n]) rfl (by simp) ?_
      refine ixA (i := i) (a := b) (l := m) (A := DT) h.tick rfl rfl hjb fun g' o' ha => ?_
      cases ha
      refine ldA0 (i := i) (l := m) (A := DT) h.tick rfl hjb (v := .agg #[.int .i64 (m[i]).rep, .int .i64 (m[i]).n]) rfl (by simp) ?_
      generalize hx : l[i] = x at *
      generalize hy : m[i] = y at *
      by_cases he : x = y
      · have f2 : (decide (x.rep = y.rep) && decide (x.n = y.n)) = true := by rw [dot_eq]; exact decide_eq_true he
        (repeat (first | (first | (with_reducible (first | refine w1 fun _ _ => ?_ | refine w3 fun _ _ _ => ?_ | refine w4 fun _ _ _ => ?_ | refine w11 fun _ _ _ => ?_ | refine stb_n ?_)) | ((with_reducible refine w2 ?_); try simp -implicitDefEqProofs only [EN, lsub, lget, stL, beq_self_eq_true, ne_eq, if_true, if_false, List.cons_append, List.nil_append, Option.isNone_some, Option.isNone_none, f2, ew]; intro _ _) | ((with_reducible (first | refine w5 ?_ ?_ | refine w6 ?_ ?_ | refine w7 ?_ ?_)); simp; refine ⟨_, rfl, ?_⟩) | ((with_reducible (first | refine w8 ?_ ?_ ?_ | refine w9 ?_ ?_ ?_ | refine w10 ?_ ?_ ?_)); exact rfl; simp) | ((with_reducible refine w12 ?_ ?_ ?_ fun _ _ => ?_); simp; simp; simp [oneC]) | ((with_reducible (first | refine eqs ?_ | refine nes ?_)); refine ⟨_, rfl, ?_⟩) | ((refine okF_i (bldP_eq rfl) ?_); try simp only [BLS, List.take_succ_cons, List.take_zero, List.drop_succ_cons, List.drop_zero, List.cons_append, List.nil_append, Nat.reduceAdd])) | simp -implicitDefEqProofs only [EN, lsub, lget, stL, beq_self_eq_true, ne_eq, if_true, if_false, List.cons_append, List.nil_append, Option.isNone_some, Option.isNone_none, f2, ew]))
        refine hK () _ hib ⟨take_step ht hib hjb (by rw [hx, hy, he]), h.tick⟩
      · have f2 : (decide (x.rep = y.rep) && decide (x.n = y.n)) = false := by rw [dot_eq]; exact decide_eq_false he
        have hne : decide (l = m) = false := decide_eq_false fun e => he (by subst e; rw [← hx, ← hy])
        rw [hne] at hk
        (repeat (first | (first | (with_reducible (first | refine w1 fun _ _ => ?_ | refine w3 fun _ _ _ => ?_ | refine w4 fun _ _ _ => ?_ | refine w11 fun _ _ _ => ?_ | refine stb_n ?_)) | ((with_reducible refine w2 ?_); try simp -implicitDefEqProofs only [EN, lsub, lget, stL, beq_self_eq_true, ne_eq, if_true, if_false, List.cons_append, List.nil_append, Option.isNone_some, Option.isNone_none, f2]; intro _ _) | ((with_reducible (first | refine w5 ?_ ?_ | refine w6 ?_ ?_ | refine w7 ?_ ?_)); simp; refine ⟨_, rfl, ?_⟩) | ((with_reducible (first | refine w8 ?_ ?_ ?_ | refine w9 ?_ ?_ ?_ | refine w10 ?_ ?_ ?_)); exact rfl; simp) | ((with_reducible refine w12 ?_ ?_ ?_ fun _ _ => ?_); simp; simp; simp [oneC]) | ((with_reducible (first | refine eqs ?_ | refine nes ?_)); refine ⟨_, rfl, ?_⟩) | ((refine okF_i (bldP_eq rfl) ?_); try simp only [BLS, List.take_succ_cons, List.take_zero, List.drop_succ_cons, List.drop_zero, List.cons_append, List.nil_append, Nat.reduceAdd])) | simp -implicitDefEqProofs only [EN, lsub, lget, stL, beq_self_eq_true, ne_eq, if_true, if_false, List.cons_append, List.nil_append, Option.isNone_some, Option.isNone_none, f2]))
        exact hk _ h.tick
    · (repeat (first | (first | (with_reducible (first | refine w1 fun _ _ => ?_ | refine w3 fun _ _ _ => ?_ | refine w4 fun _ _ _ => ?_ | refine w11 fun _ _ _ => ?_ | refine stb_n ?_)) | ((with_reducible refine w2 ?_); try simp -implicitDefEqProofs only [EN, lsub, lget, stL, beq_self_eq_true, ne_eq, if_true, if_false, List.cons_append, List.nil_append, Option.isNone_some, Option.isNone_none, hlt]; intro _ _) | ((with_reducible (first | refine w5 ?_ ?_ | refine w6 ?_ ?_ | refine w7 ?_ ?_)); simp; refine ⟨_, rfl, ?_⟩) | ((with_reducible (first | refine w8 ?_ ?_ ?_ | refine w9 ?_ ?_ ?_ | refine w10 ?_ ?_ ?_)); exact rfl; simp) | ((with_reducible refine w12 ?_ ?_ ?_ fun _ _ => ?_); simp; simp; simp [oneC]) | ((with_reducible (first | refine eqs ?_ | refine nes ?_)); refine ⟨_, rfl, ?_⟩) | ((refine okF_i (bldP_eq rfl) ?_); try simp only [BLS, List.take_succ_cons, List.take_zero, List.drop_succ_cons, List.drop_zero, List.cons_append, List.nil_append, Nat.reduceAdd])) | simp -implicitDefEqProofs only [EN, lsub, lget, stL, beq_self_eq_true, ne_eq, if_true, if_false, List.cons_append, List.nil_append, Option.isNone_some, Option.isNone_none, hlt]))
      have hall : l = m := by
        have := ht
        rw [List.take_of_length_le (by omega), List.take_of_length_le (by omega)] at this
        exact this
      rw [decide_eq_true hall] at hk
      exact hk _ h
  · have f1 : decide ((l.length : Int) = (m.length : Int)) = false := decide_eq_false (by omega)
    have hne : decide (l = m) = false := decide_eq_false fun e => hn (by rw [e])
    rw [hne] at hk
    (repeat (first | (first | (with_reducible (first | refine w1 fun _ _ => ?_ | refine w3 fun _ _ _ => ?_ | refine w4 fun _ _ _ => ?_ | refine w11 fun _ _ _ => ?_ | refine stb_n ?_)) | ((with_reducible refine w2 ?_); try simp -implicitDefEqProofs only [EN, lsub, lget, stL, beq_self_eq_true, ne_eq, if_true, if_false, List.cons_append, List.nil_append, Option.isNone_some, Option.isNone_none, f1]; intro _ _) | ((with_reducible (first | refine w5 ?_ ?_ | refine w6 ?_ ?_ | refine w7 ?_ ?_)); simp; refine ⟨_, rfl, ?_⟩) | ((with_reducible (first | refine w8 ?_ ?_ ?_ | refine w9 ?_ ?_ ?_ | refine w10 ?_ ?_ ?_)); exact rfl; simp) | ((with_reducible refine w12 ?_ ?_ ?_ fun _ _ => ?_); simp; simp; simp [oneC]) | ((with_reducible (first | refine eqs ?_ | refine nes ?_)); refine ⟨_, rfl, ?_⟩) | ((refine okF_i (bldP_eq rfl) ?_); try simp only [BLS, List.take_succ_cons, List.take_zero, List.drop_succ_cons, List.drop_zero, List.cons_append, List.nil_append, Nat.reduceAdd])) | simp -implicitDefEqProofs only [EN, lsub, lget, stL, beq_self_eq_true, ne_eq, if_true, if_false, List.cons_append, List.nil_append, Option.isNone_some, Option.isNone_none, f1]))
    exact hk _ h
theorem lawDots {a b : Option Addr} {c d : Nat} {l m : List Dot} {k : Value → World → Prop} (h : St W0 L W) [hr : Rd W0 L a DT l] [hr2 : Rd W0 L b DT m] (hl : l.length < 4611686018427387904)
    (hk : ∀ W', St W0 L W' → k (.bool (decide (l = m))) W') : callK PR F_rostrumlaw9_dots [.slice a l.length c, .slice b m.length d] k W := by
  apply S.rostrumlaw9_dots.call
  unfold S.rostrumlaw9_dots.body
  exact refSameDots h hl hk
end
end Go.Proofs.Ytmojfpaagokckaa
namespace Go.Proofs.Ytmojfpaagokckaa
set_option linter.unusedVariables false
set_option linter.unusedSimpArgs false
open Go Go.Proofs Go.Shelf
def laySortStr_ren : Go.Shelf.Ren := ⟨fun | 6 => 37 | 8 => 56 | 9 => 55 | 19 => 74 | 20 => 75 | 21 => 65 | 22 => 66 | 23 => 67 | 24 => 68 | 25 => 69 | 26 => 70 | 27 => 71 | 28 => 72 | 29 => 73 | 36 => 86 | 31 => 87 | 32 => 88 | 37 => 89 | 38 => 90 | 39 => 91 | 41 => 95 | n => n, fun | 27 => 48 | 29 => 9 | 3 => 3 | 32 => 91 | 26 => 48 | 0 => 0 | 44 => 109 | 46 => 97 | 4 => 4 | 36 => 101 | 35 => 100 | 41 => 106 | 5 => 5 | 9 => 9 | 53 => 118 | 57 => 122 | 63 => 126 | 64 => 127 | n => n, fun | n => n⟩
theorem laySortStr : Go.Proofs.SlLaysM.n6 Try.prog laySortStr_ren := {
  mixed := by kernel_rfl
  f6 := ⟨Try.f37.name, by decide, Try.func37.trans (congrArg some (by kernel_rfl))⟩
  f8 := Try.func56.trans (congrArg some (by kernel_rfl))
  f9 := ⟨Try.f55.name, by decide, Try.func55.trans (congrArg some (by kernel_rfl))⟩
  f19 := Try.func74.trans (congrArg some (by kernel_rfl))
  f20 := Try.func75.trans (congrArg some (by kernel_rfl))
  f21 := ⟨Try.f65.name, by decide, Try.func65.trans (congrArg some (by kernel_rfl))⟩
  f22 := ⟨Try.f66.name, by decide, Try.func66.trans (congrArg some (by kernel_rfl))⟩
  f23 := ⟨Try.f67.name, by decide, Try.func67.trans (congrArg some (by kernel_rfl))⟩
  f24 := ⟨Try.f68.name, by decide, Try.func68.trans (congrArg some (by kernel_rfl))⟩
  f25 := ⟨Try.f69.name, by decide, Try.func69.trans (congrArg some (by kernel_rfl))⟩
  f26 := ⟨Try.f70.name, by decide, Try.func70.trans (congrArg some (by kernel_rfl))⟩
  f27 := ⟨Try.f71.name, by decide, Try.func71.trans (congrArg some (by kernel_rfl))⟩
  f28 := ⟨Try.f72.name, by decide, Try.func72.trans (congrArg some (by kernel_rfl))⟩
  f29 := ⟨Try.f73.name, by decide, Try.func73.trans (congrArg some (by kernel_rfl))⟩
  f31 := Try.func87.trans (congrArg some (by kernel_rfl))
  f32 := Try.func88.trans (congrArg some (by kernel_rfl))
  f36 := ⟨Try.f86.name, by decide, Try.func86.trans (congrArg some (by kernel_rfl))⟩
  f37 := ⟨Try.f89.name, by decide, Try.func89.trans (congrArg some (by kernel_rfl))⟩
  f38 := ⟨Try.f90.name, by decide, Try.func90.trans (congrArg some (by kernel_rfl))⟩
  f39 := ⟨Try.f91.name, by decide, Try.func91.trans (congrArg some (by kernel_rfl))⟩
  f41 := ⟨Try.f95.name, by decide, Try.func95.trans (congrArg some (by kernel_rfl))⟩
  t0 := Try.underlying0
  a0 := Try.isAgg0
  z0 := Try.sizeOf0
  v0 := Try.zeroValue0
  t3 := Try.underlying3
  a3 := Try.isAgg3
  z3 := Try.sizeOf3
  v3 := Try.zeroValue3
  t4 := Try.underlying4
  a4 := Try.isAgg4
  z4 := Try.sizeOf4
  v4 := Try.zeroValue4
  t5 := Try.underlying5
  a5 := Try.isAgg5
  z5 := Try.sizeOf5
  v5 := Try.zeroValue5
  t9 := Try.underlying9
  a9 := Try.isAgg9
  z9 := Try.sizeOf9
  v9 := Try.zeroValue9
  t26 := Try.underlying48
  a26 := Try.isAgg48
  z26 := Try.sizeOf48
  v26 := Try.zeroValue48
  t27 := Try.underlying48
  a27 := Try.isAgg48
  z27 := Try.sizeOf48
  v27 := Try.zeroValue48
  t29 := Try.underlying9
  a29 := Try.isAgg9
  z29 := Try.sizeOf9
  v29 := Try.zeroValue9
  t32 := Try.underlying91
  a32 := Try.isAgg91
  z32 := Try.sizeOf91
  v32 := Try.zeroValue91
  t35 := Try.underlying100
  a35 := Try.isAgg100
  z35 := Try.sizeOf100
  v35 := Try.zeroValue100
  t36 := Try.underlying101
  a36 := Try.isAgg101
  z36 := Try.sizeOf101
  v36 := Try.zeroValue101
  t41 := Try.underlying106
  a41 := Try.isAgg106
  z41 := Try.sizeOf106
  v41 := Try.zeroValue106
  t44 := Try.underlying109
  a44 := Try.isAgg109
  z44 := Try.sizeOf109
  v44 := Try.zeroValue109
  t46 := Try.underlying97
  a46 := Try.isAgg97
  z46 := Try.sizeOf97
  v46 := Try.zeroValue97
  t53 := Try.underlying118
  a53 := Try.isAgg118
  z53 := Try.sizeOf118
  v53 := Try.zeroValue118
  t57 := Try.underlying122
  a57 := Try.isAgg122
  z57 := Try.sizeOf122
  v57 := Try.zeroValue122
  t63 := Try.underlying126
  a63 := Try.isAgg126
  z63 := Try.sizeOf126
  v63 := Try.zeroValue126
  t64 := Try.underlying127
  a64 := Try.isAgg127
  z64 := Try.sizeOf127
  v64 := Try.zeroValue127 }
def laySortDot_ren : Go.Shelf.Ren := ⟨fun | 6 => 40 | 15 => 56 | 14 => 57 | 28 => 74 | 29 => 75 | 20 => 76 | 21 => 77 | 22 => 78 | 23 => 79 | 24 => 80 | 25 => 81 | 26 => 82 | 27 => 83 | 46 => 92 | 47 => 87 | 48 => 88 | 49 => 93 | 50 => 94 | 57 => 96 | n => n, fun | 22 => 22 | 24 => 33 | 25 => 79 | 3 => 3 | 39 => 91 | 0 => 0 | 53 => 109 | 55 => 97 | 4 => 4 | 46 => 101 | 45 => 100 | 50 => 106 | 5 => 5 | 9 => 9 | 66 => 118 | 70 => 122 | 76 => 126 | 77 => 127 | n => n, fun | n => n⟩
theorem laySortDot : Go.Proofs.SlLaysF0.n6 Try.prog laySortDot_ren := {
  mixed := by kernel_rfl
  f6 := ⟨Try.f40.name, by decide, Try.func40.trans (congrArg some (by kernel_rfl))⟩
  f14 := ⟨Try.f57.name, by decide, Try.func57.trans (congrArg some (by kernel_rfl))⟩
  f15 := Try.func56.trans (congrArg some (by kernel_rfl))
  f20 := ⟨Try.f76.name, by decide, Try.func76.trans (congrArg some (by kernel_rfl))⟩
  f21 := ⟨Try.f77.name, by decide, Try.func77.trans (congrArg some (by kernel_rfl))⟩
  f22 := ⟨Try.f78.name, by decide, Try.func78.trans (congrArg some (by kernel_rfl))⟩
  f23 := ⟨Try.f79.name, by decide, Try.func79.trans (congrArg some (by kernel_rfl))⟩
  f24 := ⟨Try.f80.name, by decide, Try.func80.trans (congrArg some (by kernel_rfl))⟩
  f25 := ⟨Try.f81.name, by decide, Try.func81.trans (congrArg some (by kernel_rfl))⟩
  f26 := ⟨Try.f82.name, by decide, Try.func82.trans (congrArg some (by kernel_rfl))⟩
  f27 := ⟨Try.f83.name, by decide, Try.func83.trans (congrArg some (by kernel_rfl))⟩
  f28 := Try.func74.trans (congrArg some (by kernel_rfl))
  f29 := Try.func75.trans (congrArg some (by kernel_rfl))
  f46 := ⟨Try.f92.name, by decide, Try.func92.trans (congrArg some (by kernel_rfl))⟩
  f47 := Try.func87.trans (congrArg some (by kernel_rfl))
  f48 := Try.func88.trans (congrArg some (by kernel_rfl))
  f49 := ⟨Try.f93.name, by decide, Try.func93.trans (congrArg some (by kernel_rfl))⟩
  f50 := ⟨Try.f94.name, by decide, Try.func94.trans (congrArg some (by kernel_rfl))⟩
  f57 := ⟨Try.f96.name, by decide, Try.func96.trans (congrArg some (by kernel_rfl))⟩
  t0 := Try.underlying0
  a0 := Try.isAgg0
  z0 := Try.sizeOf0
  v0 := Try.zeroValue0
  t3 := Try.underlying3
  a3 := Try.isAgg3
  z3 := Try.sizeOf3
  v3 := Try.zeroValue3
  t4 := Try.underlying4
  a4 := Try.isAgg4
  z4 := Try.sizeOf4
  v4 := Try.zeroValue4
  t5 := Try.underlying5
  a5 := Try.isAgg5
  z5 := Try.sizeOf5
  v5 := Try.zeroValue5
  t9 := Try.underlying9
  a9 := Try.isAgg9
  z9 := Try.sizeOf9
  v9 := Try.zeroValue9
  t22 := Try.underlying22
  a22 := Try.isAgg22
  z22 := Try.sizeOf22
  v22 := Try.zeroValue22
  t25 := Try.underlying79
  a25 := Try.isAgg79
  z25 := Try.sizeOf79
  v25 := Try.zeroValue79
  t39 := Try.underlying91
  a39 := Try.isAgg91
  z39 := Try.sizeOf91
  v39 := Try.zeroValue91
  t45 := Try.underlying100
  a45 := Try.isAgg100
  z45 := Try.sizeOf100
  v45 := Try.zeroValue100
  t46 := Try.underlying101
  a46 := Try.isAgg101
  z46 := Try.sizeOf101
  v46 := Try.zeroValue101
  t50 := Try.underlying106
  a50 := Try.isAgg106
  z50 := Try.sizeOf106
  v50 := Try.zeroValue106
  t53 := Try.underlying109
  a53 := Try.isAgg109
  z53 := Try.sizeOf109
  v53 := Try.zeroValue109
  t55 := Try.underlying97
  a55 := Try.isAgg97
  z55 := Try.sizeOf97
  v55 := Try.zeroValue97
  t66 := Try.underlying118
  a66 := Try.isAgg118
  z66 := Try.sizeOf118
  v66 := Try.zeroValue118
  t70 := Try.underlying122
  a70 := Try.isAgg122
  z70 := Try.sizeOf122
  v70 := Try.zeroValue122
  t76 := Try.underlying126
  a76 := Try.isAgg126
  z76 := Try.sizeOf126
  v76 := Try.zeroValue126
  t77 := Try.underlying127
  a77 := Try.isAgg127
  z77 := Try.sizeOf127
  v77 := Try.zeroValue127 }
def layCloneA_ren : Go.Shelf.Ren := ⟨fun | 5 => 47 | 7 => 64 | n => n, fun | 23 => 61 | 25 => 33 | 3 => 9 | 4 => 4 | 20 => 20 | n => n, fun | n => n⟩
theorem layCloneA : Go.Proofs.SlLaysW.n5 Try.prog layCloneA_ren := {
  mixed := by kernel_rfl
  f5 := ⟨Try.f47.name, by decide, Try.func47.trans (congrArg some (by kernel_rfl))⟩
  f7 := Try.func64.trans (congrArg some (by kernel_rfl))
  t4 := Try.underlying4
  a4 := Try.isAgg4
  z4 := Try.sizeOf4
  v4 := Try.zeroValue4
  t20 := Try.underlying20
  a20 := Try.isAgg20
  z20 := Try.sizeOf20
  v20 := Try.zeroValue20
  t23 := Try.underlying61
  a23 := Try.isAgg61
  z23 := Try.sizeOf61
  v23 := Try.zeroValue61 }
def layCloneG_ren : Go.Shelf.Ren := ⟨fun | 5 => 48 | 7 => 64 | n => n, fun | 23 => 62 | 25 => 9 | 3 => 24 | 4 => 4 | 20 => 20 | n => n, fun | n => n⟩
theorem layCloneG : Go.Proofs.SlLaysW.n5 Try.prog layCloneG_ren := {
  mixed := by kernel_rfl
  f5 := ⟨Try.f48.name, by decide, Try.func48.trans (congrArg some (by kernel_rfl))⟩
  f7 := Try.func64.trans (congrArg some (by kernel_rfl))
  t4 := Try.underlying4
  a4 := Try.isAgg4
  z4 := Try.sizeOf4
  v4 := Try.zeroValue4
  t20 := Try.underlying20
  a20 := Try.isAgg20
  z20 := Try.sizeOf20
  v20 := Try.zeroValue20
  t23 := Try.underlying62
  a23 := Try.isAgg62
  z23 := Try.sizeOf62
  v23 := Try.zeroValue62 }
end Go.Proofs.Ytmojfpaagokckaa
namespace Go.Proofs.Ytmojfpaagokckaa
set_option linter.unusedVariables false
set_option linter.unusedSimpArgs false
open Go Go.Eng

instance inhDot : Inhabited Dot := ⟨⟨0, 0⟩⟩
section
variable {W0 W : World} {L L' L1 L2 : List Asn} {q r g : Nat}
theorem sortBs {a : Option Addr} {c : Nat} {l : List Bs} {k : Value → World → Prop} (h : St W0 L W) [ho : Own a L STB T_string c l L'] (hl : l.length < 4611686018427387904)
    (hk : ∀ W', St W0 (arr STB T_string a c (sortB l) :: L') W' → k (.tuple #[]) W') : callK PR F_slices_Sort_string_string [.slice a l.length c] k W :=
  sortStr (P := PR) laySortStr h hl hk
theorem sortDots {a : Option Addr} {c : Nat} {l : List Dot} {k : Value → World → Prop} (h : St W0 L W) [ho : Own a L DT T_api_Dot c l L'] (hl : l.length < 4611686018427387904)
    (hk : ∀ W', St W0 (arr DT T_api_Dot a c (sortD l) :: L') W' → k (.tuple #[]) W') : callK PR F_slices_SortFunc_api_Dot_api_Dot [.slice a l.length c, .func (.func F_dots_Order) #[] #[]] k W := by
  obtain ⟨d, i, h1, h2, h3, h4⟩ := (inferInstance : TyI PR T_api_Dot true 2).ok
  refine sortFK (P := PR) (A := DT) laySortDot (fun w => ?_) (fun w => ?_) Dot.cmp swoD partD F_dots_Order [] (fun args w => callFunc_ok (CBok _ (by kernel_rfl)) w) (fun x y W => ?_) h hl (fun W' h => hk W' (by rw [sortD_cmp] at h; exact h))
  · have := run_isAgg' (P := PR) (w := w) h1
    rw [h2] at this
    exact this
  · have := run_sizeOf' (P := PR) (w := w) h3
    rw [h4] at this
    exact this
  · exact (dotsOrder x.rep x.n y.rep y.n).ok W
theorem perm_move {α β : Type} (acc : List β) (pre post : List α) (x : α) (f : List α → List β) (hf : ∀ l m, f (l ++ m) = f l ++ f m) : (acc ++ f (pre ++ x :: post)).Perm ((acc ++ f [x]) ++ f (pre ++ post)) := by
  rw [show pre ++ x :: post = pre ++ ([x] ++ post) by simp, hf, hf, hf, List.append_assoc acc]
  refine List.Perm.append_left _ ?_
  rw [← List.append_assoc, ← List.append_assoc]
  exact List.Perm.append_right _ List.perm_append_comm
set_option maxHeartbeats 4000000 in
theorem orsetAll {s : OS} {k : Value → World → Prop} (h : St W0 L W) [ht : Tk (os q) L s L'] (hlen : s.added.length ≤ 1000000)
    (hk : ∀ a c W', St W0 (arr STB T_string a c s.all :: os q s :: L') W' → k (.slice a s.all.length c) W') : callK PR F_orset_Set_All [.pointer (some ⟨q, 0, none⟩)] k W := by
  apply S.orset_Set_All.call
  unfold S.orset_Set_All.body
  obtain ⟨r, g, h⟩ := os_at (h.perm ht.perm)
  refine joinK_i ?_
  (repeat (first | (first | (with_reducible (first | refine w1 fun _ _ => ?_ | refine w3 fun _ _ _ => ?_ | refine w4 fun _ _ _ => ?_ | refine w11 fun _ _ _ => ?_ | refine stb_n ?_)) | ((with_reducible refine w2 ?_); try simp -implicitDefEqProofs only [EN, lsub, lget, stL, beq_self_eq_true, ne_eq, if_true, if_false, List.cons_append, List.nil_append, Option.isNone_some, Option.isNone_none]; intro _ _) | ((with_reducible (first | refine w5 ?_ ?_ | refine w6 ?_ ?_ | refine w7 ?_ ?_)); simp; refine ⟨_, rfl, ?_⟩) | ((with_reducible (first | refine w8 ?_ ?_ ?_ | refine w9 ?_ ?_ ?_ | refine w10 ?_ ?_ ?_)); exact rfl; simp) | ((with_reducible refine w12 ?_ ?_ ?_ fun _ _ => ?_); simp; simp; simp [oneC]) | ((with_reducible (first | refine eqs ?_ | refine nes ?_)); refine ⟨_, rfl, ?_⟩) | ((refine okF_i (bldP_eq rfl) ?_); try simp only [BLS, List.take_succ_cons, List.take_zero, List.drop_succ_cons, List.drop_zero, List.cons_append, List.nil_append, Nat.reduceAdd])) | simp -implicitDefEqProofs only [EN, lsub, lget, stL, beq_self_eq_true, ne_eq, if_true, if_false, List.cons_append, List.nil_append, Option.isNone_some, Option.isNone_none]))
  refine rangeM (K := KD) (by first | assumption | exact St.tick (by assumption) | exact St.tick (St.tick (by assumption))) fun b W1 h => ?_
  refine loop_x (σ := List (Dot × Bs) × List Bs × Option Addr × Nat) (fun x => [.pointer (some ⟨q, 0, none⟩), .slice x.2.2.1 x.2.1.length x.2.2.2, .pointer (some ⟨b, 0, none⟩)])
    (fun x W1 => (x.2.1 ++ (x.1.filter fun p => s.live p.1 p.2).map (·.2)).Perm (s.lives.map (·.2)) ∧ ∃ cur, St W0 (mpi KD r b (mvA s.added) (mvA x.1) cur :: arr STB T_string x.2.2.1 x.2.2.2 x.2.1 :: cells q [.map (some r), .map (some g)] T_orset_Set :: mp KB g (mvG s.gone) :: L') W1)
    (fun x => x.1.length) (s.added, [], none, 0) rfl ⟨.refl _, none, ?_⟩ ?_
  · exact (St.wk (L' := mpi KD r b (mvA s.added) (mvA s.added) none :: cells q [.map (some r), .map (some g)] T_orset_Set :: mp KB g (mvG s.gone) :: L') h).ent (ent.cons _ (arr_nil STB T_string))
  rintro K ⟨rem, acc, a, c⟩ W2 ⟨hp, cur, h⟩ hK
  have hla : acc.length ≤ 1000000 := by
    have := hp.length_eq
    simp only [List.length_append, List.length_map] at this
    have h2 : s.lives.length ≤ s.added.length := List.length_filter_le _ _
    omega
  simp -implicitDefEqProofs only [EN, lsub, lget, stL, beq_self_eq_true, ne_eq, if_true, if_false, List.cons_append, List.nil_append, Option.isNone_some, Option.isNone_none]
  unfold S.orset_Set_All.l1
  refine nextM h (fun h0 => ?_) (fun pre f v post W3 h1 h => ?_)
  · have : rem = [] := by simpa [mvA] using h0
    subst this
    (repeat (first | (first | (with_reducible (first | refine w1 fun _ _ => ?_ | refine w3 fun _ _ _ => ?_ | refine w4 fun _ _ _ => ?_ | refine w11 fun _ _ _ => ?_ | refine stb_n ?_)) | ((with_reducible refine w2 ?_); try simp -implicitDefEqProofs only [EN, lsub, lget, stL, beq_self_eq_true, ne_eq, if_true, if_false, List.cons_append, List.nil_append, Option.isNone_some, Option.isNone_none]; intro _ _) | ((with_reducible (first | refine w5 ?_ ?_ | refine w6 ?_ ?_ | refine w7 ?_ ?_)); simp; refine ⟨_, rfl, ?_⟩) | ((with_reducible (first | refine w8 ?_ ?_ ?_ | refine w9 ?_ ?_ ?_ | refine w10 ?_ ?_ ?_)); exact rfl; simp) | ((with_reducible refine w12 ?_ ?_ ?_ fun _ _ => ?_); simp; simp; simp [oneC]) | ((with_reducible (first | refine eqs ?_ | refine nes ?_)); refine ⟨_, rfl, ?_⟩) | ((refine okF_i (bldP_eq rfl) ?_); try simp only [BLS, List.take_succ_cons, List.take_zero, List.drop_succ_cons, List.drop_zero, List.cons_append, List.nil_append, Nat.reduceAdd])) | simp -implicitDefEqProofs only [EN, lsub, lget, stL, beq_self_eq_true, ne_eq, if_true, if_false, List.cons_append, List.nil_append, Option.isNone_some, Option.isNone_none]))
    unfold S.orset_Set_All.j1
    simp only [List.filter_nil, List.map_nil, List.append_nil] at hp
    have h := h.mpiEnd
    refine sortBs (a := a) (l := acc) h (by omega) fun W4 h => ?_
    have hsl : (sortB acc).length = acc.length := List.length_mergeSort _
    rw [← hsl]
    refine compactStr (a := a) (l := sortB acc) h (by omega) fun a' c' W5 h => ?_
    have e : cpt (sortB acc) = s.all := by unfold OS.all; rw [sortB_perm hp]
    rw [e] at h ⊢
    exact hk a' c' W5 ((St.wk (L' := arr STB T_string a' c' s.all :: cells q [.map (some r), .map (some g)] T_orset_Set :: mp KD r (mvA s.added) :: mp KB g (mvG s.gone) :: L') h).ent (ent.cons _ os_ent))
  · obtain ⟨A, tl, rfl, rfl, h2⟩ := List.map_eq_append_iff.1 h1
    obtain ⟨⟨d, x⟩, B, rfl, h3, rfl⟩ := List.map_eq_cons_iff.1 h2
    simp only [Prod.mk.injEq] at h3
    obtain ⟨rfl, rfl⟩ := h3
    have hmv := perm_move acc A B (d, x) (fun l : List (Dot × Bs) => (l.filter fun p => s.live p.1 p.2).map (·.2)) (fun l m => by simp)
    have hmm : mvA (A ++ B) = mvA A ++ mvA B := by simp [mvA]
    (repeat (first | (first | (with_reducible (first | refine w1 fun _ _ => ?_ | refine w3 fun _ _ _ => ?_ | refine w4 fun _ _ _ => ?_ | refine w11 fun _ _ _ => ?_ | refine stb_n ?_)) | ((with_reducible refine w2 ?_); try simp -implicitDefEqProofs only [EN, lsub, lget, stL, beq_self_eq_true, ne_eq, if_true, if_false, List.cons_append, List.nil_append, Option.isNone_some, Option.isNone_none]; intro _ _) | ((with_reducible (first | refine w5 ?_ ?_ | refine w6 ?_ ?_ | refine w7 ?_ ?_)); simp; refine ⟨_, rfl, ?_⟩) | ((with_reducible (first | refine w8 ?_ ?_ ?_ | refine w9 ?_ ?_ ?_ | refine w10 ?_ ?_ ?_)); exact rfl; simp) | ((with_reducible refine w12 ?_ ?_ ?_ fun _ _ => ?_); simp; simp; simp [oneC]) | ((with_reducible (first | refine eqs ?_ | refine nes ?_)); refine ⟨_, rfl, ?_⟩) | ((refine okF_i (bldP_eq rfl) ?_); try simp only [BLS, List.take_succ_cons, List.take_zero, List.drop_succ_cons, List.drop_zero, List.cons_append, List.nil_append, Nat.reduceAdd])) | simp -implicitDefEqProofs only [EN, lsub, lget, stL, beq_self_eq_true, ne_eq, if_true, if_false, List.cons_append, List.nil_append, Option.isNone_some, Option.isNone_none]))
    refine entryM h ?_
    (repeat (first | (first | (with_reducible (first | refine w1 fun _ _ => ?_ | refine w3 fun _ _ _ => ?_ | refine w4 fun _ _ _ => ?_ | refine w11 fun _ _ _ => ?_ | refine stb_n ?_)) | ((with_reducible refine w2 ?_); try simp -implicitDefEqProofs only [EN, lsub, lget, stL, beq_self_eq_true, ne_eq, if_true, if_false, List.cons_append, List.nil_append, Option.isNone_some, Option.isNone_none]; intro _ _) | ((with_reducible (first | refine w5 ?_ ?_ | refine w6 ?_ ?_ | refine w7 ?_ ?_)); simp; refine ⟨_, rfl, ?_⟩) | ((with_reducible (first | refine w8 ?_ ?_ ?_ | refine w9 ?_ ?_ ?_ | refine w10 ?_ ?_ ?_)); exact rfl; simp) | ((with_reducible refine w12 ?_ ?_ ?_ fun _ _ => ?_); simp; simp; simp [oneC]) | ((with_reducible (first | refine eqs ?_ | refine nes ?_)); refine ⟨_, rfl, ?_⟩) | ((refine okF_i (bldP_eq rfl) ?_); try simp only [BLS, List.take_succ_cons, List.take_zero, List.drop_succ_cons, List.drop_zero, List.cons_append, List.nil_append, Nat.reduceAdd])) | simp -implicitDefEqProofs only [EN, lsub, lget, stL, beq_self_eq_true, ne_eq, if_true, if_false, List.cons_append, List.nil_append, Option.isNone_some, Option.isNone_none]))
    refine orsetLive (s := s) (d := d) (x := x) (q := q) (r := r) (g := g) (by first | assumption | exact St.tick (by assumption) | exact St.tick (St.tick (by assumption))) fun W4 h => ?_
    cases hlv : s.live d x with
    | false =>
      (repeat (first | (first | (with_reducible (first | refine w1 fun _ _ => ?_ | refine w3 fun _ _ _ => ?_ | refine w4 fun _ _ _ => ?_ | refine w11 fun _ _ _ => ?_ | refine stb_n ?_)) | ((with_reducible refine w2 ?_); try simp -implicitDefEqProofs only [EN, lsub, lget, stL, beq_self_eq_true, ne_eq, if_true, if_false, List.cons_append, List.nil_append, Option.isNone_some, Option.isNone_none]; intro _ _) | ((with_reducible (first | refine w5 ?_ ?_ | refine w6 ?_ ?_ | refine w7 ?_ ?_)); simp; refine ⟨_, rfl, ?_⟩) | ((with_reducible (first | refine w8 ?_ ?_ ?_ | refine w9 ?_ ?_ ?_ | refine w10 ?_ ?_ ?_)); exact rfl; simp) | ((with_reducible refine w12 ?_ ?_ ?_ fun _ _ => ?_); simp; simp; simp [oneC]) | ((with_reducible (first | refine eqs ?_ | refine nes ?_)); refine ⟨_, rfl, ?_⟩) | ((refine okF_i (bldP_eq rfl) ?_); try simp only [BLS, List.take_succ_cons, List.take_zero, List.drop_succ_cons, List.drop_zero, List.cons_append, List.nil_append, Nat.reduceAdd])) | simp -implicitDefEqProofs only [EN, lsub, lget, stL, beq_self_eq_true, ne_eq, if_true, if_false, List.cons_append, List.nil_append, Option.isNone_some, Option.isNone_none]))
      refine hK (A ++ B, acc, a, c) _ (by simp) ⟨?_, some (d, sv x), ?_⟩
      · have h5 := hmv.symm.trans hp
        simpa [hlv] using h5
      · rw [hmm]
        exact St.wk h
    | true =>
      (repeat (first | (first | (with_reducible (first | refine w1 fun _ _ => ?_ | refine w3 fun _ _ _ => ?_ | refine w4 fun _ _ _ => ?_ | refine w11 fun _ _ _ => ?_ | refine stb_n ?_)) | ((with_reducible refine w2 ?_); try simp -implicitDefEqProofs only [EN, lsub, lget, stL, beq_self_eq_true, ne_eq, if_true, if_false, List.cons_append, List.nil_append, Option.isNone_some, Option.isNone_none]; intro _ _) | ((with_reducible (first | refine w5 ?_ ?_ | refine w6 ?_ ?_ | refine w7 ?_ ?_)); simp; refine ⟨_, rfl, ?_⟩) | ((with_reducible (first | refine w8 ?_ ?_ ?_ | refine w9 ?_ ?_ ?_ | refine w10 ?_ ?_ ?_)); exact rfl; simp) | ((with_reducible refine w12 ?_ ?_ ?_ fun _ _ => ?_); simp; simp; simp [oneC]) | ((with_reducible (first | refine eqs ?_ | refine nes ?_)); refine ⟨_, rfl, ?_⟩) | ((refine okF_i (bldP_eq rfl) ?_); try simp only [BLS, List.take_succ_cons, List.take_zero, List.drop_succ_cons, List.drop_zero, List.cons_append, List.nil_append, Nat.reduceAdd])) | simp -implicitDefEqProofs only [EN, lsub, lget, stL, beq_self_eq_true, ne_eq, if_true, if_false, List.cons_append, List.nil_append, Option.isNone_some, Option.isNone_none]))
      refine pushA (A := STB) (a := a) (c := c) (l := acc) x h rfl rfl (by omega) (by simp only [maxLen]; omega) (by decide) fun a' c' W5 h => ?_
      refine hK (A ++ B, acc ++ [x], a', c') _ (by simp) ⟨?_, some (d, sv x), ?_⟩
      · have h5 := hmv.symm.trans hp
        simpa [hlv] using h5
      · rw [hmm]
        exact St.wk h
set_option maxHeartbeats 4000000 in
theorem orsetDots {s : OS} {x : Bs} {k : Value → World → Prop} (h : St W0 L W) [ht : Tk (os q) L s L'] (hlen : s.added.length ≤ 1000000)
    (hk : ∀ a c W', St W0 (arr DT T_api_Dot a c (s.dots x) :: os q s :: L') W' → k (.slice a (s.dots x).length c) W') : callK PR F_orset_Set_Dots [.pointer (some ⟨q, 0, none⟩), sv x] k W := by
  apply S.orset_Set_Dots.call
  unfold S.orset_Set_Dots.body
  obtain ⟨r, g, h⟩ := os_at (h.perm ht.perm)
  refine joinK_i ?_
  (repeat (first | (first | (with_reducible (first | refine w1 fun _ _ => ?_ | refine w3 fun _ _ _ => ?_ | refine w4 fun _ _ _ => ?_ | refine w11 fun _ _ _ => ?_ | refine stb_n ?_)) | ((with_reducible refine w2 ?_); try simp -implicitDefEqProofs only [EN, lsub, lget, stL, beq_self_eq_true, ne_eq, if_true, if_false, List.cons_append, List.nil_append, Option.isNone_some, Option.isNone_none]; intro _ _) | ((with_reducible (first | refine w5 ?_ ?_ | refine w6 ?_ ?_ | refine w7 ?_ ?_)); simp; refine ⟨_, rfl, ?_⟩) | ((with_reducible (first | refine w8 ?_ ?_ ?_ | refine w9 ?_ ?_ ?_ | refine w10 ?_ ?_ ?_)); exact rfl; simp) | ((with_reducible refine w12 ?_ ?_ ?_ fun _ _ => ?_); simp; simp; simp [oneC]) | ((with_reducible (first | refine eqs ?_ | refine nes ?_)); refine ⟨_, rfl, ?_⟩) | ((refine okF_i (bldP_eq rfl) ?_); try simp only [BLS, List.take_succ_cons, List.take_zero, List.drop_succ_cons, List.drop_zero, List.cons_append, List.nil_append, Nat.reduceAdd])) | simp -implicitDefEqProofs only [EN, lsub, lget, stL, beq_self_eq_true, ne_eq, if_true, if_false, List.cons_append, List.nil_append, Option.isNone_some, Option.isNone_none]))
  refine rangeM (K := KD) (by first | assumption | exact St.tick (by assumption) | exact St.tick (St.tick (by assumption))) fun b W1 h => ?_
  refine loop_x (σ := List (Dot × Bs) × List Dot × Option Addr × Nat) (fun y => [.pointer (some ⟨q, 0, none⟩), sv x, .slice y.2.2.1 y.2.1.length y.2.2.2, .pointer (some ⟨b, 0, none⟩)])
    (fun y W1 => (y.2.1 ++ (y.1.filter fun p => decide (x = p.2) && s.live p.1 x).map (·.1)).Perm ((s.added.filter fun p => decide (x = p.2) && s.live p.1 x).map (·.1)) ∧ ∃ cur, St W0 (mpi KD r b (mvA s.added) (mvA y.1) cur :: arr DT T_api_Dot y.2.2.1 y.2.2.2 y.2.1 :: cells q [.map (some r), .map (some g)] T_orset_Set :: mp KB g (mvG s.gone) :: L') W1)
    (fun y => y.1.length) (s.added, [], none, 0) rfl ⟨.refl _, none, ?_⟩ ?_
  · exact (St.wk (L' := mpi KD r b (mvA s.added) (mvA s.added) none :: cells q [.map (some r), .map (some g)] T_orset_Set :: mp KB g (mvG s.gone) :: L') h).ent (ent.cons _ (arr_nil DT T_api_Dot))
  rintro K ⟨rem, acc, a, c⟩ W2 ⟨hp, cur, h⟩ hK
  have hla : acc.length ≤ 1000000 := by
    have := hp.length_eq
    simp only [List.length_append, List.length_map] at this
    have h2 : (s.added.filter fun p => decide (x = p.2) && s.live p.1 x).length ≤ s.added.length := List.length_filter_le _ _
    omega
  simp -implicitDefEqProofs only [EN, lsub, lget, stL, beq_self_eq_true, ne_eq, if_true, if_false, List.cons_append, List.nil_append, Option.isNone_some, Option.isNone_none]
  unfold S.orset_Set_Dots.l1
  refine nextM h (fun h0 => ?_) (fun pre f v post W3 h1 h => ?_)
  · have : rem = [] := by simpa [mvA] using h0
    subst this
    (repeat (first | (first | (with_reducible (first | refine w1 fun _ _ => ?_ | refine w3 fun _ _ _ => ?_ | refine w4 fun _ _ _ => ?_ | refine w11 fun _ _ _ => ?_ | refine stb_n ?_)) | ((with_reducible refine w2 ?_); try simp -implicitDefEqProofs only [EN, lsub, lget, stL, beq_self_eq_true, ne_eq, if_true, if_false, List.cons_append, List.nil_append, Option.isNone_some, Option.isNone_none]; intro _ _) | ((with_reducible (first | refine w5 ?_ ?_ | refine w6 ?_ ?_ | refine w7 ?_ ?_)); simp; refine ⟨_, rfl, ?_⟩) | ((with_reducible (first | refine w8 ?_ ?_ ?_ | refine w9 ?_ ?_ ?_ | refine w10 ?_ ?_ ?_)); exact rfl; simp) | ((with_reducible refine w12 ?_ ?_ ?_ fun _ _ => ?_); simp; simp; simp [oneC]) | ((with_reducible (first | refine eqs ?_ | refine nes ?_)); refine ⟨_, rfl, ?_⟩) | ((refine okF_i (bldP_eq rfl) ?_); try simp only [BLS, List.take_succ_cons, List.take_zero, List.drop_succ_cons, List.drop_zero, List.cons_append, List.nil_append, Nat.reduceAdd])) | simp -implicitDefEqProofs only [EN, lsub, lget, stL, beq_self_eq_true, ne_eq, if_true, if_false, List.cons_append, List.nil_append, Option.isNone_some, Option.isNone_none]))
    unfold S.orset_Set_Dots.j1
    simp only [List.filter_nil, List.map_nil, List.append_nil] at hp
    have h := h.mpiEnd
    refine sortDots (a := a) (l := acc) h (by omega) fun W4 h => ?_
    have e : sortD acc = s.dots x := by unfold OS.dots; rw [sortD_perm hp]
    have hsl : (s.dots x).length = acc.length := by rw [← e]; exact List.length_mergeSort _
    rw [e] at h
    rw [← hsl]
    exact hk a c W4 ((St.wk (L' := arr DT T_api_Dot a c (s.dots x) :: cells q [.map (some r), .map (some g)] T_orset_Set :: mp KD r (mvA s.added) :: mp KB g (mvG s.gone) :: L') h).ent (ent.cons _ os_ent))
  · obtain ⟨A, tl, rfl, rfl, h2⟩ := List.map_eq_append_iff.1 h1
    obtain ⟨⟨d, y⟩, B, rfl, h3, rfl⟩ := List.map_eq_cons_iff.1 h2
    simp only [Prod.mk.injEq] at h3
    obtain ⟨rfl, rfl⟩ := h3
    have hmv := perm_move acc A B (d, y) (fun l : List (Dot × Bs) => (l.filter fun p => decide (x = p.2) && s.live p.1 x).map (·.1)) (fun l m => by simp)
    have hmm : mvA (A ++ B) = mvA A ++ mvA B := by simp [mvA]
    have hno : ∀ W', (decide (x = y) && s.live d x) = false → St W0 (mpi KD r b (mvA s.added) (mvA A ++ mvA B) (some (d, sv y)) :: arr DT T_api_Dot a c acc :: cells q [.map (some r), .map (some g)] T_orset_Set :: mp KB g (mvG s.gone) :: L') W' →
        K [.pointer (some ⟨q, 0, none⟩), sv x, .slice a acc.length c, .pointer (some ⟨b, 0, none⟩)] W' := fun W' hf h => by
      refine hK (A ++ B, acc, a, c) _ (by simp) ⟨?_, some (d, sv y), ?_⟩
      · have h5 := hmv.symm.trans hp
        simpa [hf] using h5
      · rw [hmm]
        exact h
    (repeat (first | (first | (with_reducible (first | refine w1 fun _ _ => ?_ | refine w3 fun _ _ _ => ?_ | refine w4 fun _ _ _ => ?_ | refine w11 fun _ _ _ => ?_ | refine stb_n ?_)) | ((with_reducible refine w2 ?_); try simp -implicitDefEqProofs only [EN, lsub, lget, stL, beq_self_eq_true, ne_eq, if_true, if_false, List.cons_append, List.nil_append, Option.isNone_some, Option.isNone_none]; intro _ _) | ((with_reducible (first | refine w5 ?_ ?_ | refine w6 ?_ ?_ | refine w7 ?_ ?_)); simp; refine ⟨_, rfl, ?_⟩) | ((with_reducible (first | refine w8 ?_ ?_ ?_ | refine w9 ?_ ?_ ?_ | refine w10 ?_ ?_ ?_)); exact rfl; simp) | ((with_reducible refine w12 ?_ ?_ ?_ fun _ _ => ?_); simp; simp; simp [oneC]) | ((with_reducible (first | refine eqs ?_ | refine nes ?_)); refine ⟨_, rfl, ?_⟩) | ((refine okF_i (bldP_eq rfl) ?_); try simp only [BLS, List.take_succ_cons, List.take_zero, List.drop_succ_cons, List.drop_zero, List.cons_append, List.nil_append, Nat.reduceAdd])) | simp -implicitDefEqProofs only [EN, lsub, lget, stL, beq_self_eq_true, ne_eq, if_true, if_false, List.cons_append, List.nil_append, Option.isNone_some, Option.isNone_none]))
    refine entryM h ?_
    by_cases hxy : x = y
    · have f1 : decide ((⟨x.toArray⟩ : ByteArray) = ⟨y.toArray⟩) = true := by rw [ba_eq]; exact decide_eq_true hxy
      (repeat (first | (first | (with_reducible (first | refine w1 fun _ _ => ?_ | refine w3 fun _ _ _ => ?_ | refine w4 fun _ _ _ => ?_ | refine w11 fun _ _ _ => ?_ | refine stb_n ?_)) | ((with_reducible refine w2 ?_); try simp -implicitDefEqProofs only [EN, lsub, lget, stL, beq_self_eq_true, ne_eq, if_true, if_false, List.cons_append, List.nil_append, Option.isNone_some, Option.isNone_none, f1]; intro _ _) | ((with_reducible (first | refine w5 ?_ ?_ | refine w6 ?_ ?_ | refine w7 ?_ ?_)); simp; refine ⟨_, rfl, ?_⟩) | ((with_reducible (first | refine w8 ?_ ?_ ?_ | refine w9 ?_ ?_ ?_ | refine w10 ?_ ?_ ?_)); exact rfl; simp) | ((with_reducible refine w12 ?_ ?_ ?_ fun _ _ => ?_); simp; simp; simp [oneC]) | ((with_reducible (first | refine eqs ?_ | refine nes ?_)); refine ⟨_, rfl, ?_⟩) | ((refine okF_i (bldP_eq rfl) ?_); try simp only [BLS, List.take_succ_cons, List.take_zero, List.drop_succ_cons, List.drop_zero, List.cons_append, List.nil_append, Nat.reduceAdd])) | simp -implicitDefEqProofs only [EN, lsub, lget, stL, beq_self_eq_true, ne_eq, if_true, if_false, List.cons_append, List.nil_append, Option.isNone_some, Option.isNone_none, f1]))
      refine orsetLive (s := s) (d := d) (x := x) (q := q) (r := r) (g := g) (by first | assumption | exact St.tick (by assumption) | exact St.tick (St.tick (by assumption))) fun W4 h => ?_
      cases hlv : s.live d x with
      | false =>
        (repeat (first | (first | (with_reducible (first | refine w1 fun _ _ => ?_ | refine w3 fun _ _ _ => ?_ | refine w4 fun _ _ _ => ?_ | refine w11 fun _ _ _ => ?_ | refine stb_n ?_)) | ((with_reducible refine w2 ?_); try simp -implicitDefEqProofs only [EN, lsub, lget, stL, beq_self_eq_true, ne_eq, if_true, if_false, List.cons_append, List.nil_append, Option.isNone_some, Option.isNone_none]; intro _ _) | ((with_reducible (first | refine w5 ?_ ?_ | refine w6 ?_ ?_ | refine w7 ?_ ?_)); simp; refine ⟨_, rfl, ?_⟩) | ((with_reducible (first | refine w8 ?_ ?_ ?_ | refine w9 ?_ ?_ ?_ | refine w10 ?_ ?_ ?_)); exact rfl; simp) | ((with_reducible refine w12 ?_ ?_ ?_ fun _ _ => ?_); simp; simp; simp [oneC]) | ((with_reducible (first | refine eqs ?_ | refine nes ?_)); refine ⟨_, rfl, ?_⟩) | ((refine okF_i (bldP_eq rfl) ?_); try simp only [BLS, List.take_succ_cons, List.take_zero, List.drop_succ_cons, List.drop_zero, List.cons_append, List.nil_append, Nat.reduceAdd])) | simp -implicitDefEqProofs only [EN, lsub, lget, stL, beq_self_eq_true, ne_eq, if_true, if_false, List.cons_append, List.nil_append, Option.isNone_some, Option.isNone_none]))
        exact hno _ (by rw [hlv]; simp) (St.wk h)
      | true =>
        (repeat (first | (first | (with_reducible (first | refine w1 fun _ _ => ?_ | refine w3 fun _ _ _ => ?_ | refine w4 fun _ _ _ => ?_ | refine w11 fun _ _ _ => ?_ | refine stb_n ?_)) | ((with_reducible refine w2 ?_); try simp -implicitDefEqProofs only [EN, lsub, lget, stL, beq_self_eq_true, ne_eq, if_true, if_false, List.cons_append, List.nil_append, Option.isNone_some, Option.isNone_none]; intro _ _) | ((with_reducible (first | refine w5 ?_ ?_ | refine w6 ?_ ?_ | refine w7 ?_ ?_)); simp; refine ⟨_, rfl, ?_⟩) | ((with_reducible (first | refine w8 ?_ ?_ ?_ | refine w9 ?_ ?_ ?_ | refine w10 ?_ ?_ ?_)); exact rfl; simp) | ((with_reducible refine w12 ?_ ?_ ?_ fun _ _ => ?_); simp; simp; simp [oneC]) | ((with_reducible (first | refine eqs ?_ | refine nes ?_)); refine ⟨_, rfl, ?_⟩) | ((refine okF_i (bldP_eq rfl) ?_); try simp only [BLS, List.take_succ_cons, List.take_zero, List.drop_succ_cons, List.drop_zero, List.cons_append, List.nil_append, Nat.reduceAdd])) | simp -implicitDefEqProofs only [EN, lsub, lget, stL, beq_self_eq_true, ne_eq, if_true, if_false, List.cons_append, List.nil_append, Option.isNone_some, Option.isNone_none]))
        refine pushA (A := DT) (a := a) (c := c) (l := acc) d (by first | assumption | exact St.tick (by assumption) | exact St.tick (St.tick (by assumption))) rfl rfl (by omega) (by simp only [maxLen]; omega) (by decide) fun a' c' W5 h => ?_
        refine hK (A ++ B, acc ++ [d], a', c') _ (by simp) ⟨?_, some (d, sv y), ?_⟩
        · have h5 := hmv.symm.trans hp
          have hf : (decide (x = y) && s.live d x) = true := by rw [hlv, decide_eq_true hxy]; rfl
          simpa [hf] using h5
        · rw [hmm]
          exact St.wk h
    · have f1 : decide ((⟨x.toArray⟩ : ByteArray) = ⟨y.toArray⟩) = false := by rw [ba_eq]; exact decide_eq_false hxy
      (repeat (first | (first | (with_reducible (first | refine w1 fun _ _ => ?_ | refine w3 fun _ _ _ => ?_ | refine w4 fun _ _ _ => ?_ | refine w11 fun _ _ _ => ?_ | refine stb_n ?_)) | ((with_reducible refine w2 ?_); try simp -implicitDefEqProofs only [EN, lsub, lget, stL, beq_self_eq_true, ne_eq, if_true, if_false, List.cons_append, List.nil_append, Option.isNone_some, Option.isNone_none, f1]; intro _ _) | ((with_reducible (first | refine w5 ?_ ?_ | refine w6 ?_ ?_ | refine w7 ?_ ?_)); simp; refine ⟨_, rfl, ?_⟩) | ((with_reducible (first | refine w8 ?_ ?_ ?_ | refine w9 ?_ ?_ ?_ | refine w10 ?_ ?_ ?_)); exact rfl; simp) | ((with_reducible refine w12 ?_ ?_ ?_ fun _ _ => ?_); simp; simp; simp [oneC]) | ((with_reducible (first | refine eqs ?_ | refine nes ?_)); refine ⟨_, rfl, ?_⟩) | ((refine okF_i (bldP_eq rfl) ?_); try simp only [BLS, List.take_succ_cons, List.take_zero, List.drop_succ_cons, List.drop_zero, List.cons_append, List.nil_append, Nat.reduceAdd])) | simp -implicitDefEqProofs only [EN, lsub, lget, stL, beq_self_eq_true, ne_eq, if_true, if_false, List.cons_append, List.nil_append, Option.isNone_some, Option.isNone_none, f1]))
      exact hno _ (by rw [decide_eq_false hxy]; rfl) (St.wk (by first | assumption | exact St.tick (by assumption) | exact St.tick (St.tick (by assumption))))
theorem orsetHas {s : OS} {x : Bs} {k : Value → World → Prop} (h : St W0 L W) [ht : Tk (os q) L s L'] (hlen : s.added.length ≤ 1000000)
    (hk : ∀ W', St W0 (os q s :: L') W' → k (.bool (s.has x)) W') : callK PR F_orset_Set_Has [.pointer (some ⟨q, 0, none⟩), sv x] k W := by
  apply S.orset_Set_Has.call
  unfold S.orset_Set_Has.body
  refine orsetDots (s := s) (x := x) h hlen fun a c W1 h => ?_
  (repeat (first | (first | (with_reducible (first | refine w1 fun _ _ => ?_ | refine w3 fun _ _ _ => ?_ | refine w4 fun _ _ _ => ?_ | refine w11 fun _ _ _ => ?_ | refine stb_n ?_)) | ((with_reducible refine w2 ?_); try simp -implicitDefEqProofs only [EN, lsub, lget, stL, beq_self_eq_true, ne_eq, if_true, if_false, List.cons_append, List.nil_append, Option.isNone_some, Option.isNone_none]; intro _ _) | ((with_reducible (first | refine w5 ?_ ?_ | refine w6 ?_ ?_ | refine w7 ?_ ?_)); simp; refine ⟨_, rfl, ?_⟩) | ((with_reducible (first | refine w8 ?_ ?_ ?_ | refine w9 ?_ ?_ ?_ | refine w10 ?_ ?_ ?_)); exact rfl; simp) | ((with_reducible refine w12 ?_ ?_ ?_ fun _ _ => ?_); simp; simp; simp [oneC]) | ((with_reducible (first | refine eqs ?_ | refine nes ?_)); refine ⟨_, rfl, ?_⟩) | ((refine okF_i (bldP_eq rfl) ?_); try simp only [BLS, List.take_succ_cons, List.take_zero, List.drop_succ_cons, List.drop_zero, List.cons_append, List.nil_append, Nat.reduceAdd])) | simp -implicitDefEqProofs only [EN, lsub, lget, stL, beq_self_eq_true, ne_eq, if_true, if_false, List.cons_append, List.nil_append, Option.isNone_some, Option.isNone_none]))
  have e : decide ((0 : Int) < ((s.dots x).length : Int)) = s.has x := by unfold OS.has; rw [decide_eq_decide]; omega
  rw [e]
  exact hk _ h.drop
end
end Go.Proofs.Ytmojfpaagokckaa
namespace Go.Eng
set_option linter.unusedVariables false
set_option linter.unusedSimpArgs false
open Go Go.RowKit Go.MapKept Go.ChangeMaps
section
variable {κ : Type} {K : κ → Value} {P : Program} {W0 W W' : World} {L L' : List Asn} {t kt et : TypeId} {r b : Nat} {l rem : List (κ × Value)} {cur : Option (κ × Value)}
theorem sub_of_map {α β γ : Type} {f : α → γ} {g : β → γ} (hg : ∀ a b, g a = g b → a = b) {l : List α} {m : List β} {l' : List α} {m' : List β} (h : l.Sublist l') (h1 : l.map f = m.map g) (h2 : l'.map f = m'.map g) : m.Sublist m' := by
  have h3 : (m.map g).Sublist (m'.map g) := by rw [← h1, ← h2]; exact h.map f
  obtain ⟨n, hn, he⟩ := List.sublist_map_iff.1 h3
  have : m = n := (List.map_inj_right (fun a b => hg a b)).1 he
  rw [this]
  exact hn
/-- what is still to come is there, in its order -/
theorem St.mpiSub (hK : ∀ a b, K a = K b → a = b) (h : St W0 (Eng.mpi K r b l rem cur :: L) W) : rem.Sublist l ∧ (l.map (·.1)).Nodup := by
  obtain ⟨es, clock, seen, ⟨e1, e2, e3, _⟩, h⟩ := h.mpi
  refine ⟨?_, mpL_nodup e1 e2⟩
  refine sub_of_map (f := fun e : MapEntry => (e.key, e.val)) (g := fun p : κ × Value => (K p.1, p.2)) (fun a b h => ?_) (l := (leftOf es seen).toList) (l' := es.toList) ?_ e3 e1
  · simp only [Prod.mk.injEq] at h
    cases a; cases b
    simp only at h
    rw [hK _ _ h.1, h.2]
  · simp only [leftOf, Array.toList_filter]; exact List.filter_sublist
theorem mdeleteI [DecidableEq κ] [hT : MapT P t kt et] [hK : KeyT P kt K] (a : κ) {v : Value} {ty : TypeId} {k : Value → World → Prop} (h : St W0 L W) [hm : Mi b L K r l rem (some (a, v)) L'] (hk : ∀ W', St W0 (Eng.mpi K r b (mdel l a) rem none :: L') W' → k (.tuple #[]) W') :
    efK P (Builtin.delete_ #[t, kt] ty #[.map (some r), K a]) k W := by
  obtain ⟨es, clock, seen, ⟨e1, e2, e3, e4⟩, h3⟩ := (h.perm hm.perm).mpi
  obtain ⟨e, he, seen', rfl, he1, he2⟩ := e4 _ rfl
  have hb := h3.blk.2
  have hn := mpL_nodup e1 e2
  rcases hK.find W a es.toList (mpL_keys e1) with ⟨h4, h5⟩ | ⟨j, e0, h4, h5, h6⟩
  · exact absurd he1 (h5 e he)
  · obtain ⟨p, hp, hp1, hp2⟩ := mpL_at e1 h5
    have hpa : p.1 = a := hK.inj (by rw [← hp1, h6])
    have hjs : j < es.size := by have := (List.getElem?_eq_some_iff.1 h5).1; simpa using this
    have hee : e0 = e := by
      obtain ⟨i, hi, hie⟩ := List.getElem_of_mem he
      obtain ⟨hj2, hje⟩ := List.getElem?_eq_some_iff.1 h5
      have hk : (es.toList.map (·.key))[i]'(by simpa using hi) = (es.toList.map (·.key))[j]'(by simpa using hj2) := by
        simp only [List.getElem_map]
        rw [hie, hje, he1, h6]
      have := (List.getElem_inj e2.2.2).1 hk
      subst this
      rw [← hie, ← hje]
    subst hee
    have hsub : (es.eraseIdxIfInBounds j).toList = es.toList.eraseIdx j := by
      unfold Array.eraseIdxIfInBounds
      rw [dif_pos hjs]
      simp
    refine ⟨.tuple #[], { W with heap := W.heap.setIfInBounds r (.map (es.eraseIdxIfInBounds j) clock) }, by simp [Builtin.delete_, run_underlying hT.ok, MapKept.run_getObj_map hb, hK.check W _ a, h4, MapKept.run_setObj_map _ hb, Result.andThen], hk _ ?_⟩
    refine (h3.setBlk (.map (es.eraseIdxIfInBounds j) clock)).ent (mpi_ent ⟨?_, stamped_erase e2 j, ?_, fun p hp => by cases hp⟩)
    · subst hpa
      rw [mdel_at hn hp]
      have h1' : _ = _ := e1
      simp only [mpL, hsub, map_eraseIdx, h1']
    · rw [← e3]
      congr 1
      simp only [leftOf, Array.toList_filter, hsub]
      obtain ⟨hj2, hje⟩ := List.getElem?_eq_some_iff.1 h5
      have e7 : es.toList = es.toList.take j ++ e0 :: es.toList.drop (j + 1) := by
        rw [← hje, ← List.drop_eq_getElem_cons hj2, List.take_append_drop]
      have e8 : es.toList.eraseIdx j = es.toList.take j ++ es.toList.drop (j + 1) := List.eraseIdx_eq_take_drop_succ _ _
      rw [e8]
      conv => rhs; rw [e7]
      rw [List.filter_append, List.filter_append, List.filter_cons]
      rw [if_neg (by simp)]
/-- a copy of a map -/
theorem cloneM {ρ : Go.Shelf.Ren} (L5 : Proofs.SlLaysW.n5 P ρ) {k : Value → World → Prop} (h : St W0 L W) [hm : Tk (Eng.mp K r) L l L'] (hk : ∀ r' W', St W0 (Eng.mp K r' l :: L) W' → k (.map (some r')) W') : callK P (ρ.f 5) [.map (some r)] k W := by
  obtain ⟨es, clock, h1, h2, h3⟩ := (h.perm hm.perm).mp
  refine (Proofs.AnyW.maps_Clone L5 r es clock W h3.blk.2).mono ?_
  rintro ed w' ⟨rfl, rfl⟩
  exact hk _ _ ((h.alloc (.map es clock)).ent (mp_ent h1 h2))
/-- a function value that tests an entry; what it needs is C -/
def PredM (P : Program) (K : κ → Value) (C : List Asn) (fv : Value) (p : κ × Value → Bool) : Prop :=
  ∀ (W0 : World) (L : List Asn) (a : κ) (v : Value) (W : World) (k : Value → World → Prop), St W0 (C ++ L) W → (∀ W', St W0 (C ++ L) W' → k (.bool (p (a, v))) W') → vcK P fv [K a, v] k W
end
/-- of what is still to come all stays; of the rest what is not to go -/
def dlt' {κ β : Type} [DecidableEq κ] (p : κ × β → Bool) (l rem : List (κ × β)) : List (κ × β) := l.filter fun x => !p x || decide (x.1 ∈ rem.map (·.1))
theorem dlt_all {κ β : Type} [DecidableEq κ] (p : κ × β → Bool) (l : List (κ × β)) : dlt' p l l = l := by
  unfold dlt'
  rw [List.filter_eq_self]
  intro x hx
  rw [decide_eq_true (List.mem_map.2 ⟨x, hx, rfl⟩), Bool.or_true]
theorem dlt_nil {κ β : Type} [DecidableEq κ] (p : κ × β → Bool) (l : List (κ × β)) : dlt' p l [] = l.filter fun x => !p x := by
  unfold dlt'
  simp
theorem dlt_nodup {κ β : Type} [DecidableEq κ] (p : κ × β → Bool) {l : List (κ × β)} (rem : List (κ × β)) (hn : (l.map (·.1)).Nodup) : ((dlt' p l rem).map (·.1)).Nodup := (List.Sublist.map _ List.filter_sublist).nodup hn
theorem mdel_filter {κ β : Type} [DecidableEq κ] {l : List (κ × β)} (hn : (l.map (·.1)).Nodup) (a : κ) : mdel l a = l.filter fun x => !decide (x.1 = a) := by
  induction l with
  | nil => rfl
  | cons x l ih =>
    obtain ⟨c, v⟩ := x
    simp only [List.map_cons, List.nodup_cons] at hn
    by_cases h : c = a
    · subst h
      simp only [mdel, if_true, List.filter_cons, decide_true, Bool.not_true, Bool.false_eq_true, if_false]
      symm
      rw [List.filter_eq_self]
      intro x hx
      have : x.1 ≠ c := fun e => hn.1 (List.mem_map.2 ⟨x, hx, e⟩)
      simp [this]
    · simp only [mdel, if_neg h, List.filter_cons, decide_eq_false h, Bool.not_false, if_true, ih hn.2]
section
variable {κ β : Type} [DecidableEq κ] {p : κ × β → Bool} {l pre post : List (κ × β)} {a : κ} {v : β}
omit [DecidableEq κ] in
theorem nodup_split (hn : ((pre ++ (a, v) :: post).map (·.1)).Nodup) : a ∉ (pre ++ post).map (·.1) := by
  simp only [List.map_append, List.map_cons, List.nodup_append, List.nodup_cons] at hn
  intro h
  rw [List.map_append, List.mem_append] at h
  rcases h with h | h
  · exact hn.2.2 a h a List.mem_cons_self rfl
  · exact hn.2.1.1 h
omit [DecidableEq κ] in
theorem mem_uniq {l : List (κ × β)} (hn : (l.map (·.1)).Nodup) {x y : κ × β} (hx : x ∈ l) (hy : y ∈ l) (h : x.1 = y.1) : x = y := by
  induction l with
  | nil => cases hx
  | cons z l ih =>
    simp only [List.map_cons, List.nodup_cons] at hn
    rcases List.mem_cons.1 hx with rfl | hx1
    · rcases List.mem_cons.1 hy with rfl | hy1
      · rfl
      · exact absurd (List.mem_map.2 ⟨y, hy1, h.symm⟩) hn.1
    · rcases List.mem_cons.1 hy with rfl | hy1
      · exact absurd (List.mem_map.2 ⟨x, hx1, h⟩) hn.1
      · exact ih hn.2 hx1 hy1
theorem dlt_keep (hn : (l.map (·.1)).Nodup) (hr : (a, v) ∈ l) (hp : p (a, v) = false) : dlt' p l (pre ++ post) = dlt' p l (pre ++ (a, v) :: post) := by
  unfold dlt'
  refine List.filter_congr fun x hx => ?_
  by_cases h : x.1 = a
  · have : x = (a, v) := mem_uniq hn hx hr h
    subst this
    simp [hp]
  · congr 1
    rw [decide_eq_decide]
    simp only [List.map_append, List.map_cons, List.mem_append, List.mem_cons]
    constructor
    · rintro (h1 | h1)
      · exact .inl h1
      · exact .inr (.inr h1)
    · rintro (h1 | h1 | h1)
      · exact .inl h1
      · exact absurd h1 h
      · exact .inr h1
theorem dlt_take (hn : (l.map (·.1)).Nodup) (hn2 : ((dlt' p l (pre ++ (a, v) :: post)).map (·.1)).Nodup) (hr : (a, v) ∈ l) (ha : a ∉ (pre ++ post).map (·.1)) (hp : p (a, v) = true) : mdel (dlt' p l (pre ++ (a, v) :: post)) a = dlt' p l (pre ++ post) := by
  rw [mdel_filter hn2]
  unfold dlt'
  rw [List.filter_filter]
  refine List.filter_congr fun x hx => ?_
  by_cases h : x.1 = a
  · have : x = (a, v) := mem_uniq hn hx hr h
    subst this
    rw [hp, decide_eq_false ha]
    simp
  · rw [decide_eq_false h, Bool.not_false, Bool.true_and]
    congr 1
    rw [decide_eq_decide]
    simp only [List.map_append, List.map_cons, List.mem_append, List.mem_cons]
    constructor
    · rintro (h1 | h1 | h1)
      · exact .inl h1
      · exact absurd h1 h
      · exact .inr h1
    · rintro (h1 | h1)
      · exact .inl h1
      · exact .inr (.inr h1)
end
end Go.Eng
namespace Go.Proofs.Ytmojfpaagokckaa
set_option linter.unusedVariables false
set_option linter.unusedSimpArgs false
open Go.Eng
/-! ### bytes.Clone (62) -/
def S.bytes_Clone.body (R : Value → World → Prop) (v0 : Value) (W : World) : Prop :=
  okF (eqP (.slice T_uint8) .eql v0 (.slice none 0 0)) fun v4 =>
  ifK v4 (
  R (.slice none 0 0) W) (
  efK PR (Instr.buildSlice T_s_uint8 0 #[]) (fun v5 W =>
  efK PR (Builtin.append_ #[T_s_uint8, T_s_uint8] T_s_uint8 #[v5, v0]) (fun v7 W =>
  R v7 W) W) W)
def S.bytes_Clone.hint : Hint := (.two .nil (.two (.two .nil (.two (.two .nil .nil) .nil)) (.two .nil .nil)))
theorem S.bytes_Clone.ok (R : Value → World → Prop) (v0 : Value) (W : World) : bodyK PR CB Try.f62 S.bytes_Clone.hint [v0] R W = S.bytes_Clone.body R v0 W := by kernel_rfl
theorem S.bytes_Clone.fn : PR.funcs[F_bytes_Clone]? = some Try.f62 := by kernel_rfl
theorem S.bytes_Clone.call {R : Value → World → Prop} {v0 : Value} {W : World} (h : S.bytes_Clone.body R v0 W) : callK PR F_bytes_Clone [v0] R W :=
  callK_of_body (g := F_bytes_Clone) (fn := Try.f62) (args := [v0]) (R := R) (w := W) mixed CBok S.bytes_Clone.fn S.bytes_Clone.hint (by rw [S.bytes_Clone.ok]; exact h)
/-! ### rostrum/pack.Num (43) -/
def S.pack_Num.j1 (R : Value → World → Prop) (x5 x6 : Value) (W : World) : Prop :=
  okF (cvtP (.int .u8) x6) fun v28 =>
  efK PR (Instr.buildSlice T_s_uint8 1 #[(0, v28)]) (fun v29 W =>
  efK PR (Builtin.append_ #[T_s_uint8, T_s_uint8] T_s_uint8 #[x5, v29]) (fun v30 W =>
  R v30 W) W) W
def S.pack_Num.l1 (J1 : List Value → World → Prop) (K1 : List Value → World → Prop) (x5 x6 : Value) (W : World) : Prop :=
  okF (binP .geq x6 (.int .u64 128)) fun v17 =>
  ifK v17 (
  okF (cvtP (.int .u8) x6) fun v22 =>
  okF (binP .or v22 (.int .u8 128)) fun v23 =>
  efK PR (Instr.buildSlice T_s_uint8 1 #[(0, v23)]) (fun v24 W =>
  efK PR (Builtin.append_ #[T_s_uint8, T_s_uint8] T_s_uint8 #[x5, v24]) (fun v25 W =>
  okF (binP .shr x6 (.int .u64 7)) fun v19 =>
  K1 [v25, v19] W) W) W) (
  J1 [x5, x6] W)
def S.pack_Num.body (R : Value → World → Prop) (v0 v1 : Value) (W : World) : Prop :=
  callK PR F_bytes_Clone [v0] (fun v8 W =>
  okF (cvtP (.int .u64) v1) fun v10 =>
  okF (binP .shl v10 (.int .u64 1)) fun v11 =>
  okF (binP .shr v1 (.int .u64 63)) fun v13 =>
  okF (cvtP (.int .u64) v13) fun v14 =>
  okF (binP .xor v11 v14) fun v15 =>
  joinK (fun s W => S.pack_Num.j1 R (nthv s 0) (nthv s 1) W) (fun J1 =>
  loopK (fun K1 s W => S.pack_Num.l1 J1 K1 (nthv s 0) (nthv s 1) W) [v8, v15] W)) W
def S.pack_Num.hint : Hint := (.two .nil (.two .nil (.two .nil (.at [5, 6] (.at [5, 6] (.two (.two .nil (.two .nil .nil)) (.two .nil .nil)) .nil) (.two .nil .nil)))))
theorem S.pack_Num.ok (R : Value → World → Prop) (v0 v1 : Value) (W : World) : bodyK PR CB Try.f43 S.pack_Num.hint [v0, v1] R W = S.pack_Num.body R v0 v1 W := by kernel_rfl
theorem S.pack_Num.fn : PR.funcs[F_pack_Num]? = some Try.f43 := by kernel_rfl
theorem S.pack_Num.call {R : Value → World → Prop} {v0 v1 : Value} {W : World} (h : S.pack_Num.body R v0 v1 W) : callK PR F_pack_Num [v0, v1] R W :=
  callK_of_body (g := F_pack_Num) (fn := Try.f43) (args := [v0, v1]) (R := R) (w := W) mixed CBok S.pack_Num.fn S.pack_Num.hint (by rw [S.pack_Num.ok]; exact h)
/-! ### rostrum/pack.Text (44) -/
def S.pack_Text.body (R : Value → World → Prop) (v0 v1 : Value) (W : World) : Prop :=
  efK PR (convert T_string T_s_uint8 v1) (fun v7 W =>
  callK PR F_pack_Bytes [v0, v7] (fun v8 W =>
  R v8 W) W) W
def S.pack_Text.hint : Hint := (.two .nil (.two .nil .nil))
theorem S.pack_Text.ok (R : Value → World → Prop) (v0 v1 : Value) (W : World) : bodyK PR CB Try.f44 S.pack_Text.hint [v0, v1] R W = S.pack_Text.body R v0 v1 W := by kernel_rfl
theorem S.pack_Text.fn : PR.funcs[F_pack_Text]? = some Try.f44 := by kernel_rfl
theorem S.pack_Text.call {R : Value → World → Prop} {v0 v1 : Value} {W : World} (h : S.pack_Text.body R v0 v1 W) : callK PR F_pack_Text [v0, v1] R W :=
  callK_of_body (g := F_pack_Text) (fn := Try.f44) (args := [v0, v1]) (R := R) (w := W) mixed CBok S.pack_Text.fn S.pack_Text.hint (by rw [S.pack_Text.ok]; exact h)
/-! ### rostrum/pack.Bytes (63) -/
def S.pack_Bytes.body (R : Value → World → Prop) (v0 v1 : Value) (W : World) : Prop :=
  okF (lenP (.slice T_uint8) v1) fun v7 =>
  callK PR F_pack_Num [v0, v7] (fun v8 W =>
  efK PR (Builtin.append_ #[T_s_uint8, T_s_uint8] T_s_uint8 #[v8, v1]) (fun v10 W =>
  R v10 W) W) W
def S.pack_Bytes.hint : Hint := (.two .nil (.two .nil .nil))
theorem S.pack_Bytes.ok (R : Value → World → Prop) (v0 v1 : Value) (W : World) : bodyK PR CB Try.f63 S.pack_Bytes.hint [v0, v1] R W = S.pack_Bytes.body R v0 v1 W := by kernel_rfl
theorem S.pack_Bytes.fn : PR.funcs[F_pack_Bytes]? = some Try.f63 := by kernel_rfl
theorem S.pack_Bytes.call {R : Value → World → Prop} {v0 v1 : Value} {W : World} (h : S.pack_Bytes.body R v0 v1 W) : callK PR F_pack_Bytes [v0, v1] R W :=
  callK_of_body (g := F_pack_Bytes) (fn := Try.f63) (args := [v0, v1]) (R := R) (w := W) mixed CBok S.pack_Bytes.fn S.pack_Bytes.hint (by rw [S.pack_Bytes.ok]; exact h)
/-! ### rostrum/rostrumref1.Num (45) -/
def S.rostrumref1_Num.j2 (R : Value → World → Prop) (x5 x6 : Value) (W : World) : Prop :=
  okF (cvtP (.int .u8) x5) fun v30 =>
  efK PR (Instr.buildSlice T_s_uint8 1 #[(0, v30)]) (fun v31 W =>
  efK PR (Builtin.append_ #[T_s_uint8, T_s_uint8] T_s_uint8 #[x6, v31]) (fun v32 W =>
  R v32 W) W) W
def S.rostrumref1_Num.l1 (J2 : List Value → World → Prop) (K1 : List Value → World → Prop) (x5 x6 : Value) (W : World) : Prop :=
  okF (binP .geq x5 (.int .u64 128)) fun v18 =>
  ifK v18 (
  okF (binP .rem x5 (.int .u64 128)) fun v21 =>
  okF (cvtP (.int .u8) v21) fun v22 =>
  okF (binP .add v22 (.int .u8 128)) fun v23 =>
  efK PR (Instr.buildSlice T_s_uint8 1 #[(0, v23)]) (fun v24 W =>
  efK PR (Builtin.append_ #[T_s_uint8, T_s_uint8] T_s_uint8 #[x6, v24]) (fun v25 W =>
  okF (binP .quo x5 (.int .u64 128)) fun v27 =>
  K1 [v27, v25] W) W) W) (
  J2 [x5, x6] W)
def S.rostrumref1_Num.j1 (R : Value → World → Prop) (x0 x5 : Value) (W : World) : Prop :=
  efK PR (Instr.buildSlice T_s_uint8 0 #[]) (fun v14 W =>
  efK PR (Builtin.append_ #[T_s_uint8, T_s_uint8] T_s_uint8 #[v14, x0]) (fun v16 W =>
  joinK (fun s W => S.rostrumref1_Num.j2 R (nthv s 0) (nthv s 1) W) (fun J2 =>
  loopK (fun K1 s W => S.rostrumref1_Num.l1 J2 K1 (nthv s 0) (nthv s 1) W) [x5, v16] W)) W) W
def S.rostrumref1_Num.body (R : Value → World → Prop) (v0 v1 : Value) (W : World) : Prop :=
  okF (cvtP (.int .u64) v1) fun v8 =>
  okF (binP .shl v8 (.int .u64 1)) fun v9 =>
  joinK (fun s W => S.rostrumref1_Num.j1 R (nthv s 0) (nthv s 1) W) (fun J1 =>
  okF (binP .lss v1 (.int .i64 0)) fun v11 =>
  ifK v11 (
  okF (unP .xor v9) fun v13 =>
  J1 [v0, v13] W) (
  J1 [v0, v9] W))
def S.rostrumref1_Num.hint : Hint := (.two .nil (.two .nil (.at [0, 5] (.two .nil (.two .nil .nil)) (.two .nil (.at [5, 6] (.at [5, 6] (.two (.two .nil (.two .nil .nil)) (.two .nil .nil)) .nil) (.two .nil .nil))))))
theorem S.rostrumref1_Num.ok (R : Value → World → Prop) (v0 v1 : Value) (W : World) : bodyK PR CB Try.f45 S.rostrumref1_Num.hint [v0, v1] R W = S.rostrumref1_Num.body R v0 v1 W := by kernel_rfl
theorem S.rostrumref1_Num.fn : PR.funcs[F_rostrumref1_Num]? = some Try.f45 := by kernel_rfl
theorem S.rostrumref1_Num.call {R : Value → World → Prop} {v0 v1 : Value} {W : World} (h : S.rostrumref1_Num.body R v0 v1 W) : callK PR F_rostrumref1_Num [v0, v1] R W :=
  callK_of_body (g := F_rostrumref1_Num) (fn := Try.f45) (args := [v0, v1]) (R := R) (w := W) mixed CBok S.rostrumref1_Num.fn S.rostrumref1_Num.hint (by rw [S.rostrumref1_Num.ok]; exact h)
/-! ### rostrum/rostrumref1.Bytes (46) -/
def S.rostrumref1_Bytes.body (R : Value → World → Prop) (v0 v1 : Value) (W : World) : Prop :=
  okF (lenP (.slice T_uint8) v1) fun v7 =>
  callK PR F_rostrumref1_Num [v0, v7] (fun v8 W =>
  efK PR (Builtin.append_ #[T_s_uint8, T_s_uint8] T_s_uint8 #[v8, v1]) (fun v10 W =>
  R v10 W) W) W
def S.rostrumref1_Bytes.hint : Hint := (.two .nil (.two .nil .nil))
theorem S.rostrumref1_Bytes.ok (R : Value → World → Prop) (v0 v1 : Value) (W : World) : bodyK PR CB Try.f46 S.rostrumref1_Bytes.hint [v0, v1] R W = S.rostrumref1_Bytes.body R v0 v1 W := by kernel_rfl
theorem S.rostrumref1_Bytes.fn : PR.funcs[F_rostrumref1_Bytes]? = some Try.f46 := by kernel_rfl
theorem S.rostrumref1_Bytes.call {R : Value → World → Prop} {v0 v1 : Value} {W : World} (h : S.rostrumref1_Bytes.body R v0 v1 W) : callK PR F_rostrumref1_Bytes [v0, v1] R W :=
  callK_of_body (g := F_rostrumref1_Bytes) (fn := Try.f46) (args := [v0, v1]) (R := R) (w := W) mixed CBok S.rostrumref1_Bytes.fn S.rostrumref1_Bytes.hint (by rw [S.rostrumref1_Bytes.ok]; exact h)
end Go.Proofs.Ytmojfpaagokckaa
namespace Go.Proofs.Ytmojfpaagokckaa
set_option linter.unusedVariables false
set_option linter.unusedSimpArgs false
open Go Go.Eng

section
variable {W0 W : World} {L L' : List Asn}
theorem bytesClone {a : Option Addr} {l : List UInt8} {c : Nat} {k : Value → World → Prop} (h : St W0 L W) [hr : Rd W0 L a B8 l] (hl : l.length < 70368744177664)
    (hk : ∀ a' c' W', St W0 (arr B8 T_uint8 a' c' l :: L) W' → k (.slice a' l.length c') W') : callK PR F_bytes_Clone [.slice a l.length c] k W := by
  apply S.bytes_Clone.call
  unfold S.bytes_Clone.body
  cases a with
  | none =>
    have hl0 : l = [] := by
      rcases Classical.em (l = []) with h0 | h0
      · exact h0
      · obtain ⟨g, o, h1, _⟩ := Rd.at (A := B8) (l := l) (a := none) h h0
        cases h1
    subst hl0
    simp -implicitDefEqProofs only [EN, lsub, lget, stL, beq_self_eq_true, ne_eq, if_true, if_false, List.cons_append, List.nil_append, Option.isNone_some, Option.isNone_none]
    exact hk none 0 W (h.ent (arr_nil _ _))
  | some ad =>
    simp -implicitDefEqProofs only [EN, lsub, lget, stL, beq_self_eq_true, ne_eq, if_true, if_false, List.cons_append, List.nil_append, Option.isNone_some, Option.isNone_none]
    refine bs0 B8 h fun a1 c1 W1 h1 => ?_
    refine appA (a := a1) (l := []) (m := l) h1 rfl (by simp; omega) (by simp [maxLen]; omega) fun a2 c2 W2 h2 => ?_
    exact hk a2 c2 W2 h2

@[reducible] def fch (x : BSl) : Asn := arr B8 T_uint8 x.a x.c x.bs
theorem fch0 (L : List Asn) : ent L (fch ⟨none, 0, []⟩ :: L) := arr_nil _ _
def InB (x : BSl) (B : List BSl) : Prop := x.bs = [] ∨ x ∈ B
theorem InB.cons {x y : BSl} {B : List BSl} (h : InB x B) : InB x (y :: B) := h.imp id fun h => List.mem_cons_of_mem _ h
theorem InB.head (x : BSl) (B : List BSl) : InB x (x :: B) := .inr (by simp)
theorem InB.nil (x : BSl) (B : List BSl) (h : x.bs = []) : InB x B := .inl h
theorem rdMany {x : BSl} {B : List BSl} (hx : InB x B) : Rd W0 (many fch B :: L) x.a B8 x.bs := ⟨fun W h => by
  rcases hx with hx | hx
  · rw [hx]; exact .inl rfl
  · obtain ⟨A, C, rfl⟩ := List.append_of_mem hx
    have h1 := h.ent ((many_perm (F := fch) (List.perm_middle (a := x) (l₁ := A) (l₂ := C))).trans (many_cons _ _))
    have hr : Rd W0 (arr B8 T_uint8 x.a x.c x.bs :: many fch (A ++ C) :: L) x.a B8 x.bs := inferInstance
    exact hr.ok W h1⟩
end
end Go.Proofs.Ytmojfpaagokckaa
namespace Go.Proofs.Ytmojfpaagokckaa
set_option linter.unusedVariables false
set_option linter.unusedSimpArgs false
open Go Go.Eng

section
variable {W0 W : World} {L L' : List Asn}
theorem b8v {n : Nat} (h : n < 256) : vcells (Value.int .u8 (n : Int)) = B8.row (UInt8.ofNat n) := by rw [b8_ofNat h]; rfl
theorem packNum {a : Option Addr} {l : List UInt8} {c : Nat} {v : Int} {k : Value → World → Prop} (h : St W0 L W) [hr : Rd W0 L a B8 l] (hl : l.length < 70368744177664 - 10) (h0 : -9223372036854775808 ≤ v) (h1 : v ≤ 9223372036854775807)
    (hk : ∀ a' c' W', St W0 (arr B8 T_uint8 a' c' (l ++ encN v) :: L) W' → k (.slice a' (l ++ encN v).length c') W') : callK PR F_pack_Num [.slice a l.length c, .int .i64 v] k W := by
  apply S.pack_Num.call
  unfold S.pack_Num.body
  refine bytesClone h (by omega) fun a1 c1 W1 h => ?_
  simp -implicitDefEqProofs only [EN, lsub, lget, stL, beq_self_eq_true, ne_eq, if_true, if_false, List.cons_append, List.nil_append, Option.isNone_some, Option.isNone_none]
  refine okF_i (binP_shl (by decide)) ?_
  refine okF_i (binP_shr (by decide)) ?_
  simp -implicitDefEqProofs only [EN, lsub, lget, stL, beq_self_eq_true, ne_eq, if_true, if_false, List.cons_append, List.nil_append, Option.isNone_some, Option.isNone_none]
  rw [shl1, sar63 v h0 h1]
  have hx : IntKind.u64.bits = 64 := rfl
  rw [hx, zig_xor v h0 h1]
  refine joinK_i ?_
  have hz := zig_lt h0 h1
  refine loop_i (fun m s W => ∃ (a : Option Addr) (c u : Nat) (out : List UInt8), u = m ∧ u < 18446744073709551616 ∧ s = [.slice a out.length c, .int .u64 u] ∧ out ++ encU u = l ++ encN v ∧ St W0 (arr B8 T_uint8 a c out :: L) W)
    _ ⟨a1, c1, _, l, rfl, hz, rfl, rfl, h⟩ ?_
  rintro m s W2 ⟨a2, c2, u, out, rfl, hu, rfl, he, h⟩
  have hlen : out.length ≤ l.length + 10 := by
    have := congrArg List.length he
    have h10 := encN_le h0 h1
    simp only [List.length_append] at this
    omega
  simp -implicitDefEqProofs only [EN, lsub, lget, stL, beq_self_eq_true, ne_eq, if_true, if_false, List.cons_append, List.nil_append, Option.isNone_some, Option.isNone_none]
  unfold S.pack_Num.l1
  simp -implicitDefEqProofs only [EN, lsub, lget, stL, beq_self_eq_true, ne_eq, if_true, if_false, List.cons_append, List.nil_append, Option.isNone_some, Option.isNone_none]
  refine ifK_d (fun hge => ?_) (fun hlt => ?_)
  · rw [cvt8 u]
    rw [or8' (u % 256) (Nat.mod_lt _ (by decide))]
    refine pushA (UInt8.ofNat (u % 128 + 128)) h ?_ rfl (by omega) (by simp only [maxLen]; omega) (by decide) fun a3 c3 W3 h => ?_
    · rw [show u % 256 % 128 = u % 128 by omega]; exact b8v (by omega)
    refine okF_i (binP_shr (by decide)) ?_
    rw [show (7 : Int) = ((7 : Nat) : Int) from rfl, shr_u u 7 (by omega)]
    refine ⟨u / 128, by omega, a3, c3, u / 128, _, rfl, by omega, rfl, ?_, h⟩
    rw [← he, encU_big (u := u) (by omega)]; simp only [List.append_assoc, List.cons_append, List.nil_append]
  · unfold S.pack_Num.j1
    simp -implicitDefEqProofs only [EN, lsub, lget, stL, beq_self_eq_true, ne_eq, if_true, if_false, List.cons_append, List.nil_append, Option.isNone_some, Option.isNone_none]
    rw [cvt8 u]
    refine pushA (UInt8.ofNat u) h ?_ rfl (by omega) (by simp only [maxLen]; omega) (by decide) fun a3 c3 W3 h => ?_
    · rw [show u % 256 = u by omega]; exact b8v (by omega)
    have e : out ++ [UInt8.ofNat u] = l ++ encN v := by rw [← he, encU_small (u := u) (by omega)]
    rw [e] at h ⊢
    exact hk a3 c3 W3 h
theorem packBytes {a b : Option Addr} {l m : List UInt8} {c d : Nat} {k : Value → World → Prop} (h : St W0 L W) [hr : Rd W0 L a B8 l] [hr2 : Rd W0 L b B8 m] (hl : l.length < 35184372088832) (hm : m.length < 35184372088832)
    (hk : ∀ a' c' W', St W0 (arr B8 T_uint8 a' c' (l ++ encN m.length ++ m) :: L) W' → k (.slice a' (l ++ encN m.length ++ m).length c') W') : callK PR F_pack_Bytes [.slice a l.length c, .slice b m.length d] k W := by
  apply S.pack_Bytes.call
  unfold S.pack_Bytes.body
  simp -implicitDefEqProofs only [EN, lsub, lget, stL, beq_self_eq_true, ne_eq, if_true, if_false, List.cons_append, List.nil_append, Option.isNone_some, Option.isNone_none]
  refine packNum h (by omega) (by omega) (by omega) fun a1 c1 W1 h => ?_
  have := encN_le (v := m.length) (by omega) (by omega)
  refine appA (a := a1) (m := m) h rfl (by simp only [List.length_append]; omega) (by simp only [List.length_append, maxLen]; omega) fun a2 c2 W2 h => ?_
  exact hk a2 c2 W2 h
theorem packText {a : Option Addr} {l : List UInt8} {s : ByteArray} {c : Nat} {k : Value → World → Prop} (h : St W0 L W) [hr : Rd W0 L a B8 l] (hl : l.length < 35184372088832) (hm : s.size < 35184372088832)
    (hk : ∀ a' c' W', St W0 (arr B8 T_uint8 a' c' (l ++ encN s.size ++ s.data.toList) :: L) W' → k (.slice a' (l ++ encN s.size ++ s.data.toList).length c') W') : callK PR F_pack_Text [.slice a l.length c, .string s] k W := by
  apply S.pack_Text.call
  unfold S.pack_Text.body
  refine s2b h (by simp only [maxLen]; omega) fun a1 c1 W1 h => ?_
  refine packBytes (a := a) (b := a1) (l := l) (m := s.data.toList) h hl hm fun a2 c2 W2 h => ?_
  exact hk a2 c2 W2 h.drop2
end
end Go.Proofs.Ytmojfpaagokckaa
