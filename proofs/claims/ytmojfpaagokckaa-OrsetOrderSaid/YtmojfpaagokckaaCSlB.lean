/- Contracts: slices.Compact, slices.Equal at strings; slices.Equal at dots. -/
import Derived.Test.YtmojfpaagokckaaPOrs
import Derived.Test.YtmojfpaagokckaaSrt2
import Derived.Test.YtmojfpaagokckaaShOrs
namespace Go.Proofs.Ytmojfpaagokckaa
set_option linter.unusedVariables false
set_option linter.unusedSimpArgs false
open Go Go.Eng

theorem cpt_snoc {α : Type} [DecidableEq α] : ∀ (l : List α) (a x : α), cpt ((l ++ [a]) ++ [x]) = if a = x then cpt (l ++ [a]) else cpt (l ++ [a]) ++ [x]
  | [], a, x => by
    by_cases h : a = x
    · subst h; simp [cpt]
    · simp [cpt, h]
  | [b], a, x => by
    have ih := cpt_snoc [] a x
    simp only [List.nil_append, List.cons_append] at ih ⊢
    by_cases h : b = a
    · subst h
      have e1 : ∀ r, cpt (b :: b :: r) = cpt (b :: r) := fun r => by simp [cpt]
      rw [e1, e1, ih]
    · have e1 : ∀ r, cpt (b :: a :: r) = b :: cpt (a :: r) := fun r => by simp [cpt, h]
      rw [e1, e1, ih]
      split <;> simp
  | b :: b' :: l, a, x => by
    have ih := cpt_snoc (b' :: l) a x
    simp only [List.cons_append] at ih ⊢
    by_cases h : b = b'
    · subst h
      have e1 : ∀ r, cpt (b :: b :: r) = cpt (b :: r) := fun r => by simp [cpt]
      rw [e1, e1, ih]
    · have e1 : ∀ r, cpt (b :: b' :: r) = b :: cpt (b' :: r) := fun r => by simp [cpt, h]
      rw [e1, e1, ih]
      split <;> simp
theorem cpt_take {α : Type} [DecidableEq α] {l : List α} {i : Nat} (h0 : 0 < i) (hi : i < l.length) : cpt (l.take (i + 1)) = if l[i - 1] = l[i] then cpt (l.take i) else cpt (l.take i) ++ [l[i]] := by
  have e1 : l.take (i + 1) = l.take i ++ [l[i]] := by rw [List.take_succ_eq_append_getElem hi]
  have e2 : l.take i = l.take (i - 1) ++ [l[i - 1]] := by
    have := List.take_succ_eq_append_getElem (l := l) (i := i - 1) (by omega)
    rwa [show i - 1 + 1 = i by omega] at this
  rw [e1, e2]
  exact cpt_snoc _ _ _
section
variable {W0 W : World} {L L' : List Asn}
theorem ba_eq (x y : Bs) : decide ((⟨x.toArray⟩ : ByteArray) = ⟨y.toArray⟩) = decide (x = y) := by
  rw [decide_eq_decide]; simp
set_option maxHeartbeats 4000000 in
theorem compactStr {a : Option Addr} {c : Nat} {l : List Bs} {k : Value → World → Prop} (h : St W0 (arr STB T_string a c l :: L) W) (hl : l.length < 4611686018427387904)
    (hk : ∀ a' c' W', St W0 (arr STB T_string a' c' (cpt l) :: L) W' → k (.slice a' (cpt l).length c') W') : callK PR F_slices_Compact_string_string [.slice a l.length c] k W := by
  apply S.slices_Compact_string_string.call
  unfold S.slices_Compact_string_string.body
  have hlc := h.arrFacts.1
  by_cases c1 : (l.length : Int) < 2
  · have e : cpt l = l := by
      match l, c1 with
      | [], _ => rfl
      | [a], _ => rfl
      | a :: b :: l, c1 => simp at c1; omega
    rw [e] at hk
    (repeat (first | (first | (with_reducible (first | refine w1 fun _ _ => ?_ | refine w3 fun _ _ _ => ?_ | refine w4 fun _ _ _ => ?_ | refine w11 fun _ _ _ => ?_ | refine stb_n ?_)) | ((with_reducible refine w2 ?_); try simp -implicitDefEqProofs only [EN, lsub, lget, stL, beq_self_eq_true, ne_eq, if_true, if_false, List.cons_append, List.nil_append, Option.isNone_some, Option.isNone_none, c1]; intro _ _) | ((with_reducible (first | refine w5 ?_ ?_ | refine w6 ?_ ?_ | refine w7 ?_ ?_)); simp; refine ⟨_, rfl, ?_⟩) | ((with_reducible (first | refine w8 ?_ ?_ ?_ | refine w9 ?_ ?_ ?_ | refine w10 ?_ ?_ ?_)); exact rfl; simp) | ((with_reducible refine w12 ?_ ?_ ?_ fun _ _ => ?_); simp; simp; simp [oneC]) | ((with_reducible (first | refine eqs ?_ | refine nes ?_)); refine ⟨_, rfl, ?_⟩) | ((refine okF_i (bldP_eq rfl) ?_); try simp only [BLS, List.take_succ_cons, List.take_zero, List.drop_succ_cons, List.drop_zero, List.cons_append, List.nil_append, Nat.reduceAdd])) | simp -implicitDefEqProofs only [EN, lsub, lget, stL, beq_self_eq_true, ne_eq, if_true, if_false, List.cons_append, List.nil_append, Option.isNone_some, Option.isNone_none, c1]))
    exact hk a c _ h
  (repeat (first | (first | (with_reducible (first | refine w1 fun _ _ => ?_ | refine w3 fun _ _ _ => ?_ | refine w4 fun _ _ _ => ?_ | refine w11 fun _ _ _ => ?_ | refine stb_n ?_)) | ((with_reducible refine w2 ?_); try simp -implicitDefEqProofs only [EN, lsub, lget, stL, beq_self_eq_true, ne_eq, if_true, if_false, List.cons_append, List.nil_append, Option.isNone_some, Option.isNone_none, c1]; intro _ _) | ((with_reducible (first | refine w5 ?_ ?_ | refine w6 ?_ ?_ | refine w7 ?_ ?_)); simp; refine ⟨_, rfl, ?_⟩) | ((with_reducible (first | refine w8 ?_ ?_ ?_ | refine w9 ?_ ?_ ?_ | refine w10 ?_ ?_ ?_)); exact rfl; simp) | ((with_reducible refine w12 ?_ ?_ ?_ fun _ _ => ?_); simp; simp; simp [oneC]) | ((with_reducible (first | refine eqs ?_ | refine nes ?_)); refine ⟨_, rfl, ?_⟩) | ((refine okF_i (bldP_eq rfl) ?_); try simp only [BLS, List.take_succ_cons, List.take_zero, List.drop_succ_cons, List.drop_zero, List.cons_append, List.nil_append, Nat.reduceAdd])) | simp -implicitDefEqProofs only [EN, lsub, lget, stL, beq_self_eq_true, ne_eq, if_true, if_false, List.cons_append, List.nil_append, Option.isNone_some, Option.isNone_none, c1]))
  refine joinK_i ?_
  refine loop_c (σ := Unit) (l.length - 1) (fun i _ => [.slice a l.length c, .int .i64 ((i + 1 : Nat) : Int)]) (fun i _ W1 => cpt (l.take (i + 1)) = l.take (i + 1) ∧ St W0 (arr STB T_string a c l :: L) W1) () rfl ⟨?_, h⟩ ?_
  · match l, c1 with
    | [], c1 => rfl
    | x :: l, c1 => rfl
  clear h
  rintro K j _ W2 hj ⟨hc, h⟩ hK
  obtain ⟨i, rfl⟩ : ∃ i, i = j + 1 := ⟨_, rfl⟩
  simp -implicitDefEqProofs only [EN, lsub, lget, stL, beq_self_eq_true, ne_eq, if_true, if_false, List.cons_append, List.nil_append, Option.isNone_some, Option.isNone_none]
  unfold S.slices_Compact_string_string.l1
  by_cases hlt : ((j + 1 : Nat) : Int) < (l.length : Int)
  · have hib : j + 1 < l.length := by omega
    have ew : IntKind.i64.wrap (((j + 1 : Nat) : Int) - 1) = ((j : Nat) : Int) := by rw [i64w]; omega
    have ew2 : IntKind.i64.wrap (((j + 1 : Nat) : Int) + 1) = ((j + 1 + 1 : Nat) : Int) := by rw [i64w]; omega
    have hct := cpt_take (l := l) (i := j + 1) (by omega) hib
    (repeat (first | (first | (with_reducible (first | refine w1 fun _ _ => ?_ | refine w3 fun _ _ _ => ?_ | refine w4 fun _ _ _ => ?_ | refine w11 fun _ _ _ => ?_ | refine stb_n ?_)) | ((with_reducible refine w2 ?_); try simp -implicitDefEqProofs only [EN, lsub, lget, stL, beq_self_eq_true, ne_eq, if_true, if_false, List.cons_append, List.nil_append, Option.isNone_some, Option.isNone_none, hlt]; intro _ _) | ((with_reducible (first | refine w5 ?_ ?_ | refine w6 ?_ ?_ | refine w7 ?_ ?_)); simp; refine ⟨_, rfl, ?_⟩) | ((with_reducible (first | refine w8 ?_ ?_ ?_ | refine w9 ?_ ?_ ?_ | refine w10 ?_ ?_ ?_)); exact rfl; simp) | ((with_reducible refine w12 ?_ ?_ ?_ fun _ _ => ?_); simp; simp; simp [oneC]) | ((with_reducible (first | refine eqs ?_ | refine nes ?_)); refine ⟨_, rfl, ?_⟩) | ((refine okF_i (bldP_eq rfl) ?_); try simp only [BLS, List.take_succ_cons, List.take_zero, List.drop_succ_cons, List.drop_zero, List.cons_append, List.nil_append, Nat.reduceAdd])) | simp -implicitDefEqProofs only [EN, lsub, lget, stL, beq_self_eq_true, ne_eq, if_true, if_false, List.cons_append, List.nil_append, Option.isNone_some, Option.isNone_none, hlt]))
    refine joinK_i ?_
    refine ixA (i := j + 1) (a := a) (l := l) (A := STB) (h.tick) rfl rfl hib fun g o ha => ?_
    cases ha
    refine ldA0 (i := j + 1) (l := l) (A := STB) (h.tick) rfl hib (v := sv l[j + 1]) rfl (by simp) ?_
    (repeat (first | (first | (with_reducible (first | refine w1 fun _ _ => ?_ | refine w3 fun _ _ _ => ?_ | refine w4 fun _ _ _ => ?_ | refine w11 fun _ _ _ => ?_ | refine stb_n ?_)) | ((with_reducible refine w2 ?_); try simp -implicitDefEqProofs only [EN, lsub, lget, stL, beq_self_eq_true, ne_eq, if_true, if_false, List.cons_append, List.nil_append, Option.isNone_some, Option.isNone_none, ew]; intro _ _) | ((with_reducible (first | refine w5 ?_ ?_ | refine w6 ?_ ?_ | refine w7 ?_ ?_)); simp; refine ⟨_, rfl, ?_⟩) | ((with_reducible (first | refine w8 ?_ ?_ ?_ | refine w9 ?_ ?_ ?_ | refine w10 ?_ ?_ ?_)); exact rfl; simp) | ((with_reducible refine w12 ?_ ?_ ?_ fun _ _ => ?_); simp; simp; simp [oneC]) | ((with_reducible (first | refine eqs ?_ | refine nes ?_)); refine ⟨_, rfl, ?_⟩) | ((refine okF_i (bldP_eq rfl) ?_); try simp only [BLS, List.take_succ_cons, List.take_zero, List.drop_succ_cons, List.drop_zero, List.cons_append, List.nil_append, Nat.reduceAdd])) | simp -implicitDefEqProofs only [EN, lsub, lget, stL, beq_self_eq_true, ne_eq, if_true, if_false, List.cons_append, List.nil_append, Option.isNone_some, Option.isNone_none, ew]))
    refine ixA (i := j) (a := some ⟨g, o, none⟩) (l := l) (A := STB) (h.tick) rfl rfl (by omega) fun g' o' ha => ?_
    cases ha
    refine ldA0 (i := j) (l := l) (A := STB) (h.tick) rfl (by omega) (v := sv (l[j]'(by omega))) rfl (by simp) ?_
    by_cases he : l[j]'(by omega) = l[j + 1]
    · have f1 : decide ((⟨l[j + 1].toArray⟩ : ByteArray) = ⟨(l[j]'(by omega)).toArray⟩) = true := by rw [ba_eq]; exact decide_eq_true he.symm
      rw [if_pos (by simpa using he), hc] at hct
      (repeat (first | (first | (with_reducible (first | refine w1 fun _ _ => ?_ | refine w3 fun _ _ _ => ?_ | refine w4 fun _ _ _ => ?_ | refine w11 fun _ _ _ => ?_ | refine stb_n ?_)) | ((with_reducible refine w2 ?_); try simp -implicitDefEqProofs only [EN, lsub, lget, stL, beq_self_eq_true, ne_eq, if_true, if_false, List.cons_append, List.nil_append, Option.isNone_some, Option.isNone_none, f1]; intro _ _) | ((with_reducible (first | refine w5 ?_ ?_ | refine w6 ?_ ?_ | refine w7 ?_ ?_)); simp; refine ⟨_, rfl, ?_⟩) | ((with_reducible (first | refine w8 ?_ ?_ ?_ | refine w9 ?_ ?_ ?_ | refine w10 ?_ ?_ ?_)); exact rfl; simp) | ((with_reducible refine w12 ?_ ?_ ?_ fun _ _ => ?_); simp; simp; simp [oneC]) | ((with_reducible (first | refine eqs ?_ | refine nes ?_)); refine ⟨_, rfl, ?_⟩) | ((refine okF_i (bldP_eq rfl) ?_); try simp only [BLS, List.take_succ_cons, List.take_zero, List.drop_succ_cons, List.drop_zero, List.cons_append, List.nil_append, Nat.reduceAdd])) | simp -implicitDefEqProofs only [EN, lsub, lget, stL, beq_self_eq_true, ne_eq, if_true, if_false, List.cons_append, List.nil_append, Option.isNone_some, Option.isNone_none, f1]))
      refine okF_i (slcS_eq (bnd_none) (bnd_nat (by omega))) ?_
      rw [if_neg (by omega)]
      simp only [Option.map_some, add_none]
      refine joinK_i ?_
      refine loop_c (σ := Nat × List Bs) (l.length - (j + 1) - 1) (fun m x => [.slice (some ⟨g, o, none⟩) l.length c, .int .i64 (x.1 : Int), .slice (some ⟨g, o + (j + 1) * 1, none⟩) (l.length - (j + 1)) (c - (j + 1)), .int .i64 ((m + 1 : Nat) : Int)])
        (fun m x W1 => (x.2.length = l.length ∧ x.1 < j + 1 + (m + 1) ∧ x.2.take x.1 = cpt (l.take (j + 1 + (m + 1))) ∧ x.2.drop (j + 1 + m) = l.drop (j + 1 + m)) ∧ St W0 (arr STB T_string (some ⟨g, o, none⟩) c x.2 :: L) W1) (j + 1, l) rfl ⟨⟨rfl, by omega, by simp only; rw [← hct], rfl⟩, h.tick⟩ ?_
      clear h hK
      rintro K2 m ⟨q, t⟩ W3 hm ⟨⟨htl, hq, hqt, hdr⟩, h⟩ hK2
      simp only at htl hq hqt hdr h
      simp -implicitDefEqProofs only [EN, lsub, lget, stL, beq_self_eq_true, ne_eq, if_true, if_false, List.cons_append, List.nil_append, Option.isNone_some, Option.isNone_none]
      unfold S.slices_Compact_string_string.l2
      have e4 : (((l.length - (j + 1) : Nat)) : Int) = (l.length : Int) - ((j : Int) + 1) := by omega
      by_cases hmt : ((m + 1 : Nat) : Int) < ((l.length - (j + 1) : Nat) : Int)
      · have hmb : m + 1 < l.length - (j + 1) := by omega
        have hir : j + 1 + (m + 1) < l.length := by omega
        have ew3 : IntKind.i64.wrap (((m + 1 : Nat) : Int) - 1) = ((m : Nat) : Int) := by rw [i64w]; omega
        have ew4 : IntKind.i64.wrap (((m + 1 : Nat) : Int) + 1) = ((m + 1 + 1 : Nat) : Int) := by rw [i64w]; omega
        have ew5 : IntKind.i64.wrap ((q : Int) + 1) = ((q + 1 : Nat) : Int) := by rw [i64w]; omega
        have hct2 := cpt_take (l := l) (i := j + 1 + (m + 1)) (by omega) hir
        have hg1 : t[j + 1 + (m + 1)]'(by omega) = l[j + 1 + (m + 1)] := by
          have := congrArg (fun x => x[1]?) hdr
          simp only [List.getElem?_drop] at this
          rw [show j + 1 + m + 1 = j + 1 + (m + 1) by omega, List.getElem?_eq_getElem (by omega), List.getElem?_eq_getElem hir] at this
          simpa using this
        have hg0 : t[j + 1 + m]'(by omega) = l[j + 1 + m]'(by omega) := by
          have := congrArg (fun x => x[0]?) hdr
          simp only [List.getElem?_drop, Nat.add_zero] at this
          rw [List.getElem?_eq_getElem (by omega), List.getElem?_eq_getElem (by omega)] at this
          simpa using this
        have hi1 : idxS 1 (.slice (some ⟨g, o + (j + 1) * 1, none⟩) (l.length - (j + 1)) (c - (j + 1))) (.int .i64 ((m + 1 : Nat) : Int)) = some (.pointer (some ⟨g, o + (j + 1 + (m + 1)) * 1, none⟩)) := by
          rw [idxS_blk (by omega) (by omega), Int.toNat_natCast, show o + (j + 1) * 1 + (m + 1) * 1 = o + (j + 1 + (m + 1)) * 1 by omega]
        have hi0 : idxS 1 (.slice (some ⟨g, o + (j + 1) * 1, none⟩) (l.length - (j + 1)) (c - (j + 1))) (.int .i64 ((m : Nat) : Int)) = some (.pointer (some ⟨g, o + (j + 1 + m) * 1, none⟩)) := by
          rw [idxS_blk (by omega) (by omega), Int.toNat_natCast, show o + (j + 1) * 1 + m * 1 = o + (j + 1 + m) * 1 by omega]
        (repeat (first | (first | (with_reducible (first | refine w1 fun _ _ => ?_ | refine w3 fun _ _ _ => ?_ | refine w4 fun _ _ _ => ?_ | refine w11 fun _ _ _ => ?_ | refine stb_n ?_)) | ((with_reducible refine w2 ?_); try simp -implicitDefEqProofs only [EN, lsub, lget, stL, beq_self_eq_true, ne_eq, if_true, if_false, List.cons_append, List.nil_append, Option.isNone_some, Option.isNone_none, hmt]; intro _ _) | ((with_reducible (first | refine w5 ?_ ?_ | refine w6 ?_ ?_ | refine w7 ?_ ?_)); simp; refine ⟨_, rfl, ?_⟩) | ((with_reducible (first | refine w8 ?_ ?_ ?_ | refine w9 ?_ ?_ ?_ | refine w10 ?_ ?_ ?_)); exact rfl; simp) | ((with_reducible refine w12 ?_ ?_ ?_ fun _ _ => ?_); simp; simp; simp [oneC]) | ((with_reducible (first | refine eqs ?_ | refine nes ?_)); refine ⟨_, rfl, ?_⟩) | ((refine okF_i (bldP_eq rfl) ?_); try simp only [BLS, List.take_succ_cons, List.take_zero, List.drop_succ_cons, List.drop_zero, List.cons_append, List.nil_append, Nat.reduceAdd])) | simp -implicitDefEqProofs only [EN, lsub, lget, stL, beq_self_eq_true, ne_eq, if_true, if_false, List.cons_append, List.nil_append, Option.isNone_some, Option.isNone_none, hmt]))
        refine joinK_i ?_
        refine okF_i hi1 ?_
        refine ldA0 (i := j + 1 + (m + 1)) (l := t) (A := STB) (h.tick) rfl (by omega) (v := sv (t[j + 1 + (m + 1)]'(by omega))) rfl (by simp) ?_
        (repeat (first | (first | (with_reducible (first | refine w1 fun _ _ => ?_ | refine w3 fun _ _ _ => ?_ | refine w4 fun _ _ _ => ?_ | refine w11 fun _ _ _ => ?_ | refine stb_n ?_)) | ((with_reducible refine w2 ?_); try simp -implicitDefEqProofs only [EN, lsub, lget, stL, beq_self_eq_true, ne_eq, if_true, if_false, List.cons_append, List.nil_append, Option.isNone_some, Option.isNone_none, ew3]; intro _ _) | ((with_reducible (first | refine w5 ?_ ?_ | refine w6 ?_ ?_ | refine w7 ?_ ?_)); simp; refine ⟨_, rfl, ?_⟩) | ((with_reducible (first | refine w8 ?_ ?_ ?_ | refine w9 ?_ ?_ ?_ | refine w10 ?_ ?_ ?_)); exact rfl; simp) | ((with_reducible refine w12 ?_ ?_ ?_ fun _ _ => ?_); simp; simp; simp [oneC]) | ((with_reducible (first | refine eqs ?_ | refine nes ?_)); refine ⟨_, rfl, ?_⟩) | ((refine okF_i (bldP_eq rfl) ?_); try simp only [BLS, List.take_succ_cons, List.take_zero, List.drop_succ_cons, List.drop_zero, List.cons_append, List.nil_append, Nat.reduceAdd])) | simp -implicitDefEqProofs only [EN, lsub, lget, stL, beq_self_eq_true, ne_eq, if_true, if_false, List.cons_append, List.nil_append, Option.isNone_some, Option.isNone_none, ew3]))
        refine okF_i hi0 ?_
        refine ldA0 (i := j + 1 + m) (l := t) (A := STB) (h.tick) rfl (by omega) (v := sv (t[j + 1 + m]'(by omega))) rfl (by simp) ?_
        rw [hg1, hg0]
        by_cases he2 : l[j + 1 + m]'(by omega) = l[j + 1 + (m + 1)]
        · have f2 : decide ((⟨l[j + 1 + (m + 1)].toArray⟩ : ByteArray) = ⟨(l[j + 1 + m]'(by omega)).toArray⟩) = true := by rw [ba_eq]; exact decide_eq_true he2.symm
          rw [if_pos (by simpa using he2)] at hct2
          (repeat (first | (first | (with_reducible (first | refine w1 fun _ _ => ?_ | refine w3 fun _ _ _ => ?_ | refine w4 fun _ _ _ => ?_ | refine w11 fun _ _ _ => ?_ | refine stb_n ?_)) | ((with_reducible refine w2 ?_); try simp -implicitDefEqProofs only [EN, lsub, lget, stL, beq_self_eq_true, ne_eq, if_true, if_false, List.cons_append, List.nil_append, Option.isNone_some, Option.isNone_none, f2]; intro _ _) | ((with_reducible (first | refine w5 ?_ ?_ | refine w6 ?_ ?_ | refine w7 ?_ ?_)); simp; refine ⟨_, rfl, ?_⟩) | ((with_reducible (first | refine w8 ?_ ?_ ?_ | refine w9 ?_ ?_ ?_ | refine w10 ?_ ?_ ?_)); exact rfl; simp) | ((with_reducible refine w12 ?_ ?_ ?_ fun _ _ => ?_); simp; simp; simp [oneC]) | ((with_reducible (first | refine eqs ?_ | refine nes ?_)); refine ⟨_, rfl, ?_⟩) | ((refine okF_i (bldP_eq rfl) ?_); try simp only [BLS, List.take_succ_cons, List.take_zero, List.drop_succ_cons, List.drop_zero, List.cons_append, List.nil_append, Nat.reduceAdd])) | simp -implicitDefEqProofs only [EN, lsub, lget, stL, beq_self_eq_true, ne_eq, if_true, if_false, List.cons_append, List.nil_append, Option.isNone_some, Option.isNone_none, f2]))
          unfold S.slices_Compact_string_string.j4
          (repeat (first | (first | (with_reducible (first | refine w1 fun _ _ => ?_ | refine w3 fun _ _ _ => ?_ | refine w4 fun _ _ _ => ?_ | refine w11 fun _ _ _ => ?_ | refine stb_n ?_)) | ((with_reducible refine w2 ?_); try simp -implicitDefEqProofs only [EN, lsub, lget, stL, beq_self_eq_true, ne_eq, if_true, if_false, List.cons_append, List.nil_append, Option.isNone_some, Option.isNone_none, ew4]; intro _ _) | ((with_reducible (first | refine w5 ?_ ?_ | refine w6 ?_ ?_ | refine w7 ?_ ?_)); simp; refine ⟨_, rfl, ?_⟩) | ((with_reducible (first | refine w8 ?_ ?_ ?_ | refine w9 ?_ ?_ ?_ | refine w10 ?_ ?_ ?_)); exact rfl; simp) | ((with_reducible refine w12 ?_ ?_ ?_ fun _ _ => ?_); simp; simp; simp [oneC]) | ((with_reducible (first | refine eqs ?_ | refine nes ?_)); refine ⟨_, rfl, ?_⟩) | ((refine okF_i (bldP_eq rfl) ?_); try simp only [BLS, List.take_succ_cons, List.take_zero, List.drop_succ_cons, List.drop_zero, List.cons_append, List.nil_append, Nat.reduceAdd])) | simp -implicitDefEqProofs only [EN, lsub, lget, stL, beq_self_eq_true, ne_eq, if_true, if_false, List.cons_append, List.nil_append, Option.isNone_some, Option.isNone_none, ew4]))
          refine hK2 (q, t) _ (by omega) ⟨⟨htl, by simp only; omega, ?_, ?_⟩, h.tick⟩
          · simp only; rw [hqt, ← hct2]; rfl
          · simp only
            have := congrArg (List.drop 1) hdr
            simpa [List.drop_drop, Nat.add_assoc] using this
        · have f2 : decide ((⟨l[j + 1 + (m + 1)].toArray⟩ : ByteArray) = ⟨(l[j + 1 + m]'(by omega)).toArray⟩) = false := by rw [ba_eq]; exact decide_eq_false fun e => he2 e.symm
          rw [if_neg (by simpa using he2)] at hct2
          have hqc : q = (cpt (l.take (j + 1 + (m + 1)))).length := by rw [← hqt, List.length_take]; omega
          (repeat (first | (first | (with_reducible (first | refine w1 fun _ _ => ?_ | refine w3 fun _ _ _ => ?_ | refine w4 fun _ _ _ => ?_ | refine w11 fun _ _ _ => ?_ | refine stb_n ?_)) | ((with_reducible refine w2 ?_); try simp -implicitDefEqProofs only [EN, lsub, lget, stL, beq_self_eq_true, ne_eq, if_true, if_false, List.cons_append, List.nil_append, Option.isNone_some, Option.isNone_none, f2]; intro _ _) | ((with_reducible (first | refine w5 ?_ ?_ | refine w6 ?_ ?_ | refine w7 ?_ ?_)); simp; refine ⟨_, rfl, ?_⟩) | ((with_reducible (first | refine w8 ?_ ?_ ?_ | refine w9 ?_ ?_ ?_ | refine w10 ?_ ?_ ?_)); exact rfl; simp) | ((with_reducible refine w12 ?_ ?_ ?_ fun _ _ => ?_); simp; simp; simp [oneC]) | ((with_reducible (first | refine eqs ?_ | refine nes ?_)); refine ⟨_, rfl, ?_⟩) | ((refine okF_i (bldP_eq rfl) ?_); try simp only [BLS, List.take_succ_cons, List.take_zero, List.drop_succ_cons, List.drop_zero, List.cons_append, List.nil_append, Nat.reduceAdd])) | simp -implicitDefEqProofs only [EN, lsub, lget, stL, beq_self_eq_true, ne_eq, if_true, if_false, List.cons_append, List.nil_append, Option.isNone_some, Option.isNone_none, f2]))
          refine okF_i hi1 ?_
          refine ldA0 (i := j + 1 + (m + 1)) (l := t) (A := STB) (h.tick) rfl (by omega) (v := sv (t[j + 1 + (m + 1)]'(by omega))) rfl (by simp) ?_
          rw [hg1]
          refine ixA (i := q) (n := l.length) (a := some ⟨g, o, none⟩) (l := t) (A := STB) (h.tick) rfl htl.symm (by omega) fun g' o' ha => ?_
          cases ha
          refine stA (i := q) (l := t) (A := STB) (x := l[j + 1 + (m + 1)]) (h.tick) rfl (by omega) rfl fun W5 h => ?_
          (repeat (first | (first | (with_reducible (first | refine w1 fun _ _ => ?_ | refine w3 fun _ _ _ => ?_ | refine w4 fun _ _ _ => ?_ | refine w11 fun _ _ _ => ?_ | refine stb_n ?_)) | ((with_reducible refine w2 ?_); try simp -implicitDefEqProofs only [EN, lsub, lget, stL, beq_self_eq_true, ne_eq, if_true, if_false, List.cons_append, List.nil_append, Option.isNone_some, Option.isNone_none, ew5]; intro _ _) | ((with_reducible (first | refine w5 ?_ ?_ | refine w6 ?_ ?_ | refine w7 ?_ ?_)); simp; refine ⟨_, rfl, ?_⟩) | ((with_reducible (first | refine w8 ?_ ?_ ?_ | refine w9 ?_ ?_ ?_ | refine w10 ?_ ?_ ?_)); exact rfl; simp) | ((with_reducible refine w12 ?_ ?_ ?_ fun _ _ => ?_); simp; simp; simp [oneC]) | ((with_reducible (first | refine eqs ?_ | refine nes ?_)); refine ⟨_, rfl, ?_⟩) | ((refine okF_i (bldP_eq rfl) ?_); try simp only [BLS, List.take_succ_cons, List.take_zero, List.drop_succ_cons, List.drop_zero, List.cons_append, List.nil_append, Nat.reduceAdd])) | simp -implicitDefEqProofs only [EN, lsub, lget, stL, beq_self_eq_true, ne_eq, if_true, if_false, List.cons_append, List.nil_append, Option.isNone_some, Option.isNone_none, ew5]))
          unfold S.slices_Compact_string_string.j4
          (repeat (first | (first | (with_reducible (first | refine w1 fun _ _ => ?_ | refine w3 fun _ _ _ => ?_ | refine w4 fun _ _ _ => ?_ | refine w11 fun _ _ _ => ?_ | refine stb_n ?_)) | ((with_reducible refine w2 ?_); try simp -implicitDefEqProofs only [EN, lsub, lget, stL, beq_self_eq_true, ne_eq, if_true, if_false, List.cons_append, List.nil_append, Option.isNone_some, Option.isNone_none, ew4]; intro _ _) | ((with_reducible (first | refine w5 ?_ ?_ | refine w6 ?_ ?_ | refine w7 ?_ ?_)); simp; refine ⟨_, rfl, ?_⟩) | ((with_reducible (first | refine w8 ?_ ?_ ?_ | refine w9 ?_ ?_ ?_ | refine w10 ?_ ?_ ?_)); exact rfl; simp) | ((with_reducible refine w12 ?_ ?_ ?_ fun _ _ => ?_); simp; simp; simp [oneC]) | ((with_reducible (first | refine eqs ?_ | refine nes ?_)); refine ⟨_, rfl, ?_⟩) | ((refine okF_i (bldP_eq rfl) ?_); try simp only [BLS, List.take_succ_cons, List.take_zero, List.drop_succ_cons, List.drop_zero, List.cons_append, List.nil_append, Nat.reduceAdd])) | simp -implicitDefEqProofs only [EN, lsub, lget, stL, beq_self_eq_true, ne_eq, if_true, if_false, List.cons_append, List.nil_append, Option.isNone_some, Option.isNone_none, ew4]))
          refine hK2 (q + 1, t.set q l[j + 1 + (m + 1)]) _ (by omega) ⟨⟨by simp only [List.length_set]; exact htl, by simp only; omega, ?_, ?_⟩, h⟩
          · simp only
            rw [show j + 1 + (m + 1 + 1) = j + 1 + (m + 1) + 1 from rfl, hct2, ← hqt, List.take_succ_eq_append_getElem (by rw [List.length_set]; omega), List.take_set_of_le (Nat.le_refl _)]
            simp
          · simp only
            rw [List.drop_set_of_lt (by omega)]
            have := congrArg (List.drop 1) hdr
            simpa [List.drop_drop, Nat.add_assoc] using this
      · have hme : m + 1 = l.length - (j + 1) := by omega
        have hall : l.take (j + 1 + (m + 1)) = l := List.take_of_length_le (by omega)
        rw [hall] at hqt
        have hql : q = (cpt l).length := by rw [← hqt, List.length_take]; omega
        (repeat (first | (first | (with_reducible (first | refine w1 fun _ _ => ?_ | refine w3 fun _ _ _ => ?_ | refine w4 fun _ _ _ => ?_ | refine w11 fun _ _ _ => ?_ | refine stb_n ?_)) | ((with_reducible refine w2 ?_); try simp -implicitDefEqProofs only [EN, lsub, lget, stL, beq_self_eq_true, ne_eq, if_true, if_false, List.cons_append, List.nil_append, Option.isNone_some, Option.isNone_none, hmt]; intro _ _) | ((with_reducible (first | refine w5 ?_ ?_ | refine w6 ?_ ?_ | refine w7 ?_ ?_)); simp; refine ⟨_, rfl, ?_⟩) | ((with_reducible (first | refine w8 ?_ ?_ ?_ | refine w9 ?_ ?_ ?_ | refine w10 ?_ ?_ ?_)); exact rfl; simp) | ((with_reducible refine w12 ?_ ?_ ?_ fun _ _ => ?_); simp; simp; simp [oneC]) | ((with_reducible (first | refine eqs ?_ | refine nes ?_)); refine ⟨_, rfl, ?_⟩) | ((refine okF_i (bldP_eq rfl) ?_); try simp only [BLS, List.take_succ_cons, List.take_zero, List.drop_succ_cons, List.drop_zero, List.cons_append, List.nil_append, Nat.reduceAdd])) | simp -implicitDefEqProofs only [EN, lsub, lget, stL, beq_self_eq_true, ne_eq, if_true, if_false, List.cons_append, List.nil_append, Option.isNone_some, Option.isNone_none, hmt]))
        unfold S.slices_Compact_string_string.j3
        refine okF_i (slcS_eq (bnd_none) (bnd_nat (by omega))) ?_
        refine clrA (a := some ⟨g, o, none⟩) (l := t) (A := STB) (i := q) h rfl rfl (by omega) rfl (by omega) fun W5 h => ?_
        refine slc_pre (i := q) h (by omega) ?_
        rw [hqt] at h
        rw [hql]
        exact hk _ _ _ h
    · have f1 : decide ((⟨l[j + 1].toArray⟩ : ByteArray) = ⟨(l[j]'(by omega)).toArray⟩) = false := by rw [ba_eq]; exact decide_eq_false fun e => he e.symm
      rw [if_neg (by simpa using he), hc] at hct
      (repeat (first | (first | (with_reducible (first | refine w1 fun _ _ => ?_ | refine w3 fun _ _ _ => ?_ | refine w4 fun _ _ _ => ?_ | refine w11 fun _ _ _ => ?_ | refine stb_n ?_)) | ((with_reducible refine w2 ?_); try simp -implicitDefEqProofs only [EN, lsub, lget, stL, beq_self_eq_true, ne_eq, if_true, if_false, List.cons_append, List.nil_append, Option.isNone_some, Option.isNone_none, f1]; intro _ _) | ((with_reducible (first | refine w5 ?_ ?_ | refine w6 ?_ ?_ | refine w7 ?_ ?_)); simp; refine ⟨_, rfl, ?_⟩) | ((with_reducible (first | refine w8 ?_ ?_ ?_ | refine w9 ?_ ?_ ?_ | refine w10 ?_ ?_ ?_)); exact rfl; simp) | ((with_reducible refine w12 ?_ ?_ ?_ fun _ _ => ?_); simp; simp; simp [oneC]) | ((with_reducible (first | refine eqs ?_ | refine nes ?_)); refine ⟨_, rfl, ?_⟩) | ((refine okF_i (bldP_eq rfl) ?_); try simp only [BLS, List.take_succ_cons, List.take_zero, List.drop_succ_cons, List.drop_zero, List.cons_append, List.nil_append, Nat.reduceAdd])) | simp -implicitDefEqProofs only [EN, lsub, lget, stL, beq_self_eq_true, ne_eq, if_true, if_false, List.cons_append, List.nil_append, Option.isNone_some, Option.isNone_none, f1]))
      unfold S.slices_Compact_string_string.j2
      (repeat (first | (first | (with_reducible (first | refine w1 fun _ _ => ?_ | refine w3 fun _ _ _ => ?_ | refine w4 fun _ _ _ => ?_ | refine w11 fun _ _ _ => ?_ | refine stb_n ?_)) | ((with_reducible refine w2 ?_); try simp -implicitDefEqProofs only [EN, lsub, lget, stL, beq_self_eq_true, ne_eq, if_true, if_false, List.cons_append, List.nil_append, Option.isNone_some, Option.isNone_none, ew2]; intro _ _) | ((with_reducible (first | refine w5 ?_ ?_ | refine w6 ?_ ?_ | refine w7 ?_ ?_)); simp; refine ⟨_, rfl, ?_⟩) | ((with_reducible (first | refine w8 ?_ ?_ ?_ | refine w9 ?_ ?_ ?_ | refine w10 ?_ ?_ ?_)); exact rfl; simp) | ((with_reducible refine w12 ?_ ?_ ?_ fun _ _ => ?_); simp; simp; simp [oneC]) | ((with_reducible (first | refine eqs ?_ | refine nes ?_)); refine ⟨_, rfl, ?_⟩) | ((refine okF_i (bldP_eq rfl) ?_); try simp only [BLS, List.take_succ_cons, List.take_zero, List.drop_succ_cons, List.drop_zero, List.cons_append, List.nil_append, Nat.reduceAdd])) | simp -implicitDefEqProofs only [EN, lsub, lget, stL, beq_self_eq_true, ne_eq, if_true, if_false, List.cons_append, List.nil_append, Option.isNone_some, Option.isNone_none, ew2]))
      refine hK () _ (by omega) ⟨?_, h.tick⟩
      rw [hct, ← List.take_succ_eq_append_getElem hib]
  · have hall : l.take (j + 1) = l := List.take_of_length_le (by omega)
    rw [hall] at hc
    (repeat (first | (first | (with_reducible (first | refine w1 fun _ _ => ?_ | refine w3 fun _ _ _ => ?_ | refine w4 fun _ _ _ => ?_ | refine w11 fun _ _ _ => ?_ | refine stb_n ?_)) | ((with_reducible refine w2 ?_); try simp -implicitDefEqProofs only [EN, lsub, lget, stL, beq_self_eq_true, ne_eq, if_true, if_false, List.cons_append, List.nil_append, Option.isNone_some, Option.isNone_none, hlt]; intro _ _) | ((with_reducible (first | refine w5 ?_ ?_ | refine w6 ?_ ?_ | refine w7 ?_ ?_)); simp; refine ⟨_, rfl, ?_⟩) | ((with_reducible (first | refine w8 ?_ ?_ ?_ | refine w9 ?_ ?_ ?_ | refine w10 ?_ ?_ ?_)); exact rfl; simp) | ((with_reducible refine w12 ?_ ?_ ?_ fun _ _ => ?_); simp; simp; simp [oneC]) | ((with_reducible (first | refine eqs ?_ | refine nes ?_)); refine ⟨_, rfl, ?_⟩) | ((refine okF_i (bldP_eq rfl) ?_); try simp only [BLS, List.take_succ_cons, List.take_zero, List.drop_succ_cons, List.drop_zero, List.cons_append, List.nil_append, Nat.reduceAdd])) | simp -implicitDefEqProofs only [EN, lsub, lget, stL, beq_self_eq_true, ne_eq, if_true, if_false, List.cons_append, List.nil_append, Option.isNone_some, Option.isNone_none, hlt]))
    unfold S.slices_Compact_string_string.j1
    rw [hc] at hk
    exact hk _ _ _ h
end
end Go.Proofs.Ytmojfpaagokckaa
