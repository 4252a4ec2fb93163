/- Contracts: orset's Drop, Copy, Same, Put. -/
import Derived.Test.YtmojfpaagokckaaCOrs3
namespace Go.Proofs.Ytmojfpaagokckaa
set_option linter.unusedVariables false
set_option linter.unusedSimpArgs false
open Go Go.Eng

theorem putD_len (b : Bs) (d : Dot) (h : d.ok = true) : b.length ≤ (putD b d).length ∧ (putD b d).length ≤ b.length + 20 := by
  unfold Dot.ok at h
  simp only [decide_eq_true_eq] at h
  have h1 := encN_le (v := d.rep) (by omega) (by omega)
  have h2 := encN_le (v := d.n) (by omega) (by omega)
  unfold putD
  simp only [List.length_append]
  omega
theorem putDs_len : ∀ (l : List Dot) (b : Bs), (∀ d ∈ l, d.ok = true) → (l.foldl putD b).length ≤ b.length + 20 * l.length
  | [], b, _ => by simp
  | d :: l, b, h => by
    have h1 := putD_len b d (h d (by simp))
    have h2 := putDs_len l (putD b d) fun x hx => h x (by simp [hx])
    simp only [List.foldl_cons, List.length_cons]
    omega
section
variable {s : OS}
theorem OS.ok.dots (h : s.ok) (x : Bs) : ∀ d ∈ s.dots x, d.ok = true := fun d hd => (h.add _ (OS.dots_mem.1 hd).1).1
theorem OS.ok.all (h : s.ok) : ∀ x ∈ s.all, x.length ≤ 100 := fun x hx => by
  obtain ⟨d, hd, _⟩ := OS.all_mem.1 hx
  exact (h.add _ hd).2
theorem putX_len (h : s.ok) (hl : s.added.length ≤ 1000) (b x : Bs) (hx : x.length ≤ 100) : (s.putX b x).length ≤ b.length + 30000 := by
  have h1 := putDs_len (s.dots x) (b ++ encN x.length ++ x ++ encN (s.dots x).length) (h.dots x)
  have h2 := encN_le (v := x.length) (by omega) (by omega)
  have h4 := s.dots_len x
  have h3 := encN_le (v := (s.dots x).length) (by omega) (by omega)
  simp only [List.length_append] at h1
  unfold OS.putX
  omega
theorem putXs_len (h : s.ok) (hl : s.added.length ≤ 1000) : ∀ (l : List Bs) (b : Bs), (∀ x ∈ l, x.length ≤ 100) → (l.foldl s.putX b).length ≤ b.length + 30000 * l.length
  | [], b, _ => by simp
  | x :: l, b, hx => by
    have h1 := putX_len h hl b x (hx x (by simp))
    have h2 := putXs_len h hl l (s.putX b x) fun y hy => hx y (by simp [hy])
    simp only [List.foldl_cons, List.length_cons]
    omega
end
theorem foldl_take {α β : Type} (f : β → α → β) (b : β) (l : List α) {i : Nat} (hi : i < l.length) : (l.take (i + 1)).foldl f b = f ((l.take i).foldl f b) l[i] := by
  rw [List.take_succ_eq_append_getElem hi, List.foldl_append]
  rfl
section
variable {W0 W : World} {L L' L1 L2 : List Asn} {q r g : Nat}
theorem orsetDrop {s : OS} {st : P7 Int} {k : Value → World → Prop} (h : St W0 L W) [ht : Tk (os q) L s L'] (hk : ∀ W', St W0 (os q (s.drop st) :: L') W' → k (.tuple #[]) W') :
    callK PR F_orset_Set_Drop [.pointer (some ⟨q, 0, none⟩), vv st] k W := by
  apply S.orset_Set_Drop.call
  unfold S.orset_Set_Drop.body
  obtain ⟨r, g, h⟩ := os_at (h.perm ht.perm)
  refine bx h fun pb W1 h => ?_
  have h : St W0 (cells pb [.pointer (some ⟨q, 0, none⟩)] T_p_orset_Set :: cells q [.map (some r), .map (some g)] T_orset_Set :: mp KD r (mvA s.added) :: mp KB g (mvG s.gone) :: L') W1 := h
  refine bxa h fun vb W1 h => ?_
  (repeat (first | (first | (with_reducible (first | refine w1 fun _ _ => ?_ | refine w3 fun _ _ _ => ?_ | refine w4 fun _ _ _ => ?_ | refine w11 fun _ _ _ => ?_ | refine stb_n ?_)) | ((with_reducible refine w2 ?_); try simp -implicitDefEqProofs only [EN, lsub, lget, stL, beq_self_eq_true, ne_eq, if_true, if_false, List.cons_append, List.nil_append, Option.isNone_some, Option.isNone_none]; intro _ _) | ((with_reducible (first | refine w5 ?_ ?_ | refine w6 ?_ ?_ | refine w7 ?_ ?_)); simp; refine ⟨_, rfl, ?_⟩) | ((with_reducible (first | refine w8 ?_ ?_ ?_ | refine w9 ?_ ?_ ?_ | refine w10 ?_ ?_ ?_)); exact rfl; simp) | ((with_reducible refine w12 ?_ ?_ ?_ fun _ _ => ?_); simp; simp; simp [oneC]) | ((with_reducible (first | refine eqs ?_ | refine nes ?_)); refine ⟨_, rfl, ?_⟩) | ((refine okF_i (bldP_eq rfl) ?_); try simp only [BLS, List.take_succ_cons, List.take_zero, List.drop_succ_cons, List.drop_zero, List.cons_append, List.nil_append, Nat.reduceAdd])) | simp -implicitDefEqProofs only [EN, lsub, lget, stL, beq_self_eq_true, ne_eq, if_true, if_false, List.cons_append, List.nil_append, Option.isNone_some, Option.isNone_none]))
  have h1 : St W0 ([cells pb [.pointer (some ⟨q, 0, none⟩)] T_p_orset_Set, cells vb [.int .i64 st.x0, .int .i64 st.x1, .int .i64 st.x2, .int .i64 st.x3, .int .i64 st.x4, .int .i64 st.x5, .int .i64 st.x6] T_vec_Vec, cells q [.map (some r), .map (some g)] T_orset_Set, mp KB g (mvG s.gone)] ++ mp KD r (mvA s.added) :: L') W1 :=
    St.wk (L' := cells pb [.pointer (some ⟨q, 0, none⟩)] T_p_orset_Set :: cells vb [.int .i64 st.x0, .int .i64 st.x1, .int .i64 st.x2, .int .i64 st.x3, .int .i64 st.x4, .int .i64 st.x5, .int .i64 st.x6] T_vec_Vec :: cells q [.map (some r), .map (some g)] T_orset_Set :: mp KB g (mvG s.gone) :: mp KD r (mvA s.added) :: L') h
  refine delA (p := fun x => !s.live x.1 x.2 && hasV st x.1) (fun W0 L a v W k h hk => ?_) h1 fun W2 h => ?_
  · refine ⟨CBok _ (by kernel_rfl), ?_⟩
    apply S.orset_Set_Drop_1.call
    unfold S.orset_Set_Drop_1.body
    have h : St W0 (cells pb [.pointer (some ⟨q, 0, none⟩)] T_p_orset_Set :: cells vb [.int .i64 st.x0, .int .i64 st.x1, .int .i64 st.x2, .int .i64 st.x3, .int .i64 st.x4, .int .i64 st.x5, .int .i64 st.x6] T_vec_Vec :: cells q [.map (some r), .map (some g)] T_orset_Set :: mp KB g (mvG s.gone) :: L) W := h
    (repeat (first | (first | (with_reducible (first | refine w1 fun _ _ => ?_ | refine w3 fun _ _ _ => ?_ | refine w4 fun _ _ _ => ?_ | refine w11 fun _ _ _ => ?_ | refine stb_n ?_)) | ((with_reducible refine w2 ?_); try simp -implicitDefEqProofs only [EN, lsub, lget, stL, beq_self_eq_true, ne_eq, if_true, if_false, List.cons_append, List.nil_append, Option.isNone_some, Option.isNone_none]; intro _ _) | ((with_reducible (first | refine w5 ?_ ?_ | refine w6 ?_ ?_ | refine w7 ?_ ?_)); simp; refine ⟨_, rfl, ?_⟩) | ((with_reducible (first | refine w8 ?_ ?_ ?_ | refine w9 ?_ ?_ ?_ | refine w10 ?_ ?_ ?_)); exact rfl; simp) | ((with_reducible refine w12 ?_ ?_ ?_ fun _ _ => ?_); simp; simp; simp [oneC]) | ((with_reducible (first | refine eqs ?_ | refine nes ?_)); refine ⟨_, rfl, ?_⟩) | ((refine okF_i (bldP_eq rfl) ?_); try simp only [BLS, List.take_succ_cons, List.take_zero, List.drop_succ_cons, List.drop_zero, List.cons_append, List.nil_append, Nat.reduceAdd])) | simp -implicitDefEqProofs only [EN, lsub, lget, stL, beq_self_eq_true, ne_eq, if_true, if_false, List.cons_append, List.nil_append, Option.isNone_some, Option.isNone_none]))
    refine orsetLive (s := s) (d := a) (x := v) (q := q) (r := r) (g := g) (by first | assumption | exact St.tick (by assumption) | exact St.tick (St.tick (by assumption))) fun W3 h => ?_
    have eh : hasV ⟨st.x0, st.x1, st.x2, st.x3, st.x4, st.x5, st.x6⟩ ⟨a.rep, a.n⟩ = hasV st a := rfl
    cases hlv : s.live a v with
    | true =>
      rw [hlv] at hk
      (repeat (first | (first | (with_reducible (first | refine w1 fun _ _ => ?_ | refine w3 fun _ _ _ => ?_ | refine w4 fun _ _ _ => ?_ | refine w11 fun _ _ _ => ?_ | refine stb_n ?_)) | ((with_reducible refine w2 ?_); try simp -implicitDefEqProofs only [EN, lsub, lget, stL, beq_self_eq_true, ne_eq, if_true, if_false, List.cons_append, List.nil_append, Option.isNone_some, Option.isNone_none]; intro _ _) | ((with_reducible (first | refine w5 ?_ ?_ | refine w6 ?_ ?_ | refine w7 ?_ ?_)); simp; refine ⟨_, rfl, ?_⟩) | ((with_reducible (first | refine w8 ?_ ?_ ?_ | refine w9 ?_ ?_ ?_ | refine w10 ?_ ?_ ?_)); exact rfl; simp) | ((with_reducible refine w12 ?_ ?_ ?_ fun _ _ => ?_); simp; simp; simp [oneC]) | ((with_reducible (first | refine eqs ?_ | refine nes ?_)); refine ⟨_, rfl, ?_⟩) | ((refine okF_i (bldP_eq rfl) ?_); try simp only [BLS, List.take_succ_cons, List.take_zero, List.drop_succ_cons, List.drop_zero, List.cons_append, List.nil_append, Nat.reduceAdd])) | simp -implicitDefEqProofs only [EN, lsub, lget, stL, beq_self_eq_true, ne_eq, if_true, if_false, List.cons_append, List.nil_append, Option.isNone_some, Option.isNone_none]))
      exact hk _ (St.wk (L' := cells pb [.pointer (some ⟨q, 0, none⟩)] T_p_orset_Set :: cells vb [.int .i64 st.x0, .int .i64 st.x1, .int .i64 st.x2, .int .i64 st.x3, .int .i64 st.x4, .int .i64 st.x5, .int .i64 st.x6] T_vec_Vec :: cells q [.map (some r), .map (some g)] T_orset_Set :: mp KB g (mvG s.gone) :: L) (by first | assumption | exact St.tick (by assumption) | exact St.tick (St.tick (by assumption))))
    | false =>
      rw [hlv] at hk
      (repeat (first | (first | (with_reducible (first | refine w1 fun _ _ => ?_ | refine w3 fun _ _ _ => ?_ | refine w4 fun _ _ _ => ?_ | refine w11 fun _ _ _ => ?_ | refine stb_n ?_)) | ((with_reducible refine w2 ?_); try simp -implicitDefEqProofs only [EN, lsub, lget, stL, beq_self_eq_true, ne_eq, if_true, if_false, List.cons_append, List.nil_append, Option.isNone_some, Option.isNone_none, eh]; intro _ _) | ((with_reducible (first | refine w5 ?_ ?_ | refine w6 ?_ ?_ | refine w7 ?_ ?_)); simp; refine ⟨_, rfl, ?_⟩) | ((with_reducible (first | refine w8 ?_ ?_ ?_ | refine w9 ?_ ?_ ?_ | refine w10 ?_ ?_ ?_)); exact rfl; simp) | ((with_reducible refine w12 ?_ ?_ ?_ fun _ _ => ?_); simp; simp; simp [oneC]) | ((with_reducible (first | refine eqs ?_ | refine nes ?_)); refine ⟨_, rfl, ?_⟩) | ((refine okF_i (bldP_eq rfl) ?_); try simp only [BLS, List.take_succ_cons, List.take_zero, List.drop_succ_cons, List.drop_zero, List.cons_append, List.nil_append, Nat.reduceAdd])) | simp -implicitDefEqProofs only [EN, lsub, lget, stL, beq_self_eq_true, ne_eq, if_true, if_false, List.cons_append, List.nil_append, Option.isNone_some, Option.isNone_none, eh]))
      exact hk _ (St.wk (L' := cells pb [.pointer (some ⟨q, 0, none⟩)] T_p_orset_Set :: cells vb [.int .i64 st.x0, .int .i64 st.x1, .int .i64 st.x2, .int .i64 st.x3, .int .i64 st.x4, .int .i64 st.x5, .int .i64 st.x6] T_vec_Vec :: cells q [.map (some r), .map (some g)] T_orset_Set :: mp KB g (mvG s.gone) :: L) (by first | assumption | exact St.tick (by assumption) | exact St.tick (St.tick (by assumption))))
  · have h : St W0 (cells pb [.pointer (some ⟨q, 0, none⟩)] T_p_orset_Set :: cells vb [.int .i64 st.x0, .int .i64 st.x1, .int .i64 st.x2, .int .i64 st.x3, .int .i64 st.x4, .int .i64 st.x5, .int .i64 st.x6] T_vec_Vec :: cells q [.map (some r), .map (some g)] T_orset_Set :: mp KB g (mvG s.gone) :: mp KD r (mvA (s.drop st).added) :: L') W2 := h
    (repeat (first | (first | (with_reducible (first | refine w1 fun _ _ => ?_ | refine w3 fun _ _ _ => ?_ | refine w4 fun _ _ _ => ?_ | refine w11 fun _ _ _ => ?_ | refine stb_n ?_)) | ((with_reducible refine w2 ?_); try simp -implicitDefEqProofs only [EN, lsub, lget, stL, beq_self_eq_true, ne_eq, if_true, if_false, List.cons_append, List.nil_append, Option.isNone_some, Option.isNone_none]; intro _ _) | ((with_reducible (first | refine w5 ?_ ?_ | refine w6 ?_ ?_ | refine w7 ?_ ?_)); simp; refine ⟨_, rfl, ?_⟩) | ((with_reducible (first | refine w8 ?_ ?_ ?_ | refine w9 ?_ ?_ ?_ | refine w10 ?_ ?_ ?_)); exact rfl; simp) | ((with_reducible refine w12 ?_ ?_ ?_ fun _ _ => ?_); simp; simp; simp [oneC]) | ((with_reducible (first | refine eqs ?_ | refine nes ?_)); refine ⟨_, rfl, ?_⟩) | ((refine okF_i (bldP_eq rfl) ?_); try simp only [BLS, List.take_succ_cons, List.take_zero, List.drop_succ_cons, List.drop_zero, List.cons_append, List.nil_append, Nat.reduceAdd])) | simp -implicitDefEqProofs only [EN, lsub, lget, stL, beq_self_eq_true, ne_eq, if_true, if_false, List.cons_append, List.nil_append, Option.isNone_some, Option.isNone_none]))
    have h2 : St W0 ([cells vb [.int .i64 st.x0, .int .i64 st.x1, .int .i64 st.x2, .int .i64 st.x3, .int .i64 st.x4, .int .i64 st.x5, .int .i64 st.x6] T_vec_Vec] ++ mp KB g (mvG s.gone) :: cells q [.map (some r), .map (some g)] T_orset_Set :: mp KD r (mvA (s.drop st).added) :: L') W2 :=
      St.wk (L' := cells vb [.int .i64 st.x0, .int .i64 st.x1, .int .i64 st.x2, .int .i64 st.x3, .int .i64 st.x4, .int .i64 st.x5, .int .i64 st.x6] T_vec_Vec :: mp KB g (mvG s.gone) :: cells q [.map (some r), .map (some g)] T_orset_Set :: mp KD r (mvA (s.drop st).added) :: L') h
    refine delG (p := fun x => leV x.2 st) (fun W0 L a v W k h hk => ?_) h2 fun W3 h => ?_
    · refine ⟨CBok _ (by kernel_rfl), ?_⟩
      apply S.orset_Set_Drop_2.call
      unfold S.orset_Set_Drop_2.body
      have h : St W0 (cells vb [.int .i64 st.x0, .int .i64 st.x1, .int .i64 st.x2, .int .i64 st.x3, .int .i64 st.x4, .int .i64 st.x5, .int .i64 st.x6] T_vec_Vec :: L) W := h
      (repeat (first | (first | (with_reducible (first | refine w1 fun _ _ => ?_ | refine w3 fun _ _ _ => ?_ | refine w4 fun _ _ _ => ?_ | refine w11 fun _ _ _ => ?_ | refine stb_n ?_)) | ((with_reducible refine w2 ?_); try simp -implicitDefEqProofs only [EN, lsub, lget, stL, beq_self_eq_true, ne_eq, if_true, if_false, List.cons_append, List.nil_append, Option.isNone_some, Option.isNone_none]; intro _ _) | ((with_reducible (first | refine w5 ?_ ?_ | refine w6 ?_ ?_ | refine w7 ?_ ?_)); simp; refine ⟨_, rfl, ?_⟩) | ((with_reducible (first | refine w8 ?_ ?_ ?_ | refine w9 ?_ ?_ ?_ | refine w10 ?_ ?_ ?_)); exact rfl; simp) | ((with_reducible refine w12 ?_ ?_ ?_ fun _ _ => ?_); simp; simp; simp [oneC]) | ((with_reducible (first | refine eqs ?_ | refine nes ?_)); refine ⟨_, rfl, ?_⟩) | ((refine okF_i (bldP_eq rfl) ?_); try simp only [BLS, List.take_succ_cons, List.take_zero, List.drop_succ_cons, List.drop_zero, List.cons_append, List.nil_append, Nat.reduceAdd])) | simp -implicitDefEqProofs only [EN, lsub, lget, stL, beq_self_eq_true, ne_eq, if_true, if_false, List.cons_append, List.nil_append, Option.isNone_some, Option.isNone_none]))
      exact hk _ (St.wk (L' := cells vb [.int .i64 st.x0, .int .i64 st.x1, .int .i64 st.x2, .int .i64 st.x3, .int .i64 st.x4, .int .i64 st.x5, .int .i64 st.x6] T_vec_Vec :: L) (by first | assumption | exact St.tick (by assumption) | exact St.tick (St.tick (by assumption))))
    · have h : St W0 (cells vb [.int .i64 st.x0, .int .i64 st.x1, .int .i64 st.x2, .int .i64 st.x3, .int .i64 st.x4, .int .i64 st.x5, .int .i64 st.x6] T_vec_Vec :: mp KB g (mvG (s.drop st).gone) :: cells q [.map (some r), .map (some g)] T_orset_Set :: mp KD r (mvA (s.drop st).added) :: L') W3 := h
      exact hk _ ((St.wk (L' := cells q [.map (some r), .map (some g)] T_orset_Set :: mp KD r (mvA (s.drop st).added) :: mp KB g (mvG (s.drop st).gone) :: L') h).ent (os_ent (s := s.drop st)))
theorem orsetCopy {s : OS} {k : Value → World → Prop} (h : St W0 L W) [ht : Tk (os q) L s L'] (hk : ∀ q' W', St W0 (os q' s :: os q s :: L') W' → k (.pointer (some ⟨q', 0, none⟩)) W') :
    callK PR F_orset_Set_Copy [.pointer (some ⟨q, 0, none⟩)] k W := by
  apply S.orset_Set_Copy.call
  unfold S.orset_Set_Copy.body
  obtain ⟨r, g, h⟩ := os_at (h.perm ht.perm)
  (repeat (first | (first | (with_reducible (first | refine w1 fun _ _ => ?_ | refine w3 fun _ _ _ => ?_ | refine w4 fun _ _ _ => ?_ | refine w11 fun _ _ _ => ?_ | refine stb_n ?_)) | ((with_reducible refine w2 ?_); try simp -implicitDefEqProofs only [EN, lsub, lget, stL, beq_self_eq_true, ne_eq, if_true, if_false, List.cons_append, List.nil_append, Option.isNone_some, Option.isNone_none]; intro _ _) | ((with_reducible (first | refine w5 ?_ ?_ | refine w6 ?_ ?_ | refine w7 ?_ ?_)); simp; refine ⟨_, rfl, ?_⟩) | ((with_reducible (first | refine w8 ?_ ?_ ?_ | refine w9 ?_ ?_ ?_ | refine w10 ?_ ?_ ?_)); exact rfl; simp) | ((with_reducible refine w12 ?_ ?_ ?_ fun _ _ => ?_); simp; simp; simp [oneC]) | ((with_reducible (first | refine eqs ?_ | refine nes ?_)); refine ⟨_, rfl, ?_⟩) | ((refine okF_i (bldP_eq rfl) ?_); try simp only [BLS, List.take_succ_cons, List.take_zero, List.drop_succ_cons, List.drop_zero, List.cons_append, List.nil_append, Nat.reduceAdd])) | simp -implicitDefEqProofs only [EN, lsub, lget, stL, beq_self_eq_true, ne_eq, if_true, if_false, List.cons_append, List.nil_append, Option.isNone_some, Option.isNone_none]))
  refine cloneM (P := PR) layCloneA (K := KD) (l := mvA s.added) h.tick fun r' W1 h => ?_
  (repeat (first | (first | (with_reducible (first | refine w1 fun _ _ => ?_ | refine w3 fun _ _ _ => ?_ | refine w4 fun _ _ _ => ?_ | refine w11 fun _ _ _ => ?_ | refine stb_n ?_)) | ((with_reducible refine w2 ?_); try simp -implicitDefEqProofs only [EN, lsub, lget, stL, beq_self_eq_true, ne_eq, if_true, if_false, List.cons_append, List.nil_append, Option.isNone_some, Option.isNone_none]; intro _ _) | ((with_reducible (first | refine w5 ?_ ?_ | refine w6 ?_ ?_ | refine w7 ?_ ?_)); simp; refine ⟨_, rfl, ?_⟩) | ((with_reducible (first | refine w8 ?_ ?_ ?_ | refine w9 ?_ ?_ ?_ | refine w10 ?_ ?_ ?_)); exact rfl; simp) | ((with_reducible refine w12 ?_ ?_ ?_ fun _ _ => ?_); simp; simp; simp [oneC]) | ((with_reducible (first | refine eqs ?_ | refine nes ?_)); refine ⟨_, rfl, ?_⟩) | ((refine okF_i (bldP_eq rfl) ?_); try simp only [BLS, List.take_succ_cons, List.take_zero, List.drop_succ_cons, List.drop_zero, List.cons_append, List.nil_append, Nat.reduceAdd])) | simp -implicitDefEqProofs only [EN, lsub, lget, stL, beq_self_eq_true, ne_eq, if_true, if_false, List.cons_append, List.nil_append, Option.isNone_some, Option.isNone_none]))
  refine cloneM (P := PR) layCloneG (K := KB) (l := mvG s.gone) h fun g' W2 h => ?_
  (repeat (first | (first | (with_reducible (first | refine w1 fun _ _ => ?_ | refine w3 fun _ _ _ => ?_ | refine w4 fun _ _ _ => ?_ | refine w11 fun _ _ _ => ?_ | refine stb_n ?_)) | ((with_reducible refine w2 ?_); try simp -implicitDefEqProofs only [EN, lsub, lget, stL, beq_self_eq_true, ne_eq, if_true, if_false, List.cons_append, List.nil_append, Option.isNone_some, Option.isNone_none]; intro _ _) | ((with_reducible (first | refine w5 ?_ ?_ | refine w6 ?_ ?_ | refine w7 ?_ ?_)); simp; refine ⟨_, rfl, ?_⟩) | ((with_reducible (first | refine w8 ?_ ?_ ?_ | refine w9 ?_ ?_ ?_ | refine w10 ?_ ?_ ?_)); exact rfl; simp) | ((with_reducible refine w12 ?_ ?_ ?_ fun _ _ => ?_); simp; simp; simp [oneC]) | ((with_reducible (first | refine eqs ?_ | refine nes ?_)); refine ⟨_, rfl, ?_⟩) | ((refine okF_i (bldP_eq rfl) ?_); try simp only [BLS, List.take_succ_cons, List.take_zero, List.drop_succ_cons, List.drop_zero, List.cons_append, List.nil_append, Nat.reduceAdd])) | simp -implicitDefEqProofs only [EN, lsub, lget, stL, beq_self_eq_true, ne_eq, if_true, if_false, List.cons_append, List.nil_append, Option.isNone_some, Option.isNone_none]))
  rename_i q' W3 h
  (try simp only [BLS, List.take_succ_cons, List.take_zero, List.drop_succ_cons, List.drop_zero, List.cons_append, List.nil_append, List.append_nil, List.take_nil, List.drop_nil, stL, Nat.reduceAdd] at h)
  exact hk q' _ (((St.wk (L' := cells q' [.map (some r'), .map (some g')] T_orset_Set :: mp KD r' (mvA s.added) :: mp KB g' (mvG s.gone) :: cells q [.map (some r), .map (some g)] T_orset_Set :: mp KD r (mvA s.added) :: mp KB g (mvG s.gone) :: L') h).ent (os_ent (s := s))).ent (ent.cons _ (os_ent (s := s))))
set_option maxHeartbeats 4000000 in
theorem orsetSame {q2 : Nat} {s t : OS} {k : Value → World → Prop} (h : St W0 L W) [ht : Tk (os q) L s L1] [ht2 : Tk (os q2) L1 t L2] (hs : s.added.length ≤ 1000000) (hs2 : t.added.length ≤ 1000000)
    (hk : ∀ W', St W0 (os q s :: os q2 t :: L2) W' → k (.bool (sameO s t)) W') : callK PR F_orset_Same [.pointer (some ⟨q, 0, none⟩), .pointer (some ⟨q2, 0, none⟩)] k W := by
  apply S.orset_Same.call
  unfold S.orset_Same.body
  have h : St W0 (os q s :: os q2 t :: L2) W := h.perm (ht.perm.trans (ht2.perm.cons _))
  have hl1 := s.all_len
  refine orsetAll (s := s) h hs fun a c W1 h => ?_
  refine orsetAll (s := t) h hs2 fun a2 c2 W2 h => ?_
  refine equalStr (a := a) (b := a2) (l := s.all) (m := t.all) h (by omega) fun W3 h => ?_
  unfold sameO at hk
  by_cases he : s.all = t.all
  · rw [decide_eq_true he] at hk ⊢
    rw [Bool.true_and] at hk
    (repeat (first | (first | (with_reducible (first | refine w1 fun _ _ => ?_ | refine w3 fun _ _ _ => ?_ | refine w4 fun _ _ _ => ?_ | refine w11 fun _ _ _ => ?_ | refine stb_n ?_)) | ((with_reducible refine w2 ?_); try simp -implicitDefEqProofs only [EN, lsub, lget, stL, beq_self_eq_true, ne_eq, if_true, if_false, List.cons_append, List.nil_append, Option.isNone_some, Option.isNone_none]; intro _ _) | ((with_reducible (first | refine w5 ?_ ?_ | refine w6 ?_ ?_ | refine w7 ?_ ?_)); simp; refine ⟨_, rfl, ?_⟩) | ((with_reducible (first | refine w8 ?_ ?_ ?_ | refine w9 ?_ ?_ ?_ | refine w10 ?_ ?_ ?_)); exact rfl; simp) | ((with_reducible refine w12 ?_ ?_ ?_ fun _ _ => ?_); simp; simp; simp [oneC]) | ((with_reducible (first | refine eqs ?_ | refine nes ?_)); refine ⟨_, rfl, ?_⟩) | ((refine okF_i (bldP_eq rfl) ?_); try simp only [BLS, List.take_succ_cons, List.take_zero, List.drop_succ_cons, List.drop_zero, List.cons_append, List.nil_append, Nat.reduceAdd])) | simp -implicitDefEqProofs only [EN, lsub, lget, stL, beq_self_eq_true, ne_eq, if_true, if_false, List.cons_append, List.nil_append, Option.isNone_some, Option.isNone_none]))
    refine loop_c (σ := Unit) s.all.length (fun i _ => [.pointer (some ⟨q, 0, none⟩), .pointer (some ⟨q2, 0, none⟩), .slice a s.all.length c, .int .i64 s.all.length, .int .i64 i])
      (fun i _ W1 => ((s.all.take i).all fun x => decide (s.dots x = t.dots x)) = true ∧ St W0 (arr STB T_string a c s.all :: os q s :: os q2 t :: L2) W1) () rfl ⟨rfl, St.wk h⟩ ?_
    clear h
    rintro K i _ W4 hi ⟨hall, h⟩ hK
    simp -implicitDefEqProofs only [EN, lsub, lget, stL, beq_self_eq_true, ne_eq, if_true, if_false, List.cons_append, List.nil_append, Option.isNone_some, Option.isNone_none]
    unfold S.orset_Same.l1
    by_cases hlt : (i : Int) < (s.all.length : Int)
    · have hib : i < s.all.length := by omega
      have ew : IntKind.i64.wrap ((i : Int) + 1) = ((i + 1 : Nat) : Int) := by rw [i64w]; omega
      (repeat (first | (first | (with_reducible (first | refine w1 fun _ _ => ?_ | refine w3 fun _ _ _ => ?_ | refine w4 fun _ _ _ => ?_ | refine w11 fun _ _ _ => ?_ | refine stb_n ?_)) | ((with_reducible refine w2 ?_); try simp -implicitDefEqProofs only [EN, lsub, lget, stL, beq_self_eq_true, ne_eq, if_true, if_false, List.cons_append, List.nil_append, Option.isNone_some, Option.isNone_none, hlt]; intro _ _) | ((with_reducible (first | refine w5 ?_ ?_ | refine w6 ?_ ?_ | refine w7 ?_ ?_)); simp; refine ⟨_, rfl, ?_⟩) | ((with_reducible (first | refine w8 ?_ ?_ ?_ | refine w9 ?_ ?_ ?_ | refine w10 ?_ ?_ ?_)); exact rfl; simp) | ((with_reducible refine w12 ?_ ?_ ?_ fun _ _ => ?_); simp; simp; simp [oneC]) | ((with_reducible (first | refine eqs ?_ | refine nes ?_)); refine ⟨_, rfl, ?_⟩) | ((refine okF_i (bldP_eq rfl) ?_); try simp only [BLS, List.take_succ_cons, List.take_zero, List.drop_succ_cons, List.drop_zero, List.cons_append, List.nil_append, Nat.reduceAdd])) | simp -implicitDefEqProofs only [EN, lsub, lget, stL, beq_self_eq_true, ne_eq, if_true, if_false, List.cons_append, List.nil_append, Option.isNone_some, Option.isNone_none, hlt]))
      refine ixA (i := i) (a := a) (l := s.all) (A := STB) h rfl rfl hib fun g o ha => ?_
      cases ha
      refine ldA0 (i := i) (l := s.all) (A := STB) h rfl hib (v := sv s.all[i]) rfl (by simp) ?_
      refine orsetDots (s := s) (q := q) (x := s.all[i]) h hs fun b d W5 h => ?_
      refine orsetDots (s := t) (q := q2) (x := s.all[i]) h hs2 fun b2 d2 W6 h => ?_
      have := s.dots_len s.all[i]
      refine equalDot (a := b) (b := b2) (l := s.dots s.all[i]) (m := t.dots s.all[i]) h (by omega) fun W7 h => ?_
      by_cases he2 : s.dots s.all[i] = t.dots s.all[i]
      · rw [decide_eq_true he2]
        (repeat (first | (first | (with_reducible (first | refine w1 fun _ _ => ?_ | refine w3 fun _ _ _ => ?_ | refine w4 fun _ _ _ => ?_ | refine w11 fun _ _ _ => ?_ | refine stb_n ?_)) | ((with_reducible refine w2 ?_); try simp -implicitDefEqProofs only [EN, lsub, lget, stL, beq_self_eq_true, ne_eq, if_true, if_false, List.cons_append, List.nil_append, Option.isNone_some, Option.isNone_none, ew]; intro _ _) | ((with_reducible (first | refine w5 ?_ ?_ | refine w6 ?_ ?_ | refine w7 ?_ ?_)); simp; refine ⟨_, rfl, ?_⟩) | ((with_reducible (first | refine w8 ?_ ?_ ?_ | refine w9 ?_ ?_ ?_ | refine w10 ?_ ?_ ?_)); exact rfl; simp) | ((with_reducible refine w12 ?_ ?_ ?_ fun _ _ => ?_); simp; simp; simp [oneC]) | ((with_reducible (first | refine eqs ?_ | refine nes ?_)); refine ⟨_, rfl, ?_⟩) | ((refine okF_i (bldP_eq rfl) ?_); try simp only [BLS, List.take_succ_cons, List.take_zero, List.drop_succ_cons, List.drop_zero, List.cons_append, List.nil_append, Nat.reduceAdd])) | simp -implicitDefEqProofs only [EN, lsub, lget, stL, beq_self_eq_true, ne_eq, if_true, if_false, List.cons_append, List.nil_append, Option.isNone_some, Option.isNone_none, ew]))
        refine hK () _ hib ⟨?_, St.wk h⟩
        rw [List.take_succ_eq_append_getElem hib, List.all_append, hall]
        simp [he2]
      · rw [decide_eq_false he2]
        have : (s.all.all fun x => decide (s.dots x = t.dots x)) = false := by
          rw [Bool.eq_false_iff]
          intro h
          have := List.all_eq_true.1 h _ (List.getElem_mem hib)
          exact he2 (by simpa using this)
        rw [this] at hk
        (repeat (first | (first | (with_reducible (first | refine w1 fun _ _ => ?_ | refine w3 fun _ _ _ => ?_ | refine w4 fun _ _ _ => ?_ | refine w11 fun _ _ _ => ?_ | refine stb_n ?_)) | ((with_reducible refine w2 ?_); try simp -implicitDefEqProofs only [EN, lsub, lget, stL, beq_self_eq_true, ne_eq, if_true, if_false, List.cons_append, List.nil_append, Option.isNone_some, Option.isNone_none]; intro _ _) | ((with_reducible (first | refine w5 ?_ ?_ | refine w6 ?_ ?_ | refine w7 ?_ ?_)); simp; refine ⟨_, rfl, ?_⟩) | ((with_reducible (first | refine w8 ?_ ?_ ?_ | refine w9 ?_ ?_ ?_ | refine w10 ?_ ?_ ?_)); exact rfl; simp) | ((with_reducible refine w12 ?_ ?_ ?_ fun _ _ => ?_); simp; simp; simp [oneC]) | ((with_reducible (first | refine eqs ?_ | refine nes ?_)); refine ⟨_, rfl, ?_⟩) | ((refine okF_i (bldP_eq rfl) ?_); try simp only [BLS, List.take_succ_cons, List.take_zero, List.drop_succ_cons, List.drop_zero, List.cons_append, List.nil_append, Nat.reduceAdd])) | simp -implicitDefEqProofs only [EN, lsub, lget, stL, beq_self_eq_true, ne_eq, if_true, if_false, List.cons_append, List.nil_append, Option.isNone_some, Option.isNone_none]))
        exact hk _ (St.wk h)
    · (repeat (first | (first | (with_reducible (first | refine w1 fun _ _ => ?_ | refine w3 fun _ _ _ => ?_ | refine w4 fun _ _ _ => ?_ | refine w11 fun _ _ _ => ?_ | refine stb_n ?_)) | ((with_reducible refine w2 ?_); try simp -implicitDefEqProofs only [EN, lsub, lget, stL, beq_self_eq_true, ne_eq, if_true, if_false, List.cons_append, List.nil_append, Option.isNone_some, Option.isNone_none, hlt]; intro _ _) | ((with_reducible (first | refine w5 ?_ ?_ | refine w6 ?_ ?_ | refine w7 ?_ ?_)); simp; refine ⟨_, rfl, ?_⟩) | ((with_reducible (first | refine w8 ?_ ?_ ?_ | refine w9 ?_ ?_ ?_ | refine w10 ?_ ?_ ?_)); exact rfl; simp) | ((with_reducible refine w12 ?_ ?_ ?_ fun _ _ => ?_); simp; simp; simp [oneC]) | ((with_reducible (first | refine eqs ?_ | refine nes ?_)); refine ⟨_, rfl, ?_⟩) | ((refine okF_i (bldP_eq rfl) ?_); try simp only [BLS, List.take_succ_cons, List.take_zero, List.drop_succ_cons, List.drop_zero, List.cons_append, List.nil_append, Nat.reduceAdd])) | simp -implicitDefEqProofs only [EN, lsub, lget, stL, beq_self_eq_true, ne_eq, if_true, if_false, List.cons_append, List.nil_append, Option.isNone_some, Option.isNone_none, hlt]))
      rw [List.take_of_length_le (by omega)] at hall
      rw [hall] at hk
      exact hk _ (St.wk h)
  · rw [decide_eq_false he] at hk ⊢
    (repeat (first | (first | (with_reducible (first | refine w1 fun _ _ => ?_ | refine w3 fun _ _ _ => ?_ | refine w4 fun _ _ _ => ?_ | refine w11 fun _ _ _ => ?_ | refine stb_n ?_)) | ((with_reducible refine w2 ?_); try simp -implicitDefEqProofs only [EN, lsub, lget, stL, beq_self_eq_true, ne_eq, if_true, if_false, List.cons_append, List.nil_append, Option.isNone_some, Option.isNone_none]; intro _ _) | ((with_reducible (first | refine w5 ?_ ?_ | refine w6 ?_ ?_ | refine w7 ?_ ?_)); simp; refine ⟨_, rfl, ?_⟩) | ((with_reducible (first | refine w8 ?_ ?_ ?_ | refine w9 ?_ ?_ ?_ | refine w10 ?_ ?_ ?_)); exact rfl; simp) | ((with_reducible refine w12 ?_ ?_ ?_ fun _ _ => ?_); simp; simp; simp [oneC]) | ((with_reducible (first | refine eqs ?_ | refine nes ?_)); refine ⟨_, rfl, ?_⟩) | ((refine okF_i (bldP_eq rfl) ?_); try simp only [BLS, List.take_succ_cons, List.take_zero, List.drop_succ_cons, List.drop_zero, List.cons_append, List.nil_append, Nat.reduceAdd])) | simp -implicitDefEqProofs only [EN, lsub, lget, stL, beq_self_eq_true, ne_eq, if_true, if_false, List.cons_append, List.nil_append, Option.isNone_some, Option.isNone_none]))
    exact hk _ (St.wk h)
set_option maxHeartbeats 4000000 in
theorem orsetPut {s : OS} {k : Value → World → Prop} (h : St W0 L W) [ht : Tk (os q) L s L'] (hok : s.ok) (hs : s.added.length ≤ 1000)
    (hk : ∀ a c W', St W0 (arr B8 T_uint8 a c s.put :: os q s :: L') W' → k (.slice a s.put.length c) W') : callK PR F_orset_Set_Put [.pointer (some ⟨q, 0, none⟩), .slice none 0 0] k W := by
  apply S.orset_Set_Put.call
  unfold S.orset_Set_Put.body
  have hl1 := s.all_len
  refine orsetAll (s := s) h (by omega) fun a c W1 h => ?_
  (repeat (first | (first | (with_reducible (first | refine w1 fun _ _ => ?_ | refine w3 fun _ _ _ => ?_ | refine w4 fun _ _ _ => ?_ | refine w11 fun _ _ _ => ?_ | refine stb_n ?_)) | ((with_reducible refine w2 ?_); try simp -implicitDefEqProofs only [EN, lsub, lget, stL, beq_self_eq_true, ne_eq, if_true, if_false, List.cons_append, List.nil_append, Option.isNone_some, Option.isNone_none]; intro _ _) | ((with_reducible (first | refine w5 ?_ ?_ | refine w6 ?_ ?_ | refine w7 ?_ ?_)); simp; refine ⟨_, rfl, ?_⟩) | ((with_reducible (first | refine w8 ?_ ?_ ?_ | refine w9 ?_ ?_ ?_ | refine w10 ?_ ?_ ?_)); exact rfl; simp) | ((with_reducible refine w12 ?_ ?_ ?_ fun _ _ => ?_); simp; simp; simp [oneC]) | ((with_reducible (first | refine eqs ?_ | refine nes ?_)); refine ⟨_, rfl, ?_⟩) | ((refine okF_i (bldP_eq rfl) ?_); try simp only [BLS, List.take_succ_cons, List.take_zero, List.drop_succ_cons, List.drop_zero, List.cons_append, List.nil_append, Nat.reduceAdd])) | simp -implicitDefEqProofs only [EN, lsub, lget, stL, beq_self_eq_true, ne_eq, if_true, if_false, List.cons_append, List.nil_append, Option.isNone_some, Option.isNone_none]))
  have hn1 := encN_le (v := s.all.length) (by omega) (by omega)
  have hr0 : Rd W0 (arr STB T_string a c s.all :: os q s :: L') none B8 [] := Rd.nil B8 _ _ _
  refine packNum (a := none) (l := []) (c := 0) h (by simp) (by omega) (by omega) fun a1 c1 W2 h => ?_
  rw [List.nil_append] at h ⊢
  refine joinK_i ?_
  (repeat (first | (first | (with_reducible (first | refine w1 fun _ _ => ?_ | refine w3 fun _ _ _ => ?_ | refine w4 fun _ _ _ => ?_ | refine w11 fun _ _ _ => ?_ | refine stb_n ?_)) | ((with_reducible refine w2 ?_); try simp -implicitDefEqProofs only [EN, lsub, lget, stL, beq_self_eq_true, ne_eq, if_true, if_false, List.cons_append, List.nil_append, Option.isNone_some, Option.isNone_none]; intro _ _) | ((with_reducible (first | refine w5 ?_ ?_ | refine w6 ?_ ?_ | refine w7 ?_ ?_)); simp; refine ⟨_, rfl, ?_⟩) | ((with_reducible (first | refine w8 ?_ ?_ ?_ | refine w9 ?_ ?_ ?_ | refine w10 ?_ ?_ ?_)); exact rfl; simp) | ((with_reducible refine w12 ?_ ?_ ?_ fun _ _ => ?_); simp; simp; simp [oneC]) | ((with_reducible (first | refine eqs ?_ | refine nes ?_)); refine ⟨_, rfl, ?_⟩) | ((refine okF_i (bldP_eq rfl) ?_); try simp only [BLS, List.take_succ_cons, List.take_zero, List.drop_succ_cons, List.drop_zero, List.cons_append, List.nil_append, Nat.reduceAdd])) | simp -implicitDefEqProofs only [EN, lsub, lget, stL, beq_self_eq_true, ne_eq, if_true, if_false, List.cons_append, List.nil_append, Option.isNone_some, Option.isNone_none]))
  refine loop_c (σ := Option Addr × Nat) s.all.length (fun i x => [.pointer (some ⟨q, 0, none⟩), .slice x.1 ((s.all.take i).foldl s.putX (encN s.all.length)).length x.2, .slice a s.all.length c, .int .i64 s.all.length, .int .i64 i])
    (fun i x W1 => St W0 (arr B8 T_uint8 x.1 x.2 ((s.all.take i).foldl s.putX (encN s.all.length)) :: arr STB T_string a c s.all :: os q s :: L') W1) (a1, c1) rfl h ?_
  clear h
  rintro K i ⟨a2, c2⟩ W3 hi h hK
  simp only at h
  simp -implicitDefEqProofs only [EN, lsub, lget, stL, beq_self_eq_true, ne_eq, if_true, if_false, List.cons_append, List.nil_append, Option.isNone_some, Option.isNone_none]
  unfold S.orset_Set_Put.l1
  have hbl := putXs_len hok hs (s.all.take i) (encN s.all.length) fun x hx => hok.all x (List.mem_of_mem_take hx)
  rw [List.length_take] at hbl
  by_cases hlt : (i : Int) < (s.all.length : Int)
  · have hib : i < s.all.length := by omega
    have ew : IntKind.i64.wrap ((i : Int) + 1) = ((i + 1 : Nat) : Int) := by rw [i64w]; omega
    have hst : (s.all.take (i + 1)).foldl s.putX (encN s.all.length) = s.putX ((s.all.take i).foldl s.putX (encN s.all.length)) s.all[i] := foldl_take _ _ _ hib
    have hxl := hok.all _ (List.getElem_mem hib)
    have hdl := s.dots_len s.all[i]
    have hdk := hok.dots s.all[i]
    generalize hbuf : (s.all.take i).foldl s.putX (encN s.all.length) = buf at *
    (repeat (first | (first | (with_reducible (first | refine w1 fun _ _ => ?_ | refine w3 fun _ _ _ => ?_ | refine w4 fun _ _ _ => ?_ | refine w11 fun _ _ _ => ?_ | refine stb_n ?_)) | ((with_reducible refine w2 ?_); try simp -implicitDefEqProofs only [EN, lsub, lget, stL, beq_self_eq_true, ne_eq, if_true, if_false, List.cons_append, List.nil_append, Option.isNone_some, Option.isNone_none, hlt]; intro _ _) | ((with_reducible (first | refine w5 ?_ ?_ | refine w6 ?_ ?_ | refine w7 ?_ ?_)); simp; refine ⟨_, rfl, ?_⟩) | ((with_reducible (first | refine w8 ?_ ?_ ?_ | refine w9 ?_ ?_ ?_ | refine w10 ?_ ?_ ?_)); exact rfl; simp) | ((with_reducible refine w12 ?_ ?_ ?_ fun _ _ => ?_); simp; simp; simp [oneC]) | ((with_reducible (first | refine eqs ?_ | refine nes ?_)); refine ⟨_, rfl, ?_⟩) | ((refine okF_i (bldP_eq rfl) ?_); try simp only [BLS, List.take_succ_cons, List.take_zero, List.drop_succ_cons, List.drop_zero, List.cons_append, List.nil_append, Nat.reduceAdd])) | simp -implicitDefEqProofs only [EN, lsub, lget, stL, beq_self_eq_true, ne_eq, if_true, if_false, List.cons_append, List.nil_append, Option.isNone_some, Option.isNone_none, hlt]))
    refine joinK_i ?_
    refine ixA (i := i) (a := a) (l := s.all) (A := STB) h rfl rfl hib fun g o ha => ?_
    cases ha
    refine ldA0 (i := i) (l := s.all) (A := STB) h rfl hib (v := sv s.all[i]) rfl (by simp) ?_
    generalize hx : s.all[i] = x at *
    refine orsetDots (s := s) (q := q) (x := x) h (by omega) fun b d W5 h => ?_
    have hsz := size_sv x
    refine packText (a := a2) (l := buf) (s := ⟨x.toArray⟩) h (by omega) (by rw [hsz]; omega) fun a3 c3 W6 h => ?_
    have e1 : buf ++ encN ((⟨x.toArray⟩ : ByteArray).size : Int) ++ (⟨x.toArray⟩ : ByteArray).data.toList = buf ++ encN x.length ++ x := by rw [hsz]
    rw [e1] at h ⊢
    have hn2 := encN_le (v := x.length) (by omega) (by omega)
    have hn3 := encN_le (v := (s.dots x).length) (by omega) (by omega)
    (repeat (first | (first | (with_reducible (first | refine w1 fun _ _ => ?_ | refine w3 fun _ _ _ => ?_ | refine w4 fun _ _ _ => ?_ | refine w11 fun _ _ _ => ?_ | refine stb_n ?_)) | ((with_reducible refine w2 ?_); try simp -implicitDefEqProofs only [EN, lsub, lget, stL, beq_self_eq_true, ne_eq, if_true, if_false, List.cons_append, List.nil_append, Option.isNone_some, Option.isNone_none]; intro _ _) | ((with_reducible (first | refine w5 ?_ ?_ | refine w6 ?_ ?_ | refine w7 ?_ ?_)); simp; refine ⟨_, rfl, ?_⟩) | ((with_reducible (first | refine w8 ?_ ?_ ?_ | refine w9 ?_ ?_ ?_ | refine w10 ?_ ?_ ?_)); exact rfl; simp) | ((with_reducible refine w12 ?_ ?_ ?_ fun _ _ => ?_); simp; simp; simp [oneC]) | ((with_reducible (first | refine eqs ?_ | refine nes ?_)); refine ⟨_, rfl, ?_⟩) | ((refine okF_i (bldP_eq rfl) ?_); try simp only [BLS, List.take_succ_cons, List.take_zero, List.drop_succ_cons, List.drop_zero, List.cons_append, List.nil_append, Nat.reduceAdd])) | simp -implicitDefEqProofs only [EN, lsub, lget, stL, beq_self_eq_true, ne_eq, if_true, if_false, List.cons_append, List.nil_append, Option.isNone_some, Option.isNone_none]))
    refine packNum (a := a3) (l := buf ++ encN x.length ++ x) h (by simp only [List.length_append]; omega) (by omega) (by omega) fun a4 c4 W7 h => ?_
    (repeat (first | (first | (with_reducible (first | refine w1 fun _ _ => ?_ | refine w3 fun _ _ _ => ?_ | refine w4 fun _ _ _ => ?_ | refine w11 fun _ _ _ => ?_ | refine stb_n ?_)) | ((with_reducible refine w2 ?_); try simp -implicitDefEqProofs only [EN, lsub, lget, stL, beq_self_eq_true, ne_eq, if_true, if_false, List.cons_append, List.nil_append, Option.isNone_some, Option.isNone_none]; intro _ _) | ((with_reducible (first | refine w5 ?_ ?_ | refine w6 ?_ ?_ | refine w7 ?_ ?_)); simp; refine ⟨_, rfl, ?_⟩) | ((with_reducible (first | refine w8 ?_ ?_ ?_ | refine w9 ?_ ?_ ?_ | refine w10 ?_ ?_ ?_)); exact rfl; simp) | ((with_reducible refine w12 ?_ ?_ ?_ fun _ _ => ?_); simp; simp; simp [oneC]) | ((with_reducible (first | refine eqs ?_ | refine nes ?_)); refine ⟨_, rfl, ?_⟩) | ((refine okF_i (bldP_eq rfl) ?_); try simp only [BLS, List.take_succ_cons, List.take_zero, List.drop_succ_cons, List.drop_zero, List.cons_append, List.nil_append, Nat.reduceAdd])) | simp -implicitDefEqProofs only [EN, lsub, lget, stL, beq_self_eq_true, ne_eq, if_true, if_false, List.cons_append, List.nil_append, Option.isNone_some, Option.isNone_none]))
    refine loop_c (σ := Option Addr × Nat) (s.dots x).length (fun j y => [.pointer (some ⟨q, 0, none⟩), .slice y.1 (((s.dots x).take j).foldl putD (buf ++ encN x.length ++ x ++ encN (s.dots x).length)).length y.2, .slice (some ⟨g, o, none⟩) s.all.length c, .int .i64 s.all.length, .int .i64 i, .slice b (s.dots x).length d, .int .i64 (s.dots x).length, .int .i64 j])
      (fun j y W1 => St W0 (arr B8 T_uint8 y.1 y.2 (((s.dots x).take j).foldl putD (buf ++ encN x.length ++ x ++ encN (s.dots x).length)) :: arr DT T_api_Dot b d (s.dots x) :: arr STB T_string (some ⟨g, o, none⟩) c s.all :: os q s :: L') W1) (a4, c4) rfl (St.wk (L' := arr B8 T_uint8 a4 c4 (buf ++ encN x.length ++ x ++ encN (s.dots x).length) :: arr DT T_api_Dot b d (s.dots x) :: arr STB T_string (some ⟨g, o, none⟩) c s.all :: os q s :: L') h) ?_
    clear h
    rintro K2 j ⟨a5, c5⟩ W8 hj h hK2
    simp only at h
    simp -implicitDefEqProofs only [EN, lsub, lget, stL, beq_self_eq_true, ne_eq, if_true, if_false, List.cons_append, List.nil_append, Option.isNone_some, Option.isNone_none]
    unfold S.orset_Set_Put.l2
    have hbl2 := putDs_len ((s.dots x).take j) (buf ++ encN x.length ++ x ++ encN (s.dots x).length) fun y hy => hdk y (List.mem_of_mem_take hy)
    rw [List.length_take] at hbl2
    simp only [List.length_append] at hbl2
    by_cases hjt : (j : Int) < ((s.dots x).length : Int)
    · have hjb : j < (s.dots x).length := by omega
      have ew2 : IntKind.i64.wrap ((j : Int) + 1) = ((j + 1 : Nat) : Int) := by rw [i64w]; omega
      have hst2 : ((s.dots x).take (j + 1)).foldl putD (buf ++ encN x.length ++ x ++ encN (s.dots x).length) = putD (((s.dots x).take j).foldl putD (buf ++ encN x.length ++ x ++ encN (s.dots x).length)) (s.dots x)[j] := foldl_take _ _ _ hjb
      have hyo := hdk _ (List.getElem_mem hjb)
      generalize hb2 : ((s.dots x).take j).foldl putD (buf ++ encN x.length ++ x ++ encN (s.dots x).length) = buf2 at *
      (repeat (first | (first | (with_reducible (first | refine w1 fun _ _ => ?_ | refine w3 fun _ _ _ => ?_ | refine w4 fun _ _ _ => ?_ | refine w11 fun _ _ _ => ?_ | refine stb_n ?_)) | ((with_reducible refine w2 ?_); try simp -implicitDefEqProofs only [EN, lsub, lget, stL, beq_self_eq_true, ne_eq, if_true, if_false, List.cons_append, List.nil_append, Option.isNone_some, Option.isNone_none, hjt]; intro _ _) | ((with_reducible (first | refine w5 ?_ ?_ | refine w6 ?_ ?_ | refine w7 ?_ ?_)); simp; refine ⟨_, rfl, ?_⟩) | ((with_reducible (first | refine w8 ?_ ?_ ?_ | refine w9 ?_ ?_ ?_ | refine w10 ?_ ?_ ?_)); exact rfl; simp) | ((with_reducible refine w12 ?_ ?_ ?_ fun _ _ => ?_); simp; simp; simp [oneC]) | ((with_reducible (first | refine eqs ?_ | refine nes ?_)); refine ⟨_, rfl, ?_⟩) | ((refine okF_i (bldP_eq rfl) ?_); try simp only [BLS, List.take_succ_cons, List.take_zero, List.drop_succ_cons, List.drop_zero, List.cons_append, List.nil_append, Nat.reduceAdd])) | simp -implicitDefEqProofs only [EN, lsub, lget, stL, beq_self_eq_true, ne_eq, if_true, if_false, List.cons_append, List.nil_append, Option.isNone_some, Option.isNone_none, hjt]))
      refine ixA (i := j) (a := b) (l := s.dots x) (A := DT) h rfl rfl hjb fun g' o' ha => ?_
      cases ha
      refine ldA0 (i := j) (l := s.dots x) (A := DT) h rfl hjb (v := .agg #[.int .i64 ((s.dots x)[j]).rep, .int .i64 ((s.dots x)[j]).n]) rfl (by simp) ?_
      generalize hy : (s.dots x)[j] = y at *
      have hyo' := hyo
      unfold Dot.ok at hyo'
      simp only [decide_eq_true_eq] at hyo'
      have hr1 := encN_le (v := y.rep) (by omega) (by omega)
      (repeat (first | (first | (with_reducible (first | refine w1 fun _ _ => ?_ | refine w3 fun _ _ _ => ?_ | refine w4 fun _ _ _ => ?_ | refine w11 fun _ _ _ => ?_ | refine stb_n ?_)) | ((with_reducible refine w2 ?_); try simp -implicitDefEqProofs only [EN, lsub, lget, stL, beq_self_eq_true, ne_eq, if_true, if_false, List.cons_append, List.nil_append, Option.isNone_some, Option.isNone_none]; intro _ _) | ((with_reducible (first | refine w5 ?_ ?_ | refine w6 ?_ ?_ | refine w7 ?_ ?_)); simp; refine ⟨_, rfl, ?_⟩) | ((with_reducible (first | refine w8 ?_ ?_ ?_ | refine w9 ?_ ?_ ?_ | refine w10 ?_ ?_ ?_)); exact rfl; simp) | ((with_reducible refine w12 ?_ ?_ ?_ fun _ _ => ?_); simp; simp; simp [oneC]) | ((with_reducible (first | refine eqs ?_ | refine nes ?_)); refine ⟨_, rfl, ?_⟩) | ((refine okF_i (bldP_eq rfl) ?_); try simp only [BLS, List.take_succ_cons, List.take_zero, List.drop_succ_cons, List.drop_zero, List.cons_append, List.nil_append, Nat.reduceAdd])) | simp -implicitDefEqProofs only [EN, lsub, lget, stL, beq_self_eq_true, ne_eq, if_true, if_false, List.cons_append, List.nil_append, Option.isNone_some, Option.isNone_none]))
      refine packNum (a := a5) (l := buf2) (by first | assumption | exact St.tick (by assumption) | exact St.tick (St.tick (by assumption))) (by omega) (by omega) (by omega) fun a6 c6 W9 h => ?_
      (repeat (first | (first | (with_reducible (first | refine w1 fun _ _ => ?_ | refine w3 fun _ _ _ => ?_ | refine w4 fun _ _ _ => ?_ | refine w11 fun _ _ _ => ?_ | refine stb_n ?_)) | ((with_reducible refine w2 ?_); try simp -implicitDefEqProofs only [EN, lsub, lget, stL, beq_self_eq_true, ne_eq, if_true, if_false, List.cons_append, List.nil_append, Option.isNone_some, Option.isNone_none]; intro _ _) | ((with_reducible (first | refine w5 ?_ ?_ | refine w6 ?_ ?_ | refine w7 ?_ ?_)); simp; refine ⟨_, rfl, ?_⟩) | ((with_reducible (first | refine w8 ?_ ?_ ?_ | refine w9 ?_ ?_ ?_ | refine w10 ?_ ?_ ?_)); exact rfl; simp) | ((with_reducible refine w12 ?_ ?_ ?_ fun _ _ => ?_); simp; simp; simp [oneC]) | ((with_reducible (first | refine eqs ?_ | refine nes ?_)); refine ⟨_, rfl, ?_⟩) | ((refine okF_i (bldP_eq rfl) ?_); try simp only [BLS, List.take_succ_cons, List.take_zero, List.drop_succ_cons, List.drop_zero, List.cons_append, List.nil_append, Nat.reduceAdd])) | simp -implicitDefEqProofs only [EN, lsub, lget, stL, beq_self_eq_true, ne_eq, if_true, if_false, List.cons_append, List.nil_append, Option.isNone_some, Option.isNone_none]))
      refine packNum (a := a6) (l := buf2 ++ encN y.rep) (by first | assumption | exact St.tick (by assumption) | exact St.tick (St.tick (by assumption))) (by simp only [List.length_append]; omega) (by omega) (by omega) fun a7 c7 W10 h => ?_
      (repeat (first | (first | (with_reducible (first | refine w1 fun _ _ => ?_ | refine w3 fun _ _ _ => ?_ | refine w4 fun _ _ _ => ?_ | refine w11 fun _ _ _ => ?_ | refine stb_n ?_)) | ((with_reducible refine w2 ?_); try simp -implicitDefEqProofs only [EN, lsub, lget, stL, beq_self_eq_true, ne_eq, if_true, if_false, List.cons_append, List.nil_append, Option.isNone_some, Option.isNone_none, ew2]; intro _ _) | ((with_reducible (first | refine w5 ?_ ?_ | refine w6 ?_ ?_ | refine w7 ?_ ?_)); simp; refine ⟨_, rfl, ?_⟩) | ((with_reducible (first | refine w8 ?_ ?_ ?_ | refine w9 ?_ ?_ ?_ | refine w10 ?_ ?_ ?_)); exact rfl; simp) | ((with_reducible refine w12 ?_ ?_ ?_ fun _ _ => ?_); simp; simp; simp [oneC]) | ((with_reducible (first | refine eqs ?_ | refine nes ?_)); refine ⟨_, rfl, ?_⟩) | ((refine okF_i (bldP_eq rfl) ?_); try simp only [BLS, List.take_succ_cons, List.take_zero, List.drop_succ_cons, List.drop_zero, List.cons_append, List.nil_append, Nat.reduceAdd])) | simp -implicitDefEqProofs only [EN, lsub, lget, stL, beq_self_eq_true, ne_eq, if_true, if_false, List.cons_append, List.nil_append, Option.isNone_some, Option.isNone_none, ew2]))
      have e3 : buf2 ++ encN y.rep ++ encN y.n = ((s.dots x).take (j + 1)).foldl putD (buf ++ encN x.length ++ x ++ encN (s.dots x).length) := by rw [hst2]; rfl
      rw [e3] at h ⊢
      exact hK2 (a7, c7) _ hjb (St.wk h)
    · (repeat (first | (first | (with_reducible (first | refine w1 fun _ _ => ?_ | refine w3 fun _ _ _ => ?_ | refine w4 fun _ _ _ => ?_ | refine w11 fun _ _ _ => ?_ | refine stb_n ?_)) | ((with_reducible refine w2 ?_); try simp -implicitDefEqProofs only [EN, lsub, lget, stL, beq_self_eq_true, ne_eq, if_true, if_false, List.cons_append, List.nil_append, Option.isNone_some, Option.isNone_none, hjt]; intro _ _) | ((with_reducible (first | refine w5 ?_ ?_ | refine w6 ?_ ?_ | refine w7 ?_ ?_)); simp; refine ⟨_, rfl, ?_⟩) | ((with_reducible (first | refine w8 ?_ ?_ ?_ | refine w9 ?_ ?_ ?_ | refine w10 ?_ ?_ ?_)); exact rfl; simp) | ((with_reducible refine w12 ?_ ?_ ?_ fun _ _ => ?_); simp; simp; simp [oneC]) | ((with_reducible (first | refine eqs ?_ | refine nes ?_)); refine ⟨_, rfl, ?_⟩) | ((refine okF_i (bldP_eq rfl) ?_); try simp only [BLS, List.take_succ_cons, List.take_zero, List.drop_succ_cons, List.drop_zero, List.cons_append, List.nil_append, Nat.reduceAdd])) | simp -implicitDefEqProofs only [EN, lsub, lget, stL, beq_self_eq_true, ne_eq, if_true, if_false, List.cons_append, List.nil_append, Option.isNone_some, Option.isNone_none, hjt]))
      unfold S.orset_Set_Put.j2
      (repeat (first | (first | (with_reducible (first | refine w1 fun _ _ => ?_ | refine w3 fun _ _ _ => ?_ | refine w4 fun _ _ _ => ?_ | refine w11 fun _ _ _ => ?_ | refine stb_n ?_)) | ((with_reducible refine w2 ?_); try simp -implicitDefEqProofs only [EN, lsub, lget, stL, beq_self_eq_true, ne_eq, if_true, if_false, List.cons_append, List.nil_append, Option.isNone_some, Option.isNone_none, ew]; intro _ _) | ((with_reducible (first | refine w5 ?_ ?_ | refine w6 ?_ ?_ | refine w7 ?_ ?_)); simp; refine ⟨_, rfl, ?_⟩) | ((with_reducible (first | refine w8 ?_ ?_ ?_ | refine w9 ?_ ?_ ?_ | refine w10 ?_ ?_ ?_)); exact rfl; simp) | ((with_reducible refine w12 ?_ ?_ ?_ fun _ _ => ?_); simp; simp; simp [oneC]) | ((with_reducible (first | refine eqs ?_ | refine nes ?_)); refine ⟨_, rfl, ?_⟩) | ((refine okF_i (bldP_eq rfl) ?_); try simp only [BLS, List.take_succ_cons, List.take_zero, List.drop_succ_cons, List.drop_zero, List.cons_append, List.nil_append, Nat.reduceAdd])) | simp -implicitDefEqProofs only [EN, lsub, lget, stL, beq_self_eq_true, ne_eq, if_true, if_false, List.cons_append, List.nil_append, Option.isNone_some, Option.isNone_none, ew]))
      have e3 : ((s.dots x).take j).foldl putD (buf ++ encN x.length ++ x ++ encN (s.dots x).length) = (s.all.take (i + 1)).foldl s.putX (encN s.all.length) := by
        rw [hst, List.take_of_length_le (by omega)]; rfl
      rw [e3] at h ⊢
      exact hK (a5, c5) _ hib (St.wk h)
  · (repeat (first | (first | (with_reducible (first | refine w1 fun _ _ => ?_ | refine w3 fun _ _ _ => ?_ | refine w4 fun _ _ _ => ?_ | refine w11 fun _ _ _ => ?_ | refine stb_n ?_)) | ((with_reducible refine w2 ?_); try simp -implicitDefEqProofs only [EN, lsub, lget, stL, beq_self_eq_true, ne_eq, if_true, if_false, List.cons_append, List.nil_append, Option.isNone_some, Option.isNone_none, hlt]; intro _ _) | ((with_reducible (first | refine w5 ?_ ?_ | refine w6 ?_ ?_ | refine w7 ?_ ?_)); simp; refine ⟨_, rfl, ?_⟩) | ((with_reducible (first | refine w8 ?_ ?_ ?_ | refine w9 ?_ ?_ ?_ | refine w10 ?_ ?_ ?_)); exact rfl; simp) | ((with_reducible refine w12 ?_ ?_ ?_ fun _ _ => ?_); simp; simp; simp [oneC]) | ((with_reducible (first | refine eqs ?_ | refine nes ?_)); refine ⟨_, rfl, ?_⟩) | ((refine okF_i (bldP_eq rfl) ?_); try simp only [BLS, List.take_succ_cons, List.take_zero, List.drop_succ_cons, List.drop_zero, List.cons_append, List.nil_append, Nat.reduceAdd])) | simp -implicitDefEqProofs only [EN, lsub, lget, stL, beq_self_eq_true, ne_eq, if_true, if_false, List.cons_append, List.nil_append, Option.isNone_some, Option.isNone_none, hlt]))
    unfold S.orset_Set_Put.j1
    have e3 : (s.all.take i).foldl s.putX (encN s.all.length) = s.put := by rw [List.take_of_length_le (by omega)]; rfl
    rw [e3] at h ⊢
    exact hk _ _ _ (St.wk h)
end
end Go.Proofs.Ytmojfpaagokckaa
