/- Contracts: orset, what tells texts and dots. -/
import Derived.Test.YtmojfpaagokckaaCOrs
import Derived.Test.YtmojfpaagokckaaCSlB2
import Derived.Test.YtmojfpaagokckaaLay
namespace Go.Proofs.Ytmojfpaagokckaa
set_option linter.unusedVariables false
set_option linter.unusedSimpArgs false
open Go Go.Eng

instance inhDot : Inhabited Dot := ⟨⟨0, 0⟩⟩
section
variable {W0 W : World} {L L' L1 L2 : List Asn} {q r g : Nat}
theorem sortBs {a : Option Addr} {c : Nat} {l : List Bs} {k : Value → World → Prop} (h : St W0 L W) [ho : Own a L STB T_string c l L'] (hl : l.length < 4611686018427387904)
    (hk : ∀ W', St W0 (arr STB T_string a c (sortB l) :: L') W' → k (.tuple #[]) W') : callK PR F_slices_Sort_string_string [.slice a l.length c] k W :=
  sortStr (P := PR) laySortStr h hl hk
theorem sortDots {a : Option Addr} {c : Nat} {l : List Dot} {k : Value → World → Prop} (h : St W0 L W) [ho : Own a L DT T_api_Dot c l L'] (hl : l.length < 4611686018427387904)
    (hk : ∀ W', St W0 (arr DT T_api_Dot a c (sortD l) :: L') W' → k (.tuple #[]) W') : callK PR F_slices_SortFunc_api_Dot_api_Dot [.slice a l.length c, .func (.func F_dots_Order) #[] #[]] k W := by
  obtain ⟨d, i, h1, h2, h3, h4⟩ := (inferInstance : TyI PR T_api_Dot true 2).ok
  refine sortFK (P := PR) (A := DT) laySortDot (fun w => ?_) (fun w => ?_) Dot.cmp swoD partD F_dots_Order [] (fun args w => callFunc_ok (CBok _ (by kernel_rfl)) w) (fun x y W => ?_) h hl (fun W' h => hk W' (by rw [sortD_cmp] at h; exact h))
  · have := run_isAgg' (P := PR) (w := w) h1
    rw [h2] at this
    exact this
  · have := run_sizeOf' (P := PR) (w := w) h3
    rw [h4] at this
    exact this
  · exact (dotsOrder x.rep x.n y.rep y.n).ok W
theorem perm_move {α β : Type} (acc : List β) (pre post : List α) (x : α) (f : List α → List β) (hf : ∀ l m, f (l ++ m) = f l ++ f m) : (acc ++ f (pre ++ x :: post)).Perm ((acc ++ f [x]) ++ f (pre ++ post)) := by
  rw [show pre ++ x :: post = pre ++ ([x] ++ post) by simp, hf, hf, hf, List.append_assoc acc]
  refine List.Perm.append_left _ ?_
  rw [← List.append_assoc, ← List.append_assoc]
  exact List.Perm.append_right _ List.perm_append_comm
set_option maxHeartbeats 4000000 in
theorem orsetAll {s : OS} {k : Value → World → Prop} (h : St W0 L W) [ht : Tk (os q) L s L'] (hlen : s.added.length ≤ 1000000)
    (hk : ∀ a c W', St W0 (arr STB T_string a c s.all :: os q s :: L') W' → k (.slice a s.all.length c) W') : callK PR F_orset_Set_All [.pointer (some ⟨q, 0, none⟩)] k W := by
  apply S.orset_Set_All.call
  unfold S.orset_Set_All.body
  obtain ⟨r, g, h⟩ := os_at (h.perm ht.perm)
  refine joinK_i ?_
  (repeat (first | (first | (with_reducible (first | refine w1 fun _ _ => ?_ | refine w3 fun _ _ _ => ?_ | refine w4 fun _ _ _ => ?_ | refine w11 fun _ _ _ => ?_ | refine stb_n ?_)) | ((with_reducible refine w2 ?_); try simp -implicitDefEqProofs only [EN, lsub, lget, stL, beq_self_eq_true, ne_eq, if_true, if_false, List.cons_append, List.nil_append, Option.isNone_some, Option.isNone_none]; intro _ _) | ((with_reducible (first | refine w5 ?_ ?_ | refine w6 ?_ ?_ | refine w7 ?_ ?_)); simp; refine ⟨_, rfl, ?_⟩) | ((with_reducible (first | refine w8 ?_ ?_ ?_ | refine w9 ?_ ?_ ?_ | refine w10 ?_ ?_ ?_)); exact rfl; simp) | ((with_reducible refine w12 ?_ ?_ ?_ fun _ _ => ?_); simp; simp; simp [oneC]) | ((with_reducible (first | refine eqs ?_ | refine nes ?_)); refine ⟨_, rfl, ?_⟩) | ((refine okF_i (bldP_eq rfl) ?_); try simp only [BLS, List.take_succ_cons, List.take_zero, List.drop_succ_cons, List.drop_zero, List.cons_append, List.nil_append, Nat.reduceAdd])) | simp -implicitDefEqProofs only [EN, lsub, lget, stL, beq_self_eq_true, ne_eq, if_true, if_false, List.cons_append, List.nil_append, Option.isNone_some, Option.isNone_none]))
  refine rangeM (K := KD) (by first | assumption | exact St.tick (by assumption) | exact St.tick (St.tick (by assumption))) fun b W1 h => ?_
  refine loop_x (σ := List (Dot × Bs) × List Bs × Option Addr × Nat) (fun x => [.pointer (some ⟨q, 0, none⟩), .slice x.2.2.1 x.2.1.length x.2.2.2, .pointer (some ⟨b, 0, none⟩)])
    (fun x W1 => (x.2.1 ++ (x.1.filter fun p => s.live p.1 p.2).map (·.2)).Perm (s.lives.map (·.2)) ∧ ∃ cur, St W0 (mpi KD r b (mvA s.added) (mvA x.1) cur :: arr STB T_string x.2.2.1 x.2.2.2 x.2.1 :: cells q [.map (some r), .map (some g)] T_orset_Set :: mp KB g (mvG s.gone) :: L') W1)
    (fun x => x.1.length) (s.added, [], none, 0) rfl ⟨.refl _, none, ?_⟩ ?_
  · exact (St.wk (L' := mpi KD r b (mvA s.added) (mvA s.added) none :: cells q [.map (some r), .map (some g)] T_orset_Set :: mp KB g (mvG s.gone) :: L') h).ent (ent.cons _ (arr_nil STB T_string))
  rintro K ⟨rem, acc, a, c⟩ W2 ⟨hp, cur, h⟩ hK
  have hla : acc.length ≤ 1000000 := by
    have := hp.length_eq
    simp only [List.length_append, List.length_map] at this
    have h2 : s.lives.length ≤ s.added.length := List.length_filter_le _ _
    omega
  simp -implicitDefEqProofs only [EN, lsub, lget, stL, beq_self_eq_true, ne_eq, if_true, if_false, List.cons_append, List.nil_append, Option.isNone_some, Option.isNone_none]
  unfold S.orset_Set_All.l1
  refine nextM h (fun h0 => ?_) (fun pre f v post W3 h1 h => ?_)
  · have : rem = [] := by simpa [mvA] using h0
    subst this
    (repeat (first | (first | (with_reducible (first | refine w1 fun _ _ => ?_ | refine w3 fun _ _ _ => ?_ | refine w4 fun _ _ _ => ?_ | refine w11 fun _ _ _ => ?_ | refine stb_n ?_)) | ((with_reducible refine w2 ?_); try simp -implicitDefEqProofs only [EN, lsub, lget, stL, beq_self_eq_true, ne_eq, if_true, if_false, List.cons_append, List.nil_append, Option.isNone_some, Option.isNone_none]; intro _ _) | ((with_reducible (first | refine w5 ?_ ?_ | refine w6 ?_ ?_ | refine w7 ?_ ?_)); simp; refine ⟨_, rfl, ?_⟩) | ((with_reducible (first | refine w8 ?_ ?_ ?_ | refine w9 ?_ ?_ ?_ | refine w10 ?_ ?_ ?_)); exact rfl; simp) | ((with_reducible refine w12 ?_ ?_ ?_ fun _ _ => ?_); simp; simp; simp [oneC]) | ((with_reducible (first | refine eqs ?_ | refine nes ?_)); refine ⟨_, rfl, ?_⟩) | ((refine okF_i (bldP_eq rfl) ?_); try simp only [BLS, List.take_succ_cons, List.take_zero, List.drop_succ_cons, List.drop_zero, List.cons_append, List.nil_append, Nat.reduceAdd])) | simp -implicitDefEqProofs only [EN, lsub, lget, stL, beq_self_eq_true, ne_eq, if_true, if_false, List.cons_append, List.nil_append, Option.isNone_some, Option.isNone_none]))
    unfold S.orset_Set_All.j1
    simp only [List.filter_nil, List.map_nil, List.append_nil] at hp
    have h := h.mpiEnd
    refine sortBs (a := a) (l := acc) h (by omega) fun W4 h => ?_
    have hsl : (sortB acc).length = acc.length := List.length_mergeSort _
    rw [← hsl]
    refine compactStr (a := a) (l := sortB acc) h (by omega) fun a' c' W5 h => ?_
    have e : cpt (sortB acc) = s.all := by unfold OS.all; rw [sortB_perm hp]
    rw [e] at h ⊢
    exact hk a' c' W5 ((St.wk (L' := arr STB T_string a' c' s.all :: cells q [.map (some r), .map (some g)] T_orset_Set :: mp KD r (mvA s.added) :: mp KB g (mvG s.gone) :: L') h).ent (ent.cons _ os_ent))
  · obtain ⟨A, tl, rfl, rfl, h2⟩ := List.map_eq_append_iff.1 h1
    obtain ⟨⟨d, x⟩, B, rfl, h3, rfl⟩ := List.map_eq_cons_iff.1 h2
    simp only [Prod.mk.injEq] at h3
    obtain ⟨rfl, rfl⟩ := h3
    have hmv := perm_move acc A B (d, x) (fun l : List (Dot × Bs) => (l.filter fun p => s.live p.1 p.2).map (·.2)) (fun l m => by simp)
    have hmm : mvA (A ++ B) = mvA A ++ mvA B := by simp [mvA]
    (repeat (first | (first | (with_reducible (first | refine w1 fun _ _ => ?_ | refine w3 fun _ _ _ => ?_ | refine w4 fun _ _ _ => ?_ | refine w11 fun _ _ _ => ?_ | refine stb_n ?_)) | ((with_reducible refine w2 ?_); try simp -implicitDefEqProofs only [EN, lsub, lget, stL, beq_self_eq_true, ne_eq, if_true, if_false, List.cons_append, List.nil_append, Option.isNone_some, Option.isNone_none]; intro _ _) | ((with_reducible (first | refine w5 ?_ ?_ | refine w6 ?_ ?_ | refine w7 ?_ ?_)); simp; refine ⟨_, rfl, ?_⟩) | ((with_reducible (first | refine w8 ?_ ?_ ?_ | refine w9 ?_ ?_ ?_ | refine w10 ?_ ?_ ?_)); exact rfl; simp) | ((with_reducible refine w12 ?_ ?_ ?_ fun _ _ => ?_); simp; simp; simp [oneC]) | ((with_reducible (first | refine eqs ?_ | refine nes ?_)); refine ⟨_, rfl, ?_⟩) | ((refine okF_i (bldP_eq rfl) ?_); try simp only [BLS, List.take_succ_cons, List.take_zero, List.drop_succ_cons, List.drop_zero, List.cons_append, List.nil_append, Nat.reduceAdd])) | simp -implicitDefEqProofs only [EN, lsub, lget, stL, beq_self_eq_true, ne_eq, if_true, if_false, List.cons_append, List.nil_append, Option.isNone_some, Option.isNone_none]))
    refine entryM h ?_
    (repeat (first | (first | (with_reducible (first | refine w1 fun _ _ => ?_ | refine w3 fun _ _ _ => ?_ | refine w4 fun _ _ _ => ?_ | refine w11 fun _ _ _ => ?_ | refine stb_n ?_)) | ((with_reducible refine w2 ?_); try simp -implicitDefEqProofs only [EN, lsub, lget, stL, beq_self_eq_true, ne_eq, if_true, if_false, List.cons_append, List.nil_append, Option.isNone_some, Option.isNone_none]; intro _ _) | ((with_reducible (first | refine w5 ?_ ?_ | refine w6 ?_ ?_ | refine w7 ?_ ?_)); simp; refine ⟨_, rfl, ?_⟩) | ((with_reducible (first | refine w8 ?_ ?_ ?_ | refine w9 ?_ ?_ ?_ | refine w10 ?_ ?_ ?_)); exact rfl; simp) | ((with_reducible refine w12 ?_ ?_ ?_ fun _ _ => ?_); simp; simp; simp [oneC]) | ((with_reducible (first | refine eqs ?_ | refine nes ?_)); refine ⟨_, rfl, ?_⟩) | ((refine okF_i (bldP_eq rfl) ?_); try simp only [BLS, List.take_succ_cons, List.take_zero, List.drop_succ_cons, List.drop_zero, List.cons_append, List.nil_append, Nat.reduceAdd])) | simp -implicitDefEqProofs only [EN, lsub, lget, stL, beq_self_eq_true, ne_eq, if_true, if_false, List.cons_append, List.nil_append, Option.isNone_some, Option.isNone_none]))
    refine orsetLive (s := s) (d := d) (x := x) (q := q) (r := r) (g := g) (by first | assumption | exact St.tick (by assumption) | exact St.tick (St.tick (by assumption))) fun W4 h => ?_
    cases hlv : s.live d x with
    | false =>
      (repeat (first | (first | (with_reducible (first | refine w1 fun _ _ => ?_ | refine w3 fun _ _ _ => ?_ | refine w4 fun _ _ _ => ?_ | refine w11 fun _ _ _ => ?_ | refine stb_n ?_)) | ((with_reducible refine w2 ?_); try simp -implicitDefEqProofs only [EN, lsub, lget, stL, beq_self_eq_true, ne_eq, if_true, if_false, List.cons_append, List.nil_append, Option.isNone_some, Option.isNone_none]; intro _ _) | ((with_reducible (first | refine w5 ?_ ?_ | refine w6 ?_ ?_ | refine w7 ?_ ?_)); simp; refine ⟨_, rfl, ?_⟩) | ((with_reducible (first | refine w8 ?_ ?_ ?_ | refine w9 ?_ ?_ ?_ | refine w10 ?_ ?_ ?_)); exact rfl; simp) | ((with_reducible refine w12 ?_ ?_ ?_ fun _ _ => ?_); simp; simp; simp [oneC]) | ((with_reducible (first | refine eqs ?_ | refine nes ?_)); refine ⟨_, rfl, ?_⟩) | ((refine okF_i (bldP_eq rfl) ?_); try simp only [BLS, List.take_succ_cons, List.take_zero, List.drop_succ_cons, List.drop_zero, List.cons_append, List.nil_append, Nat.reduceAdd])) | simp -implicitDefEqProofs only [EN, lsub, lget, stL, beq_self_eq_true, ne_eq, if_true, if_false, List.cons_append, List.nil_append, Option.isNone_some, Option.isNone_none]))
      refine hK (A ++ B, acc, a, c) _ (by simp) ⟨?_, some (d, sv x), ?_⟩
      · have h5 := hmv.symm.trans hp
        simpa [hlv] using h5
      · rw [hmm]
        exact St.wk h
    | true =>
      (repeat (first | (first | (with_reducible (first | refine w1 fun _ _ => ?_ | refine w3 fun _ _ _ => ?_ | refine w4 fun _ _ _ => ?_ | refine w11 fun _ _ _ => ?_ | refine stb_n ?_)) | ((with_reducible refine w2 ?_); try simp -implicitDefEqProofs only [EN, lsub, lget, stL, beq_self_eq_true, ne_eq, if_true, if_false, List.cons_append, List.nil_append, Option.isNone_some, Option.isNone_none]; intro _ _) | ((with_reducible (first | refine w5 ?_ ?_ | refine w6 ?_ ?_ | refine w7 ?_ ?_)); simp; refine ⟨_, rfl, ?_⟩) | ((with_reducible (first | refine w8 ?_ ?_ ?_ | refine w9 ?_ ?_ ?_ | refine w10 ?_ ?_ ?_)); exact rfl; simp) | ((with_reducible refine w12 ?_ ?_ ?_ fun _ _ => ?_); simp; simp; simp [oneC]) | ((with_reducible (first | refine eqs ?_ | refine nes ?_)); refine ⟨_, rfl, ?_⟩) | ((refine okF_i (bldP_eq rfl) ?_); try simp only [BLS, List.take_succ_cons, List.take_zero, List.drop_succ_cons, List.drop_zero, List.cons_append, List.nil_append, Nat.reduceAdd])) | simp -implicitDefEqProofs only [EN, lsub, lget, stL, beq_self_eq_true, ne_eq, if_true, if_false, List.cons_append, List.nil_append, Option.isNone_some, Option.isNone_none]))
      refine pushA (A := STB) (a := a) (c := c) (l := acc) x h rfl rfl (by omega) (by simp only [maxLen]; omega) (by decide) fun a' c' W5 h => ?_
      refine hK (A ++ B, acc ++ [x], a', c') _ (by simp) ⟨?_, some (d, sv x), ?_⟩
      · have h5 := hmv.symm.trans hp
        simpa [hlv] using h5
      · rw [hmm]
        exact St.wk h
set_option maxHeartbeats 4000000 in
theorem orsetDots {s : OS} {x : Bs} {k : Value → World → Prop} (h : St W0 L W) [ht : Tk (os q) L s L'] (hlen : s.added.length ≤ 1000000)
    (hk : ∀ a c W', St W0 (arr DT T_api_Dot a c (s.dots x) :: os q s :: L') W' → k (.slice a (s.dots x).length c) W') : callK PR F_orset_Set_Dots [.pointer (some ⟨q, 0, none⟩), sv x] k W := by
  apply S.orset_Set_Dots.call
  unfold S.orset_Set_Dots.body
  obtain ⟨r, g, h⟩ := os_at (h.perm ht.perm)
  refine joinK_i ?_
  (repeat (first | (first | (with_reducible (first | refine w1 fun _ _ => ?_ | refine w3 fun _ _ _ => ?_ | refine w4 fun _ _ _ => ?_ | refine w11 fun _ _ _ => ?_ | refine stb_n ?_)) | ((with_reducible refine w2 ?_); try simp -implicitDefEqProofs only [EN, lsub, lget, stL, beq_self_eq_true, ne_eq, if_true, if_false, List.cons_append, List.nil_append, Option.isNone_some, Option.isNone_none]; intro _ _) | ((with_reducible (first | refine w5 ?_ ?_ | refine w6 ?_ ?_ | refine w7 ?_ ?_)); simp; refine ⟨_, rfl, ?_⟩) | ((with_reducible (first | refine w8 ?_ ?_ ?_ | refine w9 ?_ ?_ ?_ | refine w10 ?_ ?_ ?_)); exact rfl; simp) | ((with_reducible refine w12 ?_ ?_ ?_ fun _ _ => ?_); simp; simp; simp [oneC]) | ((with_reducible (first | refine eqs ?_ | refine nes ?_)); refine ⟨_, rfl, ?_⟩) | ((refine okF_i (bldP_eq rfl) ?_); try simp only [BLS, List.take_succ_cons, List.take_zero, List.drop_succ_cons, List.drop_zero, List.cons_append, List.nil_append, Nat.reduceAdd])) | simp -implicitDefEqProofs only [EN, lsub, lget, stL, beq_self_eq_true, ne_eq, if_true, if_false, List.cons_append, List.nil_append, Option.isNone_some, Option.isNone_none]))
  refine rangeM (K := KD) (by first | assumption | exact St.tick (by assumption) | exact St.tick (St.tick (by assumption))) fun b W1 h => ?_
  refine loop_x (σ := List (Dot × Bs) × List Dot × Option Addr × Nat) (fun y => [.pointer (some ⟨q, 0, none⟩), sv x, .slice y.2.2.1 y.2.1.length y.2.2.2, .pointer (some ⟨b, 0, none⟩)])
    (fun y W1 => (y.2.1 ++ (y.1.filter fun p => decide (x = p.2) && s.live p.1 x).map (·.1)).Perm ((s.added.filter fun p => decide (x = p.2) && s.live p.1 x).map (·.1)) ∧ ∃ cur, St W0 (mpi KD r b (mvA s.added) (mvA y.1) cur :: arr DT T_api_Dot y.2.2.1 y.2.2.2 y.2.1 :: cells q [.map (some r), .map (some g)] T_orset_Set :: mp KB g (mvG s.gone) :: L') W1)
    (fun y => y.1.length) (s.added, [], none, 0) rfl ⟨.refl _, none, ?_⟩ ?_
  · exact (St.wk (L' := mpi KD r b (mvA s.added) (mvA s.added) none :: cells q [.map (some r), .map (some g)] T_orset_Set :: mp KB g (mvG s.gone) :: L') h).ent (ent.cons _ (arr_nil DT T_api_Dot))
  rintro K ⟨rem, acc, a, c⟩ W2 ⟨hp, cur, h⟩ hK
  have hla : acc.length ≤ 1000000 := by
    have := hp.length_eq
    simp only [List.length_append, List.length_map] at this
    have h2 : (s.added.filter fun p => decide (x = p.2) && s.live p.1 x).length ≤ s.added.length := List.length_filter_le _ _
    omega
  simp -implicitDefEqProofs only [EN, lsub, lget, stL, beq_self_eq_true, ne_eq, if_true, if_false, List.cons_append, List.nil_append, Option.isNone_some, Option.isNone_none]
  unfold S.orset_Set_Dots.l1
  refine nextM h (fun h0 => ?_) (fun pre f v post W3 h1 h => ?_)
  · have : rem = [] := by simpa [mvA] using h0
    subst this
    (repeat (first | (first | (with_reducible (first | refine w1 fun _ _ => ?_ | refine w3 fun _ _ _ => ?_ | refine w4 fun _ _ _ => ?_ | refine w11 fun _ _ _ => ?_ | refine stb_n ?_)) | ((with_reducible refine w2 ?_); try simp -implicitDefEqProofs only [EN, lsub, lget, stL, beq_self_eq_true, ne_eq, if_true, if_false, List.cons_append, List.nil_append, Option.isNone_some, Option.isNone_none]; intro _ _) | ((with_reducible (first | refine w5 ?_ ?_ | refine w6 ?_ ?_ | refine w7 ?_ ?_)); simp; refine ⟨_, rfl, ?_⟩) | ((with_reducible (first | refine w8 ?_ ?_ ?_ | refine w9 ?_ ?_ ?_ | refine w10 ?_ ?_ ?_)); exact rfl; simp) | ((with_reducible refine w12 ?_ ?_ ?_ fun _ _ => ?_); simp; simp; simp [oneC]) | ((with_reducible (first | refine eqs ?_ | refine nes ?_)); refine ⟨_, rfl, ?_⟩) | ((refine okF_i (bldP_eq rfl) ?_); try simp only [BLS, List.take_succ_cons, List.take_zero, List.drop_succ_cons, List.drop_zero, List.cons_append, List.nil_append, Nat.reduceAdd])) | simp -implicitDefEqProofs only [EN, lsub, lget, stL, beq_self_eq_true, ne_eq, if_true, if_false, List.cons_append, List.nil_append, Option.isNone_some, Option.isNone_none]))
    unfold S.orset_Set_Dots.j1
    simp only [List.filter_nil, List.map_nil, List.append_nil] at hp
    have h := h.mpiEnd
    refine sortDots (a := a) (l := acc) h (by omega) fun W4 h => ?_
    have e : sortD acc = s.dots x := by unfold OS.dots; rw [sortD_perm hp]
    have hsl : (s.dots x).length = acc.length := by rw [← e]; exact List.length_mergeSort _
    rw [e] at h
    rw [← hsl]
    exact hk a c W4 ((St.wk (L' := arr DT T_api_Dot a c (s.dots x) :: cells q [.map (some r), .map (some g)] T_orset_Set :: mp KD r (mvA s.added) :: mp KB g (mvG s.gone) :: L') h).ent (ent.cons _ os_ent))
  · obtain ⟨A, tl, rfl, rfl, h2⟩ := List.map_eq_append_iff.1 h1
    obtain ⟨⟨d, y⟩, B, rfl, h3, rfl⟩ := List.map_eq_cons_iff.1 h2
    simp only [Prod.mk.injEq] at h3
    obtain ⟨rfl, rfl⟩ := h3
    have hmv := perm_move acc A B (d, y) (fun l : List (Dot × Bs) => (l.filter fun p => decide (x = p.2) && s.live p.1 x).map (·.1)) (fun l m => by simp)
    have hmm : mvA (A ++ B) = mvA A ++ mvA B := by simp [mvA]
    have hno : ∀ W', (decide (x = y) && s.live d x) = false → St W0 (mpi KD r b (mvA s.added) (mvA A ++ mvA B) (some (d, sv y)) :: arr DT T_api_Dot a c acc :: cells q [.map (some r), .map (some g)] T_orset_Set :: mp KB g (mvG s.gone) :: L') W' →
        K [.pointer (some ⟨q, 0, none⟩), sv x, .slice a acc.length c, .pointer (some ⟨b, 0, none⟩)] W' := fun W' hf h => by
      refine hK (A ++ B, acc, a, c) _ (by simp) ⟨?_, some (d, sv y), ?_⟩
      · have h5 := hmv.symm.trans hp
        simpa [hf] using h5
      · rw [hmm]
        exact h
    (repeat (first | (first | (with_reducible (first | refine w1 fun _ _ => ?_ | refine w3 fun _ _ _ => ?_ | refine w4 fun _ _ _ => ?_ | refine w11 fun _ _ _ => ?_ | refine stb_n ?_)) | ((with_reducible refine w2 ?_); try simp -implicitDefEqProofs only [EN, lsub, lget, stL, beq_self_eq_true, ne_eq, if_true, if_false, List.cons_append, List.nil_append, Option.isNone_some, Option.isNone_none]; intro _ _) | ((with_reducible (first | refine w5 ?_ ?_ | refine w6 ?_ ?_ | refine w7 ?_ ?_)); simp; refine ⟨_, rfl, ?_⟩) | ((with_reducible (first | refine w8 ?_ ?_ ?_ | refine w9 ?_ ?_ ?_ | refine w10 ?_ ?_ ?_)); exact rfl; simp) | ((with_reducible refine w12 ?_ ?_ ?_ fun _ _ => ?_); simp; simp; simp [oneC]) | ((with_reducible (first | refine eqs ?_ | refine nes ?_)); refine ⟨_, rfl, ?_⟩) | ((refine okF_i (bldP_eq rfl) ?_); try simp only [BLS, List.take_succ_cons, List.take_zero, List.drop_succ_cons, List.drop_zero, List.cons_append, List.nil_append, Nat.reduceAdd])) | simp -implicitDefEqProofs only [EN, lsub, lget, stL, beq_self_eq_true, ne_eq, if_true, if_false, List.cons_append, List.nil_append, Option.isNone_some, Option.isNone_none]))
    refine entryM h ?_
    by_cases hxy : x = y
    · have f1 : decide ((⟨x.toArray⟩ : ByteArray) = ⟨y.toArray⟩) = true := by rw [ba_eq]; exact decide_eq_true hxy
      (repeat (first | (first | (with_reducible (first | refine w1 fun _ _ => ?_ | refine w3 fun _ _ _ => ?_ | refine w4 fun _ _ _ => ?_ | refine w11 fun _ _ _ => ?_ | refine stb_n ?_)) | ((with_reducible refine w2 ?_); try simp -implicitDefEqProofs only [EN, lsub, lget, stL, beq_self_eq_true, ne_eq, if_true, if_false, List.cons_append, List.nil_append, Option.isNone_some, Option.isNone_none, f1]; intro _ _) | ((with_reducible (first | refine w5 ?_ ?_ | refine w6 ?_ ?_ | refine w7 ?_ ?_)); simp; refine ⟨_, rfl, ?_⟩) | ((with_reducible (first | refine w8 ?_ ?_ ?_ | refine w9 ?_ ?_ ?_ | refine w10 ?_ ?_ ?_)); exact rfl; simp) | ((with_reducible refine w12 ?_ ?_ ?_ fun _ _ => ?_); simp; simp; simp [oneC]) | ((with_reducible (first | refine eqs ?_ | refine nes ?_)); refine ⟨_, rfl, ?_⟩) | ((refine okF_i (bldP_eq rfl) ?_); try simp only [BLS, List.take_succ_cons, List.take_zero, List.drop_succ_cons, List.drop_zero, List.cons_append, List.nil_append, Nat.reduceAdd])) | simp -implicitDefEqProofs only [EN, lsub, lget, stL, beq_self_eq_true, ne_eq, if_true, if_false, List.cons_append, List.nil_append, Option.isNone_some, Option.isNone_none, f1]))
      refine orsetLive (s := s) (d := d) (x := x) (q := q) (r := r) (g := g) (by first | assumption | exact St.tick (by assumption) | exact St.tick (St.tick (by assumption))) fun W4 h => ?_
      cases hlv : s.live d x with
      | false =>
        (repeat (first | (first | (with_reducible (first | refine w1 fun _ _ => ?_ | refine w3 fun _ _ _ => ?_ | refine w4 fun _ _ _ => ?_ | refine w11 fun _ _ _ => ?_ | refine stb_n ?_)) | ((with_reducible refine w2 ?_); try simp -implicitDefEqProofs only [EN, lsub, lget, stL, beq_self_eq_true, ne_eq, if_true, if_false, List.cons_append, List.nil_append, Option.isNone_some, Option.isNone_none]; intro _ _) | ((with_reducible (first | refine w5 ?_ ?_ | refine w6 ?_ ?_ | refine w7 ?_ ?_)); simp; refine ⟨_, rfl, ?_⟩) | ((with_reducible (first | refine w8 ?_ ?_ ?_ | refine w9 ?_ ?_ ?_ | refine w10 ?_ ?_ ?_)); exact rfl; simp) | ((with_reducible refine w12 ?_ ?_ ?_ fun _ _ => ?_); simp; simp; simp [oneC]) | ((with_reducible (first | refine eqs ?_ | refine nes ?_)); refine ⟨_, rfl, ?_⟩) | ((refine okF_i (bldP_eq rfl) ?_); try simp only [BLS, List.take_succ_cons, List.take_zero, List.drop_succ_cons, List.drop_zero, List.cons_append, List.nil_append, Nat.reduceAdd])) | simp -implicitDefEqProofs only [EN, lsub, lget, stL, beq_self_eq_true, ne_eq, if_true, if_false, List.cons_append, List.nil_append, Option.isNone_some, Option.isNone_none]))
        exact hno _ (by rw [hlv]; simp) (St.wk h)
      | true =>
        (repeat (first | (first | (with_reducible (first | refine w1 fun _ _ => ?_ | refine w3 fun _ _ _ => ?_ | refine w4 fun _ _ _ => ?_ | refine w11 fun _ _ _ => ?_ | refine stb_n ?_)) | ((with_reducible refine w2 ?_); try simp -implicitDefEqProofs only [EN, lsub, lget, stL, beq_self_eq_true, ne_eq, if_true, if_false, List.cons_append, List.nil_append, Option.isNone_some, Option.isNone_none]; intro _ _) | ((with_reducible (first | refine w5 ?_ ?_ | refine w6 ?_ ?_ | refine w7 ?_ ?_)); simp; refine ⟨_, rfl, ?_⟩) | ((with_reducible (first | refine w8 ?_ ?_ ?_ | refine w9 ?_ ?_ ?_ | refine w10 ?_ ?_ ?_)); exact rfl; simp) | ((with_reducible refine w12 ?_ ?_ ?_ fun _ _ => ?_); simp; simp; simp [oneC]) | ((with_reducible (first | refine eqs ?_ | refine nes ?_)); refine ⟨_, rfl, ?_⟩) | ((refine okF_i (bldP_eq rfl) ?_); try simp only [BLS, List.take_succ_cons, List.take_zero, List.drop_succ_cons, List.drop_zero, List.cons_append, List.nil_append, Nat.reduceAdd])) | simp -implicitDefEqProofs only [EN, lsub, lget, stL, beq_self_eq_true, ne_eq, if_true, if_false, List.cons_append, List.nil_append, Option.isNone_some, Option.isNone_none]))
        refine pushA (A := DT) (a := a) (c := c) (l := acc) d (by first | assumption | exact St.tick (by assumption) | exact St.tick (St.tick (by assumption))) rfl rfl (by omega) (by simp only [maxLen]; omega) (by decide) fun a' c' W5 h => ?_
        refine hK (A ++ B, acc ++ [d], a', c') _ (by simp) ⟨?_, some (d, sv y), ?_⟩
        · have h5 := hmv.symm.trans hp
          have hf : (decide (x = y) && s.live d x) = true := by rw [hlv, decide_eq_true hxy]; rfl
          simpa [hf] using h5
        · rw [hmm]
          exact St.wk h
    · have f1 : decide ((⟨x.toArray⟩ : ByteArray) = ⟨y.toArray⟩) = false := by rw [ba_eq]; exact decide_eq_false hxy
      (repeat (first | (first | (with_reducible (first | refine w1 fun _ _ => ?_ | refine w3 fun _ _ _ => ?_ | refine w4 fun _ _ _ => ?_ | refine w11 fun _ _ _ => ?_ | refine stb_n ?_)) | ((with_reducible refine w2 ?_); try simp -implicitDefEqProofs only [EN, lsub, lget, stL, beq_self_eq_true, ne_eq, if_true, if_false, List.cons_append, List.nil_append, Option.isNone_some, Option.isNone_none, f1]; intro _ _) | ((with_reducible (first | refine w5 ?_ ?_ | refine w6 ?_ ?_ | refine w7 ?_ ?_)); simp; refine ⟨_, rfl, ?_⟩) | ((with_reducible (first | refine w8 ?_ ?_ ?_ | refine w9 ?_ ?_ ?_ | refine w10 ?_ ?_ ?_)); exact rfl; simp) | ((with_reducible refine w12 ?_ ?_ ?_ fun _ _ => ?_); simp; simp; simp [oneC]) | ((with_reducible (first | refine eqs ?_ | refine nes ?_)); refine ⟨_, rfl, ?_⟩) | ((refine okF_i (bldP_eq rfl) ?_); try simp only [BLS, List.take_succ_cons, List.take_zero, List.drop_succ_cons, List.drop_zero, List.cons_append, List.nil_append, Nat.reduceAdd])) | simp -implicitDefEqProofs only [EN, lsub, lget, stL, beq_self_eq_true, ne_eq, if_true, if_false, List.cons_append, List.nil_append, Option.isNone_some, Option.isNone_none, f1]))
      exact hno _ (by rw [decide_eq_false hxy]; rfl) (St.wk (by first | assumption | exact St.tick (by assumption) | exact St.tick (St.tick (by assumption))))
theorem orsetHas {s : OS} {x : Bs} {k : Value → World → Prop} (h : St W0 L W) [ht : Tk (os q) L s L'] (hlen : s.added.length ≤ 1000000)
    (hk : ∀ W', St W0 (os q s :: L') W' → k (.bool (s.has x)) W') : callK PR F_orset_Set_Has [.pointer (some ⟨q, 0, none⟩), sv x] k W := by
  apply S.orset_Set_Has.call
  unfold S.orset_Set_Has.body
  refine orsetDots (s := s) (x := x) h hlen fun a c W1 h => ?_
  (repeat (first | (first | (with_reducible (first | refine w1 fun _ _ => ?_ | refine w3 fun _ _ _ => ?_ | refine w4 fun _ _ _ => ?_ | refine w11 fun _ _ _ => ?_ | refine stb_n ?_)) | ((with_reducible refine w2 ?_); try simp -implicitDefEqProofs only [EN, lsub, lget, stL, beq_self_eq_true, ne_eq, if_true, if_false, List.cons_append, List.nil_append, Option.isNone_some, Option.isNone_none]; intro _ _) | ((with_reducible (first | refine w5 ?_ ?_ | refine w6 ?_ ?_ | refine w7 ?_ ?_)); simp; refine ⟨_, rfl, ?_⟩) | ((with_reducible (first | refine w8 ?_ ?_ ?_ | refine w9 ?_ ?_ ?_ | refine w10 ?_ ?_ ?_)); exact rfl; simp) | ((with_reducible refine w12 ?_ ?_ ?_ fun _ _ => ?_); simp; simp; simp [oneC]) | ((with_reducible (first | refine eqs ?_ | refine nes ?_)); refine ⟨_, rfl, ?_⟩) | ((refine okF_i (bldP_eq rfl) ?_); try simp only [BLS, List.take_succ_cons, List.take_zero, List.drop_succ_cons, List.drop_zero, List.cons_append, List.nil_append, Nat.reduceAdd])) | simp -implicitDefEqProofs only [EN, lsub, lget, stL, beq_self_eq_true, ne_eq, if_true, if_false, List.cons_append, List.nil_append, Option.isNone_some, Option.isNone_none]))
  have e : decide ((0 : Int) < ((s.dots x).length : Int)) = s.has x := by unfold OS.has; rw [decide_eq_decide]; omega
  rw [e]
  exact hk _ h.drop
end
end Go.Proofs.Ytmojfpaagokckaa
