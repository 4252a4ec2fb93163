/- Contracts: orset, what reads and writes its maps. -/
import Derived.Test.YtmojfpaagokckaaPOrs
import Derived.Test.YtmojfpaagokckaaShOrs
import Derived.Test.YtmojfpaagokckaaSl6
namespace Go.Proofs.Ytmojfpaagokckaa
set_option linter.unusedVariables false
set_option linter.unusedSimpArgs false
open Go Go.Eng

abbrev KB : Bs → Value := sv
instance keyB : KeyT PR T_string KB := KeyT.plain (d := .string) (by kernel_rfl) (fun _ => trivial) (fun h => by
  simp only [KB, sv, Value.string.injEq, ByteArray.mk.injEq] at h
  simpa using h)
abbrev mvA (l : List (Dot × Bs)) : List (Dot × Value) := l.map fun p => (p.1, sv p.2)
abbrev vv (p : P7 Int) : Value := .agg #[.int .i64 p.x0, .int .i64 p.x1, .int .i64 p.x2, .int .i64 p.x3, .int .i64 p.x4, .int .i64 p.x5, .int .i64 p.x6]
abbrev mvG (l : List (Bs × P7 Int)) : List (Bs × Value) := l.map fun p => (p.1, vv p.2)
def os (q : Nat) (s : OS) : Asn := fun h => ∃ x : Nat × Nat, sep [cells q [.map (some x.1), .map (some x.2)] T_orset_Set, mp KD x.1 (mvA s.added), mp KB x.2 (mvG s.gone)] h
section
variable {W0 W : World} {L L' L1 L2 : List Asn} {q r g : Nat}
theorem os_at {s : OS} (h : St W0 (os q s :: L) W) : ∃ r g, St W0 (cells q [.map (some r), .map (some g)] T_orset_Set :: mp KD r (mvA s.added) :: mp KB g (mvG s.gone) :: L) W := by
  obtain ⟨x, h⟩ := h.ex
  exact ⟨x.1, x.2, h.flat⟩
theorem os_ent {s : OS} : ent (cells q [.map (some r), .map (some g)] T_orset_Set :: mp KD r (mvA s.added) :: mp KB g (mvG s.gone) :: L) (os q s :: L) :=
  (ent.pack [_, _, _] L).trans (ent.weak fun _ hp => ⟨(r, g), hp⟩)
theorem mget_mvG (l : List (Bs × P7 Int)) (x : Bs) : (mget (mvG l) x).getD (.agg #[.int .i64 0, .int .i64 0, .int .i64 0, .int .i64 0, .int .i64 0, .int .i64 0, .int .i64 0]) = vv ((mget l x).getD (P7.all 0)) := by
  rw [mvG, mget_map]
  cases mget l x <;> rfl
theorem mget_mvA (l : List (Dot × Bs)) (d : Dot) : (mget (mvA l) d).getD (.string ⟨#[]⟩) = sv ((mget l d).getD []) := by
  rw [mvA, mget_map]
  cases mget l d <;> rfl
theorem mget_mvA_some (l : List (Dot × Bs)) (d : Dot) : (mget (mvA l) d).isSome = (mget l d).isSome := by
  rw [mvA, mget_map]
  cases mget l d <;> rfl
theorem size_sv (x : Bs) : (⟨x.toArray⟩ : ByteArray).size = x.length := by simp [ByteArray.size]
theorem orsetNew {k : Value → World → Prop} (h : St W0 L W) (hk : ∀ q W', St W0 (os q OS.new :: L) W' → k (.pointer (some ⟨q, 0, none⟩)) W') : callK PR F_orset_New [] k W := by
  apply S.orset_New.call
  unfold S.orset_New.body
  refine mkMap (K := KD) h fun r W1 h => ?_
  refine mkMap (K := KB) h fun g W1 h => ?_
  (repeat (first | (first | (with_reducible (first | refine w1 fun _ _ => ?_ | refine w3 fun _ _ _ => ?_ | refine w4 fun _ _ _ => ?_ | refine w11 fun _ _ _ => ?_ | refine stb_n ?_)) | ((with_reducible refine w2 ?_); try simp -implicitDefEqProofs only [EN, lsub, lget, stL, beq_self_eq_true, ne_eq, if_true, if_false, List.cons_append, List.nil_append, Option.isNone_some, Option.isNone_none]; intro _ _) | ((with_reducible (first | refine w5 ?_ ?_ | refine w6 ?_ ?_ | refine w7 ?_ ?_)); simp; refine ⟨_, rfl, ?_⟩) | ((with_reducible (first | refine w8 ?_ ?_ ?_ | refine w9 ?_ ?_ ?_ | refine w10 ?_ ?_ ?_)); exact rfl; simp) | ((with_reducible refine w12 ?_ ?_ ?_ fun _ _ => ?_); simp; simp; simp [oneC]) | ((with_reducible (first | refine eqs ?_ | refine nes ?_)); refine ⟨_, rfl, ?_⟩) | ((refine okF_i (bldP_eq rfl) ?_); try simp only [BLS, List.take_succ_cons, List.take_zero, List.drop_succ_cons, List.drop_zero, List.cons_append, List.nil_append, Nat.reduceAdd])) | simp -implicitDefEqProofs only [EN, lsub, lget, stL, beq_self_eq_true, ne_eq, if_true, if_false, List.cons_append, List.nil_append, Option.isNone_some, Option.isNone_none]))
  rename_i q W2 h
  (try simp only [BLS, List.take_succ_cons, List.take_zero, List.drop_succ_cons, List.drop_zero, List.cons_append, List.nil_append, List.append_nil, List.take_nil, List.drop_nil, stL, Nat.reduceAdd] at h)
  exact hk q _ ((h.ent (ent.cons _ (ent.swap _ _ _))).ent (os_ent (s := OS.new)))
/-- does a text live by a dot? -/
theorem orsetLive {s : OS} {d : Dot} {x : Bs} {k : Value → World → Prop} (h : St W0 L W) [hc : Ck q L [.map (some r), .map (some g)] T_orset_Set L1] [hm : Tk (mp KB g) L1 (mvG s.gone) L2]
    (hk : ∀ W', St W0 L W' → k (.bool (s.live d x)) W') : callK PR F_orset_Set_live [.pointer (some ⟨q, 0, none⟩), .agg #[.int .i64 d.rep, .int .i64 d.n], sv x] k W := by
  have hp := hc.perm.trans (hm.perm.cons _)
  have h' : St W0 (cells q [.map (some r), .map (some g)] T_orset_Set :: mp KB g (mvG s.gone) :: L2) W := h.perm (hp.trans (.refl _))
  have hk' : ∀ W', St W0 (cells q [.map (some r), .map (some g)] T_orset_Set :: mp KB g (mvG s.gone) :: L2) W' → k (.bool (s.live d x)) W' := fun W' h => hk W' (h.perm hp.symm)
  clear h hk hp hc hm
  have h := h'
  clear h'
  apply S.orset_Set_live.call
  unfold S.orset_Set_live.body
  (repeat (first | (first | (with_reducible (first | refine w1 fun _ _ => ?_ | refine w3 fun _ _ _ => ?_ | refine w4 fun _ _ _ => ?_ | refine w11 fun _ _ _ => ?_ | refine stb_n ?_)) | ((with_reducible refine w2 ?_); try simp -implicitDefEqProofs only [EN, lsub, lget, stL, beq_self_eq_true, ne_eq, if_true, if_false, List.cons_append, List.nil_append, Option.isNone_some, Option.isNone_none]; intro _ _) | ((with_reducible (first | refine w5 ?_ ?_ | refine w6 ?_ ?_ | refine w7 ?_ ?_)); simp; refine ⟨_, rfl, ?_⟩) | ((with_reducible (first | refine w8 ?_ ?_ ?_ | refine w9 ?_ ?_ ?_ | refine w10 ?_ ?_ ?_)); exact rfl; simp) | ((with_reducible refine w12 ?_ ?_ ?_ fun _ _ => ?_); simp; simp; simp [oneC]) | ((with_reducible (first | refine eqs ?_ | refine nes ?_)); refine ⟨_, rfl, ?_⟩) | ((refine okF_i (bldP_eq rfl) ?_); try simp only [BLS, List.take_succ_cons, List.take_zero, List.drop_succ_cons, List.drop_zero, List.cons_append, List.nil_append, Nat.reduceAdd])) | simp -implicitDefEqProofs only [EN, lsub, lget, stL, beq_self_eq_true, ne_eq, if_true, if_false, List.cons_append, List.nil_append, Option.isNone_some, Option.isNone_none]))
  refine lkp (K := KB) (z := .agg #[.int .i64 0, .int .i64 0, .int .i64 0, .int .i64 0, .int .i64 0, .int .i64 0, .int .i64 0]) x (by first | assumption | exact St.tick (by assumption) | exact St.tick (St.tick (by assumption))) ?_
  rw [mget_mvG]
  have e : s.gv x = (mget s.gone x).getD (P7.all 0) := rfl
  unfold OS.live at hk'
  rw [← e]
  generalize s.gv x = v at *
  (repeat (first | (first | (with_reducible (first | refine w1 fun _ _ => ?_ | refine w3 fun _ _ _ => ?_ | refine w4 fun _ _ _ => ?_ | refine w11 fun _ _ _ => ?_ | refine stb_n ?_)) | ((with_reducible refine w2 ?_); try simp -implicitDefEqProofs only [EN, lsub, lget, stL, beq_self_eq_true, ne_eq, if_true, if_false, List.cons_append, List.nil_append, Option.isNone_some, Option.isNone_none]; intro _ _) | ((with_reducible (first | refine w5 ?_ ?_ | refine w6 ?_ ?_ | refine w7 ?_ ?_)); simp; refine ⟨_, rfl, ?_⟩) | ((with_reducible (first | refine w8 ?_ ?_ ?_ | refine w9 ?_ ?_ ?_ | refine w10 ?_ ?_ ?_)); exact rfl; simp) | ((with_reducible refine w12 ?_ ?_ ?_ fun _ _ => ?_); simp; simp; simp [oneC]) | ((with_reducible (first | refine eqs ?_ | refine nes ?_)); refine ⟨_, rfl, ?_⟩) | ((refine okF_i (bldP_eq rfl) ?_); try simp only [BLS, List.take_succ_cons, List.take_zero, List.drop_succ_cons, List.drop_zero, List.cons_append, List.nil_append, Nat.reduceAdd])) | simp -implicitDefEqProofs only [EN, lsub, lget, stL, beq_self_eq_true, ne_eq, if_true, if_false, List.cons_append, List.nil_append, Option.isNone_some, Option.isNone_none]))
  exact hk' _ (St.wk (by first | assumption | exact St.tick (by assumption) | exact St.tick (St.tick (by assumption))))
theorem orsetAdd {s : OS} {d : Dot} {x : Bs} {k : Value → World → Prop} (h : St W0 L W) [ht : Tk (os q) L s L'] (hk : ∀ W', St W0 (os q (s.add d x).1 :: L') W' → k (.int .i64 (s.add d x).2) W') :
    callK PR F_orset_Set_Add [.pointer (some ⟨q, 0, none⟩), .agg #[.int .i64 d.rep, .int .i64 d.n], sv x] k W := by
  apply S.orset_Set_Add.call
  unfold S.orset_Set_Add.body
  obtain ⟨r, g, h⟩ := os_at (h.perm ht.perm)
  have hsz := size_sv x
  unfold OS.add at hk
  cases hd : d.ok with
  | false =>
    rw [if_pos (.inl hd)] at hk
    (repeat (first | (first | (with_reducible (first | refine w1 fun _ _ => ?_ | refine w3 fun _ _ _ => ?_ | refine w4 fun _ _ _ => ?_ | refine w11 fun _ _ _ => ?_ | refine stb_n ?_)) | ((with_reducible refine w2 ?_); try simp -implicitDefEqProofs only [EN, lsub, lget, stL, beq_self_eq_true, ne_eq, if_true, if_false, List.cons_append, List.nil_append, Option.isNone_some, Option.isNone_none, hd]; intro _ _) | ((with_reducible (first | refine w5 ?_ ?_ | refine w6 ?_ ?_ | refine w7 ?_ ?_)); simp; refine ⟨_, rfl, ?_⟩) | ((with_reducible (first | refine w8 ?_ ?_ ?_ | refine w9 ?_ ?_ ?_ | refine w10 ?_ ?_ ?_)); exact rfl; simp) | ((with_reducible refine w12 ?_ ?_ ?_ fun _ _ => ?_); simp; simp; simp [oneC]) | ((with_reducible (first | refine eqs ?_ | refine nes ?_)); refine ⟨_, rfl, ?_⟩) | ((refine okF_i (bldP_eq rfl) ?_); try simp only [BLS, List.take_succ_cons, List.take_zero, List.drop_succ_cons, List.drop_zero, List.cons_append, List.nil_append, Nat.reduceAdd])) | simp -implicitDefEqProofs only [EN, lsub, lget, stL, beq_self_eq_true, ne_eq, if_true, if_false, List.cons_append, List.nil_append, Option.isNone_some, Option.isNone_none, hd]))
    exact hk _ ((St.wk (L' := cells q [.map (some r), .map (some g)] T_orset_Set :: mp KD r (mvA s.added) :: mp KB g (mvG s.gone) :: L') (by first | assumption | exact St.tick (by assumption) | exact St.tick (St.tick (by assumption)))).ent os_ent)
  | true =>
    by_cases hl : 100 < x.length
    · rw [if_pos (.inr hl)] at hk
      have f1 : decide ((100 : Int) < (x.length : Int)) = true := decide_eq_true (by omega)
      (repeat (first | (first | (with_reducible (first | refine w1 fun _ _ => ?_ | refine w3 fun _ _ _ => ?_ | refine w4 fun _ _ _ => ?_ | refine w11 fun _ _ _ => ?_ | refine stb_n ?_)) | ((with_reducible refine w2 ?_); try simp -implicitDefEqProofs only [EN, lsub, lget, stL, beq_self_eq_true, ne_eq, if_true, if_false, List.cons_append, List.nil_append, Option.isNone_some, Option.isNone_none, hd, hsz, f1]; intro _ _) | ((with_reducible (first | refine w5 ?_ ?_ | refine w6 ?_ ?_ | refine w7 ?_ ?_)); simp; refine ⟨_, rfl, ?_⟩) | ((with_reducible (first | refine w8 ?_ ?_ ?_ | refine w9 ?_ ?_ ?_ | refine w10 ?_ ?_ ?_)); exact rfl; simp) | ((with_reducible refine w12 ?_ ?_ ?_ fun _ _ => ?_); simp; simp; simp [oneC]) | ((with_reducible (first | refine eqs ?_ | refine nes ?_)); refine ⟨_, rfl, ?_⟩) | ((refine okF_i (bldP_eq rfl) ?_); try simp only [BLS, List.take_succ_cons, List.take_zero, List.drop_succ_cons, List.drop_zero, List.cons_append, List.nil_append, Nat.reduceAdd])) | simp -implicitDefEqProofs only [EN, lsub, lget, stL, beq_self_eq_true, ne_eq, if_true, if_false, List.cons_append, List.nil_append, Option.isNone_some, Option.isNone_none, hd, hsz, f1]))
      exact hk _ ((St.wk (L' := cells q [.map (some r), .map (some g)] T_orset_Set :: mp KD r (mvA s.added) :: mp KB g (mvG s.gone) :: L') (by first | assumption | exact St.tick (by assumption) | exact St.tick (St.tick (by assumption)))).ent os_ent)
    · rw [if_neg (by rw [hd]; simp [hl])] at hk
      have f1 : decide ((100 : Int) < (x.length : Int)) = false := decide_eq_false (by omega)
      (repeat (first | (first | (with_reducible (first | refine w1 fun _ _ => ?_ | refine w3 fun _ _ _ => ?_ | refine w4 fun _ _ _ => ?_ | refine w11 fun _ _ _ => ?_ | refine stb_n ?_)) | ((with_reducible refine w2 ?_); try simp -implicitDefEqProofs only [EN, lsub, lget, stL, beq_self_eq_true, ne_eq, if_true, if_false, List.cons_append, List.nil_append, Option.isNone_some, Option.isNone_none, hd, hsz, f1]; intro _ _) | ((with_reducible (first | refine w5 ?_ ?_ | refine w6 ?_ ?_ | refine w7 ?_ ?_)); simp; refine ⟨_, rfl, ?_⟩) | ((with_reducible (first | refine w8 ?_ ?_ ?_ | refine w9 ?_ ?_ ?_ | refine w10 ?_ ?_ ?_)); exact rfl; simp) | ((with_reducible refine w12 ?_ ?_ ?_ fun _ _ => ?_); simp; simp; simp [oneC]) | ((with_reducible (first | refine eqs ?_ | refine nes ?_)); refine ⟨_, rfl, ?_⟩) | ((refine okF_i (bldP_eq rfl) ?_); try simp only [BLS, List.take_succ_cons, List.take_zero, List.drop_succ_cons, List.drop_zero, List.cons_append, List.nil_append, Nat.reduceAdd])) | simp -implicitDefEqProofs only [EN, lsub, lget, stL, beq_self_eq_true, ne_eq, if_true, if_false, List.cons_append, List.nil_append, Option.isNone_some, Option.isNone_none, hd, hsz, f1]))
      refine lkpOk (K := KD) (z := .string ⟨#[]⟩) d (by first | assumption | exact St.tick (by assumption) | exact St.tick (St.tick (by assumption))) ?_
      rw [mget_mvA, mget_mvA_some]
      have hset : ∀ W1, St W0 (cells q [.map (some r), .map (some g)] T_orset_Set :: mp KD r (mput (mvA s.added) d (sv x)) :: mp KB g (mvG s.gone) :: L') W1 → St W0 (os q { s with added := mput s.added d x } :: L') W1 := fun W1 h => by
        rw [show mput (mvA s.added) d (sv x) = mvA (mput s.added d x) from mput_map sv s.added d x] at h
        exact h.ent (os_ent (s := { s with added := mput s.added d x }))
      cases hm : mget s.added d with
      | none =>
        rw [hm] at hk
        rw [if_neg (by simp)] at hk
        simp only [Option.getD_none, Option.isSome_none]
        (repeat (first | (first | (with_reducible (first | refine w1 fun _ _ => ?_ | refine w3 fun _ _ _ => ?_ | refine w4 fun _ _ _ => ?_ | refine w11 fun _ _ _ => ?_ | refine stb_n ?_)) | ((with_reducible refine w2 ?_); try simp -implicitDefEqProofs only [EN, lsub, lget, stL, beq_self_eq_true, ne_eq, if_true, if_false, List.cons_append, List.nil_append, Option.isNone_some, Option.isNone_none]; intro _ _) | ((with_reducible (first | refine w5 ?_ ?_ | refine w6 ?_ ?_ | refine w7 ?_ ?_)); simp; refine ⟨_, rfl, ?_⟩) | ((with_reducible (first | refine w8 ?_ ?_ ?_ | refine w9 ?_ ?_ ?_ | refine w10 ?_ ?_ ?_)); exact rfl; simp) | ((with_reducible refine w12 ?_ ?_ ?_ fun _ _ => ?_); simp; simp; simp [oneC]) | ((with_reducible (first | refine eqs ?_ | refine nes ?_)); refine ⟨_, rfl, ?_⟩) | ((refine okF_i (bldP_eq rfl) ?_); try simp only [BLS, List.take_succ_cons, List.take_zero, List.drop_succ_cons, List.drop_zero, List.cons_append, List.nil_append, Nat.reduceAdd])) | simp -implicitDefEqProofs only [EN, lsub, lget, stL, beq_self_eq_true, ne_eq, if_true, if_false, List.cons_append, List.nil_append, Option.isNone_some, Option.isNone_none]))
        refine mset (K := KD) (r := r) d (by first | assumption | exact St.tick (by assumption) | exact St.tick (St.tick (by assumption))) fun W3 h => ?_
        exact hk _ (hset _ (St.wk h))
      | some y =>
        rw [hm] at hk
        simp only [Option.getD_some, Option.isSome_some]
        by_cases hy : y = x
        · subst hy
          rw [if_neg (by simp)] at hk
          (repeat (first | (first | (with_reducible (first | refine w1 fun _ _ => ?_ | refine w3 fun _ _ _ => ?_ | refine w4 fun _ _ _ => ?_ | refine w11 fun _ _ _ => ?_ | refine stb_n ?_)) | ((with_reducible refine w2 ?_); try simp -implicitDefEqProofs only [EN, lsub, lget, stL, beq_self_eq_true, ne_eq, if_true, if_false, List.cons_append, List.nil_append, Option.isNone_some, Option.isNone_none]; intro _ _) | ((with_reducible (first | refine w5 ?_ ?_ | refine w6 ?_ ?_ | refine w7 ?_ ?_)); simp; refine ⟨_, rfl, ?_⟩) | ((with_reducible (first | refine w8 ?_ ?_ ?_ | refine w9 ?_ ?_ ?_ | refine w10 ?_ ?_ ?_)); exact rfl; simp) | ((with_reducible refine w12 ?_ ?_ ?_ fun _ _ => ?_); simp; simp; simp [oneC]) | ((with_reducible (first | refine eqs ?_ | refine nes ?_)); refine ⟨_, rfl, ?_⟩) | ((refine okF_i (bldP_eq rfl) ?_); try simp only [BLS, List.take_succ_cons, List.take_zero, List.drop_succ_cons, List.drop_zero, List.cons_append, List.nil_append, Nat.reduceAdd])) | simp -implicitDefEqProofs only [EN, lsub, lget, stL, beq_self_eq_true, ne_eq, if_true, if_false, List.cons_append, List.nil_append, Option.isNone_some, Option.isNone_none]))
          refine mset (K := KD) (r := r) d (by first | assumption | exact St.tick (by assumption) | exact St.tick (St.tick (by assumption))) fun W3 h => ?_
          exact hk _ (hset _ (St.wk h))
        · rw [if_pos ⟨rfl, by simp [hy]⟩] at hk
          have f2 : decide ((⟨y.toArray⟩ : ByteArray) = ⟨x.toArray⟩) = false := decide_eq_false fun e => hy (by simpa using e)
          (repeat (first | (first | (with_reducible (first | refine w1 fun _ _ => ?_ | refine w3 fun _ _ _ => ?_ | refine w4 fun _ _ _ => ?_ | refine w11 fun _ _ _ => ?_ | refine stb_n ?_)) | ((with_reducible refine w2 ?_); try simp -implicitDefEqProofs only [EN, lsub, lget, stL, beq_self_eq_true, ne_eq, if_true, if_false, List.cons_append, List.nil_append, Option.isNone_some, Option.isNone_none, f2]; intro _ _) | ((with_reducible (first | refine w5 ?_ ?_ | refine w6 ?_ ?_ | refine w7 ?_ ?_)); simp; refine ⟨_, rfl, ?_⟩) | ((with_reducible (first | refine w8 ?_ ?_ ?_ | refine w9 ?_ ?_ ?_ | refine w10 ?_ ?_ ?_)); exact rfl; simp) | ((with_reducible refine w12 ?_ ?_ ?_ fun _ _ => ?_); simp; simp; simp [oneC]) | ((with_reducible (first | refine eqs ?_ | refine nes ?_)); refine ⟨_, rfl, ?_⟩) | ((refine okF_i (bldP_eq rfl) ?_); try simp only [BLS, List.take_succ_cons, List.take_zero, List.drop_succ_cons, List.drop_zero, List.cons_append, List.nil_append, Nat.reduceAdd])) | simp -implicitDefEqProofs only [EN, lsub, lget, stL, beq_self_eq_true, ne_eq, if_true, if_false, List.cons_append, List.nil_append, Option.isNone_some, Option.isNone_none, f2]))
          exact hk _ ((St.wk (L' := cells q [.map (some r), .map (some g)] T_orset_Set :: mp KD r (mvA s.added) :: mp KB g (mvG s.gone) :: L') (by first | assumption | exact St.tick (by assumption) | exact St.tick (St.tick (by assumption)))).ent os_ent)
theorem orsetRemove {s : OS} {x : Bs} {v : P7 Int} {k : Value → World → Prop} (h : St W0 L W) [ht : Tk (os q) L s L'] (hk : ∀ W', St W0 (os q (s.remove x v).1 :: L') W' → k (.int .i64 (s.remove x v).2) W') :
    callK PR F_orset_Set_Remove [.pointer (some ⟨q, 0, none⟩), sv x, vv v] k W := by
  apply S.orset_Set_Remove.call
  unfold S.orset_Set_Remove.body
  obtain ⟨r, g, h⟩ := os_at (h.perm ht.perm)
  have hsz := size_sv x
  unfold OS.remove at hk
  by_cases hl : 100 < x.length
  · rw [if_pos (.inl hl)] at hk
    have f1 : decide ((100 : Int) < (x.length : Int)) = true := decide_eq_true (by omega)
    (repeat (first | (first | (with_reducible (first | refine w1 fun _ _ => ?_ | refine w3 fun _ _ _ => ?_ | refine w4 fun _ _ _ => ?_ | refine w11 fun _ _ _ => ?_ | refine stb_n ?_)) | ((with_reducible refine w2 ?_); try simp -implicitDefEqProofs only [EN, lsub, lget, stL, beq_self_eq_true, ne_eq, if_true, if_false, List.cons_append, List.nil_append, Option.isNone_some, Option.isNone_none, hsz, f1]; intro _ _) | ((with_reducible (first | refine w5 ?_ ?_ | refine w6 ?_ ?_ | refine w7 ?_ ?_)); simp; refine ⟨_, rfl, ?_⟩) | ((with_reducible (first | refine w8 ?_ ?_ ?_ | refine w9 ?_ ?_ ?_ | refine w10 ?_ ?_ ?_)); exact rfl; simp) | ((with_reducible refine w12 ?_ ?_ ?_ fun _ _ => ?_); simp; simp; simp [oneC]) | ((with_reducible (first | refine eqs ?_ | refine nes ?_)); refine ⟨_, rfl, ?_⟩) | ((refine okF_i (bldP_eq rfl) ?_); try simp only [BLS, List.take_succ_cons, List.take_zero, List.drop_succ_cons, List.drop_zero, List.cons_append, List.nil_append, Nat.reduceAdd])) | simp -implicitDefEqProofs only [EN, lsub, lget, stL, beq_self_eq_true, ne_eq, if_true, if_false, List.cons_append, List.nil_append, Option.isNone_some, Option.isNone_none, hsz, f1]))
    exact hk _ ((St.wk (L' := cells q [.map (some r), .map (some g)] T_orset_Set :: mp KD r (mvA s.added) :: mp KB g (mvG s.gone) :: L') (by first | assumption | exact St.tick (by assumption) | exact St.tick (St.tick (by assumption)))).ent os_ent)
  have f1 : decide ((100 : Int) < (x.length : Int)) = false := decide_eq_false (by omega)
  have eg : goodV ⟨v.x0, v.x1, v.x2, v.x3, v.x4, v.x5, v.x6⟩ = goodV v := rfl
  cases hg : goodV v with
  | false =>
    rw [if_pos (.inr hg)] at hk
    (repeat (first | (first | (with_reducible (first | refine w1 fun _ _ => ?_ | refine w3 fun _ _ _ => ?_ | refine w4 fun _ _ _ => ?_ | refine w11 fun _ _ _ => ?_ | refine stb_n ?_)) | ((with_reducible refine w2 ?_); try simp -implicitDefEqProofs only [EN, lsub, lget, stL, beq_self_eq_true, ne_eq, if_true, if_false, List.cons_append, List.nil_append, Option.isNone_some, Option.isNone_none, hsz, f1, eg, hg]; intro _ _) | ((with_reducible (first | refine w5 ?_ ?_ | refine w6 ?_ ?_ | refine w7 ?_ ?_)); simp; refine ⟨_, rfl, ?_⟩) | ((with_reducible (first | refine w8 ?_ ?_ ?_ | refine w9 ?_ ?_ ?_ | refine w10 ?_ ?_ ?_)); exact rfl; simp) | ((with_reducible refine w12 ?_ ?_ ?_ fun _ _ => ?_); simp; simp; simp [oneC]) | ((with_reducible (first | refine eqs ?_ | refine nes ?_)); refine ⟨_, rfl, ?_⟩) | ((refine okF_i (bldP_eq rfl) ?_); try simp only [BLS, List.take_succ_cons, List.take_zero, List.drop_succ_cons, List.drop_zero, List.cons_append, List.nil_append, Nat.reduceAdd])) | simp -implicitDefEqProofs only [EN, lsub, lget, stL, beq_self_eq_true, ne_eq, if_true, if_false, List.cons_append, List.nil_append, Option.isNone_some, Option.isNone_none, hsz, f1, eg, hg]))
    exact hk _ ((St.wk (L' := cells q [.map (some r), .map (some g)] T_orset_Set :: mp KD r (mvA s.added) :: mp KB g (mvG s.gone) :: L') (by first | assumption | exact St.tick (by assumption) | exact St.tick (St.tick (by assumption)))).ent os_ent)
  | true =>
    rw [if_neg (by rw [hg]; simp [hl])] at hk
    (repeat (first | (first | (with_reducible (first | refine w1 fun _ _ => ?_ | refine w3 fun _ _ _ => ?_ | refine w4 fun _ _ _ => ?_ | refine w11 fun _ _ _ => ?_ | refine stb_n ?_)) | ((with_reducible refine w2 ?_); try simp -implicitDefEqProofs only [EN, lsub, lget, stL, beq_self_eq_true, ne_eq, if_true, if_false, List.cons_append, List.nil_append, Option.isNone_some, Option.isNone_none, hsz, f1, eg, hg]; intro _ _) | ((with_reducible (first | refine w5 ?_ ?_ | refine w6 ?_ ?_ | refine w7 ?_ ?_)); simp; refine ⟨_, rfl, ?_⟩) | ((with_reducible (first | refine w8 ?_ ?_ ?_ | refine w9 ?_ ?_ ?_ | refine w10 ?_ ?_ ?_)); exact rfl; simp) | ((with_reducible refine w12 ?_ ?_ ?_ fun _ _ => ?_); simp; simp; simp [oneC]) | ((with_reducible (first | refine eqs ?_ | refine nes ?_)); refine ⟨_, rfl, ?_⟩) | ((refine okF_i (bldP_eq rfl) ?_); try simp only [BLS, List.take_succ_cons, List.take_zero, List.drop_succ_cons, List.drop_zero, List.cons_append, List.nil_append, Nat.reduceAdd])) | simp -implicitDefEqProofs only [EN, lsub, lget, stL, beq_self_eq_true, ne_eq, if_true, if_false, List.cons_append, List.nil_append, Option.isNone_some, Option.isNone_none, hsz, f1, eg, hg]))
    refine lkp (K := KB) (z := .agg #[.int .i64 0, .int .i64 0, .int .i64 0, .int .i64 0, .int .i64 0, .int .i64 0, .int .i64 0]) x (St.tick (by first | assumption | exact St.tick (by assumption) | exact St.tick (St.tick (by assumption)))) ?_
    rw [mget_mvG]
    have e : s.gv x = (mget s.gone x).getD (P7.all 0) := rfl
    rw [← e]
    (repeat (first | (first | (with_reducible (first | refine w1 fun _ _ => ?_ | refine w3 fun _ _ _ => ?_ | refine w4 fun _ _ _ => ?_ | refine w11 fun _ _ _ => ?_ | refine stb_n ?_)) | ((with_reducible refine w2 ?_); try simp -implicitDefEqProofs only [EN, lsub, lget, stL, beq_self_eq_true, ne_eq, if_true, if_false, List.cons_append, List.nil_append, Option.isNone_some, Option.isNone_none]; intro _ _) | ((with_reducible (first | refine w5 ?_ ?_ | refine w6 ?_ ?_ | refine w7 ?_ ?_)); simp; refine ⟨_, rfl, ?_⟩) | ((with_reducible (first | refine w8 ?_ ?_ ?_ | refine w9 ?_ ?_ ?_ | refine w10 ?_ ?_ ?_)); exact rfl; simp) | ((with_reducible refine w12 ?_ ?_ ?_ fun _ _ => ?_); simp; simp; simp [oneC]) | ((with_reducible (first | refine eqs ?_ | refine nes ?_)); refine ⟨_, rfl, ?_⟩) | ((refine okF_i (bldP_eq rfl) ?_); try simp only [BLS, List.take_succ_cons, List.take_zero, List.drop_succ_cons, List.drop_zero, List.cons_append, List.nil_append, Nat.reduceAdd])) | simp -implicitDefEqProofs only [EN, lsub, lget, stL, beq_self_eq_true, ne_eq, if_true, if_false, List.cons_append, List.nil_append, Option.isNone_some, Option.isNone_none]))
    refine vecMerge (a := s.gv x) (b := v) (by first | assumption | exact St.tick (by assumption) | exact St.tick (St.tick (by assumption))) fun W3 h => ?_
    (repeat (first | (first | (with_reducible (first | refine w1 fun _ _ => ?_ | refine w3 fun _ _ _ => ?_ | refine w4 fun _ _ _ => ?_ | refine w11 fun _ _ _ => ?_ | refine stb_n ?_)) | ((with_reducible refine w2 ?_); try simp -implicitDefEqProofs only [EN, lsub, lget, stL, beq_self_eq_true, ne_eq, if_true, if_false, List.cons_append, List.nil_append, Option.isNone_some, Option.isNone_none]; intro _ _) | ((with_reducible (first | refine w5 ?_ ?_ | refine w6 ?_ ?_ | refine w7 ?_ ?_)); simp; refine ⟨_, rfl, ?_⟩) | ((with_reducible (first | refine w8 ?_ ?_ ?_ | refine w9 ?_ ?_ ?_ | refine w10 ?_ ?_ ?_)); exact rfl; simp) | ((with_reducible refine w12 ?_ ?_ ?_ fun _ _ => ?_); simp; simp; simp [oneC]) | ((with_reducible (first | refine eqs ?_ | refine nes ?_)); refine ⟨_, rfl, ?_⟩) | ((refine okF_i (bldP_eq rfl) ?_); try simp only [BLS, List.take_succ_cons, List.take_zero, List.drop_succ_cons, List.drop_zero, List.cons_append, List.nil_append, Nat.reduceAdd])) | simp -implicitDefEqProofs only [EN, lsub, lget, stL, beq_self_eq_true, ne_eq, if_true, if_false, List.cons_append, List.nil_append, Option.isNone_some, Option.isNone_none]))
    refine mset (K := KB) x (by first | assumption | exact St.tick (by assumption) | exact St.tick (St.tick (by assumption))) fun W4 h => ?_
    rw [show mput (mvG s.gone) x (vv (vmerge (s.gv x) v)) = mvG (mput s.gone x (vmerge (s.gv x) v)) from mput_map vv s.gone x _] at h
    exact hk _ ((St.wk (L' := cells q [.map (some r), .map (some g)] T_orset_Set :: mp KD r (mvA s.added) :: mp KB g (mvG (mput s.gone x (vmerge (s.gv x) v))) :: L') h).ent (os_ent (s := { s with gone := mput s.gone x (vmerge (s.gv x) v) })))
end
end Go.Proofs.Ytmojfpaagokckaa
