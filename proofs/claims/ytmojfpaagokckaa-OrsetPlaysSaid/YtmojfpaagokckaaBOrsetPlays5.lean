/- Texts of the claim OrsetPlays, joined: COrs, Srt2, CSlB, ShRef7. -/
import Derived.Test.YtmojfpaagokckaaBOrsetPlays4
import Derived.Shelf.SortM.Plain
import Derived.Shelf.SortM.SortNone
import Derived.Test.YtmojfpaagokckaaBOrsetPlays2
namespace Go.Proofs.Ytmojfpaagokckaa
set_option linter.unusedVariables false
set_option linter.unusedSimpArgs false
open Go Go.Eng

abbrev KB : Bs → Value := sv
instance keyB : KeyT PR T_string KB := KeyT.plain (d := .string) (by kernel_rfl) (fun _ => trivial) (fun h => by
  simp only [KB, sv, Value.string.injEq, ByteArray.mk.injEq] at h
  simpa using h)
abbrev mvA (l : List (Dot × Bs)) : List (Dot × Value) := l.map fun p => (p.1, sv p.2)
abbrev vv (p : P7 Int) : Value := .agg #[.int .i64 p.x0, .int .i64 p.x1, .int .i64 p.x2, .int .i64 p.x3, .int .i64 p.x4, .int .i64 p.x5, .int .i64 p.x6]
abbrev mvG (l : List (Bs × P7 Int)) : List (Bs × Value) := l.map fun p => (p.1, vv p.2)
def os (q : Nat) (s : OS) : Asn := fun h => ∃ x : Nat × Nat, sep [cells q [.map (some x.1), .map (some x.2)] T_orset_Set, mp KD x.1 (mvA s.added), mp KB x.2 (mvG s.gone)] h
section
variable {W0 W : World} {L L' L1 L2 : List Asn} {q r g : Nat}
theorem os_at {s : OS} (h : St W0 (os q s :: L) W) : ∃ r g, St W0 (cells q [.map (some r), .map (some g)] T_orset_Set :: mp KD r (mvA s.added) :: mp KB g (mvG s.gone) :: L) W := by
  obtain ⟨x, h⟩ := h.ex
  exact ⟨x.1, x.2, h.flat⟩
theorem os_ent {s : OS} : ent (cells q [.map (some r), .map (some g)] T_orset_Set :: mp KD r (mvA s.added) :: mp KB g (mvG s.gone) :: L) (os q s :: L) :=
  (ent.pack [_, _, _] L).trans (ent.weak fun _ hp => ⟨(r, g), hp⟩)
theorem mget_mvG (l : List (Bs × P7 Int)) (x : Bs) : (mget (mvG l) x).getD (.agg #[.int .i64 0, .int .i64 0, .int .i64 0, .int .i64 0, .int .i64 0, .int .i64 0, .int .i64 0]) = vv ((mget l x).getD (P7.all 0)) := by
  rw [mvG, mget_map]
  cases mget l x <;> rfl
theorem mget_mvA (l : List (Dot × Bs)) (d : Dot) : (mget (mvA l) d).getD (.string ⟨#[]⟩) = sv ((mget l d).getD []) := by
  rw [mvA, mget_map]
  cases mget l d <;> rfl
theorem mget_mvA_some (l : List (Dot × Bs)) (d : Dot) : (mget (mvA l) d).isSome = (mget l d).isSome := by
  rw [mvA, mget_map]
  cases mget l d <;> rfl
theorem size_sv (x : Bs) : (⟨x.toArray⟩ : ByteArray).size = x.length := by simp [ByteArray.size]
theorem orsetNew {k : Value → World → Prop} (h : St W0 L W) (hk : ∀ q W', St W0 (os q OS.new :: L) W' → k (.pointer (some ⟨q, 0, none⟩)) W') : callK PR F_orset_New [] k W := by
  apply S.orset_New.call
  unfold S.orset_New.body
  refine mkMap (K := KD) h fun r W1 h => ?_
  refine mkMap (K := KB) h fun g W1 h => ?_
  (repeat (first | (first | (with_reducible (first | refine w1 fun _ _ => ?_ | refine w3 fun _ _ _ => ?_ | refine w4 fun _ _ _ => ?_ | refine w11 fun _ _ _ => ?_ | refine stb_n ?_)) | ((with_reducible refine w2 ?_); try simp -implicitDefEqProofs only [EN, lsub, lget, stL, beq_self_eq_true, ne_eq, if_true, if_false, List.cons_append, List.nil_append, Option.isNone_some, Option.isNone_none]; intro _ _) | ((with_reducible (first | refine w5 ?_ ?_ | refine w6 ?_ ?_ | refine w7 ?_ ?_)); simp; refine ⟨_, rfl, ?_⟩) | ((with_reducible (first | refine w8 ?_ ?_ ?_ | refine w9 ?_ ?_ ?_ | refine w10 ?_ ?_ ?_)); exact rfl; simp) | ((with_reducible refine w12 ?_ ?_ ?_ fun _ _ => ?_); simp; simp; simp [oneC]) | ((with_reducible (first | refine eqs ?_ | refine nes ?_)); refine ⟨_, rfl, ?_⟩) | ((refine okF_i (bldP_eq rfl) ?_); try simp only [BLS, List.take_succ_cons, List.take_zero, List.drop_succ_cons, List.drop_zero, List.cons_append, List.nil_append, Nat.reduceAdd])) | simp -implicitDefEqProofs only [EN, lsub, lget, stL, beq_self_eq_true, ne_eq, if_true, if_false, List.cons_append, List.nil_append, Option.isNone_some, Option.isNone_none]))
  rename_i q W2 h
  (try simp only [BLS, List.take_succ_cons, List.take_zero, List.drop_succ_cons, List.drop_zero, List.cons_append, List.nil_append, List.append_nil, List.take_nil, List.drop_nil, stL, Nat.reduceAdd] at h)
  exact hk q _ ((h.ent (ent.cons _ (ent.swap _ _ _))).ent (os_ent (s := OS.new)))
/-- does a text live by a dot? -/
theorem orsetLive {s : OS} {d : Dot} {x : Bs} {k : Value → World → Prop} (h : St W0 L W) [hc : Ck q L [.map (some r), .map (some g)] T_orset_Set L1] [hm : Tk (mp KB g) L1 (mvG s.gone) L2]
    (hk : ∀ W', St W0 L W' → k (.bool (s.live d x)) W') : callK PR F_orset_Set_live [.pointer (some ⟨q, 0, none⟩), .agg #[.int .i64 d.rep, .int .i64 d.n], sv x] k W := by
  have hp := hc.perm.trans (hm.perm.cons _)
  have h' : St W0 (cells q [.map (some r), .map (some g)] T_orset_Set :: mp KB g (mvG s.gone) :: L2) W := h.perm (hp.trans (.refl _))
  have hk' : ∀ W', St W0 (cells q [.map (some r), .map (some g)] T_orset_Set :: mp KB g (mvG s.gone) :: L2) W' → k (.bool (s.live d x)) W' := fun W' h => hk W' (h.perm hp.symm)
  clear h hk hp hc hm
  have h := h'
  clear h'
  apply S.orset_Set_live.call
  unfold S.orset_Set_live.body
  (repeat (first | (first | (with_reducible (first | refine w1 fun _ _ => ?_ | refine w3 fun _ _ _ => ?_ | refine w4 fun _ _ _ => ?_ | refine w11 fun _ _ _ => ?_ | refine stb_n ?_)) | ((with_reducible refine w2 ?_); try simp -implicitDefEqProofs only [EN, lsub, lget, stL, beq_self_eq_true, ne_eq, if_true, if_false, List.cons_append, List.nil_append, Option.isNone_some, Option.isNone_none]; intro _ _) | ((with_reducible (first | refine w5 ?_ ?_ | refine w6 ?_ ?_ | refine w7 ?_ ?_)); simp; refine ⟨_, rfl, ?_⟩) | ((with_reducible (first | refine w8 ?_ ?_ ?_ | refine w9 ?_ ?_ ?_ | refine w10 ?_ ?_ ?_)); exact rfl; simp) | ((with_reducible refine w12 ?_ ?_ ?_ fun _ _ => ?_); simp; simp; simp [oneC]) | ((with_reducible (first | refine eqs ?_ | refine nes ?_)); refine ⟨_, rfl, ?_⟩) | ((refine okF_i (bldP_eq rfl) ?_); try simp only [BLS, List.take_succ_cons, List.take_zero, List.drop_succ_cons, List.drop_zero, List.cons_append, List.nil_append, Nat.reduceAdd])) | simp -implicitDefEqProofs only [EN, lsub, lget, stL, beq_self_eq_true, ne_eq, if_true, if_false, List.cons_append, List.nil_append, Option.isNone_some, Option.isNone_none]))
  refine lkp (K := KB) (z := .agg #[.int .i64 0, .int .i64 0, .int .i64 0, .int .i64 0, .int .i64 0, .int .i64 0, .int .i64 0]) x (by first | assumption | exact St.tick (by assumption) | exact St.tick (St.tick (by assumption))) ?_
  rw [mget_mvG]
  have e : s.gv x = (mget s.gone x).getD (P7.all 0) := rfl
  unfold OS.live at hk'
  rw [← e]
  generalize s.gv x = v at *
  (repeat (first | (first | (with_reducible (first | refine w1 fun _ _ => ?_ | refine w3 fun _ _ _ => ?_ | refine w4 fun _ _ _ => ?_ | refine w11 fun _ _ _ => ?_ | refine stb_n ?_)) | ((with_reducible refine w2 ?_); try simp -implicitDefEqProofs only [EN, lsub, lget, stL, beq_self_eq_true, ne_eq, if_true, if_false, List.cons_append, List.nil_append, Option.isNone_some, Option.isNone_none]; intro _ _) | ((with_reducible (first | refine w5 ?_ ?_ | refine w6 ?_ ?_ | refine w7 ?_ ?_)); simp; refine ⟨_, rfl, ?_⟩) | ((with_reducible (first | refine w8 ?_ ?_ ?_ | refine w9 ?_ ?_ ?_ | refine w10 ?_ ?_ ?_)); exact rfl; simp) | ((with_reducible refine w12 ?_ ?_ ?_ fun _ _ => ?_); simp; simp; simp [oneC]) | ((with_reducible (first | refine eqs ?_ | refine nes ?_)); refine ⟨_, rfl, ?_⟩) | ((refine okF_i (bldP_eq rfl) ?_); try simp only [BLS, List.take_succ_cons, List.take_zero, List.drop_succ_cons, List.drop_zero, List.cons_append, List.nil_append, Nat.reduceAdd])) | simp -implicitDefEqProofs only [EN, lsub, lget, stL, beq_self_eq_true, ne_eq, if_true, if_false, List.cons_append, List.nil_append, Option.isNone_some, Option.isNone_none]))
  exact hk' _ (St.wk (by first | assumption | exact St.tick (by assumption) | exact St.tick (St.tick (by assumption))))
theorem orsetAdd {s : OS} {d : Dot} {x : Bs} {k : Value → World → Prop} (h : St W0 L W) [ht : Tk (os q) L s L'] (hk : ∀ W', St W0 (os q (s.add d x).1 :: L') W' → k (.int .i64 (s.add d x).2) W') :
    callK PR F_orset_Set_Add [.pointer (some ⟨q, 0, none⟩), .agg #[.int .i64 d.rep, .int .i64 d.n], sv x] k W := by
  apply S.orset_Set_Add.call
  unfold S.orset_Set_Add.body
  obtain ⟨r, g, h⟩ := os_at (h.perm ht.perm)
  have hsz := size_sv x
  unfold OS.add at hk
  cases hd : d.ok with
  | false =>
    rw [if_pos (.inl hd)] at hk
    (repeat (first | (first | (with_reducible (first | refine w1 fun _ _ => ?_ | refine w3 fun _ _ _ => ?_ | refine w4 fun _ _ _ => ?_ | refine w11 fun _ _ _ => ?_ | refine stb_n ?_)) | ((with_reducible refine w2 ?_); try simp -implicitDefEqProofs only [EN, lsub, lget, stL, beq_self_eq_true, ne_eq, if_true, if_false, List.cons_append, List.nil_append, Option.isNone_some, Option.isNone_none, hd]; intro _ _) | ((with_reducible (first | refine w5 ?_ ?_ | refine w6 ?_ ?_ | refine w7 ?_ ?_)); simp; refine ⟨_, rfl, ?_⟩) | ((with_reducible (first | refine w8 ?_ ?_ ?_ | refine w9 ?_ ?_ ?_ | refine w10 ?_ ?_ ?_)); exact rfl; simp) | ((with_reducible refine w12 ?_ ?_ ?_ fun _ _ => ?_); simp; simp; simp [oneC]) | ((with_reducible (first | refine eqs ?_ | refine nes ?_)); refine ⟨_, rfl, ?_⟩) | ((refine okF_i (bldP_eq rfl) ?_); try simp only [BLS, List.take_succ_cons, List.take_zero, List.drop_succ_cons, List.drop_zero, List.cons_append, List.nil_append, Nat.reduceAdd])) | simp -implicitDefEqProofs only [EN, lsub, lget, stL, beq_self_eq_true, ne_eq, if_true, if_false, List.cons_append, List.nil_append, Option.isNone_some, Option.isNone_none, hd]))
    exact hk _ ((St.wk (L' := cells q [.map (some r), .map (some g)] T_orset_Set :: mp KD r (mvA s.added) :: mp KB g (mvG s.gone) :: L') (by first | assumption | exact St.tick (by assumption) | exact St.tick (St.tick (by assumption)))).ent os_ent)
  | true =>
    by_cases hl : 100 < x.length
    · rw [if_pos (.inr hl)] at hk
      have f1 : decide ((100 : Int) < (x.length : Int)) = true := decide_eq_true (by omega)
      (repeat (first | (first | (with_reducible (first | refine w1 fun _ _ => ?_ | refine w3 fun _ _ _ => ?_ | refine w4 fun _ _ _ => ?_ | refine w11 fun _ _ _ => ?_ | refine stb_n ?_)) | ((with_reducible refine w2 ?_); try simp -implicitDefEqProofs only [EN, lsub, lget, stL, beq_self_eq_true, ne_eq, if_true, if_false, List.cons_append, List.nil_append, Option.isNone_some, Option.isNone_none, hd, hsz, f1]; intro _ _) | ((with_reducible (first | refine w5 ?_ ?_ | refine w6 ?_ ?_ | refine w7 ?_ ?_)); simp; refine ⟨_, rfl, ?_⟩) | ((with_reducible (first | refine w8 ?_ ?_ ?_ | refine w9 ?_ ?_ ?_ | refine w10 ?_ ?_ ?_)); exact rfl; simp) | ((with_reducible refine w12 ?_ ?_ ?_ fun _ _ => ?_); simp; simp; simp [oneC]) | ((with_reducible (first | refine eqs ?_ | refine nes ?_)); refine ⟨_, rfl, ?_⟩) | ((refine okF_i (bldP_eq rfl) ?_); try simp only [BLS, List.take_succ_cons, List.take_zero, List.drop_succ_cons, List.drop_zero, List.cons_append, List.nil_append, Nat.reduceAdd])) | simp -implicitDefEqProofs only [EN, lsub, lget, stL, beq_self_eq_true, ne_eq, if_true, if_false, List.cons_append, List.nil_append, Option.isNone_some, Option.isNone_none, hd, hsz, f1]))
      exact hk _ ((St.wk (L' := cells q [.map (some r), .map (some g)] T_orset_Set :: mp KD r (mvA s.added) :: mp KB g (mvG s.gone) :: L') (by first | assumption | exact St.tick (by assumption) | exact St.tick (St.tick (by assumption)))).ent os_ent)
    · rw [if_neg (by rw [hd]; simp [hl])] at hk
      have f1 : decide ((100 : Int) < (x.length : Int)) = false := decide_eq_false (by omega)
      (repeat (first | (first | (with_reducible (first | refine w1 fun _ _ => ?_ | refine w3 fun _ _ _ => ?_ | refine w4 fun _ _ _ => ?_ | refine w11 fun _ _ _ => ?_ | refine stb_n ?_)) | ((with_reducible refine w2 ?_); try simp -implicitDefEqProofs only [EN, lsub, lget, stL, beq_self_eq_true, ne_eq, if_true, if_false, List.cons_append, List.nil_append, Option.isNone_some, Option.isNone_none, hd, hsz, f1]; intro _ _) | ((with_reducible (first | refine w5 ?_ ?_ | refine w6 ?_ ?_ | refine w7 ?_ ?_)); simp; refine ⟨_, rfl, ?_⟩) | ((with_reducible (first | refine w8 ?_ ?_ ?_ | refine w9 ?_ ?_ ?_ | refine w10 ?_ ?_ ?_)); exact rfl; simp) | ((with_reducible refine w12 ?_ ?_ ?_ fun _ _ => ?_); simp; simp; simp [oneC]) | ((with_reducible (first | refine eqs ?_ | refine nes ?_)); refine ⟨_, rfl, ?_⟩) | ((refine okF_i (bldP_eq rfl) ?_); try simp only [BLS, List.take_succ_cons, List.take_zero, List.drop_succ_cons, List.drop_zero, List.cons_append, List.nil_append, Nat.reduceAdd])) | simp -implicitDefEqProofs only [EN, lsub, lget, stL, beq_self_eq_true, ne_eq, if_true, if_false, List.cons_append, List.nil_append, Option.isNone_some, Option.isNone_none, hd, hsz, f1]))
      refine lkpOk (K := KD) (z := .string ⟨#[]⟩) d (by first | assumption | exact St.tick (by assumption) | exact St.tick (St.tick (by assumption))) ?_
      rw [mget_mvA, mget_mvA_some]
      have hset : ∀ W1, St W0 (cells q [.map (some r), .map (some g)] T_orset_Set :: mp KD r (mput (mvA s.added) d (sv x)) :: mp KB g (mvG s.gone) :: L') W1 → St W0 (os q { s with added := mput s.added d x } :: L') W1 := fun W1 h => by
        rw [show mput (mvA s.added) d (sv x) = mvA (mput s.added d x) from mput_map sv s.added d x] at h
        exact h.ent (os_ent (s := { s with added := mput s.added d x }))
      cases hm : mget s.added d with
      | none =>
        rw [hm] at hk
        rw [if_neg (by simp)] at hk
        simp only [Option.getD_none, Option.isSome_none]
        (repeat (first | (first | (with_reducible (first | refine w1 fun _ _ => ?_ | refine w3 fun _ _ _ => ?_ | refine w4 fun _ _ _ => ?_ | refine w11 fun _ _ _ => ?_ | refine stb_n ?_)) | ((with_reducible refine w2 ?_); try simp -implicitDefEqProofs only [EN, lsub, lget, stL, beq_self_eq_true, ne_eq, if_true, if_false, List.cons_append, List.nil_append, Option.isNone_some, Option.isNone_none]; intro _ _) | ((with_reducible (first | refine w5 ?_ ?_ | refine w6 ?_ ?_ | refine w7 ?_ ?_)); simp; refine ⟨_, rfl, ?_⟩) | ((with_reducible (first | refine w8 ?_ ?_ ?_ | refine w9 ?_ ?_ ?_ | refine w10 ?_ ?_ ?_)); exact rfl; simp) | ((with_reducible refine w12 ?_ ?_ ?_ fun _ _ => ?_); simp; simp; simp [oneC]) | ((with_reducible (first | refine eqs ?_ | refine nes ?_)); refine ⟨_, rfl, ?_⟩) | ((refine okF_i (bldP_eq rfl) ?_); try simp only [BLS, List.take_succ_cons, List.take_zero, List.drop_succ_cons, List.drop_zero, List.cons_append, List.nil_append, Nat.reduceAdd])) | simp -implicitDefEqProofs only [EN, lsub, lget, stL, beq_self_eq_true, ne_eq, if_true, if_false, List.cons_append, List.nil_append, Option.isNone_some, Option.isNone_none]))
        refine mset (K := KD) (r := r) d (by first | assumption | exact St.tick (by assumption) | exact St.tick (St.tick (by assumption))) fun W3 h => ?_
        exact hk _ (hset _ (St.wk h))
      | some y =>
        rw [hm] at hk
        simp only [Option.getD_some, Option.isSome_some]
        by_cases hy : y = x
        · subst hy
          rw [if_neg (by simp)] at hk
          (repeat (first | (first | (with_reducible (first | refine w1 fun _ _ => ?_ | refine w3 fun _ _ _ => ?_ | refine w4 fun _ _ _ => ?_ | refine w11 fun _ _ _ => ?_ | refine stb_n ?_)) | ((with_reducible refine w2 ?_); try simp -implicitDefEqProofs only [EN, lsub, lget, stL, beq_self_eq_true, ne_eq, if_true, if_false, List.cons_append, List.nil_append, Option.isNone_some, Option.isNone_none]; intro _ _) | ((with_reducible (first | refine w5 ?_ ?_ | refine w6 ?_ ?_ | refine w7 ?_ ?_)); simp; refine ⟨_, rfl, ?_⟩) | ((with_reducible (first | refine w8 ?_ ?_ ?_ | refine w9 ?_ ?_ ?_ | refine w10 ?_ ?_ ?_)); exact rfl; simp) | ((with_reducible refine w12 ?_ ?_ ?_ fun _ _ => ?_); simp; simp; simp [oneC]) | ((with_reducible (first | refine eqs ?_ | refine nes ?_)); refine ⟨_, rfl, ?_⟩) | ((refine okF_i (bldP_eq rfl) ?_); try simp only [BLS, List.take_succ_cons, List.take_zero, List.drop_succ_cons, List.drop_zero, List.cons_append, List.nil_append, Nat.reduceAdd])) | simp -implicitDefEqProofs only [EN, lsub, lget, stL, beq_self_eq_true, ne_eq, if_true, if_false, List.cons_append, List.nil_append, Option.isNone_some, Option.isNone_none]))
          refine mset (K := KD) (r := r) d (by first | assumption | exact St.tick (by assumption) | exact St.tick (St.tick (by assumption))) fun W3 h => ?_
          exact hk _ (hset _ (St.wk h))
        · rw [if_pos ⟨rfl, by simp [hy]⟩] at hk
          have f2 : decide ((⟨y.toArray⟩ : ByteArray) = ⟨x.toArray⟩) = false := decide_eq_false fun e => hy (by simpa using e)
          (repeat (first | (first | (with_reducible (first | refine w1 fun _ _ => ?_ | refine w3 fun _ _ _ => ?_ | refine w4 fun _ _ _ => ?_ | refine w11 fun _ _ _ => ?_ | refine stb_n ?_)) | ((with_reducible refine w2 ?_); try simp -implicitDefEqProofs only [EN, lsub, lget, stL, beq_self_eq_true, ne_eq, if_true, if_false, List.cons_append, List.nil_append, Option.isNone_some, Option.isNone_none, f2]; intro _ _) | ((with_reducible (first | refine w5 ?_ ?_ | refine w6 ?_ ?_ | refine w7 ?_ ?_)); simp; refine ⟨_, rfl, ?_⟩) | ((with_reducible (first | refine w8 ?_ ?_ ?_ | refine w9 ?_ ?_ ?_ | refine w10 ?_ ?_ ?_)); exact rfl; simp) | ((with_reducible refine w12 ?_ ?_ ?_ fun _ _ => ?_); simp; simp; simp [oneC]) | ((with_reducible (first | refine eqs ?_ | refine nes ?_)); refine ⟨_, rfl, ?_⟩) | ((refine okF_i (bldP_eq rfl) ?_); try simp only [BLS, List.take_succ_cons, List.take_zero, List.drop_succ_cons, List.drop_zero, List.cons_append, List.nil_append, Nat.reduceAdd])) | simp -implicitDefEqProofs only [EN, lsub, lget, stL, beq_self_eq_true, ne_eq, if_true, if_false, List.cons_append, List.nil_append, Option.isNone_some, Option.isNone_none, f2]))
          exact hk _ ((St.wk (L' := cells q [.map (some r), .map (some g)] T_orset_Set :: mp KD r (mvA s.added) :: mp KB g (mvG s.gone) :: L') (by first | assumption | exact St.tick (by assumption) | exact St.tick (St.tick (by assumption)))).ent os_ent)
theorem orsetRemove {s : OS} {x : Bs} {v : P7 Int} {k : Value → World → Prop} (h : St W0 L W) [ht : Tk (os q) L s L'] (hk : ∀ W', St W0 (os q (s.remove x v).1 :: L') W' → k (.int .i64 (s.remove x v).2) W') :
    callK PR F_orset_Set_Remove [.pointer (some ⟨q, 0, none⟩), sv x, vv v] k W := by
  apply S.orset_Set_Remove.call
  unfold S.orset_Set_Remove.body
  obtain ⟨r, g, h⟩ := os_at (h.perm ht.perm)
  have hsz := size_sv x
  unfold OS.remove at hk
  by_cases hl : 100 < x.length
  · rw [if_pos (.inl hl)] at hk
    have f1 : decide ((100 : Int) < (x.length : Int)) = true := decide_eq_true (by omega)
    (repeat (first | (first | (with_reducible (first | refine w1 fun _ _ => ?_ | refine w3 fun _ _ _ => ?_ | refine w4 fun _ _ _ => ?_ | refine w11 fun _ _ _ => ?_ | refine stb_n ?_)) | ((with_reducible refine w2 ?_); try simp -implicitDefEqProofs only [EN, lsub, lget, stL, beq_self_eq_true, ne_eq, if_true, if_false, List.cons_append, List.nil_append, Option.isNone_some, Option.isNone_none, hsz, f1]; intro _ _) | ((with_reducible (first | refine w5 ?_ ?_ | refine w6 ?_ ?_ | refine w7 ?_ ?_)); simp; refine ⟨_, rfl, ?_⟩) | ((with_reducible (first | refine w8 ?_ ?_ ?_ | refine w9 ?_ ?_ ?_ | refine w10 ?_ ?_ ?_)); exact rfl; simp) | ((with_reducible refine w12 ?_ ?_ ?_ fun _ _ => ?_); simp; simp; simp [oneC]) | ((with_reducible (first | refine eqs ?_ | refine nes ?_)); refine ⟨_, rfl, ?_⟩) | ((refine okF_i (bldP_eq rfl) ?_); try simp only [BLS, List.take_succ_cons, List.take_zero, List.drop_succ_cons, List.drop_zero, List.cons_append, List.nil_append, Nat.reduceAdd])) | simp -implicitDefEqProofs only [EN, lsub, lget, stL, beq_self_eq_true, ne_eq, if_true, if_false, List.cons_append, List.nil_append, Option.isNone_some, Option.isNone_none, hsz, f1]))
    exact hk _ ((St.wk (L' := cells q [.map (some r), .map (some g)] T_orset_Set :: mp KD r (mvA s.added) :: mp KB g (mvG s.gone) :: L') (by first | assumption | exact St.tick (by assumption) | exact St.tick (St.tick (by assumption)))).ent os_ent)
  have f1 : decide ((100 : Int) < (x.length : Int)) = false := decide_eq_false (by omega)
  have eg : goodV ⟨v.x0, v.x1, v.x2, v.x3, v.x4, v.x5, v.x6⟩ = goodV v := rfl
  cases hg : goodV v with
  | false =>
    rw [if_pos (.inr hg)] at hk
    (repeat (first | (first | (with_reducible (first | refine w1 fun _ _ => ?_ | refine w3 fun _ _ _ => ?_ | refine w4 fun _ _ _ => ?_ | refine w11 fun _ _ _ => ?_ | refine stb_n ?_)) | ((with_reducible refine w2 ?_); try simp -implicitDefEqProofs only [EN, lsub, lget, stL, beq_self_eq_true, ne_eq, if_true, if_false, List.cons_append, List.nil_append, Option.isNone_some, Option.isNone_none, hsz, f1, eg, hg]; intro _ _) | ((with_reducible (first | refine w5 ?_ ?_ | refine w6 ?_ ?_ | refine w7 ?_ ?_)); simp; refine ⟨_, rfl, ?_⟩) | ((with_reducible (first | refine w8 ?_ ?_ ?_ | refine w9 ?_ ?_ ?_ | refine w10 ?_ ?_ ?_)); exact rfl; simp) | ((with_reducible refine w12 ?_ ?_ ?_ fun _ _ => ?_); simp; simp; simp [oneC]) | ((with_reducible (first | refine eqs ?_ | refine nes ?_)); refine ⟨_, rfl, ?_⟩) | ((refine okF_i (bldP_eq rfl) ?_); try simp only [BLS, List.take_succ_cons, List.take_zero, List.drop_succ_cons, List.drop_zero, List.cons_append, List.nil_append, Nat.reduceAdd])) | simp -implicitDefEqProofs only [EN, lsub, lget, stL, beq_self_eq_true, ne_eq, if_true, if_false, List.cons_append, List.nil_append, Option.isNone_some, Option.isNone_none, hsz, f1, eg, hg]))
    exact hk _ ((St.wk (L' := cells q [.map (some r), .map (some g)] T_orset_Set :: mp KD r (mvA s.added) :: mp KB g (mvG s.gone) :: L') (by first | assumption | exact St.tick (by assumption) | exact St.tick (St.tick (by assumption)))).ent os_ent)
  | true =>
    rw [if_neg (by rw [hg]; simp [hl])] at hk
    (repeat (first | (first | (with_reducible (first | refine w1 fun _ _ => ?_ | refine w3 fun _ _ _ => ?_ | refine w4 fun _ _ _ => ?_ | refine w11 fun _ _ _ => ?_ | refine stb_n ?_)) | ((with_reducible refine w2 ?_); try simp -implicitDefEqProofs only [EN, lsub, lget, stL, beq_self_eq_true, ne_eq, if_true, if_false, List.cons_append, List.nil_append, Option.isNone_some, Option.isNone_none, hsz, f1, eg, hg]; intro _ _) | ((with_reducible (first | refine w5 ?_ ?_ | refine w6 ?_ ?_ | refine w7 ?_ ?_)); simp; refine ⟨_, rfl, ?_⟩) | ((with_reducible (first | refine w8 ?_ ?_ ?_ | refine w9 ?_ ?_ ?_ | refine w10 ?_ ?_ ?_)); exact rfl; simp) | ((with_reducible refine w12 ?_ ?_ ?_ fun _ _ => ?_); simp; simp; simp [oneC]) | ((with_reducible (first | refine eqs ?_ | refine nes ?_)); refine ⟨_, rfl, ?_⟩) | ((refine okF_i (bldP_eq rfl) ?_); try simp only [BLS, List.take_succ_cons, List.take_zero, List.drop_succ_cons, List.drop_zero, List.cons_append, List.nil_append, Nat.reduceAdd])) | simp -implicitDefEqProofs only [EN, lsub, lget, stL, beq_self_eq_true, ne_eq, if_true, if_false, List.cons_append, List.nil_append, Option.isNone_some, Option.isNone_none, hsz, f1, eg, hg]))
    refine lkp (K := KB) (z := .agg #[.int .i64 0, .int .i64 0, .int .i64 0, .int .i64 0, .int .i64 0, .int .i64 0, .int .i64 0]) x (St.tick (by first | assumption | exact St.tick (by assumption) | exact St.tick (St.tick (by assumption)))) ?_
    rw [mget_mvG]
    have e : s.gv x = (mget s.gone x).getD (P7.all 0) := rfl
    rw [← e]
    (repeat (first | (first | (with_reducible (first | refine w1 fun _ _ => ?_ | refine w3 fun _ _ _ => ?_ | refine w4 fun _ _ _ => ?_ | refine w11 fun _ _ _ => ?_ | refine stb_n ?_)) | ((with_reducible refine w2 ?_); try simp -implicitDefEqProofs only [EN, lsub, lget, stL, beq_self_eq_true, ne_eq, if_true, if_false, List.cons_append, List.nil_append, Option.isNone_some, Option.isNone_none]; intro _ _) | ((with_reducible (first | refine w5 ?_ ?_ | refine w6 ?_ ?_ | refine w7 ?_ ?_)); simp; refine ⟨_, rfl, ?_⟩) | ((with_reducible (first | refine w8 ?_ ?_ ?_ | refine w9 ?_ ?_ ?_ | refine w10 ?_ ?_ ?_)); exact rfl; simp) | ((with_reducible refine w12 ?_ ?_ ?_ fun _ _ => ?_); simp; simp; simp [oneC]) | ((with_reducible (first | refine eqs ?_ | refine nes ?_)); refine ⟨_, rfl, ?_⟩) | ((refine okF_i (bldP_eq rfl) ?_); try simp only [BLS, List.take_succ_cons, List.take_zero, List.drop_succ_cons, List.drop_zero, List.cons_append, List.nil_append, Nat.reduceAdd])) | simp -implicitDefEqProofs only [EN, lsub, lget, stL, beq_self_eq_true, ne_eq, if_true, if_false, List.cons_append, List.nil_append, Option.isNone_some, Option.isNone_none]))
    refine vecMerge (a := s.gv x) (b := v) (by first | assumption | exact St.tick (by assumption) | exact St.tick (St.tick (by assumption))) fun W3 h => ?_
    (repeat (first | (first | (with_reducible (first | refine w1 fun _ _ => ?_ | refine w3 fun _ _ _ => ?_ | refine w4 fun _ _ _ => ?_ | refine w11 fun _ _ _ => ?_ | refine stb_n ?_)) | ((with_reducible refine w2 ?_); try simp -implicitDefEqProofs only [EN, lsub, lget, stL, beq_self_eq_true, ne_eq, if_true, if_false, List.cons_append, List.nil_append, Option.isNone_some, Option.isNone_none]; intro _ _) | ((with_reducible (first | refine w5 ?_ ?_ | refine w6 ?_ ?_ | refine w7 ?_ ?_)); simp; refine ⟨_, rfl, ?_⟩) | ((with_reducible (first | refine w8 ?_ ?_ ?_ | refine w9 ?_ ?_ ?_ | refine w10 ?_ ?_ ?_)); exact rfl; simp) | ((with_reducible refine w12 ?_ ?_ ?_ fun _ _ => ?_); simp; simp; simp [oneC]) | ((with_reducible (first | refine eqs ?_ | refine nes ?_)); refine ⟨_, rfl, ?_⟩) | ((refine okF_i (bldP_eq rfl) ?_); try simp only [BLS, List.take_succ_cons, List.take_zero, List.drop_succ_cons, List.drop_zero, List.cons_append, List.nil_append, Nat.reduceAdd])) | simp -implicitDefEqProofs only [EN, lsub, lget, stL, beq_self_eq_true, ne_eq, if_true, if_false, List.cons_append, List.nil_append, Option.isNone_some, Option.isNone_none]))
    refine mset (K := KB) x (by first | assumption | exact St.tick (by assumption) | exact St.tick (St.tick (by assumption))) fun W4 h => ?_
    rw [show mput (mvG s.gone) x (vv (vmerge (s.gv x) v)) = mvG (mput s.gone x (vmerge (s.gv x) v)) from mput_map vv s.gone x _] at h
    exact hk _ ((St.wk (L' := cells q [.map (some r), .map (some g)] T_orset_Set :: mp KD r (mvA s.added) :: mp KB g (mvG (mput s.gone x (vmerge (s.gv x) v))) :: L') h).ent (os_ent (s := { s with gone := mput s.gone x (vmerge (s.gv x) v) })))
end
end Go.Proofs.Ytmojfpaagokckaa
namespace Go.Eng
set_option linter.unusedVariables false
set_option linter.unusedSimpArgs false
open Go Go.RowKit Go.Sort Go.Proofs
def STB : Ly (List UInt8) := ⟨1, by omega, fun x => [.string ⟨x.toArray⟩], fun _ => rfl, fun _ => rfl⟩
theorem STB_rows (l : List (List UInt8)) : STB.rows l = l.map encStr := by
  induction l with
  | nil => rfl
  | cons a l ih => rw [Ly.rows_cons, ih]; rfl
theorem putRow_map {α : Type} [Inhabited α] (enc : α → Value) (w : World) (b o : Nat) (d : Array α) : Sort.putRow enc w b o d = Sort.putRow id w b o (d.map enc) := by
  unfold Sort.putRow
  congr 1
  funext c
  unfold putCells
  apply Array.ext_getElem?
  intro i
  simp only [Array.getElem?_mapIdx, Array.size_map, id_eq]
  cases c[i]? with
  | none => rfl
  | some x =>
    simp only [Option.map_some]
    by_cases h : o ≤ i ∧ i < o + d.size
    · rw [if_pos h, if_pos h, getElem!_pos d _ (by omega), getElem!_pos (d.map enc) _ (by simp; omega)]
      simp
    · rw [if_neg h, if_neg h]
section
variable {P : Program} {ρ : Go.Shelf.Ren} {W0 W W' : World} {L L' : List Asn} {e : TypeId}
theorem sortStr (L6 : SlLaysM.n6 P ρ) {a : Option Addr} {c : Nat} {l : List (List UInt8)} {k : Value → World → Prop} (h : St W0 L W) [ho : Own a L STB e c l L'] (hl : l.length < 4611686018427387904)
    (hk : ∀ W', St W0 (arr STB e a c (l.mergeSort fun x y => decide (x ≤ y)) :: L') W' → k (.tuple #[]) W') : callK P (ρ.f 6) [.slice a l.length c] k W := by
  have h := h.took (a := a)
  have hf := h.arrFacts
  by_cases ha : a = none
  · subst ha
    have hl0 : l = [] := List.eq_nil_of_length_eq_zero (by have := hf.2.2.1 rfl; omega)
    subst hl0
    refine (AnyM.slices_Sort_string_none L6 none c W).mono ?_
    rintro ed w' ⟨rfl, rfl⟩
    exact hk _ (by rw [List.mergeSort_nil]; exact h)
  · obtain ⟨b, o, cur, rfl, h1, h2, h3⟩ := h.arrCells ha
    have hs1 : STB.sz = 1 := rfl
    rw [hs1, Nat.mul_one] at h1 h2
    have hcell := cells_hold (o := o) h3 l.length (by omega)
    have hH : Holds encStr W b o l.toArray := by
      intro j hj
      have hj' : j < l.length := by simpa using hj
      refine ⟨?_, (hcell j hj').2⟩
      rw [(hcell j hj').1, getElem!_pos _ j hj]
      have e3 : (STB.rows l)[j]? = cur[o + j]? := by rw [← h2, List.getElem?_take_of_lt hj', List.getElem?_drop]
      rw [← e3, STB_rows, List.getElem?_map, List.getElem?_eq_getElem hj']
      simp
    have hblk : b < W.heap.size := by
      obtain ⟨fr, _, hb⟩ := h3.cells
      exact (Array.getElem?_eq_some_iff.1 hb.blk.2).1
    have hcon := AnyM.slices_Sort_string L6 b o c l W hH hblk hl
    refine hcon.mono ?_
    rintro ed w' ⟨rfl, n, os, rfl⟩
    have hlen : (l.mergeSort fun x y => decide (x ≤ y)).length = l.length := List.length_mergeSort _
    refine hk _ ?_
    rw [putRow_map]
    have e6 : ((l.mergeSort fun x y => decide (x ≤ y)).toArray.map encStr) = (STB.rows (l.mergeSort fun x y => decide (x ≤ y))).toArray := by
      rw [STB_rows]; simp
    rw [e6]
    have hrl : (STB.rows (l.mergeSort fun x y => decide (x ≤ y))).length = l.length := by rw [Ly.rows_len, hlen, hs1, Nat.mul_one]
    refine (St.putRow (n := n) (os := os) h3 (F := STB.rows (l.mergeSort fun x y => decide (x ≤ y))) (by have := hf.1; omega)).ent (arr_of_cells (by have := hf.1; omega) hf.2.1 ?_ ?_)
    · rw [hs1]
      simp only [List.length_append, List.length_take, List.length_drop]; have := hf.1; omega
    · rw [hs1, Nat.mul_one, List.append_assoc, List.drop_append_of_le_length (by simp; have := hf.1; omega), List.drop_take, Nat.sub_self, List.take_zero, List.nil_append, hlen, ← hrl, List.take_left]
end
end Go.Eng
namespace Go.Proofs.Ytmojfpaagokckaa
set_option linter.unusedVariables false
set_option linter.unusedSimpArgs false
open Go Go.Eng

theorem cpt_snoc {α : Type} [DecidableEq α] : ∀ (l : List α) (a x : α), cpt ((l ++ [a]) ++ [x]) = if a = x then cpt (l ++ [a]) else cpt (l ++ [a]) ++ [x]
  | [], a, x => by
    by_cases h : a = x
    · subst h; simp [cpt]
    · simp [cpt, h]
  | [b], a, x => by
    have ih := cpt_snoc [] a x
    simp only [List.nil_append, List.cons_append] at ih ⊢
    by_cases h : b = a
    · subst h
      have e1 : ∀ r, cpt (b :: b :: r) = cpt (b :: r) := fun r => by simp [cpt]
      rw [e1, e1, ih]
    · have e1 : ∀ r, cpt (b :: a :: r) = b :: cpt (a :: r) := fun r => by simp [cpt, h]
      rw [e1, e1, ih]
      split <;> simp
  | b :: b' :: l, a, x => by
    have ih := cpt_snoc (b' :: l) a x
    simp only [List.cons_append] at ih ⊢
    by_cases h : b = b'
    · subst h
      have e1 : ∀ r, cpt (b :: b :: r) = cpt (b :: r) := fun r => by simp [cpt]
      rw [e1, e1, ih]
    · have e1 : ∀ r, cpt (b :: b' :: r) = b :: cpt (b' :: r) := fun r => by simp [cpt, h]
      rw [e1, e1, ih]
      split <;> simp
theorem cpt_take {α : Type} [DecidableEq α] {l : List α} {i : Nat} (h0 : 0 < i) (hi : i < l.length) : cpt (l.take (i + 1)) = if l[i - 1] = l[i] then cpt (l.take i) else cpt (l.take i) ++ [l[i]] := by
  have e1 : l.take (i + 1) = l.take i ++ [l[i]] := by rw [List.take_succ_eq_append_getElem hi]
  have e2 : l.take i = l.take (i - 1) ++ [l[i - 1]] := by
    have := List.take_succ_eq_append_getElem (l := l) (i := i - 1) (by omega)
    rwa [show i - 1 + 1 = i by omega] at this
  rw [e1, e2]
  exact cpt_snoc _ _ _
section
variable {W0 W : World} {L L' : List Asn}
theorem ba_eq (x y : Bs) : decide ((⟨x.toArray⟩ : ByteArray) = ⟨y.toArray⟩) = decide (x = y) := by
  rw [decide_eq_decide]; simp
set_option maxHeartbeats 4000000 in
theorem compactStr {a : Option Addr} {c : Nat} {l : List Bs} {k : Value → World → Prop} (h : St W0 (arr STB T_string a c l :: L) W) (hl : l.length < 4611686018427387904)
    (hk : ∀ a' c' W', St W0 (arr STB T_string a' c' (cpt l) :: L) W' → k (.slice a' (cpt l).length c') W') : callK PR F_slices_Compact_string_string [.slice a l.length c] k W := by
  apply S.slices_Compact_string_string.call
  unfold S.slices_Compact_string_string.body
  have hlc := h.arrFacts.1
  by_cases c1 : (l.length : Int) < 2
  · have e : cpt l = l := by
      match l, c1 with
      | [], _ => rfl
      | [a], _ => rfl
      | a :: b :: l, c1 => simp at c1; omega
    rw [e] at hk
    (repeat (first | (first | (with_reducible (first | refine w1 fun _ _ => ?_ | refine w3 fun _ _ _ => ?_ | refine w4 fun _ _ _ => ?_ | refine w11 fun _ _ _ => ?_ | refine stb_n ?_)) | ((with_reducible refine w2 ?_); try simp -implicitDefEqProofs only [EN, lsub, lget, stL, beq_self_eq_true, ne_eq, if_true, if_false, List.cons_append, List.nil_append, Option.isNone_some, Option.isNone_none, c1]; intro _ _) | ((with_reducible (first | refine w5 ?_ ?_ | refine w6 ?_ ?_ | refine w7 ?_ ?_)); simp; refine ⟨_, rfl, ?_⟩) | ((with_reducible (first | refine w8 ?_ ?_ ?_ | refine w9 ?_ ?_ ?_ | refine w10 ?_ ?_ ?_)); exact rfl; simp) | ((with_reducible refine w12 ?_ ?_ ?_ fun _ _ => ?_); simp; simp; simp [oneC]) | ((with_reducible (first | refine eqs ?_ | refine nes ?_)); refine ⟨_, rfl, ?_⟩) | ((refine okF_i (bldP_eq rfl) ?_); try simp only [BLS, List.take_succ_cons, List.take_zero, List.drop_succ_cons, List.drop_zero, List.cons_append, List.nil_append, Nat.reduceAdd])) | simp -implicitDefEqProofs only [EN, lsub, lget, stL, beq_self_eq_true, ne_eq, if_true, if_false, List.cons_append, List.nil_append, Option.isNone_some, Option.isNone_none, c1]))
    exact hk a c _ h
  (repeat (first | (first | (with_reducible (first | refine w1 fun _ _ => ?_ | refine w3 fun _ _ _ => ?_ | refine w4 fun _ _ _ => ?_ | refine w11 fun _ _ _ => ?_ | refine stb_n ?_)) | ((with_reducible refine w2 ?_); try simp -implicitDefEqProofs only [EN, lsub, lget, stL, beq_self_eq_true, ne_eq, if_true, if_false, List.cons_append, List.nil_append, Option.isNone_some, Option.isNone_none, c1]; intro _ _) | ((with_reducible (first | refine w5 ?_ ?_ | refine w6 ?_ ?_ | refine w7 ?_ ?_)); simp; refine ⟨_, rfl, ?_⟩) | ((with_reducible (first | refine w8 ?_ ?_ ?_ | refine w9 ?_ ?_ ?_ | refine w10 ?_ ?_ ?_)); exact rfl; simp) | ((with_reducible refine w12 ?_ ?_ ?_ fun _ _ => ?_); simp; simp; simp [oneC]) | ((with_reducible (first | refine eqs ?_ | refine nes ?_)); refine ⟨_, rfl, ?_⟩) | ((refine okF_i (bldP_eq rfl) ?_); try simp only [BLS, List.take_succ_cons, List.take_zero, List.drop_succ_cons, List.drop_zero, List.cons_append, List.nil_append, Nat.reduceAdd])) | simp -implicitDefEqProofs only [EN, lsub, lget, stL, beq_self_eq_true, ne_eq, if_true, if_false, List.cons_append, List.nil_append, Option.isNone_some, Option.isNone_none, c1]))
  refine joinK_i ?_
  refine loop_c (σ := Unit) (l.length - 1) (fun i _ => [.slice a l.length c, .int .i64 ((i + 1 : Nat) : Int)]) (fun i _ W1 => cpt (l.take (i + 1)) = l.take (i + 1) ∧ St W0 (arr STB T_string a c l :: L) W1) () rfl ⟨?_, h⟩ ?_
  · match l, c1 with
    | [], c1 => rfl
    | x :: l, c1 => rfl
  clear h
  rintro K j _ W2 hj ⟨hc, h⟩ hK
  obtain ⟨i, rfl⟩ : ∃ i, i = j + 1 := ⟨_, rfl⟩
  simp -implicitDefEqProofs only [EN, lsub, lget, stL, beq_self_eq_true, ne_eq, if_true, if_false, List.cons_append, List.nil_append, Option.isNone_some, Option.isNone_none]
  unfold S.slices_Compact_string_string.l1
  by_cases hlt : ((j + 1 : Nat) : Int) < (l.length : Int)
  · have hib : j + 1 < l.length := by omega
    have ew : IntKind.i64.wrap (((j + 1 : Nat) : Int) - 1) = ((j : Nat) : Int) := by rw [i64w]; omega
    have ew2 : IntKind.i64.wrap (((j + 1 : Nat) : Int) + 1) = ((j + 1 + 1 : Nat) : Int) := by rw [i64w]; omega
    have hct := cpt_take (l := l) (i := j + 1) (by omega) hib
    (repeat (first | (first | (with_reducible (first | refine w1 fun _ _ => ?_ | refine w3 fun _ _ _ => ?_ | refine w4 fun _ _ _ => ?_ | refine w11 fun _ _ _ => ?_ | refine stb_n ?_)) | ((with_reducible refine w2 ?_); try simp -implicitDefEqProofs only [EN, lsub, lget, stL, beq_self_eq_true, ne_eq, if_true, if_false, List.cons_append, List.nil_append, Option.isNone_some, Option.isNone_none, hlt]; intro _ _) | ((with_reducible (first | refine w5 ?_ ?_ | refine w6 ?_ ?_ | refine w7 ?_ ?_)); simp; refine ⟨_, rfl, ?_⟩) | ((with_reducible (first | refine w8 ?_ ?_ ?_ | refine w9 ?_ ?_ ?_ | refine w10 ?_ ?_ ?_)); exact rfl; simp) | ((with_reducible refine w12 ?_ ?_ ?_ fun _ _ => ?_); simp; simp; simp [oneC]) | ((with_reducible (first | refine eqs ?_ | refine nes ?_)); refine ⟨_, rfl, ?_⟩) | ((refine okF_i (bldP_eq rfl) ?_); try simp only [BLS, List.take_succ_cons, List.take_zero, List.drop_succ_cons, List.drop_zero, List.cons_append, List.nil_append, Nat.reduceAdd])) | simp -implicitDefEqProofs only [EN, lsub, lget, stL, beq_self_eq_true, ne_eq, if_true, if_false, List.cons_append, List.nil_append, Option.isNone_some, Option.isNone_none, hlt]))
    refine joinK_i ?_
    refine ixA (i := j + 1) (a := a) (l := l) (A := STB) (h.tick) rfl rfl hib fun g o ha => ?_
    cases ha
    refine ldA0 (i := j + 1) (l := l) (A := STB) (h.tick) rfl hib (v := sv l[j + 1]) rfl (by simp) ?_
    (repeat (first | (first | (with_reducible (first | refine w1 fun _ _ => ?_ | refine w3 fun _ _ _ => ?_ | refine w4 fun _ _ _ => ?_ | refine w11 fun _ _ _ => ?_ | refine stb_n ?_)) | ((with_reducible refine w2 ?_); try simp -implicitDefEqProofs only [EN, lsub, lget, stL, beq_self_eq_true, ne_eq, if_true, if_false, List.cons_append, List.nil_append, Option.isNone_some, Option.isNone_none, ew]; intro _ _) | ((with_reducible (first | refine w5 ?_ ?_ | refine w6 ?_ ?_ | refine w7 ?_ ?_)); simp; refine ⟨_, rfl, ?_⟩) | ((with_reducible (first | refine w8 ?_ ?_ ?_ | refine w9 ?_ ?_ ?_ | refine w10 ?_ ?_ ?_)); exact rfl; simp) | ((with_reducible refine w12 ?_ ?_ ?_ fun _ _ => ?_); simp; simp; simp [oneC]) | ((with_reducible (first | refine eqs ?_ | refine nes ?_)); refine ⟨_, rfl, ?_⟩) | ((refine okF_i (bldP_eq rfl) ?_); try simp only [BLS, List.take_succ_cons, List.take_zero, List.drop_succ_cons, List.drop_zero, List.cons_append, List.nil_append, Nat.reduceAdd])) | simp -implicitDefEqProofs only [EN, lsub, lget, stL, beq_self_eq_true, ne_eq, if_true, if_false, List.cons_append, List.nil_append, Option.isNone_some, Option.isNone_none, ew]))
    refine ixA (i := j) (a := some ⟨g, o, none⟩) (l := l) (A := STB) (h.tick) rfl rfl (by omega) fun g' o' ha => ?_
    cases ha
    refine ldA0 (i := j) (l := l) (A := STB) (h.tick) rfl (by omega) (v := sv (l[j]'(by omega))) rfl (by simp) ?_
    by_cases he : l[j]'(by omega) = l[j + 1]
    · have f1 : decide ((⟨l[j + 1].toArray⟩ : ByteArray) = ⟨(l[j]'(by omega)).toArray⟩) = true := by rw [ba_eq]; exact decide_eq_true he.symm
      rw [if_pos (by simpa using he), hc] at hct
      (repeat (first | (first | (with_reducible (first | refine w1 fun _ _ => ?_ | refine w3 fun _ _ _ => ?_ | refine w4 fun _ _ _ => ?_ | refine w11 fun _ _ _ => ?_ | refine stb_n ?_)) | ((with_reducible refine w2 ?_); try simp -implicitDefEqProofs only [EN, lsub, lget, stL, beq_self_eq_true, ne_eq, if_true, if_false, List.cons_append, List.nil_append, Option.isNone_some, Option.isNone_none, f1]; intro _ _) | ((with_reducible (first | refine w5 ?_ ?_ | refine w6 ?_ ?_ | refine w7 ?_ ?_)); simp; refine ⟨_, rfl, ?_⟩) | ((with_reducible (first | refine w8 ?_ ?_ ?_ | refine w9 ?_ ?_ ?_ | refine w10 ?_ ?_ ?_)); exact rfl; simp) | ((with_reducible refine w12 ?_ ?_ ?_ fun _ _ => ?_); simp; simp; simp [oneC]) | ((with_reducible (first | refine eqs ?_ | refine nes ?_)); refine ⟨_, rfl, ?_⟩) | ((refine okF_i (bldP_eq rfl) ?_); try simp only [BLS, List.take_succ_cons, List.take_zero, List.drop_succ_cons, List.drop_zero, List.cons_append, List.nil_append, Nat.reduceAdd])) | simp -implicitDefEqProofs only [EN, lsub, lget, stL, beq_self_eq_true, ne_eq, if_true, if_false, List.cons_append, List.nil_append, Option.isNone_some, Option.isNone_none, f1]))
      refine okF_i (slcS_eq (bnd_none) (bnd_nat (by omega))) ?_
      rw [if_neg (by omega)]
      simp only [Option.map_some, add_none]
      refine joinK_i ?_
      refine loop_c (σ := Nat × List Bs) (l.length - (j + 1) - 1) (fun m x => [.slice (some ⟨g, o, none⟩) l.length c, .int .i64 (x.1 : Int), .slice (some ⟨g, o + (j + 1) * 1, none⟩) (l.length - (j + 1)) (c - (j + 1)), .int .i64 ((m + 1 : Nat) : Int)])
        (fun m x W1 => (x.2.length = l.length ∧ x.1 < j + 1 + (m + 1) ∧ x.2.take x.1 = cpt (l.take (j + 1 + (m + 1))) ∧ x.2.drop (j + 1 + m) = l.drop (j + 1 + m)) ∧ St W0 (arr STB T_string (some ⟨g, o, none⟩) c x.2 :: L) W1) (j + 1, l) rfl ⟨⟨rfl, by omega, by simp only; rw [← hct], rfl⟩, h.tick⟩ ?_
      clear h hK
      rintro K2 m ⟨q, t⟩ W3 hm ⟨⟨htl, hq, hqt, hdr⟩, h⟩ hK2
      simp only at htl hq hqt hdr h
      simp -implicitDefEqProofs only [EN, lsub, lget, stL, beq_self_eq_true, ne_eq, if_true, if_false, List.cons_append, List.nil_append, Option.isNone_some, Option.isNone_none]
      unfold S.slices_Compact_string_string.l2
      have e4 : (((l.length - (j + 1) : Nat)) : Int) = (l.length : Int) - ((j : Int) + 1) := by omega
      by_cases hmt : ((m + 1 : Nat) : Int) < ((l.length - (j + 1) : Nat) : Int)
      · have hmb : m + 1 < l.length - (j + 1) := by omega
        have hir : j + 1 + (m + 1) < l.length := by omega
        have ew3 : IntKind.i64.wrap (((m + 1 : Nat) : Int) - 1) = ((m : Nat) : Int) := by rw [i64w]; omega
        have ew4 : IntKind.i64.wrap (((m + 1 : Nat) : Int) + 1) = ((m + 1 + 1 : Nat) : Int) := by rw [i64w]; omega
        have ew5 : IntKind.i64.wrap ((q : Int) + 1) = ((q + 1 : Nat) : Int) := by rw [i64w]; omega
        have hct2 := cpt_take (l := l) (i := j + 1 + (m + 1)) (by omega) hir
        have hg1 : t[j + 1 + (m + 1)]'(by omega) = l[j + 1 + (m + 1)] := by
          have := congrArg (fun x => x[1]?) hdr
          simp only [List.getElem?_drop] at this
          rw [show j + 1 + m + 1 = j + 1 + (m + 1) by omega, List.getElem?_eq_getElem (by omega), List.getElem?_eq_getElem hir] at this
          simpa using this
        have hg0 : t[j + 1 + m]'(by omega) = l[j + 1 + m]'(by omega) := by
          have := congrArg (fun x => x[0]?) hdr
          simp only [List.getElem?_drop, Nat.add_zero] at this
          rw [List.getElem?_eq_getElem (by omega), List.getElem?_eq_getElem (by omega)] at this
          simpa using this
        have hi1 : idxS 1 (.slice (some ⟨g, o + (j + 1) * 1, none⟩) (l.length - (j + 1)) (c - (j + 1))) (.int .i64 ((m + 1 : Nat) : Int)) = some (.pointer (some ⟨g, o + (j + 1 + (m + 1)) * 1, none⟩)) := by
          rw [idxS_blk (by omega) (by omega), Int.toNat_natCast, show o + (j + 1) * 1 + (m + 1) * 1 = o + (j + 1 + (m + 1)) * 1 by omega]
        have hi0 : idxS 1 (.slice (some ⟨g, o + (j + 1) * 1, none⟩) (l.length - (j + 1)) (c - (j + 1))) (.int .i64 ((m : Nat) : Int)) = some (.pointer (some ⟨g, o + (j + 1 + m) * 1, none⟩)) := by
          rw [idxS_blk (by omega) (by omega), Int.toNat_natCast, show o + (j + 1) * 1 + m * 1 = o + (j + 1 + m) * 1 by omega]
        (repeat (first | (first | (with_reducible (first | refine w1 fun _ _ => ?_ | refine w3 fun _ _ _ => ?_ | refine w4 fun _ _ _ => ?_ | refine w11 fun _ _ _ => ?_ | refine stb_n ?_)) | ((with_reducible refine w2 ?_); try simp -implicitDefEqProofs only [EN, lsub, lget, stL, beq_self_eq_true, ne_eq, if_true, if_false, List.cons_append, List.nil_append, Option.isNone_some, Option.isNone_none, hmt]; intro _ _) | ((with_reducible (first | refine w5 ?_ ?_ | refine w6 ?_ ?_ | refine w7 ?_ ?_)); simp; refine ⟨_, rfl, ?_⟩) | ((with_reducible (first | refine w8 ?_ ?_ ?_ | refine w9 ?_ ?_ ?_ | refine w10 ?_ ?_ ?_)); exact rfl; simp) | ((with_reducible refine w12 ?_ ?_ ?_ fun _ _ => ?_); simp; simp; simp [oneC]) | ((with_reducible (first | refine eqs ?_ | refine nes ?_)); refine ⟨_, rfl, ?_⟩) | ((refine okF_i (bldP_eq rfl) ?_); try simp only [BLS, List.take_succ_cons, List.take_zero, List.drop_succ_cons, List.drop_zero, List.cons_append, List.nil_append, Nat.reduceAdd])) | simp -implicitDefEqProofs only [EN, lsub, lget, stL, beq_self_eq_true, ne_eq, if_true, if_false, List.cons_append, List.nil_append, Option.isNone_some, Option.isNone_none, hmt]))
        refine joinK_i ?_
        refine okF_i hi1 ?_
        refine ldA0 (i := j + 1 + (m + 1)) (l := t) (A := STB) (h.tick) rfl (by omega) (v := sv (t[j + 1 + (m + 1)]'(by omega))) rfl (by simp) ?_
        (repeat (first | (first | (with_reducible (first | refine w1 fun _ _ => ?_ | refine w3 fun _ _ _ => ?_ | refine w4 fun _ _ _ => ?_ | refine w11 fun _ _ _ => ?_ | refine stb_n ?_)) | ((with_reducible refine w2 ?_); try simp -implicitDefEqProofs only [EN, lsub, lget, stL, beq_self_eq_true, ne_eq, if_true, if_false, List.cons_append, List.nil_append, Option.isNone_some, Option.isNone_none, ew3]; intro _ _) | ((with_reducible (first | refine w5 ?_ ?_ | refine w6 ?_ ?_ | refine w7 ?_ ?_)); simp; refine ⟨_, rfl, ?_⟩) | ((with_reducible (first | refine w8 ?_ ?_ ?_ | refine w9 ?_ ?_ ?_ | refine w10 ?_ ?_ ?_)); exact rfl; simp) | ((with_reducible refine w12 ?_ ?_ ?_ fun _ _ => ?_); simp; simp; simp [oneC]) | ((with_reducible (first | refine eqs ?_ | refine nes ?_)); refine ⟨_, rfl, ?_⟩) | ((refine okF_i (bldP_eq rfl) ?_); try simp only [BLS, List.take_succ_cons, List.take_zero, List.drop_succ_cons, List.drop_zero, List.cons_append, List.nil_append, Nat.reduceAdd])) | simp -implicitDefEqProofs only [EN, lsub, lget, stL, beq_self_eq_true, ne_eq, if_true, if_false, List.cons_append, List.nil_append, Option.isNone_some, Option.isNone_none, ew3]))
        refine okF_i hi0 ?_
        refine ldA0 (i := j + 1 + m) (l := t) (A := STB) (h.tick) rfl (by omega) (v := sv (t[j + 1 + m]'(by omega))) rfl (by simp) ?_
        rw [hg1, hg0]
        by_cases he2 : l[j + 1 + m]'(by omega) = l[j + 1 + (m + 1)]
        · have f2 : decide ((⟨l[j + 1 + (m + 1)].toArray⟩ : ByteArray) = ⟨(l[j + 1 + m]'(by omega)).toArray⟩) = true := by rw [ba_eq]; exact decide_eq_true he2.symm
          rw [if_pos (by simpa using he2)] at hct2
          (repeat (first | (first | (with_reducible (first | refine w1 fun _ _ => ?_ | refine w3 fun _ _ _ => ?_ | refine w4 fun _ _ _ => ?_ | refine w11 fun _ _ _ => ?_ | refine stb_n ?_)) | ((with_reducible refine w2 ?_); try simp -implicitDefEqProofs only [EN, lsub, lget, stL, beq_self_eq_true, ne_eq, if_true, if_false, List.cons_append, List.nil_append, Option.isNone_some, Option.isNone_none, f2]; intro _ _) | ((with_reducible (first | refine w5 ?_ ?_ | refine w6 ?_ ?_ | refine w7 ?_ ?_)); simp; refine ⟨_, rfl, ?_⟩) | ((with_reducible (first | refine w8 ?_ ?_ ?_ | refine w9 ?_ ?_ ?_ | refine w10 ?_ ?_ ?_)); exact rfl; simp) | ((with_reducible refine w12 ?_ ?_ ?_ fun _ _ => ?_); simp; simp; simp [oneC]) | ((with_reducible (first | refine eqs ?_ | refine nes ?_)); refine ⟨_, rfl, ?_⟩) | ((refine okF_i (bldP_eq rfl) ?_); try simp only [BLS, List.take_succ_cons, List.take_zero, List.drop_succ_cons, List.drop_zero, List.cons_append, List.nil_append, Nat.reduceAdd])) | simp -implicitDefEqProofs only [EN, lsub, lget, stL, beq_self_eq_true, ne_eq, if_true, if_false, List.cons_append, List.nil_append, Option.isNone_some, Option.isNone_none, f2]))
          unfold S.slices_Compact_string_string.j4
          (repeat (first | (first | (with_reducible (first | refine w1 fun _ _ => ?_ | refine w3 fun _ _ _ => ?_ | refine w4 fun _ _ _ => ?_ | refine w11 fun _ _ _ => ?_ | refine stb_n ?_)) | ((with_reducible refine w2 ?_); try simp -implicitDefEqProofs only [EN, lsub, lget, stL, beq_self_eq_true, ne_eq, if_true, if_false, List.cons_append, List.nil_append, Option.isNone_some, Option.isNone_none, ew4]; intro _ _) | ((with_reducible (first | refine w5 ?_ ?_ | refine w6 ?_ ?_ | refine w7 ?_ ?_)); simp; refine ⟨_, rfl, ?_⟩) | ((with_reducible (first | refine w8 ?_ ?_ ?_ | refine w9 ?_ ?_ ?_ | refine w10 ?_ ?_ ?_)); exact rfl; simp) | ((with_reducible refine w12 ?_ ?_ ?_ fun _ _ => ?_); simp; simp; simp [oneC]) | ((with_reducible (first | refine eqs ?_ | refine nes ?_)); refine ⟨_, rfl, ?_⟩) | ((refine okF_i (bldP_eq rfl) ?_); try simp only [BLS, List.take_succ_cons, List.take_zero, List.drop_succ_cons, List.drop_zero, List.cons_append, List.nil_append, Nat.reduceAdd])) | simp -implicitDefEqProofs only [EN, lsub, lget, stL, beq_self_eq_true, ne_eq, if_true, if_false, List.cons_append, List.nil_append, Option.isNone_some, Option.isNone_none, ew4]))
          refine hK2 (q, t) _ (by omega) ⟨⟨htl, by simp only; omega, ?_, ?_⟩, h.tick⟩
          · simp only; rw [hqt, ← hct2]; rfl
          · simp only
            have := congrArg (List.drop 1) hdr
            simpa [List.drop_drop, Nat.add_assoc] using this
        · have f2 : decide ((⟨l[j + 1 + (m + 1)].toArray⟩ : ByteArray) = ⟨(l[j + 1 + m]'(by omega)).toArray⟩) = false := by rw [ba_eq]; exact decide_eq_false fun e => he2 e.symm
          rw [if_neg (by simpa using he2)] at hct2
          have hqc : q = (cpt (l.take (j + 1 + (m + 1)))).length := by rw [← hqt, List.length_take]; omega
          (repeat (first | (first | (with_reducible (first | refine w1 fun _ _ => ?_ | refine w3 fun _ _ _ => ?_ | refine w4 fun _ _ _ => ?_ | refine w11 fun _ _ _ => ?_ | refine stb_n ?_)) | ((with_reducible refine w2 ?_); try simp -implicitDefEqProofs only [EN, lsub, lget, stL, beq_self_eq_true, ne_eq, if_true, if_false, List.cons_append, List.nil_append, Option.isNone_some, Option.isNone_none, f2]; intro _ _) | ((with_reducible (first | refine w5 ?_ ?_ | refine w6 ?_ ?_ | refine w7 ?_ ?_)); simp; refine ⟨_, rfl, ?_⟩) | ((with_reducible (first | refine w8 ?_ ?_ ?_ | refine w9 ?_ ?_ ?_ | refine w10 ?_ ?_ ?_)); exact rfl; simp) | ((with_reducible refine w12 ?_ ?_ ?_ fun _ _ => ?_); simp; simp; simp [oneC]) | ((with_reducible (first | refine eqs ?_ | refine nes ?_)); refine ⟨_, rfl, ?_⟩) | ((refine okF_i (bldP_eq rfl) ?_); try simp only [BLS, List.take_succ_cons, List.take_zero, List.drop_succ_cons, List.drop_zero, List.cons_append, List.nil_append, Nat.reduceAdd])) | simp -implicitDefEqProofs only [EN, lsub, lget, stL, beq_self_eq_true, ne_eq, if_true, if_false, List.cons_append, List.nil_append, Option.isNone_some, Option.isNone_none, f2]))
          refine okF_i hi1 ?_
          refine ldA0 (i := j + 1 + (m + 1)) (l := t) (A := STB) (h.tick) rfl (by omega) (v := sv (t[j + 1 + (m + 1)]'(by omega))) rfl (by simp) ?_
          rw [hg1]
          refine ixA (i := q) (n := l.length) (a := some ⟨g, o, none⟩) (l := t) (A := STB) (h.tick) rfl htl.symm (by omega) fun g' o' ha => ?_
          cases ha
          refine stA (i := q) (l := t) (A := STB) (x := l[j + 1 + (m + 1)]) (h.tick) rfl (by omega) rfl fun W5 h => ?_
          (repeat (first | (first | (with_reducible (first | refine w1 fun _ _ => ?_ | refine w3 fun _ _ _ => ?_ | refine w4 fun _ _ _ => ?_ | refine w11 fun _ _ _ => ?_ | refine stb_n ?_)) | ((with_reducible refine w2 ?_); try simp -implicitDefEqProofs only [EN, lsub, lget, stL, beq_self_eq_true, ne_eq, if_true, if_false, List.cons_append, List.nil_append, Option.isNone_some, Option.isNone_none, ew5]; intro _ _) | ((with_reducible (first | refine w5 ?_ ?_ | refine w6 ?_ ?_ | refine w7 ?_ ?_)); simp; refine ⟨_, rfl, ?_⟩) | ((with_reducible (first | refine w8 ?_ ?_ ?_ | refine w9 ?_ ?_ ?_ | refine w10 ?_ ?_ ?_)); exact rfl; simp) | ((with_reducible refine w12 ?_ ?_ ?_ fun _ _ => ?_); simp; simp; simp [oneC]) | ((with_reducible (first | refine eqs ?_ | refine nes ?_)); refine ⟨_, rfl, ?_⟩) | ((refine okF_i (bldP_eq rfl) ?_); try simp only [BLS, List.take_succ_cons, List.take_zero, List.drop_succ_cons, List.drop_zero, List.cons_append, List.nil_append, Nat.reduceAdd])) | simp -implicitDefEqProofs only [EN, lsub, lget, stL, beq_self_eq_true, ne_eq, if_true, if_false, List.cons_append, List.nil_append, Option.isNone_some, Option.isNone_none, ew5]))
          unfold S.slices_Compact_string_string.j4
          (repeat (first | (first | (with_reducible (first | refine w1 fun _ _ => ?_ | refine w3 fun _ _ _ => ?_ | refine w4 fun _ _ _ => ?_ | refine w11 fun _ _ _ => ?_ | refine stb_n ?_)) | ((with_reducible refine w2 ?_); try simp -implicitDefEqProofs only [EN, lsub, lget, stL, beq_self_eq_true, ne_eq, if_true, if_false, List.cons_append, List.nil_append, Option.isNone_some, Option.isNone_none, ew4]; intro _ _) | ((with_reducible (first | refine w5 ?_ ?_ | refine w6 ?_ ?_ | refine w7 ?_ ?_)); simp; refine ⟨_, rfl, ?_⟩) | ((with_reducible (first | refine w8 ?_ ?_ ?_ | refine w9 ?_ ?_ ?_ | refine w10 ?_ ?_ ?_)); exact rfl; simp) | ((with_reducible refine w12 ?_ ?_ ?_ fun _ _ => ?_); simp; simp; simp [oneC]) | ((with_reducible (first | refine eqs ?_ | refine nes ?_)); refine ⟨_, rfl, ?_⟩) | ((refine okF_i (bldP_eq rfl) ?_); try simp only [BLS, List.take_succ_cons, List.take_zero, List.drop_succ_cons, List.drop_zero, List.cons_append, List.nil_append, Nat.reduceAdd])) | simp -implicitDefEqProofs only [EN, lsub, lget, stL, beq_self_eq_true, ne_eq, if_true, if_false, List.cons_append, List.nil_append, Option.isNone_some, Option.isNone_none, ew4]))
          refine hK2 (q + 1, t.set q l[j + 1 + (m + 1)]) _ (by omega) ⟨⟨by simp only [List.length_set]; exact htl, by simp only; omega, ?_, ?_⟩, h⟩
          · simp only
            rw [show j + 1 + (m + 1 + 1) = j + 1 + (m + 1) + 1 from rfl, hct2, ← hqt, List.take_succ_eq_append_getElem (by rw [List.length_set]; omega), List.take_set_of_le (Nat.le_refl _)]
            simp
          · simp only
            rw [List.drop_set_of_lt (by omega)]
            have := congrArg (List.drop 1) hdr
            simpa [List.drop_drop, Nat.add_assoc] using this
      · have hme : m + 1 = l.length - (j + 1) := by omega
        have hall : l.take (j + 1 + (m + 1)) = l := List.take_of_length_le (by omega)
        rw [hall] at hqt
        have hql : q = (cpt l).length := by rw [← hqt, List.length_take]; omega
        (repeat (first | (first | (with_reducible (first | refine w1 fun _ _ => ?_ | refine w3 fun _ _ _ => ?_ | refine w4 fun _ _ _ => ?_ | refine w11 fun _ _ _ => ?_ | refine stb_n ?_)) | ((with_reducible refine w2 ?_); try simp -implicitDefEqProofs only [EN, lsub, lget, stL, beq_self_eq_true, ne_eq, if_true, if_false, List.cons_append, List.nil_append, Option.isNone_some, Option.isNone_none, hmt]; intro _ _) | ((with_reducible (first | refine w5 ?_ ?_ | refine w6 ?_ ?_ | refine w7 ?_ ?_)); simp; refine ⟨_, rfl, ?_⟩) | ((with_reducible (first | refine w8 ?_ ?_ ?_ | refine w9 ?_ ?_ ?_ | refine w10 ?_ ?_ ?_)); exact rfl; simp) | ((with_reducible refine w12 ?_ ?_ ?_ fun _ _ => ?_); simp; simp; simp [oneC]) | ((with_reducible (first | refine eqs ?_ | refine nes ?_)); refine ⟨_, rfl, ?_⟩) | ((refine okF_i (bldP_eq rfl) ?_); try simp only [BLS, List.take_succ_cons, List.take_zero, List.drop_succ_cons, List.drop_zero, List.cons_append, List.nil_append, Nat.reduceAdd])) | simp -implicitDefEqProofs only [EN, lsub, lget, stL, beq_self_eq_true, ne_eq, if_true, if_false, List.cons_append, List.nil_append, Option.isNone_some, Option.isNone_none, hmt]))
        unfold S.slices_Compact_string_string.j3
        refine okF_i (slcS_eq (bnd_none) (bnd_nat (by omega))) ?_
        refine clrA (a := some ⟨g, o, none⟩) (l := t) (A := STB) (i := q) h rfl rfl (by omega) rfl (by omega) fun W5 h => ?_
        refine slc_pre (i := q) h (by omega) ?_
        rw [hqt] at h
        rw [hql]
        exact hk _ _ _ h
    · have f1 : decide ((⟨l[j + 1].toArray⟩ : ByteArray) = ⟨(l[j]'(by omega)).toArray⟩) = false := by rw [ba_eq]; exact decide_eq_false fun e => he e.symm
      rw [if_neg (by simpa using he), hc] at hct
      (repeat (first | (first | (with_reducible (first | refine w1 fun _ _ => ?_ | refine w3 fun _ _ _ => ?_ | refine w4 fun _ _ _ => ?_ | refine w11 fun _ _ _ => ?_ | refine stb_n ?_)) | ((with_reducible refine w2 ?_); try simp -implicitDefEqProofs only [EN, lsub, lget, stL, beq_self_eq_true, ne_eq, if_true, if_false, List.cons_append, List.nil_append, Option.isNone_some, Option.isNone_none, f1]; intro _ _) | ((with_reducible (first | refine w5 ?_ ?_ | refine w6 ?_ ?_ | refine w7 ?_ ?_)); simp; refine ⟨_, rfl, ?_⟩) | ((with_reducible (first | refine w8 ?_ ?_ ?_ | refine w9 ?_ ?_ ?_ | refine w10 ?_ ?_ ?_)); exact rfl; simp) | ((with_reducible refine w12 ?_ ?_ ?_ fun _ _ => ?_); simp; simp; simp [oneC]) | ((with_reducible (first | refine eqs ?_ | refine nes ?_)); refine ⟨_, rfl, ?_⟩) | ((refine okF_i (bldP_eq rfl) ?_); try simp only [BLS, List.take_succ_cons, List.take_zero, List.drop_succ_cons, List.drop_zero, List.cons_append, List.nil_append, Nat.reduceAdd])) | simp -implicitDefEqProofs only [EN, lsub, lget, stL, beq_self_eq_true, ne_eq, if_true, if_false, List.cons_append, List.nil_append, Option.isNone_some, Option.isNone_none, f1]))
      unfold S.slices_Compact_string_string.j2
      (repeat (first | (first | (with_reducible (first | refine w1 fun _ _ => ?_ | refine w3 fun _ _ _ => ?_ | refine w4 fun _ _ _ => ?_ | refine w11 fun _ _ _ => ?_ | refine stb_n ?_)) | ((with_reducible refine w2 ?_); try simp -implicitDefEqProofs only [EN, lsub, lget, stL, beq_self_eq_true, ne_eq, if_true, if_false, List.cons_append, List.nil_append, Option.isNone_some, Option.isNone_none, ew2]; intro _ _) | ((with_reducible (first | refine w5 ?_ ?_ | refine w6 ?_ ?_ | refine w7 ?_ ?_)); simp; refine ⟨_, rfl, ?_⟩) | ((with_reducible (first | refine w8 ?_ ?_ ?_ | refine w9 ?_ ?_ ?_ | refine w10 ?_ ?_ ?_)); exact rfl; simp) | ((with_reducible refine w12 ?_ ?_ ?_ fun _ _ => ?_); simp; simp; simp [oneC]) | ((with_reducible (first | refine eqs ?_ | refine nes ?_)); refine ⟨_, rfl, ?_⟩) | ((refine okF_i (bldP_eq rfl) ?_); try simp only [BLS, List.take_succ_cons, List.take_zero, List.drop_succ_cons, List.drop_zero, List.cons_append, List.nil_append, Nat.reduceAdd])) | simp -implicitDefEqProofs only [EN, lsub, lget, stL, beq_self_eq_true, ne_eq, if_true, if_false, List.cons_append, List.nil_append, Option.isNone_some, Option.isNone_none, ew2]))
      refine hK () _ (by omega) ⟨?_, h.tick⟩
      rw [hct, ← List.take_succ_eq_append_getElem hib]
  · have hall : l.take (j + 1) = l := List.take_of_length_le (by omega)
    rw [hall] at hc
    (repeat (first | (first | (with_reducible (first | refine w1 fun _ _ => ?_ | refine w3 fun _ _ _ => ?_ | refine w4 fun _ _ _ => ?_ | refine w11 fun _ _ _ => ?_ | refine stb_n ?_)) | ((with_reducible refine w2 ?_); try simp -implicitDefEqProofs only [EN, lsub, lget, stL, beq_self_eq_true, ne_eq, if_true, if_false, List.cons_append, List.nil_append, Option.isNone_some, Option.isNone_none, hlt]; intro _ _) | ((with_reducible (first | refine w5 ?_ ?_ | refine w6 ?_ ?_ | refine w7 ?_ ?_)); simp; refine ⟨_, rfl, ?_⟩) | ((with_reducible (first | refine w8 ?_ ?_ ?_ | refine w9 ?_ ?_ ?_ | refine w10 ?_ ?_ ?_)); exact rfl; simp) | ((with_reducible refine w12 ?_ ?_ ?_ fun _ _ => ?_); simp; simp; simp [oneC]) | ((with_reducible (first | refine eqs ?_ | refine nes ?_)); refine ⟨_, rfl, ?_⟩) | ((refine okF_i (bldP_eq rfl) ?_); try simp only [BLS, List.take_succ_cons, List.take_zero, List.drop_succ_cons, List.drop_zero, List.cons_append, List.nil_append, Nat.reduceAdd])) | simp -implicitDefEqProofs only [EN, lsub, lget, stL, beq_self_eq_true, ne_eq, if_true, if_false, List.cons_append, List.nil_append, Option.isNone_some, Option.isNone_none, hlt]))
    unfold S.slices_Compact_string_string.j1
    rw [hc] at hk
    exact hk _ _ _ h
end
end Go.Proofs.Ytmojfpaagokckaa
namespace Go.Proofs.Ytmojfpaagokckaa
set_option linter.unusedVariables false
set_option linter.unusedSimpArgs false
open Go.Eng
/-! ### (*rostrum/rostrumref7.Set).Add (16) -/
def S.rostrumref7_Set_Add.j2 (R : Value → World → Prop) (x0 x8 : Value) (W : World) : Prop :=
  okF (nilP x0) fun v89 =>
  okF (addrF 0 v89) fun v90 =>
  rdK PR (Instr.loadAt T_s_rostrumref7_add v90) (fun v91 W =>
  rdK PR (Instr.loadAt T_rostrumref7_add x8) (fun v93 W =>
  (efK PR (Instr.buildSlice T_s_rostrumref7_add 0 #[]) (fun v87 W =>
  stb PR [(7, true, (Instr.loadAt T_rostrumref7_add x8), v93), (5, true, (Instr.loadAt T_s_rostrumref7_add v90), v91)] (fun W =>
  (efK PR (Builtin.append_ #[T_s_rostrumref7_add, T_s_rostrumref7_add] T_s_rostrumref7_add #[v87, v91]) (fun v92 W =>
  stb PR [(7, true, (Instr.loadAt T_rostrumref7_add x8), v93)] (fun W =>
  efK PR (Instr.buildSlice T_s_rostrumref7_add 1 #[(0, v93)]) (fun v94 W =>
  efK PR (Builtin.append_ #[T_s_rostrumref7_add, T_s_rostrumref7_add] T_s_rostrumref7_add #[v92, v94]) (fun v95 W =>
  okF (nilP x0) fun v96 =>
  okF (addrF 0 v96) fun v97 =>
  efK PR (Instr.storeAt T_s_rostrumref7_add v97 v95) (fun _ W =>
  R (.int .i64 0) W) W) W) W) W) W) ∧ (efK PR (Instr.buildSlice T_s_rostrumref7_add 1 #[(0, v93)]) (fun v94_1 W =>
  stb PR [(5, true, (Instr.loadAt T_s_rostrumref7_add v90), v91)] (fun W =>
  efK PR (Builtin.append_ #[T_s_rostrumref7_add, T_s_rostrumref7_add] T_s_rostrumref7_add #[v87, v91]) (fun v92_1 W =>
  efK PR (Builtin.append_ #[T_s_rostrumref7_add, T_s_rostrumref7_add] T_s_rostrumref7_add #[v92_1, v94_1]) (fun v95_1 W =>
  okF (nilP x0) fun v96_1 =>
  okF (addrF 0 v96_1) fun v97_1 =>
  efK PR (Instr.storeAt T_s_rostrumref7_add v97_1 v95_1) (fun _ W =>
  R (.int .i64 0) W) W) W) W) W) W)) W) W) ∧ (efK PR (Instr.buildSlice T_s_rostrumref7_add 1 #[(0, v93)]) (fun v94_2 W =>
  stb PR [(5, true, (Instr.loadAt T_s_rostrumref7_add v90), v91)] (fun W =>
  efK PR (Instr.buildSlice T_s_rostrumref7_add 0 #[]) (fun v87_1 W =>
  stb PR [(5, true, (Instr.loadAt T_s_rostrumref7_add v90), v91)] (fun W =>
  efK PR (Builtin.append_ #[T_s_rostrumref7_add, T_s_rostrumref7_add] T_s_rostrumref7_add #[v87_1, v91]) (fun v92_2 W =>
  efK PR (Builtin.append_ #[T_s_rostrumref7_add, T_s_rostrumref7_add] T_s_rostrumref7_add #[v92_2, v94_2]) (fun v95_2 W =>
  okF (nilP x0) fun v96_2 =>
  okF (addrF 0 v96_2) fun v97_2 =>
  efK PR (Instr.storeAt T_s_rostrumref7_add v97_2 v95_2) (fun _ W =>
  R (.int .i64 0) W) W) W) W) W) W) W) W)) W) (tick W)
def S.rostrumref7_Set_Add.l1 (J2 : List Value → World → Prop) (K1 : List Value → World → Prop) (x0 x2 x4 x8 x9 : Value) (W : World) : Prop :=
  okF (nilP x0) fun v52 =>
  okF (addrF 1 v52) fun v53 =>
  rdK PR (Instr.loadAt T_s_rostrumref7_remove v53) (fun v54 W =>
  okF (lenP (.slice T_rostrumref7_remove) v54) fun v55 =>
  okF (binP .lss x9 v55) fun v56 =>
  ifK v56 (
  okF (addrF 3 x8) fun v59 =>
  rdK PR (Instr.loadAt T_bool v59) (fun v60 W =>
  gdK (wantd v60 false) (fun k W => k x0 W) (fun v62 W =>
  gdK (wantd v60 false) (fun k W => okF (nilP v62) fun v => k v W) (fun v63 W =>
  gdK (wantd v60 false) (fun k W => okF (addrF 1 v63) fun v => k v W) (fun v64 W =>
  gdK (wantd v60 false) (fun k W => rdK PR (Instr.loadAt T_s_rostrumref7_remove v64) k W) (fun v65 W =>
  gdK (wantd v60 false) (fun k W => k x9 W) (fun v66 W =>
  gdK (wantd v60 false) (fun k W => okF (idxS 8 v65 v66) fun v => k v W) (fun v67 W =>
  gdK (wantd v60 false) (fun k W => okF (addrF 0 v67) fun v => k v W) (fun v68 W =>
  gdK (wantd v60 false) (fun k W => rdK PR (Instr.loadAt T_string v68) k W) (fun v69 W =>
  gdK (wantd v60 false) (fun k W => k x2 W) (fun v70 W =>
  gdK (wantd v60 false) (fun k W => okF (binP .eql v69 v70) fun v => k v W) (fun v71 W =>
  gdK (wantd v60 false) (fun k W => k v71 W) (fun v72 W =>
  gdK (wantd v72 true) (fun k W => k x0 W) (fun v73 W =>
  gdK (wantd v72 true) (fun k W => okF (nilP v73) fun v => k v W) (fun v74 W =>
  gdK (wantd v72 true) (fun k W => okF (addrF 1 v74) fun v => k v W) (fun v75 W =>
  gdK (wantd v72 true) (fun k W => rdK PR (Instr.loadAt T_s_rostrumref7_remove v75) k W) (fun v76 W =>
  gdK (wantd v72 true) (fun k W => k x9 W) (fun v77 W =>
  gdK (wantd v72 true) (fun k W => okF (idxS 8 v76 v77) fun v => k v W) (fun v78 W =>
  gdK (wantd v72 true) (fun k W => okF (addrF 1 v78) fun v => k v W) (fun v79 W =>
  gdK (wantd v72 true) (fun k W => rdK PR (Instr.loadAt T_rostrumref7_Vec v79) k W) (fun v80 W =>
  gdK (wantd v72 true) (fun k W => rdK PR (Instr.loadAt T_api_Dot x4) k W) (fun v81 W =>
  gdK (wantd v72 true) (fun k W => callK PR F_rostrumref7_Has [v80, v81] k W) (fun v82 W =>
  gdK (wantd v60 false) (fun k W => okF (pickP v72 v82 (.bool false)) fun v => k v W) (fun v83 W =>
  okF (pickP v60 (.bool true) v83) fun v84 =>
  okF (addrF 3 x8) fun v85 =>
  efK PR (Instr.storeAt T_bool v85 v84) (fun _ W =>
  okF (binP .add x9 (.int .i64 1)) fun v58 =>
  K1 [x0, x2, x4, x8, v58] W) W) W) W) W) W) W) W) W) W) W) W) W) W) W) W) W) W) W) W) W) W) W) W) (tick W)) (
  J2 [x0, x8] W)) W
def S.rostrumref7_Set_Add.j1 (R : Value → World → Prop) (x0 x2 x4 : Value) (W : World) : Prop :=
  rdK PR (Instr.loadAt T_api_Dot x4) (fun v47 W =>
  okF (bldP (fun i => ([(0, 2), (2, 1), (3, 1)] : List (Nat × Nat))[i]?) [.int .i64 0, .int .i64 0, .string ⟨#[]⟩, .bool false] [(0, v47), (1, x2)]) fun v49 =>
  efK PR (Instr.alloc T_rostrumref7_add true (.tuple #[])) (fun v8 W =>
  efK PR (Instr.storeAt T_rostrumref7_add v8 v49) (fun _ W =>
  joinK (fun s W => S.rostrumref7_Set_Add.j2 R (nthv s 0) (nthv s 1) W) (fun J2 =>
  loopK (fun K1 s W => S.rostrumref7_Set_Add.l1 J2 K1 (nthv s 0) (nthv s 1) (nthv s 2) (nthv s 3) (nthv s 4) W) [x0, x2, x4, v8, (.int .i64 0)] W)) W) W) W
def S.rostrumref7_Set_Add.l2 (R : Value → World → Prop) (J1 : List Value → World → Prop) (K2 : List Value → World → Prop) (x0 x2 x4 x7 : Value) (W : World) : Prop :=
  okF (nilP x0) fun v20 =>
  okF (addrF 0 v20) fun v21 =>
  rdK PR (Instr.loadAt T_s_rostrumref7_add v21) (fun v22 W =>
  okF (lenP (.slice T_rostrumref7_add) v22) fun v23 =>
  okF (binP .lss x7 v23) fun v24 =>
  ifK v24 (
  okF (nilP x0) fun v28 =>
  okF (addrF 0 v28) fun v29 =>
  rdK PR (Instr.loadAt T_s_rostrumref7_add v29) (fun v30 W =>
  okF (idxS 4 v30 x7) fun v32 =>
  okF (addrF 0 v32) fun v33 =>
  rdK PR (Instr.loadAt T_api_Dot v33) (fun v34 W =>
  rdK PR (Instr.loadAt T_api_Dot x4) (fun v35 W =>
  rdK PR (aggEq .eql T_api_Dot v34 v35) (fun v36 W =>
  ifK v36 (
  okF (nilP x0) fun v38 =>
  okF (addrF 0 v38) fun v39 =>
  rdK PR (Instr.loadAt T_s_rostrumref7_add v39) (fun v40 W =>
  okF (idxS 4 v40 x7) fun v42 =>
  okF (addrF 2 v42) fun v43 =>
  rdK PR (Instr.loadAt T_string v43) (fun v44 W =>
  okF (binP .neq v44 x2) fun v46 =>
  ifK v46 (
  R (.int .i64 5) W) (
  R (.int .i64 0) W)) W) W) (
  okF (binP .add x7 (.int .i64 1)) fun v26 =>
  K2 [x0, x2, x4, v26] W)) W) W) W) (tick W)) (
  J1 [x0, x2, x4] W)) W
def S.rostrumref7_Set_Add.body (R : Value → World → Prop) (v0 v1 v2 : Value) (W : World) : Prop :=
  efK PR (Instr.box T_api_Dot v1) (fun v4 W =>
  rdK PR (Instr.loadAt T_api_Dot v4) (fun v10 W =>
  callK PR F_rostrumref7_May [v10] (fun v11 W =>
  okF (unP .not v11) fun v12 =>
  gdK (wantd v12 false) (fun k W => k v2 W) (fun v14 W =>
  gdK (wantd v12 false) (fun k W => okF (lenP .string v14) fun v => k v W) (fun v15 W =>
  gdK (wantd v12 false) (fun k W => okF (binP .gtr v15 (.int .i64 100)) fun v => k v W) (fun v16 W =>
  okF (pickP v12 (.bool true) v16) fun v17 =>
  ifK v17 (
  R (.int .i64 1) W) (
  joinK (fun s W => S.rostrumref7_Set_Add.j1 R (nthv s 0) (nthv s 1) (nthv s 2) W) (fun J1 =>
  loopK (fun K2 s W => S.rostrumref7_Set_Add.l2 R J1 K2 (nthv s 0) (nthv s 1) (nthv s 2) (nthv s 3) W) [v0, v2, v4, (.int .i64 0)] W))) W) W) W) W) W) W
def S.rostrumref7_Set_Add.hint : Hint := (.two .nil (.two (.two .nil (.two (.two .nil .nil) .nil)) (.at [0, 2, 4] (.two .nil (.at [0, 2, 4, 7] (.two (.two .nil (.two .nil .nil)) (.two (.two .nil (.two (.two (.two .nil (.two (.two .nil .nil) .nil)) (.two .nil .nil)) .nil)) .nil)) .nil)) (.two .nil (.at [0, 8] (.two .nil (.at [0, 2, 4, 8, 9] (.two (.two .nil (.two .nil .nil)) (.two .nil .nil)) .nil)) (.two .nil (.two .nil .nil)))))))
theorem S.rostrumref7_Set_Add.ok (R : Value → World → Prop) (v0 v1 v2 : Value) (W : World) : bodyK PR CB Try.f16 S.rostrumref7_Set_Add.hint [v0, v1, v2] R W = S.rostrumref7_Set_Add.body R v0 v1 v2 W := by kernel_rfl
theorem S.rostrumref7_Set_Add.fn : PR.funcs[F_rostrumref7_Set_Add]? = some Try.f16 := by kernel_rfl
theorem S.rostrumref7_Set_Add.call {R : Value → World → Prop} {v0 v1 v2 : Value} {W : World} (h : S.rostrumref7_Set_Add.body R v0 v1 v2 W) : callK PR F_rostrumref7_Set_Add [v0, v1, v2] R W :=
  callK_of_body (g := F_rostrumref7_Set_Add) (fn := Try.f16) (args := [v0, v1, v2]) (R := R) (w := W) mixed CBok S.rostrumref7_Set_Add.fn S.rostrumref7_Set_Add.hint (by rw [S.rostrumref7_Set_Add.ok]; exact h)
/-! ### (*rostrum/rostrumref7.Set).Remove (17) -/
def S.rostrumref7_Set_Remove.j2 (R : Value → World → Prop) (x0 x7 : Value) (W : World) : Prop :=
  okF (nilP x0) fun v72 =>
  okF (addrF 0 v72) fun v73 =>
  efK PR (Instr.storeAt T_s_rostrumref7_add v73 x7) (fun _ W =>
  R (.int .i64 0) W) W
def S.rostrumref7_Set_Remove.l1 (J2 : List Value → World → Prop) (K1 : List Value → World → Prop) (x0 x1 x5 x7 x8 : Value) (W : World) : Prop :=
  okF (lenP (.slice T_rostrumref7_add) x7) fun v39 =>
  okF (binP .lss x8 v39) fun v40 =>
  ifK v40 (
  okF (idxS 4 x7 x8) fun v47 =>
  okF (addrF 3 v47) fun v48 =>
  rdK PR (Instr.loadAt T_bool v48) (fun v49 W =>
  gdK (wantd v49 false) (fun k W => k x7 W) (fun v51 W =>
  gdK (wantd v49 false) (fun k W => k x8 W) (fun v52 W =>
  gdK (wantd v49 false) (fun k W => okF (idxS 4 v51 v52) fun v => k v W) (fun v53 W =>
  gdK (wantd v49 false) (fun k W => okF (addrF 2 v53) fun v => k v W) (fun v54 W =>
  gdK (wantd v49 false) (fun k W => rdK PR (Instr.loadAt T_string v54) k W) (fun v55 W =>
  gdK (wantd v49 false) (fun k W => k x1 W) (fun v56 W =>
  gdK (wantd v49 false) (fun k W => okF (binP .eql v55 v56) fun v => k v W) (fun v57 W =>
  gdK (wantd v49 false) (fun k W => k v57 W) (fun v58 W =>
  gdK (wantd v58 true) (fun k W => rdK PR (Instr.loadAt T_rostrumref7_Vec x5) k W) (fun v59 W =>
  gdK (wantd v58 true) (fun k W => k x7 W) (fun v60 W =>
  gdK (wantd v58 true) (fun k W => k x8 W) (fun v61 W =>
  gdK (wantd v58 true) (fun k W => okF (idxS 4 v60 v61) fun v => k v W) (fun v62 W =>
  gdK (wantd v58 true) (fun k W => okF (addrF 0 v62) fun v => k v W) (fun v63 W =>
  gdK (wantd v58 true) (fun k W => rdK PR (Instr.loadAt T_api_Dot v63) k W) (fun v64 W =>
  gdK (wantd v58 true) (fun k W => callK PR F_rostrumref7_Has [v59, v64] k W) (fun v65 W =>
  gdK (wantd v49 false) (fun k W => okF (pickP v58 v65 (.bool false)) fun v => k v W) (fun v66 W =>
  okF (pickP v49 (.bool true) v66) fun v67 =>
  okF (idxS 4 x7 x8) fun v68 =>
  okF (addrF 3 v68) fun v69 =>
  efK PR (Instr.storeAt T_bool v69 v67) (fun _ W =>
  okF (binP .add x8 (.int .i64 1)) fun v42 =>
  K1 [x0, x1, x5, x7, v42] W) W) W) W) W) W) W) W) W) W) W) W) W) W) W) W) W) W) (tick W)) (
  J2 [x0, x7] W)
def S.rostrumref7_Set_Remove.j1 (R : Value → World → Prop) (x0 x1 x5 : Value) (W : World) : Prop :=
  efK PR (Instr.buildSlice T_s_rostrumref7_add 0 #[]) (fun v31 W =>
  okF (nilP x0) fun v33 =>
  okF (addrF 0 v33) fun v34 =>
  rdK PR (Instr.loadAt T_s_rostrumref7_add v34) (fun v35 W =>
  efK PR (Builtin.append_ #[T_s_rostrumref7_add, T_s_rostrumref7_add] T_s_rostrumref7_add #[v31, v35]) (fun v36 W =>
  joinK (fun s W => S.rostrumref7_Set_Remove.j2 R (nthv s 0) (nthv s 1) W) (fun J2 =>
  loopK (fun K1 s W => S.rostrumref7_Set_Remove.l1 J2 K1 (nthv s 0) (nthv s 1) (nthv s 2) (nthv s 3) (nthv s 4) W) [x0, x1, x5, v36, (.int .i64 0)] W)) W) W) W
def S.rostrumref7_Set_Remove.body (R : Value → World → Prop) (v0 v1 v2 : Value) (W : World) : Prop :=
  efK PR (Instr.box T_rostrumref7_Vec v2) (fun v5 W =>
  okF (lenP .string v1) fun v10 =>
  okF (binP .gtr v10 (.int .i64 100)) fun v11 =>
  gdK (wantd v11 false) (fun k W => rdK PR (Instr.loadAt T_rostrumref7_Vec v5) k W) (fun v13 W =>
  gdK (wantd v11 false) (fun k W => callK PR F_rostrumref7_Good [v13] k W) (fun v14 W =>
  gdK (wantd v11 false) (fun k W => okF (unP .not v14) fun v => k v W) (fun v15 W =>
  okF (pickP v11 (.bool true) v15) fun v16 =>
  ifK v16 (
  R (.int .i64 1) W) (
  joinK (fun s W => S.rostrumref7_Set_Remove.j1 R (nthv s 0) (nthv s 1) (nthv s 2) W) (fun J1 =>
  okF (nilP v0) fun v20 =>
  okF (addrF 1 v20) fun v21 =>
  rdK PR (Instr.loadAt T_s_rostrumref7_remove v21) (fun v22 W =>
  rdK PR (Instr.loadAt T_rostrumref7_Vec v5) (fun v25 W =>
  okF (bldP (fun i => ([(0, 1), (1, 7)] : List (Nat × Nat))[i]?) [.string ⟨#[]⟩, .int .i64 0, .int .i64 0, .int .i64 0, .int .i64 0, .int .i64 0, .int .i64 0, .int .i64 0] [(0, v1), (1, v25)]) fun v26 =>
  (efK PR (Instr.buildSlice T_s_rostrumref7_remove 0 #[]) (fun v18 W =>
  stb PR [(8, true, (Instr.loadAt T_rostrumref7_Vec v5), v25), (5, true, (Instr.loadAt T_s_rostrumref7_remove v21), v22)] (fun W =>
  (efK PR (Builtin.append_ #[T_s_rostrumref7_remove, T_s_rostrumref7_remove] T_s_rostrumref7_remove #[v18, v22]) (fun v23 W =>
  stb PR [(8, true, (Instr.loadAt T_rostrumref7_Vec v5), v25)] (fun W =>
  efK PR (Instr.buildSlice T_s_rostrumref7_remove 1 #[(0, v26)]) (fun v27 W =>
  efK PR (Builtin.append_ #[T_s_rostrumref7_remove, T_s_rostrumref7_remove] T_s_rostrumref7_remove #[v23, v27]) (fun v28 W =>
  okF (nilP v0) fun v29 =>
  okF (addrF 1 v29) fun v30 =>
  efK PR (Instr.storeAt T_s_rostrumref7_remove v30 v28) (fun _ W =>
  J1 [v0, v1, v5] W) W) W) W) W) W) ∧ (efK PR (Instr.buildSlice T_s_rostrumref7_remove 1 #[(0, v26)]) (fun v27_1 W =>
  stb PR [(5, true, (Instr.loadAt T_s_rostrumref7_remove v21), v22)] (fun W =>
  efK PR (Builtin.append_ #[T_s_rostrumref7_remove, T_s_rostrumref7_remove] T_s_rostrumref7_remove #[v18, v22]) (fun v23_1 W =>
  efK PR (Builtin.append_ #[T_s_rostrumref7_remove, T_s_rostrumref7_remove] T_s_rostrumref7_remove #[v23_1, v27_1]) (fun v28_1 W =>
  okF (nilP v0) fun v29_1 =>
  okF (addrF 1 v29_1) fun v30_1 =>
  efK PR (Instr.storeAt T_s_rostrumref7_remove v30_1 v28_1) (fun _ W =>
  J1 [v0, v1, v5] W) W) W) W) W) W)) W) W) ∧ (efK PR (Instr.buildSlice T_s_rostrumref7_remove 1 #[(0, v26)]) (fun v27_2 W =>
  stb PR [(5, true, (Instr.loadAt T_s_rostrumref7_remove v21), v22)] (fun W =>
  efK PR (Instr.buildSlice T_s_rostrumref7_remove 0 #[]) (fun v18_1 W =>
  stb PR [(5, true, (Instr.loadAt T_s_rostrumref7_remove v21), v22)] (fun W =>
  efK PR (Builtin.append_ #[T_s_rostrumref7_remove, T_s_rostrumref7_remove] T_s_rostrumref7_remove #[v18_1, v22]) (fun v23_2 W =>
  efK PR (Builtin.append_ #[T_s_rostrumref7_remove, T_s_rostrumref7_remove] T_s_rostrumref7_remove #[v23_2, v27_2]) (fun v28_2 W =>
  okF (nilP v0) fun v29_2 =>
  okF (addrF 1 v29_2) fun v30_2 =>
  efK PR (Instr.storeAt T_s_rostrumref7_remove v30_2 v28_2) (fun _ W =>
  J1 [v0, v1, v5] W) W) W) W) W) W) W) W)) W) (tick W)))) W) W) W) W
def S.rostrumref7_Set_Remove.hint : Hint := (.two .nil (.two (.two .nil (.two (.two .nil .nil) .nil)) (.at [0, 1, 5] .nil (.two .nil (.at [0, 7] (.two .nil (.at [0, 1, 5, 7, 8] (.two (.two .nil (.two .nil .nil)) (.two .nil .nil)) .nil)) (.two .nil (.two .nil .nil)))))))
theorem S.rostrumref7_Set_Remove.ok (R : Value → World → Prop) (v0 v1 v2 : Value) (W : World) : bodyK PR CB Try.f17 S.rostrumref7_Set_Remove.hint [v0, v1, v2] R W = S.rostrumref7_Set_Remove.body R v0 v1 v2 W := by kernel_rfl
theorem S.rostrumref7_Set_Remove.fn : PR.funcs[F_rostrumref7_Set_Remove]? = some Try.f17 := by kernel_rfl
theorem S.rostrumref7_Set_Remove.call {R : Value → World → Prop} {v0 v1 v2 : Value} {W : World} (h : S.rostrumref7_Set_Remove.body R v0 v1 v2 W) : callK PR F_rostrumref7_Set_Remove [v0, v1, v2] R W :=
  callK_of_body (g := F_rostrumref7_Set_Remove) (fn := Try.f17) (args := [v0, v1, v2]) (R := R) (w := W) mixed CBok S.rostrumref7_Set_Remove.fn S.rostrumref7_Set_Remove.hint (by rw [S.rostrumref7_Set_Remove.ok]; exact h)
/-! ### (*rostrum/rostrumref7.Set).All (20) -/
def S.rostrumref7_Set_All.j1 (R : Value → World → Prop) (x3 : Value) (W : World) : Prop :=
  R x3 W
def S.rostrumref7_Set_All.j2 (K1 : List Value → World → Prop) (x0 x3 x4 : Value) (W : World) : Prop :=
  okF (binP .add x4 (.int .i64 1)) fun v14 =>
  K1 [x0, x3, v14] W
def S.rostrumref7_Set_All.j3 (J2 : List Value → World → Prop) (x0 x3 x4 x5 : Value) (W : World) : Prop :=
  okF (lenP (.slice T_string) x3) fun v46 =>
  okF (binP .lss x5 v46) fun v47 =>
  gdK (wantd v47 true) (fun k W => k x3 W) (fun v49 W =>
  gdK (wantd v47 true) (fun k W => k x5 W) (fun v50 W =>
  gdK (wantd v47 true) (fun k W => okF (idxS 1 v49 v50) fun v => k v W) (fun v51 W =>
  gdK (wantd v47 true) (fun k W => rdK PR (Instr.loadAt T_string v51) k W) (fun v52 W =>
  gdK (wantd v47 true) (fun k W => k x0 W) (fun v53 W =>
  gdK (wantd v47 true) (fun k W => okF (nilP v53) fun v => k v W) (fun v54 W =>
  gdK (wantd v47 true) (fun k W => okF (addrF 0 v54) fun v => k v W) (fun v55 W =>
  gdK (wantd v47 true) (fun k W => rdK PR (Instr.loadAt T_s_rostrumref7_add v55) k W) (fun v56 W =>
  gdK (wantd v47 true) (fun k W => k x4 W) (fun v57 W =>
  gdK (wantd v47 true) (fun k W => okF (idxS 4 v56 v57) fun v => k v W) (fun v58 W =>
  gdK (wantd v47 true) (fun k W => okF (addrF 2 v58) fun v => k v W) (fun v59 W =>
  gdK (wantd v47 true) (fun k W => rdK PR (Instr.loadAt T_string v59) k W) (fun v60 W =>
  gdK (wantd v47 true) (fun k W => okF (binP .eql v52 v60) fun v => k v W) (fun v61 W =>
  okF (pickP v47 v61 (.bool false)) fun v62 =>
  ifK v62 (
  J2 [x0, x3, x4] W) (
  okF (slcS 1 x3 none (some x5) none) fun v66 =>
  okF (nilP x0) fun v69 =>
  okF (addrF 0 v69) fun v70 =>
  rdK PR (Instr.loadAt T_s_rostrumref7_add v70) (fun v71 W =>
  okF (idxS 4 v71 x4) fun v73 =>
  okF (addrF 2 v73) fun v74 =>
  rdK PR (Instr.loadAt T_string v74) (fun v75 W =>
  okF (slcS 1 x3 (some x5) none none) fun v80 =>
  (efK PR (Instr.buildSlice T_s_string 0 #[]) (fun v63 W =>
  stb PR [(12, true, (Instr.loadAt T_string v74), v75), (8, true, (Instr.loadAt T_s_rostrumref7_add v70), v71)] (fun W =>
  (efK PR (Builtin.append_ #[T_s_string, T_s_string] T_s_string #[v63, v66]) (fun v67 W =>
  stb PR [(12, true, (Instr.loadAt T_string v74), v75), (8, true, (Instr.loadAt T_s_rostrumref7_add v70), v71)] (fun W =>
  efK PR (Instr.buildSlice T_s_string 1 #[(0, v75)]) (fun v76 W =>
  efK PR (Builtin.append_ #[T_s_string, T_s_string] T_s_string #[v67, v76]) (fun v77 W =>
  efK PR (Builtin.append_ #[T_s_string, T_s_string] T_s_string #[v77, v80]) (fun v81 W =>
  J2 [x0, v81, x4] W) W) W) W) W) W) ∧ (efK PR (Instr.buildSlice T_s_string 1 #[(0, v75)]) (fun v76_1 W =>
  efK PR (Builtin.append_ #[T_s_string, T_s_string] T_s_string #[v63, v66]) (fun v67_1 W =>
  efK PR (Builtin.append_ #[T_s_string, T_s_string] T_s_string #[v67_1, v76_1]) (fun v77_1 W =>
  efK PR (Builtin.append_ #[T_s_string, T_s_string] T_s_string #[v77_1, v80]) (fun v81_1 W =>
  J2 [x0, v81_1, x4] W) W) W) W) W)) W) W) ∧ (efK PR (Instr.buildSlice T_s_string 1 #[(0, v75)]) (fun v76_2 W =>
  efK PR (Instr.buildSlice T_s_string 0 #[]) (fun v63_1 W =>
  efK PR (Builtin.append_ #[T_s_string, T_s_string] T_s_string #[v63_1, v66]) (fun v67_2 W =>
  efK PR (Builtin.append_ #[T_s_string, T_s_string] T_s_string #[v67_2, v76_2]) (fun v77_2 W =>
  efK PR (Builtin.append_ #[T_s_string, T_s_string] T_s_string #[v77_2, v80]) (fun v81_2 W =>
  J2 [x0, v81_2, x4] W) W) W) W) W) W)) W) (tick W))) W) W) W) W) W) W) W) W) W) W) W) W) (tick W)
def S.rostrumref7_Set_All.l2 (J3 : List Value → World → Prop) (K2 : List Value → World → Prop) (x0 x3 x4 x5 : Value) (W : World) : Prop :=
  okF (lenP (.slice T_string) x3) fun v25 =>
  okF (binP .lss x5 v25) fun v26 =>
  gdK (wantd v26 true) (fun k W => k x3 W) (fun v28 W =>
  gdK (wantd v26 true) (fun k W => k x5 W) (fun v29 W =>
  gdK (wantd v26 true) (fun k W => okF (idxS 1 v28 v29) fun v => k v W) (fun v30 W =>
  gdK (wantd v26 true) (fun k W => rdK PR (Instr.loadAt T_string v30) k W) (fun v31 W =>
  gdK (wantd v26 true) (fun k W => k x0 W) (fun v32 W =>
  gdK (wantd v26 true) (fun k W => okF (nilP v32) fun v => k v W) (fun v33 W =>
  gdK (wantd v26 true) (fun k W => okF (addrF 0 v33) fun v => k v W) (fun v34 W =>
  gdK (wantd v26 true) (fun k W => rdK PR (Instr.loadAt T_s_rostrumref7_add v34) k W) (fun v35 W =>
  gdK (wantd v26 true) (fun k W => k x4 W) (fun v36 W =>
  gdK (wantd v26 true) (fun k W => okF (idxS 4 v35 v36) fun v => k v W) (fun v37 W =>
  gdK (wantd v26 true) (fun k W => okF (addrF 2 v37) fun v => k v W) (fun v38 W =>
  gdK (wantd v26 true) (fun k W => rdK PR (Instr.loadAt T_string v38) k W) (fun v39 W =>
  gdK (wantd v26 true) (fun k W => okF (binP .lss v31 v39) fun v => k v W) (fun v40 W =>
  okF (pickP v26 v40 (.bool false)) fun v41 =>
  ifK v41 (
  okF (binP .add x5 (.int .i64 1)) fun v43 =>
  K2 [x0, x3, x4, v43] W) (
  J3 [x0, x3, x4, x5] W)) W) W) W) W) W) W) W) W) W) W) W) W) (tick W)
def S.rostrumref7_Set_All.l1 (J1 : List Value → World → Prop) (K1 : List Value → World → Prop) (x0 x3 x4 : Value) (W : World) : Prop :=
  okF (nilP x0) fun v8 =>
  okF (addrF 0 v8) fun v9 =>
  rdK PR (Instr.loadAt T_s_rostrumref7_add v9) (fun v10 W =>
  okF (lenP (.slice T_rostrumref7_add) v10) fun v11 =>
  okF (binP .lss x4 v11) fun v12 =>
  ifK v12 (
  joinK (fun s W => S.rostrumref7_Set_All.j2 K1 (nthv s 0) (nthv s 1) (nthv s 2) W) (fun J2 =>
  okF (nilP x0) fun v16 =>
  okF (addrF 0 v16) fun v17 =>
  rdK PR (Instr.loadAt T_s_rostrumref7_add v17) (fun v18 W =>
  okF (idxS 4 v18 x4) fun v20 =>
  okF (addrF 3 v20) fun v21 =>
  rdK PR (Instr.loadAt T_bool v21) (fun v22 W =>
  ifK v22 (
  J2 [x0, x3, x4] W) (
  joinK (fun s W => S.rostrumref7_Set_All.j3 J2 (nthv s 0) (nthv s 1) (nthv s 2) (nthv s 3) W) (fun J3 =>
  loopK (fun K2 s W => S.rostrumref7_Set_All.l2 J3 K2 (nthv s 0) (nthv s 1) (nthv s 2) (nthv s 3) W) [x0, x3, x4, (.int .i64 0)] W))) W) W)) (
  J1 [x3] W)) W
def S.rostrumref7_Set_All.body (R : Value → World → Prop) (v0 : Value) (W : World) : Prop :=
  joinK (fun s W => S.rostrumref7_Set_All.j1 R (nthv s 0) W) (fun J1 =>
  loopK (fun K1 s W => S.rostrumref7_Set_All.l1 J1 K1 (nthv s 0) (nthv s 1) (nthv s 2) W) [v0, (.slice none 0 0), (.int .i64 0)] W)
def S.rostrumref7_Set_All.hint : Hint := (.two .nil (.two .nil (.at [3] (.two .nil (.at [0, 3, 4] (.two (.two .nil (.two .nil .nil)) (.at [0, 3, 4] (.two (.two .nil (.two .nil .nil)) (.two .nil (.at [0, 3, 4, 5] (.at [0, 3, 4, 5] (.two (.two .nil (.two .nil .nil)) .nil) .nil) (.two (.two .nil (.two .nil .nil)) .nil)))) .nil)) .nil)) (.two .nil .nil))))
theorem S.rostrumref7_Set_All.ok (R : Value → World → Prop) (v0 : Value) (W : World) : bodyK PR CB Try.f20 S.rostrumref7_Set_All.hint [v0] R W = S.rostrumref7_Set_All.body R v0 W := by kernel_rfl
theorem S.rostrumref7_Set_All.fn : PR.funcs[F_rostrumref7_Set_All]? = some Try.f20 := by kernel_rfl
theorem S.rostrumref7_Set_All.call {R : Value → World → Prop} {v0 : Value} {W : World} (h : S.rostrumref7_Set_All.body R v0 W) : callK PR F_rostrumref7_Set_All [v0] R W :=
  callK_of_body (g := F_rostrumref7_Set_All) (fn := Try.f20) (args := [v0]) (R := R) (w := W) mixed CBok S.rostrumref7_Set_All.fn S.rostrumref7_Set_All.hint (by rw [S.rostrumref7_Set_All.ok]; exact h)
/-! ### (*rostrum/rostrumref7.Set).Dots (23) -/
def S.rostrumref7_Set_Dots.j1 (R : Value → World → Prop) (x5 : Value) (W : World) : Prop :=
  R x5 W
def S.rostrumref7_Set_Dots.j2 (K1 : List Value → World → Prop) (x0 x1 x5 x6 : Value) (W : World) : Prop :=
  okF (binP .add x6 (.int .i64 1)) fun v15 =>
  K1 [x0, x1, x5, v15] W
def S.rostrumref7_Set_Dots.l1 (J1 : List Value → World → Prop) (K1 : List Value → World → Prop) (x0 x1 x5 x6 : Value) (W : World) : Prop :=
  okF (nilP x0) fun v9 =>
  okF (addrF 0 v9) fun v10 =>
  rdK PR (Instr.loadAt T_s_rostrumref7_add v10) (fun v11 W =>
  okF (lenP (.slice T_rostrumref7_add) v11) fun v12 =>
  okF (binP .lss x6 v12) fun v13 =>
  ifK v13 (
  joinK (fun s W => S.rostrumref7_Set_Dots.j2 K1 (nthv s 0) (nthv s 1) (nthv s 2) (nthv s 3) W) (fun J2 =>
  okF (nilP x0) fun v17 =>
  okF (addrF 0 v17) fun v18 =>
  rdK PR (Instr.loadAt T_s_rostrumref7_add v18) (fun v19 W =>
  okF (idxS 4 v19 x6) fun v21 =>
  okF (addrF 2 v21) fun v22 =>
  rdK PR (Instr.loadAt T_string v22) (fun v23 W =>
  okF (binP .eql v23 x1) fun v25 =>
  gdK (wantd v25 true) (fun k W => k x0 W) (fun v27 W =>
  gdK (wantd v25 true) (fun k W => okF (nilP v27) fun v => k v W) (fun v28 W =>
  gdK (wantd v25 true) (fun k W => okF (addrF 0 v28) fun v => k v W) (fun v29 W =>
  gdK (wantd v25 true) (fun k W => rdK PR (Instr.loadAt T_s_rostrumref7_add v29) k W) (fun v30 W =>
  gdK (wantd v25 true) (fun k W => k x6 W) (fun v31 W =>
  gdK (wantd v25 true) (fun k W => okF (idxS 4 v30 v31) fun v => k v W) (fun v32 W =>
  gdK (wantd v25 true) (fun k W => okF (addrF 3 v32) fun v => k v W) (fun v33 W =>
  gdK (wantd v25 true) (fun k W => rdK PR (Instr.loadAt T_bool v33) k W) (fun v34 W =>
  gdK (wantd v25 true) (fun k W => okF (unP .not v34) fun v => k v W) (fun v35 W =>
  okF (pickP v25 v35 (.bool false)) fun v36 =>
  ifK v36 (
  okF (nilP x0) fun v39 =>
  okF (addrF 0 v39) fun v40 =>
  rdK PR (Instr.loadAt T_s_rostrumref7_add v40) (fun v41 W =>
  okF (idxS 4 v41 x6) fun v43 =>
  okF (addrF 0 v43) fun v44 =>
  rdK PR (Instr.loadAt T_api_Dot v44) (fun v45 W =>
  callK PR F_rostrumref7_insert [x5, v45] (fun v46 W =>
  J2 [x0, x1, v46, x6] W) W) W) W) (
  J2 [x0, x1, x5, x6] W)) W) W) W) W) W) W) W) W) W) W) W)) (
  J1 [x5] W)) W
def S.rostrumref7_Set_Dots.body (R : Value → World → Prop) (v0 v1 : Value) (W : World) : Prop :=
  joinK (fun s W => S.rostrumref7_Set_Dots.j1 R (nthv s 0) W) (fun J1 =>
  loopK (fun K1 s W => S.rostrumref7_Set_Dots.l1 J1 K1 (nthv s 0) (nthv s 1) (nthv s 2) (nthv s 3) W) [v0, v1, (.slice none 0 0), (.int .i64 0)] W)
def S.rostrumref7_Set_Dots.hint : Hint := (.two .nil (.two .nil (.at [5] (.two .nil (.at [0, 1, 5, 6] (.two (.two .nil (.two .nil .nil)) (.at [0, 1, 5, 6] (.two .nil (.two .nil .nil)) .nil)) .nil)) (.two .nil .nil))))
theorem S.rostrumref7_Set_Dots.ok (R : Value → World → Prop) (v0 v1 : Value) (W : World) : bodyK PR CB Try.f23 S.rostrumref7_Set_Dots.hint [v0, v1] R W = S.rostrumref7_Set_Dots.body R v0 v1 W := by kernel_rfl
theorem S.rostrumref7_Set_Dots.fn : PR.funcs[F_rostrumref7_Set_Dots]? = some Try.f23 := by kernel_rfl
theorem S.rostrumref7_Set_Dots.call {R : Value → World → Prop} {v0 v1 : Value} {W : World} (h : S.rostrumref7_Set_Dots.body R v0 v1 W) : callK PR F_rostrumref7_Set_Dots [v0, v1] R W :=
  callK_of_body (g := F_rostrumref7_Set_Dots) (fn := Try.f23) (args := [v0, v1]) (R := R) (w := W) mixed CBok S.rostrumref7_Set_Dots.fn S.rostrumref7_Set_Dots.hint (by rw [S.rostrumref7_Set_Dots.ok]; exact h)
/-! ### (*rostrum/rostrumref7.Set).Put (25) -/
def S.rostrumref7_Set_Put.j1 (R : Value → World → Prop) (x1 : Value) (W : World) : Prop :=
  R x1 W
def S.rostrumref7_Set_Put.j2 (K1 : List Value → World → Prop) (x0 x1 x5 x6 : Value) (W : World) : Prop :=
  okF (binP .add x6 (.int .i64 1)) fun v20 =>
  K1 [x0, x1, x5, v20] W
def S.rostrumref7_Set_Put.l2 (J2 : List Value → World → Prop) (K2 : List Value → World → Prop) (x0 x1 x5 x6 x7 x8 : Value) (W : World) : Prop :=
  okF (lenP (.slice T_api_Dot) x7) fun v39 =>
  okF (binP .lss x8 v39) fun v40 =>
  ifK v40 (
  okF (idxS 2 x7 x8) fun v46 =>
  okF (addrF 0 v46) fun v47 =>
  rdK PR (Instr.loadAt T_int v47) (fun v48 W =>
  okF (idxS 2 x7 x8) fun v52 =>
  okF (addrF 1 v52) fun v53 =>
  rdK PR (Instr.loadAt T_int64 v53) (fun v54 W =>
  callK PR F_rostrumref1_Num [x1, v48] (fun v49 W =>
  stb PR [(11, true, (Instr.loadAt T_int64 v53), v54)] (fun W =>
  callK PR F_rostrumref1_Num [v49, v54] (fun v55 W =>
  okF (binP .add x8 (.int .i64 1)) fun v42 =>
  K2 [x0, v55, x5, x6, x7, v42] W) W) W) W) W) (tick W)) (
  J2 [x0, x1, x5, x6] W)
def S.rostrumref7_Set_Put.l1 (J1 : List Value → World → Prop) (K1 : List Value → World → Prop) (x0 x1 x5 x6 : Value) (W : World) : Prop :=
  okF (lenP (.slice T_string) x5) fun v17 =>
  okF (binP .lss x6 v17) fun v18 =>
  ifK v18 (
  joinK (fun s W => S.rostrumref7_Set_Put.j2 K1 (nthv s 0) (nthv s 1) (nthv s 2) (nthv s 3) W) (fun J2 =>
  okF (idxS 1 x5 x6) fun v24 =>
  rdK PR (Instr.loadAt T_string v24) (fun v25 W =>
  callK PR F_rostrumref7_Set_Dots [x0, v25] (fun v26 W =>
  okF (idxS 1 x5 x6) fun v30 =>
  rdK PR (Instr.loadAt T_string v30) (fun v31 W =>
  efK PR (convert T_string T_s_uint8 v31) (fun v32 W =>
  callK PR F_rostrumref1_Bytes [x1, v32] (fun v33 W =>
  okF (lenP (.slice T_api_Dot) v26) fun v35 =>
  callK PR F_rostrumref1_Num [v33, v35] (fun v36 W =>
  loopK (fun K2 s W => S.rostrumref7_Set_Put.l2 J2 K2 (nthv s 0) (nthv s 1) (nthv s 2) (nthv s 3) (nthv s 4) (nthv s 5) W) [x0, v36, x5, x6, v26, (.int .i64 0)] W) W) W) W) W) W) W)) (
  J1 [x1] W)
def S.rostrumref7_Set_Put.body (R : Value → World → Prop) (v0 v1 : Value) (W : World) : Prop :=
  callK PR F_rostrumref7_Set_All [v0] (fun v10 W =>
  okF (lenP (.slice T_string) v10) fun v13 =>
  callK PR F_rostrumref1_Num [v1, v13] (fun v14 W =>
  joinK (fun s W => S.rostrumref7_Set_Put.j1 R (nthv s 0) W) (fun J1 =>
  loopK (fun K1 s W => S.rostrumref7_Set_Put.l1 J1 K1 (nthv s 0) (nthv s 1) (nthv s 2) (nthv s 3) W) [v0, v14, v10, (.int .i64 0)] W)) W) W
def S.rostrumref7_Set_Put.hint : Hint := (.two .nil (.two .nil (.two .nil (.at [1] (.two .nil (.at [0, 1, 5, 6] (.two (.two .nil (.two .nil .nil)) (.at [0, 1, 5, 6] (.two .nil (.two .nil (.two .nil (.at [0, 1, 5, 6, 7, 8] (.two (.two .nil (.two .nil .nil)) (.two .nil .nil)) .nil)))) .nil)) .nil)) (.two .nil .nil)))))
theorem S.rostrumref7_Set_Put.ok (R : Value → World → Prop) (v0 v1 : Value) (W : World) : bodyK PR CB Try.f25 S.rostrumref7_Set_Put.hint [v0, v1] R W = S.rostrumref7_Set_Put.body R v0 v1 W := by kernel_rfl
theorem S.rostrumref7_Set_Put.fn : PR.funcs[F_rostrumref7_Set_Put]? = some Try.f25 := by kernel_rfl
theorem S.rostrumref7_Set_Put.call {R : Value → World → Prop} {v0 v1 : Value} {W : World} (h : S.rostrumref7_Set_Put.body R v0 v1 W) : callK PR F_rostrumref7_Set_Put [v0, v1] R W :=
  callK_of_body (g := F_rostrumref7_Set_Put) (fn := Try.f25) (args := [v0, v1]) (R := R) (w := W) mixed CBok S.rostrumref7_Set_Put.fn S.rostrumref7_Set_Put.hint (by rw [S.rostrumref7_Set_Put.ok]; exact h)
/-! ### rostrum/rostrumref7.SameDots (39) -/
def S.rostrumref7_SameDots.l1 (R : Value → World → Prop) (K1 : List Value → World → Prop) (x0 x1 x5 : Value) (W : World) : Prop :=
  okF (lenP (.slice T_api_Dot) x0) fun v13 =>
  okF (binP .lss x5 v13) fun v14 =>
  ifK v14 (
  okF (idxS 2 x0 x5) fun v19 =>
  rdK PR (Instr.loadAt T_api_Dot v19) (fun v20 W =>
  okF (idxS 2 x1 x5) fun v23 =>
  rdK PR (Instr.loadAt T_api_Dot v23) (fun v24 W =>
  rdK PR (aggEq .neq T_api_Dot v20 v24) (fun v25 W =>
  ifK v25 (
  R (.bool false) W) (
  okF (binP .add x5 (.int .i64 1)) fun v16 =>
  K1 [x0, x1, v16] W)) W) W) (tick W)) (
  R (.bool true) W)
def S.rostrumref7_SameDots.body (R : Value → World → Prop) (v0 v1 : Value) (W : World) : Prop :=
  okF (lenP (.slice T_api_Dot) v0) fun v7 =>
  okF (lenP (.slice T_api_Dot) v1) fun v9 =>
  okF (binP .neq v7 v9) fun v10 =>
  ifK v10 (
  R (.bool false) W) (
  loopK (fun K1 s W => S.rostrumref7_SameDots.l1 R K1 (nthv s 0) (nthv s 1) (nthv s 2) W) [v0, v1, (.int .i64 0)] W)
def S.rostrumref7_SameDots.hint : Hint := (.two .nil (.two (.two .nil (.two (.two .nil .nil) .nil)) (.two (.two .nil (.at [0, 1, 5] (.two (.two .nil (.two .nil .nil)) (.two (.two .nil (.two (.two .nil .nil) .nil)) .nil)) .nil)) (.two .nil .nil))))
theorem S.rostrumref7_SameDots.ok (R : Value → World → Prop) (v0 v1 : Value) (W : World) : bodyK PR CB Try.f39 S.rostrumref7_SameDots.hint [v0, v1] R W = S.rostrumref7_SameDots.body R v0 v1 W := by kernel_rfl
theorem S.rostrumref7_SameDots.fn : PR.funcs[F_rostrumref7_SameDots]? = some Try.f39 := by kernel_rfl
theorem S.rostrumref7_SameDots.call {R : Value → World → Prop} {v0 v1 : Value} {W : World} (h : S.rostrumref7_SameDots.body R v0 v1 W) : callK PR F_rostrumref7_SameDots [v0, v1] R W :=
  callK_of_body (g := F_rostrumref7_SameDots) (fn := Try.f39) (args := [v0, v1]) (R := R) (w := W) mixed CBok S.rostrumref7_SameDots.fn S.rostrumref7_SameDots.hint (by rw [S.rostrumref7_SameDots.ok]; exact h)
/-! ### rostrum/rostrumref7.insert (42) -/
def S.rostrumref7_insert.j1 (R : Value → World → Prop) (x0 x3 x5 : Value) (W : World) : Prop :=
  okF (lenP (.slice T_api_Dot) x0) fun v22 =>
  okF (binP .lss x5 v22) fun v23 =>
  gdK (wantd v23 true) (fun k W => k x0 W) (fun v25 W =>
  gdK (wantd v23 true) (fun k W => k x5 W) (fun v26 W =>
  gdK (wantd v23 true) (fun k W => okF (idxS 2 v25 v26) fun v => k v W) (fun v27 W =>
  gdK (wantd v23 true) (fun k W => rdK PR (Instr.loadAt T_api_Dot v27) k W) (fun v28 W =>
  gdK (wantd v23 true) (fun k W => rdK PR (Instr.loadAt T_api_Dot x3) k W) (fun v29 W =>
  gdK (wantd v23 true) (fun k W => rdK PR (aggEq .eql T_api_Dot v28 v29) k W) (fun v30 W =>
  okF (pickP v23 v30 (.bool false)) fun v31 =>
  ifK v31 (
  R x0 W) (
  okF (slcS 2 x0 none (some x5) none) fun v36 =>
  rdK PR (Instr.loadAt T_api_Dot x3) (fun v38 W =>
  okF (slcS 2 x0 (some x5) none none) fun v43 =>
  (efK PR (Instr.buildSlice T_s_api_Dot 0 #[]) (fun v33 W =>
  stb PR [(5, true, (Instr.loadAt T_api_Dot x3), v38)] (fun W =>
  (efK PR (Builtin.append_ #[T_s_api_Dot, T_s_api_Dot] T_s_api_Dot #[v33, v36]) (fun v37 W =>
  stb PR [(5, true, (Instr.loadAt T_api_Dot x3), v38)] (fun W =>
  efK PR (Instr.buildSlice T_s_api_Dot 1 #[(0, v38)]) (fun v39 W =>
  efK PR (Builtin.append_ #[T_s_api_Dot, T_s_api_Dot] T_s_api_Dot #[v37, v39]) (fun v40 W =>
  efK PR (Builtin.append_ #[T_s_api_Dot, T_s_api_Dot] T_s_api_Dot #[v40, v43]) (fun v44 W =>
  R v44 W) W) W) W) W) W) ∧ (efK PR (Instr.buildSlice T_s_api_Dot 1 #[(0, v38)]) (fun v39_1 W =>
  efK PR (Builtin.append_ #[T_s_api_Dot, T_s_api_Dot] T_s_api_Dot #[v33, v36]) (fun v37_1 W =>
  efK PR (Builtin.append_ #[T_s_api_Dot, T_s_api_Dot] T_s_api_Dot #[v37_1, v39_1]) (fun v40_1 W =>
  efK PR (Builtin.append_ #[T_s_api_Dot, T_s_api_Dot] T_s_api_Dot #[v40_1, v43]) (fun v44_1 W =>
  R v44_1 W) W) W) W) W)) W) W) ∧ (efK PR (Instr.buildSlice T_s_api_Dot 1 #[(0, v38)]) (fun v39_2 W =>
  efK PR (Instr.buildSlice T_s_api_Dot 0 #[]) (fun v33_1 W =>
  efK PR (Builtin.append_ #[T_s_api_Dot, T_s_api_Dot] T_s_api_Dot #[v33_1, v36]) (fun v37_2 W =>
  efK PR (Builtin.append_ #[T_s_api_Dot, T_s_api_Dot] T_s_api_Dot #[v37_2, v39_2]) (fun v40_2 W =>
  efK PR (Builtin.append_ #[T_s_api_Dot, T_s_api_Dot] T_s_api_Dot #[v40_2, v43]) (fun v44_2 W =>
  R v44_2 W) W) W) W) W) W)) (tick W))) W) W) W) W) W) (tick W)
def S.rostrumref7_insert.l1 (J1 : List Value → World → Prop) (K1 : List Value → World → Prop) (x0 x3 x5 : Value) (W : World) : Prop :=
  okF (lenP (.slice T_api_Dot) x0) fun v8 =>
  okF (binP .lss x5 v8) fun v9 =>
  gdK (wantd v9 true) (fun k W => k x0 W) (fun v11 W =>
  gdK (wantd v9 true) (fun k W => k x5 W) (fun v12 W =>
  gdK (wantd v9 true) (fun k W => okF (idxS 2 v11 v12) fun v => k v W) (fun v13 W =>
  gdK (wantd v9 true) (fun k W => rdK PR (Instr.loadAt T_api_Dot v13) k W) (fun v14 W =>
  gdK (wantd v9 true) (fun k W => rdK PR (Instr.loadAt T_api_Dot x3) k W) (fun v15 W =>
  gdK (wantd v9 true) (fun k W => callK PR F_rostrumref7_Less [v14, v15] k W) (fun v16 W =>
  okF (pickP v9 v16 (.bool false)) fun v17 =>
  ifK v17 (
  okF (binP .add x5 (.int .i64 1)) fun v19 =>
  K1 [x0, x3, v19] W) (
  J1 [x0, x3, x5] W)) W) W) W) W) W) (tick W)
def S.rostrumref7_insert.body (R : Value → World → Prop) (v0 v1 : Value) (W : World) : Prop :=
  efK PR (Instr.box T_api_Dot v1) (fun v3 W =>
  joinK (fun s W => S.rostrumref7_insert.j1 R (nthv s 0) (nthv s 1) (nthv s 2) W) (fun J1 =>
  loopK (fun K1 s W => S.rostrumref7_insert.l1 J1 K1 (nthv s 0) (nthv s 1) (nthv s 2) W) [v0, v3, (.int .i64 0)] W)) W
def S.rostrumref7_insert.hint : Hint := (.two .nil (.two .nil (.at [0, 3, 5] (.at [0, 3, 5] (.two (.two .nil (.two .nil .nil)) .nil) .nil) (.two (.two .nil (.two (.two .nil .nil) .nil)) (.two .nil .nil)))))
theorem S.rostrumref7_insert.ok (R : Value → World → Prop) (v0 v1 : Value) (W : World) : bodyK PR CB Try.f42 S.rostrumref7_insert.hint [v0, v1] R W = S.rostrumref7_insert.body R v0 v1 W := by kernel_rfl
theorem S.rostrumref7_insert.fn : PR.funcs[F_rostrumref7_insert]? = some Try.f42 := by kernel_rfl
theorem S.rostrumref7_insert.call {R : Value → World → Prop} {v0 v1 : Value} {W : World} (h : S.rostrumref7_insert.body R v0 v1 W) : callK PR F_rostrumref7_insert [v0, v1] R W :=
  callK_of_body (g := F_rostrumref7_insert) (fn := Try.f42) (args := [v0, v1]) (R := R) (w := W) mixed CBok S.rostrumref7_insert.fn S.rostrumref7_insert.hint (by rw [S.rostrumref7_insert.ok]; exact h)
/-! ### rostrum/rostrumlaw9.dots (21) -/
def S.rostrumlaw9_dots.body (R : Value → World → Prop) (v0 v1 : Value) (W : World) : Prop :=
  callK PR F_rostrumref7_SameDots [v0, v1] (fun v7 W =>
  R v7 W) W
def S.rostrumlaw9_dots.hint : Hint := (.two .nil (.two .nil .nil))
theorem S.rostrumlaw9_dots.ok (R : Value → World → Prop) (v0 v1 : Value) (W : World) : bodyK PR CB Try.f21 S.rostrumlaw9_dots.hint [v0, v1] R W = S.rostrumlaw9_dots.body R v0 v1 W := by kernel_rfl
theorem S.rostrumlaw9_dots.fn : PR.funcs[F_rostrumlaw9_dots]? = some Try.f21 := by kernel_rfl
theorem S.rostrumlaw9_dots.call {R : Value → World → Prop} {v0 v1 : Value} {W : World} (h : S.rostrumlaw9_dots.body R v0 v1 W) : callK PR F_rostrumlaw9_dots [v0, v1] R W :=
  callK_of_body (g := F_rostrumlaw9_dots) (fn := Try.f21) (args := [v0, v1]) (R := R) (w := W) mixed CBok S.rostrumlaw9_dots.fn S.rostrumlaw9_dots.hint (by rw [S.rostrumlaw9_dots.ok]; exact h)
/-! ### rostrum/rostrumlaw9.texts (18) -/
def S.rostrumlaw9_texts.l1 (R : Value → World → Prop) (K1 : List Value → World → Prop) (x0 x1 x5 : Value) (W : World) : Prop :=
  okF (lenP (.slice T_string) x0) fun v13 =>
  okF (binP .lss x5 v13) fun v14 =>
  ifK v14 (
  okF (idxS 1 x0 x5) fun v19 =>
  rdK PR (Instr.loadAt T_string v19) (fun v20 W =>
  okF (idxS 1 x1 x5) fun v23 =>
  rdK PR (Instr.loadAt T_string v23) (fun v24 W =>
  okF (binP .neq v20 v24) fun v25 =>
  ifK v25 (
  R (.bool false) W) (
  okF (binP .add x5 (.int .i64 1)) fun v16 =>
  K1 [x0, x1, v16] W)) W) (tick W)) (
  R (.bool true) W)
def S.rostrumlaw9_texts.body (R : Value → World → Prop) (v0 v1 : Value) (W : World) : Prop :=
  okF (lenP (.slice T_string) v0) fun v7 =>
  okF (lenP (.slice T_string) v1) fun v9 =>
  okF (binP .neq v7 v9) fun v10 =>
  ifK v10 (
  R (.bool false) W) (
  loopK (fun K1 s W => S.rostrumlaw9_texts.l1 R K1 (nthv s 0) (nthv s 1) (nthv s 2) W) [v0, v1, (.int .i64 0)] W)
def S.rostrumlaw9_texts.hint : Hint := (.two .nil (.two (.two .nil (.two (.two .nil .nil) .nil)) (.two (.two .nil (.at [0, 1, 5] (.two (.two .nil (.two .nil .nil)) (.two (.two .nil (.two (.two .nil .nil) .nil)) .nil)) .nil)) (.two .nil .nil))))
theorem S.rostrumlaw9_texts.ok (R : Value → World → Prop) (v0 v1 : Value) (W : World) : bodyK PR CB Try.f18 S.rostrumlaw9_texts.hint [v0, v1] R W = S.rostrumlaw9_texts.body R v0 v1 W := by kernel_rfl
theorem S.rostrumlaw9_texts.fn : PR.funcs[F_rostrumlaw9_texts]? = some Try.f18 := by kernel_rfl
theorem S.rostrumlaw9_texts.call {R : Value → World → Prop} {v0 v1 : Value} {W : World} (h : S.rostrumlaw9_texts.body R v0 v1 W) : callK PR F_rostrumlaw9_texts [v0, v1] R W :=
  callK_of_body (g := F_rostrumlaw9_texts) (fn := Try.f18) (args := [v0, v1]) (R := R) (w := W) mixed CBok S.rostrumlaw9_texts.fn S.rostrumlaw9_texts.hint (by rw [S.rostrumlaw9_texts.ok]; exact h)
end Go.Proofs.Ytmojfpaagokckaa
