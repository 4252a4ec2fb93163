/- Texts of the claim ExecOne, joined: COrd9, COrd10, PLine, COrd11, PTie, PLine2. -/
import Derived.Test.YtkjhccpanedccaaBExecOne5
import Derived.Test.YtkjhccpanedccaaBExecOne4
namespace Go.Proofs.Ytkjhccpanedccaa
set_option linter.unusedVariables false
set_option linter.unusedSimpArgs false
open Go Go.Eng Go.Tar
section
variable {W0 W : World} {L L' : List Asn} {p oc n g o c i : Nat} {oa a : Option Addr} {s : Fs} {l : List Int} {m : List Bool} {v x : Int} {on : List (List Int)} {rows : List ISl} {G : List Int}
theorem posAddr {α : Type} {A : Ly α} {l : List α} (h : St W0 L W) [hr : Rd W0 L a A l] (hi : i < l.length) : ∃ g o, a = some ⟨g, o, none⟩ := by
  obtain ⟨g, o, e, _⟩ := Rd.at (A := A) (l := l) (a := a) h (fun e => by subst e; simp at hi)
  exact ⟨g, o, e⟩
theorem min2m {k : IntKind} {a b : Int} : foldP min2P [.int k a, .int k b] = some (.int k (min a b)) := by
  rw [min2i]; congr 2; split <;> omega
set_option maxRecDepth 100000 in
set_option maxHeartbeats 4000000 in
theorem ordVisit (h00 : W0.drawn = 0) (hO : OnOk on n) (hn : n ≤ 1000) (hrows : rows.map (·.l) = on) (hrl : ∀ v, (rowOf on v).length < 1000000) :
    ∀ (f : Nat) (v : Int) (s : Fs) (G : List Int) (W : World) (k : Value → World → Prop), Tj on n G s → Vx n v → s.nm v = 0 → (∀ x ∈ G, Rch on x v) → s.num.count 0 ≤ f →
    St W0 (fnd p oa oc n s :: arr ISY T_s_int oa oc rows :: many ich rows :: L) W → (∀ W', St W0 (fnd p oa oc n (visitF on f v s) :: arr ISY T_s_int oa oc rows :: many ich rows :: L) W' → k (.tuple #[]) W') →
    callK PR F_order_finder_visit [.pointer (some ⟨p, 0, none⟩), .int .i64 v] k W := by
  intro f
  induction f with
  | zero =>
    intro v s G W k hT hv h0 _ hf
    have hd := visit_vd hO 0 v s G hT hv h0 (by assumption) hf
    exact absurd h0 hd.now
  | succ f ih =>
    intro v s G W k hT hv h0 hr hf h hk
    apply S.order_finder_visit.call
    unfold S.order_finder_visit.body
    have hv' := hv
    have hvn : v.toNat < n := by unfold Vx at hv'; omega
    have hlp := enter_lp hT hv h0 hr
    obtain ⟨an, cn, al, cl, st, ct, ao, co, ag, cg, h⟩ := fnd_at h
    obtain ⟨gn, on', e1⟩ := posAddr (i := v.toNat) (a := an) (A := I64) (l := s.num) h (by rw [hT.ln]; exact hvn)
    obtain ⟨gl, ol, e2⟩ := posAddr (i := v.toNat) (a := al) (A := I64) (l := s.low) h (by rw [hT.ll]; exact hvn)
    obtain ⟨go, oo, e3⟩ := posAddr (i := v.toNat) (a := ao) (A := BOO) (l := s.opn) h (by rw [hT.lo]; exact hvn)
    subst e1 e2 e3
    have hnx : 0 ≤ s.next ∧ s.next < 1000 := by have := hT.cnt; have := hT.nn v; have := hlp.tj.cnt; have := hlp.nxt; have e : (enterF v s).next = s.next + 1 := rfl; omega
    have ew : IntKind.i64.wrap (s.next + 1) = s.next + 1 := by rw [i64w]; omega
    have hstl : s.stack.length < 1000000 := by have := hT.slen; omega
    have hrn : rows.length = n := by rw [← hO.len, ← hrows, List.length_map]
    obtain ⟨gr, or', e4⟩ := posAddr (i := v.toNat) (a := oa) (A := ISY) (l := rows) h (by rw [hrn]; exact hvn)
    rcases hx : rows[v.toNat]'(by rw [hrn]; exact hvn) with ⟨xa, xc, xl⟩
    have hxl : rowOf on v = xl := by
      unfold rowOf; rw [← hrows, List.getD_eq_getElem?_getD, List.getElem?_map, List.getElem?_eq_getElem (by rw [hrn]; exact hvn), hx]; rfl
    have hxm : (⟨xa, xc, xl⟩ : ISl) ∈ rows := by rw [← hx]; exact List.getElem_mem _
    subst e4
    (repeat (first | (first | (with_reducible (first | refine w1 fun _ _ => ?_ | refine w3 fun _ _ _ => ?_ | refine w4 fun _ _ _ => ?_ | refine w11 fun _ _ _ => ?_ | refine stb_n ?_)) | ((with_reducible refine w2 ?_); try simp -implicitDefEqProofs only [EN, lsub, lget, stL, beq_self_eq_true, ne_eq, if_true, if_false, List.cons_append, List.nil_append, Option.isNone_some, Option.isNone_none, ew, ix1 hv]; intro _ _) | ((with_reducible (first | refine w5 ?_ ?_ | refine w6 ?_ ?_ | refine w7 ?_ ?_)); simp; refine ⟨_, rfl, ?_⟩) | ((with_reducible (first | refine w8 ?_ ?_ ?_ | refine w9 ?_ ?_ ?_ | refine w10 ?_ ?_ ?_)); exact rfl; simp) | ((with_reducible refine w12 ?_ ?_ ?_ fun _ _ => ?_); simp; simp; simp [oneC]) | ((with_reducible (first | refine eqs ?_ | refine nes ?_)); refine ⟨_, rfl, ?_⟩) | ((refine okF_i (bldP_eq rfl) ?_); try simp only [BLS, List.take_succ_cons, List.take_zero, List.drop_succ_cons, List.drop_zero, List.cons_append, List.nil_append, Nat.reduceAdd])) | simp -implicitDefEqProofs only [EN, lsub, lget, stL, beq_self_eq_true, ne_eq, if_true, if_false, List.cons_append, List.nil_append, Option.isNone_some, Option.isNone_none, ew, ix1 hv]))
    refine stG (i := v.toNat) (by rw [hT.ln]; exact hvn) (by first | assumption | exact St.tick (by assumption) | exact St.tick (St.tick (by assumption))) fun W1 h => ?_
    (repeat (first | (first | (with_reducible (first | refine w1 fun _ _ => ?_ | refine w3 fun _ _ _ => ?_ | refine w4 fun _ _ _ => ?_ | refine w11 fun _ _ _ => ?_ | refine stb_n ?_)) | ((with_reducible refine w2 ?_); try simp -implicitDefEqProofs only [EN, lsub, lget, stL, beq_self_eq_true, ne_eq, if_true, if_false, List.cons_append, List.nil_append, Option.isNone_some, Option.isNone_none, ew, ix1 hv]; intro _ _) | ((with_reducible (first | refine w5 ?_ ?_ | refine w6 ?_ ?_ | refine w7 ?_ ?_)); simp; refine ⟨_, rfl, ?_⟩) | ((with_reducible (first | refine w8 ?_ ?_ ?_ | refine w9 ?_ ?_ ?_ | refine w10 ?_ ?_ ?_)); exact rfl; simp) | ((with_reducible refine w12 ?_ ?_ ?_ fun _ _ => ?_); simp; simp; simp [oneC]) | ((with_reducible (first | refine eqs ?_ | refine nes ?_)); refine ⟨_, rfl, ?_⟩) | ((refine okF_i (bldP_eq rfl) ?_); try simp only [BLS, List.take_succ_cons, List.take_zero, List.drop_succ_cons, List.drop_zero, List.cons_append, List.nil_append, Nat.reduceAdd])) | simp -implicitDefEqProofs only [EN, lsub, lget, stL, beq_self_eq_true, ne_eq, if_true, if_false, List.cons_append, List.nil_append, Option.isNone_some, Option.isNone_none, ew, ix1 hv]))
    refine stG (i := v.toNat) (by rw [hT.ll]; exact hvn) (by first | assumption | exact St.tick (by assumption) | exact St.tick (St.tick (by assumption))) fun W2 h => ?_
    (repeat (first | (first | (with_reducible (first | refine w1 fun _ _ => ?_ | refine w3 fun _ _ _ => ?_ | refine w4 fun _ _ _ => ?_ | refine w11 fun _ _ _ => ?_ | refine stb_n ?_)) | ((with_reducible refine w2 ?_); try simp -implicitDefEqProofs only [EN, lsub, lget, stL, beq_self_eq_true, ne_eq, if_true, if_false, List.cons_append, List.nil_append, Option.isNone_some, Option.isNone_none, ew, ix1 hv]; intro _ _) | ((with_reducible (first | refine w5 ?_ ?_ | refine w6 ?_ ?_ | refine w7 ?_ ?_)); simp; refine ⟨_, rfl, ?_⟩) | ((with_reducible (first | refine w8 ?_ ?_ ?_ | refine w9 ?_ ?_ ?_ | refine w10 ?_ ?_ ?_)); exact rfl; simp) | ((with_reducible refine w12 ?_ ?_ ?_ fun _ _ => ?_); simp; simp; simp [oneC]) | ((with_reducible (first | refine eqs ?_ | refine nes ?_)); refine ⟨_, rfl, ?_⟩) | ((refine okF_i (bldP_eq rfl) ?_); try simp only [BLS, List.take_succ_cons, List.take_zero, List.drop_succ_cons, List.drop_zero, List.cons_append, List.nil_append, Nat.reduceAdd])) | simp -implicitDefEqProofs only [EN, lsub, lget, stL, beq_self_eq_true, ne_eq, if_true, if_false, List.cons_append, List.nil_append, Option.isNone_some, Option.isNone_none, ew, ix1 hv]))
    refine bsA I64 [v] (n := 1) (by first | assumption | exact St.tick (by assumption) | exact St.tick (St.tick (by assumption))) rfl rfl (by decide) (by decide) rfl fun a5 c5 W5 h => ?_
    (repeat (first | (first | (with_reducible (first | refine w1 fun _ _ => ?_ | refine w3 fun _ _ _ => ?_ | refine w4 fun _ _ _ => ?_ | refine w11 fun _ _ _ => ?_ | refine stb_n ?_)) | ((with_reducible refine w2 ?_); try simp -implicitDefEqProofs only [EN, lsub, lget, stL, beq_self_eq_true, ne_eq, if_true, if_false, List.cons_append, List.nil_append, Option.isNone_some, Option.isNone_none]; intro _ _) | ((with_reducible (first | refine w5 ?_ ?_ | refine w6 ?_ ?_ | refine w7 ?_ ?_)); simp; refine ⟨_, rfl, ?_⟩) | ((with_reducible (first | refine w8 ?_ ?_ ?_ | refine w9 ?_ ?_ ?_ | refine w10 ?_ ?_ ?_)); exact rfl; simp) | ((with_reducible refine w12 ?_ ?_ ?_ fun _ _ => ?_); simp; simp; simp [oneC]) | ((with_reducible (first | refine eqs ?_ | refine nes ?_)); refine ⟨_, rfl, ?_⟩) | ((refine okF_i (bldP_eq rfl) ?_); try simp only [BLS, List.take_succ_cons, List.take_zero, List.drop_succ_cons, List.drop_zero, List.cons_append, List.nil_append, Nat.reduceAdd])) | simp -implicitDefEqProofs only [EN, lsub, lget, stL, beq_self_eq_true, ne_eq, if_true, if_false, List.cons_append, List.nil_append, Option.isNone_some, Option.isNone_none]))
    refine appA (A := I64) (a := st) (l := s.stack) (m := [v]) (by first | assumption | exact St.tick (by assumption) | exact St.tick (St.tick (by assumption))) rfl (by simp only [List.length_cons, List.length_nil]; omega) (by simp only [List.length_cons, List.length_nil, maxLen]; omega) fun a6 c6 W6 h => ?_
    (repeat (first | (first | (with_reducible (first | refine w1 fun _ _ => ?_ | refine w3 fun _ _ _ => ?_ | refine w4 fun _ _ _ => ?_ | refine w11 fun _ _ _ => ?_ | refine stb_n ?_)) | ((with_reducible refine w2 ?_); try simp -implicitDefEqProofs only [EN, lsub, lget, stL, beq_self_eq_true, ne_eq, if_true, if_false, List.cons_append, List.nil_append, Option.isNone_some, Option.isNone_none, ew, ix1 hv]; intro _ _) | ((with_reducible (first | refine w5 ?_ ?_ | refine w6 ?_ ?_ | refine w7 ?_ ?_)); simp; refine ⟨_, rfl, ?_⟩) | ((with_reducible (first | refine w8 ?_ ?_ ?_ | refine w9 ?_ ?_ ?_ | refine w10 ?_ ?_ ?_)); exact rfl; simp) | ((with_reducible refine w12 ?_ ?_ ?_ fun _ _ => ?_); simp; simp; simp [oneC]) | ((with_reducible (first | refine eqs ?_ | refine nes ?_)); refine ⟨_, rfl, ?_⟩) | ((refine okF_i (bldP_eq rfl) ?_); try simp only [BLS, List.take_succ_cons, List.take_zero, List.drop_succ_cons, List.drop_zero, List.cons_append, List.nil_append, Nat.reduceAdd])) | simp -implicitDefEqProofs only [EN, lsub, lget, stL, beq_self_eq_true, ne_eq, if_true, if_false, List.cons_append, List.nil_append, Option.isNone_some, Option.isNone_none, ew, ix1 hv]))
    refine stGb (i := v.toNat) (x := true) (by rw [hT.lo]; exact hvn) (by first | assumption | exact St.tick (by assumption) | exact St.tick (St.tick (by assumption))) fun W7 h => ?_
    refine joinK_i ?_
    (repeat (first | (first | (with_reducible (first | refine w1 fun _ _ => ?_ | refine w3 fun _ _ _ => ?_ | refine w4 fun _ _ _ => ?_ | refine w11 fun _ _ _ => ?_ | refine stb_n ?_)) | ((with_reducible refine w2 ?_); try simp -implicitDefEqProofs only [EN, lsub, lget, stL, beq_self_eq_true, ne_eq, if_true, if_false, List.cons_append, List.nil_append, Option.isNone_some, Option.isNone_none, ew, ix1 hv]; intro _ _) | ((with_reducible (first | refine w5 ?_ ?_ | refine w6 ?_ ?_ | refine w7 ?_ ?_)); simp; refine ⟨_, rfl, ?_⟩) | ((with_reducible (first | refine w8 ?_ ?_ ?_ | refine w9 ?_ ?_ ?_ | refine w10 ?_ ?_ ?_)); exact rfl; simp) | ((with_reducible refine w12 ?_ ?_ ?_ fun _ _ => ?_); simp; simp; simp [oneC]) | ((with_reducible (first | refine eqs ?_ | refine nes ?_)); refine ⟨_, rfl, ?_⟩) | ((refine okF_i (bldP_eq rfl) ?_); try simp only [BLS, List.take_succ_cons, List.take_zero, List.drop_succ_cons, List.drop_zero, List.cons_append, List.nil_append, Nat.reduceAdd])) | simp -implicitDefEqProofs only [EN, lsub, lget, stL, beq_self_eq_true, ne_eq, if_true, if_false, List.cons_append, List.nil_append, Option.isNone_some, Option.isNone_none, ew, ix1 hv]))
    refine ldA0 (i := v.toNat) (l := rows) (A := ISY) (by first | assumption | exact St.tick (by assumption) | exact St.tick (St.tick (by assumption))) rfl (by rw [hrn]; exact hvn) (v := (⟨xa, xc, xl⟩ : ISl).v) (by rw [hx]; rfl) (by simp) ?_
    (try simp only [BLS, List.take_succ_cons, List.take_zero, List.drop_succ_cons, List.drop_zero, List.cons_append, List.nil_append, List.append_nil, List.take_nil, List.drop_nil, stL, Nat.reduceAdd] at h)
    have h : St W0 (fnd p (some ⟨gr, or', none⟩) oc n (enterF v s) :: arr ISY T_s_int (some ⟨gr, or', none⟩) oc rows :: many ich rows :: L) W7 :=
      fnd_of (some ⟨gn, on', none⟩) (some ⟨gl, ol, none⟩) a6 (some ⟨go, oo, none⟩) ag cn cl c6 co cg (St.wk h)
    (repeat (first | (first | (with_reducible (first | refine w1 fun _ _ => ?_ | refine w3 fun _ _ _ => ?_ | refine w4 fun _ _ _ => ?_ | refine w11 fun _ _ _ => ?_ | refine stb_n ?_)) | ((with_reducible refine w2 ?_); try simp -implicitDefEqProofs only [EN, lsub, lget, stL, beq_self_eq_true, ne_eq, if_true, if_false, List.cons_append, List.nil_append, Option.isNone_some, Option.isNone_none]; intro _ _) | ((with_reducible (first | refine w5 ?_ ?_ | refine w6 ?_ ?_ | refine w7 ?_ ?_)); simp; refine ⟨_, rfl, ?_⟩) | ((with_reducible (first | refine w8 ?_ ?_ ?_ | refine w9 ?_ ?_ ?_ | refine w10 ?_ ?_ ?_)); exact rfl; simp) | ((with_reducible refine w12 ?_ ?_ ?_ fun _ _ => ?_); simp; simp; simp [oneC]) | ((with_reducible (first | refine eqs ?_ | refine nes ?_)); refine ⟨_, rfl, ?_⟩) | ((refine okF_i (bldP_eq rfl) ?_); try simp only [BLS, List.take_succ_cons, List.take_zero, List.drop_succ_cons, List.drop_zero, List.cons_append, List.nil_append, Nat.reduceAdd])) | simp -implicitDefEqProofs only [EN, lsub, lget, stL, beq_self_eq_true, ne_eq, if_true, if_false, List.cons_append, List.nil_append, Option.isNone_some, Option.isNone_none]))
    refine loop_c (σ := Unit) xl.length (fun i _ => [.pointer (some ⟨p, 0, none⟩), .int .i64 v, .slice xa xl.length xc, .int .i64 xl.length, .int .i64 (i : Int)])
      (fun i _ W1 => Lp on n G s v ((xl.take i).foldl (stepF (visitF on f) v) (enterF v s)) (xl.take i) ∧ St W0 (fnd p (some ⟨gr, or', none⟩) oc n ((xl.take i).foldl (stepF (visitF on f) v) (enterF v s)) :: arr ISY T_s_int (some ⟨gr, or', none⟩) oc rows :: many ich rows :: L) W1) () rfl ⟨hlp, h⟩ ?_
    clear h
    rintro K i _ W8 hi ⟨hlq, h⟩ hK
    simp -implicitDefEqProofs only [EN, lsub, lget, stL, beq_self_eq_true, ne_eq, if_true, if_false, List.cons_append, List.nil_append, Option.isNone_some, Option.isNone_none]
    unfold S.order_finder_visit.l2
    by_cases hlt : (i : Int) < (xl.length : Int)
    · have hib : i < xl.length := by omega
      have eiw : IntKind.i64.wrap ((i : Int) + 1) = ((i + 1 : Nat) : Int) := by rw [i64w]; have := hrl v; rw [hxl] at this; omega
      have htk : xl.take (i + 1) = xl.take i ++ [xl[i]] := List.take_succ_eq_append_getElem hib
      have hur : xl[i] ∈ rowOf on v := by rw [hxl]; exact List.getElem_mem _
      have hux := hO.rng v _ hur
      have hnext := step_lp (rec := visitF on f) hlq hT hO hv h0 hur fun hux hz hr2 => visit_vd hO f _ _ _ hlq.tj hux hz hr2 (by
          have a1 := hT.cnt; have a2 := hlq.tj.cnt; have a3 := hlq.nxt; omega)
      generalize hs1 : (xl.take i).foldl (stepF (visitF on f) v) (enterF v s) = s1 at *
      have hstep : (xl.take (i + 1)).foldl (stepF (visitF on f) v) (enterF v s) = stepF (visitF on f) v s1 xl[i] := by rw [htk, List.foldl_append, hs1]; rfl
      rw [← htk, ← hstep] at hnext
      haveI hrow := ich_rd (W0 := W0) (L := L) hxm
      obtain ⟨gx, ox, e5⟩ := posAddr (i := i) (a := xa) (A := I64) (l := xl) h hib
      subst e5
      have hun : xl[i].toNat < n := by unfold Vx at hux; omega
      obtain ⟨an1, cn1, al1, cl1, st1, ct1, ao1, co1, ag1, cg1, h⟩ := fnd_at h
      obtain ⟨gn1, on1, e1⟩ := posAddr (i := v.toNat) (a := an1) (A := I64) (l := s1.num) h (by rw [hlq.tj.ln]; exact hvn)
      obtain ⟨gl1, ol1, e2⟩ := posAddr (i := v.toNat) (a := al1) (A := I64) (l := s1.low) h (by rw [hlq.tj.ll]; exact hvn)
      obtain ⟨go1, oo1, e3⟩ := posAddr (i := v.toNat) (a := ao1) (A := BOO) (l := s1.opn) h (by rw [hlq.tj.lo]; exact hvn)
      subst e1 e2 e3
      have eix : idxS 1 (.slice (some ⟨gx, ox, none⟩) xl.length xc) (.int .i64 (i : Int)) = some (.pointer (some ⟨gx, ox + i * 1, none⟩)) := by rw [idxS_blk (by omega) (by omega), Int.toNat_natCast]
      (repeat (first | (first | (with_reducible (first | refine w1 fun _ _ => ?_ | refine w3 fun _ _ _ => ?_ | refine w4 fun _ _ _ => ?_ | refine w11 fun _ _ _ => ?_ | refine stb_n ?_)) | ((with_reducible refine w2 ?_); try simp -implicitDefEqProofs only [EN, lsub, lget, stL, beq_self_eq_true, ne_eq, if_true, if_false, List.cons_append, List.nil_append, Option.isNone_some, Option.isNone_none, hlt]; intro _ _) | ((with_reducible (first | refine w5 ?_ ?_ | refine w6 ?_ ?_ | refine w7 ?_ ?_)); simp; refine ⟨_, rfl, ?_⟩) | ((with_reducible (first | refine w8 ?_ ?_ ?_ | refine w9 ?_ ?_ ?_ | refine w10 ?_ ?_ ?_)); exact rfl; simp) | ((with_reducible refine w12 ?_ ?_ ?_ fun _ _ => ?_); simp; simp; simp [oneC]) | ((with_reducible (first | refine eqs ?_ | refine nes ?_)); refine ⟨_, rfl, ?_⟩) | ((refine okF_i (bldP_eq rfl) ?_); try simp only [BLS, List.take_succ_cons, List.take_zero, List.drop_succ_cons, List.drop_zero, List.cons_append, List.nil_append, Nat.reduceAdd])) | simp -implicitDefEqProofs only [EN, lsub, lget, stL, beq_self_eq_true, ne_eq, if_true, if_false, List.cons_append, List.nil_append, Option.isNone_some, Option.isNone_none, hlt]))
      refine joinK_i ?_
      (repeat (first | (first | (with_reducible (first | refine w1 fun _ _ => ?_ | refine w3 fun _ _ _ => ?_ | refine w4 fun _ _ _ => ?_ | refine w11 fun _ _ _ => ?_ | refine stb_n ?_)) | ((with_reducible refine w2 ?_); try simp -implicitDefEqProofs only [EN, lsub, lget, stL, beq_self_eq_true, ne_eq, if_true, if_false, List.cons_append, List.nil_append, Option.isNone_some, Option.isNone_none, eix]; intro _ _) | ((with_reducible (first | refine w5 ?_ ?_ | refine w6 ?_ ?_ | refine w7 ?_ ?_)); simp; refine ⟨_, rfl, ?_⟩) | ((with_reducible (first | refine w8 ?_ ?_ ?_ | refine w9 ?_ ?_ ?_ | refine w10 ?_ ?_ ?_)); exact rfl; simp) | ((with_reducible refine w12 ?_ ?_ ?_ fun _ _ => ?_); simp; simp; simp [oneC]) | ((with_reducible (first | refine eqs ?_ | refine nes ?_)); refine ⟨_, rfl, ?_⟩) | ((refine okF_i (bldP_eq rfl) ?_); try simp only [BLS, List.take_succ_cons, List.take_zero, List.drop_succ_cons, List.drop_zero, List.cons_append, List.nil_append, Nat.reduceAdd])) | simp -implicitDefEqProofs only [EN, lsub, lget, stL, beq_self_eq_true, ne_eq, if_true, if_false, List.cons_append, List.nil_append, Option.isNone_some, Option.isNone_none, eix]))
      refine ldA0 (i := i) (l := xl) (A := I64) (by first | assumption | exact St.tick (by assumption) | exact St.tick (St.tick (by assumption))) rfl hib (v := .int .i64 xl[i]) rfl (by simp) ?_
      (repeat (first | (first | (with_reducible (first | refine w1 fun _ _ => ?_ | refine w3 fun _ _ _ => ?_ | refine w4 fun _ _ _ => ?_ | refine w11 fun _ _ _ => ?_ | refine stb_n ?_)) | ((with_reducible refine w2 ?_); try simp -implicitDefEqProofs only [EN, lsub, lget, stL, beq_self_eq_true, ne_eq, if_true, if_false, List.cons_append, List.nil_append, Option.isNone_some, Option.isNone_none, ix1 hux]; intro _ _) | ((with_reducible (first | refine w5 ?_ ?_ | refine w6 ?_ ?_ | refine w7 ?_ ?_)); simp; refine ⟨_, rfl, ?_⟩) | ((with_reducible (first | refine w8 ?_ ?_ ?_ | refine w9 ?_ ?_ ?_ | refine w10 ?_ ?_ ?_)); exact rfl; simp) | ((with_reducible refine w12 ?_ ?_ ?_ fun _ _ => ?_); simp; simp; simp [oneC]) | ((with_reducible (first | refine eqs ?_ | refine nes ?_)); refine ⟨_, rfl, ?_⟩) | ((refine okF_i (bldP_eq rfl) ?_); try simp only [BLS, List.take_succ_cons, List.take_zero, List.drop_succ_cons, List.drop_zero, List.cons_append, List.nil_append, Nat.reduceAdd])) | simp -implicitDefEqProofs only [EN, lsub, lget, stL, beq_self_eq_true, ne_eq, if_true, if_false, List.cons_append, List.nil_append, Option.isNone_some, Option.isNone_none, ix1 hux]))
      refine ldG (i := xl[i].toNat) (l := s1.num) (by rw [hlq.tj.ln]; exact hun) (by first | assumption | exact St.tick (by assumption) | exact St.tick (St.tick (by assumption))) ?_
      by_cases hz : s1.nm xl[i] = 0
      · have hz1 : decide (s1.num.getD xl[i].toNat 0 = 0) = true := decide_eq_true hz
        rw [show stepF (visitF on f) v s1 xl[i] = lowF v ((visitF on f xl[i] s1).lw xl[i]) (visitF on f xl[i] s1) by unfold stepF; rw [if_pos hz]] at hstep
        have hr2 : ∀ x ∈ G ++ [v], Rch on x xl[i] := fun x hx => (lp_reach hlq hT x hx).step hur
        have hcn : s1.num.count 0 ≤ f := by have a1 := hT.cnt; have a2 := hlq.tj.cnt; have a3 := hlq.nxt; omega
        have hd := visit_vd hO f xl[i] s1 _ hlq.tj hux hz hr2 hcn
        (repeat (first | (first | (with_reducible (first | refine w1 fun _ _ => ?_ | refine w3 fun _ _ _ => ?_ | refine w4 fun _ _ _ => ?_ | refine w11 fun _ _ _ => ?_ | refine stb_n ?_)) | ((with_reducible refine w2 ?_); try simp -implicitDefEqProofs only [EN, lsub, lget, stL, beq_self_eq_true, ne_eq, if_true, if_false, List.cons_append, List.nil_append, Option.isNone_some, Option.isNone_none, hz1]; intro _ _) | ((with_reducible (first | refine w5 ?_ ?_ | refine w6 ?_ ?_ | refine w7 ?_ ?_)); simp; refine ⟨_, rfl, ?_⟩) | ((with_reducible (first | refine w8 ?_ ?_ ?_ | refine w9 ?_ ?_ ?_ | refine w10 ?_ ?_ ?_)); exact rfl; simp) | ((with_reducible refine w12 ?_ ?_ ?_ fun _ _ => ?_); simp; simp; simp [oneC]) | ((with_reducible (first | refine eqs ?_ | refine nes ?_)); refine ⟨_, rfl, ?_⟩) | ((refine okF_i (bldP_eq rfl) ?_); try simp only [BLS, List.take_succ_cons, List.take_zero, List.drop_succ_cons, List.drop_zero, List.cons_append, List.nil_append, Nat.reduceAdd])) | simp -implicitDefEqProofs only [EN, lsub, lget, stL, beq_self_eq_true, ne_eq, if_true, if_false, List.cons_append, List.nil_append, Option.isNone_some, Option.isNone_none, hz1]))
        refine ih xl[i] s1 (G ++ [v]) _ _ hlq.tj hux hz hr2 hcn (fnd_of (some ⟨gn1, on1, none⟩) (some ⟨gl1, ol1, none⟩) st1 (some ⟨go1, oo1, none⟩) ag1 cn1 cl1 ct1 co1 cg1 (St.wk (by first | assumption | exact St.tick (by assumption) | exact St.tick (St.tick (by assumption))))) fun W9 h => ?_
        generalize visitF on f xl[i] s1 = s2 at *
        obtain ⟨an2, cn2, al2, cl2, st2, ct2, ao2, co2, ag2, cg2, h⟩ := fnd_at h
        obtain ⟨gl2, ol2, e2⟩ := posAddr (i := v.toNat) (a := al2) (A := I64) (l := s2.low) h (by rw [hd.tj.ll]; exact hvn)
        subst e2
        (repeat (first | (first | (with_reducible (first | refine w1 fun _ _ => ?_ | refine w3 fun _ _ _ => ?_ | refine w4 fun _ _ _ => ?_ | refine w11 fun _ _ _ => ?_ | refine stb_n ?_)) | ((with_reducible refine w2 ?_); try simp -implicitDefEqProofs only [EN, lsub, lget, stL, beq_self_eq_true, ne_eq, if_true, if_false, List.cons_append, List.nil_append, Option.isNone_some, Option.isNone_none, ix1 hv]; intro _ _) | ((with_reducible (first | refine w5 ?_ ?_ | refine w6 ?_ ?_ | refine w7 ?_ ?_)); simp; refine ⟨_, rfl, ?_⟩) | ((with_reducible (first | refine w8 ?_ ?_ ?_ | refine w9 ?_ ?_ ?_ | refine w10 ?_ ?_ ?_)); exact rfl; simp) | ((with_reducible refine w12 ?_ ?_ ?_ fun _ _ => ?_); simp; simp; simp [oneC]) | ((with_reducible (first | refine eqs ?_ | refine nes ?_)); refine ⟨_, rfl, ?_⟩) | ((refine okF_i (bldP_eq rfl) ?_); try simp only [BLS, List.take_succ_cons, List.take_zero, List.drop_succ_cons, List.drop_zero, List.cons_append, List.nil_append, Nat.reduceAdd])) | simp -implicitDefEqProofs only [EN, lsub, lget, stL, beq_self_eq_true, ne_eq, if_true, if_false, List.cons_append, List.nil_append, Option.isNone_some, Option.isNone_none, ix1 hv]))
        refine ldG (i := v.toNat) (l := s2.low) (by rw [hd.tj.ll]; exact hvn) (by first | assumption | exact St.tick (by assumption) | exact St.tick (St.tick (by assumption))) ?_
        (repeat (first | (first | (with_reducible (first | refine w1 fun _ _ => ?_ | refine w3 fun _ _ _ => ?_ | refine w4 fun _ _ _ => ?_ | refine w11 fun _ _ _ => ?_ | refine stb_n ?_)) | ((with_reducible refine w2 ?_); try simp -implicitDefEqProofs only [EN, lsub, lget, stL, beq_self_eq_true, ne_eq, if_true, if_false, List.cons_append, List.nil_append, Option.isNone_some, Option.isNone_none, ix1 hux]; intro _ _) | ((with_reducible (first | refine w5 ?_ ?_ | refine w6 ?_ ?_ | refine w7 ?_ ?_)); simp; refine ⟨_, rfl, ?_⟩) | ((with_reducible (first | refine w8 ?_ ?_ ?_ | refine w9 ?_ ?_ ?_ | refine w10 ?_ ?_ ?_)); exact rfl; simp) | ((with_reducible refine w12 ?_ ?_ ?_ fun _ _ => ?_); simp; simp; simp [oneC]) | ((with_reducible (first | refine eqs ?_ | refine nes ?_)); refine ⟨_, rfl, ?_⟩) | ((refine okF_i (bldP_eq rfl) ?_); try simp only [BLS, List.take_succ_cons, List.take_zero, List.drop_succ_cons, List.drop_zero, List.cons_append, List.nil_append, Nat.reduceAdd])) | simp -implicitDefEqProofs only [EN, lsub, lget, stL, beq_self_eq_true, ne_eq, if_true, if_false, List.cons_append, List.nil_append, Option.isNone_some, Option.isNone_none, ix1 hux]))
        refine ldG (i := xl[i].toNat) (l := s2.low) (by rw [hd.tj.ll]; exact hun) (by first | assumption | exact St.tick (by assumption) | exact St.tick (St.tick (by assumption))) ?_
        (repeat (first | (first | (with_reducible (first | refine w1 fun _ _ => ?_ | refine w3 fun _ _ _ => ?_ | refine w4 fun _ _ _ => ?_ | refine w11 fun _ _ _ => ?_ | refine stb_n ?_)) | ((with_reducible refine w2 ?_); try simp -implicitDefEqProofs only [EN, lsub, lget, stL, beq_self_eq_true, ne_eq, if_true, if_false, List.cons_append, List.nil_append, Option.isNone_some, Option.isNone_none, min2m, ix1 hv]; intro _ _) | ((with_reducible (first | refine w5 ?_ ?_ | refine w6 ?_ ?_ | refine w7 ?_ ?_)); simp; refine ⟨_, rfl, ?_⟩) | ((with_reducible (first | refine w8 ?_ ?_ ?_ | refine w9 ?_ ?_ ?_ | refine w10 ?_ ?_ ?_)); exact rfl; simp) | ((with_reducible refine w12 ?_ ?_ ?_ fun _ _ => ?_); simp; simp; simp [oneC]) | ((with_reducible (first | refine eqs ?_ | refine nes ?_)); refine ⟨_, rfl, ?_⟩) | ((refine okF_i (bldP_eq rfl) ?_); try simp only [BLS, List.take_succ_cons, List.take_zero, List.drop_succ_cons, List.drop_zero, List.cons_append, List.nil_append, Nat.reduceAdd])) | simp -implicitDefEqProofs only [EN, lsub, lget, stL, beq_self_eq_true, ne_eq, if_true, if_false, List.cons_append, List.nil_append, Option.isNone_some, Option.isNone_none, min2m, ix1 hv]))
        refine stG (i := v.toNat) (l := s2.low) (by rw [hd.tj.ll]; exact hvn) (by first | assumption | exact St.tick (by assumption) | exact St.tick (St.tick (by assumption))) fun W10 h => ?_
        unfold S.order_finder_visit.j3
        (repeat (first | (first | (with_reducible (first | refine w1 fun _ _ => ?_ | refine w3 fun _ _ _ => ?_ | refine w4 fun _ _ _ => ?_ | refine w11 fun _ _ _ => ?_ | refine stb_n ?_)) | ((with_reducible refine w2 ?_); try simp -implicitDefEqProofs only [EN, lsub, lget, stL, beq_self_eq_true, ne_eq, if_true, if_false, List.cons_append, List.nil_append, Option.isNone_some, Option.isNone_none, eiw]; intro _ _) | ((with_reducible (first | refine w5 ?_ ?_ | refine w6 ?_ ?_ | refine w7 ?_ ?_)); simp; refine ⟨_, rfl, ?_⟩) | ((with_reducible (first | refine w8 ?_ ?_ ?_ | refine w9 ?_ ?_ ?_ | refine w10 ?_ ?_ ?_)); exact rfl; simp) | ((with_reducible refine w12 ?_ ?_ ?_ fun _ _ => ?_); simp; simp; simp [oneC]) | ((with_reducible (first | refine eqs ?_ | refine nes ?_)); refine ⟨_, rfl, ?_⟩) | ((refine okF_i (bldP_eq rfl) ?_); try simp only [BLS, List.take_succ_cons, List.take_zero, List.drop_succ_cons, List.drop_zero, List.cons_append, List.nil_append, Nat.reduceAdd])) | simp -implicitDefEqProofs only [EN, lsub, lget, stL, beq_self_eq_true, ne_eq, if_true, if_false, List.cons_append, List.nil_append, Option.isNone_some, Option.isNone_none, eiw]))
        refine hK () _ hib ⟨hnext, ?_⟩
        rw [hstep]
        exact fnd_of (low := s2.low.set v.toNat (min (s2.low.getD v.toNat 0) (s2.low.getD xl[i].toNat 0))) an2 (some ⟨gl2, ol2, none⟩) st2 ao2 ag2 cn2 cl2 ct2 co2 cg2 (St.wk (by first | assumption | exact St.tick (by assumption) | exact St.tick (St.tick (by assumption))))
      · have hz1 : decide (s1.num.getD xl[i].toNat 0 = 0) = false := decide_eq_false hz
        (repeat (first | (first | (with_reducible (first | refine w1 fun _ _ => ?_ | refine w3 fun _ _ _ => ?_ | refine w4 fun _ _ _ => ?_ | refine w11 fun _ _ _ => ?_ | refine stb_n ?_)) | ((with_reducible refine w2 ?_); try simp -implicitDefEqProofs only [EN, lsub, lget, stL, beq_self_eq_true, ne_eq, if_true, if_false, List.cons_append, List.nil_append, Option.isNone_some, Option.isNone_none, hz1, ix1 hux]; intro _ _) | ((with_reducible (first | refine w5 ?_ ?_ | refine w6 ?_ ?_ | refine w7 ?_ ?_)); simp; refine ⟨_, rfl, ?_⟩) | ((with_reducible (first | refine w8 ?_ ?_ ?_ | refine w9 ?_ ?_ ?_ | refine w10 ?_ ?_ ?_)); exact rfl; simp) | ((with_reducible refine w12 ?_ ?_ ?_ fun _ _ => ?_); simp; simp; simp [oneC]) | ((with_reducible (first | refine eqs ?_ | refine nes ?_)); refine ⟨_, rfl, ?_⟩) | ((refine okF_i (bldP_eq rfl) ?_); try simp only [BLS, List.take_succ_cons, List.take_zero, List.drop_succ_cons, List.drop_zero, List.cons_append, List.nil_append, Nat.reduceAdd])) | simp -implicitDefEqProofs only [EN, lsub, lget, stL, beq_self_eq_true, ne_eq, if_true, if_false, List.cons_append, List.nil_append, Option.isNone_some, Option.isNone_none, hz1, ix1 hux]))
        refine ldGb (i := xl[i].toNat) (m := s1.opn) (by rw [hlq.tj.lo]; exact hun) (by first | assumption | exact St.tick (by assumption) | exact St.tick (St.tick (by assumption))) ?_
        by_cases hop : s1.op xl[i] = true
        · rw [show stepF (visitF on f) v s1 xl[i] = lowF v (s1.nm xl[i]) s1 by unfold stepF; rw [if_neg hz, if_pos hop]] at hstep
          rw [show s1.opn.getD xl[i].toNat false = true from hop]
          (repeat (first | (first | (with_reducible (first | refine w1 fun _ _ => ?_ | refine w3 fun _ _ _ => ?_ | refine w4 fun _ _ _ => ?_ | refine w11 fun _ _ _ => ?_ | refine stb_n ?_)) | ((with_reducible refine w2 ?_); try simp -implicitDefEqProofs only [EN, lsub, lget, stL, beq_self_eq_true, ne_eq, if_true, if_false, List.cons_append, List.nil_append, Option.isNone_some, Option.isNone_none, ix1 hv]; intro _ _) | ((with_reducible (first | refine w5 ?_ ?_ | refine w6 ?_ ?_ | refine w7 ?_ ?_)); simp; refine ⟨_, rfl, ?_⟩) | ((with_reducible (first | refine w8 ?_ ?_ ?_ | refine w9 ?_ ?_ ?_ | refine w10 ?_ ?_ ?_)); exact rfl; simp) | ((with_reducible refine w12 ?_ ?_ ?_ fun _ _ => ?_); simp; simp; simp [oneC]) | ((with_reducible (first | refine eqs ?_ | refine nes ?_)); refine ⟨_, rfl, ?_⟩) | ((refine okF_i (bldP_eq rfl) ?_); try simp only [BLS, List.take_succ_cons, List.take_zero, List.drop_succ_cons, List.drop_zero, List.cons_append, List.nil_append, Nat.reduceAdd])) | simp -implicitDefEqProofs only [EN, lsub, lget, stL, beq_self_eq_true, ne_eq, if_true, if_false, List.cons_append, List.nil_append, Option.isNone_some, Option.isNone_none, ix1 hv]))
          refine ldG (i := v.toNat) (l := s1.low) (by rw [hlq.tj.ll]; exact hvn) (by first | assumption | exact St.tick (by assumption) | exact St.tick (St.tick (by assumption))) ?_
          (repeat (first | (first | (with_reducible (first | refine w1 fun _ _ => ?_ | refine w3 fun _ _ _ => ?_ | refine w4 fun _ _ _ => ?_ | refine w11 fun _ _ _ => ?_ | refine stb_n ?_)) | ((with_reducible refine w2 ?_); try simp -implicitDefEqProofs only [EN, lsub, lget, stL, beq_self_eq_true, ne_eq, if_true, if_false, List.cons_append, List.nil_append, Option.isNone_some, Option.isNone_none, ix1 hux]; intro _ _) | ((with_reducible (first | refine w5 ?_ ?_ | refine w6 ?_ ?_ | refine w7 ?_ ?_)); simp; refine ⟨_, rfl, ?_⟩) | ((with_reducible (first | refine w8 ?_ ?_ ?_ | refine w9 ?_ ?_ ?_ | refine w10 ?_ ?_ ?_)); exact rfl; simp) | ((with_reducible refine w12 ?_ ?_ ?_ fun _ _ => ?_); simp; simp; simp [oneC]) | ((with_reducible (first | refine eqs ?_ | refine nes ?_)); refine ⟨_, rfl, ?_⟩) | ((refine okF_i (bldP_eq rfl) ?_); try simp only [BLS, List.take_succ_cons, List.take_zero, List.drop_succ_cons, List.drop_zero, List.cons_append, List.nil_append, Nat.reduceAdd])) | simp -implicitDefEqProofs only [EN, lsub, lget, stL, beq_self_eq_true, ne_eq, if_true, if_false, List.cons_append, List.nil_append, Option.isNone_some, Option.isNone_none, ix1 hux]))
          refine ldG (i := xl[i].toNat) (l := s1.num) (by rw [hlq.tj.ln]; exact hun) (by first | assumption | exact St.tick (by assumption) | exact St.tick (St.tick (by assumption))) ?_
          (repeat (first | (first | (with_reducible (first | refine w1 fun _ _ => ?_ | refine w3 fun _ _ _ => ?_ | refine w4 fun _ _ _ => ?_ | refine w11 fun _ _ _ => ?_ | refine stb_n ?_)) | ((with_reducible refine w2 ?_); try simp -implicitDefEqProofs only [EN, lsub, lget, stL, beq_self_eq_true, ne_eq, if_true, if_false, List.cons_append, List.nil_append, Option.isNone_some, Option.isNone_none, min2m, ix1 hv]; intro _ _) | ((with_reducible (first | refine w5 ?_ ?_ | refine w6 ?_ ?_ | refine w7 ?_ ?_)); simp; refine ⟨_, rfl, ?_⟩) | ((with_reducible (first | refine w8 ?_ ?_ ?_ | refine w9 ?_ ?_ ?_ | refine w10 ?_ ?_ ?_)); exact rfl; simp) | ((with_reducible refine w12 ?_ ?_ ?_ fun _ _ => ?_); simp; simp; simp [oneC]) | ((with_reducible (first | refine eqs ?_ | refine nes ?_)); refine ⟨_, rfl, ?_⟩) | ((refine okF_i (bldP_eq rfl) ?_); try simp only [BLS, List.take_succ_cons, List.take_zero, List.drop_succ_cons, List.drop_zero, List.cons_append, List.nil_append, Nat.reduceAdd])) | simp -implicitDefEqProofs only [EN, lsub, lget, stL, beq_self_eq_true, ne_eq, if_true, if_false, List.cons_append, List.nil_append, Option.isNone_some, Option.isNone_none, min2m, ix1 hv]))
          refine stG (i := v.toNat) (l := s1.low) (by rw [hlq.tj.ll]; exact hvn) (by first | assumption | exact St.tick (by assumption) | exact St.tick (St.tick (by assumption))) fun W10 h => ?_
          unfold S.order_finder_visit.j3
          (repeat (first | (first | (with_reducible (first | refine w1 fun _ _ => ?_ | refine w3 fun _ _ _ => ?_ | refine w4 fun _ _ _ => ?_ | refine w11 fun _ _ _ => ?_ | refine stb_n ?_)) | ((with_reducible refine w2 ?_); try simp -implicitDefEqProofs only [EN, lsub, lget, stL, beq_self_eq_true, ne_eq, if_true, if_false, List.cons_append, List.nil_append, Option.isNone_some, Option.isNone_none, eiw]; intro _ _) | ((with_reducible (first | refine w5 ?_ ?_ | refine w6 ?_ ?_ | refine w7 ?_ ?_)); simp; refine ⟨_, rfl, ?_⟩) | ((with_reducible (first | refine w8 ?_ ?_ ?_ | refine w9 ?_ ?_ ?_ | refine w10 ?_ ?_ ?_)); exact rfl; simp) | ((with_reducible refine w12 ?_ ?_ ?_ fun _ _ => ?_); simp; simp; simp [oneC]) | ((with_reducible (first | refine eqs ?_ | refine nes ?_)); refine ⟨_, rfl, ?_⟩) | ((refine okF_i (bldP_eq rfl) ?_); try simp only [BLS, List.take_succ_cons, List.take_zero, List.drop_succ_cons, List.drop_zero, List.cons_append, List.nil_append, Nat.reduceAdd])) | simp -implicitDefEqProofs only [EN, lsub, lget, stL, beq_self_eq_true, ne_eq, if_true, if_false, List.cons_append, List.nil_append, Option.isNone_some, Option.isNone_none, eiw]))
          refine hK () _ hib ⟨hnext, ?_⟩
          rw [hstep]
          exact fnd_of (low := s1.low.set v.toNat (min (s1.low.getD v.toNat 0) (s1.num.getD xl[i].toNat 0))) (some ⟨gn1, on1, none⟩) (some ⟨gl1, ol1, none⟩) st1 (some ⟨go1, oo1, none⟩) ag1 cn1 cl1 ct1 co1 cg1 (St.wk (by first | assumption | exact St.tick (by assumption) | exact St.tick (St.tick (by assumption))))
        · rw [show stepF (visitF on f) v s1 xl[i] = s1 by unfold stepF; rw [if_neg hz, if_neg hop]] at hstep
          rw [show s1.opn.getD xl[i].toNat false = false from Bool.eq_false_iff.2 hop]
          (repeat (first | (first | (with_reducible (first | refine w1 fun _ _ => ?_ | refine w3 fun _ _ _ => ?_ | refine w4 fun _ _ _ => ?_ | refine w11 fun _ _ _ => ?_ | refine stb_n ?_)) | ((with_reducible refine w2 ?_); try simp -implicitDefEqProofs only [EN, lsub, lget, stL, beq_self_eq_true, ne_eq, if_true, if_false, List.cons_append, List.nil_append, Option.isNone_some, Option.isNone_none]; intro _ _) | ((with_reducible (first | refine w5 ?_ ?_ | refine w6 ?_ ?_ | refine w7 ?_ ?_)); simp; refine ⟨_, rfl, ?_⟩) | ((with_reducible (first | refine w8 ?_ ?_ ?_ | refine w9 ?_ ?_ ?_ | refine w10 ?_ ?_ ?_)); exact rfl; simp) | ((with_reducible refine w12 ?_ ?_ ?_ fun _ _ => ?_); simp; simp; simp [oneC]) | ((with_reducible (first | refine eqs ?_ | refine nes ?_)); refine ⟨_, rfl, ?_⟩) | ((refine okF_i (bldP_eq rfl) ?_); try simp only [BLS, List.take_succ_cons, List.take_zero, List.drop_succ_cons, List.drop_zero, List.cons_append, List.nil_append, Nat.reduceAdd])) | simp -implicitDefEqProofs only [EN, lsub, lget, stL, beq_self_eq_true, ne_eq, if_true, if_false, List.cons_append, List.nil_append, Option.isNone_some, Option.isNone_none]))
          unfold S.order_finder_visit.j3
          (repeat (first | (first | (with_reducible (first | refine w1 fun _ _ => ?_ | refine w3 fun _ _ _ => ?_ | refine w4 fun _ _ _ => ?_ | refine w11 fun _ _ _ => ?_ | refine stb_n ?_)) | ((with_reducible refine w2 ?_); try simp -implicitDefEqProofs only [EN, lsub, lget, stL, beq_self_eq_true, ne_eq, if_true, if_false, List.cons_append, List.nil_append, Option.isNone_some, Option.isNone_none, eiw]; intro _ _) | ((with_reducible (first | refine w5 ?_ ?_ | refine w6 ?_ ?_ | refine w7 ?_ ?_)); simp; refine ⟨_, rfl, ?_⟩) | ((with_reducible (first | refine w8 ?_ ?_ ?_ | refine w9 ?_ ?_ ?_ | refine w10 ?_ ?_ ?_)); exact rfl; simp) | ((with_reducible refine w12 ?_ ?_ ?_ fun _ _ => ?_); simp; simp; simp [oneC]) | ((with_reducible (first | refine eqs ?_ | refine nes ?_)); refine ⟨_, rfl, ?_⟩) | ((refine okF_i (bldP_eq rfl) ?_); try simp only [BLS, List.take_succ_cons, List.take_zero, List.drop_succ_cons, List.drop_zero, List.cons_append, List.nil_append, Nat.reduceAdd])) | simp -implicitDefEqProofs only [EN, lsub, lget, stL, beq_self_eq_true, ne_eq, if_true, if_false, List.cons_append, List.nil_append, Option.isNone_some, Option.isNone_none, eiw]))
          refine hK () _ hib ⟨hnext, ?_⟩
          rw [hstep]
          exact fnd_of (some ⟨gn1, on1, none⟩) (some ⟨gl1, ol1, none⟩) st1 (some ⟨go1, oo1, none⟩) ag1 cn1 cl1 ct1 co1 cg1 (St.wk (by first | assumption | exact St.tick (by assumption) | exact St.tick (St.tick (by assumption))))
    · have hil : i = xl.length := by omega
      subst hil
      rw [List.take_length] at hlq h
      have hvis : visitF on (f + 1) v s = closeF v (xl.foldl (stepF (visitF on f) v) (enterF v s)) := by rw [← hxl]; rfl
      rw [hvis] at hk
      rw [← hxl] at hlq
      have hd := close_vd hlq hO hT hv h0
      rw [hxl] at hlq hd
      generalize xl.foldl (stepF (visitF on f) v) (enterF v s) = t at *
      obtain ⟨an1, cn1, al1, cl1, st1, ct1, ao1, co1, ag1, cg1, h⟩ := fnd_at h
      obtain ⟨gn1, on1, e1⟩ := posAddr (i := v.toNat) (a := an1) (A := I64) (l := t.num) h (by rw [hlq.tj.ln]; exact hvn)
      obtain ⟨gl1, ol1, e2⟩ := posAddr (i := v.toNat) (a := al1) (A := I64) (l := t.low) h (by rw [hlq.tj.ll]; exact hvn)
      obtain ⟨go1, oo1, e3⟩ := posAddr (i := v.toNat) (a := ao1) (A := BOO) (l := t.opn) h (by rw [hlq.tj.lo]; exact hvn)
      subst e1 e2 e3
      have hvt : v ∈ t.stack := by obtain ⟨e, he, _⟩ := hlq.ext; rw [he]; simp
      (repeat (first | (first | (with_reducible (first | refine w1 fun _ _ => ?_ | refine w3 fun _ _ _ => ?_ | refine w4 fun _ _ _ => ?_ | refine w11 fun _ _ _ => ?_ | refine stb_n ?_)) | ((with_reducible refine w2 ?_); try simp -implicitDefEqProofs only [EN, lsub, lget, stL, beq_self_eq_true, ne_eq, if_true, if_false, List.cons_append, List.nil_append, Option.isNone_some, Option.isNone_none, hlt]; intro _ _) | ((with_reducible (first | refine w5 ?_ ?_ | refine w6 ?_ ?_ | refine w7 ?_ ?_)); simp; refine ⟨_, rfl, ?_⟩) | ((with_reducible (first | refine w8 ?_ ?_ ?_ | refine w9 ?_ ?_ ?_ | refine w10 ?_ ?_ ?_)); exact rfl; simp) | ((with_reducible refine w12 ?_ ?_ ?_ fun _ _ => ?_); simp; simp; simp [oneC]) | ((with_reducible (first | refine eqs ?_ | refine nes ?_)); refine ⟨_, rfl, ?_⟩) | ((refine okF_i (bldP_eq rfl) ?_); try simp only [BLS, List.take_succ_cons, List.take_zero, List.drop_succ_cons, List.drop_zero, List.cons_append, List.nil_append, Nat.reduceAdd])) | simp -implicitDefEqProofs only [EN, lsub, lget, stL, beq_self_eq_true, ne_eq, if_true, if_false, List.cons_append, List.nil_append, Option.isNone_some, Option.isNone_none, hlt]))
      unfold S.order_finder_visit.j1
      (repeat (first | (first | (with_reducible (first | refine w1 fun _ _ => ?_ | refine w3 fun _ _ _ => ?_ | refine w4 fun _ _ _ => ?_ | refine w11 fun _ _ _ => ?_ | refine stb_n ?_)) | ((with_reducible refine w2 ?_); try simp -implicitDefEqProofs only [EN, lsub, lget, stL, beq_self_eq_true, ne_eq, if_true, if_false, List.cons_append, List.nil_append, Option.isNone_some, Option.isNone_none, ix1 hv]; intro _ _) | ((with_reducible (first | refine w5 ?_ ?_ | refine w6 ?_ ?_ | refine w7 ?_ ?_)); simp; refine ⟨_, rfl, ?_⟩) | ((with_reducible (first | refine w8 ?_ ?_ ?_ | refine w9 ?_ ?_ ?_ | refine w10 ?_ ?_ ?_)); exact rfl; simp) | ((with_reducible refine w12 ?_ ?_ ?_ fun _ _ => ?_); simp; simp; simp [oneC]) | ((with_reducible (first | refine eqs ?_ | refine nes ?_)); refine ⟨_, rfl, ?_⟩) | ((refine okF_i (bldP_eq rfl) ?_); try simp only [BLS, List.take_succ_cons, List.take_zero, List.drop_succ_cons, List.drop_zero, List.cons_append, List.nil_append, Nat.reduceAdd])) | simp -implicitDefEqProofs only [EN, lsub, lget, stL, beq_self_eq_true, ne_eq, if_true, if_false, List.cons_append, List.nil_append, Option.isNone_some, Option.isNone_none, ix1 hv]))
      refine ldG (i := v.toNat) (l := t.low) (by rw [hlq.tj.ll]; exact hvn) (by first | assumption | exact St.tick (by assumption) | exact St.tick (St.tick (by assumption))) ?_
      (repeat (first | (first | (with_reducible (first | refine w1 fun _ _ => ?_ | refine w3 fun _ _ _ => ?_ | refine w4 fun _ _ _ => ?_ | refine w11 fun _ _ _ => ?_ | refine stb_n ?_)) | ((with_reducible refine w2 ?_); try simp -implicitDefEqProofs only [EN, lsub, lget, stL, beq_self_eq_true, ne_eq, if_true, if_false, List.cons_append, List.nil_append, Option.isNone_some, Option.isNone_none, ix1 hv]; intro _ _) | ((with_reducible (first | refine w5 ?_ ?_ | refine w6 ?_ ?_ | refine w7 ?_ ?_)); simp; refine ⟨_, rfl, ?_⟩) | ((with_reducible (first | refine w8 ?_ ?_ ?_ | refine w9 ?_ ?_ ?_ | refine w10 ?_ ?_ ?_)); exact rfl; simp) | ((with_reducible refine w12 ?_ ?_ ?_ fun _ _ => ?_); simp; simp; simp [oneC]) | ((with_reducible (first | refine eqs ?_ | refine nes ?_)); refine ⟨_, rfl, ?_⟩) | ((refine okF_i (bldP_eq rfl) ?_); try simp only [BLS, List.take_succ_cons, List.take_zero, List.drop_succ_cons, List.drop_zero, List.cons_append, List.nil_append, Nat.reduceAdd])) | simp -implicitDefEqProofs only [EN, lsub, lget, stL, beq_self_eq_true, ne_eq, if_true, if_false, List.cons_append, List.nil_append, Option.isNone_some, Option.isNone_none, ix1 hv]))
      refine ldG (i := v.toNat) (l := t.num) (by rw [hlq.tj.ln]; exact hvn) (by first | assumption | exact St.tick (by assumption) | exact St.tick (St.tick (by assumption))) ?_
      by_cases hc : t.lw v = t.nm v
      · have hcl : closeF v t = ⟨t.num, t.low, t.stack.take (t.stack.idxOf v), shutF t.opn (sortZ (t.stack.drop (t.stack.idxOf v))), t.next, t.groups ++ [sortZ (t.stack.drop (t.stack.idxOf v))]⟩ := by unfold closeF; rw [if_neg (by simp [hc])]
        rw [hcl] at hk hd
        have hix : t.stack.idxOf v < t.stack.length := List.idxOf_lt_length_of_mem hvt
        have hsl : t.stack.length < 1000000 := by have := hlq.tj.slen; omega
        generalize hia : t.stack.idxOf v = at_ at *
        have hmem : ∀ u ∈ sortZ (t.stack.drop at_), u.toNat < n := fun u hu => by
          have := hlq.tj.rng u (.inr (List.mem_of_mem_drop ((sortZ_perm _).mem_iff.1 hu)))
          unfold Vx at this; omega
        have hgv : ∀ u ∈ sortZ (t.stack.drop at_), Vx n u := fun u hu => hlq.tj.rng u (.inr (List.mem_of_mem_drop ((sortZ_perm _).mem_iff.1 hu)))
        have hgn1 : (sortZ (t.stack.drop at_)).length < 1000000 := by rw [(sortZ_perm _).length_eq]; simp; omega
        have hcap : t.stack.length ≤ ct1 := (St.arrFacts (St.wk (L' := [arr I64 T_int st1 ct1 t.stack]) h)).1
        have ed : decide (t.low.getD v.toNat 0 = t.num.getD v.toNat 0) = true := decide_eq_true hc
        (repeat (first | (first | (with_reducible (first | refine w1 fun _ _ => ?_ | refine w3 fun _ _ _ => ?_ | refine w4 fun _ _ _ => ?_ | refine w11 fun _ _ _ => ?_ | refine stb_n ?_)) | ((with_reducible refine w2 ?_); try simp -implicitDefEqProofs only [EN, lsub, lget, stL, beq_self_eq_true, ne_eq, if_true, if_false, List.cons_append, List.nil_append, Option.isNone_some, Option.isNone_none, ed]; intro _ _) | ((with_reducible (first | refine w5 ?_ ?_ | refine w6 ?_ ?_ | refine w7 ?_ ?_)); simp; refine ⟨_, rfl, ?_⟩) | ((with_reducible (first | refine w8 ?_ ?_ ?_ | refine w9 ?_ ?_ ?_ | refine w10 ?_ ?_ ?_)); exact rfl; simp) | ((with_reducible refine w12 ?_ ?_ ?_ fun _ _ => ?_); simp; simp; simp [oneC]) | ((with_reducible (first | refine eqs ?_ | refine nes ?_)); refine ⟨_, rfl, ?_⟩) | ((refine okF_i (bldP_eq rfl) ?_); try simp only [BLS, List.take_succ_cons, List.take_zero, List.drop_succ_cons, List.drop_zero, List.cons_append, List.nil_append, Nat.reduceAdd])) | simp -implicitDefEqProofs only [EN, lsub, lget, stL, beq_self_eq_true, ne_eq, if_true, if_false, List.cons_append, List.nil_append, Option.isNone_some, Option.isNone_none, ed]))
        refine indexZ (l := t.stack) (x := v) (a := st1) (by first | assumption | exact St.tick (by assumption) | exact St.tick (St.tick (by assumption))) hsl fun W9 h => ?_
        rw [idxZ_eq _ _ hvt, hia]
        (repeat (first | (first | (with_reducible (first | refine w1 fun _ _ => ?_ | refine w3 fun _ _ _ => ?_ | refine w4 fun _ _ _ => ?_ | refine w11 fun _ _ _ => ?_ | refine stb_n ?_)) | ((with_reducible refine w2 ?_); try simp -implicitDefEqProofs only [EN, lsub, lget, stL, beq_self_eq_true, ne_eq, if_true, if_false, List.cons_append, List.nil_append, Option.isNone_some, Option.isNone_none]; intro _ _) | ((with_reducible (first | refine w5 ?_ ?_ | refine w6 ?_ ?_ | refine w7 ?_ ?_)); simp; refine ⟨_, rfl, ?_⟩) | ((with_reducible (first | refine w8 ?_ ?_ ?_ | refine w9 ?_ ?_ ?_ | refine w10 ?_ ?_ ?_)); exact rfl; simp) | ((with_reducible refine w12 ?_ ?_ ?_ fun _ _ => ?_); simp; simp; simp [oneC]) | ((with_reducible (first | refine eqs ?_ | refine nes ?_)); refine ⟨_, rfl, ?_⟩) | ((refine okF_i (bldP_eq rfl) ?_); try simp only [BLS, List.take_succ_cons, List.take_zero, List.drop_succ_cons, List.drop_zero, List.cons_append, List.nil_append, Nat.reduceAdd])) | simp -implicitDefEqProofs only [EN, lsub, lget, stL, beq_self_eq_true, ne_eq, if_true, if_false, List.cons_append, List.nil_append, Option.isNone_some, Option.isNone_none]))
        refine slcR h (a := st1) (A := I64) (l := t.stack) (lo := at_) (hi := t.stack.length) rfl rfl bnd_none (bnd_nat (by omega)) (by omega) (Nat.le_refl _) hcap fun a9 c9 hr9 => ?_
        rw [List.take_length] at hr9 ⊢
        refine sortedVals h h00 (by intro e; have := congrArg List.length e; simp at this; omega) (by simp; omega) fun a10 c10 W10 h => ?_
        rw [sortZ_merge] at h ⊢
        generalize sortZ (t.stack.drop at_) = grp at *
        clear hr9
        (repeat (first | (first | (with_reducible (first | refine w1 fun _ _ => ?_ | refine w3 fun _ _ _ => ?_ | refine w4 fun _ _ _ => ?_ | refine w11 fun _ _ _ => ?_ | refine stb_n ?_)) | ((with_reducible refine w2 ?_); try simp -implicitDefEqProofs only [EN, lsub, lget, stL, beq_self_eq_true, ne_eq, if_true, if_false, List.cons_append, List.nil_append, Option.isNone_some, Option.isNone_none]; intro _ _) | ((with_reducible (first | refine w5 ?_ ?_ | refine w6 ?_ ?_ | refine w7 ?_ ?_)); simp; refine ⟨_, rfl, ?_⟩) | ((with_reducible (first | refine w8 ?_ ?_ ?_ | refine w9 ?_ ?_ ?_ | refine w10 ?_ ?_ ?_)); exact rfl; simp) | ((with_reducible refine w12 ?_ ?_ ?_ fun _ _ => ?_); simp; simp; simp [oneC]) | ((with_reducible (first | refine eqs ?_ | refine nes ?_)); refine ⟨_, rfl, ?_⟩) | ((refine okF_i (bldP_eq rfl) ?_); try simp only [BLS, List.take_succ_cons, List.take_zero, List.drop_succ_cons, List.drop_zero, List.cons_append, List.nil_append, Nat.reduceAdd])) | simp -implicitDefEqProofs only [EN, lsub, lget, stL, beq_self_eq_true, ne_eq, if_true, if_false, List.cons_append, List.nil_append, Option.isNone_some, Option.isNone_none]))
        refine slcO (a := st1) (A := I64) (l := t.stack) (lo := 0) (hi := at_) h rfl rfl (bnd_nat (by omega)) bnd_none (Nat.zero_le _) (by omega) fun a11 c11 he => ?_
        rw [List.drop_zero] at he ⊢
        have h := h.ent he
        clear he
        (repeat (first | (first | (with_reducible (first | refine w1 fun _ _ => ?_ | refine w3 fun _ _ _ => ?_ | refine w4 fun _ _ _ => ?_ | refine w11 fun _ _ _ => ?_ | refine stb_n ?_)) | ((with_reducible refine w2 ?_); try simp -implicitDefEqProofs only [EN, lsub, lget, stL, beq_self_eq_true, ne_eq, if_true, if_false, List.cons_append, List.nil_append, Option.isNone_some, Option.isNone_none]; intro _ _) | ((with_reducible (first | refine w5 ?_ ?_ | refine w6 ?_ ?_ | refine w7 ?_ ?_)); simp; refine ⟨_, rfl, ?_⟩) | ((with_reducible (first | refine w8 ?_ ?_ ?_ | refine w9 ?_ ?_ ?_ | refine w10 ?_ ?_ ?_)); exact rfl; simp) | ((with_reducible refine w12 ?_ ?_ ?_ fun _ _ => ?_); simp; simp; simp [oneC]) | ((with_reducible (first | refine eqs ?_ | refine nes ?_)); refine ⟨_, rfl, ?_⟩) | ((refine okF_i (bldP_eq rfl) ?_); try simp only [BLS, List.take_succ_cons, List.take_zero, List.drop_succ_cons, List.drop_zero, List.cons_append, List.nil_append, Nat.reduceAdd])) | simp -implicitDefEqProofs only [EN, lsub, lget, stL, beq_self_eq_true, ne_eq, if_true, if_false, List.cons_append, List.nil_append, Option.isNone_some, Option.isNone_none]))
        rename_i W12 h
        (try simp only [BLS, List.take_succ_cons, List.take_zero, List.drop_succ_cons, List.drop_zero, List.cons_append, List.nil_append, List.append_nil, List.take_nil, List.drop_nil, stL, Nat.reduceAdd] at h)
        rw [show t.opn = shutF t.opn (grp.take 0) from rfl] at h
        refine joinK_i ?_
        refine loop_c (σ := Unit) grp.length (fun i _ => [.pointer (some ⟨p, 0, none⟩), .slice a10 grp.length c10, .slice a10 grp.length c10, .int .i64 grp.length, .int .i64 (i : Int)])
          (fun i _ W1 => St W0 (arr BOO T_bool (some ⟨go1, oo1, none⟩) co1 (shutF t.opn (grp.take i)) ::
            cells p [.slice (some ⟨gr, or', none⟩) n oc, .slice (some ⟨gn1, on1, none⟩) n cn1, .slice (some ⟨gl1, ol1, none⟩) n cl1, .slice a11 (t.stack.take at_).length c11, .slice (some ⟨go1, oo1, none⟩) n co1, .int .i64 t.next, .slice ag1 t.groups.length cg1] T_order_finder ::
            arr I64 T_int (some ⟨gn1, on1, none⟩) cn1 t.num :: arr I64 T_int (some ⟨gl1, ol1, none⟩) cl1 t.low :: arr I64 T_int a11 c11 (t.stack.take at_) :: LI ag1 cg1 t.groups :: arr I64 T_int a10 c10 grp :: arr ISY T_s_int (some ⟨gr, or', none⟩) oc rows :: many ich rows :: L) W1) () rfl (St.wk h) ?_
        clear h
        rintro K i _ W11 hi h hK
        simp -implicitDefEqProofs only [EN, lsub, lget, stL, beq_self_eq_true, ne_eq, if_true, if_false, List.cons_append, List.nil_append, Option.isNone_some, Option.isNone_none]
        unfold S.order_finder_visit.l1
        by_cases hlt : (i : Int) < (grp.length : Int)
        · have hib : i < grp.length := by omega
          have ew : IntKind.i64.wrap ((i : Int) + 1) = ((i + 1 : Nat) : Int) := by rw [i64w]; omega
          have hgi := hmem grp[i] (List.getElem_mem _)
          have htk : grp.take (i + 1) = grp.take i ++ [grp[i]] := List.take_succ_eq_append_getElem hib
          have hsh : shutF t.opn (grp.take (i + 1)) = (shutF t.opn (grp.take i)).set grp[i].toNat false := by rw [htk]; unfold shutF; rw [List.foldl_append]; rfl
          have hle : grp[i].toNat < (shutF t.opn (grp.take i)).length := by rw [shut_len, hlq.tj.lo]; exact hgi
          have hgx : Vx n grp[i] := hgv _ (List.getElem_mem _)
          (repeat (first | (first | (with_reducible (first | refine w1 fun _ _ => ?_ | refine w3 fun _ _ _ => ?_ | refine w4 fun _ _ _ => ?_ | refine w11 fun _ _ _ => ?_ | refine stb_n ?_)) | ((with_reducible refine w2 ?_); try simp -implicitDefEqProofs only [EN, lsub, lget, stL, beq_self_eq_true, ne_eq, if_true, if_false, List.cons_append, List.nil_append, Option.isNone_some, Option.isNone_none, hlt]; intro _ _) | ((with_reducible (first | refine w5 ?_ ?_ | refine w6 ?_ ?_ | refine w7 ?_ ?_)); simp; refine ⟨_, rfl, ?_⟩) | ((with_reducible (first | refine w8 ?_ ?_ ?_ | refine w9 ?_ ?_ ?_ | refine w10 ?_ ?_ ?_)); exact rfl; simp) | ((with_reducible refine w12 ?_ ?_ ?_ fun _ _ => ?_); simp; simp; simp [oneC]) | ((with_reducible (first | refine eqs ?_ | refine nes ?_)); refine ⟨_, rfl, ?_⟩) | ((refine okF_i (bldP_eq rfl) ?_); try simp only [BLS, List.take_succ_cons, List.take_zero, List.drop_succ_cons, List.drop_zero, List.cons_append, List.nil_append, Nat.reduceAdd])) | simp -implicitDefEqProofs only [EN, lsub, lget, stL, beq_self_eq_true, ne_eq, if_true, if_false, List.cons_append, List.nil_append, Option.isNone_some, Option.isNone_none, hlt]))
          refine ixA (i := i) (a := a10) (l := grp) (A := I64) h rfl rfl hib fun g o ha => ?_
          cases ha
          refine ldA0 (i := i) (l := grp) (A := I64) (by first | assumption | exact St.tick (by assumption) | exact St.tick (St.tick (by assumption))) rfl hib (v := .int .i64 grp[i]) rfl (by simp) ?_
          (repeat (first | (first | (with_reducible (first | refine w1 fun _ _ => ?_ | refine w3 fun _ _ _ => ?_ | refine w4 fun _ _ _ => ?_ | refine w11 fun _ _ _ => ?_ | refine stb_n ?_)) | ((with_reducible refine w2 ?_); try simp -implicitDefEqProofs only [EN, lsub, lget, stL, beq_self_eq_true, ne_eq, if_true, if_false, List.cons_append, List.nil_append, Option.isNone_some, Option.isNone_none, ix1 hgx]; intro _ _) | ((with_reducible (first | refine w5 ?_ ?_ | refine w6 ?_ ?_ | refine w7 ?_ ?_)); simp; refine ⟨_, rfl, ?_⟩) | ((with_reducible (first | refine w8 ?_ ?_ ?_ | refine w9 ?_ ?_ ?_ | refine w10 ?_ ?_ ?_)); exact rfl; simp) | ((with_reducible refine w12 ?_ ?_ ?_ fun _ _ => ?_); simp; simp; simp [oneC]) | ((with_reducible (first | refine eqs ?_ | refine nes ?_)); refine ⟨_, rfl, ?_⟩) | ((refine okF_i (bldP_eq rfl) ?_); try simp only [BLS, List.take_succ_cons, List.take_zero, List.drop_succ_cons, List.drop_zero, List.cons_append, List.nil_append, Nat.reduceAdd])) | simp -implicitDefEqProofs only [EN, lsub, lget, stL, beq_self_eq_true, ne_eq, if_true, if_false, List.cons_append, List.nil_append, Option.isNone_some, Option.isNone_none, ix1 hgx]))
          refine stGb (i := grp[i].toNat) (m := shutF t.opn (grp.take i)) (x := false) hle h fun W12 h => ?_
          (repeat (first | (first | (with_reducible (first | refine w1 fun _ _ => ?_ | refine w3 fun _ _ _ => ?_ | refine w4 fun _ _ _ => ?_ | refine w11 fun _ _ _ => ?_ | refine stb_n ?_)) | ((with_reducible refine w2 ?_); try simp -implicitDefEqProofs only [EN, lsub, lget, stL, beq_self_eq_true, ne_eq, if_true, if_false, List.cons_append, List.nil_append, Option.isNone_some, Option.isNone_none, ew]; intro _ _) | ((with_reducible (first | refine w5 ?_ ?_ | refine w6 ?_ ?_ | refine w7 ?_ ?_)); simp; refine ⟨_, rfl, ?_⟩) | ((with_reducible (first | refine w8 ?_ ?_ ?_ | refine w9 ?_ ?_ ?_ | refine w10 ?_ ?_ ?_)); exact rfl; simp) | ((with_reducible refine w12 ?_ ?_ ?_ fun _ _ => ?_); simp; simp; simp [oneC]) | ((with_reducible (first | refine eqs ?_ | refine nes ?_)); refine ⟨_, rfl, ?_⟩) | ((refine okF_i (bldP_eq rfl) ?_); try simp only [BLS, List.take_succ_cons, List.take_zero, List.drop_succ_cons, List.drop_zero, List.cons_append, List.nil_append, Nat.reduceAdd])) | simp -implicitDefEqProofs only [EN, lsub, lget, stL, beq_self_eq_true, ne_eq, if_true, if_false, List.cons_append, List.nil_append, Option.isNone_some, Option.isNone_none, ew]))
          rw [← hsh] at h
          exact hK () _ hib (St.wk h)
        · have hil : i = grp.length := by omega
          subst hil
          rw [List.take_length] at h
          (repeat (first | (first | (with_reducible (first | refine w1 fun _ _ => ?_ | refine w3 fun _ _ _ => ?_ | refine w4 fun _ _ _ => ?_ | refine w11 fun _ _ _ => ?_ | refine stb_n ?_)) | ((with_reducible refine w2 ?_); try simp -implicitDefEqProofs only [EN, lsub, lget, stL, beq_self_eq_true, ne_eq, if_true, if_false, List.cons_append, List.nil_append, Option.isNone_some, Option.isNone_none, hlt]; intro _ _) | ((with_reducible (first | refine w5 ?_ ?_ | refine w6 ?_ ?_ | refine w7 ?_ ?_)); simp; refine ⟨_, rfl, ?_⟩) | ((with_reducible (first | refine w8 ?_ ?_ ?_ | refine w9 ?_ ?_ ?_ | refine w10 ?_ ?_ ?_)); exact rfl; simp) | ((with_reducible refine w12 ?_ ?_ ?_ fun _ _ => ?_); simp; simp; simp [oneC]) | ((with_reducible (first | refine eqs ?_ | refine nes ?_)); refine ⟨_, rfl, ?_⟩) | ((refine okF_i (bldP_eq rfl) ?_); try simp only [BLS, List.take_succ_cons, List.take_zero, List.drop_succ_cons, List.drop_zero, List.cons_append, List.nil_append, Nat.reduceAdd])) | simp -implicitDefEqProofs only [EN, lsub, lget, stL, beq_self_eq_true, ne_eq, if_true, if_false, List.cons_append, List.nil_append, Option.isNone_some, Option.isNone_none, hlt]))
          unfold S.order_finder_visit.j2
          (repeat (first | (first | (with_reducible (first | refine w1 fun _ _ => ?_ | refine w3 fun _ _ _ => ?_ | refine w4 fun _ _ _ => ?_ | refine w11 fun _ _ _ => ?_ | refine stb_n ?_)) | ((with_reducible refine w2 ?_); try simp -implicitDefEqProofs only [EN, lsub, lget, stL, beq_self_eq_true, ne_eq, if_true, if_false, List.cons_append, List.nil_append, Option.isNone_some, Option.isNone_none]; intro _ _) | ((with_reducible (first | refine w5 ?_ ?_ | refine w6 ?_ ?_ | refine w7 ?_ ?_)); simp; refine ⟨_, rfl, ?_⟩) | ((with_reducible (first | refine w8 ?_ ?_ ?_ | refine w9 ?_ ?_ ?_ | refine w10 ?_ ?_ ?_)); exact rfl; simp) | ((with_reducible refine w12 ?_ ?_ ?_ fun _ _ => ?_); simp; simp; simp [oneC]) | ((with_reducible (first | refine eqs ?_ | refine nes ?_)); refine ⟨_, rfl, ?_⟩) | ((refine okF_i (bldP_eq rfl) ?_); try simp only [BLS, List.take_succ_cons, List.take_zero, List.drop_succ_cons, List.drop_zero, List.cons_append, List.nil_append, Nat.reduceAdd])) | simp -implicitDefEqProofs only [EN, lsub, lget, stL, beq_self_eq_true, ne_eq, if_true, if_false, List.cons_append, List.nil_append, Option.isNone_some, Option.isNone_none]))
          refine bsA ISY [(⟨a10, c10, grp⟩ : ISl)] (n := 1) (by first | assumption | exact St.tick (by assumption) | exact St.tick (St.tick (by assumption))) rfl rfl (by decide) (by decide) rfl fun a5 c5 W5 h => ?_
          obtain ⟨rg, hrg, h⟩ := li_at (St.wk (L' := LI ag1 cg1 t.groups :: arr ISY T_s_int a5 c5 [(⟨a10, c10, grp⟩ : ISl)] :: arr BOO T_bool (some ⟨go1, oo1, none⟩) co1 (shutF t.opn grp) ::
            cells p [.slice (some ⟨gr, or', none⟩) n oc, .slice (some ⟨gn1, on1, none⟩) n cn1, .slice (some ⟨gl1, ol1, none⟩) n cl1, .slice a11 (t.stack.take at_).length c11, .slice (some ⟨go1, oo1, none⟩) n co1, .int .i64 t.next, .slice ag1 t.groups.length cg1] T_order_finder ::
            arr I64 T_int (some ⟨gn1, on1, none⟩) cn1 t.num :: arr I64 T_int (some ⟨gl1, ol1, none⟩) cl1 t.low :: arr I64 T_int a11 c11 (t.stack.take at_) :: arr I64 T_int a10 c10 grp :: arr ISY T_s_int (some ⟨gr, or', none⟩) oc rows :: many ich rows :: L) h)
          have hgl : rg.length = t.groups.length := by rw [← hrg, List.length_map]
          rw [← hgl]
          have hgn : rg.length < 1000000 := by have := hlq.tj.glen; omega
          refine appA (A := ISY) (a := ag1) (l := rg) (m := [(⟨a10, c10, grp⟩ : ISl)]) h rfl (by simp only [List.length_cons, List.length_nil]; omega) (by simp only [List.length_cons, List.length_nil, maxLen]; omega) fun a6 c6 W6 h => ?_
          rw [← hgl] at h
          (repeat (first | (first | (with_reducible (first | refine w1 fun _ _ => ?_ | refine w3 fun _ _ _ => ?_ | refine w4 fun _ _ _ => ?_ | refine w11 fun _ _ _ => ?_ | refine stb_n ?_)) | ((with_reducible refine w2 ?_); try simp -implicitDefEqProofs only [EN, lsub, lget, stL, beq_self_eq_true, ne_eq, if_true, if_false, List.cons_append, List.nil_append, Option.isNone_some, Option.isNone_none]; intro _ _) | ((with_reducible (first | refine w5 ?_ ?_ | refine w6 ?_ ?_ | refine w7 ?_ ?_)); simp; refine ⟨_, rfl, ?_⟩) | ((with_reducible (first | refine w8 ?_ ?_ ?_ | refine w9 ?_ ?_ ?_ | refine w10 ?_ ?_ ?_)); exact rfl; simp) | ((with_reducible refine w12 ?_ ?_ ?_ fun _ _ => ?_); simp; simp; simp [oneC]) | ((with_reducible (first | refine eqs ?_ | refine nes ?_)); refine ⟨_, rfl, ?_⟩) | ((refine okF_i (bldP_eq rfl) ?_); try simp only [BLS, List.take_succ_cons, List.take_zero, List.drop_succ_cons, List.drop_zero, List.cons_append, List.nil_append, Nat.reduceAdd])) | simp -implicitDefEqProofs only [EN, lsub, lget, stL, beq_self_eq_true, ne_eq, if_true, if_false, List.cons_append, List.nil_append, Option.isNone_some, Option.isNone_none]))
          rename_i W13 h
          (try simp only [BLS, List.take_succ_cons, List.take_zero, List.drop_succ_cons, List.drop_zero, List.cons_append, List.nil_append, List.append_nil, List.take_nil, List.drop_nil, stL, Nat.reduceAdd] at h)
          refine hk _ ?_
          have h := li_snoc (y := ⟨a10, c10, grp⟩) (ag := a6) (cg := c6) (L := arr BOO T_bool (some ⟨go1, oo1, none⟩) co1 (shutF t.opn grp) ::
            cells p [.slice (some ⟨gr, or', none⟩) n oc, .slice (some ⟨gn1, on1, none⟩) n cn1, .slice (some ⟨gl1, ol1, none⟩) n cl1, .slice a11 (t.stack.take at_).length c11, .slice (some ⟨go1, oo1, none⟩) n co1, .int .i64 t.next, .slice a6 (rg ++ [(⟨a10, c10, grp⟩ : ISl)]).length c6] T_order_finder ::
            arr I64 T_int (some ⟨gn1, on1, none⟩) cn1 t.num :: arr I64 T_int (some ⟨gl1, ol1, none⟩) cl1 t.low :: arr I64 T_int a11 c11 (t.stack.take at_) :: arr ISY T_s_int (some ⟨gr, or', none⟩) oc rows :: many ich rows :: L) hrg (St.wk h)
          have hgl2 : (rg ++ [(⟨a10, c10, grp⟩ : ISl)]).length = (t.groups ++ [grp]).length := by simp [hgl]
          rw [hgl2] at h
          exact fnd_of (some ⟨gn1, on1, none⟩) (some ⟨gl1, ol1, none⟩) a11 (some ⟨go1, oo1, none⟩) a6 cn1 cl1 c11 co1 c6 (St.wk h)
      · have hcl : closeF v t = t := by unfold closeF; rw [if_pos hc]
        rw [hcl] at hk
        have ed : decide (t.low.getD v.toNat 0 = t.num.getD v.toNat 0) = false := decide_eq_false hc
        (repeat (first | (first | (with_reducible (first | refine w1 fun _ _ => ?_ | refine w3 fun _ _ _ => ?_ | refine w4 fun _ _ _ => ?_ | refine w11 fun _ _ _ => ?_ | refine stb_n ?_)) | ((with_reducible refine w2 ?_); try simp -implicitDefEqProofs only [EN, lsub, lget, stL, beq_self_eq_true, ne_eq, if_true, if_false, List.cons_append, List.nil_append, Option.isNone_some, Option.isNone_none, ed]; intro _ _) | ((with_reducible (first | refine w5 ?_ ?_ | refine w6 ?_ ?_ | refine w7 ?_ ?_)); simp; refine ⟨_, rfl, ?_⟩) | ((with_reducible (first | refine w8 ?_ ?_ ?_ | refine w9 ?_ ?_ ?_ | refine w10 ?_ ?_ ?_)); exact rfl; simp) | ((with_reducible refine w12 ?_ ?_ ?_ fun _ _ => ?_); simp; simp; simp [oneC]) | ((with_reducible (first | refine eqs ?_ | refine nes ?_)); refine ⟨_, rfl, ?_⟩) | ((refine okF_i (bldP_eq rfl) ?_); try simp only [BLS, List.take_succ_cons, List.take_zero, List.drop_succ_cons, List.drop_zero, List.cons_append, List.nil_append, Nat.reduceAdd])) | simp -implicitDefEqProofs only [EN, lsub, lget, stL, beq_self_eq_true, ne_eq, if_true, if_false, List.cons_append, List.nil_append, Option.isNone_some, Option.isNone_none, ed]))
        exact hk _ (fnd_of (some ⟨gn1, on1, none⟩) (some ⟨gl1, ol1, none⟩) st1 (some ⟨go1, oo1, none⟩) ag1 cn1 cl1 ct1 co1 cg1 (St.wk (by first | assumption | exact St.tick (by assumption) | exact St.tick (St.tick (by assumption)))))
end
end Go.Proofs.Ytkjhccpanedccaa
namespace Go.Proofs.Ytkjhccpanedccaa
set_option linter.unusedVariables false
set_option linter.unusedSimpArgs false
open Go Go.Eng Go.Tar
section
variable {W0 W : World} {L L' : List Asn} {a : Option Addr} {c : Nat} {on : List (List Int)}
theorem mkZ {n : Nat} {k : Value → World → Prop} (h : St W0 L W) (hn : n ≤ 1000000) (hk : ∀ a c W', St W0 (arr I64 T_int a c (List.replicate n 0) :: L) W' → k (.slice a n c) W') : efK PR (Instr.makeSlice T_s_int (.int .i64 (n : Int)) (.int .i64 (n : Int))) k W :=
  mkS (A := I64) 0 n h rfl rfl hn (by omega) fun a c W' h' => by have := hk a c W' h'; rwa [List.length_replicate]
theorem mkB {n : Nat} {k : Value → World → Prop} (h : St W0 L W) (hn : n ≤ 1000000) (hk : ∀ a c W', St W0 (arr BOO T_bool a c (List.replicate n false) :: L) W' → k (.slice a n c) W') : efK PR (Instr.makeSlice T_s_bool (.int .i64 (n : Int)) (.int .i64 (n : Int))) k W :=
  mkS (A := BOO) false n h rfl rfl hn (by omega) fun a c W' h' => by have := hk a c W' h'; rwa [List.length_replicate]
theorem li_none : ent L (LI none 0 [] :: L) := ((many_nil (F := ich)).trans (arr_nil ISY T_s_int)).trans (li_ent (rows := []) rfl)
set_option maxRecDepth 100000 in
set_option maxHeartbeats 4000000 in
theorem ordGroups (h00 : W0.drawn = 0) (hO : OnOk on on.length) (hn : on.length ≤ 1000) (hrl : ∀ v, (rowOf on v).length < 1000000) {k : Value → World → Prop} (h : St W0 (LI a c on :: L) W)
    (hk : ∀ a' c' W', St W0 (LI a' c' (groupsF on) :: LI a c on :: L) W' → k (.slice a' (groupsF on).length c') W') : callK PR F_order_groups [.slice a on.length c] k W := by
  apply S.order_groups.call
  unfold S.order_groups.body
  obtain ⟨rows, hrows, h⟩ := li_at h
  have key : ∀ (p : Nat) (W : World), St W0 (fnd p a c on.length (startF on.length) :: arr ISY T_s_int a c rows :: many ich rows :: L) W → S.order_groups.j1 k (.slice a on.length c) (.pointer (some ⟨p, 0, none⟩)) W := by
    clear h
    intro p W h
    unfold S.order_groups.j1
    refine joinK_i ?_
    (repeat (first | (first | (with_reducible (first | refine w1 fun _ _ => ?_ | refine w3 fun _ _ _ => ?_ | refine w4 fun _ _ _ => ?_ | refine w11 fun _ _ _ => ?_ | refine stb_n ?_)) | ((with_reducible refine w2 ?_); try simp -implicitDefEqProofs only [EN, lsub, lget, stL, beq_self_eq_true, ne_eq, if_true, if_false, List.cons_append, List.nil_append, Option.isNone_some, Option.isNone_none]; intro _ _) | ((with_reducible (first | refine w5 ?_ ?_ | refine w6 ?_ ?_ | refine w7 ?_ ?_)); simp; refine ⟨_, rfl, ?_⟩) | ((with_reducible (first | refine w8 ?_ ?_ ?_ | refine w9 ?_ ?_ ?_ | refine w10 ?_ ?_ ?_)); exact rfl; simp) | ((with_reducible refine w12 ?_ ?_ ?_ fun _ _ => ?_); simp; simp; simp [oneC]) | ((with_reducible (first | refine eqs ?_ | refine nes ?_)); refine ⟨_, rfl, ?_⟩) | ((refine okF_i (bldP_eq rfl) ?_); try simp only [BLS, List.take_succ_cons, List.take_zero, List.drop_succ_cons, List.drop_zero, List.cons_append, List.nil_append, Nat.reduceAdd])) | simp -implicitDefEqProofs only [EN, lsub, lget, stL, beq_self_eq_true, ne_eq, if_true, if_false, List.cons_append, List.nil_append, Option.isNone_some, Option.isNone_none]))
    refine loop_c (σ := Unit) on.length (fun i _ => [.pointer (some ⟨p, 0, none⟩), .int .i64 on.length, .int .i64 (i : Int)])
      (fun i _ W1 => St W0 (fnd p a c on.length (allF on on.length i) :: arr ISY T_s_int a c rows :: many ich rows :: L) W1) () rfl h ?_
    clear h
    rintro K i _ W1 hi h hK
    simp -implicitDefEqProofs only [EN, lsub, lget, stL, beq_self_eq_true, ne_eq, if_true, if_false, List.cons_append, List.nil_append, Option.isNone_some, Option.isNone_none]
    unfold S.order_groups.l1
    have hT := (all_tj hO i hi).1
    by_cases hlt : (i : Int) < (on.length : Int)
    · have hib : i < on.length := by omega
      have ew : IntKind.i64.wrap ((i : Int) + 1) = ((i + 1 : Nat) : Int) := by rw [i64w]; omega
      have hv : Vx on.length (i : Int) := ⟨by omega, by omega⟩
      have hsu := allF_succ (on := on) (n := on.length) i
      generalize allF on on.length i = s at *
      obtain ⟨an, cn, al, cl, st, ct, ao, co, ag, cg, h⟩ := fnd_at h
      obtain ⟨gn, on', e1⟩ := posAddr (i := i) (a := an) (A := I64) (l := s.num) h (by rw [hT.ln]; exact hib)
      subst e1
      (repeat (first | (first | (with_reducible (first | refine w1 fun _ _ => ?_ | refine w3 fun _ _ _ => ?_ | refine w4 fun _ _ _ => ?_ | refine w11 fun _ _ _ => ?_ | refine stb_n ?_)) | ((with_reducible refine w2 ?_); try simp -implicitDefEqProofs only [EN, lsub, lget, stL, beq_self_eq_true, ne_eq, if_true, if_false, List.cons_append, List.nil_append, Option.isNone_some, Option.isNone_none, hlt]; intro _ _) | ((with_reducible (first | refine w5 ?_ ?_ | refine w6 ?_ ?_ | refine w7 ?_ ?_)); simp; refine ⟨_, rfl, ?_⟩) | ((with_reducible (first | refine w8 ?_ ?_ ?_ | refine w9 ?_ ?_ ?_ | refine w10 ?_ ?_ ?_)); exact rfl; simp) | ((with_reducible refine w12 ?_ ?_ ?_ fun _ _ => ?_); simp; simp; simp [oneC]) | ((with_reducible (first | refine eqs ?_ | refine nes ?_)); refine ⟨_, rfl, ?_⟩) | ((refine okF_i (bldP_eq rfl) ?_); try simp only [BLS, List.take_succ_cons, List.take_zero, List.drop_succ_cons, List.drop_zero, List.cons_append, List.nil_append, Nat.reduceAdd])) | simp -implicitDefEqProofs only [EN, lsub, lget, stL, beq_self_eq_true, ne_eq, if_true, if_false, List.cons_append, List.nil_append, Option.isNone_some, Option.isNone_none, hlt]))
      refine joinK_i ?_
      (repeat (first | (first | (with_reducible (first | refine w1 fun _ _ => ?_ | refine w3 fun _ _ _ => ?_ | refine w4 fun _ _ _ => ?_ | refine w11 fun _ _ _ => ?_ | refine stb_n ?_)) | ((with_reducible refine w2 ?_); try simp -implicitDefEqProofs only [EN, lsub, lget, stL, beq_self_eq_true, ne_eq, if_true, if_false, List.cons_append, List.nil_append, Option.isNone_some, Option.isNone_none, ix1 hv]; intro _ _) | ((with_reducible (first | refine w5 ?_ ?_ | refine w6 ?_ ?_ | refine w7 ?_ ?_)); simp; refine ⟨_, rfl, ?_⟩) | ((with_reducible (first | refine w8 ?_ ?_ ?_ | refine w9 ?_ ?_ ?_ | refine w10 ?_ ?_ ?_)); exact rfl; simp) | ((with_reducible refine w12 ?_ ?_ ?_ fun _ _ => ?_); simp; simp; simp [oneC]) | ((with_reducible (first | refine eqs ?_ | refine nes ?_)); refine ⟨_, rfl, ?_⟩) | ((refine okF_i (bldP_eq rfl) ?_); try simp only [BLS, List.take_succ_cons, List.take_zero, List.drop_succ_cons, List.drop_zero, List.cons_append, List.nil_append, Nat.reduceAdd])) | simp -implicitDefEqProofs only [EN, lsub, lget, stL, beq_self_eq_true, ne_eq, if_true, if_false, List.cons_append, List.nil_append, Option.isNone_some, Option.isNone_none, ix1 hv]))
      refine ldG (i := (i : Int).toNat) (l := s.num) (by rw [hT.ln]; omega) (by first | assumption | exact St.tick (by assumption) | exact St.tick (St.tick (by assumption))) ?_
      by_cases hz : s.nm (i : Int) = 0
      · have ez : decide (s.num.getD (i : Int).toNat 0 = 0) = true := decide_eq_true hz
        rw [if_pos hz] at hsu
        (repeat (first | (first | (with_reducible (first | refine w1 fun _ _ => ?_ | refine w3 fun _ _ _ => ?_ | refine w4 fun _ _ _ => ?_ | refine w11 fun _ _ _ => ?_ | refine stb_n ?_)) | ((with_reducible refine w2 ?_); try simp -implicitDefEqProofs only [EN, lsub, lget, stL, beq_self_eq_true, ne_eq, if_true, if_false, List.cons_append, List.nil_append, Option.isNone_some, Option.isNone_none, ez]; intro _ _) | ((with_reducible (first | refine w5 ?_ ?_ | refine w6 ?_ ?_ | refine w7 ?_ ?_)); simp; refine ⟨_, rfl, ?_⟩) | ((with_reducible (first | refine w8 ?_ ?_ ?_ | refine w9 ?_ ?_ ?_ | refine w10 ?_ ?_ ?_)); exact rfl; simp) | ((with_reducible refine w12 ?_ ?_ ?_ fun _ _ => ?_); simp; simp; simp [oneC]) | ((with_reducible (first | refine eqs ?_ | refine nes ?_)); refine ⟨_, rfl, ?_⟩) | ((refine okF_i (bldP_eq rfl) ?_); try simp only [BLS, List.take_succ_cons, List.take_zero, List.drop_succ_cons, List.drop_zero, List.cons_append, List.nil_append, Nat.reduceAdd])) | simp -implicitDefEqProofs only [EN, lsub, lget, stL, beq_self_eq_true, ne_eq, if_true, if_false, List.cons_append, List.nil_append, Option.isNone_some, Option.isNone_none, ez]))
        refine ordVisit h00 hO hn hrows hrl on.length i s [] _ _ hT hv hz (by simp) (by have := hT.cnt; have := hT.nn i; omega) (fnd_of (oa := a) (oc := c) (p := p) (L := arr ISY T_s_int a c rows :: many ich rows :: L) (some ⟨gn, on', none⟩) al st ao ag cn cl ct co cg (St.wk (by first | assumption | exact St.tick (by assumption) | exact St.tick (St.tick (by assumption))))) fun W9 h => ?_
        unfold S.order_groups.j3
        (repeat (first | (first | (with_reducible (first | refine w1 fun _ _ => ?_ | refine w3 fun _ _ _ => ?_ | refine w4 fun _ _ _ => ?_ | refine w11 fun _ _ _ => ?_ | refine stb_n ?_)) | ((with_reducible refine w2 ?_); try simp -implicitDefEqProofs only [EN, lsub, lget, stL, beq_self_eq_true, ne_eq, if_true, if_false, List.cons_append, List.nil_append, Option.isNone_some, Option.isNone_none, ew]; intro _ _) | ((with_reducible (first | refine w5 ?_ ?_ | refine w6 ?_ ?_ | refine w7 ?_ ?_)); simp; refine ⟨_, rfl, ?_⟩) | ((with_reducible (first | refine w8 ?_ ?_ ?_ | refine w9 ?_ ?_ ?_ | refine w10 ?_ ?_ ?_)); exact rfl; simp) | ((with_reducible refine w12 ?_ ?_ ?_ fun _ _ => ?_); simp; simp; simp [oneC]) | ((with_reducible (first | refine eqs ?_ | refine nes ?_)); refine ⟨_, rfl, ?_⟩) | ((refine okF_i (bldP_eq rfl) ?_); try simp only [BLS, List.take_succ_cons, List.take_zero, List.drop_succ_cons, List.drop_zero, List.cons_append, List.nil_append, Nat.reduceAdd])) | simp -implicitDefEqProofs only [EN, lsub, lget, stL, beq_self_eq_true, ne_eq, if_true, if_false, List.cons_append, List.nil_append, Option.isNone_some, Option.isNone_none, ew]))
        exact hK () _ hib (by rw [hsu]; exact h)
      · have ez : decide (s.num.getD (i : Int).toNat 0 = 0) = false := decide_eq_false hz
        rw [if_neg hz] at hsu
        (repeat (first | (first | (with_reducible (first | refine w1 fun _ _ => ?_ | refine w3 fun _ _ _ => ?_ | refine w4 fun _ _ _ => ?_ | refine w11 fun _ _ _ => ?_ | refine stb_n ?_)) | ((with_reducible refine w2 ?_); try simp -implicitDefEqProofs only [EN, lsub, lget, stL, beq_self_eq_true, ne_eq, if_true, if_false, List.cons_append, List.nil_append, Option.isNone_some, Option.isNone_none, ez]; intro _ _) | ((with_reducible (first | refine w5 ?_ ?_ | refine w6 ?_ ?_ | refine w7 ?_ ?_)); simp; refine ⟨_, rfl, ?_⟩) | ((with_reducible (first | refine w8 ?_ ?_ ?_ | refine w9 ?_ ?_ ?_ | refine w10 ?_ ?_ ?_)); exact rfl; simp) | ((with_reducible refine w12 ?_ ?_ ?_ fun _ _ => ?_); simp; simp; simp [oneC]) | ((with_reducible (first | refine eqs ?_ | refine nes ?_)); refine ⟨_, rfl, ?_⟩) | ((refine okF_i (bldP_eq rfl) ?_); try simp only [BLS, List.take_succ_cons, List.take_zero, List.drop_succ_cons, List.drop_zero, List.cons_append, List.nil_append, Nat.reduceAdd])) | simp -implicitDefEqProofs only [EN, lsub, lget, stL, beq_self_eq_true, ne_eq, if_true, if_false, List.cons_append, List.nil_append, Option.isNone_some, Option.isNone_none, ez]))
        unfold S.order_groups.j3
        (repeat (first | (first | (with_reducible (first | refine w1 fun _ _ => ?_ | refine w3 fun _ _ _ => ?_ | refine w4 fun _ _ _ => ?_ | refine w11 fun _ _ _ => ?_ | refine stb_n ?_)) | ((with_reducible refine w2 ?_); try simp -implicitDefEqProofs only [EN, lsub, lget, stL, beq_self_eq_true, ne_eq, if_true, if_false, List.cons_append, List.nil_append, Option.isNone_some, Option.isNone_none, ew]; intro _ _) | ((with_reducible (first | refine w5 ?_ ?_ | refine w6 ?_ ?_ | refine w7 ?_ ?_)); simp; refine ⟨_, rfl, ?_⟩) | ((with_reducible (first | refine w8 ?_ ?_ ?_ | refine w9 ?_ ?_ ?_ | refine w10 ?_ ?_ ?_)); exact rfl; simp) | ((with_reducible refine w12 ?_ ?_ ?_ fun _ _ => ?_); simp; simp; simp [oneC]) | ((with_reducible (first | refine eqs ?_ | refine nes ?_)); refine ⟨_, rfl, ?_⟩) | ((refine okF_i (bldP_eq rfl) ?_); try simp only [BLS, List.take_succ_cons, List.take_zero, List.drop_succ_cons, List.drop_zero, List.cons_append, List.nil_append, Nat.reduceAdd])) | simp -implicitDefEqProofs only [EN, lsub, lget, stL, beq_self_eq_true, ne_eq, if_true, if_false, List.cons_append, List.nil_append, Option.isNone_some, Option.isNone_none, ew]))
        exact hK () _ hib (by rw [hsu]; exact fnd_of (some ⟨gn, on', none⟩) al st ao ag cn cl ct co cg (St.wk (by first | assumption | exact St.tick (by assumption) | exact St.tick (St.tick (by assumption)))))
    · have hil : i = on.length := by omega
      subst hil
      obtain ⟨an, cn, al, cl, st, ct, ao, co, ag, cg, h⟩ := fnd_at h
      (repeat (first | (first | (with_reducible (first | refine w1 fun _ _ => ?_ | refine w3 fun _ _ _ => ?_ | refine w4 fun _ _ _ => ?_ | refine w11 fun _ _ _ => ?_ | refine stb_n ?_)) | ((with_reducible refine w2 ?_); try simp -implicitDefEqProofs only [EN, lsub, lget, stL, beq_self_eq_true, ne_eq, if_true, if_false, List.cons_append, List.nil_append, Option.isNone_some, Option.isNone_none, hlt]; intro _ _) | ((with_reducible (first | refine w5 ?_ ?_ | refine w6 ?_ ?_ | refine w7 ?_ ?_)); simp; refine ⟨_, rfl, ?_⟩) | ((with_reducible (first | refine w8 ?_ ?_ ?_ | refine w9 ?_ ?_ ?_ | refine w10 ?_ ?_ ?_)); exact rfl; simp) | ((with_reducible refine w12 ?_ ?_ ?_ fun _ _ => ?_); simp; simp; simp [oneC]) | ((with_reducible (first | refine eqs ?_ | refine nes ?_)); refine ⟨_, rfl, ?_⟩) | ((refine okF_i (bldP_eq rfl) ?_); try simp only [BLS, List.take_succ_cons, List.take_zero, List.drop_succ_cons, List.drop_zero, List.cons_append, List.nil_append, Nat.reduceAdd])) | simp -implicitDefEqProofs only [EN, lsub, lget, stL, beq_self_eq_true, ne_eq, if_true, if_false, List.cons_append, List.nil_append, Option.isNone_some, Option.isNone_none, hlt]))
      unfold S.order_groups.j2
      (repeat (first | (first | (with_reducible (first | refine w1 fun _ _ => ?_ | refine w3 fun _ _ _ => ?_ | refine w4 fun _ _ _ => ?_ | refine w11 fun _ _ _ => ?_ | refine stb_n ?_)) | ((with_reducible refine w2 ?_); try simp -implicitDefEqProofs only [EN, lsub, lget, stL, beq_self_eq_true, ne_eq, if_true, if_false, List.cons_append, List.nil_append, Option.isNone_some, Option.isNone_none]; intro _ _) | ((with_reducible (first | refine w5 ?_ ?_ | refine w6 ?_ ?_ | refine w7 ?_ ?_)); simp; refine ⟨_, rfl, ?_⟩) | ((with_reducible (first | refine w8 ?_ ?_ ?_ | refine w9 ?_ ?_ ?_ | refine w10 ?_ ?_ ?_)); exact rfl; simp) | ((with_reducible refine w12 ?_ ?_ ?_ fun _ _ => ?_); simp; simp; simp [oneC]) | ((with_reducible (first | refine eqs ?_ | refine nes ?_)); refine ⟨_, rfl, ?_⟩) | ((refine okF_i (bldP_eq rfl) ?_); try simp only [BLS, List.take_succ_cons, List.take_zero, List.drop_succ_cons, List.drop_zero, List.cons_append, List.nil_append, Nat.reduceAdd])) | simp -implicitDefEqProofs only [EN, lsub, lget, stL, beq_self_eq_true, ne_eq, if_true, if_false, List.cons_append, List.nil_append, Option.isNone_some, Option.isNone_none]))
      refine hk ag cg W1 ?_
      have h9 : St W0 (arr ISY T_s_int a c rows :: many ich rows :: LI ag cg (groupsF on) :: L) W1 := by unfold groupsF; exact St.wk (by first | assumption | exact St.tick (by assumption) | exact St.tick (St.tick (by assumption)))
      exact St.wk (h9.ent (li_ent hrows))
  (repeat (first | (first | (with_reducible (first | refine w1 fun _ _ => ?_ | refine w3 fun _ _ _ => ?_ | refine w4 fun _ _ _ => ?_ | refine w11 fun _ _ _ => ?_ | refine stb_n ?_)) | ((with_reducible refine w2 ?_); try simp -implicitDefEqProofs only [EN, lsub, lget, stL, beq_self_eq_true, ne_eq, if_true, if_false, List.cons_append, List.nil_append, Option.isNone_some, Option.isNone_none]; intro _ _) | ((with_reducible (first | refine w5 ?_ ?_ | refine w6 ?_ ?_ | refine w7 ?_ ?_)); simp; refine ⟨_, rfl, ?_⟩) | ((with_reducible (first | refine w8 ?_ ?_ ?_ | refine w9 ?_ ?_ ?_ | refine w10 ?_ ?_ ?_)); exact rfl; simp) | ((with_reducible refine w12 ?_ ?_ ?_ fun _ _ => ?_); simp; simp; simp [oneC]) | ((with_reducible (first | refine eqs ?_ | refine nes ?_)); refine ⟨_, rfl, ?_⟩) | ((refine okF_i (bldP_eq rfl) ?_); try simp only [BLS, List.take_succ_cons, List.take_zero, List.drop_succ_cons, List.drop_zero, List.cons_append, List.nil_append, Nat.reduceAdd])) | simp -implicitDefEqProofs only [EN, lsub, lget, stL, beq_self_eq_true, ne_eq, if_true, if_false, List.cons_append, List.nil_append, Option.isNone_some, Option.isNone_none]))
  refine joinK_i ?_
  (repeat (first | (first | (with_reducible (first | refine w1 fun _ _ => ?_ | refine w3 fun _ _ _ => ?_ | refine w4 fun _ _ _ => ?_ | refine w11 fun _ _ _ => ?_ | refine stb_n ?_)) | ((with_reducible refine w2 ?_); try simp -implicitDefEqProofs only [EN, lsub, lget, stL, beq_self_eq_true, ne_eq, if_true, if_false, List.cons_append, List.nil_append, Option.isNone_some, Option.isNone_none]; intro _ _) | ((with_reducible (first | refine w5 ?_ ?_ | refine w6 ?_ ?_ | refine w7 ?_ ?_)); simp; refine ⟨_, rfl, ?_⟩) | ((with_reducible (first | refine w8 ?_ ?_ ?_ | refine w9 ?_ ?_ ?_ | refine w10 ?_ ?_ ?_)); exact rfl; simp) | ((with_reducible refine w12 ?_ ?_ ?_ fun _ _ => ?_); simp; simp; simp [oneC]) | ((with_reducible (first | refine eqs ?_ | refine nes ?_)); refine ⟨_, rfl, ?_⟩) | ((refine okF_i (bldP_eq rfl) ?_); try simp only [BLS, List.take_succ_cons, List.take_zero, List.drop_succ_cons, List.drop_zero, List.cons_append, List.nil_append, Nat.reduceAdd])) | simp -implicitDefEqProofs only [EN, lsub, lget, stL, beq_self_eq_true, ne_eq, if_true, if_false, List.cons_append, List.nil_append, Option.isNone_some, Option.isNone_none]))
  have hl : on.length ≤ 1000000 := by omega
  have h : St W0 (LI none 0 [] :: arr I64 T_int none 0 [] :: arr ISY T_s_int a c rows :: many ich rows :: L) W := (h.ent (arr_nil I64 T_int)).ent li_none
  refine ⟨?_, ?_, ?_⟩
  · refine mkZ (by first | assumption | exact St.tick (by assumption) | exact St.tick (St.tick (by assumption))) hl fun an cn Wn h => ⟨?_, ?_⟩
    · refine mkZ (by first | assumption | exact St.tick (by assumption) | exact St.tick (St.tick (by assumption))) hl fun al cl Wl h => ?_
      (repeat (first | (first | (with_reducible (first | refine w1 fun _ _ => ?_ | refine w3 fun _ _ _ => ?_ | refine w4 fun _ _ _ => ?_ | refine w11 fun _ _ _ => ?_ | refine stb_n ?_)) | ((with_reducible refine w2 ?_); try simp -implicitDefEqProofs only [EN, lsub, lget, stL, beq_self_eq_true, ne_eq, if_true, if_false, List.cons_append, List.nil_append, Option.isNone_some, Option.isNone_none]; intro _ _) | ((with_reducible (first | refine w5 ?_ ?_ | refine w6 ?_ ?_ | refine w7 ?_ ?_)); simp; refine ⟨_, rfl, ?_⟩) | ((with_reducible (first | refine w8 ?_ ?_ ?_ | refine w9 ?_ ?_ ?_ | refine w10 ?_ ?_ ?_)); exact rfl; simp) | ((with_reducible refine w12 ?_ ?_ ?_ fun _ _ => ?_); simp; simp; simp [oneC]) | ((with_reducible (first | refine eqs ?_ | refine nes ?_)); refine ⟨_, rfl, ?_⟩) | ((refine okF_i (bldP_eq rfl) ?_); try simp only [BLS, List.take_succ_cons, List.take_zero, List.drop_succ_cons, List.drop_zero, List.cons_append, List.nil_append, Nat.reduceAdd])) | simp -implicitDefEqProofs only [EN, lsub, lget, stL, beq_self_eq_true, ne_eq, if_true, if_false, List.cons_append, List.nil_append, Option.isNone_some, Option.isNone_none]))
      refine mkB (by first | assumption | exact St.tick (by assumption) | exact St.tick (St.tick (by assumption))) hl fun ao co Wo h => ?_
      (repeat (first | (first | (with_reducible (first | refine w1 fun _ _ => ?_ | refine w3 fun _ _ _ => ?_ | refine w4 fun _ _ _ => ?_ | refine w11 fun _ _ _ => ?_ | refine stb_n ?_)) | ((with_reducible refine w2 ?_); try simp -implicitDefEqProofs only [EN, lsub, lget, stL, beq_self_eq_true, ne_eq, if_true, if_false, List.cons_append, List.nil_append, Option.isNone_some, Option.isNone_none]; intro _ _) | ((with_reducible (first | refine w5 ?_ ?_ | refine w6 ?_ ?_ | refine w7 ?_ ?_)); simp; refine ⟨_, rfl, ?_⟩) | ((with_reducible (first | refine w8 ?_ ?_ ?_ | refine w9 ?_ ?_ ?_ | refine w10 ?_ ?_ ?_)); exact rfl; simp) | ((with_reducible refine w12 ?_ ?_ ?_ fun _ _ => ?_); simp; simp; simp [oneC]) | ((with_reducible (first | refine eqs ?_ | refine nes ?_)); refine ⟨_, rfl, ?_⟩) | ((refine okF_i (bldP_eq rfl) ?_); try simp only [BLS, List.take_succ_cons, List.take_zero, List.drop_succ_cons, List.drop_zero, List.cons_append, List.nil_append, Nat.reduceAdd])) | simp -implicitDefEqProofs only [EN, lsub, lget, stL, beq_self_eq_true, ne_eq, if_true, if_false, List.cons_append, List.nil_append, Option.isNone_some, Option.isNone_none]))
      rename_i p W6 h
      (try simp only [BLS, List.take_succ_cons, List.take_zero, List.drop_succ_cons, List.drop_zero, List.cons_append, List.nil_append, List.append_nil, List.take_nil, List.drop_nil, stL, Nat.reduceAdd] at h)
      exact key p _ (fnd_of (p := p) an al none ao none cn cl 0 co 0 (St.wk h))
    · refine mkB (by first | assumption | exact St.tick (by assumption) | exact St.tick (St.tick (by assumption))) hl fun ao co Wo h => ?_
      (repeat (first | (first | (with_reducible (first | refine w1 fun _ _ => ?_ | refine w3 fun _ _ _ => ?_ | refine w4 fun _ _ _ => ?_ | refine w11 fun _ _ _ => ?_ | refine stb_n ?_)) | ((with_reducible refine w2 ?_); try simp -implicitDefEqProofs only [EN, lsub, lget, stL, beq_self_eq_true, ne_eq, if_true, if_false, List.cons_append, List.nil_append, Option.isNone_some, Option.isNone_none]; intro _ _) | ((with_reducible (first | refine w5 ?_ ?_ | refine w6 ?_ ?_ | refine w7 ?_ ?_)); simp; refine ⟨_, rfl, ?_⟩) | ((with_reducible (first | refine w8 ?_ ?_ ?_ | refine w9 ?_ ?_ ?_ | refine w10 ?_ ?_ ?_)); exact rfl; simp) | ((with_reducible refine w12 ?_ ?_ ?_ fun _ _ => ?_); simp; simp; simp [oneC]) | ((with_reducible (first | refine eqs ?_ | refine nes ?_)); refine ⟨_, rfl, ?_⟩) | ((refine okF_i (bldP_eq rfl) ?_); try simp only [BLS, List.take_succ_cons, List.take_zero, List.drop_succ_cons, List.drop_zero, List.cons_append, List.nil_append, Nat.reduceAdd])) | simp -implicitDefEqProofs only [EN, lsub, lget, stL, beq_self_eq_true, ne_eq, if_true, if_false, List.cons_append, List.nil_append, Option.isNone_some, Option.isNone_none]))
      refine mkZ (by first | assumption | exact St.tick (by assumption) | exact St.tick (St.tick (by assumption))) hl fun al cl Wl h => ?_
      (repeat (first | (first | (with_reducible (first | refine w1 fun _ _ => ?_ | refine w3 fun _ _ _ => ?_ | refine w4 fun _ _ _ => ?_ | refine w11 fun _ _ _ => ?_ | refine stb_n ?_)) | ((with_reducible refine w2 ?_); try simp -implicitDefEqProofs only [EN, lsub, lget, stL, beq_self_eq_true, ne_eq, if_true, if_false, List.cons_append, List.nil_append, Option.isNone_some, Option.isNone_none]; intro _ _) | ((with_reducible (first | refine w5 ?_ ?_ | refine w6 ?_ ?_ | refine w7 ?_ ?_)); simp; refine ⟨_, rfl, ?_⟩) | ((with_reducible (first | refine w8 ?_ ?_ ?_ | refine w9 ?_ ?_ ?_ | refine w10 ?_ ?_ ?_)); exact rfl; simp) | ((with_reducible refine w12 ?_ ?_ ?_ fun _ _ => ?_); simp; simp; simp [oneC]) | ((with_reducible (first | refine eqs ?_ | refine nes ?_)); refine ⟨_, rfl, ?_⟩) | ((refine okF_i (bldP_eq rfl) ?_); try simp only [BLS, List.take_succ_cons, List.take_zero, List.drop_succ_cons, List.drop_zero, List.cons_append, List.nil_append, Nat.reduceAdd])) | simp -implicitDefEqProofs only [EN, lsub, lget, stL, beq_self_eq_true, ne_eq, if_true, if_false, List.cons_append, List.nil_append, Option.isNone_some, Option.isNone_none]))
      rename_i p W6 h
      (try simp only [BLS, List.take_succ_cons, List.take_zero, List.drop_succ_cons, List.drop_zero, List.cons_append, List.nil_append, List.append_nil, List.take_nil, List.drop_nil, stL, Nat.reduceAdd] at h)
      exact key p _ (fnd_of (p := p) an al none ao none cn cl 0 co 0 (St.wk h))
  · refine mkZ (by first | assumption | exact St.tick (by assumption) | exact St.tick (St.tick (by assumption))) hl fun al cl Wl h => ⟨?_, ?_⟩
    · refine mkZ (by first | assumption | exact St.tick (by assumption) | exact St.tick (St.tick (by assumption))) hl fun an cn Wn h => ?_
      (repeat (first | (first | (with_reducible (first | refine w1 fun _ _ => ?_ | refine w3 fun _ _ _ => ?_ | refine w4 fun _ _ _ => ?_ | refine w11 fun _ _ _ => ?_ | refine stb_n ?_)) | ((with_reducible refine w2 ?_); try simp -implicitDefEqProofs only [EN, lsub, lget, stL, beq_self_eq_true, ne_eq, if_true, if_false, List.cons_append, List.nil_append, Option.isNone_some, Option.isNone_none]; intro _ _) | ((with_reducible (first | refine w5 ?_ ?_ | refine w6 ?_ ?_ | refine w7 ?_ ?_)); simp; refine ⟨_, rfl, ?_⟩) | ((with_reducible (first | refine w8 ?_ ?_ ?_ | refine w9 ?_ ?_ ?_ | refine w10 ?_ ?_ ?_)); exact rfl; simp) | ((with_reducible refine w12 ?_ ?_ ?_ fun _ _ => ?_); simp; simp; simp [oneC]) | ((with_reducible (first | refine eqs ?_ | refine nes ?_)); refine ⟨_, rfl, ?_⟩) | ((refine okF_i (bldP_eq rfl) ?_); try simp only [BLS, List.take_succ_cons, List.take_zero, List.drop_succ_cons, List.drop_zero, List.cons_append, List.nil_append, Nat.reduceAdd])) | simp -implicitDefEqProofs only [EN, lsub, lget, stL, beq_self_eq_true, ne_eq, if_true, if_false, List.cons_append, List.nil_append, Option.isNone_some, Option.isNone_none]))
      refine mkB (by first | assumption | exact St.tick (by assumption) | exact St.tick (St.tick (by assumption))) hl fun ao co Wo h => ?_
      (repeat (first | (first | (with_reducible (first | refine w1 fun _ _ => ?_ | refine w3 fun _ _ _ => ?_ | refine w4 fun _ _ _ => ?_ | refine w11 fun _ _ _ => ?_ | refine stb_n ?_)) | ((with_reducible refine w2 ?_); try simp -implicitDefEqProofs only [EN, lsub, lget, stL, beq_self_eq_true, ne_eq, if_true, if_false, List.cons_append, List.nil_append, Option.isNone_some, Option.isNone_none]; intro _ _) | ((with_reducible (first | refine w5 ?_ ?_ | refine w6 ?_ ?_ | refine w7 ?_ ?_)); simp; refine ⟨_, rfl, ?_⟩) | ((with_reducible (first | refine w8 ?_ ?_ ?_ | refine w9 ?_ ?_ ?_ | refine w10 ?_ ?_ ?_)); exact rfl; simp) | ((with_reducible refine w12 ?_ ?_ ?_ fun _ _ => ?_); simp; simp; simp [oneC]) | ((with_reducible (first | refine eqs ?_ | refine nes ?_)); refine ⟨_, rfl, ?_⟩) | ((refine okF_i (bldP_eq rfl) ?_); try simp only [BLS, List.take_succ_cons, List.take_zero, List.drop_succ_cons, List.drop_zero, List.cons_append, List.nil_append, Nat.reduceAdd])) | simp -implicitDefEqProofs only [EN, lsub, lget, stL, beq_self_eq_true, ne_eq, if_true, if_false, List.cons_append, List.nil_append, Option.isNone_some, Option.isNone_none]))
      rename_i p W6 h
      (try simp only [BLS, List.take_succ_cons, List.take_zero, List.drop_succ_cons, List.drop_zero, List.cons_append, List.nil_append, List.append_nil, List.take_nil, List.drop_nil, stL, Nat.reduceAdd] at h)
      exact key p _ (fnd_of (p := p) an al none ao none cn cl 0 co 0 (St.wk h))
    · refine mkB (by first | assumption | exact St.tick (by assumption) | exact St.tick (St.tick (by assumption))) hl fun ao co Wo h => ?_
      (repeat (first | (first | (with_reducible (first | refine w1 fun _ _ => ?_ | refine w3 fun _ _ _ => ?_ | refine w4 fun _ _ _ => ?_ | refine w11 fun _ _ _ => ?_ | refine stb_n ?_)) | ((with_reducible refine w2 ?_); try simp -implicitDefEqProofs only [EN, lsub, lget, stL, beq_self_eq_true, ne_eq, if_true, if_false, List.cons_append, List.nil_append, Option.isNone_some, Option.isNone_none]; intro _ _) | ((with_reducible (first | refine w5 ?_ ?_ | refine w6 ?_ ?_ | refine w7 ?_ ?_)); simp; refine ⟨_, rfl, ?_⟩) | ((with_reducible (first | refine w8 ?_ ?_ ?_ | refine w9 ?_ ?_ ?_ | refine w10 ?_ ?_ ?_)); exact rfl; simp) | ((with_reducible refine w12 ?_ ?_ ?_ fun _ _ => ?_); simp; simp; simp [oneC]) | ((with_reducible (first | refine eqs ?_ | refine nes ?_)); refine ⟨_, rfl, ?_⟩) | ((refine okF_i (bldP_eq rfl) ?_); try simp only [BLS, List.take_succ_cons, List.take_zero, List.drop_succ_cons, List.drop_zero, List.cons_append, List.nil_append, Nat.reduceAdd])) | simp -implicitDefEqProofs only [EN, lsub, lget, stL, beq_self_eq_true, ne_eq, if_true, if_false, List.cons_append, List.nil_append, Option.isNone_some, Option.isNone_none]))
      refine mkZ (by first | assumption | exact St.tick (by assumption) | exact St.tick (St.tick (by assumption))) hl fun an cn Wn h => ?_
      (repeat (first | (first | (with_reducible (first | refine w1 fun _ _ => ?_ | refine w3 fun _ _ _ => ?_ | refine w4 fun _ _ _ => ?_ | refine w11 fun _ _ _ => ?_ | refine stb_n ?_)) | ((with_reducible refine w2 ?_); try simp -implicitDefEqProofs only [EN, lsub, lget, stL, beq_self_eq_true, ne_eq, if_true, if_false, List.cons_append, List.nil_append, Option.isNone_some, Option.isNone_none]; intro _ _) | ((with_reducible (first | refine w5 ?_ ?_ | refine w6 ?_ ?_ | refine w7 ?_ ?_)); simp; refine ⟨_, rfl, ?_⟩) | ((with_reducible (first | refine w8 ?_ ?_ ?_ | refine w9 ?_ ?_ ?_ | refine w10 ?_ ?_ ?_)); exact rfl; simp) | ((with_reducible refine w12 ?_ ?_ ?_ fun _ _ => ?_); simp; simp; simp [oneC]) | ((with_reducible (first | refine eqs ?_ | refine nes ?_)); refine ⟨_, rfl, ?_⟩) | ((refine okF_i (bldP_eq rfl) ?_); try simp only [BLS, List.take_succ_cons, List.take_zero, List.drop_succ_cons, List.drop_zero, List.cons_append, List.nil_append, Nat.reduceAdd])) | simp -implicitDefEqProofs only [EN, lsub, lget, stL, beq_self_eq_true, ne_eq, if_true, if_false, List.cons_append, List.nil_append, Option.isNone_some, Option.isNone_none]))
      rename_i p W6 h
      (try simp only [BLS, List.take_succ_cons, List.take_zero, List.drop_succ_cons, List.drop_zero, List.cons_append, List.nil_append, List.append_nil, List.take_nil, List.drop_nil, stL, Nat.reduceAdd] at h)
      exact key p _ (fnd_of (p := p) an al none ao none cn cl 0 co 0 (St.wk h))
  · refine mkB (by first | assumption | exact St.tick (by assumption) | exact St.tick (St.tick (by assumption))) hl fun ao co Wo h => ⟨?_, ?_⟩
    · refine mkZ (by first | assumption | exact St.tick (by assumption) | exact St.tick (St.tick (by assumption))) hl fun an cn Wn h => ?_
      (repeat (first | (first | (with_reducible (first | refine w1 fun _ _ => ?_ | refine w3 fun _ _ _ => ?_ | refine w4 fun _ _ _ => ?_ | refine w11 fun _ _ _ => ?_ | refine stb_n ?_)) | ((with_reducible refine w2 ?_); try simp -implicitDefEqProofs only [EN, lsub, lget, stL, beq_self_eq_true, ne_eq, if_true, if_false, List.cons_append, List.nil_append, Option.isNone_some, Option.isNone_none]; intro _ _) | ((with_reducible (first | refine w5 ?_ ?_ | refine w6 ?_ ?_ | refine w7 ?_ ?_)); simp; refine ⟨_, rfl, ?_⟩) | ((with_reducible (first | refine w8 ?_ ?_ ?_ | refine w9 ?_ ?_ ?_ | refine w10 ?_ ?_ ?_)); exact rfl; simp) | ((with_reducible refine w12 ?_ ?_ ?_ fun _ _ => ?_); simp; simp; simp [oneC]) | ((with_reducible (first | refine eqs ?_ | refine nes ?_)); refine ⟨_, rfl, ?_⟩) | ((refine okF_i (bldP_eq rfl) ?_); try simp only [BLS, List.take_succ_cons, List.take_zero, List.drop_succ_cons, List.drop_zero, List.cons_append, List.nil_append, Nat.reduceAdd])) | simp -implicitDefEqProofs only [EN, lsub, lget, stL, beq_self_eq_true, ne_eq, if_true, if_false, List.cons_append, List.nil_append, Option.isNone_some, Option.isNone_none]))
      refine mkZ (by first | assumption | exact St.tick (by assumption) | exact St.tick (St.tick (by assumption))) hl fun al cl Wl h => ?_
      (repeat (first | (first | (with_reducible (first | refine w1 fun _ _ => ?_ | refine w3 fun _ _ _ => ?_ | refine w4 fun _ _ _ => ?_ | refine w11 fun _ _ _ => ?_ | refine stb_n ?_)) | ((with_reducible refine w2 ?_); try simp -implicitDefEqProofs only [EN, lsub, lget, stL, beq_self_eq_true, ne_eq, if_true, if_false, List.cons_append, List.nil_append, Option.isNone_some, Option.isNone_none]; intro _ _) | ((with_reducible (first | refine w5 ?_ ?_ | refine w6 ?_ ?_ | refine w7 ?_ ?_)); simp; refine ⟨_, rfl, ?_⟩) | ((with_reducible (first | refine w8 ?_ ?_ ?_ | refine w9 ?_ ?_ ?_ | refine w10 ?_ ?_ ?_)); exact rfl; simp) | ((with_reducible refine w12 ?_ ?_ ?_ fun _ _ => ?_); simp; simp; simp [oneC]) | ((with_reducible (first | refine eqs ?_ | refine nes ?_)); refine ⟨_, rfl, ?_⟩) | ((refine okF_i (bldP_eq rfl) ?_); try simp only [BLS, List.take_succ_cons, List.take_zero, List.drop_succ_cons, List.drop_zero, List.cons_append, List.nil_append, Nat.reduceAdd])) | simp -implicitDefEqProofs only [EN, lsub, lget, stL, beq_self_eq_true, ne_eq, if_true, if_false, List.cons_append, List.nil_append, Option.isNone_some, Option.isNone_none]))
      rename_i p W6 h
      (try simp only [BLS, List.take_succ_cons, List.take_zero, List.drop_succ_cons, List.drop_zero, List.cons_append, List.nil_append, List.append_nil, List.take_nil, List.drop_nil, stL, Nat.reduceAdd] at h)
      exact key p _ (fnd_of (p := p) an al none ao none cn cl 0 co 0 (St.wk h))
    · refine mkZ (by first | assumption | exact St.tick (by assumption) | exact St.tick (St.tick (by assumption))) hl fun al cl Wl h => ?_
      (repeat (first | (first | (with_reducible (first | refine w1 fun _ _ => ?_ | refine w3 fun _ _ _ => ?_ | refine w4 fun _ _ _ => ?_ | refine w11 fun _ _ _ => ?_ | refine stb_n ?_)) | ((with_reducible refine w2 ?_); try simp -implicitDefEqProofs only [EN, lsub, lget, stL, beq_self_eq_true, ne_eq, if_true, if_false, List.cons_append, List.nil_append, Option.isNone_some, Option.isNone_none]; intro _ _) | ((with_reducible (first | refine w5 ?_ ?_ | refine w6 ?_ ?_ | refine w7 ?_ ?_)); simp; refine ⟨_, rfl, ?_⟩) | ((with_reducible (first | refine w8 ?_ ?_ ?_ | refine w9 ?_ ?_ ?_ | refine w10 ?_ ?_ ?_)); exact rfl; simp) | ((with_reducible refine w12 ?_ ?_ ?_ fun _ _ => ?_); simp; simp; simp [oneC]) | ((with_reducible (first | refine eqs ?_ | refine nes ?_)); refine ⟨_, rfl, ?_⟩) | ((refine okF_i (bldP_eq rfl) ?_); try simp only [BLS, List.take_succ_cons, List.take_zero, List.drop_succ_cons, List.drop_zero, List.cons_append, List.nil_append, Nat.reduceAdd])) | simp -implicitDefEqProofs only [EN, lsub, lget, stL, beq_self_eq_true, ne_eq, if_true, if_false, List.cons_append, List.nil_append, Option.isNone_some, Option.isNone_none]))
      refine mkZ (by first | assumption | exact St.tick (by assumption) | exact St.tick (St.tick (by assumption))) hl fun an cn Wn h => ?_
      (repeat (first | (first | (with_reducible (first | refine w1 fun _ _ => ?_ | refine w3 fun _ _ _ => ?_ | refine w4 fun _ _ _ => ?_ | refine w11 fun _ _ _ => ?_ | refine stb_n ?_)) | ((with_reducible refine w2 ?_); try simp -implicitDefEqProofs only [EN, lsub, lget, stL, beq_self_eq_true, ne_eq, if_true, if_false, List.cons_append, List.nil_append, Option.isNone_some, Option.isNone_none]; intro _ _) | ((with_reducible (first | refine w5 ?_ ?_ | refine w6 ?_ ?_ | refine w7 ?_ ?_)); simp; refine ⟨_, rfl, ?_⟩) | ((with_reducible (first | refine w8 ?_ ?_ ?_ | refine w9 ?_ ?_ ?_ | refine w10 ?_ ?_ ?_)); exact rfl; simp) | ((with_reducible refine w12 ?_ ?_ ?_ fun _ _ => ?_); simp; simp; simp [oneC]) | ((with_reducible (first | refine eqs ?_ | refine nes ?_)); refine ⟨_, rfl, ?_⟩) | ((refine okF_i (bldP_eq rfl) ?_); try simp only [BLS, List.take_succ_cons, List.take_zero, List.drop_succ_cons, List.drop_zero, List.cons_append, List.nil_append, Nat.reduceAdd])) | simp -implicitDefEqProofs only [EN, lsub, lget, stL, beq_self_eq_true, ne_eq, if_true, if_false, List.cons_append, List.nil_append, Option.isNone_some, Option.isNone_none]))
      rename_i p W6 h
      (try simp only [BLS, List.take_succ_cons, List.take_zero, List.drop_succ_cons, List.drop_zero, List.cons_append, List.nil_append, List.append_nil, List.take_nil, List.drop_nil, stL, Nat.reduceAdd] at h)
      exact key p _ (fnd_of (p := p) an al none ao none cn cl 0 co 0 (St.wk h))
end
end Go.Proofs.Ytkjhccpanedccaa
namespace Go.Tar
set_option linter.unusedVariables false
set_option linter.unusedSimpArgs false
def hdZ (l : List Int) : Int := l.headD 0
def sortHd (gs : List (List Int)) : List (List Int) := isort (fun x y => decide (hdZ x ≤ hdZ y)) gs
/-- of which group each is -/
def ofStep (all : List (List Int)) (o : List Int) (g : Nat) : List Int := (all.getD g []).foldl (fun o v => o.set v.toNat (g : Int)) o
def ofF (all : List (List Int)) (n : Nat) (i : Nat) : List Int := (List.range i).foldl (ofStep all) (List.replicate n 0)
structure TS where
  had : List Bool
  waits : List Int
  back : List (List Int)
def tieU (g : Nat) (k : Int) (s : TS) : TS :=
  if s.had.getD k.toNat false then s else ⟨s.had.set k.toNat true, s.waits.set g (s.waits.getD g 0 + 1), s.back.set k.toNat (s.back.getD k.toNat [] ++ [(g : Int)])⟩
def tieV (on : List (List Int)) (of : List Int) (g : Nat) (s : TS) (v : Int) : TS := (rowOf on v).foldl (fun s u => tieU g (of.getD u.toNat 0) s) s
def tieG (on : List (List Int)) (of : List Int) (all : List (List Int)) (s : List Int × List (List Int)) (g : Nat) : List Int × List (List Int) :=
  let t := (all.getD g []).foldl (tieV on of g) ⟨(List.replicate all.length false).set g true, s.1, s.2⟩
  (t.waits, t.back)
def tieF (on : List (List Int)) (of : List Int) (all : List (List Int)) (i : Nat) : List Int × List (List Int) :=
  (List.range i).foldl (tieG on of all) (List.replicate all.length 0, List.replicate all.length [])
/-- told one by one -/
def decF (w : List Int) (ks : List Int) : List Int := ks.foldl (fun w k => w.set k.toNat (w.getD k.toNat 0 - 1)) w
def lineS (all back : List (List Int)) (s : List Int × List Int) : List Int × List Int :=
  let g := s.1.idxOf 0
  (decF (s.1.set g (-1)) (back.getD g []), s.2 ++ all.getD g [])
def lineI (all back : List (List Int)) (w : List Int) : Nat → List Int × List Int
  | 0 => (w, [])
  | i + 1 => lineS all back (lineI all back w i)
def allOf (on : List (List Int)) : List (List Int) := sortHd (groupsF on)
def tieOf (on : List (List Int)) : List Int × List (List Int) := tieF on (ofF (allOf on) on.length (allOf on).length) (allOf on) (allOf on).length
def lineF (on : List (List Int)) : List Int := (lineI (allOf on) (tieOf on).2 (tieOf on).1 (allOf on).length).2
section
variable {on : List (List Int)} {n : Nat} {gs m m' : List (List Int)}
theorem sortHd_perm (gs : List (List Int)) : (sortHd gs).Perm gs := isort_perm gs
theorem sortHd_sorted (gs : List (List Int)) : (sortHd gs).Pairwise fun x y => hdZ x ≤ hdZ y :=
  (isort_sorted (fun a b c h1 h2 => by simp only [decide_eq_true_eq] at *; omega) (fun a b => by simp only [Bool.or_eq_true, decide_eq_true_eq]; omega) gs).imp fun {a b} h => by simpa using h
theorem hdZ_mem {l : List Int} (h : l ≠ []) : hdZ l ∈ l := by
  cases l with
  | nil => exact absurd rfl h
  | cons a l => simp [hdZ]
/-- rows that share none have each its own first one -/
theorem hd_nodup : ∀ gs : List (List Int), (∀ g ∈ gs, g ≠ []) → gs.flatten.Nodup → (gs.map hdZ).Nodup
  | [], _, _ => by simp
  | g :: gs, h, hn => by
    rw [List.flatten_cons, List.nodup_append] at hn
    rw [List.map_cons, List.nodup_cons]
    refine ⟨fun hm => ?_, hd_nodup gs (fun x hx => h x (by simp [hx])) hn.2.1⟩
    obtain ⟨g', hg', e⟩ := List.mem_map.1 hm
    exact hn.2.2 _ (hdZ_mem (h g (by simp))) _ (List.mem_flatten.2 ⟨g', hg', hdZ_mem (h g' (by simp [hg']))⟩) e.symm
theorem map_inj {α β : Type} {f : α → β} {l : List α} (hn : (l.map f).Nodup) {a b : α} (ha : a ∈ l) (hb : b ∈ l) (h : f a = f b) : a = b := by
  obtain ⟨i, hi, rfl⟩ := List.getElem_of_mem ha
  obtain ⟨j, hj, rfl⟩ := List.getElem_of_mem hb
  have h3 := List.getElem_inj (h₀ := by simpa using hi) (h₁ := by simpa using hj) (i := i) (j := j) hn
  have := h3.1 (by simpa using h)
  subst this; rfl
theorem sortHd_one (hn : (gs.map hdZ).Nodup) (h1 : m.Perm gs) (s1 : m.Pairwise fun x y => hdZ x ≤ hdZ y) : m = sortHd gs :=
  List.Perm.eq_of_pairwise (le := fun x y => hdZ x ≤ hdZ y) (fun a b ha hb g1 g2 => map_inj hn (h1.mem_iff.1 ha) ((sortHd_perm gs).mem_iff.1 hb) (by omega)) s1 (sortHd_sorted gs) (h1.trans (sortHd_perm gs).symm)
end
end Go.Tar
namespace Go.Proofs.Ytkjhccpanedccaa
set_option linter.unusedVariables false
set_option linter.unusedSimpArgs false
open Go Go.Eng Go.Tar Go.Sort
section
variable {W0 W : World} {L L' : List Asn} {a : Option Addr} {c : Nat} {gs : List (List Int)}
theorem cmpI_lt (a b : Int) : cmpI a b < 0 ↔ a < b := by unfold cmpI; split <;> try split
                                                         all_goals omega
theorem ordTie1 {x y : ISl} {rows : List ISl} (hx : x ∈ rows) (hy : y ∈ rows) (hx0 : x.l ≠ []) (hy0 : y.l ≠ []) (h : St W0 (many ich rows :: L) W) :
    callK PR F_order_tie_1 [x.v, y.v] (fun v W' => v = .int .i64 (cmpI (hdZ x.l) (hdZ y.l)) ∧ St W [] W') W := by
  haveI hrx : Rd W [] x.a I64 x.l := Rd.base ((ich_rd (W0 := W0) (L := L) hx).ok W h)
  haveI hry : Rd W [] y.a I64 y.l := Rd.base ((ich_rd (W0 := W0) (L := L) hy).ok W h)
  have h1 : 0 < x.l.length := List.length_pos_iff.2 hx0
  have h2 : 0 < y.l.length := List.length_pos_iff.2 hy0
  have h := St.start W
  obtain ⟨xa, xc, xl⟩ := x
  obtain ⟨ya, yc, yl⟩ := y
  simp only at hrx hry h1 h2
  obtain ⟨g1, o1, e1⟩ := posAddr (i := 0) (a := xa) (A := I64) (l := xl) h h1
  obtain ⟨g2, o2, e2⟩ := posAddr (i := 0) (a := ya) (A := I64) (l := yl) h h2
  subst e1 e2
  have v1 : Vx xl.length 0 := ⟨by omega, by omega⟩
  have v2 : Vx yl.length 0 := ⟨by omega, by omega⟩
  apply S.order_tie_1.call
  unfold S.order_tie_1.body
  (repeat (first | (first | (with_reducible (first | refine w1 fun _ _ => ?_ | refine w3 fun _ _ _ => ?_ | refine w4 fun _ _ _ => ?_ | refine w11 fun _ _ _ => ?_ | refine stb_n ?_)) | ((with_reducible refine w2 ?_); try simp -implicitDefEqProofs only [EN, lsub, lget, stL, beq_self_eq_true, ne_eq, if_true, if_false, List.cons_append, List.nil_append, Option.isNone_some, Option.isNone_none, ix1 v1]; intro _ _) | ((with_reducible (first | refine w5 ?_ ?_ | refine w6 ?_ ?_ | refine w7 ?_ ?_)); simp; refine ⟨_, rfl, ?_⟩) | ((with_reducible (first | refine w8 ?_ ?_ ?_ | refine w9 ?_ ?_ ?_ | refine w10 ?_ ?_ ?_)); exact rfl; simp) | ((with_reducible refine w12 ?_ ?_ ?_ fun _ _ => ?_); simp; simp; simp [oneC]) | ((with_reducible (first | refine eqs ?_ | refine nes ?_)); refine ⟨_, rfl, ?_⟩) | ((refine okF_i (bldP_eq rfl) ?_); try simp only [BLS, List.take_succ_cons, List.take_zero, List.drop_succ_cons, List.drop_zero, List.cons_append, List.nil_append, Nat.reduceAdd])) | simp -implicitDefEqProofs only [EN, lsub, lget, stL, beq_self_eq_true, ne_eq, if_true, if_false, List.cons_append, List.nil_append, Option.isNone_some, Option.isNone_none, ix1 v1]))
  refine ldG (i := (0 : Int).toNat) (l := xl) h1 (by first | assumption | exact St.tick (by assumption) | exact St.tick (St.tick (by assumption))) ?_
  (repeat (first | (first | (with_reducible (first | refine w1 fun _ _ => ?_ | refine w3 fun _ _ _ => ?_ | refine w4 fun _ _ _ => ?_ | refine w11 fun _ _ _ => ?_ | refine stb_n ?_)) | ((with_reducible refine w2 ?_); try simp -implicitDefEqProofs only [EN, lsub, lget, stL, beq_self_eq_true, ne_eq, if_true, if_false, List.cons_append, List.nil_append, Option.isNone_some, Option.isNone_none, ix1 v2]; intro _ _) | ((with_reducible (first | refine w5 ?_ ?_ | refine w6 ?_ ?_ | refine w7 ?_ ?_)); simp; refine ⟨_, rfl, ?_⟩) | ((with_reducible (first | refine w8 ?_ ?_ ?_ | refine w9 ?_ ?_ ?_ | refine w10 ?_ ?_ ?_)); exact rfl; simp) | ((with_reducible refine w12 ?_ ?_ ?_ fun _ _ => ?_); simp; simp; simp [oneC]) | ((with_reducible (first | refine eqs ?_ | refine nes ?_)); refine ⟨_, rfl, ?_⟩) | ((refine okF_i (bldP_eq rfl) ?_); try simp only [BLS, List.take_succ_cons, List.take_zero, List.drop_succ_cons, List.drop_zero, List.cons_append, List.nil_append, Nat.reduceAdd])) | simp -implicitDefEqProofs only [EN, lsub, lget, stL, beq_self_eq_true, ne_eq, if_true, if_false, List.cons_append, List.nil_append, Option.isNone_some, Option.isNone_none, ix1 v2]))
  refine ldG (i := (0 : Int).toNat) (l := yl) h2 (by first | assumption | exact St.tick (by assumption) | exact St.tick (St.tick (by assumption))) ?_
  (repeat (first | (first | (with_reducible (first | refine w1 fun _ _ => ?_ | refine w3 fun _ _ _ => ?_ | refine w4 fun _ _ _ => ?_ | refine w11 fun _ _ _ => ?_ | refine stb_n ?_)) | ((with_reducible refine w2 ?_); try simp -implicitDefEqProofs only [EN, lsub, lget, stL, beq_self_eq_true, ne_eq, if_true, if_false, List.cons_append, List.nil_append, Option.isNone_some, Option.isNone_none]; intro _ _) | ((with_reducible (first | refine w5 ?_ ?_ | refine w6 ?_ ?_ | refine w7 ?_ ?_)); simp; refine ⟨_, rfl, ?_⟩) | ((with_reducible (first | refine w8 ?_ ?_ ?_ | refine w9 ?_ ?_ ?_ | refine w10 ?_ ?_ ?_)); exact rfl; simp) | ((with_reducible refine w12 ?_ ?_ ?_ fun _ _ => ?_); simp; simp; simp [oneC]) | ((with_reducible (first | refine eqs ?_ | refine nes ?_)); refine ⟨_, rfl, ?_⟩) | ((refine okF_i (bldP_eq rfl) ?_); try simp only [BLS, List.take_succ_cons, List.take_zero, List.drop_succ_cons, List.drop_zero, List.cons_append, List.nil_append, Nat.reduceAdd])) | simp -implicitDefEqProofs only [EN, lsub, lget, stL, beq_self_eq_true, ne_eq, if_true, if_false, List.cons_append, List.nil_append, Option.isNone_some, Option.isNone_none]))
  refine ⟨?_, (by first | assumption | exact St.tick (by assumption) | exact St.tick (St.tick (by assumption)))⟩
  cases xl with
  | nil => simp at h1
  | cons b xl => cases yl with
    | nil => simp at h2
    | cons d yl => rfl
theorem swoHd {α : Type} (f : α → Int) : SWO (Proofs.ltOf fun x y => cmpI (f x) (f y)) where
  irrefl x := by unfold Proofs.ltOf; rw [decide_eq_false_iff_not, cmpI_lt]; omega
  trans x y z h1 h2 := by unfold Proofs.ltOf at *; rw [decide_eq_true_eq, cmpI_lt] at *; omega
  ntrans x y z h1 h2 := by unfold Proofs.ltOf at *; rw [decide_eq_false_iff_not, cmpI_lt] at *; omega
theorem ordSortHd {k : Value → World → Prop} (h : St W0 (LI a c gs :: L) W) (hne : ∀ g ∈ gs, g ≠ []) (hn : gs.flatten.Nodup) (hl : gs.length < 1000000)
    (hk : ∀ W', St W0 (LI a c (sortHd gs) :: L) W' → k (.tuple #[]) W') : callK PR F_slices_SortFunc_int_int [.slice a gs.length c, .func (.func F_order_tie_1) #[] #[]] k W := by
  obtain ⟨rows, hrows, h⟩ := li_at h
  have hrl : rows.length = gs.length := by rw [← hrows, List.length_map]
  have hnd := hd_nodup gs hne hn
  have hnr : (rows.map fun r => hdZ r.l).Nodup := by rw [← hrows, List.map_map] at hnd; exact hnd
  have hne' : ∀ r ∈ rows, r.l ≠ [] := fun r hr => hne r.l (by rw [← hrows]; exact List.mem_map_of_mem hr)
  rw [← hrl]
  refine sortIx1 (P := PR) (ρ := laySortGrp_ren) laySortGrp (A := ISY) (enc := ISl.v) (fun _ => rfl) (fun x y => cmpI (hdZ x.l) (hdZ y.l)) (l := rows) (swoHd fun i : Fin rows.length => hdZ (atF rows i).l) (fun i j h1 h2 => ?_) F_order_tie_1 []
    (fun args w => callFunc_ok (CBok _ (by kernel_rfl)) w) h (fun x hx y hy W' h' => ordTie1 hx hy (hne' x hx) (hne' y hy) h') (by omega) fun m W' hp hs h' => ?_
  · unfold Proofs.ltOf at h1 h2
    rw [decide_eq_false_iff_not, cmpI_lt] at h1 h2
    have h3 := List.getElem_inj (h₀ := by simp) (h₁ := by simp) (i := i.val) (j := j.val) hnr
    refine Fin.ext (h3.1 ?_)
    simp only [List.getElem_map]
    have : hdZ rows[i].l = hdZ rows[j].l := by unfold atF at h1 h2; omega
    exact this
  · refine hk W' ?_
    have hm : m.map (·.l) = sortHd gs := sortHd_one hnd (by rw [← hrows]; exact hp.map _) (List.pairwise_map.2 (hs.imp fun {x y} h => by rw [cmpI_lt] at h; omega))
    exact (h'.ent (ent.cons _ (many_perm (F := ich) hp.symm))).ent (li_ent hm)
end
end Go.Proofs.Ytkjhccpanedccaa
namespace Go.Tar
set_option linter.unusedVariables false
set_option linter.unusedSimpArgs false
section
variable {on : List (List Int)} {n m g : Nat} {w0 : List Int} {b0 : List (List Int)} {s : TS}
theorem getD_set {α : Type} {l : List α} {i j : Nat} {a d : α} (h : i < l.length) : (l.set i a).getD j d = if j = i then a else l.getD j d := by
  simp only [List.getD_eq_getElem?_getD]
  by_cases e : j = i
  · subst e; rw [if_pos rfl, List.getElem?_set_self h]; rfl
  · rw [if_neg e, List.getElem?_set_ne (fun h => e h.symm)]
theorem getD_rep {α : Type} {n i : Nat} {a d : α} (h : i < n) : (List.replicate n a).getD i d = a := by
  rw [List.getD_eq_getElem?_getD, List.getElem?_replicate, if_pos h]; rfl
theorem getD_ge {α : Type} {l : List α} {i : Nat} {d : α} (h : l.length ≤ i) : l.getD i d = d := by
  rw [List.getD_eq_getElem?_getD, List.getElem?_eq_none h]; rfl
/-- how many below m -/
def cntR (m : Nat) (p : Nat → Bool) : Int := ((List.range m).countP p : Int)
theorem cntR_succ (m : Nat) (p : Nat → Bool) : cntR (m + 1) p = cntR m p + if p m then 1 else 0 := by
  unfold cntR
  rw [List.range_succ, List.countP_append, List.countP_singleton]
  split <;> simp
theorem cntR_congr {m : Nat} {p q : Nat → Bool} (h : ∀ j, j < m → p j = q j) : cntR m p = cntR m q := by
  induction m with
  | zero => rfl
  | succ m ih => rw [cntR_succ, cntR_succ, ih fun j hj => h j (by omega), h m (by omega)]
theorem cntR_one {m k : Nat} {p q : Nat → Bool} (hk : k < m) (h1 : p k = false) (h2 : q k = true) (h3 : ∀ j, j < m → j ≠ k → q j = p j) : cntR m q = cntR m p + 1 := by
  induction m with
  | zero => omega
  | succ m ih =>
    rw [cntR_succ, cntR_succ]
    by_cases e : k = m
    · subst e
      rw [h1, h2, cntR_congr (p := q) (q := p) fun j hj => h3 j (by omega) (by omega)]
      simp
    · rw [ih (by omega) fun j hj => h3 j (by omega), h3 m (by omega) (fun h => e h.symm)]
      omega
theorem cntR_none {m : Nat} {p : Nat → Bool} (h : ∀ j, j < m → p j = false) : cntR m p = 0 := by
  induction m with
  | zero => rfl
  | succ m ih => rw [cntR_succ, ih fun j hj => h j (by omega), h m (by omega)]; rfl
theorem cntR_nonneg (m : Nat) (p : Nat → Bool) : 0 ≤ cntR m p ∧ cntR m p ≤ m := by
  induction m with
  | zero => simp [cntR]
  | succ m ih => rw [cntR_succ]; split <;> omega
theorem cntR_zero {m : Nat} {p : Nat → Bool} (h : cntR m p = 0) : ∀ j, j < m → p j = false := by
  induction m with
  | zero => intro j hj; omega
  | succ m ih =>
    rw [cntR_succ] at h
    have h0 := (cntR_nonneg m p).1
    intro j hj
    by_cases hp : p m = true
    · rw [if_pos hp] at h; omega
    · rw [if_neg hp] at h
      by_cases e : j = m
      · subst e; simpa using hp
      · exact ih (by omega) j (by omega)
structure TI (m g : Nat) (w0 : List Int) (b0 : List (List Int)) (s : TS) : Prop where
  lh : s.had.length = m
  lw : s.waits.length = m
  lb : s.back.length = m
  hg : s.had.getD g false = true
  ws : ∀ j, s.waits.getD j 0 = if j = g then w0.getD g 0 + cntR m (fun k => decide (k ≠ g) && s.had.getD k false) else w0.getD j 0
  bs : ∀ k, s.back.getD k [] = b0.getD k [] ++ (if k ≠ g ∧ s.had.getD k false = true then [(g : Int)] else [])
theorem tieU_ti {k : Int} (h : TI m g w0 b0 s) (hg : g < m) (hk : Vx m k) : TI m g w0 b0 (tieU g k s) ∧ ∀ j, (tieU g k s).had.getD j false = (s.had.getD j false || decide ((j : Int) = k)) := by
  have hk' : k.toNat < m := by unfold Vx at hk; omega
  have ek : ((k.toNat : Nat) : Int) = k := by unfold Vx at hk; omega
  have dk : ∀ j : Nat, decide ((j : Int) = k) = decide (j = k.toNat) := fun j => by rw [decide_eq_decide]; omega
  unfold tieU
  by_cases hh : s.had.getD k.toNat false = true
  · rw [if_pos hh]
    refine ⟨h, fun j => ?_⟩
    rw [dk]
    by_cases e : j = k.toNat
    · subst e; rw [hh]; rfl
    · rw [decide_eq_false e, Bool.or_false]
  · rw [if_neg hh]
    have hkg : k.toNat ≠ g := fun e => hh (e ▸ h.hg)
    have hset : ∀ j, (s.had.set k.toNat true).getD j false = if j = k.toNat then true else s.had.getD j false := fun j => getD_set (by rw [h.lh]; exact hk')
    have hno : s.had.getD k.toNat false = false := Bool.eq_false_iff.2 hh
    refine ⟨⟨by simp [h.lh], by simp [h.lw], by simp [h.lb], ?_, fun j => ?_, fun j => ?_⟩, fun j => ?_⟩
    · show (s.had.set k.toNat true).getD g false = true
      rw [hset, if_neg (fun e => hkg e.symm)]; exact h.hg
    · show (s.waits.set g (s.waits.getD g 0 + 1)).getD j 0 = _
      rw [getD_set (by rw [h.lw]; exact hg)]
      by_cases e : j = g
      · rw [if_pos e, if_pos e, h.ws g, if_pos rfl]
        have := cntR_one (m := m) (k := k.toNat) (p := fun j => decide (j ≠ g) && s.had.getD j false) (q := fun j => decide (j ≠ g) && (s.had.set k.toNat true).getD j false) hk' (by simp only [hno, Bool.and_false])
          (by simp only [hset, if_true, Bool.and_true]; exact decide_eq_true hkg) (fun j _ hne => by simp only [hset, if_neg hne])
        show _ = w0.getD g 0 + cntR m fun j => decide (j ≠ g) && (s.had.set k.toNat true).getD j false
        rw [this]; omega
      · rw [if_neg e, if_neg e, h.ws j, if_neg e]
    · show (s.back.set k.toNat (s.back.getD k.toNat [] ++ [(g : Int)])).getD j [] = b0.getD j [] ++ if j ≠ g ∧ (s.had.set k.toNat true).getD j false = true then [(g : Int)] else []
      rw [getD_set (by rw [h.lb]; exact hk'), hset]
      by_cases e : j = k.toNat
      · subst e
        rw [if_pos rfl, if_pos rfl, h.bs, if_neg (by simp only [hno]; simp), if_pos ⟨hkg, rfl⟩, List.append_nil]
      · rw [if_neg e, if_neg e, h.bs]
    · show (s.had.set k.toNat true).getD j false = _
      rw [hset, dk]
      by_cases e : j = k.toNat
      · simp [e]
      · rw [if_neg e, decide_eq_false e, Bool.or_false]
/-- who hangs on whom, by one of v's -/
def hit (on : List (List Int)) (of : List Int) (v : Int) (k : Nat) : Bool := (rowOf on v).any fun u => decide ((k : Int) = of.getD u.toNat 0)
def hng (on : List (List Int)) (of : List Int) (all : List (List Int)) (g k : Nat) : Bool := (all.getD g []).any fun v => hit on of v k
variable {of : List Int} {all : List (List Int)}
theorem tieUs_ti (hg : g < m) : ∀ (us : List Int) (s : TS), TI m g w0 b0 s → (∀ u ∈ us, Vx m (of.getD u.toNat 0)) →
    TI m g w0 b0 (us.foldl (fun s u => tieU g (of.getD u.toNat 0) s) s) ∧ ∀ j, (us.foldl (fun s u => tieU g (of.getD u.toNat 0) s) s).had.getD j false = (s.had.getD j false || us.any fun u => decide ((j : Int) = of.getD u.toNat 0))
  | [], s, h, _ => ⟨h, fun j => by simp⟩
  | u :: us, s, h, hu => by
    obtain ⟨h1, h2⟩ := tieU_ti h hg (hu u (by simp))
    obtain ⟨h3, h4⟩ := tieUs_ti hg us _ h1 fun x hx => hu x (by simp [hx])
    refine ⟨h3, fun j => ?_⟩
    rw [List.foldl_cons, h4, h2, List.any_cons, Bool.or_assoc]
theorem tieVs_ti (hg : g < m) : ∀ (vs : List Int) (s : TS), TI m g w0 b0 s → (∀ v ∈ vs, ∀ u ∈ rowOf on v, Vx m (of.getD u.toNat 0)) →
    TI m g w0 b0 (vs.foldl (tieV on of g) s) ∧ ∀ j, (vs.foldl (tieV on of g) s).had.getD j false = (s.had.getD j false || vs.any fun v => hit on of v j)
  | [], s, h, _ => ⟨h, fun j => by simp⟩
  | v :: vs, s, h, hv => by
    obtain ⟨h1, h2⟩ := tieUs_ti hg (rowOf on v) s h (hv v (by simp))
    obtain ⟨h3, h4⟩ := tieVs_ti hg vs (tieV on of g s v) h1 fun x hx => hv x (by simp [hx])
    refine ⟨h3, fun j => ?_⟩
    rw [List.foldl_cons, h4, List.any_cons, ← Bool.or_assoc]
    congr 1
    exact h2 j
theorem start_ti (hg : g < m) (hw : w0.length = m) (hb : b0.length = m) : TI m g w0 b0 ⟨(List.replicate m false).set g true, w0, b0⟩ ∧ ∀ j, ((List.replicate m false).set g true).getD j false = decide (j = g) := by
  have hset : ∀ j, ((List.replicate m false).set g true).getD j false = decide (j = g) := fun j => by
    rw [getD_set (by simpa using hg), repAt]
    by_cases e : j = g <;> simp [e]
  refine ⟨⟨by simp, hw, hb, (hset g).trans (by simp), fun j => ?_, fun k => ?_⟩, hset⟩
  · show w0.getD j 0 = if j = g then w0.getD g 0 + cntR m (fun k => decide (k ≠ g) && ((List.replicate m false).set g true).getD k false) else w0.getD j 0
    rw [cntR_none fun k _ => by rw [hset]; by_cases e : k = g <;> simp [e]]
    split
    · rename_i e; rw [e]; omega
    · rfl
  · show b0.getD k [] = b0.getD k [] ++ if k ≠ g ∧ ((List.replicate m false).set g true).getD k false = true then [(g : Int)] else []
    rw [if_neg (by rw [hset]; simp), List.append_nil]
/-- behind the groups below i -/
structure TW (on : List (List Int)) (of : List Int) (all : List (List Int)) (i : Nat) (w : List Int) (b : List (List Int)) : Prop where
  lw : w.length = all.length
  lb : b.length = all.length
  ws : ∀ j, w.getD j 0 = if j < i then cntR all.length (fun k => decide (k ≠ j) && hng on of all j k) else 0
  bs : ∀ k, k < all.length → b.getD k [] = ((List.range i).filter fun j => decide (k ≠ j) && hng on of all j k).map fun j : Nat => (j : Int)
theorem tieG_tw {w : List Int} {b : List (List Int)} (h : TW on of all g w b) (hg : g < all.length) (ho : ∀ v ∈ all.getD g [], ∀ u ∈ rowOf on v, Vx all.length (of.getD u.toNat 0)) :
    TW on of all (g + 1) (tieG on of all (w, b) g).1 (tieG on of all (w, b) g).2 := by
  obtain ⟨h1, h2⟩ := start_ti hg h.lw h.lb
  obtain ⟨h3, h4⟩ := tieVs_ti (on := on) (of := of) hg (all.getD g []) _ h1 ho
  have had : ∀ j, ((all.getD g []).foldl (tieV on of g) ⟨(List.replicate all.length false).set g true, w, b⟩).had.getD j false = (decide (j = g) || hng on of all g j) := fun j => by rw [h4]; congr 1; exact h2 j
  refine ⟨h3.lw, h3.lb, fun j => ?_, fun k hk => ?_⟩
  · refine (h3.ws j).trans ?_
    by_cases e : j = g
    · subst e
      rw [if_pos rfl, if_pos (by omega), h.ws, if_neg (by omega)]
      rw [cntR_congr (q := fun k => decide (k ≠ j) && hng on of all j k) fun k _ => by rw [had]; by_cases e : k = j <;> simp [e]]
      omega
    · rw [if_neg e, h.ws]
      by_cases h5 : j < g
      · rw [if_pos h5, if_pos (by omega)]
      · rw [if_neg h5, if_neg (by omega)]
  · refine (h3.bs k).trans ?_
    rw [h.bs k hk, had, List.range_succ, List.filter_append, List.map_append]
    congr 1
    by_cases e : k = g
    · subst e; simp
    · by_cases h5 : hng on of all g k = true <;> simp [e, h5]
theorem tieF_tw (ho : ∀ g, g < all.length → ∀ v ∈ all.getD g [], ∀ u ∈ rowOf on v, Vx all.length (of.getD u.toNat 0)) : ∀ i, i ≤ all.length → TW on of all i (tieF on of all i).1 (tieF on of all i).2
  | 0, _ => ⟨by simp [tieF], by simp [tieF], fun j => by simp only [tieF, List.range_zero, List.foldl_nil, repAt]; simp, fun k _ => by simp only [tieF, List.range_zero, List.foldl_nil, repAt]; rfl⟩
  | i + 1, hi => by
    have ih := tieF_tw ho i (by omega)
    have : tieF on of all (i + 1) = tieG on of all (tieF on of all i) i := by unfold tieF; rw [List.range_succ, List.foldl_append]; rfl
    rw [this]
    exact tieG_tw ih (by omega) (ho i (by omega))
end
end Go.Tar
namespace Go.Tar
set_option linter.unusedVariables false
set_option linter.unusedSimpArgs false
section
variable {on : List (List Int)} {n m g : Nat} {all back gs : List (List Int)} {w : List Int}
/-- where each is -/
theorem setAll : ∀ (vs o : List Int) (g : Int), o.length = n → (∀ v ∈ vs, Vx n v) → (vs.foldl (fun o v => o.set v.toNat g) o).length = n ∧
    ∀ u, Vx n u → (vs.foldl (fun o v => o.set v.toNat g) o).getD u.toNat 0 = if u ∈ vs then g else o.getD u.toNat 0
  | [], o, g, ho, _ => ⟨ho, fun u _ => by simp⟩
  | v :: vs, o, g, ho, hv => by
    obtain ⟨h1, h2⟩ := setAll vs (o.set v.toNat g) g (by simpa using ho) fun x hx => hv x (by simp [hx])
    refine ⟨h1, fun u hu => ?_⟩
    rw [List.foldl_cons, h2 u hu, setAt ho (hv v (by simp)) hu]
    by_cases e1 : u ∈ vs
    · simp [e1]
    · by_cases e2 : u = v <;> simp [e1, e2]
/-- groups that part what there is -/
structure Prt (n : Nat) (all : List (List Int)) : Prop where
  mem : ∀ v, v ∈ all.flatten ↔ Vx n v
  nd : all.flatten.Nodup
  gok : ∀ g ∈ all, g ≠ [] ∧ g.Pairwise (· ≤ ·)
theorem Grp.prt (h : Grp on n gs) : Prt n gs := ⟨h.all, h.nd, h.gok⟩
theorem Prt.perm (h : Prt n gs) (hp : all.Perm gs) : Prt n all :=
  ⟨fun v => (hp.flatten.mem_iff).trans (h.mem v), hp.flatten.nodup_iff.2 h.nd, fun g hg => h.gok g (hp.mem_iff.1 hg)⟩
theorem memAt {v : Int} (h : v ∈ all.getD g []) : g < all.length := by
  refine Classical.byContradiction fun hn => ?_
  rw [getD_ge (by omega)] at h; cases h
theorem memFlat {v : Int} (h : v ∈ all.getD g []) : v ∈ all.flatten := by
  have hg := memAt h
  rw [List.getD_eq_getElem?_getD, List.getElem?_eq_getElem hg] at h
  exact List.mem_flatten.2 ⟨_, List.getElem_mem hg, h⟩
theorem flatAt {v : Int} (h : v ∈ all.flatten) : ∃ g, g < all.length ∧ v ∈ all.getD g [] := by
  obtain ⟨l, hl, hv⟩ := List.mem_flatten.1 h
  obtain ⟨i, hi, rfl⟩ := List.getElem_of_mem hl
  exact ⟨i, hi, by rw [List.getD_eq_getElem?_getD, List.getElem?_eq_getElem hi]; exact hv⟩
theorem flat_uniq : ∀ (l : List (List Int)), l.flatten.Nodup → ∀ i j (v : Int), v ∈ l.getD i [] → v ∈ l.getD j [] → i = j
  | [], _, i, j, v, h, _ => by simp at h
  | x :: l, hn, 0, 0, v, _, _ => rfl
  | x :: l, hn, 0, j + 1, v, h1, h2 => by
    rw [List.flatten_cons, List.nodup_append] at hn
    exact absurd rfl (hn.2.2 v (by simpa using h1) v (memFlat (g := j) (by simpa using h2)))
  | x :: l, hn, i + 1, 0, v, h1, h2 => by
    rw [List.flatten_cons, List.nodup_append] at hn
    exact absurd rfl (hn.2.2 v (by simpa using h2) v (memFlat (g := i) (by simpa using h1)))
  | x :: l, hn, i + 1, j + 1, v, h1, h2 => by
    rw [List.flatten_cons, List.nodup_append] at hn
    rw [flat_uniq l hn.2.1 i j v (by simpa using h1) (by simpa using h2)]
theorem ofF_at (hp : Prt n all) : ∀ i, i ≤ all.length → (ofF all n i).length = n ∧ ∀ u, Vx n u → ∀ g, u ∈ all.getD g [] → (ofF all n i).getD u.toNat 0 = if g < i then (g : Int) else 0
  | 0, _ => ⟨by simp [ofF], fun u _ g _ => by simp only [ofF, List.range_zero, List.foldl_nil, repAt]; simp⟩
  | i + 1, hi => by
    obtain ⟨h1, h2⟩ := ofF_at hp i (by omega)
    have e : ofF all n (i + 1) = ofStep all (ofF all n i) i := by unfold ofF; rw [List.range_succ, List.foldl_append]; rfl
    obtain ⟨h3, h4⟩ := setAll (all.getD i []) (ofF all n i) (i : Int) h1 fun v hv => (hp.mem v).1 (memFlat hv)
    rw [e]
    refine ⟨h3, fun u hu g hg => ?_⟩
    refine (h4 u hu).trans ?_
    by_cases e1 : u ∈ all.getD i []
    · have := flat_uniq all hp.nd g i u hg e1
      rw [if_pos e1, this, if_pos (by omega)]
    · rw [if_neg e1, h2 u hu g hg]
      have : g ≠ i := fun e => e1 (e ▸ hg)
      by_cases h5 : g < i
      · rw [if_pos h5, if_pos (by omega)]
      · rw [if_neg h5, if_neg (by omega)]
theorem of_at (hp : Prt n all) {u : Int} (h : u ∈ all.getD g []) : (ofF all n all.length).getD u.toNat 0 = g := by
  rw [(ofF_at hp all.length (Nat.le_refl _)).2 u ((hp.mem u).1 (memFlat h)) g h, if_pos (memAt h)]
theorem of_vx (hp : Prt n all) {u : Int} (hu : Vx n u) : Vx all.length ((ofF all n all.length).getD u.toNat 0) := by
  obtain ⟨g, hg, h⟩ := flatAt ((hp.mem u).2 hu)
  rw [of_at hp h]; unfold Vx; omega
/-- an edge between groups -/
def Edg (on all : List (List Int)) (g k : Nat) : Prop := ∃ v ∈ all.getD g [], ∃ u ∈ rowOf on v, u ∈ all.getD k []
theorem hng_iff (hp : Prt n all) (hO : OnOk on n) {g k : Nat} : hng on (ofF all n all.length) all g k = true ↔ Edg on all g k := by
  unfold hng hit Edg
  simp only [List.any_eq_true, decide_eq_true_eq]
  constructor
  · rintro ⟨v, hv, u, hu, e⟩
    obtain ⟨k', _, h⟩ := flatAt ((hp.mem u).2 (hO.rng v u hu))
    rw [of_at hp h] at e
    have : k = k' := by omega
    exact ⟨v, hv, u, hu, this ▸ h⟩
  · rintro ⟨v, hv, u, hu, h⟩
    exact ⟨v, hv, u, hu, (of_at hp h).symm⟩
/-! ### the line itself, over any h -/
/-- may g be told? -/
def freeG (h : Nat → Nat → Bool) (m : Nat) (T : List Nat) (g : Nat) : Bool := !decide (g ∈ T) && (List.range m).all fun k => decide (k = g) || !h g k || decide (k ∈ T)
def nextG (h : Nat → Nat → Bool) (m : Nat) (T : List Nat) : Nat := ((List.range m).find? (freeG h m T)).getD 0
def toldG (h : Nat → Nat → Bool) (m : Nat) : Nat → List Nat
  | 0 => []
  | i + 1 => toldG h m i ++ [nextG h m (toldG h m i)]
/-- how many are waited for, T told -/
def waitT (h : Nat → Nat → Bool) (m : Nat) (T : List Nat) (g : Nat) : Int := if g ∈ T then -1 else cntR m fun k => (decide (k ≠ g) && h g k) && !decide (k ∈ T)
def shutT (h : Nat → Nat → Bool) (m : Nat) (T : List Nat) : Prop := ∀ g ∈ T, g < m ∧ ∀ k, k < m → k ≠ g → h g k = true → k ∈ T
theorem freeG_iff {h : Nat → Nat → Bool} {T : List Nat} : freeG h m T g = true ↔ g ∉ T ∧ ∀ k, k < m → k ≠ g → h g k = true → k ∈ T := by
  unfold freeG
  simp only [Bool.and_eq_true, Bool.not_eq_true', decide_eq_false_iff_not, List.all_eq_true, List.mem_range, Bool.or_eq_true, decide_eq_true_eq]
  constructor
  · rintro ⟨h1, h2⟩
    refine ⟨h1, fun k hk hne hh => ?_⟩
    rcases h2 k hk with (e | e) | e
    · exact absurd e hne
    · rw [hh] at e; cases e
    · exact e
  · rintro ⟨h1, h2⟩
    refine ⟨h1, fun k hk => ?_⟩
    by_cases e : k = g
    · exact .inl (.inl e)
    · by_cases hh : h g k = true
      · exact .inr (h2 k hk e hh)
      · exact .inl (.inr (Bool.eq_false_iff.2 hh))
theorem waitT_zero {h : Nat → Nat → Bool} {T : List Nat} : waitT h m T g = 0 ↔ freeG h m T g = true := by
  rw [freeG_iff]
  unfold waitT
  by_cases e : g ∈ T
  · rw [if_pos e]; simp [e]
  · rw [if_neg e]
    constructor
    · intro h0
      refine ⟨e, fun k hk hne hh => ?_⟩
      have := cntR_zero h0 k hk
      simpa [hne, hh] using this
    · rintro ⟨_, h2⟩
      refine cntR_none fun k hk => ?_
      by_cases hne : k = g
      · simp [hne]
      · by_cases hh : h g k = true
        · simp [h2 k hk hne hh]
        · simp [Bool.eq_false_iff.2 hh]
/-- there is one that may be told, if edges go down in some rank -/
theorem free_ex {h : Nat → Nat → Bool} {T : List Nat} (r : Nat → Nat) (hr : ∀ g k, g < m → k < m → k ≠ g → h g k = true → r k < r g) (hT : ∃ g, g < m ∧ g ∉ T) : ∃ g, g < m ∧ freeG h m T g = true := by
  have key : ∀ q g, r g ≤ q → g < m → g ∉ T → ∃ g, g < m ∧ freeG h m T g = true := by
    intro q
    induction q with
    | zero =>
      intro g hq hg hn
      exact ⟨g, hg, freeG_iff.2 ⟨hn, fun k hk hne hh => by have := hr g k hg hk hne hh; omega⟩⟩
    | succ q ih =>
      intro g hq hg hn
      by_cases hf : freeG h m T g = true
      · exact ⟨g, hg, hf⟩
      · have : ∃ k, k < m ∧ k ≠ g ∧ h g k = true ∧ k ∉ T := by
          refine Classical.byContradiction fun hno => hf (freeG_iff.2 ⟨hn, fun k hk hne hh => ?_⟩)
          exact Classical.byContradiction fun hk2 => hno ⟨k, hk, hne, hh, hk2⟩
        obtain ⟨k, hk, hne, hh, hk2⟩ := this
        exact ih k (by have := hr g k hg hk hne hh; omega) hk hk2
  obtain ⟨g, hg, hn⟩ := hT
  exact key (r g) g (Nat.le_refl _) hg hn
/-- what the told ones are -/
structure Told (h : Nat → Nat → Bool) (m : Nat) (i : Nat) (T : List Nat) : Prop where
  len : T.length = i
  nd : T.Nodup
  shut : shutT h m T
theorem short_ex {T : List Nat} (hl : T.length < m) : ∃ g, g < m ∧ g ∉ T := by
  refine Classical.byContradiction fun hno => ?_
  have h1 : ∀ g, g < m → g ∈ T := fun g hg => Classical.byContradiction fun hn => hno ⟨g, hg, hn⟩
  have h2 : (List.range m).Subset T := fun x hx => h1 x (List.mem_range.1 hx)
  have := (List.nodup_range (n := m)).length_le_of_subset h2
  rw [List.length_range] at this; omega
theorem next_free {h : Nat → Nat → Bool} {T : List Nat} (he : ∃ g, g < m ∧ freeG h m T g = true) : nextG h m T < m ∧ freeG h m T (nextG h m T) = true ∧ ∀ k, k < nextG h m T → freeG h m T k = false := by
  unfold nextG
  cases hf : (List.range m).find? (freeG h m T) with
  | none =>
    obtain ⟨g, hg, h1⟩ := he
    have := List.find?_eq_none.1 hf g (List.mem_range.2 hg)
    exact absurd h1 this
  | some g =>
    have h1 := List.find?_some hf
    obtain ⟨h2, as1, bs1, h3, h4⟩ := List.find?_eq_some_iff_append.1 hf
    have hlen : as1.length = g := by
      have e : (List.range m)[as1.length]? = some g := by rw [h3]; simp
      rw [List.getElem?_eq_some_iff] at e
      obtain ⟨h5, h6⟩ := e
      simpa using h6
    have hgm : g < m := by have := congrArg List.length h3; simp at this; omega
    refine ⟨hgm, h1, fun k hk => ?_⟩
    have hk2 : k ∈ as1 := by
      have e : (List.range m)[k]? = some k := by rw [List.getElem?_eq_getElem (by simp; simp at hk; omega)]; simp
      rw [h3, List.getElem?_append_left (by simp at hk; omega)] at e
      exact List.mem_of_getElem? e
    simpa using h4 k hk2
theorem told_ok {h : Nat → Nat → Bool} (r : Nat → Nat) (hr : ∀ g k, g < m → k < m → k ≠ g → h g k = true → r k < r g) : ∀ i, i ≤ m → Told h m i (toldG h m i)
  | 0, _ => ⟨rfl, List.nodup_nil, fun g hg => by cases hg⟩
  | i + 1, hi => by
    have ih := told_ok r hr i (by omega)
    have hn := next_free (free_ex r hr (short_ex (T := toldG h m i) (by rw [ih.len]; omega)))
    obtain ⟨h1, h2⟩ := freeG_iff.1 hn.2.1
    refine ⟨by simp [toldG, ih.len], ?_, fun g hg => ?_⟩
    · show (toldG h m i ++ [nextG h m (toldG h m i)]).Nodup
      rw [List.nodup_append]
      refine ⟨ih.nd, by simp, fun a ha b hb e => ?_⟩
      rw [List.mem_singleton] at hb
      subst hb; subst e; exact h1 ha
    · rcases List.mem_append.1 hg with hg | hg
      · obtain ⟨h3, h4⟩ := ih.shut g hg
        exact ⟨h3, fun k hk hne hh => List.mem_append.2 (.inl (h4 k hk hne hh))⟩
      · rw [List.mem_singleton.1 hg]
        exact ⟨hn.1, fun k hk hne hh => List.mem_append.2 (.inl (h2 k hk hne hh))⟩
theorem idxOf_first {l : List Int} (hg : g < l.length) (h0 : l.getD g 0 = 0) (h1 : ∀ k, k < g → l.getD k 0 ≠ 0) : l.idxOf 0 = g := by
  have hm : (0 : Int) ∈ l := by
    have : l[g] = 0 := by rw [List.getD_eq_getElem?_getD, List.getElem?_eq_getElem hg] at h0; exact h0
    rw [← this]; exact List.getElem_mem hg
  have hlt := List.idxOf_lt_length_of_mem hm
  have he : l[l.idxOf 0] = 0 := List.getElem_idxOf hlt
  rcases Nat.lt_trichotomy (l.idxOf 0) g with h2 | h2 | h2
  · exact absurd (by rw [List.getD_eq_getElem?_getD, List.getElem?_eq_getElem hlt]; exact he) (h1 _ h2)
  · exact h2
  · have := List.not_of_lt_findIdx (p := (· == (0 : Int))) (xs := l) (i := g) h2
    rw [List.getD_eq_getElem?_getD, List.getElem?_eq_getElem hg] at h0
    simp only [Option.getD_some] at h0
    simp [h0] at this
theorem dec_at : ∀ (ks : List Int) (w : List Int), ks.Nodup → (∀ k ∈ ks, Vx m k) → w.length = m → (decF w ks).length = m ∧ ∀ j, (decF w ks).getD j 0 = w.getD j 0 - if (j : Int) ∈ ks then 1 else 0
  | [], w, _, _, hw => ⟨hw, fun j => by simp [decF]⟩
  | k :: ks, w, hn, hk, hw => by
    rw [List.nodup_cons] at hn
    have hkx := hk k (by simp)
    obtain ⟨h1, h2⟩ := dec_at ks (w.set k.toNat (w.getD k.toNat 0 - 1)) hn.2 (fun x hx => hk x (by simp [hx])) (by simpa using hw)
    refine ⟨h1, fun j => ?_⟩
    refine (h2 j).trans ?_
    have hkn : k.toNat < w.length := by unfold Vx at hkx; omega
    rw [getD_set hkn]
    by_cases e : j = k.toNat
    · have ej : (j : Int) = k := by unfold Vx at hkx; omega
      rw [if_pos e, ej, if_neg hn.1, if_pos (by simp), e]; omega
    · have ej : (j : Int) ≠ k := by unfold Vx at hkx; omega
      rw [if_neg e]
      by_cases e2 : (j : Int) ∈ ks <;> simp [e2, ej]
/-- the state of a line behind i rounds -/
theorem line_ok {h : Nat → Nat → Bool} (r : Nat → Nat) (hr : ∀ g k, g < all.length → k < all.length → k ≠ g → h g k = true → r k < r g) (hw : w.length = all.length) (hws : ∀ j, j < all.length → w.getD j 0 = cntR all.length fun k => decide (k ≠ j) && h j k)
    (hbs : ∀ k, k < all.length → back.getD k [] = ((List.range all.length).filter fun j => decide (k ≠ j) && h j k).map fun j : Nat => (j : Int)) :
    ∀ i, i ≤ all.length → (lineI all back w i).1.length = all.length ∧ (∀ j, j < all.length → (lineI all back w i).1.getD j 0 = waitT h all.length (toldG h all.length i) j) ∧ (lineI all back w i).2 = ((toldG h all.length i).map fun g => all.getD g []).flatten ∧
      (i < all.length → (lineI all back w i).1.idxOf 0 = nextG h all.length (toldG h all.length i))
  | 0, _ => by
    have hz : ∀ j, j < all.length → w.getD j 0 = waitT h all.length [] j := fun j hj => by rw [hws j hj]; unfold waitT; rw [if_neg (by simp)]; exact cntR_congr fun k _ => by simp
    refine ⟨hw, hz, rfl, fun h0 => ?_⟩
    have hn := next_free (free_ex r hr (short_ex (T := []) h0))
    exact idxOf_first (by show _ < w.length; rw [hw]; exact hn.1) ((hz _ hn.1).trans (waitT_zero.2 hn.2.1)) fun k hk e => by
      have e : w.getD k 0 = 0 := e
      rw [hz k (by have := hn.1; simp only [toldG] at hk; omega), waitT_zero] at e
      rw [hn.2.2 k hk] at e; cases e
  | i + 1, hi => by
    obtain ⟨h1, h2, h3, h4⟩ := line_ok r hr hw hws hbs i (by omega)
    have hT := told_ok r hr i (by omega)
    have hT1 := told_ok r hr (i + 1) hi
    have hn := next_free (free_ex r hr (short_ex (T := toldG h all.length i) (by rw [hT.len]; omega)))
    have h4 := h4 (by omega)
    have ht : toldG h all.length (i + 1) = toldG h all.length i ++ [nextG h all.length (toldG h all.length i)] := rfl
    obtain ⟨hf1, hf2⟩ := freeG_iff.1 hn.2.1
    generalize hg : nextG h all.length (toldG h all.length i) = g at *
    generalize toldG h all.length i = T at *
    have hgm := hn.1
    have hl : lineI all back w (i + 1) = (decF ((lineI all back w i).1.set g (-1)) (back.getD g []), (lineI all back w i).2 ++ all.getD g []) := by
      show lineS all back _ = _
      unfold lineS; rw [h4]
    rw [hl, ht]
    have hbk := hbs g hgm
    have hmb : ∀ j : Nat, (j : Int) ∈ back.getD g [] ↔ j < all.length ∧ g ≠ j ∧ h j g = true := fun j => by
      rw [hbk]
      simp only [List.mem_map, List.mem_filter, List.mem_range, Bool.and_eq_true, decide_eq_true_eq]
      constructor
      · rintro ⟨x, hx, e⟩
        have : x = j := by omega
        exact this ▸ hx
      · exact fun hx => ⟨j, hx, rfl⟩
    obtain ⟨d1, d2⟩ := dec_at (m := all.length) (back.getD g []) ((lineI all back w i).1.set g (-1)) (by
        rw [hbk, List.nodup_iff_pairwise_ne]
        exact List.pairwise_map.2 (((List.nodup_range).filter _).imp fun {a b} hab => by omega)) (fun k hk => by
        rw [hbk] at hk
        obtain ⟨x, hx, rfl⟩ := List.mem_map.1 hk
        have := List.mem_range.1 (List.mem_filter.1 hx).1
        unfold Vx; omega) (by simpa using h1)
    have hst : ∀ j, j < all.length → (decF ((lineI all back w i).1.set g (-1)) (back.getD g [])).getD j 0 = waitT h all.length (T ++ [g]) j := fun j hj => by
      rw [d2, getD_set (by rw [h1]; exact hgm)]
      unfold waitT
      by_cases e : j = g
      · subst e
        rw [if_pos rfl, if_neg (by rw [hmb]; simp), if_pos (by simp)]; rfl
      · rw [if_neg e, h2 j hj]
        unfold waitT
        by_cases e2 : j ∈ T
        · have em : ¬ (j : Int) ∈ back.getD g [] := fun hm => hf1 ((hT.shut j e2).2 g hgm (fun e3 => e e3.symm) ((hmb j).1 hm).2.2)
          rw [if_pos e2, if_neg em, if_pos (List.mem_append.2 (.inl e2))]; rfl
        · have et : ¬ j ∈ T ++ [g] := by simp [e2, e]
          rw [if_neg e2, if_neg et]
          by_cases hh : h j g = true
          · rw [if_pos ((hmb j).2 ⟨hj, fun e3 => e e3.symm, hh⟩)]
            have := cntR_one (m := all.length) (k := g) (p := fun k => (decide (k ≠ j) && h j k) && !decide (k ∈ T ++ [g])) (q := fun k => (decide (k ≠ j) && h j k) && !decide (k ∈ T)) hgm (by simp) (by simp [hh, hf1, Ne.symm e])
              (fun k _ hne => by simp [hne])
            omega
          · rw [if_neg (by rw [hmb]; simp [hh])]
            have := cntR_congr (m := all.length) (p := fun k => (decide (k ≠ j) && h j k) && !decide (k ∈ T)) (q := fun k => (decide (k ≠ j) && h j k) && !decide (k ∈ T ++ [g])) fun k _ => by
              by_cases e3 : k = g
              · subst e3; simp [hh]
              · simp [e3]
            omega
    refine ⟨d1, hst, by rw [h3]; simp, fun h0 => ?_⟩
    have hn2 := next_free (free_ex r hr (short_ex (T := T ++ [g]) (by have := hT1.len; rw [ht] at this; omega)))
    refine idxOf_first (by show _ < (decF _ _).length; rw [d1]; exact hn2.1) (by show (decF _ _).getD _ 0 = 0; rw [hst _ hn2.1]; exact waitT_zero.2 hn2.2.1) fun k hk e => ?_
    have e : (decF ((lineI all back w i).1.set g (-1)) (back.getD g [])).getD k 0 = 0 := e
    rw [hst k (by have := hn2.1; omega), waitT_zero] at e
    rw [hn2.2.2 k hk] at e; cases e
/-! ### all together -/
def hngOf (on : List (List Int)) : Nat → Nat → Bool := hng on (ofF (allOf on) on.length (allOf on).length) (allOf on)
def rankOf (on : List (List Int)) (g : Nat) : Nat := (groupsF on).idxOf ((allOf on).getD g [])
theorem allOf_prt (hO : OnOk on n) : Prt n (allOf on) := (groups_grp hO).prt.perm (sortHd_perm _)
theorem all_len (hO : OnOk on n) : (allOf on).length ≤ n := by
  have hp := allOf_prt hO
  exact Nat.le_trans (flat_len _ fun g hg => (hp.gok g hg).1) (nodup_len hp.nd fun x hx => (hp.mem x).1 hx)
theorem rank_lt (hO : OnOk on n) {g k : Nat} (hg : g < (allOf on).length) (hk : k < (allOf on).length) (hne : k ≠ g) (h : Edg on (allOf on) g k) : rankOf on k < rankOf on g := by
  have hG := groups_grp hO
  have hp := allOf_prt hO
  have hpm := sortHd_perm (groupsF on)
  have at_ : ∀ g, g < (allOf on).length → rankOf on g < (groupsF on).length ∧ (groupsF on).getD (rankOf on g) [] = (allOf on).getD g [] := fun g hg => by
    have hm : (allOf on).getD g [] ∈ groupsF on := by
      rw [List.getD_eq_getElem?_getD, List.getElem?_eq_getElem hg]
      exact hpm.mem_iff.1 (List.getElem_mem hg)
    have hlt := List.idxOf_lt_length_of_mem hm
    refine ⟨hlt, ?_⟩
    unfold rankOf
    rw [List.getD_eq_getElem?_getD, List.getElem?_eq_getElem hlt]
    exact List.getElem_idxOf hlt
  obtain ⟨v, hv, u, hu, huk⟩ := h
  obtain ⟨g1, g2⟩ := at_ g hg
  obtain ⟨k1, k2⟩ := at_ k hk
  have h1 := hG.cls (rankOf on g) v (by rw [g2]; exact hv) u hu
  obtain ⟨l, hl, hul⟩ := List.mem_flatten.1 h1
  obtain ⟨j, hj, rfl⟩ := List.getElem_of_mem hl
  have hj2 : j < (groupsF on).length ∧ j ≤ rankOf on g := by simp at hj; omega
  have e1 : u ∈ (groupsF on).getD j [] := by rw [List.getD_eq_getElem?_getD, List.getElem?_eq_getElem hj2.1]; simpa using hul
  have e2 : j = rankOf on k := flat_uniq _ hG.nd j (rankOf on k) u e1 (by rw [k2]; exact huk)
  have e3 : rankOf on k ≠ rankOf on g := fun e => by
    have h5 : (allOf on).getD k [] = (allOf on).getD g [] := by rw [← k2, ← g2, e]
    exact hne (flat_uniq _ hp.nd k g u huk (by rw [← h5]; exact huk))
  omega
theorem line_law (hO : OnOk on on.length) : ∀ i, i ≤ (allOf on).length → (lineI (allOf on) (tieOf on).2 (tieOf on).1 i).1.length = (allOf on).length ∧
      (lineI (allOf on) (tieOf on).2 (tieOf on).1 i).2 = ((toldG (hngOf on) (allOf on).length i).map fun g => (allOf on).getD g []).flatten ∧
      (i < (allOf on).length → (lineI (allOf on) (tieOf on).2 (tieOf on).1 i).1.idxOf 0 = nextG (hngOf on) (allOf on).length (toldG (hngOf on) (allOf on).length i) ∧ nextG (hngOf on) (allOf on).length (toldG (hngOf on) (allOf on).length i) < (allOf on).length) ∧
      Told (hngOf on) (allOf on).length i (toldG (hngOf on) (allOf on).length i) := by
  have hp := allOf_prt hO
  have hr : ∀ g k, g < (allOf on).length → k < (allOf on).length → k ≠ g → hngOf on g k = true → rankOf on k < rankOf on g := fun g k hg hk hne h => rank_lt hO hg hk hne ((hng_iff hp hO).1 h)
  have htw := tieF_tw (on := on) (of := ofF (allOf on) on.length (allOf on).length) (all := allOf on) (fun g _ v _ u hu => of_vx hp (hO.rng v u hu)) _ (Nat.le_refl _)
  intro i hi
  have hl := line_ok (all := allOf on) (w := (tieOf on).1) (back := (tieOf on).2) (h := hngOf on) (rankOf on) hr htw.lw (fun j hj => by have := htw.ws j; rw [if_pos hj] at this; exact this) (fun k hk => htw.bs k hk) i hi
  have ht := told_ok (rankOf on) hr i hi
  exact ⟨hl.1, hl.2.2.1, fun h0 => ⟨hl.2.2.2 h0, (next_free (free_ex (rankOf on) hr (short_ex (by rw [ht.len]; exact h0)))).1⟩, ht⟩
theorem line_vals (hO : OnOk on on.length) : ∀ i, i ≤ (allOf on).length → ∀ j, j < (allOf on).length → -1 ≤ (lineI (allOf on) (tieOf on).2 (tieOf on).1 i).1.getD j 0 ∧ (lineI (allOf on) (tieOf on).2 (tieOf on).1 i).1.getD j 0 ≤ (allOf on).length := by
  have hp := allOf_prt hO
  have hr : ∀ g k, g < (allOf on).length → k < (allOf on).length → k ≠ g → hngOf on g k = true → rankOf on k < rankOf on g := fun g k hg hk hne h => rank_lt hO hg hk hne ((hng_iff hp hO).1 h)
  have htw := tieF_tw (on := on) (of := ofF (allOf on) on.length (allOf on).length) (all := allOf on) (fun g _ v _ u hu => of_vx hp (hO.rng v u hu)) _ (Nat.le_refl _)
  intro i hi j hj
  have hl := line_ok (all := allOf on) (w := (tieOf on).1) (back := (tieOf on).2) (h := hngOf on) (rankOf on) hr htw.lw (fun j hj => by have := htw.ws j; rw [if_pos hj] at this; exact this) (fun k hk => htw.bs k hk) i hi
  rw [hl.2.1 j hj]
  unfold waitT
  have := cntR_nonneg (allOf on).length fun k => (decide (k ≠ j) && hngOf on j k) && !decide (k ∈ toldG (hngOf on) (allOf on).length i)
  split <;> omega
theorem back_ok (hO : OnOk on on.length) : (tieOf on).1.length = (allOf on).length ∧ (tieOf on).2.length = (allOf on).length ∧ ∀ g, g < (allOf on).length → ((tieOf on).2.getD g []).Nodup ∧ (∀ k ∈ (tieOf on).2.getD g [], Vx (allOf on).length k) := by
  have hp := allOf_prt hO
  have htw := tieF_tw (on := on) (of := ofF (allOf on) on.length (allOf on).length) (all := allOf on) (fun g _ v _ u hu => of_vx hp (hO.rng v u hu)) _ (Nat.le_refl _)
  refine ⟨htw.lw, htw.lb, fun g hg => ?_⟩
  have hb := htw.bs g hg
  have hb : (tieOf on).2.getD g [] = _ := hb
  rw [hb]
  constructor
  · rw [List.nodup_iff_pairwise_ne]
    exact List.pairwise_map.2 (((List.nodup_range).filter _).imp fun {a b} hab => by omega)
  · intro k hk
    obtain ⟨x, hx, rfl⟩ := List.mem_map.1 hk
    have := List.mem_range.1 (List.mem_filter.1 hx).1
    unfold Vx; omega
end
end Go.Tar
