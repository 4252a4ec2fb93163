/- Texts of the claim ExecKnown, joined: CExe, CExe2, LOrd0, CExe3, COrd20, PLine3. -/
import Derived.Test.YtkjhccpanedccaaBExecKnown8
import Derived.Test.YtkjhccpanedccaaBExecKnown6
namespace Go.Proofs.Ytkjhccpanedccaa
set_option linter.unusedVariables false
set_option linter.unusedSimpArgs false
open Go Go.Eng Go.Tar Go.Sort
structure Cmd where
  i : Ins
  w : P7 Int
  bs : List UInt8
structure CmdX where
  i : Ins
  w : P7 Int
  b : BSl
def CmdX.er (c : CmdX) : Cmd := ⟨c.i, c.w, c.b.bs⟩
abbrev CmdX.val (c : CmdX) : Value := .agg #[.int .i64 c.i.d.rep, .int .i64 c.i.d.n, .int .i64 c.i.s, .int .i64 c.i.v.x0, .int .i64 c.i.v.x1, .int .i64 c.i.v.x2, .int .i64 c.i.v.x3, .int .i64 c.i.v.x4, .int .i64 c.i.v.x5, .int .i64 c.i.v.x6, .int .i64 c.w.x0, .int .i64 c.w.x1, .int .i64 c.w.x2, .int .i64 c.w.x3, .int .i64 c.w.x4, .int .i64 c.w.x5, .int .i64 c.w.x6, c.b.v]
structure XS where
  have_ : P7 Int
  cs : List Cmd
  done : List Dot
abbrev XS.ins (s : XS) : List Ins := s.cs.map (·.i)
def XS.new : XS := ⟨P7.all 0, [], []⟩
def XS.find (s : XS) (d : Dot) : Option Cmd := s.cs.find? fun c => decide (c.i.d = d)
abbrev cmd0 : Value := .agg #[.int .i64 0, .int .i64 0, .int .i64 0, .int .i64 0, .int .i64 0, .int .i64 0, .int .i64 0, .int .i64 0, .int .i64 0, .int .i64 0, .int .i64 0, .int .i64 0, .int .i64 0, .int .i64 0, .int .i64 0, .int .i64 0, .int .i64 0, .slice none 0 0]
structure XX where
  ys : List CmdX
  r1 : Nat
  r2 : Nat
  m : List (Dot × Value)
  la : Option Addr
  lc : Nat
  da : Option Addr
  dc : Nat
abbrev kv (ys : List CmdX) : List (Dot × Value) := ys.map fun y => (y.i.d, y.val)
def XX.ok (x : XX) (s : XS) : Prop := x.ys.map CmdX.er = s.cs ∧ ∀ d, (mget x.m d).getD (.bool false) = .bool (decide (d ∈ s.done))
/-- an Exec, as it lies -/
def exo (p : Nat) (s : XS) : Asn := fun h => ∃ x : XX, x.ok s ∧ sep [cells p [.int .i64 s.have_.x0, .int .i64 s.have_.x1, .int .i64 s.have_.x2, .int .i64 s.have_.x3, .int .i64 s.have_.x4, .int .i64 s.have_.x5, .int .i64 s.have_.x6, .map (some x.r1), .slice x.la s.cs.length x.lc, .map (some x.r2), .slice x.da s.done.length x.dc] T_exec_Exec,
  mp KD x.r1 (kv x.ys), mp KD x.r2 x.m, arr INS T_order_Inst x.la x.lc s.ins, arr DOT T_api_Dot x.da x.dc s.done, many fch (x.ys.map (·.b))] h
section
variable {W0 W : World} {L L' : List Asn} {p : Nat} {s : XS}
theorem exo_at (h : St W0 (exo p s :: L) W) : ∃ x : XX, x.ok s ∧ St W0 (cells p [.int .i64 s.have_.x0, .int .i64 s.have_.x1, .int .i64 s.have_.x2, .int .i64 s.have_.x3, .int .i64 s.have_.x4, .int .i64 s.have_.x5, .int .i64 s.have_.x6, .map (some x.r1), .slice x.la s.cs.length x.lc, .map (some x.r2), .slice x.da s.done.length x.dc] T_exec_Exec ::
    mp KD x.r1 (kv x.ys) :: mp KD x.r2 x.m :: arr INS T_order_Inst x.la x.lc s.ins :: arr DOT T_api_Dot x.da x.dc s.done :: many fch (x.ys.map (·.b)) :: L) W := by
  obtain ⟨x, h⟩ := h.ex
  obtain ⟨h1, h⟩ := h.fact
  exact ⟨x, h1, h.flat⟩
theorem exo_of (x : XX) (hx : x.ok s) (h : St W0 (cells p [.int .i64 s.have_.x0, .int .i64 s.have_.x1, .int .i64 s.have_.x2, .int .i64 s.have_.x3, .int .i64 s.have_.x4, .int .i64 s.have_.x5, .int .i64 s.have_.x6, .map (some x.r1), .slice x.la s.cs.length x.lc, .map (some x.r2), .slice x.da s.done.length x.dc] T_exec_Exec ::
    mp KD x.r1 (kv x.ys) :: mp KD x.r2 x.m :: arr INS T_order_Inst x.la x.lc s.ins :: arr DOT T_api_Dot x.da x.dc s.done :: many fch (x.ys.map (·.b)) :: L) W) : St W0 (exo p s :: L) W :=
  h.ent ((ent.pack [_, _, _, _, _, _] L).trans (ent.weak fun _ hp => ⟨x, hx, hp⟩))
theorem mlen {P : Program} {κ : Type} {t kt et ty : TypeId} {K : κ → Value} {r : Nat} {l : List (κ × Value)} [hT : MapT P t kt et] {k : Value → World → Prop} (h : St W0 L W) [hm : Tk (Eng.mp K r) L l L'] (hk : k (.int .i64 l.length) W) : rdK P (Builtin.len_ #[t] ty #[.map (some r)]) k W := by
  obtain ⟨es, clock, h1, h2, h3⟩ := (h.perm hm.perm).mp
  have hb := h3.blk.2
  have hl : es.size = l.length := by have := congrArg List.length h1; simpa [mpL] using this
  refine ⟨.int .i64 l.length, ?_, hk⟩
  simp [Builtin.len_, run_underlying hT.ok, MapKept.run_getObj_map hb, goInt, hl]
theorem stb_lkpOk {P : Program} {κ : Type} {t kt et : TypeId} {K : κ → Value} {r : Nat} {l : List (κ × Value)} [DecidableEq κ] [hT : MapT P t kt et] [hK : KeyT P kt K] {z : Value} [hz : TyZ P et z] (a : κ) {ii : Nat} {bb : Bool} {hl : List HoldV} {R : World → Prop} (h : St W0 L W) [hm : Tk (Eng.mp K r) L l L'] (hk : stb P hl R W) :
    stb P ((ii, bb, Instr.lookup t (.map (some r)) (K a) true, .tuple #[(mget l a).getD z, .bool (mget l a).isSome]) :: hl) R W := ⟨fun _ => by rw [lookup_run (a := a) true (h.perm hm.perm)]; rfl, hk⟩
theorem stb_kv {ys : List CmdX} {r : Nat} {d : Dot} {v : Value} {ii : Nat} {bb : Bool} {hl : List HoldV} {R : World → Prop} (h : St W0 L W) [hm : Tk (Eng.mp KD r) L (kv ys) L'] (hv : v = .tuple #[(mget (kv ys) d).getD cmd0, .bool (mget (kv ys) d).isSome]) (hk : stb PR hl R W) :
    stb PR ((ii, bb, Instr.lookup T_m_api_Dot_exec_command (.map (some r)) (KD d) true, v) :: hl) R W := by
  subst hv; exact stb_lkpOk (K := KD) (z := cmd0) d h hk
theorem kv_get (ys : List CmdX) (d : Dot) : mget (kv ys) d = (ys.find? fun y => decide (y.i.d = d)).map CmdX.val := by
  induction ys with
  | nil => rfl
  | cons y ys ih =>
    simp only [kv, List.map_cons, mget, List.find?_cons]
    by_cases h : y.i.d = d
    · simp [h]
    · simp only [if_neg h, decide_eq_false h]; exact ih
theorem find_er {ys : List CmdX} (h : ys.map CmdX.er = s.cs) (d : Dot) : s.find d = (ys.find? fun y => decide (y.i.d = d)).map CmdX.er := by
  unfold XS.find
  rw [← h, List.find?_map]; rfl
theorem execNew {k : Value → World → Prop} (h : St W0 L W) (hk : ∀ p W', St W0 (exo p XS.new :: L) W' → k (.pointer (some ⟨p, 0, none⟩)) W') : callK PR F_exec_New [] k W := by
  apply S.exec_New.call
  unfold S.exec_New.body
  refine mkMap (K := KD) h fun r1 W1 h => ?_
  refine mkMap (K := KD) h fun r2 W2 h => ?_
  (repeat (first | (first | (with_reducible (first | refine w1 fun _ _ => ?_ | refine w3 fun _ _ _ => ?_ | refine w4 fun _ _ _ => ?_ | refine w11 fun _ _ _ => ?_ | refine stb_n ?_)) | ((with_reducible refine w2 ?_); try simp -implicitDefEqProofs only [EN, lsub, lget, stL, beq_self_eq_true, ne_eq, if_true, if_false, List.cons_append, List.nil_append, Option.isNone_some, Option.isNone_none]; intro _ _) | ((with_reducible (first | refine w5 ?_ ?_ | refine w6 ?_ ?_ | refine w7 ?_ ?_)); simp; refine ⟨_, rfl, ?_⟩) | ((with_reducible (first | refine w8 ?_ ?_ ?_ | refine w9 ?_ ?_ ?_ | refine w10 ?_ ?_ ?_)); exact rfl; simp) | ((with_reducible refine w12 ?_ ?_ ?_ fun _ _ => ?_); simp; simp; simp [oneC]) | ((with_reducible (first | refine eqs ?_ | refine nes ?_)); refine ⟨_, rfl, ?_⟩) | ((refine okF_i (bldP_eq rfl) ?_); try simp only [BLS, List.take_succ_cons, List.take_zero, List.drop_succ_cons, List.drop_zero, List.cons_append, List.nil_append, Nat.reduceAdd])) | simp -implicitDefEqProofs only [EN, lsub, lget, stL, beq_self_eq_true, ne_eq, if_true, if_false, List.cons_append, List.nil_append, Option.isNone_some, Option.isNone_none]))
  rename_i p W3 h
  (try simp only [BLS, List.take_succ_cons, List.take_zero, List.drop_succ_cons, List.drop_zero, List.cons_append, List.nil_append, List.append_nil, List.take_nil, List.drop_nil, stL, Nat.reduceAdd] at h)
  have h := ((h.ent (arr_nil INS T_order_Inst)).ent (arr_nil DOT T_api_Dot)).ent (many_nil (F := fch))
  exact hk p _ (exo_of (s := XS.new) ⟨[], r1, r2, [], none, 0, none, 0⟩ ⟨rfl, fun d => rfl⟩ (St.wk (L' := cells p [.int .i64 0, .int .i64 0, .int .i64 0, .int .i64 0, .int .i64 0, .int .i64 0, .int .i64 0, .map (some r1), .slice none 0 0, .map (some r2), .slice none 0 0] T_exec_Exec :: mp KD r1 [] :: mp KD r2 [] :: arr INS T_order_Inst none 0 [] :: arr DOT T_api_Dot none 0 [] :: many fch [] :: L) h))
/-- Commit: what it is, what it answers -/
def XS.commit (s : XS) (i : Ins) (w : P7 Int) (bs : List UInt8) : XS × Int :=
  if goodO [i] = false ∨ goodV w = false ∨ 65536 < bs.length then (s, 1)
  else if (s.find i.d).isSome then (s, 5)
  else if 1000 ≤ s.cs.length then (s, 2)
  else (⟨s.have_, s.cs ++ [⟨i, w, bs⟩], s.done⟩, 0)
set_option maxRecDepth 100000 in
set_option maxHeartbeats 8000000 in
theorem execCommit {i : Ins} {w : P7 Int} {a : Option Addr} {c : Nat} {bs : List UInt8} {k : Value → World → Prop} (h : St W0 (exo p s :: L) W) [hr : Rd W0 L a B8 bs] (hb : bs.length < 70368744177664)
    (hk : ∀ W', St W0 (exo p (s.commit i w bs).1 :: L) W' → k (.int .i64 (s.commit i w bs).2) W') : callK PR F_exec_Exec_Commit [.pointer (some ⟨p, 0, none⟩), .agg #[.int .i64 i.d.rep, .int .i64 i.d.n, .int .i64 i.s, .int .i64 i.v.x0, .int .i64 i.v.x1, .int .i64 i.v.x2, .int .i64 i.v.x3, .int .i64 i.v.x4, .int .i64 i.v.x5, .int .i64 i.v.x6], .agg #[.int .i64 w.x0, .int .i64 w.x1, .int .i64 w.x2, .int .i64 w.x3, .int .i64 w.x4, .int .i64 w.x5, .int .i64 w.x6], .slice a bs.length c] k W := by
  apply S.exec_Exec_Commit.call
  unfold S.exec_Exec_Commit.body
  refine bxa h fun ib W1 h => ?_
  refine bxa h fun wb_ W1 h => ?_
  have h : St W0 (cells wb_ [.int .i64 w.x0, .int .i64 w.x1, .int .i64 w.x2, .int .i64 w.x3, .int .i64 w.x4, .int .i64 w.x5, .int .i64 w.x6] T_vec_Vec :: cells ib [.int .i64 i.d.rep, .int .i64 i.d.n, .int .i64 i.s, .int .i64 i.v.x0, .int .i64 i.v.x1, .int .i64 i.v.x2, .int .i64 i.v.x3, .int .i64 i.v.x4, .int .i64 i.v.x5, .int .i64 i.v.x6] T_order_Inst :: exo p s :: L) W1 := h
  (repeat (first | (first | (with_reducible (first | refine w1 fun _ _ => ?_ | refine w3 fun _ _ _ => ?_ | refine w4 fun _ _ _ => ?_ | refine w11 fun _ _ _ => ?_ | refine stb_n ?_)) | ((with_reducible refine w2 ?_); try simp -implicitDefEqProofs only [EN, lsub, lget, stL, beq_self_eq_true, ne_eq, if_true, if_false, List.cons_append, List.nil_append, Option.isNone_some, Option.isNone_none]; intro _ _) | ((with_reducible (first | refine w5 ?_ ?_ | refine w6 ?_ ?_ | refine w7 ?_ ?_)); simp; refine ⟨_, rfl, ?_⟩) | ((with_reducible (first | refine w8 ?_ ?_ ?_ | refine w9 ?_ ?_ ?_ | refine w10 ?_ ?_ ?_)); exact rfl; simp) | ((with_reducible refine w12 ?_ ?_ ?_ fun _ _ => ?_); simp; simp; simp [oneC]) | ((with_reducible (first | refine eqs ?_ | refine nes ?_)); refine ⟨_, rfl, ?_⟩) | ((refine okF_i (bldP_eq rfl) ?_); try simp only [BLS, List.take_succ_cons, List.take_zero, List.drop_succ_cons, List.drop_zero, List.cons_append, List.nil_append, Nat.reduceAdd])) | simp -implicitDefEqProofs only [EN, lsub, lget, stL, beq_self_eq_true, ne_eq, if_true, if_false, List.cons_append, List.nil_append, Option.isNone_some, Option.isNone_none]))
  refine bsA INS [i] (n := 1) (by first | assumption | exact St.tick (by assumption) | exact St.tick (St.tick (by assumption))) rfl rfl (by decide) (by decide) rfl fun a1 c1 W2 h => ?_
  refine ordGood (a := a1) (l := [i]) h (by simp) fun W3 h => ?_
  have h := St.wk (L' := cells wb_ [.int .i64 w.x0, .int .i64 w.x1, .int .i64 w.x2, .int .i64 w.x3, .int .i64 w.x4, .int .i64 w.x5, .int .i64 w.x6] T_vec_Vec :: cells ib [.int .i64 i.d.rep, .int .i64 i.d.n, .int .i64 i.s, .int .i64 i.v.x0, .int .i64 i.v.x1, .int .i64 i.v.x2, .int .i64 i.v.x3, .int .i64 i.v.x4, .int .i64 i.v.x5, .int .i64 i.v.x6] T_order_Inst :: exo p s :: L) h
  unfold XS.commit at hk
  cases hg : goodO [i] with
  | false =>
    rw [if_pos (.inl hg)] at hk
    (repeat (first | (first | (with_reducible (first | refine w1 fun _ _ => ?_ | refine w3 fun _ _ _ => ?_ | refine w4 fun _ _ _ => ?_ | refine w11 fun _ _ _ => ?_ | refine stb_n ?_)) | ((with_reducible refine w2 ?_); try simp -implicitDefEqProofs only [EN, lsub, lget, stL, beq_self_eq_true, ne_eq, if_true, if_false, List.cons_append, List.nil_append, Option.isNone_some, Option.isNone_none]; intro _ _) | ((with_reducible (first | refine w5 ?_ ?_ | refine w6 ?_ ?_ | refine w7 ?_ ?_)); simp; refine ⟨_, rfl, ?_⟩) | ((with_reducible (first | refine w8 ?_ ?_ ?_ | refine w9 ?_ ?_ ?_ | refine w10 ?_ ?_ ?_)); exact rfl; simp) | ((with_reducible refine w12 ?_ ?_ ?_ fun _ _ => ?_); simp; simp; simp [oneC]) | ((with_reducible (first | refine eqs ?_ | refine nes ?_)); refine ⟨_, rfl, ?_⟩) | ((refine okF_i (bldP_eq rfl) ?_); try simp only [BLS, List.take_succ_cons, List.take_zero, List.drop_succ_cons, List.drop_zero, List.cons_append, List.nil_append, Nat.reduceAdd])) | simp -implicitDefEqProofs only [EN, lsub, lget, stL, beq_self_eq_true, ne_eq, if_true, if_false, List.cons_append, List.nil_append, Option.isNone_some, Option.isNone_none]))
    exact hk _ (St.wk (by first | assumption | exact St.tick (by assumption) | exact St.tick (St.tick (by assumption))))
  | true =>
  cases hw : goodV w with
  | false =>
    rw [if_pos (.inr (.inl hw))] at hk
    have hw2 : goodV ⟨w.x0, w.x1, w.x2, w.x3, w.x4, w.x5, w.x6⟩ = false := hw
    (repeat (first | (first | (with_reducible (first | refine w1 fun _ _ => ?_ | refine w3 fun _ _ _ => ?_ | refine w4 fun _ _ _ => ?_ | refine w11 fun _ _ _ => ?_ | refine stb_n ?_)) | ((with_reducible refine w2 ?_); try simp -implicitDefEqProofs only [EN, lsub, lget, stL, beq_self_eq_true, ne_eq, if_true, if_false, List.cons_append, List.nil_append, Option.isNone_some, Option.isNone_none, hw2]; intro _ _) | ((with_reducible (first | refine w5 ?_ ?_ | refine w6 ?_ ?_ | refine w7 ?_ ?_)); simp; refine ⟨_, rfl, ?_⟩) | ((with_reducible (first | refine w8 ?_ ?_ ?_ | refine w9 ?_ ?_ ?_ | refine w10 ?_ ?_ ?_)); exact rfl; simp) | ((with_reducible refine w12 ?_ ?_ ?_ fun _ _ => ?_); simp; simp; simp [oneC]) | ((with_reducible (first | refine eqs ?_ | refine nes ?_)); refine ⟨_, rfl, ?_⟩) | ((refine okF_i (bldP_eq rfl) ?_); try simp only [BLS, List.take_succ_cons, List.take_zero, List.drop_succ_cons, List.drop_zero, List.cons_append, List.nil_append, Nat.reduceAdd])) | simp -implicitDefEqProofs only [EN, lsub, lget, stL, beq_self_eq_true, ne_eq, if_true, if_false, List.cons_append, List.nil_append, Option.isNone_some, Option.isNone_none, hw2]))
    exact hk _ (St.wk (by first | assumption | exact St.tick (by assumption) | exact St.tick (St.tick (by assumption))))
  | true =>
  have hw2 : goodV ⟨w.x0, w.x1, w.x2, w.x3, w.x4, w.x5, w.x6⟩ = true := hw
  by_cases hl : (65536 : Int) < (bs.length : Int)
  · rw [if_pos (.inr (.inr (by omega)))] at hk
    (repeat (first | (first | (with_reducible (first | refine w1 fun _ _ => ?_ | refine w3 fun _ _ _ => ?_ | refine w4 fun _ _ _ => ?_ | refine w11 fun _ _ _ => ?_ | refine stb_n ?_)) | ((with_reducible refine w2 ?_); try simp -implicitDefEqProofs only [EN, lsub, lget, stL, beq_self_eq_true, ne_eq, if_true, if_false, List.cons_append, List.nil_append, Option.isNone_some, Option.isNone_none, hw2, hl]; intro _ _) | ((with_reducible (first | refine w5 ?_ ?_ | refine w6 ?_ ?_ | refine w7 ?_ ?_)); simp; refine ⟨_, rfl, ?_⟩) | ((with_reducible (first | refine w8 ?_ ?_ ?_ | refine w9 ?_ ?_ ?_ | refine w10 ?_ ?_ ?_)); exact rfl; simp) | ((with_reducible refine w12 ?_ ?_ ?_ fun _ _ => ?_); simp; simp; simp [oneC]) | ((with_reducible (first | refine eqs ?_ | refine nes ?_)); refine ⟨_, rfl, ?_⟩) | ((refine okF_i (bldP_eq rfl) ?_); try simp only [BLS, List.take_succ_cons, List.take_zero, List.drop_succ_cons, List.drop_zero, List.cons_append, List.nil_append, Nat.reduceAdd])) | simp -implicitDefEqProofs only [EN, lsub, lget, stL, beq_self_eq_true, ne_eq, if_true, if_false, List.cons_append, List.nil_append, Option.isNone_some, Option.isNone_none, hw2, hl]))
    exact hk _ (St.wk (by first | assumption | exact St.tick (by assumption) | exact St.tick (St.tick (by assumption))))
  rw [if_neg (by rintro (h | h | h); rw [hg] at h; cases h; rw [hw] at h; cases h; omega)] at hk
  (repeat (first | (first | (with_reducible (first | refine w1 fun _ _ => ?_ | refine w3 fun _ _ _ => ?_ | refine w4 fun _ _ _ => ?_ | refine w11 fun _ _ _ => ?_ | refine stb_n ?_)) | ((with_reducible refine w2 ?_); try simp -implicitDefEqProofs only [EN, lsub, lget, stL, beq_self_eq_true, ne_eq, if_true, if_false, List.cons_append, List.nil_append, Option.isNone_some, Option.isNone_none, hw2, hl]; intro _ _) | ((with_reducible (first | refine w5 ?_ ?_ | refine w6 ?_ ?_ | refine w7 ?_ ?_)); simp; refine ⟨_, rfl, ?_⟩) | ((with_reducible (first | refine w8 ?_ ?_ ?_ | refine w9 ?_ ?_ ?_ | refine w10 ?_ ?_ ?_)); exact rfl; simp) | ((with_reducible refine w12 ?_ ?_ ?_ fun _ _ => ?_); simp; simp; simp [oneC]) | ((with_reducible (first | refine eqs ?_ | refine nes ?_)); refine ⟨_, rfl, ?_⟩) | ((refine okF_i (bldP_eq rfl) ?_); try simp only [BLS, List.take_succ_cons, List.take_zero, List.drop_succ_cons, List.drop_zero, List.cons_append, List.nil_append, Nat.reduceAdd])) | simp -implicitDefEqProofs only [EN, lsub, lget, stL, beq_self_eq_true, ne_eq, if_true, if_false, List.cons_append, List.nil_append, Option.isNone_some, Option.isNone_none, hw2, hl]))
  obtain ⟨⟨ys, r1, r2, m, la, lc, da, dc⟩, hx, h⟩ := exo_at (St.wk (L' := exo p s :: cells wb_ [.int .i64 w.x0, .int .i64 w.x1, .int .i64 w.x2, .int .i64 w.x3, .int .i64 w.x4, .int .i64 w.x5, .int .i64 w.x6] T_vec_Vec :: cells ib [.int .i64 i.d.rep, .int .i64 i.d.n, .int .i64 i.s, .int .i64 i.v.x0, .int .i64 i.v.x1, .int .i64 i.v.x2, .int .i64 i.v.x3, .int .i64 i.v.x4, .int .i64 i.v.x5, .int .i64 i.v.x6] T_order_Inst :: L) (by first | assumption | exact St.tick (by assumption) | exact St.tick (St.tick (by assumption))))
  obtain ⟨hy, hm⟩ := hx
  simp only at hy hm h
  have hgk := kv_get ys i.d
  have hyl : ys.length = s.cs.length := by rw [← hy, List.length_map]
  rw [find_er hy] at hk
  have fin : ∀ W', St W0 (cells p [.int .i64 s.have_.x0, .int .i64 s.have_.x1, .int .i64 s.have_.x2, .int .i64 s.have_.x3, .int .i64 s.have_.x4, .int .i64 s.have_.x5, .int .i64 s.have_.x6, .map (some r1), .slice la s.cs.length lc, .map (some r2), .slice da s.done.length dc] T_exec_Exec :: mp KD r1 (kv ys) :: mp KD r2 m :: arr INS T_order_Inst la lc s.ins :: arr DOT T_api_Dot da dc s.done :: many fch (ys.map (·.b)) :: L) W' → St W0 (exo p s :: L) W' := fun W' h =>
    exo_of ⟨ys, r1, r2, m, la, lc, da, dc⟩ ⟨hy, hm⟩ h
  (repeat (first | (first | (with_reducible (first | refine w1 fun _ _ => ?_ | refine w3 fun _ _ _ => ?_ | refine w4 fun _ _ _ => ?_ | refine w11 fun _ _ _ => ?_ | refine stb_n ?_)) | ((with_reducible refine w2 ?_); try simp -implicitDefEqProofs only [EN, lsub, lget, stL, beq_self_eq_true, ne_eq, if_true, if_false, List.cons_append, List.nil_append, Option.isNone_some, Option.isNone_none]; intro _ _) | ((with_reducible (first | refine w5 ?_ ?_ | refine w6 ?_ ?_ | refine w7 ?_ ?_)); simp; refine ⟨_, rfl, ?_⟩) | ((with_reducible (first | refine w8 ?_ ?_ ?_ | refine w9 ?_ ?_ ?_ | refine w10 ?_ ?_ ?_)); exact rfl; simp) | ((with_reducible refine w12 ?_ ?_ ?_ fun _ _ => ?_); simp; simp; simp [oneC]) | ((with_reducible (first | refine eqs ?_ | refine nes ?_)); refine ⟨_, rfl, ?_⟩) | ((refine okF_i (bldP_eq rfl) ?_); try simp only [BLS, List.take_succ_cons, List.take_zero, List.drop_succ_cons, List.drop_zero, List.cons_append, List.nil_append, Nat.reduceAdd])) | simp -implicitDefEqProofs only [EN, lsub, lget, stL, beq_self_eq_true, ne_eq, if_true, if_false, List.cons_append, List.nil_append, Option.isNone_some, Option.isNone_none]))
  refine lkpOk (K := KD) (z := cmd0) i.d (by first | assumption | exact St.tick (by assumption) | exact St.tick (St.tick (by assumption))) ?_
  cases hf : ys.find? (fun y => decide (y.i.d = i.d)) with
  | some y =>
    rw [hf] at hgk hk
    rw [if_pos (by rfl)] at hk
    rw [Option.map_some] at hgk
    rw [hgk]
    simp only [Option.getD_some, Option.isSome_some]
    (repeat (first | (first | (with_reducible (first | refine w1 fun _ _ => ?_ | refine w3 fun _ _ _ => ?_ | refine w4 fun _ _ _ => ?_ | refine w11 fun _ _ _ => ?_ | refine stb_n ?_)) | ((with_reducible refine w2 ?_); try simp -implicitDefEqProofs only [EN, lsub, lget, stL, beq_self_eq_true, ne_eq, if_true, if_false, List.cons_append, List.nil_append, Option.isNone_some, Option.isNone_none]; intro _ _) | ((with_reducible (first | refine w5 ?_ ?_ | refine w6 ?_ ?_ | refine w7 ?_ ?_)); simp; refine ⟨_, rfl, ?_⟩) | ((with_reducible (first | refine w8 ?_ ?_ ?_ | refine w9 ?_ ?_ ?_ | refine w10 ?_ ?_ ?_)); exact rfl; simp) | ((with_reducible refine w12 ?_ ?_ ?_ fun _ _ => ?_); simp; simp; simp [oneC]) | ((with_reducible (first | refine eqs ?_ | refine nes ?_)); refine ⟨_, rfl, ?_⟩) | ((refine okF_i (bldP_eq rfl) ?_); try simp only [BLS, List.take_succ_cons, List.take_zero, List.drop_succ_cons, List.drop_zero, List.cons_append, List.nil_append, Nat.reduceAdd])) | simp -implicitDefEqProofs only [EN, lsub, lget, stL, beq_self_eq_true, ne_eq, if_true, if_false, List.cons_append, List.nil_append, Option.isNone_some, Option.isNone_none]))
    refine stb_kv (ys := ys) (d := i.d) (by first | assumption | exact St.tick (by assumption) | exact St.tick (St.tick (by assumption))) (by rw [hgk]; rfl) ?_
    (repeat (first | (first | (with_reducible (first | refine w1 fun _ _ => ?_ | refine w3 fun _ _ _ => ?_ | refine w4 fun _ _ _ => ?_ | refine w11 fun _ _ _ => ?_ | refine stb_n ?_)) | ((with_reducible refine w2 ?_); try simp -implicitDefEqProofs only [EN, lsub, lget, stL, beq_self_eq_true, ne_eq, if_true, if_false, List.cons_append, List.nil_append, Option.isNone_some, Option.isNone_none]; intro _ _) | ((with_reducible (first | refine w5 ?_ ?_ | refine w6 ?_ ?_ | refine w7 ?_ ?_)); simp; refine ⟨_, rfl, ?_⟩) | ((with_reducible (first | refine w8 ?_ ?_ ?_ | refine w9 ?_ ?_ ?_ | refine w10 ?_ ?_ ?_)); exact rfl; simp) | ((with_reducible refine w12 ?_ ?_ ?_ fun _ _ => ?_); simp; simp; simp [oneC]) | ((with_reducible (first | refine eqs ?_ | refine nes ?_)); refine ⟨_, rfl, ?_⟩) | ((refine okF_i (bldP_eq rfl) ?_); try simp only [BLS, List.take_succ_cons, List.take_zero, List.drop_succ_cons, List.drop_zero, List.cons_append, List.nil_append, Nat.reduceAdd])) | simp -implicitDefEqProofs only [EN, lsub, lget, stL, beq_self_eq_true, ne_eq, if_true, if_false, List.cons_append, List.nil_append, Option.isNone_some, Option.isNone_none]))
    exact hk _ (fin _ (St.wk (by first | assumption | exact St.tick (by assumption) | exact St.tick (St.tick (by assumption)))))
  | none =>
    rw [hf] at hgk hk
    rw [if_neg (by simp)] at hk
    rw [Option.map_none] at hgk
    rw [hgk]
    simp only [Option.getD_none, Option.isSome_none]
    (repeat (first | (first | (with_reducible (first | refine w1 fun _ _ => ?_ | refine w3 fun _ _ _ => ?_ | refine w4 fun _ _ _ => ?_ | refine w11 fun _ _ _ => ?_ | refine stb_n ?_)) | ((with_reducible refine w2 ?_); try simp -implicitDefEqProofs only [EN, lsub, lget, stL, beq_self_eq_true, ne_eq, if_true, if_false, List.cons_append, List.nil_append, Option.isNone_some, Option.isNone_none]; intro _ _) | ((with_reducible (first | refine w5 ?_ ?_ | refine w6 ?_ ?_ | refine w7 ?_ ?_)); simp; refine ⟨_, rfl, ?_⟩) | ((with_reducible (first | refine w8 ?_ ?_ ?_ | refine w9 ?_ ?_ ?_ | refine w10 ?_ ?_ ?_)); exact rfl; simp) | ((with_reducible refine w12 ?_ ?_ ?_ fun _ _ => ?_); simp; simp; simp [oneC]) | ((with_reducible (first | refine eqs ?_ | refine nes ?_)); refine ⟨_, rfl, ?_⟩) | ((refine okF_i (bldP_eq rfl) ?_); try simp only [BLS, List.take_succ_cons, List.take_zero, List.drop_succ_cons, List.drop_zero, List.cons_append, List.nil_append, Nat.reduceAdd])) | simp -implicitDefEqProofs only [EN, lsub, lget, stL, beq_self_eq_true, ne_eq, if_true, if_false, List.cons_append, List.nil_append, Option.isNone_some, Option.isNone_none]))
    refine stb_kv (ys := ys) (d := i.d) (by first | assumption | exact St.tick (by assumption) | exact St.tick (St.tick (by assumption))) (by rw [hgk]; rfl) ?_
    (repeat (first | (first | (with_reducible (first | refine w1 fun _ _ => ?_ | refine w3 fun _ _ _ => ?_ | refine w4 fun _ _ _ => ?_ | refine w11 fun _ _ _ => ?_ | refine stb_n ?_)) | ((with_reducible refine w2 ?_); try simp -implicitDefEqProofs only [EN, lsub, lget, stL, beq_self_eq_true, ne_eq, if_true, if_false, List.cons_append, List.nil_append, Option.isNone_some, Option.isNone_none]; intro _ _) | ((with_reducible (first | refine w5 ?_ ?_ | refine w6 ?_ ?_ | refine w7 ?_ ?_)); simp; refine ⟨_, rfl, ?_⟩) | ((with_reducible (first | refine w8 ?_ ?_ ?_ | refine w9 ?_ ?_ ?_ | refine w10 ?_ ?_ ?_)); exact rfl; simp) | ((with_reducible refine w12 ?_ ?_ ?_ fun _ _ => ?_); simp; simp; simp [oneC]) | ((with_reducible (first | refine eqs ?_ | refine nes ?_)); refine ⟨_, rfl, ?_⟩) | ((refine okF_i (bldP_eq rfl) ?_); try simp only [BLS, List.take_succ_cons, List.take_zero, List.drop_succ_cons, List.drop_zero, List.cons_append, List.nil_append, Nat.reduceAdd])) | simp -implicitDefEqProofs only [EN, lsub, lget, stL, beq_self_eq_true, ne_eq, if_true, if_false, List.cons_append, List.nil_append, Option.isNone_some, Option.isNone_none]))
    refine mlen (K := KD) (l := kv ys) (by first | assumption | exact St.tick (by assumption) | exact St.tick (St.tick (by assumption))) ?_
    have ekl : (kv ys).length = s.cs.length := by simp [kv, hyl]
    rw [ekl]
    by_cases h1000 : (1000 : Int) ≤ (s.cs.length : Int)
    · rw [if_pos (by omega)] at hk
      (repeat (first | (first | (with_reducible (first | refine w1 fun _ _ => ?_ | refine w3 fun _ _ _ => ?_ | refine w4 fun _ _ _ => ?_ | refine w11 fun _ _ _ => ?_ | refine stb_n ?_)) | ((with_reducible refine w2 ?_); try simp -implicitDefEqProofs only [EN, lsub, lget, stL, beq_self_eq_true, ne_eq, if_true, if_false, List.cons_append, List.nil_append, Option.isNone_some, Option.isNone_none, h1000]; intro _ _) | ((with_reducible (first | refine w5 ?_ ?_ | refine w6 ?_ ?_ | refine w7 ?_ ?_)); simp; refine ⟨_, rfl, ?_⟩) | ((with_reducible (first | refine w8 ?_ ?_ ?_ | refine w9 ?_ ?_ ?_ | refine w10 ?_ ?_ ?_)); exact rfl; simp) | ((with_reducible refine w12 ?_ ?_ ?_ fun _ _ => ?_); simp; simp; simp [oneC]) | ((with_reducible (first | refine eqs ?_ | refine nes ?_)); refine ⟨_, rfl, ?_⟩) | ((refine okF_i (bldP_eq rfl) ?_); try simp only [BLS, List.take_succ_cons, List.take_zero, List.drop_succ_cons, List.drop_zero, List.cons_append, List.nil_append, Nat.reduceAdd])) | simp -implicitDefEqProofs only [EN, lsub, lget, stL, beq_self_eq_true, ne_eq, if_true, if_false, List.cons_append, List.nil_append, Option.isNone_some, Option.isNone_none, h1000]))
      exact hk _ (fin _ (St.wk (by first | assumption | exact St.tick (by assumption) | exact St.tick (St.tick (by assumption)))))
    rw [if_neg (by omega)] at hk
    (repeat (first | (first | (with_reducible (first | refine w1 fun _ _ => ?_ | refine w3 fun _ _ _ => ?_ | refine w4 fun _ _ _ => ?_ | refine w11 fun _ _ _ => ?_ | refine stb_n ?_)) | ((with_reducible refine w2 ?_); try simp -implicitDefEqProofs only [EN, lsub, lget, stL, beq_self_eq_true, ne_eq, if_true, if_false, List.cons_append, List.nil_append, Option.isNone_some, Option.isNone_none, h1000]; intro _ _) | ((with_reducible (first | refine w5 ?_ ?_ | refine w6 ?_ ?_ | refine w7 ?_ ?_)); simp; refine ⟨_, rfl, ?_⟩) | ((with_reducible (first | refine w8 ?_ ?_ ?_ | refine w9 ?_ ?_ ?_ | refine w10 ?_ ?_ ?_)); exact rfl; simp) | ((with_reducible refine w12 ?_ ?_ ?_ fun _ _ => ?_); simp; simp; simp [oneC]) | ((with_reducible (first | refine eqs ?_ | refine nes ?_)); refine ⟨_, rfl, ?_⟩) | ((refine okF_i (bldP_eq rfl) ?_); try simp only [BLS, List.take_succ_cons, List.take_zero, List.drop_succ_cons, List.drop_zero, List.cons_append, List.nil_append, Nat.reduceAdd])) | simp -implicitDefEqProofs only [EN, lsub, lget, stL, beq_self_eq_true, ne_eq, if_true, if_false, List.cons_append, List.nil_append, Option.isNone_some, Option.isNone_none, h1000]))
    refine bytesClone (a := a) (l := bs) (by first | assumption | exact St.tick (by assumption) | exact St.tick (St.tick (by assumption))) hb fun a9 c9 W9 h => ?_
    (repeat (first | (first | (with_reducible (first | refine w1 fun _ _ => ?_ | refine w3 fun _ _ _ => ?_ | refine w4 fun _ _ _ => ?_ | refine w11 fun _ _ _ => ?_ | refine stb_n ?_)) | ((with_reducible refine w2 ?_); try simp -implicitDefEqProofs only [EN, lsub, lget, stL, beq_self_eq_true, ne_eq, if_true, if_false, List.cons_append, List.nil_append, Option.isNone_some, Option.isNone_none]; intro _ _) | ((with_reducible (first | refine w5 ?_ ?_ | refine w6 ?_ ?_ | refine w7 ?_ ?_)); simp; refine ⟨_, rfl, ?_⟩) | ((with_reducible (first | refine w8 ?_ ?_ ?_ | refine w9 ?_ ?_ ?_ | refine w10 ?_ ?_ ?_)); exact rfl; simp) | ((with_reducible refine w12 ?_ ?_ ?_ fun _ _ => ?_); simp; simp; simp [oneC]) | ((with_reducible (first | refine eqs ?_ | refine nes ?_)); refine ⟨_, rfl, ?_⟩) | ((refine okF_i (bldP_eq rfl) ?_); try simp only [BLS, List.take_succ_cons, List.take_zero, List.drop_succ_cons, List.drop_zero, List.cons_append, List.nil_append, Nat.reduceAdd])) | simp -implicitDefEqProofs only [EN, lsub, lget, stL, beq_self_eq_true, ne_eq, if_true, if_false, List.cons_append, List.nil_append, Option.isNone_some, Option.isNone_none]))
    refine mset (K := KD) i.d (by first | assumption | exact St.tick (by assumption) | exact St.tick (St.tick (by assumption))) fun W10 h => ?_
    have hno : ∀ q ∈ kv ys, q.1 ≠ i.d := fun q hq e => by
      obtain ⟨y, hym, rfl⟩ := List.mem_map.1 hq
      exact List.find?_eq_none.1 hf y hym (decide_eq_true e)
    rw [mput_new hno] at h
    have hins : s.ins.length = s.cs.length := by unfold XS.ins; rw [List.length_map]
    (repeat (first | (first | (with_reducible (first | refine w1 fun _ _ => ?_ | refine w3 fun _ _ _ => ?_ | refine w4 fun _ _ _ => ?_ | refine w11 fun _ _ _ => ?_ | refine stb_n ?_)) | ((with_reducible refine w2 ?_); try simp -implicitDefEqProofs only [EN, lsub, lget, stL, beq_self_eq_true, ne_eq, if_true, if_false, List.cons_append, List.nil_append, Option.isNone_some, Option.isNone_none]; intro _ _) | ((with_reducible (first | refine w5 ?_ ?_ | refine w6 ?_ ?_ | refine w7 ?_ ?_)); simp; refine ⟨_, rfl, ?_⟩) | ((with_reducible (first | refine w8 ?_ ?_ ?_ | refine w9 ?_ ?_ ?_ | refine w10 ?_ ?_ ?_)); exact rfl; simp) | ((with_reducible refine w12 ?_ ?_ ?_ fun _ _ => ?_); simp; simp; simp [oneC]) | ((with_reducible (first | refine eqs ?_ | refine nes ?_)); refine ⟨_, rfl, ?_⟩) | ((refine okF_i (bldP_eq rfl) ?_); try simp only [BLS, List.take_succ_cons, List.take_zero, List.drop_succ_cons, List.drop_zero, List.cons_append, List.nil_append, Nat.reduceAdd])) | simp -implicitDefEqProofs only [EN, lsub, lget, stL, beq_self_eq_true, ne_eq, if_true, if_false, List.cons_append, List.nil_append, Option.isNone_some, Option.isNone_none]))
    refine bsA INS [i] (n := 1) (by first | assumption | exact St.tick (by assumption) | exact St.tick (St.tick (by assumption))) rfl rfl (by decide) (by decide) rfl fun a5 c5 W11 h => ?_
    (repeat (first | (first | (with_reducible (first | refine w1 fun _ _ => ?_ | refine w3 fun _ _ _ => ?_ | refine w4 fun _ _ _ => ?_ | refine w11 fun _ _ _ => ?_ | refine stb_n ?_)) | ((with_reducible refine w2 ?_); try simp -implicitDefEqProofs only [EN, lsub, lget, stL, beq_self_eq_true, ne_eq, if_true, if_false, List.cons_append, List.nil_append, Option.isNone_some, Option.isNone_none]; intro _ _) | ((with_reducible (first | refine w5 ?_ ?_ | refine w6 ?_ ?_ | refine w7 ?_ ?_)); simp; refine ⟨_, rfl, ?_⟩) | ((with_reducible (first | refine w8 ?_ ?_ ?_ | refine w9 ?_ ?_ ?_ | refine w10 ?_ ?_ ?_)); exact rfl; simp) | ((with_reducible refine w12 ?_ ?_ ?_ fun _ _ => ?_); simp; simp; simp [oneC]) | ((with_reducible (first | refine eqs ?_ | refine nes ?_)); refine ⟨_, rfl, ?_⟩) | ((refine okF_i (bldP_eq rfl) ?_); try simp only [BLS, List.take_succ_cons, List.take_zero, List.drop_succ_cons, List.drop_zero, List.cons_append, List.nil_append, Nat.reduceAdd])) | simp -implicitDefEqProofs only [EN, lsub, lget, stL, beq_self_eq_true, ne_eq, if_true, if_false, List.cons_append, List.nil_append, Option.isNone_some, Option.isNone_none]))
    rw [← hins]
    refine appA (A := INS) (a := la) (l := s.ins) (m := [i]) (by first | assumption | exact St.tick (by assumption) | exact St.tick (St.tick (by assumption))) rfl (by simp only [List.length_cons, List.length_nil]; omega) (by simp only [List.length_cons, List.length_nil, maxLen]; omega) fun a6 c6 W12 h => ?_
    (repeat (first | (first | (with_reducible (first | refine w1 fun _ _ => ?_ | refine w3 fun _ _ _ => ?_ | refine w4 fun _ _ _ => ?_ | refine w11 fun _ _ _ => ?_ | refine stb_n ?_)) | ((with_reducible refine w2 ?_); try simp -implicitDefEqProofs only [EN, lsub, lget, stL, beq_self_eq_true, ne_eq, if_true, if_false, List.cons_append, List.nil_append, Option.isNone_some, Option.isNone_none]; intro _ _) | ((with_reducible (first | refine w5 ?_ ?_ | refine w6 ?_ ?_ | refine w7 ?_ ?_)); simp; refine ⟨_, rfl, ?_⟩) | ((with_reducible (first | refine w8 ?_ ?_ ?_ | refine w9 ?_ ?_ ?_ | refine w10 ?_ ?_ ?_)); exact rfl; simp) | ((with_reducible refine w12 ?_ ?_ ?_ fun _ _ => ?_); simp; simp; simp [oneC]) | ((with_reducible (first | refine eqs ?_ | refine nes ?_)); refine ⟨_, rfl, ?_⟩) | ((refine okF_i (bldP_eq rfl) ?_); try simp only [BLS, List.take_succ_cons, List.take_zero, List.drop_succ_cons, List.drop_zero, List.cons_append, List.nil_append, Nat.reduceAdd])) | simp -implicitDefEqProofs only [EN, lsub, lget, stL, beq_self_eq_true, ne_eq, if_true, if_false, List.cons_append, List.nil_append, Option.isNone_some, Option.isNone_none]))
    rename_i W13 h
    (try simp only [BLS, List.take_succ_cons, List.take_zero, List.drop_succ_cons, List.drop_zero, List.cons_append, List.nil_append, List.append_nil, List.take_nil, List.drop_nil, stL, Nat.reduceAdd] at h)
    refine hk _ ?_
    have hl6 : (s.ins ++ [i]).length = (s.cs ++ [(⟨i, w, bs⟩ : Cmd)]).length := by simp [hins]
    rw [hl6] at h
    have h := St.wk (L' := fch ⟨a9, c9, bs⟩ :: many fch (ys.map (·.b)) :: cells p [.int .i64 s.have_.x0, .int .i64 s.have_.x1, .int .i64 s.have_.x2, .int .i64 s.have_.x3, .int .i64 s.have_.x4, .int .i64 s.have_.x5, .int .i64 s.have_.x6, .map (some r1), .slice a6 (s.cs ++ [(⟨i, w, bs⟩ : Cmd)]).length c6, .map (some r2), .slice da s.done.length dc] T_exec_Exec ::
      mp KD r1 (kv ys ++ [(i.d, CmdX.val ⟨i, w, ⟨a9, c9, bs⟩⟩)]) :: mp KD r2 m :: arr INS T_order_Inst a6 c6 (s.ins ++ [i]) :: arr DOT T_api_Dot da dc s.done :: L) h
    have h := (h.ent (many_uncons (F := fch) _ _)).ent (many_perm (F := fch) (List.perm_append_comm (l₁ := [(⟨a9, c9, bs⟩ : BSl)]) (l₂ := ys.map CmdX.b)))
    have ek : kv ys ++ [(i.d, CmdX.val ⟨i, w, ⟨a9, c9, bs⟩⟩)] = kv (ys ++ [⟨i, w, ⟨a9, c9, bs⟩⟩]) := by simp [kv]
    have eb : ys.map (·.b) ++ [(⟨a9, c9, bs⟩ : BSl)] = (ys ++ [(⟨i, w, ⟨a9, c9, bs⟩⟩ : CmdX)]).map (·.b) := by simp
    have ei : s.ins ++ [i] = XS.ins ⟨s.have_, s.cs ++ [⟨i, w, bs⟩], s.done⟩ := by simp [XS.ins]
    rw [ek, eb, ei] at h
    refine exo_of (p := p) (L := L) (s := ⟨s.have_, s.cs ++ [⟨i, w, bs⟩], s.done⟩) ⟨ys ++ [⟨i, w, ⟨a9, c9, bs⟩⟩], r1, r2, m, a6, c6, da, dc⟩ ⟨by show (ys ++ _).map CmdX.er = s.cs ++ _; rw [List.map_append, hy]; rfl, hm⟩ ?_
    exact St.wk h
end
end Go.Proofs.Ytkjhccpanedccaa
namespace Go.Proofs.Ytkjhccpanedccaa
set_option linter.unusedVariables false
set_option linter.unusedSimpArgs false
open Go Go.Eng Go.Tar Go.Sort
def XS.mark (s : XS) (d : Dot) : XS := if (s.find d).isSome && !decide (d ∈ s.done) then ⟨s.have_, s.cs, s.done ++ [d]⟩ else s
section
variable {W0 W : World} {L L' : List Asn} {p : Nat} {s : XS}
theorem exo_ok (h : St W0 (exo p s :: L) W) : ∃ (ys : List CmdX) (r1 r2 : Nat) (m : List (Dot × Value)) (la : Option Addr) (lc : Nat) (da : Option Addr) (dc : Nat), ys.map CmdX.er = s.cs ∧ (∀ d, (mget m d).getD (.bool false) = .bool (decide (d ∈ s.done))) ∧
    St W0 (cells p [.int .i64 s.have_.x0, .int .i64 s.have_.x1, .int .i64 s.have_.x2, .int .i64 s.have_.x3, .int .i64 s.have_.x4, .int .i64 s.have_.x5, .int .i64 s.have_.x6, .map (some r1), .slice la s.cs.length lc, .map (some r2), .slice da s.done.length dc] T_exec_Exec :: mp KD r1 (kv ys) :: mp KD r2 m :: arr INS T_order_Inst la lc s.ins :: arr DOT T_api_Dot da dc s.done :: many fch (ys.map (·.b)) :: L) W ∧
    (∀ (s' : XS) W', s'.cs = s.cs → s'.done = s.done → St W0 (cells p [.int .i64 s'.have_.x0, .int .i64 s'.have_.x1, .int .i64 s'.have_.x2, .int .i64 s'.have_.x3, .int .i64 s'.have_.x4, .int .i64 s'.have_.x5, .int .i64 s'.have_.x6, .map (some r1), .slice la s.cs.length lc, .map (some r2), .slice da s.done.length dc] T_exec_Exec :: mp KD r1 (kv ys) :: mp KD r2 m :: arr INS T_order_Inst la lc s.ins :: arr DOT T_api_Dot da dc s.done :: many fch (ys.map (·.b)) :: L) W' → St W0 (exo p s' :: L) W') := by
  obtain ⟨⟨ys, r1, r2, m, la, lc, da, dc⟩, ⟨hy, hm⟩, h⟩ := exo_at h
  refine ⟨ys, r1, r2, m, la, lc, da, dc, hy, hm, h, fun s' W' hc hd h => ?_⟩
  obtain ⟨v, cs, done⟩ := s
  obtain ⟨v', cs', done'⟩ := s'
  simp only at hc hd
  subst hc hd
  exact exo_of (p := p) (L := L) (s := ⟨v', cs', done'⟩) ⟨ys, r1, r2, m, la, lc, da, dc⟩ ⟨hy, hm⟩ h
set_option maxRecDepth 100000 in
set_option maxHeartbeats 8000000 in
theorem execMark {d : Dot} {k : Value → World → Prop} (h : St W0 (exo p s :: L) W) (hl : s.done.length < 1000000)
    (hk : ∀ v W', St W0 (exo p (s.mark d) :: L) W' → k (.bool v) W') : callK PR F_exec_Exec_Mark [.pointer (some ⟨p, 0, none⟩), .agg #[.int .i64 d.rep, .int .i64 d.n]] k W := by
  apply S.exec_Exec_Mark.call
  unfold S.exec_Exec_Mark.body
  refine bxa h fun db W1 h => ?_
  have h : St W0 (cells db [.int .i64 d.rep, .int .i64 d.n] T_api_Dot :: exo p s :: L) W1 := h
  obtain ⟨ys, r1, r2, m, la, lc, da, dc, hy, hm, h, fin⟩ := exo_ok (St.wk (L' := exo p s :: cells db [.int .i64 d.rep, .int .i64 d.n] T_api_Dot :: L) h)
  have hgk := kv_get ys d
  have hmd := hm d
  unfold XS.mark at hk
  rw [find_er hy] at hk
  have fin0 : ∀ W', St W0 (cells p [.int .i64 s.have_.x0, .int .i64 s.have_.x1, .int .i64 s.have_.x2, .int .i64 s.have_.x3, .int .i64 s.have_.x4, .int .i64 s.have_.x5, .int .i64 s.have_.x6, .map (some r1), .slice la s.cs.length lc, .map (some r2), .slice da s.done.length dc] T_exec_Exec :: mp KD r1 (kv ys) :: mp KD r2 m :: arr INS T_order_Inst la lc s.ins :: arr DOT T_api_Dot da dc s.done :: many fch (ys.map (·.b)) :: cells db [.int .i64 d.rep, .int .i64 d.n] T_api_Dot :: L) W' → St W0 (exo p s :: L) W' := fun W' h =>
    St.wk (fin s W' rfl rfl h)
  (repeat (first | (first | (with_reducible (first | refine w1 fun _ _ => ?_ | refine w3 fun _ _ _ => ?_ | refine w4 fun _ _ _ => ?_ | refine w11 fun _ _ _ => ?_ | refine stb_n ?_)) | ((with_reducible refine w2 ?_); try simp -implicitDefEqProofs only [EN, lsub, lget, stL, beq_self_eq_true, ne_eq, if_true, if_false, List.cons_append, List.nil_append, Option.isNone_some, Option.isNone_none]; intro _ _) | ((with_reducible (first | refine w5 ?_ ?_ | refine w6 ?_ ?_ | refine w7 ?_ ?_)); simp; refine ⟨_, rfl, ?_⟩) | ((with_reducible (first | refine w8 ?_ ?_ ?_ | refine w9 ?_ ?_ ?_ | refine w10 ?_ ?_ ?_)); exact rfl; simp) | ((with_reducible refine w12 ?_ ?_ ?_ fun _ _ => ?_); simp; simp; simp [oneC]) | ((with_reducible (first | refine eqs ?_ | refine nes ?_)); refine ⟨_, rfl, ?_⟩) | ((refine okF_i (bldP_eq rfl) ?_); try simp only [BLS, List.take_succ_cons, List.take_zero, List.drop_succ_cons, List.drop_zero, List.cons_append, List.nil_append, Nat.reduceAdd])) | simp -implicitDefEqProofs only [EN, lsub, lget, stL, beq_self_eq_true, ne_eq, if_true, if_false, List.cons_append, List.nil_append, Option.isNone_some, Option.isNone_none]))
  refine lkpOk (K := KD) (z := cmd0) d (by first | assumption | exact St.tick (by assumption) | exact St.tick (St.tick (by assumption))) ?_
  cases hf : ys.find? (fun y => decide (y.i.d = d)) with
  | none =>
    rw [hf] at hgk hk
    rw [if_neg (by simp)] at hk
    rw [Option.map_none] at hgk
    rw [hgk]
    simp only [Option.getD_none, Option.isSome_none]
    (repeat (first | (first | (with_reducible (first | refine w1 fun _ _ => ?_ | refine w3 fun _ _ _ => ?_ | refine w4 fun _ _ _ => ?_ | refine w11 fun _ _ _ => ?_ | refine stb_n ?_)) | ((with_reducible refine w2 ?_); try simp -implicitDefEqProofs only [EN, lsub, lget, stL, beq_self_eq_true, ne_eq, if_true, if_false, List.cons_append, List.nil_append, Option.isNone_some, Option.isNone_none]; intro _ _) | ((with_reducible (first | refine w5 ?_ ?_ | refine w6 ?_ ?_ | refine w7 ?_ ?_)); simp; refine ⟨_, rfl, ?_⟩) | ((with_reducible (first | refine w8 ?_ ?_ ?_ | refine w9 ?_ ?_ ?_ | refine w10 ?_ ?_ ?_)); exact rfl; simp) | ((with_reducible refine w12 ?_ ?_ ?_ fun _ _ => ?_); simp; simp; simp [oneC]) | ((with_reducible (first | refine eqs ?_ | refine nes ?_)); refine ⟨_, rfl, ?_⟩) | ((refine okF_i (bldP_eq rfl) ?_); try simp only [BLS, List.take_succ_cons, List.take_zero, List.drop_succ_cons, List.drop_zero, List.cons_append, List.nil_append, Nat.reduceAdd])) | simp -implicitDefEqProofs only [EN, lsub, lget, stL, beq_self_eq_true, ne_eq, if_true, if_false, List.cons_append, List.nil_append, Option.isNone_some, Option.isNone_none]))
    refine stb_kv (ys := ys) (d := d) (by first | assumption | exact St.tick (by assumption) | exact St.tick (St.tick (by assumption))) (by rw [hgk]; rfl) ?_
    (repeat (first | (first | (with_reducible (first | refine w1 fun _ _ => ?_ | refine w3 fun _ _ _ => ?_ | refine w4 fun _ _ _ => ?_ | refine w11 fun _ _ _ => ?_ | refine stb_n ?_)) | ((with_reducible refine w2 ?_); try simp -implicitDefEqProofs only [EN, lsub, lget, stL, beq_self_eq_true, ne_eq, if_true, if_false, List.cons_append, List.nil_append, Option.isNone_some, Option.isNone_none]; intro _ _) | ((with_reducible (first | refine w5 ?_ ?_ | refine w6 ?_ ?_ | refine w7 ?_ ?_)); simp; refine ⟨_, rfl, ?_⟩) | ((with_reducible (first | refine w8 ?_ ?_ ?_ | refine w9 ?_ ?_ ?_ | refine w10 ?_ ?_ ?_)); exact rfl; simp) | ((with_reducible refine w12 ?_ ?_ ?_ fun _ _ => ?_); simp; simp; simp [oneC]) | ((with_reducible (first | refine eqs ?_ | refine nes ?_)); refine ⟨_, rfl, ?_⟩) | ((refine okF_i (bldP_eq rfl) ?_); try simp only [BLS, List.take_succ_cons, List.take_zero, List.drop_succ_cons, List.drop_zero, List.cons_append, List.nil_append, Nat.reduceAdd])) | simp -implicitDefEqProofs only [EN, lsub, lget, stL, beq_self_eq_true, ne_eq, if_true, if_false, List.cons_append, List.nil_append, Option.isNone_some, Option.isNone_none]))
    exact hk _ _ (fin0 _ (St.wk (by first | assumption | exact St.tick (by assumption) | exact St.tick (St.tick (by assumption)))))
  | some y =>
    rw [hf] at hgk hk
    simp only [Option.map_some, Option.isSome_some, Bool.true_and] at hk
    rw [Option.map_some] at hgk
    rw [hgk]
    simp only [Option.getD_some, Option.isSome_some]
    (repeat (first | (first | (with_reducible (first | refine w1 fun _ _ => ?_ | refine w3 fun _ _ _ => ?_ | refine w4 fun _ _ _ => ?_ | refine w11 fun _ _ _ => ?_ | refine stb_n ?_)) | ((with_reducible refine w2 ?_); try simp -implicitDefEqProofs only [EN, lsub, lget, stL, beq_self_eq_true, ne_eq, if_true, if_false, List.cons_append, List.nil_append, Option.isNone_some, Option.isNone_none]; intro _ _) | ((with_reducible (first | refine w5 ?_ ?_ | refine w6 ?_ ?_ | refine w7 ?_ ?_)); simp; refine ⟨_, rfl, ?_⟩) | ((with_reducible (first | refine w8 ?_ ?_ ?_ | refine w9 ?_ ?_ ?_ | refine w10 ?_ ?_ ?_)); exact rfl; simp) | ((with_reducible refine w12 ?_ ?_ ?_ fun _ _ => ?_); simp; simp; simp [oneC]) | ((with_reducible (first | refine eqs ?_ | refine nes ?_)); refine ⟨_, rfl, ?_⟩) | ((refine okF_i (bldP_eq rfl) ?_); try simp only [BLS, List.take_succ_cons, List.take_zero, List.drop_succ_cons, List.drop_zero, List.cons_append, List.nil_append, Nat.reduceAdd])) | simp -implicitDefEqProofs only [EN, lsub, lget, stL, beq_self_eq_true, ne_eq, if_true, if_false, List.cons_append, List.nil_append, Option.isNone_some, Option.isNone_none]))
    refine stb_kv (ys := ys) (d := d) (by first | assumption | exact St.tick (by assumption) | exact St.tick (St.tick (by assumption))) (by rw [hgk]; rfl) ?_
    (repeat (first | (first | (with_reducible (first | refine w1 fun _ _ => ?_ | refine w3 fun _ _ _ => ?_ | refine w4 fun _ _ _ => ?_ | refine w11 fun _ _ _ => ?_ | refine stb_n ?_)) | ((with_reducible refine w2 ?_); try simp -implicitDefEqProofs only [EN, lsub, lget, stL, beq_self_eq_true, ne_eq, if_true, if_false, List.cons_append, List.nil_append, Option.isNone_some, Option.isNone_none]; intro _ _) | ((with_reducible (first | refine w5 ?_ ?_ | refine w6 ?_ ?_ | refine w7 ?_ ?_)); simp; refine ⟨_, rfl, ?_⟩) | ((with_reducible (first | refine w8 ?_ ?_ ?_ | refine w9 ?_ ?_ ?_ | refine w10 ?_ ?_ ?_)); exact rfl; simp) | ((with_reducible refine w12 ?_ ?_ ?_ fun _ _ => ?_); simp; simp; simp [oneC]) | ((with_reducible (first | refine eqs ?_ | refine nes ?_)); refine ⟨_, rfl, ?_⟩) | ((refine okF_i (bldP_eq rfl) ?_); try simp only [BLS, List.take_succ_cons, List.take_zero, List.drop_succ_cons, List.drop_zero, List.cons_append, List.nil_append, Nat.reduceAdd])) | simp -implicitDefEqProofs only [EN, lsub, lget, stL, beq_self_eq_true, ne_eq, if_true, if_false, List.cons_append, List.nil_append, Option.isNone_some, Option.isNone_none]))
    refine lkp (K := KD) (z := .bool false) d (by first | assumption | exact St.tick (by assumption) | exact St.tick (St.tick (by assumption))) ?_
    rw [hmd]
    by_cases hin : d ∈ s.done
    · rw [decide_eq_true hin] at hk ⊢
      simp only [Bool.not_true, Bool.false_eq_true, if_false] at hk
      (repeat (first | (first | (with_reducible (first | refine w1 fun _ _ => ?_ | refine w3 fun _ _ _ => ?_ | refine w4 fun _ _ _ => ?_ | refine w11 fun _ _ _ => ?_ | refine stb_n ?_)) | ((with_reducible refine w2 ?_); try simp -implicitDefEqProofs only [EN, lsub, lget, stL, beq_self_eq_true, ne_eq, if_true, if_false, List.cons_append, List.nil_append, Option.isNone_some, Option.isNone_none]; intro _ _) | ((with_reducible (first | refine w5 ?_ ?_ | refine w6 ?_ ?_ | refine w7 ?_ ?_)); simp; refine ⟨_, rfl, ?_⟩) | ((with_reducible (first | refine w8 ?_ ?_ ?_ | refine w9 ?_ ?_ ?_ | refine w10 ?_ ?_ ?_)); exact rfl; simp) | ((with_reducible refine w12 ?_ ?_ ?_ fun _ _ => ?_); simp; simp; simp [oneC]) | ((with_reducible (first | refine eqs ?_ | refine nes ?_)); refine ⟨_, rfl, ?_⟩) | ((refine okF_i (bldP_eq rfl) ?_); try simp only [BLS, List.take_succ_cons, List.take_zero, List.drop_succ_cons, List.drop_zero, List.cons_append, List.nil_append, Nat.reduceAdd])) | simp -implicitDefEqProofs only [EN, lsub, lget, stL, beq_self_eq_true, ne_eq, if_true, if_false, List.cons_append, List.nil_append, Option.isNone_some, Option.isNone_none]))
      exact hk _ _ (fin0 _ (St.wk (by first | assumption | exact St.tick (by assumption) | exact St.tick (St.tick (by assumption)))))
    · rw [decide_eq_false hin] at hk ⊢
      simp only [Bool.not_false, if_true] at hk
      (repeat (first | (first | (with_reducible (first | refine w1 fun _ _ => ?_ | refine w3 fun _ _ _ => ?_ | refine w4 fun _ _ _ => ?_ | refine w11 fun _ _ _ => ?_ | refine stb_n ?_)) | ((with_reducible refine w2 ?_); try simp -implicitDefEqProofs only [EN, lsub, lget, stL, beq_self_eq_true, ne_eq, if_true, if_false, List.cons_append, List.nil_append, Option.isNone_some, Option.isNone_none]; intro _ _) | ((with_reducible (first | refine w5 ?_ ?_ | refine w6 ?_ ?_ | refine w7 ?_ ?_)); simp; refine ⟨_, rfl, ?_⟩) | ((with_reducible (first | refine w8 ?_ ?_ ?_ | refine w9 ?_ ?_ ?_ | refine w10 ?_ ?_ ?_)); exact rfl; simp) | ((with_reducible refine w12 ?_ ?_ ?_ fun _ _ => ?_); simp; simp; simp [oneC]) | ((with_reducible (first | refine eqs ?_ | refine nes ?_)); refine ⟨_, rfl, ?_⟩) | ((refine okF_i (bldP_eq rfl) ?_); try simp only [BLS, List.take_succ_cons, List.take_zero, List.drop_succ_cons, List.drop_zero, List.cons_append, List.nil_append, Nat.reduceAdd])) | simp -implicitDefEqProofs only [EN, lsub, lget, stL, beq_self_eq_true, ne_eq, if_true, if_false, List.cons_append, List.nil_append, Option.isNone_some, Option.isNone_none]))
      refine mset (K := KD) d (by first | assumption | exact St.tick (by assumption) | exact St.tick (St.tick (by assumption))) fun W10 h => ?_
      (repeat (first | (first | (with_reducible (first | refine w1 fun _ _ => ?_ | refine w3 fun _ _ _ => ?_ | refine w4 fun _ _ _ => ?_ | refine w11 fun _ _ _ => ?_ | refine stb_n ?_)) | ((with_reducible refine w2 ?_); try simp -implicitDefEqProofs only [EN, lsub, lget, stL, beq_self_eq_true, ne_eq, if_true, if_false, List.cons_append, List.nil_append, Option.isNone_some, Option.isNone_none]; intro _ _) | ((with_reducible (first | refine w5 ?_ ?_ | refine w6 ?_ ?_ | refine w7 ?_ ?_)); simp; refine ⟨_, rfl, ?_⟩) | ((with_reducible (first | refine w8 ?_ ?_ ?_ | refine w9 ?_ ?_ ?_ | refine w10 ?_ ?_ ?_)); exact rfl; simp) | ((with_reducible refine w12 ?_ ?_ ?_ fun _ _ => ?_); simp; simp; simp [oneC]) | ((with_reducible (first | refine eqs ?_ | refine nes ?_)); refine ⟨_, rfl, ?_⟩) | ((refine okF_i (bldP_eq rfl) ?_); try simp only [BLS, List.take_succ_cons, List.take_zero, List.drop_succ_cons, List.drop_zero, List.cons_append, List.nil_append, Nat.reduceAdd])) | simp -implicitDefEqProofs only [EN, lsub, lget, stL, beq_self_eq_true, ne_eq, if_true, if_false, List.cons_append, List.nil_append, Option.isNone_some, Option.isNone_none]))
      refine bsA DOT [d] (n := 1) (by first | assumption | exact St.tick (by assumption) | exact St.tick (St.tick (by assumption))) rfl rfl (by decide) (by decide) rfl fun a5 c5 W11 h => ?_
      (repeat (first | (first | (with_reducible (first | refine w1 fun _ _ => ?_ | refine w3 fun _ _ _ => ?_ | refine w4 fun _ _ _ => ?_ | refine w11 fun _ _ _ => ?_ | refine stb_n ?_)) | ((with_reducible refine w2 ?_); try simp -implicitDefEqProofs only [EN, lsub, lget, stL, beq_self_eq_true, ne_eq, if_true, if_false, List.cons_append, List.nil_append, Option.isNone_some, Option.isNone_none]; intro _ _) | ((with_reducible (first | refine w5 ?_ ?_ | refine w6 ?_ ?_ | refine w7 ?_ ?_)); simp; refine ⟨_, rfl, ?_⟩) | ((with_reducible (first | refine w8 ?_ ?_ ?_ | refine w9 ?_ ?_ ?_ | refine w10 ?_ ?_ ?_)); exact rfl; simp) | ((with_reducible refine w12 ?_ ?_ ?_ fun _ _ => ?_); simp; simp; simp [oneC]) | ((with_reducible (first | refine eqs ?_ | refine nes ?_)); refine ⟨_, rfl, ?_⟩) | ((refine okF_i (bldP_eq rfl) ?_); try simp only [BLS, List.take_succ_cons, List.take_zero, List.drop_succ_cons, List.drop_zero, List.cons_append, List.nil_append, Nat.reduceAdd])) | simp -implicitDefEqProofs only [EN, lsub, lget, stL, beq_self_eq_true, ne_eq, if_true, if_false, List.cons_append, List.nil_append, Option.isNone_some, Option.isNone_none]))
      refine appA (A := DOT) (a := da) (l := s.done) (m := [d]) (by first | assumption | exact St.tick (by assumption) | exact St.tick (St.tick (by assumption))) rfl (by simp only [List.length_cons, List.length_nil]; omega) (by simp only [List.length_cons, List.length_nil, maxLen]; omega) fun a6 c6 W12 h => ?_
      (repeat (first | (first | (with_reducible (first | refine w1 fun _ _ => ?_ | refine w3 fun _ _ _ => ?_ | refine w4 fun _ _ _ => ?_ | refine w11 fun _ _ _ => ?_ | refine stb_n ?_)) | ((with_reducible refine w2 ?_); try simp -implicitDefEqProofs only [EN, lsub, lget, stL, beq_self_eq_true, ne_eq, if_true, if_false, List.cons_append, List.nil_append, Option.isNone_some, Option.isNone_none]; intro _ _) | ((with_reducible (first | refine w5 ?_ ?_ | refine w6 ?_ ?_ | refine w7 ?_ ?_)); simp; refine ⟨_, rfl, ?_⟩) | ((with_reducible (first | refine w8 ?_ ?_ ?_ | refine w9 ?_ ?_ ?_ | refine w10 ?_ ?_ ?_)); exact rfl; simp) | ((with_reducible refine w12 ?_ ?_ ?_ fun _ _ => ?_); simp; simp; simp [oneC]) | ((with_reducible (first | refine eqs ?_ | refine nes ?_)); refine ⟨_, rfl, ?_⟩) | ((refine okF_i (bldP_eq rfl) ?_); try simp only [BLS, List.take_succ_cons, List.take_zero, List.drop_succ_cons, List.drop_zero, List.cons_append, List.nil_append, Nat.reduceAdd])) | simp -implicitDefEqProofs only [EN, lsub, lget, stL, beq_self_eq_true, ne_eq, if_true, if_false, List.cons_append, List.nil_append, Option.isNone_some, Option.isNone_none]))
      rename_i W13 h
      (try simp only [BLS, List.take_succ_cons, List.take_zero, List.drop_succ_cons, List.drop_zero, List.cons_append, List.nil_append, List.append_nil, List.take_nil, List.drop_nil, stL, Nat.reduceAdd] at h)
      refine hk _ _ ?_
      refine exo_of (p := p) (L := L) (s := ⟨s.have_, s.cs, s.done ++ [d]⟩) ⟨ys, r1, r2, mput m d (.bool true), la, lc, a6, c6⟩ ⟨hy, fun e => ?_⟩ ?_
      · show (mget (mput m d (.bool true)) e).getD (.bool false) = .bool (decide (e ∈ s.done ++ [d]))
        rw [mget_mput]
        by_cases he : d = e
        · rw [if_pos he]; subst he; simp
        · rw [if_neg he, hm e]
          have : e ∈ s.done ++ [d] ↔ e ∈ s.done := by
            rw [List.mem_append, List.mem_singleton]
            exact ⟨fun h => h.resolve_right fun h => he h.symm, .inl⟩
          rw [decide_eq_decide.2 this]
      · exact St.wk h
theorem dotClone {a : Option Addr} {l : List Dot} {c : Nat} {k : Value → World → Prop} (h : St W0 L W) [hr : Rd W0 L a DOT l] (hl : l.length < 1000000)
    (hk : ∀ a' c' W', St W0 (arr DOT T_api_Dot a' c' l :: L) W' → k (.slice a' l.length c') W') : callK PR F_slices_Clone_api_Dot_api_Dot [.slice a l.length c] k W := by
  apply S.slices_Clone_api_Dot_api_Dot.call
  unfold S.slices_Clone_api_Dot_api_Dot.body
  cases a with
  | none =>
    have hl0 : l = [] := by
      rcases Classical.em (l = []) with h0 | h0
      · exact h0
      · obtain ⟨g, o, h1, _⟩ := Rd.at (A := DOT) (l := l) (a := none) h h0
        cases h1
    subst hl0
    simp -implicitDefEqProofs only [EN, lsub, lget, stL, beq_self_eq_true, ne_eq, if_true, if_false, List.cons_append, List.nil_append, Option.isNone_some, Option.isNone_none]
    exact hk none 0 W (h.ent (arr_nil _ _))
  | some ad =>
    simp -implicitDefEqProofs only [EN, lsub, lget, stL, beq_self_eq_true, ne_eq, if_true, if_false, List.cons_append, List.nil_append, Option.isNone_some, Option.isNone_none]
    refine bs0 DOT h fun a1 c1 W1 h1 => ?_
    refine appA (a := a1) (l := []) (m := l) h1 rfl (by simp; omega) (by simp [maxLen]; omega) fun a2 c2 W2 h2 => ?_
    exact hk a2 c2 W2 h2
theorem execDone {k : Value → World → Prop} (h : St W0 (exo p s :: L) W) (hl : s.done.length < 1000000)
    (hk : ∀ a c W', St W0 (arr DOT T_api_Dot a c s.done :: exo p s :: L) W' → k (.slice a s.done.length c) W') : callK PR F_exec_Exec_Done [.pointer (some ⟨p, 0, none⟩)] k W := by
  apply S.exec_Exec_Done.call
  unfold S.exec_Exec_Done.body
  obtain ⟨ys, r1, r2, m, la, lc, da, dc, hy, hm, h, fin⟩ := exo_ok h
  (repeat (first | (first | (with_reducible (first | refine w1 fun _ _ => ?_ | refine w3 fun _ _ _ => ?_ | refine w4 fun _ _ _ => ?_ | refine w11 fun _ _ _ => ?_ | refine stb_n ?_)) | ((with_reducible refine w2 ?_); try simp -implicitDefEqProofs only [EN, lsub, lget, stL, beq_self_eq_true, ne_eq, if_true, if_false, List.cons_append, List.nil_append, Option.isNone_some, Option.isNone_none]; intro _ _) | ((with_reducible (first | refine w5 ?_ ?_ | refine w6 ?_ ?_ | refine w7 ?_ ?_)); simp; refine ⟨_, rfl, ?_⟩) | ((with_reducible (first | refine w8 ?_ ?_ ?_ | refine w9 ?_ ?_ ?_ | refine w10 ?_ ?_ ?_)); exact rfl; simp) | ((with_reducible refine w12 ?_ ?_ ?_ fun _ _ => ?_); simp; simp; simp [oneC]) | ((with_reducible (first | refine eqs ?_ | refine nes ?_)); refine ⟨_, rfl, ?_⟩) | ((refine okF_i (bldP_eq rfl) ?_); try simp only [BLS, List.take_succ_cons, List.take_zero, List.drop_succ_cons, List.drop_zero, List.cons_append, List.nil_append, Nat.reduceAdd])) | simp -implicitDefEqProofs only [EN, lsub, lget, stL, beq_self_eq_true, ne_eq, if_true, if_false, List.cons_append, List.nil_append, Option.isNone_some, Option.isNone_none]))
  refine dotClone (a := da) (l := s.done) h hl fun a c W1 h => ?_
  (repeat (first | (first | (with_reducible (first | refine w1 fun _ _ => ?_ | refine w3 fun _ _ _ => ?_ | refine w4 fun _ _ _ => ?_ | refine w11 fun _ _ _ => ?_ | refine stb_n ?_)) | ((with_reducible refine w2 ?_); try simp -implicitDefEqProofs only [EN, lsub, lget, stL, beq_self_eq_true, ne_eq, if_true, if_false, List.cons_append, List.nil_append, Option.isNone_some, Option.isNone_none]; intro _ _) | ((with_reducible (first | refine w5 ?_ ?_ | refine w6 ?_ ?_ | refine w7 ?_ ?_)); simp; refine ⟨_, rfl, ?_⟩) | ((with_reducible (first | refine w8 ?_ ?_ ?_ | refine w9 ?_ ?_ ?_ | refine w10 ?_ ?_ ?_)); exact rfl; simp) | ((with_reducible refine w12 ?_ ?_ ?_ fun _ _ => ?_); simp; simp; simp [oneC]) | ((with_reducible (first | refine eqs ?_ | refine nes ?_)); refine ⟨_, rfl, ?_⟩) | ((refine okF_i (bldP_eq rfl) ?_); try simp only [BLS, List.take_succ_cons, List.take_zero, List.drop_succ_cons, List.drop_zero, List.cons_append, List.nil_append, Nat.reduceAdd])) | simp -implicitDefEqProofs only [EN, lsub, lget, stL, beq_self_eq_true, ne_eq, if_true, if_false, List.cons_append, List.nil_append, Option.isNone_some, Option.isNone_none]))
  have h2 : St W0 (cells p [.int .i64 s.have_.x0, .int .i64 s.have_.x1, .int .i64 s.have_.x2, .int .i64 s.have_.x3, .int .i64 s.have_.x4, .int .i64 s.have_.x5, .int .i64 s.have_.x6, .map (some r1), .slice la s.cs.length lc, .map (some r2), .slice da s.done.length dc] T_exec_Exec :: mp KD r1 (kv ys) :: mp KD r2 m :: arr INS T_order_Inst la lc s.ins :: arr DOT T_api_Dot da dc s.done :: many fch (ys.map (·.b)) :: arr DOT T_api_Dot a c s.done :: L) W1 := St.wk h
  refine hk a c _ ?_
  have h3 := exo_of (p := p) (L := arr DOT T_api_Dot a c s.done :: L) (s := s) ⟨ys, r1, r2, m, la, lc, da, dc⟩ ⟨hy, hm⟩ h2
  exact St.wk h3
theorem execWaits {k : Value → World → Prop} (h : St W0 (exo p s :: L) W) (hl : s.done.length < 1000000) (hl2 : s.cs.length < 1000000)
    (hk : ∀ W', St W0 (exo p s :: L) W' → k (.int .i64 ((s.cs.length : Int) - s.done.length)) W') : callK PR F_exec_Exec_Waits [.pointer (some ⟨p, 0, none⟩)] k W := by
  apply S.exec_Exec_Waits.call
  unfold S.exec_Exec_Waits.body
  obtain ⟨ys, r1, r2, m, la, lc, da, dc, hy, hm, h, fin⟩ := exo_ok h
  have ew : IntKind.i64.wrap ((s.cs.length : Int) - s.done.length) = (s.cs.length : Int) - s.done.length := by rw [i64w]; omega
  (repeat (first | (first | (with_reducible (first | refine w1 fun _ _ => ?_ | refine w3 fun _ _ _ => ?_ | refine w4 fun _ _ _ => ?_ | refine w11 fun _ _ _ => ?_ | refine stb_n ?_)) | ((with_reducible refine w2 ?_); try simp -implicitDefEqProofs only [EN, lsub, lget, stL, beq_self_eq_true, ne_eq, if_true, if_false, List.cons_append, List.nil_append, Option.isNone_some, Option.isNone_none, ew]; intro _ _) | ((with_reducible (first | refine w5 ?_ ?_ | refine w6 ?_ ?_ | refine w7 ?_ ?_)); simp; refine ⟨_, rfl, ?_⟩) | ((with_reducible (first | refine w8 ?_ ?_ ?_ | refine w9 ?_ ?_ ?_ | refine w10 ?_ ?_ ?_)); exact rfl; simp) | ((with_reducible refine w12 ?_ ?_ ?_ fun _ _ => ?_); simp; simp; simp [oneC]) | ((with_reducible (first | refine eqs ?_ | refine nes ?_)); refine ⟨_, rfl, ?_⟩) | ((refine okF_i (bldP_eq rfl) ?_); try simp only [BLS, List.take_succ_cons, List.take_zero, List.drop_succ_cons, List.drop_zero, List.cons_append, List.nil_append, Nat.reduceAdd])) | simp -implicitDefEqProofs only [EN, lsub, lget, stL, beq_self_eq_true, ne_eq, if_true, if_false, List.cons_append, List.nil_append, Option.isNone_some, Option.isNone_none, ew]))
  exact hk _ (fin s _ rfl rfl (by first | assumption | exact St.tick (by assumption) | exact St.tick (St.tick (by assumption))))
theorem bytesNil {c : Nat} {k : Value → World → Prop} (h : St W0 L W) (hk : ∀ a' c' W', St W0 (arr B8 T_uint8 a' c' [] :: L) W' → k (.slice a' 0 c') W') : callK PR F_bytes_Clone [.slice none 0 c] k W := by
  haveI : Rd W0 L none B8 [] := Rd.nil _ _ _ _
  exact bytesClone (l := []) h (by decide) hk
/-- the body of a command, none if there is none -/
def XS.bodyOf (s : XS) (d : Dot) : List UInt8 := match s.find d with
  | some c => c.bs
  | none => []
set_option maxRecDepth 100000 in
set_option maxHeartbeats 8000000 in
theorem execBody {d : Dot} {k : Value → World → Prop} (h : St W0 (exo p s :: L) W) (hl : ∀ c ∈ s.cs, c.bs.length ≤ 65536)
    (hk : ∀ a c W', St W0 (arr B8 T_uint8 a c (s.bodyOf d) :: exo p s :: L) W' → k (.tuple #[.slice a (s.bodyOf d).length c, .bool (s.find d).isSome]) W') :
    callK PR F_exec_Exec_Body [.pointer (some ⟨p, 0, none⟩), .agg #[.int .i64 d.rep, .int .i64 d.n]] k W := by
  apply S.exec_Exec_Body.call
  unfold S.exec_Exec_Body.body
  refine bxa h fun db W1 h => ?_
  have h : St W0 (cells db [.int .i64 d.rep, .int .i64 d.n] T_api_Dot :: exo p s :: L) W1 := h
  obtain ⟨ys, r1, r2, m, la, lc, da, dc, hy, hm, h, fin⟩ := exo_ok (St.wk (L' := exo p s :: cells db [.int .i64 d.rep, .int .i64 d.n] T_api_Dot :: L) h)
  have hgk := kv_get ys d
  unfold XS.bodyOf at hk
  rw [find_er hy] at hk
  have fin0 : ∀ a c (bs : List UInt8) W', St W0 (cells p [.int .i64 s.have_.x0, .int .i64 s.have_.x1, .int .i64 s.have_.x2, .int .i64 s.have_.x3, .int .i64 s.have_.x4, .int .i64 s.have_.x5, .int .i64 s.have_.x6, .map (some r1), .slice la s.cs.length lc, .map (some r2), .slice da s.done.length dc] T_exec_Exec :: mp KD r1 (kv ys) :: mp KD r2 m :: arr INS T_order_Inst la lc s.ins :: arr DOT T_api_Dot da dc s.done :: many fch (ys.map (·.b)) :: arr B8 T_uint8 a c bs :: L) W' → St W0 (arr B8 T_uint8 a c bs :: exo p s :: L) W' := fun a c bs W' h =>
    St.wk (exo_of (p := p) (L := arr B8 T_uint8 a c bs :: L) (s := s) ⟨ys, r1, r2, m, la, lc, da, dc⟩ ⟨hy, hm⟩ h)
  (repeat (first | (first | (with_reducible (first | refine w1 fun _ _ => ?_ | refine w3 fun _ _ _ => ?_ | refine w4 fun _ _ _ => ?_ | refine w11 fun _ _ _ => ?_ | refine stb_n ?_)) | ((with_reducible refine w2 ?_); try simp -implicitDefEqProofs only [EN, lsub, lget, stL, beq_self_eq_true, ne_eq, if_true, if_false, List.cons_append, List.nil_append, Option.isNone_some, Option.isNone_none]; intro _ _) | ((with_reducible (first | refine w5 ?_ ?_ | refine w6 ?_ ?_ | refine w7 ?_ ?_)); simp; refine ⟨_, rfl, ?_⟩) | ((with_reducible (first | refine w8 ?_ ?_ ?_ | refine w9 ?_ ?_ ?_ | refine w10 ?_ ?_ ?_)); exact rfl; simp) | ((with_reducible refine w12 ?_ ?_ ?_ fun _ _ => ?_); simp; simp; simp [oneC]) | ((with_reducible (first | refine eqs ?_ | refine nes ?_)); refine ⟨_, rfl, ?_⟩) | ((refine okF_i (bldP_eq rfl) ?_); try simp only [BLS, List.take_succ_cons, List.take_zero, List.drop_succ_cons, List.drop_zero, List.cons_append, List.nil_append, Nat.reduceAdd])) | simp -implicitDefEqProofs only [EN, lsub, lget, stL, beq_self_eq_true, ne_eq, if_true, if_false, List.cons_append, List.nil_append, Option.isNone_some, Option.isNone_none]))
  refine lkpOk (K := KD) (z := cmd0) d (by first | assumption | exact St.tick (by assumption) | exact St.tick (St.tick (by assumption))) ?_
  cases hf : ys.find? (fun y => decide (y.i.d = d)) with
  | none =>
    rw [hf] at hgk hk
    rw [Option.map_none] at hgk
    rw [hgk]
    simp only [Option.getD_none, Option.isSome_none, Option.map_none] at hk ⊢
    (repeat (first | (first | (with_reducible (first | refine w1 fun _ _ => ?_ | refine w3 fun _ _ _ => ?_ | refine w4 fun _ _ _ => ?_ | refine w11 fun _ _ _ => ?_ | refine stb_n ?_)) | ((with_reducible refine w2 ?_); try simp -implicitDefEqProofs only [EN, lsub, lget, stL, beq_self_eq_true, ne_eq, if_true, if_false, List.cons_append, List.nil_append, Option.isNone_some, Option.isNone_none]; intro _ _) | ((with_reducible (first | refine w5 ?_ ?_ | refine w6 ?_ ?_ | refine w7 ?_ ?_)); simp; refine ⟨_, rfl, ?_⟩) | ((with_reducible (first | refine w8 ?_ ?_ ?_ | refine w9 ?_ ?_ ?_ | refine w10 ?_ ?_ ?_)); exact rfl; simp) | ((with_reducible refine w12 ?_ ?_ ?_ fun _ _ => ?_); simp; simp; simp [oneC]) | ((with_reducible (first | refine eqs ?_ | refine nes ?_)); refine ⟨_, rfl, ?_⟩) | ((refine okF_i (bldP_eq rfl) ?_); try simp only [BLS, List.take_succ_cons, List.take_zero, List.drop_succ_cons, List.drop_zero, List.cons_append, List.nil_append, Nat.reduceAdd])) | simp -implicitDefEqProofs only [EN, lsub, lget, stL, beq_self_eq_true, ne_eq, if_true, if_false, List.cons_append, List.nil_append, Option.isNone_some, Option.isNone_none]))
    refine stb_kv (ys := ys) (d := d) (by first | assumption | exact St.tick (by assumption) | exact St.tick (St.tick (by assumption))) (by rw [hgk]; rfl) ?_
    (repeat (first | (first | (with_reducible (first | refine w1 fun _ _ => ?_ | refine w3 fun _ _ _ => ?_ | refine w4 fun _ _ _ => ?_ | refine w11 fun _ _ _ => ?_ | refine stb_n ?_)) | ((with_reducible refine w2 ?_); try simp -implicitDefEqProofs only [EN, lsub, lget, stL, beq_self_eq_true, ne_eq, if_true, if_false, List.cons_append, List.nil_append, Option.isNone_some, Option.isNone_none]; intro _ _) | ((with_reducible (first | refine w5 ?_ ?_ | refine w6 ?_ ?_ | refine w7 ?_ ?_)); simp; refine ⟨_, rfl, ?_⟩) | ((with_reducible (first | refine w8 ?_ ?_ ?_ | refine w9 ?_ ?_ ?_ | refine w10 ?_ ?_ ?_)); exact rfl; simp) | ((with_reducible refine w12 ?_ ?_ ?_ fun _ _ => ?_); simp; simp; simp [oneC]) | ((with_reducible (first | refine eqs ?_ | refine nes ?_)); refine ⟨_, rfl, ?_⟩) | ((refine okF_i (bldP_eq rfl) ?_); try simp only [BLS, List.take_succ_cons, List.take_zero, List.drop_succ_cons, List.drop_zero, List.cons_append, List.nil_append, Nat.reduceAdd])) | simp -implicitDefEqProofs only [EN, lsub, lget, stL, beq_self_eq_true, ne_eq, if_true, if_false, List.cons_append, List.nil_append, Option.isNone_some, Option.isNone_none]))
    refine bytesNil (by first | assumption | exact St.tick (by assumption) | exact St.tick (St.tick (by assumption))) fun a9 c9 W9 h => ?_
    (repeat (first | (first | (with_reducible (first | refine w1 fun _ _ => ?_ | refine w3 fun _ _ _ => ?_ | refine w4 fun _ _ _ => ?_ | refine w11 fun _ _ _ => ?_ | refine stb_n ?_)) | ((with_reducible refine w2 ?_); try simp -implicitDefEqProofs only [EN, lsub, lget, stL, beq_self_eq_true, ne_eq, if_true, if_false, List.cons_append, List.nil_append, Option.isNone_some, Option.isNone_none]; intro _ _) | ((with_reducible (first | refine w5 ?_ ?_ | refine w6 ?_ ?_ | refine w7 ?_ ?_)); simp; refine ⟨_, rfl, ?_⟩) | ((with_reducible (first | refine w8 ?_ ?_ ?_ | refine w9 ?_ ?_ ?_ | refine w10 ?_ ?_ ?_)); exact rfl; simp) | ((with_reducible refine w12 ?_ ?_ ?_ fun _ _ => ?_); simp; simp; simp [oneC]) | ((with_reducible (first | refine eqs ?_ | refine nes ?_)); refine ⟨_, rfl, ?_⟩) | ((refine okF_i (bldP_eq rfl) ?_); try simp only [BLS, List.take_succ_cons, List.take_zero, List.drop_succ_cons, List.drop_zero, List.cons_append, List.nil_append, Nat.reduceAdd])) | simp -implicitDefEqProofs only [EN, lsub, lget, stL, beq_self_eq_true, ne_eq, if_true, if_false, List.cons_append, List.nil_append, Option.isNone_some, Option.isNone_none]))
    exact hk a9 c9 _ (fin0 _ _ _ _ (St.wk (by first | assumption | exact St.tick (by assumption) | exact St.tick (St.tick (by assumption)))))
  | some y =>
    rw [hf] at hgk hk
    rw [Option.map_some] at hgk
    rw [hgk]
    have hym : y ∈ ys := List.mem_of_find?_eq_some hf
    have hyb : y.b.bs.length ≤ 65536 := hl y.er (by rw [← hy]; exact List.mem_map_of_mem hym)
    have hinb : InB y.b (ys.map (·.b)) := .inr (List.mem_map_of_mem hym)
    simp only [Option.getD_some, Option.isSome_some, Option.map_some] at hk ⊢
    (repeat (first | (first | (with_reducible (first | refine w1 fun _ _ => ?_ | refine w3 fun _ _ _ => ?_ | refine w4 fun _ _ _ => ?_ | refine w11 fun _ _ _ => ?_ | refine stb_n ?_)) | ((with_reducible refine w2 ?_); try simp -implicitDefEqProofs only [EN, lsub, lget, stL, beq_self_eq_true, ne_eq, if_true, if_false, List.cons_append, List.nil_append, Option.isNone_some, Option.isNone_none]; intro _ _) | ((with_reducible (first | refine w5 ?_ ?_ | refine w6 ?_ ?_ | refine w7 ?_ ?_)); simp; refine ⟨_, rfl, ?_⟩) | ((with_reducible (first | refine w8 ?_ ?_ ?_ | refine w9 ?_ ?_ ?_ | refine w10 ?_ ?_ ?_)); exact rfl; simp) | ((with_reducible refine w12 ?_ ?_ ?_ fun _ _ => ?_); simp; simp; simp [oneC]) | ((with_reducible (first | refine eqs ?_ | refine nes ?_)); refine ⟨_, rfl, ?_⟩) | ((refine okF_i (bldP_eq rfl) ?_); try simp only [BLS, List.take_succ_cons, List.take_zero, List.drop_succ_cons, List.drop_zero, List.cons_append, List.nil_append, Nat.reduceAdd])) | simp -implicitDefEqProofs only [EN, lsub, lget, stL, beq_self_eq_true, ne_eq, if_true, if_false, List.cons_append, List.nil_append, Option.isNone_some, Option.isNone_none]))
    refine stb_kv (ys := ys) (d := d) (by first | assumption | exact St.tick (by assumption) | exact St.tick (St.tick (by assumption))) (by rw [hgk]; rfl) ?_
    (repeat (first | (first | (with_reducible (first | refine w1 fun _ _ => ?_ | refine w3 fun _ _ _ => ?_ | refine w4 fun _ _ _ => ?_ | refine w11 fun _ _ _ => ?_ | refine stb_n ?_)) | ((with_reducible refine w2 ?_); try simp -implicitDefEqProofs only [EN, lsub, lget, stL, beq_self_eq_true, ne_eq, if_true, if_false, List.cons_append, List.nil_append, Option.isNone_some, Option.isNone_none]; intro _ _) | ((with_reducible (first | refine w5 ?_ ?_ | refine w6 ?_ ?_ | refine w7 ?_ ?_)); simp; refine ⟨_, rfl, ?_⟩) | ((with_reducible (first | refine w8 ?_ ?_ ?_ | refine w9 ?_ ?_ ?_ | refine w10 ?_ ?_ ?_)); exact rfl; simp) | ((with_reducible refine w12 ?_ ?_ ?_ fun _ _ => ?_); simp; simp; simp [oneC]) | ((with_reducible (first | refine eqs ?_ | refine nes ?_)); refine ⟨_, rfl, ?_⟩) | ((refine okF_i (bldP_eq rfl) ?_); try simp only [BLS, List.take_succ_cons, List.take_zero, List.drop_succ_cons, List.drop_zero, List.cons_append, List.nil_append, Nat.reduceAdd])) | simp -implicitDefEqProofs only [EN, lsub, lget, stL, beq_self_eq_true, ne_eq, if_true, if_false, List.cons_append, List.nil_append, Option.isNone_some, Option.isNone_none]))
    rename_i h
    have h := St.wk (L' := many fch (ys.map (·.b)) :: cells p [.int .i64 s.have_.x0, .int .i64 s.have_.x1, .int .i64 s.have_.x2, .int .i64 s.have_.x3, .int .i64 s.have_.x4, .int .i64 s.have_.x5, .int .i64 s.have_.x6, .map (some r1), .slice la s.cs.length lc, .map (some r2), .slice da s.done.length dc] T_exec_Exec :: mp KD r1 (kv ys) :: mp KD r2 m :: arr INS T_order_Inst la lc s.ins :: arr DOT T_api_Dot da dc s.done :: L) h
    haveI hrd := rdMany (W0 := W0) (L := cells p [.int .i64 s.have_.x0, .int .i64 s.have_.x1, .int .i64 s.have_.x2, .int .i64 s.have_.x3, .int .i64 s.have_.x4, .int .i64 s.have_.x5, .int .i64 s.have_.x6, .map (some r1), .slice la s.cs.length lc, .map (some r2), .slice da s.done.length dc] T_exec_Exec :: mp KD r1 (kv ys) :: mp KD r2 m :: arr INS T_order_Inst la lc s.ins :: arr DOT T_api_Dot da dc s.done :: L) hinb
    refine bytesClone (a := y.b.a) (l := y.b.bs) h (by omega) fun a9 c9 W9 h => ?_
    (repeat (first | (first | (with_reducible (first | refine w1 fun _ _ => ?_ | refine w3 fun _ _ _ => ?_ | refine w4 fun _ _ _ => ?_ | refine w11 fun _ _ _ => ?_ | refine stb_n ?_)) | ((with_reducible refine w2 ?_); try simp -implicitDefEqProofs only [EN, lsub, lget, stL, beq_self_eq_true, ne_eq, if_true, if_false, List.cons_append, List.nil_append, Option.isNone_some, Option.isNone_none]; intro _ _) | ((with_reducible (first | refine w5 ?_ ?_ | refine w6 ?_ ?_ | refine w7 ?_ ?_)); simp; refine ⟨_, rfl, ?_⟩) | ((with_reducible (first | refine w8 ?_ ?_ ?_ | refine w9 ?_ ?_ ?_ | refine w10 ?_ ?_ ?_)); exact rfl; simp) | ((with_reducible refine w12 ?_ ?_ ?_ fun _ _ => ?_); simp; simp; simp [oneC]) | ((with_reducible (first | refine eqs ?_ | refine nes ?_)); refine ⟨_, rfl, ?_⟩) | ((refine okF_i (bldP_eq rfl) ?_); try simp only [BLS, List.take_succ_cons, List.take_zero, List.drop_succ_cons, List.drop_zero, List.cons_append, List.nil_append, Nat.reduceAdd])) | simp -implicitDefEqProofs only [EN, lsub, lget, stL, beq_self_eq_true, ne_eq, if_true, if_false, List.cons_append, List.nil_append, Option.isNone_some, Option.isNone_none]))
    exact hk a9 c9 _ (fin0 a9 c9 y.b.bs _ (St.wk (by first | assumption | exact St.tick (by assumption) | exact St.tick (St.tick (by assumption)))))
end
end Go.Proofs.Ytkjhccpanedccaa
namespace Go.Proofs.Ytkjhccpanedccaa
set_option linter.unusedVariables false
set_option linter.unusedSimpArgs false
open Go Go.Eng Go.Tar Go.Sort
section
variable {W0 W : World} {L L' : List Asn}
theorem ordLine0 {a : Option Addr} {c : Nat} {l : List Ins} (done : P7 Int) (h00 : W0.drawn = 0) (h : St W0 L W) [hr : Rd W0 L a INS l] (hl : l.length < 1000000) {k : Value → World → Prop}
    (hk : ∀ a' c' W', St W0 (arr DOT T_api_Dot a' c' (lineTop done [] l) :: L) W' → k (.slice a' (lineTop done [] l).length c') W') : callK PR F_order_Line [.slice a l.length c, .agg #[.int .i64 done.x0, .int .i64 done.x1, .int .i64 done.x2, .int .i64 done.x3, .int .i64 done.x4, .int .i64 done.x5, .int .i64 done.x6], .slice none 0 0] k W := by
  haveI : Rd W0 L none DOT [] := Rd.nil _ _ _ _
  exact ordLine (a2 := none) (c2 := 0) (also := []) (done := done) h00 h hl (by decide) hk
end
end Go.Proofs.Ytkjhccpanedccaa
namespace Go.Proofs.Ytkjhccpanedccaa
set_option linter.unusedVariables false
set_option linter.unusedSimpArgs false
open Go Go.Eng Go.Tar Go.Sort
def XS.waitOf (s : XS) (d : Dot) : P7 Int := match s.find d with
  | some c => c.w
  | none => P7.all 0
def nowF (s : XS) : List Dot → List Dot
  | [] => []
  | d :: ds => if d ∈ s.done then nowF s ds else if leV (s.waitOf d) s.have_ = true then d :: nowF s ds else []
def XS.merge (s : XS) (v : P7 Int) : XS := if goodV v = true then ⟨vmerge s.have_ v, s.cs, s.done⟩ else s
noncomputable def XS.now (s : XS) : List Dot := nowF s (lineTop (P7.all 0) [] s.ins)
noncomputable def XS.haves (s : XS) (v : P7 Int) : XS × List Dot := ((s.merge v).now.foldl XS.mark (s.merge v), (s.merge v).now)
theorem nowF_cons (s : XS) (d : Dot) (ds : List Dot) : nowF s (d :: ds) = if d ∈ s.done then nowF s ds else if leV (s.waitOf d) s.have_ = true then d :: nowF s ds else [] := rfl
theorem leV_eta {a b : P7 Int} {x : Bool} (h : leV a b = x) : leV ⟨a.x0, a.x1, a.x2, a.x3, a.x4, a.x5, a.x6⟩ ⟨b.x0, b.x1, b.x2, b.x3, b.x4, b.x5, b.x6⟩ = x := h
theorem goodV_eta {a : P7 Int} {x : Bool} (h : goodV a = x) : goodV ⟨a.x0, a.x1, a.x2, a.x3, a.x4, a.x5, a.x6⟩ = x := h
theorem nowF_len (s : XS) : ∀ l : List Dot, (nowF s l).length ≤ l.length
  | [] => Nat.le_refl _
  | d :: l => by
    have := nowF_len s l
    unfold nowF
    split
    · simp only [List.length_cons]; omega
    · split
      · simp only [List.length_cons]; omega
      · simp
theorem mark_len (s : XS) (d : Dot) : (s.mark d).done.length ≤ s.done.length + 1 := by
  unfold XS.mark
  split
  · simp
  · omega
theorem mark_cs (s : XS) (d : Dot) : (s.mark d).cs = s.cs ∧ (s.mark d).have_ = s.have_ := by unfold XS.mark; split <;> exact ⟨rfl, rfl⟩
section
variable {W0 W : World} {L L' : List Asn} {p : Nat} {s : XS}
set_option maxRecDepth 100000 in
set_option maxHeartbeats 8000000 in
theorem execHave (h00 : W0.drawn = 0) {v : P7 Int} {k : Value → World → Prop} (h : St W0 (exo p s :: L) W) (hc : s.cs.length ≤ 1000) (hd : s.done.length ≤ 100000)
    (hlen : ∀ l : List Ins, (lineTop (P7.all 0) [] l).length ≤ l.length)
    (hk : ∀ a c W', St W0 (arr DOT T_api_Dot a c (s.haves v).2 :: exo p (s.haves v).1 :: L) W' → k (.slice a (s.haves v).2.length c) W') : callK PR F_exec_Exec_Have [.pointer (some ⟨p, 0, none⟩), .agg #[.int .i64 v.x0, .int .i64 v.x1, .int .i64 v.x2, .int .i64 v.x3, .int .i64 v.x4, .int .i64 v.x5, .int .i64 v.x6]] k W := by
  apply S.exec_Exec_Have.call
  unfold S.exec_Exec_Have.body
  refine bxa h fun vb W1 h => ?_
  have h : St W0 (cells vb [.int .i64 v.x0, .int .i64 v.x1, .int .i64 v.x2, .int .i64 v.x3, .int .i64 v.x4, .int .i64 v.x5, .int .i64 v.x6] T_vec_Vec :: exo p s :: L) W1 := h
  have hcs : (s.merge v).cs = s.cs := by unfold XS.merge; split <;> rfl
  have hdn : (s.merge v).done = s.done := by unfold XS.merge; split <;> rfl
  have hgv : goodV ⟨v.x0, v.x1, v.x2, v.x3, v.x4, v.x5, v.x6⟩ = goodV v := rfl
  have key : ∀ W', St W0 (exo p (s.merge v) :: L) W' → S.exec_Exec_Have.j1 k (.pointer (some ⟨p, 0, none⟩)) W' := by
    clear h
    intro W h
    unfold XS.haves at hk
    rw [← hcs] at hc
    rw [← hdn] at hd
    generalize s.merge v = s at *
    unfold S.exec_Exec_Have.j1
    refine joinK_i ?_
    obtain ⟨ys, r1, r2, m, la, lc, da, dc, hy, hm, h, fin⟩ := exo_ok h
    have hins : s.ins.length = s.cs.length := List.length_map _
    (repeat (first | (first | (with_reducible (first | refine w1 fun _ _ => ?_ | refine w3 fun _ _ _ => ?_ | refine w4 fun _ _ _ => ?_ | refine w11 fun _ _ _ => ?_ | refine stb_n ?_)) | ((with_reducible refine w2 ?_); try simp -implicitDefEqProofs only [EN, lsub, lget, stL, beq_self_eq_true, ne_eq, if_true, if_false, List.cons_append, List.nil_append, Option.isNone_some, Option.isNone_none]; intro _ _) | ((with_reducible (first | refine w5 ?_ ?_ | refine w6 ?_ ?_ | refine w7 ?_ ?_)); simp; refine ⟨_, rfl, ?_⟩) | ((with_reducible (first | refine w8 ?_ ?_ ?_ | refine w9 ?_ ?_ ?_ | refine w10 ?_ ?_ ?_)); exact rfl; simp) | ((with_reducible refine w12 ?_ ?_ ?_ fun _ _ => ?_); simp; simp; simp [oneC]) | ((with_reducible (first | refine eqs ?_ | refine nes ?_)); refine ⟨_, rfl, ?_⟩) | ((refine okF_i (bldP_eq rfl) ?_); try simp only [BLS, List.take_succ_cons, List.take_zero, List.drop_succ_cons, List.drop_zero, List.cons_append, List.nil_append, Nat.reduceAdd])) | simp -implicitDefEqProofs only [EN, lsub, lget, stL, beq_self_eq_true, ne_eq, if_true, if_false, List.cons_append, List.nil_append, Option.isNone_some, Option.isNone_none]))
    rw [← hins]
    refine ordLine0 (l := s.ins) (a := la) (P7.all 0) h00 (by first | assumption | exact St.tick (by assumption) | exact St.tick (St.tick (by assumption))) (by omega) fun al cl W2 h => ?_
    have hnl := nowF_len s (lineTop (P7.all 0) [] s.ins)
    have hll := hlen s.ins
    unfold XS.now at hk
    generalize hline : lineTop (P7.all 0) [] s.ins = line at *
    rw [hins] at hll
    (repeat (first | (first | (with_reducible (first | refine w1 fun _ _ => ?_ | refine w3 fun _ _ _ => ?_ | refine w4 fun _ _ _ => ?_ | refine w11 fun _ _ _ => ?_ | refine stb_n ?_)) | ((with_reducible refine w2 ?_); try simp -implicitDefEqProofs only [EN, lsub, lget, stL, beq_self_eq_true, ne_eq, if_true, if_false, List.cons_append, List.nil_append, Option.isNone_some, Option.isNone_none]; intro _ _) | ((with_reducible (first | refine w5 ?_ ?_ | refine w6 ?_ ?_ | refine w7 ?_ ?_)); simp; refine ⟨_, rfl, ?_⟩) | ((with_reducible (first | refine w8 ?_ ?_ ?_ | refine w9 ?_ ?_ ?_ | refine w10 ?_ ?_ ?_)); exact rfl; simp) | ((with_reducible refine w12 ?_ ?_ ?_ fun _ _ => ?_); simp; simp; simp [oneC]) | ((with_reducible (first | refine eqs ?_ | refine nes ?_)); refine ⟨_, rfl, ?_⟩) | ((refine okF_i (bldP_eq rfl) ?_); try simp only [BLS, List.take_succ_cons, List.take_zero, List.drop_succ_cons, List.drop_zero, List.cons_append, List.nil_append, Nat.reduceAdd])) | simp -implicitDefEqProofs only [EN, lsub, lget, stL, beq_self_eq_true, ne_eq, if_true, if_false, List.cons_append, List.nil_append, Option.isNone_some, Option.isNone_none]))
    have h := St.wk (L' := arr DOT T_api_Dot al cl line :: cells p [.int .i64 s.have_.x0, .int .i64 s.have_.x1, .int .i64 s.have_.x2, .int .i64 s.have_.x3, .int .i64 s.have_.x4, .int .i64 s.have_.x5, .int .i64 s.have_.x6, .map (some r1), .slice la s.cs.length lc, .map (some r2), .slice da s.done.length dc] T_exec_Exec :: mp KD r1 (kv ys) :: mp KD r2 m :: arr INS T_order_Inst la lc s.ins :: arr DOT T_api_Dot da dc s.done :: many fch (ys.map (·.b)) :: L) h
    have h := h.ent (arr_nil DOT T_api_Dot)
    have hJ2 : ∀ (a : Option Addr) (c : Nat) W', St W0 (arr DOT T_api_Dot a c (nowF s line) :: exo p s :: L) W' → S.exec_Exec_Have.j2 k (.pointer (some ⟨p, 0, none⟩)) (.slice a (nowF s line).length c) W' := by
      clear h
      intro a c W h
      unfold S.exec_Exec_Have.j2
      refine joinK_i ?_
      generalize nowF s line = now at *
      (repeat (first | (first | (with_reducible (first | refine w1 fun _ _ => ?_ | refine w3 fun _ _ _ => ?_ | refine w4 fun _ _ _ => ?_ | refine w11 fun _ _ _ => ?_ | refine stb_n ?_)) | ((with_reducible refine w2 ?_); try simp -implicitDefEqProofs only [EN, lsub, lget, stL, beq_self_eq_true, ne_eq, if_true, if_false, List.cons_append, List.nil_append, Option.isNone_some, Option.isNone_none]; intro _ _) | ((with_reducible (first | refine w5 ?_ ?_ | refine w6 ?_ ?_ | refine w7 ?_ ?_)); simp; refine ⟨_, rfl, ?_⟩) | ((with_reducible (first | refine w8 ?_ ?_ ?_ | refine w9 ?_ ?_ ?_ | refine w10 ?_ ?_ ?_)); exact rfl; simp) | ((with_reducible refine w12 ?_ ?_ ?_ fun _ _ => ?_); simp; simp; simp [oneC]) | ((with_reducible (first | refine eqs ?_ | refine nes ?_)); refine ⟨_, rfl, ?_⟩) | ((refine okF_i (bldP_eq rfl) ?_); try simp only [BLS, List.take_succ_cons, List.take_zero, List.drop_succ_cons, List.drop_zero, List.cons_append, List.nil_append, Nat.reduceAdd])) | simp -implicitDefEqProofs only [EN, lsub, lget, stL, beq_self_eq_true, ne_eq, if_true, if_false, List.cons_append, List.nil_append, Option.isNone_some, Option.isNone_none]))
      refine loop_c (σ := Unit) now.length (fun i _ => [.pointer (some ⟨p, 0, none⟩), .slice a now.length c, .slice a now.length c, .int .i64 now.length, .int .i64 (i : Int)])
        (fun i _ W1 => ((now.take i).foldl XS.mark s).done.length ≤ s.done.length + i ∧ St W0 (exo p ((now.take i).foldl XS.mark s) :: arr DOT T_api_Dot a c now :: L) W1) () rfl ⟨by simp, St.wk (L' := exo p s :: arr DOT T_api_Dot a c now :: L) h⟩ ?_
      clear h
      rintro K i _ W3 hi ⟨hdl, h⟩ hK
      simp -implicitDefEqProofs only [EN, lsub, lget, stL, beq_self_eq_true, ne_eq, if_true, if_false, List.cons_append, List.nil_append, Option.isNone_some, Option.isNone_none]
      unfold S.exec_Exec_Have.l1
      by_cases hlt : (i : Int) < (now.length : Int)
      · have hib : i < now.length := by omega
        have ew : IntKind.i64.wrap ((i : Int) + 1) = ((i + 1 : Nat) : Int) := by rw [i64w]; omega
        have htk : (now.take (i + 1)).foldl XS.mark s = ((now.take i).foldl XS.mark s).mark now[i] := by rw [List.take_succ_eq_append_getElem hib, List.foldl_append]; rfl
        have hml := mark_len ((now.take i).foldl XS.mark s) now[i]
        (repeat (first | (first | (with_reducible (first | refine w1 fun _ _ => ?_ | refine w3 fun _ _ _ => ?_ | refine w4 fun _ _ _ => ?_ | refine w11 fun _ _ _ => ?_ | refine stb_n ?_)) | ((with_reducible refine w2 ?_); try simp -implicitDefEqProofs only [EN, lsub, lget, stL, beq_self_eq_true, ne_eq, if_true, if_false, List.cons_append, List.nil_append, Option.isNone_some, Option.isNone_none, hlt]; intro _ _) | ((with_reducible (first | refine w5 ?_ ?_ | refine w6 ?_ ?_ | refine w7 ?_ ?_)); simp; refine ⟨_, rfl, ?_⟩) | ((with_reducible (first | refine w8 ?_ ?_ ?_ | refine w9 ?_ ?_ ?_ | refine w10 ?_ ?_ ?_)); exact rfl; simp) | ((with_reducible refine w12 ?_ ?_ ?_ fun _ _ => ?_); simp; simp; simp [oneC]) | ((with_reducible (first | refine eqs ?_ | refine nes ?_)); refine ⟨_, rfl, ?_⟩) | ((refine okF_i (bldP_eq rfl) ?_); try simp only [BLS, List.take_succ_cons, List.take_zero, List.drop_succ_cons, List.drop_zero, List.cons_append, List.nil_append, Nat.reduceAdd])) | simp -implicitDefEqProofs only [EN, lsub, lget, stL, beq_self_eq_true, ne_eq, if_true, if_false, List.cons_append, List.nil_append, Option.isNone_some, Option.isNone_none, hlt]))
        refine ixA (i := i) (a := a) (l := now) (A := DOT) (by first | assumption | exact St.tick (by assumption) | exact St.tick (St.tick (by assumption))) rfl rfl hib fun g1 o1 ha => ?_
        cases ha
        refine ldA0 (i := i) (l := now) (A := DOT) (by first | assumption | exact St.tick (by assumption) | exact St.tick (St.tick (by assumption))) rfl hib (getL_val rfl (by decide) _) (by simp [DOT]) ?_
        refine newV (A := DOT) now[i] (by first | assumption | exact St.tick (by assumption) | exact St.tick (St.tick (by assumption))) rfl (by decide) rfl fun vb W11 h => ?_
        refine ldV (A := DOT) now[i] (by first | assumption | exact St.tick (by assumption) | exact St.tick (St.tick (by assumption))) rfl (by decide) ?_
        refine execMark (s := (now.take i).foldl XS.mark s) (d := now[i]) (St.wk (L' := exo p ((now.take i).foldl XS.mark s) :: arr DOT T_api_Dot (some ⟨g1, o1, none⟩) c now :: L) (by first | assumption | exact St.tick (by assumption) | exact St.tick (St.tick (by assumption)))) (by omega) fun v W12 h => ?_
        (repeat (first | (first | (with_reducible (first | refine w1 fun _ _ => ?_ | refine w3 fun _ _ _ => ?_ | refine w4 fun _ _ _ => ?_ | refine w11 fun _ _ _ => ?_ | refine stb_n ?_)) | ((with_reducible refine w2 ?_); try simp -implicitDefEqProofs only [EN, lsub, lget, stL, beq_self_eq_true, ne_eq, if_true, if_false, List.cons_append, List.nil_append, Option.isNone_some, Option.isNone_none, ew]; intro _ _) | ((with_reducible (first | refine w5 ?_ ?_ | refine w6 ?_ ?_ | refine w7 ?_ ?_)); simp; refine ⟨_, rfl, ?_⟩) | ((with_reducible (first | refine w8 ?_ ?_ ?_ | refine w9 ?_ ?_ ?_ | refine w10 ?_ ?_ ?_)); exact rfl; simp) | ((with_reducible refine w12 ?_ ?_ ?_ fun _ _ => ?_); simp; simp; simp [oneC]) | ((with_reducible (first | refine eqs ?_ | refine nes ?_)); refine ⟨_, rfl, ?_⟩) | ((refine okF_i (bldP_eq rfl) ?_); try simp only [BLS, List.take_succ_cons, List.take_zero, List.drop_succ_cons, List.drop_zero, List.cons_append, List.nil_append, Nat.reduceAdd])) | simp -implicitDefEqProofs only [EN, lsub, lget, stL, beq_self_eq_true, ne_eq, if_true, if_false, List.cons_append, List.nil_append, Option.isNone_some, Option.isNone_none, ew]))
        refine hK () _ hib ⟨?_, ?_⟩
        · rw [htk]; omega
        · rw [htk]; exact h
      · have hil : i = now.length := by omega
        subst hil
        rw [List.take_length] at h
        (repeat (first | (first | (with_reducible (first | refine w1 fun _ _ => ?_ | refine w3 fun _ _ _ => ?_ | refine w4 fun _ _ _ => ?_ | refine w11 fun _ _ _ => ?_ | refine stb_n ?_)) | ((with_reducible refine w2 ?_); try simp -implicitDefEqProofs only [EN, lsub, lget, stL, beq_self_eq_true, ne_eq, if_true, if_false, List.cons_append, List.nil_append, Option.isNone_some, Option.isNone_none, hlt]; intro _ _) | ((with_reducible (first | refine w5 ?_ ?_ | refine w6 ?_ ?_ | refine w7 ?_ ?_)); simp; refine ⟨_, rfl, ?_⟩) | ((with_reducible (first | refine w8 ?_ ?_ ?_ | refine w9 ?_ ?_ ?_ | refine w10 ?_ ?_ ?_)); exact rfl; simp) | ((with_reducible refine w12 ?_ ?_ ?_ fun _ _ => ?_); simp; simp; simp [oneC]) | ((with_reducible (first | refine eqs ?_ | refine nes ?_)); refine ⟨_, rfl, ?_⟩) | ((refine okF_i (bldP_eq rfl) ?_); try simp only [BLS, List.take_succ_cons, List.take_zero, List.drop_succ_cons, List.drop_zero, List.cons_append, List.nil_append, Nat.reduceAdd])) | simp -implicitDefEqProofs only [EN, lsub, lget, stL, beq_self_eq_true, ne_eq, if_true, if_false, List.cons_append, List.nil_append, Option.isNone_some, Option.isNone_none, hlt]))
        unfold S.exec_Exec_Have.j3
        exact hk a c _ (St.wk h)
    refine loop_c (σ := List Dot × Option Addr × Nat) line.length (fun i x => [.pointer (some ⟨p, 0, none⟩), .slice x.2.1 x.1.length x.2.2, .slice al line.length cl, .int .i64 line.length, .int .i64 (i : Int)])
      (fun i x W1 => (nowF s line = x.1 ++ nowF s (line.drop i) ∧ x.1.length ≤ i) ∧ St W0 (arr DOT T_api_Dot x.2.1 x.2.2 x.1 :: arr DOT T_api_Dot al cl line :: cells p [.int .i64 s.have_.x0, .int .i64 s.have_.x1, .int .i64 s.have_.x2, .int .i64 s.have_.x3, .int .i64 s.have_.x4, .int .i64 s.have_.x5, .int .i64 s.have_.x6, .map (some r1), .slice la s.cs.length lc, .map (some r2), .slice da s.done.length dc] T_exec_Exec :: mp KD r1 (kv ys) :: mp KD r2 m :: arr INS T_order_Inst la lc s.ins :: arr DOT T_api_Dot da dc s.done :: many fch (ys.map (·.b)) :: L) W1) ([], none, 0) rfl ⟨⟨rfl, Nat.le_refl _⟩, h⟩ ?_
    clear h
    rintro K i ⟨acc, ax, cx⟩ W3 hi ⟨⟨hacc, hal⟩, h⟩ hK
    simp only at hacc hal h
    simp -implicitDefEqProofs only [EN, lsub, lget, stL, beq_self_eq_true, ne_eq, if_true, if_false, List.cons_append, List.nil_append, Option.isNone_some, Option.isNone_none]
    unfold S.exec_Exec_Have.l2
    by_cases hlt : (i : Int) < (line.length : Int)
    · have hib : i < line.length := by omega
      have ew : IntKind.i64.wrap ((i : Int) + 1) = ((i + 1 : Nat) : Int) := by rw [i64w]; omega
      rw [List.drop_eq_getElem_cons hib, nowF_cons] at hacc
      have hmd := hm line[i]
      have hgk := kv_get ys line[i]
      have hwo : s.waitOf line[i] = match ys.find? (fun y => decide (y.i.d = line[i])) with | some y => y.w | none => P7.all 0 := by
        unfold XS.waitOf; rw [find_er hy]; cases ys.find? (fun y => decide (y.i.d = line[i])) <;> rfl
      (repeat (first | (first | (with_reducible (first | refine w1 fun _ _ => ?_ | refine w3 fun _ _ _ => ?_ | refine w4 fun _ _ _ => ?_ | refine w11 fun _ _ _ => ?_ | refine stb_n ?_)) | ((with_reducible refine w2 ?_); try simp -implicitDefEqProofs only [EN, lsub, lget, stL, beq_self_eq_true, ne_eq, if_true, if_false, List.cons_append, List.nil_append, Option.isNone_some, Option.isNone_none, hlt]; intro _ _) | ((with_reducible (first | refine w5 ?_ ?_ | refine w6 ?_ ?_ | refine w7 ?_ ?_)); simp; refine ⟨_, rfl, ?_⟩) | ((with_reducible (first | refine w8 ?_ ?_ ?_ | refine w9 ?_ ?_ ?_ | refine w10 ?_ ?_ ?_)); exact rfl; simp) | ((with_reducible refine w12 ?_ ?_ ?_ fun _ _ => ?_); simp; simp; simp [oneC]) | ((with_reducible (first | refine eqs ?_ | refine nes ?_)); refine ⟨_, rfl, ?_⟩) | ((refine okF_i (bldP_eq rfl) ?_); try simp only [BLS, List.take_succ_cons, List.take_zero, List.drop_succ_cons, List.drop_zero, List.cons_append, List.nil_append, Nat.reduceAdd])) | simp -implicitDefEqProofs only [EN, lsub, lget, stL, beq_self_eq_true, ne_eq, if_true, if_false, List.cons_append, List.nil_append, Option.isNone_some, Option.isNone_none, hlt]))
      refine joinK_i ?_
      refine ixA (i := i) (a := al) (l := line) (A := DOT) (by first | assumption | exact St.tick (by assumption) | exact St.tick (St.tick (by assumption))) rfl rfl hib fun g1 o1 ha => ?_
      cases ha
      refine ldA0 (i := i) (l := line) (A := DOT) (by first | assumption | exact St.tick (by assumption) | exact St.tick (St.tick (by assumption))) rfl hib (getL_val rfl (by decide) _) (by simp [DOT]) ?_
      refine newV (A := DOT) line[i] (by first | assumption | exact St.tick (by assumption) | exact St.tick (St.tick (by assumption))) rfl (by decide) rfl fun vb W11 h => ?_
      (repeat (first | (first | (with_reducible (first | refine w1 fun _ _ => ?_ | refine w3 fun _ _ _ => ?_ | refine w4 fun _ _ _ => ?_ | refine w11 fun _ _ _ => ?_ | refine stb_n ?_)) | ((with_reducible refine w2 ?_); try simp -implicitDefEqProofs only [EN, lsub, lget, stL, beq_self_eq_true, ne_eq, if_true, if_false, List.cons_append, List.nil_append, Option.isNone_some, Option.isNone_none]; intro _ _) | ((with_reducible (first | refine w5 ?_ ?_ | refine w6 ?_ ?_ | refine w7 ?_ ?_)); simp; refine ⟨_, rfl, ?_⟩) | ((with_reducible (first | refine w8 ?_ ?_ ?_ | refine w9 ?_ ?_ ?_ | refine w10 ?_ ?_ ?_)); exact rfl; simp) | ((with_reducible refine w12 ?_ ?_ ?_ fun _ _ => ?_); simp; simp; simp [oneC]) | ((with_reducible (first | refine eqs ?_ | refine nes ?_)); refine ⟨_, rfl, ?_⟩) | ((refine okF_i (bldP_eq rfl) ?_); try simp only [BLS, List.take_succ_cons, List.take_zero, List.drop_succ_cons, List.drop_zero, List.cons_append, List.nil_append, Nat.reduceAdd])) | simp -implicitDefEqProofs only [EN, lsub, lget, stL, beq_self_eq_true, ne_eq, if_true, if_false, List.cons_append, List.nil_append, Option.isNone_some, Option.isNone_none]))
      refine ldV (A := DOT) line[i] (by first | assumption | exact St.tick (by assumption) | exact St.tick (St.tick (by assumption))) rfl (by decide) ?_
      refine lkp (K := KD) (z := .bool false) line[i] (by first | assumption | exact St.tick (by assumption) | exact St.tick (St.tick (by assumption))) ?_
      rw [hmd]
      by_cases hin : line[i] ∈ s.done
      · rw [if_pos hin] at hacc
        rw [decide_eq_true hin]
        (repeat (first | (first | (with_reducible (first | refine w1 fun _ _ => ?_ | refine w3 fun _ _ _ => ?_ | refine w4 fun _ _ _ => ?_ | refine w11 fun _ _ _ => ?_ | refine stb_n ?_)) | ((with_reducible refine w2 ?_); try simp -implicitDefEqProofs only [EN, lsub, lget, stL, beq_self_eq_true, ne_eq, if_true, if_false, List.cons_append, List.nil_append, Option.isNone_some, Option.isNone_none]; intro _ _) | ((with_reducible (first | refine w5 ?_ ?_ | refine w6 ?_ ?_ | refine w7 ?_ ?_)); simp; refine ⟨_, rfl, ?_⟩) | ((with_reducible (first | refine w8 ?_ ?_ ?_ | refine w9 ?_ ?_ ?_ | refine w10 ?_ ?_ ?_)); exact rfl; simp) | ((with_reducible refine w12 ?_ ?_ ?_ fun _ _ => ?_); simp; simp; simp [oneC]) | ((with_reducible (first | refine eqs ?_ | refine nes ?_)); refine ⟨_, rfl, ?_⟩) | ((refine okF_i (bldP_eq rfl) ?_); try simp only [BLS, List.take_succ_cons, List.take_zero, List.drop_succ_cons, List.drop_zero, List.cons_append, List.nil_append, Nat.reduceAdd])) | simp -implicitDefEqProofs only [EN, lsub, lget, stL, beq_self_eq_true, ne_eq, if_true, if_false, List.cons_append, List.nil_append, Option.isNone_some, Option.isNone_none]))
        unfold S.exec_Exec_Have.j4
        (repeat (first | (first | (with_reducible (first | refine w1 fun _ _ => ?_ | refine w3 fun _ _ _ => ?_ | refine w4 fun _ _ _ => ?_ | refine w11 fun _ _ _ => ?_ | refine stb_n ?_)) | ((with_reducible refine w2 ?_); try simp -implicitDefEqProofs only [EN, lsub, lget, stL, beq_self_eq_true, ne_eq, if_true, if_false, List.cons_append, List.nil_append, Option.isNone_some, Option.isNone_none, ew]; intro _ _) | ((with_reducible (first | refine w5 ?_ ?_ | refine w6 ?_ ?_ | refine w7 ?_ ?_)); simp; refine ⟨_, rfl, ?_⟩) | ((with_reducible (first | refine w8 ?_ ?_ ?_ | refine w9 ?_ ?_ ?_ | refine w10 ?_ ?_ ?_)); exact rfl; simp) | ((with_reducible refine w12 ?_ ?_ ?_ fun _ _ => ?_); simp; simp; simp [oneC]) | ((with_reducible (first | refine eqs ?_ | refine nes ?_)); refine ⟨_, rfl, ?_⟩) | ((refine okF_i (bldP_eq rfl) ?_); try simp only [BLS, List.take_succ_cons, List.take_zero, List.drop_succ_cons, List.drop_zero, List.cons_append, List.nil_append, Nat.reduceAdd])) | simp -implicitDefEqProofs only [EN, lsub, lget, stL, beq_self_eq_true, ne_eq, if_true, if_false, List.cons_append, List.nil_append, Option.isNone_some, Option.isNone_none, ew]))
        exact hK (acc, ax, cx) _ hib ⟨⟨hacc, by simp only; omega⟩, St.wk (by first | assumption | exact St.tick (by assumption) | exact St.tick (St.tick (by assumption)))⟩
      · rw [if_neg hin] at hacc
        rw [decide_eq_false hin]
        (repeat (first | (first | (with_reducible (first | refine w1 fun _ _ => ?_ | refine w3 fun _ _ _ => ?_ | refine w4 fun _ _ _ => ?_ | refine w11 fun _ _ _ => ?_ | refine stb_n ?_)) | ((with_reducible refine w2 ?_); try simp -implicitDefEqProofs only [EN, lsub, lget, stL, beq_self_eq_true, ne_eq, if_true, if_false, List.cons_append, List.nil_append, Option.isNone_some, Option.isNone_none]; intro _ _) | ((with_reducible (first | refine w5 ?_ ?_ | refine w6 ?_ ?_ | refine w7 ?_ ?_)); simp; refine ⟨_, rfl, ?_⟩) | ((with_reducible (first | refine w8 ?_ ?_ ?_ | refine w9 ?_ ?_ ?_ | refine w10 ?_ ?_ ?_)); exact rfl; simp) | ((with_reducible refine w12 ?_ ?_ ?_ fun _ _ => ?_); simp; simp; simp [oneC]) | ((with_reducible (first | refine eqs ?_ | refine nes ?_)); refine ⟨_, rfl, ?_⟩) | ((refine okF_i (bldP_eq rfl) ?_); try simp only [BLS, List.take_succ_cons, List.take_zero, List.drop_succ_cons, List.drop_zero, List.cons_append, List.nil_append, Nat.reduceAdd])) | simp -implicitDefEqProofs only [EN, lsub, lget, stL, beq_self_eq_true, ne_eq, if_true, if_false, List.cons_append, List.nil_append, Option.isNone_some, Option.isNone_none]))
        refine ldV (A := DOT) line[i] (by first | assumption | exact St.tick (by assumption) | exact St.tick (St.tick (by assumption))) rfl (by decide) ?_
        refine lkp (K := KD) (z := cmd0) line[i] (by first | assumption | exact St.tick (by assumption) | exact St.tick (St.tick (by assumption))) ?_
        have hfl : fldV true 10 7 ((mget (kv ys) line[i]).getD cmd0) = some (.agg #[.int .i64 (s.waitOf line[i]).x0, .int .i64 (s.waitOf line[i]).x1, .int .i64 (s.waitOf line[i]).x2, .int .i64 (s.waitOf line[i]).x3, .int .i64 (s.waitOf line[i]).x4, .int .i64 (s.waitOf line[i]).x5, .int .i64 (s.waitOf line[i]).x6]) := by
          rw [hgk, hwo]
          cases ys.find? (fun y => decide (y.i.d = line[i])) <;> rfl
        generalize (mget (kv ys) line[i]).getD cmd0 = z at *
        rw [hfl]
        cases hlv : leV (s.waitOf line[i]) s.have_ with
        | true =>
          have hle := leV_eta hlv
          rw [if_pos hlv] at hacc
          (repeat (first | (first | (with_reducible (first | refine w1 fun _ _ => ?_ | refine w3 fun _ _ _ => ?_ | refine w4 fun _ _ _ => ?_ | refine w11 fun _ _ _ => ?_ | refine stb_n ?_)) | ((with_reducible refine w2 ?_); try simp -implicitDefEqProofs only [EN, lsub, lget, stL, beq_self_eq_true, ne_eq, if_true, if_false, List.cons_append, List.nil_append, Option.isNone_some, Option.isNone_none, hle]; intro _ _) | ((with_reducible (first | refine w5 ?_ ?_ | refine w6 ?_ ?_ | refine w7 ?_ ?_)); simp; refine ⟨_, rfl, ?_⟩) | ((with_reducible (first | refine w8 ?_ ?_ ?_ | refine w9 ?_ ?_ ?_ | refine w10 ?_ ?_ ?_)); exact rfl; simp) | ((with_reducible refine w12 ?_ ?_ ?_ fun _ _ => ?_); simp; simp; simp [oneC]) | ((with_reducible (first | refine eqs ?_ | refine nes ?_)); refine ⟨_, rfl, ?_⟩) | ((refine okF_i (bldP_eq rfl) ?_); try simp only [BLS, List.take_succ_cons, List.take_zero, List.drop_succ_cons, List.drop_zero, List.cons_append, List.nil_append, Nat.reduceAdd])) | simp -implicitDefEqProofs only [EN, lsub, lget, stL, beq_self_eq_true, ne_eq, if_true, if_false, List.cons_append, List.nil_append, Option.isNone_some, Option.isNone_none, hle]))
          refine ldV (A := DOT) line[i] (by first | assumption | exact St.tick (by assumption) | exact St.tick (St.tick (by assumption))) rfl (by decide) ?_
          refine bsA DOT [line[i]] (n := 1) (by first | assumption | exact St.tick (by assumption) | exact St.tick (St.tick (by assumption))) rfl rfl (by decide) (by decide) rfl fun a5 c5 W12 h => ?_
          refine appA (A := DOT) (a := ax) (l := acc) (m := [line[i]]) (by first | assumption | exact St.tick (by assumption) | exact St.tick (St.tick (by assumption))) rfl (by simp only [List.length_cons, List.length_nil]; omega) (by simp only [List.length_cons, List.length_nil, maxLen]; omega) fun a6 c6 W13 h => ?_
          unfold S.exec_Exec_Have.j4
          (repeat (first | (first | (with_reducible (first | refine w1 fun _ _ => ?_ | refine w3 fun _ _ _ => ?_ | refine w4 fun _ _ _ => ?_ | refine w11 fun _ _ _ => ?_ | refine stb_n ?_)) | ((with_reducible refine w2 ?_); try simp -implicitDefEqProofs only [EN, lsub, lget, stL, beq_self_eq_true, ne_eq, if_true, if_false, List.cons_append, List.nil_append, Option.isNone_some, Option.isNone_none, ew]; intro _ _) | ((with_reducible (first | refine w5 ?_ ?_ | refine w6 ?_ ?_ | refine w7 ?_ ?_)); simp; refine ⟨_, rfl, ?_⟩) | ((with_reducible (first | refine w8 ?_ ?_ ?_ | refine w9 ?_ ?_ ?_ | refine w10 ?_ ?_ ?_)); exact rfl; simp) | ((with_reducible refine w12 ?_ ?_ ?_ fun _ _ => ?_); simp; simp; simp [oneC]) | ((with_reducible (first | refine eqs ?_ | refine nes ?_)); refine ⟨_, rfl, ?_⟩) | ((refine okF_i (bldP_eq rfl) ?_); try simp only [BLS, List.take_succ_cons, List.take_zero, List.drop_succ_cons, List.drop_zero, List.cons_append, List.nil_append, Nat.reduceAdd])) | simp -implicitDefEqProofs only [EN, lsub, lget, stL, beq_self_eq_true, ne_eq, if_true, if_false, List.cons_append, List.nil_append, Option.isNone_some, Option.isNone_none, ew]))
          exact hK (acc ++ [line[i]], a6, c6) _ hib ⟨⟨by rw [hacc]; simp, by simp; omega⟩, St.wk h⟩
        | false =>
          have hle := leV_eta hlv
          rw [if_neg (by rw [hlv]; simp), List.append_nil] at hacc
          (repeat (first | (first | (with_reducible (first | refine w1 fun _ _ => ?_ | refine w3 fun _ _ _ => ?_ | refine w4 fun _ _ _ => ?_ | refine w11 fun _ _ _ => ?_ | refine stb_n ?_)) | ((with_reducible refine w2 ?_); try simp -implicitDefEqProofs only [EN, lsub, lget, stL, beq_self_eq_true, ne_eq, if_true, if_false, List.cons_append, List.nil_append, Option.isNone_some, Option.isNone_none, hle]; intro _ _) | ((with_reducible (first | refine w5 ?_ ?_ | refine w6 ?_ ?_ | refine w7 ?_ ?_)); simp; refine ⟨_, rfl, ?_⟩) | ((with_reducible (first | refine w8 ?_ ?_ ?_ | refine w9 ?_ ?_ ?_ | refine w10 ?_ ?_ ?_)); exact rfl; simp) | ((with_reducible refine w12 ?_ ?_ ?_ fun _ _ => ?_); simp; simp; simp [oneC]) | ((with_reducible (first | refine eqs ?_ | refine nes ?_)); refine ⟨_, rfl, ?_⟩) | ((refine okF_i (bldP_eq rfl) ?_); try simp only [BLS, List.take_succ_cons, List.take_zero, List.drop_succ_cons, List.drop_zero, List.cons_append, List.nil_append, Nat.reduceAdd])) | simp -implicitDefEqProofs only [EN, lsub, lget, stL, beq_self_eq_true, ne_eq, if_true, if_false, List.cons_append, List.nil_append, Option.isNone_some, Option.isNone_none, hle]))
          have h9 := St.wk (L' := arr DOT T_api_Dot ax cx acc :: cells p [.int .i64 s.have_.x0, .int .i64 s.have_.x1, .int .i64 s.have_.x2, .int .i64 s.have_.x3, .int .i64 s.have_.x4, .int .i64 s.have_.x5, .int .i64 s.have_.x6, .map (some r1), .slice la s.cs.length lc, .map (some r2), .slice da s.done.length dc] T_exec_Exec :: mp KD r1 (kv ys) :: mp KD r2 m :: arr INS T_order_Inst la lc s.ins :: arr DOT T_api_Dot da dc s.done :: many fch (ys.map (·.b)) :: L) (by first | assumption | exact St.tick (by assumption) | exact St.tick (St.tick (by assumption)))
          have h10 := exo_of (p := p) (L := arr DOT T_api_Dot ax cx acc :: L) (s := s) ⟨ys, r1, r2, m, la, lc, da, dc⟩ ⟨hy, hm⟩ (St.wk h9)
          have := hJ2 ax cx _ (by rw [hacc]; exact St.wk h10)
          rw [hacc] at this
          exact this
    · have hil : i = line.length := by omega
      subst hil
      rw [List.drop_length, show nowF s [] = [] from rfl, List.append_nil] at hacc
      (repeat (first | (first | (with_reducible (first | refine w1 fun _ _ => ?_ | refine w3 fun _ _ _ => ?_ | refine w4 fun _ _ _ => ?_ | refine w11 fun _ _ _ => ?_ | refine stb_n ?_)) | ((with_reducible refine w2 ?_); try simp -implicitDefEqProofs only [EN, lsub, lget, stL, beq_self_eq_true, ne_eq, if_true, if_false, List.cons_append, List.nil_append, Option.isNone_some, Option.isNone_none, hlt]; intro _ _) | ((with_reducible (first | refine w5 ?_ ?_ | refine w6 ?_ ?_ | refine w7 ?_ ?_)); simp; refine ⟨_, rfl, ?_⟩) | ((with_reducible (first | refine w8 ?_ ?_ ?_ | refine w9 ?_ ?_ ?_ | refine w10 ?_ ?_ ?_)); exact rfl; simp) | ((with_reducible refine w12 ?_ ?_ ?_ fun _ _ => ?_); simp; simp; simp [oneC]) | ((with_reducible (first | refine eqs ?_ | refine nes ?_)); refine ⟨_, rfl, ?_⟩) | ((refine okF_i (bldP_eq rfl) ?_); try simp only [BLS, List.take_succ_cons, List.take_zero, List.drop_succ_cons, List.drop_zero, List.cons_append, List.nil_append, Nat.reduceAdd])) | simp -implicitDefEqProofs only [EN, lsub, lget, stL, beq_self_eq_true, ne_eq, if_true, if_false, List.cons_append, List.nil_append, Option.isNone_some, Option.isNone_none, hlt]))
      have h10 := exo_of (p := p) (L := arr DOT T_api_Dot ax cx acc :: L) (s := s) ⟨ys, r1, r2, m, la, lc, da, dc⟩ ⟨hy, hm⟩ (St.wk h)
      have := hJ2 ax cx _ (by rw [hacc]; exact St.wk h10)
      rw [hacc] at this
      exact this
  refine joinK_i ?_
  obtain ⟨ys, r1, r2, m, la, lc, da, dc, hy, hm, h, fin⟩ := exo_ok (St.wk (L' := exo p s :: cells vb [.int .i64 v.x0, .int .i64 v.x1, .int .i64 v.x2, .int .i64 v.x3, .int .i64 v.x4, .int .i64 v.x5, .int .i64 v.x6] T_vec_Vec :: L) h)
  (repeat (first | (first | (with_reducible (first | refine w1 fun _ _ => ?_ | refine w3 fun _ _ _ => ?_ | refine w4 fun _ _ _ => ?_ | refine w11 fun _ _ _ => ?_ | refine stb_n ?_)) | ((with_reducible refine w2 ?_); try simp -implicitDefEqProofs only [EN, lsub, lget, stL, beq_self_eq_true, ne_eq, if_true, if_false, List.cons_append, List.nil_append, Option.isNone_some, Option.isNone_none]; intro _ _) | ((with_reducible (first | refine w5 ?_ ?_ | refine w6 ?_ ?_ | refine w7 ?_ ?_)); simp; refine ⟨_, rfl, ?_⟩) | ((with_reducible (first | refine w8 ?_ ?_ ?_ | refine w9 ?_ ?_ ?_ | refine w10 ?_ ?_ ?_)); exact rfl; simp) | ((with_reducible refine w12 ?_ ?_ ?_ fun _ _ => ?_); simp; simp; simp [oneC]) | ((with_reducible (first | refine eqs ?_ | refine nes ?_)); refine ⟨_, rfl, ?_⟩) | ((refine okF_i (bldP_eq rfl) ?_); try simp only [BLS, List.take_succ_cons, List.take_zero, List.drop_succ_cons, List.drop_zero, List.cons_append, List.nil_append, Nat.reduceAdd])) | simp -implicitDefEqProofs only [EN, lsub, lget, stL, beq_self_eq_true, ne_eq, if_true, if_false, List.cons_append, List.nil_append, Option.isNone_some, Option.isNone_none]))
  cases hg : goodV v with
  | false =>
    have hg2 := goodV_eta hg
    have hms : s.merge v = s := by unfold XS.merge; rw [if_neg (by rw [hg]; simp)]
    (repeat (first | (first | (with_reducible (first | refine w1 fun _ _ => ?_ | refine w3 fun _ _ _ => ?_ | refine w4 fun _ _ _ => ?_ | refine w11 fun _ _ _ => ?_ | refine stb_n ?_)) | ((with_reducible refine w2 ?_); try simp -implicitDefEqProofs only [EN, lsub, lget, stL, beq_self_eq_true, ne_eq, if_true, if_false, List.cons_append, List.nil_append, Option.isNone_some, Option.isNone_none, hg2]; intro _ _) | ((with_reducible (first | refine w5 ?_ ?_ | refine w6 ?_ ?_ | refine w7 ?_ ?_)); simp; refine ⟨_, rfl, ?_⟩) | ((with_reducible (first | refine w8 ?_ ?_ ?_ | refine w9 ?_ ?_ ?_ | refine w10 ?_ ?_ ?_)); exact rfl; simp) | ((with_reducible refine w12 ?_ ?_ ?_ fun _ _ => ?_); simp; simp; simp [oneC]) | ((with_reducible (first | refine eqs ?_ | refine nes ?_)); refine ⟨_, rfl, ?_⟩) | ((refine okF_i (bldP_eq rfl) ?_); try simp only [BLS, List.take_succ_cons, List.take_zero, List.drop_succ_cons, List.drop_zero, List.cons_append, List.nil_append, Nat.reduceAdd])) | simp -implicitDefEqProofs only [EN, lsub, lget, stL, beq_self_eq_true, ne_eq, if_true, if_false, List.cons_append, List.nil_append, Option.isNone_some, Option.isNone_none, hg2]))
    exact key _ (by rw [hms]; exact St.wk (fin s _ rfl rfl (by first | assumption | exact St.tick (by assumption) | exact St.tick (St.tick (by assumption)))))
  | true =>
    have hg2 := goodV_eta hg
    have hms : s.merge v = ⟨vmerge s.have_ v, s.cs, s.done⟩ := by unfold XS.merge; rw [if_pos hg]
    (repeat (first | (first | (with_reducible (first | refine w1 fun _ _ => ?_ | refine w3 fun _ _ _ => ?_ | refine w4 fun _ _ _ => ?_ | refine w11 fun _ _ _ => ?_ | refine stb_n ?_)) | ((with_reducible refine w2 ?_); try simp -implicitDefEqProofs only [EN, lsub, lget, stL, beq_self_eq_true, ne_eq, if_true, if_false, List.cons_append, List.nil_append, Option.isNone_some, Option.isNone_none, hg2]; intro _ _) | ((with_reducible (first | refine w5 ?_ ?_ | refine w6 ?_ ?_ | refine w7 ?_ ?_)); simp; refine ⟨_, rfl, ?_⟩) | ((with_reducible (first | refine w8 ?_ ?_ ?_ | refine w9 ?_ ?_ ?_ | refine w10 ?_ ?_ ?_)); exact rfl; simp) | ((with_reducible refine w12 ?_ ?_ ?_ fun _ _ => ?_); simp; simp; simp [oneC]) | ((with_reducible (first | refine eqs ?_ | refine nes ?_)); refine ⟨_, rfl, ?_⟩) | ((refine okF_i (bldP_eq rfl) ?_); try simp only [BLS, List.take_succ_cons, List.take_zero, List.drop_succ_cons, List.drop_zero, List.cons_append, List.nil_append, Nat.reduceAdd])) | simp -implicitDefEqProofs only [EN, lsub, lget, stL, beq_self_eq_true, ne_eq, if_true, if_false, List.cons_append, List.nil_append, Option.isNone_some, Option.isNone_none, hg2]))
    refine vecMerge (a := s.have_) (b := v) (by first | assumption | exact St.tick (by assumption) | exact St.tick (St.tick (by assumption))) fun W5 h => ?_
    (repeat (first | (first | (with_reducible (first | refine w1 fun _ _ => ?_ | refine w3 fun _ _ _ => ?_ | refine w4 fun _ _ _ => ?_ | refine w11 fun _ _ _ => ?_ | refine stb_n ?_)) | ((with_reducible refine w2 ?_); try simp -implicitDefEqProofs only [EN, lsub, lget, stL, beq_self_eq_true, ne_eq, if_true, if_false, List.cons_append, List.nil_append, Option.isNone_some, Option.isNone_none]; intro _ _) | ((with_reducible (first | refine w5 ?_ ?_ | refine w6 ?_ ?_ | refine w7 ?_ ?_)); simp; refine ⟨_, rfl, ?_⟩) | ((with_reducible (first | refine w8 ?_ ?_ ?_ | refine w9 ?_ ?_ ?_ | refine w10 ?_ ?_ ?_)); exact rfl; simp) | ((with_reducible refine w12 ?_ ?_ ?_ fun _ _ => ?_); simp; simp; simp [oneC]) | ((with_reducible (first | refine eqs ?_ | refine nes ?_)); refine ⟨_, rfl, ?_⟩) | ((refine okF_i (bldP_eq rfl) ?_); try simp only [BLS, List.take_succ_cons, List.take_zero, List.drop_succ_cons, List.drop_zero, List.cons_append, List.nil_append, Nat.reduceAdd])) | simp -implicitDefEqProofs only [EN, lsub, lget, stL, beq_self_eq_true, ne_eq, if_true, if_false, List.cons_append, List.nil_append, Option.isNone_some, Option.isNone_none]))
    rename_i W6 h
    (try simp only [BLS, List.take_succ_cons, List.take_zero, List.drop_succ_cons, List.drop_zero, List.cons_append, List.nil_append, List.append_nil, List.take_nil, List.drop_nil, stL, Nat.reduceAdd] at h)
    refine key _ ?_
    rw [hms]
    have h10 := fin ⟨vmerge s.have_ v, s.cs, s.done⟩ W6 rfl rfl (St.wk h)
    exact St.wk h10
end
end Go.Proofs.Ytkjhccpanedccaa
namespace Go.Proofs.Ytkjhccpanedccaa
set_option linter.unusedVariables false
set_option linter.unusedSimpArgs false
open Go Go.Eng Go.Tar Go.Sort
/-- a slice of dots, as it lies -/
structure DSl where
  a : Option Addr
  c : Nat
  l : List Dot
abbrev DSl.v (x : DSl) : Value := .slice x.a x.l.length x.c
instance : Inhabited DSl := ⟨⟨none, 0, []⟩⟩
def DSY : Ly DSl := ⟨1, by omega, fun x => [x.v], fun _ => rfl, fun _ => rfl⟩
@[reducible] def dch (x : DSl) : Asn := arr DOT T_api_Dot x.a x.c x.l
/-- a slice of slices of dots that is owned with all its rows -/
def LD (a : Option Addr) (c : Nat) (vs : List (List Dot)) : Asn := fun h => ∃ rows : List DSl, rows.map (·.l) = vs ∧ sep [arr DSY T_s_api_Dot a c rows, many dch rows] h
def dotLt (x y : Dot) : Prop := x.rep < y.rep ∨ (x.rep = y.rep ∧ x.n < y.n)
instance (x y : Dot) : Decidable (dotLt x y) := by unfold dotLt; infer_instance
def hdD (l : List Dot) : Dot := l.headD ⟨0, 0⟩
def cmpD (x y : Dot) : Int := orI [cmpI x.rep y.rep, cmpI x.n y.n]
def sortD (gs : List (List Dot)) : List (List Dot) := isort (fun x y => !decide (dotLt (hdD y) (hdD x))) gs
theorem cmpD_lt (x y : Dot) : cmpD x y < 0 ↔ dotLt x y := by
  unfold cmpD dotLt
  simp only [orI]
  by_cases h4 : x.rep < y.rep
  · simp [cmpI, h4]
  · by_cases h5 : y.rep < x.rep
    · simp [cmpI, h4, h5]; omega
    · have h6 : x.rep = y.rep := by omega
      by_cases h7 : x.n < y.n
      · simp [cmpI, h6, h7]
      · by_cases h8 : y.n < x.n
        · simp [cmpI, h6, h7, h8]
        · simp [cmpI, h6, h7, h8]
theorem dotLt_same {x y : Dot} (h1 : ¬ dotLt x y) (h2 : ¬ dotLt y x) : x = y := by
  unfold dotLt at *
  obtain ⟨r, n⟩ := x
  obtain ⟨r', n'⟩ := y
  simp only [Dot.mk.injEq] at *
  omega
section
variable {W0 W : World} {L L' : List Asn} {a : Option Addr} {c n i g o : Nat} {vs gs m : List (List Dot)} {l : List Ins}
theorem ld_at (h : St W0 (LD a c vs :: L) W) : ∃ rows : List DSl, rows.map (·.l) = vs ∧ St W0 (arr DSY T_s_api_Dot a c rows :: many dch rows :: L) W := by
  obtain ⟨rows, h⟩ := h.ex
  obtain ⟨h1, h⟩ := h.fact
  exact ⟨rows, h1, h.flat⟩
theorem ld_ent {rows : List DSl} (h : rows.map (·.l) = vs) : ent (arr DSY T_s_api_Dot a c rows :: many dch rows :: L) (LD a c vs :: L) :=
  (ent.pack [_, _] L).trans (ent.weak fun _ hp => ⟨rows, h, hp⟩)
theorem ld_none : ent L (LD none 0 [] :: L) := ((many_nil (F := dch)).trans (arr_nil DSY T_s_api_Dot)).trans (ld_ent (rows := []) rfl)
theorem ld_snoc {rows : List DSl} {y : DSl} (hr : rows.map (·.l) = vs) (h : St W0 (arr DSY T_s_api_Dot a c (rows ++ [y]) :: dch y :: many dch rows :: L) W) : St W0 (LD a c (vs ++ [y.l]) :: L) W :=
  (h.ent ((ent.cons _ (many_uncons (F := dch) y rows)).trans (ent.cons _ (many_perm (F := dch) (List.perm_append_comm (l₁ := [y]) (l₂ := rows)))))).ent (ld_ent (by rw [List.map_append, hr]; rfl))
theorem dch_rd {rows : List DSl} {x : DSl} (hx : x ∈ rows) : Rd W0 (many dch rows :: L) x.a DOT x.l := ⟨fun W h => by
  obtain ⟨A, C, rfl⟩ := List.append_of_mem hx
  have h1 := h.ent ((many_perm (F := dch) (List.perm_middle (a := x) (l₁ := A) (l₂ := C))).trans (many_cons _ _))
  have hr : Rd W0 (arr DOT T_api_Dot x.a x.c x.l :: many dch (A ++ C) :: L) x.a DOT x.l := inferInstance
  exact hr.ok W h1⟩
theorem ixd {n : Nat} {v : Int} (hv : Vx n v) (g o c : Nat) : idxS 2 (.slice (some ⟨g, o, none⟩) n c) (.int .i64 v) = some (.pointer (some ⟨g, o + v.toNat * 2, none⟩)) := idxS_blk hv.1 hv.2
set_option maxRecDepth 100000 in
set_option maxHeartbeats 4000000 in
theorem ordGroups1 {x y : DSl} {rows : List DSl} (hx : x ∈ rows) (hy : y ∈ rows) (hx0 : x.l ≠ []) (hy0 : y.l ≠ []) (h : St W0 (many dch rows :: L) W) :
    callK PR F_order_Groups_1 [x.v, y.v] (fun v W' => v = .int .i64 (cmpD (hdD x.l) (hdD y.l)) ∧ St W [] W') W := by
  haveI hrx : Rd W [] x.a DOT x.l := Rd.base ((dch_rd (W0 := W0) (L := L) hx).ok W h)
  haveI hry : Rd W [] y.a DOT y.l := Rd.base ((dch_rd (W0 := W0) (L := L) hy).ok W h)
  have h1 : 0 < x.l.length := List.length_pos_iff.2 hx0
  have h2 : 0 < y.l.length := List.length_pos_iff.2 hy0
  have h := St.start W
  obtain ⟨xa, xc, xl⟩ := x
  obtain ⟨ya, yc, yl⟩ := y
  simp only at hrx hry h1 h2
  obtain ⟨g1, o1, e1⟩ := posAddr (i := 0) (a := xa) (A := DOT) (l := xl) h h1
  obtain ⟨g2, o2, e2⟩ := posAddr (i := 0) (a := ya) (A := DOT) (l := yl) h h2
  subst e1 e2
  have v1 : Vx xl.length 0 := ⟨by omega, by omega⟩
  have v2 : Vx yl.length 0 := ⟨by omega, by omega⟩
  have ex : xl[0] = hdD xl := by cases xl with
    | nil => simp at h1
    | cons b xl => rfl
  have ey : yl[0] = hdD yl := by cases yl with
    | nil => simp at h2
    | cons b yl => rfl
  apply S.order_Groups_1.call
  unfold S.order_Groups_1.body
  (repeat (first | (first | (with_reducible (first | refine w1 fun _ _ => ?_ | refine w3 fun _ _ _ => ?_ | refine w4 fun _ _ _ => ?_ | refine w11 fun _ _ _ => ?_ | refine stb_n ?_)) | ((with_reducible refine w2 ?_); try simp -implicitDefEqProofs only [EN, lsub, lget, stL, beq_self_eq_true, ne_eq, if_true, if_false, List.cons_append, List.nil_append, Option.isNone_some, Option.isNone_none, ixd v1]; intro _ _) | ((with_reducible (first | refine w5 ?_ ?_ | refine w6 ?_ ?_ | refine w7 ?_ ?_)); simp; refine ⟨_, rfl, ?_⟩) | ((with_reducible (first | refine w8 ?_ ?_ ?_ | refine w9 ?_ ?_ ?_ | refine w10 ?_ ?_ ?_)); exact rfl; simp) | ((with_reducible refine w12 ?_ ?_ ?_ fun _ _ => ?_); simp; simp; simp [oneC]) | ((with_reducible (first | refine eqs ?_ | refine nes ?_)); refine ⟨_, rfl, ?_⟩) | ((refine okF_i (bldP_eq rfl) ?_); try simp only [BLS, List.take_succ_cons, List.take_zero, List.drop_succ_cons, List.drop_zero, List.cons_append, List.nil_append, Nat.reduceAdd])) | simp -implicitDefEqProofs only [EN, lsub, lget, stL, beq_self_eq_true, ne_eq, if_true, if_false, List.cons_append, List.nil_append, Option.isNone_some, Option.isNone_none, ixd v1]))
  refine ldA0 (i := (0 : Int).toNat) (l := xl) (A := DOT) (by first | assumption | exact St.tick (by assumption) | exact St.tick (St.tick (by assumption))) rfl h1 (v := .int .i64 (hdD xl).rep) (by show getL _ (DOT.row xl[0]) _ _ = _; rw [ex]; rfl) (by simp) ?_
  (repeat (first | (first | (with_reducible (first | refine w1 fun _ _ => ?_ | refine w3 fun _ _ _ => ?_ | refine w4 fun _ _ _ => ?_ | refine w11 fun _ _ _ => ?_ | refine stb_n ?_)) | ((with_reducible refine w2 ?_); try simp -implicitDefEqProofs only [EN, lsub, lget, stL, beq_self_eq_true, ne_eq, if_true, if_false, List.cons_append, List.nil_append, Option.isNone_some, Option.isNone_none, ixd v2]; intro _ _) | ((with_reducible (first | refine w5 ?_ ?_ | refine w6 ?_ ?_ | refine w7 ?_ ?_)); simp; refine ⟨_, rfl, ?_⟩) | ((with_reducible (first | refine w8 ?_ ?_ ?_ | refine w9 ?_ ?_ ?_ | refine w10 ?_ ?_ ?_)); exact rfl; simp) | ((with_reducible refine w12 ?_ ?_ ?_ fun _ _ => ?_); simp; simp; simp [oneC]) | ((with_reducible (first | refine eqs ?_ | refine nes ?_)); refine ⟨_, rfl, ?_⟩) | ((refine okF_i (bldP_eq rfl) ?_); try simp only [BLS, List.take_succ_cons, List.take_zero, List.drop_succ_cons, List.drop_zero, List.cons_append, List.nil_append, Nat.reduceAdd])) | simp -implicitDefEqProofs only [EN, lsub, lget, stL, beq_self_eq_true, ne_eq, if_true, if_false, List.cons_append, List.nil_append, Option.isNone_some, Option.isNone_none, ixd v2]))
  refine ldA0 (i := (0 : Int).toNat) (l := yl) (A := DOT) (by first | assumption | exact St.tick (by assumption) | exact St.tick (St.tick (by assumption))) rfl h2 (v := .int .i64 (hdD yl).rep) (by show getL _ (DOT.row yl[0]) _ _ = _; rw [ey]; rfl) (by simp) ?_
  refine ldA (i := (0 : Int).toNat) (j := 1) (l := xl) (A := DOT) (by first | assumption | exact St.tick (by assumption) | exact St.tick (St.tick (by assumption))) rfl h1 (v := .int .i64 (hdD xl).n) (by show getL _ (DOT.row xl[0]) _ _ = _; rw [ex]; rfl) (by simp) ?_
  (repeat (first | (first | (with_reducible (first | refine w1 fun _ _ => ?_ | refine w3 fun _ _ _ => ?_ | refine w4 fun _ _ _ => ?_ | refine w11 fun _ _ _ => ?_ | refine stb_n ?_)) | ((with_reducible refine w2 ?_); try simp -implicitDefEqProofs only [EN, lsub, lget, stL, beq_self_eq_true, ne_eq, if_true, if_false, List.cons_append, List.nil_append, Option.isNone_some, Option.isNone_none, ixd v2]; intro _ _) | ((with_reducible (first | refine w5 ?_ ?_ | refine w6 ?_ ?_ | refine w7 ?_ ?_)); simp; refine ⟨_, rfl, ?_⟩) | ((with_reducible (first | refine w8 ?_ ?_ ?_ | refine w9 ?_ ?_ ?_ | refine w10 ?_ ?_ ?_)); exact rfl; simp) | ((with_reducible refine w12 ?_ ?_ ?_ fun _ _ => ?_); simp; simp; simp [oneC]) | ((with_reducible (first | refine eqs ?_ | refine nes ?_)); refine ⟨_, rfl, ?_⟩) | ((refine okF_i (bldP_eq rfl) ?_); try simp only [BLS, List.take_succ_cons, List.take_zero, List.drop_succ_cons, List.drop_zero, List.cons_append, List.nil_append, Nat.reduceAdd])) | simp -implicitDefEqProofs only [EN, lsub, lget, stL, beq_self_eq_true, ne_eq, if_true, if_false, List.cons_append, List.nil_append, Option.isNone_some, Option.isNone_none, ixd v2]))
  refine ldA (i := (0 : Int).toNat) (j := 1) (l := yl) (A := DOT) (by first | assumption | exact St.tick (by assumption) | exact St.tick (St.tick (by assumption))) rfl h2 (v := .int .i64 (hdD yl).n) (by show getL _ (DOT.row yl[0]) _ _ = _; rw [ey]; rfl) (by simp) ?_
  (repeat (first | (first | (with_reducible (first | refine w1 fun _ _ => ?_ | refine w3 fun _ _ _ => ?_ | refine w4 fun _ _ _ => ?_ | refine w11 fun _ _ _ => ?_ | refine stb_n ?_)) | ((with_reducible refine w2 ?_); try simp -implicitDefEqProofs only [EN, lsub, lget, stL, beq_self_eq_true, ne_eq, if_true, if_false, List.cons_append, List.nil_append, Option.isNone_some, Option.isNone_none]; intro _ _) | ((with_reducible (first | refine w5 ?_ ?_ | refine w6 ?_ ?_ | refine w7 ?_ ?_)); simp; refine ⟨_, rfl, ?_⟩) | ((with_reducible (first | refine w8 ?_ ?_ ?_ | refine w9 ?_ ?_ ?_ | refine w10 ?_ ?_ ?_)); exact rfl; simp) | ((with_reducible refine w12 ?_ ?_ ?_ fun _ _ => ?_); simp; simp; simp [oneC]) | ((with_reducible (first | refine eqs ?_ | refine nes ?_)); refine ⟨_, rfl, ?_⟩) | ((refine okF_i (bldP_eq rfl) ?_); try simp only [BLS, List.take_succ_cons, List.take_zero, List.drop_succ_cons, List.drop_zero, List.cons_append, List.nil_append, Nat.reduceAdd])) | simp -implicitDefEqProofs only [EN, lsub, lget, stL, beq_self_eq_true, ne_eq, if_true, if_false, List.cons_append, List.nil_append, Option.isNone_some, Option.isNone_none]))
  refine stb_ldA (i := (0 : Int).toNat) (j := 1) (l := yl) (A := DOT) (by first | assumption | exact St.tick (by assumption) | exact St.tick (St.tick (by assumption))) rfl h2 (by show getL _ (DOT.row yl[0]) _ _ = _; rw [ey]; rfl) (by simp) ?_
  refine stb_ldA (i := (0 : Int).toNat) (j := 1) (l := xl) (A := DOT) (by first | assumption | exact St.tick (by assumption) | exact St.tick (St.tick (by assumption))) rfl h1 (by show getL _ (DOT.row xl[0]) _ _ = _; rw [ex]; rfl) (by simp) ?_
  (repeat (first | (first | (with_reducible (first | refine w1 fun _ _ => ?_ | refine w3 fun _ _ _ => ?_ | refine w4 fun _ _ _ => ?_ | refine w11 fun _ _ _ => ?_ | refine stb_n ?_)) | ((with_reducible refine w2 ?_); try simp -implicitDefEqProofs only [EN, lsub, lget, stL, beq_self_eq_true, ne_eq, if_true, if_false, List.cons_append, List.nil_append, Option.isNone_some, Option.isNone_none]; intro _ _) | ((with_reducible (first | refine w5 ?_ ?_ | refine w6 ?_ ?_ | refine w7 ?_ ?_)); simp; refine ⟨_, rfl, ?_⟩) | ((with_reducible (first | refine w8 ?_ ?_ ?_ | refine w9 ?_ ?_ ?_ | refine w10 ?_ ?_ ?_)); exact rfl; simp) | ((with_reducible refine w12 ?_ ?_ ?_ fun _ _ => ?_); simp; simp; simp [oneC]) | ((with_reducible (first | refine eqs ?_ | refine nes ?_)); refine ⟨_, rfl, ?_⟩) | ((refine okF_i (bldP_eq rfl) ?_); try simp only [BLS, List.take_succ_cons, List.take_zero, List.drop_succ_cons, List.drop_zero, List.cons_append, List.nil_append, Nat.reduceAdd])) | simp -implicitDefEqProofs only [EN, lsub, lget, stL, beq_self_eq_true, ne_eq, if_true, if_false, List.cons_append, List.nil_append, Option.isNone_some, Option.isNone_none]))
  refine or2 (by first | assumption | exact St.tick (by assumption) | exact St.tick (St.tick (by assumption))) fun W4 h => ?_
  (first | exact St.nil (by first | assumption | exact St.tick (by assumption) | exact St.tick (St.tick (by assumption))) | exact ⟨rfl, St.nil (by first | assumption | exact St.tick (by assumption) | exact St.tick (St.tick (by assumption)))⟩)
theorem swoD {α : Type} (f : α → Dot) : SWO (Proofs.ltOf fun x y => cmpD (f x) (f y)) where
  irrefl x := by unfold Proofs.ltOf; rw [decide_eq_false_iff_not, cmpD_lt, dotLt]; omega
  trans x y z h1 h2 := by unfold Proofs.ltOf at *; rw [decide_eq_true_eq, cmpD_lt, dotLt] at *; omega
  ntrans x y z h1 h2 := by unfold Proofs.ltOf at *; rw [decide_eq_false_iff_not, cmpD_lt, dotLt] at *; omega
theorem sortD_perm (gs : List (List Dot)) : (sortD gs).Perm gs := isort_perm gs
theorem sortD_sorted (gs : List (List Dot)) : (sortD gs).Pairwise fun x y => ¬ dotLt (hdD y) (hdD x) :=
  (isort_sorted (fun a b c h1 h2 => by
    simp only [Bool.not_eq_true', decide_eq_false_iff_not] at *; unfold dotLt at *; omega) (fun a b => by
    simp only [Bool.or_eq_true, Bool.not_eq_true', decide_eq_false_iff_not]; unfold dotLt; omega) gs).imp fun {a b} h => by simpa using h
theorem sortD_one (hn : (gs.map hdD).Nodup) (h1 : m.Perm gs) (s1 : m.Pairwise fun x y => ¬ dotLt (hdD y) (hdD x)) : m = sortD gs :=
  List.Perm.eq_of_pairwise (le := fun x y => ¬ dotLt (hdD y) (hdD x)) (fun a b ha hb g1 g2 => map_inj hn (h1.mem_iff.1 ha) ((sortD_perm gs).mem_iff.1 hb) (dotLt_same g2 g1)) s1 (sortD_sorted gs) (h1.trans (sortD_perm gs).symm)
theorem ordSortD {k : Value → World → Prop} (h : St W0 (LD a c gs :: L) W) (hne : ∀ g ∈ gs, g ≠ []) (hn : (gs.map hdD).Nodup) (hl : gs.length < 1000000)
    (hk : ∀ W', St W0 (LD a c (sortD gs) :: L) W' → k (.tuple #[]) W') : callK PR F_slices_SortFunc_api_Dot_api_Dot [.slice a gs.length c, .func (.func F_order_Groups_1) #[] #[]] k W := by
  obtain ⟨rows, hrows, h⟩ := ld_at h
  have hrl : rows.length = gs.length := by rw [← hrows, List.length_map]
  have hnr : (rows.map fun r => hdD r.l).Nodup := by rw [← hrows, List.map_map] at hn; exact hn
  have hne' : ∀ r ∈ rows, r.l ≠ [] := fun r hr => hne r.l (by rw [← hrows]; exact List.mem_map_of_mem hr)
  rw [← hrl]
  refine sortIx1 (P := PR) (ρ := laySortGrd_ren) laySortGrd (A := DSY) (enc := DSl.v) (fun _ => rfl) (fun x y => cmpD (hdD x.l) (hdD y.l)) (l := rows) (swoD fun i : Fin rows.length => hdD (atF rows i).l) (fun i j h1 h2 => ?_) F_order_Groups_1 []
    (fun args w => callFunc_ok (CBok _ (by kernel_rfl)) w) h (fun x hx y hy W' h' => ordGroups1 hx hy (hne' x hx) (hne' y hy) h') (by omega) fun m W' hp hs h' => ?_
  · unfold Proofs.ltOf at h1 h2
    rw [decide_eq_false_iff_not, cmpD_lt] at h1 h2
    have h3 := List.getElem_inj (h₀ := by simp) (h₁ := by simp) (i := i.val) (j := j.val) hnr
    refine Fin.ext (h3.1 ?_)
    simp only [List.getElem_map]
    exact dotLt_same h1 h2
  · refine hk W' ?_
    have hm : m.map (·.l) = sortD gs := sortD_one hn (by rw [← hrows]; exact hp.map _) (List.pairwise_map.2 (hs.imp fun {x y} h => by rw [cmpD_lt] at h; exact h))
    exact (h'.ent (ent.cons _ (many_perm (F := dch) hp.symm))).ent (ld_ent hm)
/-- the groups of good instances -/
def groupsO (l : List Ins) : List (List Dot) := sortD ((groupsF (onL (sortO l))).map (dotsO (sortO l)))
def groupsTop (l : List Ins) : List (List Dot) := if goodO l = true then groupsO l else []
theorem dots_inj {sl : List Ins} (hn : (sl.map (·.d)).Nodup) {v w : Int} (hv : Vx sl.length v) (hw : Vx sl.length w) (e : (sl.getD v.toNat default).d = (sl.getD w.toNat default).d) : v = w := by
  have hvn : v.toNat < sl.length := by unfold Vx at hv; omega
  have hwn : w.toNat < sl.length := by unfold Vx at hw; omega
  rw [← getD_at hvn, ← getD_at hwn] at e
  have h3 := List.getElem_inj (h₀ := by simpa using hvn) (h₁ := by simpa using hwn) (i := v.toNat) (j := w.toNat) hn
  have := h3.1 (by simpa using e)
  unfold Vx at hv hw; omega
theorem dotsHd {sl : List Ins} {g : List Int} (h : g ≠ []) : hdD (dotsO sl g) = (sl.getD (hdZ g).toNat default).d := by
  cases g with
  | nil => exact absurd rfl h
  | cons x g => rfl
theorem groups_ok {sl : List Ins} (hn : (sl.map (·.d)).Nodup) : (∀ g ∈ (groupsF (onL sl)).map (dotsO sl), g ≠ []) ∧ (((groupsF (onL sl)).map (dotsO sl)).map hdD).Nodup := by
  have hG := groups_grp (onL_ok sl)
  constructor
  · intro g hg
    obtain ⟨x, hx, rfl⟩ := List.mem_map.1 hg
    have := (hG.gok x hx).1
    cases x with
    | nil => exact absurd rfl this
    | cons a x => simp [dotsO]
  · have h1 := hd_nodup _ (fun g hg => (hG.gok g hg).1) hG.nd
    rw [List.nodup_iff_pairwise_ne, List.map_map, List.pairwise_map]
    rw [List.nodup_iff_pairwise_ne, List.pairwise_map] at h1
    refine List.Pairwise.imp_of_mem (fun {x y} hx hy hxy e => ?_) h1
    have hx0 := (hG.gok x hx).1
    have hy0 := (hG.gok y hy).1
    simp only [Function.comp_def] at e
    rw [dotsHd hx0, dotsHd hy0] at e
    exact hxy (dots_inj hn ((hG.all _).1 (List.mem_flatten.2 ⟨x, hx, hdZ_mem hx0⟩)) ((hG.all _).1 (List.mem_flatten.2 ⟨y, hy, hdZ_mem hy0⟩)) e)
set_option maxRecDepth 100000 in
set_option maxHeartbeats 4000000 in
theorem ordGroupsTop (h00 : W0.drawn = 0) (h : St W0 L W) [hr : Rd W0 L a INS l] (hl : l.length < 1000000) {k : Value → World → Prop}
    (hk : ∀ a' c' W', St W0 (LD a' c' (groupsTop l) :: L) W' → k (.slice a' (groupsTop l).length c') W') : callK PR F_order_Groups [.slice a l.length c] k W := by
  apply S.order_Groups.call
  unfold S.order_Groups.body
  refine ordGood (a := a) (l := l) h (by omega) fun W2 h => ?_
  unfold groupsTop at hk
  cases hg : goodO l with
  | false =>
    rw [if_neg (by rw [hg]; simp)] at hk
    (repeat (first | (first | (with_reducible (first | refine w1 fun _ _ => ?_ | refine w3 fun _ _ _ => ?_ | refine w4 fun _ _ _ => ?_ | refine w11 fun _ _ _ => ?_ | refine stb_n ?_)) | ((with_reducible refine w2 ?_); try simp -implicitDefEqProofs only [EN, lsub, lget, stL, beq_self_eq_true, ne_eq, if_true, if_false, List.cons_append, List.nil_append, Option.isNone_some, Option.isNone_none]; intro _ _) | ((with_reducible (first | refine w5 ?_ ?_ | refine w6 ?_ ?_ | refine w7 ?_ ?_)); simp; refine ⟨_, rfl, ?_⟩) | ((with_reducible (first | refine w8 ?_ ?_ ?_ | refine w9 ?_ ?_ ?_ | refine w10 ?_ ?_ ?_)); exact rfl; simp) | ((with_reducible refine w12 ?_ ?_ ?_ fun _ _ => ?_); simp; simp; simp [oneC]) | ((with_reducible (first | refine eqs ?_ | refine nes ?_)); refine ⟨_, rfl, ?_⟩) | ((refine okF_i (bldP_eq rfl) ?_); try simp only [BLS, List.take_succ_cons, List.take_zero, List.drop_succ_cons, List.drop_zero, List.cons_append, List.nil_append, Nat.reduceAdd])) | simp -implicitDefEqProofs only [EN, lsub, lget, stL, beq_self_eq_true, ne_eq, if_true, if_false, List.cons_append, List.nil_append, Option.isNone_some, Option.isNone_none]))
    exact hk none 0 _ (h.ent ld_none)
  | true =>
  rw [if_pos hg] at hk
  obtain ⟨hg1, hg2, hg3⟩ := goodO_iff.1 hg
  unfold groupsO at hk
  (repeat (first | (first | (with_reducible (first | refine w1 fun _ _ => ?_ | refine w3 fun _ _ _ => ?_ | refine w4 fun _ _ _ => ?_ | refine w11 fun _ _ _ => ?_ | refine stb_n ?_)) | ((with_reducible refine w2 ?_); try simp -implicitDefEqProofs only [EN, lsub, lget, stL, beq_self_eq_true, ne_eq, if_true, if_false, List.cons_append, List.nil_append, Option.isNone_some, Option.isNone_none]; intro _ _) | ((with_reducible (first | refine w5 ?_ ?_ | refine w6 ?_ ?_ | refine w7 ?_ ?_)); simp; refine ⟨_, rfl, ?_⟩) | ((with_reducible (first | refine w8 ?_ ?_ ?_ | refine w9 ?_ ?_ ?_ | refine w10 ?_ ?_ ?_)); exact rfl; simp) | ((with_reducible refine w12 ?_ ?_ ?_ fun _ _ => ?_); simp; simp; simp [oneC]) | ((with_reducible (first | refine eqs ?_ | refine nes ?_)); refine ⟨_, rfl, ?_⟩) | ((refine okF_i (bldP_eq rfl) ?_); try simp only [BLS, List.take_succ_cons, List.take_zero, List.drop_succ_cons, List.drop_zero, List.cons_append, List.nil_append, Nat.reduceAdd])) | simp -implicitDefEqProofs only [EN, lsub, lget, stL, beq_self_eq_true, ne_eq, if_true, if_false, List.cons_append, List.nil_append, Option.isNone_some, Option.isNone_none]))
  refine ordWeave (a := a) (l := l) (by first | assumption | exact St.tick (by assumption) | exact St.tick (St.tick (by assumption))) hl hg2 fun p W3 h => ?_
  have hsl := sortO_len l
  have hsn := sortO_nodup hg2
  have hsd : ∀ x ∈ sortO l, depsO x = true := fun x hx => (hg1 x ((sortO_perm l).mem_iff.1 hx)).2
  generalize sortO l = sl at *
  have hO := onL_ok sl
  have hrl2 := onL_rl hsd
  refine joinK_i ?_
  refine ordOn (sl := sl) h (by omega) hsd fun a5 c5 W11 h => ?_
  refine ordGroups h00 (by rw [hO.len]; exact hO) (by rw [hO.len]; omega) (fun v => by have := hrl2 v; omega) h fun a6 c6 W12 h => ?_
  have hgo := groups_ok hsn
  have hG := groups_grp hO
  have hgl : (groupsF (onL sl)).length ≤ sl.length := Nat.le_trans (flat_len _ fun g hg => (hG.gok g hg).1) (nodup_len hG.nd fun x hx => (hG.all x).1 hx)
  have hgv : ∀ g ∈ groupsF (onL sl), (∀ v ∈ g, Vx sl.length v) ∧ g.length ≤ sl.length := fun g hg => by
    have h1 : ∀ v ∈ g, Vx sl.length v := fun v hv => (hG.all v).1 (List.mem_flatten.2 ⟨g, hg, hv⟩)
    exact ⟨h1, nodup_len (hG.nd.sublist (List.sublist_flatten_of_mem hg)) h1⟩
  generalize groupsF (onL sl) = gs at *
  obtain ⟨rows, hrows, h⟩ := li_at h
  have h := (St.wk (L' := arr ISY T_s_int a6 c6 rows :: many ich rows :: wb p sl :: L) h).ent ld_none
  have hrl : rows.length = gs.length := by rw [← hrows, List.length_map]
  (repeat (first | (first | (with_reducible (first | refine w1 fun _ _ => ?_ | refine w3 fun _ _ _ => ?_ | refine w4 fun _ _ _ => ?_ | refine w11 fun _ _ _ => ?_ | refine stb_n ?_)) | ((with_reducible refine w2 ?_); try simp -implicitDefEqProofs only [EN, lsub, lget, stL, beq_self_eq_true, ne_eq, if_true, if_false, List.cons_append, List.nil_append, Option.isNone_some, Option.isNone_none]; intro _ _) | ((with_reducible (first | refine w5 ?_ ?_ | refine w6 ?_ ?_ | refine w7 ?_ ?_)); simp; refine ⟨_, rfl, ?_⟩) | ((with_reducible (first | refine w8 ?_ ?_ ?_ | refine w9 ?_ ?_ ?_ | refine w10 ?_ ?_ ?_)); exact rfl; simp) | ((with_reducible refine w12 ?_ ?_ ?_ fun _ _ => ?_); simp; simp; simp [oneC]) | ((with_reducible (first | refine eqs ?_ | refine nes ?_)); refine ⟨_, rfl, ?_⟩) | ((refine okF_i (bldP_eq rfl) ?_); try simp only [BLS, List.take_succ_cons, List.take_zero, List.drop_succ_cons, List.drop_zero, List.cons_append, List.nil_append, Nat.reduceAdd])) | simp -implicitDefEqProofs only [EN, lsub, lget, stL, beq_self_eq_true, ne_eq, if_true, if_false, List.cons_append, List.nil_append, Option.isNone_some, Option.isNone_none]))
  refine loop_c (σ := Option Addr × Nat) gs.length (fun i x => [.pointer (some ⟨p, 0, none⟩), .slice x.1 ((gs.take i).map (dotsO sl)).length x.2, .slice a6 gs.length c6, .int .i64 gs.length, .int .i64 (i : Int)])
    (fun i x W1 => St W0 (LD x.1 x.2 ((gs.take i).map (dotsO sl)) :: arr ISY T_s_int a6 c6 rows :: many ich rows :: wb p sl :: L) W1) (none, 0) rfl h ?_
  clear h
  rintro K i ⟨ax, cx⟩ W13 hi h hK
  simp only at h
  simp -implicitDefEqProofs only [EN, lsub, lget, stL, beq_self_eq_true, ne_eq, if_true, if_false, List.cons_append, List.nil_append, Option.isNone_some, Option.isNone_none]
  unfold S.order_Groups.l1
  by_cases hlt : (i : Int) < (gs.length : Int)
  · have hib : i < gs.length := by omega
    have hir : i < rows.length := by omega
    have ew : IntKind.i64.wrap ((i : Int) + 1) = ((i + 1 : Nat) : Int) := by rw [i64w]; omega
    have hrow := row_at hir
    rw [hrows, ← getD_at hib] at hrow
    have hmr : rows[i] ∈ rows := List.getElem_mem hir
    have htk : (gs.take (i + 1)).map (dotsO sl) = (gs.take i).map (dotsO sl) ++ [dotsO sl rows[i].l] := by rw [List.take_succ_eq_append_getElem hib, List.map_append, hrow]; rfl
    obtain ⟨hv1, hv2⟩ := hgv gs[i] (List.getElem_mem hib)
    rw [← hrow] at hv1 hv2
    obtain ⟨gr, or', e1⟩ := posAddr (i := i) (a := a6) (A := ISY) (l := rows) h hir
    subst e1
    (repeat (first | (first | (with_reducible (first | refine w1 fun _ _ => ?_ | refine w3 fun _ _ _ => ?_ | refine w4 fun _ _ _ => ?_ | refine w11 fun _ _ _ => ?_ | refine stb_n ?_)) | ((with_reducible refine w2 ?_); try simp -implicitDefEqProofs only [EN, lsub, lget, stL, beq_self_eq_true, ne_eq, if_true, if_false, List.cons_append, List.nil_append, Option.isNone_some, Option.isNone_none, hlt, ix2 hib]; intro _ _) | ((with_reducible (first | refine w5 ?_ ?_ | refine w6 ?_ ?_ | refine w7 ?_ ?_)); simp; refine ⟨_, rfl, ?_⟩) | ((with_reducible (first | refine w8 ?_ ?_ ?_ | refine w9 ?_ ?_ ?_ | refine w10 ?_ ?_ ?_)); exact rfl; simp) | ((with_reducible refine w12 ?_ ?_ ?_ fun _ _ => ?_); simp; simp; simp [oneC]) | ((with_reducible (first | refine eqs ?_ | refine nes ?_)); refine ⟨_, rfl, ?_⟩) | ((refine okF_i (bldP_eq rfl) ?_); try simp only [BLS, List.take_succ_cons, List.take_zero, List.drop_succ_cons, List.drop_zero, List.cons_append, List.nil_append, Nat.reduceAdd])) | simp -implicitDefEqProofs only [EN, lsub, lget, stL, beq_self_eq_true, ne_eq, if_true, if_false, List.cons_append, List.nil_append, Option.isNone_some, Option.isNone_none, hlt, ix2 hib]))
    refine ldR hir (by first | assumption | exact St.tick (by assumption) | exact St.tick (St.tick (by assumption))) ?_
    generalize rows[i] = y at *
    obtain ⟨ya, yc, yl⟩ := y
    simp only at htk hv1 hv2
    haveI hrd := ich_rd (W0 := W0) (L := L) hmr
    have h := St.wk (L' := wb p sl :: LD ax cx ((gs.take i).map (dotsO sl)) :: arr ISY T_s_int (some ⟨gr, or', none⟩) c6 rows :: many ich rows :: L) (by first | assumption | exact St.tick (by assumption) | exact St.tick (St.tick (by assumption)))
    haveI hrd2 : Rd W0 (LD ax cx ((gs.take i).map (dotsO sl)) :: arr ISY T_s_int (some ⟨gr, or', none⟩) c6 rows :: many ich rows :: L) ya I64 yl := inferInstance
    refine ordDots (l := yl) h hv1 (by omega) fun a7 c7 W14 h => ?_
    refine bsA DSY [(⟨a7, c7, dotsO sl yl⟩ : DSl)] (n := 1) (by first | assumption | exact St.tick (by assumption) | exact St.tick (St.tick (by assumption))) rfl rfl (by decide) (by decide) rfl fun a8 c8 W15 h => ?_
    obtain ⟨rd, hrd3, h⟩ := ld_at (St.wk (L' := LD ax cx ((gs.take i).map (dotsO sl)) :: arr DSY T_s_api_Dot a8 c8 [(⟨a7, c7, dotsO sl yl⟩ : DSl)] :: arr DOT T_api_Dot a7 c7 (dotsO sl yl) :: arr ISY T_s_int (some ⟨gr, or', none⟩) c6 rows :: many ich rows :: wb p sl :: L) h)
    have hdl : rd.length = ((gs.take i).map (dotsO sl)).length := by rw [← hrd3, List.length_map]
    have hdl2 : rd.length ≤ gs.length := by rw [hdl, List.length_map, List.length_take]; omega
    rw [← hdl]
    refine appA (A := DSY) (a := ax) (l := rd) (m := [(⟨a7, c7, dotsO sl yl⟩ : DSl)]) h rfl (by simp only [List.length_cons, List.length_nil]; omega) (by simp only [List.length_cons, List.length_nil, maxLen]; omega) fun a9 c9 W16 h => ?_
    have h := ld_snoc (y := ⟨a7, c7, dotsO sl yl⟩) (a := a9) (c := c9) (L := arr ISY T_s_int (some ⟨gr, or', none⟩) c6 rows :: many ich rows :: wb p sl :: L) hrd3 (St.wk h)
    have hl9 : (rd ++ [(⟨a7, c7, dotsO sl yl⟩ : DSl)]).length = ((gs.take (i + 1)).map (dotsO sl)).length := by rw [htk, List.length_append, List.length_append, hdl]; rfl
    rw [hl9]
    (repeat (first | (first | (with_reducible (first | refine w1 fun _ _ => ?_ | refine w3 fun _ _ _ => ?_ | refine w4 fun _ _ _ => ?_ | refine w11 fun _ _ _ => ?_ | refine stb_n ?_)) | ((with_reducible refine w2 ?_); try simp -implicitDefEqProofs only [EN, lsub, lget, stL, beq_self_eq_true, ne_eq, if_true, if_false, List.cons_append, List.nil_append, Option.isNone_some, Option.isNone_none, ew]; intro _ _) | ((with_reducible (first | refine w5 ?_ ?_ | refine w6 ?_ ?_ | refine w7 ?_ ?_)); simp; refine ⟨_, rfl, ?_⟩) | ((with_reducible (first | refine w8 ?_ ?_ ?_ | refine w9 ?_ ?_ ?_ | refine w10 ?_ ?_ ?_)); exact rfl; simp) | ((with_reducible refine w12 ?_ ?_ ?_ fun _ _ => ?_); simp; simp; simp [oneC]) | ((with_reducible (first | refine eqs ?_ | refine nes ?_)); refine ⟨_, rfl, ?_⟩) | ((refine okF_i (bldP_eq rfl) ?_); try simp only [BLS, List.take_succ_cons, List.take_zero, List.drop_succ_cons, List.drop_zero, List.cons_append, List.nil_append, Nat.reduceAdd])) | simp -implicitDefEqProofs only [EN, lsub, lget, stL, beq_self_eq_true, ne_eq, if_true, if_false, List.cons_append, List.nil_append, Option.isNone_some, Option.isNone_none, ew]))
    rw [← htk] at h
    exact hK (a9, c9) _ hib h
  · have hil : i = gs.length := by omega
    subst hil
    rw [List.take_length] at h ⊢
    (repeat (first | (first | (with_reducible (first | refine w1 fun _ _ => ?_ | refine w3 fun _ _ _ => ?_ | refine w4 fun _ _ _ => ?_ | refine w11 fun _ _ _ => ?_ | refine stb_n ?_)) | ((with_reducible refine w2 ?_); try simp -implicitDefEqProofs only [EN, lsub, lget, stL, beq_self_eq_true, ne_eq, if_true, if_false, List.cons_append, List.nil_append, Option.isNone_some, Option.isNone_none, hlt]; intro _ _) | ((with_reducible (first | refine w5 ?_ ?_ | refine w6 ?_ ?_ | refine w7 ?_ ?_)); simp; refine ⟨_, rfl, ?_⟩) | ((with_reducible (first | refine w8 ?_ ?_ ?_ | refine w9 ?_ ?_ ?_ | refine w10 ?_ ?_ ?_)); exact rfl; simp) | ((with_reducible refine w12 ?_ ?_ ?_ fun _ _ => ?_); simp; simp; simp [oneC]) | ((with_reducible (first | refine eqs ?_ | refine nes ?_)); refine ⟨_, rfl, ?_⟩) | ((refine okF_i (bldP_eq rfl) ?_); try simp only [BLS, List.take_succ_cons, List.take_zero, List.drop_succ_cons, List.drop_zero, List.cons_append, List.nil_append, Nat.reduceAdd])) | simp -implicitDefEqProofs only [EN, lsub, lget, stL, beq_self_eq_true, ne_eq, if_true, if_false, List.cons_append, List.nil_append, Option.isNone_some, Option.isNone_none, hlt]))
    unfold S.order_Groups.j1
    refine ordSortD h hgo.1 hgo.2 (by simp; omega) fun W14 h => ?_
    have e : (sortD (gs.map (dotsO sl))).length = (gs.map (dotsO sl)).length := (sortD_perm _).length_eq
    have := hk ax cx W14 (St.wk h)
    rwa [e] at this
end
end Go.Proofs.Ytkjhccpanedccaa
namespace Go.Tar
set_option linter.unusedVariables false
set_option linter.unusedSimpArgs false
section
variable {on : List (List Int)} {n : Nat} {all gs : List (List Int)} {x y : Int}
def Same (on : List (List Int)) (x y : Int) : Prop := Rch on x y ∧ Rch on y x
theorem take_at {i : Nat} (h : x ∈ (gs.take i).flatten) : ∃ j, j < i ∧ x ∈ gs.getD j [] := by
  obtain ⟨l, hl, hx⟩ := List.mem_flatten.1 h
  obtain ⟨j, hj, rfl⟩ := List.getElem_of_mem hl
  have hj2 : j < i ∧ j < gs.length := by simp at hj; omega
  exact ⟨j, hj2.1, by rw [List.getD_eq_getElem?_getD, List.getElem?_eq_getElem hj2.2]; simpa using hx⟩
theorem Grp.down (h : Grp on n gs) {i j : Nat} (hr : Rch on x y) (hx : x ∈ gs.getD i []) (hy : y ∈ gs.getD j []) : j ≤ i := by
  have key : ∃ k, k ≤ i ∧ y ∈ gs.getD k [] := by
    refine Rch.stay (on := on) (x := x) (C := fun z => ∃ k, k ≤ i ∧ z ∈ gs.getD k []) (fun a ha b hb => ?_) hr ⟨i, Nat.le_refl _, hx⟩
    obtain ⟨k, hk, hak⟩ := ha
    obtain ⟨j, hj, hbj⟩ := take_at (h.cls k a hak b hb)
    exact ⟨j, by omega, hbj⟩
  obtain ⟨k, hk, hyk⟩ := key
  rw [flat_uniq gs h.nd j k y hy hyk]; exact hk
/-- those that reach one another are in one group -/
theorem Grp.same (h : Grp on n gs) {g : List Int} (hg : g ∈ gs) (hx : x ∈ g) (hy : Vx n y) : y ∈ g ↔ Same on x y := by
  obtain ⟨i, hi, rfl⟩ := List.getElem_of_mem hg
  have ei : gs.getD i [] = gs[i] := by rw [List.getD_eq_getElem?_getD, List.getElem?_eq_getElem hi]; rfl
  constructor
  · exact fun hy => ⟨h.scc _ hg _ hx _ hy, h.scc _ hg _ hy _ hx⟩
  · rintro ⟨h1, h2⟩
    obtain ⟨j, hj, hyj⟩ := flatAt ((h.all y).2 hy)
    have a1 := h.down h1 (by rw [ei]; exact hx) hyj
    have a2 := h.down h2 hyj (by rw [ei]; exact hx)
    have : i = j := by omega
    rw [← ei, this]; exact hyj
theorem told_pw {h : Nat → Nat → Bool} {m : Nat} (r : Nat → Nat) (hr : ∀ g k, g < m → k < m → k ≠ g → h g k = true → r k < r g) : ∀ i, i ≤ m → (toldG h m i).Pairwise fun g k => h g k = false
  | 0, _ => List.Pairwise.nil
  | i + 1, hi => by
    have ih := told_pw r hr i (by omega)
    have hT := told_ok r hr i (by omega)
    have hn := next_free (free_ex r hr (short_ex (T := toldG h m i) (by rw [hT.len]; omega)))
    show (toldG h m i ++ [nextG h m (toldG h m i)]).Pairwise _
    rw [List.pairwise_append]
    refine ⟨ih, by simp, fun g hg k hk => ?_⟩
    rw [List.mem_singleton] at hk
    subst hk
    have hf := (freeG_iff.1 hn.2.1).1
    refine Bool.eq_false_iff.2 fun hh => hf ((hT.shut g hg).2 _ hn.1 (fun e => hf (e ▸ hg)) hh)
theorem lineF_eq (hO : OnOk on on.length) : lineF on = ((toldG (hngOf on) (allOf on).length (allOf on).length).map fun g => (allOf on).getD g []).flatten := (line_law hO _ (Nat.le_refl _)).2.1
theorem told_all (hO : OnOk on on.length) {g : Nat} (hg : g < (allOf on).length) : g ∈ toldG (hngOf on) (allOf on).length (allOf on).length := by
  have hT := (line_law hO _ (Nat.le_refl _)).2.2.2
  refine Classical.byContradiction fun hn => ?_
  have h1 : (g :: toldG (hngOf on) (allOf on).length (allOf on).length).Nodup := List.nodup_cons.2 ⟨hn, hT.nd⟩
  have h2 : (g :: toldG (hngOf on) (allOf on).length (allOf on).length) ⊆ List.range (allOf on).length := fun x hx => by
    rcases List.mem_cons.1 hx with rfl | hx
    · exact List.mem_range.2 hg
    · exact List.mem_range.2 (hT.shut x hx).1
  have := h1.length_le_of_subset h2
  rw [List.length_cons, hT.len, List.length_range] at this; omega
theorem lineF_mem (hO : OnOk on on.length) : x ∈ lineF on ↔ Vx on.length x := by
  have hp := allOf_prt hO
  rw [lineF_eq hO]
  constructor
  · intro h
    obtain ⟨l, hl, hx⟩ := List.mem_flatten.1 h
    obtain ⟨g, _, rfl⟩ := List.mem_map.1 hl
    exact (hp.mem x).1 (memFlat hx)
  · intro h
    obtain ⟨g, hg, hx⟩ := flatAt ((hp.mem x).2 h)
    exact List.mem_flatten.2 ⟨_, List.mem_map.2 ⟨g, told_all hO hg, rfl⟩, hx⟩
theorem allOf_mem {g : List Int} : g ∈ allOf on ↔ g ∈ groupsF on := (sortHd_perm _).mem_iff
theorem getD_nil_or (gs : List (List Int)) (g : Nat) : gs.getD g [] = [] ∨ gs.getD g [] ∈ gs := by
  by_cases h : g < gs.length
  · right; rw [List.getD_eq_getElem?_getD, List.getElem?_eq_getElem h]; exact List.getElem_mem h
  · left; exact getD_ge (by omega)
/-- the order of a line -/
theorem lineF_pw (hO : OnOk on on.length) : (lineF on).Pairwise fun x y => (Same on x y ∧ x < y) ∨ (¬ Same on x y ∧ y ∉ rowOf on x) := by
  have hp := allOf_prt hO
  have hG := groups_grp hO
  have hr : ∀ g k, g < (allOf on).length → k < (allOf on).length → k ≠ g → hngOf on g k = true → rankOf on k < rankOf on g := fun g k hg hk hne h => rank_lt hO hg hk hne ((hng_iff hp hO).1 h)
  have hT := (line_law hO _ (Nat.le_refl _)).2.2.2
  have hpw := told_pw (rankOf on) hr _ (Nat.le_refl _)
  rw [lineF_eq hO, List.pairwise_flatten]
  refine ⟨fun l hl => ?_, ?_⟩
  · obtain ⟨g, _, rfl⟩ := List.mem_map.1 hl
    rcases getD_nil_or (allOf on) g with e | hm
    · rw [e]; exact List.Pairwise.nil
    · have h1 := (hp.gok _ hm).2
      have h2 : ((allOf on).getD g []).Nodup := hp.nd.sublist (List.sublist_flatten_of_mem hm)
      rw [List.nodup_iff_pairwise_ne] at h2
      refine List.Pairwise.imp_of_mem (fun {x y} hx hy hxy => ?_) (List.pairwise_and_iff.2 ⟨h1, h2⟩)
      have hmg := allOf_mem.1 hm
      exact .inl ⟨⟨hG.scc _ hmg _ hx _ hy, hG.scc _ hmg _ hy _ hx⟩, by have := hxy.1; have := hxy.2; omega⟩
  · rw [List.pairwise_map]
    refine List.Pairwise.imp_of_mem (fun {g k} hg hk hgk x hx y hy => .inr ⟨fun hs => ?_, fun hu => ?_⟩) (List.pairwise_and_iff.2 ⟨hpw, List.nodup_iff_pairwise_ne.1 hT.nd⟩)
    · rcases getD_nil_or (allOf on) g with e | hm
      · rw [e] at hx; cases hx
      · have := (hG.same (allOf_mem.1 hm) hx ((hp.mem y).1 (memFlat hy))).2 hs
        exact hgk.2 (flat_uniq _ hp.nd g k y this hy)
    · have h1 : hngOf on g k = true := (hng_iff hp hO).2 ⟨x, hx, y, hu, hy⟩
      rw [hgk.1] at h1; cases h1
theorem lineF_nodup (hO : OnOk on on.length) : (lineF on).Nodup := by
  have hp := allOf_prt hO
  have hT := (line_law hO _ (Nat.le_refl _)).2.2.2
  rw [lineF_eq hO, List.nodup_iff_pairwise_ne, List.pairwise_flatten]
  refine ⟨fun l hl => ?_, ?_⟩
  · obtain ⟨g, _, rfl⟩ := List.mem_map.1 hl
    rcases getD_nil_or (allOf on) g with e | hm
    · rw [e]; exact List.Pairwise.nil
    · exact List.nodup_iff_pairwise_ne.1 (hp.nd.sublist (List.sublist_flatten_of_mem hm))
  · rw [List.pairwise_map]
    refine (List.nodup_iff_pairwise_ne.1 hT.nd).imp fun {g k} hgk x hx y hy e => ?_
    subst e
    exact hgk (flat_uniq _ hp.nd g k x hx hy)
end
/-- two rows in one strict order, the one with all that is ahead of its own: it is a beginning -/
theorem prefix_of {α : Type} {R : α → α → Prop} (hR : ∀ x y, R x y → R y x → False) : ∀ (a b : List α), a.Pairwise R → b.Pairwise R → (∀ y ∈ b, y ∈ a) → (∀ y ∈ b, ∀ x ∈ a, R x y → x ∈ b) → b = a.take b.length
  | a, [], _, _, _, _ => by simp
  | [], y :: b, _, _, h, _ => absurd (h y (by simp)) (by simp)
  | x :: a, y :: b, ha, hb, hs, hd => by
    rw [List.pairwise_cons] at ha hb
    have hxy : y = x := by
      rcases List.mem_cons.1 (hs y (by simp)) with e | hy
      · exact e
      · have hxb := hd y (by simp) x (by simp) (ha.1 y hy)
        rcases List.mem_cons.1 hxb with e | hxb
        · exact e.symm
        · exact (hR _ _ (ha.1 y hy) (hb.1 x hxb)).elim
    subst hxy
    have irr : ∀ z, ¬ R z z := fun z h => hR z z h h
    rw [List.length_cons, List.take_succ_cons]
    congr 1
    refine prefix_of hR a b ha.2 hb.2 (fun z hz => ?_) fun z hz w hw h => ?_
    · rcases List.mem_cons.1 (hs z (by simp [hz])) with e | hz'
      · exact (irr y (by have := hb.1 z hz; rwa [e] at this)).elim
      · exact hz'
    · rcases List.mem_cons.1 (hd z (by simp [hz]) w (by simp [hw]) h) with e | hw'
      · exact (irr y (by have := ha.1 w hw; rwa [e] at this)).elim
      · exact hw'
end Go.Tar
