/- Texts of the claim ExecOne, joined: CExe, CExe2, LOrd0, CExe3, PLine3, LOrd, LOrd2, Opn. -/
import Derived.Test.YtkjhccpanedccaaBExecOne8
import Derived.Test.YtkjhccpanedccaaBExecOne6
import Derived.Test.YtkjhccpanedccaaBExecOne2
import Derived.Deep.Slices
import Derived.OpenShut
import Derived.ShutString
import Derived.ChangeOld
import Derived.Carry
namespace Go.Proofs.Ytkjhccpanedccaa
set_option linter.unusedVariables false
set_option linter.unusedSimpArgs false
open Go Go.Eng Go.Tar Go.Sort
structure Cmd where
  i : Ins
  w : P7 Int
  bs : List UInt8
structure CmdX where
  i : Ins
  w : P7 Int
  b : BSl
def CmdX.er (c : CmdX) : Cmd := ⟨c.i, c.w, c.b.bs⟩
abbrev CmdX.val (c : CmdX) : Value := .agg #[.int .i64 c.i.d.rep, .int .i64 c.i.d.n, .int .i64 c.i.s, .int .i64 c.i.v.x0, .int .i64 c.i.v.x1, .int .i64 c.i.v.x2, .int .i64 c.i.v.x3, .int .i64 c.i.v.x4, .int .i64 c.i.v.x5, .int .i64 c.i.v.x6, .int .i64 c.w.x0, .int .i64 c.w.x1, .int .i64 c.w.x2, .int .i64 c.w.x3, .int .i64 c.w.x4, .int .i64 c.w.x5, .int .i64 c.w.x6, c.b.v]
structure XS where
  have_ : P7 Int
  cs : List Cmd
  done : List Dot
abbrev XS.ins (s : XS) : List Ins := s.cs.map (·.i)
def XS.new : XS := ⟨P7.all 0, [], []⟩
def XS.find (s : XS) (d : Dot) : Option Cmd := s.cs.find? fun c => decide (c.i.d = d)
abbrev cmd0 : Value := .agg #[.int .i64 0, .int .i64 0, .int .i64 0, .int .i64 0, .int .i64 0, .int .i64 0, .int .i64 0, .int .i64 0, .int .i64 0, .int .i64 0, .int .i64 0, .int .i64 0, .int .i64 0, .int .i64 0, .int .i64 0, .int .i64 0, .int .i64 0, .slice none 0 0]
structure XX where
  ys : List CmdX
  r1 : Nat
  r2 : Nat
  m : List (Dot × Value)
  la : Option Addr
  lc : Nat
  da : Option Addr
  dc : Nat
abbrev kv (ys : List CmdX) : List (Dot × Value) := ys.map fun y => (y.i.d, y.val)
def XX.ok (x : XX) (s : XS) : Prop := x.ys.map CmdX.er = s.cs ∧ ∀ d, (mget x.m d).getD (.bool false) = .bool (decide (d ∈ s.done))
/-- an Exec, as it lies -/
def exo (p : Nat) (s : XS) : Asn := fun h => ∃ x : XX, x.ok s ∧ sep [cells p [.int .i64 s.have_.x0, .int .i64 s.have_.x1, .int .i64 s.have_.x2, .int .i64 s.have_.x3, .int .i64 s.have_.x4, .int .i64 s.have_.x5, .int .i64 s.have_.x6, .map (some x.r1), .slice x.la s.cs.length x.lc, .map (some x.r2), .slice x.da s.done.length x.dc] T_exec_Exec,
  mp KD x.r1 (kv x.ys), mp KD x.r2 x.m, arr INS T_order_Inst x.la x.lc s.ins, arr DOT T_api_Dot x.da x.dc s.done, many fch (x.ys.map (·.b))] h
section
variable {W0 W : World} {L L' : List Asn} {p : Nat} {s : XS}
theorem exo_at (h : St W0 (exo p s :: L) W) : ∃ x : XX, x.ok s ∧ St W0 (cells p [.int .i64 s.have_.x0, .int .i64 s.have_.x1, .int .i64 s.have_.x2, .int .i64 s.have_.x3, .int .i64 s.have_.x4, .int .i64 s.have_.x5, .int .i64 s.have_.x6, .map (some x.r1), .slice x.la s.cs.length x.lc, .map (some x.r2), .slice x.da s.done.length x.dc] T_exec_Exec ::
    mp KD x.r1 (kv x.ys) :: mp KD x.r2 x.m :: arr INS T_order_Inst x.la x.lc s.ins :: arr DOT T_api_Dot x.da x.dc s.done :: many fch (x.ys.map (·.b)) :: L) W := by
  obtain ⟨x, h⟩ := h.ex
  obtain ⟨h1, h⟩ := h.fact
  exact ⟨x, h1, h.flat⟩
theorem exo_of (x : XX) (hx : x.ok s) (h : St W0 (cells p [.int .i64 s.have_.x0, .int .i64 s.have_.x1, .int .i64 s.have_.x2, .int .i64 s.have_.x3, .int .i64 s.have_.x4, .int .i64 s.have_.x5, .int .i64 s.have_.x6, .map (some x.r1), .slice x.la s.cs.length x.lc, .map (some x.r2), .slice x.da s.done.length x.dc] T_exec_Exec ::
    mp KD x.r1 (kv x.ys) :: mp KD x.r2 x.m :: arr INS T_order_Inst x.la x.lc s.ins :: arr DOT T_api_Dot x.da x.dc s.done :: many fch (x.ys.map (·.b)) :: L) W) : St W0 (exo p s :: L) W :=
  h.ent ((ent.pack [_, _, _, _, _, _] L).trans (ent.weak fun _ hp => ⟨x, hx, hp⟩))
theorem mlen {P : Program} {κ : Type} {t kt et ty : TypeId} {K : κ → Value} {r : Nat} {l : List (κ × Value)} [hT : MapT P t kt et] {k : Value → World → Prop} (h : St W0 L W) [hm : Tk (Eng.mp K r) L l L'] (hk : k (.int .i64 l.length) W) : rdK P (Builtin.len_ #[t] ty #[.map (some r)]) k W := by
  obtain ⟨es, clock, h1, h2, h3⟩ := (h.perm hm.perm).mp
  have hb := h3.blk.2
  have hl : es.size = l.length := by have := congrArg List.length h1; simpa [mpL] using this
  refine ⟨.int .i64 l.length, ?_, hk⟩
  simp [Builtin.len_, run_underlying hT.ok, MapKept.run_getObj_map hb, goInt, hl]
theorem stb_lkpOk {P : Program} {κ : Type} {t kt et : TypeId} {K : κ → Value} {r : Nat} {l : List (κ × Value)} [DecidableEq κ] [hT : MapT P t kt et] [hK : KeyT P kt K] {z : Value} [hz : TyZ P et z] (a : κ) {ii : Nat} {bb : Bool} {hl : List HoldV} {R : World → Prop} (h : St W0 L W) [hm : Tk (Eng.mp K r) L l L'] (hk : stb P hl R W) :
    stb P ((ii, bb, Instr.lookup t (.map (some r)) (K a) true, .tuple #[(mget l a).getD z, .bool (mget l a).isSome]) :: hl) R W := ⟨fun _ => by rw [lookup_run (a := a) true (h.perm hm.perm)]; rfl, hk⟩
theorem stb_kv {ys : List CmdX} {r : Nat} {d : Dot} {v : Value} {ii : Nat} {bb : Bool} {hl : List HoldV} {R : World → Prop} (h : St W0 L W) [hm : Tk (Eng.mp KD r) L (kv ys) L'] (hv : v = .tuple #[(mget (kv ys) d).getD cmd0, .bool (mget (kv ys) d).isSome]) (hk : stb PR hl R W) :
    stb PR ((ii, bb, Instr.lookup T_m_api_Dot_exec_command (.map (some r)) (KD d) true, v) :: hl) R W := by
  subst hv; exact stb_lkpOk (K := KD) (z := cmd0) d h hk
theorem kv_get (ys : List CmdX) (d : Dot) : mget (kv ys) d = (ys.find? fun y => decide (y.i.d = d)).map CmdX.val := by
  induction ys with
  | nil => rfl
  | cons y ys ih =>
    simp only [kv, List.map_cons, mget, List.find?_cons]
    by_cases h : y.i.d = d
    · simp [h]
    · simp only [if_neg h, decide_eq_false h]; exact ih
theorem find_er {ys : List CmdX} (h : ys.map CmdX.er = s.cs) (d : Dot) : s.find d = (ys.find? fun y => decide (y.i.d = d)).map CmdX.er := by
  unfold XS.find
  rw [← h, List.find?_map]; rfl
theorem execNew {k : Value → World → Prop} (h : St W0 L W) (hk : ∀ p W', St W0 (exo p XS.new :: L) W' → k (.pointer (some ⟨p, 0, none⟩)) W') : callK PR F_exec_New [] k W := by
  apply S.exec_New.call
  unfold S.exec_New.body
  refine mkMap (K := KD) h fun r1 W1 h => ?_
  refine mkMap (K := KD) h fun r2 W2 h => ?_
  (repeat (first | (first | (with_reducible (first | refine w1 fun _ _ => ?_ | refine w3 fun _ _ _ => ?_ | refine w4 fun _ _ _ => ?_ | refine w11 fun _ _ _ => ?_ | refine stb_n ?_)) | ((with_reducible refine w2 ?_); try simp -implicitDefEqProofs only [EN, lsub, lget, stL, beq_self_eq_true, ne_eq, if_true, if_false, List.cons_append, List.nil_append, Option.isNone_some, Option.isNone_none]; intro _ _) | ((with_reducible (first | refine w5 ?_ ?_ | refine w6 ?_ ?_ | refine w7 ?_ ?_)); simp; refine ⟨_, rfl, ?_⟩) | ((with_reducible (first | refine w8 ?_ ?_ ?_ | refine w9 ?_ ?_ ?_ | refine w10 ?_ ?_ ?_)); exact rfl; simp) | ((with_reducible refine w12 ?_ ?_ ?_ fun _ _ => ?_); simp; simp; simp [oneC]) | ((with_reducible (first | refine eqs ?_ | refine nes ?_)); refine ⟨_, rfl, ?_⟩) | ((refine okF_i (bldP_eq rfl) ?_); try simp only [BLS, List.take_succ_cons, List.take_zero, List.drop_succ_cons, List.drop_zero, List.cons_append, List.nil_append, Nat.reduceAdd])) | simp -implicitDefEqProofs only [EN, lsub, lget, stL, beq_self_eq_true, ne_eq, if_true, if_false, List.cons_append, List.nil_append, Option.isNone_some, Option.isNone_none]))
  rename_i p W3 h
  (try simp only [BLS, List.take_succ_cons, List.take_zero, List.drop_succ_cons, List.drop_zero, List.cons_append, List.nil_append, List.append_nil, List.take_nil, List.drop_nil, stL, Nat.reduceAdd] at h)
  have h := ((h.ent (arr_nil INS T_order_Inst)).ent (arr_nil DOT T_api_Dot)).ent (many_nil (F := fch))
  exact hk p _ (exo_of (s := XS.new) ⟨[], r1, r2, [], none, 0, none, 0⟩ ⟨rfl, fun d => rfl⟩ (St.wk (L' := cells p [.int .i64 0, .int .i64 0, .int .i64 0, .int .i64 0, .int .i64 0, .int .i64 0, .int .i64 0, .map (some r1), .slice none 0 0, .map (some r2), .slice none 0 0] T_exec_Exec :: mp KD r1 [] :: mp KD r2 [] :: arr INS T_order_Inst none 0 [] :: arr DOT T_api_Dot none 0 [] :: many fch [] :: L) h))
/-- Commit: what it is, what it answers -/
def XS.commit (s : XS) (i : Ins) (w : P7 Int) (bs : List UInt8) : XS × Int :=
  if goodO [i] = false ∨ goodV w = false ∨ 65536 < bs.length then (s, 1)
  else if (s.find i.d).isSome then (s, 5)
  else if 1000 ≤ s.cs.length then (s, 2)
  else (⟨s.have_, s.cs ++ [⟨i, w, bs⟩], s.done⟩, 0)
set_option maxRecDepth 100000 in
set_option maxHeartbeats 8000000 in
theorem execCommit {i : Ins} {w : P7 Int} {a : Option Addr} {c : Nat} {bs : List UInt8} {k : Value → World → Prop} (h : St W0 (exo p s :: L) W) [hr : Rd W0 L a B8 bs]
    (hk : ∀ W', St W0 (exo p (s.commit i w bs).1 :: L) W' → k (.int .i64 (s.commit i w bs).2) W') : callK PR F_exec_Exec_Commit [.pointer (some ⟨p, 0, none⟩), .agg #[.int .i64 i.d.rep, .int .i64 i.d.n, .int .i64 i.s, .int .i64 i.v.x0, .int .i64 i.v.x1, .int .i64 i.v.x2, .int .i64 i.v.x3, .int .i64 i.v.x4, .int .i64 i.v.x5, .int .i64 i.v.x6], .agg #[.int .i64 w.x0, .int .i64 w.x1, .int .i64 w.x2, .int .i64 w.x3, .int .i64 w.x4, .int .i64 w.x5, .int .i64 w.x6], .slice a bs.length c] k W := by
  apply S.exec_Exec_Commit.call
  unfold S.exec_Exec_Commit.body
  refine bxa h fun ib W1 h => ?_
  refine bxa h fun wb_ W1 h => ?_
  have h : St W0 (cells wb_ [.int .i64 w.x0, .int .i64 w.x1, .int .i64 w.x2, .int .i64 w.x3, .int .i64 w.x4, .int .i64 w.x5, .int .i64 w.x6] T_vec_Vec :: cells ib [.int .i64 i.d.rep, .int .i64 i.d.n, .int .i64 i.s, .int .i64 i.v.x0, .int .i64 i.v.x1, .int .i64 i.v.x2, .int .i64 i.v.x3, .int .i64 i.v.x4, .int .i64 i.v.x5, .int .i64 i.v.x6] T_order_Inst :: exo p s :: L) W1 := h
  (repeat (first | (first | (with_reducible (first | refine w1 fun _ _ => ?_ | refine w3 fun _ _ _ => ?_ | refine w4 fun _ _ _ => ?_ | refine w11 fun _ _ _ => ?_ | refine stb_n ?_)) | ((with_reducible refine w2 ?_); try simp -implicitDefEqProofs only [EN, lsub, lget, stL, beq_self_eq_true, ne_eq, if_true, if_false, List.cons_append, List.nil_append, Option.isNone_some, Option.isNone_none]; intro _ _) | ((with_reducible (first | refine w5 ?_ ?_ | refine w6 ?_ ?_ | refine w7 ?_ ?_)); simp; refine ⟨_, rfl, ?_⟩) | ((with_reducible (first | refine w8 ?_ ?_ ?_ | refine w9 ?_ ?_ ?_ | refine w10 ?_ ?_ ?_)); exact rfl; simp) | ((with_reducible refine w12 ?_ ?_ ?_ fun _ _ => ?_); simp; simp; simp [oneC]) | ((with_reducible (first | refine eqs ?_ | refine nes ?_)); refine ⟨_, rfl, ?_⟩) | ((refine okF_i (bldP_eq rfl) ?_); try simp only [BLS, List.take_succ_cons, List.take_zero, List.drop_succ_cons, List.drop_zero, List.cons_append, List.nil_append, Nat.reduceAdd])) | simp -implicitDefEqProofs only [EN, lsub, lget, stL, beq_self_eq_true, ne_eq, if_true, if_false, List.cons_append, List.nil_append, Option.isNone_some, Option.isNone_none]))
  refine bsA INS [i] (n := 1) (by first | assumption | exact St.tick (by assumption) | exact St.tick (St.tick (by assumption))) rfl rfl (by decide) (by decide) rfl fun a1 c1 W2 h => ?_
  refine ordGood (a := a1) (l := [i]) h (by simp) fun W3 h => ?_
  have h := St.wk (L' := cells wb_ [.int .i64 w.x0, .int .i64 w.x1, .int .i64 w.x2, .int .i64 w.x3, .int .i64 w.x4, .int .i64 w.x5, .int .i64 w.x6] T_vec_Vec :: cells ib [.int .i64 i.d.rep, .int .i64 i.d.n, .int .i64 i.s, .int .i64 i.v.x0, .int .i64 i.v.x1, .int .i64 i.v.x2, .int .i64 i.v.x3, .int .i64 i.v.x4, .int .i64 i.v.x5, .int .i64 i.v.x6] T_order_Inst :: exo p s :: L) h
  unfold XS.commit at hk
  cases hg : goodO [i] with
  | false =>
    rw [if_pos (.inl hg)] at hk
    (repeat (first | (first | (with_reducible (first | refine w1 fun _ _ => ?_ | refine w3 fun _ _ _ => ?_ | refine w4 fun _ _ _ => ?_ | refine w11 fun _ _ _ => ?_ | refine stb_n ?_)) | ((with_reducible refine w2 ?_); try simp -implicitDefEqProofs only [EN, lsub, lget, stL, beq_self_eq_true, ne_eq, if_true, if_false, List.cons_append, List.nil_append, Option.isNone_some, Option.isNone_none]; intro _ _) | ((with_reducible (first | refine w5 ?_ ?_ | refine w6 ?_ ?_ | refine w7 ?_ ?_)); simp; refine ⟨_, rfl, ?_⟩) | ((with_reducible (first | refine w8 ?_ ?_ ?_ | refine w9 ?_ ?_ ?_ | refine w10 ?_ ?_ ?_)); exact rfl; simp) | ((with_reducible refine w12 ?_ ?_ ?_ fun _ _ => ?_); simp; simp; simp [oneC]) | ((with_reducible (first | refine eqs ?_ | refine nes ?_)); refine ⟨_, rfl, ?_⟩) | ((refine okF_i (bldP_eq rfl) ?_); try simp only [BLS, List.take_succ_cons, List.take_zero, List.drop_succ_cons, List.drop_zero, List.cons_append, List.nil_append, Nat.reduceAdd])) | simp -implicitDefEqProofs only [EN, lsub, lget, stL, beq_self_eq_true, ne_eq, if_true, if_false, List.cons_append, List.nil_append, Option.isNone_some, Option.isNone_none]))
    exact hk _ (St.wk (by first | assumption | exact St.tick (by assumption) | exact St.tick (St.tick (by assumption))))
  | true =>
  cases hw : goodV w with
  | false =>
    rw [if_pos (.inr (.inl hw))] at hk
    have hw2 : goodV ⟨w.x0, w.x1, w.x2, w.x3, w.x4, w.x5, w.x6⟩ = false := hw
    (repeat (first | (first | (with_reducible (first | refine w1 fun _ _ => ?_ | refine w3 fun _ _ _ => ?_ | refine w4 fun _ _ _ => ?_ | refine w11 fun _ _ _ => ?_ | refine stb_n ?_)) | ((with_reducible refine w2 ?_); try simp -implicitDefEqProofs only [EN, lsub, lget, stL, beq_self_eq_true, ne_eq, if_true, if_false, List.cons_append, List.nil_append, Option.isNone_some, Option.isNone_none, hw2]; intro _ _) | ((with_reducible (first | refine w5 ?_ ?_ | refine w6 ?_ ?_ | refine w7 ?_ ?_)); simp; refine ⟨_, rfl, ?_⟩) | ((with_reducible (first | refine w8 ?_ ?_ ?_ | refine w9 ?_ ?_ ?_ | refine w10 ?_ ?_ ?_)); exact rfl; simp) | ((with_reducible refine w12 ?_ ?_ ?_ fun _ _ => ?_); simp; simp; simp [oneC]) | ((with_reducible (first | refine eqs ?_ | refine nes ?_)); refine ⟨_, rfl, ?_⟩) | ((refine okF_i (bldP_eq rfl) ?_); try simp only [BLS, List.take_succ_cons, List.take_zero, List.drop_succ_cons, List.drop_zero, List.cons_append, List.nil_append, Nat.reduceAdd])) | simp -implicitDefEqProofs only [EN, lsub, lget, stL, beq_self_eq_true, ne_eq, if_true, if_false, List.cons_append, List.nil_append, Option.isNone_some, Option.isNone_none, hw2]))
    exact hk _ (St.wk (by first | assumption | exact St.tick (by assumption) | exact St.tick (St.tick (by assumption))))
  | true =>
  have hw2 : goodV ⟨w.x0, w.x1, w.x2, w.x3, w.x4, w.x5, w.x6⟩ = true := hw
  by_cases hl : (65536 : Int) < (bs.length : Int)
  · rw [if_pos (.inr (.inr (by omega)))] at hk
    (repeat (first | (first | (with_reducible (first | refine w1 fun _ _ => ?_ | refine w3 fun _ _ _ => ?_ | refine w4 fun _ _ _ => ?_ | refine w11 fun _ _ _ => ?_ | refine stb_n ?_)) | ((with_reducible refine w2 ?_); try simp -implicitDefEqProofs only [EN, lsub, lget, stL, beq_self_eq_true, ne_eq, if_true, if_false, List.cons_append, List.nil_append, Option.isNone_some, Option.isNone_none, hw2, hl]; intro _ _) | ((with_reducible (first | refine w5 ?_ ?_ | refine w6 ?_ ?_ | refine w7 ?_ ?_)); simp; refine ⟨_, rfl, ?_⟩) | ((with_reducible (first | refine w8 ?_ ?_ ?_ | refine w9 ?_ ?_ ?_ | refine w10 ?_ ?_ ?_)); exact rfl; simp) | ((with_reducible refine w12 ?_ ?_ ?_ fun _ _ => ?_); simp; simp; simp [oneC]) | ((with_reducible (first | refine eqs ?_ | refine nes ?_)); refine ⟨_, rfl, ?_⟩) | ((refine okF_i (bldP_eq rfl) ?_); try simp only [BLS, List.take_succ_cons, List.take_zero, List.drop_succ_cons, List.drop_zero, List.cons_append, List.nil_append, Nat.reduceAdd])) | simp -implicitDefEqProofs only [EN, lsub, lget, stL, beq_self_eq_true, ne_eq, if_true, if_false, List.cons_append, List.nil_append, Option.isNone_some, Option.isNone_none, hw2, hl]))
    exact hk _ (St.wk (by first | assumption | exact St.tick (by assumption) | exact St.tick (St.tick (by assumption))))
  rw [if_neg (by rintro (h | h | h); rw [hg] at h; cases h; rw [hw] at h; cases h; omega)] at hk
  (repeat (first | (first | (with_reducible (first | refine w1 fun _ _ => ?_ | refine w3 fun _ _ _ => ?_ | refine w4 fun _ _ _ => ?_ | refine w11 fun _ _ _ => ?_ | refine stb_n ?_)) | ((with_reducible refine w2 ?_); try simp -implicitDefEqProofs only [EN, lsub, lget, stL, beq_self_eq_true, ne_eq, if_true, if_false, List.cons_append, List.nil_append, Option.isNone_some, Option.isNone_none, hw2, hl]; intro _ _) | ((with_reducible (first | refine w5 ?_ ?_ | refine w6 ?_ ?_ | refine w7 ?_ ?_)); simp; refine ⟨_, rfl, ?_⟩) | ((with_reducible (first | refine w8 ?_ ?_ ?_ | refine w9 ?_ ?_ ?_ | refine w10 ?_ ?_ ?_)); exact rfl; simp) | ((with_reducible refine w12 ?_ ?_ ?_ fun _ _ => ?_); simp; simp; simp [oneC]) | ((with_reducible (first | refine eqs ?_ | refine nes ?_)); refine ⟨_, rfl, ?_⟩) | ((refine okF_i (bldP_eq rfl) ?_); try simp only [BLS, List.take_succ_cons, List.take_zero, List.drop_succ_cons, List.drop_zero, List.cons_append, List.nil_append, Nat.reduceAdd])) | simp -implicitDefEqProofs only [EN, lsub, lget, stL, beq_self_eq_true, ne_eq, if_true, if_false, List.cons_append, List.nil_append, Option.isNone_some, Option.isNone_none, hw2, hl]))
  obtain ⟨⟨ys, r1, r2, m, la, lc, da, dc⟩, hx, h⟩ := exo_at (St.wk (L' := exo p s :: cells wb_ [.int .i64 w.x0, .int .i64 w.x1, .int .i64 w.x2, .int .i64 w.x3, .int .i64 w.x4, .int .i64 w.x5, .int .i64 w.x6] T_vec_Vec :: cells ib [.int .i64 i.d.rep, .int .i64 i.d.n, .int .i64 i.s, .int .i64 i.v.x0, .int .i64 i.v.x1, .int .i64 i.v.x2, .int .i64 i.v.x3, .int .i64 i.v.x4, .int .i64 i.v.x5, .int .i64 i.v.x6] T_order_Inst :: L) (by first | assumption | exact St.tick (by assumption) | exact St.tick (St.tick (by assumption))))
  obtain ⟨hy, hm⟩ := hx
  simp only at hy hm h
  have hgk := kv_get ys i.d
  have hyl : ys.length = s.cs.length := by rw [← hy, List.length_map]
  rw [find_er hy] at hk
  have fin : ∀ W', St W0 (cells p [.int .i64 s.have_.x0, .int .i64 s.have_.x1, .int .i64 s.have_.x2, .int .i64 s.have_.x3, .int .i64 s.have_.x4, .int .i64 s.have_.x5, .int .i64 s.have_.x6, .map (some r1), .slice la s.cs.length lc, .map (some r2), .slice da s.done.length dc] T_exec_Exec :: mp KD r1 (kv ys) :: mp KD r2 m :: arr INS T_order_Inst la lc s.ins :: arr DOT T_api_Dot da dc s.done :: many fch (ys.map (·.b)) :: L) W' → St W0 (exo p s :: L) W' := fun W' h =>
    exo_of ⟨ys, r1, r2, m, la, lc, da, dc⟩ ⟨hy, hm⟩ h
  (repeat (first | (first | (with_reducible (first | refine w1 fun _ _ => ?_ | refine w3 fun _ _ _ => ?_ | refine w4 fun _ _ _ => ?_ | refine w11 fun _ _ _ => ?_ | refine stb_n ?_)) | ((with_reducible refine w2 ?_); try simp -implicitDefEqProofs only [EN, lsub, lget, stL, beq_self_eq_true, ne_eq, if_true, if_false, List.cons_append, List.nil_append, Option.isNone_some, Option.isNone_none]; intro _ _) | ((with_reducible (first | refine w5 ?_ ?_ | refine w6 ?_ ?_ | refine w7 ?_ ?_)); simp; refine ⟨_, rfl, ?_⟩) | ((with_reducible (first | refine w8 ?_ ?_ ?_ | refine w9 ?_ ?_ ?_ | refine w10 ?_ ?_ ?_)); exact rfl; simp) | ((with_reducible refine w12 ?_ ?_ ?_ fun _ _ => ?_); simp; simp; simp [oneC]) | ((with_reducible (first | refine eqs ?_ | refine nes ?_)); refine ⟨_, rfl, ?_⟩) | ((refine okF_i (bldP_eq rfl) ?_); try simp only [BLS, List.take_succ_cons, List.take_zero, List.drop_succ_cons, List.drop_zero, List.cons_append, List.nil_append, Nat.reduceAdd])) | simp -implicitDefEqProofs only [EN, lsub, lget, stL, beq_self_eq_true, ne_eq, if_true, if_false, List.cons_append, List.nil_append, Option.isNone_some, Option.isNone_none]))
  refine lkpOk (K := KD) (z := cmd0) i.d (by first | assumption | exact St.tick (by assumption) | exact St.tick (St.tick (by assumption))) ?_
  cases hf : ys.find? (fun y => decide (y.i.d = i.d)) with
  | some y =>
    rw [hf] at hgk hk
    rw [if_pos (by rfl)] at hk
    rw [Option.map_some] at hgk
    rw [hgk]
    simp only [Option.getD_some, Option.isSome_some]
    (repeat (first | (first | (with_reducible (first | refine w1 fun _ _ => ?_ | refine w3 fun _ _ _ => ?_ | refine w4 fun _ _ _ => ?_ | refine w11 fun _ _ _ => ?_ | refine stb_n ?_)) | ((with_reducible refine w2 ?_); try simp -implicitDefEqProofs only [EN, lsub, lget, stL, beq_self_eq_true, ne_eq, if_true, if_false, List.cons_append, List.nil_append, Option.isNone_some, Option.isNone_none]; intro _ _) | ((with_reducible (first | refine w5 ?_ ?_ | refine w6 ?_ ?_ | refine w7 ?_ ?_)); simp; refine ⟨_, rfl, ?_⟩) | ((with_reducible (first | refine w8 ?_ ?_ ?_ | refine w9 ?_ ?_ ?_ | refine w10 ?_ ?_ ?_)); exact rfl; simp) | ((with_reducible refine w12 ?_ ?_ ?_ fun _ _ => ?_); simp; simp; simp [oneC]) | ((with_reducible (first | refine eqs ?_ | refine nes ?_)); refine ⟨_, rfl, ?_⟩) | ((refine okF_i (bldP_eq rfl) ?_); try simp only [BLS, List.take_succ_cons, List.take_zero, List.drop_succ_cons, List.drop_zero, List.cons_append, List.nil_append, Nat.reduceAdd])) | simp -implicitDefEqProofs only [EN, lsub, lget, stL, beq_self_eq_true, ne_eq, if_true, if_false, List.cons_append, List.nil_append, Option.isNone_some, Option.isNone_none]))
    refine stb_kv (ys := ys) (d := i.d) (by first | assumption | exact St.tick (by assumption) | exact St.tick (St.tick (by assumption))) (by rw [hgk]; rfl) ?_
    (repeat (first | (first | (with_reducible (first | refine w1 fun _ _ => ?_ | refine w3 fun _ _ _ => ?_ | refine w4 fun _ _ _ => ?_ | refine w11 fun _ _ _ => ?_ | refine stb_n ?_)) | ((with_reducible refine w2 ?_); try simp -implicitDefEqProofs only [EN, lsub, lget, stL, beq_self_eq_true, ne_eq, if_true, if_false, List.cons_append, List.nil_append, Option.isNone_some, Option.isNone_none]; intro _ _) | ((with_reducible (first | refine w5 ?_ ?_ | refine w6 ?_ ?_ | refine w7 ?_ ?_)); simp; refine ⟨_, rfl, ?_⟩) | ((with_reducible (first | refine w8 ?_ ?_ ?_ | refine w9 ?_ ?_ ?_ | refine w10 ?_ ?_ ?_)); exact rfl; simp) | ((with_reducible refine w12 ?_ ?_ ?_ fun _ _ => ?_); simp; simp; simp [oneC]) | ((with_reducible (first | refine eqs ?_ | refine nes ?_)); refine ⟨_, rfl, ?_⟩) | ((refine okF_i (bldP_eq rfl) ?_); try simp only [BLS, List.take_succ_cons, List.take_zero, List.drop_succ_cons, List.drop_zero, List.cons_append, List.nil_append, Nat.reduceAdd])) | simp -implicitDefEqProofs only [EN, lsub, lget, stL, beq_self_eq_true, ne_eq, if_true, if_false, List.cons_append, List.nil_append, Option.isNone_some, Option.isNone_none]))
    exact hk _ (fin _ (St.wk (by first | assumption | exact St.tick (by assumption) | exact St.tick (St.tick (by assumption)))))
  | none =>
    rw [hf] at hgk hk
    rw [if_neg (by simp)] at hk
    rw [Option.map_none] at hgk
    rw [hgk]
    simp only [Option.getD_none, Option.isSome_none]
    (repeat (first | (first | (with_reducible (first | refine w1 fun _ _ => ?_ | refine w3 fun _ _ _ => ?_ | refine w4 fun _ _ _ => ?_ | refine w11 fun _ _ _ => ?_ | refine stb_n ?_)) | ((with_reducible refine w2 ?_); try simp -implicitDefEqProofs only [EN, lsub, lget, stL, beq_self_eq_true, ne_eq, if_true, if_false, List.cons_append, List.nil_append, Option.isNone_some, Option.isNone_none]; intro _ _) | ((with_reducible (first | refine w5 ?_ ?_ | refine w6 ?_ ?_ | refine w7 ?_ ?_)); simp; refine ⟨_, rfl, ?_⟩) | ((with_reducible (first | refine w8 ?_ ?_ ?_ | refine w9 ?_ ?_ ?_ | refine w10 ?_ ?_ ?_)); exact rfl; simp) | ((with_reducible refine w12 ?_ ?_ ?_ fun _ _ => ?_); simp; simp; simp [oneC]) | ((with_reducible (first | refine eqs ?_ | refine nes ?_)); refine ⟨_, rfl, ?_⟩) | ((refine okF_i (bldP_eq rfl) ?_); try simp only [BLS, List.take_succ_cons, List.take_zero, List.drop_succ_cons, List.drop_zero, List.cons_append, List.nil_append, Nat.reduceAdd])) | simp -implicitDefEqProofs only [EN, lsub, lget, stL, beq_self_eq_true, ne_eq, if_true, if_false, List.cons_append, List.nil_append, Option.isNone_some, Option.isNone_none]))
    refine stb_kv (ys := ys) (d := i.d) (by first | assumption | exact St.tick (by assumption) | exact St.tick (St.tick (by assumption))) (by rw [hgk]; rfl) ?_
    (repeat (first | (first | (with_reducible (first | refine w1 fun _ _ => ?_ | refine w3 fun _ _ _ => ?_ | refine w4 fun _ _ _ => ?_ | refine w11 fun _ _ _ => ?_ | refine stb_n ?_)) | ((with_reducible refine w2 ?_); try simp -implicitDefEqProofs only [EN, lsub, lget, stL, beq_self_eq_true, ne_eq, if_true, if_false, List.cons_append, List.nil_append, Option.isNone_some, Option.isNone_none]; intro _ _) | ((with_reducible (first | refine w5 ?_ ?_ | refine w6 ?_ ?_ | refine w7 ?_ ?_)); simp; refine ⟨_, rfl, ?_⟩) | ((with_reducible (first | refine w8 ?_ ?_ ?_ | refine w9 ?_ ?_ ?_ | refine w10 ?_ ?_ ?_)); exact rfl; simp) | ((with_reducible refine w12 ?_ ?_ ?_ fun _ _ => ?_); simp; simp; simp [oneC]) | ((with_reducible (first | refine eqs ?_ | refine nes ?_)); refine ⟨_, rfl, ?_⟩) | ((refine okF_i (bldP_eq rfl) ?_); try simp only [BLS, List.take_succ_cons, List.take_zero, List.drop_succ_cons, List.drop_zero, List.cons_append, List.nil_append, Nat.reduceAdd])) | simp -implicitDefEqProofs only [EN, lsub, lget, stL, beq_self_eq_true, ne_eq, if_true, if_false, List.cons_append, List.nil_append, Option.isNone_some, Option.isNone_none]))
    refine mlen (K := KD) (l := kv ys) (by first | assumption | exact St.tick (by assumption) | exact St.tick (St.tick (by assumption))) ?_
    have ekl : (kv ys).length = s.cs.length := by simp [kv, hyl]
    rw [ekl]
    by_cases h1000 : (1000 : Int) ≤ (s.cs.length : Int)
    · rw [if_pos (by omega)] at hk
      (repeat (first | (first | (with_reducible (first | refine w1 fun _ _ => ?_ | refine w3 fun _ _ _ => ?_ | refine w4 fun _ _ _ => ?_ | refine w11 fun _ _ _ => ?_ | refine stb_n ?_)) | ((with_reducible refine w2 ?_); try simp -implicitDefEqProofs only [EN, lsub, lget, stL, beq_self_eq_true, ne_eq, if_true, if_false, List.cons_append, List.nil_append, Option.isNone_some, Option.isNone_none, h1000]; intro _ _) | ((with_reducible (first | refine w5 ?_ ?_ | refine w6 ?_ ?_ | refine w7 ?_ ?_)); simp; refine ⟨_, rfl, ?_⟩) | ((with_reducible (first | refine w8 ?_ ?_ ?_ | refine w9 ?_ ?_ ?_ | refine w10 ?_ ?_ ?_)); exact rfl; simp) | ((with_reducible refine w12 ?_ ?_ ?_ fun _ _ => ?_); simp; simp; simp [oneC]) | ((with_reducible (first | refine eqs ?_ | refine nes ?_)); refine ⟨_, rfl, ?_⟩) | ((refine okF_i (bldP_eq rfl) ?_); try simp only [BLS, List.take_succ_cons, List.take_zero, List.drop_succ_cons, List.drop_zero, List.cons_append, List.nil_append, Nat.reduceAdd])) | simp -implicitDefEqProofs only [EN, lsub, lget, stL, beq_self_eq_true, ne_eq, if_true, if_false, List.cons_append, List.nil_append, Option.isNone_some, Option.isNone_none, h1000]))
      exact hk _ (fin _ (St.wk (by first | assumption | exact St.tick (by assumption) | exact St.tick (St.tick (by assumption)))))
    rw [if_neg (by omega)] at hk
    (repeat (first | (first | (with_reducible (first | refine w1 fun _ _ => ?_ | refine w3 fun _ _ _ => ?_ | refine w4 fun _ _ _ => ?_ | refine w11 fun _ _ _ => ?_ | refine stb_n ?_)) | ((with_reducible refine w2 ?_); try simp -implicitDefEqProofs only [EN, lsub, lget, stL, beq_self_eq_true, ne_eq, if_true, if_false, List.cons_append, List.nil_append, Option.isNone_some, Option.isNone_none, h1000]; intro _ _) | ((with_reducible (first | refine w5 ?_ ?_ | refine w6 ?_ ?_ | refine w7 ?_ ?_)); simp; refine ⟨_, rfl, ?_⟩) | ((with_reducible (first | refine w8 ?_ ?_ ?_ | refine w9 ?_ ?_ ?_ | refine w10 ?_ ?_ ?_)); exact rfl; simp) | ((with_reducible refine w12 ?_ ?_ ?_ fun _ _ => ?_); simp; simp; simp [oneC]) | ((with_reducible (first | refine eqs ?_ | refine nes ?_)); refine ⟨_, rfl, ?_⟩) | ((refine okF_i (bldP_eq rfl) ?_); try simp only [BLS, List.take_succ_cons, List.take_zero, List.drop_succ_cons, List.drop_zero, List.cons_append, List.nil_append, Nat.reduceAdd])) | simp -implicitDefEqProofs only [EN, lsub, lget, stL, beq_self_eq_true, ne_eq, if_true, if_false, List.cons_append, List.nil_append, Option.isNone_some, Option.isNone_none, h1000]))
    refine bytesClone (a := a) (l := bs) (by first | assumption | exact St.tick (by assumption) | exact St.tick (St.tick (by assumption))) (by omega) fun a9 c9 W9 h => ?_
    (repeat (first | (first | (with_reducible (first | refine w1 fun _ _ => ?_ | refine w3 fun _ _ _ => ?_ | refine w4 fun _ _ _ => ?_ | refine w11 fun _ _ _ => ?_ | refine stb_n ?_)) | ((with_reducible refine w2 ?_); try simp -implicitDefEqProofs only [EN, lsub, lget, stL, beq_self_eq_true, ne_eq, if_true, if_false, List.cons_append, List.nil_append, Option.isNone_some, Option.isNone_none]; intro _ _) | ((with_reducible (first | refine w5 ?_ ?_ | refine w6 ?_ ?_ | refine w7 ?_ ?_)); simp; refine ⟨_, rfl, ?_⟩) | ((with_reducible (first | refine w8 ?_ ?_ ?_ | refine w9 ?_ ?_ ?_ | refine w10 ?_ ?_ ?_)); exact rfl; simp) | ((with_reducible refine w12 ?_ ?_ ?_ fun _ _ => ?_); simp; simp; simp [oneC]) | ((with_reducible (first | refine eqs ?_ | refine nes ?_)); refine ⟨_, rfl, ?_⟩) | ((refine okF_i (bldP_eq rfl) ?_); try simp only [BLS, List.take_succ_cons, List.take_zero, List.drop_succ_cons, List.drop_zero, List.cons_append, List.nil_append, Nat.reduceAdd])) | simp -implicitDefEqProofs only [EN, lsub, lget, stL, beq_self_eq_true, ne_eq, if_true, if_false, List.cons_append, List.nil_append, Option.isNone_some, Option.isNone_none]))
    refine mset (K := KD) i.d (by first | assumption | exact St.tick (by assumption) | exact St.tick (St.tick (by assumption))) fun W10 h => ?_
    have hno : ∀ q ∈ kv ys, q.1 ≠ i.d := fun q hq e => by
      obtain ⟨y, hym, rfl⟩ := List.mem_map.1 hq
      exact List.find?_eq_none.1 hf y hym (decide_eq_true e)
    rw [mput_new hno] at h
    have hins : s.ins.length = s.cs.length := by unfold XS.ins; rw [List.length_map]
    (repeat (first | (first | (with_reducible (first | refine w1 fun _ _ => ?_ | refine w3 fun _ _ _ => ?_ | refine w4 fun _ _ _ => ?_ | refine w11 fun _ _ _ => ?_ | refine stb_n ?_)) | ((with_reducible refine w2 ?_); try simp -implicitDefEqProofs only [EN, lsub, lget, stL, beq_self_eq_true, ne_eq, if_true, if_false, List.cons_append, List.nil_append, Option.isNone_some, Option.isNone_none]; intro _ _) | ((with_reducible (first | refine w5 ?_ ?_ | refine w6 ?_ ?_ | refine w7 ?_ ?_)); simp; refine ⟨_, rfl, ?_⟩) | ((with_reducible (first | refine w8 ?_ ?_ ?_ | refine w9 ?_ ?_ ?_ | refine w10 ?_ ?_ ?_)); exact rfl; simp) | ((with_reducible refine w12 ?_ ?_ ?_ fun _ _ => ?_); simp; simp; simp [oneC]) | ((with_reducible (first | refine eqs ?_ | refine nes ?_)); refine ⟨_, rfl, ?_⟩) | ((refine okF_i (bldP_eq rfl) ?_); try simp only [BLS, List.take_succ_cons, List.take_zero, List.drop_succ_cons, List.drop_zero, List.cons_append, List.nil_append, Nat.reduceAdd])) | simp -implicitDefEqProofs only [EN, lsub, lget, stL, beq_self_eq_true, ne_eq, if_true, if_false, List.cons_append, List.nil_append, Option.isNone_some, Option.isNone_none]))
    refine bsA INS [i] (n := 1) (by first | assumption | exact St.tick (by assumption) | exact St.tick (St.tick (by assumption))) rfl rfl (by decide) (by decide) rfl fun a5 c5 W11 h => ?_
    (repeat (first | (first | (with_reducible (first | refine w1 fun _ _ => ?_ | refine w3 fun _ _ _ => ?_ | refine w4 fun _ _ _ => ?_ | refine w11 fun _ _ _ => ?_ | refine stb_n ?_)) | ((with_reducible refine w2 ?_); try simp -implicitDefEqProofs only [EN, lsub, lget, stL, beq_self_eq_true, ne_eq, if_true, if_false, List.cons_append, List.nil_append, Option.isNone_some, Option.isNone_none]; intro _ _) | ((with_reducible (first | refine w5 ?_ ?_ | refine w6 ?_ ?_ | refine w7 ?_ ?_)); simp; refine ⟨_, rfl, ?_⟩) | ((with_reducible (first | refine w8 ?_ ?_ ?_ | refine w9 ?_ ?_ ?_ | refine w10 ?_ ?_ ?_)); exact rfl; simp) | ((with_reducible refine w12 ?_ ?_ ?_ fun _ _ => ?_); simp; simp; simp [oneC]) | ((with_reducible (first | refine eqs ?_ | refine nes ?_)); refine ⟨_, rfl, ?_⟩) | ((refine okF_i (bldP_eq rfl) ?_); try simp only [BLS, List.take_succ_cons, List.take_zero, List.drop_succ_cons, List.drop_zero, List.cons_append, List.nil_append, Nat.reduceAdd])) | simp -implicitDefEqProofs only [EN, lsub, lget, stL, beq_self_eq_true, ne_eq, if_true, if_false, List.cons_append, List.nil_append, Option.isNone_some, Option.isNone_none]))
    rw [← hins]
    refine appA (A := INS) (a := la) (l := s.ins) (m := [i]) (by first | assumption | exact St.tick (by assumption) | exact St.tick (St.tick (by assumption))) rfl (by simp only [List.length_cons, List.length_nil]; omega) (by simp only [List.length_cons, List.length_nil, maxLen]; omega) fun a6 c6 W12 h => ?_
    (repeat (first | (first | (with_reducible (first | refine w1 fun _ _ => ?_ | refine w3 fun _ _ _ => ?_ | refine w4 fun _ _ _ => ?_ | refine w11 fun _ _ _ => ?_ | refine stb_n ?_)) | ((with_reducible refine w2 ?_); try simp -implicitDefEqProofs only [EN, lsub, lget, stL, beq_self_eq_true, ne_eq, if_true, if_false, List.cons_append, List.nil_append, Option.isNone_some, Option.isNone_none]; intro _ _) | ((with_reducible (first | refine w5 ?_ ?_ | refine w6 ?_ ?_ | refine w7 ?_ ?_)); simp; refine ⟨_, rfl, ?_⟩) | ((with_reducible (first | refine w8 ?_ ?_ ?_ | refine w9 ?_ ?_ ?_ | refine w10 ?_ ?_ ?_)); exact rfl; simp) | ((with_reducible refine w12 ?_ ?_ ?_ fun _ _ => ?_); simp; simp; simp [oneC]) | ((with_reducible (first | refine eqs ?_ | refine nes ?_)); refine ⟨_, rfl, ?_⟩) | ((refine okF_i (bldP_eq rfl) ?_); try simp only [BLS, List.take_succ_cons, List.take_zero, List.drop_succ_cons, List.drop_zero, List.cons_append, List.nil_append, Nat.reduceAdd])) | simp -implicitDefEqProofs only [EN, lsub, lget, stL, beq_self_eq_true, ne_eq, if_true, if_false, List.cons_append, List.nil_append, Option.isNone_some, Option.isNone_none]))
    rename_i W13 h
    (try simp only [BLS, List.take_succ_cons, List.take_zero, List.drop_succ_cons, List.drop_zero, List.cons_append, List.nil_append, List.append_nil, List.take_nil, List.drop_nil, stL, Nat.reduceAdd] at h)
    refine hk _ ?_
    have hl6 : (s.ins ++ [i]).length = (s.cs ++ [(⟨i, w, bs⟩ : Cmd)]).length := by simp [hins]
    rw [hl6] at h
    have h := St.wk (L' := fch ⟨a9, c9, bs⟩ :: many fch (ys.map (·.b)) :: cells p [.int .i64 s.have_.x0, .int .i64 s.have_.x1, .int .i64 s.have_.x2, .int .i64 s.have_.x3, .int .i64 s.have_.x4, .int .i64 s.have_.x5, .int .i64 s.have_.x6, .map (some r1), .slice a6 (s.cs ++ [(⟨i, w, bs⟩ : Cmd)]).length c6, .map (some r2), .slice da s.done.length dc] T_exec_Exec ::
      mp KD r1 (kv ys ++ [(i.d, CmdX.val ⟨i, w, ⟨a9, c9, bs⟩⟩)]) :: mp KD r2 m :: arr INS T_order_Inst a6 c6 (s.ins ++ [i]) :: arr DOT T_api_Dot da dc s.done :: L) h
    have h := (h.ent (many_uncons (F := fch) _ _)).ent (many_perm (F := fch) (List.perm_append_comm (l₁ := [(⟨a9, c9, bs⟩ : BSl)]) (l₂ := ys.map CmdX.b)))
    have ek : kv ys ++ [(i.d, CmdX.val ⟨i, w, ⟨a9, c9, bs⟩⟩)] = kv (ys ++ [⟨i, w, ⟨a9, c9, bs⟩⟩]) := by simp [kv]
    have eb : ys.map (·.b) ++ [(⟨a9, c9, bs⟩ : BSl)] = (ys ++ [(⟨i, w, ⟨a9, c9, bs⟩⟩ : CmdX)]).map (·.b) := by simp
    have ei : s.ins ++ [i] = XS.ins ⟨s.have_, s.cs ++ [⟨i, w, bs⟩], s.done⟩ := by simp [XS.ins]
    rw [ek, eb, ei] at h
    refine exo_of (p := p) (L := L) (s := ⟨s.have_, s.cs ++ [⟨i, w, bs⟩], s.done⟩) ⟨ys ++ [⟨i, w, ⟨a9, c9, bs⟩⟩], r1, r2, m, a6, c6, da, dc⟩ ⟨by show (ys ++ _).map CmdX.er = s.cs ++ _; rw [List.map_append, hy]; rfl, hm⟩ ?_
    exact St.wk h
end
end Go.Proofs.Ytkjhccpanedccaa
namespace Go.Proofs.Ytkjhccpanedccaa
set_option linter.unusedVariables false
set_option linter.unusedSimpArgs false
open Go Go.Eng Go.Tar Go.Sort
def XS.mark (s : XS) (d : Dot) : XS := if (s.find d).isSome && !decide (d ∈ s.done) then ⟨s.have_, s.cs, s.done ++ [d]⟩ else s
section
variable {W0 W : World} {L L' : List Asn} {p : Nat} {s : XS}
theorem exo_ok (h : St W0 (exo p s :: L) W) : ∃ (ys : List CmdX) (r1 r2 : Nat) (m : List (Dot × Value)) (la : Option Addr) (lc : Nat) (da : Option Addr) (dc : Nat), ys.map CmdX.er = s.cs ∧ (∀ d, (mget m d).getD (.bool false) = .bool (decide (d ∈ s.done))) ∧
    St W0 (cells p [.int .i64 s.have_.x0, .int .i64 s.have_.x1, .int .i64 s.have_.x2, .int .i64 s.have_.x3, .int .i64 s.have_.x4, .int .i64 s.have_.x5, .int .i64 s.have_.x6, .map (some r1), .slice la s.cs.length lc, .map (some r2), .slice da s.done.length dc] T_exec_Exec :: mp KD r1 (kv ys) :: mp KD r2 m :: arr INS T_order_Inst la lc s.ins :: arr DOT T_api_Dot da dc s.done :: many fch (ys.map (·.b)) :: L) W ∧
    (∀ (s' : XS) W', s'.cs = s.cs → s'.done = s.done → St W0 (cells p [.int .i64 s'.have_.x0, .int .i64 s'.have_.x1, .int .i64 s'.have_.x2, .int .i64 s'.have_.x3, .int .i64 s'.have_.x4, .int .i64 s'.have_.x5, .int .i64 s'.have_.x6, .map (some r1), .slice la s.cs.length lc, .map (some r2), .slice da s.done.length dc] T_exec_Exec :: mp KD r1 (kv ys) :: mp KD r2 m :: arr INS T_order_Inst la lc s.ins :: arr DOT T_api_Dot da dc s.done :: many fch (ys.map (·.b)) :: L) W' → St W0 (exo p s' :: L) W') := by
  obtain ⟨⟨ys, r1, r2, m, la, lc, da, dc⟩, ⟨hy, hm⟩, h⟩ := exo_at h
  refine ⟨ys, r1, r2, m, la, lc, da, dc, hy, hm, h, fun s' W' hc hd h => ?_⟩
  obtain ⟨v, cs, done⟩ := s
  obtain ⟨v', cs', done'⟩ := s'
  simp only at hc hd
  subst hc hd
  exact exo_of (p := p) (L := L) (s := ⟨v', cs', done'⟩) ⟨ys, r1, r2, m, la, lc, da, dc⟩ ⟨hy, hm⟩ h
set_option maxRecDepth 100000 in
set_option maxHeartbeats 8000000 in
theorem execMark {d : Dot} {k : Value → World → Prop} (h : St W0 (exo p s :: L) W) (hl : s.done.length < 1000000)
    (hk : ∀ v W', St W0 (exo p (s.mark d) :: L) W' → k (.bool v) W') : callK PR F_exec_Exec_Mark [.pointer (some ⟨p, 0, none⟩), .agg #[.int .i64 d.rep, .int .i64 d.n]] k W := by
  apply S.exec_Exec_Mark.call
  unfold S.exec_Exec_Mark.body
  refine bxa h fun db W1 h => ?_
  have h : St W0 (cells db [.int .i64 d.rep, .int .i64 d.n] T_api_Dot :: exo p s :: L) W1 := h
  obtain ⟨ys, r1, r2, m, la, lc, da, dc, hy, hm, h, fin⟩ := exo_ok (St.wk (L' := exo p s :: cells db [.int .i64 d.rep, .int .i64 d.n] T_api_Dot :: L) h)
  have hgk := kv_get ys d
  have hmd := hm d
  unfold XS.mark at hk
  rw [find_er hy] at hk
  have fin0 : ∀ W', St W0 (cells p [.int .i64 s.have_.x0, .int .i64 s.have_.x1, .int .i64 s.have_.x2, .int .i64 s.have_.x3, .int .i64 s.have_.x4, .int .i64 s.have_.x5, .int .i64 s.have_.x6, .map (some r1), .slice la s.cs.length lc, .map (some r2), .slice da s.done.length dc] T_exec_Exec :: mp KD r1 (kv ys) :: mp KD r2 m :: arr INS T_order_Inst la lc s.ins :: arr DOT T_api_Dot da dc s.done :: many fch (ys.map (·.b)) :: cells db [.int .i64 d.rep, .int .i64 d.n] T_api_Dot :: L) W' → St W0 (exo p s :: L) W' := fun W' h =>
    St.wk (fin s W' rfl rfl h)
  (repeat (first | (first | (with_reducible (first | refine w1 fun _ _ => ?_ | refine w3 fun _ _ _ => ?_ | refine w4 fun _ _ _ => ?_ | refine w11 fun _ _ _ => ?_ | refine stb_n ?_)) | ((with_reducible refine w2 ?_); try simp -implicitDefEqProofs only [EN, lsub, lget, stL, beq_self_eq_true, ne_eq, if_true, if_false, List.cons_append, List.nil_append, Option.isNone_some, Option.isNone_none]; intro _ _) | ((with_reducible (first | refine w5 ?_ ?_ | refine w6 ?_ ?_ | refine w7 ?_ ?_)); simp; refine ⟨_, rfl, ?_⟩) | ((with_reducible (first | refine w8 ?_ ?_ ?_ | refine w9 ?_ ?_ ?_ | refine w10 ?_ ?_ ?_)); exact rfl; simp) | ((with_reducible refine w12 ?_ ?_ ?_ fun _ _ => ?_); simp; simp; simp [oneC]) | ((with_reducible (first | refine eqs ?_ | refine nes ?_)); refine ⟨_, rfl, ?_⟩) | ((refine okF_i (bldP_eq rfl) ?_); try simp only [BLS, List.take_succ_cons, List.take_zero, List.drop_succ_cons, List.drop_zero, List.cons_append, List.nil_append, Nat.reduceAdd])) | simp -implicitDefEqProofs only [EN, lsub, lget, stL, beq_self_eq_true, ne_eq, if_true, if_false, List.cons_append, List.nil_append, Option.isNone_some, Option.isNone_none]))
  refine lkpOk (K := KD) (z := cmd0) d (by first | assumption | exact St.tick (by assumption) | exact St.tick (St.tick (by assumption))) ?_
  cases hf : ys.find? (fun y => decide (y.i.d = d)) with
  | none =>
    rw [hf] at hgk hk
    rw [if_neg (by simp)] at hk
    rw [Option.map_none] at hgk
    rw [hgk]
    simp only [Option.getD_none, Option.isSome_none]
    (repeat (first | (first | (with_reducible (first | refine w1 fun _ _ => ?_ | refine w3 fun _ _ _ => ?_ | refine w4 fun _ _ _ => ?_ | refine w11 fun _ _ _ => ?_ | refine stb_n ?_)) | ((with_reducible refine w2 ?_); try simp -implicitDefEqProofs only [EN, lsub, lget, stL, beq_self_eq_true, ne_eq, if_true, if_false, List.cons_append, List.nil_append, Option.isNone_some, Option.isNone_none]; intro _ _) | ((with_reducible (first | refine w5 ?_ ?_ | refine w6 ?_ ?_ | refine w7 ?_ ?_)); simp; refine ⟨_, rfl, ?_⟩) | ((with_reducible (first | refine w8 ?_ ?_ ?_ | refine w9 ?_ ?_ ?_ | refine w10 ?_ ?_ ?_)); exact rfl; simp) | ((with_reducible refine w12 ?_ ?_ ?_ fun _ _ => ?_); simp; simp; simp [oneC]) | ((with_reducible (first | refine eqs ?_ | refine nes ?_)); refine ⟨_, rfl, ?_⟩) | ((refine okF_i (bldP_eq rfl) ?_); try simp only [BLS, List.take_succ_cons, List.take_zero, List.drop_succ_cons, List.drop_zero, List.cons_append, List.nil_append, Nat.reduceAdd])) | simp -implicitDefEqProofs only [EN, lsub, lget, stL, beq_self_eq_true, ne_eq, if_true, if_false, List.cons_append, List.nil_append, Option.isNone_some, Option.isNone_none]))
    refine stb_kv (ys := ys) (d := d) (by first | assumption | exact St.tick (by assumption) | exact St.tick (St.tick (by assumption))) (by rw [hgk]; rfl) ?_
    (repeat (first | (first | (with_reducible (first | refine w1 fun _ _ => ?_ | refine w3 fun _ _ _ => ?_ | refine w4 fun _ _ _ => ?_ | refine w11 fun _ _ _ => ?_ | refine stb_n ?_)) | ((with_reducible refine w2 ?_); try simp -implicitDefEqProofs only [EN, lsub, lget, stL, beq_self_eq_true, ne_eq, if_true, if_false, List.cons_append, List.nil_append, Option.isNone_some, Option.isNone_none]; intro _ _) | ((with_reducible (first | refine w5 ?_ ?_ | refine w6 ?_ ?_ | refine w7 ?_ ?_)); simp; refine ⟨_, rfl, ?_⟩) | ((with_reducible (first | refine w8 ?_ ?_ ?_ | refine w9 ?_ ?_ ?_ | refine w10 ?_ ?_ ?_)); exact rfl; simp) | ((with_reducible refine w12 ?_ ?_ ?_ fun _ _ => ?_); simp; simp; simp [oneC]) | ((with_reducible (first | refine eqs ?_ | refine nes ?_)); refine ⟨_, rfl, ?_⟩) | ((refine okF_i (bldP_eq rfl) ?_); try simp only [BLS, List.take_succ_cons, List.take_zero, List.drop_succ_cons, List.drop_zero, List.cons_append, List.nil_append, Nat.reduceAdd])) | simp -implicitDefEqProofs only [EN, lsub, lget, stL, beq_self_eq_true, ne_eq, if_true, if_false, List.cons_append, List.nil_append, Option.isNone_some, Option.isNone_none]))
    exact hk _ _ (fin0 _ (St.wk (by first | assumption | exact St.tick (by assumption) | exact St.tick (St.tick (by assumption)))))
  | some y =>
    rw [hf] at hgk hk
    simp only [Option.map_some, Option.isSome_some, Bool.true_and] at hk
    rw [Option.map_some] at hgk
    rw [hgk]
    simp only [Option.getD_some, Option.isSome_some]
    (repeat (first | (first | (with_reducible (first | refine w1 fun _ _ => ?_ | refine w3 fun _ _ _ => ?_ | refine w4 fun _ _ _ => ?_ | refine w11 fun _ _ _ => ?_ | refine stb_n ?_)) | ((with_reducible refine w2 ?_); try simp -implicitDefEqProofs only [EN, lsub, lget, stL, beq_self_eq_true, ne_eq, if_true, if_false, List.cons_append, List.nil_append, Option.isNone_some, Option.isNone_none]; intro _ _) | ((with_reducible (first | refine w5 ?_ ?_ | refine w6 ?_ ?_ | refine w7 ?_ ?_)); simp; refine ⟨_, rfl, ?_⟩) | ((with_reducible (first | refine w8 ?_ ?_ ?_ | refine w9 ?_ ?_ ?_ | refine w10 ?_ ?_ ?_)); exact rfl; simp) | ((with_reducible refine w12 ?_ ?_ ?_ fun _ _ => ?_); simp; simp; simp [oneC]) | ((with_reducible (first | refine eqs ?_ | refine nes ?_)); refine ⟨_, rfl, ?_⟩) | ((refine okF_i (bldP_eq rfl) ?_); try simp only [BLS, List.take_succ_cons, List.take_zero, List.drop_succ_cons, List.drop_zero, List.cons_append, List.nil_append, Nat.reduceAdd])) | simp -implicitDefEqProofs only [EN, lsub, lget, stL, beq_self_eq_true, ne_eq, if_true, if_false, List.cons_append, List.nil_append, Option.isNone_some, Option.isNone_none]))
    refine stb_kv (ys := ys) (d := d) (by first | assumption | exact St.tick (by assumption) | exact St.tick (St.tick (by assumption))) (by rw [hgk]; rfl) ?_
    (repeat (first | (first | (with_reducible (first | refine w1 fun _ _ => ?_ | refine w3 fun _ _ _ => ?_ | refine w4 fun _ _ _ => ?_ | refine w11 fun _ _ _ => ?_ | refine stb_n ?_)) | ((with_reducible refine w2 ?_); try simp -implicitDefEqProofs only [EN, lsub, lget, stL, beq_self_eq_true, ne_eq, if_true, if_false, List.cons_append, List.nil_append, Option.isNone_some, Option.isNone_none]; intro _ _) | ((with_reducible (first | refine w5 ?_ ?_ | refine w6 ?_ ?_ | refine w7 ?_ ?_)); simp; refine ⟨_, rfl, ?_⟩) | ((with_reducible (first | refine w8 ?_ ?_ ?_ | refine w9 ?_ ?_ ?_ | refine w10 ?_ ?_ ?_)); exact rfl; simp) | ((with_reducible refine w12 ?_ ?_ ?_ fun _ _ => ?_); simp; simp; simp [oneC]) | ((with_reducible (first | refine eqs ?_ | refine nes ?_)); refine ⟨_, rfl, ?_⟩) | ((refine okF_i (bldP_eq rfl) ?_); try simp only [BLS, List.take_succ_cons, List.take_zero, List.drop_succ_cons, List.drop_zero, List.cons_append, List.nil_append, Nat.reduceAdd])) | simp -implicitDefEqProofs only [EN, lsub, lget, stL, beq_self_eq_true, ne_eq, if_true, if_false, List.cons_append, List.nil_append, Option.isNone_some, Option.isNone_none]))
    refine lkp (K := KD) (z := .bool false) d (by first | assumption | exact St.tick (by assumption) | exact St.tick (St.tick (by assumption))) ?_
    rw [hmd]
    by_cases hin : d ∈ s.done
    · rw [decide_eq_true hin] at hk ⊢
      simp only [Bool.not_true, Bool.false_eq_true, if_false] at hk
      (repeat (first | (first | (with_reducible (first | refine w1 fun _ _ => ?_ | refine w3 fun _ _ _ => ?_ | refine w4 fun _ _ _ => ?_ | refine w11 fun _ _ _ => ?_ | refine stb_n ?_)) | ((with_reducible refine w2 ?_); try simp -implicitDefEqProofs only [EN, lsub, lget, stL, beq_self_eq_true, ne_eq, if_true, if_false, List.cons_append, List.nil_append, Option.isNone_some, Option.isNone_none]; intro _ _) | ((with_reducible (first | refine w5 ?_ ?_ | refine w6 ?_ ?_ | refine w7 ?_ ?_)); simp; refine ⟨_, rfl, ?_⟩) | ((with_reducible (first | refine w8 ?_ ?_ ?_ | refine w9 ?_ ?_ ?_ | refine w10 ?_ ?_ ?_)); exact rfl; simp) | ((with_reducible refine w12 ?_ ?_ ?_ fun _ _ => ?_); simp; simp; simp [oneC]) | ((with_reducible (first | refine eqs ?_ | refine nes ?_)); refine ⟨_, rfl, ?_⟩) | ((refine okF_i (bldP_eq rfl) ?_); try simp only [BLS, List.take_succ_cons, List.take_zero, List.drop_succ_cons, List.drop_zero, List.cons_append, List.nil_append, Nat.reduceAdd])) | simp -implicitDefEqProofs only [EN, lsub, lget, stL, beq_self_eq_true, ne_eq, if_true, if_false, List.cons_append, List.nil_append, Option.isNone_some, Option.isNone_none]))
      exact hk _ _ (fin0 _ (St.wk (by first | assumption | exact St.tick (by assumption) | exact St.tick (St.tick (by assumption)))))
    · rw [decide_eq_false hin] at hk ⊢
      simp only [Bool.not_false, if_true] at hk
      (repeat (first | (first | (with_reducible (first | refine w1 fun _ _ => ?_ | refine w3 fun _ _ _ => ?_ | refine w4 fun _ _ _ => ?_ | refine w11 fun _ _ _ => ?_ | refine stb_n ?_)) | ((with_reducible refine w2 ?_); try simp -implicitDefEqProofs only [EN, lsub, lget, stL, beq_self_eq_true, ne_eq, if_true, if_false, List.cons_append, List.nil_append, Option.isNone_some, Option.isNone_none]; intro _ _) | ((with_reducible (first | refine w5 ?_ ?_ | refine w6 ?_ ?_ | refine w7 ?_ ?_)); simp; refine ⟨_, rfl, ?_⟩) | ((with_reducible (first | refine w8 ?_ ?_ ?_ | refine w9 ?_ ?_ ?_ | refine w10 ?_ ?_ ?_)); exact rfl; simp) | ((with_reducible refine w12 ?_ ?_ ?_ fun _ _ => ?_); simp; simp; simp [oneC]) | ((with_reducible (first | refine eqs ?_ | refine nes ?_)); refine ⟨_, rfl, ?_⟩) | ((refine okF_i (bldP_eq rfl) ?_); try simp only [BLS, List.take_succ_cons, List.take_zero, List.drop_succ_cons, List.drop_zero, List.cons_append, List.nil_append, Nat.reduceAdd])) | simp -implicitDefEqProofs only [EN, lsub, lget, stL, beq_self_eq_true, ne_eq, if_true, if_false, List.cons_append, List.nil_append, Option.isNone_some, Option.isNone_none]))
      refine mset (K := KD) d (by first | assumption | exact St.tick (by assumption) | exact St.tick (St.tick (by assumption))) fun W10 h => ?_
      (repeat (first | (first | (with_reducible (first | refine w1 fun _ _ => ?_ | refine w3 fun _ _ _ => ?_ | refine w4 fun _ _ _ => ?_ | refine w11 fun _ _ _ => ?_ | refine stb_n ?_)) | ((with_reducible refine w2 ?_); try simp -implicitDefEqProofs only [EN, lsub, lget, stL, beq_self_eq_true, ne_eq, if_true, if_false, List.cons_append, List.nil_append, Option.isNone_some, Option.isNone_none]; intro _ _) | ((with_reducible (first | refine w5 ?_ ?_ | refine w6 ?_ ?_ | refine w7 ?_ ?_)); simp; refine ⟨_, rfl, ?_⟩) | ((with_reducible (first | refine w8 ?_ ?_ ?_ | refine w9 ?_ ?_ ?_ | refine w10 ?_ ?_ ?_)); exact rfl; simp) | ((with_reducible refine w12 ?_ ?_ ?_ fun _ _ => ?_); simp; simp; simp [oneC]) | ((with_reducible (first | refine eqs ?_ | refine nes ?_)); refine ⟨_, rfl, ?_⟩) | ((refine okF_i (bldP_eq rfl) ?_); try simp only [BLS, List.take_succ_cons, List.take_zero, List.drop_succ_cons, List.drop_zero, List.cons_append, List.nil_append, Nat.reduceAdd])) | simp -implicitDefEqProofs only [EN, lsub, lget, stL, beq_self_eq_true, ne_eq, if_true, if_false, List.cons_append, List.nil_append, Option.isNone_some, Option.isNone_none]))
      refine bsA DOT [d] (n := 1) (by first | assumption | exact St.tick (by assumption) | exact St.tick (St.tick (by assumption))) rfl rfl (by decide) (by decide) rfl fun a5 c5 W11 h => ?_
      (repeat (first | (first | (with_reducible (first | refine w1 fun _ _ => ?_ | refine w3 fun _ _ _ => ?_ | refine w4 fun _ _ _ => ?_ | refine w11 fun _ _ _ => ?_ | refine stb_n ?_)) | ((with_reducible refine w2 ?_); try simp -implicitDefEqProofs only [EN, lsub, lget, stL, beq_self_eq_true, ne_eq, if_true, if_false, List.cons_append, List.nil_append, Option.isNone_some, Option.isNone_none]; intro _ _) | ((with_reducible (first | refine w5 ?_ ?_ | refine w6 ?_ ?_ | refine w7 ?_ ?_)); simp; refine ⟨_, rfl, ?_⟩) | ((with_reducible (first | refine w8 ?_ ?_ ?_ | refine w9 ?_ ?_ ?_ | refine w10 ?_ ?_ ?_)); exact rfl; simp) | ((with_reducible refine w12 ?_ ?_ ?_ fun _ _ => ?_); simp; simp; simp [oneC]) | ((with_reducible (first | refine eqs ?_ | refine nes ?_)); refine ⟨_, rfl, ?_⟩) | ((refine okF_i (bldP_eq rfl) ?_); try simp only [BLS, List.take_succ_cons, List.take_zero, List.drop_succ_cons, List.drop_zero, List.cons_append, List.nil_append, Nat.reduceAdd])) | simp -implicitDefEqProofs only [EN, lsub, lget, stL, beq_self_eq_true, ne_eq, if_true, if_false, List.cons_append, List.nil_append, Option.isNone_some, Option.isNone_none]))
      refine appA (A := DOT) (a := da) (l := s.done) (m := [d]) (by first | assumption | exact St.tick (by assumption) | exact St.tick (St.tick (by assumption))) rfl (by simp only [List.length_cons, List.length_nil]; omega) (by simp only [List.length_cons, List.length_nil, maxLen]; omega) fun a6 c6 W12 h => ?_
      (repeat (first | (first | (with_reducible (first | refine w1 fun _ _ => ?_ | refine w3 fun _ _ _ => ?_ | refine w4 fun _ _ _ => ?_ | refine w11 fun _ _ _ => ?_ | refine stb_n ?_)) | ((with_reducible refine w2 ?_); try simp -implicitDefEqProofs only [EN, lsub, lget, stL, beq_self_eq_true, ne_eq, if_true, if_false, List.cons_append, List.nil_append, Option.isNone_some, Option.isNone_none]; intro _ _) | ((with_reducible (first | refine w5 ?_ ?_ | refine w6 ?_ ?_ | refine w7 ?_ ?_)); simp; refine ⟨_, rfl, ?_⟩) | ((with_reducible (first | refine w8 ?_ ?_ ?_ | refine w9 ?_ ?_ ?_ | refine w10 ?_ ?_ ?_)); exact rfl; simp) | ((with_reducible refine w12 ?_ ?_ ?_ fun _ _ => ?_); simp; simp; simp [oneC]) | ((with_reducible (first | refine eqs ?_ | refine nes ?_)); refine ⟨_, rfl, ?_⟩) | ((refine okF_i (bldP_eq rfl) ?_); try simp only [BLS, List.take_succ_cons, List.take_zero, List.drop_succ_cons, List.drop_zero, List.cons_append, List.nil_append, Nat.reduceAdd])) | simp -implicitDefEqProofs only [EN, lsub, lget, stL, beq_self_eq_true, ne_eq, if_true, if_false, List.cons_append, List.nil_append, Option.isNone_some, Option.isNone_none]))
      rename_i W13 h
      (try simp only [BLS, List.take_succ_cons, List.take_zero, List.drop_succ_cons, List.drop_zero, List.cons_append, List.nil_append, List.append_nil, List.take_nil, List.drop_nil, stL, Nat.reduceAdd] at h)
      refine hk _ _ ?_
      refine exo_of (p := p) (L := L) (s := ⟨s.have_, s.cs, s.done ++ [d]⟩) ⟨ys, r1, r2, mput m d (.bool true), la, lc, a6, c6⟩ ⟨hy, fun e => ?_⟩ ?_
      · show (mget (mput m d (.bool true)) e).getD (.bool false) = .bool (decide (e ∈ s.done ++ [d]))
        rw [mget_mput]
        by_cases he : d = e
        · rw [if_pos he]; subst he; simp
        · rw [if_neg he, hm e]
          have : e ∈ s.done ++ [d] ↔ e ∈ s.done := by
            rw [List.mem_append, List.mem_singleton]
            exact ⟨fun h => h.resolve_right fun h => he h.symm, .inl⟩
          rw [decide_eq_decide.2 this]
      · exact St.wk h
theorem dotClone {a : Option Addr} {l : List Dot} {c : Nat} {k : Value → World → Prop} (h : St W0 L W) [hr : Rd W0 L a DOT l] (hl : l.length < 1000000)
    (hk : ∀ a' c' W', St W0 (arr DOT T_api_Dot a' c' l :: L) W' → k (.slice a' l.length c') W') : callK PR F_slices_Clone_api_Dot_api_Dot [.slice a l.length c] k W := by
  apply S.slices_Clone_api_Dot_api_Dot.call
  unfold S.slices_Clone_api_Dot_api_Dot.body
  cases a with
  | none =>
    have hl0 : l = [] := by
      rcases Classical.em (l = []) with h0 | h0
      · exact h0
      · obtain ⟨g, o, h1, _⟩ := Rd.at (A := DOT) (l := l) (a := none) h h0
        cases h1
    subst hl0
    simp -implicitDefEqProofs only [EN, lsub, lget, stL, beq_self_eq_true, ne_eq, if_true, if_false, List.cons_append, List.nil_append, Option.isNone_some, Option.isNone_none]
    exact hk none 0 W (h.ent (arr_nil _ _))
  | some ad =>
    simp -implicitDefEqProofs only [EN, lsub, lget, stL, beq_self_eq_true, ne_eq, if_true, if_false, List.cons_append, List.nil_append, Option.isNone_some, Option.isNone_none]
    refine bs0 DOT h fun a1 c1 W1 h1 => ?_
    refine appA (a := a1) (l := []) (m := l) h1 rfl (by simp; omega) (by simp [maxLen]; omega) fun a2 c2 W2 h2 => ?_
    exact hk a2 c2 W2 h2
theorem execDone {k : Value → World → Prop} (h : St W0 (exo p s :: L) W) (hl : s.done.length < 1000000)
    (hk : ∀ a c W', St W0 (arr DOT T_api_Dot a c s.done :: exo p s :: L) W' → k (.slice a s.done.length c) W') : callK PR F_exec_Exec_Done [.pointer (some ⟨p, 0, none⟩)] k W := by
  apply S.exec_Exec_Done.call
  unfold S.exec_Exec_Done.body
  obtain ⟨ys, r1, r2, m, la, lc, da, dc, hy, hm, h, fin⟩ := exo_ok h
  (repeat (first | (first | (with_reducible (first | refine w1 fun _ _ => ?_ | refine w3 fun _ _ _ => ?_ | refine w4 fun _ _ _ => ?_ | refine w11 fun _ _ _ => ?_ | refine stb_n ?_)) | ((with_reducible refine w2 ?_); try simp -implicitDefEqProofs only [EN, lsub, lget, stL, beq_self_eq_true, ne_eq, if_true, if_false, List.cons_append, List.nil_append, Option.isNone_some, Option.isNone_none]; intro _ _) | ((with_reducible (first | refine w5 ?_ ?_ | refine w6 ?_ ?_ | refine w7 ?_ ?_)); simp; refine ⟨_, rfl, ?_⟩) | ((with_reducible (first | refine w8 ?_ ?_ ?_ | refine w9 ?_ ?_ ?_ | refine w10 ?_ ?_ ?_)); exact rfl; simp) | ((with_reducible refine w12 ?_ ?_ ?_ fun _ _ => ?_); simp; simp; simp [oneC]) | ((with_reducible (first | refine eqs ?_ | refine nes ?_)); refine ⟨_, rfl, ?_⟩) | ((refine okF_i (bldP_eq rfl) ?_); try simp only [BLS, List.take_succ_cons, List.take_zero, List.drop_succ_cons, List.drop_zero, List.cons_append, List.nil_append, Nat.reduceAdd])) | simp -implicitDefEqProofs only [EN, lsub, lget, stL, beq_self_eq_true, ne_eq, if_true, if_false, List.cons_append, List.nil_append, Option.isNone_some, Option.isNone_none]))
  refine dotClone (a := da) (l := s.done) h hl fun a c W1 h => ?_
  (repeat (first | (first | (with_reducible (first | refine w1 fun _ _ => ?_ | refine w3 fun _ _ _ => ?_ | refine w4 fun _ _ _ => ?_ | refine w11 fun _ _ _ => ?_ | refine stb_n ?_)) | ((with_reducible refine w2 ?_); try simp -implicitDefEqProofs only [EN, lsub, lget, stL, beq_self_eq_true, ne_eq, if_true, if_false, List.cons_append, List.nil_append, Option.isNone_some, Option.isNone_none]; intro _ _) | ((with_reducible (first | refine w5 ?_ ?_ | refine w6 ?_ ?_ | refine w7 ?_ ?_)); simp; refine ⟨_, rfl, ?_⟩) | ((with_reducible (first | refine w8 ?_ ?_ ?_ | refine w9 ?_ ?_ ?_ | refine w10 ?_ ?_ ?_)); exact rfl; simp) | ((with_reducible refine w12 ?_ ?_ ?_ fun _ _ => ?_); simp; simp; simp [oneC]) | ((with_reducible (first | refine eqs ?_ | refine nes ?_)); refine ⟨_, rfl, ?_⟩) | ((refine okF_i (bldP_eq rfl) ?_); try simp only [BLS, List.take_succ_cons, List.take_zero, List.drop_succ_cons, List.drop_zero, List.cons_append, List.nil_append, Nat.reduceAdd])) | simp -implicitDefEqProofs only [EN, lsub, lget, stL, beq_self_eq_true, ne_eq, if_true, if_false, List.cons_append, List.nil_append, Option.isNone_some, Option.isNone_none]))
  have h2 : St W0 (cells p [.int .i64 s.have_.x0, .int .i64 s.have_.x1, .int .i64 s.have_.x2, .int .i64 s.have_.x3, .int .i64 s.have_.x4, .int .i64 s.have_.x5, .int .i64 s.have_.x6, .map (some r1), .slice la s.cs.length lc, .map (some r2), .slice da s.done.length dc] T_exec_Exec :: mp KD r1 (kv ys) :: mp KD r2 m :: arr INS T_order_Inst la lc s.ins :: arr DOT T_api_Dot da dc s.done :: many fch (ys.map (·.b)) :: arr DOT T_api_Dot a c s.done :: L) W1 := St.wk h
  refine hk a c _ ?_
  have h3 := exo_of (p := p) (L := arr DOT T_api_Dot a c s.done :: L) (s := s) ⟨ys, r1, r2, m, la, lc, da, dc⟩ ⟨hy, hm⟩ h2
  exact St.wk h3
theorem execWaits {k : Value → World → Prop} (h : St W0 (exo p s :: L) W) (hl : s.done.length < 1000000) (hl2 : s.cs.length < 1000000)
    (hk : ∀ W', St W0 (exo p s :: L) W' → k (.int .i64 ((s.cs.length : Int) - s.done.length)) W') : callK PR F_exec_Exec_Waits [.pointer (some ⟨p, 0, none⟩)] k W := by
  apply S.exec_Exec_Waits.call
  unfold S.exec_Exec_Waits.body
  obtain ⟨ys, r1, r2, m, la, lc, da, dc, hy, hm, h, fin⟩ := exo_ok h
  have ew : IntKind.i64.wrap ((s.cs.length : Int) - s.done.length) = (s.cs.length : Int) - s.done.length := by rw [i64w]; omega
  (repeat (first | (first | (with_reducible (first | refine w1 fun _ _ => ?_ | refine w3 fun _ _ _ => ?_ | refine w4 fun _ _ _ => ?_ | refine w11 fun _ _ _ => ?_ | refine stb_n ?_)) | ((with_reducible refine w2 ?_); try simp -implicitDefEqProofs only [EN, lsub, lget, stL, beq_self_eq_true, ne_eq, if_true, if_false, List.cons_append, List.nil_append, Option.isNone_some, Option.isNone_none, ew]; intro _ _) | ((with_reducible (first | refine w5 ?_ ?_ | refine w6 ?_ ?_ | refine w7 ?_ ?_)); simp; refine ⟨_, rfl, ?_⟩) | ((with_reducible (first | refine w8 ?_ ?_ ?_ | refine w9 ?_ ?_ ?_ | refine w10 ?_ ?_ ?_)); exact rfl; simp) | ((with_reducible refine w12 ?_ ?_ ?_ fun _ _ => ?_); simp; simp; simp [oneC]) | ((with_reducible (first | refine eqs ?_ | refine nes ?_)); refine ⟨_, rfl, ?_⟩) | ((refine okF_i (bldP_eq rfl) ?_); try simp only [BLS, List.take_succ_cons, List.take_zero, List.drop_succ_cons, List.drop_zero, List.cons_append, List.nil_append, Nat.reduceAdd])) | simp -implicitDefEqProofs only [EN, lsub, lget, stL, beq_self_eq_true, ne_eq, if_true, if_false, List.cons_append, List.nil_append, Option.isNone_some, Option.isNone_none, ew]))
  exact hk _ (fin s _ rfl rfl (by first | assumption | exact St.tick (by assumption) | exact St.tick (St.tick (by assumption))))
theorem bytesNil {c : Nat} {k : Value → World → Prop} (h : St W0 L W) (hk : ∀ a' c' W', St W0 (arr B8 T_uint8 a' c' [] :: L) W' → k (.slice a' 0 c') W') : callK PR F_bytes_Clone [.slice none 0 c] k W := by
  haveI : Rd W0 L none B8 [] := Rd.nil _ _ _ _
  exact bytesClone (l := []) h (by decide) hk
/-- the body of a command, none if there is none -/
def XS.bodyOf (s : XS) (d : Dot) : List UInt8 := match s.find d with
  | some c => c.bs
  | none => []
set_option maxRecDepth 100000 in
set_option maxHeartbeats 8000000 in
theorem execBody {d : Dot} {k : Value → World → Prop} (h : St W0 (exo p s :: L) W) (hl : ∀ c ∈ s.cs, c.bs.length ≤ 65536)
    (hk : ∀ a c W', St W0 (arr B8 T_uint8 a c (s.bodyOf d) :: exo p s :: L) W' → k (.tuple #[.slice a (s.bodyOf d).length c, .bool (s.find d).isSome]) W') :
    callK PR F_exec_Exec_Body [.pointer (some ⟨p, 0, none⟩), .agg #[.int .i64 d.rep, .int .i64 d.n]] k W := by
  apply S.exec_Exec_Body.call
  unfold S.exec_Exec_Body.body
  refine bxa h fun db W1 h => ?_
  have h : St W0 (cells db [.int .i64 d.rep, .int .i64 d.n] T_api_Dot :: exo p s :: L) W1 := h
  obtain ⟨ys, r1, r2, m, la, lc, da, dc, hy, hm, h, fin⟩ := exo_ok (St.wk (L' := exo p s :: cells db [.int .i64 d.rep, .int .i64 d.n] T_api_Dot :: L) h)
  have hgk := kv_get ys d
  unfold XS.bodyOf at hk
  rw [find_er hy] at hk
  have fin0 : ∀ a c (bs : List UInt8) W', St W0 (cells p [.int .i64 s.have_.x0, .int .i64 s.have_.x1, .int .i64 s.have_.x2, .int .i64 s.have_.x3, .int .i64 s.have_.x4, .int .i64 s.have_.x5, .int .i64 s.have_.x6, .map (some r1), .slice la s.cs.length lc, .map (some r2), .slice da s.done.length dc] T_exec_Exec :: mp KD r1 (kv ys) :: mp KD r2 m :: arr INS T_order_Inst la lc s.ins :: arr DOT T_api_Dot da dc s.done :: many fch (ys.map (·.b)) :: arr B8 T_uint8 a c bs :: L) W' → St W0 (arr B8 T_uint8 a c bs :: exo p s :: L) W' := fun a c bs W' h =>
    St.wk (exo_of (p := p) (L := arr B8 T_uint8 a c bs :: L) (s := s) ⟨ys, r1, r2, m, la, lc, da, dc⟩ ⟨hy, hm⟩ h)
  (repeat (first | (first | (with_reducible (first | refine w1 fun _ _ => ?_ | refine w3 fun _ _ _ => ?_ | refine w4 fun _ _ _ => ?_ | refine w11 fun _ _ _ => ?_ | refine stb_n ?_)) | ((with_reducible refine w2 ?_); try simp -implicitDefEqProofs only [EN, lsub, lget, stL, beq_self_eq_true, ne_eq, if_true, if_false, List.cons_append, List.nil_append, Option.isNone_some, Option.isNone_none]; intro _ _) | ((with_reducible (first | refine w5 ?_ ?_ | refine w6 ?_ ?_ | refine w7 ?_ ?_)); simp; refine ⟨_, rfl, ?_⟩) | ((with_reducible (first | refine w8 ?_ ?_ ?_ | refine w9 ?_ ?_ ?_ | refine w10 ?_ ?_ ?_)); exact rfl; simp) | ((with_reducible refine w12 ?_ ?_ ?_ fun _ _ => ?_); simp; simp; simp [oneC]) | ((with_reducible (first | refine eqs ?_ | refine nes ?_)); refine ⟨_, rfl, ?_⟩) | ((refine okF_i (bldP_eq rfl) ?_); try simp only [BLS, List.take_succ_cons, List.take_zero, List.drop_succ_cons, List.drop_zero, List.cons_append, List.nil_append, Nat.reduceAdd])) | simp -implicitDefEqProofs only [EN, lsub, lget, stL, beq_self_eq_true, ne_eq, if_true, if_false, List.cons_append, List.nil_append, Option.isNone_some, Option.isNone_none]))
  refine lkpOk (K := KD) (z := cmd0) d (by first | assumption | exact St.tick (by assumption) | exact St.tick (St.tick (by assumption))) ?_
  cases hf : ys.find? (fun y => decide (y.i.d = d)) with
  | none =>
    rw [hf] at hgk hk
    rw [Option.map_none] at hgk
    rw [hgk]
    simp only [Option.getD_none, Option.isSome_none, Option.map_none] at hk ⊢
    (repeat (first | (first | (with_reducible (first | refine w1 fun _ _ => ?_ | refine w3 fun _ _ _ => ?_ | refine w4 fun _ _ _ => ?_ | refine w11 fun _ _ _ => ?_ | refine stb_n ?_)) | ((with_reducible refine w2 ?_); try simp -implicitDefEqProofs only [EN, lsub, lget, stL, beq_self_eq_true, ne_eq, if_true, if_false, List.cons_append, List.nil_append, Option.isNone_some, Option.isNone_none]; intro _ _) | ((with_reducible (first | refine w5 ?_ ?_ | refine w6 ?_ ?_ | refine w7 ?_ ?_)); simp; refine ⟨_, rfl, ?_⟩) | ((with_reducible (first | refine w8 ?_ ?_ ?_ | refine w9 ?_ ?_ ?_ | refine w10 ?_ ?_ ?_)); exact rfl; simp) | ((with_reducible refine w12 ?_ ?_ ?_ fun _ _ => ?_); simp; simp; simp [oneC]) | ((with_reducible (first | refine eqs ?_ | refine nes ?_)); refine ⟨_, rfl, ?_⟩) | ((refine okF_i (bldP_eq rfl) ?_); try simp only [BLS, List.take_succ_cons, List.take_zero, List.drop_succ_cons, List.drop_zero, List.cons_append, List.nil_append, Nat.reduceAdd])) | simp -implicitDefEqProofs only [EN, lsub, lget, stL, beq_self_eq_true, ne_eq, if_true, if_false, List.cons_append, List.nil_append, Option.isNone_some, Option.isNone_none]))
    refine stb_kv (ys := ys) (d := d) (by first | assumption | exact St.tick (by assumption) | exact St.tick (St.tick (by assumption))) (by rw [hgk]; rfl) ?_
    (repeat (first | (first | (with_reducible (first | refine w1 fun _ _ => ?_ | refine w3 fun _ _ _ => ?_ | refine w4 fun _ _ _ => ?_ | refine w11 fun _ _ _ => ?_ | refine stb_n ?_)) | ((with_reducible refine w2 ?_); try simp -implicitDefEqProofs only [EN, lsub, lget, stL, beq_self_eq_true, ne_eq, if_true, if_false, List.cons_append, List.nil_append, Option.isNone_some, Option.isNone_none]; intro _ _) | ((with_reducible (first | refine w5 ?_ ?_ | refine w6 ?_ ?_ | refine w7 ?_ ?_)); simp; refine ⟨_, rfl, ?_⟩) | ((with_reducible (first | refine w8 ?_ ?_ ?_ | refine w9 ?_ ?_ ?_ | refine w10 ?_ ?_ ?_)); exact rfl; simp) | ((with_reducible refine w12 ?_ ?_ ?_ fun _ _ => ?_); simp; simp; simp [oneC]) | ((with_reducible (first | refine eqs ?_ | refine nes ?_)); refine ⟨_, rfl, ?_⟩) | ((refine okF_i (bldP_eq rfl) ?_); try simp only [BLS, List.take_succ_cons, List.take_zero, List.drop_succ_cons, List.drop_zero, List.cons_append, List.nil_append, Nat.reduceAdd])) | simp -implicitDefEqProofs only [EN, lsub, lget, stL, beq_self_eq_true, ne_eq, if_true, if_false, List.cons_append, List.nil_append, Option.isNone_some, Option.isNone_none]))
    refine bytesNil (by first | assumption | exact St.tick (by assumption) | exact St.tick (St.tick (by assumption))) fun a9 c9 W9 h => ?_
    (repeat (first | (first | (with_reducible (first | refine w1 fun _ _ => ?_ | refine w3 fun _ _ _ => ?_ | refine w4 fun _ _ _ => ?_ | refine w11 fun _ _ _ => ?_ | refine stb_n ?_)) | ((with_reducible refine w2 ?_); try simp -implicitDefEqProofs only [EN, lsub, lget, stL, beq_self_eq_true, ne_eq, if_true, if_false, List.cons_append, List.nil_append, Option.isNone_some, Option.isNone_none]; intro _ _) | ((with_reducible (first | refine w5 ?_ ?_ | refine w6 ?_ ?_ | refine w7 ?_ ?_)); simp; refine ⟨_, rfl, ?_⟩) | ((with_reducible (first | refine w8 ?_ ?_ ?_ | refine w9 ?_ ?_ ?_ | refine w10 ?_ ?_ ?_)); exact rfl; simp) | ((with_reducible refine w12 ?_ ?_ ?_ fun _ _ => ?_); simp; simp; simp [oneC]) | ((with_reducible (first | refine eqs ?_ | refine nes ?_)); refine ⟨_, rfl, ?_⟩) | ((refine okF_i (bldP_eq rfl) ?_); try simp only [BLS, List.take_succ_cons, List.take_zero, List.drop_succ_cons, List.drop_zero, List.cons_append, List.nil_append, Nat.reduceAdd])) | simp -implicitDefEqProofs only [EN, lsub, lget, stL, beq_self_eq_true, ne_eq, if_true, if_false, List.cons_append, List.nil_append, Option.isNone_some, Option.isNone_none]))
    exact hk a9 c9 _ (fin0 _ _ _ _ (St.wk (by first | assumption | exact St.tick (by assumption) | exact St.tick (St.tick (by assumption)))))
  | some y =>
    rw [hf] at hgk hk
    rw [Option.map_some] at hgk
    rw [hgk]
    have hym : y ∈ ys := List.mem_of_find?_eq_some hf
    have hyb : y.b.bs.length ≤ 65536 := hl y.er (by rw [← hy]; exact List.mem_map_of_mem hym)
    have hinb : InB y.b (ys.map (·.b)) := .inr (List.mem_map_of_mem hym)
    simp only [Option.getD_some, Option.isSome_some, Option.map_some] at hk ⊢
    (repeat (first | (first | (with_reducible (first | refine w1 fun _ _ => ?_ | refine w3 fun _ _ _ => ?_ | refine w4 fun _ _ _ => ?_ | refine w11 fun _ _ _ => ?_ | refine stb_n ?_)) | ((with_reducible refine w2 ?_); try simp -implicitDefEqProofs only [EN, lsub, lget, stL, beq_self_eq_true, ne_eq, if_true, if_false, List.cons_append, List.nil_append, Option.isNone_some, Option.isNone_none]; intro _ _) | ((with_reducible (first | refine w5 ?_ ?_ | refine w6 ?_ ?_ | refine w7 ?_ ?_)); simp; refine ⟨_, rfl, ?_⟩) | ((with_reducible (first | refine w8 ?_ ?_ ?_ | refine w9 ?_ ?_ ?_ | refine w10 ?_ ?_ ?_)); exact rfl; simp) | ((with_reducible refine w12 ?_ ?_ ?_ fun _ _ => ?_); simp; simp; simp [oneC]) | ((with_reducible (first | refine eqs ?_ | refine nes ?_)); refine ⟨_, rfl, ?_⟩) | ((refine okF_i (bldP_eq rfl) ?_); try simp only [BLS, List.take_succ_cons, List.take_zero, List.drop_succ_cons, List.drop_zero, List.cons_append, List.nil_append, Nat.reduceAdd])) | simp -implicitDefEqProofs only [EN, lsub, lget, stL, beq_self_eq_true, ne_eq, if_true, if_false, List.cons_append, List.nil_append, Option.isNone_some, Option.isNone_none]))
    refine stb_kv (ys := ys) (d := d) (by first | assumption | exact St.tick (by assumption) | exact St.tick (St.tick (by assumption))) (by rw [hgk]; rfl) ?_
    (repeat (first | (first | (with_reducible (first | refine w1 fun _ _ => ?_ | refine w3 fun _ _ _ => ?_ | refine w4 fun _ _ _ => ?_ | refine w11 fun _ _ _ => ?_ | refine stb_n ?_)) | ((with_reducible refine w2 ?_); try simp -implicitDefEqProofs only [EN, lsub, lget, stL, beq_self_eq_true, ne_eq, if_true, if_false, List.cons_append, List.nil_append, Option.isNone_some, Option.isNone_none]; intro _ _) | ((with_reducible (first | refine w5 ?_ ?_ | refine w6 ?_ ?_ | refine w7 ?_ ?_)); simp; refine ⟨_, rfl, ?_⟩) | ((with_reducible (first | refine w8 ?_ ?_ ?_ | refine w9 ?_ ?_ ?_ | refine w10 ?_ ?_ ?_)); exact rfl; simp) | ((with_reducible refine w12 ?_ ?_ ?_ fun _ _ => ?_); simp; simp; simp [oneC]) | ((with_reducible (first | refine eqs ?_ | refine nes ?_)); refine ⟨_, rfl, ?_⟩) | ((refine okF_i (bldP_eq rfl) ?_); try simp only [BLS, List.take_succ_cons, List.take_zero, List.drop_succ_cons, List.drop_zero, List.cons_append, List.nil_append, Nat.reduceAdd])) | simp -implicitDefEqProofs only [EN, lsub, lget, stL, beq_self_eq_true, ne_eq, if_true, if_false, List.cons_append, List.nil_append, Option.isNone_some, Option.isNone_none]))
    rename_i h
    have h := St.wk (L' := many fch (ys.map (·.b)) :: cells p [.int .i64 s.have_.x0, .int .i64 s.have_.x1, .int .i64 s.have_.x2, .int .i64 s.have_.x3, .int .i64 s.have_.x4, .int .i64 s.have_.x5, .int .i64 s.have_.x6, .map (some r1), .slice la s.cs.length lc, .map (some r2), .slice da s.done.length dc] T_exec_Exec :: mp KD r1 (kv ys) :: mp KD r2 m :: arr INS T_order_Inst la lc s.ins :: arr DOT T_api_Dot da dc s.done :: L) h
    haveI hrd := rdMany (W0 := W0) (L := cells p [.int .i64 s.have_.x0, .int .i64 s.have_.x1, .int .i64 s.have_.x2, .int .i64 s.have_.x3, .int .i64 s.have_.x4, .int .i64 s.have_.x5, .int .i64 s.have_.x6, .map (some r1), .slice la s.cs.length lc, .map (some r2), .slice da s.done.length dc] T_exec_Exec :: mp KD r1 (kv ys) :: mp KD r2 m :: arr INS T_order_Inst la lc s.ins :: arr DOT T_api_Dot da dc s.done :: L) hinb
    refine bytesClone (a := y.b.a) (l := y.b.bs) h (by omega) fun a9 c9 W9 h => ?_
    (repeat (first | (first | (with_reducible (first | refine w1 fun _ _ => ?_ | refine w3 fun _ _ _ => ?_ | refine w4 fun _ _ _ => ?_ | refine w11 fun _ _ _ => ?_ | refine stb_n ?_)) | ((with_reducible refine w2 ?_); try simp -implicitDefEqProofs only [EN, lsub, lget, stL, beq_self_eq_true, ne_eq, if_true, if_false, List.cons_append, List.nil_append, Option.isNone_some, Option.isNone_none]; intro _ _) | ((with_reducible (first | refine w5 ?_ ?_ | refine w6 ?_ ?_ | refine w7 ?_ ?_)); simp; refine ⟨_, rfl, ?_⟩) | ((with_reducible (first | refine w8 ?_ ?_ ?_ | refine w9 ?_ ?_ ?_ | refine w10 ?_ ?_ ?_)); exact rfl; simp) | ((with_reducible refine w12 ?_ ?_ ?_ fun _ _ => ?_); simp; simp; simp [oneC]) | ((with_reducible (first | refine eqs ?_ | refine nes ?_)); refine ⟨_, rfl, ?_⟩) | ((refine okF_i (bldP_eq rfl) ?_); try simp only [BLS, List.take_succ_cons, List.take_zero, List.drop_succ_cons, List.drop_zero, List.cons_append, List.nil_append, Nat.reduceAdd])) | simp -implicitDefEqProofs only [EN, lsub, lget, stL, beq_self_eq_true, ne_eq, if_true, if_false, List.cons_append, List.nil_append, Option.isNone_some, Option.isNone_none]))
    exact hk a9 c9 _ (fin0 a9 c9 y.b.bs _ (St.wk (by first | assumption | exact St.tick (by assumption) | exact St.tick (St.tick (by assumption)))))
end
end Go.Proofs.Ytkjhccpanedccaa
namespace Go.Proofs.Ytkjhccpanedccaa
set_option linter.unusedVariables false
set_option linter.unusedSimpArgs false
open Go Go.Eng Go.Tar Go.Sort
section
variable {W0 W : World} {L L' : List Asn}
theorem ordLine0 {a : Option Addr} {c : Nat} {l : List Ins} (done : P7 Int) (h00 : W0.drawn = 0) (h : St W0 L W) [hr : Rd W0 L a INS l] (hl : l.length < 1000000) {k : Value → World → Prop}
    (hk : ∀ a' c' W', St W0 (arr DOT T_api_Dot a' c' (lineTop done [] l) :: L) W' → k (.slice a' (lineTop done [] l).length c') W') : callK PR F_order_Line [.slice a l.length c, .agg #[.int .i64 done.x0, .int .i64 done.x1, .int .i64 done.x2, .int .i64 done.x3, .int .i64 done.x4, .int .i64 done.x5, .int .i64 done.x6], .slice none 0 0] k W := by
  haveI : Rd W0 L none DOT [] := Rd.nil _ _ _ _
  exact ordLine (a2 := none) (c2 := 0) (also := []) (done := done) h00 h hl (by decide) hk
end
end Go.Proofs.Ytkjhccpanedccaa
namespace Go.Proofs.Ytkjhccpanedccaa
set_option linter.unusedVariables false
set_option linter.unusedSimpArgs false
open Go Go.Eng Go.Tar Go.Sort
def XS.waitOf (s : XS) (d : Dot) : P7 Int := match s.find d with
  | some c => c.w
  | none => P7.all 0
def nowF (s : XS) : List Dot → List Dot
  | [] => []
  | d :: ds => if d ∈ s.done then nowF s ds else if leV (s.waitOf d) s.have_ = true then d :: nowF s ds else []
def XS.merge (s : XS) (v : P7 Int) : XS := if goodV v = true then ⟨vmerge s.have_ v, s.cs, s.done⟩ else s
noncomputable def XS.now (s : XS) : List Dot := nowF s (lineTop (P7.all 0) [] s.ins)
noncomputable def XS.haves (s : XS) (v : P7 Int) : XS × List Dot := ((s.merge v).now.foldl XS.mark (s.merge v), (s.merge v).now)
theorem nowF_cons (s : XS) (d : Dot) (ds : List Dot) : nowF s (d :: ds) = if d ∈ s.done then nowF s ds else if leV (s.waitOf d) s.have_ = true then d :: nowF s ds else [] := rfl
theorem leV_eta {a b : P7 Int} {x : Bool} (h : leV a b = x) : leV ⟨a.x0, a.x1, a.x2, a.x3, a.x4, a.x5, a.x6⟩ ⟨b.x0, b.x1, b.x2, b.x3, b.x4, b.x5, b.x6⟩ = x := h
theorem goodV_eta {a : P7 Int} {x : Bool} (h : goodV a = x) : goodV ⟨a.x0, a.x1, a.x2, a.x3, a.x4, a.x5, a.x6⟩ = x := h
theorem nowF_len (s : XS) : ∀ l : List Dot, (nowF s l).length ≤ l.length
  | [] => Nat.le_refl _
  | d :: l => by
    have := nowF_len s l
    unfold nowF
    split
    · simp only [List.length_cons]; omega
    · split
      · simp only [List.length_cons]; omega
      · simp
theorem mark_len (s : XS) (d : Dot) : (s.mark d).done.length ≤ s.done.length + 1 := by
  unfold XS.mark
  split
  · simp
  · omega
theorem mark_cs (s : XS) (d : Dot) : (s.mark d).cs = s.cs ∧ (s.mark d).have_ = s.have_ := by unfold XS.mark; split <;> exact ⟨rfl, rfl⟩
section
variable {W0 W : World} {L L' : List Asn} {p : Nat} {s : XS}
set_option maxRecDepth 100000 in
set_option maxHeartbeats 8000000 in
theorem execHave (h00 : W0.drawn = 0) {v : P7 Int} {k : Value → World → Prop} (h : St W0 (exo p s :: L) W) (hc : s.cs.length ≤ 1000) (hd : s.done.length ≤ 100000)
    (hlen : ∀ l : List Ins, (lineTop (P7.all 0) [] l).length ≤ l.length)
    (hk : ∀ a c W', St W0 (arr DOT T_api_Dot a c (s.haves v).2 :: exo p (s.haves v).1 :: L) W' → k (.slice a (s.haves v).2.length c) W') : callK PR F_exec_Exec_Have [.pointer (some ⟨p, 0, none⟩), .agg #[.int .i64 v.x0, .int .i64 v.x1, .int .i64 v.x2, .int .i64 v.x3, .int .i64 v.x4, .int .i64 v.x5, .int .i64 v.x6]] k W := by
  apply S.exec_Exec_Have.call
  unfold S.exec_Exec_Have.body
  refine bxa h fun vb W1 h => ?_
  have h : St W0 (cells vb [.int .i64 v.x0, .int .i64 v.x1, .int .i64 v.x2, .int .i64 v.x3, .int .i64 v.x4, .int .i64 v.x5, .int .i64 v.x6] T_vec_Vec :: exo p s :: L) W1 := h
  have hcs : (s.merge v).cs = s.cs := by unfold XS.merge; split <;> rfl
  have hdn : (s.merge v).done = s.done := by unfold XS.merge; split <;> rfl
  have hgv : goodV ⟨v.x0, v.x1, v.x2, v.x3, v.x4, v.x5, v.x6⟩ = goodV v := rfl
  have key : ∀ W', St W0 (exo p (s.merge v) :: L) W' → S.exec_Exec_Have.j1 k (.pointer (some ⟨p, 0, none⟩)) W' := by
    clear h
    intro W h
    unfold XS.haves at hk
    rw [← hcs] at hc
    rw [← hdn] at hd
    generalize s.merge v = s at *
    unfold S.exec_Exec_Have.j1
    refine joinK_i ?_
    obtain ⟨ys, r1, r2, m, la, lc, da, dc, hy, hm, h, fin⟩ := exo_ok h
    have hins : s.ins.length = s.cs.length := List.length_map _
    (repeat (first | (first | (with_reducible (first | refine w1 fun _ _ => ?_ | refine w3 fun _ _ _ => ?_ | refine w4 fun _ _ _ => ?_ | refine w11 fun _ _ _ => ?_ | refine stb_n ?_)) | ((with_reducible refine w2 ?_); try simp -implicitDefEqProofs only [EN, lsub, lget, stL, beq_self_eq_true, ne_eq, if_true, if_false, List.cons_append, List.nil_append, Option.isNone_some, Option.isNone_none]; intro _ _) | ((with_reducible (first | refine w5 ?_ ?_ | refine w6 ?_ ?_ | refine w7 ?_ ?_)); simp; refine ⟨_, rfl, ?_⟩) | ((with_reducible (first | refine w8 ?_ ?_ ?_ | refine w9 ?_ ?_ ?_ | refine w10 ?_ ?_ ?_)); exact rfl; simp) | ((with_reducible refine w12 ?_ ?_ ?_ fun _ _ => ?_); simp; simp; simp [oneC]) | ((with_reducible (first | refine eqs ?_ | refine nes ?_)); refine ⟨_, rfl, ?_⟩) | ((refine okF_i (bldP_eq rfl) ?_); try simp only [BLS, List.take_succ_cons, List.take_zero, List.drop_succ_cons, List.drop_zero, List.cons_append, List.nil_append, Nat.reduceAdd])) | simp -implicitDefEqProofs only [EN, lsub, lget, stL, beq_self_eq_true, ne_eq, if_true, if_false, List.cons_append, List.nil_append, Option.isNone_some, Option.isNone_none]))
    rw [← hins]
    refine ordLine0 (l := s.ins) (a := la) (P7.all 0) h00 (by first | assumption | exact St.tick (by assumption) | exact St.tick (St.tick (by assumption))) (by omega) fun al cl W2 h => ?_
    have hnl := nowF_len s (lineTop (P7.all 0) [] s.ins)
    have hll := hlen s.ins
    unfold XS.now at hk
    generalize hline : lineTop (P7.all 0) [] s.ins = line at *
    rw [hins] at hll
    (repeat (first | (first | (with_reducible (first | refine w1 fun _ _ => ?_ | refine w3 fun _ _ _ => ?_ | refine w4 fun _ _ _ => ?_ | refine w11 fun _ _ _ => ?_ | refine stb_n ?_)) | ((with_reducible refine w2 ?_); try simp -implicitDefEqProofs only [EN, lsub, lget, stL, beq_self_eq_true, ne_eq, if_true, if_false, List.cons_append, List.nil_append, Option.isNone_some, Option.isNone_none]; intro _ _) | ((with_reducible (first | refine w5 ?_ ?_ | refine w6 ?_ ?_ | refine w7 ?_ ?_)); simp; refine ⟨_, rfl, ?_⟩) | ((with_reducible (first | refine w8 ?_ ?_ ?_ | refine w9 ?_ ?_ ?_ | refine w10 ?_ ?_ ?_)); exact rfl; simp) | ((with_reducible refine w12 ?_ ?_ ?_ fun _ _ => ?_); simp; simp; simp [oneC]) | ((with_reducible (first | refine eqs ?_ | refine nes ?_)); refine ⟨_, rfl, ?_⟩) | ((refine okF_i (bldP_eq rfl) ?_); try simp only [BLS, List.take_succ_cons, List.take_zero, List.drop_succ_cons, List.drop_zero, List.cons_append, List.nil_append, Nat.reduceAdd])) | simp -implicitDefEqProofs only [EN, lsub, lget, stL, beq_self_eq_true, ne_eq, if_true, if_false, List.cons_append, List.nil_append, Option.isNone_some, Option.isNone_none]))
    have h := St.wk (L' := arr DOT T_api_Dot al cl line :: cells p [.int .i64 s.have_.x0, .int .i64 s.have_.x1, .int .i64 s.have_.x2, .int .i64 s.have_.x3, .int .i64 s.have_.x4, .int .i64 s.have_.x5, .int .i64 s.have_.x6, .map (some r1), .slice la s.cs.length lc, .map (some r2), .slice da s.done.length dc] T_exec_Exec :: mp KD r1 (kv ys) :: mp KD r2 m :: arr INS T_order_Inst la lc s.ins :: arr DOT T_api_Dot da dc s.done :: many fch (ys.map (·.b)) :: L) h
    have h := h.ent (arr_nil DOT T_api_Dot)
    have hJ2 : ∀ (a : Option Addr) (c : Nat) W', St W0 (arr DOT T_api_Dot a c (nowF s line) :: exo p s :: L) W' → S.exec_Exec_Have.j2 k (.pointer (some ⟨p, 0, none⟩)) (.slice a (nowF s line).length c) W' := by
      clear h
      intro a c W h
      unfold S.exec_Exec_Have.j2
      refine joinK_i ?_
      generalize nowF s line = now at *
      (repeat (first | (first | (with_reducible (first | refine w1 fun _ _ => ?_ | refine w3 fun _ _ _ => ?_ | refine w4 fun _ _ _ => ?_ | refine w11 fun _ _ _ => ?_ | refine stb_n ?_)) | ((with_reducible refine w2 ?_); try simp -implicitDefEqProofs only [EN, lsub, lget, stL, beq_self_eq_true, ne_eq, if_true, if_false, List.cons_append, List.nil_append, Option.isNone_some, Option.isNone_none]; intro _ _) | ((with_reducible (first | refine w5 ?_ ?_ | refine w6 ?_ ?_ | refine w7 ?_ ?_)); simp; refine ⟨_, rfl, ?_⟩) | ((with_reducible (first | refine w8 ?_ ?_ ?_ | refine w9 ?_ ?_ ?_ | refine w10 ?_ ?_ ?_)); exact rfl; simp) | ((with_reducible refine w12 ?_ ?_ ?_ fun _ _ => ?_); simp; simp; simp [oneC]) | ((with_reducible (first | refine eqs ?_ | refine nes ?_)); refine ⟨_, rfl, ?_⟩) | ((refine okF_i (bldP_eq rfl) ?_); try simp only [BLS, List.take_succ_cons, List.take_zero, List.drop_succ_cons, List.drop_zero, List.cons_append, List.nil_append, Nat.reduceAdd])) | simp -implicitDefEqProofs only [EN, lsub, lget, stL, beq_self_eq_true, ne_eq, if_true, if_false, List.cons_append, List.nil_append, Option.isNone_some, Option.isNone_none]))
      refine loop_c (σ := Unit) now.length (fun i _ => [.pointer (some ⟨p, 0, none⟩), .slice a now.length c, .slice a now.length c, .int .i64 now.length, .int .i64 (i : Int)])
        (fun i _ W1 => ((now.take i).foldl XS.mark s).done.length ≤ s.done.length + i ∧ St W0 (exo p ((now.take i).foldl XS.mark s) :: arr DOT T_api_Dot a c now :: L) W1) () rfl ⟨by simp, St.wk (L' := exo p s :: arr DOT T_api_Dot a c now :: L) h⟩ ?_
      clear h
      rintro K i _ W3 hi ⟨hdl, h⟩ hK
      simp -implicitDefEqProofs only [EN, lsub, lget, stL, beq_self_eq_true, ne_eq, if_true, if_false, List.cons_append, List.nil_append, Option.isNone_some, Option.isNone_none]
      unfold S.exec_Exec_Have.l1
      by_cases hlt : (i : Int) < (now.length : Int)
      · have hib : i < now.length := by omega
        have ew : IntKind.i64.wrap ((i : Int) + 1) = ((i + 1 : Nat) : Int) := by rw [i64w]; omega
        have htk : (now.take (i + 1)).foldl XS.mark s = ((now.take i).foldl XS.mark s).mark now[i] := by rw [List.take_succ_eq_append_getElem hib, List.foldl_append]; rfl
        have hml := mark_len ((now.take i).foldl XS.mark s) now[i]
        (repeat (first | (first | (with_reducible (first | refine w1 fun _ _ => ?_ | refine w3 fun _ _ _ => ?_ | refine w4 fun _ _ _ => ?_ | refine w11 fun _ _ _ => ?_ | refine stb_n ?_)) | ((with_reducible refine w2 ?_); try simp -implicitDefEqProofs only [EN, lsub, lget, stL, beq_self_eq_true, ne_eq, if_true, if_false, List.cons_append, List.nil_append, Option.isNone_some, Option.isNone_none, hlt]; intro _ _) | ((with_reducible (first | refine w5 ?_ ?_ | refine w6 ?_ ?_ | refine w7 ?_ ?_)); simp; refine ⟨_, rfl, ?_⟩) | ((with_reducible (first | refine w8 ?_ ?_ ?_ | refine w9 ?_ ?_ ?_ | refine w10 ?_ ?_ ?_)); exact rfl; simp) | ((with_reducible refine w12 ?_ ?_ ?_ fun _ _ => ?_); simp; simp; simp [oneC]) | ((with_reducible (first | refine eqs ?_ | refine nes ?_)); refine ⟨_, rfl, ?_⟩) | ((refine okF_i (bldP_eq rfl) ?_); try simp only [BLS, List.take_succ_cons, List.take_zero, List.drop_succ_cons, List.drop_zero, List.cons_append, List.nil_append, Nat.reduceAdd])) | simp -implicitDefEqProofs only [EN, lsub, lget, stL, beq_self_eq_true, ne_eq, if_true, if_false, List.cons_append, List.nil_append, Option.isNone_some, Option.isNone_none, hlt]))
        refine ixA (i := i) (a := a) (l := now) (A := DOT) (by first | assumption | exact St.tick (by assumption) | exact St.tick (St.tick (by assumption))) rfl rfl hib fun g1 o1 ha => ?_
        cases ha
        refine ldA0 (i := i) (l := now) (A := DOT) (by first | assumption | exact St.tick (by assumption) | exact St.tick (St.tick (by assumption))) rfl hib (getL_val rfl (by decide) _) (by simp [DOT]) ?_
        refine newV (A := DOT) now[i] (by first | assumption | exact St.tick (by assumption) | exact St.tick (St.tick (by assumption))) rfl (by decide) rfl fun vb W11 h => ?_
        refine ldV (A := DOT) now[i] (by first | assumption | exact St.tick (by assumption) | exact St.tick (St.tick (by assumption))) rfl (by decide) ?_
        refine execMark (s := (now.take i).foldl XS.mark s) (d := now[i]) (St.wk (L' := exo p ((now.take i).foldl XS.mark s) :: arr DOT T_api_Dot (some ⟨g1, o1, none⟩) c now :: L) (by first | assumption | exact St.tick (by assumption) | exact St.tick (St.tick (by assumption)))) (by omega) fun v W12 h => ?_
        (repeat (first | (first | (with_reducible (first | refine w1 fun _ _ => ?_ | refine w3 fun _ _ _ => ?_ | refine w4 fun _ _ _ => ?_ | refine w11 fun _ _ _ => ?_ | refine stb_n ?_)) | ((with_reducible refine w2 ?_); try simp -implicitDefEqProofs only [EN, lsub, lget, stL, beq_self_eq_true, ne_eq, if_true, if_false, List.cons_append, List.nil_append, Option.isNone_some, Option.isNone_none, ew]; intro _ _) | ((with_reducible (first | refine w5 ?_ ?_ | refine w6 ?_ ?_ | refine w7 ?_ ?_)); simp; refine ⟨_, rfl, ?_⟩) | ((with_reducible (first | refine w8 ?_ ?_ ?_ | refine w9 ?_ ?_ ?_ | refine w10 ?_ ?_ ?_)); exact rfl; simp) | ((with_reducible refine w12 ?_ ?_ ?_ fun _ _ => ?_); simp; simp; simp [oneC]) | ((with_reducible (first | refine eqs ?_ | refine nes ?_)); refine ⟨_, rfl, ?_⟩) | ((refine okF_i (bldP_eq rfl) ?_); try simp only [BLS, List.take_succ_cons, List.take_zero, List.drop_succ_cons, List.drop_zero, List.cons_append, List.nil_append, Nat.reduceAdd])) | simp -implicitDefEqProofs only [EN, lsub, lget, stL, beq_self_eq_true, ne_eq, if_true, if_false, List.cons_append, List.nil_append, Option.isNone_some, Option.isNone_none, ew]))
        refine hK () _ hib ⟨?_, ?_⟩
        · rw [htk]; omega
        · rw [htk]; exact h
      · have hil : i = now.length := by omega
        subst hil
        rw [List.take_length] at h
        (repeat (first | (first | (with_reducible (first | refine w1 fun _ _ => ?_ | refine w3 fun _ _ _ => ?_ | refine w4 fun _ _ _ => ?_ | refine w11 fun _ _ _ => ?_ | refine stb_n ?_)) | ((with_reducible refine w2 ?_); try simp -implicitDefEqProofs only [EN, lsub, lget, stL, beq_self_eq_true, ne_eq, if_true, if_false, List.cons_append, List.nil_append, Option.isNone_some, Option.isNone_none, hlt]; intro _ _) | ((with_reducible (first | refine w5 ?_ ?_ | refine w6 ?_ ?_ | refine w7 ?_ ?_)); simp; refine ⟨_, rfl, ?_⟩) | ((with_reducible (first | refine w8 ?_ ?_ ?_ | refine w9 ?_ ?_ ?_ | refine w10 ?_ ?_ ?_)); exact rfl; simp) | ((with_reducible refine w12 ?_ ?_ ?_ fun _ _ => ?_); simp; simp; simp [oneC]) | ((with_reducible (first | refine eqs ?_ | refine nes ?_)); refine ⟨_, rfl, ?_⟩) | ((refine okF_i (bldP_eq rfl) ?_); try simp only [BLS, List.take_succ_cons, List.take_zero, List.drop_succ_cons, List.drop_zero, List.cons_append, List.nil_append, Nat.reduceAdd])) | simp -implicitDefEqProofs only [EN, lsub, lget, stL, beq_self_eq_true, ne_eq, if_true, if_false, List.cons_append, List.nil_append, Option.isNone_some, Option.isNone_none, hlt]))
        unfold S.exec_Exec_Have.j3
        exact hk a c _ (St.wk h)
    refine loop_c (σ := List Dot × Option Addr × Nat) line.length (fun i x => [.pointer (some ⟨p, 0, none⟩), .slice x.2.1 x.1.length x.2.2, .slice al line.length cl, .int .i64 line.length, .int .i64 (i : Int)])
      (fun i x W1 => (nowF s line = x.1 ++ nowF s (line.drop i) ∧ x.1.length ≤ i) ∧ St W0 (arr DOT T_api_Dot x.2.1 x.2.2 x.1 :: arr DOT T_api_Dot al cl line :: cells p [.int .i64 s.have_.x0, .int .i64 s.have_.x1, .int .i64 s.have_.x2, .int .i64 s.have_.x3, .int .i64 s.have_.x4, .int .i64 s.have_.x5, .int .i64 s.have_.x6, .map (some r1), .slice la s.cs.length lc, .map (some r2), .slice da s.done.length dc] T_exec_Exec :: mp KD r1 (kv ys) :: mp KD r2 m :: arr INS T_order_Inst la lc s.ins :: arr DOT T_api_Dot da dc s.done :: many fch (ys.map (·.b)) :: L) W1) ([], none, 0) rfl ⟨⟨rfl, Nat.le_refl _⟩, h⟩ ?_
    clear h
    rintro K i ⟨acc, ax, cx⟩ W3 hi ⟨⟨hacc, hal⟩, h⟩ hK
    simp only at hacc hal h
    simp -implicitDefEqProofs only [EN, lsub, lget, stL, beq_self_eq_true, ne_eq, if_true, if_false, List.cons_append, List.nil_append, Option.isNone_some, Option.isNone_none]
    unfold S.exec_Exec_Have.l2
    by_cases hlt : (i : Int) < (line.length : Int)
    · have hib : i < line.length := by omega
      have ew : IntKind.i64.wrap ((i : Int) + 1) = ((i + 1 : Nat) : Int) := by rw [i64w]; omega
      rw [List.drop_eq_getElem_cons hib, nowF_cons] at hacc
      have hmd := hm line[i]
      have hgk := kv_get ys line[i]
      have hwo : s.waitOf line[i] = match ys.find? (fun y => decide (y.i.d = line[i])) with | some y => y.w | none => P7.all 0 := by
        unfold XS.waitOf; rw [find_er hy]; cases ys.find? (fun y => decide (y.i.d = line[i])) <;> rfl
      (repeat (first | (first | (with_reducible (first | refine w1 fun _ _ => ?_ | refine w3 fun _ _ _ => ?_ | refine w4 fun _ _ _ => ?_ | refine w11 fun _ _ _ => ?_ | refine stb_n ?_)) | ((with_reducible refine w2 ?_); try simp -implicitDefEqProofs only [EN, lsub, lget, stL, beq_self_eq_true, ne_eq, if_true, if_false, List.cons_append, List.nil_append, Option.isNone_some, Option.isNone_none, hlt]; intro _ _) | ((with_reducible (first | refine w5 ?_ ?_ | refine w6 ?_ ?_ | refine w7 ?_ ?_)); simp; refine ⟨_, rfl, ?_⟩) | ((with_reducible (first | refine w8 ?_ ?_ ?_ | refine w9 ?_ ?_ ?_ | refine w10 ?_ ?_ ?_)); exact rfl; simp) | ((with_reducible refine w12 ?_ ?_ ?_ fun _ _ => ?_); simp; simp; simp [oneC]) | ((with_reducible (first | refine eqs ?_ | refine nes ?_)); refine ⟨_, rfl, ?_⟩) | ((refine okF_i (bldP_eq rfl) ?_); try simp only [BLS, List.take_succ_cons, List.take_zero, List.drop_succ_cons, List.drop_zero, List.cons_append, List.nil_append, Nat.reduceAdd])) | simp -implicitDefEqProofs only [EN, lsub, lget, stL, beq_self_eq_true, ne_eq, if_true, if_false, List.cons_append, List.nil_append, Option.isNone_some, Option.isNone_none, hlt]))
      refine joinK_i ?_
      refine ixA (i := i) (a := al) (l := line) (A := DOT) (by first | assumption | exact St.tick (by assumption) | exact St.tick (St.tick (by assumption))) rfl rfl hib fun g1 o1 ha => ?_
      cases ha
      refine ldA0 (i := i) (l := line) (A := DOT) (by first | assumption | exact St.tick (by assumption) | exact St.tick (St.tick (by assumption))) rfl hib (getL_val rfl (by decide) _) (by simp [DOT]) ?_
      refine newV (A := DOT) line[i] (by first | assumption | exact St.tick (by assumption) | exact St.tick (St.tick (by assumption))) rfl (by decide) rfl fun vb W11 h => ?_
      (repeat (first | (first | (with_reducible (first | refine w1 fun _ _ => ?_ | refine w3 fun _ _ _ => ?_ | refine w4 fun _ _ _ => ?_ | refine w11 fun _ _ _ => ?_ | refine stb_n ?_)) | ((with_reducible refine w2 ?_); try simp -implicitDefEqProofs only [EN, lsub, lget, stL, beq_self_eq_true, ne_eq, if_true, if_false, List.cons_append, List.nil_append, Option.isNone_some, Option.isNone_none]; intro _ _) | ((with_reducible (first | refine w5 ?_ ?_ | refine w6 ?_ ?_ | refine w7 ?_ ?_)); simp; refine ⟨_, rfl, ?_⟩) | ((with_reducible (first | refine w8 ?_ ?_ ?_ | refine w9 ?_ ?_ ?_ | refine w10 ?_ ?_ ?_)); exact rfl; simp) | ((with_reducible refine w12 ?_ ?_ ?_ fun _ _ => ?_); simp; simp; simp [oneC]) | ((with_reducible (first | refine eqs ?_ | refine nes ?_)); refine ⟨_, rfl, ?_⟩) | ((refine okF_i (bldP_eq rfl) ?_); try simp only [BLS, List.take_succ_cons, List.take_zero, List.drop_succ_cons, List.drop_zero, List.cons_append, List.nil_append, Nat.reduceAdd])) | simp -implicitDefEqProofs only [EN, lsub, lget, stL, beq_self_eq_true, ne_eq, if_true, if_false, List.cons_append, List.nil_append, Option.isNone_some, Option.isNone_none]))
      refine ldV (A := DOT) line[i] (by first | assumption | exact St.tick (by assumption) | exact St.tick (St.tick (by assumption))) rfl (by decide) ?_
      refine lkp (K := KD) (z := .bool false) line[i] (by first | assumption | exact St.tick (by assumption) | exact St.tick (St.tick (by assumption))) ?_
      rw [hmd]
      by_cases hin : line[i] ∈ s.done
      · rw [if_pos hin] at hacc
        rw [decide_eq_true hin]
        (repeat (first | (first | (with_reducible (first | refine w1 fun _ _ => ?_ | refine w3 fun _ _ _ => ?_ | refine w4 fun _ _ _ => ?_ | refine w11 fun _ _ _ => ?_ | refine stb_n ?_)) | ((with_reducible refine w2 ?_); try simp -implicitDefEqProofs only [EN, lsub, lget, stL, beq_self_eq_true, ne_eq, if_true, if_false, List.cons_append, List.nil_append, Option.isNone_some, Option.isNone_none]; intro _ _) | ((with_reducible (first | refine w5 ?_ ?_ | refine w6 ?_ ?_ | refine w7 ?_ ?_)); simp; refine ⟨_, rfl, ?_⟩) | ((with_reducible (first | refine w8 ?_ ?_ ?_ | refine w9 ?_ ?_ ?_ | refine w10 ?_ ?_ ?_)); exact rfl; simp) | ((with_reducible refine w12 ?_ ?_ ?_ fun _ _ => ?_); simp; simp; simp [oneC]) | ((with_reducible (first | refine eqs ?_ | refine nes ?_)); refine ⟨_, rfl, ?_⟩) | ((refine okF_i (bldP_eq rfl) ?_); try simp only [BLS, List.take_succ_cons, List.take_zero, List.drop_succ_cons, List.drop_zero, List.cons_append, List.nil_append, Nat.reduceAdd])) | simp -implicitDefEqProofs only [EN, lsub, lget, stL, beq_self_eq_true, ne_eq, if_true, if_false, List.cons_append, List.nil_append, Option.isNone_some, Option.isNone_none]))
        unfold S.exec_Exec_Have.j4
        (repeat (first | (first | (with_reducible (first | refine w1 fun _ _ => ?_ | refine w3 fun _ _ _ => ?_ | refine w4 fun _ _ _ => ?_ | refine w11 fun _ _ _ => ?_ | refine stb_n ?_)) | ((with_reducible refine w2 ?_); try simp -implicitDefEqProofs only [EN, lsub, lget, stL, beq_self_eq_true, ne_eq, if_true, if_false, List.cons_append, List.nil_append, Option.isNone_some, Option.isNone_none, ew]; intro _ _) | ((with_reducible (first | refine w5 ?_ ?_ | refine w6 ?_ ?_ | refine w7 ?_ ?_)); simp; refine ⟨_, rfl, ?_⟩) | ((with_reducible (first | refine w8 ?_ ?_ ?_ | refine w9 ?_ ?_ ?_ | refine w10 ?_ ?_ ?_)); exact rfl; simp) | ((with_reducible refine w12 ?_ ?_ ?_ fun _ _ => ?_); simp; simp; simp [oneC]) | ((with_reducible (first | refine eqs ?_ | refine nes ?_)); refine ⟨_, rfl, ?_⟩) | ((refine okF_i (bldP_eq rfl) ?_); try simp only [BLS, List.take_succ_cons, List.take_zero, List.drop_succ_cons, List.drop_zero, List.cons_append, List.nil_append, Nat.reduceAdd])) | simp -implicitDefEqProofs only [EN, lsub, lget, stL, beq_self_eq_true, ne_eq, if_true, if_false, List.cons_append, List.nil_append, Option.isNone_some, Option.isNone_none, ew]))
        exact hK (acc, ax, cx) _ hib ⟨⟨hacc, by simp only; omega⟩, St.wk (by first | assumption | exact St.tick (by assumption) | exact St.tick (St.tick (by assumption)))⟩
      · rw [if_neg hin] at hacc
        rw [decide_eq_false hin]
        (repeat (first | (first | (with_reducible (first | refine w1 fun _ _ => ?_ | refine w3 fun _ _ _ => ?_ | refine w4 fun _ _ _ => ?_ | refine w11 fun _ _ _ => ?_ | refine stb_n ?_)) | ((with_reducible refine w2 ?_); try simp -implicitDefEqProofs only [EN, lsub, lget, stL, beq_self_eq_true, ne_eq, if_true, if_false, List.cons_append, List.nil_append, Option.isNone_some, Option.isNone_none]; intro _ _) | ((with_reducible (first | refine w5 ?_ ?_ | refine w6 ?_ ?_ | refine w7 ?_ ?_)); simp; refine ⟨_, rfl, ?_⟩) | ((with_reducible (first | refine w8 ?_ ?_ ?_ | refine w9 ?_ ?_ ?_ | refine w10 ?_ ?_ ?_)); exact rfl; simp) | ((with_reducible refine w12 ?_ ?_ ?_ fun _ _ => ?_); simp; simp; simp [oneC]) | ((with_reducible (first | refine eqs ?_ | refine nes ?_)); refine ⟨_, rfl, ?_⟩) | ((refine okF_i (bldP_eq rfl) ?_); try simp only [BLS, List.take_succ_cons, List.take_zero, List.drop_succ_cons, List.drop_zero, List.cons_append, List.nil_append, Nat.reduceAdd])) | simp -implicitDefEqProofs only [EN, lsub, lget, stL, beq_self_eq_true, ne_eq, if_true, if_false, List.cons_append, List.nil_append, Option.isNone_some, Option.isNone_none]))
        refine ldV (A := DOT) line[i] (by first | assumption | exact St.tick (by assumption) | exact St.tick (St.tick (by assumption))) rfl (by decide) ?_
        refine lkp (K := KD) (z := cmd0) line[i] (by first | assumption | exact St.tick (by assumption) | exact St.tick (St.tick (by assumption))) ?_
        have hfl : fldV true 10 7 ((mget (kv ys) line[i]).getD cmd0) = some (.agg #[.int .i64 (s.waitOf line[i]).x0, .int .i64 (s.waitOf line[i]).x1, .int .i64 (s.waitOf line[i]).x2, .int .i64 (s.waitOf line[i]).x3, .int .i64 (s.waitOf line[i]).x4, .int .i64 (s.waitOf line[i]).x5, .int .i64 (s.waitOf line[i]).x6]) := by
          rw [hgk, hwo]
          cases ys.find? (fun y => decide (y.i.d = line[i])) <;> rfl
        generalize (mget (kv ys) line[i]).getD cmd0 = z at *
        rw [hfl]
        cases hlv : leV (s.waitOf line[i]) s.have_ with
        | true =>
          have hle := leV_eta hlv
          rw [if_pos hlv] at hacc
          (repeat (first | (first | (with_reducible (first | refine w1 fun _ _ => ?_ | refine w3 fun _ _ _ => ?_ | refine w4 fun _ _ _ => ?_ | refine w11 fun _ _ _ => ?_ | refine stb_n ?_)) | ((with_reducible refine w2 ?_); try simp -implicitDefEqProofs only [EN, lsub, lget, stL, beq_self_eq_true, ne_eq, if_true, if_false, List.cons_append, List.nil_append, Option.isNone_some, Option.isNone_none, hle]; intro _ _) | ((with_reducible (first | refine w5 ?_ ?_ | refine w6 ?_ ?_ | refine w7 ?_ ?_)); simp; refine ⟨_, rfl, ?_⟩) | ((with_reducible (first | refine w8 ?_ ?_ ?_ | refine w9 ?_ ?_ ?_ | refine w10 ?_ ?_ ?_)); exact rfl; simp) | ((with_reducible refine w12 ?_ ?_ ?_ fun _ _ => ?_); simp; simp; simp [oneC]) | ((with_reducible (first | refine eqs ?_ | refine nes ?_)); refine ⟨_, rfl, ?_⟩) | ((refine okF_i (bldP_eq rfl) ?_); try simp only [BLS, List.take_succ_cons, List.take_zero, List.drop_succ_cons, List.drop_zero, List.cons_append, List.nil_append, Nat.reduceAdd])) | simp -implicitDefEqProofs only [EN, lsub, lget, stL, beq_self_eq_true, ne_eq, if_true, if_false, List.cons_append, List.nil_append, Option.isNone_some, Option.isNone_none, hle]))
          refine ldV (A := DOT) line[i] (by first | assumption | exact St.tick (by assumption) | exact St.tick (St.tick (by assumption))) rfl (by decide) ?_
          refine bsA DOT [line[i]] (n := 1) (by first | assumption | exact St.tick (by assumption) | exact St.tick (St.tick (by assumption))) rfl rfl (by decide) (by decide) rfl fun a5 c5 W12 h => ?_
          refine appA (A := DOT) (a := ax) (l := acc) (m := [line[i]]) (by first | assumption | exact St.tick (by assumption) | exact St.tick (St.tick (by assumption))) rfl (by simp only [List.length_cons, List.length_nil]; omega) (by simp only [List.length_cons, List.length_nil, maxLen]; omega) fun a6 c6 W13 h => ?_
          unfold S.exec_Exec_Have.j4
          (repeat (first | (first | (with_reducible (first | refine w1 fun _ _ => ?_ | refine w3 fun _ _ _ => ?_ | refine w4 fun _ _ _ => ?_ | refine w11 fun _ _ _ => ?_ | refine stb_n ?_)) | ((with_reducible refine w2 ?_); try simp -implicitDefEqProofs only [EN, lsub, lget, stL, beq_self_eq_true, ne_eq, if_true, if_false, List.cons_append, List.nil_append, Option.isNone_some, Option.isNone_none, ew]; intro _ _) | ((with_reducible (first | refine w5 ?_ ?_ | refine w6 ?_ ?_ | refine w7 ?_ ?_)); simp; refine ⟨_, rfl, ?_⟩) | ((with_reducible (first | refine w8 ?_ ?_ ?_ | refine w9 ?_ ?_ ?_ | refine w10 ?_ ?_ ?_)); exact rfl; simp) | ((with_reducible refine w12 ?_ ?_ ?_ fun _ _ => ?_); simp; simp; simp [oneC]) | ((with_reducible (first | refine eqs ?_ | refine nes ?_)); refine ⟨_, rfl, ?_⟩) | ((refine okF_i (bldP_eq rfl) ?_); try simp only [BLS, List.take_succ_cons, List.take_zero, List.drop_succ_cons, List.drop_zero, List.cons_append, List.nil_append, Nat.reduceAdd])) | simp -implicitDefEqProofs only [EN, lsub, lget, stL, beq_self_eq_true, ne_eq, if_true, if_false, List.cons_append, List.nil_append, Option.isNone_some, Option.isNone_none, ew]))
          exact hK (acc ++ [line[i]], a6, c6) _ hib ⟨⟨by rw [hacc]; simp, by simp; omega⟩, St.wk h⟩
        | false =>
          have hle := leV_eta hlv
          rw [if_neg (by rw [hlv]; simp), List.append_nil] at hacc
          (repeat (first | (first | (with_reducible (first | refine w1 fun _ _ => ?_ | refine w3 fun _ _ _ => ?_ | refine w4 fun _ _ _ => ?_ | refine w11 fun _ _ _ => ?_ | refine stb_n ?_)) | ((with_reducible refine w2 ?_); try simp -implicitDefEqProofs only [EN, lsub, lget, stL, beq_self_eq_true, ne_eq, if_true, if_false, List.cons_append, List.nil_append, Option.isNone_some, Option.isNone_none, hle]; intro _ _) | ((with_reducible (first | refine w5 ?_ ?_ | refine w6 ?_ ?_ | refine w7 ?_ ?_)); simp; refine ⟨_, rfl, ?_⟩) | ((with_reducible (first | refine w8 ?_ ?_ ?_ | refine w9 ?_ ?_ ?_ | refine w10 ?_ ?_ ?_)); exact rfl; simp) | ((with_reducible refine w12 ?_ ?_ ?_ fun _ _ => ?_); simp; simp; simp [oneC]) | ((with_reducible (first | refine eqs ?_ | refine nes ?_)); refine ⟨_, rfl, ?_⟩) | ((refine okF_i (bldP_eq rfl) ?_); try simp only [BLS, List.take_succ_cons, List.take_zero, List.drop_succ_cons, List.drop_zero, List.cons_append, List.nil_append, Nat.reduceAdd])) | simp -implicitDefEqProofs only [EN, lsub, lget, stL, beq_self_eq_true, ne_eq, if_true, if_false, List.cons_append, List.nil_append, Option.isNone_some, Option.isNone_none, hle]))
          have h9 := St.wk (L' := arr DOT T_api_Dot ax cx acc :: cells p [.int .i64 s.have_.x0, .int .i64 s.have_.x1, .int .i64 s.have_.x2, .int .i64 s.have_.x3, .int .i64 s.have_.x4, .int .i64 s.have_.x5, .int .i64 s.have_.x6, .map (some r1), .slice la s.cs.length lc, .map (some r2), .slice da s.done.length dc] T_exec_Exec :: mp KD r1 (kv ys) :: mp KD r2 m :: arr INS T_order_Inst la lc s.ins :: arr DOT T_api_Dot da dc s.done :: many fch (ys.map (·.b)) :: L) (by first | assumption | exact St.tick (by assumption) | exact St.tick (St.tick (by assumption)))
          have h10 := exo_of (p := p) (L := arr DOT T_api_Dot ax cx acc :: L) (s := s) ⟨ys, r1, r2, m, la, lc, da, dc⟩ ⟨hy, hm⟩ (St.wk h9)
          have := hJ2 ax cx _ (by rw [hacc]; exact St.wk h10)
          rw [hacc] at this
          exact this
    · have hil : i = line.length := by omega
      subst hil
      rw [List.drop_length, show nowF s [] = [] from rfl, List.append_nil] at hacc
      (repeat (first | (first | (with_reducible (first | refine w1 fun _ _ => ?_ | refine w3 fun _ _ _ => ?_ | refine w4 fun _ _ _ => ?_ | refine w11 fun _ _ _ => ?_ | refine stb_n ?_)) | ((with_reducible refine w2 ?_); try simp -implicitDefEqProofs only [EN, lsub, lget, stL, beq_self_eq_true, ne_eq, if_true, if_false, List.cons_append, List.nil_append, Option.isNone_some, Option.isNone_none, hlt]; intro _ _) | ((with_reducible (first | refine w5 ?_ ?_ | refine w6 ?_ ?_ | refine w7 ?_ ?_)); simp; refine ⟨_, rfl, ?_⟩) | ((with_reducible (first | refine w8 ?_ ?_ ?_ | refine w9 ?_ ?_ ?_ | refine w10 ?_ ?_ ?_)); exact rfl; simp) | ((with_reducible refine w12 ?_ ?_ ?_ fun _ _ => ?_); simp; simp; simp [oneC]) | ((with_reducible (first | refine eqs ?_ | refine nes ?_)); refine ⟨_, rfl, ?_⟩) | ((refine okF_i (bldP_eq rfl) ?_); try simp only [BLS, List.take_succ_cons, List.take_zero, List.drop_succ_cons, List.drop_zero, List.cons_append, List.nil_append, Nat.reduceAdd])) | simp -implicitDefEqProofs only [EN, lsub, lget, stL, beq_self_eq_true, ne_eq, if_true, if_false, List.cons_append, List.nil_append, Option.isNone_some, Option.isNone_none, hlt]))
      have h10 := exo_of (p := p) (L := arr DOT T_api_Dot ax cx acc :: L) (s := s) ⟨ys, r1, r2, m, la, lc, da, dc⟩ ⟨hy, hm⟩ (St.wk h)
      have := hJ2 ax cx _ (by rw [hacc]; exact St.wk h10)
      rw [hacc] at this
      exact this
  refine joinK_i ?_
  obtain ⟨ys, r1, r2, m, la, lc, da, dc, hy, hm, h, fin⟩ := exo_ok (St.wk (L' := exo p s :: cells vb [.int .i64 v.x0, .int .i64 v.x1, .int .i64 v.x2, .int .i64 v.x3, .int .i64 v.x4, .int .i64 v.x5, .int .i64 v.x6] T_vec_Vec :: L) h)
  (repeat (first | (first | (with_reducible (first | refine w1 fun _ _ => ?_ | refine w3 fun _ _ _ => ?_ | refine w4 fun _ _ _ => ?_ | refine w11 fun _ _ _ => ?_ | refine stb_n ?_)) | ((with_reducible refine w2 ?_); try simp -implicitDefEqProofs only [EN, lsub, lget, stL, beq_self_eq_true, ne_eq, if_true, if_false, List.cons_append, List.nil_append, Option.isNone_some, Option.isNone_none]; intro _ _) | ((with_reducible (first | refine w5 ?_ ?_ | refine w6 ?_ ?_ | refine w7 ?_ ?_)); simp; refine ⟨_, rfl, ?_⟩) | ((with_reducible (first | refine w8 ?_ ?_ ?_ | refine w9 ?_ ?_ ?_ | refine w10 ?_ ?_ ?_)); exact rfl; simp) | ((with_reducible refine w12 ?_ ?_ ?_ fun _ _ => ?_); simp; simp; simp [oneC]) | ((with_reducible (first | refine eqs ?_ | refine nes ?_)); refine ⟨_, rfl, ?_⟩) | ((refine okF_i (bldP_eq rfl) ?_); try simp only [BLS, List.take_succ_cons, List.take_zero, List.drop_succ_cons, List.drop_zero, List.cons_append, List.nil_append, Nat.reduceAdd])) | simp -implicitDefEqProofs only [EN, lsub, lget, stL, beq_self_eq_true, ne_eq, if_true, if_false, List.cons_append, List.nil_append, Option.isNone_some, Option.isNone_none]))
  cases hg : goodV v with
  | false =>
    have hg2 := goodV_eta hg
    have hms : s.merge v = s := by unfold XS.merge; rw [if_neg (by rw [hg]; simp)]
    (repeat (first | (first | (with_reducible (first | refine w1 fun _ _ => ?_ | refine w3 fun _ _ _ => ?_ | refine w4 fun _ _ _ => ?_ | refine w11 fun _ _ _ => ?_ | refine stb_n ?_)) | ((with_reducible refine w2 ?_); try simp -implicitDefEqProofs only [EN, lsub, lget, stL, beq_self_eq_true, ne_eq, if_true, if_false, List.cons_append, List.nil_append, Option.isNone_some, Option.isNone_none, hg2]; intro _ _) | ((with_reducible (first | refine w5 ?_ ?_ | refine w6 ?_ ?_ | refine w7 ?_ ?_)); simp; refine ⟨_, rfl, ?_⟩) | ((with_reducible (first | refine w8 ?_ ?_ ?_ | refine w9 ?_ ?_ ?_ | refine w10 ?_ ?_ ?_)); exact rfl; simp) | ((with_reducible refine w12 ?_ ?_ ?_ fun _ _ => ?_); simp; simp; simp [oneC]) | ((with_reducible (first | refine eqs ?_ | refine nes ?_)); refine ⟨_, rfl, ?_⟩) | ((refine okF_i (bldP_eq rfl) ?_); try simp only [BLS, List.take_succ_cons, List.take_zero, List.drop_succ_cons, List.drop_zero, List.cons_append, List.nil_append, Nat.reduceAdd])) | simp -implicitDefEqProofs only [EN, lsub, lget, stL, beq_self_eq_true, ne_eq, if_true, if_false, List.cons_append, List.nil_append, Option.isNone_some, Option.isNone_none, hg2]))
    exact key _ (by rw [hms]; exact St.wk (fin s _ rfl rfl (by first | assumption | exact St.tick (by assumption) | exact St.tick (St.tick (by assumption)))))
  | true =>
    have hg2 := goodV_eta hg
    have hms : s.merge v = ⟨vmerge s.have_ v, s.cs, s.done⟩ := by unfold XS.merge; rw [if_pos hg]
    (repeat (first | (first | (with_reducible (first | refine w1 fun _ _ => ?_ | refine w3 fun _ _ _ => ?_ | refine w4 fun _ _ _ => ?_ | refine w11 fun _ _ _ => ?_ | refine stb_n ?_)) | ((with_reducible refine w2 ?_); try simp -implicitDefEqProofs only [EN, lsub, lget, stL, beq_self_eq_true, ne_eq, if_true, if_false, List.cons_append, List.nil_append, Option.isNone_some, Option.isNone_none, hg2]; intro _ _) | ((with_reducible (first | refine w5 ?_ ?_ | refine w6 ?_ ?_ | refine w7 ?_ ?_)); simp; refine ⟨_, rfl, ?_⟩) | ((with_reducible (first | refine w8 ?_ ?_ ?_ | refine w9 ?_ ?_ ?_ | refine w10 ?_ ?_ ?_)); exact rfl; simp) | ((with_reducible refine w12 ?_ ?_ ?_ fun _ _ => ?_); simp; simp; simp [oneC]) | ((with_reducible (first | refine eqs ?_ | refine nes ?_)); refine ⟨_, rfl, ?_⟩) | ((refine okF_i (bldP_eq rfl) ?_); try simp only [BLS, List.take_succ_cons, List.take_zero, List.drop_succ_cons, List.drop_zero, List.cons_append, List.nil_append, Nat.reduceAdd])) | simp -implicitDefEqProofs only [EN, lsub, lget, stL, beq_self_eq_true, ne_eq, if_true, if_false, List.cons_append, List.nil_append, Option.isNone_some, Option.isNone_none, hg2]))
    refine vecMerge (a := s.have_) (b := v) (by first | assumption | exact St.tick (by assumption) | exact St.tick (St.tick (by assumption))) fun W5 h => ?_
    (repeat (first | (first | (with_reducible (first | refine w1 fun _ _ => ?_ | refine w3 fun _ _ _ => ?_ | refine w4 fun _ _ _ => ?_ | refine w11 fun _ _ _ => ?_ | refine stb_n ?_)) | ((with_reducible refine w2 ?_); try simp -implicitDefEqProofs only [EN, lsub, lget, stL, beq_self_eq_true, ne_eq, if_true, if_false, List.cons_append, List.nil_append, Option.isNone_some, Option.isNone_none]; intro _ _) | ((with_reducible (first | refine w5 ?_ ?_ | refine w6 ?_ ?_ | refine w7 ?_ ?_)); simp; refine ⟨_, rfl, ?_⟩) | ((with_reducible (first | refine w8 ?_ ?_ ?_ | refine w9 ?_ ?_ ?_ | refine w10 ?_ ?_ ?_)); exact rfl; simp) | ((with_reducible refine w12 ?_ ?_ ?_ fun _ _ => ?_); simp; simp; simp [oneC]) | ((with_reducible (first | refine eqs ?_ | refine nes ?_)); refine ⟨_, rfl, ?_⟩) | ((refine okF_i (bldP_eq rfl) ?_); try simp only [BLS, List.take_succ_cons, List.take_zero, List.drop_succ_cons, List.drop_zero, List.cons_append, List.nil_append, Nat.reduceAdd])) | simp -implicitDefEqProofs only [EN, lsub, lget, stL, beq_self_eq_true, ne_eq, if_true, if_false, List.cons_append, List.nil_append, Option.isNone_some, Option.isNone_none]))
    rename_i W6 h
    (try simp only [BLS, List.take_succ_cons, List.take_zero, List.drop_succ_cons, List.drop_zero, List.cons_append, List.nil_append, List.append_nil, List.take_nil, List.drop_nil, stL, Nat.reduceAdd] at h)
    refine key _ ?_
    rw [hms]
    have h10 := fin ⟨vmerge s.have_ v, s.cs, s.done⟩ W6 rfl rfl (St.wk h)
    exact St.wk h10
end
end Go.Proofs.Ytkjhccpanedccaa
namespace Go.Tar
set_option linter.unusedVariables false
set_option linter.unusedSimpArgs false
section
variable {on : List (List Int)} {n : Nat} {all gs : List (List Int)} {x y : Int}
def Same (on : List (List Int)) (x y : Int) : Prop := Rch on x y ∧ Rch on y x
theorem take_at {i : Nat} (h : x ∈ (gs.take i).flatten) : ∃ j, j < i ∧ x ∈ gs.getD j [] := by
  obtain ⟨l, hl, hx⟩ := List.mem_flatten.1 h
  obtain ⟨j, hj, rfl⟩ := List.getElem_of_mem hl
  have hj2 : j < i ∧ j < gs.length := by simp at hj; omega
  exact ⟨j, hj2.1, by rw [List.getD_eq_getElem?_getD, List.getElem?_eq_getElem hj2.2]; simpa using hx⟩
theorem Grp.down (h : Grp on n gs) {i j : Nat} (hr : Rch on x y) (hx : x ∈ gs.getD i []) (hy : y ∈ gs.getD j []) : j ≤ i := by
  have key : ∃ k, k ≤ i ∧ y ∈ gs.getD k [] := by
    refine Rch.stay (on := on) (x := x) (C := fun z => ∃ k, k ≤ i ∧ z ∈ gs.getD k []) (fun a ha b hb => ?_) hr ⟨i, Nat.le_refl _, hx⟩
    obtain ⟨k, hk, hak⟩ := ha
    obtain ⟨j, hj, hbj⟩ := take_at (h.cls k a hak b hb)
    exact ⟨j, by omega, hbj⟩
  obtain ⟨k, hk, hyk⟩ := key
  rw [flat_uniq gs h.nd j k y hy hyk]; exact hk
/-- those that reach one another are in one group -/
theorem Grp.same (h : Grp on n gs) {g : List Int} (hg : g ∈ gs) (hx : x ∈ g) (hy : Vx n y) : y ∈ g ↔ Same on x y := by
  obtain ⟨i, hi, rfl⟩ := List.getElem_of_mem hg
  have ei : gs.getD i [] = gs[i] := by rw [List.getD_eq_getElem?_getD, List.getElem?_eq_getElem hi]; rfl
  constructor
  · exact fun hy => ⟨h.scc _ hg _ hx _ hy, h.scc _ hg _ hy _ hx⟩
  · rintro ⟨h1, h2⟩
    obtain ⟨j, hj, hyj⟩ := flatAt ((h.all y).2 hy)
    have a1 := h.down h1 (by rw [ei]; exact hx) hyj
    have a2 := h.down h2 hyj (by rw [ei]; exact hx)
    have : i = j := by omega
    rw [← ei, this]; exact hyj
theorem told_pw {h : Nat → Nat → Bool} {m : Nat} (r : Nat → Nat) (hr : ∀ g k, g < m → k < m → k ≠ g → h g k = true → r k < r g) : ∀ i, i ≤ m → (toldG h m i).Pairwise fun g k => h g k = false
  | 0, _ => List.Pairwise.nil
  | i + 1, hi => by
    have ih := told_pw r hr i (by omega)
    have hT := told_ok r hr i (by omega)
    have hn := next_free (free_ex r hr (short_ex (T := toldG h m i) (by rw [hT.len]; omega)))
    show (toldG h m i ++ [nextG h m (toldG h m i)]).Pairwise _
    rw [List.pairwise_append]
    refine ⟨ih, by simp, fun g hg k hk => ?_⟩
    rw [List.mem_singleton] at hk
    subst hk
    have hf := (freeG_iff.1 hn.2.1).1
    refine Bool.eq_false_iff.2 fun hh => hf ((hT.shut g hg).2 _ hn.1 (fun e => hf (e ▸ hg)) hh)
theorem lineF_eq (hO : OnOk on on.length) : lineF on = ((toldG (hngOf on) (allOf on).length (allOf on).length).map fun g => (allOf on).getD g []).flatten := (line_law hO _ (Nat.le_refl _)).2.1
theorem told_all (hO : OnOk on on.length) {g : Nat} (hg : g < (allOf on).length) : g ∈ toldG (hngOf on) (allOf on).length (allOf on).length := by
  have hT := (line_law hO _ (Nat.le_refl _)).2.2.2
  refine Classical.byContradiction fun hn => ?_
  have h1 : (g :: toldG (hngOf on) (allOf on).length (allOf on).length).Nodup := List.nodup_cons.2 ⟨hn, hT.nd⟩
  have h2 : (g :: toldG (hngOf on) (allOf on).length (allOf on).length) ⊆ List.range (allOf on).length := fun x hx => by
    rcases List.mem_cons.1 hx with rfl | hx
    · exact List.mem_range.2 hg
    · exact List.mem_range.2 (hT.shut x hx).1
  have := h1.length_le_of_subset h2
  rw [List.length_cons, hT.len, List.length_range] at this; omega
theorem lineF_mem (hO : OnOk on on.length) : x ∈ lineF on ↔ Vx on.length x := by
  have hp := allOf_prt hO
  rw [lineF_eq hO]
  constructor
  · intro h
    obtain ⟨l, hl, hx⟩ := List.mem_flatten.1 h
    obtain ⟨g, _, rfl⟩ := List.mem_map.1 hl
    exact (hp.mem x).1 (memFlat hx)
  · intro h
    obtain ⟨g, hg, hx⟩ := flatAt ((hp.mem x).2 h)
    exact List.mem_flatten.2 ⟨_, List.mem_map.2 ⟨g, told_all hO hg, rfl⟩, hx⟩
theorem allOf_mem {g : List Int} : g ∈ allOf on ↔ g ∈ groupsF on := (sortHd_perm _).mem_iff
theorem getD_nil_or (gs : List (List Int)) (g : Nat) : gs.getD g [] = [] ∨ gs.getD g [] ∈ gs := by
  by_cases h : g < gs.length
  · right; rw [List.getD_eq_getElem?_getD, List.getElem?_eq_getElem h]; exact List.getElem_mem h
  · left; exact getD_ge (by omega)
/-- the order of a line -/
theorem lineF_pw (hO : OnOk on on.length) : (lineF on).Pairwise fun x y => (Same on x y ∧ x < y) ∨ (¬ Same on x y ∧ y ∉ rowOf on x) := by
  have hp := allOf_prt hO
  have hG := groups_grp hO
  have hr : ∀ g k, g < (allOf on).length → k < (allOf on).length → k ≠ g → hngOf on g k = true → rankOf on k < rankOf on g := fun g k hg hk hne h => rank_lt hO hg hk hne ((hng_iff hp hO).1 h)
  have hT := (line_law hO _ (Nat.le_refl _)).2.2.2
  have hpw := told_pw (rankOf on) hr _ (Nat.le_refl _)
  rw [lineF_eq hO, List.pairwise_flatten]
  refine ⟨fun l hl => ?_, ?_⟩
  · obtain ⟨g, _, rfl⟩ := List.mem_map.1 hl
    rcases getD_nil_or (allOf on) g with e | hm
    · rw [e]; exact List.Pairwise.nil
    · have h1 := (hp.gok _ hm).2
      have h2 : ((allOf on).getD g []).Nodup := hp.nd.sublist (List.sublist_flatten_of_mem hm)
      rw [List.nodup_iff_pairwise_ne] at h2
      refine List.Pairwise.imp_of_mem (fun {x y} hx hy hxy => ?_) (List.pairwise_and_iff.2 ⟨h1, h2⟩)
      have hmg := allOf_mem.1 hm
      exact .inl ⟨⟨hG.scc _ hmg _ hx _ hy, hG.scc _ hmg _ hy _ hx⟩, by have := hxy.1; have := hxy.2; omega⟩
  · rw [List.pairwise_map]
    refine List.Pairwise.imp_of_mem (fun {g k} hg hk hgk x hx y hy => .inr ⟨fun hs => ?_, fun hu => ?_⟩) (List.pairwise_and_iff.2 ⟨hpw, List.nodup_iff_pairwise_ne.1 hT.nd⟩)
    · rcases getD_nil_or (allOf on) g with e | hm
      · rw [e] at hx; cases hx
      · have := (hG.same (allOf_mem.1 hm) hx ((hp.mem y).1 (memFlat hy))).2 hs
        exact hgk.2 (flat_uniq _ hp.nd g k y this hy)
    · have h1 : hngOf on g k = true := (hng_iff hp hO).2 ⟨x, hx, y, hu, hy⟩
      rw [hgk.1] at h1; cases h1
theorem lineF_nodup (hO : OnOk on on.length) : (lineF on).Nodup := by
  have hp := allOf_prt hO
  have hT := (line_law hO _ (Nat.le_refl _)).2.2.2
  rw [lineF_eq hO, List.nodup_iff_pairwise_ne, List.pairwise_flatten]
  refine ⟨fun l hl => ?_, ?_⟩
  · obtain ⟨g, _, rfl⟩ := List.mem_map.1 hl
    rcases getD_nil_or (allOf on) g with e | hm
    · rw [e]; exact List.Pairwise.nil
    · exact List.nodup_iff_pairwise_ne.1 (hp.nd.sublist (List.sublist_flatten_of_mem hm))
  · rw [List.pairwise_map]
    refine (List.nodup_iff_pairwise_ne.1 hT.nd).imp fun {g k} hgk x hx y hy e => ?_
    subst e
    exact hgk (flat_uniq _ hp.nd g k x hx hy)
end
/-- two rows in one strict order, the one with all that is ahead of its own: it is a beginning -/
theorem prefix_of {α : Type} {R : α → α → Prop} (hR : ∀ x y, R x y → R y x → False) : ∀ (a b : List α), a.Pairwise R → b.Pairwise R → (∀ y ∈ b, y ∈ a) → (∀ y ∈ b, ∀ x ∈ a, R x y → x ∈ b) → b = a.take b.length
  | a, [], _, _, _, _ => by simp
  | [], y :: b, _, _, h, _ => absurd (h y (by simp)) (by simp)
  | x :: a, y :: b, ha, hb, hs, hd => by
    rw [List.pairwise_cons] at ha hb
    have hxy : y = x := by
      rcases List.mem_cons.1 (hs y (by simp)) with e | hy
      · exact e
      · have hxb := hd y (by simp) x (by simp) (ha.1 y hy)
        rcases List.mem_cons.1 hxb with e | hxb
        · exact e.symm
        · exact (hR _ _ (ha.1 y hy) (hb.1 x hxb)).elim
    subst hxy
    have irr : ∀ z, ¬ R z z := fun z h => hR z z h h
    rw [List.length_cons, List.take_succ_cons]
    congr 1
    refine prefix_of hR a b ha.2 hb.2 (fun z hz => ?_) fun z hz w hw h => ?_
    · rcases List.mem_cons.1 (hs z (by simp [hz])) with e | hz'
      · exact (irr y (by have := hb.1 z hz; rwa [e] at this)).elim
      · exact hz'
    · rcases List.mem_cons.1 (hd z (by simp [hz]) w (by simp [hw]) h) with e | hw'
      · exact (irr y (by have := ha.1 w hw; rwa [e] at this)).elim
      · exact hw'
end Go.Tar
namespace Go.Proofs.Ytkjhccpanedccaa
set_option linter.unusedVariables false
set_option linter.unusedSimpArgs false
open Go Go.Eng Go.Tar Go.Sort
/-- what is reached from x by what hangs on what, within K -/
inductive DR (K : List Ins) : Ins → Ins → Prop
  | refl (x : Ins) : DR K x x
  | step {x y z : Ins} : DR K x y → z ∈ K → z.d ∈ depsL y → DR K x z
def Mut (K : List Ins) (x y : Ins) : Prop := DR K x y ∧ DR K y x
section
variable {sl K M l : List Ins} {q : Dot → Bool} {x y z : Ins} {i j : Nat}
theorem DR.trans (h1 : DR K x y) (h2 : DR K y z) : DR K x z := by
  induction h2 with
  | refl => exact h1
  | step _ h3 h4 ih => exact .step ih h3 h4
theorem DR.one (h : y ∈ K) (hd : y.d ∈ depsL x) : DR K x y := .step (.refl x) h hd
theorem DR.mono (hs : ∀ x ∈ K, x ∈ M) (h : DR K x y) : DR M x y := by
  induction h with
  | refl => exact .refl _
  | step _ h3 h4 ih => exact .step ih (hs _ h3) h4
theorem DR.mem (h : DR K x y) (hx : x ∈ K) : y ∈ K := by
  cases h with
  | refl => exact hx
  | step _ h3 _ => exact h3
theorem Mut.symm (h : Mut K x y) : Mut K y x := ⟨h.2, h.1⟩
theorem edge_iff (hn : (sl.map (·.d)).Nodup) (hi : i < sl.length) (hj : j < sl.length) : (j : Int) ∈ rowOf (onL sl) (i : Int) ↔ sl[j].d ∈ depsL sl[i] := by
  rw [onRow_at sl hi, onRow_mem]
  constructor
  · rintro ⟨d, hd, k, hk, e⟩
    obtain ⟨h1, h2⟩ := plcO_some hk
    have : k = j := by omega
    subst this; rw [h2]; exact hd
  · exact fun h => ⟨_, h, j, plcO_at hn hj, rfl⟩
theorem at_inj (hn : (sl.map (·.d)).Nodup) (hi : i < sl.length) (hj : j < sl.length) (e : sl[i].d = sl[j].d) : i = j := by
  have h3 := List.getElem_inj (h₀ := by simpa using hi) (h₁ := by simpa using hj) (i := i) (j := j) hn
  exact h3.1 (by simpa using e)
theorem rch_dr (hn : (sl.map (·.d)).Nodup) (hi : i < sl.length) (hj : j < sl.length) : Rch (onL sl) (i : Int) (j : Int) ↔ DR sl sl[i] sl[j] := by
  constructor
  · intro h
    have key : ∀ a b : Int, Rch (onL sl) a b → Vx sl.length a → ∀ (ha : a.toNat < sl.length) (hb : b.toNat < sl.length), DR sl sl[a.toNat] sl[b.toNat] := by
      intro a b hr
      induction hr with
      | refl => exact fun _ _ _ => .refl _
      | @step b c hr hc ih =>
        intro hax ha hcl
        have hb := rch_vx (onL_ok sl) hr hax
        have hcx := (onL_ok sl).rng b c hc
        have hbn : b.toNat < sl.length := by unfold Vx at hb; omega
        refine .step (ih hax ha hbn) (List.getElem_mem _) ((edge_iff hn hbn hcl).1 ?_)
        rw [show ((c.toNat : Nat) : Int) = c by unfold Vx at hcx; omega, show ((b.toNat : Nat) : Int) = b by unfold Vx at hb; omega]
        exact hc
    exact key i j h ⟨by omega, by omega⟩ (by simpa using hi) (by simpa using hj)
  · intro h
    generalize hx : sl[i] = x at h
    generalize hy : sl[j] = y at h
    induction h generalizing j with
    | refl =>
      have := at_inj hn hi hj (by rw [hx, hy])
      subst this; exact .refl _
    | @step y z _ hz hd ih =>
      by_cases hym : y ∈ sl
      · obtain ⟨k, hk, rfl⟩ := List.getElem_of_mem hym
        exact .step (ih hk rfl) ((edge_iff hn hk hj).2 (by rw [hy]; exact hd))
      · rename_i h
        cases h with
        | refl => exact absurd (hx ▸ List.getElem_mem hi) hym
        | step _ h3 _ => exact absurd h3 hym
/-- a line, as instances -/
def lineS (sl : List Ins) : List Ins := (lineF (onL sl)).map fun v => sl.getD v.toNat default
theorem dots_lineS (sl : List Ins) : dotsO sl (lineF (onL sl)) = (lineS sl).map (·.d) := by
  unfold dotsO lineS; rw [List.map_map]; rfl
theorem onO (sl : List Ins) : OnOk (onL sl) (onL sl).length := by rw [(onL_ok sl).len]; exact onL_ok sl
theorem lineF_at (v : Int) : v ∈ lineF (onL sl) ↔ ∃ k : Nat, v = k ∧ k < sl.length := by
  rw [lineF_mem (onO sl), (onL_ok sl).len]
  exact ⟨fun h => ⟨v.toNat, by unfold Vx at h; omega, by unfold Vx at h; omega⟩, fun ⟨k, e, hk⟩ => by unfold Vx; omega⟩
theorem lineS_mem : x ∈ lineS sl ↔ x ∈ sl := by
  unfold lineS
  rw [List.mem_map]
  constructor
  · rintro ⟨v, hv, rfl⟩
    obtain ⟨k, rfl, hk⟩ := (lineF_at v).1 hv
    rw [Int.toNat_natCast, ← getD_at hk]; exact List.getElem_mem hk
  · intro h
    obtain ⟨k, hk, rfl⟩ := List.getElem_of_mem h
    exact ⟨k, (lineF_at _).2 ⟨k, rfl, hk⟩, by rw [Int.toNat_natCast, ← getD_at hk]⟩
theorem lineS_nodup (hn : (sl.map (·.d)).Nodup) : ((lineS sl).map (·.d)).Nodup := by
  unfold lineS
  rw [List.map_map, List.nodup_iff_pairwise_ne, List.pairwise_map]
  refine List.Pairwise.imp_of_mem (fun {a b} ha hb hab e => ?_) (List.nodup_iff_pairwise_ne.1 (lineF_nodup (onO sl)))
  obtain ⟨i, rfl, hi⟩ := (lineF_at a).1 ha
  obtain ⟨j, rfl, hj⟩ := (lineF_at b).1 hb
  simp only [Function.comp_def, Int.toNat_natCast] at e
  rw [← getD_at hi, ← getD_at hj] at e
  exact hab (by rw [at_inj hn hi hj e])
theorem lineS_pw (hn : (sl.map (·.d)).Nodup) (hs : insSorted sl) : (lineS sl).Pairwise fun x y => (Mut sl x y ∧ insLt x y) ∨ (¬ Mut sl x y ∧ y.d ∉ depsL x) := by
  unfold lineS
  rw [List.pairwise_map]
  refine List.Pairwise.imp_of_mem (fun {a b} ha hb hab => ?_) (lineF_pw (onO sl))
  obtain ⟨i, rfl, hi⟩ := (lineF_at a).1 ha
  obtain ⟨j, rfl, hj⟩ := (lineF_at b).1 hb
  rw [Int.toNat_natCast, Int.toNat_natCast, ← getD_at hi, ← getD_at hj]
  have hm : Same (onL sl) i j ↔ Mut sl sl[i] sl[j] := and_congr (rch_dr hn hi hj) (rch_dr hn hj hi)
  rw [hm, edge_iff hn hi hj] at hab
  rcases hab with ⟨h1, h2⟩ | h
  · refine .inl ⟨h1, ?_⟩
    have hlt : i < j := by omega
    have h3 := List.pairwise_iff_getElem.1 hs i j hi hj hlt
    refine Classical.byContradiction fun h4 => ?_
    have := at_inj hn hi hj (insLt_same h4 h3)
    omega
  · exact .inr h
/-! ### of any instances -/
def lineK (K : List Ins) : List Ins := lineS (sortO K)
theorem sortO_mem : x ∈ sortO K ↔ x ∈ K := (sortO_perm K).mem_iff
theorem dr_sort : DR (sortO K) x y ↔ DR K x y := ⟨DR.mono fun _ h => sortO_mem.1 h, DR.mono fun _ h => sortO_mem.2 h⟩
theorem lineK_mem : x ∈ lineK K ↔ x ∈ K := lineS_mem.trans sortO_mem
theorem lineK_nodup (hn : (K.map (·.d)).Nodup) : ((lineK K).map (·.d)).Nodup := lineS_nodup (sortO_nodup hn)
theorem lineK_pw (hn : (K.map (·.d)).Nodup) : (lineK K).Pairwise fun x y => (Mut K x y ∧ insLt x y) ∨ (¬ Mut K x y ∧ y.d ∉ depsL x) := by
  have := lineS_pw (sortO_nodup hn) (sortO_sorted K)
  unfold Mut at this ⊢
  simp only [dr_sort] at this
  exact this
theorem lineO_eq : lineO q l = (lineK (keptO q (l.filter fun x => !q x.d))).map (·.d) := by unfold lineO lineK; exact dots_lineS _
/-! ### what is kept -/
theorem kept_mem : x ∈ keptO q l ↔ x ∈ l ∧ ¬ Lk (sortO l) q x := by
  unfold keptO
  rw [List.mem_filter, sortO_mem]; simp
theorem kept_nodup (hn : (l.map (·.d)).Nodup) : ((keptO q l).map (·.d)).Nodup := (sortO_nodup hn).sublist (kept_sub.map _)
theorem kept_closed {d : Dot} (hx : x ∈ keptO q l) (hd : d ∈ depsL x) : q d = true ∨ ∃ y ∈ keptO q l, y.d = d := by
  obtain ⟨h1, h2⟩ := kept_mem.1 hx
  by_cases hy : ∃ y ∈ l, y.d = d
  · obtain ⟨y, hy, rfl⟩ := hy
    exact .inr ⟨y, kept_mem.2 ⟨hy, fun hL => h2 (.next (sortO_mem.2 h1) (sortO_mem.2 hy) hd hL)⟩, rfl⟩
  · left
    refine Classical.byContradiction fun hq => h2 (.miss (sortO_mem.2 h1) hd (fun y hy2 e => hy ⟨y, sortO_mem.1 hy2, e⟩) (by simpa using hq))
theorem kept_great {C : Ins → Prop} (hn : (l.map (·.d)).Nodup) (hq : ∀ y ∈ l, q y.d = false) (hs : ∀ x, C x → x ∈ l) (hc : ∀ x, C x → ∀ d ∈ depsL x, q d = true ∨ ∃ y, C y ∧ y.d = d) (hx : C x) : x ∈ keptO q l := by
  refine kept_mem.2 ⟨hs x hx, fun hL => ?_⟩
  induction hL with
  | @miss x d _ hd hno hqd =>
    rcases hc x hx d hd with h | ⟨y, hy, e⟩
    · rw [hqd] at h; cases h
    · exact hno y (sortO_mem.2 (hs y hy)) e
  | @next x y _ hy hd _ ih =>
    rcases hc x hx y.d hd with h | ⟨y', hy', e⟩
    · rw [hq y (sortO_mem.1 hy)] at h; cases h
    · exact ih (ins_inj hn (hs y' hy') (sortO_mem.1 hy) e ▸ hy')
theorem kept_all (hc : ∀ x ∈ l, ∀ d ∈ depsL x, q d = true ∨ ∃ y ∈ l, y.d = d) (hn : (l.map (·.d)).Nodup) (hq : ∀ y ∈ l, q y.d = false) : x ∈ keptO q l ↔ x ∈ l :=
  ⟨fun h => (kept_mem.1 h).1, fun h => kept_great (C := fun x => x ∈ l) hn hq (fun _ h => h) (fun x hx d hd => hc x hx d hd) h⟩
/-- within what is closed all that is reached lies -/
theorem dr_closed (hn : (K.map (·.d)).Nodup) (hs : ∀ x ∈ M, x ∈ K) (hc : ∀ x ∈ M, ∀ d ∈ depsL x, ∃ y ∈ M, y.d = d) (hx : x ∈ M) (h : DR K x y) : y ∈ M ∧ DR M x y := by
  induction h with
  | refl => exact ⟨hx, .refl _⟩
  | @step y z _ hz hd ih =>
    obtain ⟨z', hz', e⟩ := hc y ih.1 z.d hd
    have : z' = z := ins_inj hn (hs z' hz') hz e
    subst this
    exact ⟨hz', .step ih.2 hz' hd⟩
/-- T3: where each two hang together, the line of what is closed is a beginning -/
theorem line_prefix (hn : (K.map (·.d)).Nodup) (hnm : (M.map (·.d)).Nodup) (hs : ∀ x ∈ M, x ∈ K) (hc : ∀ x ∈ M, ∀ d ∈ depsL x, ∃ y ∈ M, y.d = d) (hT : ∀ x ∈ K, ∀ y ∈ K, x ≠ y → x.d ∈ depsL y ∨ y.d ∈ depsL x) :
    lineK M = (lineK K).take (lineK M).length := by
  have key : ∀ N : List Ins, (N.map (·.d)).Nodup → (∀ x ∈ N, x ∈ K) → (∀ x ∈ N, ∀ y ∈ N, (DR N x y ↔ DR K x y)) → (lineK N).Pairwise fun x y => (Mut K x y ∧ insLt x y) ∨ (¬ Mut K x y ∧ DR K y x) := by
    intro N hnn hsn hdr
    have h1 := lineK_pw hnn
    have h2 := List.nodup_iff_pairwise_ne.1 (lineK_nodup hnn)
    rw [List.pairwise_map] at h2
    refine List.Pairwise.imp_of_mem (fun {x y} hx hy hxy => ?_) (List.pairwise_and_iff.2 ⟨h1, h2⟩)
    have hx := lineK_mem.1 hx
    have hy := lineK_mem.1 hy
    have hm : Mut N x y ↔ Mut K x y := and_congr (hdr x hx y hy) (hdr y hy x hx)
    obtain ⟨h3, h4⟩ := hxy
    rw [hm] at h3
    rcases h3 with h3 | ⟨h3, h5⟩
    · exact .inl h3
    · rcases hT x (hsn x hx) y (hsn y hy) (fun e => h4 (by rw [e])) with h6 | h6
      · exact .inr ⟨h3, .one (hsn x hx) h6⟩
      · exact absurd h6 h5
  refine prefix_of (R := fun x y => (Mut K x y ∧ insLt x y) ∨ (¬ Mut K x y ∧ DR K y x)) (fun x y h1 h2 => ?_) (lineK K) (lineK M) (key K hn (fun _ h => h) fun _ _ _ _ => Iff.rfl)
    (key M hnm hs fun x hx y _ => ⟨DR.mono hs, fun h => (dr_closed hn hs hc hx h).2⟩) (fun y hy => lineK_mem.2 (hs y (lineK_mem.1 hy))) fun y hy x hx h => ?_
  · rcases h1 with ⟨a1, a2⟩ | ⟨a1, a2⟩ <;> rcases h2 with ⟨b1, b2⟩ | ⟨b1, b2⟩
    · unfold insLt at a2 b2; omega
    · exact b1 a1.symm
    · exact a1 b1.symm
    · exact a1 ⟨b2, a2⟩
  · have hy := lineK_mem.1 hy
    refine lineK_mem.2 ?_
    rcases h with ⟨h, _⟩ | ⟨_, h⟩
    · exact (dr_closed hn hs hc hy h.2).1
    · exact (dr_closed hn hs hc hy h).1
end
end Go.Proofs.Ytkjhccpanedccaa
namespace Go.Proofs.Ytkjhccpanedccaa
set_option linter.unusedVariables false
set_option linter.unusedSimpArgs false
open Go Go.Eng Go.Tar Go.Sort
def stepK (q : Dot → Bool) (K : List Ins) : List Ins := K.filter fun x => (depsL x).all fun d => q d || K.any fun y => decide (y.d = d)
def iterK (q : Dot → Bool) : Nat → List Ins → List Ins
  | 0, K => K
  | n + 1, K => iterK q n (stepK q K)
def keptC (q : Dot → Bool) (l : List Ins) : List Ins := iterK q l.length (sortO l)
section
variable {q : Dot → Bool} {K l : List Ins} {x : Ins}
theorem iterK_sub : ∀ (n : Nat) (K : List Ins), (iterK q n K).Sublist K
  | 0, K => List.Sublist.refl _
  | n + 1, K => (iterK_sub n (stepK q K)).trans List.filter_sublist
theorem iterK_fix : ∀ (n : Nat) (K : List Ins), K.length ≤ n → stepK q (iterK q n K) = iterK q n K
  | 0, K, h => by
    have : K = [] := List.eq_nil_of_length_eq_zero (by omega)
    subst this; rfl
  | n + 1, K, h => by
    show stepK q (iterK q n (stepK q K)) = iterK q n (stepK q K)
    by_cases e : stepK q K = K
    · rw [e]
      have : ∀ m, iterK q m K = K := fun m => by
        induction m with
        | zero => rfl
        | succ m ih => show iterK q m (stepK q K) = K; rw [e]; exact ih
      rw [this, e]
    · refine iterK_fix n _ ?_
      have h1 : (stepK q K).length ≤ K.length := List.length_filter_le _ _
      have h2 : (stepK q K).length ≠ K.length := fun e2 => e ((List.filter_sublist (l := K)).eq_of_length e2)
      omega
theorem stepK_mem : x ∈ stepK q K ↔ x ∈ K ∧ ∀ d ∈ depsL x, q d = true ∨ ∃ y ∈ K, y.d = d := by
  unfold stepK
  rw [List.mem_filter, List.all_eq_true]
  simp only [Bool.or_eq_true, List.any_eq_true, decide_eq_true_eq]
theorem iterK_great {C : Ins → Prop} (hc : ∀ x, C x → ∀ d ∈ depsL x, q d = true ∨ ∃ y, C y ∧ y.d = d) : ∀ (n : Nat) (K : List Ins), (∀ x, C x → x ∈ K) → ∀ x, C x → x ∈ iterK q n K
  | 0, K, h => h
  | n + 1, K, h => iterK_great hc n _ fun x hx => stepK_mem.2 ⟨h x hx, fun d hd => (hc x hx d hd).imp_right fun ⟨y, hy, e⟩ => ⟨y, h y hy, e⟩⟩
open Classical in
theorem sub_filter {α : Type} {S L : List α} (h : S.Sublist L) (hn : L.Nodup) : S = L.filter fun x => decide (x ∈ S) := by
  induction h with
  | slnil => rfl
  | @cons S L a h ih =>
    rw [List.nodup_cons] at hn
    rw [List.filter_cons, if_neg (by simpa using fun ha => hn.1 (h.mem ha))]
    exact ih hn.2
  | @cons_cons S L a h ih =>
    rw [List.nodup_cons] at hn
    rw [List.filter_cons, if_pos (by simp)]
    congr 1
    refine (ih hn.2).trans (List.filter_congr fun x hx => ?_)
    have : x ≠ a := fun e => hn.1 (e ▸ hx)
    simp [this]
theorem nodup_of_map {α β : Type} {f : α → β} {l : List α} (h : (l.map f).Nodup) : l.Nodup := by
  rw [List.nodup_iff_pairwise_ne, List.pairwise_map] at h
  rw [List.nodup_iff_pairwise_ne]
  exact h.imp fun {a b} hab e => hab (by rw [e])
theorem kept_eq (hn : (l.map (·.d)).Nodup) (hq : ∀ y ∈ l, q y.d = false) : keptO q l = keptC q l := by
  have h1 : ∀ x, x ∈ keptO q l ↔ x ∈ keptC q l := fun x => by
    constructor
    · exact fun h => iterK_great (C := fun x => x ∈ keptO q l) (fun x hx d hd => kept_closed hx hd) l.length (sortO l) (fun x hx => sortO_mem.2 (kept_mem.1 hx).1) x h
    · intro h
      refine kept_great (C := fun x => x ∈ keptC q l) hn hq (fun x hx => sortO_mem.1 ((iterK_sub _ _).mem hx)) (fun x hx d hd => ?_) h
      have hf := iterK_fix (q := q) l.length (sortO l) (by rw [sortO_len]; exact Nat.le_refl _)
      have hx2 : x ∈ stepK q (keptC q l) := by unfold keptC; rw [hf]; exact hx
      exact (stepK_mem.1 hx2).2 d hd
  have hnd := nodup_of_map (sortO_nodup hn)
  have e1 := sub_filter (S := keptO q l) kept_sub hnd
  have e2 := sub_filter (S := keptC q l) (iterK_sub l.length (sortO l)) hnd
  exact e1.trans ((List.filter_congr fun x _ => by rw [decide_eq_decide]; exact h1 x).trans e2.symm)
/-- the line, as a machine computes it -/
def lineC (done : P7 Int) (also : List Dot) (l : List Ins) : List Dot :=
  if goodO l = true then dotsO (sortO (keptC (isO done also) (l.filter fun x => !isO done also x.d))) (lineF (onL (sortO (keptC (isO done also) (l.filter fun x => !isO done also x.d))))) else []
theorem lineTop_eq (done : P7 Int) (also : List Dot) (l : List Ins) : lineTop done also l = lineC done also l := by
  unfold lineTop lineC
  by_cases h : goodO l = true
  · rw [if_pos h, if_pos h]
    have hn := (goodO_iff.1 h).2.1
    unfold lineO
    rw [kept_eq (hn.sublist (List.filter_sublist.map _)) fun y hy => by simpa using (List.mem_filter.1 hy).2]
  · rw [if_neg h, if_neg h]
end
theorem line0_len (done : P7 Int) (also : List Dot) (l : List Ins) : (lineTop done also l).length ≤ l.length := by
  unfold lineTop
  split
  · rw [lineO_eq, List.length_map]
    unfold lineK lineS
    rw [List.length_map]
    refine Nat.le_trans (lineF_len (onL_ok _)) ?_
    rw [sortO_len]
    have h1 := (kept_sub (q := isO done also) (l := l.filter fun x => !isO done also x.d)).length_le
    rw [sortO_len] at h1
    exact Nat.le_trans h1 (List.length_filter_le _ _)
  · simp
end Go.Proofs.Ytkjhccpanedccaa
namespace Go.Eng
set_option linter.unusedVariables false
set_option linter.unusedSimpArgs false
open Go Go.RowKit Go.ChangeShapes Go.WideShapes Go.Deep

inductive Cl where
  | int (k : IntKind)
  | str
  | bool
  | sl (e : List Cl)

mutual
inductive GoodC (W : World) : Cl → Value → Prop where
  | int {k : IntKind} {n : Int} (h : (Lit.int k n).wf = true) : GoodC W (.int k) (.int k n)
  | str {s : ByteArray} (h : s.size ≤ maxLen) : GoodC W .str (.string s)
  | bool {b : Bool} : GoodC W .bool (.bool b)
  | sl {e : List Cl} {a : Option Addr} {n c : Nat} (rows : Nat → List Value) (hc : n ≤ c) (hm : c ≤ maxLen) (hn : a = none → c = 0)
      (hr : ∀ i, i < n → ∃ b o, a = some ⟨b, o, none⟩ ∧ ro W b (o + i * e.length) (rows i)) (hg : ∀ i, i < n → GoodL W e (rows i)) : GoodC W (.sl e) (.slice a n c)
inductive GoodL (W : World) : List Cl → List Value → Prop where
  | nil : GoodL W [] []
  | cons {c : Cl} {cs : List Cl} {v : Value} {vs : List Value} (h : GoodC W c v) (hs : GoodL W cs vs) : GoodL W (c :: cs) (v :: vs)
end

theorem GoodL.app {W : World} : ∀ {l : List Cl} {vs : List Value} {l' : List Cl} {vs' : List Value}, GoodL W l vs → GoodL W l' vs' → GoodL W (l ++ l') (vs ++ vs')
  | _, _, _, _, .nil, h => h
  | _, _, _, _, .cons h hs, h' => .cons h (hs.app h')
theorem GoodL.len {W : World} : ∀ {l : List Cl} {vs : List Value}, GoodL W l vs → vs.length = l.length
  | _, _, .nil => rfl
  | _, _, .cons h hs => by simp [hs.len]

def clF (P : Program) (g : TypeId → Option (List Cl)) : List Field → Nat → Option (List Cl)
  | [], _ => some []
  | f :: r, off => match Nat.beq f.offset off with
    | false => none
    | true => match g f.type with
      | some ks => match Nat.beq (P.cellsOf f.type) ks.length with
        | true => (match clF P g r (off + ks.length) with | some l => some (ks ++ l) | none => none)
        | false => none
      | none => none
/-- the cells of a type -/
def cls (P : Program) : Nat → TypeId → Option (List Cl)
  | 0, _ => none
  | d + 1, t => match P.underlying t with
    | some (.int k) => some [.int k]
    | some .string => some [.str]
    | some .bool => some [.bool]
    | some (.slice e) => (match cls P d e with | some l => (match Nat.beq (P.cellsOf e) l.length && !Nat.beq l.length 0 with | true => some [.sl l] | false => none) | none => none)
    | some (.struct fs) => (match clF P (cls P d) fs.toList 0 with | some l => (match Nat.beq (P.cellsOf t) l.length with | true => some l | false => none) | none => none)
    | some (.array n e) => (match cls P d e with | some l => (match Nat.beq (P.cellsOf e) l.length && Nat.beq (P.cellsOf t) (n * l.length) with | true => some (List.replicate n l).flatten | false => none) | none => none)
    | _ => none

section
variable {P : Program} {w : World} {H : Type} {enc : TypeId × Value → H}

theorem good_fields {g : TypeId → Option (List Cl)} {n : Nat} {cs : List Value}
    (hg : ∀ t l, g t = some l → ∀ cs x, DataW.trod enc P w 0 (fun _ => true) true n t cs = some x → GoodL w l cs) :
    ∀ (fs : List Field) (off : Nat) (l : List Cl), clF P g fs off = some l → (∀ f ∈ fs, ∃ x, DataW.trod enc P w 0 (fun _ => true) true n f.type ((cs.drop f.offset).take (P.cellsOf f.type)) = some x) →
      GoodL w l ((cs.drop off).take l.length)
  | [], off, l, h, _ => by simp only [clF, Option.some.injEq] at h; subst h; simpa using GoodL.nil
  | f :: fs, off, l, h, hx => by
    simp only [clF] at h
    split at h
    · cases h
    · rename_i ho
      have ho := Nat.eq_of_beq_eq_true ho
      split at h
      · rename_i ks hks
        split at h
        · rename_i hsz
          have hsz := Nat.eq_of_beq_eq_true hsz
          split at h
          · rename_i l' hl'
            simp only [Option.some.injEq] at h
            subst h
            obtain ⟨x, hx0⟩ := hx f (by simp)
            rw [hsz, ho] at hx0
            have h1 := hg _ _ hks _ _ hx0
            have h2 := good_fields hg fs _ _ hl' (fun f' hf' => hx f' (List.mem_cons_of_mem _ hf'))
            have := h1.app h2
            rw [← List.drop_drop, ← List.take_add] at this
            simpa using this
          · cases h
        · cases h
      · cases h

theorem open_cls : ∀ (m : Nat) (t : TypeId) (l : List Cl), cls P m t = some l → ∀ (fuel : Nat) (cs : List Value) (x : DataW H × List MemPlace), DataW.trod enc P w 0 (fun _ => true) true fuel t cs = some x → GoodL w l cs
  | 0, _, _, h => by simp [cls] at h
  | m + 1, t, l, h => by
    intro fuel cs x hx
    simp only [cls] at h
    cases ht : P.underlying t with
    | none => rw [ht] at h; cases h
    | some d =>
      rw [ht] at h
      cases d <;> simp only at h <;> try (cases h; done)
      case int k =>
        simp only [Option.some.injEq] at h
        subst h
        obtain ⟨n, rfl, _, hw⟩ := DataW.trod_int ht hx
        exact .cons (.int hw) .nil
      case string =>
        simp only [Option.some.injEq] at h
        subst h
        obtain ⟨n, rfl, _, hw⟩ := DataW.trod_string ht hx
        exact .cons (.str hw) .nil
      case bool =>
        simp only [Option.some.injEq] at h
        subst h
        obtain ⟨n, rfl, _⟩ := DataW.trod_bool ht hx
        exact .cons .bool .nil
      case slice e =>
        split at h
        · rename_i le hle
          split at h
          · rename_i hb
            simp only [Bool.and_eq_true, Bool.not_eq_true'] at hb
            have hsz := Nat.eq_of_beq_eq_true hb.1
            have hpos : 0 < le.length := Nat.pos_of_ne_zero fun e => by rw [e] at hb; simp at hb
            simp only [Option.some.injEq] at h
            subst h
            rcases open_slice ht hx with ⟨rfl, _⟩ | ⟨a, len, cap, mm, n, D, Pl, rfl, hb0, hl, hmx, hmm, rfl, hel⟩
            · exact .cons (.sl (fun _ => []) (by omega) (by simp [maxLen]) (fun _ => rfl) (fun i hi => by omega) (fun i hi => by omega)) .nil
            · simp only [if_true] at hmm
              subst hmm
              rw [hsz] at hel
              obtain ⟨rows, hrows⟩ := choose_lt (α := List Value) (p := fun i cs' => w.cells? 0 (a.add (i * le.length)) le.length = some cs' ∧ DataW.trod enc P w 0 (fun _ => true) true n e cs' = some (D i, Pl i)) hel
              refine .cons (.sl rows hl hmx (fun h => by cases h) (fun i hi => ?_) (fun i hi => open_cls m e le hle n _ _ (hrows i (by omega)).2)) .nil
              obtain ⟨_, hlen0, hcell0⟩ := World.cells?_some (hrows 0 (by omega)).1
              obtain ⟨_, hlen, hcell⟩ := World.cells?_some (hrows i (by omega)).1
              have h0 : ∃ v, w.cell? a = some v := by
                have := hcell0 0 hpos
                simp only [Nat.zero_mul, Addr.add, if_true] at this
                rw [this]
                exact ⟨(rows 0)[0]'(by omega), by simp⟩
              obtain ⟨v, hv⟩ := h0
              have hsp := World.cell?_spot hv
              obtain ⟨ab, ao, asp⟩ := a
              simp only at hsp
              subst hsp
              refine ⟨ab, ao, rfl, fun j hj => ?_⟩
              have := hcell j (by omega)
              rw [add_none, add_none] at this
              exact this
          · cases h
        · cases h
      case struct fs =>
        split at h
        · rename_i l' hl'
          split at h
          · rename_i hsz
            have hsz := Nat.eq_of_beq_eq_true hsz
            simp only [Option.some.injEq] at h
            subst h
            obtain ⟨xs, n, rfl, rfl, hlen, hxs, hf⟩ := DataW.trod_struct ht hx
            have := good_fields (cs := cs) (fun t l hl cs x hx => open_cls m t l hl n cs x hx) fs.toList 0 l' hl' (fun f hf' => by
              obtain ⟨i, hi, rfl⟩ := List.getElem_of_mem hf'
              have hi' : i < fs.size := by simpa using hi
              have := hf i fs[i] (by simp [hi'])
              rw [show fs.toList[i] = fs[i] by simp, this]
              exact ⟨xs[i]'(by omega), by simp⟩)
            rw [← hsz, ← hlen] at this
            simpa using this
          · cases h
        · cases h
      case array k e =>
        split at h
        · rename_i le hle
          split at h
          · rename_i hb
            simp only [Bool.and_eq_true] at hb
            have hsz := Nat.eq_of_beq_eq_true hb.1
            have hsz2 := Nat.eq_of_beq_eq_true hb.2
            simp only [Option.some.injEq] at h
            subst h
            obtain ⟨xs, n, rfl, rfl, hlen, hxs, hf⟩ := DataW.trod_array ht hx
            rw [hsz2] at hlen
            rw [hsz] at hf
            have key : ∀ j, j ≤ k → GoodL w (List.replicate j le).flatten (cs.take (j * le.length)) := by
              intro j
              induction j with
              | zero => intro _; simpa using GoodL.nil
              | succ j ih =>
                intro hj
                have h1 := hf j (by omega)
                have h2 : GoodL w le ((cs.drop (j * le.length)).take le.length) := by
                  refine open_cls m e le hle n _ (xs[j]'(by omega)) ?_
                  rw [h1]; simp
                have := (ih (by omega)).app h2
                rw [← List.take_add] at this
                rw [List.replicate_succ', List.flatten_append, Nat.succ_mul]
                simpa using this
            have := key k (Nat.le_refl _)
            rw [← hlen] at this
            simpa using this
          · cases h
        · cases h

/-- an argument of a law -/
def GoodA (w : World) (l : List Cl) (agg : Bool) (v : Value) : Prop := GoodL w l (vcells v) ∧ (agg = true → ∃ cs : List Value, v = .agg cs.toArray) ∧ (agg = false → vcells v = [v])
theorem open_arg {t : TypeId} {l : List Cl} {agg : Bool} {m : Nat} {v : Value} {d : DataW H} {ps : List MemPlace} {r : Reach} {b0 : Nat} (hl : cls P m t = some l) (ha : (P.underlying t).map aggB = some agg)
    (hval : Value.okWide P w r b0 t v) (h : DataW.Trod enc P w 0 (fun _ => true) true t v d ps) : GoodA w l agg v := by
  obtain ⟨fuel, hf⟩ := h
  obtain ⟨u, hu, hu'⟩ := Option.map_eq_some_iff.1 ha
  refine ⟨by have := open_cls m t l hl _ _ _ hf; rwa [vcells_eq] at this, fun hagg => ?_, fun hagg => ?_⟩
  · subst hagg
    cases u <;> simp only [aggB] at hu' <;> try (cases hu'; done)
    case struct fs =>
      obtain ⟨cs, rfl, _⟩ := okWide_struct hu hval
      exact ⟨cs.toList, rfl⟩
    case array n e =>
      simp only [Value.okWide, hu] at hval
      cases v <;> simp_all
      exact ⟨_, (Array.toArray_toList).symm⟩
  · subst hagg
    cases m with
    | zero => simp [cls] at hl
    | succ m =>
      simp only [cls, hu] at hl
      cases u <;> simp only [aggB] at hu' <;> simp only at hl <;> try (first | (cases hu'; done) | (cases hl; done))
      case int k => obtain ⟨n, rfl⟩ := okWide_int hu hval; rfl
      case string => obtain ⟨n, rfl⟩ := okWide_string hu hval; rfl
      case bool => obtain ⟨n, rfl⟩ := okWide_bool hu hval; rfl
      case slice e => obtain ⟨a, b, c, rfl⟩ := okWide_slice hu hval; rfl
theorem GoodL.cons' {c : Cl} {cs : List Cl} {vs : List Value} (h : GoodL w (c :: cs) vs) : ∃ v vs', vs = v :: vs' ∧ GoodC w c v ∧ GoodL w cs vs' := by
  cases h with | cons h1 h2 => exact ⟨_, _, rfl, h1, h2⟩
theorem GoodL.nil' {vs : List Value} (h : GoodL w [] vs) : vs = [] := by cases h; rfl
theorem GoodA.one {c : Cl} {v : Value} (h : GoodA w [c] false v) : GoodC w c v := by
  obtain ⟨h1, _, h2⟩ := h
  rw [h2 rfl] at h1
  cases h1 with | cons h _ => exact h
theorem GoodC.int' {k : IntKind} {v : Value} (h : GoodC w (.int k) v) : ∃ n, v = .int k n ∧ (Lit.int k n).wf = true := by
  cases h with | int h => exact ⟨_, rfl, h⟩
theorem GoodC.str' {v : Value} (h : GoodC w .str v) : ∃ s : ByteArray, v = .string s ∧ s.size ≤ maxLen := by
  cases h with | str h => exact ⟨_, rfl, h⟩
theorem GoodC.bool' {v : Value} (h : GoodC w .bool v) : ∃ b, v = .bool b := by
  cases h with | bool => exact ⟨_, rfl⟩
/-- a slice whose rows are of a kind -/
theorem GoodC.sl' {e : List Cl} {v : Value} {α : Type} [Inhabited α] {q : α → List Value → Prop} (h : GoodC w (.sl e) v) (hq : ∀ vs, GoodL w e vs → ∃ a, q a vs) :
    ∃ a n c, ∃ A : Nat → α, v = .slice a n c ∧ n ≤ c ∧ c ≤ maxLen ∧ (a = none → c = 0) ∧ ∀ i, i < n → ∃ b o vs, a = some ⟨b, o, none⟩ ∧ ro w b (o + i * e.length) vs ∧ q (A i) vs := by
  cases h with
  | sl rows hc hm hn hr hg =>
    obtain ⟨A, hA⟩ := choose_lt fun i hi => hq _ (hg i hi)
    exact ⟨_, _, _, A, rfl, hc, hm, hn, fun i hi => let ⟨b, o, h1, h2⟩ := hr i hi; ⟨b, o, rows i, h1, h2, hA i hi⟩⟩
theorem keep_all (hl : laidOutB P = true) : ∀ {ts : List TypeId} {vs : List Value} {ds : List (DataW H)} {ps : List MemPlace} {W W' : World}, ts.all (fun t => P.readableRec t && decide (t < P.types.size)) = true →
    DataW.TrodAll enc P W 0 (fun _ => true) true ts vs ds ps → Below W.heap.size W W' → DataW.TrodAll enc P W' 0 (fun b => decide (b < W.heap.size)) true ts vs ds ps
  | [], [], [], _, _, _, _, h, _ => h
  | [], [], _ :: _, _, _, _, _, h, _ => h.elim
  | [], _ :: _, _, _, _, _, _, h, _ => h.elim
  | _ :: _, [], _, _, _, _, _, h, _ => h.elim
  | _ :: _, _ :: _, [], _, _, _, _, h, _ => h.elim
  | t :: ts, v :: vs, d :: ds, ps, W, W', ha, h, hb => by
    obtain ⟨p, q, h1, h2, rfl⟩ := h
    simp only [List.all_cons, Bool.and_eq_true, decide_eq_true_eq] at ha
    have lt : ∀ x ∈ p, x.block < W.heap.size := by obtain ⟨m, hm⟩ := h1; exact DataW.trod_lt m _ _ _ hm
    exact ⟨p, q, Below.trod hl ha.1.1 ha.1.2 h1 hb lt, keep_all hl ha.2 h2 hb, rfl⟩
end
end Go.Eng
