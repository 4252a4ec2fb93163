/- Contracts: lead, the small ones. -/
import Derived.Test.YtpihhlaiofkmdaaPLead
import Derived.Test.YtpihhlaiofkmdaaCInst4
namespace Go.Proofs.Ytpihhlaiofkmdaa
set_option linter.unusedVariables false
set_option linter.unusedSimpArgs false
open Go Go.Eng

abbrev RX := Option (Nat × Rec BSl)
@[reducible] def pa (r : RX) : Option Addr := match r with
  | some p => some ⟨p.1, 0, none⟩
  | none => none
@[reducible] def oc (r : RX) : Asn := match r with
  | some p => cells p.1 [.int .i64 p.2.st, p.2.cmd.v, .int .i64 p.2.seq, .int .i64 p.2.deps.x0, .int .i64 p.2.deps.x1, .int .i64 p.2.deps.x2, .int .i64 p.2.deps.x3, .int .i64 p.2.deps.x4, .int .i64 p.2.deps.x5, .int .i64 p.2.deps.x6, .int .i64 p.2.bal.1, .int .i64 p.2.bal.2, .int .i64 p.2.ab.1, .int .i64 p.2.ab.2] T_inst_Rec
  | none => fun h => ∀ x, h x = none
@[reducible] def rab (p : Nat × Rec BSl) : Rec Bs := p.2.map BSl.bs
/-- a leader, as it lies -/
structure LX where
  n : Int
  rep : Int
  t : Nat
  m : Msg BSl
  phase : Int
  fast : Bool
  apart : Bool
  rp : P7 RX
  own : Rec BSl
  B : List BSl
def LX.abs (X : LX) : LD := ⟨X.n, X.rep, X.m.map BSl.bs, X.phase, X.fast, X.apart, X.rp.map (Option.map rab), X.own.map BSl.bs⟩
structure LX.ok (X : LX) : Prop where
  rep : 3 ≤ X.n ∧ X.n ≤ 7 ∧ 0 ≤ X.rep ∧ X.rep < X.n
  m : InB X.m.cmd X.B
  own : InB X.own.cmd X.B
  rp : ∀ p, some p ∈ X.rp.list → InB p.2.cmd X.B
  len : ∀ x ∈ X.B, x.bs.length < 1099511627776
def ldc (q : Nat) (X : LX) : Asn := fun h => X.ok ∧ sep [cells q (.int .i64 X.n :: .int .i64 X.rep :: .pointer (some ⟨X.t, 0, none⟩) :: .int .i64 X.m.kind :: .int .i64 X.m.dot.rep :: .int .i64 X.m.dot.n :: .int .i64 X.m.bal.1 :: .int .i64 X.m.bal.2 :: X.m.cmd.v :: .int .i64 X.m.seq :: .int .i64 X.m.deps.x0 :: .int .i64 X.m.deps.x1 :: .int .i64 X.m.deps.x2 :: .int .i64 X.m.deps.x3 :: .int .i64 X.m.deps.x4 :: .int .i64 X.m.deps.x5 :: .int .i64 X.m.deps.x6 :: .int .i64 X.phase :: .bool X.fast :: .bool X.apart :: .pointer (pa X.rp.x0) :: .pointer (pa X.rp.x1) :: .pointer (pa X.rp.x2) :: .pointer (pa X.rp.x3) :: .pointer (pa X.rp.x4) :: .pointer (pa X.rp.x5) :: .pointer (pa X.rp.x6) :: .int .i64 X.own.st :: X.own.cmd.v :: .int .i64 X.own.seq :: .int .i64 X.own.deps.x0 :: .int .i64 X.own.deps.x1 :: .int .i64 X.own.deps.x2 :: .int .i64 X.own.deps.x3 :: .int .i64 X.own.deps.x4 :: .int .i64 X.own.deps.x5 :: .int .i64 X.own.deps.x6 :: .int .i64 X.own.bal.1 :: .int .i64 X.own.bal.2 :: .int .i64 X.own.ab.1 :: .int .i64 X.own.ab.2 :: []) T_lead_Lead, many oc X.rp.list, many fch X.B] h
section
variable {W0 W : World} {L L' L1 : List Asn} {q : Nat} {X : LX}
theorem InB.len {x : BSl} {B : List BSl} (h : InB x B) (hl : ∀ x ∈ B, x.bs.length < 1099511627776) : x.bs.length < 1099511627776 := by
  rcases h with h | h
  · rw [h]; simp
  · exact hl x h
theorem ldc_at (h : St W0 (ldc q X :: L) W) : X.ok ∧ St W0 (cells q (.int .i64 X.n :: .int .i64 X.rep :: .pointer (some ⟨X.t, 0, none⟩) :: .int .i64 X.m.kind :: .int .i64 X.m.dot.rep :: .int .i64 X.m.dot.n :: .int .i64 X.m.bal.1 :: .int .i64 X.m.bal.2 :: X.m.cmd.v :: .int .i64 X.m.seq :: .int .i64 X.m.deps.x0 :: .int .i64 X.m.deps.x1 :: .int .i64 X.m.deps.x2 :: .int .i64 X.m.deps.x3 :: .int .i64 X.m.deps.x4 :: .int .i64 X.m.deps.x5 :: .int .i64 X.m.deps.x6 :: .int .i64 X.phase :: .bool X.fast :: .bool X.apart :: .pointer (pa X.rp.x0) :: .pointer (pa X.rp.x1) :: .pointer (pa X.rp.x2) :: .pointer (pa X.rp.x3) :: .pointer (pa X.rp.x4) :: .pointer (pa X.rp.x5) :: .pointer (pa X.rp.x6) :: .int .i64 X.own.st :: X.own.cmd.v :: .int .i64 X.own.seq :: .int .i64 X.own.deps.x0 :: .int .i64 X.own.deps.x1 :: .int .i64 X.own.deps.x2 :: .int .i64 X.own.deps.x3 :: .int .i64 X.own.deps.x4 :: .int .i64 X.own.deps.x5 :: .int .i64 X.own.deps.x6 :: .int .i64 X.own.bal.1 :: .int .i64 X.own.bal.2 :: .int .i64 X.own.ab.1 :: .int .i64 X.own.ab.2 :: []) T_lead_Lead :: many oc X.rp.list :: many fch X.B :: L) W := by
  obtain ⟨h1, h⟩ := h.fact
  exact ⟨h1, h.flat⟩
theorem ldc_ent (h : X.ok) : ent (cells q (.int .i64 X.n :: .int .i64 X.rep :: .pointer (some ⟨X.t, 0, none⟩) :: .int .i64 X.m.kind :: .int .i64 X.m.dot.rep :: .int .i64 X.m.dot.n :: .int .i64 X.m.bal.1 :: .int .i64 X.m.bal.2 :: X.m.cmd.v :: .int .i64 X.m.seq :: .int .i64 X.m.deps.x0 :: .int .i64 X.m.deps.x1 :: .int .i64 X.m.deps.x2 :: .int .i64 X.m.deps.x3 :: .int .i64 X.m.deps.x4 :: .int .i64 X.m.deps.x5 :: .int .i64 X.m.deps.x6 :: .int .i64 X.phase :: .bool X.fast :: .bool X.apart :: .pointer (pa X.rp.x0) :: .pointer (pa X.rp.x1) :: .pointer (pa X.rp.x2) :: .pointer (pa X.rp.x3) :: .pointer (pa X.rp.x4) :: .pointer (pa X.rp.x5) :: .pointer (pa X.rp.x6) :: .int .i64 X.own.st :: X.own.cmd.v :: .int .i64 X.own.seq :: .int .i64 X.own.deps.x0 :: .int .i64 X.own.deps.x1 :: .int .i64 X.own.deps.x2 :: .int .i64 X.own.deps.x3 :: .int .i64 X.own.deps.x4 :: .int .i64 X.own.deps.x5 :: .int .i64 X.own.deps.x6 :: .int .i64 X.own.bal.1 :: .int .i64 X.own.bal.2 :: .int .i64 X.own.ab.1 :: .int .i64 X.own.ab.2 :: []) T_lead_Lead :: many oc X.rp.list :: many fch X.B :: L) (ldc q X :: L) :=
  (ent.pack [_, _, _] L).trans (ent.weak fun _ hp => ⟨h, hp⟩)
theorem oc_none : ent L (many oc (P7.all none).list :: L) := by
  have h1 : ∀ n (L : List Asn), ent L (many oc (List.replicate n none) :: L) := by
    intro n
    induction n with
    | zero => exact fun L => many_nil
    | succ n ih => exact fun L => (ih L).trans ((ent.emp (a := oc none) fun _ => rfl).trans (many_uncons (F := oc) none (List.replicate n none)))
  exact h1 7 L
theorem many_swap {β : Type} {F : β → Asn} (A C : List β) (o y : β) : entd (F y :: many F (A ++ o :: C) :: L) (many F (A ++ y :: C) :: L) :=
  (((ent.cons _ (many_perm (F := F) List.perm_middle)).trans (ent.cons _ (many_cons o _))).d.trans ((entd.cons _ (entd.drop _ _)))).trans ((many_uncons y _).trans (many_perm (F := F) List.perm_middle.symm)).d
theorem oc_set {i : Nat} (hi : i < 7) (rp : P7 RX) (b : Nat) (r : Rec BSl) : entd (cells b [.int .i64 r.st, r.cmd.v, .int .i64 r.seq, .int .i64 r.deps.x0, .int .i64 r.deps.x1, .int .i64 r.deps.x2, .int .i64 r.deps.x3, .int .i64 r.deps.x4, .int .i64 r.deps.x5, .int .i64 r.deps.x6, .int .i64 r.bal.1, .int .i64 r.bal.2, .int .i64 r.ab.1, .int .i64 r.ab.2] T_inst_Rec :: many oc rp.list :: L) (many oc (rp.set i (some (b, r))).list :: L) := by
  rcases P7.cases7 hi with rfl | rfl | rfl | rfl | rfl | rfl | rfl
  · exact many_swap (F := oc) [] [rp.x1, rp.x2, rp.x3, rp.x4, rp.x5, rp.x6] rp.x0 (some (b, r))
  · exact many_swap (F := oc) [rp.x0] [rp.x2, rp.x3, rp.x4, rp.x5, rp.x6] rp.x1 (some (b, r))
  · exact many_swap (F := oc) [rp.x0, rp.x1] [rp.x3, rp.x4, rp.x5, rp.x6] rp.x2 (some (b, r))
  · exact many_swap (F := oc) [rp.x0, rp.x1, rp.x2] [rp.x4, rp.x5, rp.x6] rp.x3 (some (b, r))
  · exact many_swap (F := oc) [rp.x0, rp.x1, rp.x2, rp.x3] [rp.x5, rp.x6] rp.x4 (some (b, r))
  · exact many_swap (F := oc) [rp.x0, rp.x1, rp.x2, rp.x3, rp.x4] [rp.x6] rp.x5 (some (b, r))
  · exact many_swap (F := oc) [rp.x0, rp.x1, rp.x2, rp.x3, rp.x4, rp.x5] [] rp.x6 (some (b, r))
/-- one is taken out, to look at -/
theorem oc_take {l : List RX} {p : Nat × Rec BSl} (h : some p ∈ l) : ∃ A C, l = A ++ some p :: C ∧ ∀ L, ent (many oc l :: L) (cells p.1 [.int .i64 p.2.st, p.2.cmd.v, .int .i64 p.2.seq, .int .i64 p.2.deps.x0, .int .i64 p.2.deps.x1, .int .i64 p.2.deps.x2, .int .i64 p.2.deps.x3, .int .i64 p.2.deps.x4, .int .i64 p.2.deps.x5, .int .i64 p.2.deps.x6, .int .i64 p.2.bal.1, .int .i64 p.2.bal.2, .int .i64 p.2.ab.1, .int .i64 p.2.ab.2] T_inst_Rec :: many oc (A ++ C) :: L) ∧ ent (cells p.1 [.int .i64 p.2.st, p.2.cmd.v, .int .i64 p.2.seq, .int .i64 p.2.deps.x0, .int .i64 p.2.deps.x1, .int .i64 p.2.deps.x2, .int .i64 p.2.deps.x3, .int .i64 p.2.deps.x4, .int .i64 p.2.deps.x5, .int .i64 p.2.deps.x6, .int .i64 p.2.bal.1, .int .i64 p.2.bal.2, .int .i64 p.2.ab.1, .int .i64 p.2.ab.2] T_inst_Rec :: many oc (A ++ C) :: L) (many oc l :: L) := by
  obtain ⟨A, C, rfl⟩ := List.append_of_mem h
  exact ⟨A, C, rfl, fun L => ⟨(many_perm (F := oc) List.perm_middle).trans (many_cons _ _), (many_uncons (F := oc) (some p) _).trans (many_perm (F := oc) List.perm_middle.symm)⟩⟩
theorem idxVp {rp : P7 RX} {i : Nat} (hi : i < 7) : idxV 7 false 1 (.agg #[.pointer (pa rp.x0), .pointer (pa rp.x1), .pointer (pa rp.x2), .pointer (pa rp.x3), .pointer (pa rp.x4), .pointer (pa rp.x5), .pointer (pa rp.x6)]) (.int .i64 (i : Int)) = some (.pointer (pa (rp.get i))) := by
  rcases P7.cases7 hi with rfl | rfl | rfl | rfl | rfl | rfl | rfl <;> rfl
theorem list7_drop {α : Type} (p : P7 α) {i : Nat} (hi : i < 7) : p.list.drop i = p.get i :: p.list.drop (i + 1) := by
  rcases P7.cases7 hi with rfl | rfl | rfl | rfl | rfl | rfl | rfl <;> rfl
theorem get7_mem {α : Type} (p : P7 α) {i : Nat} (hi : i < 7) : p.get i ∈ p.list := by
  rcases P7.cases7 hi with rfl | rfl | rfl | rfl | rfl | rfl | rfl <;> simp [P7.list, P7.get]
theorem list7_map {α β : Type} (f : α → β) (p : P7 α) : (p.map f).list = p.list.map f := rfl
theorem pa_nil (r : RX) : (pa r).isNone = r.isNone := by cases r <;> rfl
theorem stoRec {Y : LX} {i b : Nat} {r : Rec BSl} {Lf : List Value → List Asn} {k : Unit → World → Prop} (hi : i < 7) (h : St W0 L W) [hu : Cu q L (.int .i64 Y.n :: .int .i64 Y.rep :: .pointer (some ⟨Y.t, 0, none⟩) :: .int .i64 Y.m.kind :: .int .i64 Y.m.dot.rep :: .int .i64 Y.m.dot.n :: .int .i64 Y.m.bal.1 :: .int .i64 Y.m.bal.2 :: Y.m.cmd.v :: .int .i64 Y.m.seq :: .int .i64 Y.m.deps.x0 :: .int .i64 Y.m.deps.x1 :: .int .i64 Y.m.deps.x2 :: .int .i64 Y.m.deps.x3 :: .int .i64 Y.m.deps.x4 :: .int .i64 Y.m.deps.x5 :: .int .i64 Y.m.deps.x6 :: .int .i64 Y.phase :: .bool Y.fast :: .bool Y.apart :: .pointer (pa Y.rp.x0) :: .pointer (pa Y.rp.x1) :: .pointer (pa Y.rp.x2) :: .pointer (pa Y.rp.x3) :: .pointer (pa Y.rp.x4) :: .pointer (pa Y.rp.x5) :: .pointer (pa Y.rp.x6) :: .int .i64 Y.own.st :: Y.own.cmd.v :: .int .i64 Y.own.seq :: .int .i64 Y.own.deps.x0 :: .int .i64 Y.own.deps.x1 :: .int .i64 Y.own.deps.x2 :: .int .i64 Y.own.deps.x3 :: .int .i64 Y.own.deps.x4 :: .int .i64 Y.own.deps.x5 :: .int .i64 Y.own.deps.x6 :: .int .i64 Y.own.bal.1 :: .int .i64 Y.own.bal.2 :: .int .i64 Y.own.ab.1 :: .int .i64 Y.own.ab.2 :: []) T_lead_Lead Lf]
    (hk : ∀ W', St W0 (Lf (.int .i64 ({ Y with rp := Y.rp.set i (some (b, r)) }).n :: .int .i64 ({ Y with rp := Y.rp.set i (some (b, r)) }).rep :: .pointer (some ⟨({ Y with rp := Y.rp.set i (some (b, r)) }).t, 0, none⟩) :: .int .i64 (({ Y with rp := Y.rp.set i (some (b, r)) }).m).kind :: .int .i64 ((({ Y with rp := Y.rp.set i (some (b, r)) }).m).dot).rep :: .int .i64 ((({ Y with rp := Y.rp.set i (some (b, r)) }).m).dot).n :: .int .i64 ((({ Y with rp := Y.rp.set i (some (b, r)) }).m).bal).1 :: .int .i64 ((({ Y with rp := Y.rp.set i (some (b, r)) }).m).bal).2 :: (({ Y with rp := Y.rp.set i (some (b, r)) }).m).cmd.v :: .int .i64 (({ Y with rp := Y.rp.set i (some (b, r)) }).m).seq :: .int .i64 ((({ Y with rp := Y.rp.set i (some (b, r)) }).m).deps).x0 :: .int .i64 ((({ Y with rp := Y.rp.set i (some (b, r)) }).m).deps).x1 :: .int .i64 ((({ Y with rp := Y.rp.set i (some (b, r)) }).m).deps).x2 :: .int .i64 ((({ Y with rp := Y.rp.set i (some (b, r)) }).m).deps).x3 :: .int .i64 ((({ Y with rp := Y.rp.set i (some (b, r)) }).m).deps).x4 :: .int .i64 ((({ Y with rp := Y.rp.set i (some (b, r)) }).m).deps).x5 :: .int .i64 ((({ Y with rp := Y.rp.set i (some (b, r)) }).m).deps).x6 :: .int .i64 ({ Y with rp := Y.rp.set i (some (b, r)) }).phase :: .bool ({ Y with rp := Y.rp.set i (some (b, r)) }).fast :: .bool ({ Y with rp := Y.rp.set i (some (b, r)) }).apart :: .pointer (pa (({ Y with rp := Y.rp.set i (some (b, r)) }).rp).x0) :: .pointer (pa (({ Y with rp := Y.rp.set i (some (b, r)) }).rp).x1) :: .pointer (pa (({ Y with rp := Y.rp.set i (some (b, r)) }).rp).x2) :: .pointer (pa (({ Y with rp := Y.rp.set i (some (b, r)) }).rp).x3) :: .pointer (pa (({ Y with rp := Y.rp.set i (some (b, r)) }).rp).x4) :: .pointer (pa (({ Y with rp := Y.rp.set i (some (b, r)) }).rp).x5) :: .pointer (pa (({ Y with rp := Y.rp.set i (some (b, r)) }).rp).x6) :: .int .i64 (({ Y with rp := Y.rp.set i (some (b, r)) }).own).st :: (({ Y with rp := Y.rp.set i (some (b, r)) }).own).cmd.v :: .int .i64 (({ Y with rp := Y.rp.set i (some (b, r)) }).own).seq :: .int .i64 ((({ Y with rp := Y.rp.set i (some (b, r)) }).own).deps).x0 :: .int .i64 ((({ Y with rp := Y.rp.set i (some (b, r)) }).own).deps).x1 :: .int .i64 ((({ Y with rp := Y.rp.set i (some (b, r)) }).own).deps).x2 :: .int .i64 ((({ Y with rp := Y.rp.set i (some (b, r)) }).own).deps).x3 :: .int .i64 ((({ Y with rp := Y.rp.set i (some (b, r)) }).own).deps).x4 :: .int .i64 ((({ Y with rp := Y.rp.set i (some (b, r)) }).own).deps).x5 :: .int .i64 ((({ Y with rp := Y.rp.set i (some (b, r)) }).own).deps).x6 :: .int .i64 ((({ Y with rp := Y.rp.set i (some (b, r)) }).own).bal).1 :: .int .i64 ((({ Y with rp := Y.rp.set i (some (b, r)) }).own).bal).2 :: .int .i64 ((({ Y with rp := Y.rp.set i (some (b, r)) }).own).ab).1 :: .int .i64 ((({ Y with rp := Y.rp.set i (some (b, r)) }).own).ab).2 :: [])) W' → k () W') : efK PR (Instr.storeAt T_p_inst_Rec (.pointer (some ⟨q, 20 + i, none⟩)) (.pointer (some ⟨b, 0, none⟩))) k W := by
  rcases P7.cases7 hi with rfl | rfl | rfl | rfl | rfl | rfl | rfl
  all_goals exact sto h rfl (by simp) rfl fun W' h => hk W' h
theorem cnt_le {α : Type} (l : List (Option α)) : 0 ≤ cnt l ∧ cnt l ≤ l.length := by
  unfold cnt
  have := List.length_filter_le Option.isSome l
  omega
theorem cnt_map {α β : Type} (f : α → β) (l : List (Option α)) : cnt (l.map (Option.map f)) = cnt l := by
  unfold cnt
  rw [List.filter_map, List.length_map]
  congr 3
  funext r
  cases r <;> rfl
theorem leadCount {k : Value → World → Prop} (h : St W0 L W) [ht : Tk (ldc q) L X L'] (hk : ∀ W', St W0 (ldc q X :: L') W' → k (.int .i64 X.abs.count) W') : callK PR F_lead_Lead_count [.pointer (some ⟨q, 0, none⟩)] k W := by
  apply S.lead_Lead_count.call
  unfold S.lead_Lead_count.body
  obtain ⟨hX, h⟩ := ldc_at (h.perm ht.perm)
  refine joinK_i ?_
  (repeat (first | (first | (with_reducible (first | refine w1 fun _ _ => ?_ | refine w3 fun _ _ _ => ?_ | refine w4 fun _ _ _ => ?_ | refine w11 fun _ _ _ => ?_ | refine stb_n ?_)) | ((with_reducible refine w2 ?_); try simp -implicitDefEqProofs only [EN, lsub, lget, stL, beq_self_eq_true, ne_eq, if_true, if_false, List.cons_append, List.nil_append, Option.isNone_some, Option.isNone_none]; intro _ _) | ((with_reducible (first | refine w5 ?_ ?_ | refine w6 ?_ ?_ | refine w7 ?_ ?_)); simp; refine ⟨_, rfl, ?_⟩) | ((with_reducible (first | refine w8 ?_ ?_ ?_ | refine w9 ?_ ?_ ?_ | refine w10 ?_ ?_ ?_)); exact rfl; simp) | ((with_reducible refine w12 ?_ ?_ ?_ fun _ _ => ?_); simp; simp; simp [oneC]) | ((with_reducible (first | refine eqs ?_ | refine nes ?_)); refine ⟨_, rfl, ?_⟩) | ((refine okF_i (bldP_eq rfl) ?_); try simp only [BLS, List.take_succ_cons, List.take_zero, List.drop_succ_cons, List.drop_zero, List.cons_append, List.nil_append, Nat.reduceAdd])) | simp -implicitDefEqProofs only [EN, lsub, lget, stL, beq_self_eq_true, ne_eq, if_true, if_false, List.cons_append, List.nil_append, Option.isNone_some, Option.isNone_none]))
  refine loop_c (σ := Unit) 7 (fun i _ => [.int .i64 (cnt (X.rp.list.take i)), .agg #[.pointer (pa X.rp.x0), .pointer (pa X.rp.x1), .pointer (pa X.rp.x2), .pointer (pa X.rp.x3), .pointer (pa X.rp.x4), .pointer (pa X.rp.x5), .pointer (pa X.rp.x6)], .int .i64 i]) (fun i _ W1 => St W0 (cells q (.int .i64 X.n :: .int .i64 X.rep :: .pointer (some ⟨X.t, 0, none⟩) :: .int .i64 X.m.kind :: .int .i64 X.m.dot.rep :: .int .i64 X.m.dot.n :: .int .i64 X.m.bal.1 :: .int .i64 X.m.bal.2 :: X.m.cmd.v :: .int .i64 X.m.seq :: .int .i64 X.m.deps.x0 :: .int .i64 X.m.deps.x1 :: .int .i64 X.m.deps.x2 :: .int .i64 X.m.deps.x3 :: .int .i64 X.m.deps.x4 :: .int .i64 X.m.deps.x5 :: .int .i64 X.m.deps.x6 :: .int .i64 X.phase :: .bool X.fast :: .bool X.apart :: .pointer (pa X.rp.x0) :: .pointer (pa X.rp.x1) :: .pointer (pa X.rp.x2) :: .pointer (pa X.rp.x3) :: .pointer (pa X.rp.x4) :: .pointer (pa X.rp.x5) :: .pointer (pa X.rp.x6) :: .int .i64 X.own.st :: X.own.cmd.v :: .int .i64 X.own.seq :: .int .i64 X.own.deps.x0 :: .int .i64 X.own.deps.x1 :: .int .i64 X.own.deps.x2 :: .int .i64 X.own.deps.x3 :: .int .i64 X.own.deps.x4 :: .int .i64 X.own.deps.x5 :: .int .i64 X.own.deps.x6 :: .int .i64 X.own.bal.1 :: .int .i64 X.own.bal.2 :: .int .i64 X.own.ab.1 :: .int .i64 X.own.ab.2 :: []) T_lead_Lead :: many oc X.rp.list :: many fch X.B :: L') W1) () rfl h ?_
  clear h
  rintro K i _ W2 hi h hK
  simp -implicitDefEqProofs only [EN, lsub, lget, stL, beq_self_eq_true, ne_eq, if_true, if_false, List.cons_append, List.nil_append, Option.isNone_some, Option.isNone_none]
  unfold S.lead_Lead_count.l1
  have hc := cnt_le (X.rp.list.take i)
  have hlen : (X.rp.list.take i).length ≤ 7 := by rw [List.length_take, P7.list_len]; omega
  have ew : IntKind.i64.wrap ((i : Int) + 1) = ((i + 1 : Nat) : Int) := by rw [i64w]; omega
  have ew2 : IntKind.i64.wrap (cnt (X.rp.list.take i) + 1) = cnt (X.rp.list.take i) + 1 := by rw [i64w]; omega
  by_cases hlt : (i : Int) < 7
  · have e := idxVp (rp := X.rp) (i := i) (by omega)
    have hs : X.rp.list.take (i + 1) = X.rp.list.take i ++ [X.rp.get i] := by rw [List.take_add_one, P7.list_get _ (by omega)]; rfl
    have hcs : cnt (X.rp.list.take (i + 1)) = cnt (X.rp.list.take i) + if (X.rp.get i).isSome then 1 else 0 := by
      rw [hs]; unfold cnt; rw [List.filter_append, List.length_append]
      cases X.rp.get i <;> simp
    (repeat (first | (first | (with_reducible (first | refine w1 fun _ _ => ?_ | refine w3 fun _ _ _ => ?_ | refine w4 fun _ _ _ => ?_ | refine w11 fun _ _ _ => ?_ | refine stb_n ?_)) | ((with_reducible refine w2 ?_); try simp -implicitDefEqProofs only [EN, lsub, lget, stL, beq_self_eq_true, ne_eq, if_true, if_false, List.cons_append, List.nil_append, Option.isNone_some, Option.isNone_none, hlt]; intro _ _) | ((with_reducible (first | refine w5 ?_ ?_ | refine w6 ?_ ?_ | refine w7 ?_ ?_)); simp; refine ⟨_, rfl, ?_⟩) | ((with_reducible (first | refine w8 ?_ ?_ ?_ | refine w9 ?_ ?_ ?_ | refine w10 ?_ ?_ ?_)); exact rfl; simp) | ((with_reducible refine w12 ?_ ?_ ?_ fun _ _ => ?_); simp; simp; simp [oneC]) | ((with_reducible (first | refine eqs ?_ | refine nes ?_)); refine ⟨_, rfl, ?_⟩) | ((refine okF_i (bldP_eq rfl) ?_); try simp only [BLS, List.take_succ_cons, List.take_zero, List.drop_succ_cons, List.drop_zero, List.cons_append, List.nil_append, Nat.reduceAdd])) | simp -implicitDefEqProofs only [EN, lsub, lget, stL, beq_self_eq_true, ne_eq, if_true, if_false, List.cons_append, List.nil_append, Option.isNone_some, Option.isNone_none, hlt]))
    refine joinK_i ?_
    (repeat (first | (first | (with_reducible (first | refine w1 fun _ _ => ?_ | refine w3 fun _ _ _ => ?_ | refine w4 fun _ _ _ => ?_ | refine w11 fun _ _ _ => ?_ | refine stb_n ?_)) | ((with_reducible refine w2 ?_); try simp -implicitDefEqProofs only [EN, lsub, lget, stL, beq_self_eq_true, ne_eq, if_true, if_false, List.cons_append, List.nil_append, Option.isNone_some, Option.isNone_none, e]; intro _ _) | ((with_reducible (first | refine w5 ?_ ?_ | refine w6 ?_ ?_ | refine w7 ?_ ?_)); simp; refine ⟨_, rfl, ?_⟩) | ((with_reducible (first | refine w8 ?_ ?_ ?_ | refine w9 ?_ ?_ ?_ | refine w10 ?_ ?_ ?_)); exact rfl; simp) | ((with_reducible refine w12 ?_ ?_ ?_ fun _ _ => ?_); simp; simp; simp [oneC]) | ((with_reducible (first | refine eqs ?_ | refine nes ?_)); refine ⟨_, rfl, ?_⟩) | ((refine okF_i (bldP_eq rfl) ?_); try simp only [BLS, List.take_succ_cons, List.take_zero, List.drop_succ_cons, List.drop_zero, List.cons_append, List.nil_append, Nat.reduceAdd])) | simp -implicitDefEqProofs only [EN, lsub, lget, stL, beq_self_eq_true, ne_eq, if_true, if_false, List.cons_append, List.nil_append, Option.isNone_some, Option.isNone_none, e]))
    cases hg : X.rp.get i with
    | none =>
      rw [hg] at hcs
      (repeat (first | (first | (with_reducible (first | refine w1 fun _ _ => ?_ | refine w3 fun _ _ _ => ?_ | refine w4 fun _ _ _ => ?_ | refine w11 fun _ _ _ => ?_ | refine stb_n ?_)) | ((with_reducible refine w2 ?_); try simp -implicitDefEqProofs only [EN, lsub, lget, stL, beq_self_eq_true, ne_eq, if_true, if_false, List.cons_append, List.nil_append, Option.isNone_some, Option.isNone_none]; intro _ _) | ((with_reducible (first | refine w5 ?_ ?_ | refine w6 ?_ ?_ | refine w7 ?_ ?_)); simp; refine ⟨_, rfl, ?_⟩) | ((with_reducible (first | refine w8 ?_ ?_ ?_ | refine w9 ?_ ?_ ?_ | refine w10 ?_ ?_ ?_)); exact rfl; simp) | ((with_reducible refine w12 ?_ ?_ ?_ fun _ _ => ?_); simp; simp; simp [oneC]) | ((with_reducible (first | refine eqs ?_ | refine nes ?_)); refine ⟨_, rfl, ?_⟩) | ((refine okF_i (bldP_eq rfl) ?_); try simp only [BLS, List.take_succ_cons, List.take_zero, List.drop_succ_cons, List.drop_zero, List.cons_append, List.nil_append, Nat.reduceAdd])) | simp -implicitDefEqProofs only [EN, lsub, lget, stL, beq_self_eq_true, ne_eq, if_true, if_false, List.cons_append, List.nil_append, Option.isNone_some, Option.isNone_none]))
      unfold S.lead_Lead_count.j2
      (repeat (first | (first | (with_reducible (first | refine w1 fun _ _ => ?_ | refine w3 fun _ _ _ => ?_ | refine w4 fun _ _ _ => ?_ | refine w11 fun _ _ _ => ?_ | refine stb_n ?_)) | ((with_reducible refine w2 ?_); try simp -implicitDefEqProofs only [EN, lsub, lget, stL, beq_self_eq_true, ne_eq, if_true, if_false, List.cons_append, List.nil_append, Option.isNone_some, Option.isNone_none, ew]; intro _ _) | ((with_reducible (first | refine w5 ?_ ?_ | refine w6 ?_ ?_ | refine w7 ?_ ?_)); simp; refine ⟨_, rfl, ?_⟩) | ((with_reducible (first | refine w8 ?_ ?_ ?_ | refine w9 ?_ ?_ ?_ | refine w10 ?_ ?_ ?_)); exact rfl; simp) | ((with_reducible refine w12 ?_ ?_ ?_ fun _ _ => ?_); simp; simp; simp [oneC]) | ((with_reducible (first | refine eqs ?_ | refine nes ?_)); refine ⟨_, rfl, ?_⟩) | ((refine okF_i (bldP_eq rfl) ?_); try simp only [BLS, List.take_succ_cons, List.take_zero, List.drop_succ_cons, List.drop_zero, List.cons_append, List.nil_append, Nat.reduceAdd])) | simp -implicitDefEqProofs only [EN, lsub, lget, stL, beq_self_eq_true, ne_eq, if_true, if_false, List.cons_append, List.nil_append, Option.isNone_some, Option.isNone_none, ew]))
      simpa [hcs] using hK () _ (by omega) h
    | some p =>
      rw [hg] at hcs
      (repeat (first | (first | (with_reducible (first | refine w1 fun _ _ => ?_ | refine w3 fun _ _ _ => ?_ | refine w4 fun _ _ _ => ?_ | refine w11 fun _ _ _ => ?_ | refine stb_n ?_)) | ((with_reducible refine w2 ?_); try simp -implicitDefEqProofs only [EN, lsub, lget, stL, beq_self_eq_true, ne_eq, if_true, if_false, List.cons_append, List.nil_append, Option.isNone_some, Option.isNone_none]; intro _ _) | ((with_reducible (first | refine w5 ?_ ?_ | refine w6 ?_ ?_ | refine w7 ?_ ?_)); simp; refine ⟨_, rfl, ?_⟩) | ((with_reducible (first | refine w8 ?_ ?_ ?_ | refine w9 ?_ ?_ ?_ | refine w10 ?_ ?_ ?_)); exact rfl; simp) | ((with_reducible refine w12 ?_ ?_ ?_ fun _ _ => ?_); simp; simp; simp [oneC]) | ((with_reducible (first | refine eqs ?_ | refine nes ?_)); refine ⟨_, rfl, ?_⟩) | ((refine okF_i (bldP_eq rfl) ?_); try simp only [BLS, List.take_succ_cons, List.take_zero, List.drop_succ_cons, List.drop_zero, List.cons_append, List.nil_append, Nat.reduceAdd])) | simp -implicitDefEqProofs only [EN, lsub, lget, stL, beq_self_eq_true, ne_eq, if_true, if_false, List.cons_append, List.nil_append, Option.isNone_some, Option.isNone_none]))
      unfold S.lead_Lead_count.j2
      (repeat (first | (first | (with_reducible (first | refine w1 fun _ _ => ?_ | refine w3 fun _ _ _ => ?_ | refine w4 fun _ _ _ => ?_ | refine w11 fun _ _ _ => ?_ | refine stb_n ?_)) | ((with_reducible refine w2 ?_); try simp -implicitDefEqProofs only [EN, lsub, lget, stL, beq_self_eq_true, ne_eq, if_true, if_false, List.cons_append, List.nil_append, Option.isNone_some, Option.isNone_none, ew, ew2]; intro _ _) | ((with_reducible (first | refine w5 ?_ ?_ | refine w6 ?_ ?_ | refine w7 ?_ ?_)); simp; refine ⟨_, rfl, ?_⟩) | ((with_reducible (first | refine w8 ?_ ?_ ?_ | refine w9 ?_ ?_ ?_ | refine w10 ?_ ?_ ?_)); exact rfl; simp) | ((with_reducible refine w12 ?_ ?_ ?_ fun _ _ => ?_); simp; simp; simp [oneC]) | ((with_reducible (first | refine eqs ?_ | refine nes ?_)); refine ⟨_, rfl, ?_⟩) | ((refine okF_i (bldP_eq rfl) ?_); try simp only [BLS, List.take_succ_cons, List.take_zero, List.drop_succ_cons, List.drop_zero, List.cons_append, List.nil_append, Nat.reduceAdd])) | simp -implicitDefEqProofs only [EN, lsub, lget, stL, beq_self_eq_true, ne_eq, if_true, if_false, List.cons_append, List.nil_append, Option.isNone_some, Option.isNone_none, ew, ew2]))
      simpa [hcs] using hK () _ (by omega) h
  · have : i = 7 := by omega
    subst this
    (repeat (first | (first | (with_reducible (first | refine w1 fun _ _ => ?_ | refine w3 fun _ _ _ => ?_ | refine w4 fun _ _ _ => ?_ | refine w11 fun _ _ _ => ?_ | refine stb_n ?_)) | ((with_reducible refine w2 ?_); try simp -implicitDefEqProofs only [EN, lsub, lget, stL, beq_self_eq_true, ne_eq, if_true, if_false, List.cons_append, List.nil_append, Option.isNone_some, Option.isNone_none, hlt]; intro _ _) | ((with_reducible (first | refine w5 ?_ ?_ | refine w6 ?_ ?_ | refine w7 ?_ ?_)); simp; refine ⟨_, rfl, ?_⟩) | ((with_reducible (first | refine w8 ?_ ?_ ?_ | refine w9 ?_ ?_ ?_ | refine w10 ?_ ?_ ?_)); exact rfl; simp) | ((with_reducible refine w12 ?_ ?_ ?_ fun _ _ => ?_); simp; simp; simp [oneC]) | ((with_reducible (first | refine eqs ?_ | refine nes ?_)); refine ⟨_, rfl, ?_⟩) | ((refine okF_i (bldP_eq rfl) ?_); try simp only [BLS, List.take_succ_cons, List.take_zero, List.drop_succ_cons, List.drop_zero, List.cons_append, List.nil_append, Nat.reduceAdd])) | simp -implicitDefEqProofs only [EN, lsub, lget, stL, beq_self_eq_true, ne_eq, if_true, if_false, List.cons_append, List.nil_append, Option.isNone_some, Option.isNone_none, hlt]))
    unfold S.lead_Lead_count.j1
    (repeat (first | (first | (with_reducible (first | refine w1 fun _ _ => ?_ | refine w3 fun _ _ _ => ?_ | refine w4 fun _ _ _ => ?_ | refine w11 fun _ _ _ => ?_ | refine stb_n ?_)) | ((with_reducible refine w2 ?_); try simp -implicitDefEqProofs only [EN, lsub, lget, stL, beq_self_eq_true, ne_eq, if_true, if_false, List.cons_append, List.nil_append, Option.isNone_some, Option.isNone_none]; intro _ _) | ((with_reducible (first | refine w5 ?_ ?_ | refine w6 ?_ ?_ | refine w7 ?_ ?_)); simp; refine ⟨_, rfl, ?_⟩) | ((with_reducible (first | refine w8 ?_ ?_ ?_ | refine w9 ?_ ?_ ?_ | refine w10 ?_ ?_ ?_)); exact rfl; simp) | ((with_reducible refine w12 ?_ ?_ ?_ fun _ _ => ?_); simp; simp; simp [oneC]) | ((with_reducible (first | refine eqs ?_ | refine nes ?_)); refine ⟨_, rfl, ?_⟩) | ((refine okF_i (bldP_eq rfl) ?_); try simp only [BLS, List.take_succ_cons, List.take_zero, List.drop_succ_cons, List.drop_zero, List.cons_append, List.nil_append, Nat.reduceAdd])) | simp -implicitDefEqProofs only [EN, lsub, lget, stL, beq_self_eq_true, ne_eq, if_true, if_false, List.cons_append, List.nil_append, Option.isNone_some, Option.isNone_none]))
    have := hk W2 (h.ent (ldc_ent hX))
    rw [show X.abs.count = cnt (X.rp.list.take 7) by unfold LD.count; rw [show X.abs.recs.list = X.rp.list.map (Option.map rab) from rfl, cnt_map]; rfl] at this
    exact this
end
end Go.Proofs.Ytpihhlaiofkmdaa
