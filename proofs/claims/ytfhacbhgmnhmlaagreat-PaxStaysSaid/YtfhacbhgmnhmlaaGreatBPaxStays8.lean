/- Texts of the claim PaxStays, joined: CLead3, CLead4, CLead5, CLead6, CLead7. -/
import Derived.Test.YtfhacbhgmnhmlaaGreatBPaxStays7
namespace Go.Proofs.YtfhacbhgmnhmlaaGreat
set_option linter.unusedVariables false
set_option linter.unusedSimpArgs false
open Go Go.Eng
section
variable {W0 W : World} {L L' L1 : List Asn} {q : Nat} {X : LX}
theorem leadBegin_j1 {T : Tbl} {ab : Nat} {ph : Int} {m : Msg BSl} {a : Ans BSl} {k : Value → World → Prop} (hX : X.ok) (hm : InB m.cmd X.B) (hp : ∀ r ∈ X.rp.list, r = none) (hph : X.phase = ph) (hXm : X.m = m) (hXa : X.apart = false)
  (hl : a.rc.cmd.bs.length < 1099511627776)
  (h : St W0 (cells ab [.bool a.ok, .int .i64 a.bal.1, .int .i64 a.bal.2, .int .i64 a.rc.st, a.rc.cmd.v, .int .i64 a.rc.seq, .int .i64 a.rc.deps.x0, .int .i64 a.rc.deps.x1, .int .i64 a.rc.deps.x2, .int .i64 a.rc.deps.x3, .int .i64 a.rc.deps.x4, .int .i64 a.rc.deps.x5, .int .i64 a.rc.deps.x6, .int .i64 a.rc.bal.1, .int .i64 a.rc.bal.2, .int .i64 a.rc.ab.1, .int .i64 a.rc.ab.2] T_inst_Answer :: fch a.rc.cmd :: cells q (.int .i64 X.n :: .int .i64 X.rep :: .pointer (some ⟨X.t, 0, none⟩) :: .int .i64 X.m.kind :: .int .i64 X.m.dot.rep :: .int .i64 X.m.dot.n :: .int .i64 X.m.bal.1 :: .int .i64 X.m.bal.2 :: X.m.cmd.v :: .int .i64 X.m.seq :: .int .i64 X.m.deps.x0 :: .int .i64 X.m.deps.x1 :: .int .i64 X.m.deps.x2 :: .int .i64 X.m.deps.x3 :: .int .i64 X.m.deps.x4 :: .int .i64 X.m.deps.x5 :: .int .i64 X.m.deps.x6 :: .int .i64 X.phase :: .bool X.fast :: .bool X.apart :: .pointer (pa X.rp.x0) :: .pointer (pa X.rp.x1) :: .pointer (pa X.rp.x2) :: .pointer (pa X.rp.x3) :: .pointer (pa X.rp.x4) :: .pointer (pa X.rp.x5) :: .pointer (pa X.rp.x6) :: .int .i64 X.own.st :: X.own.cmd.v :: .int .i64 X.own.seq :: .int .i64 X.own.deps.x0 :: .int .i64 X.own.deps.x1 :: .int .i64 X.own.deps.x2 :: .int .i64 X.own.deps.x3 :: .int .i64 X.own.deps.x4 :: .int .i64 X.own.deps.x5 :: .int .i64 X.own.deps.x6 :: .int .i64 X.own.bal.1 :: .int .i64 X.own.bal.2 :: .int .i64 X.own.ab.1 :: .int .i64 X.own.ab.2 :: []) T_lead_Lead :: many oc X.rp.list :: many fch X.B :: tb X.t T :: L') W)
  (hk1 : a.rc.st = 3 → ∀ (X' : LX) W', X'.t = X.t → X'.abs = (X.abs.dec T (a.rc.map BSl.bs) false).1 → St W0 (ldc q X' :: tb X.t (X.abs.dec T (a.rc.map BSl.bs) false).2 :: L') W' → k (.tuple #[]) W')
  (hk2 : ¬ a.rc.st = 3 → a.ok = false → ∀ W', St W0 (ldc q { X with phase := 5 } :: tb X.t T :: L') W' → k (.tuple #[]) W')
  (hk3 : ¬ a.rc.st = 3 → a.ok = true → ∀ (b : Nat) W', St W0 (ldc q { X with own := a.rc, rp := X.rp.set X.rep.toNat (some (b, a.rc)), m := if ph = 1 then { m with seq := a.rc.seq, deps := a.rc.deps } else m, B := a.rc.cmd :: X.B } :: tb X.t T :: L') W' → k (.tuple #[]) W') :
  S.lead_Lead_begin.j1 k (.pointer (some ⟨q, 0, none⟩)) (.int .i64 ph) (.pointer (some ⟨ab, 0, none⟩)) W := by
 delta S.lead_Lead_begin.j1 oK oA rD lD eF eU sT cL vC gD gX gP gA gR gL gE gU gC gV hL sB nI
 by_cases h3 : a.rc.st = 3
 ·have f3 := decide_eq_true h3
  have hk1 := hk1 h3
  clear hk2 hk3
  (repeat (first | ((with_reducible refine v5 ?_); refine ⟨_, rfl, ?_⟩) | simp -implicitDefEqProofs only [SE, SU, SV, f3]))
  have h2 := (St.wk (L' := cells q (.int .i64 X.n :: .int .i64 X.rep :: .pointer (some ⟨X.t, 0, none⟩) :: .int .i64 X.m.kind :: .int .i64 X.m.dot.rep :: .int .i64 X.m.dot.n :: .int .i64 X.m.bal.1 :: .int .i64 X.m.bal.2 :: X.m.cmd.v :: .int .i64 X.m.seq :: .int .i64 X.m.deps.x0 :: .int .i64 X.m.deps.x1 :: .int .i64 X.m.deps.x2 :: .int .i64 X.m.deps.x3 :: .int .i64 X.m.deps.x4 :: .int .i64 X.m.deps.x5 :: .int .i64 X.m.deps.x6 :: .int .i64 X.phase :: .bool X.fast :: .bool X.apart :: .pointer (pa X.rp.x0) :: .pointer (pa X.rp.x1) :: .pointer (pa X.rp.x2) :: .pointer (pa X.rp.x3) :: .pointer (pa X.rp.x4) :: .pointer (pa X.rp.x5) :: .pointer (pa X.rp.x6) :: .int .i64 X.own.st :: X.own.cmd.v :: .int .i64 X.own.seq :: .int .i64 X.own.deps.x0 :: .int .i64 X.own.deps.x1 :: .int .i64 X.own.deps.x2 :: .int .i64 X.own.deps.x3 :: .int .i64 X.own.deps.x4 :: .int .i64 X.own.deps.x5 :: .int .i64 X.own.deps.x6 :: .int .i64 X.own.bal.1 :: .int .i64 X.own.bal.2 :: .int .i64 X.own.ab.1 :: .int .i64 X.own.ab.2 :: []) T_lead_Lead :: many oc X.rp.list :: many fch X.B :: fch a.rc.cmd :: cells ab [.bool a.ok, .int .i64 a.bal.1, .int .i64 a.bal.2, .int .i64 a.rc.st, a.rc.cmd.v, .int .i64 a.rc.seq, .int .i64 a.rc.deps.x0, .int .i64 a.rc.deps.x1, .int .i64 a.rc.deps.x2, .int .i64 a.rc.deps.x3, .int .i64 a.rc.deps.x4, .int .i64 a.rc.deps.x5, .int .i64 a.rc.deps.x6, .int .i64 a.rc.bal.1, .int .i64 a.rc.bal.2, .int .i64 a.rc.ab.1, .int .i64 a.rc.ab.2] T_inst_Answer :: tb X.t T :: L') h).ent (ldc_ent hX)
  clear h
  refine leadDec (r := a.rc) h2 hl fun X' W' h1 h4 h => ?_
  skip
  exact hk1 X' _ h1 h4 (St.wk h)
 have f3 := decide_eq_false h3
 cases hok : a.ok with
 | false =>
  have hk2 := hk2 h3 hok
  clear hk1 hk3
  rw [hok] at h
  (repeat (first | ((with_reducible refine v5 ?_); refine ⟨_, rfl, ?_⟩) | ((with_reducible refine v12 ?_ ?_); exact rfl; intros) | simp -implicitDefEqProofs only [SE, SU, SV, f3]))
  rename_i h
  (try simp only [BLS, SB, stL_a, stL_b, stL_c, lsub_a, lsub_b, lsub_c, List.append_nil, List.take_nil, List.drop_nil, Nat.reduceAdd] at h)
  refine hk2 _ ((St.wk (L' := cells q (.int .i64 ({ X with phase := 5 }).n :: .int .i64 ({ X with phase := 5 }).rep :: .pointer (some ⟨({ X with phase := 5 }).t, 0, none⟩) :: .int .i64 (({ X with phase := 5 }).m).kind :: .int .i64 ((({ X with phase := 5 }).m).dot).rep :: .int .i64 ((({ X with phase := 5 }).m).dot).n :: .int .i64 ((({ X with phase := 5 }).m).bal).1 :: .int .i64 ((({ X with phase := 5 }).m).bal).2 :: (({ X with phase := 5 }).m).cmd.v :: .int .i64 (({ X with phase := 5 }).m).seq :: .int .i64 ((({ X with phase := 5 }).m).deps).x0 :: .int .i64 ((({ X with phase := 5 }).m).deps).x1 :: .int .i64 ((({ X with phase := 5 }).m).deps).x2 :: .int .i64 ((({ X with phase := 5 }).m).deps).x3 :: .int .i64 ((({ X with phase := 5 }).m).deps).x4 :: .int .i64 ((({ X with phase := 5 }).m).deps).x5 :: .int .i64 ((({ X with phase := 5 }).m).deps).x6 :: .int .i64 ({ X with phase := 5 }).phase :: .bool ({ X with phase := 5 }).fast :: .bool ({ X with phase := 5 }).apart :: .pointer (pa (({ X with phase := 5 }).rp).x0) :: .pointer (pa (({ X with phase := 5 }).rp).x1) :: .pointer (pa (({ X with phase := 5 }).rp).x2) :: .pointer (pa (({ X with phase := 5 }).rp).x3) :: .pointer (pa (({ X with phase := 5 }).rp).x4) :: .pointer (pa (({ X with phase := 5 }).rp).x5) :: .pointer (pa (({ X with phase := 5 }).rp).x6) :: .int .i64 (({ X with phase := 5 }).own).st :: (({ X with phase := 5 }).own).cmd.v :: .int .i64 (({ X with phase := 5 }).own).seq :: .int .i64 ((({ X with phase := 5 }).own).deps).x0 :: .int .i64 ((({ X with phase := 5 }).own).deps).x1 :: .int .i64 ((({ X with phase := 5 }).own).deps).x2 :: .int .i64 ((({ X with phase := 5 }).own).deps).x3 :: .int .i64 ((({ X with phase := 5 }).own).deps).x4 :: .int .i64 ((({ X with phase := 5 }).own).deps).x5 :: .int .i64 ((({ X with phase := 5 }).own).deps).x6 :: .int .i64 ((({ X with phase := 5 }).own).bal).1 :: .int .i64 ((({ X with phase := 5 }).own).bal).2 :: .int .i64 ((({ X with phase := 5 }).own).ab).1 :: .int .i64 ((({ X with phase := 5 }).own).ab).2 :: []) T_lead_Lead :: many oc X.rp.list :: many fch X.B :: tb X.t T :: L') h).ent (ldc_ent (X := { X with phase := 5 }) ⟨hX.rep, hX.m, hX.own, hX.rp, hX.len⟩))
 | true =>
  have hk3 := hk3 h3 hok
  clear hk1 hk2
  rw [hok] at h
  have hrep := hX.rep
  have hlt : X.rep.toNat < 7 := by omega
  have ei : idxA 7 1 (.pointer (some ⟨q, 20, none⟩)) (.int .i64 X.rep) = some (.pointer (some ⟨q, 20 + X.rep.toNat, none⟩)) := by rw [idxA_blk (by omega) (by omega)]; simp
  have hok' : ∀ (b : Nat) (m' : Msg BSl), InB m'.cmd (a.rc.cmd :: X.B) → LX.ok { X with own := a.rc, rp := X.rp.set X.rep.toNat (some (b, a.rc)), m := m', B := a.rc.cmd :: X.B } := fun b m' hm' =>
   ⟨hX.rep, hm', InB.head _ _, fun p hp' => by
    have : ∀ r ∈ (X.rp.set X.rep.toNat (some (b, a.rc))).list, r = none ∨ r = some (b, a.rc) := by
     intro r hr
     simp only [P7.set, P7.of, P7.list, List.mem_cons, List.not_mem_nil, or_false] at hr
     rcases hr with rfl | rfl | rfl | rfl | rfl | rfl | rfl
     all_goals
      split
      ·exact .inr rfl
      ·exact .inl (hp _ (by simp [P7.list, P7.get]))
    rcases this _ hp' with h | h
    ·cases h
    ·cases h; exact InB.head _ _, fun x hx => by
    rcases List.mem_cons.1 hx with rfl | hx
    ·exact hl
    ·exact hX.len x hx⟩
  (repeat (first | ((with_reducible refine w11 ?_); intros) | ((with_reducible refine v5 ?_); refine ⟨_, rfl, ?_⟩) | ((with_reducible refine v12 ?_ ?_); exact rfl; intros) | ((with_reducible refine w5 ?_ ?_); simp; refine ⟨_, rfl, ?_⟩) | ((with_reducible refine w12 ?_ ?_ ?_ ?_); simp; simp; simp [oneC]; intros) | simp -implicitDefEqProofs only [SE, SU, SV, f3]))
  rename_i rb _ _ _ _ W3 h
  (try simp only [BLS, SB, stL_a, stL_b, stL_c, lsub_a, lsub_b, lsub_c, List.append_nil, List.take_nil, List.drop_nil, Nat.reduceAdd] at h)
  have h4 := (St.wk (L' := cells rb [.int .i64 a.rc.st, a.rc.cmd.v, .int .i64 a.rc.seq, .int .i64 a.rc.deps.x0, .int .i64 a.rc.deps.x1, .int .i64 a.rc.deps.x2, .int .i64 a.rc.deps.x3, .int .i64 a.rc.deps.x4, .int .i64 a.rc.deps.x5, .int .i64 a.rc.deps.x6, .int .i64 a.rc.bal.1, .int .i64 a.rc.bal.2, .int .i64 a.rc.ab.1, .int .i64 a.rc.ab.2] T_inst_Rec :: many oc X.rp.list :: cells q (.int .i64 ({ X with own := a.rc }).n :: .int .i64 ({ X with own := a.rc }).rep :: .pointer (some ⟨({ X with own := a.rc }).t, 0, none⟩) :: .int .i64 (({ X with own := a.rc }).m).kind :: .int .i64 ((({ X with own := a.rc }).m).dot).rep :: .int .i64 ((({ X with own := a.rc }).m).dot).n :: .int .i64 ((({ X with own := a.rc }).m).bal).1 :: .int .i64 ((({ X with own := a.rc }).m).bal).2 :: (({ X with own := a.rc }).m).cmd.v :: .int .i64 (({ X with own := a.rc }).m).seq :: .int .i64 ((({ X with own := a.rc }).m).deps).x0 :: .int .i64 ((({ X with own := a.rc }).m).deps).x1 :: .int .i64 ((({ X with own := a.rc }).m).deps).x2 :: .int .i64 ((({ X with own := a.rc }).m).deps).x3 :: .int .i64 ((({ X with own := a.rc }).m).deps).x4 :: .int .i64 ((({ X with own := a.rc }).m).deps).x5 :: .int .i64 ((({ X with own := a.rc }).m).deps).x6 :: .int .i64 ({ X with own := a.rc }).phase :: .bool ({ X with own := a.rc }).fast :: .bool ({ X with own := a.rc }).apart :: .pointer (pa (({ X with own := a.rc }).rp).x0) :: .pointer (pa (({ X with own := a.rc }).rp).x1) :: .pointer (pa (({ X with own := a.rc }).rp).x2) :: .pointer (pa (({ X with own := a.rc }).rp).x3) :: .pointer (pa (({ X with own := a.rc }).rp).x4) :: .pointer (pa (({ X with own := a.rc }).rp).x5) :: .pointer (pa (({ X with own := a.rc }).rp).x6) :: .int .i64 (({ X with own := a.rc }).own).st :: (({ X with own := a.rc }).own).cmd.v :: .int .i64 (({ X with own := a.rc }).own).seq :: .int .i64 ((({ X with own := a.rc }).own).deps).x0 :: .int .i64 ((({ X with own := a.rc }).own).deps).x1 :: .int .i64 ((({ X with own := a.rc }).own).deps).x2 :: .int .i64 ((({ X with own := a.rc }).own).deps).x3 :: .int .i64 ((({ X with own := a.rc }).own).deps).x4 :: .int .i64 ((({ X with own := a.rc }).own).deps).x5 :: .int .i64 ((({ X with own := a.rc }).own).deps).x6 :: .int .i64 ((({ X with own := a.rc }).own).bal).1 :: .int .i64 ((({ X with own := a.rc }).own).bal).2 :: .int .i64 ((({ X with own := a.rc }).own).ab).1 :: .int .i64 ((({ X with own := a.rc }).own).ab).2 :: []) T_lead_Lead :: fch a.rc.cmd :: many fch X.B :: cells ab [.bool true, .int .i64 a.bal.1, .int .i64 a.bal.2, .int .i64 a.rc.st, a.rc.cmd.v, .int .i64 a.rc.seq, .int .i64 a.rc.deps.x0, .int .i64 a.rc.deps.x1, .int .i64 a.rc.deps.x2, .int .i64 a.rc.deps.x3, .int .i64 a.rc.deps.x4, .int .i64 a.rc.deps.x5, .int .i64 a.rc.deps.x6, .int .i64 a.rc.bal.1, .int .i64 a.rc.bal.2, .int .i64 a.rc.ab.1, .int .i64 a.rc.ab.2] T_inst_Answer :: tb X.t T :: L') h)
  clear h
  (repeat (first | ((with_reducible refine v12 ?_ ?_); exact rfl; intros) | simp -implicitDefEqProofs only [SE, SU, SV, ei]))
  refine stoRec (Y := { X with own := a.rc }) (i := X.rep.toNat) (r := a.rc) hlt (St.tick h4) fun W4 h => ?_
  clear h4
  by_cases h1 : ph = 1
  ·have f1 := decide_eq_true h1
   have hk3 := hk3 rb
   simp only [if_pos h1] at hk3
   (repeat (first | ((with_reducible refine v5 ?_); refine ⟨_, rfl, ?_⟩) | ((with_reducible refine v12 ?_ ?_); exact rfl; intros) | ((with_reducible refine w12 ?_ ?_ ?_ ?_); simp; simp; simp [oneC]; intros) | simp -implicitDefEqProofs only [SE, SU, SV, f1]))
   rename_i h
   (try simp only [BLS, SB, stL_a, stL_b, stL_c, lsub_a, lsub_b, lsub_c, List.append_nil, List.take_nil, List.drop_nil, Nat.reduceAdd] at h)
   refine hk3 _ ?_
   have h5 := (St.wk (L' := cells rb [.int .i64 a.rc.st, a.rc.cmd.v, .int .i64 a.rc.seq, .int .i64 a.rc.deps.x0, .int .i64 a.rc.deps.x1, .int .i64 a.rc.deps.x2, .int .i64 a.rc.deps.x3, .int .i64 a.rc.deps.x4, .int .i64 a.rc.deps.x5, .int .i64 a.rc.deps.x6, .int .i64 a.rc.bal.1, .int .i64 a.rc.bal.2, .int .i64 a.rc.ab.1, .int .i64 a.rc.ab.2] T_inst_Rec :: many oc X.rp.list :: cells q (.int .i64 ({ X with own := a.rc, rp := X.rp.set X.rep.toNat (some (rb, a.rc)), m := { m with seq := a.rc.seq, deps := a.rc.deps } }).n :: .int .i64 ({ X with own := a.rc, rp := X.rp.set X.rep.toNat (some (rb, a.rc)), m := { m with seq := a.rc.seq, deps := a.rc.deps } }).rep :: .pointer (some ⟨({ X with own := a.rc, rp := X.rp.set X.rep.toNat (some (rb, a.rc)), m := { m with seq := a.rc.seq, deps := a.rc.deps } }).t, 0, none⟩) :: .int .i64 (({ X with own := a.rc, rp := X.rp.set X.rep.toNat (some (rb, a.rc)), m := { m with seq := a.rc.seq, deps := a.rc.deps } }).m).kind :: .int .i64 ((({ X with own := a.rc, rp := X.rp.set X.rep.toNat (some (rb, a.rc)), m := { m with seq := a.rc.seq, deps := a.rc.deps } }).m).dot).rep :: .int .i64 ((({ X with own := a.rc, rp := X.rp.set X.rep.toNat (some (rb, a.rc)), m := { m with seq := a.rc.seq, deps := a.rc.deps } }).m).dot).n :: .int .i64 ((({ X with own := a.rc, rp := X.rp.set X.rep.toNat (some (rb, a.rc)), m := { m with seq := a.rc.seq, deps := a.rc.deps } }).m).bal).1 :: .int .i64 ((({ X with own := a.rc, rp := X.rp.set X.rep.toNat (some (rb, a.rc)), m := { m with seq := a.rc.seq, deps := a.rc.deps } }).m).bal).2 :: (({ X with own := a.rc, rp := X.rp.set X.rep.toNat (some (rb, a.rc)), m := { m with seq := a.rc.seq, deps := a.rc.deps } }).m).cmd.v :: .int .i64 (({ X with own := a.rc, rp := X.rp.set X.rep.toNat (some (rb, a.rc)), m := { m with seq := a.rc.seq, deps := a.rc.deps } }).m).seq :: .int .i64 ((({ X with own := a.rc, rp := X.rp.set X.rep.toNat (some (rb, a.rc)), m := { m with seq := a.rc.seq, deps := a.rc.deps } }).m).deps).x0 :: .int .i64 ((({ X with own := a.rc, rp := X.rp.set X.rep.toNat (some (rb, a.rc)), m := { m with seq := a.rc.seq, deps := a.rc.deps } }).m).deps).x1 :: .int .i64 ((({ X with own := a.rc, rp := X.rp.set X.rep.toNat (some (rb, a.rc)), m := { m with seq := a.rc.seq, deps := a.rc.deps } }).m).deps).x2 :: .int .i64 ((({ X with own := a.rc, rp := X.rp.set X.rep.toNat (some (rb, a.rc)), m := { m with seq := a.rc.seq, deps := a.rc.deps } }).m).deps).x3 :: .int .i64 ((({ X with own := a.rc, rp := X.rp.set X.rep.toNat (some (rb, a.rc)), m := { m with seq := a.rc.seq, deps := a.rc.deps } }).m).deps).x4 :: .int .i64 ((({ X with own := a.rc, rp := X.rp.set X.rep.toNat (some (rb, a.rc)), m := { m with seq := a.rc.seq, deps := a.rc.deps } }).m).deps).x5 :: .int .i64 ((({ X with own := a.rc, rp := X.rp.set X.rep.toNat (some (rb, a.rc)), m := { m with seq := a.rc.seq, deps := a.rc.deps } }).m).deps).x6 :: .int .i64 ({ X with own := a.rc, rp := X.rp.set X.rep.toNat (some (rb, a.rc)), m := { m with seq := a.rc.seq, deps := a.rc.deps } }).phase :: .bool ({ X with own := a.rc, rp := X.rp.set X.rep.toNat (some (rb, a.rc)), m := { m with seq := a.rc.seq, deps := a.rc.deps } }).fast :: .bool ({ X with own := a.rc, rp := X.rp.set X.rep.toNat (some (rb, a.rc)), m := { m with seq := a.rc.seq, deps := a.rc.deps } }).apart :: .pointer (pa (({ X with own := a.rc, rp := X.rp.set X.rep.toNat (some (rb, a.rc)), m := { m with seq := a.rc.seq, deps := a.rc.deps } }).rp).x0) :: .pointer (pa (({ X with own := a.rc, rp := X.rp.set X.rep.toNat (some (rb, a.rc)), m := { m with seq := a.rc.seq, deps := a.rc.deps } }).rp).x1) :: .pointer (pa (({ X with own := a.rc, rp := X.rp.set X.rep.toNat (some (rb, a.rc)), m := { m with seq := a.rc.seq, deps := a.rc.deps } }).rp).x2) :: .pointer (pa (({ X with own := a.rc, rp := X.rp.set X.rep.toNat (some (rb, a.rc)), m := { m with seq := a.rc.seq, deps := a.rc.deps } }).rp).x3) :: .pointer (pa (({ X with own := a.rc, rp := X.rp.set X.rep.toNat (some (rb, a.rc)), m := { m with seq := a.rc.seq, deps := a.rc.deps } }).rp).x4) :: .pointer (pa (({ X with own := a.rc, rp := X.rp.set X.rep.toNat (some (rb, a.rc)), m := { m with seq := a.rc.seq, deps := a.rc.deps } }).rp).x5) :: .pointer (pa (({ X with own := a.rc, rp := X.rp.set X.rep.toNat (some (rb, a.rc)), m := { m with seq := a.rc.seq, deps := a.rc.deps } }).rp).x6) :: .int .i64 (({ X with own := a.rc, rp := X.rp.set X.rep.toNat (some (rb, a.rc)), m := { m with seq := a.rc.seq, deps := a.rc.deps } }).own).st :: (({ X with own := a.rc, rp := X.rp.set X.rep.toNat (some (rb, a.rc)), m := { m with seq := a.rc.seq, deps := a.rc.deps } }).own).cmd.v :: .int .i64 (({ X with own := a.rc, rp := X.rp.set X.rep.toNat (some (rb, a.rc)), m := { m with seq := a.rc.seq, deps := a.rc.deps } }).own).seq :: .int .i64 ((({ X with own := a.rc, rp := X.rp.set X.rep.toNat (some (rb, a.rc)), m := { m with seq := a.rc.seq, deps := a.rc.deps } }).own).deps).x0 :: .int .i64 ((({ X with own := a.rc, rp := X.rp.set X.rep.toNat (some (rb, a.rc)), m := { m with seq := a.rc.seq, deps := a.rc.deps } }).own).deps).x1 :: .int .i64 ((({ X with own := a.rc, rp := X.rp.set X.rep.toNat (some (rb, a.rc)), m := { m with seq := a.rc.seq, deps := a.rc.deps } }).own).deps).x2 :: .int .i64 ((({ X with own := a.rc, rp := X.rp.set X.rep.toNat (some (rb, a.rc)), m := { m with seq := a.rc.seq, deps := a.rc.deps } }).own).deps).x3 :: .int .i64 ((({ X with own := a.rc, rp := X.rp.set X.rep.toNat (some (rb, a.rc)), m := { m with seq := a.rc.seq, deps := a.rc.deps } }).own).deps).x4 :: .int .i64 ((({ X with own := a.rc, rp := X.rp.set X.rep.toNat (some (rb, a.rc)), m := { m with seq := a.rc.seq, deps := a.rc.deps } }).own).deps).x5 :: .int .i64 ((({ X with own := a.rc, rp := X.rp.set X.rep.toNat (some (rb, a.rc)), m := { m with seq := a.rc.seq, deps := a.rc.deps } }).own).deps).x6 :: .int .i64 ((({ X with own := a.rc, rp := X.rp.set X.rep.toNat (some (rb, a.rc)), m := { m with seq := a.rc.seq, deps := a.rc.deps } }).own).bal).1 :: .int .i64 ((({ X with own := a.rc, rp := X.rp.set X.rep.toNat (some (rb, a.rc)), m := { m with seq := a.rc.seq, deps := a.rc.deps } }).own).bal).2 :: .int .i64 ((({ X with own := a.rc, rp := X.rp.set X.rep.toNat (some (rb, a.rc)), m := { m with seq := a.rc.seq, deps := a.rc.deps } }).own).ab).1 :: .int .i64 ((({ X with own := a.rc, rp := X.rp.set X.rep.toNat (some (rb, a.rc)), m := { m with seq := a.rc.seq, deps := a.rc.deps } }).own).ab).2 :: []) T_lead_Lead :: fch a.rc.cmd :: many fch X.B :: tb X.t T :: L') (hXm ▸ h)).entd (oc_set hlt X.rp rb a.rc)
   exact h5.ent ((ent.swap _ _ _).trans (ldc_close (X := X) (x := a.rc.cmd) hX hl { X with own := a.rc, rp := X.rp.set X.rep.toNat (some (rb, a.rc)), m := { m with seq := a.rc.seq, deps := a.rc.deps }, B := a.rc.cmd :: X.B } rfl (hok' rb _ hm.cons)))
  ·have f1 := decide_eq_false h1
   have hk3 := hk3 rb
   simp only [if_neg h1] at hk3
   (repeat simp -implicitDefEqProofs only [SE, SU, SV, f1])
   refine hk3 _ ?_
   have h5 := (St.wk (L' := cells rb [.int .i64 a.rc.st, a.rc.cmd.v, .int .i64 a.rc.seq, .int .i64 a.rc.deps.x0, .int .i64 a.rc.deps.x1, .int .i64 a.rc.deps.x2, .int .i64 a.rc.deps.x3, .int .i64 a.rc.deps.x4, .int .i64 a.rc.deps.x5, .int .i64 a.rc.deps.x6, .int .i64 a.rc.bal.1, .int .i64 a.rc.bal.2, .int .i64 a.rc.ab.1, .int .i64 a.rc.ab.2] T_inst_Rec :: many oc X.rp.list :: cells q (.int .i64 ({ X with own := a.rc, rp := X.rp.set X.rep.toNat (some (rb, a.rc)), m := m }).n :: .int .i64 ({ X with own := a.rc, rp := X.rp.set X.rep.toNat (some (rb, a.rc)), m := m }).rep :: .pointer (some ⟨({ X with own := a.rc, rp := X.rp.set X.rep.toNat (some (rb, a.rc)), m := m }).t, 0, none⟩) :: .int .i64 (({ X with own := a.rc, rp := X.rp.set X.rep.toNat (some (rb, a.rc)), m := m }).m).kind :: .int .i64 ((({ X with own := a.rc, rp := X.rp.set X.rep.toNat (some (rb, a.rc)), m := m }).m).dot).rep :: .int .i64 ((({ X with own := a.rc, rp := X.rp.set X.rep.toNat (some (rb, a.rc)), m := m }).m).dot).n :: .int .i64 ((({ X with own := a.rc, rp := X.rp.set X.rep.toNat (some (rb, a.rc)), m := m }).m).bal).1 :: .int .i64 ((({ X with own := a.rc, rp := X.rp.set X.rep.toNat (some (rb, a.rc)), m := m }).m).bal).2 :: (({ X with own := a.rc, rp := X.rp.set X.rep.toNat (some (rb, a.rc)), m := m }).m).cmd.v :: .int .i64 (({ X with own := a.rc, rp := X.rp.set X.rep.toNat (some (rb, a.rc)), m := m }).m).seq :: .int .i64 ((({ X with own := a.rc, rp := X.rp.set X.rep.toNat (some (rb, a.rc)), m := m }).m).deps).x0 :: .int .i64 ((({ X with own := a.rc, rp := X.rp.set X.rep.toNat (some (rb, a.rc)), m := m }).m).deps).x1 :: .int .i64 ((({ X with own := a.rc, rp := X.rp.set X.rep.toNat (some (rb, a.rc)), m := m }).m).deps).x2 :: .int .i64 ((({ X with own := a.rc, rp := X.rp.set X.rep.toNat (some (rb, a.rc)), m := m }).m).deps).x3 :: .int .i64 ((({ X with own := a.rc, rp := X.rp.set X.rep.toNat (some (rb, a.rc)), m := m }).m).deps).x4 :: .int .i64 ((({ X with own := a.rc, rp := X.rp.set X.rep.toNat (some (rb, a.rc)), m := m }).m).deps).x5 :: .int .i64 ((({ X with own := a.rc, rp := X.rp.set X.rep.toNat (some (rb, a.rc)), m := m }).m).deps).x6 :: .int .i64 ({ X with own := a.rc, rp := X.rp.set X.rep.toNat (some (rb, a.rc)), m := m }).phase :: .bool ({ X with own := a.rc, rp := X.rp.set X.rep.toNat (some (rb, a.rc)), m := m }).fast :: .bool ({ X with own := a.rc, rp := X.rp.set X.rep.toNat (some (rb, a.rc)), m := m }).apart :: .pointer (pa (({ X with own := a.rc, rp := X.rp.set X.rep.toNat (some (rb, a.rc)), m := m }).rp).x0) :: .pointer (pa (({ X with own := a.rc, rp := X.rp.set X.rep.toNat (some (rb, a.rc)), m := m }).rp).x1) :: .pointer (pa (({ X with own := a.rc, rp := X.rp.set X.rep.toNat (some (rb, a.rc)), m := m }).rp).x2) :: .pointer (pa (({ X with own := a.rc, rp := X.rp.set X.rep.toNat (some (rb, a.rc)), m := m }).rp).x3) :: .pointer (pa (({ X with own := a.rc, rp := X.rp.set X.rep.toNat (some (rb, a.rc)), m := m }).rp).x4) :: .pointer (pa (({ X with own := a.rc, rp := X.rp.set X.rep.toNat (some (rb, a.rc)), m := m }).rp).x5) :: .pointer (pa (({ X with own := a.rc, rp := X.rp.set X.rep.toNat (some (rb, a.rc)), m := m }).rp).x6) :: .int .i64 (({ X with own := a.rc, rp := X.rp.set X.rep.toNat (some (rb, a.rc)), m := m }).own).st :: (({ X with own := a.rc, rp := X.rp.set X.rep.toNat (some (rb, a.rc)), m := m }).own).cmd.v :: .int .i64 (({ X with own := a.rc, rp := X.rp.set X.rep.toNat (some (rb, a.rc)), m := m }).own).seq :: .int .i64 ((({ X with own := a.rc, rp := X.rp.set X.rep.toNat (some (rb, a.rc)), m := m }).own).deps).x0 :: .int .i64 ((({ X with own := a.rc, rp := X.rp.set X.rep.toNat (some (rb, a.rc)), m := m }).own).deps).x1 :: .int .i64 ((({ X with own := a.rc, rp := X.rp.set X.rep.toNat (some (rb, a.rc)), m := m }).own).deps).x2 :: .int .i64 ((({ X with own := a.rc, rp := X.rp.set X.rep.toNat (some (rb, a.rc)), m := m }).own).deps).x3 :: .int .i64 ((({ X with own := a.rc, rp := X.rp.set X.rep.toNat (some (rb, a.rc)), m := m }).own).deps).x4 :: .int .i64 ((({ X with own := a.rc, rp := X.rp.set X.rep.toNat (some (rb, a.rc)), m := m }).own).deps).x5 :: .int .i64 ((({ X with own := a.rc, rp := X.rp.set X.rep.toNat (some (rb, a.rc)), m := m }).own).deps).x6 :: .int .i64 ((({ X with own := a.rc, rp := X.rp.set X.rep.toNat (some (rb, a.rc)), m := m }).own).bal).1 :: .int .i64 ((({ X with own := a.rc, rp := X.rp.set X.rep.toNat (some (rb, a.rc)), m := m }).own).bal).2 :: .int .i64 ((({ X with own := a.rc, rp := X.rp.set X.rep.toNat (some (rb, a.rc)), m := m }).own).ab).1 :: .int .i64 ((({ X with own := a.rc, rp := X.rp.set X.rep.toNat (some (rb, a.rc)), m := m }).own).ab).2 :: []) T_lead_Lead :: fch a.rc.cmd :: many fch X.B :: tb X.t T :: L') (hXm ▸ h)).entd (oc_set hlt X.rp rb a.rc)
   exact h5.ent ((ent.swap _ _ _).trans (ldc_close (X := X) (x := a.rc.cmd) hX hl { X with own := a.rc, rp := X.rp.set X.rep.toNat (some (rb, a.rc)), m := m, B := a.rc.cmd :: X.B } rfl (hok' rb _ hm.cons)))
theorem tb_tok {p : Nat} {T : Tbl} (h : St W0 L W) [ht : Tk (tb p) L T L'] : Tok T := by
 obtain ⟨r, fs, B, hT, h⟩ := tb_at (h.perm ht.perm)
 exact hT.2.1
theorem leadBegin {T : Tbl} {ph : Int} {m : Msg BSl} {k : Value → World → Prop} (h : St W0 L W) [ht : Tk (ldc q) L X L1] [ht2 : Tk (tb X.t) L1 T L'] (hm : InB m.cmd X.B)
  (hk : ∀ (X' : LX) W', X'.t = X.t → X'.abs = (X.abs.begin T ph (m.map BSl.bs)).1 → St W0 (ldc q X' :: tb X.t (X.abs.begin T ph (m.map BSl.bs)).2 :: L') W' → k (.tuple #[]) W') :
  callK PR F_lead_Lead_begin [.pointer (some ⟨q, 0, none⟩), .int .i64 ph, .agg #[.int .i64 m.kind, .int .i64 m.dot.rep, .int .i64 m.dot.n, .int .i64 m.bal.1, .int .i64 m.bal.2, m.cmd.v, .int .i64 m.seq, .int .i64 m.deps.x0, .int .i64 m.deps.x1, .int .i64 m.deps.x2, .int .i64 m.deps.x3, .int .i64 m.deps.x4, .int .i64 m.deps.x5, .int .i64 m.deps.x6]] k W := by
 apply S.lead_Lead_begin.call
 delta S.lead_Lead_begin.body oK oA rD lD eF eU sT cL vC gD gX gP gA gR gL gE gU gC gV hL sB nI
 obtain ⟨hX, h⟩ := ldc_at (h.perm ht.perm)
 have hml := hm.len hX.len
 haveI : Rd W0 (many fch X.B :: L') m.cmd.a B8 m.cmd.bs := rdMany hm
 have htok : Tok T := tb_tok (p := X.t) h
 have hJ : ∀ (ab : Nat) (a : Ans BSl) W', a.map BSl.bs = (tdo T (m.map BSl.bs)).2.1 →
   St W0 (cells ab [.bool a.ok, .int .i64 a.bal.1, .int .i64 a.bal.2, .int .i64 a.rc.st, a.rc.cmd.v, .int .i64 a.rc.seq, .int .i64 a.rc.deps.x0, .int .i64 a.rc.deps.x1, .int .i64 a.rc.deps.x2, .int .i64 a.rc.deps.x3, .int .i64 a.rc.deps.x4, .int .i64 a.rc.deps.x5, .int .i64 a.rc.deps.x6, .int .i64 a.rc.bal.1, .int .i64 a.rc.bal.2, .int .i64 a.rc.ab.1, .int .i64 a.rc.ab.2] T_inst_Answer :: fch a.rc.cmd :: cells q (.int .i64 ({ X with phase := ph, m := m, apart := false, rp := P7.all none }).n :: .int .i64 ({ X with phase := ph, m := m, apart := false, rp := P7.all none }).rep :: .pointer (some ⟨({ X with phase := ph, m := m, apart := false, rp := P7.all none }).t, 0, none⟩) :: .int .i64 (({ X with phase := ph, m := m, apart := false, rp := P7.all none }).m).kind :: .int .i64 ((({ X with phase := ph, m := m, apart := false, rp := P7.all none }).m).dot).rep :: .int .i64 ((({ X with phase := ph, m := m, apart := false, rp := P7.all none }).m).dot).n :: .int .i64 ((({ X with phase := ph, m := m, apart := false, rp := P7.all none }).m).bal).1 :: .int .i64 ((({ X with phase := ph, m := m, apart := false, rp := P7.all none }).m).bal).2 :: (({ X with phase := ph, m := m, apart := false, rp := P7.all none }).m).cmd.v :: .int .i64 (({ X with phase := ph, m := m, apart := false, rp := P7.all none }).m).seq :: .int .i64 ((({ X with phase := ph, m := m, apart := false, rp := P7.all none }).m).deps).x0 :: .int .i64 ((({ X with phase := ph, m := m, apart := false, rp := P7.all none }).m).deps).x1 :: .int .i64 ((({ X with phase := ph, m := m, apart := false, rp := P7.all none }).m).deps).x2 :: .int .i64 ((({ X with phase := ph, m := m, apart := false, rp := P7.all none }).m).deps).x3 :: .int .i64 ((({ X with phase := ph, m := m, apart := false, rp := P7.all none }).m).deps).x4 :: .int .i64 ((({ X with phase := ph, m := m, apart := false, rp := P7.all none }).m).deps).x5 :: .int .i64 ((({ X with phase := ph, m := m, apart := false, rp := P7.all none }).m).deps).x6 :: .int .i64 ({ X with phase := ph, m := m, apart := false, rp := P7.all none }).phase :: .bool ({ X with phase := ph, m := m, apart := false, rp := P7.all none }).fast :: .bool ({ X with phase := ph, m := m, apart := false, rp := P7.all none }).apart :: .pointer (pa (({ X with phase := ph, m := m, apart := false, rp := P7.all none }).rp).x0) :: .pointer (pa (({ X with phase := ph, m := m, apart := false, rp := P7.all none }).rp).x1) :: .pointer (pa (({ X with phase := ph, m := m, apart := false, rp := P7.all none }).rp).x2) :: .pointer (pa (({ X with phase := ph, m := m, apart := false, rp := P7.all none }).rp).x3) :: .pointer (pa (({ X with phase := ph, m := m, apart := false, rp := P7.all none }).rp).x4) :: .pointer (pa (({ X with phase := ph, m := m, apart := false, rp := P7.all none }).rp).x5) :: .pointer (pa (({ X with phase := ph, m := m, apart := false, rp := P7.all none }).rp).x6) :: .int .i64 (({ X with phase := ph, m := m, apart := false, rp := P7.all none }).own).st :: (({ X with phase := ph, m := m, apart := false, rp := P7.all none }).own).cmd.v :: .int .i64 (({ X with phase := ph, m := m, apart := false, rp := P7.all none }).own).seq :: .int .i64 ((({ X with phase := ph, m := m, apart := false, rp := P7.all none }).own).deps).x0 :: .int .i64 ((({ X with phase := ph, m := m, apart := false, rp := P7.all none }).own).deps).x1 :: .int .i64 ((({ X with phase := ph, m := m, apart := false, rp := P7.all none }).own).deps).x2 :: .int .i64 ((({ X with phase := ph, m := m, apart := false, rp := P7.all none }).own).deps).x3 :: .int .i64 ((({ X with phase := ph, m := m, apart := false, rp := P7.all none }).own).deps).x4 :: .int .i64 ((({ X with phase := ph, m := m, apart := false, rp := P7.all none }).own).deps).x5 :: .int .i64 ((({ X with phase := ph, m := m, apart := false, rp := P7.all none }).own).deps).x6 :: .int .i64 ((({ X with phase := ph, m := m, apart := false, rp := P7.all none }).own).bal).1 :: .int .i64 ((({ X with phase := ph, m := m, apart := false, rp := P7.all none }).own).bal).2 :: .int .i64 ((({ X with phase := ph, m := m, apart := false, rp := P7.all none }).own).ab).1 :: .int .i64 ((({ X with phase := ph, m := m, apart := false, rp := P7.all none }).own).ab).2 :: []) T_lead_Lead :: many fch X.B :: tb X.t (tdo T (m.map BSl.bs)).1 :: L') W' →
   S.lead_Lead_begin.j1 k (.pointer (some ⟨q, 0, none⟩)) (.int .i64 ph) (.pointer (some ⟨ab, 0, none⟩)) W' := by
  intro ab a W' ha h
  have hal : a.rc.cmd.bs.length ≤ 300 := by
   have := tdo_len htok (m.map BSl.bs)
   rw [← ha] at this
   exact this
  have h1 := h.ent ((ent.cons _ (ent.cons _ (ent.cons _ oc_none))))
  clear h
  refine leadBegin_j1 (X := { X with phase := ph, m := m, apart := false, rp := P7.all none }) (a := a) (m := m) ⟨hX.rep, hm, hX.own, fun p hp => ?_, hX.len⟩ hm (fun r hr => ?_) rfl rfl rfl (by omega) h1 (fun h3 X' W' e1 e2 h => ?_) (fun h3 ho W' h => ?_) (fun h3 ho b W' h => ?_)
  ·simp [P7.list] at hp
  ·simpa [P7.list] using hr
  ·rw [LD.begin_3 ha.symm h3] at hk
   exact hk X' W' e1 e2 h
  ·rw [LD.begin_f ha.symm h3 ho] at hk
   refine hk _ W' ?_ ?_ h <;> rfl
  ·rw [LD.begin_t ha.symm h3 ho] at hk
   refine hk _ W' ?_ ?_ h
   ·rfl
   ·unfold LX.abs
    simp only [P7.map_set]
    by_cases h1 : ph = 1
    ·simp only [if_pos h1]; rfl
    ·simp only [if_neg h1]; rfl
 clear hk
 refine bxa h fun mb W1 h => ?_
 (repeat (first | ((with_reducible refine stb_n ?_); intros) | ((with_reducible refine v5 ?_); refine ⟨_, rfl, ?_⟩) | ((with_reducible first | refine v8 ?_ ?_ | refine v12 ?_ ?_); exact rfl; intros) | ((with_reducible refine w12 ?_ ?_ ?_ ?_); simp; simp; simp [oneC]; intros) | (refine okF_i (bldP_eq rfl) ?_; try simp only [BLS, SB, Nat.reduceAdd]) | simp -implicitDefEqProofs only [SE, SU, SV]))
 refine joinK_i ?_
 (repeat (first | ((with_reducible refine v5 ?_); refine ⟨_, rfl, ?_⟩) | ((with_reducible refine w5 ?_ ?_); simp; refine ⟨_, rfl, ?_⟩) | simp -implicitDefEqProofs only [SE, SU, SV]))
 refine ⟨?_, ?_⟩
 ·refine instDo (m := m) (by exact St.tick (by assumption)) hml fun a W2 ha h => ?_
  (repeat (first | ((with_reducible refine w11 ?_); intros) | ((with_reducible refine v12 ?_ ?_); exact rfl; intros) | ((with_reducible refine w12 ?_ ?_ ?_ ?_); simp; simp; simp [oneC]; intros) | simp -implicitDefEqProofs only [SE, SU, SV]))
  rename_i ab _ _ W3 h
  (try simp only [BLS, SB, stL_a, stL_b, stL_c, lsub_a, lsub_b, lsub_c, List.append_nil, List.take_nil, List.drop_nil, Nat.reduceAdd] at h)
  exact hJ ab a _ ha (St.wk h)
 ·(repeat (first | ((with_reducible first | refine w11 ?_ | refine stb_n ?_); intros) | ((with_reducible refine v8 ?_ ?_); exact rfl; intros) | ((with_reducible refine w8 ?_ ?_ ?_); exact rfl; simp; intros)))
  refine instDo (m := m) (by assumption) hml fun a W2 ha h => ?_
  (repeat (first | ((with_reducible refine v12 ?_ ?_); exact rfl; intros) | ((with_reducible refine w12 ?_ ?_ ?_ ?_); simp; simp; simp [oneC]; intros) | simp -implicitDefEqProofs only [SE, SU, SV]))
  rename_i ab _ _ _ W3 h
  (try simp only [BLS, SB, stL_a, stL_b, stL_c, lsub_a, lsub_b, lsub_c, List.append_nil, List.take_nil, List.drop_nil, Nat.reduceAdd] at h)
  exact hJ _ a _ ha (St.wk h)
end
end Go.Proofs.YtfhacbhgmnhmlaaGreat
namespace Go.Proofs.YtfhacbhgmnhmlaaGreat
set_option linter.unusedVariables false
set_option linter.unusedSimpArgs false
open Go Go.Eng
section
variable {W0 W : World} {L L' L1 : List Asn} {q : Nat} {X : LX}
theorem oc_open (A C : List RX) (p : Nat × Rec BSl) : ent (many oc (A ++ some p :: C) :: L) (cells p.1 [.int .i64 p.2.st, p.2.cmd.v, .int .i64 p.2.seq, .int .i64 p.2.deps.x0, .int .i64 p.2.deps.x1, .int .i64 p.2.deps.x2, .int .i64 p.2.deps.x3, .int .i64 p.2.deps.x4, .int .i64 p.2.deps.x5, .int .i64 p.2.deps.x6, .int .i64 p.2.bal.1, .int .i64 p.2.bal.2, .int .i64 p.2.ab.1, .int .i64 p.2.ab.2] T_inst_Rec :: many oc (A ++ C) :: L) := (many_perm (F := oc) List.perm_middle).trans (many_cons _ _)
theorem oc_shut (A C : List RX) (p : Nat × Rec BSl) : ent (cells p.1 [.int .i64 p.2.st, p.2.cmd.v, .int .i64 p.2.seq, .int .i64 p.2.deps.x0, .int .i64 p.2.deps.x1, .int .i64 p.2.deps.x2, .int .i64 p.2.deps.x3, .int .i64 p.2.deps.x4, .int .i64 p.2.deps.x5, .int .i64 p.2.deps.x6, .int .i64 p.2.bal.1, .int .i64 p.2.bal.2, .int .i64 p.2.ab.1, .int .i64 p.2.ab.2] T_inst_Rec :: many oc (A ++ C) :: L) (many oc (A ++ some p :: C) :: L) := (many_uncons (F := oc) (some p) _).trans (many_perm (F := oc) List.perm_middle.symm)
theorem list7_at {α : Type} (p : P7 α) {i : Nat} (hi : i < 7) : p.list = p.list.take i ++ p.get i :: p.list.drop (i + 1) := by
 rcases P7.cases7 hi with rfl | rfl | rfl | rfl | rfl | rfl | rfl <;> rfl
theorem gr_mem {α : Type} {f : α → Rec Bs} {st : Int} : ∀ {l : List (Option α)} {b0 b : Option α} {x : α}, l.foldl (grStep f st) b0 = b → b = some x → b0 = some x ∨ some x ∈ l
 | [], b0, b, x, h, hb => .inl (by rw [← hb, ← h]; rfl)
 | r :: l, b0, b, x, h, hb => by
  rw [List.foldl_cons] at h
  rcases gr_mem h hb with h1 | h1
  ·cases r with
   | none => exact .inl h1
   | some y =>
    have h2 : grStep f st b0 (some y) = some y ∨ grStep f st b0 (some y) = b0 := by
     exact grStep_or f st b0 y
    rcases h2 with h2 | h2
    ·exact .inr (by rw [← h1, h2]; simp)
    ·exact .inl (by rw [← h2]; exact h1)
  ·exact .inr (by simp [h1])
theorem gr_map {α : Type} (f : α → Rec Bs) (st : Int) : ∀ (l : List (Option α)) (b0 : Option α), (l.map (Option.map f)).foldl (grStep id st) (b0.map f) = (l.foldl (grStep f st) b0).map f
 | [], b0 => rfl
 | r :: l, b0 => by
  rw [List.map_cons, List.foldl_cons, List.foldl_cons, ← gr_map f st l]
  congr 1
  cases r with
  | none => rfl
  | some r => cases b0 with
   | none => simp only [grStep, Option.map_some, Option.map_none, id]; split <;> rfl
   | some b => simp only [grStep, Option.map_some, id]; split <;> rfl
theorem first_map {α β : Type} (f : α → β) : ∀ (l : List (Option α)), firstR (l.map (Option.map f)) = (firstR l).map f
 | [] => rfl
 | none :: l => first_map f l
 | some r :: l => rfl
theorem first_mem {α : Type} : ∀ {l : List (Option α)} {x : α}, firstR l = some x → some x ∈ l
 | none :: l, x, h => by simp [first_mem (l := l) h]
 | some r :: l, x, h => by simp only [firstR, Option.some.injEq] at h; simp [h]
theorem leadGreatest {st : Int} {k : Value → World → Prop} (h : St W0 L W) [ht : Tk (ldc q) L X L'] (hk : ∀ W', St W0 (ldc q X :: L') W' → k (.pointer (pa (greatest rab st X.rp.list))) W') :
  callK PR F_lead_Lead_greatest [.pointer (some ⟨q, 0, none⟩), .int .i64 st] k W := by
 apply S.lead_Lead_greatest.call
 delta S.lead_Lead_greatest.body oK oA rD lD eF eU sT cL vC gD gX gP gA gR gL gE gU gC gV hL sB nI
 obtain ⟨hX, h⟩ := ldc_at (h.perm ht.perm)
 refine joinK_i ?_
 (repeat (first | ((with_reducible refine v5 ?_); refine ⟨_, rfl, ?_⟩) | simp -implicitDefEqProofs only [SE, SU, SV]))
 refine loop_c (σ := Unit) 7 (fun i _ => [.int .i64 st, .pointer (pa ((X.rp.list.take i).foldl (grStep rab st) none)), .agg #[.pointer (pa X.rp.x0), .pointer (pa X.rp.x1), .pointer (pa X.rp.x2), .pointer (pa X.rp.x3), .pointer (pa X.rp.x4), .pointer (pa X.rp.x5), .pointer (pa X.rp.x6)], .int .i64 i])
  (fun i _ W1 => St W0 (cells q (.int .i64 X.n :: .int .i64 X.rep :: .pointer (some ⟨X.t, 0, none⟩) :: .int .i64 X.m.kind :: .int .i64 X.m.dot.rep :: .int .i64 X.m.dot.n :: .int .i64 X.m.bal.1 :: .int .i64 X.m.bal.2 :: X.m.cmd.v :: .int .i64 X.m.seq :: .int .i64 X.m.deps.x0 :: .int .i64 X.m.deps.x1 :: .int .i64 X.m.deps.x2 :: .int .i64 X.m.deps.x3 :: .int .i64 X.m.deps.x4 :: .int .i64 X.m.deps.x5 :: .int .i64 X.m.deps.x6 :: .int .i64 X.phase :: .bool X.fast :: .bool X.apart :: .pointer (pa X.rp.x0) :: .pointer (pa X.rp.x1) :: .pointer (pa X.rp.x2) :: .pointer (pa X.rp.x3) :: .pointer (pa X.rp.x4) :: .pointer (pa X.rp.x5) :: .pointer (pa X.rp.x6) :: .int .i64 X.own.st :: X.own.cmd.v :: .int .i64 X.own.seq :: .int .i64 X.own.deps.x0 :: .int .i64 X.own.deps.x1 :: .int .i64 X.own.deps.x2 :: .int .i64 X.own.deps.x3 :: .int .i64 X.own.deps.x4 :: .int .i64 X.own.deps.x5 :: .int .i64 X.own.deps.x6 :: .int .i64 X.own.bal.1 :: .int .i64 X.own.bal.2 :: .int .i64 X.own.ab.1 :: .int .i64 X.own.ab.2 :: []) T_lead_Lead :: many oc X.rp.list :: many fch X.B :: L') W1) () rfl h ?_
 clear h
 rintro K i _ W2 hi h hK
 simp -implicitDefEqProofs only [SE, SU, SV]
 delta S.lead_Lead_greatest.l1 oK oA rD lD eF eU sT cL vC gD gX gP gA gR gL gE gU gC gV hL sB nI
 have ew : IntKind.i64.wrap ((i : Int) + 1) = ((i + 1 : Nat) : Int) := by rw [i64w]; omega
 by_cases hlt : (i : Int) < 7
 ·have hlt7 : i < 7 := by omega
  have e := idxVp (rp := X.rp) (i := i) hlt7
  have hs : (X.rp.list.take (i + 1)).foldl (grStep rab st) none = grStep rab st ((X.rp.list.take i).foldl (grStep rab st) none) (X.rp.get i) := by
   rw [List.take_add_one, P7.list_get _ hlt7, List.foldl_append]; rfl
  have hJ : ∀ (b : RX) W', b = grStep rab st ((X.rp.list.take i).foldl (grStep rab st) none) (X.rp.get i) → St W0 (cells q (.int .i64 X.n :: .int .i64 X.rep :: .pointer (some ⟨X.t, 0, none⟩) :: .int .i64 X.m.kind :: .int .i64 X.m.dot.rep :: .int .i64 X.m.dot.n :: .int .i64 X.m.bal.1 :: .int .i64 X.m.bal.2 :: X.m.cmd.v :: .int .i64 X.m.seq :: .int .i64 X.m.deps.x0 :: .int .i64 X.m.deps.x1 :: .int .i64 X.m.deps.x2 :: .int .i64 X.m.deps.x3 :: .int .i64 X.m.deps.x4 :: .int .i64 X.m.deps.x5 :: .int .i64 X.m.deps.x6 :: .int .i64 X.phase :: .bool X.fast :: .bool X.apart :: .pointer (pa X.rp.x0) :: .pointer (pa X.rp.x1) :: .pointer (pa X.rp.x2) :: .pointer (pa X.rp.x3) :: .pointer (pa X.rp.x4) :: .pointer (pa X.rp.x5) :: .pointer (pa X.rp.x6) :: .int .i64 X.own.st :: X.own.cmd.v :: .int .i64 X.own.seq :: .int .i64 X.own.deps.x0 :: .int .i64 X.own.deps.x1 :: .int .i64 X.own.deps.x2 :: .int .i64 X.own.deps.x3 :: .int .i64 X.own.deps.x4 :: .int .i64 X.own.deps.x5 :: .int .i64 X.own.deps.x6 :: .int .i64 X.own.bal.1 :: .int .i64 X.own.bal.2 :: .int .i64 X.own.ab.1 :: .int .i64 X.own.ab.2 :: []) T_lead_Lead :: many oc X.rp.list :: many fch X.B :: L') W' →
    S.lead_Lead_greatest.j2 K (.int .i64 st) (.pointer (pa b)) (.agg #[.pointer (pa X.rp.x0), .pointer (pa X.rp.x1), .pointer (pa X.rp.x2), .pointer (pa X.rp.x3), .pointer (pa X.rp.x4), .pointer (pa X.rp.x5), .pointer (pa X.rp.x6)]) (.int .i64 i) W' := by
   rintro b W' rfl h
   delta S.lead_Lead_greatest.j2 oK oA rD lD eF eU sT cL vC gD gX gP gA gR gL gE gU gC gV hL sB nI
   (repeat simp -implicitDefEqProofs only [SE, SU, SV, ew])
   have := hK () W' (by omega) h
   rw [hs] at this
   exact this
  clear hK hs
  (repeat simp -implicitDefEqProofs only [SE, SU, SV, hlt])
  refine joinK_i ?_
  have h7 := list7_at X.rp hlt7
  generalize hb : (X.rp.list.take i).foldl (grStep rab st) none = best at *
  cases hg : X.rp.get i with
  | none =>
   rw [hg] at hJ
   rw [hg] at e
   (repeat simp -implicitDefEqProofs only [SE, SU, SV, e])
   exact hJ best _ rfl (by exact St.tick (by assumption))
  | some p =>
   rw [hg] at hJ e h7
   have h1 : St W0 (cells p.1 [.int .i64 p.2.st, p.2.cmd.v, .int .i64 p.2.seq, .int .i64 p.2.deps.x0, .int .i64 p.2.deps.x1, .int .i64 p.2.deps.x2, .int .i64 p.2.deps.x3, .int .i64 p.2.deps.x4, .int .i64 p.2.deps.x5, .int .i64 p.2.deps.x6, .int .i64 p.2.bal.1, .int .i64 p.2.bal.2, .int .i64 p.2.ab.1, .int .i64 p.2.ab.2] T_inst_Rec :: many oc (X.rp.list.take i ++ X.rp.list.drop (i + 1)) :: cells q (.int .i64 X.n :: .int .i64 X.rep :: .pointer (some ⟨X.t, 0, none⟩) :: .int .i64 X.m.kind :: .int .i64 X.m.dot.rep :: .int .i64 X.m.dot.n :: .int .i64 X.m.bal.1 :: .int .i64 X.m.bal.2 :: X.m.cmd.v :: .int .i64 X.m.seq :: .int .i64 X.m.deps.x0 :: .int .i64 X.m.deps.x1 :: .int .i64 X.m.deps.x2 :: .int .i64 X.m.deps.x3 :: .int .i64 X.m.deps.x4 :: .int .i64 X.m.deps.x5 :: .int .i64 X.m.deps.x6 :: .int .i64 X.phase :: .bool X.fast :: .bool X.apart :: .pointer (pa X.rp.x0) :: .pointer (pa X.rp.x1) :: .pointer (pa X.rp.x2) :: .pointer (pa X.rp.x3) :: .pointer (pa X.rp.x4) :: .pointer (pa X.rp.x5) :: .pointer (pa X.rp.x6) :: .int .i64 X.own.st :: X.own.cmd.v :: .int .i64 X.own.seq :: .int .i64 X.own.deps.x0 :: .int .i64 X.own.deps.x1 :: .int .i64 X.own.deps.x2 :: .int .i64 X.own.deps.x3 :: .int .i64 X.own.deps.x4 :: .int .i64 X.own.deps.x5 :: .int .i64 X.own.deps.x6 :: .int .i64 X.own.bal.1 :: .int .i64 X.own.bal.2 :: .int .i64 X.own.ab.1 :: .int .i64 X.own.ab.2 :: []) T_lead_Lead :: many fch X.B :: L') W2 := by
    rw [h7] at h
    exact (h.ent (ent.swap _ _ _)).ent (oc_open _ _ _)
   have hcl : ∀ W', St W0 (cells p.1 [.int .i64 p.2.st, p.2.cmd.v, .int .i64 p.2.seq, .int .i64 p.2.deps.x0, .int .i64 p.2.deps.x1, .int .i64 p.2.deps.x2, .int .i64 p.2.deps.x3, .int .i64 p.2.deps.x4, .int .i64 p.2.deps.x5, .int .i64 p.2.deps.x6, .int .i64 p.2.bal.1, .int .i64 p.2.bal.2, .int .i64 p.2.ab.1, .int .i64 p.2.ab.2] T_inst_Rec :: many oc (X.rp.list.take i ++ X.rp.list.drop (i + 1)) :: cells q (.int .i64 X.n :: .int .i64 X.rep :: .pointer (some ⟨X.t, 0, none⟩) :: .int .i64 X.m.kind :: .int .i64 X.m.dot.rep :: .int .i64 X.m.dot.n :: .int .i64 X.m.bal.1 :: .int .i64 X.m.bal.2 :: X.m.cmd.v :: .int .i64 X.m.seq :: .int .i64 X.m.deps.x0 :: .int .i64 X.m.deps.x1 :: .int .i64 X.m.deps.x2 :: .int .i64 X.m.deps.x3 :: .int .i64 X.m.deps.x4 :: .int .i64 X.m.deps.x5 :: .int .i64 X.m.deps.x6 :: .int .i64 X.phase :: .bool X.fast :: .bool X.apart :: .pointer (pa X.rp.x0) :: .pointer (pa X.rp.x1) :: .pointer (pa X.rp.x2) :: .pointer (pa X.rp.x3) :: .pointer (pa X.rp.x4) :: .pointer (pa X.rp.x5) :: .pointer (pa X.rp.x6) :: .int .i64 X.own.st :: X.own.cmd.v :: .int .i64 X.own.seq :: .int .i64 X.own.deps.x0 :: .int .i64 X.own.deps.x1 :: .int .i64 X.own.deps.x2 :: .int .i64 X.own.deps.x3 :: .int .i64 X.own.deps.x4 :: .int .i64 X.own.deps.x5 :: .int .i64 X.own.deps.x6 :: .int .i64 X.own.bal.1 :: .int .i64 X.own.bal.2 :: .int .i64 X.own.ab.1 :: .int .i64 X.own.ab.2 :: []) T_lead_Lead :: many fch X.B :: L') W' → St W0 (cells q (.int .i64 X.n :: .int .i64 X.rep :: .pointer (some ⟨X.t, 0, none⟩) :: .int .i64 X.m.kind :: .int .i64 X.m.dot.rep :: .int .i64 X.m.dot.n :: .int .i64 X.m.bal.1 :: .int .i64 X.m.bal.2 :: X.m.cmd.v :: .int .i64 X.m.seq :: .int .i64 X.m.deps.x0 :: .int .i64 X.m.deps.x1 :: .int .i64 X.m.deps.x2 :: .int .i64 X.m.deps.x3 :: .int .i64 X.m.deps.x4 :: .int .i64 X.m.deps.x5 :: .int .i64 X.m.deps.x6 :: .int .i64 X.phase :: .bool X.fast :: .bool X.apart :: .pointer (pa X.rp.x0) :: .pointer (pa X.rp.x1) :: .pointer (pa X.rp.x2) :: .pointer (pa X.rp.x3) :: .pointer (pa X.rp.x4) :: .pointer (pa X.rp.x5) :: .pointer (pa X.rp.x6) :: .int .i64 X.own.st :: X.own.cmd.v :: .int .i64 X.own.seq :: .int .i64 X.own.deps.x0 :: .int .i64 X.own.deps.x1 :: .int .i64 X.own.deps.x2 :: .int .i64 X.own.deps.x3 :: .int .i64 X.own.deps.x4 :: .int .i64 X.own.deps.x5 :: .int .i64 X.own.deps.x6 :: .int .i64 X.own.bal.1 :: .int .i64 X.own.bal.2 :: .int .i64 X.own.ab.1 :: .int .i64 X.own.ab.2 :: []) T_lead_Lead :: many oc X.rp.list :: many fch X.B :: L') W' := by
    intro W' h
    have := (h.ent (oc_shut _ _ _)).ent (ent.swap _ _ _)
    rw [← h7] at this
    exact this
   clear h
   by_cases hst : p.2.st = st
   ·have f1 := decide_eq_true hst
    cases hbest : best with
    | none =>
     rw [hbest] at hJ
     (repeat (first | ((with_reducible refine v5 ?_); refine ⟨_, rfl, ?_⟩) | simp -implicitDefEqProofs only [SE, SU, SV, e, f1]))
     exact hJ (some p) _ (by simp [grStep, Rec.map, hst]) (hcl _ (by exact St.tick (by assumption)))
    | some b =>
     rw [hbest] at hJ
     have hbm : some b ∈ X.rp.list.take i ++ X.rp.list.drop (i + 1) := by
      rcases gr_mem hb hbest with h | h
      ·cases h
      ·simp [h]
     obtain ⟨A, C, hAC, hoc⟩ := oc_take hbm
     rw [hAC] at h1 hcl
     have h2 := (h1.ent (ent.cons _ (oc_open A C b)))
     clear h1
     by_cases hc : 0 < cmpB p.2.ab.1 p.2.ab.2 b.2.ab.1 b.2.ab.2
     ·have f2 := decide_eq_true hc
      (repeat (first | ((with_reducible refine w1 ?_); intros) | ((with_reducible refine v5 ?_); refine ⟨_, rfl, ?_⟩) | simp -implicitDefEqProofs only [SE, SU, SV, e, f1, f2]))
      exact hJ (some p) _ (by simp [grStep, Rec.map, hst, hc]) (hcl _ (St.ent (by assumption) (ent.cons _ (oc_shut A C b))))
     ·have f2 := decide_eq_false hc
      (repeat (first | ((with_reducible refine w1 ?_); intros) | ((with_reducible refine v5 ?_); refine ⟨_, rfl, ?_⟩) | simp -implicitDefEqProofs only [SE, SU, SV, e, f1, f2]))
      exact hJ (some b) _ (by simp [grStep, Rec.map, hc]) (hcl _ (St.ent (by assumption) (ent.cons _ (oc_shut A C b))))
   ·have f1 := decide_eq_false hst
    (repeat (first | ((with_reducible refine v5 ?_); refine ⟨_, rfl, ?_⟩) | simp -implicitDefEqProofs only [SE, SU, SV, e, f1]))
    exact hJ best _ (by simp [grStep, Rec.map, hst]) (hcl _ (by exact St.tick (by assumption)))
 ·have : i = 7 := by omega
  subst this
  (repeat simp -implicitDefEqProofs only [SE, SU, SV, hlt])
  delta S.lead_Lead_greatest.j1 oK oA rD lD eF eU sT cL vC gD gX gP gA gR gL gE gU gC gV hL sB nI
  skip
  exact hk W2 (h.ent (ldc_ent hX))
theorem leadFirst {k : Value → World → Prop} (h : St W0 L W) [ht : Tk (ldc q) L X L'] (hk : ∀ W', St W0 (ldc q X :: L') W' → k (.pointer (pa (firstR X.rp.list))) W') :
  callK PR F_lead_Lead_first [.pointer (some ⟨q, 0, none⟩)] k W := by
 apply S.lead_Lead_first.call
 delta S.lead_Lead_first.body oK oA rD lD eF eU sT cL vC gD gX gP gA gR gL gE gU gC gV hL sB nI
 obtain ⟨hX, h⟩ := ldc_at (h.perm ht.perm)
 (repeat (first | ((with_reducible refine v5 ?_); refine ⟨_, rfl, ?_⟩) | simp -implicitDefEqProofs only [SE, SU, SV]))
 refine loop_c (σ := Unit) 7 (fun i _ => [.agg #[.pointer (pa X.rp.x0), .pointer (pa X.rp.x1), .pointer (pa X.rp.x2), .pointer (pa X.rp.x3), .pointer (pa X.rp.x4), .pointer (pa X.rp.x5), .pointer (pa X.rp.x6)], .int .i64 i])
  (fun i _ W1 => firstR X.rp.list = firstR (X.rp.list.drop i) ∧ St W0 (cells q (.int .i64 X.n :: .int .i64 X.rep :: .pointer (some ⟨X.t, 0, none⟩) :: .int .i64 X.m.kind :: .int .i64 X.m.dot.rep :: .int .i64 X.m.dot.n :: .int .i64 X.m.bal.1 :: .int .i64 X.m.bal.2 :: X.m.cmd.v :: .int .i64 X.m.seq :: .int .i64 X.m.deps.x0 :: .int .i64 X.m.deps.x1 :: .int .i64 X.m.deps.x2 :: .int .i64 X.m.deps.x3 :: .int .i64 X.m.deps.x4 :: .int .i64 X.m.deps.x5 :: .int .i64 X.m.deps.x6 :: .int .i64 X.phase :: .bool X.fast :: .bool X.apart :: .pointer (pa X.rp.x0) :: .pointer (pa X.rp.x1) :: .pointer (pa X.rp.x2) :: .pointer (pa X.rp.x3) :: .pointer (pa X.rp.x4) :: .pointer (pa X.rp.x5) :: .pointer (pa X.rp.x6) :: .int .i64 X.own.st :: X.own.cmd.v :: .int .i64 X.own.seq :: .int .i64 X.own.deps.x0 :: .int .i64 X.own.deps.x1 :: .int .i64 X.own.deps.x2 :: .int .i64 X.own.deps.x3 :: .int .i64 X.own.deps.x4 :: .int .i64 X.own.deps.x5 :: .int .i64 X.own.deps.x6 :: .int .i64 X.own.bal.1 :: .int .i64 X.own.bal.2 :: .int .i64 X.own.ab.1 :: .int .i64 X.own.ab.2 :: []) T_lead_Lead :: many oc X.rp.list :: many fch X.B :: L') W1) () rfl ⟨rfl, h⟩ ?_
 clear h
 rintro K i _ W2 hi ⟨hf, h⟩ hK
 simp -implicitDefEqProofs only [SE, SU, SV]
 delta S.lead_Lead_first.l1 oK oA rD lD eF eU sT cL vC gD gX gP gA gR gL gE gU gC gV hL sB nI
 have ew : IntKind.i64.wrap ((i : Int) + 1) = ((i + 1 : Nat) : Int) := by rw [i64w]; omega
 by_cases hlt : (i : Int) < 7
 ·have hlt7 : i < 7 := by omega
  have e := idxVp (rp := X.rp) (i := i) hlt7
  rw [list7_drop X.rp hlt7] at hf
  cases hg : X.rp.get i with
  | none =>
   rw [hg] at e hf
   (repeat simp -implicitDefEqProofs only [SE, SU, SV, hlt, e, ew])
   exact hK () _ (by omega) ⟨hf, h⟩
  | some p =>
   rw [hg] at e hf
   rw [hf] at hk
   (repeat simp -implicitDefEqProofs only [SE, SU, SV, hlt, e])
   exact hk _ (h.ent (ldc_ent hX))
 ·have : i = 7 := by omega
  subst this
  (repeat simp -implicitDefEqProofs only [SE, SU, SV, hlt])
  rw [hf] at hk
  exact hk W2 (h.ent (ldc_ent hX))
theorem leadAlike {k : Value → World → Prop} (h : St W0 L W) [ht : Tk (ldc q) L X L'] (hk : ∀ W', St W0 (ldc q X :: L') W' → k (.bool X.abs.alike) W') : callK PR F_lead_Lead_alike [.pointer (some ⟨q, 0, none⟩)] k W := by
 apply S.lead_Lead_alike.call
 delta S.lead_Lead_alike.body oK oA rD lD eF eU sT cL vC gD gX gP gA gR gL gE gU gC gV hL sB nI
 obtain ⟨hX, h⟩ := ldc_at (h.perm ht.perm)
 have ha : X.abs.alike = X.rp.list.all fun r => match r with | some r => likeR (X.own.map BSl.bs) (rab r) | none => true := by
  unfold LD.alike
  rw [show X.abs.recs.list = X.rp.list.map (Option.map rab) from rfl, List.all_map]
  congr 1
  funext r
  cases r <;> rfl
 rw [ha] at hk
 clear ha
 (repeat (first | ((with_reducible refine v5 ?_); refine ⟨_, rfl, ?_⟩) | simp -implicitDefEqProofs only [SE, SU, SV]))
 refine loop_c (σ := Unit) 7 (fun i _ => [.pointer (some ⟨q, 0, none⟩), .agg #[.pointer (pa X.rp.x0), .pointer (pa X.rp.x1), .pointer (pa X.rp.x2), .pointer (pa X.rp.x3), .pointer (pa X.rp.x4), .pointer (pa X.rp.x5), .pointer (pa X.rp.x6)], .int .i64 i])
  (fun i _ W1 => (X.rp.list.all fun r => match r with | some r => likeR (X.own.map BSl.bs) (rab r) | none => true) = ((X.rp.list.drop i).all fun r => match r with | some r => likeR (X.own.map BSl.bs) (rab r) | none => true) ∧ St W0 (cells q (.int .i64 X.n :: .int .i64 X.rep :: .pointer (some ⟨X.t, 0, none⟩) :: .int .i64 X.m.kind :: .int .i64 X.m.dot.rep :: .int .i64 X.m.dot.n :: .int .i64 X.m.bal.1 :: .int .i64 X.m.bal.2 :: X.m.cmd.v :: .int .i64 X.m.seq :: .int .i64 X.m.deps.x0 :: .int .i64 X.m.deps.x1 :: .int .i64 X.m.deps.x2 :: .int .i64 X.m.deps.x3 :: .int .i64 X.m.deps.x4 :: .int .i64 X.m.deps.x5 :: .int .i64 X.m.deps.x6 :: .int .i64 X.phase :: .bool X.fast :: .bool X.apart :: .pointer (pa X.rp.x0) :: .pointer (pa X.rp.x1) :: .pointer (pa X.rp.x2) :: .pointer (pa X.rp.x3) :: .pointer (pa X.rp.x4) :: .pointer (pa X.rp.x5) :: .pointer (pa X.rp.x6) :: .int .i64 X.own.st :: X.own.cmd.v :: .int .i64 X.own.seq :: .int .i64 X.own.deps.x0 :: .int .i64 X.own.deps.x1 :: .int .i64 X.own.deps.x2 :: .int .i64 X.own.deps.x3 :: .int .i64 X.own.deps.x4 :: .int .i64 X.own.deps.x5 :: .int .i64 X.own.deps.x6 :: .int .i64 X.own.bal.1 :: .int .i64 X.own.bal.2 :: .int .i64 X.own.ab.1 :: .int .i64 X.own.ab.2 :: []) T_lead_Lead :: many oc X.rp.list :: many fch X.B :: L') W1) () rfl ⟨rfl, h⟩ ?_
 clear h
 rintro K i _ W2 hi ⟨hf, h⟩ hK
 simp -implicitDefEqProofs only [SE, SU, SV]
 delta S.lead_Lead_alike.l1 oK oA rD lD eF eU sT cL vC gD gX gP gA gR gL gE gU gC gV hL sB nI
 have ew : IntKind.i64.wrap ((i : Int) + 1) = ((i + 1 : Nat) : Int) := by rw [i64w]; omega
 by_cases hlt : (i : Int) < 7
 ·have hlt7 : i < 7 := by omega
  have e := idxVp (rp := X.rp) (i := i) hlt7
  have h7 := list7_at X.rp hlt7
  rw [list7_drop X.rp hlt7, List.all_cons] at hf
  (repeat simp -implicitDefEqProofs only [SE, SU, SV, hlt])
  refine joinK_i ?_
  cases hg : X.rp.get i with
  | none =>
   rw [hg] at e hf
   (repeat simp -implicitDefEqProofs only [SE, SU, SV, e])
   delta S.lead_Lead_alike.j1 oK oA rD lD eF eU sT cL vC gD gX gP gA gR gL gE gU gC gV hL sB nI
   (repeat simp -implicitDefEqProofs only [SE, SU, SV, ew])
   exact hK () _ (by omega) ⟨by simpa using hf, h⟩
  | some p =>
   rw [hg] at e hf h7
   have h1 : St W0 (cells p.1 [.int .i64 p.2.st, p.2.cmd.v, .int .i64 p.2.seq, .int .i64 p.2.deps.x0, .int .i64 p.2.deps.x1, .int .i64 p.2.deps.x2, .int .i64 p.2.deps.x3, .int .i64 p.2.deps.x4, .int .i64 p.2.deps.x5, .int .i64 p.2.deps.x6, .int .i64 p.2.bal.1, .int .i64 p.2.bal.2, .int .i64 p.2.ab.1, .int .i64 p.2.ab.2] T_inst_Rec :: many oc (X.rp.list.take i ++ X.rp.list.drop (i + 1)) :: cells q (.int .i64 X.n :: .int .i64 X.rep :: .pointer (some ⟨X.t, 0, none⟩) :: .int .i64 X.m.kind :: .int .i64 X.m.dot.rep :: .int .i64 X.m.dot.n :: .int .i64 X.m.bal.1 :: .int .i64 X.m.bal.2 :: X.m.cmd.v :: .int .i64 X.m.seq :: .int .i64 X.m.deps.x0 :: .int .i64 X.m.deps.x1 :: .int .i64 X.m.deps.x2 :: .int .i64 X.m.deps.x3 :: .int .i64 X.m.deps.x4 :: .int .i64 X.m.deps.x5 :: .int .i64 X.m.deps.x6 :: .int .i64 X.phase :: .bool X.fast :: .bool X.apart :: .pointer (pa X.rp.x0) :: .pointer (pa X.rp.x1) :: .pointer (pa X.rp.x2) :: .pointer (pa X.rp.x3) :: .pointer (pa X.rp.x4) :: .pointer (pa X.rp.x5) :: .pointer (pa X.rp.x6) :: .int .i64 X.own.st :: X.own.cmd.v :: .int .i64 X.own.seq :: .int .i64 X.own.deps.x0 :: .int .i64 X.own.deps.x1 :: .int .i64 X.own.deps.x2 :: .int .i64 X.own.deps.x3 :: .int .i64 X.own.deps.x4 :: .int .i64 X.own.deps.x5 :: .int .i64 X.own.deps.x6 :: .int .i64 X.own.bal.1 :: .int .i64 X.own.bal.2 :: .int .i64 X.own.ab.1 :: .int .i64 X.own.ab.2 :: []) T_lead_Lead :: many fch X.B :: L') W2 := by
    rw [h7] at h
    exact (h.ent (ent.swap _ _ _)).ent (oc_open _ _ _)
   have hcl : ∀ W', St W0 (cells p.1 [.int .i64 p.2.st, p.2.cmd.v, .int .i64 p.2.seq, .int .i64 p.2.deps.x0, .int .i64 p.2.deps.x1, .int .i64 p.2.deps.x2, .int .i64 p.2.deps.x3, .int .i64 p.2.deps.x4, .int .i64 p.2.deps.x5, .int .i64 p.2.deps.x6, .int .i64 p.2.bal.1, .int .i64 p.2.bal.2, .int .i64 p.2.ab.1, .int .i64 p.2.ab.2] T_inst_Rec :: many oc (X.rp.list.take i ++ X.rp.list.drop (i + 1)) :: cells q (.int .i64 X.n :: .int .i64 X.rep :: .pointer (some ⟨X.t, 0, none⟩) :: .int .i64 X.m.kind :: .int .i64 X.m.dot.rep :: .int .i64 X.m.dot.n :: .int .i64 X.m.bal.1 :: .int .i64 X.m.bal.2 :: X.m.cmd.v :: .int .i64 X.m.seq :: .int .i64 X.m.deps.x0 :: .int .i64 X.m.deps.x1 :: .int .i64 X.m.deps.x2 :: .int .i64 X.m.deps.x3 :: .int .i64 X.m.deps.x4 :: .int .i64 X.m.deps.x5 :: .int .i64 X.m.deps.x6 :: .int .i64 X.phase :: .bool X.fast :: .bool X.apart :: .pointer (pa X.rp.x0) :: .pointer (pa X.rp.x1) :: .pointer (pa X.rp.x2) :: .pointer (pa X.rp.x3) :: .pointer (pa X.rp.x4) :: .pointer (pa X.rp.x5) :: .pointer (pa X.rp.x6) :: .int .i64 X.own.st :: X.own.cmd.v :: .int .i64 X.own.seq :: .int .i64 X.own.deps.x0 :: .int .i64 X.own.deps.x1 :: .int .i64 X.own.deps.x2 :: .int .i64 X.own.deps.x3 :: .int .i64 X.own.deps.x4 :: .int .i64 X.own.deps.x5 :: .int .i64 X.own.deps.x6 :: .int .i64 X.own.bal.1 :: .int .i64 X.own.bal.2 :: .int .i64 X.own.ab.1 :: .int .i64 X.own.ab.2 :: []) T_lead_Lead :: many fch X.B :: L') W' → St W0 (cells q (.int .i64 X.n :: .int .i64 X.rep :: .pointer (some ⟨X.t, 0, none⟩) :: .int .i64 X.m.kind :: .int .i64 X.m.dot.rep :: .int .i64 X.m.dot.n :: .int .i64 X.m.bal.1 :: .int .i64 X.m.bal.2 :: X.m.cmd.v :: .int .i64 X.m.seq :: .int .i64 X.m.deps.x0 :: .int .i64 X.m.deps.x1 :: .int .i64 X.m.deps.x2 :: .int .i64 X.m.deps.x3 :: .int .i64 X.m.deps.x4 :: .int .i64 X.m.deps.x5 :: .int .i64 X.m.deps.x6 :: .int .i64 X.phase :: .bool X.fast :: .bool X.apart :: .pointer (pa X.rp.x0) :: .pointer (pa X.rp.x1) :: .pointer (pa X.rp.x2) :: .pointer (pa X.rp.x3) :: .pointer (pa X.rp.x4) :: .pointer (pa X.rp.x5) :: .pointer (pa X.rp.x6) :: .int .i64 X.own.st :: X.own.cmd.v :: .int .i64 X.own.seq :: .int .i64 X.own.deps.x0 :: .int .i64 X.own.deps.x1 :: .int .i64 X.own.deps.x2 :: .int .i64 X.own.deps.x3 :: .int .i64 X.own.deps.x4 :: .int .i64 X.own.deps.x5 :: .int .i64 X.own.deps.x6 :: .int .i64 X.own.bal.1 :: .int .i64 X.own.bal.2 :: .int .i64 X.own.ab.1 :: .int .i64 X.own.ab.2 :: []) T_lead_Lead :: many oc X.rp.list :: many fch X.B :: L') W' := by
    intro W' h
    have := (h.ent (oc_shut _ _ _)).ent (ent.swap _ _ _)
    rw [← h7] at this
    exact this
   clear h
   simp only at hf
   have hno : likeR (X.own.map BSl.bs) (rab p) = false → ∀ W', St W0 (cells p.1 [.int .i64 p.2.st, p.2.cmd.v, .int .i64 p.2.seq, .int .i64 p.2.deps.x0, .int .i64 p.2.deps.x1, .int .i64 p.2.deps.x2, .int .i64 p.2.deps.x3, .int .i64 p.2.deps.x4, .int .i64 p.2.deps.x5, .int .i64 p.2.deps.x6, .int .i64 p.2.bal.1, .int .i64 p.2.bal.2, .int .i64 p.2.ab.1, .int .i64 p.2.ab.2] T_inst_Rec :: many oc (X.rp.list.take i ++ X.rp.list.drop (i + 1)) :: cells q (.int .i64 X.n :: .int .i64 X.rep :: .pointer (some ⟨X.t, 0, none⟩) :: .int .i64 X.m.kind :: .int .i64 X.m.dot.rep :: .int .i64 X.m.dot.n :: .int .i64 X.m.bal.1 :: .int .i64 X.m.bal.2 :: X.m.cmd.v :: .int .i64 X.m.seq :: .int .i64 X.m.deps.x0 :: .int .i64 X.m.deps.x1 :: .int .i64 X.m.deps.x2 :: .int .i64 X.m.deps.x3 :: .int .i64 X.m.deps.x4 :: .int .i64 X.m.deps.x5 :: .int .i64 X.m.deps.x6 :: .int .i64 X.phase :: .bool X.fast :: .bool X.apart :: .pointer (pa X.rp.x0) :: .pointer (pa X.rp.x1) :: .pointer (pa X.rp.x2) :: .pointer (pa X.rp.x3) :: .pointer (pa X.rp.x4) :: .pointer (pa X.rp.x5) :: .pointer (pa X.rp.x6) :: .int .i64 X.own.st :: X.own.cmd.v :: .int .i64 X.own.seq :: .int .i64 X.own.deps.x0 :: .int .i64 X.own.deps.x1 :: .int .i64 X.own.deps.x2 :: .int .i64 X.own.deps.x3 :: .int .i64 X.own.deps.x4 :: .int .i64 X.own.deps.x5 :: .int .i64 X.own.deps.x6 :: .int .i64 X.own.bal.1 :: .int .i64 X.own.bal.2 :: .int .i64 X.own.ab.1 :: .int .i64 X.own.ab.2 :: []) T_lead_Lead :: many fch X.B :: L') W' → k (.bool false) W' := by
    intro e W' h
    rw [hf, e, Bool.false_and] at hk
    exact hk W' ((hcl W' h).ent (ldc_ent hX))
   have hl : likeR (X.own.map BSl.bs) (rab p) = (decide (p.2.st = 1) && decide (p.2.ab.1 = 0) && decide (p.2.seq = X.own.seq) && decide (p.2.deps = X.own.deps)) := rfl
   have ed : (decide (p.2.deps.x0 = X.own.deps.x0) && (decide (p.2.deps.x1 = X.own.deps.x1) && (decide (p.2.deps.x2 = X.own.deps.x2) && (decide (p.2.deps.x3 = X.own.deps.x3) && (decide (p.2.deps.x4 = X.own.deps.x4) && (decide (p.2.deps.x5 = X.own.deps.x5) && decide (p.2.deps.x6 = X.own.deps.x6))))))) = decide (p.2.deps = X.own.deps) := by
    generalize p.2.deps = u
    generalize X.own.deps = v
    rw [Bool.eq_iff_iff]; cases u; cases v; simp
   by_cases c1 : p.2.st = 1
   ·have f1 := decide_eq_true c1
    by_cases c2 : p.2.ab.1 = 0
    ·have f2 := decide_eq_true c2
     by_cases c3 : p.2.seq = X.own.seq
     ·have f3 := decide_eq_true c3
      by_cases c4 : p.2.deps = X.own.deps
      ·have f4 := decide_eq_true c4
       rw [f4] at ed
       (repeat (first | ((with_reducible first | refine v5 ?_ | refine vn ?_); refine ⟨_, rfl, ?_⟩) | simp -implicitDefEqProofs only [SE, SU, SV, e, f1, f2, f3, ed]))
       delta S.lead_Lead_alike.j1 oK oA rD lD eF eU sT cL vC gD gX gP gA gR gL gE gU gC gV hL sB nI
       (repeat simp -implicitDefEqProofs only [SE, SU, SV, ew])
       refine hK () _ (by omega) ⟨?_, hcl _ (by exact St.tick (by assumption))⟩
       rw [hf, hl, f1, f2, f3, f4]; rfl
      ·have f4 := decide_eq_false c4
       rw [f4] at ed
       (repeat (first | ((with_reducible first | refine v5 ?_ | refine vn ?_); refine ⟨_, rfl, ?_⟩) | simp -implicitDefEqProofs only [SE, SU, SV, e, f1, f2, f3, ed]))
       exact hno (by rw [hl, f4]; simp) _ (by exact St.tick (by assumption))
     ·have f3 := decide_eq_false c3
      (repeat (first | ((with_reducible refine v5 ?_); refine ⟨_, rfl, ?_⟩) | simp -implicitDefEqProofs only [SE, SU, SV, e, f1, f2, f3]))
      exact hno (by rw [hl, f3]; simp) _ (by exact St.tick (by assumption))
    ·have f2 := decide_eq_false c2
     (repeat (first | ((with_reducible refine v5 ?_); refine ⟨_, rfl, ?_⟩) | simp -implicitDefEqProofs only [SE, SU, SV, e, f1, f2]))
     exact hno (by rw [hl, f2]; simp) _ (by exact St.tick (by assumption))
   ·have f1 := decide_eq_false c1
    (repeat (first | ((with_reducible refine v5 ?_); refine ⟨_, rfl, ?_⟩) | simp -implicitDefEqProofs only [SE, SU, SV, e, f1]))
    exact hno (by rw [hl, f1]; simp) _ (by exact St.tick (by assumption))
 ·have : i = 7 := by omega
  subst this
  (repeat simp -implicitDefEqProofs only [SE, SU, SV, hlt])
  rw [hf] at hk
  exact hk W2 (h.ent (ldc_ent hX))
end
end Go.Proofs.YtfhacbhgmnhmlaaGreat
namespace Go.Proofs.YtfhacbhgmnhmlaaGreat
set_option linter.unusedVariables false
set_option linter.unusedSimpArgs false
open Go Go.Eng
section
variable {W0 W : World} {L L' L1 : List Asn} {q : Nat} {X : LX}
theorem leadPhase {k : Value → World → Prop} (h : St W0 L W) [ht : Tk (ldc q) L X L'] (hk : ∀ W', St W0 (ldc q X :: L') W' → k (.int .i64 X.phase) W') : callK PR F_lead_Lead_Phase [.pointer (some ⟨q, 0, none⟩)] k W := by
 apply S.lead_Lead_Phase.call
 delta S.lead_Lead_Phase.body oK oA rD lD eF eU sT cL vC gD gX gP gA gR gL gE gU gC gV hL sB nI
 obtain ⟨hX, h⟩ := ldc_at (h.perm ht.perm)
 (repeat (first | ((with_reducible refine v5 ?_); refine ⟨_, rfl, ?_⟩) | simp -implicitDefEqProofs only [SE, SU, SV]))
 exact hk _ (St.ent (by assumption) (ldc_ent hX))
abbrev msgZX : Msg BSl := ⟨0, ⟨0, 0⟩, (0, 0), nilS, 0, P7.all 0⟩
theorem leadMsg {k : Value → World → Prop} (h : St W0 L W) [ht : Tk (ldc q) L X L']
  (hk : ∀ (x : Msg BSl) W', x.map BSl.bs = X.abs.msg → x.cmd.bs.length < 1099511627776 → St W0 (fch x.cmd :: ldc q X :: L') W' → k (.agg #[.int .i64 x.kind, .int .i64 x.dot.rep, .int .i64 x.dot.n, .int .i64 x.bal.1, .int .i64 x.bal.2, x.cmd.v, .int .i64 x.seq, .int .i64 x.deps.x0, .int .i64 x.deps.x1, .int .i64 x.deps.x2, .int .i64 x.deps.x3, .int .i64 x.deps.x4, .int .i64 x.deps.x5, .int .i64 x.deps.x6]) W') : callK PR F_lead_Lead_Msg [.pointer (some ⟨q, 0, none⟩)] k W := by
 apply S.lead_Lead_Msg.call
 delta S.lead_Lead_Msg.body oK oA rD lD eF eU sT cL vC gD gX gP gA gR gL gE gU gC gV hL sB nI
 obtain ⟨hX, h⟩ := ldc_at (h.perm ht.perm)
 have hml := hX.m.len hX.len
 refine al h fun b W1 h => ?_
 by_cases h5 : X.phase = 5
 ·have f5 := decide_eq_true h5
  (repeat (first | ((with_reducible refine v5 ?_); refine ⟨_, rfl, ?_⟩) | ((with_reducible refine v12 ?_ ?_); exact rfl; intros) | ((with_reducible refine w5 ?_ ?_); simp; refine ⟨_, rfl, ?_⟩) | ((with_reducible refine w12 ?_ ?_ ?_ ?_); simp; simp; simp [oneC]; intros) | (refine okF_i (bldP_eq rfl) ?_; try simp only [BLS, SB, Nat.reduceAdd]) | simp -implicitDefEqProofs only [SE, SU, SV, f5]))
  exact hk msgZX _ (by unfold LD.msg; rw [if_pos (show X.abs.phase = 5 from h5)]; rfl) (by simp) ((St.drop (by assumption)).ent ((ldc_ent hX).trans (fch0 _)))
 ·have f5 := decide_eq_false h5
  (repeat (first | ((with_reducible refine w11 ?_); intros) | ((with_reducible refine v5 ?_); refine ⟨_, rfl, ?_⟩) | ((with_reducible refine v12 ?_ ?_); exact rfl; intros) | ((with_reducible refine w5 ?_ ?_); simp; refine ⟨_, rfl, ?_⟩) | ((with_reducible refine w12 ?_ ?_ ?_ ?_); simp; simp; simp [oneC]; intros) | simp -implicitDefEqProofs only [SE, SU, SV, f5]))
  haveI : Rd W0 (many fch X.B :: L') X.m.cmd.a B8 X.m.cmd.bs := rdMany hX.m
  refine bytesClone (a := X.m.cmd.a) (l := X.m.cmd.bs) (by assumption) (by omega) fun ca cc W2 h => ?_
  (repeat (first | ((with_reducible refine v5 ?_); refine ⟨_, rfl, ?_⟩) | ((with_reducible refine v12 ?_ ?_); exact rfl; intros) | ((with_reducible refine w5 ?_ ?_); simp; refine ⟨_, rfl, ?_⟩) | ((with_reducible refine w12 ?_ ?_ ?_ ?_); simp; simp; simp [oneC]; intros) | simp -implicitDefEqProofs only [SE, SU, SV]))
  refine hk { X.m with cmd := ⟨ca, cc, X.m.cmd.bs⟩ } _ (by unfold LD.msg; rw [if_neg (show ¬ X.abs.phase = 5 from h5)]; rfl) hml ?_
  exact (St.wk (L' := fch ⟨ca, cc, X.m.cmd.bs⟩ :: cells q (.int .i64 X.n :: .int .i64 X.rep :: .pointer (some ⟨X.t, 0, none⟩) :: .int .i64 X.m.kind :: .int .i64 X.m.dot.rep :: .int .i64 X.m.dot.n :: .int .i64 X.m.bal.1 :: .int .i64 X.m.bal.2 :: X.m.cmd.v :: .int .i64 X.m.seq :: .int .i64 X.m.deps.x0 :: .int .i64 X.m.deps.x1 :: .int .i64 X.m.deps.x2 :: .int .i64 X.m.deps.x3 :: .int .i64 X.m.deps.x4 :: .int .i64 X.m.deps.x5 :: .int .i64 X.m.deps.x6 :: .int .i64 X.phase :: .bool X.fast :: .bool X.apart :: .pointer (pa X.rp.x0) :: .pointer (pa X.rp.x1) :: .pointer (pa X.rp.x2) :: .pointer (pa X.rp.x3) :: .pointer (pa X.rp.x4) :: .pointer (pa X.rp.x5) :: .pointer (pa X.rp.x6) :: .int .i64 X.own.st :: X.own.cmd.v :: .int .i64 X.own.seq :: .int .i64 X.own.deps.x0 :: .int .i64 X.own.deps.x1 :: .int .i64 X.own.deps.x2 :: .int .i64 X.own.deps.x3 :: .int .i64 X.own.deps.x4 :: .int .i64 X.own.deps.x5 :: .int .i64 X.own.deps.x6 :: .int .i64 X.own.bal.1 :: .int .i64 X.own.bal.2 :: .int .i64 X.own.ab.1 :: .int .i64 X.own.ab.2 :: []) T_lead_Lead :: many oc X.rp.list :: many fch X.B :: L') (by assumption)).ent (ent.cons _ (ldc_ent hX))
instance leadGood (n r : Int) : Pure0 PR F_lead_good [.int .i64 n, .int .i64 r] (.bool (goodL n r)) := ⟨fun W => by
 apply S.lead_good.call
 delta S.lead_good.body oK oA rD lD eF eU sT cL vC gD gX gP gA gR gL gE gU gC gV hL sB nI
 have h := St.start W
 (repeat' (first | (first | ((with_reducible first | refine w1 ?_ | refine w3 ?_ | refine w4 ?_ | refine w11 ?_ | refine stb_n ?_); intros) | ((with_reducible first | refine v5 ?_ | refine v6 ?_ | refine v7 ?_ | refine ve ?_ | refine vn ?_); refine ⟨_, rfl, ?_⟩) | ((with_reducible first | refine v8 ?_ ?_ | refine v9 ?_ ?_ | refine v10 ?_ ?_ | refine v12 ?_ ?_); exact rfl; intros) | ((with_reducible refine w2 ?_); try simp -implicitDefEqProofs only [SE, SU, SV]; intros) | ((with_reducible refine w5 ?_ ?_); simp; refine ⟨_, rfl, ?_⟩) | ((with_reducible refine w8 ?_ ?_ ?_); exact rfl; simp; intros) | ((with_reducible refine w12 ?_ ?_ ?_ ?_); simp; simp; simp [oneC]; intros) | (refine okF_i (bldP_eq rfl) ?_; try simp only [BLS, SB, Nat.reduceAdd])) | simp -implicitDefEqProofs only [SE, SU, SV] | ((first | refine ifK_b (fun hb => ?_) (fun hb => ?_) | refine gdK_b (fun hb => ?_) (fun hb => ?_)) <;> (try simp only [Bool.not_eq_true', Bool.not_eq_false'] at hb) <;> (try rw [hb]) <;> (first | replace hb := of_decide_eq_true hb | replace hb := of_decide_eq_false hb | (simp only [Bool.and_eq_true, Bool.and_eq_false_iff, Bool.or_eq_true, Bool.or_eq_false_iff, decide_eq_true_eq, decide_eq_false_iff_not, Bool.not_eq_true', Bool.not_eq_false'] at hb) | skip))))
 all_goals (refine ⟨?_, St.nil (by assumption)⟩; congr 1; unfold goodL; (first | rfl | (rw [decide_eq_decide]; omega) | (symm; rw [decide_eq_true_eq]; omega) | (symm; rw [decide_eq_false_iff_not]; omega) | (simp; omega)))⟩
theorem leadAccept {T : Tbl} {k : Value → World → Prop} (h : St W0 L W) [ht : Tk (ldc q) L X L1] [ht2 : Tk (tb X.t) L1 T L']
  (hk : ∀ (X' : LX) W', X'.t = X.t → X'.abs = (X.abs.accept T).1 → St W0 (ldc q X' :: tb X.t (X.abs.accept T).2 :: L') W' → k (.tuple #[]) W') : callK PR F_lead_Lead_accept [.pointer (some ⟨q, 0, none⟩)] k W := by
 apply S.lead_Lead_accept.call
 delta S.lead_Lead_accept.body oK oA rD lD eF eU sT cL vC gD gX gP gA gR gL gE gU gC gV hL sB nI
 obtain ⟨hX, h⟩ := ldc_at (h.perm ht.perm)
 have hacc : X.abs.accept T = X.abs.begin T 2 ((X.rp.list.map (Option.map rab)).foldl accStep { X.m.map BSl.bs with kind := 2 }) := rfl
 rw [hacc] at hk
 clear hacc
 (repeat (first | ((with_reducible refine w11 ?_); intros) | ((with_reducible refine v5 ?_); refine ⟨_, rfl, ?_⟩) | ((with_reducible refine v12 ?_ ?_); exact rfl; intros) | ((with_reducible refine w12 ?_ ?_ ?_ ?_); simp; simp; simp [oneC]; intros) | simp -implicitDefEqProofs only [SE, SU, SV]))
 rename_i mb _ _ _ _ W3 h
 (try simp only [BLS, SB, stL_a, stL_b, stL_c, lsub_a, lsub_b, lsub_c, List.append_nil, List.take_nil, List.drop_nil, Nat.reduceAdd] at h)
 refine joinK_i ?_
 (repeat (first | ((with_reducible refine v5 ?_); refine ⟨_, rfl, ?_⟩) | simp -implicitDefEqProofs only [SE, SU, SV]))
 refine loop_c (σ := Int × P7 Int) 7 (fun i _ => [.pointer (some ⟨q, 0, none⟩), .pointer (some ⟨mb, 0, none⟩), .agg #[.pointer (pa X.rp.x0), .pointer (pa X.rp.x1), .pointer (pa X.rp.x2), .pointer (pa X.rp.x3), .pointer (pa X.rp.x4), .pointer (pa X.rp.x5), .pointer (pa X.rp.x6)], .int .i64 i])
  (fun i s W1 => ((X.rp.list.take i).map (Option.map rab)).foldl accStep { X.m.map BSl.bs with kind := 2 } = { X.m.map BSl.bs with kind := 2, seq := s.1, deps := s.2 } ∧
   St W0 (cells mb [.int .i64 ({ X.m with kind := 2, seq := s.1, deps := s.2 }).kind, .int .i64 (({ X.m with kind := 2, seq := s.1, deps := s.2 }).dot).rep, .int .i64 (({ X.m with kind := 2, seq := s.1, deps := s.2 }).dot).n, .int .i64 (({ X.m with kind := 2, seq := s.1, deps := s.2 }).bal).1, .int .i64 (({ X.m with kind := 2, seq := s.1, deps := s.2 }).bal).2, ({ X.m with kind := 2, seq := s.1, deps := s.2 }).cmd.v, .int .i64 ({ X.m with kind := 2, seq := s.1, deps := s.2 }).seq, .int .i64 (({ X.m with kind := 2, seq := s.1, deps := s.2 }).deps).x0, .int .i64 (({ X.m with kind := 2, seq := s.1, deps := s.2 }).deps).x1, .int .i64 (({ X.m with kind := 2, seq := s.1, deps := s.2 }).deps).x2, .int .i64 (({ X.m with kind := 2, seq := s.1, deps := s.2 }).deps).x3, .int .i64 (({ X.m with kind := 2, seq := s.1, deps := s.2 }).deps).x4, .int .i64 (({ X.m with kind := 2, seq := s.1, deps := s.2 }).deps).x5, .int .i64 (({ X.m with kind := 2, seq := s.1, deps := s.2 }).deps).x6] T_inst_Msg :: cells q (.int .i64 X.n :: .int .i64 X.rep :: .pointer (some ⟨X.t, 0, none⟩) :: .int .i64 X.m.kind :: .int .i64 X.m.dot.rep :: .int .i64 X.m.dot.n :: .int .i64 X.m.bal.1 :: .int .i64 X.m.bal.2 :: X.m.cmd.v :: .int .i64 X.m.seq :: .int .i64 X.m.deps.x0 :: .int .i64 X.m.deps.x1 :: .int .i64 X.m.deps.x2 :: .int .i64 X.m.deps.x3 :: .int .i64 X.m.deps.x4 :: .int .i64 X.m.deps.x5 :: .int .i64 X.m.deps.x6 :: .int .i64 X.phase :: .bool X.fast :: .bool X.apart :: .pointer (pa X.rp.x0) :: .pointer (pa X.rp.x1) :: .pointer (pa X.rp.x2) :: .pointer (pa X.rp.x3) :: .pointer (pa X.rp.x4) :: .pointer (pa X.rp.x5) :: .pointer (pa X.rp.x6) :: .int .i64 X.own.st :: X.own.cmd.v :: .int .i64 X.own.seq :: .int .i64 X.own.deps.x0 :: .int .i64 X.own.deps.x1 :: .int .i64 X.own.deps.x2 :: .int .i64 X.own.deps.x3 :: .int .i64 X.own.deps.x4 :: .int .i64 X.own.deps.x5 :: .int .i64 X.own.deps.x6 :: .int .i64 X.own.bal.1 :: .int .i64 X.own.bal.2 :: .int .i64 X.own.ab.1 :: .int .i64 X.own.ab.2 :: []) T_lead_Lead :: many oc X.rp.list :: many fch X.B :: L1) W1) (X.m.seq, X.m.deps) rfl ⟨rfl, h⟩ ?_
 clear h
 rintro K i s W2 hi ⟨hf, h⟩ hK
 simp -implicitDefEqProofs only [SE, SU, SV]
 delta S.lead_Lead_accept.l1 oK oA rD lD eF eU sT cL vC gD gX gP gA gR gL gE gU gC gV hL sB nI
 have ew : IntKind.i64.wrap ((i : Int) + 1) = ((i + 1 : Nat) : Int) := by rw [i64w]; omega
 by_cases hlt : (i : Int) < 7
 ·have hlt7 : i < 7 := by omega
  have e := idxVp (rp := X.rp) (i := i) hlt7
  have h7 := list7_at X.rp hlt7
  have hs : ((X.rp.list.take (i + 1)).map (Option.map rab)).foldl accStep { X.m.map BSl.bs with kind := 2 } = accStep { X.m.map BSl.bs with kind := 2, seq := s.1, deps := s.2 } ((X.rp.get i).map rab) := by
   rw [List.take_add_one, P7.list_get _ hlt7, List.map_append, List.foldl_append, hf]; rfl
  (repeat simp -implicitDefEqProofs only [SE, SU, SV, hlt])
  refine joinK_i ?_
  cases hg : X.rp.get i with
  | none =>
   rw [hg] at e hs
   (repeat simp -implicitDefEqProofs only [SE, SU, SV, e])
   delta S.lead_Lead_accept.j2 oK oA rD lD eF eU sT cL vC gD gX gP gA gR gL gE gU gC gV hL sB nI
   (repeat simp -implicitDefEqProofs only [SE, SU, SV, ew])
   exact hK s _ (by omega) ⟨hs, (by assumption)⟩
  | some p =>
   rw [hg] at e h7 hs
   have h1 : St W0 (cells p.1 [.int .i64 p.2.st, p.2.cmd.v, .int .i64 p.2.seq, .int .i64 p.2.deps.x0, .int .i64 p.2.deps.x1, .int .i64 p.2.deps.x2, .int .i64 p.2.deps.x3, .int .i64 p.2.deps.x4, .int .i64 p.2.deps.x5, .int .i64 p.2.deps.x6, .int .i64 p.2.bal.1, .int .i64 p.2.bal.2, .int .i64 p.2.ab.1, .int .i64 p.2.ab.2] T_inst_Rec :: many oc (X.rp.list.take i ++ X.rp.list.drop (i + 1)) :: cells mb [.int .i64 ({ X.m with kind := 2, seq := s.1, deps := s.2 }).kind, .int .i64 (({ X.m with kind := 2, seq := s.1, deps := s.2 }).dot).rep, .int .i64 (({ X.m with kind := 2, seq := s.1, deps := s.2 }).dot).n, .int .i64 (({ X.m with kind := 2, seq := s.1, deps := s.2 }).bal).1, .int .i64 (({ X.m with kind := 2, seq := s.1, deps := s.2 }).bal).2, ({ X.m with kind := 2, seq := s.1, deps := s.2 }).cmd.v, .int .i64 ({ X.m with kind := 2, seq := s.1, deps := s.2 }).seq, .int .i64 (({ X.m with kind := 2, seq := s.1, deps := s.2 }).deps).x0, .int .i64 (({ X.m with kind := 2, seq := s.1, deps := s.2 }).deps).x1, .int .i64 (({ X.m with kind := 2, seq := s.1, deps := s.2 }).deps).x2, .int .i64 (({ X.m with kind := 2, seq := s.1, deps := s.2 }).deps).x3, .int .i64 (({ X.m with kind := 2, seq := s.1, deps := s.2 }).deps).x4, .int .i64 (({ X.m with kind := 2, seq := s.1, deps := s.2 }).deps).x5, .int .i64 (({ X.m with kind := 2, seq := s.1, deps := s.2 }).deps).x6] T_inst_Msg :: cells q (.int .i64 X.n :: .int .i64 X.rep :: .pointer (some ⟨X.t, 0, none⟩) :: .int .i64 X.m.kind :: .int .i64 X.m.dot.rep :: .int .i64 X.m.dot.n :: .int .i64 X.m.bal.1 :: .int .i64 X.m.bal.2 :: X.m.cmd.v :: .int .i64 X.m.seq :: .int .i64 X.m.deps.x0 :: .int .i64 X.m.deps.x1 :: .int .i64 X.m.deps.x2 :: .int .i64 X.m.deps.x3 :: .int .i64 X.m.deps.x4 :: .int .i64 X.m.deps.x5 :: .int .i64 X.m.deps.x6 :: .int .i64 X.phase :: .bool X.fast :: .bool X.apart :: .pointer (pa X.rp.x0) :: .pointer (pa X.rp.x1) :: .pointer (pa X.rp.x2) :: .pointer (pa X.rp.x3) :: .pointer (pa X.rp.x4) :: .pointer (pa X.rp.x5) :: .pointer (pa X.rp.x6) :: .int .i64 X.own.st :: X.own.cmd.v :: .int .i64 X.own.seq :: .int .i64 X.own.deps.x0 :: .int .i64 X.own.deps.x1 :: .int .i64 X.own.deps.x2 :: .int .i64 X.own.deps.x3 :: .int .i64 X.own.deps.x4 :: .int .i64 X.own.deps.x5 :: .int .i64 X.own.deps.x6 :: .int .i64 X.own.bal.1 :: .int .i64 X.own.bal.2 :: .int .i64 X.own.ab.1 :: .int .i64 X.own.ab.2 :: []) T_lead_Lead :: many fch X.B :: L1) W2 := by
    rw [h7] at h
    exact (h.ent (ent.rot3' _ _ _ _)).ent (oc_open _ _ _)
   clear h
   (repeat (first | ((with_reducible refine v5 ?_); refine ⟨_, rfl, ?_⟩) | ((with_reducible refine v12 ?_ ?_); exact rfl; intros) | ((with_reducible refine w5 ?_ ?_); simp; refine ⟨_, rfl, ?_⟩) | simp -implicitDefEqProofs only [SE, SU, SV, e, max2m]))
   refine vecMerge (by exact St.tick (by assumption)) fun W4 h => ?_
   (repeat (first | ((with_reducible refine v12 ?_ ?_); exact rfl; intros) | ((with_reducible refine w12 ?_ ?_ ?_ ?_); simp; simp; simp [oneC]; intros)))
   delta S.lead_Lead_accept.j2 oK oA rD lD eF eU sT cL vC gD gX gP gA gR gL gE gU gC gV hL sB nI
   (repeat simp -implicitDefEqProofs only [SE, SU, SV, ew])
   rename_i h
   (try simp only [BLS, SB, stL_a, stL_b, stL_c, lsub_a, lsub_b, lsub_c, List.append_nil, List.take_nil, List.drop_nil, Nat.reduceAdd] at h)
   refine hK (imax s.1 p.2.seq, vmerge s.2 p.2.deps) _ (by omega) ⟨hs, ?_⟩
   have := ((St.wk (L' := cells p.1 [.int .i64 p.2.st, p.2.cmd.v, .int .i64 p.2.seq, .int .i64 p.2.deps.x0, .int .i64 p.2.deps.x1, .int .i64 p.2.deps.x2, .int .i64 p.2.deps.x3, .int .i64 p.2.deps.x4, .int .i64 p.2.deps.x5, .int .i64 p.2.deps.x6, .int .i64 p.2.bal.1, .int .i64 p.2.bal.2, .int .i64 p.2.ab.1, .int .i64 p.2.ab.2] T_inst_Rec :: many oc (X.rp.list.take i ++ X.rp.list.drop (i + 1)) :: cells mb [.int .i64 ({ X.m with kind := 2, seq := imax s.1 p.2.seq, deps := vmerge s.2 p.2.deps }).kind, .int .i64 (({ X.m with kind := 2, seq := imax s.1 p.2.seq, deps := vmerge s.2 p.2.deps }).dot).rep, .int .i64 (({ X.m with kind := 2, seq := imax s.1 p.2.seq, deps := vmerge s.2 p.2.deps }).dot).n, .int .i64 (({ X.m with kind := 2, seq := imax s.1 p.2.seq, deps := vmerge s.2 p.2.deps }).bal).1, .int .i64 (({ X.m with kind := 2, seq := imax s.1 p.2.seq, deps := vmerge s.2 p.2.deps }).bal).2, ({ X.m with kind := 2, seq := imax s.1 p.2.seq, deps := vmerge s.2 p.2.deps }).cmd.v, .int .i64 ({ X.m with kind := 2, seq := imax s.1 p.2.seq, deps := vmerge s.2 p.2.deps }).seq, .int .i64 (({ X.m with kind := 2, seq := imax s.1 p.2.seq, deps := vmerge s.2 p.2.deps }).deps).x0, .int .i64 (({ X.m with kind := 2, seq := imax s.1 p.2.seq, deps := vmerge s.2 p.2.deps }).deps).x1, .int .i64 (({ X.m with kind := 2, seq := imax s.1 p.2.seq, deps := vmerge s.2 p.2.deps }).deps).x2, .int .i64 (({ X.m with kind := 2, seq := imax s.1 p.2.seq, deps := vmerge s.2 p.2.deps }).deps).x3, .int .i64 (({ X.m with kind := 2, seq := imax s.1 p.2.seq, deps := vmerge s.2 p.2.deps }).deps).x4, .int .i64 (({ X.m with kind := 2, seq := imax s.1 p.2.seq, deps := vmerge s.2 p.2.deps }).deps).x5, .int .i64 (({ X.m with kind := 2, seq := imax s.1 p.2.seq, deps := vmerge s.2 p.2.deps }).deps).x6] T_inst_Msg :: cells q (.int .i64 X.n :: .int .i64 X.rep :: .pointer (some ⟨X.t, 0, none⟩) :: .int .i64 X.m.kind :: .int .i64 X.m.dot.rep :: .int .i64 X.m.dot.n :: .int .i64 X.m.bal.1 :: .int .i64 X.m.bal.2 :: X.m.cmd.v :: .int .i64 X.m.seq :: .int .i64 X.m.deps.x0 :: .int .i64 X.m.deps.x1 :: .int .i64 X.m.deps.x2 :: .int .i64 X.m.deps.x3 :: .int .i64 X.m.deps.x4 :: .int .i64 X.m.deps.x5 :: .int .i64 X.m.deps.x6 :: .int .i64 X.phase :: .bool X.fast :: .bool X.apart :: .pointer (pa X.rp.x0) :: .pointer (pa X.rp.x1) :: .pointer (pa X.rp.x2) :: .pointer (pa X.rp.x3) :: .pointer (pa X.rp.x4) :: .pointer (pa X.rp.x5) :: .pointer (pa X.rp.x6) :: .int .i64 X.own.st :: X.own.cmd.v :: .int .i64 X.own.seq :: .int .i64 X.own.deps.x0 :: .int .i64 X.own.deps.x1 :: .int .i64 X.own.deps.x2 :: .int .i64 X.own.deps.x3 :: .int .i64 X.own.deps.x4 :: .int .i64 X.own.deps.x5 :: .int .i64 X.own.deps.x6 :: .int .i64 X.own.bal.1 :: .int .i64 X.own.bal.2 :: .int .i64 X.own.ab.1 :: .int .i64 X.own.ab.2 :: []) T_lead_Lead :: many fch X.B :: L1) h).ent (oc_shut _ _ _)).ent (ent.rot3 _ _ _ _)
   rw [← h7] at this
   exact this
 ·have : i = 7 := by omega
  subst this
  (repeat simp -implicitDefEqProofs only [SE, SU, SV, hlt])
  delta S.lead_Lead_accept.j1 oK oA rD lD eF eU sT cL vC gD gX gP gA gR gL gE gU gC gV hL sB nI
  (repeat (first | ((with_reducible refine v5 ?_); refine ⟨_, rfl, ?_⟩) | simp -implicitDefEqProofs only [SE, SU, SV]))
  have h2 := (St.wk (L' := cells q (.int .i64 X.n :: .int .i64 X.rep :: .pointer (some ⟨X.t, 0, none⟩) :: .int .i64 X.m.kind :: .int .i64 X.m.dot.rep :: .int .i64 X.m.dot.n :: .int .i64 X.m.bal.1 :: .int .i64 X.m.bal.2 :: X.m.cmd.v :: .int .i64 X.m.seq :: .int .i64 X.m.deps.x0 :: .int .i64 X.m.deps.x1 :: .int .i64 X.m.deps.x2 :: .int .i64 X.m.deps.x3 :: .int .i64 X.m.deps.x4 :: .int .i64 X.m.deps.x5 :: .int .i64 X.m.deps.x6 :: .int .i64 X.phase :: .bool X.fast :: .bool X.apart :: .pointer (pa X.rp.x0) :: .pointer (pa X.rp.x1) :: .pointer (pa X.rp.x2) :: .pointer (pa X.rp.x3) :: .pointer (pa X.rp.x4) :: .pointer (pa X.rp.x5) :: .pointer (pa X.rp.x6) :: .int .i64 X.own.st :: X.own.cmd.v :: .int .i64 X.own.seq :: .int .i64 X.own.deps.x0 :: .int .i64 X.own.deps.x1 :: .int .i64 X.own.deps.x2 :: .int .i64 X.own.deps.x3 :: .int .i64 X.own.deps.x4 :: .int .i64 X.own.deps.x5 :: .int .i64 X.own.deps.x6 :: .int .i64 X.own.bal.1 :: .int .i64 X.own.bal.2 :: .int .i64 X.own.ab.1 :: .int .i64 X.own.ab.2 :: []) T_lead_Lead :: many oc X.rp.list :: many fch X.B :: L1) h).ent (ldc_ent hX)
  clear h
  rw [show (X.rp.list.take 7).map (Option.map rab) = X.rp.list.map (Option.map rab) from rfl] at hf
  rw [hf] at hk
  exact leadBegin (m := { X.m with kind := 2, seq := s.1, deps := s.2 }) h2 hX.m hk
theorem leadSlow {T : Tbl} {k : Value → World → Prop} (h : St W0 L W) [ht : Tk (ldc q) L X L1] [ht2 : Tk (tb X.t) L1 T L']
  (hk : ∀ (X' : LX) W', X'.t = X.t → X'.abs = (X.abs.slow T).1.1 → St W0 (ldc q X' :: tb X.t (X.abs.slow T).1.2 :: L') W' → k (.bool (X.abs.slow T).2) W') : callK PR F_lead_Lead_Slow [.pointer (some ⟨q, 0, none⟩)] k W := by
 apply S.lead_Lead_Slow.call
 delta S.lead_Lead_Slow.body oK oA rD lD eF eU sT cL vC gD gX gP gA gR gL gE gU gC gV hL sB nI
 obtain ⟨hX, h⟩ := ldc_at (h.perm ht.perm)
 by_cases h1 : X.phase = 1
 ·have f1 := decide_eq_true h1
  (repeat (first | ((with_reducible refine v5 ?_); refine ⟨_, rfl, ?_⟩) | simp -implicitDefEqProofs only [SE, SU, SV, f1]))
  refine leadMaj (X := X) (St.ent (by assumption) (ldc_ent hX)) fun W2 h => ?_
  cases hm : X.abs.maj with
  | false =>
   have e : X.abs.slow T = ((X.abs, T), false) := by unfold LD.slow; exact if_pos (.inr hm)
   rw [e] at hk
   (repeat simp -implicitDefEqProofs only [SE, SU, SV])
   exact hk X _ rfl rfl ((St.perm (by assumption) ((ht2.perm.cons _))))
  | true =>
   have e : X.abs.slow T = (X.abs.accept T, true) := by unfold LD.slow; exact if_neg (by rintro (h | h); exact h h1; rw [hm] at h; cases h)
   rw [e] at hk
   (repeat simp -implicitDefEqProofs only [SE, SU, SV])
   refine leadAccept (by assumption) fun X' W' e1 e2 h => ?_
   skip
   exact hk X' _ e1 e2 (by assumption)
 ·have f1 := decide_eq_false h1
  have e : X.abs.slow T = ((X.abs, T), false) := by unfold LD.slow; exact if_pos (.inl h1)
  rw [e] at hk
  (repeat (first | ((with_reducible refine v5 ?_); refine ⟨_, rfl, ?_⟩) | simp -implicitDefEqProofs only [SE, SU, SV, f1]))
  exact hk X _ rfl rfl (St.perm (St.ent (by assumption) (ldc_ent hX)) ((ht2.perm.cons _)))
theorem leadHeard {T : Tbl} {k : Value → World → Prop} (h : St W0 L W) [ht : Tk (ldc q) L X L1] [ht2 : Tk (tb X.t) L1 T L']
  (hk : ∀ (X' : LX) W', X'.t = X.t → X'.abs = (X.abs.heard T).1 → St W0 (ldc q X' :: tb X.t (X.abs.heard T).2 :: L') W' → k (.tuple #[]) W') : callK PR F_lead_Lead_heard [.pointer (some ⟨q, 0, none⟩)] k W := by
 apply S.lead_Lead_heard.call
 delta S.lead_Lead_heard.body oK oA rD lD eF eU sT cL vC gD gX gP gA gR gL gE gU gC gV hL sB nI
 obtain ⟨hX, h⟩ := ldc_at (h.perm ht.perm)
 (repeat (first | ((with_reducible refine v5 ?_); refine ⟨_, rfl, ?_⟩) | simp -implicitDefEqProofs only [SE, SU, SV]))
 refine leadCount (X := X) (St.ent (by exact St.tick (by assumption)) (ldc_ent hX)) fun W2 h => ?_
 clear hX
 obtain ⟨hX, h⟩ := ldc_at h
 by_cases c1 : X.abs.count = X.n ∧ X.apart = false ∧ X.m.bal.1 = 0
 ·have e : X.abs.heard T = X.abs.dec T X.abs.own true := by unfold LD.heard; exact if_pos c1
  rw [e] at hk
  obtain ⟨d1, d2, d3⟩ := c1
  have f1 := decide_eq_true d1
  have f3 := decide_eq_true d3
  rw [d2] at h
  (repeat (first | ((with_reducible refine stb_n ?_); intros) | ((with_reducible refine v5 ?_); refine ⟨_, rfl, ?_⟩) | ((with_reducible refine v8 ?_ ?_); exact rfl; intros) | simp -implicitDefEqProofs only [SE, SU, SV, f1, f3]))
  have h2 := St.ent (L := cells q (.int .i64 X.n :: .int .i64 X.rep :: .pointer (some ⟨X.t, 0, none⟩) :: .int .i64 X.m.kind :: .int .i64 X.m.dot.rep :: .int .i64 X.m.dot.n :: .int .i64 X.m.bal.1 :: .int .i64 X.m.bal.2 :: X.m.cmd.v :: .int .i64 X.m.seq :: .int .i64 X.m.deps.x0 :: .int .i64 X.m.deps.x1 :: .int .i64 X.m.deps.x2 :: .int .i64 X.m.deps.x3 :: .int .i64 X.m.deps.x4 :: .int .i64 X.m.deps.x5 :: .int .i64 X.m.deps.x6 :: .int .i64 X.phase :: .bool X.fast :: .bool X.apart :: .pointer (pa X.rp.x0) :: .pointer (pa X.rp.x1) :: .pointer (pa X.rp.x2) :: .pointer (pa X.rp.x3) :: .pointer (pa X.rp.x4) :: .pointer (pa X.rp.x5) :: .pointer (pa X.rp.x6) :: .int .i64 X.own.st :: X.own.cmd.v :: .int .i64 X.own.seq :: .int .i64 X.own.deps.x0 :: .int .i64 X.own.deps.x1 :: .int .i64 X.own.deps.x2 :: .int .i64 X.own.deps.x3 :: .int .i64 X.own.deps.x4 :: .int .i64 X.own.deps.x5 :: .int .i64 X.own.deps.x6 :: .int .i64 X.own.bal.1 :: .int .i64 X.own.bal.2 :: .int .i64 X.own.ab.1 :: .int .i64 X.own.ab.2 :: []) T_lead_Lead :: many oc X.rp.list :: many fch X.B :: L1) (by rw [d2]; exact (by assumption)) (ldc_ent hX)
  haveI : Rd W0 (many fch X.B :: L1) X.own.cmd.a B8 X.own.cmd.bs := rdMany hX.own
  refine leadDec (r := X.own) h2 (hX.own.len hX.len) fun X' W' e1 e2 h => ?_
  skip
  exact hk X' _ e1 e2 (by assumption)
 have eA : X.abs.maj = true → (X.apart = true ∨ 0 < X.m.bal.1) → X.abs.heard T = X.abs.accept T := fun h1 h2 => by
  unfold LD.heard; exact (if_neg c1).trans (if_pos ⟨h1, h2⟩)
 have eN : ¬ (X.abs.maj = true ∧ (X.apart = true ∨ 0 < X.m.bal.1)) → X.abs.heard T = (X.abs, T) := fun h1 => by
  unfold LD.heard; exact (if_neg c1).trans (if_neg h1)
 have hA : (X.abs.maj = true ∧ (X.apart = true ∨ 0 < X.m.bal.1)) → ∀ W', St W0 (ldc q X :: L1) W' → callK PR F_lead_Lead_accept [.pointer (some ⟨q, 0, none⟩)] (fun v51 W => k (.tuple #[]) W) W' := fun h1 W' h => by
  refine leadAccept h fun X' W' e1 e2 h => ?_
  rw [← eA h1.1 h1.2] at e2 h
  exact hk X' _ e1 e2 h
 have hN : ¬ (X.abs.maj = true ∧ (X.apart = true ∨ 0 < X.m.bal.1)) → ∀ W', St W0 (ldc q X :: L1) W' → k (.tuple #[]) W' := fun h1 W' h => by
  rw [eN h1] at hk
  exact hk X _ rfl rfl (St.perm h (ht2.perm.cons _))
 clear hk eA eN
 cases f1 : decide (X.abs.count = X.n) with
 | false =>
  cases fa : X.apart with
  | false =>
   (repeat (first | ((with_reducible refine stb_n ?_); intros) | ((with_reducible refine v8 ?_ ?_); exact rfl; intros) | simp -implicitDefEqProofs only [SE, SU, SV, f1]))
   refine leadMaj (X := X) (St.ent (by assumption) (ldc_ent hX)) fun W3 h => ?_
   obtain ⟨hX', h3⟩ := ldc_at h
   clear h
   cases hm : X.abs.maj with
   | false =>
    (repeat simp -implicitDefEqProofs only [SE, SU, SV])
    exact hN (by rw [hm]; simp) _ (St.ent (by assumption) (ldc_ent hX))
   | true =>
    by_cases f4 : 0 < X.m.bal.1
    ·(repeat (first | ((with_reducible refine v5 ?_); refine ⟨_, rfl, ?_⟩) | simp -implicitDefEqProofs only [SE, SU, SV, fa, f4]))
     exact hA ⟨hm, .inr f4⟩ _ (St.ent (by assumption) (ldc_ent hX))
    ·(repeat (first | ((with_reducible refine v5 ?_); refine ⟨_, rfl, ?_⟩) | simp -implicitDefEqProofs only [SE, SU, SV, fa, f4]))
     exact hN (by rintro ⟨_, h | h⟩; rw [fa] at h; cases h; exact f4 h) _ (St.ent (by assumption) (ldc_ent hX))
  | true =>
   (repeat (first | ((with_reducible refine stb_n ?_); intros) | ((with_reducible refine v8 ?_ ?_); exact rfl; intros) | simp -implicitDefEqProofs only [SE, SU, SV, f1]))
   refine leadMaj (X := X) (St.ent (by assumption) (ldc_ent hX)) fun W3 h => ?_
   obtain ⟨hX', h3⟩ := ldc_at h
   clear h
   cases hm : X.abs.maj with
   | false =>
    (repeat simp -implicitDefEqProofs only [SE, SU, SV])
    exact hN (by rw [hm]; simp) _ (St.ent (by assumption) (ldc_ent hX))
   | true =>
    (repeat (first | ((with_reducible refine v5 ?_); refine ⟨_, rfl, ?_⟩) | simp -implicitDefEqProofs only [SE, SU, SV, fa]))
    exact hA ⟨hm, .inl fa⟩ _ (St.ent (by assumption) (ldc_ent hX))
 | true =>
  cases fa : X.apart with
  | false =>
   have f3 : decide (X.m.bal.1 = 0) = false := decide_eq_false fun h => c1 ⟨of_decide_eq_true f1, fa, h⟩
   (repeat (first | ((with_reducible refine stb_n ?_); intros) | ((with_reducible refine v5 ?_); refine ⟨_, rfl, ?_⟩) | ((with_reducible refine v8 ?_ ?_); exact rfl; intros) | simp -implicitDefEqProofs only [SE, SU, SV, f1, fa, f3]))
   refine leadMaj (X := X) (St.ent (by assumption) (ldc_ent hX)) fun W3 h => ?_
   obtain ⟨hX', h3⟩ := ldc_at h
   clear h
   cases hm : X.abs.maj with
   | false =>
    (repeat simp -implicitDefEqProofs only [SE, SU, SV])
    exact hN (by rw [hm]; simp) _ (St.ent (by assumption) (ldc_ent hX))
   | true =>
    by_cases f4 : 0 < X.m.bal.1
    ·(repeat (first | ((with_reducible refine v5 ?_); refine ⟨_, rfl, ?_⟩) | simp -implicitDefEqProofs only [SE, SU, SV, fa, f4]))
     exact hA ⟨hm, .inr f4⟩ _ (St.ent (by assumption) (ldc_ent hX))
    ·(repeat (first | ((with_reducible refine v5 ?_); refine ⟨_, rfl, ?_⟩) | simp -implicitDefEqProofs only [SE, SU, SV, fa, f4]))
     exact hN (by rintro ⟨_, h | h⟩; rw [fa] at h; cases h; exact f4 h) _ (St.ent (by assumption) (ldc_ent hX))
  | true =>
   (repeat (first | ((with_reducible refine stb_n ?_); intros) | ((with_reducible refine v5 ?_); refine ⟨_, rfl, ?_⟩) | ((with_reducible refine v8 ?_ ?_); exact rfl; intros) | simp -implicitDefEqProofs only [SE, SU, SV, f1, fa]))
   refine leadMaj (X := X) (St.ent (by assumption) (ldc_ent hX)) fun W3 h => ?_
   obtain ⟨hX', h3⟩ := ldc_at h
   clear h
   cases hm : X.abs.maj with
   | false =>
    (repeat simp -implicitDefEqProofs only [SE, SU, SV])
    exact hN (by rw [hm]; simp) _ (St.ent (by assumption) (ldc_ent hX))
   | true =>
    (repeat (first | ((with_reducible refine v5 ?_); refine ⟨_, rfl, ?_⟩) | simp -implicitDefEqProofs only [SE, SU, SV, fa]))
    exact hA ⟨hm, .inl fa⟩ _ (St.ent (by assumption) (ldc_ent hX))
end
end Go.Proofs.YtfhacbhgmnhmlaaGreat
namespace Go.Proofs.YtfhacbhgmnhmlaaGreat
set_option linter.unusedVariables false
set_option linter.unusedSimpArgs false
open Go Go.Eng
section
variable {W0 W : World} {L L' L1 : List Asn} {q : Nat} {X : LX}
theorem leadWith {T : Tbl} {M : Msg BSl} {v1 v2 : Nat} {p : Nat × Rec BSl} {k : Value → World → Prop} (hp : some p ∈ X.rp.list)
  (h : St W0 (cells v2 [.int .i64 M.kind, .int .i64 M.dot.rep, .int .i64 M.dot.n, .int .i64 M.bal.1, .int .i64 M.bal.2, M.cmd.v, .int .i64 M.seq, .int .i64 M.deps.x0, .int .i64 M.deps.x1, .int .i64 M.deps.x2, .int .i64 M.deps.x3, .int .i64 M.deps.x4, .int .i64 M.deps.x5, .int .i64 M.deps.x6] T_inst_Msg :: cells v1 [.pointer (some ⟨q, 0, none⟩)] T_p_lead_Lead :: ldc q X :: L1) W) [ht2 : Tk (tb X.t) L1 T L']
  (hk : ∀ (X' : LX) W', X'.t = X.t → X'.abs = (X.abs.begin T 2 (Msg.map BSl.bs { M with cmd := p.2.cmd, seq := p.2.seq, deps := p.2.deps })).1 → St W0 (ldc q X' :: tb X.t (X.abs.begin T 2 (Msg.map BSl.bs { M with cmd := p.2.cmd, seq := p.2.seq, deps := p.2.deps })).2 :: L') W' → k (.tuple #[]) W') :
  vcK PR (.func (.func F_lead_Lead_prepared_1) #[] #[.pointer (some ⟨v2, 0, none⟩), .pointer (some ⟨v1, 0, none⟩)]) [.pointer (some ⟨p.1, 0, none⟩)] k W := by
 refine ⟨CBok _ (by kernel_rfl), ?_⟩
 apply S.lead_Lead_prepared_1.call
 delta S.lead_Lead_prepared_1.body oK oA rD lD eF eU sT cL vC gD gX gP gA gR gL gE gU gC gV hL sB nI
 obtain ⟨hX, h⟩ := ldc_at (h.ent (ent.rot3' _ _ _ _))
 obtain ⟨A, C, hAC, hoc⟩ := oc_take hp
 have h1 := (h.ent (ent.swap _ _ _)).ent (hoc _).1
 clear h
 (repeat (first | ((with_reducible refine stb_n ?_); intros) | ((with_reducible refine v5 ?_); refine ⟨_, rfl, ?_⟩) | ((with_reducible first | refine v8 ?_ ?_ | refine v12 ?_ ?_); exact rfl; intros) | ((with_reducible refine w5 ?_ ?_); simp; refine ⟨_, rfl, ?_⟩) | ((with_reducible refine w12 ?_ ?_ ?_ ?_); simp; simp; simp [oneC]; intros) | simp -implicitDefEqProofs only [SE, SU, SV]))
 rename_i h
 (try simp only [BLS, SB, stL_a, stL_b, stL_c, lsub_a, lsub_b, lsub_c, List.append_nil, List.take_nil, List.drop_nil, Nat.reduceAdd] at h)
 have h2 := (St.wk (L' := cells q (.int .i64 X.n :: .int .i64 X.rep :: .pointer (some ⟨X.t, 0, none⟩) :: .int .i64 X.m.kind :: .int .i64 X.m.dot.rep :: .int .i64 X.m.dot.n :: .int .i64 X.m.bal.1 :: .int .i64 X.m.bal.2 :: X.m.cmd.v :: .int .i64 X.m.seq :: .int .i64 X.m.deps.x0 :: .int .i64 X.m.deps.x1 :: .int .i64 X.m.deps.x2 :: .int .i64 X.m.deps.x3 :: .int .i64 X.m.deps.x4 :: .int .i64 X.m.deps.x5 :: .int .i64 X.m.deps.x6 :: .int .i64 X.phase :: .bool X.fast :: .bool X.apart :: .pointer (pa X.rp.x0) :: .pointer (pa X.rp.x1) :: .pointer (pa X.rp.x2) :: .pointer (pa X.rp.x3) :: .pointer (pa X.rp.x4) :: .pointer (pa X.rp.x5) :: .pointer (pa X.rp.x6) :: .int .i64 X.own.st :: X.own.cmd.v :: .int .i64 X.own.seq :: .int .i64 X.own.deps.x0 :: .int .i64 X.own.deps.x1 :: .int .i64 X.own.deps.x2 :: .int .i64 X.own.deps.x3 :: .int .i64 X.own.deps.x4 :: .int .i64 X.own.deps.x5 :: .int .i64 X.own.deps.x6 :: .int .i64 X.own.bal.1 :: .int .i64 X.own.bal.2 :: .int .i64 X.own.ab.1 :: .int .i64 X.own.ab.2 :: []) T_lead_Lead :: cells p.1 [.int .i64 p.2.st, p.2.cmd.v, .int .i64 p.2.seq, .int .i64 p.2.deps.x0, .int .i64 p.2.deps.x1, .int .i64 p.2.deps.x2, .int .i64 p.2.deps.x3, .int .i64 p.2.deps.x4, .int .i64 p.2.deps.x5, .int .i64 p.2.deps.x6, .int .i64 p.2.bal.1, .int .i64 p.2.bal.2, .int .i64 p.2.ab.1, .int .i64 p.2.ab.2] T_inst_Rec :: many oc (A ++ C) :: many fch X.B :: cells v2 [.int .i64 ({ M with cmd := p.2.cmd, seq := p.2.seq, deps := p.2.deps }).kind, .int .i64 (({ M with cmd := p.2.cmd, seq := p.2.seq, deps := p.2.deps }).dot).rep, .int .i64 (({ M with cmd := p.2.cmd, seq := p.2.seq, deps := p.2.deps }).dot).n, .int .i64 (({ M with cmd := p.2.cmd, seq := p.2.seq, deps := p.2.deps }).bal).1, .int .i64 (({ M with cmd := p.2.cmd, seq := p.2.seq, deps := p.2.deps }).bal).2, ({ M with cmd := p.2.cmd, seq := p.2.seq, deps := p.2.deps }).cmd.v, .int .i64 ({ M with cmd := p.2.cmd, seq := p.2.seq, deps := p.2.deps }).seq, .int .i64 (({ M with cmd := p.2.cmd, seq := p.2.seq, deps := p.2.deps }).deps).x0, .int .i64 (({ M with cmd := p.2.cmd, seq := p.2.seq, deps := p.2.deps }).deps).x1, .int .i64 (({ M with cmd := p.2.cmd, seq := p.2.seq, deps := p.2.deps }).deps).x2, .int .i64 (({ M with cmd := p.2.cmd, seq := p.2.seq, deps := p.2.deps }).deps).x3, .int .i64 (({ M with cmd := p.2.cmd, seq := p.2.seq, deps := p.2.deps }).deps).x4, .int .i64 (({ M with cmd := p.2.cmd, seq := p.2.seq, deps := p.2.deps }).deps).x5, .int .i64 (({ M with cmd := p.2.cmd, seq := p.2.seq, deps := p.2.deps }).deps).x6] T_inst_Msg :: cells v1 [.pointer (some ⟨q, 0, none⟩)] T_p_lead_Lead :: L1) h).ent ((ent.cons _ (hoc _).2).trans (ldc_ent hX))
 clear h h1
 refine leadBegin (m := { M with cmd := p.2.cmd, seq := p.2.seq, deps := p.2.deps }) (by assumption) (hX.rp p hp) fun X' W' e1 e2 h => ?_
 exact hk X' W' e1 e2 (St.wk h)
theorem gr_abs (st : Int) (l : List RX) : greatest id st (l.map (Option.map rab)) = (greatest rab st l).map rab := gr_map rab st l none
theorem leadPrepared {T : Tbl} {k : Value → World → Prop} (hne : firstR X.rp.list ≠ none) (h : St W0 L W) [ht : Tk (ldc q) L X L1] [ht2 : Tk (tb X.t) L1 T L']
  (hk : ∀ (X' : LX) W', X'.t = X.t → X'.abs = (X.abs.prepared T).1 → St W0 (ldc q X' :: tb X.t (X.abs.prepared T).2 :: L') W' → k (.tuple #[]) W') : callK PR F_lead_Lead_prepared [.pointer (some ⟨q, 0, none⟩)] k W := by
 apply S.lead_Lead_prepared.call
 delta S.lead_Lead_prepared.body oK oA rD lD eF eU sT cL vC gD gX gP gA gR gL gE gU gC gV hL sB nI
 have hrl : X.abs.recs.list = X.rp.list.map (Option.map rab) := rfl
 obtain ⟨hX, h⟩ := ldc_at (h.perm ht.perm)
 refine bx h fun v1 W1 h => ?_
 (try simp only [BLS, SB, stL_a, stL_b, stL_c, lsub_a, lsub_b, lsub_c, List.append_nil, List.take_nil, List.drop_nil, Nat.reduceAdd] at h)
 (repeat (first | ((with_reducible refine w11 ?_); intros) | ((with_reducible refine v5 ?_); refine ⟨_, rfl, ?_⟩) | ((with_reducible refine v12 ?_ ?_); exact rfl; intros) | ((with_reducible refine w12 ?_ ?_ ?_ ?_); simp; simp; simp [oneC]; intros) | simp -implicitDefEqProofs only [SE, SU, SV]))
 rename_i v2 _ _ _ _ W3 h
 (try simp only [BLS, SB, stL_a, stL_b, stL_c, lsub_a, lsub_b, lsub_c, List.append_nil, List.take_nil, List.drop_nil, Nat.reduceAdd] at h)
 have h1 := (St.wk (L' := cells q (.int .i64 X.n :: .int .i64 X.rep :: .pointer (some ⟨X.t, 0, none⟩) :: .int .i64 X.m.kind :: .int .i64 X.m.dot.rep :: .int .i64 X.m.dot.n :: .int .i64 X.m.bal.1 :: .int .i64 X.m.bal.2 :: X.m.cmd.v :: .int .i64 X.m.seq :: .int .i64 X.m.deps.x0 :: .int .i64 X.m.deps.x1 :: .int .i64 X.m.deps.x2 :: .int .i64 X.m.deps.x3 :: .int .i64 X.m.deps.x4 :: .int .i64 X.m.deps.x5 :: .int .i64 X.m.deps.x6 :: .int .i64 X.phase :: .bool X.fast :: .bool X.apart :: .pointer (pa X.rp.x0) :: .pointer (pa X.rp.x1) :: .pointer (pa X.rp.x2) :: .pointer (pa X.rp.x3) :: .pointer (pa X.rp.x4) :: .pointer (pa X.rp.x5) :: .pointer (pa X.rp.x6) :: .int .i64 X.own.st :: X.own.cmd.v :: .int .i64 X.own.seq :: .int .i64 X.own.deps.x0 :: .int .i64 X.own.deps.x1 :: .int .i64 X.own.deps.x2 :: .int .i64 X.own.deps.x3 :: .int .i64 X.own.deps.x4 :: .int .i64 X.own.deps.x5 :: .int .i64 X.own.deps.x6 :: .int .i64 X.own.bal.1 :: .int .i64 X.own.bal.2 :: .int .i64 X.own.ab.1 :: .int .i64 X.own.ab.2 :: []) T_lead_Lead :: many oc X.rp.list :: many fch X.B :: cells v2 [.int .i64 ({ X.m with kind := 2 }).kind, .int .i64 (({ X.m with kind := 2 }).dot).rep, .int .i64 (({ X.m with kind := 2 }).dot).n, .int .i64 (({ X.m with kind := 2 }).bal).1, .int .i64 (({ X.m with kind := 2 }).bal).2, ({ X.m with kind := 2 }).cmd.v, .int .i64 ({ X.m with kind := 2 }).seq, .int .i64 (({ X.m with kind := 2 }).deps).x0, .int .i64 (({ X.m with kind := 2 }).deps).x1, .int .i64 (({ X.m with kind := 2 }).deps).x2, .int .i64 (({ X.m with kind := 2 }).deps).x3, .int .i64 (({ X.m with kind := 2 }).deps).x4, .int .i64 (({ X.m with kind := 2 }).deps).x5, .int .i64 (({ X.m with kind := 2 }).deps).x6] T_inst_Msg :: cells v1 [.pointer (some ⟨q, 0, none⟩)] T_p_lead_Lead :: L1) h).ent (ldc_ent hX)
 clear h
 refine leadGreatest (X := X) (by assumption) fun W4 h => ?_
 clear h1
 (repeat (first | ((with_reducible refine v5 ?_); refine ⟨_, rfl, ?_⟩) | simp -implicitDefEqProofs only [SE, SU, SV]))
 refine leadGreatest (X := X) (by assumption) fun W5 h => ?_
 have hfin : ∀ (x : LD × Tbl), X.abs.prepared T = x → ∀ (X' : LX) W', X'.t = X.t → X'.abs = x.1 → St W0 (ldc q X' :: tb X.t x.2 :: L') W' → k (.tuple #[]) W' := by
  rintro x rfl X' W' e1 e2 h; exact hk X' W' e1 e2 h
 clear hk
 cases hb : greatest rab 2 X.rp.list with
 | some p =>
  have hp : some p ∈ X.rp.list := by
   rcases gr_mem hb rfl with h | h
   ·cases h
   ·exact h
  have e : X.abs.prepared T = X.abs.withR T (rab p) := by
   unfold LD.prepared; rw [hrl, gr_abs, hb]; rfl
  (repeat simp -implicitDefEqProofs only [SE, SU, SV])
  refine leadWith (M := { X.m with kind := 2 }) (p := p) hp ((St.wk (L' := cells v2 [.int .i64 ({ X.m with kind := 2 }).kind, .int .i64 (({ X.m with kind := 2 }).dot).rep, .int .i64 (({ X.m with kind := 2 }).dot).n, .int .i64 (({ X.m with kind := 2 }).bal).1, .int .i64 (({ X.m with kind := 2 }).bal).2, ({ X.m with kind := 2 }).cmd.v, .int .i64 ({ X.m with kind := 2 }).seq, .int .i64 (({ X.m with kind := 2 }).deps).x0, .int .i64 (({ X.m with kind := 2 }).deps).x1, .int .i64 (({ X.m with kind := 2 }).deps).x2, .int .i64 (({ X.m with kind := 2 }).deps).x3, .int .i64 (({ X.m with kind := 2 }).deps).x4, .int .i64 (({ X.m with kind := 2 }).deps).x5, .int .i64 (({ X.m with kind := 2 }).deps).x6] T_inst_Msg :: cells v1 [.pointer (some ⟨q, 0, none⟩)] T_p_lead_Lead :: ldc q X :: L1) (by assumption))) fun X' W' e1 e2 h => ?_
  skip
  exact hfin _ e X' _ e1 e2 (by assumption)
 | none =>
  (repeat (first | ((with_reducible refine v5 ?_); refine ⟨_, rfl, ?_⟩) | simp -implicitDefEqProofs only [SE, SU, SV]))
  refine leadAlike (X := X) (by assumption) fun W6 h => ?_
  cases ha : X.abs.alike with
  | true =>
   (repeat (first | ((with_reducible refine v5 ?_); refine ⟨_, rfl, ?_⟩) | simp -implicitDefEqProofs only [SE, SU, SV]))
   refine leadFirst (X := X) (by assumption) fun W7 h => ?_
   cases hf : firstR X.rp.list with
   | none => exact absurd hf hne
   | some p =>
    have e : X.abs.prepared T = X.abs.withR T (rab p) := by
     unfold LD.prepared; rw [hrl, gr_abs, hb, ha, first_map, hf]; rfl
    refine leadWith (M := { X.m with kind := 2 }) (p := p) (first_mem hf) ((St.wk (L' := cells v2 [.int .i64 ({ X.m with kind := 2 }).kind, .int .i64 (({ X.m with kind := 2 }).dot).rep, .int .i64 (({ X.m with kind := 2 }).dot).n, .int .i64 (({ X.m with kind := 2 }).bal).1, .int .i64 (({ X.m with kind := 2 }).bal).2, ({ X.m with kind := 2 }).cmd.v, .int .i64 ({ X.m with kind := 2 }).seq, .int .i64 (({ X.m with kind := 2 }).deps).x0, .int .i64 (({ X.m with kind := 2 }).deps).x1, .int .i64 (({ X.m with kind := 2 }).deps).x2, .int .i64 (({ X.m with kind := 2 }).deps).x3, .int .i64 (({ X.m with kind := 2 }).deps).x4, .int .i64 (({ X.m with kind := 2 }).deps).x5, .int .i64 (({ X.m with kind := 2 }).deps).x6] T_inst_Msg :: cells v1 [.pointer (some ⟨q, 0, none⟩)] T_p_lead_Lead :: ldc q X :: L1) (by assumption))) fun X' W' e1 e2 h => ?_
    skip
    exact hfin _ e X' _ e1 e2 (by assumption)
  | false =>
   cases hh : greatest rab 1 X.rp.list with
   | some p =>
    have hp : some p ∈ X.rp.list := by
     rcases gr_mem hh rfl with h | h
     ·cases h
     ·exact h
    have e : X.abs.prepared T = X.abs.begin T 1 { X.m.map BSl.bs with kind := 1, cmd := p.2.cmd.bs } := by
     unfold LD.prepared; rw [hrl, gr_abs, gr_abs, hb, hh, ha]; rfl
    clear hX
    obtain ⟨hX, h⟩ := ldc_at h
    obtain ⟨A, C, hAC, hoc⟩ := oc_take hp
    have h1 := (h.ent (ent.swap _ _ _)).ent (hoc _).1
    clear h
    (repeat (first | ((with_reducible refine stb_n ?_); intros) | ((with_reducible refine v5 ?_); refine ⟨_, rfl, ?_⟩) | ((with_reducible first | refine v8 ?_ ?_ | refine v12 ?_ ?_); exact rfl; intros) | ((with_reducible refine w5 ?_ ?_); simp; refine ⟨_, rfl, ?_⟩) | ((with_reducible refine w12 ?_ ?_ ?_ ?_); simp; simp; simp [oneC]; intros) | simp -implicitDefEqProofs only [SE, SU, SV]))
    rename_i h
    (try simp only [BLS, SB, stL_a, stL_b, stL_c, lsub_a, lsub_b, lsub_c, List.append_nil, List.take_nil, List.drop_nil, Nat.reduceAdd] at h)
    have h2 := (St.wk (L' := cells q (.int .i64 X.n :: .int .i64 X.rep :: .pointer (some ⟨X.t, 0, none⟩) :: .int .i64 X.m.kind :: .int .i64 X.m.dot.rep :: .int .i64 X.m.dot.n :: .int .i64 X.m.bal.1 :: .int .i64 X.m.bal.2 :: X.m.cmd.v :: .int .i64 X.m.seq :: .int .i64 X.m.deps.x0 :: .int .i64 X.m.deps.x1 :: .int .i64 X.m.deps.x2 :: .int .i64 X.m.deps.x3 :: .int .i64 X.m.deps.x4 :: .int .i64 X.m.deps.x5 :: .int .i64 X.m.deps.x6 :: .int .i64 X.phase :: .bool X.fast :: .bool X.apart :: .pointer (pa X.rp.x0) :: .pointer (pa X.rp.x1) :: .pointer (pa X.rp.x2) :: .pointer (pa X.rp.x3) :: .pointer (pa X.rp.x4) :: .pointer (pa X.rp.x5) :: .pointer (pa X.rp.x6) :: .int .i64 X.own.st :: X.own.cmd.v :: .int .i64 X.own.seq :: .int .i64 X.own.deps.x0 :: .int .i64 X.own.deps.x1 :: .int .i64 X.own.deps.x2 :: .int .i64 X.own.deps.x3 :: .int .i64 X.own.deps.x4 :: .int .i64 X.own.deps.x5 :: .int .i64 X.own.deps.x6 :: .int .i64 X.own.bal.1 :: .int .i64 X.own.bal.2 :: .int .i64 X.own.ab.1 :: .int .i64 X.own.ab.2 :: []) T_lead_Lead :: cells p.1 [.int .i64 p.2.st, p.2.cmd.v, .int .i64 p.2.seq, .int .i64 p.2.deps.x0, .int .i64 p.2.deps.x1, .int .i64 p.2.deps.x2, .int .i64 p.2.deps.x3, .int .i64 p.2.deps.x4, .int .i64 p.2.deps.x5, .int .i64 p.2.deps.x6, .int .i64 p.2.bal.1, .int .i64 p.2.bal.2, .int .i64 p.2.ab.1, .int .i64 p.2.ab.2] T_inst_Rec :: many oc (A ++ C) :: many fch X.B :: cells v2 [.int .i64 ({ X.m with kind := 1, cmd := p.2.cmd }).kind, .int .i64 (({ X.m with kind := 1, cmd := p.2.cmd }).dot).rep, .int .i64 (({ X.m with kind := 1, cmd := p.2.cmd }).dot).n, .int .i64 (({ X.m with kind := 1, cmd := p.2.cmd }).bal).1, .int .i64 (({ X.m with kind := 1, cmd := p.2.cmd }).bal).2, ({ X.m with kind := 1, cmd := p.2.cmd }).cmd.v, .int .i64 ({ X.m with kind := 1, cmd := p.2.cmd }).seq, .int .i64 (({ X.m with kind := 1, cmd := p.2.cmd }).deps).x0, .int .i64 (({ X.m with kind := 1, cmd := p.2.cmd }).deps).x1, .int .i64 (({ X.m with kind := 1, cmd := p.2.cmd }).deps).x2, .int .i64 (({ X.m with kind := 1, cmd := p.2.cmd }).deps).x3, .int .i64 (({ X.m with kind := 1, cmd := p.2.cmd }).deps).x4, .int .i64 (({ X.m with kind := 1, cmd := p.2.cmd }).deps).x5, .int .i64 (({ X.m with kind := 1, cmd := p.2.cmd }).deps).x6] T_inst_Msg :: cells v1 [.pointer (some ⟨q, 0, none⟩)] T_p_lead_Lead :: L1) h).ent ((ent.cons _ (hoc _).2).trans (ldc_ent hX))
    clear h h1
    refine leadBegin (m := { X.m with kind := 1, cmd := p.2.cmd }) (by assumption) (hX.rp p hp) fun X' W' e1 e2 h => ?_
    skip
    have h3 := St.wk (L' := ldc q X' :: tb X.t (X.abs.begin T 1 (Msg.map BSl.bs { X.m with kind := 1, cmd := p.2.cmd })).2 :: L') (by assumption)
    exact hfin _ e X' _ e1 e2 h3
   | none =>
    have e : X.abs.prepared T = X.abs.begin T 2 { X.m.map BSl.bs with kind := 2, seq := (would T X.m.dot).1, deps := (would T X.m.dot).2 } := by
     unfold LD.prepared; rw [hrl, gr_abs, gr_abs, hb, hh, ha]; rfl
    clear hX
    obtain ⟨hX, h⟩ := ldc_at h
    (repeat (first | ((with_reducible refine v5 ?_); refine ⟨_, rfl, ?_⟩) | simp -implicitDefEqProofs only [SE, SU, SV]))
    refine instWould (d := X.m.dot) (by exact St.tick (by assumption)) fun W7 h => ?_
    (repeat (first | ((with_reducible refine v5 ?_); refine ⟨_, rfl, ?_⟩) | ((with_reducible refine v12 ?_ ?_); exact rfl; intros) | ((with_reducible refine w5 ?_ ?_); simp; refine ⟨_, rfl, ?_⟩) | ((with_reducible refine w12 ?_ ?_ ?_ ?_); simp; simp; simp [oneC]; intros) | simp -implicitDefEqProofs only [SE, SU, SV]))
    rename_i h
    (try simp only [BLS, SB, stL_a, stL_b, stL_c, lsub_a, lsub_b, lsub_c, List.append_nil, List.take_nil, List.drop_nil, Nat.reduceAdd] at h)
    have h2 := (St.wk (L' := cells q (.int .i64 X.n :: .int .i64 X.rep :: .pointer (some ⟨X.t, 0, none⟩) :: .int .i64 X.m.kind :: .int .i64 X.m.dot.rep :: .int .i64 X.m.dot.n :: .int .i64 X.m.bal.1 :: .int .i64 X.m.bal.2 :: X.m.cmd.v :: .int .i64 X.m.seq :: .int .i64 X.m.deps.x0 :: .int .i64 X.m.deps.x1 :: .int .i64 X.m.deps.x2 :: .int .i64 X.m.deps.x3 :: .int .i64 X.m.deps.x4 :: .int .i64 X.m.deps.x5 :: .int .i64 X.m.deps.x6 :: .int .i64 X.phase :: .bool X.fast :: .bool X.apart :: .pointer (pa X.rp.x0) :: .pointer (pa X.rp.x1) :: .pointer (pa X.rp.x2) :: .pointer (pa X.rp.x3) :: .pointer (pa X.rp.x4) :: .pointer (pa X.rp.x5) :: .pointer (pa X.rp.x6) :: .int .i64 X.own.st :: X.own.cmd.v :: .int .i64 X.own.seq :: .int .i64 X.own.deps.x0 :: .int .i64 X.own.deps.x1 :: .int .i64 X.own.deps.x2 :: .int .i64 X.own.deps.x3 :: .int .i64 X.own.deps.x4 :: .int .i64 X.own.deps.x5 :: .int .i64 X.own.deps.x6 :: .int .i64 X.own.bal.1 :: .int .i64 X.own.bal.2 :: .int .i64 X.own.ab.1 :: .int .i64 X.own.ab.2 :: []) T_lead_Lead :: many oc X.rp.list :: many fch X.B :: tb X.t T :: cells v2 [.int .i64 ({ X.m with kind := 2, seq := (would T X.m.dot).1, deps := (would T X.m.dot).2 }).kind, .int .i64 (({ X.m with kind := 2, seq := (would T X.m.dot).1, deps := (would T X.m.dot).2 }).dot).rep, .int .i64 (({ X.m with kind := 2, seq := (would T X.m.dot).1, deps := (would T X.m.dot).2 }).dot).n, .int .i64 (({ X.m with kind := 2, seq := (would T X.m.dot).1, deps := (would T X.m.dot).2 }).bal).1, .int .i64 (({ X.m with kind := 2, seq := (would T X.m.dot).1, deps := (would T X.m.dot).2 }).bal).2, ({ X.m with kind := 2, seq := (would T X.m.dot).1, deps := (would T X.m.dot).2 }).cmd.v, .int .i64 ({ X.m with kind := 2, seq := (would T X.m.dot).1, deps := (would T X.m.dot).2 }).seq, .int .i64 (({ X.m with kind := 2, seq := (would T X.m.dot).1, deps := (would T X.m.dot).2 }).deps).x0, .int .i64 (({ X.m with kind := 2, seq := (would T X.m.dot).1, deps := (would T X.m.dot).2 }).deps).x1, .int .i64 (({ X.m with kind := 2, seq := (would T X.m.dot).1, deps := (would T X.m.dot).2 }).deps).x2, .int .i64 (({ X.m with kind := 2, seq := (would T X.m.dot).1, deps := (would T X.m.dot).2 }).deps).x3, .int .i64 (({ X.m with kind := 2, seq := (would T X.m.dot).1, deps := (would T X.m.dot).2 }).deps).x4, .int .i64 (({ X.m with kind := 2, seq := (would T X.m.dot).1, deps := (would T X.m.dot).2 }).deps).x5, .int .i64 (({ X.m with kind := 2, seq := (would T X.m.dot).1, deps := (would T X.m.dot).2 }).deps).x6] T_inst_Msg :: cells v1 [.pointer (some ⟨q, 0, none⟩)] T_p_lead_Lead :: L') h).ent (ldc_ent hX)
    clear h
    refine leadBegin (m := { X.m with kind := 2, seq := (would T X.m.dot).1, deps := (would T X.m.dot).2 }) (by assumption) hX.m fun X' W' e1 e2 h => ?_
    skip
    have h3 := St.wk (L' := ldc q X' :: tb X.t (X.abs.begin T 2 (Msg.map BSl.bs { X.m with kind := 2, seq := (would T X.m.dot).1, deps := (would T X.m.dot).2 })).2 :: L') (by assumption)
    exact hfin _ e X' _ e1 e2 h3
end
end Go.Proofs.YtfhacbhgmnhmlaaGreat
namespace Go.Proofs.YtfhacbhgmnhmlaaGreat
set_option linter.unusedVariables false
set_option linter.unusedSimpArgs false
open Go Go.Eng
section
variable {W0 W : World} {L L' L1 : List Asn} {q : Nat} {X : LX}
theorem idxRec {X : LX} {i : Int} (h0 : 0 ≤ i) (h7 : i < 7) : getL false (.int .i64 X.n :: .int .i64 X.rep :: .pointer (some ⟨X.t, 0, none⟩) :: .int .i64 X.m.kind :: .int .i64 X.m.dot.rep :: .int .i64 X.m.dot.n :: .int .i64 X.m.bal.1 :: .int .i64 X.m.bal.2 :: X.m.cmd.v :: .int .i64 X.m.seq :: .int .i64 X.m.deps.x0 :: .int .i64 X.m.deps.x1 :: .int .i64 X.m.deps.x2 :: .int .i64 X.m.deps.x3 :: .int .i64 X.m.deps.x4 :: .int .i64 X.m.deps.x5 :: .int .i64 X.m.deps.x6 :: .int .i64 X.phase :: .bool X.fast :: .bool X.apart :: .pointer (pa X.rp.x0) :: .pointer (pa X.rp.x1) :: .pointer (pa X.rp.x2) :: .pointer (pa X.rp.x3) :: .pointer (pa X.rp.x4) :: .pointer (pa X.rp.x5) :: .pointer (pa X.rp.x6) :: .int .i64 X.own.st :: X.own.cmd.v :: .int .i64 X.own.seq :: .int .i64 X.own.deps.x0 :: .int .i64 X.own.deps.x1 :: .int .i64 X.own.deps.x2 :: .int .i64 X.own.deps.x3 :: .int .i64 X.own.deps.x4 :: .int .i64 X.own.deps.x5 :: .int .i64 X.own.deps.x6 :: .int .i64 X.own.bal.1 :: .int .i64 X.own.bal.2 :: .int .i64 X.own.ab.1 :: .int .i64 X.own.ab.2 :: []) (20 + i.toNat) 1 = some (.pointer (pa (X.rp.get i.toNat))) := by
 have : i.toNat < 7 := by omega
 generalize i.toNat = j at *
 rcases P7.cases7 this with rfl | rfl | rfl | rfl | rfl | rfl | rfl <;> rfl
theorem leadGot {T : Tbl} {fr : Int} {a : Ans BSl} {k : Value → World → Prop} (h : St W0 L W) [ht : Tk (ldc q) L X L1] [ht2 : Tk (tb X.t) L1 T L'] [hr : Rd W0 (many fch X.B :: L1) a.rc.cmd.a B8 a.rc.cmd.bs] (hl : a.rc.cmd.bs.length < 1099511627776)
  (hk : ∀ (X' : LX) W', X'.t = X.t → X'.abs = (X.abs.got T fr (a.map BSl.bs)).1.1 → St W0 (ldc q X' :: tb X.t (X.abs.got T fr (a.map BSl.bs)).1.2 :: L') W' → k (.bool (X.abs.got T fr (a.map BSl.bs)).2) W') :
  callK PR F_lead_Lead_Got [.pointer (some ⟨q, 0, none⟩), .int .i64 fr, .agg #[.bool a.ok, .int .i64 a.bal.1, .int .i64 a.bal.2, .int .i64 a.rc.st, a.rc.cmd.v, .int .i64 a.rc.seq, .int .i64 a.rc.deps.x0, .int .i64 a.rc.deps.x1, .int .i64 a.rc.deps.x2, .int .i64 a.rc.deps.x3, .int .i64 a.rc.deps.x4, .int .i64 a.rc.deps.x5, .int .i64 a.rc.deps.x6, .int .i64 a.rc.bal.1, .int .i64 a.rc.bal.2, .int .i64 a.rc.ab.1, .int .i64 a.rc.ab.2]] k W := by
 apply S.lead_Lead_Got.call
 delta S.lead_Lead_Got.body oK oA rD lD eF eU sT cL vC gD gX gP gA gR gL gE gU gC gV hL sB nI
 obtain ⟨hX, h⟩ := ldc_at (h.perm ht.perm)
 have hfin : ∀ (x : (LD × Tbl) × Bool), X.abs.got T fr (a.map BSl.bs) = x → ∀ (X' : LX) W', X'.t = X.t → X'.abs = x.1.1 → St W0 (ldc q X' :: tb X.t x.1.2 :: L') W' → k (.bool x.2) W' := by
  rintro x rfl X' W' e1 e2 h; exact hk X' W' e1 e2 h
 clear hk
 have hno : X.abs.got T fr (a.map BSl.bs) = ((X.abs, T), false) → ∀ (c : Asn) W', St W0 (c :: cells q (.int .i64 X.n :: .int .i64 X.rep :: .pointer (some ⟨X.t, 0, none⟩) :: .int .i64 X.m.kind :: .int .i64 X.m.dot.rep :: .int .i64 X.m.dot.n :: .int .i64 X.m.bal.1 :: .int .i64 X.m.bal.2 :: X.m.cmd.v :: .int .i64 X.m.seq :: .int .i64 X.m.deps.x0 :: .int .i64 X.m.deps.x1 :: .int .i64 X.m.deps.x2 :: .int .i64 X.m.deps.x3 :: .int .i64 X.m.deps.x4 :: .int .i64 X.m.deps.x5 :: .int .i64 X.m.deps.x6 :: .int .i64 X.phase :: .bool X.fast :: .bool X.apart :: .pointer (pa X.rp.x0) :: .pointer (pa X.rp.x1) :: .pointer (pa X.rp.x2) :: .pointer (pa X.rp.x3) :: .pointer (pa X.rp.x4) :: .pointer (pa X.rp.x5) :: .pointer (pa X.rp.x6) :: .int .i64 X.own.st :: X.own.cmd.v :: .int .i64 X.own.seq :: .int .i64 X.own.deps.x0 :: .int .i64 X.own.deps.x1 :: .int .i64 X.own.deps.x2 :: .int .i64 X.own.deps.x3 :: .int .i64 X.own.deps.x4 :: .int .i64 X.own.deps.x5 :: .int .i64 X.own.deps.x6 :: .int .i64 X.own.bal.1 :: .int .i64 X.own.bal.2 :: .int .i64 X.own.ab.1 :: .int .i64 X.own.ab.2 :: []) T_lead_Lead :: many oc X.rp.list :: many fch X.B :: L1) W' → k (.bool false) W' := fun e c W' h =>
  hfin _ e X W' rfl rfl ((h.drop.ent (ldc_ent hX)).perm (ht2.perm.cons _))
 have g1 : (X.phase = 3 ∨ X.phase = 5 ∨ fr < 0 ∨ X.n ≤ fr ∨ fr = X.rep ∨ (X.rp.get fr.toNat).isSome = true) → X.abs.got T fr (a.map BSl.bs) = ((X.abs, T), false) := fun h => by
  unfold LD.got
  refine if_pos ?_
  rw [show (X.abs.recs.get fr.toNat).isSome = (X.rp.get fr.toNat).isSome by
   rw [show X.abs.recs = X.rp.map (Option.map rab) from rfl, P7.get_map]; cases X.rp.get fr.toNat <;> rfl]
  exact h
 refine bxa h fun b W1 h => ?_
 by_cases c1 : X.phase = 3
 ·have f1 := decide_eq_true c1
  (repeat (first | ((with_reducible refine v5 ?_); refine ⟨_, rfl, ?_⟩) | simp -implicitDefEqProofs only [SE, SU, SV, f1]))
  exact hno (g1 (.inl c1)) _ _ (by assumption)
 have f1 := decide_eq_false c1
 by_cases c2 : X.phase = 5
 ·have f2 := decide_eq_true c2
  (repeat (first | ((with_reducible refine v5 ?_); refine ⟨_, rfl, ?_⟩) | simp -implicitDefEqProofs only [SE, SU, SV, f1, f2]))
  exact hno (g1 (.inr (.inl c2))) _ _ (by assumption)
 have f2 := decide_eq_false c2
 by_cases c3 : fr < 0
 ·(repeat (first | ((with_reducible refine v5 ?_); refine ⟨_, rfl, ?_⟩) | simp -implicitDefEqProofs only [SE, SU, SV, f1, f2, c3]))
  exact hno (g1 (.inr (.inr (.inl c3)))) _ _ (by assumption)
 by_cases c4 : X.n ≤ fr
 ·(repeat (first | ((with_reducible refine v5 ?_); refine ⟨_, rfl, ?_⟩) | simp -implicitDefEqProofs only [SE, SU, SV, f1, f2, c3, c4]))
  exact hno (g1 (.inr (.inr (.inr (.inl c4))))) _ _ (by assumption)
 by_cases c5 : fr = X.rep
 ·have f5 := decide_eq_true c5
  (repeat (first | ((with_reducible refine v5 ?_); refine ⟨_, rfl, ?_⟩) | simp -implicitDefEqProofs only [SE, SU, SV, f1, f2, c3, c4, f5]))
  exact hno (g1 (.inr (.inr (.inr (.inr (.inl c5)))))) _ _ (by assumption)
 have f5 := decide_eq_false c5
 have hrep := hX.rep
 have hlt : fr.toNat < 7 := by omega
 have ei : idxA 7 1 (.pointer (some ⟨q, 20, none⟩)) (.int .i64 fr) = some (.pointer (some ⟨q, 20 + fr.toNat, none⟩)) := by rw [idxA_blk (by omega) (by omega)]; simp
 have hrd : getL false (.int .i64 X.n :: .int .i64 X.rep :: .pointer (some ⟨X.t, 0, none⟩) :: .int .i64 X.m.kind :: .int .i64 X.m.dot.rep :: .int .i64 X.m.dot.n :: .int .i64 X.m.bal.1 :: .int .i64 X.m.bal.2 :: X.m.cmd.v :: .int .i64 X.m.seq :: .int .i64 X.m.deps.x0 :: .int .i64 X.m.deps.x1 :: .int .i64 X.m.deps.x2 :: .int .i64 X.m.deps.x3 :: .int .i64 X.m.deps.x4 :: .int .i64 X.m.deps.x5 :: .int .i64 X.m.deps.x6 :: .int .i64 X.phase :: .bool X.fast :: .bool X.apart :: .pointer (pa X.rp.x0) :: .pointer (pa X.rp.x1) :: .pointer (pa X.rp.x2) :: .pointer (pa X.rp.x3) :: .pointer (pa X.rp.x4) :: .pointer (pa X.rp.x5) :: .pointer (pa X.rp.x6) :: .int .i64 X.own.st :: X.own.cmd.v :: .int .i64 X.own.seq :: .int .i64 X.own.deps.x0 :: .int .i64 X.own.deps.x1 :: .int .i64 X.own.deps.x2 :: .int .i64 X.own.deps.x3 :: .int .i64 X.own.deps.x4 :: .int .i64 X.own.deps.x5 :: .int .i64 X.own.deps.x6 :: .int .i64 X.own.bal.1 :: .int .i64 X.own.bal.2 :: .int .i64 X.own.ab.1 :: .int .i64 X.own.ab.2 :: []) (20 + fr.toNat) 1 = some (.pointer (pa (X.rp.get fr.toNat))) := idxRec (by omega) (by omega)
 simp -implicitDefEqProofs only [SE, SU, SV]
 (repeat (first | ((with_reducible refine v5 ?_); refine ⟨_, rfl, ?_⟩) | simp -implicitDefEqProofs only [SE, SU, SV, f1, f2, c3, c4, f5]))
 (repeat (first | ((with_reducible refine v5 ?_); refine ⟨_, rfl, ?_⟩) | simp -implicitDefEqProofs only [SE, SU, SV, ei]))
 refine ld (v := .pointer (pa (X.rp.get fr.toNat))) (by assumption) hrd (by simp) ?_
 cases c6 : (X.rp.get fr.toNat) with
 | some p =>
  (repeat simp -implicitDefEqProofs only [SE, SU, SV])
  exact hno (g1 (.inr (.inr (.inr (.inr (.inr (by rw [c6]; rfl))))))) _ _ (by assumption)
 | none =>
 clear g1
 have n1 : ¬ (X.abs.phase = 3 ∨ X.abs.phase = 5 ∨ fr < 0 ∨ X.abs.n ≤ fr ∨ fr = X.abs.rep ∨ (X.abs.recs.get fr.toNat).isSome = true) := by
  rw [show (X.abs.recs.get fr.toNat).isSome = false by
   rw [show X.abs.recs = X.rp.map (Option.map rab) from rfl, P7.get_map, c6]; rfl]
  rintro (h | h | h | h | h | h)
  ·exact c1 h
  ·exact c2 h
  ·exact c3 h
  ·exact c4 h
  ·exact c5 h
  ·cases h
 have hdec : X.abs.got T fr (a.map BSl.bs) = (X.abs.dec T (a.rc.map BSl.bs) false, true) → ∀ W', St W0 (cells b [.bool a.ok, .int .i64 a.bal.1, .int .i64 a.bal.2, .int .i64 a.rc.st, a.rc.cmd.v, .int .i64 a.rc.seq, .int .i64 a.rc.deps.x0, .int .i64 a.rc.deps.x1, .int .i64 a.rc.deps.x2, .int .i64 a.rc.deps.x3, .int .i64 a.rc.deps.x4, .int .i64 a.rc.deps.x5, .int .i64 a.rc.deps.x6, .int .i64 a.rc.bal.1, .int .i64 a.rc.bal.2, .int .i64 a.rc.ab.1, .int .i64 a.rc.ab.2] T_inst_Answer :: cells q (.int .i64 X.n :: .int .i64 X.rep :: .pointer (some ⟨X.t, 0, none⟩) :: .int .i64 X.m.kind :: .int .i64 X.m.dot.rep :: .int .i64 X.m.dot.n :: .int .i64 X.m.bal.1 :: .int .i64 X.m.bal.2 :: X.m.cmd.v :: .int .i64 X.m.seq :: .int .i64 X.m.deps.x0 :: .int .i64 X.m.deps.x1 :: .int .i64 X.m.deps.x2 :: .int .i64 X.m.deps.x3 :: .int .i64 X.m.deps.x4 :: .int .i64 X.m.deps.x5 :: .int .i64 X.m.deps.x6 :: .int .i64 X.phase :: .bool X.fast :: .bool X.apart :: .pointer (pa X.rp.x0) :: .pointer (pa X.rp.x1) :: .pointer (pa X.rp.x2) :: .pointer (pa X.rp.x3) :: .pointer (pa X.rp.x4) :: .pointer (pa X.rp.x5) :: .pointer (pa X.rp.x6) :: .int .i64 X.own.st :: X.own.cmd.v :: .int .i64 X.own.seq :: .int .i64 X.own.deps.x0 :: .int .i64 X.own.deps.x1 :: .int .i64 X.own.deps.x2 :: .int .i64 X.own.deps.x3 :: .int .i64 X.own.deps.x4 :: .int .i64 X.own.deps.x5 :: .int .i64 X.own.deps.x6 :: .int .i64 X.own.bal.1 :: .int .i64 X.own.bal.2 :: .int .i64 X.own.ab.1 :: .int .i64 X.own.ab.2 :: []) T_lead_Lead :: many oc X.rp.list :: many fch X.B :: L1) W' →
   callK PR F_lead_Lead_decide [.pointer (some ⟨q, 0, none⟩), .agg #[.int .i64 a.rc.st, a.rc.cmd.v, .int .i64 a.rc.seq, .int .i64 a.rc.deps.x0, .int .i64 a.rc.deps.x1, .int .i64 a.rc.deps.x2, .int .i64 a.rc.deps.x3, .int .i64 a.rc.deps.x4, .int .i64 a.rc.deps.x5, .int .i64 a.rc.deps.x6, .int .i64 a.rc.bal.1, .int .i64 a.rc.bal.2, .int .i64 a.rc.ab.1, .int .i64 a.rc.ab.2], .bool false] (fun v77 W => k (.bool true) W) W' := fun e W' h => by
  refine leadDec (r := a.rc) (h.drop.ent (ldc_ent hX)) hl fun X' W' e1 e2 h => ?_
  exact hfin _ e X' _ e1 e2 h
 have hn2 : ∀ W', (a.ok = true ∧ (a.bal ≠ X.m.bal ∨ X.abs.fits (a.rc.map BSl.bs) = false)) → (cells b [.bool a.ok, .int .i64 a.bal.1, .int .i64 a.bal.2, .int .i64 a.rc.st, a.rc.cmd.v, .int .i64 a.rc.seq, .int .i64 a.rc.deps.x0, .int .i64 a.rc.deps.x1, .int .i64 a.rc.deps.x2, .int .i64 a.rc.deps.x3, .int .i64 a.rc.deps.x4, .int .i64 a.rc.deps.x5, .int .i64 a.rc.deps.x6, .int .i64 a.rc.bal.1, .int .i64 a.rc.bal.2, .int .i64 a.rc.ab.1, .int .i64 a.rc.ab.2] T_inst_Answer :: cells q (.int .i64 X.n :: .int .i64 X.rep :: .pointer (some ⟨X.t, 0, none⟩) :: .int .i64 X.m.kind :: .int .i64 X.m.dot.rep :: .int .i64 X.m.dot.n :: .int .i64 X.m.bal.1 :: .int .i64 X.m.bal.2 :: X.m.cmd.v :: .int .i64 X.m.seq :: .int .i64 X.m.deps.x0 :: .int .i64 X.m.deps.x1 :: .int .i64 X.m.deps.x2 :: .int .i64 X.m.deps.x3 :: .int .i64 X.m.deps.x4 :: .int .i64 X.m.deps.x5 :: .int .i64 X.m.deps.x6 :: .int .i64 X.phase :: .bool X.fast :: .bool X.apart :: .pointer (pa X.rp.x0) :: .pointer (pa X.rp.x1) :: .pointer (pa X.rp.x2) :: .pointer (pa X.rp.x3) :: .pointer (pa X.rp.x4) :: .pointer (pa X.rp.x5) :: .pointer (pa X.rp.x6) :: .int .i64 X.own.st :: X.own.cmd.v :: .int .i64 X.own.seq :: .int .i64 X.own.deps.x0 :: .int .i64 X.own.deps.x1 :: .int .i64 X.own.deps.x2 :: .int .i64 X.own.deps.x3 :: .int .i64 X.own.deps.x4 :: .int .i64 X.own.deps.x5 :: .int .i64 X.own.deps.x6 :: .int .i64 X.own.bal.1 :: .int .i64 X.own.bal.2 :: .int .i64 X.own.ab.1 :: .int .i64 X.own.ab.2 :: []) T_lead_Lead :: many oc X.rp.list :: many fch X.B :: L1 = cells b [.bool a.ok, .int .i64 a.bal.1, .int .i64 a.bal.2, .int .i64 a.rc.st, a.rc.cmd.v, .int .i64 a.rc.seq, .int .i64 a.rc.deps.x0, .int .i64 a.rc.deps.x1, .int .i64 a.rc.deps.x2, .int .i64 a.rc.deps.x3, .int .i64 a.rc.deps.x4, .int .i64 a.rc.deps.x5, .int .i64 a.rc.deps.x6, .int .i64 a.rc.bal.1, .int .i64 a.rc.bal.2, .int .i64 a.rc.ab.1, .int .i64 a.rc.ab.2] T_inst_Answer :: cells q (.int .i64 X.n :: .int .i64 X.rep :: .pointer (some ⟨X.t, 0, none⟩) :: .int .i64 X.m.kind :: .int .i64 X.m.dot.rep :: .int .i64 X.m.dot.n :: .int .i64 X.m.bal.1 :: .int .i64 X.m.bal.2 :: X.m.cmd.v :: .int .i64 X.m.seq :: .int .i64 X.m.deps.x0 :: .int .i64 X.m.deps.x1 :: .int .i64 X.m.deps.x2 :: .int .i64 X.m.deps.x3 :: .int .i64 X.m.deps.x4 :: .int .i64 X.m.deps.x5 :: .int .i64 X.m.deps.x6 :: .int .i64 X.phase :: .bool X.fast :: .bool X.apart :: .pointer (pa X.rp.x0) :: .pointer (pa X.rp.x1) :: .pointer (pa X.rp.x2) :: .pointer (pa X.rp.x3) :: .pointer (pa X.rp.x4) :: .pointer (pa X.rp.x5) :: .pointer (pa X.rp.x6) :: .int .i64 X.own.st :: X.own.cmd.v :: .int .i64 X.own.seq :: .int .i64 X.own.deps.x0 :: .int .i64 X.own.deps.x1 :: .int .i64 X.own.deps.x2 :: .int .i64 X.own.deps.x3 :: .int .i64 X.own.deps.x4 :: .int .i64 X.own.deps.x5 :: .int .i64 X.own.deps.x6 :: .int .i64 X.own.bal.1 :: .int .i64 X.own.bal.2 :: .int .i64 X.own.ab.1 :: .int .i64 X.own.ab.2 :: []) T_lead_Lead :: many oc X.rp.list :: many fch X.B :: L1) → St W0 (cells b [.bool a.ok, .int .i64 a.bal.1, .int .i64 a.bal.2, .int .i64 a.rc.st, a.rc.cmd.v, .int .i64 a.rc.seq, .int .i64 a.rc.deps.x0, .int .i64 a.rc.deps.x1, .int .i64 a.rc.deps.x2, .int .i64 a.rc.deps.x3, .int .i64 a.rc.deps.x4, .int .i64 a.rc.deps.x5, .int .i64 a.rc.deps.x6, .int .i64 a.rc.bal.1, .int .i64 a.rc.bal.2, .int .i64 a.rc.ab.1, .int .i64 a.rc.ab.2] T_inst_Answer :: cells q (.int .i64 X.n :: .int .i64 X.rep :: .pointer (some ⟨X.t, 0, none⟩) :: .int .i64 X.m.kind :: .int .i64 X.m.dot.rep :: .int .i64 X.m.dot.n :: .int .i64 X.m.bal.1 :: .int .i64 X.m.bal.2 :: X.m.cmd.v :: .int .i64 X.m.seq :: .int .i64 X.m.deps.x0 :: .int .i64 X.m.deps.x1 :: .int .i64 X.m.deps.x2 :: .int .i64 X.m.deps.x3 :: .int .i64 X.m.deps.x4 :: .int .i64 X.m.deps.x5 :: .int .i64 X.m.deps.x6 :: .int .i64 X.phase :: .bool X.fast :: .bool X.apart :: .pointer (pa X.rp.x0) :: .pointer (pa X.rp.x1) :: .pointer (pa X.rp.x2) :: .pointer (pa X.rp.x3) :: .pointer (pa X.rp.x4) :: .pointer (pa X.rp.x5) :: .pointer (pa X.rp.x6) :: .int .i64 X.own.st :: X.own.cmd.v :: .int .i64 X.own.seq :: .int .i64 X.own.deps.x0 :: .int .i64 X.own.deps.x1 :: .int .i64 X.own.deps.x2 :: .int .i64 X.own.deps.x3 :: .int .i64 X.own.deps.x4 :: .int .i64 X.own.deps.x5 :: .int .i64 X.own.deps.x6 :: .int .i64 X.own.bal.1 :: .int .i64 X.own.bal.2 :: .int .i64 X.own.ab.1 :: .int .i64 X.own.ab.2 :: []) T_lead_Lead :: many oc X.rp.list :: many fch X.B :: L1) W' → k (.bool false) W' :=
  fun W' hc _ h => hno (by unfold LD.got; exact (if_neg n1).trans (if_pos hc)) _ W' h
 have hd3 : ¬ (a.ok = true ∧ (a.bal ≠ X.m.bal ∨ X.abs.fits (a.rc.map BSl.bs) = false)) → a.rc.st = 3 → X.abs.got T fr (a.map BSl.bs) = (X.abs.dec T (a.rc.map BSl.bs) false, true) := fun n2 h3 => by
  unfold LD.got; exact (if_neg n1).trans ((if_neg n2).trans (if_pos h3))
 have hf4 : ¬ (a.ok = true ∧ (a.bal ≠ X.m.bal ∨ X.abs.fits (a.rc.map BSl.bs) = false)) → ¬ a.rc.st = 3 → a.ok = false → X.abs.got T fr (a.map BSl.bs) = (if cmpB a.bal.1 a.bal.2 X.m.bal.1 X.m.bal.2 ≤ 0 then ((X.abs, T), false) else (({ X.abs with phase := 5 }, T), true)) := fun n2 h3 h4 => by
  unfold LD.got; exact (if_neg n1).trans ((if_neg n2).trans ((if_neg h3).trans (if_pos h4)))
 cases c7 : a.ok with
 | false =>
  have n2 : ¬ (a.ok = true ∧ (a.bal ≠ X.m.bal ∨ X.abs.fits (a.rc.map BSl.bs) = false)) := fun h => by rw [c7] at h; cases h.1
  by_cases c8 : a.rc.st = 3
  ·have f8 := decide_eq_true c8
   (repeat (first | ((with_reducible refine v5 ?_); refine ⟨_, rfl, ?_⟩) | simp -implicitDefEqProofs only [SE, SU, SV, c7, f8]))
   exact hdec (hd3 n2 c8) _ (by exact St.tick (by assumption))
  have f8 := decide_eq_false c8
  have hf4 := hf4 n2 c8 c7
  by_cases c9 : cmpB a.bal.1 a.bal.2 X.m.bal.1 X.m.bal.2 ≤ 0
  ·rw [if_pos c9] at hf4
   (repeat (first | ((with_reducible refine w1 ?_); intros) | ((with_reducible refine v5 ?_); refine ⟨_, rfl, ?_⟩) | simp -implicitDefEqProofs only [SE, SU, SV, c7, f8, c9]))
   exact hno hf4 _ _ (by assumption)
  ·rw [if_neg c9] at hf4
   (repeat (first | ((with_reducible refine w1 ?_); intros) | ((with_reducible refine v5 ?_); refine ⟨_, rfl, ?_⟩) | ((with_reducible refine v12 ?_ ?_); exact rfl; intros) | simp -implicitDefEqProofs only [SE, SU, SV, c7, f8, c9]))
   rename_i h
   (try simp only [BLS, SB, stL_a, stL_b, stL_c, lsub_a, lsub_b, lsub_c, List.append_nil, List.take_nil, List.drop_nil, Nat.reduceAdd] at h)
   refine hfin _ hf4 { X with phase := 5 } _ rfl rfl (((St.wk (L' := cells q (.int .i64 ({ X with phase := 5 }).n :: .int .i64 ({ X with phase := 5 }).rep :: .pointer (some ⟨({ X with phase := 5 }).t, 0, none⟩) :: .int .i64 (({ X with phase := 5 }).m).kind :: .int .i64 ((({ X with phase := 5 }).m).dot).rep :: .int .i64 ((({ X with phase := 5 }).m).dot).n :: .int .i64 ((({ X with phase := 5 }).m).bal).1 :: .int .i64 ((({ X with phase := 5 }).m).bal).2 :: (({ X with phase := 5 }).m).cmd.v :: .int .i64 (({ X with phase := 5 }).m).seq :: .int .i64 ((({ X with phase := 5 }).m).deps).x0 :: .int .i64 ((({ X with phase := 5 }).m).deps).x1 :: .int .i64 ((({ X with phase := 5 }).m).deps).x2 :: .int .i64 ((({ X with phase := 5 }).m).deps).x3 :: .int .i64 ((({ X with phase := 5 }).m).deps).x4 :: .int .i64 ((({ X with phase := 5 }).m).deps).x5 :: .int .i64 ((({ X with phase := 5 }).m).deps).x6 :: .int .i64 ({ X with phase := 5 }).phase :: .bool ({ X with phase := 5 }).fast :: .bool ({ X with phase := 5 }).apart :: .pointer (pa (({ X with phase := 5 }).rp).x0) :: .pointer (pa (({ X with phase := 5 }).rp).x1) :: .pointer (pa (({ X with phase := 5 }).rp).x2) :: .pointer (pa (({ X with phase := 5 }).rp).x3) :: .pointer (pa (({ X with phase := 5 }).rp).x4) :: .pointer (pa (({ X with phase := 5 }).rp).x5) :: .pointer (pa (({ X with phase := 5 }).rp).x6) :: .int .i64 (({ X with phase := 5 }).own).st :: (({ X with phase := 5 }).own).cmd.v :: .int .i64 (({ X with phase := 5 }).own).seq :: .int .i64 ((({ X with phase := 5 }).own).deps).x0 :: .int .i64 ((({ X with phase := 5 }).own).deps).x1 :: .int .i64 ((({ X with phase := 5 }).own).deps).x2 :: .int .i64 ((({ X with phase := 5 }).own).deps).x3 :: .int .i64 ((({ X with phase := 5 }).own).deps).x4 :: .int .i64 ((({ X with phase := 5 }).own).deps).x5 :: .int .i64 ((({ X with phase := 5 }).own).deps).x6 :: .int .i64 ((({ X with phase := 5 }).own).bal).1 :: .int .i64 ((({ X with phase := 5 }).own).bal).2 :: .int .i64 ((({ X with phase := 5 }).own).ab).1 :: .int .i64 ((({ X with phase := 5 }).own).ab).2 :: []) T_lead_Lead :: many oc X.rp.list :: many fch X.B :: L1) h).ent (ldc_ent (X := { X with phase := 5 }) ⟨hX.rep, hX.m, hX.own, hX.rp, hX.len⟩)).perm (ht2.perm.cons _))
 | true =>
  have eb : (decide (a.bal.1 = X.m.bal.1) && decide (a.bal.2 = X.m.bal.2)) = decide (a.bal = X.m.bal) := by rw [Bool.eq_iff_iff]; simp [Prod.ext_iff]
  by_cases c8 : a.bal = X.m.bal
  ·rw [decide_eq_true c8] at eb
   (repeat (first | ((with_reducible first | refine v5 ?_ | refine vn ?_); refine ⟨_, rfl, ?_⟩) | simp -implicitDefEqProofs only [SE, SU, SV, c7, eb]))
   refine leadFits (X := X) (r := a.rc) (St.ent (L := cells q (.int .i64 X.n :: .int .i64 X.rep :: .pointer (some ⟨X.t, 0, none⟩) :: .int .i64 X.m.kind :: .int .i64 X.m.dot.rep :: .int .i64 X.m.dot.n :: .int .i64 X.m.bal.1 :: .int .i64 X.m.bal.2 :: X.m.cmd.v :: .int .i64 X.m.seq :: .int .i64 X.m.deps.x0 :: .int .i64 X.m.deps.x1 :: .int .i64 X.m.deps.x2 :: .int .i64 X.m.deps.x3 :: .int .i64 X.m.deps.x4 :: .int .i64 X.m.deps.x5 :: .int .i64 X.m.deps.x6 :: .int .i64 X.phase :: .bool X.fast :: .bool X.apart :: .pointer (pa X.rp.x0) :: .pointer (pa X.rp.x1) :: .pointer (pa X.rp.x2) :: .pointer (pa X.rp.x3) :: .pointer (pa X.rp.x4) :: .pointer (pa X.rp.x5) :: .pointer (pa X.rp.x6) :: .int .i64 X.own.st :: X.own.cmd.v :: .int .i64 X.own.seq :: .int .i64 X.own.deps.x0 :: .int .i64 X.own.deps.x1 :: .int .i64 X.own.deps.x2 :: .int .i64 X.own.deps.x3 :: .int .i64 X.own.deps.x4 :: .int .i64 X.own.deps.x5 :: .int .i64 X.own.deps.x6 :: .int .i64 X.own.bal.1 :: .int .i64 X.own.bal.2 :: .int .i64 X.own.ab.1 :: .int .i64 X.own.ab.2 :: []) T_lead_Lead :: many oc X.rp.list :: many fch X.B :: cells b [.bool a.ok, .int .i64 a.bal.1, .int .i64 a.bal.2, .int .i64 a.rc.st, a.rc.cmd.v, .int .i64 a.rc.seq, .int .i64 a.rc.deps.x0, .int .i64 a.rc.deps.x1, .int .i64 a.rc.deps.x2, .int .i64 a.rc.deps.x3, .int .i64 a.rc.deps.x4, .int .i64 a.rc.deps.x5, .int .i64 a.rc.deps.x6, .int .i64 a.rc.bal.1, .int .i64 a.rc.bal.2, .int .i64 a.rc.ab.1, .int .i64 a.rc.ab.2] T_inst_Answer :: L1) (St.wk (by exact St.tick (by assumption))) (ldc_ent hX)) fun W2 h => ?_
   obtain ⟨_, h⟩ := ldc_at h
   cases c9 : X.abs.fits (a.rc.map BSl.bs) with
   | false =>
    (repeat simp -implicitDefEqProofs only [SE, SU, SV])
    exact hn2 _ ⟨c7, .inr c9⟩ rfl (St.wk (by assumption))
   | true =>
   have n2 : ¬ (a.ok = true ∧ (a.bal ≠ X.m.bal ∨ X.abs.fits (a.rc.map BSl.bs) = false)) := fun h => by
    rcases h.2 with h | h
    ·exact h c8
    ·rw [c9] at h; cases h
   by_cases c10 : a.rc.st = 3
   ·have f10 := decide_eq_true c10
    (repeat (first | ((with_reducible refine v5 ?_); refine ⟨_, rfl, ?_⟩) | simp -implicitDefEqProofs only [SE, SU, SV, f10]))
    exact hdec (hd3 n2 c10) _ (St.wk (by assumption))
   have f10 := decide_eq_false c10
   have hg : X.abs.got T fr (a.map BSl.bs) = (let l1 : LD := { X.abs with recs := X.abs.recs.set fr.toNat (some (a.rc.map BSl.bs)) }
     if X.phase = 1 then ((LD.heard { l1 with apart := X.apart || decide (a.rc.seq ≠ X.own.seq) || decide (a.rc.deps ≠ X.own.deps) } T), true)
     else if X.phase = 2 then ((if l1.maj then l1.dec T ⟨0, X.m.cmd.bs, X.m.seq, X.m.deps, (0, 0), (0, 0)⟩ false else (l1, T)), true)
     else if X.phase = 4 then ((if l1.maj then l1.prepared T else (l1, T)), true)
     else ((l1, T), true)) := by
    unfold LD.got
    exact (if_neg n1).trans ((if_neg n2).trans ((if_neg c10).trans (if_neg (by rw [show (a.map BSl.bs).ok = true from c7]; simp))))
   clear hn2 hd3 hf4 hdec hno
   haveI : Rd W0 (many fch X.B :: cells b [.bool a.ok, .int .i64 a.bal.1, .int .i64 a.bal.2, .int .i64 a.rc.st, a.rc.cmd.v, .int .i64 a.rc.seq, .int .i64 a.rc.deps.x0, .int .i64 a.rc.deps.x1, .int .i64 a.rc.deps.x2, .int .i64 a.rc.deps.x3, .int .i64 a.rc.deps.x4, .int .i64 a.rc.deps.x5, .int .i64 a.rc.deps.x6, .int .i64 a.rc.bal.1, .int .i64 a.rc.bal.2, .int .i64 a.rc.ab.1, .int .i64 a.rc.ab.2] T_inst_Answer :: L1) a.rc.cmd.a B8 a.rc.cmd.bs := ⟨fun W h => hr.ok W h.drop2⟩
   (repeat (first | ((with_reducible refine w11 ?_); intros) | ((with_reducible refine v5 ?_); refine ⟨_, rfl, ?_⟩) | ((with_reducible refine v12 ?_ ?_); exact rfl; intros) | ((with_reducible refine w5 ?_ ?_); simp; refine ⟨_, rfl, ?_⟩) | ((with_reducible refine w12 ?_ ?_ ?_ ?_); simp; simp; simp [oneC]; intros) | simp -implicitDefEqProofs only [SE, SU, SV, c7, f10]))
   refine bytesClone (a := a.rc.cmd.a) (l := a.rc.cmd.bs) (by assumption) (by omega) fun ca cc W3 h => ?_
   (repeat (first | ((with_reducible refine v12 ?_ ?_); exact rfl; intros) | ((with_reducible refine w12 ?_ ?_ ?_ ?_); simp; simp; simp [oneC]; intros)))
   rename_i rb _ _ _ _ _ h
   (try simp only [BLS, SB, stL_a, stL_b, stL_c, lsub_a, lsub_b, lsub_c, List.append_nil, List.take_nil, List.drop_nil, Nat.reduceAdd] at h)
   let R : Rec BSl := { a.rc with cmd := ⟨ca, cc, a.rc.cmd.bs⟩ }
   let X1 : LX := { X with rp := X.rp.set fr.toNat (some (rb, R)), B := ⟨ca, cc, a.rc.cmd.bs⟩ :: X.B }
   have hX1 : X1.ok := by
    refine ⟨hX.rep, hX.m.cons, hX.own.cons, fun p hp => ?_, fun x hx => ?_⟩
    ·have : ∀ r ∈ (X.rp.set fr.toNat (some (rb, R))).list, r ∈ X.rp.list ∨ r = some (rb, R) := by
      intro r hr
      simp only [P7.set, P7.of, P7.list, List.mem_cons, List.not_mem_nil, or_false] at hr
      rcases hr with rfl | rfl | rfl | rfl | rfl | rfl | rfl
      all_goals
       split
       ·exact .inr rfl
       ·exact .inl (by simp [P7.list, P7.get])
     rcases this _ hp with h | h
     ·exact (hX.rp p h).cons
     ·cases h; exact InB.head _ _
    ·rcases List.mem_cons.1 hx with rfl | hx
     ·exact hl
     ·exact hX.len x hx
   have hX1a : X1.abs = { X.abs with recs := X.abs.recs.set fr.toNat (some (a.rc.map BSl.bs)) } := by
    unfold LX.abs
    simp only [X1, P7.map_set]
    rfl
   have hne : firstR X1.rp.list ≠ none := by
    intro hf
    have h1 : some (rb, R) ∈ X1.rp.list := by
     have := get7_mem X1.rp hlt
     rwa [show X1.rp.get fr.toNat = some (rb, R) from by rw [show X1.rp = X.rp.set fr.toNat (some (rb, R)) from rfl, P7.get_set _ _ _ _ hlt, if_pos rfl]] at this
    have h2 : ∀ (l : List RX), firstR l = none → ∀ r ∈ l, r = none := by
     intro l
     induction l with
     | nil => intro _ r hr; cases hr
     | cons x l ih =>
      cases x with
      | none => intro h r hr; rcases List.mem_cons.1 hr with rfl | hr; rfl; exact ih h r hr
      | some y => intro h; cases h
    have := h2 _ hf _ h1
    cases this
   have hg' : X.abs.got T fr (a.map BSl.bs) = (if X.phase = 1 then ((LD.heard { X1.abs with apart := X.apart || decide (a.rc.seq ≠ X.own.seq) || decide (a.rc.deps ≠ X.own.deps) } T), true)
     else if X.phase = 2 then ((if X1.abs.maj then X1.abs.dec T ⟨0, X.m.cmd.bs, X.m.seq, X.m.deps, (0, 0), (0, 0)⟩ false else (X1.abs, T)), true)
     else if X.phase = 4 then ((if X1.abs.maj then X1.abs.prepared T else (X1.abs, T)), true)
     else ((X1.abs, T), true)) := by
    rw [hg, hX1a]
   clear hg
   have h4 := St.wk (L' := cells q (.int .i64 X.n :: .int .i64 X.rep :: .pointer (some ⟨X.t, 0, none⟩) :: .int .i64 X.m.kind :: .int .i64 X.m.dot.rep :: .int .i64 X.m.dot.n :: .int .i64 X.m.bal.1 :: .int .i64 X.m.bal.2 :: X.m.cmd.v :: .int .i64 X.m.seq :: .int .i64 X.m.deps.x0 :: .int .i64 X.m.deps.x1 :: .int .i64 X.m.deps.x2 :: .int .i64 X.m.deps.x3 :: .int .i64 X.m.deps.x4 :: .int .i64 X.m.deps.x5 :: .int .i64 X.m.deps.x6 :: .int .i64 X.phase :: .bool X.fast :: .bool X.apart :: .pointer (pa X.rp.x0) :: .pointer (pa X.rp.x1) :: .pointer (pa X.rp.x2) :: .pointer (pa X.rp.x3) :: .pointer (pa X.rp.x4) :: .pointer (pa X.rp.x5) :: .pointer (pa X.rp.x6) :: .int .i64 X.own.st :: X.own.cmd.v :: .int .i64 X.own.seq :: .int .i64 X.own.deps.x0 :: .int .i64 X.own.deps.x1 :: .int .i64 X.own.deps.x2 :: .int .i64 X.own.deps.x3 :: .int .i64 X.own.deps.x4 :: .int .i64 X.own.deps.x5 :: .int .i64 X.own.deps.x6 :: .int .i64 X.own.bal.1 :: .int .i64 X.own.bal.2 :: .int .i64 X.own.ab.1 :: .int .i64 X.own.ab.2 :: []) T_lead_Lead :: cells rb [.int .i64 R.st, R.cmd.v, .int .i64 R.seq, .int .i64 R.deps.x0, .int .i64 R.deps.x1, .int .i64 R.deps.x2, .int .i64 R.deps.x3, .int .i64 R.deps.x4, .int .i64 R.deps.x5, .int .i64 R.deps.x6, .int .i64 R.bal.1, .int .i64 R.bal.2, .int .i64 R.ab.1, .int .i64 R.ab.2] T_inst_Rec :: many oc X.rp.list :: fch ⟨ca, cc, a.rc.cmd.bs⟩ :: many fch X.B :: L1) h
   clear h
   refine stoRec (Y := X) (i := fr.toNat) (r := R) hlt h4 fun W4 h => ?_
   clear h4
   have hcl : ∀ (ap : Bool) W', St W0 (cells q (.int .i64 ({ X1 with apart := ap }).n :: .int .i64 ({ X1 with apart := ap }).rep :: .pointer (some ⟨({ X1 with apart := ap }).t, 0, none⟩) :: .int .i64 (({ X1 with apart := ap }).m).kind :: .int .i64 ((({ X1 with apart := ap }).m).dot).rep :: .int .i64 ((({ X1 with apart := ap }).m).dot).n :: .int .i64 ((({ X1 with apart := ap }).m).bal).1 :: .int .i64 ((({ X1 with apart := ap }).m).bal).2 :: (({ X1 with apart := ap }).m).cmd.v :: .int .i64 (({ X1 with apart := ap }).m).seq :: .int .i64 ((({ X1 with apart := ap }).m).deps).x0 :: .int .i64 ((({ X1 with apart := ap }).m).deps).x1 :: .int .i64 ((({ X1 with apart := ap }).m).deps).x2 :: .int .i64 ((({ X1 with apart := ap }).m).deps).x3 :: .int .i64 ((({ X1 with apart := ap }).m).deps).x4 :: .int .i64 ((({ X1 with apart := ap }).m).deps).x5 :: .int .i64 ((({ X1 with apart := ap }).m).deps).x6 :: .int .i64 ({ X1 with apart := ap }).phase :: .bool ({ X1 with apart := ap }).fast :: .bool ({ X1 with apart := ap }).apart :: .pointer (pa (({ X1 with apart := ap }).rp).x0) :: .pointer (pa (({ X1 with apart := ap }).rp).x1) :: .pointer (pa (({ X1 with apart := ap }).rp).x2) :: .pointer (pa (({ X1 with apart := ap }).rp).x3) :: .pointer (pa (({ X1 with apart := ap }).rp).x4) :: .pointer (pa (({ X1 with apart := ap }).rp).x5) :: .pointer (pa (({ X1 with apart := ap }).rp).x6) :: .int .i64 (({ X1 with apart := ap }).own).st :: (({ X1 with apart := ap }).own).cmd.v :: .int .i64 (({ X1 with apart := ap }).own).seq :: .int .i64 ((({ X1 with apart := ap }).own).deps).x0 :: .int .i64 ((({ X1 with apart := ap }).own).deps).x1 :: .int .i64 ((({ X1 with apart := ap }).own).deps).x2 :: .int .i64 ((({ X1 with apart := ap }).own).deps).x3 :: .int .i64 ((({ X1 with apart := ap }).own).deps).x4 :: .int .i64 ((({ X1 with apart := ap }).own).deps).x5 :: .int .i64 ((({ X1 with apart := ap }).own).deps).x6 :: .int .i64 ((({ X1 with apart := ap }).own).bal).1 :: .int .i64 ((({ X1 with apart := ap }).own).bal).2 :: .int .i64 ((({ X1 with apart := ap }).own).ab).1 :: .int .i64 ((({ X1 with apart := ap }).own).ab).2 :: []) T_lead_Lead :: cells rb [.int .i64 R.st, R.cmd.v, .int .i64 R.seq, .int .i64 R.deps.x0, .int .i64 R.deps.x1, .int .i64 R.deps.x2, .int .i64 R.deps.x3, .int .i64 R.deps.x4, .int .i64 R.deps.x5, .int .i64 R.deps.x6, .int .i64 R.bal.1, .int .i64 R.bal.2, .int .i64 R.ab.1, .int .i64 R.ab.2] T_inst_Rec :: many oc X.rp.list :: fch ⟨ca, cc, a.rc.cmd.bs⟩ :: many fch X.B :: L1) W' → St W0 (ldc q { X1 with apart := ap } :: L1) W' := fun ap W' h =>
    (h.entd (entd.cons _ (oc_set hlt X.rp rb R))).ent (ldc_close (X := X) (x := ⟨ca, cc, a.rc.cmd.bs⟩) hX hl { X1 with apart := ap } rfl ⟨hX1.rep, hX1.m, hX1.own, hX1.rp, hX1.len⟩)
   by_cases p1 : X.phase = 1
   ·have q1 := decide_eq_true p1
    rw [if_pos p1] at hg'
    have hH : ∀ (b' : Bool) W', b' = (X.apart || decide (a.rc.seq ≠ X.own.seq) || decide (a.rc.deps ≠ X.own.deps)) → St W0 (cells q (.int .i64 ({ X1 with apart := b' }).n :: .int .i64 ({ X1 with apart := b' }).rep :: .pointer (some ⟨({ X1 with apart := b' }).t, 0, none⟩) :: .int .i64 (({ X1 with apart := b' }).m).kind :: .int .i64 ((({ X1 with apart := b' }).m).dot).rep :: .int .i64 ((({ X1 with apart := b' }).m).dot).n :: .int .i64 ((({ X1 with apart := b' }).m).bal).1 :: .int .i64 ((({ X1 with apart := b' }).m).bal).2 :: (({ X1 with apart := b' }).m).cmd.v :: .int .i64 (({ X1 with apart := b' }).m).seq :: .int .i64 ((({ X1 with apart := b' }).m).deps).x0 :: .int .i64 ((({ X1 with apart := b' }).m).deps).x1 :: .int .i64 ((({ X1 with apart := b' }).m).deps).x2 :: .int .i64 ((({ X1 with apart := b' }).m).deps).x3 :: .int .i64 ((({ X1 with apart := b' }).m).deps).x4 :: .int .i64 ((({ X1 with apart := b' }).m).deps).x5 :: .int .i64 ((({ X1 with apart := b' }).m).deps).x6 :: .int .i64 ({ X1 with apart := b' }).phase :: .bool ({ X1 with apart := b' }).fast :: .bool ({ X1 with apart := b' }).apart :: .pointer (pa (({ X1 with apart := b' }).rp).x0) :: .pointer (pa (({ X1 with apart := b' }).rp).x1) :: .pointer (pa (({ X1 with apart := b' }).rp).x2) :: .pointer (pa (({ X1 with apart := b' }).rp).x3) :: .pointer (pa (({ X1 with apart := b' }).rp).x4) :: .pointer (pa (({ X1 with apart := b' }).rp).x5) :: .pointer (pa (({ X1 with apart := b' }).rp).x6) :: .int .i64 (({ X1 with apart := b' }).own).st :: (({ X1 with apart := b' }).own).cmd.v :: .int .i64 (({ X1 with apart := b' }).own).seq :: .int .i64 ((({ X1 with apart := b' }).own).deps).x0 :: .int .i64 ((({ X1 with apart := b' }).own).deps).x1 :: .int .i64 ((({ X1 with apart := b' }).own).deps).x2 :: .int .i64 ((({ X1 with apart := b' }).own).deps).x3 :: .int .i64 ((({ X1 with apart := b' }).own).deps).x4 :: .int .i64 ((({ X1 with apart := b' }).own).deps).x5 :: .int .i64 ((({ X1 with apart := b' }).own).deps).x6 :: .int .i64 ((({ X1 with apart := b' }).own).bal).1 :: .int .i64 ((({ X1 with apart := b' }).own).bal).2 :: .int .i64 ((({ X1 with apart := b' }).own).ab).1 :: .int .i64 ((({ X1 with apart := b' }).own).ab).2 :: []) T_lead_Lead :: cells rb [.int .i64 R.st, R.cmd.v, .int .i64 R.seq, .int .i64 R.deps.x0, .int .i64 R.deps.x1, .int .i64 R.deps.x2, .int .i64 R.deps.x3, .int .i64 R.deps.x4, .int .i64 R.deps.x5, .int .i64 R.deps.x6, .int .i64 R.bal.1, .int .i64 R.bal.2, .int .i64 R.ab.1, .int .i64 R.ab.2] T_inst_Rec :: many oc X.rp.list :: fch ⟨ca, cc, a.rc.cmd.bs⟩ :: many fch X.B :: L1) W' →
      callK PR F_lead_Lead_heard [.pointer (some ⟨q, 0, none⟩)] (fun v139 W => k (.bool true) W) W' := by
     rintro _ W' rfl h
     refine leadHeard (hcl _ _ h) fun X' W' e1 e2 h => ?_
     exact hfin _ hg' X' _ e1 e2 h
    have ed : (decide (R.deps.x0 = X.own.deps.x0) && (decide (R.deps.x1 = X.own.deps.x1) && (decide (R.deps.x2 = X.own.deps.x2) && (decide (R.deps.x3 = X.own.deps.x3) && (decide (R.deps.x4 = X.own.deps.x4) && (decide (R.deps.x5 = X.own.deps.x5) && decide (R.deps.x6 = X.own.deps.x6))))))) = decide (R.deps = X.own.deps) := by
     generalize R.deps = u
     generalize X.own.deps = v
     rw [Bool.eq_iff_iff]; cases u; cases v; simp
    clear hg' hcl hfin
    cases ha : X.apart with
    | true =>
     (repeat (first | ((with_reducible refine v5 ?_); refine ⟨_, rfl, ?_⟩) | ((with_reducible refine v12 ?_ ?_); exact rfl; intros) | simp -implicitDefEqProofs only [SE, SU, SV, q1, ha]))
     exact hH true _ (by rw [ha]; simp) (by assumption)
    | false =>
     by_cases s1 : a.rc.seq = X.own.seq
     ·have g1 : decide (R.seq = X.own.seq) = true := decide_eq_true s1
      by_cases s2 : a.rc.deps = X.own.deps
      ·rw [show decide (R.deps = X.own.deps) = true from decide_eq_true s2] at ed
       (repeat (first | ((with_reducible first | refine v5 ?_ | refine vn ?_); refine ⟨_, rfl, ?_⟩) | ((with_reducible refine v12 ?_ ?_); exact rfl; intros) | simp -implicitDefEqProofs only [SE, SU, SV, q1, ha, g1, ed]))
       refine hH _ _ ?_ (by assumption)
       simp only [intB, Bool.and_true]
       rw [ed, ha]; simp [s1, s2]
      ·rw [show decide (R.deps = X.own.deps) = false from decide_eq_false s2] at ed
       (repeat (first | ((with_reducible first | refine v5 ?_ | refine vn ?_); refine ⟨_, rfl, ?_⟩) | ((with_reducible refine v12 ?_ ?_); exact rfl; intros) | simp -implicitDefEqProofs only [SE, SU, SV, q1, ha, g1, ed]))
       refine hH _ _ ?_ (by assumption)
       simp only [intB, Bool.and_true]
       rw [ed, ha]; simp [s2]
     ·have g1 : decide (R.seq = X.own.seq) = false := decide_eq_false s1
      (repeat (first | ((with_reducible refine v5 ?_); refine ⟨_, rfl, ?_⟩) | ((with_reducible refine v12 ?_ ?_); exact rfl; intros) | simp -implicitDefEqProofs only [SE, SU, SV, q1, ha, g1]))
      exact hH true _ (by rw [ha]; simp [s1]) (by assumption)
   have q1 := decide_eq_false p1
   rw [if_neg p1] at hg'
   have hcl := hcl X.apart
   by_cases p2 : X.phase = 2
   ·have q2 := decide_eq_true p2
    rw [if_pos p2] at hg'
    (repeat (first | ((with_reducible refine v5 ?_); refine ⟨_, rfl, ?_⟩) | simp -implicitDefEqProofs only [SE, SU, SV, q1, q2]))
    refine leadMaj (X := X1) (hcl _ (by assumption)) fun W5 h => ?_
    cases hm : X1.abs.maj with
    | false =>
     rw [hm] at hg'
     (repeat simp -implicitDefEqProofs only [SE, SU, SV])
     exact hfin _ hg' X1 _ rfl rfl (St.perm (by assumption) (ht2.perm.cons _))
    | true =>
     rw [hm] at hg'
     obtain ⟨_, h⟩ := ldc_at h
     (repeat (first | ((with_reducible refine v5 ?_); refine ⟨_, rfl, ?_⟩) | (refine okF_i (bldP_eq rfl) ?_; try simp only [BLS, SB, Nat.reduceAdd]) | simp -implicitDefEqProofs only [SE, SU, SV]))
     haveI : Rd W0 (many fch X1.B :: L1) X1.m.cmd.a B8 X1.m.cmd.bs := rdMany hX1.m
     refine leadDec (X := X1) (r := ⟨0, X1.m.cmd, X1.m.seq, X1.m.deps, (0, 0), (0, 0)⟩) (St.ent (by exact St.tick (by assumption)) (ldc_ent hX1)) (hX1.m.len hX1.len) fun X' W' e1 e2 h => ?_
     skip
     exact hfin _ hg' X' _ e1 e2 (by assumption)
   have q2 := decide_eq_false p2
   rw [if_neg p2] at hg'
   by_cases p4 : X.phase = 4
   ·have q4 := decide_eq_true p4
    rw [if_pos p4] at hg'
    (repeat (first | ((with_reducible refine v5 ?_); refine ⟨_, rfl, ?_⟩) | simp -implicitDefEqProofs only [SE, SU, SV, q1, q2, q4]))
    refine leadMaj (X := X1) (hcl _ (by assumption)) fun W5 h => ?_
    cases hm : X1.abs.maj with
    | false =>
     rw [hm] at hg'
     (repeat simp -implicitDefEqProofs only [SE, SU, SV])
     exact hfin _ hg' X1 _ rfl rfl (St.perm (by assumption) (ht2.perm.cons _))
    | true =>
     rw [hm] at hg'
     (repeat simp -implicitDefEqProofs only [SE, SU, SV])
     refine leadPrepared (X := X1) hne (by assumption) fun X' W' e1 e2 h => ?_
     skip
     exact hfin _ hg' X' _ e1 e2 (by assumption)
   have q4 := decide_eq_false p4
   rw [if_neg p4] at hg'
   (repeat (first | ((with_reducible refine v5 ?_); refine ⟨_, rfl, ?_⟩) | simp -implicitDefEqProofs only [SE, SU, SV, q1, q2, q4]))
   exact hfin _ hg' X1 _ rfl rfl (St.perm (hcl _ (by assumption)) (ht2.perm.cons _))
  ·rw [decide_eq_false c8] at eb
   (repeat (first | ((with_reducible first | refine v5 ?_ | refine vn ?_); refine ⟨_, rfl, ?_⟩) | simp -implicitDefEqProofs only [SE, SU, SV, c7, eb]))
   exact hn2 _ ⟨c7, .inl c8⟩ rfl (by exact St.tick (by assumption))
end
end Go.Proofs.YtfhacbhgmnhmlaaGreat
