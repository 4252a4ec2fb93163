/- Texts of the claim PaxStays, joined: CLead8, ShPax, Opn, Opn2, Lz, CPax, CPax2, CPax3, LOrd0, CPax4, CPax5, CPax6, CPax7. -/
import Derived.Test.YtfhacbhgmnhmlaaGreatBPaxStays8
import Derived.Test.YtfhacbhgmnhmlaaGreatBPaxStays1
import Derived.Test.YtfhacbhgmnhmlaaGreatBPaxStays2
import Derived.Deep.Slices
import Derived.OpenShut
import Derived.ShutString
import Derived.ChangeOld
import Derived.Carry
import Derived.Test.YtfhacbhgmnhmlaaGreatBPaxStays7
namespace Go.Proofs.YtfhacbhgmnhmlaaGreat
set_option linter.unusedVariables false
set_option linter.unusedSimpArgs false
open Go Go.Eng
section
variable {W0 W : World} {L L' L1 : List Asn}
abbrev ldZX (n rep : Int) (p : Nat) (x : BSl) : LX := ⟨n, rep, p, msgZX, 0, false, false, P7.all none, recZX, [x]⟩
theorem leadNewBegin {n rep : Int} {p q : Nat} {T : Tbl} {ph : Int} {m : Msg BSl} {k : Value → World → Prop} (hg : goodL n rep = true) (hl : m.cmd.bs.length < 1099511627776)
  (h : St W0 (cells q (.int .i64 (ldZX n rep p m.cmd).n :: .int .i64 (ldZX n rep p m.cmd).rep :: .pointer (some ⟨(ldZX n rep p m.cmd).t, 0, none⟩) :: .int .i64 ((ldZX n rep p m.cmd).m).kind :: .int .i64 (((ldZX n rep p m.cmd).m).dot).rep :: .int .i64 (((ldZX n rep p m.cmd).m).dot).n :: .int .i64 (((ldZX n rep p m.cmd).m).bal).1 :: .int .i64 (((ldZX n rep p m.cmd).m).bal).2 :: ((ldZX n rep p m.cmd).m).cmd.v :: .int .i64 ((ldZX n rep p m.cmd).m).seq :: .int .i64 (((ldZX n rep p m.cmd).m).deps).x0 :: .int .i64 (((ldZX n rep p m.cmd).m).deps).x1 :: .int .i64 (((ldZX n rep p m.cmd).m).deps).x2 :: .int .i64 (((ldZX n rep p m.cmd).m).deps).x3 :: .int .i64 (((ldZX n rep p m.cmd).m).deps).x4 :: .int .i64 (((ldZX n rep p m.cmd).m).deps).x5 :: .int .i64 (((ldZX n rep p m.cmd).m).deps).x6 :: .int .i64 (ldZX n rep p m.cmd).phase :: .bool (ldZX n rep p m.cmd).fast :: .bool (ldZX n rep p m.cmd).apart :: .pointer (pa ((ldZX n rep p m.cmd).rp).x0) :: .pointer (pa ((ldZX n rep p m.cmd).rp).x1) :: .pointer (pa ((ldZX n rep p m.cmd).rp).x2) :: .pointer (pa ((ldZX n rep p m.cmd).rp).x3) :: .pointer (pa ((ldZX n rep p m.cmd).rp).x4) :: .pointer (pa ((ldZX n rep p m.cmd).rp).x5) :: .pointer (pa ((ldZX n rep p m.cmd).rp).x6) :: .int .i64 ((ldZX n rep p m.cmd).own).st :: ((ldZX n rep p m.cmd).own).cmd.v :: .int .i64 ((ldZX n rep p m.cmd).own).seq :: .int .i64 (((ldZX n rep p m.cmd).own).deps).x0 :: .int .i64 (((ldZX n rep p m.cmd).own).deps).x1 :: .int .i64 (((ldZX n rep p m.cmd).own).deps).x2 :: .int .i64 (((ldZX n rep p m.cmd).own).deps).x3 :: .int .i64 (((ldZX n rep p m.cmd).own).deps).x4 :: .int .i64 (((ldZX n rep p m.cmd).own).deps).x5 :: .int .i64 (((ldZX n rep p m.cmd).own).deps).x6 :: .int .i64 (((ldZX n rep p m.cmd).own).bal).1 :: .int .i64 (((ldZX n rep p m.cmd).own).bal).2 :: .int .i64 (((ldZX n rep p m.cmd).own).ab).1 :: .int .i64 (((ldZX n rep p m.cmd).own).ab).2 :: []) T_lead_Lead :: fch m.cmd :: tb p T :: L') W)
  (hk : ∀ (X' : LX) W', X'.t = p → X'.abs = ((ldZ n rep).begin T ph (m.map BSl.bs)).1 → St W0 (ldc q X' :: tb p ((ldZ n rep).begin T ph (m.map BSl.bs)).2 :: L') W' → k (.tuple #[]) W') :
  callK PR F_lead_Lead_begin [.pointer (some ⟨q, 0, none⟩), .int .i64 ph, .agg #[.int .i64 m.kind, .int .i64 m.dot.rep, .int .i64 m.dot.n, .int .i64 m.bal.1, .int .i64 m.bal.2, m.cmd.v, .int .i64 m.seq, .int .i64 m.deps.x0, .int .i64 m.deps.x1, .int .i64 m.deps.x2, .int .i64 m.deps.x3, .int .i64 m.deps.x4, .int .i64 m.deps.x5, .int .i64 m.deps.x6]] k W := by
 have hX : (ldZX n rep p m.cmd).ok := by
  refine ⟨?_, .inl rfl, .inl rfl, fun p hp => ?_, fun x hx => ?_⟩
  ·unfold goodL at hg; simp at hg; exact ⟨hg.1, hg.2.1, hg.2.2.1, hg.2.2.2⟩
  ·simp [P7.list] at hp
  ·rcases List.mem_cons.1 hx with rfl | hx
   ·exact hl
   ·cases hx
 have h1 := (h.ent (ent.cons _ (((ent.cons _ (many_nil (F := fch))).trans (many_uncons (F := fch) m.cmd [])).trans oc_none))).ent (ldc_ent hX)
 exact leadBegin (X := ldZX n rep p m.cmd) h1 (InB.head _ _) hk
abbrev pmX (d : Dot) (rep : Int) (x : BSl) : Msg BSl := ⟨1, d, (0, rep), x, 0, P7.all 0⟩
theorem leadPropose_j1 {n rep : Int} {d : Dot} {x : BSl} {p db mb : Nat} {T : Tbl} {k : Value → World → Prop} (hl : x.bs.length < 1099511627776)
  (h : St W0 (cells mb [.int .i64 (pmX d rep x).kind, .int .i64 ((pmX d rep x).dot).rep, .int .i64 ((pmX d rep x).dot).n, .int .i64 ((pmX d rep x).bal).1, .int .i64 ((pmX d rep x).bal).2, (pmX d rep x).cmd.v, .int .i64 (pmX d rep x).seq, .int .i64 ((pmX d rep x).deps).x0, .int .i64 ((pmX d rep x).deps).x1, .int .i64 ((pmX d rep x).deps).x2, .int .i64 ((pmX d rep x).deps).x3, .int .i64 ((pmX d rep x).deps).x4, .int .i64 ((pmX d rep x).deps).x5, .int .i64 ((pmX d rep x).deps).x6] T_inst_Msg :: fch x :: cells db [.int .i64 d.rep, .int .i64 d.n] T_api_Dot :: tb p T :: L') W)
  (hk1 : ∀ e W', propose n rep d x.bs T = .inr e → St W0 (tb p T :: L') W' → k (.tuple #[.pointer none, .int .i64 e]) W')
  (hk2 : ∀ q (X' : LX) T' W', propose n rep d x.bs T = .inl (X'.abs, T') → X'.t = p → St W0 (ldc q X' :: tb p T' :: L') W' → k (.tuple #[.pointer (some ⟨q, 0, none⟩), .int .i64 0]) W') :
  S.lead_Propose.j1 k (.int .i64 n) (.int .i64 rep) (.pointer (some ⟨p, 0, none⟩)) (.pointer (some ⟨db, 0, none⟩)) (.pointer (some ⟨mb, 0, none⟩)) W := by
 delta S.lead_Propose.j1 oK oA rD lD eF eU sT cL vC gD gX gP gA gR gL gE gU gC gV hL sB nI
 have e1 : (goodL n rep = false ∨ d.rep ≠ rep ∨ (Msg.may ⟨1, d, (0, rep), x.bs, 0, P7.all 0⟩) = false) → propose n rep d x.bs T = .inr 1 := fun h => if_pos h
 cases hg : goodL n rep with
 | false =>
  (repeat (first | ((with_reducible refine w1 ?_); intros) | simp -implicitDefEqProofs only [SE, SU, SV, hg]))
  exact hk1 1 _ (e1 (.inl hg)) (St.wk (by assumption))
 | true =>
 by_cases hd : d.rep = rep
 ·have fd := decide_eq_true hd
  (repeat (first | ((with_reducible refine w1 ?_); intros) | ((with_reducible refine v5 ?_); refine ⟨_, rfl, ?_⟩) | simp -implicitDefEqProofs only [SE, SU, SV, hg, fd]))
  refine instMay (m := pmX d rep x) (by assumption) fun W1 h => ?_
  rw [show (Msg.map BSl.bs (pmX d rep x)) = ⟨1, d, (0, rep), x.bs, 0, P7.all 0⟩ from rfl]
  cases hm : (Msg.may ⟨1, d, (0, rep), x.bs, 0, P7.all 0⟩) with
  | false =>
   (repeat simp -implicitDefEqProofs only [SE, SU, SV])
   exact hk1 1 _ (e1 (.inr (.inr hm))) (St.wk (by assumption))
  | true =>
  have n1 : ¬ (goodL n rep = false ∨ d.rep ≠ rep ∨ (Msg.may ⟨1, d, (0, rep), x.bs, 0, P7.all 0⟩) = false) := by rintro (h | h | h); rw [hg] at h; cases h; exact h hd; rw [hm] at h; cases h
  (repeat (first | ((with_reducible refine v5 ?_); refine ⟨_, rfl, ?_⟩) | simp -implicitDefEqProofs only [SE, SU, SV]))
  refine instRec (d := d) (by assumption) fun r W2 hr h => ?_
  have e5 : (0 < r.st ∨ r.bal ≠ (0, 0)) → propose n rep d x.bs T = .inr 5 := fun h => (if_neg n1).trans (if_pos (by rw [← hr]; exact h))
  have e6 : ¬ (0 < r.st ∨ r.bal ≠ (0, 0)) → propose n rep d x.bs T = .inl ((ldZ n rep).begin T 1 ⟨1, d, (0, rep), x.bs, 0, P7.all 0⟩) := fun h => (if_neg n1).trans (if_neg (by rw [← hr]; exact h))
  have eb : (decide (r.bal.1 = 0) && decide (r.bal.2 = 0)) = decide (r.bal = (0, 0)) := by rw [Bool.eq_iff_iff]; simp [Prod.ext_iff]
  by_cases c1 : 0 < r.st
  ·(repeat (first | ((with_reducible refine w11 ?_); intros) | ((with_reducible refine v5 ?_); refine ⟨_, rfl, ?_⟩) | ((with_reducible refine v12 ?_ ?_); exact rfl; intros) | ((with_reducible refine w5 ?_ ?_); simp; refine ⟨_, rfl, ?_⟩) | ((with_reducible refine w12 ?_ ?_ ?_ ?_); simp; simp; simp [oneC]; intros) | simp -implicitDefEqProofs only [SE, SU, SV, c1]))
   exact hk1 5 _ (e5 (.inl c1)) (St.wk (by assumption))
  by_cases c2 : r.bal = (0, 0)
  ·rw [decide_eq_true c2] at eb
   (repeat (first | ((with_reducible first | refine w3 ?_ | refine w11 ?_); intros) | ((with_reducible first | refine v5 ?_ | refine vn ?_); refine ⟨_, rfl, ?_⟩) | ((with_reducible refine v12 ?_ ?_); exact rfl; intros) | ((with_reducible refine w5 ?_ ?_); simp; refine ⟨_, rfl, ?_⟩) | ((with_reducible refine w12 ?_ ?_ ?_ ?_); simp; simp; simp [oneC]; intros) | (refine okF_i (bldP_eq rfl) ?_; try simp only [BLS, SB, Nat.reduceAdd]) | simp -implicitDefEqProofs only [SE, SU, SV, c1, eb]))
   rename_i q W3 h
   have h1 := St.wk (L' := cells q (.int .i64 (ldZX n rep p x).n :: .int .i64 (ldZX n rep p x).rep :: .pointer (some ⟨(ldZX n rep p x).t, 0, none⟩) :: .int .i64 ((ldZX n rep p x).m).kind :: .int .i64 (((ldZX n rep p x).m).dot).rep :: .int .i64 (((ldZX n rep p x).m).dot).n :: .int .i64 (((ldZX n rep p x).m).bal).1 :: .int .i64 (((ldZX n rep p x).m).bal).2 :: ((ldZX n rep p x).m).cmd.v :: .int .i64 ((ldZX n rep p x).m).seq :: .int .i64 (((ldZX n rep p x).m).deps).x0 :: .int .i64 (((ldZX n rep p x).m).deps).x1 :: .int .i64 (((ldZX n rep p x).m).deps).x2 :: .int .i64 (((ldZX n rep p x).m).deps).x3 :: .int .i64 (((ldZX n rep p x).m).deps).x4 :: .int .i64 (((ldZX n rep p x).m).deps).x5 :: .int .i64 (((ldZX n rep p x).m).deps).x6 :: .int .i64 (ldZX n rep p x).phase :: .bool (ldZX n rep p x).fast :: .bool (ldZX n rep p x).apart :: .pointer (pa ((ldZX n rep p x).rp).x0) :: .pointer (pa ((ldZX n rep p x).rp).x1) :: .pointer (pa ((ldZX n rep p x).rp).x2) :: .pointer (pa ((ldZX n rep p x).rp).x3) :: .pointer (pa ((ldZX n rep p x).rp).x4) :: .pointer (pa ((ldZX n rep p x).rp).x5) :: .pointer (pa ((ldZX n rep p x).rp).x6) :: .int .i64 ((ldZX n rep p x).own).st :: ((ldZX n rep p x).own).cmd.v :: .int .i64 ((ldZX n rep p x).own).seq :: .int .i64 (((ldZX n rep p x).own).deps).x0 :: .int .i64 (((ldZX n rep p x).own).deps).x1 :: .int .i64 (((ldZX n rep p x).own).deps).x2 :: .int .i64 (((ldZX n rep p x).own).deps).x3 :: .int .i64 (((ldZX n rep p x).own).deps).x4 :: .int .i64 (((ldZX n rep p x).own).deps).x5 :: .int .i64 (((ldZX n rep p x).own).deps).x6 :: .int .i64 (((ldZX n rep p x).own).bal).1 :: .int .i64 (((ldZX n rep p x).own).bal).2 :: .int .i64 (((ldZX n rep p x).own).ab).1 :: .int .i64 (((ldZX n rep p x).own).ab).2 :: []) T_lead_Lead :: fch x :: tb p T :: cells mb [.int .i64 (pmX d rep x).kind, .int .i64 ((pmX d rep x).dot).rep, .int .i64 ((pmX d rep x).dot).n, .int .i64 ((pmX d rep x).bal).1, .int .i64 ((pmX d rep x).bal).2, (pmX d rep x).cmd.v, .int .i64 (pmX d rep x).seq, .int .i64 ((pmX d rep x).deps).x0, .int .i64 ((pmX d rep x).deps).x1, .int .i64 ((pmX d rep x).deps).x2, .int .i64 ((pmX d rep x).deps).x3, .int .i64 ((pmX d rep x).deps).x4, .int .i64 ((pmX d rep x).deps).x5, .int .i64 ((pmX d rep x).deps).x6] T_inst_Msg :: L') h
   refine leadNewBegin (m := pmX d rep x) hg hl h1 fun X' W' e2 e3 h => ?_
   refine hk2 q X' ((ldZ n rep).begin T 1 (Msg.map BSl.bs (pmX d rep x))).2 _ ?_ e2 (St.wk h)
   rw [e6 (by rintro (h | h); exact c1 h; exact h c2), e3]
   rfl
  ·rw [decide_eq_false c2] at eb
   (repeat (first | ((with_reducible refine w11 ?_); intros) | ((with_reducible first | refine v5 ?_ | refine vn ?_); refine ⟨_, rfl, ?_⟩) | ((with_reducible refine v12 ?_ ?_); exact rfl; intros) | ((with_reducible refine w5 ?_ ?_); simp; refine ⟨_, rfl, ?_⟩) | ((with_reducible refine w12 ?_ ?_ ?_ ?_); simp; simp; simp [oneC]; intros) | (refine okF_i (bldP_eq rfl) ?_; try simp only [BLS, SB, Nat.reduceAdd]) | simp -implicitDefEqProofs only [SE, SU, SV, c1, eb]))
   exact hk1 5 _ (e5 (.inr c2)) (St.wk (by assumption))
 ·have fd := decide_eq_false hd
  (repeat (first | ((with_reducible refine w1 ?_); intros) | ((with_reducible refine v5 ?_); refine ⟨_, rfl, ?_⟩) | simp -implicitDefEqProofs only [SE, SU, SV, hg, fd]))
  exact hk1 1 _ (e1 (.inr (.inl hd))) (St.wk (by assumption))
theorem leadPropose {n rep : Int} {d : Dot} {x : BSl} {p : Nat} {T : Tbl} {k : Value → World → Prop} (h : St W0 L W) [ht : Tk (tb p) L T L'] [hr : Rd W0 L' x.a B8 x.bs] (hl : x.bs.length < 1099511627776)
  (hk1 : ∀ e W', propose n rep d x.bs T = .inr e → St W0 (tb p T :: L') W' → k (.tuple #[.pointer none, .int .i64 e]) W')
  (hk2 : ∀ q (X' : LX) T' W', propose n rep d x.bs T = .inl (X'.abs, T') → X'.t = p → St W0 (ldc q X' :: tb p T' :: L') W' → k (.tuple #[.pointer (some ⟨q, 0, none⟩), .int .i64 0]) W') :
  callK PR F_lead_Propose [.int .i64 n, .int .i64 rep, .agg #[.int .i64 d.rep, .int .i64 d.n], x.v, .pointer (some ⟨p, 0, none⟩)] k W := by
 apply S.lead_Propose.call
 delta S.lead_Propose.body oK oA rD lD eF eU sT cL vC gD gX gP gA gR gL gE gU gC gV hL sB nI
 have hJ : ∀ db mb ca cc W', St W0 (cells mb [.int .i64 (pmX d rep ⟨ca, cc, x.bs⟩).kind, .int .i64 ((pmX d rep ⟨ca, cc, x.bs⟩).dot).rep, .int .i64 ((pmX d rep ⟨ca, cc, x.bs⟩).dot).n, .int .i64 ((pmX d rep ⟨ca, cc, x.bs⟩).bal).1, .int .i64 ((pmX d rep ⟨ca, cc, x.bs⟩).bal).2, (pmX d rep ⟨ca, cc, x.bs⟩).cmd.v, .int .i64 (pmX d rep ⟨ca, cc, x.bs⟩).seq, .int .i64 ((pmX d rep ⟨ca, cc, x.bs⟩).deps).x0, .int .i64 ((pmX d rep ⟨ca, cc, x.bs⟩).deps).x1, .int .i64 ((pmX d rep ⟨ca, cc, x.bs⟩).deps).x2, .int .i64 ((pmX d rep ⟨ca, cc, x.bs⟩).deps).x3, .int .i64 ((pmX d rep ⟨ca, cc, x.bs⟩).deps).x4, .int .i64 ((pmX d rep ⟨ca, cc, x.bs⟩).deps).x5, .int .i64 ((pmX d rep ⟨ca, cc, x.bs⟩).deps).x6] T_inst_Msg :: fch ⟨ca, cc, x.bs⟩ :: cells db [.int .i64 d.rep, .int .i64 d.n] T_api_Dot :: tb p T :: L') W' →
   S.lead_Propose.j1 k (.int .i64 n) (.int .i64 rep) (.pointer (some ⟨p, 0, none⟩)) (.pointer (some ⟨db, 0, none⟩)) (.pointer (some ⟨mb, 0, none⟩)) W' := fun db mb ca cc W' h =>
  leadPropose_j1 (x := ⟨ca, cc, x.bs⟩) hl h hk1 hk2
 clear hk1 hk2
 refine bxa (h.perm ht.perm) fun db W1 h => ?_
 refine joinK_i ?_
 (repeat (first | ((with_reducible refine v5 ?_); refine ⟨_, rfl, ?_⟩) | simp -implicitDefEqProofs only [SE, SU, SV]))
 refine ⟨?_, ?_⟩
 ·(repeat (first | ((with_reducible first | refine w1 ?_ | refine stb_n ?_); intros) | ((with_reducible refine v8 ?_ ?_); exact rfl; intros)))
  refine ⟨?_, ?_⟩
  ·refine bytesClone (a := x.a) (l := x.bs) (by assumption) (by omega) fun ca cc W2 h => ?_
   (repeat (first | ((with_reducible first | refine w11 ?_ | refine stb_n ?_); intros) | ((with_reducible first | refine v8 ?_ ?_ | refine v12 ?_ ?_); exact rfl; intros) | ((with_reducible refine w12 ?_ ?_ ?_ ?_); simp; simp; simp [oneC]; intros) | (refine okF_i (bldP_eq rfl) ?_; try simp only [BLS, SB, Nat.reduceAdd])))
   rename_i h
   (try simp only [BLS, SB, stL_a, stL_b, stL_c, lsub_a, lsub_b, lsub_c, List.append_nil, List.take_nil, List.drop_nil, Nat.reduceAdd] at h)
   exact hJ db _ ca cc _ (St.wk h)
  ·(repeat (first | ((with_reducible first | refine w11 ?_ | refine stb_n ?_); intros) | ((with_reducible refine v8 ?_ ?_); exact rfl; intros)))
   refine bytesClone (a := x.a) (l := x.bs) (by assumption) (by omega) fun ca cc W2 h => ?_
   (repeat (first | ((with_reducible refine stb_n ?_); intros) | ((with_reducible first | refine v8 ?_ ?_ | refine v12 ?_ ?_); exact rfl; intros) | ((with_reducible refine w12 ?_ ?_ ?_ ?_); simp; simp; simp [oneC]; intros) | (refine okF_i (bldP_eq rfl) ?_; try simp only [BLS, SB, Nat.reduceAdd])))
   rename_i h
   (try simp only [BLS, SB, stL_a, stL_b, stL_c, lsub_a, lsub_b, lsub_c, List.append_nil, List.take_nil, List.drop_nil, Nat.reduceAdd] at h)
   exact hJ db _ ca cc _ (St.wk h)
 ·(repeat (first | ((with_reducible first | refine w1 ?_ | refine w11 ?_ | refine stb_n ?_); intros) | ((with_reducible refine v8 ?_ ?_); exact rfl; intros)))
  refine bytesClone (a := x.a) (l := x.bs) (by assumption) (by omega) fun ca cc W2 h => ?_
  (repeat (first | ((with_reducible refine stb_n ?_); intros) | ((with_reducible first | refine v8 ?_ ?_ | refine v12 ?_ ?_); exact rfl; intros) | ((with_reducible refine w12 ?_ ?_ ?_ ?_); simp; simp; simp [oneC]; intros) | (refine okF_i (bldP_eq rfl) ?_; try simp only [BLS, SB, Nat.reduceAdd])))
  rename_i h
  (try simp only [BLS, SB, stL_a, stL_b, stL_c, lsub_a, lsub_b, lsub_c, List.append_nil, List.take_nil, List.drop_nil, Nat.reduceAdd] at h)
  exact hJ db _ ca cc _ (St.wk h)
abbrev rmX (d : Dot) (b : Int × Int) : Msg BSl := ⟨4, d, b, nilS, 0, P7.all 0⟩
theorem leadRecover {n rep : Int} {d : Dot} {p : Nat} {T : Tbl} {k : Value → World → Prop} (h : St W0 L W) [ht : Tk (tb p) L T L']
  (hk1 : ∀ e W', recover n rep d T = .inr e → St W0 (tb p T :: L') W' → k (.tuple #[.pointer none, .int .i64 e]) W')
  (hk2 : ∀ q (X' : LX) T' W', recover n rep d T = .inl (X'.abs, T') → X'.t = p → St W0 (ldc q X' :: tb p T' :: L') W' → k (.tuple #[.pointer (some ⟨q, 0, none⟩), .int .i64 0]) W') :
  callK PR F_lead_Recover [.int .i64 n, .int .i64 rep, .agg #[.int .i64 d.rep, .int .i64 d.n], .pointer (some ⟨p, 0, none⟩)] k W := by
 apply S.lead_Recover.call
 delta S.lead_Recover.body oK oA rD lD eF eU sT cL vC gD gX gP gA gR gL gE gU gC gV hL sB nI
 have e1 : (goodL n rep = false ∨ n ≤ d.rep ∨ (Msg.may ⟨4, d, (0, 0), [], 0, P7.all 0⟩) = false) → recover n rep d T = .inr 1 := fun h => if_pos h
 refine bxa (h.perm ht.perm) fun db W1 h => ?_
 cases hg : goodL n rep with
 | false =>
  (repeat (first | ((with_reducible first | refine w1 ?_ | refine w11 ?_); intros) | ((with_reducible refine v5 ?_); refine ⟨_, rfl, ?_⟩) | ((with_reducible refine v12 ?_ ?_); exact rfl; intros) | ((with_reducible refine w12 ?_ ?_ ?_ ?_); simp; simp; simp [oneC]; intros) | (refine okF_i (bldP_eq rfl) ?_; try simp only [BLS, SB, Nat.reduceAdd]) | simp -implicitDefEqProofs only [SE, SU, SV, hg]))
  exact hk1 1 _ (e1 (.inl hg)) (St.wk (by assumption))
 | true =>
 by_cases hd : n ≤ d.rep
 ·(repeat (first | ((with_reducible first | refine w1 ?_ | refine w11 ?_); intros) | ((with_reducible refine v5 ?_); refine ⟨_, rfl, ?_⟩) | ((with_reducible refine v12 ?_ ?_); exact rfl; intros) | ((with_reducible refine w12 ?_ ?_ ?_ ?_); simp; simp; simp [oneC]; intros) | (refine okF_i (bldP_eq rfl) ?_; try simp only [BLS, SB, Nat.reduceAdd]) | simp -implicitDefEqProofs only [SE, SU, SV, hg, hd]))
  exact hk1 1 _ (e1 (.inr (.inl hd))) (St.wk (by assumption))
 (repeat (first | ((with_reducible first | refine w1 ?_ | refine w11 ?_); intros) | ((with_reducible refine v5 ?_); refine ⟨_, rfl, ?_⟩) | ((with_reducible refine v12 ?_ ?_); exact rfl; intros) | ((with_reducible refine w5 ?_ ?_); simp; refine ⟨_, rfl, ?_⟩) | ((with_reducible refine w12 ?_ ?_ ?_ ?_); simp; simp; simp [oneC]; intros) | (refine okF_i (bldP_eq rfl) ?_; try simp only [BLS, SB, Nat.reduceAdd]) | simp -implicitDefEqProofs only [SE, SU, SV, hg, hd]))
 refine instMay (m := rmX d (0, 0)) (by assumption) fun W1 h => ?_
 rw [show (Msg.map BSl.bs (rmX d (0, 0))) = ⟨4, d, (0, 0), [], 0, P7.all 0⟩ from rfl]
 cases hm : (Msg.may ⟨4, d, (0, 0), [], 0, P7.all 0⟩) with
 | false =>
  (repeat simp -implicitDefEqProofs only [SE, SU, SV])
  exact hk1 1 _ (e1 (.inr (.inr hm))) (St.wk (by assumption))
 | true =>
 have n1 : ¬ (goodL n rep = false ∨ n ≤ d.rep ∨ (Msg.may ⟨4, d, (0, 0), [], 0, P7.all 0⟩) = false) := by rintro (h | h | h); rw [hg] at h; cases h; exact hd h; rw [hm] at h; cases h
 (repeat (first | ((with_reducible refine v5 ?_); refine ⟨_, rfl, ?_⟩) | simp -implicitDefEqProofs only [SE, SU, SV]))
 refine instRec (d := d) (by assumption) fun r W2 hr h => ?_
 have e5 : r.st = 3 → recover n rep d T = .inr 5 := fun h => (if_neg n1).trans (if_pos (by rw [← hr]; exact h))
 have e6 : ¬ r.st = 3 → (nextB r.bal.1 r.bal.2 rep).2 ≠ 0 → recover n rep d T = .inr (nextB r.bal.1 r.bal.2 rep).2 := fun h h2 => by
  unfold recover; rw [← hr]; exact (if_neg n1).trans ((if_neg h).trans (if_pos h2))
 have e7 : ¬ r.st = 3 → ¬ (nextB r.bal.1 r.bal.2 rep).2 ≠ 0 → recover n rep d T = .inl ((ldZ n rep).begin T 4 ⟨4, d, (nextB r.bal.1 r.bal.2 rep).1, [], 0, P7.all 0⟩) := fun h h2 => by
  unfold recover; rw [← hr]; exact (if_neg n1).trans ((if_neg h).trans (if_neg h2))
 by_cases c1 : r.st = 3
 ·have f1 := decide_eq_true c1
  (repeat (first | ((with_reducible refine w11 ?_); intros) | ((with_reducible refine v5 ?_); refine ⟨_, rfl, ?_⟩) | ((with_reducible refine v12 ?_ ?_); exact rfl; intros) | ((with_reducible refine w5 ?_ ?_); simp; refine ⟨_, rfl, ?_⟩) | ((with_reducible refine w12 ?_ ?_ ?_ ?_); simp; simp; simp [oneC]; intros) | simp -implicitDefEqProofs only [SE, SU, SV, f1]))
  exact hk1 5 _ (e5 c1) (St.wk (by assumption))
 have f1 := decide_eq_false c1
 by_cases c2 : (nextB r.bal.1 r.bal.2 rep).2 = 0
 ·have f2 := decide_eq_true c2
  (repeat (first | ((with_reducible first | refine w1 ?_ | refine w3 ?_ | refine w11 ?_); intros) | ((with_reducible refine v5 ?_); refine ⟨_, rfl, ?_⟩) | ((with_reducible refine v12 ?_ ?_); exact rfl; intros) | ((with_reducible refine w5 ?_ ?_); simp; refine ⟨_, rfl, ?_⟩) | ((with_reducible refine w12 ?_ ?_ ?_ ?_); simp; simp; simp [oneC]; intros) | (refine okF_i (bldP_eq rfl) ?_; try simp only [BLS, SB, Nat.reduceAdd]) | simp -implicitDefEqProofs only [SE, SU, SV, f1, f2, bv]))
  rename_i q W3 h
  (try simp only [BLS, SB, stL_a, stL_b, stL_c, lsub_a, lsub_b, lsub_c, List.append_nil, List.take_nil, List.drop_nil, Nat.reduceAdd] at h)
  have h1 := St.wk (L' := cells q (.int .i64 (ldZX n rep p nilS).n :: .int .i64 (ldZX n rep p nilS).rep :: .pointer (some ⟨(ldZX n rep p nilS).t, 0, none⟩) :: .int .i64 ((ldZX n rep p nilS).m).kind :: .int .i64 (((ldZX n rep p nilS).m).dot).rep :: .int .i64 (((ldZX n rep p nilS).m).dot).n :: .int .i64 (((ldZX n rep p nilS).m).bal).1 :: .int .i64 (((ldZX n rep p nilS).m).bal).2 :: ((ldZX n rep p nilS).m).cmd.v :: .int .i64 ((ldZX n rep p nilS).m).seq :: .int .i64 (((ldZX n rep p nilS).m).deps).x0 :: .int .i64 (((ldZX n rep p nilS).m).deps).x1 :: .int .i64 (((ldZX n rep p nilS).m).deps).x2 :: .int .i64 (((ldZX n rep p nilS).m).deps).x3 :: .int .i64 (((ldZX n rep p nilS).m).deps).x4 :: .int .i64 (((ldZX n rep p nilS).m).deps).x5 :: .int .i64 (((ldZX n rep p nilS).m).deps).x6 :: .int .i64 (ldZX n rep p nilS).phase :: .bool (ldZX n rep p nilS).fast :: .bool (ldZX n rep p nilS).apart :: .pointer (pa ((ldZX n rep p nilS).rp).x0) :: .pointer (pa ((ldZX n rep p nilS).rp).x1) :: .pointer (pa ((ldZX n rep p nilS).rp).x2) :: .pointer (pa ((ldZX n rep p nilS).rp).x3) :: .pointer (pa ((ldZX n rep p nilS).rp).x4) :: .pointer (pa ((ldZX n rep p nilS).rp).x5) :: .pointer (pa ((ldZX n rep p nilS).rp).x6) :: .int .i64 ((ldZX n rep p nilS).own).st :: ((ldZX n rep p nilS).own).cmd.v :: .int .i64 ((ldZX n rep p nilS).own).seq :: .int .i64 (((ldZX n rep p nilS).own).deps).x0 :: .int .i64 (((ldZX n rep p nilS).own).deps).x1 :: .int .i64 (((ldZX n rep p nilS).own).deps).x2 :: .int .i64 (((ldZX n rep p nilS).own).deps).x3 :: .int .i64 (((ldZX n rep p nilS).own).deps).x4 :: .int .i64 (((ldZX n rep p nilS).own).deps).x5 :: .int .i64 (((ldZX n rep p nilS).own).deps).x6 :: .int .i64 (((ldZX n rep p nilS).own).bal).1 :: .int .i64 (((ldZX n rep p nilS).own).bal).2 :: .int .i64 (((ldZX n rep p nilS).own).ab).1 :: .int .i64 (((ldZX n rep p nilS).own).ab).2 :: []) T_lead_Lead :: tb p T :: cells db [.int .i64 d.rep, .int .i64 d.n] T_api_Dot :: L') h
  refine leadNewBegin (m := rmX d (nextB r.bal.1 r.bal.2 rep).1) hg (by simp) (h1.ent (ent.cons _ (fch0 _))) fun X' W' e2 e3 h => ?_
  refine hk2 q X' ((ldZ n rep).begin T 4 (Msg.map BSl.bs (rmX d (nextB r.bal.1 r.bal.2 rep).1))).2 _ ?_ e2 (St.wk h)
  rw [e7 c1 (by simp [c2]), e3]
  rfl
 ·have f2 := decide_eq_false c2
  (repeat (first | ((with_reducible first | refine w1 ?_ | refine w11 ?_); intros) | ((with_reducible refine v5 ?_); refine ⟨_, rfl, ?_⟩) | ((with_reducible refine v12 ?_ ?_); exact rfl; intros) | ((with_reducible refine w5 ?_ ?_); simp; refine ⟨_, rfl, ?_⟩) | ((with_reducible refine w12 ?_ ?_ ?_ ?_); simp; simp; simp [oneC]; intros) | simp -implicitDefEqProofs only [SE, SU, SV, f1, f2, bv]))
  exact hk1 _ _ (e6 c1 c2) (St.wk (by assumption))
end
end Go.Proofs.YtfhacbhgmnhmlaaGreat
namespace Go.Proofs.YtfhacbhgmnhmlaaGreat
set_option linter.unusedVariables false
set_option linter.unusedSimpArgs false
open Go.Eng
def S.pax_New.j1 (R : VK) (x4 : Value) (W : World) : Prop :=
R (.tuple #[x4, (nI 0)]) W
def S.pax_New.l1 (J1 : LK) (K1 : LK) (x4 x13 x14 : Value) (W : World) : Prop :=
oK (binP .lss x14 x13) fun v15=>
ifK v15 (
oK (nilP x4) fun v18=>
oA 0 v18 fun v19=>
lD (tick W) T_s_p_pax_replica v19 fun v20 W=>
cL W F_inst_New [] fun v21 W=>
sB W [hL 4 T_s_p_pax_replica v19 v20] fun W=>
oK (bldP (fun i => ([(0, 1), (1, 1), (2, 1)] : List (Nat × Nat))[i]?) [.pointer none, .slice none 0 0, .int .i64 0] [(0, v21)]) fun v22=>
eF W (Instr.box T_pax_replica v22) fun v23 W=>
sB W [hL 4 T_s_p_pax_replica v19 v20] fun W=>
eF W (Instr.buildSlice T_s_p_pax_replica 1 #[(0, v23)]) fun v24 W=>
sB W [hL 4 T_s_p_pax_replica v19 v20] fun W=>
eF W (Builtin.append_ #[T_s_p_pax_replica, T_s_p_pax_replica] T_s_p_pax_replica #[v20, v24]) fun v25 W=>
oK (nilP x4) fun v26=>
oA 0 v26 fun v27=>
sT W T_s_p_pax_replica v27 v25 fun _ W=>
oK (binP .add x14 (nI 1)) fun v28=>
K1 [x4, x13, v28] W) (
J1 [x4] W)
def S.pax_New.body (R : VK) (v0 : Value) (W : World) : Prop :=
oK (binP .lss v0 (nI 3)) fun v6=>
gX W v6 false v0 fun v8 W=>
gP W v6 false (binP .gtr v8 (nI 7)) fun v9 W=>
oK (pickP v6 (.bool true) v9) fun v10=>
ifK v10 (
R (.tuple #[(.pointer none), (nI 1)]) W) (
oK (bldP (fun i => ([(0, 1)] : List (Nat × Nat))[i]?) [.slice none 0 0] []) fun v11=>
eF W (Instr.box T_pax_Group v11) fun v12 W=>
joinK (fun s W => S.pax_New.j1 R (nthv s 0) W) (fun J1 =>
loopK (fun K1 s W => S.pax_New.l1 J1 K1 (nthv s 0) (nthv s 1) (nthv s 2) W) [v12, v0, (nI 0)] W))
theorem S.pax_New.call {R : VK} {v0 : Value} {W : World} (h : S.pax_New.body R v0 W) : callK PR F_pax_New [v0] R W :=
callS (fn := Tryz.f8) (h := (.t (.two (.t (.two (.t .n) .n)) (.t (.at [4] (.t (.at [4, 13, 14] (.t (.two (.t .n) (.t .n))) .n)) (.t .n)))))) h
def S.pax_Group_Do.body (R : VK) (v0 v1 : Value) (W : World) : Prop :=
eF W (Instr.box T_pax_Act v1) fun v3 W=>
oA 1 v3 fun v8=>
lD W T_int v8 fun v9 W=>
cL W F_pax_Group_has [v0, v9] fun v10 W=>
oK (unP .not v10) fun v11=>
ifK v11 (
R (.bool false) W) (
oA 0 v3 fun v12=>
lD W T_int v12 fun v13 W=>
oK (binP .eql v13 (nI 0)) fun v15=>
ifK v15 (
oA 1 v3 fun v17=>
lD W T_int v17 fun v18 W=>
oA 3 v3 fun v19=>
lD W T_int v19 fun v20 W=>
cL W F_pax_Group_propose [v0, v18, v20] fun v21 W=>
R v21 W) (
oK (binP .eql v13 (nI 1)) fun v23=>
ifK v23 (
oA 2 v3 fun v25=>
lD W T_int v25 fun v26 W=>
cL W F_pax_Group_has [v0, v26] fun v27 W=>
gX W v27 true v0 fun v29 W=>
gA W v27 true 1 v3 fun v30 W=>
gL W v27 true T_int v30 fun v31 W=>
gA W v27 true 2 v3 fun v32 W=>
gL W v27 true T_int v32 fun v33 W=>
gA W v27 true 3 v3 fun v34 W=>
gL W v27 true T_int v34 fun v35 W=>
gP W v27 true (bldP (fun i => ([(0, 1), (1, 1)] : List (Nat × Nat))[i]?) [.int .i64 0, .int .i64 0] [(0, v33), (1, v35)]) fun v36 W=>
gC W v27 true F_pax_Group_recover [v29, v31, v36] fun v37 W=>
oK (pickP v27 v37 (.bool false)) fun v38=>
R v38 W) (
oK (nilP v0) fun v40=>
oA 0 v40 fun v41=>
lD (tick W) T_s_p_pax_replica v41 fun v42 W=>
oA 1 v3 fun v43=>
lD W T_int v43 fun v44 W=>
oK (idxS 1 v42 v44) fun v45=>
lD W T_p_pax_replica v45 fun v46 W=>
oA 2 v3 fun v47=>
lD (tick W) T_int v47 fun v48 W=>
oK (binP .lss v48 (nI 0)) fun v49=>
gA W v49 false 2 v3 fun v51 W=>
gL W v49 false T_int v51 fun v52 W=>
gX W v49 false v46 fun v53 W=>
gP W v49 false (nilP v53) fun v54 W=>
gA W v49 false 1 v54 fun v55 W=>
gL W v49 false T_s_p_pax_leader v55 fun v56 W=>
gP W v49 false (lenP (.slice T_p_pax_leader) v56) fun v57 W=>
gP W v49 false (binP .geq v52 v57) fun v58 W=>
oK (pickP v49 (.bool true) v58) fun v59=>
ifK v59 (
R (.bool false) W) (
oK (nilP v46) fun v61=>
oA 1 v61 fun v62=>
lD (tick W) T_s_p_pax_leader v62 fun v63 W=>
oA 2 v3 fun v64=>
lD W T_int v64 fun v65 W=>
oK (idxS 1 v63 v65) fun v66=>
lD W T_p_pax_leader v66 fun v67 W=>
oA 0 v3 fun v68=>
lD W T_int v68 fun v69 W=>
oK (binP .eql v69 (nI 6)) fun v71=>
ifK v71 (
oK (nilP v67) fun v73=>
oA 0 v73 fun v74=>
lD W T_p_lead_Lead v74 fun v75 W=>
cL W F_lead_Lead_Slow [v75] fun v76 W=>
R v76 W) (
oK (binP .eql v69 (nI 7)) fun v78=>
ifK v78 (
oK (nilP v46) fun v82=>
oA 1 v82 fun v83=>
lD (tick W) T_s_p_pax_leader v83 fun v84 W=>
oA 2 v3 fun v85=>
lD W T_int v85 fun v86 W=>
oK (slcS 1 v84 none (some v86) none) fun v87=>
oK (nilP v46) fun v90=>
oA 1 v90 fun v91=>
lD W T_s_p_pax_leader v91 fun v92 W=>
oA 2 v3 fun v93=>
lD W T_int v93 fun v94 W=>
oK (binP .add v94 (nI 1)) fun v95=>
oK (slcS 1 v92 (some v95) none none) fun v96=>
eF W (Instr.buildSlice T_s_p_pax_leader 0 #[]) fun v80 W=>
sB W [hL 15 T_int v93 v94, hL 13 T_s_p_pax_leader v91 v92, hL 7 T_int v85 v86, hL 5 T_s_p_pax_leader v83 v84] fun W=>
eF W (Builtin.append_ #[T_s_p_pax_leader, T_s_p_pax_leader] T_s_p_pax_leader #[v80, v87]) fun v88 W=>
sB W [hL 15 T_int v93 v94, hL 13 T_s_p_pax_leader v91 v92] fun W=>
eF W (Builtin.append_ #[T_s_p_pax_leader, T_s_p_pax_leader] T_s_p_pax_leader #[v88, v96]) fun v97 W=>
oK (nilP v46) fun v98=>
oA 1 v98 fun v99=>
sT W T_s_p_pax_leader v99 v97 fun _ W=>
R (.bool true) W) (
oA 3 v3 fun v101=>
lD W T_int v101 fun v102 W=>
cL W F_pax_Group_has [v0, v102] fun v103 W=>
gA W v103 true 3 v3 fun v105 W=>
gL W v103 true T_int v105 fun v106 W=>
gA W v103 true 1 v3 fun v107 W=>
gL W v103 true T_int v107 fun v108 W=>
gP W v103 true (binP .neq v106 v108) fun v109 W=>
oK (pickP v103 v109 (.bool false)) fun v110=>
gX W v110 true v0 fun v112 W=>
gX W v110 true v67 fun v113 W=>
gL W v110 true T_pax_Act v3 fun v114 W=>
gC W v110 true F_pax_Group_told [v112, v113, v114] fun v115 W=>
oK (pickP v110 v115 (.bool false)) fun v116=>
R v116 W))))))
theorem S.pax_Group_Do.call {R : VK} {v0 v1 : Value} {W : World} (h : S.pax_Group_Do.body R v0 v1 W) : callK PR F_pax_Group_Do [v0, v1] R W :=
callS (fn := Tryz.f9) (h := (.t (.two (.t (.two (.t .n) .n)) (.two (.t (.t (.two (.t .n) (.t (.two (.t .n) .n))))) (.t (.two (.t (.two (.t .n) .n)) (.t (.two (.t (.t (.two (.t .n) (.t (.two (.t (.t .n)) .n))))) (.t .n))))))))) h
def S.pax_Group_Calm.j1 (K1 : LK) (x0 x13 x14 : Value) (W : World) : Prop :=
oK (binP .add x14 (nI 1)) fun v57=>
K1 [x0, x13, v57] W
def S.pax_Group_Calm.j2 (K2 : LK) (x0 x13 x14 x19 x20 x21 : Value) (W : World) : Prop :=
oK (binP .add x21 (nI 1)) fun v56=>
K2 [x0, x13, x14, x19, x20, v56] W
def S.pax_Group_Calm.j4 (J2 : LK) (x0 x4 x13 x14 x19 x20 x21 : Value) (W : World) : Prop :=
cL W F_pax_Group_spread [x0, x4] fun v55 W=>
J2 [x0, x13, x14, x19, x20, x21] W
def S.pax_Group_Calm.l3 (J4 : LK) (K3 : LK) (x0 x4 x13 x14 x19 x20 x21 x42 x43 x44 : Value) (W : World) : Prop :=
oK (binP .lss x44 x43) fun v45=>
ifK v45 (
oK (idxS 1 x42 x44) fun v46=>
lD W T_p_pax_leader v46 fun v47 W=>
cL W F_pax_Group_lead [x0, x4, v47] fun v51 W=>
oK (binP .add x44 (nI 1)) fun v52=>
K3 [x0, x4, x13, x14, x19, x20, x21, x42, x43, v52] W) (
J4 [x0, x4, x13, x14, x19, x20, x21] W)
def S.pax_Group_Calm.j3 (J2 : LK) (x0 x4 x5 x13 x14 x19 x20 x21 : Value) (W : World) : Prop :=
joinK (fun s W => S.pax_Group_Calm.j4 J2 (nthv s 0) (nthv s 1) (nthv s 2) (nthv s 3) (nthv s 4) (nthv s 5) (nthv s 6) W) (fun J4 =>
oK (nilP x5) fun v40=>
oA 1 v40 fun v41=>
lD W T_s_p_pax_leader v41 fun v42 W=>
oK (lenP (.slice T_p_pax_leader) v42) fun v43=>
loopK (fun K3 s W => S.pax_Group_Calm.l3 J4 K3 (nthv s 0) (nthv s 1) (nthv s 2) (nthv s 3) (nthv s 4) (nthv s 5) (nthv s 6) (nthv s 7) (nthv s 8) (nthv s 9) W) [x0, x4, x13, x14, x19, x20, x21, v42, v43, (nI 0)] W)
def S.pax_Group_Calm.l4 (J3 : LK) (K4 : LK) (x0 x4 x5 x13 x14 x19 x20 x21 x28 x29 x30 : Value) (W : World) : Prop :=
oK (binP .lss x30 x29) fun v31=>
ifK v31 (
oK (idxS 2 x28 x30) fun v32=>
lD W T_api_Dot v32 fun v33 W=>
eF W (Instr.alloc T_api_Dot true (.tuple #[])) fun v7 W=>
sT W T_api_Dot v7 v33 fun _ W=>
lD W T_api_Dot v7 fun v36 W=>
cL W F_pax_Group_recover [x0, x4, v36] fun v37 W=>
oK (binP .add x30 (nI 1)) fun v38=>
K4 [x0, x4, x5, x13, x14, x19, x20, x21, x28, x29, v38] W) (
J3 [x0, x4, x5, x13, x14, x19, x20, x21] W)
def S.pax_Group_Calm.l2 (J1 : LK) (K2 : LK) (x0 x13 x14 x19 x20 x21 : Value) (W : World) : Prop :=
oK (binP .lss x21 x20) fun v22=>
ifK v22 (
joinK (fun s W => S.pax_Group_Calm.j2 K2 (nthv s 0) (nthv s 1) (nthv s 2) (nthv s 3) (nthv s 4) (nthv s 5) W) (fun J2 =>
oK (idxS 1 x19 x21) fun v24=>
lD W T_p_pax_replica v24 fun v25 W=>
joinK (fun s W => S.pax_Group_Calm.j3 J2 (nthv s 0) (nthv s 1) (nthv s 2) (nthv s 3) (nthv s 4) (nthv s 5) (nthv s 6) (nthv s 7) W) (fun J3 =>
cL W F_pax_Group_open [x0, x21] fun v28 W=>
oK (lenP (.slice T_api_Dot) v28) fun v29=>
loopK (fun K4 s W => S.pax_Group_Calm.l4 J3 K4 (nthv s 0) (nthv s 1) (nthv s 2) (nthv s 3) (nthv s 4) (nthv s 5) (nthv s 6) (nthv s 7) (nthv s 8) (nthv s 9) (nthv s 10) W) [x0, x21, v25, x13, x14, x19, x20, x21, v28, v29, (nI 0)] W))) (
J1 [x0, x13, x14] W)
def S.pax_Group_Calm.l1 (R : VK) (K1 : LK) (x0 x13 x14 : Value) (W : World) : Prop :=
oK (binP .lss x14 x13) fun v15=>
ifK v15 (
joinK (fun s W => S.pax_Group_Calm.j1 K1 (nthv s 0) (nthv s 1) (nthv s 2) W) (fun J1 =>
oK (nilP x0) fun v17=>
oA 0 v17 fun v18=>
lD W T_s_p_pax_replica v18 fun v19 W=>
oK (lenP (.slice T_p_pax_replica) v19) fun v20=>
loopK (fun K2 s W => S.pax_Group_Calm.l2 J1 K2 (nthv s 0) (nthv s 1) (nthv s 2) (nthv s 3) (nthv s 4) (nthv s 5) W) [x0, x13, x14, v19, v20, (nI 0)] W)) (
R (.tuple #[]) W)
def S.pax_Group_Calm.body (R : VK) (v0 v1 : Value) (W : World) : Prop :=
oK (binP .gtr v1 (nI 50)) fun v11=>
ifK v11 (
R (.tuple #[]) W) (
oK (foldP max2P [v1, (nI 0)]) fun v13=>
loopK (fun K1 s W => S.pax_Group_Calm.l1 R K1 (nthv s 0) (nthv s 1) (nthv s 2) W) [v0, v13, (nI 0)] W)
theorem S.pax_Group_Calm.call {R : VK} {v0 v1 : Value} {W : World} (h : S.pax_Group_Calm.body R v0 v1 W) : callK PR F_pax_Group_Calm [v0, v1] R W :=
callS (fn := Tryz.f10) (h := (.two (.t (.t .n)) (.t (.at [0, 13, 14] (.t (.two (.t .n) (.at [0, 13, 14] (.t (.at [0, 13, 14, 19, 20, 21] (.t (.two (.t .n) (.at [0, 13, 14, 19, 20, 21] (.t (.at [0, 4, 5, 13, 14, 19, 20, 21] (.t (.at [0, 4, 5, 13, 14, 19, 20, 21, 28, 29, 30] (.t (.two (.t .n) (.two (.t .n) .n))) .n)) (.at [0, 4, 13, 14, 19, 20, 21] (.t (.at [0, 4, 13, 14, 19, 20, 21, 42, 43, 44] (.t (.two (.t .n) (.two (.t .n) .n))) .n)) .n))) .n))) .n)) .n))) .n)))) h
def S.pax_Group_Rec.body (R : VK) (v0 v1 v2 : Value) (W : World) : Prop :=
eF W (Instr.box T_api_Dot v2) fun v5 W=>
eF W (Instr.alloc T_inst_Rec true (.tuple #[])) fun v6 W=>
cL W F_pax_Group_has [v0, v1] fun v9 W=>
oK (unP .not v9) fun v10=>
ifK v10 (
oK (bldP (fun i => ([(0, 1), (1, 1), (2, 1), (3, 7), (10, 2), (12, 2)] : List (Nat × Nat))[i]?) [.int .i64 0, .slice none 0 0, .int .i64 0, .int .i64 0, .int .i64 0, .int .i64 0, .int .i64 0, .int .i64 0, .int .i64 0, .int .i64 0, .int .i64 0, .int .i64 0, .int .i64 0, .int .i64 0] []) fun v11=>
sT W T_inst_Rec v6 v11 fun _ W=>
rdK PR (Instr.loadAt T_inst_Rec v6) (fun r0 W =>
R r0 W) W) (
oK (nilP v0) fun v13=>
oA 0 v13 fun v14=>
lD (tick W) T_s_p_pax_replica v14 fun v15 W=>
oK (idxS 1 v15 v1) fun v17=>
lD W T_p_pax_replica v17 fun v18 W=>
oK (nilP v18) fun v19=>
oA 0 v19 fun v20=>
lD W T_p_inst_Table v20 fun v21 W=>
lD W T_api_Dot v5 fun v22 W=>
cL W F_inst_Table_Rec [v21, v22] fun v23 W=>
sT W T_inst_Rec v6 v23 fun _ W=>
rdK PR (Instr.loadAt T_inst_Rec v6) (fun r0 W =>
R r0 W) W)
theorem S.pax_Group_Rec.call {R : VK} {v0 v1 v2 : Value} {W : World} (h : S.pax_Group_Rec.body R v0 v1 v2 W) : callK PR F_pax_Group_Rec [v0, v1, v2] R W :=
callS (fn := Tryz.f11) (h := (.t (.two (.t (.two (.t .n) .n)) (.t .n)))) h
def S.pax_Group_Committed.j1 (R : VK) (x5 : Value) (W : World) : Prop :=
R x5 W
def S.pax_Group_Committed.j2 (K1 : LK) (x0 x1 x5 x22 x23 x24 : Value) (W : World) : Prop :=
oK (binP .add x24 (nI 1)) fun v46=>
K1 [x0, x1, x5, x22, x23, v46] W
def S.pax_Group_Committed.l1 (J1 : LK) (K1 : LK) (x0 x1 x5 x22 x23 x24 : Value) (W : World) : Prop :=
oK (binP .lss x24 x23) fun v25=>
ifK v25 (
joinK (fun s W => S.pax_Group_Committed.j2 K1 (nthv s 0) (nthv s 1) (nthv s 2) (nthv s 3) (nthv s 4) (nthv s 5) W) (fun J2 =>
oK (idxS 2 x22 x24) fun v26=>
lD W T_api_Dot v26 fun v27 W=>
eF W (Instr.alloc T_api_Dot true (.tuple #[])) fun v7 W=>
sT W T_api_Dot v7 v27 fun _ W=>
oK (nilP x0) fun v29=>
oA 0 v29 fun v30=>
lD (tick W) T_s_p_pax_replica v30 fun v31 W=>
oK (idxS 1 v31 x1) fun v33=>
lD W T_p_pax_replica v33 fun v34 W=>
oK (nilP v34) fun v35=>
oA 0 v35 fun v36=>
lD W T_p_inst_Table v36 fun v37 W=>
lD W T_api_Dot v7 fun v38 W=>
cL W F_inst_Table_Rec [v37, v38] fun v39 W=>
oK (fldV false 0 1 v39) fun v40=>
oK (binP .eql v40 (nI 3)) fun v41=>
ifK v41 (
lD W T_api_Dot v7 fun v43 W=>
eF W (Instr.buildSlice T_s_api_Dot 1 #[(0, v43)]) fun v44 W=>
eF W (Builtin.append_ #[T_s_api_Dot, T_s_api_Dot] T_s_api_Dot #[x5, v44]) fun v45 W=>
J2 [x0, x1, v45, x22, x23, x24] W) (
J2 [x0, x1, x5, x22, x23, x24] W))) (
J1 [x5] W)
def S.pax_Group_Committed.body (R : VK) (v0 v1 : Value) (W : World) : Prop :=
cL W F_pax_Group_has [v0, v1] fun v10 W=>
oK (unP .not v10) fun v11=>
ifK v11 (
R (.slice none 0 0) W) (
joinK (fun s W => S.pax_Group_Committed.j1 R (nthv s 0) W) (fun J1 =>
oK (nilP v0) fun v13=>
oA 0 v13 fun v14=>
lD W T_s_p_pax_replica v14 fun v15 W=>
oK (idxS 1 v15 v1) fun v17=>
lD W T_p_pax_replica v17 fun v18 W=>
oK (nilP v18) fun v19=>
oA 0 v19 fun v20=>
lD W T_p_inst_Table v20 fun v21 W=>
cL W F_inst_Table_All [v21] fun v22 W=>
oK (lenP (.slice T_api_Dot) v22) fun v23=>
loopK (fun K1 s W => S.pax_Group_Committed.l1 J1 K1 (nthv s 0) (nthv s 1) (nthv s 2) (nthv s 3) (nthv s 4) (nthv s 5) W) [v0, v1, (.slice none 0 0), v22, v23, (nI 0)] W))
theorem S.pax_Group_Committed.call {R : VK} {v0 v1 : Value} {W : World} (h : S.pax_Group_Committed.body R v0 v1 W) : callK PR F_pax_Group_Committed [v0, v1] R W :=
callS (fn := Tryz.f13) (h := (.t (.two (.t (.two (.t .n) .n)) (.t (.at [5] (.t (.at [0, 1, 5, 22, 23, 24] (.t (.two (.t .n) (.at [0, 1, 5, 22, 23, 24] (.t (.t (.t .n))) .n))) .n)) (.t .n)))))) h
def S.pax_Group_Line.j1 (R : VK) (x5 : Value) (W : World) : Prop :=
oK (bldP (fun i => some (i * 1, 1)) [.int .i64 0, .int .i64 0, .int .i64 0, .int .i64 0, .int .i64 0, .int .i64 0, .int .i64 0] []) fun v32=>
cL W F_order_Line [x5, v32, (.slice none 0 0)] fun v33 W=>
R v33 W
def S.pax_Group_Line.l1 (J1 : LK) (K1 : LK) (x0 x1 x5 x11 x12 x13 : Value) (W : World) : Prop :=
oK (binP .lss x13 x12) fun v14=>
ifK v14 (
oK (idxS 2 x11 x13) fun v15=>
lD W T_api_Dot v15 fun v16 W=>
eF W (Instr.alloc T_api_Dot true (.tuple #[])) fun v7 W=>
sT W T_api_Dot v7 v16 fun _ W=>
lD W T_api_Dot v7 fun v19 W=>
cL W F_pax_Group_Rec [x0, x1, v19] fun v20 W=>
eF W (Instr.alloc T_inst_Rec true (.tuple #[])) fun v8 W=>
sT W T_inst_Rec v8 v20 fun _ W=>
lD W T_api_Dot v7 fun v22 W=>
oA 2 v8 fun v23=>
lD W T_int64 v23 fun v24 W=>
oA 3 v8 fun v25=>
lD W T_vec_Vec v25 fun v26 W=>
oK (bldP (fun i => ([(0, 2), (2, 1), (3, 7)] : List (Nat × Nat))[i]?) [.int .i64 0, .int .i64 0, .int .i64 0, .int .i64 0, .int .i64 0, .int .i64 0, .int .i64 0, .int .i64 0, .int .i64 0, .int .i64 0] [(0, v22), (1, v24), (2, v26)]) fun v27=>
eF W (Instr.buildSlice T_s_order_Inst 1 #[(0, v27)]) fun v28 W=>
eF W (Builtin.append_ #[T_s_order_Inst, T_s_order_Inst] T_s_order_Inst #[x5, v28]) fun v29 W=>
oK (binP .add x13 (nI 1)) fun v30=>
K1 [x0, x1, v29, x11, x12, v30] W) (
J1 [x5] W)
def S.pax_Group_Line.body (R : VK) (v0 v1 : Value) (W : World) : Prop :=
joinK (fun s W => S.pax_Group_Line.j1 R (nthv s 0) W) (fun J1 =>
cL W F_pax_Group_Committed [v0, v1] fun v11 W=>
oK (lenP (.slice T_api_Dot) v11) fun v12=>
loopK (fun K1 s W => S.pax_Group_Line.l1 J1 K1 (nthv s 0) (nthv s 1) (nthv s 2) (nthv s 3) (nthv s 4) (nthv s 5) W) [v0, v1, (.slice none 0 0), v11, v12, (nI 0)] W)
theorem S.pax_Group_Line.call {R : VK} {v0 v1 : Value} {W : World} (h : S.pax_Group_Line.body R v0 v1 W) : callK PR F_pax_Group_Line [v0, v1] R W :=
callS (fn := Tryz.f14) (h := (.t (.t (.at [5] (.t (.at [0, 1, 5, 11, 12, 13] (.t (.two (.t .n) (.two (.t (.t .n)) .n))) .n)) (.t .n))))) h
def S.pax_Group_has.body (R : VK) (v0 v1 : Value) (W : World) : Prop :=
oK (binP .geq v1 (nI 0)) fun v6=>
gX W v6 true v1 fun v8 W=>
gX W v6 true v0 fun v9 W=>
gP W v6 true (nilP v9) fun v10 W=>
gA W v6 true 0 v10 fun v11 W=>
gL W v6 true T_s_p_pax_replica v11 fun v12 W=>
gP W v6 true (lenP (.slice T_p_pax_replica) v12) fun v13 W=>
gP W v6 true (binP .lss v8 v13) fun v14 W=>
oK (pickP v6 v14 (.bool false)) fun v15=>
R v15 W
theorem S.pax_Group_has.call {R : VK} {v0 v1 : Value} {W : World} (h : S.pax_Group_has.body R v0 v1 W) : callK PR F_pax_Group_has [v0, v1] R W :=
callS (fn := Tryz.f18) (h := (.t (.t .n))) h
def S.pax_Group_propose.body (R : VK) (v0 v1 v2 : Value) (W : World) : Prop :=
oK (nilP v0) fun v11=>
oA 0 v11 fun v12=>
lD W T_s_p_pax_replica v12 fun v13 W=>
oK (idxS 1 v13 v1) fun v15=>
lD W T_p_pax_replica v15 fun v16 W=>
oK (nilP v16) fun v18=>
oA 2 v18 fun v19=>
lD W T_int64 v19 fun v20 W=>
oK (binP .geq v20 (nI 50)) fun v21=>
ifK v21 (
R (.bool false) W) (
oK (nilP v0) fun v24=>
oA 0 v24 fun v25=>
lD (tick W) T_s_p_pax_replica v25 fun v26 W=>
oK (lenP (.slice T_p_pax_replica) v26) fun v27=>
oK (nilP v16) fun v31=>
oA 2 v31 fun v32=>
lD W T_int64 v32 fun v33 W=>
oK (binP .add v33 (nI 1)) fun v34=>
oK (bldP (fun i => ([(0, 1), (1, 1)] : List (Nat × Nat))[i]?) [.int .i64 0, .int .i64 0] [(0, v1), (1, v34)]) fun v35=>
oK (cvtP (.int .u8) v2) fun v37=>
oK (nilP v16) fun v40=>
oA 0 v40 fun v41=>
lD W T_p_inst_Table v41 fun v42 W=>
eF W (Instr.buildSlice T_s_uint8 1 #[(0, v37)]) fun v38 W=>
sB W [hL 19 T_p_inst_Table v41 v42, hL 10 T_int64 v32 v33, hL 3 T_s_p_pax_replica v25 v26] fun W=>
cL W F_lead_Propose [v27, v1, v35, v38, v42] fun v43 W=>
oK (extP 0 v43) fun v44=>
oK (extP 1 v43) fun v45=>
oK (binP .neq v45 (nI 0)) fun v47=>
ifK v47 (
R (.bool false) W) (
oK (nilP v16) fun v49=>
oA 2 v49 fun v50=>
lD W T_int64 v50 fun v51 W=>
oK (binP .add v51 (nI 1)) fun v52=>
oK (nilP v16) fun v53=>
oA 2 v53 fun v54=>
sT W T_int64 v54 v52 fun _ W=>
oK (nilP v16) fun v57=>
oA 1 v57 fun v58=>
lD W T_s_p_pax_leader v58 fun v59 W=>
oK (bldP (fun i => ([(0, 1), (1, 7)] : List (Nat × Nat))[i]?) [.pointer none, .pointer none, .pointer none, .pointer none, .pointer none, .pointer none, .pointer none, .pointer none] [(0, v44)]) fun v61=>
eF W (Instr.box T_pax_leader v61) fun v62 W=>
eF W (Instr.buildSlice T_s_p_pax_leader 1 #[(0, v62)]) fun v63 W=>
eF W (Builtin.append_ #[T_s_p_pax_leader, T_s_p_pax_leader] T_s_p_pax_leader #[v59, v63]) fun v64 W=>
oK (nilP v16) fun v65=>
oA 1 v65 fun v66=>
sT W T_s_p_pax_leader v66 v64 fun _ W=>
R (.bool true) W))
theorem S.pax_Group_propose.call {R : VK} {v0 v1 v2 : Value} {W : World} (h : S.pax_Group_propose.body R v0 v1 v2 W) : callK PR F_pax_Group_propose [v0, v1, v2] R W :=
callS (fn := Tryz.f19) (h := (.t (.t (.two (.t (.two (.t .n) .n)) (.t (.two (.t (.two (.t .n) .n)) (.t (.t (.t .n))))))))) h
def S.pax_Group_recover.body (R : VK) (v0 v1 v2 : Value) (W : World) : Prop :=
eF W (Instr.box T_api_Dot v2) fun v5 W=>
oK (nilP v0) fun v11=>
oA 0 v11 fun v12=>
lD W T_s_p_pax_replica v12 fun v13 W=>
oK (idxS 1 v13 v1) fun v15=>
lD W T_p_pax_replica v15 fun v16 W=>
oA 1 v5 fun v17=>
lD W T_int64 v17 fun v18 W=>
oK (binP .lss v18 (nI 1)) fun v19=>
gA W v19 false 1 v5 fun v21 W=>
gL W v19 false T_int64 v21 fun v22 W=>
gP W v19 false (binP .gtr v22 (nI 50)) fun v23 W=>
oK (pickP v19 (.bool true) v23) fun v24=>
gX W v24 false v16 fun v26 W=>
gL W v24 false T_api_Dot v5 fun v27 W=>
gC W v24 false F_pax_replica_leading [v26, v27] fun v28 W=>
oK (pickP v24 (.bool true) v28) fun v29=>
ifK v29 (
R (.bool false) W) (
oK (nilP v0) fun v32=>
oA 0 v32 fun v33=>
lD (tick W) T_s_p_pax_replica v33 fun v34 W=>
oK (lenP (.slice T_p_pax_replica) v34) fun v35=>
lD W T_api_Dot v5 fun v37 W=>
oK (nilP v16) fun v39=>
oA 0 v39 fun v40=>
lD W T_p_inst_Table v40 fun v41 W=>
cL W F_lead_Recover [v35, v1, v37, v41] fun v42 W=>
oK (extP 0 v42) fun v43=>
oK (extP 1 v42) fun v44=>
oK (binP .neq v44 (nI 0)) fun v46=>
ifK v46 (
R (.bool false) W) (
oK (nilP v16) fun v49=>
oA 1 v49 fun v50=>
lD W T_s_p_pax_leader v50 fun v51 W=>
oK (bldP (fun i => ([(0, 1), (1, 7)] : List (Nat × Nat))[i]?) [.pointer none, .pointer none, .pointer none, .pointer none, .pointer none, .pointer none, .pointer none, .pointer none] [(0, v43)]) fun v53=>
eF W (Instr.box T_pax_leader v53) fun v54 W=>
eF W (Instr.buildSlice T_s_p_pax_leader 1 #[(0, v54)]) fun v55 W=>
eF W (Builtin.append_ #[T_s_p_pax_leader, T_s_p_pax_leader] T_s_p_pax_leader #[v51, v55]) fun v56 W=>
oK (nilP v16) fun v57=>
oA 1 v57 fun v58=>
sT W T_s_p_pax_leader v58 v56 fun _ W=>
R (.bool true) W))
theorem S.pax_Group_recover.call {R : VK} {v0 v1 v2 : Value} {W : World} (h : S.pax_Group_recover.body R v0 v1 v2 W) : callK PR F_pax_Group_recover [v0, v1, v2] R W :=
callS (fn := Tryz.f20) (h := (.t (.t (.two (.t (.two (.t .n) .n)) (.t (.two (.t (.two (.t .n) .n)) (.t (.t .n)))))))) h
def S.pax_Group_told.j2 (R : VK) (x1 x5 x7 : Value) (W : World) : Prop :=
oA 0 x5 fun v36=>
lD W T_int v36 fun v37 W=>
oK (binP .eql v37 (nI 4)) fun v38=>
ifK v38 (
oK (nilP x1) fun v40=>
oA 0 v40 fun v41=>
lD (tick W) T_p_lead_Lead v41 fun v42 W=>
oA 3 x5 fun v43=>
lD W T_int v43 fun v44 W=>
lD W T_inst_Answer x7 fun v45 W=>
cL W F_lead_Lead_Got [v42, v44, v45] fun v46 W=>
R (.bool true) W) (
R (.bool true) W)
def S.pax_Group_told.j1 (R : VK) (x0 x1 x5 x10 x11 : Value) (W : World) : Prop :=
ifK x11 (
oA 3 x5 fun v18=>
lD W T_int v18 fun v19 W=>
cL W F_pax_Group_ask [x0, x1, v19] fun v20 W=>
oK (extP 0 v20) fun v21=>
oK (extP 1 v20) fun v22=>
eF W (Instr.alloc T_inst_Answer true (.tuple #[])) fun v7 W=>
sT W T_inst_Answer v7 v21 fun _ W=>
oK (unP .not v22) fun v24=>
ifK v24 (
R (.bool false) W) (
joinK (fun s W => S.pax_Group_told.j2 R (nthv s 0) (nthv s 1) (nthv s 2) W) (fun J2 =>
oA 0 x5 fun v25=>
lD W T_int v25 fun v26 W=>
oK (binP .neq v26 (nI 3)) fun v27=>
ifK v27 (
oK (nilP x1) fun v29=>
oA 0 v29 fun v30=>
lD (tick W) T_p_lead_Lead v30 fun v31 W=>
oA 3 x5 fun v32=>
lD W T_int v32 fun v33 W=>
lD W T_inst_Answer v7 fun v34 W=>
cL W F_lead_Lead_Got [v31, v33, v34] fun v35 W=>
J2 [x1, x5, v7] W) (
J2 [x1, x5, v7] W)))) (
oK (binP .eql x10 (nI 5)) fun v48=>
ifK v48 (
oA 3 x5 fun v50=>
lD (tick W) T_int v50 fun v51 W=>
oK (nilP x1) fun v52=>
oA 1 v52 fun v53=>
oK (idxA 7 1 v53 v51) fun v54=>
lD W T_p_inst_Answer v54 fun v55 W=>
oK (eqP (.pointer T_inst_Answer) .eql v55 (.pointer none)) fun v56=>
ifK v56 (
R (.bool false) W) (
oK (nilP x1) fun v58=>
oA 0 v58 fun v59=>
lD (tick W) T_p_lead_Lead v59 fun v60 W=>
oA 3 x5 fun v61=>
lD W T_int v61 fun v62 W=>
oA 3 x5 fun v64=>
lD W T_int v64 fun v65 W=>
oK (nilP x1) fun v66=>
oA 1 v66 fun v67=>
oK (idxA 7 1 v67 v65) fun v68=>
lD W T_p_inst_Answer v68 fun v69 W=>
oK (nilP v69) fun v70=>
lD W T_inst_Answer v70 fun v71 W=>
cL W F_lead_Lead_Got [v60, v62, v71] fun v72 W=>
R (.bool true) W)) (
R (.bool false) W))
def S.pax_Group_told.body (R : VK) (v0 v1 v2 : Value) (W : World) : Prop :=
eF W (Instr.box T_pax_Act v2) fun v5 W=>
oA 0 v5 fun v9=>
lD W T_int v9 fun v10 W=>
joinK (fun s W => S.pax_Group_told.j1 R (nthv s 0) (nthv s 1) (nthv s 2) (nthv s 3) (nthv s 4) W) (fun J1 =>
oK (binP .eql v10 (nI 2)) fun v12=>
ifK v12 (
J1 [v0, v1, v5, v10, v12] W) (
oK (binP .eql v10 (nI 3)) fun v13=>
ifK v13 (
J1 [v0, v1, v5, v10, v13] W) (
oK (binP .eql v10 (nI 4)) fun v14=>
J1 [v0, v1, v5, v10, v14] W)))
theorem S.pax_Group_told.call {R : VK} {v0 v1 v2 : Value} {W : World} (h : S.pax_Group_told.body R v0 v1 v2 W) : callK PR F_pax_Group_told [v0, v1, v2] R W :=
callS (fn := Tryz.f22) (h := (.t (.two (.t (.at [0, 1, 5, 10, 11] (.t (.t (.t (.t .n)))) (.two (.t (.two (.t (.two (.t .n) .n)) (.at [1, 5, 7] (.t (.t .n)) (.two (.t (.t .n)) (.t .n))))) (.t (.two (.two (.t (.two (.t .n) .n)) (.t (.t .n))) .n))))) (.t .n)))) h
def S.pax_Group_open.j2 (R : VK) (x10 : Value) (W : World) : Prop :=
R x10 W
def S.pax_Group_open.j3 (K1 : LK) (x5 x10 x55 x56 : Value) (W : World) : Prop :=
oK (binP .add x56 (nI 1)) fun v77=>
K1 [x5, x10, x55, v77] W
def S.pax_Group_open.j4 (K2 : LK) (x5 x10 x11 x12 x13 x55 x56 : Value) (W : World) : Prop :=
oK (binP .add x13 (nI 1)) fun v64=>
K2 [x5, x10, x11, x12, v64, x55, x56] W
def S.pax_Group_open.l2 (J3 : LK) (K2 : LK) (x5 x10 x11 x12 x13 x55 x56 : Value) (W : World) : Prop :=
oK (binP .leq x13 x12) fun v62=>
ifK v62 (
joinK (fun s W => S.pax_Group_open.j4 K2 (nthv s 0) (nthv s 1) (nthv s 2) (nthv s 3) (nthv s 4) (nthv s 5) (nthv s 6) W) (fun J4 =>
oK (bldP (fun i => ([(0, 1), (1, 1)] : List (Nat × Nat))[i]?) [.int .i64 0, .int .i64 0] [(0, x11), (1, x13)]) fun v67=>
eF W (Instr.alloc T_api_Dot true (.tuple #[])) fun v14 W=>
sT W T_api_Dot v14 v67 fun _ W=>
lD W T_api_Dot v14 fun v69 W=>
cL W F_inst_Table_Rec [x5, v69] fun v70 W=>
oK (fldV false 0 1 v70) fun v71=>
oK (binP .neq v71 (nI 3)) fun v72=>
ifK v72 (
lD W T_api_Dot v14 fun v74 W=>
eF W (Instr.buildSlice T_s_api_Dot 1 #[(0, v74)]) fun v75 W=>
eF W (Builtin.append_ #[T_s_api_Dot, T_s_api_Dot] T_s_api_Dot #[x10, v75]) fun v76 W=>
J4 [x5, v76, x11, x12, x13, x55, x56] W) (
J4 [x5, x10, x11, x12, x13, x55, x56] W))) (
J3 [x5, x10, x55, x56] W)
def S.pax_Group_open.l1 (J2 : LK) (K1 : LK) (x5 x10 x55 x56 : Value) (W : World) : Prop :=
oK (binP .lss x56 (nI 7)) fun v57=>
ifK v57 (
joinK (fun s W => S.pax_Group_open.j3 K1 (nthv s 0) (nthv s 1) (nthv s 2) (nthv s 3) W) (fun J3 =>
oK (idxV 7 false 1 x55 x56) fun v59=>
loopK (fun K2 s W => S.pax_Group_open.l2 J3 K2 (nthv s 0) (nthv s 1) (nthv s 2) (nthv s 3) (nthv s 4) (nthv s 5) (nthv s 6) W) [x5, x10, x56, v59, (nI 1), x55, x56] W)) (
J2 [x10] W)
def S.pax_Group_open.j1 (R : VK) (x5 x6 : Value) (W : World) : Prop :=
joinK (fun s W => S.pax_Group_open.j2 R (nthv s 0) W) (fun J2 =>
lD W T_vec_Vec x6 fun v55 W=>
loopK (fun K1 s W => S.pax_Group_open.l1 J2 K1 (nthv s 0) (nthv s 1) (nthv s 2) (nthv s 3) W) [x5, (.slice none 0 0), v55, (nI 0)] W)
def S.pax_Group_open.j5 (K3 : LK) (x5 x6 x26 x27 x28 : Value) (W : World) : Prop :=
oK (binP .add x28 (nI 1)) fun v54=>
K3 [x5, x6, x26, x27, v54] W
def S.pax_Group_open.l3 (J1 : LK) (K3 : LK) (x5 x6 x26 x27 x28 : Value) (W : World) : Prop :=
oK (binP .lss x28 x27) fun v29=>
ifK v29 (
joinK (fun s W => S.pax_Group_open.j5 K3 (nthv s 0) (nthv s 1) (nthv s 2) (nthv s 3) (nthv s 4) W) (fun J5 =>
oK (idxS 2 x26 x28) fun v30=>
lD W T_api_Dot v30 fun v31 W=>
eF W (Instr.alloc T_api_Dot true (.tuple #[])) fun v8 W=>
sT W T_api_Dot v8 v31 fun _ W=>
lD W T_api_Dot v8 fun v33 W=>
cL W F_inst_Table_Rec [x5, v33] fun v34 W=>
eF W (Instr.alloc T_inst_Rec true (.tuple #[])) fun v9 W=>
sT W T_inst_Rec v9 v34 fun _ W=>
oA 0 v9 fun v35=>
lD W T_int v35 fun v36 W=>
oK (binP .gtr v36 (nI 0)) fun v37=>
gA W v37 false 10 v9 fun v39 W=>
gL W v37 false T_ballot_Ballot v39 fun v40 W=>
gP W v37 false (bldP (fun i => ([(0, 1), (1, 1)] : List (Nat × Nat))[i]?) [.int .i64 0, .int .i64 0] []) fun v41 W=>
gR W v37 false (aggEq .neq T_ballot_Ballot v40 v41) fun v42 W=>
oK (pickP v37 (.bool true) v42) fun v43=>
ifK v43 (
oA 0 v8 fun v44=>
lD (tick W) T_int v44 fun v45 W=>
oA 0 v8 fun v46=>
lD W T_int v46 fun v47 W=>
oK (idxA 7 1 x6 v47) fun v48=>
lD W T_int64 v48 fun v49 W=>
oA 1 v8 fun v50=>
lD W T_int64 v50 fun v51 W=>
oK (foldP max2P [v49, v51]) fun v52=>
oK (idxA 7 1 x6 v45) fun v53=>
sT W T_int64 v53 v52 fun _ W=>
J5 [x5, x6, x26, x27, x28] W) (
J5 [x5, x6, x26, x27, x28] W))) (
J1 [x5, x6] W)
def S.pax_Group_open.body (R : VK) (v0 v1 : Value) (W : World) : Prop :=
oK (nilP v0) fun v16=>
oA 0 v16 fun v17=>
lD W T_s_p_pax_replica v17 fun v18 W=>
oK (idxS 1 v18 v1) fun v20=>
lD W T_p_pax_replica v20 fun v21 W=>
oK (nilP v21) fun v22=>
oA 0 v22 fun v23=>
lD W T_p_inst_Table v23 fun v24 W=>
eF W (Instr.alloc T_vec_Vec true (.tuple #[])) fun v6 W=>
joinK (fun s W => S.pax_Group_open.j1 R (nthv s 0) (nthv s 1) W) (fun J1 =>
cL W F_inst_Table_Promised [v24] fun v26 W=>
oK (lenP (.slice T_api_Dot) v26) fun v27=>
loopK (fun K3 s W => S.pax_Group_open.l3 J1 K3 (nthv s 0) (nthv s 1) (nthv s 2) (nthv s 3) (nthv s 4) W) [v24, v6, v26, v27, (nI 0)] W)
theorem S.pax_Group_open.call {R : VK} {v0 v1 : Value} {W : World} (h : S.pax_Group_open.body R v0 v1 W) : callK PR F_pax_Group_open [v0, v1] R W :=
callS (fn := Tryz.f23) (h := (.t (.t (.t (.at [5, 6] (.t (.at [5, 6, 26, 27, 28] (.t (.two (.t .n) (.at [5, 6, 26, 27, 28] (.t (.t (.t (.t .n)))) .n))) .n)) (.t (.at [10] (.t (.at [5, 10, 55, 56] (.t (.two (.t .n) (.at [5, 10, 55, 56] (.t (.t (.at [5, 10, 11, 12, 13, 55, 56] (.two (.t (.t .n)) (.at [5, 10, 11, 12, 13, 55, 56] (.t (.t (.t .n))) .n)) .n))) .n))) .n)) (.t .n)))))))) h
def S.pax_Group_lead.j1 (K1 : LK) (x0 x1 x2 x6 : Value) (W : World) : Prop :=
oK (binP .eql x6 (nI 1)) fun v58=>
gX W v58 true x2 fun v60 W=>
gP W v58 true (nilP v60) fun v61 W=>
gA W v58 true 0 v61 fun v62 W=>
gL W v58 true T_p_lead_Lead v62 fun v63 W=>
gC W v58 true F_lead_Lead_Phase [v63] fun v64 W=>
gP W v58 true (binP .eql v64 (nI 1)) fun v65 W=>
oK (pickP v58 v65 (.bool false)) fun v66=>
ifK v66 (
oK (nilP x2) fun v68=>
oA 0 v68 fun v69=>
lD W T_p_lead_Lead v69 fun v70 W=>
cL W F_lead_Lead_Slow [v70] fun v71 W=>
K1 [x0, x1, x2, x6] W) (
K1 [x0, x1, x2, x6] W)
def S.pax_Group_lead.j2 (K2 : LK) (x0 x1 x2 x6 x34 x35 : Value) (W : World) : Prop :=
oK (binP .add x35 (nI 1)) fun v56=>
K2 [x0, x1, x2, x6, x34, v56] W
def S.pax_Group_lead.l2 (J1 : LK) (K2 : LK) (x0 x1 x2 x6 x34 x35 : Value) (W : World) : Prop :=
oK (binP .lss x35 x34) fun v36=>
ifK v36 (
joinK (fun s W => S.pax_Group_lead.j2 K2 (nthv s 0) (nthv s 1) (nthv s 2) (nthv s 3) (nthv s 4) (nthv s 5) W) (fun J2 =>
oK (binP .eql x35 x1) fun v40=>
ifK v40 (
J2 [x0, x1, x2, x6, x34, x35] W) (
cL W F_pax_Group_ask [x0, x2, x35] fun v45 W=>
oK (extP 0 v45) fun v46=>
oK (extP 1 v45) fun v47=>
eF W (Instr.alloc T_inst_Answer true (.tuple #[])) fun v8 W=>
sT W T_inst_Answer v8 v46 fun _ W=>
ifK v47 (
oK (nilP x2) fun v50=>
oA 0 v50 fun v51=>
lD (tick W) T_p_lead_Lead v51 fun v52 W=>
lD W T_inst_Answer v8 fun v54 W=>
cL W F_lead_Lead_Got [v52, x35, v54] fun v55 W=>
J2 [x0, x1, x2, x6, x34, x35] W) (
J2 [x0, x1, x2, x6, x34, x35] W)))) (
J1 [x0, x1, x2, x6] W)
def S.pax_Group_lead.l1 (R : VK) (K1 : LK) (x0 x1 x2 x6 : Value) (W : World) : Prop :=
oK (nilP x2) fun v12=>
oA 0 v12 fun v13=>
lD W T_p_lead_Lead v13 fun v14 W=>
cL W F_lead_Lead_Phase [v14] fun v15 W=>
oK (binP .neq x6 v15) fun v16=>
gX W v16 true x2 fun v18 W=>
gP W v16 true (nilP v18) fun v19 W=>
gA W v16 true 0 v19 fun v20 W=>
gL W v16 true T_p_lead_Lead v20 fun v21 W=>
gC W v16 true F_lead_Lead_Phase [v21] fun v22 W=>
gP W v16 true (binP .neq v22 (nI 5)) fun v23 W=>
oK (pickP v16 v23 (.bool false)) fun v24=>
ifK v24 (
oK (nilP x2) fun v26=>
oA 0 v26 fun v27=>
lD W T_p_lead_Lead v27 fun v28 W=>
cL W F_lead_Lead_Phase [v28] fun v29 W=>
joinK (fun s W => S.pax_Group_lead.j1 K1 (nthv s 0) (nthv s 1) (nthv s 2) (nthv s 3) W) (fun J1 =>
oK (nilP x0) fun v31=>
oA 0 v31 fun v32=>
lD W T_s_p_pax_replica v32 fun v33 W=>
oK (lenP (.slice T_p_pax_replica) v33) fun v34=>
loopK (fun K2 s W => S.pax_Group_lead.l2 J1 K2 (nthv s 0) (nthv s 1) (nthv s 2) (nthv s 3) (nthv s 4) (nthv s 5) W) [x0, x1, x2, v29, v34, (nI 0)] W)) (
R (.tuple #[]) W)
def S.pax_Group_lead.body (R : VK) (v0 v1 v2 : Value) (W : World) : Prop :=
loopK (fun K1 s W => S.pax_Group_lead.l1 R K1 (nthv s 0) (nthv s 1) (nthv s 2) (nthv s 3) W) [v0, v1, v2, (nI 0)] W
theorem S.pax_Group_lead.call {R : VK} {v0 v1 v2 : Value} {W : World} (h : S.pax_Group_lead.body R v0 v1 v2 W) : callK PR F_pax_Group_lead [v0, v1, v2] R W :=
callS (fn := Tryz.f24) (h := (.t (.at [0, 1, 2, 6] (.two (.t (.t .n)) (.t (.at [0, 1, 2, 6] (.t (.at [0, 1, 2, 6, 34, 35] (.t (.two (.t .n) (.at [0, 1, 2, 6, 34, 35] (.t (.two (.t (.t .n)) (.t (.t (.t .n))))) .n))) .n)) (.t (.t .n))))) .n))) h
def S.pax_Group_spread.j1 (K1 : LK) (x0 x1 x12 x13 x14 : Value) (W : World) : Prop :=
oK (binP .add x14 (nI 1)) fun v52=>
K1 [x0, x1, x12, x13, v52] W
def S.pax_Group_spread.j2 (K2 : LK) (x0 x1 x7 x12 x13 x14 x35 x36 x37 : Value) (W : World) : Prop :=
oK (binP .add x37 (nI 1)) fun v51=>
K2 [x0, x1, x7, x12, x13, x14, x35, x36, v51] W
def S.pax_Group_spread.l2 (J1 : LK) (K2 : LK) (x0 x1 x7 x12 x13 x14 x35 x36 x37 : Value) (W : World) : Prop :=
oK (binP .lss x37 x36) fun v38=>
ifK v38 (
joinK (fun s W => S.pax_Group_spread.j2 K2 (nthv s 0) (nthv s 1) (nthv s 2) (nthv s 3) (nthv s 4) (nthv s 5) (nthv s 6) (nthv s 7) (nthv s 8) W) (fun J2 =>
oK (idxS 1 x35 x37) fun v40=>
lD W T_p_pax_replica v40 fun v41 W=>
oK (binP .neq x37 x1) fun v44=>
ifK v44 (
oK (nilP v41) fun v46=>
oA 0 v46 fun v47=>
lD (tick W) T_p_inst_Table v47 fun v48 W=>
lD W T_inst_Msg x7 fun v49 W=>
cL W F_inst_Table_Do [v48, v49] fun v50 W=>
J2 [x0, x1, x7, x12, x13, x14, x35, x36, x37] W) (
J2 [x0, x1, x7, x12, x13, x14, x35, x36, x37] W))) (
J1 [x0, x1, x12, x13, x14] W)
def S.pax_Group_spread.l1 (R : VK) (K1 : LK) (x0 x1 x12 x13 x14 : Value) (W : World) : Prop :=
oK (binP .lss x14 x13) fun v15=>
ifK v15 (
joinK (fun s W => S.pax_Group_spread.j1 K1 (nthv s 0) (nthv s 1) (nthv s 2) (nthv s 3) (nthv s 4) W) (fun J1 =>
oK (idxS 2 x12 x14) fun v16=>
lD W T_api_Dot v16 fun v17 W=>
eF W (Instr.alloc T_api_Dot true (.tuple #[])) fun v5 W=>
sT W T_api_Dot v5 v17 fun _ W=>
lD W T_api_Dot v5 fun v20 W=>
cL W F_pax_Group_Rec [x0, x1, v20] fun v21 W=>
eF W (Instr.alloc T_inst_Rec true (.tuple #[])) fun v6 W=>
sT W T_inst_Rec v6 v21 fun _ W=>
lD W T_api_Dot v5 fun v22 W=>
oA 10 v6 fun v23=>
lD W T_ballot_Ballot v23 fun v24 W=>
oA 1 v6 fun v25=>
lD W T_s_uint8 v25 fun v26 W=>
oA 2 v6 fun v27=>
lD W T_int64 v27 fun v28 W=>
oA 3 v6 fun v29=>
lD W T_vec_Vec v29 fun v30 W=>
oK (bldP (fun i => ([(0, 1), (1, 2), (3, 2), (5, 1), (6, 1), (7, 7)] : List (Nat × Nat))[i]?) [.int .i64 0, .int .i64 0, .int .i64 0, .int .i64 0, .int .i64 0, .slice none 0 0, .int .i64 0, .int .i64 0, .int .i64 0, .int .i64 0, .int .i64 0, .int .i64 0, .int .i64 0, .int .i64 0] [(0, (nI 3)), (1, v22), (2, v24), (3, v26), (4, v28), (5, v30)]) fun v31=>
eF W (Instr.alloc T_inst_Msg true (.tuple #[])) fun v7 W=>
sT W T_inst_Msg v7 v31 fun _ W=>
oK (nilP x0) fun v33=>
oA 0 v33 fun v34=>
lD W T_s_p_pax_replica v34 fun v35 W=>
oK (lenP (.slice T_p_pax_replica) v35) fun v36=>
loopK (fun K2 s W => S.pax_Group_spread.l2 J1 K2 (nthv s 0) (nthv s 1) (nthv s 2) (nthv s 3) (nthv s 4) (nthv s 5) (nthv s 6) (nthv s 7) (nthv s 8) W) [x0, x1, v7, x12, x13, x14, v35, v36, (nI 0)] W)) (
R (.tuple #[]) W)
def S.pax_Group_spread.body (R : VK) (v0 v1 : Value) (W : World) : Prop :=
cL W F_pax_Group_Committed [v0, v1] fun v12 W=>
oK (lenP (.slice T_api_Dot) v12) fun v13=>
loopK (fun K1 s W => S.pax_Group_spread.l1 R K1 (nthv s 0) (nthv s 1) (nthv s 2) (nthv s 3) (nthv s 4) W) [v0, v1, v12, v13, (nI 0)] W
theorem S.pax_Group_spread.call {R : VK} {v0 v1 : Value} {W : World} (h : S.pax_Group_spread.body R v0 v1 W) : callK PR F_pax_Group_spread [v0, v1] R W :=
callS (fn := Tryz.f25) (h := (.t (.at [0, 1, 12, 13, 14] (.t (.two (.t .n) (.at [0, 1, 12, 13, 14] (.t (.t (.t (.t (.at [0, 1, 7, 12, 13, 14, 35, 36, 37] (.t (.two (.t .n) (.at [0, 1, 7, 12, 13, 14, 35, 36, 37] (.t (.t (.t .n))) .n))) .n))))) .n))) .n))) h
def S.pax_replica_leading.l1 (R : VK) (K1 : LK) (x3 x11 x12 x13 : Value) (W : World) : Prop :=
oK (binP .lss x13 x12) fun v14=>
ifK v14 (
oK (idxS 1 x11 x13) fun v15=>
lD W T_p_pax_leader v15 fun v16 W=>
oK (nilP v16) fun v18=>
oA 0 v18 fun v19=>
lD W T_p_lead_Lead v19 fun v20 W=>
cL W F_lead_Lead_Phase [v20] fun v21 W=>
oK (nilP v16) fun v23=>
oA 0 v23 fun v24=>
lD (tick W) T_p_lead_Lead v24 fun v25 W=>
lD W T_api_Dot x3 fun v27 W=>
cL W F_lead_Lead_Dot [v25] fun v26 W=>
sB W [hL 5 T_api_Dot x3 v27] fun W=>
rD W (aggEq .eql T_api_Dot v26 v27) fun v28 W=>
gX W v28 true v21 fun v30 W=>
gP W v28 true (binP .neq v30 (nI 3)) fun v31 W=>
oK (pickP v28 v31 (.bool false)) fun v32=>
gX W v32 true v21 fun v34 W=>
gP W v32 true (binP .neq v34 (nI 5)) fun v35 W=>
oK (pickP v32 v35 (.bool false)) fun v36=>
ifK v36 (
R (.bool true) W) (
oK (binP .add x13 (nI 1)) fun v37=>
K1 [x3, x11, x12, v37] W)) (
R (.bool false) W)
def S.pax_replica_leading.body (R : VK) (v0 v1 : Value) (W : World) : Prop :=
eF W (Instr.box T_api_Dot v1) fun v3 W=>
oK (nilP v0) fun v9=>
oA 1 v9 fun v10=>
lD W T_s_p_pax_leader v10 fun v11 W=>
oK (lenP (.slice T_p_pax_leader) v11) fun v12=>
loopK (fun K1 s W => S.pax_replica_leading.l1 R K1 (nthv s 0) (nthv s 1) (nthv s 2) (nthv s 3) W) [v3, v11, v12, (nI 0)] W
theorem S.pax_replica_leading.call {R : VK} {v0 v1 : Value} {W : World} (h : S.pax_replica_leading.body R v0 v1 W) : callK PR F_pax_replica_leading [v0, v1] R W :=
callS (fn := Tryz.f30) (h := (.t (.two (.t (.at [3, 11, 12, 13] (.t (.two (.t .n) (.two (.t (.t (.t (.two (.t .n) .n)))) .n))) .n)) (.t .n)))) h
def S.pax_Group_ask.j1 (R : VK) (x1 x2 x6 x8 x9 : Value) (W : World) : Prop :=
oK (binP .neq x9 (nI 0)) fun v30=>
ifK v30 (
oK (bldP (fun i => ([(0, 1), (1, 2), (3, 14)] : List (Nat × Nat))[i]?) [.bool false, .int .i64 0, .int .i64 0, .int .i64 0, .slice none 0 0, .int .i64 0, .int .i64 0, .int .i64 0, .int .i64 0, .int .i64 0, .int .i64 0, .int .i64 0, .int .i64 0, .int .i64 0, .int .i64 0, .int .i64 0, .int .i64 0] []) fun v31=>
sT W T_inst_Answer x6 v31 fun _ W=>
rdK PR (Instr.loadAt T_inst_Answer x6) (fun r0 W =>
R (.tuple #[r0, (.bool false)]) W) W) (
oK (nilP x1) fun v34=>
oA 1 v34 fun v35=>
oK (idxA 7 1 v35 x2) fun v36=>
sT W T_p_inst_Answer v36 x8 fun _ W=>
lD W T_inst_Answer x8 fun v37 W=>
sT W T_inst_Answer x6 v37 fun _ W=>
rdK PR (Instr.loadAt T_inst_Answer x6) (fun r0 W =>
R (.tuple #[r0, (.bool true)]) W) W)
def S.pax_Group_ask.body (R : VK) (v0 v1 v2 : Value) (W : World) : Prop :=
eF W (Instr.alloc T_inst_Answer true (.tuple #[])) fun v6 W=>
joinK (fun s W => S.pax_Group_ask.j1 R (nthv s 0) (nthv s 1) (nthv s 2) (nthv s 3) (nthv s 4) W) (fun J1 =>
oK (nilP v0) fun v12=>
oA 0 v12 fun v13=>
lD (tick W) T_s_p_pax_replica v13 fun v14 W=>
oK (idxS 1 v14 v2) fun v16=>
lD W T_p_pax_replica v16 fun v17 W=>
oK (nilP v17) fun v18=>
oA 0 v18 fun v19=>
lD W T_p_inst_Table v19 fun v20 W=>
oK (nilP v1) fun v22=>
oA 0 v22 fun v23=>
lD W T_p_lead_Lead v23 fun v24 W=>
(cL W F_lead_Lead_Msg [v24] fun v25 W=>
sB W [hL 9 T_p_inst_Table v19 v20, hL 6 T_p_pax_replica v16 v17, hL 3 T_s_p_pax_replica v13 v14] fun W=>
(cL W F_inst_Table_Do [v20, v25] fun v26 W=>
oK (extP 0 v26) fun v27=>
oK (extP 1 v26) fun v28=>
eF W (Instr.alloc T_inst_Answer true (.tuple #[])) fun v8 W=>
sT W T_inst_Answer v8 v27 fun _ W=>
J1 [v1, v2, v6, v8, v28] W) ∧ (eF W (Instr.alloc T_inst_Answer true (.tuple #[])) fun v8_1 W=>
sB W [hL 9 T_p_inst_Table v19 v20, hL 6 T_p_pax_replica v16 v17, hL 3 T_s_p_pax_replica v13 v14] fun W=>
cL W F_inst_Table_Do [v20, v25] fun v26_1 W=>
oK (extP 0 v26_1) fun v27_1=>
oK (extP 1 v26_1) fun v28_1=>
sT W T_inst_Answer v8_1 v27_1 fun _ W=>
J1 [v1, v2, v6, v8_1, v28_1] W)) ∧ (eF W (Instr.alloc T_inst_Answer true (.tuple #[])) fun v8_2 W=>
sB W [hL 13 T_p_lead_Lead v23 v24, hL 9 T_p_inst_Table v19 v20, hL 6 T_p_pax_replica v16 v17, hL 3 T_s_p_pax_replica v13 v14] fun W=>
cL W F_lead_Lead_Msg [v24] fun v25_1 W=>
sB W [hL 9 T_p_inst_Table v19 v20, hL 6 T_p_pax_replica v16 v17, hL 3 T_s_p_pax_replica v13 v14] fun W=>
cL W F_inst_Table_Do [v20, v25_1] fun v26_2 W=>
oK (extP 0 v26_2) fun v27_2=>
oK (extP 1 v26_2) fun v28_2=>
sT W T_inst_Answer v8_2 v27_2 fun _ W=>
J1 [v1, v2, v6, v8_2, v28_2] W))
theorem S.pax_Group_ask.call {R : VK} {v0 v1 v2 : Value} {W : World} (h : S.pax_Group_ask.body R v0 v1 v2 W) : callK PR F_pax_Group_ask [v0, v1, v2] R W :=
callS (fn := Tryz.f34) (h := (.t (.at [1, 2, 6, 8, 9] .n (.two (.t (.two (.t .n) .n)) (.t (.t .n)))))) h
end Go.Proofs.YtfhacbhgmnhmlaaGreat
namespace Go.Eng
set_option linter.unusedVariables false
set_option linter.unusedSimpArgs false
open Go Go.RowKit Go.ChangeShapes Go.WideShapes Go.Deep
inductive Cl where
 | int (k : IntKind)
 | str
 | bool
 | sl (e : List Cl)
mutual
inductive GoodC (W : World) : Cl → Value → Prop where
 | int {k : IntKind} {n : Int} (h : (Lit.int k n).wf = true) : GoodC W (.int k) (.int k n)
 | str {s : ByteArray} (h : s.size ≤ maxLen) : GoodC W .str (.string s)
 | bool {b : Bool} : GoodC W .bool (.bool b)
 | sl {e : List Cl} {a : Option Addr} {n c : Nat} (rows : Nat → List Value) (hc : n ≤ c) (hm : c ≤ maxLen) (hn : a = none → c = 0)
   (hr : ∀ i, i < n → ∃ b o, a = some ⟨b, o, none⟩ ∧ ro W b (o + i * e.length) (rows i)) (hg : ∀ i, i < n → GoodL W e (rows i)) : GoodC W (.sl e) (.slice a n c)
inductive GoodL (W : World) : List Cl → List Value → Prop where
 | nil : GoodL W [] []
 | cons {c : Cl} {cs : List Cl} {v : Value} {vs : List Value} (h : GoodC W c v) (hs : GoodL W cs vs) : GoodL W (c :: cs) (v :: vs)
end
theorem GoodL.app {W : World} : ∀ {l : List Cl} {vs : List Value} {l' : List Cl} {vs' : List Value}, GoodL W l vs → GoodL W l' vs' → GoodL W (l ++ l') (vs ++ vs')
 | _, _, _, _, .nil, h => h
 | _, _, _, _, .cons h hs, h' => .cons h (hs.app h')
theorem GoodL.len {W : World} : ∀ {l : List Cl} {vs : List Value}, GoodL W l vs → vs.length = l.length
 | _, _, .nil => rfl
 | _, _, .cons h hs => by simp [hs.len]
def clF (P : Program) (g : TypeId → Option (List Cl)) : List Field → Nat → Option (List Cl)
 | [], _ => some []
 | f :: r, off => match Nat.beq f.offset off with
  | false => none
  | true => match g f.type with
   | some ks => match Nat.beq (P.cellsOf f.type) ks.length with
    | true => (match clF P g r (off + ks.length) with | some l => some (ks ++ l) | none => none)
    | false => none
   | none => none
def cls (P : Program) : Nat → TypeId → Option (List Cl)
 | 0, _ => none
 | d + 1, t => match P.underlying t with
  | some (.int k) => some [.int k]
  | some .string => some [.str]
  | some .bool => some [.bool]
  | some (.slice e) => (match cls P d e with | some l => (match Nat.beq (P.cellsOf e) l.length && !Nat.beq l.length 0 with | true => some [.sl l] | false => none) | none => none)
  | some (.struct fs) => (match clF P (cls P d) fs.toList 0 with | some l => (match Nat.beq (P.cellsOf t) l.length with | true => some l | false => none) | none => none)
  | some (.array n e) => (match cls P d e with | some l => (match Nat.beq (P.cellsOf e) l.length && Nat.beq (P.cellsOf t) (n * l.length) with | true => some (List.replicate n l).flatten | false => none) | none => none)
  | _ => none
section
variable {P : Program} {w : World} {H : Type} {enc : TypeId × Value → H}
theorem good_fields {g : TypeId → Option (List Cl)} {n : Nat} {cs : List Value}
  (hg : ∀ t l, g t = some l → ∀ cs x, DataW.trod enc P w 0 (fun _ => true) true n t cs = some x → GoodL w l cs) :
  ∀ (fs : List Field) (off : Nat) (l : List Cl), clF P g fs off = some l → (∀ f ∈ fs, ∃ x, DataW.trod enc P w 0 (fun _ => true) true n f.type ((cs.drop f.offset).take (P.cellsOf f.type)) = some x) →
   GoodL w l ((cs.drop off).take l.length)
 | [], off, l, h, _ => by simp only [clF, Option.some.injEq] at h; subst h; simpa using GoodL.nil
 | f :: fs, off, l, h, hx => by
  simp only [clF] at h
  split at h
  ·cases h
  ·rename_i ho
   have ho := Nat.eq_of_beq_eq_true ho
   split at h
   ·rename_i ks hks
    split at h
    ·rename_i hsz
     have hsz := Nat.eq_of_beq_eq_true hsz
     split at h
     ·rename_i l' hl'
      simp only [Option.some.injEq] at h
      subst h
      obtain ⟨x, hx0⟩ := hx f (by simp)
      rw [hsz, ho] at hx0
      have h1 := hg _ _ hks _ _ hx0
      have h2 := good_fields hg fs _ _ hl' (fun f' hf' => hx f' (List.mem_cons_of_mem _ hf'))
      have := h1.app h2
      rw [← List.drop_drop, ← List.take_add] at this
      simpa using this
     ·cases h
    ·cases h
   ·cases h
theorem open_cls : ∀ (m : Nat) (t : TypeId) (l : List Cl), cls P m t = some l → ∀ (fuel : Nat) (cs : List Value) (x : DataW H × List MemPlace), DataW.trod enc P w 0 (fun _ => true) true fuel t cs = some x → GoodL w l cs
 | 0, _, _, h => by simp [cls] at h
 | m + 1, t, l, h => by
  intro fuel cs x hx
  simp only [cls] at h
  cases ht : P.underlying t with
  | none => rw [ht] at h; cases h
  | some d =>
   rw [ht] at h
   cases d <;> simp only at h <;> try (cases h; done)
   case int k =>
    simp only [Option.some.injEq] at h
    subst h
    obtain ⟨n, rfl, _, hw⟩ := DataW.trod_int ht hx
    exact .cons (.int hw) .nil
   case string =>
    simp only [Option.some.injEq] at h
    subst h
    obtain ⟨n, rfl, _, hw⟩ := DataW.trod_string ht hx
    exact .cons (.str hw) .nil
   case bool =>
    simp only [Option.some.injEq] at h
    subst h
    obtain ⟨n, rfl, _⟩ := DataW.trod_bool ht hx
    exact .cons .bool .nil
   case slice e =>
    split at h
    ·rename_i le hle
     split at h
     ·rename_i hb
      simp only [Bool.and_eq_true, Bool.not_eq_true'] at hb
      have hsz := Nat.eq_of_beq_eq_true hb.1
      have hpos : 0 < le.length := Nat.pos_of_ne_zero fun e => by rw [e] at hb; simp at hb
      simp only [Option.some.injEq] at h
      subst h
      rcases open_slice ht hx with ⟨rfl, _⟩ | ⟨a, len, cap, mm, n, D, Pl, rfl, hb0, hl, hmx, hmm, rfl, hel⟩
      ·exact .cons (.sl (fun _ => []) (by omega) (by simp [maxLen]) (fun _ => rfl) (fun i hi => by omega) (fun i hi => by omega)) .nil
      ·simp only [if_true] at hmm
       subst hmm
       rw [hsz] at hel
       obtain ⟨rows, hrows⟩ := choose_lt (α := List Value) (p := fun i cs' => w.cells? 0 (a.add (i * le.length)) le.length = some cs' ∧ DataW.trod enc P w 0 (fun _ => true) true n e cs' = some (D i, Pl i)) hel
       refine .cons (.sl rows hl hmx (fun h => by cases h) (fun i hi => ?_) (fun i hi => open_cls m e le hle n _ _ (hrows i (by omega)).2)) .nil
       obtain ⟨_, hlen0, hcell0⟩ := World.cells?_some (hrows 0 (by omega)).1
       obtain ⟨_, hlen, hcell⟩ := World.cells?_some (hrows i (by omega)).1
       have h0 : ∃ v, w.cell? a = some v := by
        have := hcell0 0 hpos
        simp only [Nat.zero_mul, Addr.add, if_true] at this
        rw [this]
        exact ⟨(rows 0)[0]'(by omega), by simp⟩
       obtain ⟨v, hv⟩ := h0
       have hsp := World.cell?_spot hv
       obtain ⟨ab, ao, asp⟩ := a
       simp only at hsp
       subst hsp
       refine ⟨ab, ao, rfl, fun j hj => ?_⟩
       have := hcell j (by omega)
       rw [add_none, add_none] at this
       exact this
     ·cases h
    ·cases h
   case struct fs =>
    split at h
    ·rename_i l' hl'
     split at h
     ·rename_i hsz
      have hsz := Nat.eq_of_beq_eq_true hsz
      simp only [Option.some.injEq] at h
      subst h
      obtain ⟨xs, n, rfl, rfl, hlen, hxs, hf⟩ := DataW.trod_struct ht hx
      have := good_fields (cs := cs) (fun t l hl cs x hx => open_cls m t l hl n cs x hx) fs.toList 0 l' hl' (fun f hf' => by
       obtain ⟨i, hi, rfl⟩ := List.getElem_of_mem hf'
       have hi' : i < fs.size := by simpa using hi
       have := hf i fs[i] (by simp [hi'])
       rw [show fs.toList[i] = fs[i] by simp, this]
       exact ⟨xs[i]'(by omega), by simp⟩)
      rw [← hsz, ← hlen] at this
      simpa using this
     ·cases h
    ·cases h
   case array k e =>
    split at h
    ·rename_i le hle
     split at h
     ·rename_i hb
      simp only [Bool.and_eq_true] at hb
      have hsz := Nat.eq_of_beq_eq_true hb.1
      have hsz2 := Nat.eq_of_beq_eq_true hb.2
      simp only [Option.some.injEq] at h
      subst h
      obtain ⟨xs, n, rfl, rfl, hlen, hxs, hf⟩ := DataW.trod_array ht hx
      rw [hsz2] at hlen
      rw [hsz] at hf
      have key : ∀ j, j ≤ k → GoodL w (List.replicate j le).flatten (cs.take (j * le.length)) := by
       intro j
       induction j with
       | zero => intro _; simpa using GoodL.nil
       | succ j ih =>
        intro hj
        have h1 := hf j (by omega)
        have h2 : GoodL w le ((cs.drop (j * le.length)).take le.length) := by
         refine open_cls m e le hle n _ (xs[j]'(by omega)) ?_
         rw [h1]; simp
        have := (ih (by omega)).app h2
        rw [← List.take_add] at this
        rw [List.replicate_succ', List.flatten_append, Nat.succ_mul]
        simpa using this
      have := key k (Nat.le_refl _)
      rw [← hlen] at this
      simpa using this
     ·cases h
    ·cases h
def GoodA (w : World) (l : List Cl) (agg : Bool) (v : Value) : Prop := GoodL w l (vcells v) ∧ (agg = true → ∃ cs : List Value, v = .agg cs.toArray) ∧ (agg = false → vcells v = [v])
theorem open_arg {t : TypeId} {l : List Cl} {agg : Bool} {m : Nat} {v : Value} {d : DataW H} {ps : List MemPlace} {r : Reach} {b0 : Nat} (hl : cls P m t = some l) (ha : (P.underlying t).map aggB = some agg)
  (hval : Value.okWide P w r b0 t v) (h : DataW.Trod enc P w 0 (fun _ => true) true t v d ps) : GoodA w l agg v := by
 obtain ⟨fuel, hf⟩ := h
 obtain ⟨u, hu, hu'⟩ := Option.map_eq_some_iff.1 ha
 refine ⟨by have := open_cls m t l hl _ _ _ hf; rwa [vcells_eq] at this, fun hagg => ?_, fun hagg => ?_⟩
 ·subst hagg
  cases u <;> simp only [aggB] at hu' <;> try (cases hu'; done)
  case struct fs =>
   obtain ⟨cs, rfl, _⟩ := okWide_struct hu hval
   exact ⟨cs.toList, rfl⟩
  case array n e =>
   simp only [Value.okWide, hu] at hval
   cases v <;> simp_all
   exact ⟨_, (Array.toArray_toList).symm⟩
 ·subst hagg
  cases m with
  | zero => simp [cls] at hl
  | succ m =>
   simp only [cls, hu] at hl
   cases u <;> simp only [aggB] at hu' <;> simp only at hl <;> try (first | (cases hu'; done) | (cases hl; done))
   case int k => obtain ⟨n, rfl⟩ := okWide_int hu hval; rfl
   case string => obtain ⟨n, rfl⟩ := okWide_string hu hval; rfl
   case bool => obtain ⟨n, rfl⟩ := okWide_bool hu hval; rfl
   case slice e => obtain ⟨a, b, c, rfl⟩ := okWide_slice hu hval; rfl
theorem GoodL.cons' {c : Cl} {cs : List Cl} {vs : List Value} (h : GoodL w (c :: cs) vs) : ∃ v vs', vs = v :: vs' ∧ GoodC w c v ∧ GoodL w cs vs' := by
 cases h with | cons h1 h2 => exact ⟨_, _, rfl, h1, h2⟩
theorem GoodL.nil' {vs : List Value} (h : GoodL w [] vs) : vs = [] := by cases h; rfl
theorem GoodA.one {c : Cl} {v : Value} (h : GoodA w [c] false v) : GoodC w c v := by
 obtain ⟨h1, _, h2⟩ := h
 rw [h2 rfl] at h1
 cases h1 with | cons h _ => exact h
theorem GoodC.int' {k : IntKind} {v : Value} (h : GoodC w (.int k) v) : ∃ n, v = .int k n ∧ (Lit.int k n).wf = true := by
 cases h with | int h => exact ⟨_, rfl, h⟩
theorem GoodC.sl' {e : List Cl} {v : Value} {α : Type} [Inhabited α] {q : α → List Value → Prop} (h : GoodC w (.sl e) v) (hq : ∀ vs, GoodL w e vs → ∃ a, q a vs) :
  ∃ a n c, ∃ A : Nat → α, v = .slice a n c ∧ n ≤ c ∧ c ≤ maxLen ∧ (a = none → c = 0) ∧ ∀ i, i < n → ∃ b o vs, a = some ⟨b, o, none⟩ ∧ ro w b (o + i * e.length) vs ∧ q (A i) vs := by
 cases h with
 | sl rows hc hm hn hr hg =>
  obtain ⟨A, hA⟩ := choose_lt fun i hi => hq _ (hg i hi)
  exact ⟨_, _, _, A, rfl, hc, hm, hn, fun i hi => let ⟨b, o, h1, h2⟩ := hr i hi; ⟨b, o, rows i, h1, h2, hA i hi⟩⟩
theorem keep_all (hl : laidOutB P = true) : ∀ {ts : List TypeId} {vs : List Value} {ds : List (DataW H)} {ps : List MemPlace} {W W' : World}, ts.all (fun t => P.readableRec t && decide (t < P.types.size)) = true →
  DataW.TrodAll enc P W 0 (fun _ => true) true ts vs ds ps → Below W.heap.size W W' → DataW.TrodAll enc P W' 0 (fun b => decide (b < W.heap.size)) true ts vs ds ps
 | [], [], [], _, _, _, _, h, _ => h
 | [], [], _ :: _, _, _, _, _, h, _ => h.elim
 | [], _ :: _, _, _, _, _, _, h, _ => h.elim
 | _ :: _, [], _, _, _, _, _, h, _ => h.elim
 | _ :: _, _ :: _, [], _, _, _, _, h, _ => h.elim
 | t :: ts, v :: vs, d :: ds, ps, W, W', ha, h, hb => by
  obtain ⟨p, q, h1, h2, rfl⟩ := h
  simp only [List.all_cons, Bool.and_eq_true, decide_eq_true_eq] at ha
  have lt : ∀ x ∈ p, x.block < W.heap.size := by obtain ⟨m, hm⟩ := h1; exact DataW.trod_lt m _ _ _ hm
  exact ⟨p, q, Below.trod hl ha.1.1 ha.1.2 h1 hb lt, keep_all hl ha.2 h2 hb, rfl⟩
end
end Go.Eng
namespace Go.Eng
set_option linter.unusedVariables false
set_option linter.unusedSimpArgs false
open Go Go.RowKit
theorem ro_rows {α : Type} {A : Ly α} {w : World} {b o : Nat} : ∀ (l : List α), (∀ i (hi : i < l.length), ro w b (o + i * A.sz) (A.row l[i])) → ro w b o (A.rows l) := by
 intro l h j hj
 rw [Ly.rows_len] at hj
 have hp := A.pos
 have hi : j / A.sz < l.length := Nat.div_lt_of_lt_mul (by rw [Nat.mul_comm]; exact hj)
 have hr : j % A.sz < A.sz := Nat.mod_lt _ hp
 have h1 := h _ hi (j % A.sz) (by rw [A.len]; exact hr)
 have e : o + j / A.sz * A.sz + j % A.sz = o + j := by rw [Nat.add_assoc, Nat.div_add_mod']
 rw [e] at h1
 rw [h1, ← Ly.rows_at hi, List.getElem?_take_of_lt hr, List.getElem?_drop, Nat.div_add_mod']
theorem openArr {α : Type} [Inhabited α] (A : Ly α) {e : List Cl} (p : α → Prop) {w : World} {v : Value} (h : GoodC w (.sl e) v) (he : e.length = A.sz) (hq : ∀ vs, GoodL w e vs → ∃ a, vs = A.row a ∧ p a) :
  ∃ (a : Option Addr) (c : Nat) (l : List α), v = .slice a l.length c ∧ l.length ≤ c ∧ c ≤ maxLen ∧ Rd w [] a A l ∧ ∀ x ∈ l, p x := by
 obtain ⟨a, n, c, F, rfl, hn, hc, ha, hr⟩ := h.sl' (q := fun x vs => vs = A.row x ∧ p x) hq
 refine ⟨a, c, (List.range n).map F, by simp, by simpa using hn, hc, Rd.base ?_, fun x hx => ?_⟩
 ·by_cases hn0 : n = 0
  ·subst hn0; exact .inl rfl
  ·right
   obtain ⟨b, o, vs, rfl, _⟩ := hr 0 (by omega)
   refine ⟨b, o, rfl, ro_rows _ fun i hi => ?_⟩
   obtain ⟨b', o', vs, h1, h2, h3, _⟩ := hr i (by simpa using hi)
   cases h1
   rw [he] at h2
   subst h3
   simpa using h2
 ·obtain ⟨i, hi, rfl⟩ := List.mem_map.1 hx
  obtain ⟨_, _, _, _, _, _, h⟩ := hr i (by simpa using hi)
  exact h
end Go.Eng
namespace Go.Proofs.YtfhacbhgmnhmlaaGreat
set_option linter.unusedVariables false
set_option linter.unusedSimpArgs false
open Go Go.Eng Go.RowKit
structure Lo (W W' : World) : Prop where
 below : Below W.heap.size W W'
theorem St.startz (W : World) : St { W with drawn := 0 } [] W := ⟨⟨⟨rfl, rfl, rfl, Nat.le_refl _, fun _ _ => rfl⟩, Nat.zero_le _⟩, fun _ => none, fun _ => rfl, fun b o h => by cases h⟩
theorem St.lo {W W' : World} {L : List Asn} (h : St { W with drawn := 0 } L W') : Lo W W' := ⟨⟨h.bel.os, h.bel.tape, h.bel.output, h.bel.size, h.bel.block⟩⟩
mutual
theorem goodCz {W : World} {c : Cl} {v : Value} : GoodC W c v → GoodC { W with drawn := 0 } c v
 | .int h => .int h
 | .str h => .str h
 | .bool => .bool
 | .sl rows hc hm hn hr hg => .sl rows hc hm hn hr fun i hi => goodLz (hg i hi)
theorem goodLz {W : World} {l : List Cl} {v : List Value} : GoodL W l v → GoodL { W with drawn := 0 } l v
 | .nil => .nil
 | .cons h hs => .cons (goodCz h) (goodLz hs)
end
theorem goodAz {W : World} {l : List Cl} {b : Bool} {v : Value} (h : GoodA W l b v) : GoodA { W with drawn := 0 } l b v := ⟨goodLz h.1, h.2⟩
end Go.Proofs.YtfhacbhgmnhmlaaGreat
namespace Go.Proofs.YtfhacbhgmnhmlaaGreat
set_option linter.unusedVariables false
set_option linter.unusedSimpArgs false
open Go Go.Eng
def PTR : Ly Nat := ⟨1, by omega, fun p => [.pointer (some ⟨p, 0, none⟩)], fun _ => rfl, fun _ => rfl⟩
abbrev AX := Option (Nat × Ans BSl)
@[reducible] def qa (r : AX) : Option Addr := match r with
 | some p => some ⟨p.1, 0, none⟩
 | none => none
@[reducible] def oa (r : AX) : Asn := match r with
 | some p => sep [cells p.1 [.bool p.2.ok, .int .i64 p.2.bal.1, .int .i64 p.2.bal.2, .int .i64 p.2.rc.st, p.2.rc.cmd.v, .int .i64 p.2.rc.seq, .int .i64 p.2.rc.deps.x0, .int .i64 p.2.rc.deps.x1, .int .i64 p.2.rc.deps.x2, .int .i64 p.2.rc.deps.x3, .int .i64 p.2.rc.deps.x4, .int .i64 p.2.rc.deps.x5, .int .i64 p.2.rc.deps.x6, .int .i64 p.2.rc.bal.1, .int .i64 p.2.rc.bal.2, .int .i64 p.2.rc.ab.1, .int .i64 p.2.rc.ab.2] T_inst_Answer, fch p.2.rc.cmd]
 | none => fun h => ∀ x, h x = none
@[reducible] def aab (p : Nat × Ans BSl) : Ans Bs := p.2.map BSl.bs
structure LdX where
 q : Nat
 X : LX
 lp : P7 AX
def LdX.abs (y : LdX) : LdR := ⟨y.X.abs, y.lp.map (Option.map aab)⟩
def LdX.ok (tp : Nat) (y : LdX) : Prop := y.X.t = tp ∧ ∀ p, some p ∈ y.lp.list → p.2.rc.cmd.bs.length < 1099511627776
def lrc (tp : Nat) (z : Nat × LdR) : Asn := fun h => ∃ y : LdX, (y.ok tp ∧ y.abs = z.2) ∧ sep [cells z.1 [.pointer (some ⟨y.q, 0, none⟩), .pointer (qa y.lp.x0), .pointer (qa y.lp.x1), .pointer (qa y.lp.x2), .pointer (qa y.lp.x3), .pointer (qa y.lp.x4), .pointer (qa y.lp.x5), .pointer (qa y.lp.x6)] T_pax_leader, ldc y.q y.X, many oa y.lp.list] h
structure RepX where
 p : Nat
 t : Nat
 la : Option Addr
 lc : Nat
 ls : List (Nat × LdR)
 used : Int
@[reducible] def rce (z : RepX) : Asn := cells z.p [.pointer (some ⟨z.t, 0, none⟩), .slice z.la z.ls.length z.lc, .int .i64 z.used] T_pax_replica
def rld (z : RepX) : Asn := sep [arr PTR T_p_pax_leader z.la z.lc (z.ls.map (·.1)), many (lrc z.t) z.ls]
@[reducible] def rtb (z : Nat × Tbl) : Asn := tb z.1 z.2
structure GX where
 a : Option Addr
 c : Nat
 zs : List RepX
abbrev GX.tz (x : GX) (T : List Tbl) : List (Nat × Tbl) := (x.zs.map (·.t)).zip T
abbrev SK := Option Addr × Nat × List Nat
abbrev GX.sk (x : GX) : SK := (x.a, x.c, x.zs.map fun z : RepX => z.p)
def GX.ok (x : GX) (sk : SK) (G : Grp) : Prop := x.zs.length = G.n ∧ x.zs.map (fun z => z.ls.map (·.2)) = G.ls ∧ x.zs.map (·.used) = G.used ∧ x.sk = sk
@[reducible] def gce (g : Nat) (x : GX) : Asn := cells g [.slice x.a x.zs.length x.c] T_pax_Group
@[reducible] def gar (x : GX) : Asn := arr PTR T_p_pax_replica x.a x.c (x.zs.map (·.p))
def grpP (g : Nat) (P : SK × Grp) : Asn := fun h => ∃ x : GX, x.ok P.1 P.2 ∧ sep [gce g x, gar x, many rce x.zs, many rld x.zs, many rtb (x.tz P.2.T)] h
@[reducible] def grp (g : Nat) (sk : SK) (G : Grp) : Asn := grpP g (sk, G)
section
variable {sk : SK} {W0 W : World} {L L' : List Asn} {β : Type} {F : β → Asn}
theorem erase_perm (l : List β) {i : Nat} (hi : i < l.length) : l.Perm (l[i] :: l.eraseIdx i) := by
 rw [List.eraseIdx_eq_take_drop_succ]
 conv => lhs; rw [← List.take_append_drop i l, List.drop_eq_getElem_cons hi]
 exact List.perm_middle
theorem mtake (l : List β) {i : Nat} (hi : i < l.length) : ent (many F l :: L) (F l[i] :: many F (l.eraseIdx i) :: L) := (many_perm (F := F) (erase_perm l hi)).trans (many_cons _ _)
theorem mgive (l : List β) {i : Nat} (hi : i < l.length) (y : β) : ent (F y :: many F (l.eraseIdx i) :: L) (many F (l.set i y) :: L) := by
 refine (many_uncons (F := F) y _).trans (many_perm (F := F) ?_)
 have h := (erase_perm (l.set i y) (i := i) (by simpa using hi)).symm
 rw [List.getElem_set_self, List.eraseIdx_set_eq] at h
 exact h
theorem mback (l : List β) {i : Nat} (hi : i < l.length) : ent (F l[i] :: many F (l.eraseIdx i) :: L) (many F l :: L) := by
 have h := mgive (F := F) (L := L) l hi l[i]
 rwa [List.set_getElem_self] at h
theorem zip_set {α : Type} : ∀ (l : List β) (m : List α) (i : Nat) (b : α) (hi : i < l.length), (l.zip m).set i (l[i], b) = l.zip (m.set i b)
 | x :: l, y :: m, 0, b, _ => rfl
 | x :: l, y :: m, i + 1, b, hi => by simp [zip_set l m i b (by simpa using hi)]
 | x :: l, [], i, b, _ => by simp
theorem ldP {T : TypeId} [ht : TyI PR T false 1] {a : Option Addr} {g o i : Nat} {ps : List Nat} {k : Value → World → Prop} (ha : a = some ⟨g, o, none⟩) (h : St W0 L W) [hr : Rd W0 L a PTR ps] (hi : i < ps.length) (hk : k (.pointer (some ⟨ps[i], 0, none⟩)) W) :
  rdK PR (Instr.loadAt T (.pointer (some ⟨g, o + i * 1, none⟩))) k W := by
 subst ha
 exact ldA0 (A := PTR) (l := ps) h rfl hi (v := .pointer (some ⟨ps[i], 0, none⟩)) rfl (by simp) hk
theorem stbP {T : TypeId} [ht : TyI PR T false 1] {a : Option Addr} {g o i : Nat} {ps : List Nat} {ii : Nat} {bb : Bool} {v : Value} {hl : List HoldV} {R : World → Prop} (ha : a = some ⟨g, o, none⟩) (h : St W0 L W) [hr : Rd W0 L a PTR ps] (hi : i < ps.length) (hv : v = .pointer (some ⟨ps[i], 0, none⟩)) (hk : stb PR hl R W) :
  stb PR ((ii, bb, Instr.loadAt T (.pointer (some ⟨g, o + i * 1, none⟩)), v) :: hl) R W := by
 subst hv ha
 exact stb_ldA0 (A := PTR) (l := ps) h rfl hi rfl (by simp) hk
theorem grp_at {g : Nat} {G : Grp} (h : St W0 (grp g sk G :: L) W) : ∃ x : GX, x.ok sk G ∧ St W0 (gce g x :: gar x :: many rce x.zs :: many rld x.zs :: many rtb (x.tz G.T) :: L) W := by
 obtain ⟨x, h⟩ := h.ex
 obtain ⟨h1, h⟩ := h.fact
 exact ⟨x, h1, h.flat⟩
theorem grp_ent {g : Nat} {G : Grp} {x : GX} (hx : x.ok sk G) : ent (gce g x :: gar x :: many rce x.zs :: many rld x.zs :: many rtb (x.tz G.T) :: L) (grp g sk G :: L) :=
 (ent.pack [_, _, _, _, _] L).trans (ent.weak fun _ hp => ⟨x, hx, hp⟩)
theorem tz_at {x : GX} {T : List Tbl} (hl : x.zs.length = T.length) {i : Nat} (hi : i < T.length) : (x.tz T).length = T.length ∧ ∀ h, (x.tz T)[i]'h = ((x.zs[i]'(by omega)).t, T[i]) := by
 refine ⟨by simp [hl], fun h => by simp⟩
theorem tb_take {x : GX} {T : List Tbl} (hl : x.zs.length = T.length) {i : Nat} (hi : i < T.length) : ent (many rtb (x.tz T) :: L) (tb (x.zs[i]'(by omega)).t (tAt T i) :: many rtb ((x.tz T).eraseIdx i) :: L) := by
 have h := tz_at hl hi
 have h1 := mtake (F := rtb) (L := L) (x.tz T) (i := i) (by omega)
 rw [h.2] at h1
 rwa [show tAt T i = T[i] by simp [tAt, hi]]
theorem tb_give {x : GX} {T : List Tbl} (hl : x.zs.length = T.length) {i : Nat} (hi : i < T.length) (U : Tbl) : ent (tb (x.zs[i]'(by omega)).t U :: many rtb ((x.tz T).eraseIdx i) :: L) (many rtb (x.tz (T.set i U)) :: L) := by
 have h := tz_at hl hi
 have h1 := mgive (F := rtb) (L := L) (x.tz T) (i := i) (by omega) ((x.zs[i]'(by omega)).t, U)
 have h2 := zip_set (x.zs.map (·.t)) T i U (by simp; omega)
 rw [List.getElem_map] at h2
 unfold GX.tz at h1 ⊢
 rw [h2] at h1
 exact h1
theorem tAt_set_self {T : List Tbl} (i : Nat) : T.set i (tAt T i) = T := by
 unfold tAt
 by_cases h : i < T.length
 ·simp [h]
 ·rw [List.set_eq_of_length_le (by omega)]
theorem tb_back {x : GX} {T : List Tbl} (hl : x.zs.length = T.length) {i : Nat} (hi : i < T.length) : ent (tb (x.zs[i]'(by omega)).t (tAt T i) :: many rtb ((x.tz T).eraseIdx i) :: L) (many rtb (x.tz T) :: L) := by
 have h := tb_give (L := L) hl hi (tAt T i)
 rwa [tAt_set_self] at h
theorem posP {a : Option Addr} {ps : List Nat} {i : Nat} (h : St W0 L W) [hr : Rd W0 L a PTR ps] (hi : i < ps.length) : ∃ g o, a = some ⟨g, o, none⟩ := posAddr (A := PTR) h hi
theorem ixP {a : Option Addr} {b o n c i : Nat} (ha : a = some ⟨b, o, none⟩) (hi : i < n) : idxS 1 (.slice a n c) (.int .i64 (i : Int)) = some (.pointer (some ⟨b, o + i * 1, none⟩)) := by
 rw [ha, idxS_blk (by omega) (by omega), Int.toNat_natCast]
theorem paxHas {g n c : Nat} {a : Option Addr} {i : Int} {k : Value → World → Prop} (h : St W0 L W) [hk : Ck g L [.slice a n c] T_pax_Group L'] (hk : ∀ W', St W0 L W' → k (.bool (decide (0 ≤ i) && decide (i < n))) W') : callK PR F_pax_Group_has [.pointer (some ⟨g, 0, none⟩), .int .i64 i] k W := by
 apply S.pax_Group_has.call
 delta S.pax_Group_has.body oK oA rD lD eF eU sT cL vC gD gX gP gA gR gL gE gU gC gV hL sB nI
 by_cases h1 : 0 ≤ i
 ·by_cases h2 : i < n
  ·simp only [h1, h2, decide_true, Bool.and_self] at hk
   (repeat (first | ((with_reducible refine v5 ?_); refine ⟨_, rfl, ?_⟩) | simp -implicitDefEqProofs only [SE, SU, SV, h1, h2]))
   exact hk _ (by assumption)
  ·simp only [h1, h2, decide_true, decide_false, Bool.and_false] at hk
   (repeat (first | ((with_reducible refine v5 ?_); refine ⟨_, rfl, ?_⟩) | simp -implicitDefEqProofs only [SE, SU, SV, h1, h2]))
   exact hk _ (by assumption)
 ·simp only [h1, decide_false, Bool.false_and] at hk
  (repeat simp -implicitDefEqProofs only [SE, SU, SV, h1])
  exact hk _ (by assumption)
end
end Go.Proofs.YtfhacbhgmnhmlaaGreat
namespace Go.Proofs.YtfhacbhgmnhmlaaGreat
set_option linter.unusedVariables false
set_option linter.unusedSimpArgs false
open Go Go.Eng
section
variable {sk : SK} {W0 W : World} {L L' : List Asn} {g : Nat} {G : Grp} {x : GX}
theorem has_iff {i : Int} : G.has i = true ↔ 0 ≤ i ∧ i < G.n := by simp [Grp.has]
theorem grp_one (hx : x.ok sk G) {j : Nat} (hj : j < x.zs.length) (h : St W0 (gce g x :: gar x :: many rce x.zs :: many rld x.zs :: many rtb (x.tz G.T) :: L) W) :
  St W0 (rce x.zs[j] :: tb x.zs[j].t (G.t j) :: gce g x :: gar x :: many rce (x.zs.eraseIdx j) :: many rld x.zs :: many rtb ((x.tz G.T).eraseIdx j) :: L) W := by
 have hn : j < G.T.length := by have := hx.1; unfold Grp.n at this; omega
 have h := (St.wk (L' := many rce x.zs :: many rtb (x.tz G.T) :: gce g x :: gar x :: many rld x.zs :: L) h).ent ((mtake (F := rce) x.zs hj).trans (ent.cons _ (ent.cons _ (tb_take hx.1 hn))))
 exact St.wk h
theorem grp_shut (hx : x.ok sk G) {j : Nat} (hj : j < x.zs.length) (h : St W0 (rce x.zs[j] :: tb x.zs[j].t (G.t j) :: gce g x :: gar x :: many rce (x.zs.eraseIdx j) :: many rld x.zs :: many rtb ((x.tz G.T).eraseIdx j) :: L) W) :
  St W0 (grp g sk G :: L) W := by
 have hn : j < G.T.length := by have := hx.1; unfold Grp.n at this; omega
 have h := (St.wk (L' := rce x.zs[j] :: many rce (x.zs.eraseIdx j) :: tb x.zs[j].t (G.t j) :: many rtb ((x.tz G.T).eraseIdx j) :: gce g x :: gar x :: many rld x.zs :: L) h).ent ((ent.cons _ (ent.cons _ (tb_back hx.1 hn))).trans (mback (F := rce) x.zs hj))
 exact (St.wk (L' := gce g x :: gar x :: many rce x.zs :: many rld x.zs :: many rtb (x.tz G.T) :: L) h).ent (grp_ent hx)
theorem paxRec {i : Int} {d : Dot} {k : Value → World → Prop} (h : St W0 L W) [ht : Tk (grpP g) L (sk, G) L']
  (hk : ∀ (y : Rec BSl) W', y.map BSl.bs = G.recd i d → St W0 (fch y.cmd :: grp g sk G :: L') W' → k (.agg #[.int .i64 y.st, y.cmd.v, .int .i64 y.seq, .int .i64 y.deps.x0, .int .i64 y.deps.x1, .int .i64 y.deps.x2, .int .i64 y.deps.x3, .int .i64 y.deps.x4, .int .i64 y.deps.x5, .int .i64 y.deps.x6, .int .i64 y.bal.1, .int .i64 y.bal.2, .int .i64 y.ab.1, .int .i64 y.ab.2]) W') : callK PR F_pax_Group_Rec [.pointer (some ⟨g, 0, none⟩), .int .i64 i, .agg #[.int .i64 d.rep, .int .i64 d.n]] k W := by
 apply S.pax_Group_Rec.call
 delta S.pax_Group_Rec.body oK oA rD lD eF eU sT cL vC gD gX gP gA gR gL gE gU gC gV hL sB nI
 obtain ⟨x, hx, h⟩ := grp_at (h.perm ht.perm)
 refine bxa h fun db W1 h => ?_
 refine al h fun ab W1 h => ?_
 (try simp only [BLS, SB, stL_a, stL_b, stL_c, lsub_a, lsub_b, lsub_c, List.append_nil, List.take_nil, List.drop_nil, Nat.reduceAdd] at h)
 refine paxHas (n := x.zs.length) (c := x.c) (a := x.a) h fun W2 h => ?_
 have hn : x.zs.length = G.n := hx.1
 cases hh : G.has i with
 | false =>
  have e : (decide (0 ≤ i) && decide (i < (x.zs.length : Int))) = false := by rw [hn]; exact hh
  rw [e]
  (repeat (first | ((with_reducible refine v5 ?_); refine ⟨_, rfl, ?_⟩) | ((with_reducible refine v12 ?_ ?_); exact rfl; intros) | ((with_reducible refine w5 ?_ ?_); simp; refine ⟨_, rfl, ?_⟩) | (refine okF_i (bldP_eq rfl) ?_; try simp only [BLS, SB, Nat.reduceAdd]) | simp -implicitDefEqProofs only [SE, SU, SV]))
  rename_i h
  (try simp only [BLS, SB, stL_a, stL_b, stL_c, lsub_a, lsub_b, lsub_c, List.append_nil, List.take_nil, List.drop_nil, Nat.reduceAdd] at h)
  refine hk recZX _ (by unfold Grp.recd; rw [hh]; rfl) ?_
  exact (((St.wk (L' := gce g x :: gar x :: many rce x.zs :: many rld x.zs :: many rtb (x.tz G.T) :: L') h).ent (grp_ent hx))).ent (fch0 _)
 | true =>
  have e : (decide (0 ≤ i) && decide (i < (x.zs.length : Int))) = true := by rw [hn]; exact hh
  obtain ⟨h0, h1⟩ := has_iff.1 hh
  obtain ⟨j, rfl⟩ := Int.eq_ofNat_of_zero_le h0
  have hj : j < x.zs.length := by omega
  rw [e]
  obtain ⟨ga, go, hga⟩ := posP (a := x.a) (ps := x.zs.map fun z : RepX => z.p) (i := j) h (by simpa using hj)
  have h := grp_one hx hj (St.wk (L' := gce g x :: gar x :: many rce x.zs :: many rld x.zs :: many rtb (x.tz G.T) :: cells ab [.int .i64 recZX.st, recZX.cmd.v, .int .i64 recZX.seq, .int .i64 recZX.deps.x0, .int .i64 recZX.deps.x1, .int .i64 recZX.deps.x2, .int .i64 recZX.deps.x3, .int .i64 recZX.deps.x4, .int .i64 recZX.deps.x5, .int .i64 recZX.deps.x6, .int .i64 recZX.bal.1, .int .i64 recZX.bal.2, .int .i64 recZX.ab.1, .int .i64 recZX.ab.2] T_inst_Rec :: cells db [.int .i64 d.rep, .int .i64 d.n] T_api_Dot :: L') h)
  have ix := ixP (c := x.c) hga hj
  (repeat (first | ((with_reducible refine v5 ?_); refine ⟨_, rfl, ?_⟩) | simp -implicitDefEqProofs only [SE, SU, SV, ix]))
  refine ldP (ps := x.zs.map fun z : RepX => z.p) hga (by exact St.tick (by assumption)) (by simpa using hj) ?_
  rw [List.getElem_map]
  (repeat (first | ((with_reducible refine v5 ?_); refine ⟨_, rfl, ?_⟩) | simp -implicitDefEqProofs only [SE, SU, SV]))
  refine instRec (p := x.zs[j].t) (T := G.t j) (d := d) (by exact St.tick (by assumption)) fun y W3 hy h => ?_
  (repeat (first | ((with_reducible refine v5 ?_); refine ⟨_, rfl, ?_⟩) | ((with_reducible refine v12 ?_ ?_); exact rfl; intros) | ((with_reducible refine w5 ?_ ?_); simp; refine ⟨_, rfl, ?_⟩) | simp -implicitDefEqProofs only [SE, SU, SV]))
  rename_i h
  (try simp only [BLS, SB, stL_a, stL_b, stL_c, lsub_a, lsub_b, lsub_c, List.append_nil, List.take_nil, List.drop_nil, Nat.reduceAdd] at h)
  refine hk y _ (by unfold Grp.recd; rw [hh]; exact hy) ?_
  exact (grp_shut hx hj (St.wk (L' := rce x.zs[j] :: tb x.zs[j].t (G.t j) :: gce g x :: gar x :: many rce (x.zs.eraseIdx j) :: many rld x.zs :: many rtb ((x.tz G.T).eraseIdx j) :: fch y.cmd :: L') h)).perm (List.Perm.swap _ _ _)
end
end Go.Proofs.YtfhacbhgmnhmlaaGreat
namespace Go.Proofs.YtfhacbhgmnhmlaaGreat
set_option linter.unusedVariables false
set_option linter.unusedSimpArgs false
open Go Go.Eng
def Grp.Nd (G : Grp) : Prop := ∀ T ∈ G.T, Go.Proofs.YtfhacbhgmnhmlaaGreat.Nd T
theorem nd_at {T : List Tbl} (h : ∀ U ∈ T, Nd U) (j : Nat) : Nd (tAt T j) := by
 unfold tAt
 by_cases hj : j < T.length
 ·rw [List.getD_eq_getElem?_getD, List.getElem?_eq_getElem hj]; exact h _ (List.getElem_mem hj)
 ·rw [List.getD_eq_getElem?_getD, List.getElem?_eq_none (by omega)]; exact List.nodup_nil
theorem allT_len {T : Tbl} (hn : Nd T) (ht : Tok T) : (allT T).length ≤ 7000 := by
 have h1 : (allT T).length ≤ (promT T).length := List.length_filter_le _ _
 have h2 : (promT T).length = T.length := by unfold promT; rw [(sortDt_perm _).length_eq, List.length_map]
 have := tok_len hn ht
 omega
theorem filter_one {α : Type} (P : α → Prop) [DecidablePred P] (a : α) : [a].filter (fun d => decide (P d)) = if P a then [a] else [] := by
 by_cases h : P a <;> simp [h]
section
variable {sk : SK} {W0 W : World} {L L' : List Asn} {g : Nat} {G : Grp} {x : GX}
set_option maxHeartbeats 4000000 in
theorem paxCommitted {i : Int} {k : Value → World → Prop} (h : St W0 L W) [ht : Tk (grpP g) L (sk, G) L'] (hN : G.Nd)
  (hk : ∀ a c W', St W0 (arr DOT T_api_Dot a c (G.committed i) :: grp g sk G :: L') W' → k (.slice a (G.committed i).length c) W') : callK PR F_pax_Group_Committed [.pointer (some ⟨g, 0, none⟩), .int .i64 i] k W := by
 apply S.pax_Group_Committed.call
 delta S.pax_Group_Committed.body oK oA rD lD eF eU sT cL vC gD gX gP gA gR gL gE gU gC gV hL sB nI
 obtain ⟨x, hx, h⟩ := grp_at (h.perm ht.perm)
 refine paxHas (n := x.zs.length) (c := x.c) (a := x.a) h fun W2 h => ?_
 have hn : x.zs.length = G.n := hx.1
 cases hh : G.has i with
 | false =>
  have e : (decide (0 ≤ i) && decide (i < (x.zs.length : Int))) = false := by rw [hn]; exact hh
  rw [e]
  unfold Grp.committed at hk
  rw [hh] at hk
  (repeat simp -implicitDefEqProofs only [SE, SU, SV])
  exact hk none 0 _ ((h.ent (grp_ent hx)).ent (arr_nil _ _))
 | true =>
  have e : (decide (0 ≤ i) && decide (i < (x.zs.length : Int))) = true := by rw [hn]; exact hh
  obtain ⟨h0, h1⟩ := has_iff.1 hh
  obtain ⟨j, rfl⟩ := Int.eq_ofNat_of_zero_le h0
  have hj : j < x.zs.length := by omega
  rw [e]
  have hc : G.committed (j : Int) = comT (G.t j) := by unfold Grp.committed; rw [hh, if_pos rfl, Int.toNat_natCast]
  rw [hc] at hk
  obtain ⟨ga, go, hga⟩ := posP (a := x.a) (ps := x.zs.map fun z : RepX => z.p) (i := j) h (by simpa using hj)
  have h := grp_one hx hj h
  have ix := ixP (c := x.c) hga hj
  have hnd : Nd (G.t j) := nd_at hN j
  have htok : Tok (G.t j) := tb_tok (p := x.zs[j].t) h.drop
  have hlen := allT_len hnd htok
  (repeat simp -implicitDefEqProofs only [SE, SU, SV])
  refine joinK_i ?_
  (repeat (first | ((with_reducible refine v5 ?_); refine ⟨_, rfl, ?_⟩) | simp -implicitDefEqProofs only [SE, SU, SV, ix]))
  refine ldP (ps := x.zs.map fun z : RepX => z.p) hga (by assumption) (by simpa using hj) ?_
  rw [List.getElem_map]
  (repeat (first | ((with_reducible refine v5 ?_); refine ⟨_, rfl, ?_⟩) | simp -implicitDefEqProofs only [SE, SU, SV]))
  refine instAll (p := x.zs[j].t) (T := G.t j) (by assumption) hnd fun al cl W3 h => ?_
  (repeat simp -implicitDefEqProofs only [SE, SU, SV])
  have h := St.wk (L' := arr DOT T_api_Dot al cl (allT (G.t j)) :: rce x.zs[j] :: tb x.zs[j].t (G.t j) :: gce g x :: gar x :: many rce (x.zs.eraseIdx j) :: many rld x.zs :: many rtb ((x.tz G.T).eraseIdx j) :: L') h
  generalize hA : allT (G.t j) = A at *
  refine loop_c (σ := Option Addr × Nat × List Dot) A.length (fun i s => [.pointer (some ⟨g, 0, none⟩), .int .i64 j, .slice s.1 s.2.2.length s.2.1, .slice al A.length cl, .int .i64 A.length, .int .i64 i])
   (fun i s W1 => s.2.2 = (A.take i).filter (fun d => decide ((trec (G.t j) d).st = 3)) ∧ St W0 (arr DOT T_api_Dot s.1 s.2.1 s.2.2 :: arr DOT T_api_Dot al cl A :: rce x.zs[j] :: tb x.zs[j].t (G.t j) :: gce g x :: gar x :: many rce (x.zs.eraseIdx j) :: many rld x.zs :: many rtb ((x.tz G.T).eraseIdx j) :: L') W1)
   (none, 0, []) rfl ⟨by simp, h.ent (arr_nil _ _)⟩ ?_
  clear h
  rintro K i ⟨a, c, s⟩ W4 hi ⟨hs, h⟩ hK
  simp only at hs h hK ⊢
  simp -implicitDefEqProofs only [SE, SU, SV]
  delta S.pax_Group_Committed.l1 oK oA rD lD eF eU sT cL vC gD gX gP gA gR gL gE gU gC gV hL sB nI
  have ew : IntKind.i64.wrap ((i : Int) + 1) = ((i + 1 : Nat) : Int) := by rw [i64w]; omega
  by_cases hlt : i < A.length
  ·have f1 : decide ((i : Int) < (A.length : Int)) = true := decide_eq_true (by omega)
   have hsl : s.length ≤ 7000 := by
    rw [hs]
    have := List.length_filter_le (fun d => decide ((trec (G.t j) d).st = 3)) (A.take i)
    rw [List.length_take] at this; omega
   have hst : (A.take (i + 1)).filter (fun d => decide ((trec (G.t j) d).st = 3)) = s ++ if (trec (G.t j) A[i]).st = 3 then [A[i]] else [] := by
    rw [List.take_succ_eq_append_getElem hlt, List.filter_append, ← hs]
    exact congrArg _ (filter_one (fun d => (trec (G.t j) d).st = 3) A[i])
   (repeat simp -implicitDefEqProofs only [SE, SU, SV, f1])
   refine joinK_i ?_
   refine ixA (i := i) (a := al) (l := A) (A := DOT) (by assumption) rfl rfl hlt fun g1 o1 ha => ?_
   cases ha
   refine ldA0 (i := i) (l := A) (A := DOT) (by assumption) rfl hlt (v := .agg #[.int .i64 (A[i]).rep, .int .i64 (A[i]).n]) rfl (by simp [DOT]) ?_
   (repeat (first | ((with_reducible refine w11 ?_); intros) | ((with_reducible refine v5 ?_); refine ⟨_, rfl, ?_⟩) | ((with_reducible refine v12 ?_ ?_); exact rfl; intros) | ((with_reducible refine w12 ?_ ?_ ?_ ?_); simp; simp; simp [oneC]; intros) | simp -implicitDefEqProofs only [SE, SU, SV, ix]))
   rename_i db _ W5 h
   (try simp only [BLS, SB, stL_a, stL_b, stL_c, lsub_a, lsub_b, lsub_c, List.append_nil, List.take_nil, List.drop_nil, Nat.reduceAdd] at h)
   refine ldP (ps := x.zs.map fun z : RepX => z.p) hga (by exact St.tick (by assumption)) (by simpa using hj) ?_
   rw [List.getElem_map]
   (repeat (first | ((with_reducible refine v5 ?_); refine ⟨_, rfl, ?_⟩) | simp -implicitDefEqProofs only [SE, SU, SV]))
   refine instRec (p := x.zs[j].t) (T := G.t j) (d := A[i]) (by exact St.tick (by assumption)) fun y W6 hy h => ?_
   have hys : (trec (G.t j) A[i]).st = y.st := by rw [← hy]; rfl
   have hE : ∀ a' c' s' W', s' = s ++ (if (trec (G.t j) A[i]).st = 3 then [A[i]] else []) → St W0 (arr DOT T_api_Dot a' c' s' :: arr DOT T_api_Dot (some ⟨g1, o1, none⟩) cl A :: rce x.zs[j] :: tb x.zs[j].t (G.t j) :: gce g x :: gar x :: many rce (x.zs.eraseIdx j) :: many rld x.zs :: many rtb ((x.tz G.T).eraseIdx j) :: L') W' →
     S.pax_Group_Committed.j2 K (.pointer (some ⟨g, 0, none⟩)) (.int .i64 j) (.slice a' s'.length c') (.slice (some ⟨g1, o1, none⟩) A.length cl) (.int .i64 A.length) (.int .i64 i) W' := fun a' c' s' W' e h => by
    delta S.pax_Group_Committed.j2 oK oA rD lD eF eU sT cL vC gD gX gP gA gR gL gE gU gC gV hL sB nI
    (repeat simp -implicitDefEqProofs only [SE, SU, SV, ew])
    exact hK (a', c', s') _ hlt ⟨by rw [hst]; exact e, h⟩
   clear hK
   by_cases h3 : y.st = 3
   ·have f3 := decide_eq_true h3
    rw [hys, if_pos h3] at hE
    (repeat (first | ((with_reducible refine v5 ?_); refine ⟨_, rfl, ?_⟩) | simp -implicitDefEqProofs only [SE, SU, SV, f3]))
    refine bsA DOT [A[i]] (n := 1) (by assumption) rfl rfl (by decide) (by decide) rfl fun a2 c2 W7 h => ?_
    refine appA (a := a) (l := s) (m := [A[i]]) h rfl (by simp; omega) (by simp [maxLen]; omega) fun a' c' W8 h => ?_
    skip
    exact hE a' c' _ _ rfl (St.wk h)
   ·have f3 := decide_eq_false h3
    rw [hys, if_neg h3] at hE
    (repeat simp -implicitDefEqProofs only [SE, SU, SV, f3])
    exact hE a c s _ (by simp) (St.wk (by assumption))
  ·have f1 : decide ((i : Int) < (A.length : Int)) = false := decide_eq_false (by omega)
   (repeat simp -implicitDefEqProofs only [SE, SU, SV, f1])
   delta S.pax_Group_Committed.j1 oK oA rD lD eF eU sT cL vC gD gX gP gA gR gL gE gU gC gV hL sB nI
   have hcom : s = comT (G.t j) := by
    rw [hs, List.take_of_length_le (by omega), ← hA]; rfl
   subst hcom
   exact hk a c _ ((grp_shut hx hj (St.wk (L' := rce x.zs[j] :: tb x.zs[j].t (G.t j) :: gce g x :: gar x :: many rce (x.zs.eraseIdx j) :: many rld x.zs :: many rtb ((x.tz G.T).eraseIdx j) :: arr DOT T_api_Dot a c (comT (G.t j)) :: L') h)).perm (List.Perm.swap _ _ _))
end
end Go.Proofs.YtfhacbhgmnhmlaaGreat
namespace Go.Proofs.YtfhacbhgmnhmlaaGreat
set_option linter.unusedVariables false
set_option linter.unusedSimpArgs false
open Go Go.Eng Go.Tar Go.Sort
section
variable {W0 W : World} {L L' : List Asn}
theorem ordLine0 {a : Option Addr} {c : Nat} {l : List Ins} (done : P7 Int) (h00 : W0.drawn = 0) (h : St W0 L W) [hr : Rd W0 L a INS l] (hl : l.length < 1000000) {k : Value → World → Prop}
  (hk : ∀ a' c' W', St W0 (arr DOT T_api_Dot a' c' (lineTop done [] l) :: L) W' → k (.slice a' (lineTop done [] l).length c') W') : callK PR F_order_Line [.slice a l.length c, .agg #[.int .i64 done.x0, .int .i64 done.x1, .int .i64 done.x2, .int .i64 done.x3, .int .i64 done.x4, .int .i64 done.x5, .int .i64 done.x6], .slice none 0 0] k W := by
 haveI : Rd W0 L none DOT [] := Rd.nil _ _ _ _
 exact ordLine (a2 := none) (c2 := 0) (also := []) (done := done) h00 h hl (by decide) hk
end
end Go.Proofs.YtfhacbhgmnhmlaaGreat
namespace Go.Proofs.YtfhacbhgmnhmlaaGreat
set_option linter.unusedVariables false
set_option linter.unusedSimpArgs false
open Go Go.Eng
section
variable {sk : SK} {W0 W : World} {L L' : List Asn} {g : Nat} {G : Grp} {x : GX}
theorem grp_tok (h : St W0 (grp g sk G :: L) W) (j : Nat) : Tok (G.t j) := by
 obtain ⟨x, hx, h⟩ := grp_at h
 by_cases hj : j < G.T.length
 ·have hn : x.zs.length = G.T.length := hx.1
  have hz : j < x.zs.length := by omega
  have h := grp_one hx hz h
  exact tb_tok (p := x.zs[j].t) h.drop
 ·show Tok (tAt G.T j)
  unfold tAt
  rw [List.getD_eq_getElem?_getD, List.getElem?_eq_none (by omega)]
  exact fun q hq => nomatch hq
theorem com_len (h : St W0 (grp g sk G :: L) W) (hN : G.Nd) (i : Int) : (G.committed i).length ≤ 7000 := by
 unfold Grp.committed
 split
 ·have h1 := allT_len (nd_at hN i.toNat) (grp_tok h i.toNat)
  have h2 : (comT (G.t i.toNat)).length ≤ (allT (G.t i.toNat)).length := List.length_filter_le _ _
  exact Nat.le_trans h2 h1
 ·simp
set_option maxHeartbeats 4000000 in
theorem paxLine {i : Int} {k : Value → World → Prop} (h00 : W0.drawn = 0) (h : St W0 L W) [ht : Tk (grpP g) L (sk, G) L'] (hN : G.Nd)
  (hk : ∀ a c W', St W0 (arr DOT T_api_Dot a c (G.line i) :: grp g sk G :: L') W' → k (.slice a (G.line i).length c) W') : callK PR F_pax_Group_Line [.pointer (some ⟨g, 0, none⟩), .int .i64 i] k W := by
 apply S.pax_Group_Line.call
 delta S.pax_Group_Line.body oK oA rD lD eF eU sT cL vC gD gX gP gA gR gL gE gU gC gV hL sB nI
 refine joinK_i ?_
 have hlen := com_len (h.perm ht.perm) hN i
 refine paxCommitted (g := g) (i := i) h hN fun al cl W3 h => ?_
 (repeat simp -implicitDefEqProofs only [SE, SU, SV])
 unfold Grp.line at hk
 generalize G.committed i = A at *
 refine loop_c (σ := Option Addr × Nat × List Ins) A.length (fun q s => [.pointer (some ⟨g, 0, none⟩), .int .i64 i, .slice s.1 s.2.2.length s.2.1, .slice al A.length cl, .int .i64 A.length, .int .i64 q])
  (fun q s W1 => s.2.2 = (A.take q).map (fun d => insOf d (G.recd i d)) ∧ St W0 (arr INS T_order_Inst s.1 s.2.1 s.2.2 :: arr DOT T_api_Dot al cl A :: grp g sk G :: L') W1)
  (none, 0, []) rfl ⟨by simp, h.ent (arr_nil _ _)⟩ ?_
 clear h
 rintro K q ⟨a, c, s⟩ W4 hi ⟨hs, h⟩ hK
 simp only at hs h hK ⊢
 simp -implicitDefEqProofs only [SE, SU, SV]
 delta S.pax_Group_Line.l1 oK oA rD lD eF eU sT cL vC gD gX gP gA gR gL gE gU gC gV hL sB nI
 have ew : IntKind.i64.wrap ((q : Int) + 1) = ((q + 1 : Nat) : Int) := by rw [i64w]; omega
 by_cases hlt : q < A.length
 ·have f1 : decide ((q : Int) < (A.length : Int)) = true := decide_eq_true (by omega)
  have hsl : s.length ≤ 7000 := by
   rw [hs, List.length_map, List.length_take]; omega
  have hst : (A.take (q + 1)).map (fun d => insOf d (G.recd i d)) = s ++ [insOf A[q] (G.recd i A[q])] := by
   rw [List.take_succ_eq_append_getElem hlt, List.map_append, ← hs]; rfl
  (repeat simp -implicitDefEqProofs only [SE, SU, SV, f1])
  refine ixA (i := q) (a := al) (l := A) (A := DOT) (by assumption) rfl rfl hlt fun g1 o1 ha => ?_
  cases ha
  refine ldA0 (i := q) (l := A) (A := DOT) (by assumption) rfl hlt (v := .agg #[.int .i64 (A[q]).rep, .int .i64 (A[q]).n]) rfl (by simp [DOT]) ?_
  (repeat (first | ((with_reducible refine w11 ?_); intros) | ((with_reducible refine v5 ?_); refine ⟨_, rfl, ?_⟩) | ((with_reducible refine v12 ?_ ?_); exact rfl; intros) | ((with_reducible refine w5 ?_ ?_); simp; refine ⟨_, rfl, ?_⟩) | ((with_reducible refine w12 ?_ ?_ ?_ ?_); simp; simp; simp [oneC]; intros) | simp -implicitDefEqProofs only [SE, SU, SV]))
  rename_i db _ W5 h
  (try simp only [BLS, SB, stL_a, stL_b, stL_c, lsub_a, lsub_b, lsub_c, List.append_nil, List.take_nil, List.drop_nil, Nat.reduceAdd] at h)
  refine paxRec (g := g) (i := i) (d := A[q]) (by assumption) fun y W6 hy h => ?_
  (repeat (first | ((with_reducible refine w11 ?_); intros) | ((with_reducible refine v5 ?_); refine ⟨_, rfl, ?_⟩) | ((with_reducible refine v12 ?_ ?_); exact rfl; intros) | ((with_reducible refine w5 ?_ ?_); simp; refine ⟨_, rfl, ?_⟩) | ((with_reducible refine w12 ?_ ?_ ?_ ?_); simp; simp; simp [oneC]; intros) | (refine okF_i (bldP_eq rfl) ?_; try simp only [BLS, SB, Nat.reduceAdd]) | simp -implicitDefEqProofs only [SE, SU, SV]))
  rename_i rb _ W7 h
  (try simp only [BLS, SB, stL_a, stL_b, stL_c, lsub_a, lsub_b, lsub_c, List.append_nil, List.take_nil, List.drop_nil, Nat.reduceAdd] at h)
  refine bsA INS [⟨A[q], y.seq, y.deps⟩] (n := 1) (by assumption) rfl rfl (by decide) (by decide) rfl fun a2 c2 W7 h => ?_
  refine appA (a := a) (l := s) (m := [⟨A[q], y.seq, y.deps⟩]) h rfl (by simp; omega) (by simp [maxLen]; omega) fun a' c' W8 h => ?_
  (repeat simp -implicitDefEqProofs only [SE, SU, SV, ew])
  refine hK (a', c', _) _ hlt ⟨?_, St.wk h⟩
  rw [hst, ← hy]; rfl
 ·have f1 : decide ((q : Int) < (A.length : Int)) = false := decide_eq_false (by omega)
  (repeat simp -implicitDefEqProofs only [SE, SU, SV, f1])
  delta S.pax_Group_Line.j1 oK oA rD lD eF eU sT cL vC gD gX gP gA gR gL gE gU gC gV hL sB nI
  have e1 : s = A.map (fun d => insOf d (G.recd i d)) := by rw [hs, List.take_of_length_le (by omega)]
  rw [← e1, ← lineTop_eq] at hk
  have hsl : s.length ≤ 7000 := by rw [e1, List.length_map]; exact hlen
  (repeat (refine okF_i (bldP_eq rfl) ?_; try simp only [BLS, SB, Nat.reduceAdd]))
  refine ordLine0 (a := a) (l := s) (c := c) (P7.all 0) h00 h (by omega) fun a' c' W5 h => ?_
  skip
  exact hk a' c' _ (St.wk h)
end
end Go.Proofs.YtfhacbhgmnhmlaaGreat
namespace Go.Proofs.YtfhacbhgmnhmlaaGreat
set_option linter.unusedVariables false
set_option linter.unusedSimpArgs false
open Go Go.Eng
abbrev ansZX : Ans BSl := ⟨false, (0, 0), recZX⟩
section
variable {sk : SK} {W0 W : World} {L L' : List Asn} {g q : Nat} {G : Grp} {X : GX} {y : LdX} {T : List Tbl}
theorem oa_set {i : Nat} (hi : i < 7) (lp : P7 AX) (b : Nat) (r : Ans BSl) : entd (cells b [.bool r.ok, .int .i64 r.bal.1, .int .i64 r.bal.2, .int .i64 r.rc.st, r.rc.cmd.v, .int .i64 r.rc.seq, .int .i64 r.rc.deps.x0, .int .i64 r.rc.deps.x1, .int .i64 r.rc.deps.x2, .int .i64 r.rc.deps.x3, .int .i64 r.rc.deps.x4, .int .i64 r.rc.deps.x5, .int .i64 r.rc.deps.x6, .int .i64 r.rc.bal.1, .int .i64 r.rc.bal.2, .int .i64 r.rc.ab.1, .int .i64 r.rc.ab.2] T_inst_Answer :: fch r.rc.cmd :: many oa lp.list :: L) (many oa (lp.set i (some (b, r))).list :: L) := by
 refine ((ent.pack [_, _] _).d).trans ?_
 rcases P7.cases7 hi with rfl | rfl | rfl | rfl | rfl | rfl | rfl
 ·exact many_swap (F := oa) [] [lp.x1, lp.x2, lp.x3, lp.x4, lp.x5, lp.x6] lp.x0 (some (b, r))
 ·exact many_swap (F := oa) [lp.x0] [lp.x2, lp.x3, lp.x4, lp.x5, lp.x6] lp.x1 (some (b, r))
 ·exact many_swap (F := oa) [lp.x0, lp.x1] [lp.x3, lp.x4, lp.x5, lp.x6] lp.x2 (some (b, r))
 ·exact many_swap (F := oa) [lp.x0, lp.x1, lp.x2] [lp.x4, lp.x5, lp.x6] lp.x3 (some (b, r))
 ·exact many_swap (F := oa) [lp.x0, lp.x1, lp.x2, lp.x3] [lp.x5, lp.x6] lp.x4 (some (b, r))
 ·exact many_swap (F := oa) [lp.x0, lp.x1, lp.x2, lp.x3, lp.x4] [lp.x6] lp.x5 (some (b, r))
 ·exact many_swap (F := oa) [lp.x0, lp.x1, lp.x2, lp.x3, lp.x4, lp.x5] [] lp.x6 (some (b, r))
theorem stoLast {i b : Nat} {Lf : List Value → List Asn} {r : Ans BSl} {k : Unit → World → Prop} (hi : i < 7) (h : St W0 L W) [hu : Cu q L [.pointer (some ⟨y.q, 0, none⟩), .pointer (qa y.lp.x0), .pointer (qa y.lp.x1), .pointer (qa y.lp.x2), .pointer (qa y.lp.x3), .pointer (qa y.lp.x4), .pointer (qa y.lp.x5), .pointer (qa y.lp.x6)] T_pax_leader Lf]
  (hk : ∀ W', St W0 (Lf [.pointer (some ⟨({ y with lp := y.lp.set i (some (b, r)) }).q, 0, none⟩), .pointer (qa (({ y with lp := y.lp.set i (some (b, r)) }).lp).x0), .pointer (qa (({ y with lp := y.lp.set i (some (b, r)) }).lp).x1), .pointer (qa (({ y with lp := y.lp.set i (some (b, r)) }).lp).x2), .pointer (qa (({ y with lp := y.lp.set i (some (b, r)) }).lp).x3), .pointer (qa (({ y with lp := y.lp.set i (some (b, r)) }).lp).x4), .pointer (qa (({ y with lp := y.lp.set i (some (b, r)) }).lp).x5), .pointer (qa (({ y with lp := y.lp.set i (some (b, r)) }).lp).x6)]) W' → k () W') : efK PR (Instr.storeAt T_p_inst_Answer (.pointer (some ⟨q, 1 + i, none⟩)) (.pointer (some ⟨b, 0, none⟩))) k W := by
 rcases P7.cases7 hi with rfl | rfl | rfl | rfl | rfl | rfl | rfl
 all_goals exact sto h rfl (by simp) rfl fun W' h => hk W' h
abbrev askO (T : List Tbl) (y : LdX) (to : Nat) : Tbl × Ans Bs × Int := tdo (tAt T to) y.X.abs.msg
set_option maxHeartbeats 4000000 in
theorem paxAsk {to : Nat} {k : Value → World → Prop} (hl : X.zs.length = T.length) (hto : to < T.length) (h7 : T.length ≤ 7)
  (h : St W0 (gce g X :: gar X :: many rce X.zs :: many rtb (X.tz T) :: cells q [.pointer (some ⟨y.q, 0, none⟩), .pointer (qa y.lp.x0), .pointer (qa y.lp.x1), .pointer (qa y.lp.x2), .pointer (qa y.lp.x3), .pointer (qa y.lp.x4), .pointer (qa y.lp.x5), .pointer (qa y.lp.x6)] T_pax_leader :: ldc y.q y.X :: many oa y.lp.list :: L) W)
  (hk1 : ∀ b (a : Ans BSl) W', (askO T y to).2.2 = 0 → a.map BSl.bs = (askO T y to).2.1 → a.rc.cmd.bs.length < 1099511627776 →
   St W0 (gce g X :: gar X :: many rce X.zs :: many rtb (X.tz (T.set to (askO T y to).1)) :: cells q [.pointer (some ⟨({ y with lp := y.lp.set to (some (b, a)) }).q, 0, none⟩), .pointer (qa (({ y with lp := y.lp.set to (some (b, a)) }).lp).x0), .pointer (qa (({ y with lp := y.lp.set to (some (b, a)) }).lp).x1), .pointer (qa (({ y with lp := y.lp.set to (some (b, a)) }).lp).x2), .pointer (qa (({ y with lp := y.lp.set to (some (b, a)) }).lp).x3), .pointer (qa (({ y with lp := y.lp.set to (some (b, a)) }).lp).x4), .pointer (qa (({ y with lp := y.lp.set to (some (b, a)) }).lp).x5), .pointer (qa (({ y with lp := y.lp.set to (some (b, a)) }).lp).x6)] T_pax_leader :: ldc y.q y.X :: many oa (y.lp.set to (some (b, a))).list :: L) W' → k (.tuple #[.agg #[.bool a.ok, .int .i64 a.bal.1, .int .i64 a.bal.2, .int .i64 a.rc.st, a.rc.cmd.v, .int .i64 a.rc.seq, .int .i64 a.rc.deps.x0, .int .i64 a.rc.deps.x1, .int .i64 a.rc.deps.x2, .int .i64 a.rc.deps.x3, .int .i64 a.rc.deps.x4, .int .i64 a.rc.deps.x5, .int .i64 a.rc.deps.x6, .int .i64 a.rc.bal.1, .int .i64 a.rc.bal.2, .int .i64 a.rc.ab.1, .int .i64 a.rc.ab.2], .bool true]) W')
  (hk2 : ∀ W', ¬ (askO T y to).2.2 = 0 → St W0 (gce g X :: gar X :: many rce X.zs :: many rtb (X.tz T) :: cells q [.pointer (some ⟨y.q, 0, none⟩), .pointer (qa y.lp.x0), .pointer (qa y.lp.x1), .pointer (qa y.lp.x2), .pointer (qa y.lp.x3), .pointer (qa y.lp.x4), .pointer (qa y.lp.x5), .pointer (qa y.lp.x6)] T_pax_leader :: ldc y.q y.X :: many oa y.lp.list :: L) W' → k (.tuple #[.agg #[.bool ansZX.ok, .int .i64 ansZX.bal.1, .int .i64 ansZX.bal.2, .int .i64 ansZX.rc.st, ansZX.rc.cmd.v, .int .i64 ansZX.rc.seq, .int .i64 ansZX.rc.deps.x0, .int .i64 ansZX.rc.deps.x1, .int .i64 ansZX.rc.deps.x2, .int .i64 ansZX.rc.deps.x3, .int .i64 ansZX.rc.deps.x4, .int .i64 ansZX.rc.deps.x5, .int .i64 ansZX.rc.deps.x6, .int .i64 ansZX.rc.bal.1, .int .i64 ansZX.rc.bal.2, .int .i64 ansZX.rc.ab.1, .int .i64 ansZX.rc.ab.2], .bool false]) W') :
  callK PR F_pax_Group_ask [.pointer (some ⟨g, 0, none⟩), .pointer (some ⟨q, 0, none⟩), .int .i64 to] k W := by
 apply S.pax_Group_ask.call
 delta S.pax_Group_ask.body oK oA rD lD eF eU sT cL vC gD gX gP gA gR gL gE gU gC gV hL sB nI
 have hz : to < X.zs.length := by omega
 obtain ⟨ga, go, hga⟩ := posP (a := X.a) (ps := X.zs.map fun z : RepX => z.p) (i := to) h (by simpa using hz)
 have ix := ixP (c := X.c) hga hz
 refine al h fun ab W1 h => ?_
 (try simp only [BLS, SB, stL_a, stL_b, stL_c, lsub_a, lsub_b, lsub_c, List.append_nil, List.take_nil, List.drop_nil, Nat.reduceAdd] at h)
 have h := (St.wk (L' := many rce X.zs :: many rtb (X.tz T) :: cells ab [.bool ansZX.ok, .int .i64 ansZX.bal.1, .int .i64 ansZX.bal.2, .int .i64 ansZX.rc.st, ansZX.rc.cmd.v, .int .i64 ansZX.rc.seq, .int .i64 ansZX.rc.deps.x0, .int .i64 ansZX.rc.deps.x1, .int .i64 ansZX.rc.deps.x2, .int .i64 ansZX.rc.deps.x3, .int .i64 ansZX.rc.deps.x4, .int .i64 ansZX.rc.deps.x5, .int .i64 ansZX.rc.deps.x6, .int .i64 ansZX.rc.bal.1, .int .i64 ansZX.rc.bal.2, .int .i64 ansZX.rc.ab.1, .int .i64 ansZX.rc.ab.2] T_inst_Answer :: gce g X :: gar X :: cells q [.pointer (some ⟨y.q, 0, none⟩), .pointer (qa y.lp.x0), .pointer (qa y.lp.x1), .pointer (qa y.lp.x2), .pointer (qa y.lp.x3), .pointer (qa y.lp.x4), .pointer (qa y.lp.x5), .pointer (qa y.lp.x6)] T_pax_leader :: ldc y.q y.X :: many oa y.lp.list :: L) h).ent ((mtake (F := rce) X.zs hz).trans (ent.cons _ (ent.cons _ (tb_take hl hto))))
 have h := St.wk (L' := rce X.zs[to] :: tb X.zs[to].t (tAt T to) :: cells ab [.bool ansZX.ok, .int .i64 ansZX.bal.1, .int .i64 ansZX.bal.2, .int .i64 ansZX.rc.st, ansZX.rc.cmd.v, .int .i64 ansZX.rc.seq, .int .i64 ansZX.rc.deps.x0, .int .i64 ansZX.rc.deps.x1, .int .i64 ansZX.rc.deps.x2, .int .i64 ansZX.rc.deps.x3, .int .i64 ansZX.rc.deps.x4, .int .i64 ansZX.rc.deps.x5, .int .i64 ansZX.rc.deps.x6, .int .i64 ansZX.rc.bal.1, .int .i64 ansZX.rc.bal.2, .int .i64 ansZX.rc.ab.1, .int .i64 ansZX.rc.ab.2] T_inst_Answer :: gce g X :: gar X :: cells q [.pointer (some ⟨y.q, 0, none⟩), .pointer (qa y.lp.x0), .pointer (qa y.lp.x1), .pointer (qa y.lp.x2), .pointer (qa y.lp.x3), .pointer (qa y.lp.x4), .pointer (qa y.lp.x5), .pointer (qa y.lp.x6)] T_pax_leader :: ldc y.q y.X :: many oa y.lp.list :: many rce (X.zs.eraseIdx to) :: many rtb ((X.tz T).eraseIdx to) :: L) h
 have htok : Tok (tAt T to) := tb_tok (p := X.zs[to].t) h.drop
 have hJ : ∀ b (a : Ans BSl) W', a.map BSl.bs = (askO T y to).2.1 →
   St W0 (cells b [.bool a.ok, .int .i64 a.bal.1, .int .i64 a.bal.2, .int .i64 a.rc.st, a.rc.cmd.v, .int .i64 a.rc.seq, .int .i64 a.rc.deps.x0, .int .i64 a.rc.deps.x1, .int .i64 a.rc.deps.x2, .int .i64 a.rc.deps.x3, .int .i64 a.rc.deps.x4, .int .i64 a.rc.deps.x5, .int .i64 a.rc.deps.x6, .int .i64 a.rc.bal.1, .int .i64 a.rc.bal.2, .int .i64 a.rc.ab.1, .int .i64 a.rc.ab.2] T_inst_Answer :: fch a.rc.cmd :: rce X.zs[to] :: tb X.zs[to].t (askO T y to).1 :: cells ab [.bool ansZX.ok, .int .i64 ansZX.bal.1, .int .i64 ansZX.bal.2, .int .i64 ansZX.rc.st, ansZX.rc.cmd.v, .int .i64 ansZX.rc.seq, .int .i64 ansZX.rc.deps.x0, .int .i64 ansZX.rc.deps.x1, .int .i64 ansZX.rc.deps.x2, .int .i64 ansZX.rc.deps.x3, .int .i64 ansZX.rc.deps.x4, .int .i64 ansZX.rc.deps.x5, .int .i64 ansZX.rc.deps.x6, .int .i64 ansZX.rc.bal.1, .int .i64 ansZX.rc.bal.2, .int .i64 ansZX.rc.ab.1, .int .i64 ansZX.rc.ab.2] T_inst_Answer :: gce g X :: gar X :: cells q [.pointer (some ⟨y.q, 0, none⟩), .pointer (qa y.lp.x0), .pointer (qa y.lp.x1), .pointer (qa y.lp.x2), .pointer (qa y.lp.x3), .pointer (qa y.lp.x4), .pointer (qa y.lp.x5), .pointer (qa y.lp.x6)] T_pax_leader :: ldc y.q y.X :: many oa y.lp.list :: many rce (X.zs.eraseIdx to) :: many rtb ((X.tz T).eraseIdx to) :: L) W' →
   S.pax_Group_ask.j1 k (.pointer (some ⟨q, 0, none⟩)) (.int .i64 to) (.pointer (some ⟨ab, 0, none⟩)) (.pointer (some ⟨b, 0, none⟩)) (.int .i64 (askO T y to).2.2) W' := by
  intro b a W' ha h
  delta S.pax_Group_ask.j1 oK oA rD lD eF eU sT cL vC gD gX gP gA gR gL gE gU gC gV hL sB nI
  have hal : a.rc.cmd.bs.length < 1099511627776 := by
   have h1 : a.rc.cmd.bs.length = (askO T y to).2.1.rc.cmd.length := congrArg (fun x : Ans Bs => x.rc.cmd.length) ha
   have := tdo_len htok y.X.abs.msg
   have h2 : (askO T y to).2.1.rc.cmd.length ≤ 300 := this
   omega
  by_cases he : (askO T y to).2.2 = 0
  ·have f1 := decide_eq_true he
   have ia : idxA 7 1 (.pointer (some ⟨q, 1, none⟩)) (.int .i64 (to : Int)) = some (.pointer (some ⟨q, 1 + to, none⟩)) := by rw [idxA_blk (by omega) (by omega)]; simp
   (repeat (first | ((with_reducible refine v12 ?_ ?_); exact rfl; intros) | simp -implicitDefEqProofs only [SE, SU, SV, f1, ia]))
   refine stoLast (y := y) (i := to) (r := a) (by omega) (by assumption) fun W3 h => ?_
   (repeat (first | ((with_reducible refine v5 ?_); refine ⟨_, rfl, ?_⟩) | ((with_reducible refine v12 ?_ ?_); exact rfl; intros) | ((with_reducible refine w5 ?_ ?_); simp; refine ⟨_, rfl, ?_⟩) | simp -implicitDefEqProofs only [SE, SU, SV]))
   rename_i h
   (try simp only [BLS, SB, stL_a, stL_b, stL_c, lsub_a, lsub_b, lsub_c, List.append_nil, List.take_nil, List.drop_nil, Nat.reduceAdd] at h)
   refine hk1 b a _ he ha hal ?_
   have h := (St.wk (L' := cells b [.bool a.ok, .int .i64 a.bal.1, .int .i64 a.bal.2, .int .i64 a.rc.st, a.rc.cmd.v, .int .i64 a.rc.seq, .int .i64 a.rc.deps.x0, .int .i64 a.rc.deps.x1, .int .i64 a.rc.deps.x2, .int .i64 a.rc.deps.x3, .int .i64 a.rc.deps.x4, .int .i64 a.rc.deps.x5, .int .i64 a.rc.deps.x6, .int .i64 a.rc.bal.1, .int .i64 a.rc.bal.2, .int .i64 a.rc.ab.1, .int .i64 a.rc.ab.2] T_inst_Answer :: fch a.rc.cmd :: many oa y.lp.list :: rce X.zs[to] :: many rce (X.zs.eraseIdx to) :: tb X.zs[to].t (askO T y to).1 :: many rtb ((X.tz T).eraseIdx to) :: gce g X :: gar X :: cells q [.pointer (some ⟨({ y with lp := y.lp.set to (some (b, a)) }).q, 0, none⟩), .pointer (qa (({ y with lp := y.lp.set to (some (b, a)) }).lp).x0), .pointer (qa (({ y with lp := y.lp.set to (some (b, a)) }).lp).x1), .pointer (qa (({ y with lp := y.lp.set to (some (b, a)) }).lp).x2), .pointer (qa (({ y with lp := y.lp.set to (some (b, a)) }).lp).x3), .pointer (qa (({ y with lp := y.lp.set to (some (b, a)) }).lp).x4), .pointer (qa (({ y with lp := y.lp.set to (some (b, a)) }).lp).x5), .pointer (qa (({ y with lp := y.lp.set to (some (b, a)) }).lp).x6)] T_pax_leader :: ldc y.q y.X :: L) h).entd (oa_set (i := to) (by omega) y.lp b a)
   have h := h.ent (ent.cons _ ((mback (F := rce) X.zs hz).trans (ent.cons _ (tb_give hl hto _))))
   exact St.wk h
  ·have f1 := decide_eq_false he
   (repeat (first | ((with_reducible refine v5 ?_); refine ⟨_, rfl, ?_⟩) | ((with_reducible refine v12 ?_ ?_); exact rfl; intros) | ((with_reducible refine w5 ?_ ?_); simp; refine ⟨_, rfl, ?_⟩) | (refine okF_i (bldP_eq rfl) ?_; try simp only [BLS, SB, Nat.reduceAdd]) | simp -implicitDefEqProofs only [SE, SU, SV, f1]))
   rename_i h
   (try simp only [BLS, SB, stL_a, stL_b, stL_c, lsub_a, lsub_b, lsub_c, List.append_nil, List.take_nil, List.drop_nil, Nat.reduceAdd] at h)
   refine hk2 _ he ?_
   have e1 : (askO T y to).1 = tAt T to := by
    have h2 : (tdo (tAt T to) y.X.abs.msg).2.2 ≠ 0 := he
    show (tdo (tAt T to) y.X.abs.msg).1 = _
    unfold tdo at h2 ⊢
    split
    ·rfl
    ·rename_i hm
     rw [if_neg hm] at h2
     cases ho : old y.X.abs.msg (trec (tAt T to) y.X.abs.msg.dot) with
     | some ok => rfl
     | none => rw [ho] at h2; exact absurd rfl h2
   have h := (St.wk (L' := rce X.zs[to] :: many rce (X.zs.eraseIdx to) :: tb X.zs[to].t (askO T y to).1 :: many rtb ((X.tz T).eraseIdx to) :: gce g X :: gar X :: cells q [.pointer (some ⟨y.q, 0, none⟩), .pointer (qa y.lp.x0), .pointer (qa y.lp.x1), .pointer (qa y.lp.x2), .pointer (qa y.lp.x3), .pointer (qa y.lp.x4), .pointer (qa y.lp.x5), .pointer (qa y.lp.x6)] T_pax_leader :: ldc y.q y.X :: many oa y.lp.list :: L) h)
   rw [e1] at h
   have h := h.ent ((mback (F := rce) X.zs hz).trans (ent.cons _ (tb_back hl hto)))
   exact St.wk h
 clear hk1 hk2
 refine joinK_i ?_
 (repeat (first | ((with_reducible refine v5 ?_); refine ⟨_, rfl, ?_⟩) | simp -implicitDefEqProofs only [SE, SU, SV, ix]))
 refine ldP (ps := X.zs.map fun z : RepX => z.p) hga (by exact St.tick (by assumption)) (by simpa using hz) ?_
 rw [List.getElem_map]
 (repeat (first | ((with_reducible refine v5 ?_); refine ⟨_, rfl, ?_⟩) | simp -implicitDefEqProofs only [SE, SU, SV]))
 refine ⟨?_, ?_⟩
 ·refine leadMsg (X := y.X) (by exact St.tick (by assumption)) fun m W3 hm hml h => ?_
  (repeat ((with_reducible refine v8 ?_ ?_); exact rfl; intros))
  refine stbP (ps := X.zs.map fun z : RepX => z.p) hga (by assumption) (by simpa using hz) (by rw [List.getElem_map]) ?_
  (repeat (first | ((with_reducible refine stb_n ?_); intros) | ((with_reducible refine v8 ?_ ?_); exact rfl; intros)))
  have e1 : tdo (tAt T to) (m.map BSl.bs) = askO T y to := by rw [hm]
  refine ⟨?_, ?_⟩
  ·refine instDo (p := X.zs[to].t) (m := m) (by assumption) hml fun a W4 ha h => ?_
   rw [e1] at ha h ⊢
   (repeat (first | ((with_reducible refine w11 ?_); intros) | ((with_reducible refine v12 ?_ ?_); exact rfl; intros) | ((with_reducible refine w12 ?_ ?_ ?_ ?_); simp; simp; simp [oneC]; intros) | simp -implicitDefEqProofs only [SE, SU, SV]))
   rename_i h
   (try simp only [BLS, SB, stL_a, stL_b, stL_c, lsub_a, lsub_b, lsub_c, List.append_nil, List.take_nil, List.drop_nil, Nat.reduceAdd] at h)
   exact hJ _ a _ ha (St.wk h)
  ·(repeat (first | ((with_reducible refine w11 ?_); intros) | ((with_reducible refine v8 ?_ ?_); exact rfl; intros)))
   refine stbP (ps := X.zs.map fun z : RepX => z.p) hga (by assumption) (by simpa using hz) (by rw [List.getElem_map]) ?_
   (repeat (first | ((with_reducible refine stb_n ?_); intros) | ((with_reducible refine v8 ?_ ?_); exact rfl; intros)))
   refine instDo (p := X.zs[to].t) (m := m) (by assumption) hml fun a W4 ha h => ?_
   rw [e1] at ha h ⊢
   (repeat (first | ((with_reducible refine v12 ?_ ?_); exact rfl; intros) | ((with_reducible refine w12 ?_ ?_ ?_ ?_); simp; simp; simp [oneC]; intros) | simp -implicitDefEqProofs only [SE, SU, SV]))
   rename_i h
   (try simp only [BLS, SB, stL_a, stL_b, stL_c, lsub_a, lsub_b, lsub_c, List.append_nil, List.take_nil, List.drop_nil, Nat.reduceAdd] at h)
   exact hJ _ a _ ha (St.wk h)
 ·(repeat (first | ((with_reducible refine w11 ?_); intros) | ((with_reducible refine v8 ?_ ?_); exact rfl; intros)))
  refine stbP (ps := X.zs.map fun z : RepX => z.p) hga (by assumption) (by simpa using hz) (by rw [List.getElem_map]) ?_
  (repeat (first | ((with_reducible refine stb_n ?_); intros) | ((with_reducible refine v8 ?_ ?_); exact rfl; intros)))
  refine leadMsg (X := y.X) (by assumption) fun m W3 hm hml h => ?_
  (repeat ((with_reducible refine v8 ?_ ?_); exact rfl; intros))
  refine stbP (ps := X.zs.map fun z : RepX => z.p) hga (by assumption) (by simpa using hz) (by rw [List.getElem_map]) ?_
  (repeat (first | ((with_reducible refine stb_n ?_); intros) | ((with_reducible refine v8 ?_ ?_); exact rfl; intros)))
  have e1 : tdo (tAt T to) (m.map BSl.bs) = askO T y to := by rw [hm]
  refine instDo (p := X.zs[to].t) (m := m) (by assumption) hml fun a W4 ha h => ?_
  rw [e1] at ha h ⊢
  (repeat (first | ((with_reducible refine v12 ?_ ?_); exact rfl; intros) | ((with_reducible refine w12 ?_ ?_ ?_ ?_); simp; simp; simp [oneC]; intros) | simp -implicitDefEqProofs only [SE, SU, SV]))
  rename_i h
  (try simp only [BLS, SB, stL_a, stL_b, stL_c, lsub_a, lsub_b, lsub_c, List.append_nil, List.take_nil, List.drop_nil, Nat.reduceAdd] at h)
  exact hJ _ a _ ha (St.wk h)
end
end Go.Proofs.YtfhacbhgmnhmlaaGreat
namespace Go.Proofs.YtfhacbhgmnhmlaaGreat
set_option linter.unusedVariables false
set_option linter.unusedSimpArgs false
open Go Go.Eng
theorem p7_mem_set {α : Type} {p : P7 α} {i : Nat} {v r : α} (h : r ∈ (p.set i v).list) : r = v ∨ r ∈ p.list := by
 simp only [P7.set, P7.of, P7.list, List.mem_cons, List.not_mem_nil, or_false] at h
 rcases h with rfl | rfl | rfl | rfl | rfl | rfl | rfl
 all_goals
  split
  ·exact .inl rfl
  ·exact .inr (by simp [P7.list, P7.get])
abbrev TL.of (T : List Tbl) (y : LdX) : TL := ⟨T, y.abs⟩
section
variable {sk : SK} {W0 W : World} {L L' : List Asn} {g q : Nat} {G : Grp} {X : GX} {y : LdX} {T : List Tbl}
theorem rdOa {lp : P7 AX} {p : Nat × Ans BSl} (hx : some p ∈ lp.list) : Rd W0 (many oa lp.list :: L) p.2.rc.cmd.a B8 p.2.rc.cmd.bs := ⟨fun W h => by
 obtain ⟨A, C, hl⟩ := List.append_of_mem hx
 rw [hl] at h
 have h1 := (h.ent ((many_perm (F := oa) (List.perm_middle (a := some p) (l₁ := A) (l₂ := C))).trans (many_cons _ _))).flat
 simp only [List.cons_append, List.nil_append] at h1
 have hr : Rd W0 (cells p.1 [.bool p.2.ok, .int .i64 p.2.bal.1, .int .i64 p.2.bal.2, .int .i64 p.2.rc.st, p.2.rc.cmd.v, .int .i64 p.2.rc.seq, .int .i64 p.2.rc.deps.x0, .int .i64 p.2.rc.deps.x1, .int .i64 p.2.rc.deps.x2, .int .i64 p.2.rc.deps.x3, .int .i64 p.2.rc.deps.x4, .int .i64 p.2.rc.deps.x5, .int .i64 p.2.rc.deps.x6, .int .i64 p.2.rc.bal.1, .int .i64 p.2.rc.bal.2, .int .i64 p.2.rc.ab.1, .int .i64 p.2.rc.ab.2] T_inst_Answer :: fch p.2.rc.cmd :: many oa (A ++ C) :: L) p.2.rc.cmd.a B8 p.2.rc.cmd.bs := inferInstance
 exact hr.ok W h1⟩
theorem paxGot {n : Nat} {fr : Int} {b : Nat} {a : Ans BSl} {k : Value → World → Prop} (hl : X.zs.length = T.length) (hn : n < T.length) (hy : y.X.t = (X.zs[n]'(by omega)).t) (ha : some (b, a) ∈ y.lp.list) (hal : a.rc.cmd.bs.length < 1099511627776)
  (h : St W0 (gce g X :: gar X :: many rce X.zs :: many rtb (X.tz T) :: cells q [.pointer (some ⟨y.q, 0, none⟩), .pointer (qa y.lp.x0), .pointer (qa y.lp.x1), .pointer (qa y.lp.x2), .pointer (qa y.lp.x3), .pointer (qa y.lp.x4), .pointer (qa y.lp.x5), .pointer (qa y.lp.x6)] T_pax_leader :: ldc y.q y.X :: many oa y.lp.list :: L) W)
  (hk : ∀ (y' : LdX) W', y'.q = y.q → y'.lp = y.lp → y'.X.t = y.X.t → TL.of (T.set n (y.X.abs.got (tAt T n) fr (a.map BSl.bs)).1.2) y' = (TL.of T y).got n fr (a.map BSl.bs) →
   St W0 (gce g X :: gar X :: many rce X.zs :: many rtb (X.tz (T.set n (y.X.abs.got (tAt T n) fr (a.map BSl.bs)).1.2)) :: cells q [.pointer (some ⟨y'.q, 0, none⟩), .pointer (qa y'.lp.x0), .pointer (qa y'.lp.x1), .pointer (qa y'.lp.x2), .pointer (qa y'.lp.x3), .pointer (qa y'.lp.x4), .pointer (qa y'.lp.x5), .pointer (qa y'.lp.x6)] T_pax_leader :: ldc y'.q y'.X :: many oa y'.lp.list :: L) W' → k (.bool (y.X.abs.got (tAt T n) fr (a.map BSl.bs)).2) W') :
  callK PR F_lead_Lead_Got [.pointer (some ⟨y.q, 0, none⟩), .int .i64 fr, .agg #[.bool a.ok, .int .i64 a.bal.1, .int .i64 a.bal.2, .int .i64 a.rc.st, a.rc.cmd.v, .int .i64 a.rc.seq, .int .i64 a.rc.deps.x0, .int .i64 a.rc.deps.x1, .int .i64 a.rc.deps.x2, .int .i64 a.rc.deps.x3, .int .i64 a.rc.deps.x4, .int .i64 a.rc.deps.x5, .int .i64 a.rc.deps.x6, .int .i64 a.rc.bal.1, .int .i64 a.rc.bal.2, .int .i64 a.rc.ab.1, .int .i64 a.rc.ab.2]] k W := by
 have h := (St.wk (L' := many rtb (X.tz T) :: ldc y.q y.X :: many oa y.lp.list :: gce g X :: gar X :: many rce X.zs :: cells q [.pointer (some ⟨y.q, 0, none⟩), .pointer (qa y.lp.x0), .pointer (qa y.lp.x1), .pointer (qa y.lp.x2), .pointer (qa y.lp.x3), .pointer (qa y.lp.x4), .pointer (qa y.lp.x5), .pointer (qa y.lp.x6)] T_pax_leader :: L) h).ent (tb_take hl hn)
 rw [← hy] at h
 haveI : ∀ L, Rd W0 (many oa y.lp.list :: L) a.rc.cmd.a B8 a.rc.cmd.bs := fun L => rdOa ha
 refine leadGot (X := y.X) (T := tAt T n) (a := a) h hal fun X' W' e1 e2 h => ?_
 rw [hy] at h
 have h := (St.wk (L' := tb (X.zs[n]'(by omega)).t (y.X.abs.got (tAt T n) fr (a.map BSl.bs)).1.2 :: many rtb ((X.tz T).eraseIdx n) :: gce g X :: gar X :: many rce X.zs :: cells q [.pointer (some ⟨y.q, 0, none⟩), .pointer (qa y.lp.x0), .pointer (qa y.lp.x1), .pointer (qa y.lp.x2), .pointer (qa y.lp.x3), .pointer (qa y.lp.x4), .pointer (qa y.lp.x5), .pointer (qa y.lp.x6)] T_pax_leader :: ldc y.q X' :: many oa y.lp.list :: L) h).ent (tb_give hl hn _)
 refine hk ⟨y.q, X', y.lp⟩ W' rfl rfl e1 ?_ (St.wk h)
 unfold TL.of TL.got LdX.abs
 simp only [e2]
theorem paxSlow {n : Nat} {k : Value → World → Prop} (hl : X.zs.length = T.length) (hn : n < T.length) (hy : y.X.t = (X.zs[n]'(by omega)).t)
  (h : St W0 (gce g X :: gar X :: many rce X.zs :: many rtb (X.tz T) :: cells q [.pointer (some ⟨y.q, 0, none⟩), .pointer (qa y.lp.x0), .pointer (qa y.lp.x1), .pointer (qa y.lp.x2), .pointer (qa y.lp.x3), .pointer (qa y.lp.x4), .pointer (qa y.lp.x5), .pointer (qa y.lp.x6)] T_pax_leader :: ldc y.q y.X :: many oa y.lp.list :: L) W)
  (hk : ∀ (y' : LdX) W', y'.q = y.q → y'.lp = y.lp → y'.X.t = y.X.t → TL.of (T.set n (y.X.abs.slow (tAt T n)).1.2) y' = ((TL.of T y).slow n).1 →
   St W0 (gce g X :: gar X :: many rce X.zs :: many rtb (X.tz (T.set n (y.X.abs.slow (tAt T n)).1.2)) :: cells q [.pointer (some ⟨y'.q, 0, none⟩), .pointer (qa y'.lp.x0), .pointer (qa y'.lp.x1), .pointer (qa y'.lp.x2), .pointer (qa y'.lp.x3), .pointer (qa y'.lp.x4), .pointer (qa y'.lp.x5), .pointer (qa y'.lp.x6)] T_pax_leader :: ldc y'.q y'.X :: many oa y'.lp.list :: L) W' → k (.bool (y.X.abs.slow (tAt T n)).2) W') :
  callK PR F_lead_Lead_Slow [.pointer (some ⟨y.q, 0, none⟩)] k W := by
 have h := (St.wk (L' := many rtb (X.tz T) :: ldc y.q y.X :: many oa y.lp.list :: gce g X :: gar X :: many rce X.zs :: cells q [.pointer (some ⟨y.q, 0, none⟩), .pointer (qa y.lp.x0), .pointer (qa y.lp.x1), .pointer (qa y.lp.x2), .pointer (qa y.lp.x3), .pointer (qa y.lp.x4), .pointer (qa y.lp.x5), .pointer (qa y.lp.x6)] T_pax_leader :: L) h).ent (tb_take hl hn)
 rw [← hy] at h
 refine leadSlow (X := y.X) (T := tAt T n) h fun X' W' e1 e2 h => ?_
 rw [hy] at h
 have h := (St.wk (L' := tb (X.zs[n]'(by omega)).t (y.X.abs.slow (tAt T n)).1.2 :: many rtb ((X.tz T).eraseIdx n) :: gce g X :: gar X :: many rce X.zs :: cells q [.pointer (some ⟨y.q, 0, none⟩), .pointer (qa y.lp.x0), .pointer (qa y.lp.x1), .pointer (qa y.lp.x2), .pointer (qa y.lp.x3), .pointer (qa y.lp.x4), .pointer (qa y.lp.x5), .pointer (qa y.lp.x6)] T_pax_leader :: ldc y.q X' :: many oa y.lp.list :: L) h).ent (tb_give hl hn _)
 refine hk ⟨y.q, X', y.lp⟩ W' rfl rfl e1 ?_ (St.wk h)
 unfold TL.of TL.slow LdX.abs
 simp only [e2]
end
end Go.Proofs.YtfhacbhgmnhmlaaGreat
namespace Go.Proofs.YtfhacbhgmnhmlaaGreat
set_option linter.unusedVariables false
set_option linter.unusedSimpArgs false
open Go Go.Eng
theorem LdX.ok_set {tp i b : Nat} {y : LdX} {a : Ans BSl} (h : y.ok tp) (ha : a.rc.cmd.bs.length < 1099511627776) : LdX.ok tp { y with lp := y.lp.set i (some (b, a)) } :=
 ⟨h.1, fun p hp => by
  rcases p7_mem_set hp with e | hp
  ·cases e; exact ha
  ·exact h.2 p hp⟩
theorem LdX.ok_got {tp : Nat} {y y' : LdX} (h : y.ok tp) (h1 : y'.lp = y.lp) (h2 : y'.X.t = y.X.t) : y'.ok tp := ⟨h2.trans h.1, by rw [h1]; exact h.2⟩
theorem mem_set7 {α : Type} (p : P7 α) {i : Nat} (hi : i < 7) (v : α) : v ∈ (p.set i v).list := by
 have := get7_mem (p.set i v) hi
 rwa [P7.get_set _ _ _ _ hi, if_pos rfl] at this
section
variable {sk : SK} {W0 W : World} {L L' : List Asn} {g q : Nat} {G : Grp} {X : GX} {y : LdX} {T : List Tbl}
theorem ask_some {to : Nat} {b : Nat} {a : Ans BSl} (he : (askO T y to).2.2 = 0) (ha : a.map BSl.bs = (askO T y to).2.1) :
  (TL.of T y).ask to = (TL.of (T.set to (askO T y to).1) { y with lp := y.lp.set to (some (b, a)) }, some (a.map BSl.bs)) := by
 unfold TL.ask
 have he' : (tdo (tAt (TL.of T y).T to) (TL.of T y).x.ld.msg).2.2 = 0 := he
 simp only [if_pos he']
 unfold TL.of LdX.abs
 simp only [P7.map_set, Option.map_some, aab, ha]
theorem ask_none {to : Nat} (he : ¬ (askO T y to).2.2 = 0) : (TL.of T y).ask to = (TL.of T y, none) := by
 unfold TL.ask
 have he' : ¬ (tdo (tAt (TL.of T y).T to) (TL.of T y).x.ld.msg).2.2 = 0 := he
 simp only [if_neg he']
set_option maxHeartbeats 4000000 in
theorem paxTold {n to : Nat} {op v1 v2 : Int} {k : Value → World → Prop} (hl : X.zs.length = T.length) (h7 : T.length ≤ 7) (hn : n < T.length) (hto : to < T.length) (hy : y.ok (X.zs[n]'(by omega)).t)
  (h : St W0 (gce g X :: gar X :: many rce X.zs :: many rtb (X.tz T) :: cells q [.pointer (some ⟨y.q, 0, none⟩), .pointer (qa y.lp.x0), .pointer (qa y.lp.x1), .pointer (qa y.lp.x2), .pointer (qa y.lp.x3), .pointer (qa y.lp.x4), .pointer (qa y.lp.x5), .pointer (qa y.lp.x6)] T_pax_leader :: ldc y.q y.X :: many oa y.lp.list :: L) W)
  (hk : ∀ (y' : LdX) W', y'.ok (X.zs[n]'(by omega)).t → y'.abs = ((TL.of T y).told n op to).1.x →
   St W0 (gce g X :: gar X :: many rce X.zs :: many rtb (X.tz ((TL.of T y).told n op to).1.T) :: cells q [.pointer (some ⟨y'.q, 0, none⟩), .pointer (qa y'.lp.x0), .pointer (qa y'.lp.x1), .pointer (qa y'.lp.x2), .pointer (qa y'.lp.x3), .pointer (qa y'.lp.x4), .pointer (qa y'.lp.x5), .pointer (qa y'.lp.x6)] T_pax_leader :: ldc y'.q y'.X :: many oa y'.lp.list :: L) W' → k (.bool ((TL.of T y).told n op to).2) W') :
  callK PR F_pax_Group_told [.pointer (some ⟨g, 0, none⟩), .pointer (some ⟨q, 0, none⟩), .agg #[.int .i64 op, .int .i64 v1, .int .i64 v2, .int .i64 to]] k W := by
 apply S.pax_Group_told.call
 delta S.pax_Group_told.body oK oA rD lD eF eU sT cL vC gD gX gP gA gR gL gE gU gC gV hL sB nI
 refine bxa h fun b5 W1 h => ?_
 have hto7 : to < 7 := by omega
 have hT : ∀ W', (op = 2 ∨ op = 3 ∨ op = 4) → St W0 (cells b5 [.int .i64 op, .int .i64 v1, .int .i64 v2, .int .i64 to] T_pax_Act :: gce g X :: gar X :: many rce X.zs :: many rtb (X.tz T) :: cells q [.pointer (some ⟨y.q, 0, none⟩), .pointer (qa y.lp.x0), .pointer (qa y.lp.x1), .pointer (qa y.lp.x2), .pointer (qa y.lp.x3), .pointer (qa y.lp.x4), .pointer (qa y.lp.x5), .pointer (qa y.lp.x6)] T_pax_leader :: ldc y.q y.X :: many oa y.lp.list :: L) W' →
   S.pax_Group_told.j1 k (.pointer (some ⟨g, 0, none⟩)) (.pointer (some ⟨q, 0, none⟩)) (.pointer (some ⟨b5, 0, none⟩)) (.int .i64 op) (.bool true) W' := by
  intro W' ho h
  delta S.pax_Group_told.j1 oK oA rD lD eF eU sT cL vC gD gX gP gA gR gL gE gU gC gV hL sB nI
  (repeat (first | ((with_reducible refine v5 ?_); refine ⟨_, rfl, ?_⟩) | simp -implicitDefEqProofs only [SE, SU, SV]))
  refine paxAsk (g := g) (q := q) (X := X) (T := T) (y := y) (L := cells b5 [.int .i64 op, .int .i64 v1, .int .i64 v2, .int .i64 to] T_pax_Act :: L) hl hto h7 (St.wk (by assumption)) (fun b a W3 he ha hal h => ?_) (fun W3 he h => ?_)
  ·have hs := ask_some (b := b) he ha
   generalize hy1 : ({ y with lp := y.lp.set to (some (b, a)) } : LdX) = y1 at hs
   have hok1 : y1.ok (X.zs[n]'(by omega)).t := hy1 ▸ LdX.ok_set hy hal
   have hm1 : some (b, a) ∈ y1.lp.list := by rw [← hy1]; exact mem_set7 _ hto7 _
   have hq1 : y1.q = y.q := by rw [← hy1]
   have hX1 : y1.X = y.X := by rw [← hy1]
   have h : St W0 (gce g X :: gar X :: many rce X.zs :: many rtb (X.tz (T.set to (askO T y to).1)) :: cells q [.pointer (some ⟨y1.q, 0, none⟩), .pointer (qa y1.lp.x0), .pointer (qa y1.lp.x1), .pointer (qa y1.lp.x2), .pointer (qa y1.lp.x3), .pointer (qa y1.lp.x4), .pointer (qa y1.lp.x5), .pointer (qa y1.lp.x6)] T_pax_leader :: ldc y1.q y1.X :: many oa y1.lp.list :: cells b5 [.int .i64 op, .int .i64 v1, .int .i64 v2, .int .i64 to] T_pax_Act :: L) W3 := by rw [hq1, hX1, ← hy1]; exact h
   clear hy1 hX1 hq1
   have htold : (TL.of T y).told n op to = (let s := if op = 3 then TL.of (T.set to (askO T y to).1) y1 else (TL.of (T.set to (askO T y to).1) y1).got n to (a.map BSl.bs); (if op = 4 then s.got n to (a.map BSl.bs) else s, true)) := by
    unfold TL.told
    rw [if_pos ho, Int.toNat_natCast, hs]
   rw [htold] at hk
   clear htold hs
   have hl1 : X.zs.length = (T.set to (askO T y to).1).length := by rw [List.length_set]; exact hl
   generalize hT1 : T.set to (askO T y to).1 = T1 at *
   have hn1 : n < T1.length := by rw [← hl1, hl]; exact hn
   clear hT1
   (repeat (first | ((with_reducible refine w11 ?_); intros) | ((with_reducible refine v12 ?_ ?_); exact rfl; intros) | ((with_reducible refine w12 ?_ ?_ ?_ ?_); simp; simp; simp [oneC]; intros) | simp -implicitDefEqProofs only [SE, SU, SV]))
   rename_i b7 _ _ W4 h
   (try simp only [BLS, SB, stL_a, stL_b, stL_c, lsub_a, lsub_b, lsub_c, List.append_nil, List.take_nil, List.drop_nil, Nat.reduceAdd] at h)
   refine joinK_i ?_
   -- what is left: perhaps told once more
   have hJ2 : ∀ (T2 : List Tbl) (y2 : LdX) W', X.zs.length = T2.length → y2.ok (X.zs[n]'(by omega)).t → some (b, a) ∈ y2.lp.list → TL.of T2 y2 = (if op = 3 then TL.of T1 y1 else (TL.of T1 y1).got n to (a.map BSl.bs)) →
     St W0 (gce g X :: gar X :: many rce X.zs :: many rtb (X.tz T2) :: cells q [.pointer (some ⟨y2.q, 0, none⟩), .pointer (qa y2.lp.x0), .pointer (qa y2.lp.x1), .pointer (qa y2.lp.x2), .pointer (qa y2.lp.x3), .pointer (qa y2.lp.x4), .pointer (qa y2.lp.x5), .pointer (qa y2.lp.x6)] T_pax_leader :: ldc y2.q y2.X :: many oa y2.lp.list :: cells b7 [.bool a.ok, .int .i64 a.bal.1, .int .i64 a.bal.2, .int .i64 a.rc.st, a.rc.cmd.v, .int .i64 a.rc.seq, .int .i64 a.rc.deps.x0, .int .i64 a.rc.deps.x1, .int .i64 a.rc.deps.x2, .int .i64 a.rc.deps.x3, .int .i64 a.rc.deps.x4, .int .i64 a.rc.deps.x5, .int .i64 a.rc.deps.x6, .int .i64 a.rc.bal.1, .int .i64 a.rc.bal.2, .int .i64 a.rc.ab.1, .int .i64 a.rc.ab.2] T_inst_Answer :: cells b5 [.int .i64 op, .int .i64 v1, .int .i64 v2, .int .i64 to] T_pax_Act :: L) W' →
     S.pax_Group_told.j2 k (.pointer (some ⟨q, 0, none⟩)) (.pointer (some ⟨b5, 0, none⟩)) (.pointer (some ⟨b7, 0, none⟩)) W' := by
    intro T2 y2 W' hl2 hok2 hm2 he2 h
    delta S.pax_Group_told.j2 oK oA rD lD eF eU sT cL vC gD gX gP gA gR gL gE gU gC gV hL sB nI
    simp only [← he2] at hk
    by_cases h4 : op = 4
    ·have f4 := decide_eq_true h4
     simp only [if_pos h4] at hk
     (repeat (first | ((with_reducible refine v5 ?_); refine ⟨_, rfl, ?_⟩) | simp -implicitDefEqProofs only [SE, SU, SV, f4]))
     refine paxGot (g := g) (q := q) (X := X) (T := T2) (y := y2) (n := n) (L := cells b7 [.bool a.ok, .int .i64 a.bal.1, .int .i64 a.bal.2, .int .i64 a.rc.st, a.rc.cmd.v, .int .i64 a.rc.seq, .int .i64 a.rc.deps.x0, .int .i64 a.rc.deps.x1, .int .i64 a.rc.deps.x2, .int .i64 a.rc.deps.x3, .int .i64 a.rc.deps.x4, .int .i64 a.rc.deps.x5, .int .i64 a.rc.deps.x6, .int .i64 a.rc.bal.1, .int .i64 a.rc.bal.2, .int .i64 a.rc.ab.1, .int .i64 a.rc.ab.2] T_inst_Answer :: cells b5 [.int .i64 op, .int .i64 v1, .int .i64 v2, .int .i64 to] T_pax_Act :: L) hl2 (by omega) hok2.1 hm2 hal (St.wk (by exact St.tick (by assumption))) fun y' W5 _ g1 g2 g3 h => ?_
     skip
     refine hk y' _ (LdX.ok_got hok2 g1 g2) (congrArg TL.x g3) ?_
     rw [← show _ = _ from congrArg TL.T g3]
     exact St.wk h
    ·have f4 := decide_eq_false h4
     simp only [if_neg h4] at hk
     (repeat (first | ((with_reducible refine v5 ?_); refine ⟨_, rfl, ?_⟩) | simp -implicitDefEqProofs only [SE, SU, SV, f4]))
     exact hk y2 _ hok2 rfl (St.wk (by assumption))
   by_cases h3 : op = 3
   ·have f3 := decide_eq_true h3
    (repeat (first | ((with_reducible refine v5 ?_); refine ⟨_, rfl, ?_⟩) | simp -implicitDefEqProofs only [SE, SU, SV, f3]))
    exact hJ2 T1 y1 _ hl1 hok1 hm1 (if_pos h3).symm (St.wk (by assumption))
   ·have f3 := decide_eq_false h3
    (repeat (first | ((with_reducible refine v5 ?_); refine ⟨_, rfl, ?_⟩) | simp -implicitDefEqProofs only [SE, SU, SV, f3]))
    refine paxGot (g := g) (q := q) (X := X) (T := T1) (y := y1) (n := n) (L := cells b7 [.bool a.ok, .int .i64 a.bal.1, .int .i64 a.bal.2, .int .i64 a.rc.st, a.rc.cmd.v, .int .i64 a.rc.seq, .int .i64 a.rc.deps.x0, .int .i64 a.rc.deps.x1, .int .i64 a.rc.deps.x2, .int .i64 a.rc.deps.x3, .int .i64 a.rc.deps.x4, .int .i64 a.rc.deps.x5, .int .i64 a.rc.deps.x6, .int .i64 a.rc.bal.1, .int .i64 a.rc.bal.2, .int .i64 a.rc.ab.1, .int .i64 a.rc.ab.2] T_inst_Answer :: cells b5 [.int .i64 op, .int .i64 v1, .int .i64 v2, .int .i64 to] T_pax_Act :: L) hl1 hn1 hok1.1 hm1 hal (St.wk (by exact St.tick (by assumption))) fun y' W5 _ g1 g2 g3 h => ?_
    skip
    exact hJ2 _ y' _ (by rw [List.length_set]; exact hl1) (LdX.ok_got hok1 g1 g2) (by rw [g1]; exact hm1) (g3.trans (if_neg h3).symm) (St.wk (by assumption))
  ·have htold : (TL.of T y).told n op to = (TL.of T y, false) := by
    unfold TL.told
    rw [if_pos ho, Int.toNat_natCast, ask_none he]
   rw [htold] at hk
   (repeat (first | ((with_reducible refine w11 ?_); intros) | ((with_reducible refine v12 ?_ ?_); exact rfl; intros) | ((with_reducible refine w12 ?_ ?_ ?_ ?_); simp; simp; simp [oneC]; intros) | simp -implicitDefEqProofs only [SE, SU, SV]))
   rename_i h
   (try simp only [BLS, SB, stL_a, stL_b, stL_c, lsub_a, lsub_b, lsub_c, List.append_nil, List.take_nil, List.drop_nil, Nat.reduceAdd] at h)
   exact hk y _ hy rfl (St.wk h)
 have hF : ∀ W', ¬ (op = 2 ∨ op = 3 ∨ op = 4) → St W0 (cells b5 [.int .i64 op, .int .i64 v1, .int .i64 v2, .int .i64 to] T_pax_Act :: gce g X :: gar X :: many rce X.zs :: many rtb (X.tz T) :: cells q [.pointer (some ⟨y.q, 0, none⟩), .pointer (qa y.lp.x0), .pointer (qa y.lp.x1), .pointer (qa y.lp.x2), .pointer (qa y.lp.x3), .pointer (qa y.lp.x4), .pointer (qa y.lp.x5), .pointer (qa y.lp.x6)] T_pax_leader :: ldc y.q y.X :: many oa y.lp.list :: L) W' →
   S.pax_Group_told.j1 k (.pointer (some ⟨g, 0, none⟩)) (.pointer (some ⟨q, 0, none⟩)) (.pointer (some ⟨b5, 0, none⟩)) (.int .i64 op) (.bool false) W' := by
  intro W' ho h
  delta S.pax_Group_told.j1 oK oA rD lD eF eU sT cL vC gD gX gP gA gR gL gE gU gC gV hL sB nI
  have htold : (TL.of T y).told n op to = (if op = 5 then match y.abs.last.get to with
    | none => (TL.of T y, false)
    | some a => ((TL.of T y).got n to a, true)
   else (TL.of T y, false)) := by
   unfold TL.told
   rw [if_neg ho, Int.toNat_natCast]
   rfl
  rw [htold] at hk
  by_cases h5 : op = 5
  ·have f5 := decide_eq_true h5
   rw [if_pos h5] at hk
   have ia : idxA 7 1 (.pointer (some ⟨q, 1, none⟩)) (.int .i64 (to : Int)) = some (.pointer (some ⟨q, 1 + to, none⟩)) := by rw [idxA_blk (by omega) (by omega)]; simp
   have hrd : getL false [.pointer (some ⟨y.q, 0, none⟩), .pointer (qa y.lp.x0), .pointer (qa y.lp.x1), .pointer (qa y.lp.x2), .pointer (qa y.lp.x3), .pointer (qa y.lp.x4), .pointer (qa y.lp.x5), .pointer (qa y.lp.x6)] (1 + to) 1 = some (.pointer (qa (y.lp.get to))) := by
    rcases P7.cases7 hto7 with rfl | rfl | rfl | rfl | rfl | rfl | rfl <;> rfl
   have hlast : y.abs.last.get to = (y.lp.get to).map aab := by rw [show y.abs.last = y.lp.map (Option.map aab) from rfl, P7.get_map]
   rw [hlast] at hk
   (repeat (first | ((with_reducible refine v5 ?_); refine ⟨_, rfl, ?_⟩) | simp -implicitDefEqProofs only [SE, SU, SV, f5, ia]))
   refine ld (v := .pointer (qa (y.lp.get to))) (by exact St.tick (by assumption)) hrd (by simp) ?_
   have hmem := get7_mem y.lp hto7
   cases hg : y.lp.get to with
   | none =>
    rw [hg] at hk
    simp only [Option.map_none] at hk
    (repeat simp -implicitDefEqProofs only [SE, SU, SV])
    exact hk y _ hy rfl (St.wk (by exact St.tick (by assumption)))
   | some p =>
    obtain ⟨b, a⟩ := p
    rw [hg] at hk hmem hrd
    simp only [Option.map_some] at hk
    (repeat (first | ((with_reducible refine v5 ?_); refine ⟨_, rfl, ?_⟩) | simp -implicitDefEqProofs only [SE, SU, SV, ia]))
    refine ld (v := .pointer (some ⟨b, 0, none⟩)) (by exact St.tick (St.tick (by assumption))) hrd (by simp) ?_
    (repeat simp -implicitDefEqProofs only [SE, SU, SV])
    obtain ⟨A, C, hac⟩ := List.append_of_mem hmem
    have hopen : ∀ L, ent (many oa y.lp.list :: L) (cells b [.bool a.ok, .int .i64 a.bal.1, .int .i64 a.bal.2, .int .i64 a.rc.st, a.rc.cmd.v, .int .i64 a.rc.seq, .int .i64 a.rc.deps.x0, .int .i64 a.rc.deps.x1, .int .i64 a.rc.deps.x2, .int .i64 a.rc.deps.x3, .int .i64 a.rc.deps.x4, .int .i64 a.rc.deps.x5, .int .i64 a.rc.deps.x6, .int .i64 a.rc.bal.1, .int .i64 a.rc.bal.2, .int .i64 a.rc.ab.1, .int .i64 a.rc.ab.2] T_inst_Answer :: fch a.rc.cmd :: many oa (A ++ C) :: L) := fun L => by
     rw [hac]
     exact ((many_perm (F := oa) (List.perm_middle (a := some (b, a)) (l₁ := A) (l₂ := C))).trans (many_cons _ _)).trans (ent.flat [_, _] _)
    have hshut : ∀ L, ent (cells b [.bool a.ok, .int .i64 a.bal.1, .int .i64 a.bal.2, .int .i64 a.rc.st, a.rc.cmd.v, .int .i64 a.rc.seq, .int .i64 a.rc.deps.x0, .int .i64 a.rc.deps.x1, .int .i64 a.rc.deps.x2, .int .i64 a.rc.deps.x3, .int .i64 a.rc.deps.x4, .int .i64 a.rc.deps.x5, .int .i64 a.rc.deps.x6, .int .i64 a.rc.bal.1, .int .i64 a.rc.bal.2, .int .i64 a.rc.ab.1, .int .i64 a.rc.ab.2] T_inst_Answer :: fch a.rc.cmd :: many oa (A ++ C) :: L) (many oa y.lp.list :: L) := fun L => by
     rw [hac]
     exact (ent.pack [_, _] _).trans ((many_uncons (F := oa) (some (b, a)) _).trans (many_perm (F := oa) List.perm_middle.symm))
    have h := (St.wk (L' := many oa y.lp.list :: cells b5 [.int .i64 op, .int .i64 v1, .int .i64 v2, .int .i64 to] T_pax_Act :: gce g X :: gar X :: many rce X.zs :: many rtb (X.tz T) :: cells q [.pointer (some ⟨y.q, 0, none⟩), .pointer (qa y.lp.x0), .pointer (qa y.lp.x1), .pointer (qa y.lp.x2), .pointer (qa y.lp.x3), .pointer (qa y.lp.x4), .pointer (qa y.lp.x5), .pointer (qa y.lp.x6)] T_pax_leader :: ldc y.q y.X :: L) (by assumption)).ent (hopen _)
    (repeat (first | ((with_reducible refine v5 ?_); refine ⟨_, rfl, ?_⟩) | simp -implicitDefEqProofs only [SE, SU, SV]))
    have h := (St.wk (L' := cells b [.bool a.ok, .int .i64 a.bal.1, .int .i64 a.bal.2, .int .i64 a.rc.st, a.rc.cmd.v, .int .i64 a.rc.seq, .int .i64 a.rc.deps.x0, .int .i64 a.rc.deps.x1, .int .i64 a.rc.deps.x2, .int .i64 a.rc.deps.x3, .int .i64 a.rc.deps.x4, .int .i64 a.rc.deps.x5, .int .i64 a.rc.deps.x6, .int .i64 a.rc.bal.1, .int .i64 a.rc.bal.2, .int .i64 a.rc.ab.1, .int .i64 a.rc.ab.2] T_inst_Answer :: fch a.rc.cmd :: many oa (A ++ C) :: cells b5 [.int .i64 op, .int .i64 v1, .int .i64 v2, .int .i64 to] T_pax_Act :: gce g X :: gar X :: many rce X.zs :: many rtb (X.tz T) :: cells q [.pointer (some ⟨y.q, 0, none⟩), .pointer (qa y.lp.x0), .pointer (qa y.lp.x1), .pointer (qa y.lp.x2), .pointer (qa y.lp.x3), .pointer (qa y.lp.x4), .pointer (qa y.lp.x5), .pointer (qa y.lp.x6)] T_pax_leader :: ldc y.q y.X :: L) (by assumption)).ent (hshut _)
    refine paxGot (g := g) (q := q) (X := X) (T := T) (y := y) (n := n) (L := cells b5 [.int .i64 op, .int .i64 v1, .int .i64 v2, .int .i64 to] T_pax_Act :: L) hl hn hy.1 hmem (hy.2 _ hmem) (St.wk (by exact St.tick (St.tick (by assumption)))) fun y' W5 _ g1 g2 g3 h => ?_
    skip
    refine hk y' _ (LdX.ok_got hy g1 g2) (congrArg TL.x g3) ?_
    rw [← show _ = _ from congrArg TL.T g3]
    exact St.wk h
  ·have f5 := decide_eq_false h5
   rw [if_neg h5] at hk
   (repeat simp -implicitDefEqProofs only [SE, SU, SV, f5])
   exact hk y _ hy rfl (St.wk (by assumption))
 clear hk
 (repeat (first | ((with_reducible refine v5 ?_); refine ⟨_, rfl, ?_⟩) | simp -implicitDefEqProofs only [SE, SU, SV]))
 refine joinK_i ?_
 by_cases h2 : op = 2
 ·have f2 := decide_eq_true h2
  (repeat simp -implicitDefEqProofs only [SE, SU, SV, f2])
  exact hT _ (.inl h2) (by assumption)
 have f2 := decide_eq_false h2
 by_cases h3 : op = 3
 ·have f3 := decide_eq_true h3
  (repeat simp -implicitDefEqProofs only [SE, SU, SV, f2, f3])
  exact hT _ (.inr (.inl h3)) (by assumption)
 have f3 := decide_eq_false h3
 by_cases h4 : op = 4
 ·have f4 := decide_eq_true h4
  (repeat simp -implicitDefEqProofs only [SE, SU, SV, f2, f3, f4])
  exact hT _ (.inr (.inr h4)) (by assumption)
 ·have f4 := decide_eq_false h4
  (repeat simp -implicitDefEqProofs only [SE, SU, SV, f2, f3, f4])
  exact hF _ (by omega) (by assumption)
end
end Go.Proofs.YtfhacbhgmnhmlaaGreat
