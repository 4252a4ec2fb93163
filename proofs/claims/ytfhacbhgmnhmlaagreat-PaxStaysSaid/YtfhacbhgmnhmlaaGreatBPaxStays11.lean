/- Texts of the claim PaxStays, joined: CPaxF, ShSD, SDots, ShAw22, LPaxA, ShP22s, LPaxS, HPaxStays. -/
import Derived.Test.YtfhacbhgmnhmlaaGreatBPaxStays10
import Derived.Test.YtfhacbhgmnhmlaaGreatBPaxStays1
import Derived.Test.YtfhacbhgmnhmlaaGreatBPaxStays6
import Derived.Test.YtfhacbhgmnhmlaaGreatBPaxStays9
import Derived.Test.YtfhacbhgmnhmlaaGreatRows
import Derived.WalkKit
import Derived.ProofKit
namespace Go.Proofs.YtfhacbhgmnhmlaaGreat
set_option linter.unusedVariables false
set_option linter.unusedSimpArgs false
open Go Go.Eng
section
variable {sk : SK} {W0 W : World} {L L' : List Asn} {g q : Nat} {G : Grp} {x : GX} {y : LdX} {T : List Tbl} {kk : Nat}
theorem led_open (hl : x.zs.length = T.length) {n : Nat} (hz : n < x.zs.length) {j : Nat} (hj : j < x.zs[n].ls.length)
  (h : St W0 (rce x.zs[n] :: arr PTR T_p_pax_leader x.zs[n].la x.zs[n].lc (x.zs[n].ls.map (·.1)) :: many (lrc x.zs[n].t) x.zs[n].ls :: tb x.zs[n].t (tAt T n) :: gce g x :: gar x :: many rce (x.zs.eraseIdx n) :: many rld (x.zs.eraseIdx n) :: many rtb ((x.tz T).eraseIdx n) :: L) W) :
  ∃ y : LdX, y.ok x.zs[n].t ∧ y.abs = x.zs[n].ls[j].2 ∧ St W0 (gce g x :: gar x :: many rce x.zs :: many rtb (x.tz T) :: cells x.zs[n].ls[j].1 [.pointer (some ⟨y.q, 0, none⟩), .pointer (qa y.lp.x0), .pointer (qa y.lp.x1), .pointer (qa y.lp.x2), .pointer (qa y.lp.x3), .pointer (qa y.lp.x4), .pointer (qa y.lp.x5), .pointer (qa y.lp.x6)] T_pax_leader :: ldc y.q y.X :: many oa y.lp.list :: arr PTR T_p_pax_leader x.zs[n].la x.zs[n].lc (x.zs[n].ls.map (·.1)) :: many (lrc x.zs[n].t) (x.zs[n].ls.eraseIdx j) :: many rld (x.zs.eraseIdx n) :: L) W := by
 have h := (St.wk (L' := rce x.zs[n] :: many rce (x.zs.eraseIdx n) :: tb x.zs[n].t (tAt T n) :: many rtb ((x.tz T).eraseIdx n) :: many (lrc x.zs[n].t) x.zs[n].ls :: gce g x :: gar x :: arr PTR T_p_pax_leader x.zs[n].la x.zs[n].lc (x.zs[n].ls.map (·.1)) :: many rld (x.zs.eraseIdx n) :: L) h).ent ((mback (F := rce) x.zs hz).trans (ent.cons _ ((tb_back (i := n) hl (by omega)).trans (ent.cons _ (mtake (F := lrc x.zs[n].t) x.zs[n].ls hj)))))
 obtain ⟨y, h1, h2, h⟩ := lrc_at (St.wk (L' := lrc x.zs[n].t x.zs[n].ls[j] :: many (lrc x.zs[n].t) (x.zs[n].ls.eraseIdx j) :: many rce x.zs :: many rtb (x.tz T) :: gce g x :: gar x :: arr PTR T_p_pax_leader x.zs[n].la x.zs[n].lc (x.zs[n].ls.map (·.1)) :: many rld (x.zs.eraseIdx n) :: L) h)
 exact ⟨y, h1, h2, St.wk h⟩
theorem led_shut (hx : x.ok sk G) {n : Nat} (hz : n < x.zs.length) {j : Nat} (hj : j < x.zs[n].ls.length) {s : TL} (hs : s.T.length = G.T.length) (hy1 : y.ok x.zs[n].t) (hy2 : y.abs = s.x)
  (h : St W0 (gce g x :: gar x :: many rce x.zs :: many rtb (x.tz s.T) :: cells x.zs[n].ls[j].1 [.pointer (some ⟨y.q, 0, none⟩), .pointer (qa y.lp.x0), .pointer (qa y.lp.x1), .pointer (qa y.lp.x2), .pointer (qa y.lp.x3), .pointer (qa y.lp.x4), .pointer (qa y.lp.x5), .pointer (qa y.lp.x6)] T_pax_leader :: ldc y.q y.X :: many oa y.lp.list :: arr PTR T_p_pax_leader x.zs[n].la x.zs[n].lc (x.zs[n].ls.map (·.1)) :: many (lrc x.zs[n].t) (x.zs[n].ls.eraseIdx j) :: many rld (x.zs.eraseIdx n) :: L) W) :
  St W0 (grp g sk (G.put n j s) :: L) W := by
 have hn : x.zs.length = G.T.length := hx.1
 obtain ⟨eu, el⟩ := GX.at hx hz
 have h := (St.wk (L' := cells x.zs[n].ls[j].1 [.pointer (some ⟨y.q, 0, none⟩), .pointer (qa y.lp.x0), .pointer (qa y.lp.x1), .pointer (qa y.lp.x2), .pointer (qa y.lp.x3), .pointer (qa y.lp.x4), .pointer (qa y.lp.x5), .pointer (qa y.lp.x6)] T_pax_leader :: ldc y.q y.X :: many oa y.lp.list :: many (lrc x.zs[n].t) (x.zs[n].ls.eraseIdx j) :: many rce x.zs :: many rtb (x.tz s.T) :: gce g x :: gar x :: arr PTR T_p_pax_leader x.zs[n].la x.zs[n].lc (x.zs[n].ls.map (·.1)) :: many rld (x.zs.eraseIdx n) :: L) h).ent
  (((lrc_ent (z := (x.zs[n].ls[j].1, s.x)) hy1 hy2).trans (mgive (F := lrc x.zs[n].t) x.zs[n].ls hj _)).trans (ent.cons _ ((mtake (F := rce) x.zs hz).trans (ent.cons _ (ent.cons _ (tb_take (i := n) (by omega) (by omega)))))))
 have e1 : (x.zs[n].ls.set j (x.zs[n].ls[j].1, s.x)).map (fun z : Nat × LdR => z.1) = x.zs[n].ls.map fun z : Nat × LdR => z.1 := by
  rw [List.map_set]
  have := List.set_getElem_self (i := j) (show j < (x.zs[n].ls.map fun z : Nat × LdR => z.1).length by simpa using hj)
  rw [List.getElem_map] at this
  exact this
 have e2 : rce x.zs[n] = rce { x.zs[n] with ls := x.zs[n].ls.set j (x.zs[n].ls[j].1, s.x) } := by unfold rce; simp only [List.length_set]
 rw [e2, ← e1] at h
 have h := rep_close (g := g) (x := x) (T := s.T) (L := L) (by omega) hz (z := { x.zs[n] with ls := x.zs[n].ls.set j (x.zs[n].ls[j].1, s.x) }) (U := tAt s.T n) rfl rfl (St.wk h)
 rw [tAt_set_self] at h
 have h := h.ent (grp_ent (GX.ok_put hx hz (z := { x.zs[n] with ls := x.zs[n].ls.set j (x.zs[n].ls[j].1, s.x) }) (T := s.T) rfl hs))
 have hsame := grp_same hx hz
 have eus : G.used.set n x.zs[n].used = G.used := congrArg Grp.used hsame
 have e3 : (x.zs[n].ls.set j (x.zs[n].ls[j].1, s.x)).map (fun z : Nat × LdR => z.2) = (G.l n).set j s.x := by rw [List.map_set, el]
 simp only [eus, e3] at h
 exact h
set_option maxRecDepth 100000 in
set_option maxHeartbeats 2000000 in
theorem paxDo {a : Act} {k : Value → World → Prop} (hO : G.Ok kk) (hkk : kk < 900000) (h : St W0 L W) [ht : Tk (grpP g) L (sk, G) L']
  (hk : ∀ W', St W0 (grp g sk (G.act a).1 :: L') W' → k (.bool (G.act a).2) W') : callK PR F_pax_Group_Do [.pointer (some ⟨g, 0, none⟩), .agg #[.int .i64 a.op, .int .i64 a.n, .int .i64 a.a, .int .i64 a.b]] k W := by
 apply S.pax_Group_Do.call
 delta S.pax_Group_Do.body oK oA rD lD eF eU sT cL vC gD gX gP gA gR gL gE gU gC gV hL sB nI
 obtain ⟨x, hx, h⟩ := grp_at (h.perm ht.perm)
 have hn : x.zs.length = G.T.length := hx.1
 refine bxa h fun b3 W1 h => ?_
 have h : St W0 (cells b3 [.int .i64 a.op, .int .i64 a.n, .int .i64 a.a, .int .i64 a.b] T_pax_Act :: gce g x :: gar x :: many rce x.zs :: many rld x.zs :: many rtb (x.tz G.T) :: L') W1 := h
 have hcl : ∀ W', St W0 (cells b3 [.int .i64 a.op, .int .i64 a.n, .int .i64 a.a, .int .i64 a.b] T_pax_Act :: gce g x :: gar x :: many rce x.zs :: many rld x.zs :: many rtb (x.tz G.T) :: L') W' → St W0 (grp g sk G :: L') W' := fun W' h => (St.drop h).ent (grp_ent hx)
 have hhas : ∀ i : Int, (decide (0 ≤ i) && decide (i < (x.zs.length : Int))) = G.has i := fun i => by rw [hn]; rfl
 have hno : G.act a = (G, false) → ∀ W', St W0 (cells b3 [.int .i64 a.op, .int .i64 a.n, .int .i64 a.a, .int .i64 a.b] T_pax_Act :: gce g x :: gar x :: many rce x.zs :: many rld x.zs :: many rtb (x.tz G.T) :: L') W' → k (.bool false) W' := fun e W' h => by
  rw [e] at hk; exact hk W' (hcl W' h)
 (repeat (first | ((with_reducible refine v5 ?_); refine ⟨_, rfl, ?_⟩) | simp -implicitDefEqProofs only [SE, SU, SV]))
 refine paxHas (n := x.zs.length) (c := x.c) (a := x.a) (by assumption) fun W2 h => ?_
 rw [hhas]
 cases c0 : G.has a.n with
 | false =>
  (repeat simp -implicitDefEqProofs only [SE, SU, SV])
  exact hno (by unfold Grp.act; rw [if_pos c0]) _ (by assumption)
 | true =>
 obtain ⟨h0, h1⟩ := has_iff.1 c0
 obtain ⟨n, hn0⟩ := Int.eq_ofNat_of_zero_le h0
 have hz : n < x.zs.length := by unfold Grp.n at h1; omega
 have c0' : ¬ G.has a.n = false := by rw [c0]; simp
 by_cases c1 : a.op = 0
 ·have f1 := decide_eq_true c1
  have e : G.act a = G.propose n (UInt8.ofNat (a.b % 256).toNat) := by unfold Grp.act; rw [if_neg c0', if_pos c1, hn0, Int.toNat_natCast]
  rw [e] at hk
  (repeat (first | ((with_reducible refine v5 ?_); refine ⟨_, rfl, ?_⟩) | simp -implicitDefEqProofs only [SE, SU, SV, f1]))
  rw [hn0]
  refine paxPropose (g := g) (i := n) (b := a.b) hO (by omega) (by unfold Grp.n; omega) (hcl _ (by assumption)) fun W3 h => ?_
  skip
  exact hk _ h
 have f1 := decide_eq_false c1
 by_cases c2 : a.op = 1
 ·have f2 := decide_eq_true c2
  have e : G.act a = if G.has a.a then G.recover n ⟨a.a, a.b⟩ else (G, false) := by unfold Grp.act; rw [if_neg c0', if_neg c1, if_pos c2, hn0, Int.toNat_natCast]
  (repeat (first | ((with_reducible refine v5 ?_); refine ⟨_, rfl, ?_⟩) | simp -implicitDefEqProofs only [SE, SU, SV, f1, f2]))
  refine paxHas (n := x.zs.length) (c := x.c) (a := x.a) (by assumption) fun W2 h => ?_
  rw [hhas]
  cases c3 : G.has a.a with
  | false =>
   rw [c3] at e
   (repeat simp -implicitDefEqProofs only [SE, SU, SV])
   exact hno e _ (by assumption)
  | true =>
   rw [c3, if_pos rfl] at e
   rw [e] at hk
   (repeat (first | ((with_reducible refine v5 ?_); refine ⟨_, rfl, ?_⟩) | (refine okF_i (bldP_eq rfl) ?_; try simp only [BLS, SB, Nat.reduceAdd]) | simp -implicitDefEqProofs only [SE, SU, SV]))
   rw [hn0]
   refine paxRecover (g := g) (i := n) (d := ⟨a.a, a.b⟩) hO (by omega) (by unfold Grp.n; omega) (hcl _ (by assumption)) fun W3 h => ?_
   skip
   exact hk _ h
 have f2 := decide_eq_false c2
 obtain ⟨ga, go, hga⟩ := posP (a := x.a) (ps := x.zs.map fun z : RepX => z.p) (i := n) h (by simpa using hz)
 have ix : idxS 1 (.slice x.a x.zs.length x.c) (.int .i64 a.n) = some (.pointer (some ⟨ga, go + n * 1, none⟩)) := by rw [hn0]; exact ixP (c := x.c) hga hz
 obtain ⟨eu, el⟩ := GX.at hx hz
 have hll := hO.lsAt n
 rw [el, List.length_map] at hll
 have hlen : (G.l a.n.toNat).length = x.zs[n].ls.length := by rw [hn0, Int.toNat_natCast, el, List.length_map]
 have h := rep_open (g := g) hn hz (St.wk (L' := gce g x :: gar x :: many rce x.zs :: many rld x.zs :: many rtb (x.tz G.T) :: cells b3 [.int .i64 a.op, .int .i64 a.n, .int .i64 a.a, .int .i64 a.b] T_pax_Act :: L') h)
 have hno2 : G.act a = (G, false) → ∀ W', St W0 (rce x.zs[n] :: arr PTR T_p_pax_leader x.zs[n].la x.zs[n].lc (x.zs[n].ls.map (·.1)) :: many (lrc x.zs[n].t) x.zs[n].ls :: tb x.zs[n].t (tAt G.T n) :: gce g x :: gar x :: many rce (x.zs.eraseIdx n) :: many rld (x.zs.eraseIdx n) :: many rtb ((x.tz G.T).eraseIdx n) :: cells b3 [.int .i64 a.op, .int .i64 a.n, .int .i64 a.a, .int .i64 a.b] T_pax_Act :: L') W' → k (.bool false) W' := fun e W' h => by
  rw [e] at hk
  have h := grp_put (sk := sk) (g := g) hx hz x.zs[n] (tAt G.T n) rfl rfl h
  rw [grp_same hx hz] at h
  exact hk W' (St.wk h)
 (repeat (first | ((with_reducible refine v5 ?_); refine ⟨_, rfl, ?_⟩) | simp -implicitDefEqProofs only [SE, SU, SV, f1, f2, ix]))
 refine ldRep hz hga (by exact St.tick (by assumption)) inferInstance ?_
 have h := St.tick h
 by_cases c3 : a.a < 0
 ·(repeat (first | ((with_reducible refine v5 ?_); refine ⟨_, rfl, ?_⟩) | simp -implicitDefEqProofs only [SE, SU, SV, c3]))
  exact hno2 (by unfold Grp.act; rw [if_neg c0', if_neg c1, if_neg c2, if_pos (.inl c3)]) _ (by exact St.tick (by assumption))
 by_cases c4 : (x.zs[n].ls.length : Int) ≤ a.a
 ·(repeat (first | ((with_reducible refine v5 ?_); refine ⟨_, rfl, ?_⟩) | simp -implicitDefEqProofs only [SE, SU, SV, c3, c4]))
  exact hno2 (by unfold Grp.act; rw [if_neg c0', if_neg c1, if_neg c2, if_pos (.inr (by rw [hlen]; exact c4))]) _ (by exact St.tick (by assumption))
 obtain ⟨j, hj0⟩ := Int.eq_ofNat_of_zero_le (show 0 ≤ a.a by omega)
 have hj : j < x.zs[n].ls.length := by omega
 have c34 : ¬ (a.a < 0 ∨ ((G.l a.n.toNat).length : Int) ≤ a.a) := by rw [hlen]; omega
 obtain ⟨gb, gp, hgb⟩ := posP (a := x.zs[n].la) (ps := x.zs[n].ls.map fun x : Nat × LdR => x.1) (i := j) h (by simpa using hj)
 have ix2 : idxS 1 (.slice x.zs[n].la x.zs[n].ls.length x.zs[n].lc) (.int .i64 a.a) = some (.pointer (some ⟨gb, gp + j * 1, none⟩)) := by rw [hj0]; exact ixP (c := x.zs[n].lc) hgb hj
 have htl : (G.tl a.n.toNat a.a.toNat) = ⟨G.T, x.zs[n].ls[j].2⟩ := by
  unfold Grp.tl
  rw [hn0, hj0, Int.toNat_natCast, Int.toNat_natCast, el, List.getD_eq_getElem?_getD, List.getElem?_map, List.getElem?_eq_getElem hj]; rfl
 (repeat (first | ((with_reducible refine v5 ?_); refine ⟨_, rfl, ?_⟩) | simp -implicitDefEqProofs only [SE, SU, SV, c3, c4, ix2]))
 refine ldP (ps := x.zs[n].ls.map fun x : Nat × LdR => x.1) hgb (by exact St.tick (St.tick (by assumption))) (by simpa using hj) ?_
 rw [List.getElem_map]
 by_cases c6 : a.op = 6
 ·have f6 := decide_eq_true c6
  have e : G.act a = (G.put n j ((G.tl a.n.toNat a.a.toNat).slow n).1, ((G.tl a.n.toNat a.a.toNat).slow n).2) := by
   unfold Grp.act; rw [if_neg c0', if_neg c1, if_neg c2, if_neg c34, if_pos c6, hn0, hj0, Int.toNat_natCast, Int.toNat_natCast]
  obtain ⟨y, hy1, hy2, h⟩ := led_open hn hz hj (St.wk (L' := rce x.zs[n] :: arr PTR T_p_pax_leader x.zs[n].la x.zs[n].lc (x.zs[n].ls.map (·.1)) :: many (lrc x.zs[n].t) x.zs[n].ls :: tb x.zs[n].t (tAt G.T n) :: gce g x :: gar x :: many rce (x.zs.eraseIdx n) :: many rld (x.zs.eraseIdx n) :: many rtb ((x.tz G.T).eraseIdx n) :: cells b3 [.int .i64 a.op, .int .i64 a.n, .int .i64 a.a, .int .i64 a.b] T_pax_Act :: L') (by assumption))
  have es : TL.of G.T y = G.tl a.n.toNat a.a.toNat := by rw [htl]; show (⟨G.T, y.abs⟩ : TL) = _; rw [hy2]
  rw [e, ← es] at hk
  (repeat (first | ((with_reducible refine v5 ?_); refine ⟨_, rfl, ?_⟩) | simp -implicitDefEqProofs only [SE, SU, SV, f6]))
  refine paxSlow (g := g) (q := x.zs[n].ls[j].1) (X := x) (T := G.T) (y := y) (n := n) (L := arr PTR T_p_pax_leader x.zs[n].la x.zs[n].lc (x.zs[n].ls.map (·.1)) :: many (lrc x.zs[n].t) (x.zs[n].ls.eraseIdx j) :: many rld (x.zs.eraseIdx n) :: cells b3 [.int .i64 a.op, .int .i64 a.n, .int .i64 a.a, .int .i64 a.b] T_pax_Act :: L') hn (by omega) hy1.1 (St.wk (by exact St.tick (St.tick (by assumption)))) fun y' W5 g0 g1 g2 g3 h => ?_
  skip
  have hT3 := congrArg TL.T g3
  have hx3 := congrArg TL.x g3
  refine hk _ (St.wk (led_shut (g := g) (G := G) (s := ((TL.of G.T y).slow n).1) hx hz hj ?_ (LdX.ok_got hy1 g1 g2) hx3 (L := cells b3 [.int .i64 a.op, .int .i64 a.n, .int .i64 a.a, .int .i64 a.b] T_pax_Act :: L') ?_))
  ·rw [← hT3, List.length_set]
  ·rw [← hT3]; exact St.wk h
 have f6 := decide_eq_false c6
 by_cases c7 : a.op = 7
 ·have f7 := decide_eq_true c7
  have e : G.act a = (⟨G.T, G.ls.set n ((G.l n).eraseIdx j), G.used⟩, true) := by
   unfold Grp.act; rw [if_neg c0', if_neg c1, if_neg c2, if_neg c34, if_neg c6, if_pos c7, hn0, hj0, Int.toNat_natCast, Int.toNat_natCast]
  rw [e] at hk
  have hput := fun {W' : World} => grp_put (sk := sk) (W0 := W0) (W := W') (L := cells b3 [.int .i64 a.op, .int .i64 a.n, .int .i64 a.a, .int .i64 a.b] T_pax_Act :: L') (g := g) hx hz
  have hsame := grp_same hx hz
  have h := St.tick (St.tick h)
  clear hno hno2 hcl hhas htl e
  generalize x.zs[n] = z at *
  have hcap := (St.wk (L' := arr PTR T_p_pax_leader z.la z.lc (z.ls.map (·.1)) :: L') h).arrFacts.1
  rw [List.length_map] at hcap
  have hb1 : ∀ d, bnd (some (.int .i64 a.a)) d z.lc = some j := fun d => by rw [hj0]; exact bnd_nat (by omega)
  have hb2 : bnd (some (.int .i64 (IntKind.i64.wrap (a.a + 1)))) 0 z.ls.length = some (j + 1) := by
   rw [show IntKind.i64.wrap (a.a + 1) = ((j + 1 : Nat) : Int) by rw [hj0, i64w]; omega]; exact bnd_nat (by omega)
  have hml : (z.ls.map (·.1)).length = z.ls.length := by simp
  (repeat (first | ((with_reducible refine v5 ?_); refine ⟨_, rfl, ?_⟩) | simp -implicitDefEqProofs only [SE, SU, SV, f6, f7]))
  refine slcR (A := PTR) (a := z.la) (l := z.ls.map (·.1)) (by assumption) rfl hml.symm (hb1 _) bnd_none (Nat.zero_le _) (by omega) (by omega) fun a1 c1 hr1 => ?_
  rw [List.drop_zero] at hr1 ⊢
  (repeat (first | ((with_reducible refine v5 ?_); refine ⟨_, rfl, ?_⟩) | simp -implicitDefEqProofs only [SE, SU, SV]))
  refine slcR (A := PTR) (a := z.la) (l := z.ls.map (·.1)) (by assumption) rfl hml.symm bnd_none hb2 (by omega) (by omega) (by omega) fun a4 c4 hr2 => ?_
  have etk : ∀ l : List Nat, l.length = z.ls.length → l.take z.ls.length = l := fun l e => List.take_of_length_le (by omega)
  rw [etk _ hml] at hr2 ⊢
  have hl1 : ((z.ls.map (·.1)).take j).length ≤ 1000000 := by simp; omega
  have hl2 : ((z.ls.map (·.1)).drop (j + 1)).length ≤ 1000000 := by simp; omega
  have hers : (z.ls.map (·.1)).take j ++ (z.ls.map (·.1)).drop (j + 1) = (z.ls.eraseIdx j).map (·.1) := by
   rw [List.eraseIdx_eq_take_drop_succ, List.map_append, List.map_take, List.map_drop]
  generalize (z.ls.map (·.1)).take j = g1 at *
  generalize (z.ls.map (·.1)).drop (j + 1) = g2 at *
  refine bs0 PTR (by exact St.tick (by assumption)) fun a5 c5 W8 h => ?_
  (repeat (first | ((with_reducible refine stb_n ?_); intros) | ((with_reducible refine v8 ?_ ?_); exact rfl; intros)))
  refine appA (A := PTR) (a := a5) (l := []) (m := g1) h rfl (by simp only [List.length_nil]; omega) (by simp only [List.length_nil, maxLen]; omega) fun a6 c6 W9 h => ?_
  rw [List.nil_append] at h ⊢
  (repeat (first | ((with_reducible refine stb_n ?_); intros) | ((with_reducible refine v8 ?_ ?_); exact rfl; intros)))
  refine appA (A := PTR) (a := a6) (l := g1) (m := g2) h rfl (by omega) (by simp only [maxLen]; omega) fun a7 c7 W10 h => ?_
  rw [hers] at h ⊢
  (repeat ((with_reducible refine v12 ?_ ?_); exact rfl; intros))
  rename_i h
  (try simp only [BLS, SB, stL_a, stL_b, stL_c, lsub_a, lsub_b, lsub_c, List.append_nil, List.take_nil, List.drop_nil, Nat.reduceAdd] at h)
  rw [List.length_map] at h
  have h := (St.wk (L' := many (lrc z.t) z.ls :: cells z.p [.pointer (some ⟨z.t, 0, none⟩), .slice a7 (z.ls.eraseIdx j).length c7, .int .i64 z.used] T_pax_replica :: arr PTR T_p_pax_leader a7 c7 ((z.ls.eraseIdx j).map fun w : Nat × LdR => w.1) :: tb z.t (tAt G.T n) :: gce g x :: gar x :: many rce (x.zs.eraseIdx n) :: many rld (x.zs.eraseIdx n) :: many rtb ((x.tz G.T).eraseIdx n) :: cells b3 [.int .i64 a.op, .int .i64 a.n, .int .i64 a.a, .int .i64 a.b] T_pax_Act :: L') h).ent (mtake z.ls hj)
  have h := hput ⟨z.p, z.t, a7, c7, z.ls.eraseIdx j, z.used⟩ (tAt G.T n) rfl rfl (St.wk h.drop)
  have eus : G.used.set n z.used = G.used := congrArg Grp.used hsame
  have e3 : (z.ls.eraseIdx j).map (fun z : Nat × LdR => z.2) = (G.l n).eraseIdx j := by rw [el, List.eraseIdx_eq_take_drop_succ, List.eraseIdx_eq_take_drop_succ, List.map_append, List.map_take, List.map_drop]
  rw [tAt_set_self] at h
  simp only [eus, e3] at h
  exact hk _ (St.wk h)
 have f7 := decide_eq_false c7
 have e : G.act a = (if G.has a.b = true ∧ a.b ≠ a.n then (G.put n j ((G.tl a.n.toNat a.a.toNat).told n a.op a.b).1, ((G.tl a.n.toNat a.a.toNat).told n a.op a.b).2) else (G, false)) := by
  unfold Grp.act; rw [if_neg c0', if_neg c1, if_neg c2, if_neg c34, if_neg c6, if_neg c7, hn0, hj0, Int.toNat_natCast, Int.toNat_natCast]
 have h := St.tick (St.tick h)
 (repeat (first | ((with_reducible refine v5 ?_); refine ⟨_, rfl, ?_⟩) | simp -implicitDefEqProofs only [SE, SU, SV, f6, f7]))
 refine paxHas (n := x.zs.length) (c := x.c) (a := x.a) (by assumption) fun W2 h => ?_
 rw [hhas]
 cases c8 : G.has a.b with
 | false =>
  (repeat simp -implicitDefEqProofs only [SE, SU, SV])
  exact hno2 (by rw [e, c8]; rfl) _ (by assumption)
 | true =>
  by_cases c9 : a.b = a.n
  ·have f9 := decide_eq_true c9
   (repeat (first | ((with_reducible refine v5 ?_); refine ⟨_, rfl, ?_⟩) | simp -implicitDefEqProofs only [SE, SU, SV, f9]))
   exact hno2 (by rw [e, if_neg (fun h => h.2 c9)]) _ (by assumption)
  ·have f9 := decide_eq_false c9
   rw [if_pos ⟨c8, c9⟩] at e
   obtain ⟨h0b, h1b⟩ := has_iff.1 c8
   obtain ⟨b, hb0⟩ := Int.eq_ofNat_of_zero_le h0b
   have hbl : b < G.T.length := by unfold Grp.n at h1b; omega
   have hn7 := hO.n
   (repeat (first | ((with_reducible refine v5 ?_); refine ⟨_, rfl, ?_⟩) | simp -implicitDefEqProofs only [SE, SU, SV, f9]))
   obtain ⟨y, hy1, hy2, h⟩ := led_open hn hz hj (St.wk (L' := rce x.zs[n] :: arr PTR T_p_pax_leader x.zs[n].la x.zs[n].lc (x.zs[n].ls.map (·.1)) :: many (lrc x.zs[n].t) x.zs[n].ls :: tb x.zs[n].t (tAt G.T n) :: gce g x :: gar x :: many rce (x.zs.eraseIdx n) :: many rld (x.zs.eraseIdx n) :: many rtb ((x.tz G.T).eraseIdx n) :: cells b3 [.int .i64 a.op, .int .i64 a.n, .int .i64 a.a, .int .i64 a.b] T_pax_Act :: L') (by assumption))
   have es : TL.of G.T y = G.tl a.n.toNat a.a.toNat := by rw [htl]; show (⟨G.T, y.abs⟩ : TL) = _; rw [hy2]
   rw [e, ← es] at hk
   rw [hb0] at hk ⊢
   refine paxTold (g := g) (q := x.zs[n].ls[j].1) (X := x) (T := G.T) (y := y) (n := n) (to := b) (L := arr PTR T_p_pax_leader x.zs[n].la x.zs[n].lc (x.zs[n].ls.map (·.1)) :: many (lrc x.zs[n].t) (x.zs[n].ls.eraseIdx j) :: many rld (x.zs.eraseIdx n) :: cells b3 [.int .i64 a.op, .int .i64 a.n, .int .i64 a.a, .int .i64 a.b] T_pax_Act :: L') hn (by omega) (by omega) hbl hy1 (St.wk (by assumption)) fun y' W5 g1 g2 h => ?_
   skip
   refine hk _ (St.wk (led_shut (g := g) (G := G) (s := ((TL.of G.T y).told n a.op b).1) hx hz hj (told_ev _ _ _ _).len g1 g2 (L := cells b3 [.int .i64 a.op, .int .i64 a.n, .int .i64 a.a, .int .i64 a.b] T_pax_Act :: L') (St.wk h)))
end
end Go.Proofs.YtfhacbhgmnhmlaaGreat
namespace Go.Proofs.YtfhacbhgmnhmlaaGreat
set_option linter.unusedVariables false
set_option linter.unusedSimpArgs false
open Go.Eng
def S.rostrumref7_SameDots.l1 (R : VK) (K1 : LK) (x0 x1 x5 : Value) (W : World) : Prop :=
oK (lenP (.slice T_api_Dot) x0) fun v13=>
oK (binP .lss x5 v13) fun v14=>
ifK v14 (
oK (idxS 2 x0 x5) fun v19=>
lD (tick W) T_api_Dot v19 fun v20 W=>
oK (idxS 2 x1 x5) fun v23=>
lD W T_api_Dot v23 fun v24 W=>
rD W (aggEq .neq T_api_Dot v20 v24) fun v25 W=>
ifK v25 (
R (.bool false) W) (
oK (binP .add x5 (nI 1)) fun v16=>
K1 [x0, x1, v16] W)) (
R (.bool true) W)
def S.rostrumref7_SameDots.body (R : VK) (v0 v1 : Value) (W : World) : Prop :=
oK (lenP (.slice T_api_Dot) v0) fun v7=>
oK (lenP (.slice T_api_Dot) v1) fun v9=>
oK (binP .neq v7 v9) fun v10=>
ifK v10 (
R (.bool false) W) (
loopK (fun K1 s W => S.rostrumref7_SameDots.l1 R K1 (nthv s 0) (nthv s 1) (nthv s 2) W) [v0, v1, (nI 0)] W)
theorem S.rostrumref7_SameDots.call {R : VK} {v0 v1 : Value} {W : World} (h : S.rostrumref7_SameDots.body R v0 v1 W) : callK PR F_rostrumref7_SameDots [v0, v1] R W :=
callS (fn := Tryz.f12) (h := (.t (.two (.t (.two (.t .n) .n)) (.two (.t (.at [0, 1, 5] (.two (.t (.t .n)) (.two (.t (.two (.t .n) .n)) .n)) .n)) (.t .n))))) h
end Go.Proofs.YtfhacbhgmnhmlaaGreat
namespace Go.Proofs.YtfhacbhgmnhmlaaGreat
set_option linter.unusedVariables false
set_option linter.unusedSimpArgs false
open Go Go.Eng Go.Tar Go.Sort Go.RowKit
theorem dot_eq (x y : Dot) : (decide (x.rep = y.rep) && decide (x.n = y.n)) = decide (x = y) := by
 cases x; cases y
 rw [Bool.eq_iff_iff]
 simp
theorem take_step {α : Type} {l m : List α} {i : Nat} (h : l.take i = m.take i) (hi : i < l.length) (hj : i < m.length) (he : l[i] = m[i]) : l.take (i + 1) = m.take (i + 1) := by
 rw [List.take_succ_eq_append_getElem hi, List.take_succ_eq_append_getElem hj, h, he]
section
variable {W0 W : World} {L L' : List Asn}
set_option maxRecDepth 100000 in
set_option maxHeartbeats 4000000 in
theorem refSameDots {a b : Option Addr} {c d : Nat} {l m : List Dot} {k : Value → World → Prop} (h : St W0 L W) [hr : Rd W0 L a DOT l] [hr2 : Rd W0 L b DOT m] (hl : l.length < 4611686018427387904)
  (hk : ∀ W', St W0 L W' → k (.bool (decide (l = m))) W') : callK PR F_rostrumref7_SameDots [.slice a l.length c, .slice b m.length d] k W := by
 apply S.rostrumref7_SameDots.call
 delta S.rostrumref7_SameDots.body oK oA rD lD eF eU sT cL vC gD gX gP gA gR gL gE gU gC gV hL sB nI
 by_cases hn : l.length = m.length
 ·have f1 : decide ((l.length : Int) = (m.length : Int)) = true := decide_eq_true (by omega)
  (repeat simp -implicitDefEqProofs only [SE, SU, SV, f1])
  refine loop_c (σ := Unit) l.length (fun i _ => [.slice a l.length c, .slice b m.length d, .int .i64 i]) (fun i _ W1 => l.take i = m.take i ∧ St W0 L W1) () rfl ⟨rfl, h⟩ ?_
  clear h
  rintro K i _ W2 hi ⟨ht, h⟩ hK
  simp -implicitDefEqProofs only [SE, SU, SV]
  delta S.rostrumref7_SameDots.l1 oK oA rD lD eF eU sT cL vC gD gX gP gA gR gL gE gU gC gV hL sB nI
  by_cases hlt : (i : Int) < (l.length : Int)
  ·have hib : i < l.length := by omega
   have hjb : i < m.length := by omega
   have ew : IntKind.i64.wrap ((i : Int) + 1) = ((i + 1 : Nat) : Int) := by rw [i64w]; omega
   (repeat simp -implicitDefEqProofs only [SE, SU, SV, hlt])
   refine ixA (i := i) (a := a) (l := l) (A := DOT) h.tick rfl rfl hib fun g o ha => ?_
   cases ha
   refine ldA0 (i := i) (l := l) (A := DOT) h.tick rfl hib (v := .agg #[.int .i64 (l[i]).rep, .int .i64 (l[i]).n]) rfl (by simp) ?_
   refine ixA (i := i) (a := b) (l := m) (A := DOT) h.tick rfl rfl hjb fun g' o' ha => ?_
   cases ha
   refine ldA0 (i := i) (l := m) (A := DOT) h.tick rfl hjb (v := .agg #[.int .i64 (m[i]).rep, .int .i64 (m[i]).n]) rfl (by simp) ?_
   generalize hx : l[i] = x at *
   generalize hy : m[i] = y at *
   by_cases he : x = y
   ·have f2 : (decide (x.rep = y.rep) && decide (x.n = y.n)) = true := by rw [dot_eq]; exact decide_eq_true he
    (repeat (first | ((with_reducible refine vn ?_); refine ⟨_, rfl, ?_⟩) | simp -implicitDefEqProofs only [SE, SU, SV, f2, ew]))
    refine hK () _ hib ⟨take_step ht hib hjb (by rw [hx, hy, he]), h.tick⟩
   ·have f2 : (decide (x.rep = y.rep) && decide (x.n = y.n)) = false := by rw [dot_eq]; exact decide_eq_false he
    have hne : decide (l = m) = false := decide_eq_false fun e => he (by subst e; rw [← hx, ← hy])
    rw [hne] at hk
    (repeat (first | ((with_reducible refine vn ?_); refine ⟨_, rfl, ?_⟩) | simp -implicitDefEqProofs only [SE, SU, SV, f2]))
    exact hk _ h.tick
  ·(repeat simp -implicitDefEqProofs only [SE, SU, SV, hlt])
   have hall : l = m := by
    have := ht
    rw [List.take_of_length_le (by omega), List.take_of_length_le (by omega)] at this
    exact this
   rw [decide_eq_true hall] at hk
   exact hk _ h
 ·have f1 : decide ((l.length : Int) = (m.length : Int)) = false := decide_eq_false (by omega)
  have hne : decide (l = m) = false := decide_eq_false fun e => hn (by rw [e])
  rw [hne] at hk
  (repeat simp -implicitDefEqProofs only [SE, SU, SV, f1])
  exact hk _ h
end
end Go.Proofs.YtfhacbhgmnhmlaaGreat
namespace Go.Proofs.YtfhacbhgmnhmlaaGreat
set_option linter.unusedVariables false
set_option linter.unusedSimpArgs false
open Go.Eng
def S.rostrumlaw22_awake.j2 (R : VK) (x5 x6 : Value) (W : World) : Prop :=
oA 1 x5 fun v37=>
lD W T_s_uint8 v37 fun v38 W=>
rD W (convert T_s_uint8 T_string v38) fun v39 W=>
oK (binP .eql v39 (.string ⟨#[1]⟩)) fun v40=>
gA W v40 true 1 x6 fun v42 W=>
gL W v40 true T_s_uint8 v42 fun v43 W=>
gR W v40 true (convert T_s_uint8 T_string v43) fun v44 W=>
gP W v40 true (binP .eql v44 (.string ⟨#[2]⟩)) fun v45 W=>
oK (pickP v40 v45 (.bool false)) fun v46=>
gA W v46 true 3 x5 fun v48 W=>
gP W v46 true (idxA 7 1 v48 (nI 1)) fun v49 W=>
gL W v46 true T_int64 v49 fun v50 W=>
gP W v46 true (binP .geq v50 (nI 1)) fun v51 W=>
gX W v46 true v51 fun v52 W=>
gA W v52 false 3 x6 fun v53 W=>
gP W v52 false (idxA 7 1 v53 (nI 0)) fun v54 W=>
gL W v52 false T_int64 v54 fun v55 W=>
gP W v52 false (binP .geq v55 (nI 1)) fun v56 W=>
gP W v46 true (pickP v52 (.bool true) v56) fun v57 W=>
oK (pickP v46 v57 (.bool false)) fun v58=>
R v58 W
def S.rostrumlaw22_awake.j1 (R : VK) (x1 x2 x3 : Value) (W : World) : Prop :=
joinK (fun s W => S.rostrumlaw22_awake.j2 R (nthv s 0) (nthv s 1) W) (fun J2 =>
lD (tick W) T_api_Dot x2 fun v32 W=>
lD W T_api_Dot x3 fun v35 W=>
(cL W F_pax_Group_Rec [x1, (nI 2), v32] fun v33 W=>
sB W [hL 4 T_api_Dot x3 v35] fun W=>
(cL W F_pax_Group_Rec [x1, (nI 2), v35] fun v36 W=>
(eF W (Instr.alloc T_inst_Rec true (.tuple #[])) fun v5 W=>
eF W (Instr.alloc T_inst_Rec true (.tuple #[])) fun v6 W=>
sT W T_inst_Rec v5 v33 fun _ W=>
sT W T_inst_Rec v6 v36 fun _ W=>
J2 [v5, v6] W) ∧ (eF W (Instr.alloc T_inst_Rec true (.tuple #[])) fun v6_1 W=>
eF W (Instr.alloc T_inst_Rec true (.tuple #[])) fun v5_1 W=>
sT W T_inst_Rec v5_1 v33 fun _ W=>
sT W T_inst_Rec v6_1 v36 fun _ W=>
J2 [v5_1, v6_1] W)) ∧ (eF W (Instr.alloc T_inst_Rec true (.tuple #[])) fun v5_2 W=>
sB W [hL 4 T_api_Dot x3 v35] fun W=>
(cL W F_pax_Group_Rec [x1, (nI 2), v35] fun v36_1 W=>
eF W (Instr.alloc T_inst_Rec true (.tuple #[])) fun v6_2 W=>
sT W T_inst_Rec v5_2 v33 fun _ W=>
sT W T_inst_Rec v6_2 v36_1 fun _ W=>
J2 [v5_2, v6_2] W) ∧ (eF W (Instr.alloc T_inst_Rec true (.tuple #[])) fun v6_3 W=>
sB W [hL 4 T_api_Dot x3 v35] fun W=>
cL W F_pax_Group_Rec [x1, (nI 2), v35] fun v36_2 W=>
sT W T_inst_Rec v5_2 v33 fun _ W=>
sT W T_inst_Rec v6_3 v36_2 fun _ W=>
J2 [v5_2, v6_3] W)) ∧ (eF W (Instr.alloc T_inst_Rec true (.tuple #[])) fun v6_4 W=>
sB W [hL 4 T_api_Dot x3 v35] fun W=>
(cL W F_pax_Group_Rec [x1, (nI 2), v35] fun v36_3 W=>
eF W (Instr.alloc T_inst_Rec true (.tuple #[])) fun v5_3 W=>
sT W T_inst_Rec v5_3 v33 fun _ W=>
sT W T_inst_Rec v6_4 v36_3 fun _ W=>
J2 [v5_3, v6_4] W) ∧ (eF W (Instr.alloc T_inst_Rec true (.tuple #[])) fun v5_4 W=>
sB W [hL 4 T_api_Dot x3 v35] fun W=>
cL W F_pax_Group_Rec [x1, (nI 2), v35] fun v36_4 W=>
sT W T_inst_Rec v5_4 v33 fun _ W=>
sT W T_inst_Rec v6_4 v36_4 fun _ W=>
J2 [v5_4, v6_4] W))) ∧ (eF W (Instr.alloc T_inst_Rec true (.tuple #[])) fun v5_5 W=>
sB W [hL 4 T_api_Dot x3 v35, hL 1 T_api_Dot x2 v32] fun W=>
(cL W F_pax_Group_Rec [x1, (nI 2), v32] fun v33_1 W=>
sB W [hL 4 T_api_Dot x3 v35] fun W=>
(cL W F_pax_Group_Rec [x1, (nI 2), v35] fun v36_5 W=>
eF W (Instr.alloc T_inst_Rec true (.tuple #[])) fun v6_5 W=>
sT W T_inst_Rec v5_5 v33_1 fun _ W=>
sT W T_inst_Rec v6_5 v36_5 fun _ W=>
J2 [v5_5, v6_5] W) ∧ (eF W (Instr.alloc T_inst_Rec true (.tuple #[])) fun v6_6 W=>
sB W [hL 4 T_api_Dot x3 v35] fun W=>
cL W F_pax_Group_Rec [x1, (nI 2), v35] fun v36_6 W=>
sT W T_inst_Rec v5_5 v33_1 fun _ W=>
sT W T_inst_Rec v6_6 v36_6 fun _ W=>
J2 [v5_5, v6_6] W)) ∧ (eF W (Instr.alloc T_inst_Rec true (.tuple #[])) fun v6_7 W=>
sB W [hL 4 T_api_Dot x3 v35, hL 1 T_api_Dot x2 v32] fun W=>
cL W F_pax_Group_Rec [x1, (nI 2), v32] fun v33_2 W=>
sB W [hL 4 T_api_Dot x3 v35] fun W=>
cL W F_pax_Group_Rec [x1, (nI 2), v35] fun v36_7 W=>
sT W T_inst_Rec v5_5 v33_2 fun _ W=>
sT W T_inst_Rec v6_7 v36_7 fun _ W=>
J2 [v5_5, v6_7] W)) ∧ (eF W (Instr.alloc T_inst_Rec true (.tuple #[])) fun v6_8 W=>
sB W [hL 4 T_api_Dot x3 v35, hL 1 T_api_Dot x2 v32] fun W=>
(cL W F_pax_Group_Rec [x1, (nI 2), v32] fun v33_3 W=>
sB W [hL 4 T_api_Dot x3 v35] fun W=>
(cL W F_pax_Group_Rec [x1, (nI 2), v35] fun v36_8 W=>
eF W (Instr.alloc T_inst_Rec true (.tuple #[])) fun v5_6 W=>
sT W T_inst_Rec v5_6 v33_3 fun _ W=>
sT W T_inst_Rec v6_8 v36_8 fun _ W=>
J2 [v5_6, v6_8] W) ∧ (eF W (Instr.alloc T_inst_Rec true (.tuple #[])) fun v5_7 W=>
sB W [hL 4 T_api_Dot x3 v35] fun W=>
cL W F_pax_Group_Rec [x1, (nI 2), v35] fun v36_9 W=>
sT W T_inst_Rec v5_7 v33_3 fun _ W=>
sT W T_inst_Rec v6_8 v36_9 fun _ W=>
J2 [v5_7, v6_8] W)) ∧ (eF W (Instr.alloc T_inst_Rec true (.tuple #[])) fun v5_8 W=>
sB W [hL 4 T_api_Dot x3 v35, hL 1 T_api_Dot x2 v32] fun W=>
cL W F_pax_Group_Rec [x1, (nI 2), v32] fun v33_4 W=>
sB W [hL 4 T_api_Dot x3 v35] fun W=>
cL W F_pax_Group_Rec [x1, (nI 2), v35] fun v36_10 W=>
sT W T_inst_Rec v5_8 v33_4 fun _ W=>
sT W T_inst_Rec v6_8 v36_10 fun _ W=>
J2 [v5_8, v6_8] W)))
def S.rostrumlaw22_awake.j3 (R : VK) (K1 : LK) (x1 x2 x3 x4 x30 : Value) (W : World) : Prop :=
ifK x30 (
R (.bool false) W) (
oK (binP .add x4 (nI 1)) fun v15=>
K1 [x1, x2, x3, v15] W)
def S.rostrumlaw22_awake.l1 (R : VK) (J1 : LK) (K1 : LK) (x1 x2 x3 x4 : Value) (W : World) : Prop :=
oK (binP .lss x4 (nI 3)) fun v13=>
ifK v13 (
joinK (fun s W => S.rostrumlaw22_awake.j3 R K1 (nthv s 0) (nthv s 1) (nthv s 2) (nthv s 3) (nthv s 4) W) (fun J3 =>
lD (tick W) T_api_Dot x2 fun v19 W=>
lD W T_api_Dot x3 fun v20 W=>
(cL W F_pax_Group_Committed [x1, x4] fun v18 W=>
sB W [hL 4 T_api_Dot x3 v20, hL 3 T_api_Dot x2 v19] fun W=>
eF W (Instr.buildSlice T_s_api_Dot 2 #[(0, v19), (1, v20)]) fun v21 W=>
cL W F_rostrumref7_SameDots [v18, v21] fun v22 W=>
oK (unP .not v22) fun v23=>
gX W v23 false x1 fun v25 W=>
gX W v23 false x4 fun v26 W=>
gD W v23 false (fun k W => callK PR F_pax_Group_Line [v25, v26] k W) fun v27 W=>
gP W v23 false (lenP (.slice T_api_Dot) v27) fun v28 W=>
gP W v23 false (binP .neq v28 (nI 2)) fun v29 W=>
oK (pickP v23 (.bool true) v29) fun v30=>
J3 [x1, x2, x3, x4, v30] W) ∧ (eF W (Instr.buildSlice T_s_api_Dot 2 #[(0, v19), (1, v20)]) fun v21_1 W=>
cL W F_pax_Group_Committed [x1, x4] fun v18_1 W=>
cL W F_rostrumref7_SameDots [v18_1, v21_1] fun v22_1 W=>
oK (unP .not v22_1) fun v23_1=>
gX W v23_1 false x1 fun v25_1 W=>
gX W v23_1 false x4 fun v26_1 W=>
gD W v23_1 false (fun k W => callK PR F_pax_Group_Line [v25_1, v26_1] k W) fun v27_1 W=>
gP W v23_1 false (lenP (.slice T_api_Dot) v27_1) fun v28_1 W=>
gP W v23_1 false (binP .neq v28_1 (nI 2)) fun v29_1 W=>
oK (pickP v23_1 (.bool true) v29_1) fun v30_1=>
J3 [x1, x2, x3, x4, v30_1] W))) (
J1 [x1, x2, x3] W)
def S.rostrumlaw22_awake.body (R : VK) (W : World) : Prop :=
cL W F_rostrumlaw22_calmed [(nI 3)] fun v7 W=>
oK (eqP (.pointer T_pax_Group) .eql v7 (.pointer none)) fun v9=>
ifK v9 (
R (.bool false) W) (
oK (bldP (fun i => ([(0, 1), (1, 1)] : List (Nat × Nat))[i]?) [.int .i64 0, .int .i64 0] [(1, (nI 1))]) fun v10=>
oK (bldP (fun i => ([(0, 1), (1, 1)] : List (Nat × Nat))[i]?) [.int .i64 0, .int .i64 0] [(0, (nI 1)), (1, (nI 1))]) fun v11=>
eF W (Instr.alloc T_api_Dot true (.tuple #[])) fun v2 W=>
eF W (Instr.alloc T_api_Dot true (.tuple #[])) fun v3 W=>
sT W T_api_Dot v2 v10 fun _ W=>
sT W T_api_Dot v3 v11 fun _ W=>
joinK (fun s W => S.rostrumlaw22_awake.j1 R (nthv s 0) (nthv s 1) (nthv s 2) W) (fun J1 =>
loopK (fun K1 s W => S.rostrumlaw22_awake.l1 R J1 K1 (nthv s 0) (nthv s 1) (nthv s 2) (nthv s 3) W) [v7, v2, v3, (nI 0)] W))
theorem S.rostrumlaw22_awake.call {R : VK} {W : World} (h : S.rostrumlaw22_awake.body R  W) : callK PR F_rostrumlaw22_awake [] R W :=
callS (fn := Tryz.f7) (h := (.t (.t (.two (.t (.two (.t .n) .n)) (.t (.at [1, 2, 3] (.t (.at [1, 2, 3, 4] (.two (.t (.t .n)) (.two (.at [1, 2, 3, 4, 30] .n (.two (.t .n) .n)) .n)) .n)) (.at [5, 6] .n (.t .n)))))))) h
def S.rostrumlaw22_calmed.body (R : VK) (v0 : Value) (W : World) : Prop :=
cL W F_pax_New [v0] fun v7 W=>
oK (extP 0 v7) fun v8=>
oK (extP 1 v7) fun v9=>
oK (binP .neq v9 (nI 0)) fun v11=>
gX W v11 false v8 fun v13 W=>
gP W v11 false (eqP (.pointer T_pax_Group) .eql v13 (.pointer none)) fun v14 W=>
oK (pickP v11 (.bool true) v14) fun v15=>
gX W v15 false v8 fun v17 W=>
gP W v15 false (bldP (fun i => ([(0, 1), (1, 1), (2, 1), (3, 1)] : List (Nat × Nat))[i]?) [.int .i64 0, .int .i64 0, .int .i64 0, .int .i64 0] [(1, (nI 0)), (3, (nI 1))]) fun v18 W=>
gC W v15 false F_pax_Group_Do [v17, v18] fun v19 W=>
gP W v15 false (unP .not v19) fun v20 W=>
oK (pickP v15 (.bool true) v20) fun v21=>
gX W v21 false v8 fun v23 W=>
gP W v21 false (bldP (fun i => ([(0, 1), (1, 1), (2, 1), (3, 1)] : List (Nat × Nat))[i]?) [.int .i64 0, .int .i64 0, .int .i64 0, .int .i64 0] [(1, (nI 1)), (3, (nI 2))]) fun v24 W=>
gC W v21 false F_pax_Group_Do [v23, v24] fun v25 W=>
gP W v21 false (unP .not v25) fun v26 W=>
oK (pickP v21 (.bool true) v26) fun v27=>
ifK v27 (
R (.pointer none) W) (
cL W F_pax_Group_Calm [v8, (nI 3)] fun v29 W=>
R v8 W)
theorem S.rostrumlaw22_calmed.call {R : VK} {v0 : Value} {W : World} (h : S.rostrumlaw22_calmed.body R v0 W) : callK PR F_rostrumlaw22_calmed [v0] R W :=
callS (fn := Tryz.f16) (h := (.t (.t (.two (.t (.two (.t .n) .n)) (.t (.t .n)))))) h
end Go.Proofs.YtfhacbhgmnhmlaaGreat
namespace Go.Proofs.YtfhacbhgmnhmlaaGreat
set_option linter.unusedVariables false
set_option linter.unusedSimpArgs false
open Go Go.Eng
section
variable {W0 W : World} {L : List Asn}
def gA1 : Grp := ((gNew 3).act (pA 0 1)).1
def gA2 : Grp := (gA1.act (pA 1 2)).1
set_option maxRecDepth 100000 in
set_option maxHeartbeats 1000000 in
theorem lawCalmed {k : Value → World → Prop} (h : St W0 L W) (hk : ∀ g sk W', gAw.Ok 200000 → St W0 (grp g sk gAw :: L) W' → k (.pointer (some ⟨g, 0, none⟩)) W') : callK PR F_rostrumlaw22_calmed [.int .i64 3] k W := by
 apply S.rostrumlaw22_calmed.call
 delta S.rostrumlaw22_calmed.body oK oA rD lD eF eU sT cL vC gD gX gP gA gR gL gE gU gC gV hL sB nI
 refine paxNew h (fun e => absurd e (by omega)) fun m hm h3 h7 g sk W1 h => ?_
 obtain rfl : m = 3 := by omega
 have hO := gNew_ok h3 h7
 have e1 : ((gNew 3).act (pA 0 1)).2 = true := by kernel_rfl
 have e2 : (gA1.act (pA 1 2)).2 = true := by kernel_rfl
 (repeat (first | (refine okF_i (bldP_eq rfl) ?_; try simp only [BLS, SB, Nat.reduceAdd]) | simp -implicitDefEqProofs only [SE, SU, SV]))
 refine paxDo (g := g) (a := pA 0 1) hO (by omega) h fun W2 h => ?_
 have hO1 : gA1.Ok 1 := act_ok hO _
 rw [e1]
 (repeat (first | (refine okF_i (bldP_eq rfl) ?_; try simp only [BLS, SB, Nat.reduceAdd]) | simp -implicitDefEqProofs only [SE, SU, SV]))
 refine paxDo (g := g) (G := gA1) (a := pA 1 2) hO1 (by omega) h fun W3 h => ?_
 have hO2 : gA2.Ok 2 := act_ok hO1 _
 rw [e2]
 (repeat simp -implicitDefEqProofs only [SE, SU, SV])
 refine paxCalm (g := g) (G := gA2) (r := 3) (by omega) hO2 (by omega) h fun W4 hO3 h => ?_
 skip
 exact hk g sk _ (hO3.mono (by omega)) h
def awC (G : Grp) (i : Nat) : Prop := G.committed i = [⟨0, 1⟩, ⟨1, 1⟩] ∧ (G.line i).length = 2
theorem aw_coms : ∀ i : Nat, i < 3 → awC gAw i := fun i hi => by
 have h := congrArg (fun l => l[i]?) aw_com
 simp only [List.getElem?_map, List.getElem?_range hi, List.getElem?_replicate, if_pos hi, Option.map_some] at h
 have h := Option.some.inj h
 exact ⟨congrArg Prod.fst h, congrArg Prod.snd h⟩
set_option maxRecDepth 100000 in
set_option maxHeartbeats 2000000 in
theorem lawAwake22 (h00 : W0.drawn = 0) {k : Value → World → Prop} (h : St W0 L W) (hk : ∀ W', St W0 L W' → k (.bool true) W') : callK PR F_rostrumlaw22_awake [] k W := by
 apply S.rostrumlaw22_awake.call
 delta S.rostrumlaw22_awake.body oK oA rD lD eF eU sT cL vC gD gX gP gA gR gL gE gU gC gV hL sB nI
 refine lawCalmed h fun g sk W1 hO h => ?_
 have hC := aw_coms
 have hR := aw_rec
 generalize gAw = G at *
 (repeat (first | ((with_reducible refine w11 ?_); intros) | ((with_reducible refine v12 ?_ ?_); exact rfl; intros) | ((with_reducible refine w12 ?_ ?_ ?_ ?_); simp; simp; simp [oneC]; intros) | (refine okF_i (bldP_eq rfl) ?_; try simp only [BLS, SB, Nat.reduceAdd]) | simp -implicitDefEqProofs only [SE, SU, SV]))
 rename_i p _ _ q _ _ _ _ W3 h
 (try simp only [BLS, SB, stL_a, stL_b, stL_c, lsub_a, lsub_b, lsub_c, List.append_nil, List.take_nil, List.drop_nil, Nat.reduceAdd] at h)
 refine joinK_i ?_
 refine loop_c (σ := Unit) 3 (fun i _ => [.pointer (some ⟨g, 0, none⟩), .pointer (some ⟨p, 0, none⟩), .pointer (some ⟨q, 0, none⟩), .int .i64 i])
  (fun i _ W1 => St W0 (grp g sk G :: cells p [.int .i64 (⟨0, 1⟩ : Dot).rep, .int .i64 (⟨0, 1⟩ : Dot).n] T_api_Dot :: cells q [.int .i64 (⟨1, 1⟩ : Dot).rep, .int .i64 (⟨1, 1⟩ : Dot).n] T_api_Dot :: L) W1) () rfl (St.wk h) ?_
 clear h
 rintro K i _ W4 hi h hK
 simp -implicitDefEqProofs only [SE, SU, SV]
 delta S.rostrumlaw22_awake.l1 oK oA rD lD eF eU sT cL vC gD gX gP gA gR gL gE gU gC gV hL sB nI
 by_cases hlt : i < 3
 ·obtain ⟨hc, hl⟩ := hC i hlt
  have f1 : decide ((i : Int) < 3) = true := decide_eq_true (by omega)
  have ew : IntKind.i64.wrap ((i : Int) + 1) = ((i + 1 : Nat) : Int) := by rw [i64w]; omega
  (repeat simp -implicitDefEqProofs only [SE, SU, SV, f1])
  have d1 : decide ((⟨0, 1⟩ :: [⟨1, 1⟩] : List Dot) = [⟨0, 1⟩, ⟨1, 1⟩]) = true := by decide
  have hfin : ∀ {W' : World}, St W0 (grp g sk G :: cells p [.int .i64 (⟨0, 1⟩ : Dot).rep, .int .i64 (⟨0, 1⟩ : Dot).n] T_api_Dot :: cells q [.int .i64 (⟨1, 1⟩ : Dot).rep, .int .i64 (⟨1, 1⟩ : Dot).n] T_api_Dot :: L) W' → S.rostrumlaw22_awake.j3 k K (.pointer (some ⟨g, 0, none⟩)) (.pointer (some ⟨p, 0, none⟩)) (.pointer (some ⟨q, 0, none⟩)) (.int .i64 i) (.bool false) W' := fun {W'} h => by
   delta S.rostrumlaw22_awake.j3 oK oA rD lD eF eU sT cL vC gD gX gP gA gR gL gE gU gC gV hL sB nI
   (repeat simp -implicitDefEqProofs only [SE, SU, SV, ew])
   exact hK () _ hlt (by assumption)
  refine joinK_i ?_
  (repeat (first | ((with_reducible refine v5 ?_); refine ⟨_, rfl, ?_⟩) | simp -implicitDefEqProofs only [SE, SU, SV]))
  refine ⟨?_, ?_⟩
  ·refine paxCommitted (g := g) (by exact St.tick (by assumption)) hO.nd fun a1 c1 W5 h => ?_
   rw [hc] at h ⊢
   (repeat (first | ((with_reducible refine stb_n ?_); intros) | ((with_reducible refine v8 ?_ ?_); exact rfl; intros)))
   refine bsA DOT [(⟨0, 1⟩ : Dot), ⟨1, 1⟩] (n := 2) (by assumption) rfl rfl (by decide) (by decide) rfl fun a2 c2 W6 h => ?_
   refine refSameDots (a := a1) (b := a2) (l := [(⟨0, 1⟩ : Dot), ⟨1, 1⟩]) (m := [(⟨0, 1⟩ : Dot), ⟨1, 1⟩]) h (by decide) fun W7 h => ?_
   (repeat simp -implicitDefEqProofs only [SE, SU, SV, d1])
   refine paxLine (g := g) h00 (by assumption) hO.nd fun a3 c3 W8 h => ?_
   rw [hl]
   (repeat simp -implicitDefEqProofs only [SE, SU, SV])
   exact hfin (St.wk (by assumption))
  ·refine bsA DOT [(⟨0, 1⟩ : Dot), ⟨1, 1⟩] (n := 2) (by exact St.tick (by assumption)) rfl rfl (by decide) (by decide) rfl fun a2 c2 W6 h => ?_
   refine paxCommitted (g := g) h hO.nd fun a1 c1 W5 h => ?_
   rw [hc] at h ⊢
   refine refSameDots (a := a1) (b := a2) (l := [(⟨0, 1⟩ : Dot), ⟨1, 1⟩]) (m := [(⟨0, 1⟩ : Dot), ⟨1, 1⟩]) h (by decide) fun W7 h => ?_
   (repeat simp -implicitDefEqProofs only [SE, SU, SV, d1])
   refine paxLine (g := g) h00 (by assumption) hO.nd fun a3 c3 W8 h => ?_
   rw [hl]
   (repeat simp -implicitDefEqProofs only [SE, SU, SV])
   exact hfin (St.wk (by assumption))
 ·have f1 : decide ((i : Int) < 3) = false := decide_eq_false (by omega)
  have hfin : ∀ (v5 v6 : Nat) (ya yb : Rec BSl) {W' : World}, ya.map BSl.bs = G.recd 2 ⟨0, 1⟩ → yb.map BSl.bs = G.recd 2 ⟨1, 1⟩ →
    St W0 (cells v5 [.int .i64 ya.st, ya.cmd.v, .int .i64 ya.seq, .int .i64 ya.deps.x0, .int .i64 ya.deps.x1, .int .i64 ya.deps.x2, .int .i64 ya.deps.x3, .int .i64 ya.deps.x4, .int .i64 ya.deps.x5, .int .i64 ya.deps.x6, .int .i64 ya.bal.1, .int .i64 ya.bal.2, .int .i64 ya.ab.1, .int .i64 ya.ab.2] T_inst_Rec :: cells v6 [.int .i64 yb.st, yb.cmd.v, .int .i64 yb.seq, .int .i64 yb.deps.x0, .int .i64 yb.deps.x1, .int .i64 yb.deps.x2, .int .i64 yb.deps.x3, .int .i64 yb.deps.x4, .int .i64 yb.deps.x5, .int .i64 yb.deps.x6, .int .i64 yb.bal.1, .int .i64 yb.bal.2, .int .i64 yb.ab.1, .int .i64 yb.ab.2] T_inst_Rec :: fch ya.cmd :: fch yb.cmd :: L) W' → S.rostrumlaw22_awake.j2 k (.pointer (some ⟨v5, 0, none⟩)) (.pointer (some ⟨v6, 0, none⟩)) W' := fun v5 v6 ya yb {W'} ha hb h => by
   have e1 : ya.cmd.bs = [1] := (congrArg Rec.cmd ha).trans (congrArg Prod.fst hR)
   have e2 : yb.cmd.bs = [2] := (congrArg Rec.cmd hb).trans (congrArg (fun x => x.2.1) hR)
   have e3 : ya.deps.x1 = 1 := (congrArg (fun x : Rec Bs => x.deps.x1) ha).trans (congrArg (fun x => x.2.2.1) hR)
   delta S.rostrumlaw22_awake.j2 oK oA rD lD eF eU sT cL vC gD gX gP gA gR gL gE gU gC gV hL sB nI
   (repeat (first | ((with_reducible refine w5 ?_ ?_); simp; refine ⟨_, rfl, ?_⟩) | simp -implicitDefEqProofs only [SE, SU, SV]))
   refine b2s (a := ya.cmd.a) (l := ya.cmd.bs) (by assumption) ?_
   rw [e1]
   (repeat (first | ((with_reducible refine w5 ?_ ?_); simp; refine ⟨_, rfl, ?_⟩) | simp -implicitDefEqProofs only [SE, SU, SV, eq_self]))
   refine b2s (a := yb.cmd.a) (l := yb.cmd.bs) (by assumption) ?_
   rw [e2]
   have ix : idxA 7 1 (.pointer (some ⟨v5, 3, none⟩)) (.int .i64 1) = some (.pointer (some ⟨v5, 4, none⟩)) := rfl
   (repeat (first | ((with_reducible refine w5 ?_ ?_); simp; refine ⟨_, rfl, ?_⟩) | simp -implicitDefEqProofs only [SE, SU, SV, eq_self, e3, ix]))
   exact hk _ (St.wk (by assumption))
  (repeat simp -implicitDefEqProofs only [SE, SU, SV, f1])
  delta S.rostrumlaw22_awake.j1 oK oA rD lD eF eU sT cL vC gD gX gP gA gR gL gE gU gC gV hL sB nI
  refine joinK_i ?_
  (repeat (first | ((with_reducible refine v5 ?_); refine ⟨_, rfl, ?_⟩) | simp -implicitDefEqProofs only [SE, SU, SV]))
  refine ⟨?_, ?_, ?_⟩
  ·refine paxRec (g := g) (i := 2) (d := ⟨0, 1⟩) (by exact St.tick (by assumption)) fun ya _ hya h => ?_
   (repeat (first | ((with_reducible refine stb_n ?_); intros) | ((with_reducible refine v8 ?_ ?_); exact rfl; intros)))
   refine ⟨?_, ?_, ?_⟩
   ·refine paxRec (g := g) (i := 2) (d := ⟨1, 1⟩) (by assumption) fun yb _ hyb h => ?_
    skip
    refine ⟨?_, ?_⟩
    ·skip
     (repeat (first | ((with_reducible refine w11 ?_); intros) | ((with_reducible refine v12 ?_ ?_); exact rfl; intros) | ((with_reducible refine w12 ?_ ?_ ?_ ?_); simp; simp; simp [oneC]; intros)))
     rename_i h
     (try simp only [BLS, SB, stL_a, stL_b, stL_c, lsub_a, lsub_b, lsub_c, List.append_nil, List.take_nil, List.drop_nil, Nat.reduceAdd] at h)
     exact hfin _ _ ya yb hya hyb (St.wk h)
    ·skip
     (repeat (first | ((with_reducible refine w11 ?_); intros) | ((with_reducible refine v12 ?_ ?_); exact rfl; intros) | ((with_reducible refine w12 ?_ ?_ ?_ ?_); simp; simp; simp [oneC]; intros)))
     rename_i h
     (try simp only [BLS, SB, stL_a, stL_b, stL_c, lsub_a, lsub_b, lsub_c, List.append_nil, List.take_nil, List.drop_nil, Nat.reduceAdd] at h)
     exact hfin _ _ ya yb hya hyb (St.wk h)
   ·skip
    (repeat (first | ((with_reducible first | refine w11 ?_ | refine stb_n ?_); intros) | ((with_reducible refine v8 ?_ ?_); exact rfl; intros)))
    refine ⟨?_, ?_⟩
    ·refine paxRec (g := g) (i := 2) (d := ⟨1, 1⟩) (by assumption) fun yb _ hyb h => ?_
     (repeat (first | ((with_reducible refine w11 ?_); intros) | ((with_reducible refine v12 ?_ ?_); exact rfl; intros) | ((with_reducible refine w12 ?_ ?_ ?_ ?_); simp; simp; simp [oneC]; intros)))
     rename_i h
     (try simp only [BLS, SB, stL_a, stL_b, stL_c, lsub_a, lsub_b, lsub_c, List.append_nil, List.take_nil, List.drop_nil, Nat.reduceAdd] at h)
     exact hfin _ _ ya yb hya hyb (St.wk h)
    ·(repeat (first | ((with_reducible first | refine w11 ?_ | refine stb_n ?_); intros) | ((with_reducible refine v8 ?_ ?_); exact rfl; intros)))
     refine paxRec (g := g) (i := 2) (d := ⟨1, 1⟩) (by assumption) fun yb _ hyb h => ?_
     (repeat (first | ((with_reducible refine v12 ?_ ?_); exact rfl; intros) | ((with_reducible refine w12 ?_ ?_ ?_ ?_); simp; simp; simp [oneC]; intros)))
     rename_i h
     (try simp only [BLS, SB, stL_a, stL_b, stL_c, lsub_a, lsub_b, lsub_c, List.append_nil, List.take_nil, List.drop_nil, Nat.reduceAdd] at h)
     exact hfin _ _ ya yb hya hyb (St.wk h)
   ·skip
    (repeat (first | ((with_reducible first | refine w11 ?_ | refine stb_n ?_); intros) | ((with_reducible refine v8 ?_ ?_); exact rfl; intros)))
    refine ⟨?_, ?_⟩
    ·refine paxRec (g := g) (i := 2) (d := ⟨1, 1⟩) (by assumption) fun yb _ hyb h => ?_
     (repeat (first | ((with_reducible refine w11 ?_); intros) | ((with_reducible refine v12 ?_ ?_); exact rfl; intros) | ((with_reducible refine w12 ?_ ?_ ?_ ?_); simp; simp; simp [oneC]; intros)))
     rename_i h
     (try simp only [BLS, SB, stL_a, stL_b, stL_c, lsub_a, lsub_b, lsub_c, List.append_nil, List.take_nil, List.drop_nil, Nat.reduceAdd] at h)
     exact hfin _ _ ya yb hya hyb (St.wk h)
    ·(repeat (first | ((with_reducible first | refine w11 ?_ | refine stb_n ?_); intros) | ((with_reducible refine v8 ?_ ?_); exact rfl; intros)))
     refine paxRec (g := g) (i := 2) (d := ⟨1, 1⟩) (by assumption) fun yb _ hyb h => ?_
     (repeat (first | ((with_reducible refine v12 ?_ ?_); exact rfl; intros) | ((with_reducible refine w12 ?_ ?_ ?_ ?_); simp; simp; simp [oneC]; intros)))
     rename_i h
     (try simp only [BLS, SB, stL_a, stL_b, stL_c, lsub_a, lsub_b, lsub_c, List.append_nil, List.take_nil, List.drop_nil, Nat.reduceAdd] at h)
     exact hfin _ _ ya yb hya hyb (St.wk h)
  ·(repeat (first | ((with_reducible first | refine w11 ?_ | refine stb_n ?_); intros) | ((with_reducible refine v8 ?_ ?_); exact rfl; intros)))
   refine ⟨?_, ?_⟩
   ·refine paxRec (g := g) (i := 2) (d := ⟨0, 1⟩) (by assumption) fun ya _ hya h => ?_
    (repeat (first | ((with_reducible refine stb_n ?_); intros) | ((with_reducible refine v8 ?_ ?_); exact rfl; intros)))
    refine ⟨?_, ?_⟩
    ·refine paxRec (g := g) (i := 2) (d := ⟨1, 1⟩) (by assumption) fun yb _ hyb h => ?_
     (repeat (first | ((with_reducible refine w11 ?_); intros) | ((with_reducible refine v12 ?_ ?_); exact rfl; intros) | ((with_reducible refine w12 ?_ ?_ ?_ ?_); simp; simp; simp [oneC]; intros)))
     rename_i h
     (try simp only [BLS, SB, stL_a, stL_b, stL_c, lsub_a, lsub_b, lsub_c, List.append_nil, List.take_nil, List.drop_nil, Nat.reduceAdd] at h)
     exact hfin _ _ ya yb hya hyb (St.wk h)
    ·(repeat (first | ((with_reducible first | refine w11 ?_ | refine stb_n ?_); intros) | ((with_reducible refine v8 ?_ ?_); exact rfl; intros)))
     refine paxRec (g := g) (i := 2) (d := ⟨1, 1⟩) (by assumption) fun yb _ hyb h => ?_
     (repeat (first | ((with_reducible refine v12 ?_ ?_); exact rfl; intros) | ((with_reducible refine w12 ?_ ?_ ?_ ?_); simp; simp; simp [oneC]; intros)))
     rename_i h
     (try simp only [BLS, SB, stL_a, stL_b, stL_c, lsub_a, lsub_b, lsub_c, List.append_nil, List.take_nil, List.drop_nil, Nat.reduceAdd] at h)
     exact hfin _ _ ya yb hya hyb (St.wk h)
   ·(repeat (first | ((with_reducible first | refine w11 ?_ | refine stb_n ?_); intros) | ((with_reducible refine v8 ?_ ?_); exact rfl; intros)))
    refine paxRec (g := g) (i := 2) (d := ⟨0, 1⟩) (by assumption) fun ya _ hya h => ?_
    (repeat (first | ((with_reducible refine stb_n ?_); intros) | ((with_reducible refine v8 ?_ ?_); exact rfl; intros)))
    refine paxRec (g := g) (i := 2) (d := ⟨1, 1⟩) (by assumption) fun yb _ hyb h => ?_
    (repeat (first | ((with_reducible refine v12 ?_ ?_); exact rfl; intros) | ((with_reducible refine w12 ?_ ?_ ?_ ?_); simp; simp; simp [oneC]; intros)))
    rename_i h
    (try simp only [BLS, SB, stL_a, stL_b, stL_c, lsub_a, lsub_b, lsub_c, List.append_nil, List.take_nil, List.drop_nil, Nat.reduceAdd] at h)
    exact hfin _ _ ya yb hya hyb (St.wk h)
  ·(repeat (first | ((with_reducible first | refine w11 ?_ | refine stb_n ?_); intros) | ((with_reducible refine v8 ?_ ?_); exact rfl; intros)))
   refine ⟨?_, ?_⟩
   ·refine paxRec (g := g) (i := 2) (d := ⟨0, 1⟩) (by assumption) fun ya _ hya h => ?_
    (repeat (first | ((with_reducible refine stb_n ?_); intros) | ((with_reducible refine v8 ?_ ?_); exact rfl; intros)))
    refine ⟨?_, ?_⟩
    ·refine paxRec (g := g) (i := 2) (d := ⟨1, 1⟩) (by assumption) fun yb _ hyb h => ?_
     (repeat (first | ((with_reducible refine w11 ?_); intros) | ((with_reducible refine v12 ?_ ?_); exact rfl; intros) | ((with_reducible refine w12 ?_ ?_ ?_ ?_); simp; simp; simp [oneC]; intros)))
     rename_i h
     (try simp only [BLS, SB, stL_a, stL_b, stL_c, lsub_a, lsub_b, lsub_c, List.append_nil, List.take_nil, List.drop_nil, Nat.reduceAdd] at h)
     exact hfin _ _ ya yb hya hyb (St.wk h)
    ·(repeat (first | ((with_reducible first | refine w11 ?_ | refine stb_n ?_); intros) | ((with_reducible refine v8 ?_ ?_); exact rfl; intros)))
     refine paxRec (g := g) (i := 2) (d := ⟨1, 1⟩) (by assumption) fun yb _ hyb h => ?_
     (repeat (first | ((with_reducible refine v12 ?_ ?_); exact rfl; intros) | ((with_reducible refine w12 ?_ ?_ ?_ ?_); simp; simp; simp [oneC]; intros)))
     rename_i h
     (try simp only [BLS, SB, stL_a, stL_b, stL_c, lsub_a, lsub_b, lsub_c, List.append_nil, List.take_nil, List.drop_nil, Nat.reduceAdd] at h)
     exact hfin _ _ ya yb hya hyb (St.wk h)
   ·(repeat (first | ((with_reducible first | refine w11 ?_ | refine stb_n ?_); intros) | ((with_reducible refine v8 ?_ ?_); exact rfl; intros)))
    refine paxRec (g := g) (i := 2) (d := ⟨0, 1⟩) (by assumption) fun ya _ hya h => ?_
    (repeat (first | ((with_reducible refine stb_n ?_); intros) | ((with_reducible refine v8 ?_ ?_); exact rfl; intros)))
    refine paxRec (g := g) (i := 2) (d := ⟨1, 1⟩) (by assumption) fun yb _ hyb h => ?_
    (repeat (first | ((with_reducible refine v12 ?_ ?_); exact rfl; intros) | ((with_reducible refine w12 ?_ ?_ ?_ ?_); simp; simp; simp [oneC]; intros)))
    rename_i h
    (try simp only [BLS, SB, stL_a, stL_b, stL_c, lsub_a, lsub_b, lsub_c, List.append_nil, List.take_nil, List.drop_nil, Nat.reduceAdd] at h)
    exact hfin _ _ ya yb hya hyb (St.wk h)
end
end Go.Proofs.YtfhacbhgmnhmlaaGreat
namespace Go.Proofs.YtfhacbhgmnhmlaaGreat
set_option linter.unusedVariables false
set_option linter.unusedSimpArgs false
open Go.Eng
def S.rostrumlaw22_PaxStays.j1 (K1 : LK) (x0 x1 x5 x7 : Value) (W : World) : Prop :=
oK (binP .add x7 (nI 1)) fun v43=>
K1 [x0, x1, x5, v43] W
def S.rostrumlaw22_PaxStays.j3 (K2 : LK) (x0 x1 x5 x7 x8 x10 : Value) (W : World) : Prop :=
oK (binP .add x10 (nI 1)) fun v64=>
K2 [x0, x1, x5, x7, x8, v64] W
def S.rostrumlaw22_PaxStays.j4 (R : VK) (J3 : LK) (x0 x1 x5 x7 x8 x10 x12 : Value) (W : World) : Prop :=
oK (idxA 5 1 x8 x10) fun v97=>
lD W T_s_api_Dot v97 fun v98 W=>
oK (lenP (.slice T_api_Dot) v98) fun v99=>
oK (binP .neq x12 v99) fun v100=>
ifK v100 (
R (.bool false) W) (
J3 [x0, x1, x5, x7, x8, x10] W)
def S.rostrumlaw22_PaxStays.j5 (K3 : LK) (x0 x1 x5 x7 x8 x10 x11 x12 x13 : Value) (W : World) : Prop :=
oK (binP .add x13 (nI 1)) fun v81=>
K3 [x0, x1, x5, x7, x8, x10, x11, x12, v81] W
def S.rostrumlaw22_PaxStays.l3 (J4 : LK) (K3 : LK) (x0 x1 x5 x7 x8 x10 x11 x12 x13 : Value) (W : World) : Prop :=
oK (lenP (.slice T_api_Dot) x11) fun v70=>
oK (binP .lss x13 v70) fun v71=>
gX W v71 true x12 fun v73 W=>
gX W v71 true x10 fun v74 W=>
gP W v71 true (idxA 5 1 x8 v74) fun v75 W=>
gL W v71 true T_s_api_Dot v75 fun v76 W=>
gP W v71 true (lenP (.slice T_api_Dot) v76) fun v77 W=>
gP W v71 true (binP .lss v73 v77) fun v78 W=>
oK (pickP v71 v78 (.bool false)) fun v79=>
ifK v79 (
joinK (fun s W => S.rostrumlaw22_PaxStays.j5 K3 (nthv s 0) (nthv s 1) (nthv s 2) (nthv s 3) (nthv s 4) (nthv s 5) (nthv s 6) (nthv s 7) (nthv s 8) W) (fun J5 =>
oK (idxS 2 x11 x13) fun v84=>
lD (tick W) T_api_Dot v84 fun v85 W=>
oK (idxA 5 1 x8 x10) fun v87=>
lD W T_s_api_Dot v87 fun v88 W=>
oK (idxS 2 v88 x12) fun v90=>
lD W T_api_Dot v90 fun v91 W=>
rD W (aggEq .eql T_api_Dot v85 v91) fun v92 W=>
ifK v92 (
oK (binP .add x12 (nI 1)) fun v94=>
J5 [x0, x1, x5, x7, x8, x10, x11, v94, x13] W) (
J5 [x0, x1, x5, x7, x8, x10, x11, x12, x13] W))) (
J4 [x0, x1, x5, x7, x8, x10, x12] W)
def S.rostrumlaw22_PaxStays.l2 (R : VK) (J1 : LK) (K2 : LK) (x0 x1 x5 x7 x8 x10 : Value) (W : World) : Prop :=
oK (binP .lss x10 x0) fun v62=>
ifK v62 (
joinK (fun s W => S.rostrumlaw22_PaxStays.j3 K2 (nthv s 0) (nthv s 1) (nthv s 2) (nthv s 3) (nthv s 4) (nthv s 5) W) (fun J3 =>
cL W F_pax_Group_Committed [x5, x10] fun v67 W=>
joinK (fun s W => S.rostrumlaw22_PaxStays.j4 R J3 (nthv s 0) (nthv s 1) (nthv s 2) (nthv s 3) (nthv s 4) (nthv s 5) (nthv s 6) W) (fun J4 =>
loopK (fun K3 s W => S.rostrumlaw22_PaxStays.l3 J4 K3 (nthv s 0) (nthv s 1) (nthv s 2) (nthv s 3) (nthv s 4) (nthv s 5) (nthv s 6) (nthv s 7) (nthv s 8) W) [x0, x1, x5, x7, x8, x10, v67, (nI 0), (nI 0)] W))) (
J1 [x0, x1, x5, x7] W)
def S.rostrumlaw22_PaxStays.j2 (R : VK) (J1 : LK) (x0 x1 x5 x7 x8 : Value) (W : World) : Prop :=
oK (idxS 4 x1 x7) fun v57=>
lD W T_pax_Act v57 fun v58 W=>
cL W F_pax_Group_Do [x5, v58] fun v59 W=>
loopK (fun K2 s W => S.rostrumlaw22_PaxStays.l2 R J1 K2 (nthv s 0) (nthv s 1) (nthv s 2) (nthv s 3) (nthv s 4) (nthv s 5) W) [x0, x1, x5, x7, x8, (nI 0)] W
def S.rostrumlaw22_PaxStays.l4 (J2 : LK) (K4 : LK) (x0 x1 x5 x7 x8 x9 : Value) (W : World) : Prop :=
oK (binP .lss x9 x0) fun v46=>
ifK v46 (
cL W F_pax_Group_Committed [x5, x9] fun v52 W=>
oK (idxA 5 1 x8 x9) fun v53=>
sT W T_s_api_Dot v53 v52 fun _ W=>
oK (binP .add x9 (nI 1)) fun v48=>
K4 [x0, x1, x5, x7, x8, v48] W) (
J2 [x0, x1, x5, x7, x8] W)
def S.rostrumlaw22_PaxStays.l1 (R : VK) (K1 : LK) (x0 x1 x5 x7 : Value) (W : World) : Prop :=
oK (lenP (.slice T_pax_Act) x1) fun v40=>
oK (binP .lss x7 v40) fun v41=>
ifK v41 (
joinK (fun s W => S.rostrumlaw22_PaxStays.j1 K1 (nthv s 0) (nthv s 1) (nthv s 2) (nthv s 3) W) (fun J1 =>
eF W (Instr.alloc T_a5_s_api_Dot true (.tuple #[])) fun v8 W=>
joinK (fun s W => S.rostrumlaw22_PaxStays.j2 R J1 (nthv s 0) (nthv s 1) (nthv s 2) (nthv s 3) (nthv s 4) W) (fun J2 =>
loopK (fun K4 s W => S.rostrumlaw22_PaxStays.l4 J2 K4 (nthv s 0) (nthv s 1) (nthv s 2) (nthv s 3) (nthv s 4) (nthv s 5) W) [x0, x1, x5, x7, v8, (nI 0)] W))) (
R (.bool true) W)
def S.rostrumlaw22_PaxStays.body (R : VK) (v0 v1 : Value) (W : World) : Prop :=
cL W F_rostrumlaw22_awake [] fun v14 W=>
oK (unP .not v14) fun v15=>
ifK v15 (
R (.bool false) W) (
oK (binP .lss v0 (nI 3)) fun v17=>
gX W v17 false v0 fun v19 W=>
gP W v17 false (binP .gtr v19 (nI 5)) fun v20 W=>
oK (pickP v17 (.bool true) v20) fun v21=>
gX W v21 false v1 fun v23 W=>
gP W v21 false (lenP (.slice T_pax_Act) v23) fun v24 W=>
gP W v21 false (binP .gtr v24 (nI 25)) fun v25 W=>
oK (pickP v21 (.bool true) v25) fun v26=>
ifK v26 (
R (.bool true) W) (
cL W F_pax_New [v0] fun v29 W=>
oK (extP 0 v29) fun v30=>
oK (extP 1 v29) fun v31=>
oK (binP .neq v31 (nI 0)) fun v33=>
gX W v33 false v30 fun v35 W=>
gP W v33 false (eqP (.pointer T_pax_Group) .eql v35 (.pointer none)) fun v36 W=>
oK (pickP v33 (.bool true) v36) fun v37=>
ifK v37 (
R (.bool false) W) (
loopK (fun K1 s W => S.rostrumlaw22_PaxStays.l1 R K1 (nthv s 0) (nthv s 1) (nthv s 2) (nthv s 3) W) [v0, v1, v30, (nI 0)] W)))
theorem S.rostrumlaw22_PaxStays.call {R : VK} {v0 v1 : Value} {W : World} (h : S.rostrumlaw22_PaxStays.body R v0 v1 W) : callK PR F_rostrumlaw22_PaxStays [v0, v1] R W :=
callS (fn := Tryz.f4) (h := (.t (.two (.t (.two (.t .n) .n)) (.two (.t (.two (.t .n) .n)) (.t (.two (.t (.two (.t .n) .n)) (.two (.t (.at [0, 1, 5, 7] (.two (.t (.t .n)) (.at [0, 1, 5, 7] (.t (.at [0, 1, 5, 7, 8] (.t (.at [0, 1, 5, 7, 8, 9] (.two (.t (.t .n)) (.t .n)) .n)) (.t (.t (.at [0, 1, 5, 7, 8, 10] (.two (.t (.t .n)) (.at [0, 1, 5, 7, 8, 10] (.t (.t (.at [0, 1, 5, 7, 8, 10, 12] (.t (.at [0, 1, 5, 7, 8, 10, 11, 12, 13] (.two (.t (.t .n)) (.at [0, 1, 5, 7, 8, 10, 11, 12, 13] (.t (.t .n)) .n)) .n)) (.t (.two (.t .n) .n))))) .n)) .n))))) .n)) .n)) (.t .n)))))))) h
end Go.Proofs.YtfhacbhgmnhmlaaGreat
namespace Go.Proofs.YtfhacbhgmnhmlaaGreat
set_option linter.unusedVariables false
set_option linter.unusedSimpArgs false
open Go Go.Eng Go.RowKit
def gre (w : List Dot) : List Dot → Nat → Nat
 | [], at' => at'
 | x :: c, at' => if at' < w.length then (if w[at']? = some x then gre w c (at' + 1) else gre w c at') else at'
theorem gre_all (w : List Dot) : ∀ (c : List Dot) (j : Nat), (w.drop j).Sublist c → j ≤ w.length → gre w c j = w.length
 | [], j, h, hj => by
  have := List.eq_nil_of_sublist_nil h
  have := List.drop_eq_nil_iff.1 this
  simp only [gre]; omega
 | x :: c, j, h, hj => by
  unfold gre
  by_cases hlt : j < w.length
  ·rw [if_pos hlt]
   rw [List.drop_eq_getElem_cons hlt] at h
   split
   ·rename_i e
    rw [List.getElem?_eq_getElem hlt] at e
    cases Option.some.inj e
    exact gre_all w c _ (by cases h with | cons _ h => exact (List.sublist_cons_self _ _).trans h | cons_cons _ h => exact h) hlt
   ·rename_i e
    rw [List.getElem?_eq_getElem hlt] at e
    refine gre_all w c _ ?_ hj
    rw [List.drop_eq_getElem_cons hlt]
    cases h with
    | cons _ h => exact h
    | cons_cons _ h => exact absurd rfl e
  ·rw [if_neg hlt]; omega
theorem com_sub {G : Grp} {a : Act} (hN : G.Nd) (i : Int) : (G.committed i).Sublist ((G.act a).1.committed i) := by
 have he := act_ev G a
 have hh : (G.act a).1.has i = G.has i := by unfold Grp.has Grp.n; rw [he.len]
 unfold Grp.committed
 rw [hh]
 split
 ·exact comT_sub (nd_at hN _) (he.ev _)
 ·exact List.Sublist.refl _
structure WS where
 a : Option Addr
 c : Nat
 l : List Dot
abbrev WS.v (x : WS) : Value := .slice x.a x.l.length x.c
@[reducible] def wch (x : WS) : Asn := arr DOT T_api_Dot x.a x.c x.l
theorem ws_st (xs : List WS) {i : Nat} (hi : i < xs.length) (y : WS) : stL (xs.map WS.v) i [y.v] = (xs.set i y).map WS.v := by
 rw [stL_eq _ _ _ (by simp; omega), List.set_eq_take_append_cons_drop, if_pos hi]
 simp [List.map_take, List.map_drop]
theorem ws_zero {L : List Asn} : ∀ k : Nat, ent L (many wch (List.replicate k ⟨none, 0, []⟩) :: L)
 | 0 => many_nil
 | k + 1 => ((ws_zero k).trans (arr_nil DOT T_api_Dot)).trans (many_uncons (F := wch) ⟨none, 0, []⟩ _)
theorem ws_ld (xs : List WS) {i : Nat} (hi : i < xs.length) : getL false (xs.map WS.v) i 1 = some xs[i].v := by
 show lget _ i = _
 rw [lget_eq, List.getElem?_map, List.getElem?_eq_getElem hi]; rfl
def ACT : Ly Act := ⟨4, by omega, fun x => [.int .i64 x.op, .int .i64 x.n, .int .i64 x.a, .int .i64 x.b], fun _ => rfl, fun _ => rfl⟩
instance : Inhabited Act := ⟨⟨0, 0, 0, 0⟩⟩
theorem openActs {W : World} {v : Value} (h : GoodA W [.sl [.int .i64, .int .i64, .int .i64, .int .i64]] false v) : ∃ (a : Option Addr) (c : Nat) (l : List Act), v = .slice a l.length c ∧ l.length ≤ c ∧ c ≤ maxLen ∧ Rd W [] a ACT l := by
 obtain ⟨a, c, l, h1, h2, h3, h4, _⟩ := openArr ACT (fun _ => True) h.one rfl (fun vs h => by
  obtain ⟨_, _, rfl, h1, h⟩ := h.cons'
  obtain ⟨_, _, rfl, h2, h⟩ := h.cons'
  obtain ⟨_, _, rfl, h3, h⟩ := h.cons'
  obtain ⟨_, _, rfl, h4, h⟩ := h.cons'
  obtain rfl := h.nil'
  obtain ⟨a1, rfl, _⟩ := h1.int'
  obtain ⟨a2, rfl, _⟩ := h2.int'
  obtain ⟨a3, rfl, _⟩ := h3.int'
  obtain ⟨a4, rfl, _⟩ := h4.int'
  exact ⟨⟨a1, a2, a3, a4⟩, rfl, trivial⟩)
 exact ⟨a, c, l, h1, h2, h3, h4⟩
set_option maxRecDepth 100000 in
set_option maxHeartbeats 8000000 in
theorem paxStays_walk {W : World} {v0 v1 : Value} (h0 : GoodA W [.int .i64] false v0) (h1 : GoodA W [.sl [.int .i64, .int .i64, .int .i64, .int .i64]] false v1) : callK PR F_rostrumlaw22_PaxStays [v0, v1] (fun v W' => v = .bool true ∧ Lo W W') W := by
 obtain ⟨n, rfl, _⟩ := h0.one.int'
 obtain ⟨la, lc, l, rfl, hlc, hlm, hrd⟩ := openActs (goodAz h1)
 apply S.rostrumlaw22_PaxStays.call
 delta S.rostrumlaw22_PaxStays.body oK oA rD lD eF eU sT cL vC gD gX gP gA gR gL gE gU gC gV hL sB nI
 have h00 : ({ W with drawn := 0 } : World).drawn = 0 := rfl
 refine lawAwake22 h00 (St.startz W) fun W1 h => ?_
 have fin : ∀ (W' : World) (L : List Asn), St { W with drawn := 0 } L W' → Lo W W' := fun W' L h => St.lo h
 generalize ({ W with drawn := 0 } : World) = W0 at *
 by_cases c1 : n < 3
 ·(repeat simp -implicitDefEqProofs only [SE, SU, SV, c1])
  exact fin _ _ (by assumption)
 by_cases c2 : 5 < n
 ·(repeat simp -implicitDefEqProofs only [SE, SU, SV, c1, c2])
  exact fin _ _ (by assumption)
 by_cases c3 : (25 : Int) < (l.length : Int)
 ·(repeat simp -implicitDefEqProofs only [SE, SU, SV, c1, c2, c3])
  exact fin _ _ (by assumption)
 (repeat simp -implicitDefEqProofs only [SE, SU, SV, c1, c2, c3])
 refine paxNew (by assumption) (fun e => absurd e (by omega)) fun m hm h3 h7 g sk W2 h => ?_
 subst hm
 have hO := gNew_ok h3 h7
 have hn0 : (gNew m).n = m := List.length_replicate
 generalize gNew m = G0 at *
 (repeat simp -implicitDefEqProofs only [SE, SU, SV])
 refine loop_c (σ := Grp) l.length (fun i _ => [.int .i64 m, .slice la l.length lc, .pointer (some ⟨g, 0, none⟩), .int .i64 i])
  (fun i G W1 => G.Ok i ∧ G.n = m ∧ St W0 (grp g sk G :: []) W1) G0 rfl ⟨hO, hn0, h⟩ ?_
 clear h hO hn0
 rintro K i G W3 hi ⟨hO, hn, h⟩ hK
 simp -implicitDefEqProofs only [SE, SU, SV]
 delta S.rostrumlaw22_PaxStays.l1 oK oA rD lD eF eU sT cL vC gD gX gP gA gR gL gE gU gC gV hL sB nI
 by_cases hlt : (i : Int) < (l.length : Int)
 ·have hib : i < l.length := by omega
  have ew : IntKind.i64.wrap ((i : Int) + 1) = ((i + 1 : Nat) : Int) := by rw [i64w]; omega
  (repeat simp -implicitDefEqProofs only [SE, SU, SV, hlt])
  refine joinK_i ?_
  (repeat ((with_reducible refine w11 ?_); intros))
  rename_i p W4 h
  (try simp only [BLS, SB, stL_a, stL_b, stL_c, lsub_a, lsub_b, lsub_c, List.append_nil, List.take_nil, List.drop_nil, Nat.reduceAdd] at h)
  refine joinK_i ?_
  refine loop_c (σ := List WS) m (fun k _ => [.int .i64 m, .slice la l.length lc, .pointer (some ⟨g, 0, none⟩), .int .i64 i, .pointer (some ⟨p, 0, none⟩), .int .i64 k])
   (fun k xs W1 => (xs.length = 5 ∧ ∀ j (hj : j < xs.length), j < k → xs[j].l = G.committed j) ∧ St W0 (cells p (xs.map WS.v) T_a5_s_api_Dot :: many wch xs :: grp g sk G :: []) W1) (List.replicate 5 ⟨none, 0, []⟩) rfl ⟨⟨rfl, fun _ _ h => by omega⟩, ?_⟩ ?_
  ·exact St.wk (show St W0 (many wch (List.replicate 5 ⟨none, 0, []⟩) :: cells p ((List.replicate 5 (⟨none, 0, []⟩ : WS)).map WS.v) T_a5_s_api_Dot :: grp g sk G :: []) W4 from h.ent (ws_zero 5))
  clear h
  rintro K2 k xs W5 hk ⟨⟨hx5, hxs⟩, h⟩ hK2
  simp -implicitDefEqProofs only [SE, SU, SV]
  delta S.rostrumlaw22_PaxStays.l4 oK oA rD lD eF eU sT cL vC gD gX gP gA gR gL gE gU gC gV hL sB nI
  by_cases hlt2 : k < m
  ·have hk5 : k < xs.length := by omega
   have f2 : decide ((k : Int) < (m : Int)) = true := decide_eq_true (by omega)
   have ew2 : IntKind.i64.wrap ((k : Int) + 1) = ((k + 1 : Nat) : Int) := by rw [i64w]; omega
   have ixa : idxA 5 1 (.pointer (some ⟨p, 0, none⟩)) (.int .i64 (k : Int)) = some (.pointer (some ⟨p, k, none⟩)) := by rw [idxA_blk (by omega) (by omega), Int.toNat_natCast, Nat.mul_one, Nat.zero_add]
   (repeat simp -implicitDefEqProofs only [SE, SU, SV, f2])
   refine paxCommitted (g := g) (by assumption) hO.nd fun a1 c1 W6 h => ?_
   (repeat simp -implicitDefEqProofs only [SE, SU, SV, ixa])
   refine w12 rfl (show k + 1 ≤ (xs.map WS.v).length by rw [List.length_map]; exact hk5) rfl fun W7 h => ?_
   rw [show stL (xs.map WS.v) k (vcells (.slice a1 (G.committed k).length c1)) = (xs.set k ⟨a1, c1, G.committed k⟩).map WS.v from ws_st xs hk5 ⟨a1, c1, G.committed k⟩] at h
   have h := (St.wk (L' := many wch xs :: arr DOT T_api_Dot a1 c1 (G.committed k) :: cells p ((xs.set k ⟨a1, c1, G.committed k⟩).map WS.v) T_a5_s_api_Dot :: grp g sk G :: []) h).ent (mtake (F := wch) xs hk5)
   have h : St W0 (wch ⟨a1, c1, G.committed k⟩ :: many wch (xs.eraseIdx k) :: cells p ((xs.set k ⟨a1, c1, G.committed k⟩).map WS.v) T_a5_s_api_Dot :: grp g sk G :: []) W7 := St.wk (L' := arr DOT T_api_Dot a1 c1 (G.committed k) :: many wch (xs.eraseIdx k) :: cells p ((xs.set k ⟨a1, c1, G.committed k⟩).map WS.v) T_a5_s_api_Dot :: grp g sk G :: []) h.drop
   have h := h.ent (mgive (F := wch) xs hk5 _)
   (repeat simp -implicitDefEqProofs only [SE, SU, SV, ew2])
   refine hK2 (xs.set k ⟨a1, c1, G.committed k⟩) _ hlt2 ⟨⟨by rw [List.length_set]; exact hx5, fun j hj hjk => ?_⟩, St.wk h⟩
   by_cases e : j = k
   ·subst e; rw [List.getElem_set_self]
   ·rw [List.getElem_set_ne (by omega)]; exact hxs j (by simpa using hj) (by omega)
  ·have f2 : decide ((k : Int) < (m : Int)) = false := decide_eq_false (by omega)
   have hkm : k = m := by omega
   subst hkm
   clear hK2
   (repeat simp -implicitDefEqProofs only [SE, SU, SV, f2])
   delta S.rostrumlaw22_PaxStays.j2 oK oA rD lD eF eU sT cL vC gD gX gP gA gR gL gE gU gC gV hL sB nI
   refine ixA (i := i) (a := la) (l := l) (A := ACT) (by assumption) rfl rfl hib fun g' o' ha => ?_
   cases ha
   refine ldA0 (i := i) (l := l) (A := ACT) (by assumption) rfl hib (v := .agg #[.int .i64 l[i].op, .int .i64 l[i].n, .int .i64 l[i].a, .int .i64 l[i].b]) rfl (by simp) ?_
   have hsub := fun j : Nat => com_sub (a := l[i]) hO.nd (j : Int)
   have hO2 := act_ok hO l[i]
   have hn2 : (G.act l[i]).1.n = k := (act_ev G l[i]).len.trans hn
   refine paxDo (g := g) (a := l[i]) hO (by omega) (by assumption) fun W6 h => ?_
   generalize (G.act l[i]).1 = G2 at *
   refine loop_c (σ := Unit) k (fun j _ => [.int .i64 k, .slice (some ⟨g', o', none⟩) l.length lc, .pointer (some ⟨g, 0, none⟩), .int .i64 i, .pointer (some ⟨p, 0, none⟩), .int .i64 j])
    (fun j _ W1 => St W0 (cells p (xs.map WS.v) T_a5_s_api_Dot :: many wch xs :: grp g sk G2 :: []) W1) () rfl (St.wk h) ?_
   clear h
   rintro K2 j _ W7 hj h hK2
   simp -implicitDefEqProofs only [SE, SU, SV]
   delta S.rostrumlaw22_PaxStays.l2 oK oA rD lD eF eU sT cL vC gD gX gP gA gR gL gE gU gC gV hL sB nI
   by_cases hlt2 : j < k
   ·have hj5 : j < xs.length := by omega
    have f3 : decide ((j : Int) < (k : Int)) = true := decide_eq_true (by omega)
    have ew2 : IntKind.i64.wrap ((j : Int) + 1) = ((j + 1 : Nat) : Int) := by rw [i64w]; omega
    have ixa : idxA 5 1 (.pointer (some ⟨p, 0, none⟩)) (.int .i64 (j : Int)) = some (.pointer (some ⟨p, j, none⟩)) := by rw [idxA_blk (by omega) (by omega), Int.toNat_natCast, Nat.mul_one, Nat.zero_add]
    have gx := ws_ld xs hj5
    have hz := hxs j hj5 hlt2
    have hs := hsub j
    rw [← hz] at hs
    (repeat simp -implicitDefEqProofs only [SE, SU, SV, f3])
    refine joinK_i ?_
    refine paxCommitted (g := g) (by assumption) hO2.nd fun a1 c1 W8 h => ?_
    refine joinK_i ?_
    generalize G2.committed j = c at *
    generalize G.committed j = w at *
    refine loop_c (σ := Nat) c.length (fun q n => [.int .i64 k, .slice (some ⟨g', o', none⟩) l.length lc, .pointer (some ⟨g, 0, none⟩), .int .i64 i, .pointer (some ⟨p, 0, none⟩), .int .i64 j, .slice a1 c.length c1, .int .i64 n, .int .i64 q])
     (fun q n W1 => (gre xs[j].l (c.drop q) n = xs[j].l.length ∧ n ≤ xs[j].l.length) ∧ St W0 (arr DOT T_api_Dot a1 c1 c :: cells p (xs.map WS.v) T_a5_s_api_Dot :: wch xs[j] :: many wch (xs.eraseIdx j) :: grp g sk G2 :: []) W1) 0 rfl ⟨⟨gre_all _ _ 0 hs (Nat.zero_le _), Nat.zero_le _⟩, St.wk ((St.wk (L' := many wch xs :: arr DOT T_api_Dot a1 c1 c :: cells p (xs.map WS.v) T_a5_s_api_Dot :: grp g sk G2 :: []) h).ent (mtake (F := wch) xs hj5))⟩ ?_
    clear h
    rintro K3 q n W9 hq ⟨⟨hg, hnl⟩, h⟩ hK3
    simp -implicitDefEqProofs only [SE, SU, SV]
    delta S.rostrumlaw22_PaxStays.l3 oK oA rD lD eF eU sT cL vC gD gX gP gA gR gL gE gU gC gV hL sB nI
    have hend : gre xs[j].l (c.drop q) n = n → ∀ W', St W0 (arr DOT T_api_Dot a1 c1 c :: cells p (xs.map WS.v) T_a5_s_api_Dot :: wch xs[j] :: many wch (xs.eraseIdx j) :: grp g sk G2 :: []) W' →
      S.rostrumlaw22_PaxStays.j4 (fun v W' => v = .bool true ∧ Lo W W') (fun s W => S.rostrumlaw22_PaxStays.j3 K2 (nthv s 0) (nthv s 1) (nthv s 2) (nthv s 3) (nthv s 4) (nthv s 5) W) (.int .i64 k) (.slice (some ⟨g', o', none⟩) l.length lc) (.pointer (some ⟨g, 0, none⟩)) (.int .i64 i) (.pointer (some ⟨p, 0, none⟩)) (.int .i64 j) (.int .i64 n) W' := fun e W' h => by
     have en : decide ((n : Int) = (xs[j].l.length : Int)) = true := decide_eq_true (by rw [← hg, e])
     clear hK3
     delta S.rostrumlaw22_PaxStays.j4 oK oA rD lD eF eU sT cL vC gD gX gP gA gR gL gE gU gC gV hL sB nI
     (repeat simp -implicitDefEqProofs only [SE, SU, SV, ixa])
     refine w5 (by simp) ⟨_, gx, ?_⟩
     (repeat simp -implicitDefEqProofs only [SE, SU, SV, en])
     delta S.rostrumlaw22_PaxStays.j3 oK oA rD lD eF eU sT cL vC gD gX gP gA gR gL gE gU gC gV hL sB nI
     (repeat simp -implicitDefEqProofs only [SE, SU, SV, ew2])
     exact hK2 () _ hlt2 (St.wk ((St.wk (L' := wch xs[j] :: many wch (xs.eraseIdx j) :: cells p (xs.map WS.v) T_a5_s_api_Dot :: grp g sk G2 :: []) (by assumption)).ent (mback (F := wch) xs hj5)))
    by_cases hq1 : q < c.length
    ·have f4 : decide ((q : Int) < (c.length : Int)) = true := decide_eq_true (by omega)
     rw [List.drop_eq_getElem_cons hq1] at hg hend
     (repeat simp -implicitDefEqProofs only [SE, SU, SV, f4, ixa])
     refine w5 (by simp) ⟨_, gx, ?_⟩
     by_cases hq2 : n < xs[j].l.length
     ·have f5 : decide ((n : Int) < (xs[j].l.length : Int)) = true := decide_eq_true (by omega)
      clear hend
      (repeat simp -implicitDefEqProofs only [SE, SU, SV, f5])
      refine joinK_i ?_
      obtain ⟨b1, b2, _⟩ := (St.wk (L' := arr DOT T_api_Dot a1 c1 c :: []) (by assumption)).arrFacts
      obtain ⟨b3, b4, _⟩ := (St.wk (L' := arr DOT T_api_Dot xs[j].a xs[j].c xs[j].l :: []) (by assumption)).arrFacts
      unfold maxLen at b2 b4
      have ewn : IntKind.i64.wrap ((n : Int) + 1) = ((n + 1 : Nat) : Int) := by rw [i64w]; omega
      have ewq : IntKind.i64.wrap ((q : Int) + 1) = ((q + 1 : Nat) : Int) := by rw [i64w]; omega
      clear hxs hsub hs hz
      generalize xs[j] = z at *
      obtain ⟨za, zc, zl⟩ := z
      simp only at hg hnl hq2 f5 h hK3
      refine ixA (i := q) (a := a1) (l := c) (A := DOT) (by assumption) rfl rfl hq1 fun g3 o3 ha => ?_
      cases ha
      refine ldA0 (i := q) (l := c) (A := DOT) (by exact St.tick (by assumption)) rfl hq1 (v := .agg #[.int .i64 (c[q]).rep, .int .i64 (c[q]).n]) rfl (by simp) ?_
      refine w5 (by simp) ⟨_, gx, ?_⟩
      refine ixA (i := n) (a := za) (l := zl) (A := DOT) (by assumption) rfl rfl hq2 fun g4 o4 ha => ?_
      cases ha
      refine ldA0 (i := n) (l := zl) (A := DOT) (by exact St.tick (by assumption)) rfl hq2 (v := .agg #[.int .i64 (zl[n]).rep, .int .i64 (zl[n]).n]) rfl (by simp) ?_
      simp only [gre] at hg
      rw [if_pos hq2, List.getElem?_eq_getElem hq2] at hg
      generalize c[q] = x at *
      generalize zl[n] = y at *
      by_cases he : x = y
      ·have f6 : (decide (x.rep = y.rep) && decide (x.n = y.n)) = true := by rw [dot_eq]; exact decide_eq_true he
       rw [if_pos (by rw [he])] at hg
       (repeat (first | ((with_reducible refine ve ?_); refine ⟨_, rfl, ?_⟩) | simp -implicitDefEqProofs only [SE, SU, SV, f6]))
       delta S.rostrumlaw22_PaxStays.j5 oK oA rD lD eF eU sT cL vC gD gX gP gA gR gL gE gU gC gV hL sB nI
       (repeat simp -implicitDefEqProofs only [SE, SU, SV, ewq, ewn])
       exact hK3 (n + 1) _ hq1 ⟨⟨hg, hq2⟩, (by exact St.tick (by assumption))⟩
      ·have f6 : (decide (x.rep = y.rep) && decide (x.n = y.n)) = false := by rw [dot_eq]; exact decide_eq_false he
       rw [if_neg (fun e => he (Option.some.inj e).symm)] at hg
       (repeat (first | ((with_reducible refine ve ?_); refine ⟨_, rfl, ?_⟩) | simp -implicitDefEqProofs only [SE, SU, SV, f6]))
       delta S.rostrumlaw22_PaxStays.j5 oK oA rD lD eF eU sT cL vC gD gX gP gA gR gL gE gU gC gV hL sB nI
       (repeat simp -implicitDefEqProofs only [SE, SU, SV, ewq])
       exact hK3 n _ hq1 ⟨⟨hg, hnl⟩, (by exact St.tick (by assumption))⟩
     ·have f5 : decide ((n : Int) < (xs[j].l.length : Int)) = false := decide_eq_false (by omega)
      (repeat simp -implicitDefEqProofs only [SE, SU, SV, f5])
      exact hend (by simp only [gre, if_neg hq2]) _ (by assumption)
    ·have f4 : decide ((q : Int) < (c.length : Int)) = false := decide_eq_false (by omega)
     (repeat simp -implicitDefEqProofs only [SE, SU, SV, f4])
     exact hend (by rw [List.drop_eq_nil_of_le (by omega)]; rfl) _ (by assumption)
   ·have f3 : decide ((j : Int) < (k : Int)) = false := decide_eq_false (by omega)
    (repeat simp -implicitDefEqProofs only [SE, SU, SV, f3])
    delta S.rostrumlaw22_PaxStays.j1 oK oA rD lD eF eU sT cL vC gD gX gP gA gR gL gE gU gC gV hL sB nI
    (repeat simp -implicitDefEqProofs only [SE, SU, SV, ew])
    exact hK G2 _ hib ⟨hO2, hn2, St.wk (by assumption)⟩
 ·(repeat simp -implicitDefEqProofs only [SE, SU, SV, hlt])
  exact fin _ _ (by assumption)
end Go.Proofs.YtfhacbhgmnhmlaaGreat
namespace Go.Proofs.YtfhacbhgmnhmlaaGreat.paxStaysDone
set_option linter.unusedVariables false
set_option linter.unusedSimpArgs false
open Go Go.Eng Go.ChangeShapes Go.WideShapes Go.ChangeAt Go.RowKit
theorem own : ownKnob Tryz.prog.godebug = none := by kernel_rfl
theorem laidOut : laidOutB Tryz.prog = true := by kernel_rfl
theorem fnIs : PR.funcs[F_rostrumlaw22_PaxStays]? = some Tryz.f4 := by kernel_rfl
set_option maxRecDepth 100000 in
theorem lifted (os : Os) (started : os.Started) (H : Type) (enc : TypeId × Value → H) :
  ReturnsInHanded {} Tryz.checked os F_rostrumlaw22_PaxStays .any (Rows.paxStaysSpec.pre6 enc Tryz.prog Tryz.f4 Rows.paxStaysRow.domain false) (Rows.paxStaysSpec.post enc Tryz.prog Tryz.f4 false true false false) := by
 refine returnsInHanded_of_change (C := Tryz.checked) own started (by kernel_rfl) fnIs
  (ChangeSpec.witness6 (enc := enc) (C := Tryz.checked) false ⟨#[], #[(.int .i64 0), (.slice none 0 0)], []⟩ 8 (by kernel_rfl) (by kernel_rfl) (by kernel_rfl) (by kernel_rfl)) ?_
 intro W base args ds gs before hval0 hW hcnd _
 have hval : ∀ (j : Nat) t v, Tryz.f4.params[j]? = some t → args[j]? = some v → Value.okWide Tryz.prog W .any base t v := hval0
 have hW' := hW
 obtain ⟨p, q, hA0, hV, rfl, hfz, hnd⟩ := hW
 have hA : DataW.TrodAll enc Tryz.prog W 0 (fun _ => true) true Tryz.f4.params.toList args.toList ds p := hA0
 have hpar : Tryz.f4.params.toList = [T_int, T_s_pax_Act] := by kernel_rfl
 rw [hpar] at hA
 have hA1 := hA
 obtain ⟨v0, vs0, d0, ds0, p0, q0, hargs, rfl, rfl, h0, r0⟩ := trodAll_cons hA
 obtain ⟨v1, vs1, d1, ds1, p1, q1, rfl, rfl, rfl, h1, r1⟩ := trodAll_cons r0
 obtain ⟨rfl, rfl, rfl⟩ := trodAll_nil r1
 obtain rfl : args = #[v0, v1] := by cases args; simp_all
 obtain ⟨rfl, rfl⟩ := trodVars_none hV
 have g0 : GoodA W [.int .i64] false v0 := open_arg (m := 8) (by kernel_rfl) (by kernel_rfl) (hval 0 T_int v0 (by kernel_rfl) rfl) h0
 have g1 : GoodA W [.sl [.int .i64, .int .i64, .int .i64, .int .i64]] false v1 := open_arg (m := 8) (by kernel_rfl) (by kernel_rfl) (hval 1 T_s_pax_Act v1 (by kernel_rfl) rfl) h1
 clear hA0 hval0
 have hc : Calls Tryz.prog F_rostrumlaw22_PaxStays #[v0, v1] W fun e W' => e = .returned (.bool true) ∧ Below W.heap.size W W' :=
  Calls.mono (paxStays_walk g0 g1) fun e W' h => by
   cases e <;> first | exact ⟨by rw [h.1], h.2.below⟩ | exact h.elim
 refine hc.mono fun e W' ⟨he, bel⟩ => ?_
 subst he
 exact ⟨_, rfl, _, _, _, [], _, [], hW', trodAll_mk1 (shut_bool (t := T_bool) (by kernel_rfl) _), keep_all laidOut (by kernel_rfl) hA1 bel, rfl, bel.frame _, fun h => by cases h⟩
theorem proved : Rows.PaxStaysSaid :=
 OpenClaim.holds_of_wide F_rostrumlaw22_PaxStays Tryz.f4 rfl rfl rfl rfl rfl rfl rfl ⟨rfl, rfl, rfl, rfl, rfl⟩ rfl rfl rfl rfl rfl (by kernel_rfl) fnIs (by kernel_rfl)
  (of_decide_eq_true (by kernel_rfl)) (by unfold Func.isWrapper; first | (rw [if_pos (by decide +kernel)]; kernel_rfl) | (rw [if_neg (by decide +kernel)]; exact ⟨rfl, rfl⟩))
  (fun os started H enc _ => lifted os started H enc)
end Go.Proofs.YtfhacbhgmnhmlaaGreat.paxStaysDone
