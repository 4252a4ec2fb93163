/- Texts of the claim PaxStays, joined: PPax2, CPax8, PPax3, CPax9, CPaxA, CPaxB, CPaxC, CPaxD, PPax4, CPaxE. -/
import Derived.Test.YtfhacbhgmnhmlaaGreatBPaxStays7
import Derived.Test.YtfhacbhgmnhmlaaGreatBPaxStays9
namespace Go.Proofs.YtfhacbhgmnhmlaaGreat
set_option linter.unusedVariables false
set_option linter.unusedSimpArgs false
open Go Go.Eng
def rk (ph : Int) : Nat := if ph = 4 then 0 else if ph = 1 then 1 else if ph = 2 then 2 else if ph = 3 ∨ ph = 5 then 4 else 3
def On (a b : Int) : Prop := b = a ∨ rk a < rk b
theorem On.refl (a : Int) : On a a := .inl rfl
theorem On.trans {a b c : Int} (h : On a b) (h' : On b c) : On a c := by
 unfold On at *
 rcases h with rfl | h
 ·exact h'
 ·rcases h' with rfl | h'
  ·exact .inr h
  ·exact .inr (by omega)
theorem rk_lt {a : Int} (h3 : a ≠ 3) (h5 : a ≠ 5) : rk a < 4 := by
 unfold rk
 split
 ·omega
 ·split
  ·omega
  ·split
   ·omega
   ·rw [if_neg (by omega)]; omega
theorem On.to3 {a : Int} (h3 : a ≠ 3) (h5 : a ≠ 5) : On a 3 := .inr (rk_lt h3 h5)
theorem On.to5 {a : Int} (h3 : a ≠ 3) (h5 : a ≠ 5) : On a 5 := .inr (rk_lt h3 h5)
theorem begin_ph (l : LD) (T : Tbl) (ph : Int) (m : Msg Bs) : (l.begin T ph m).1.phase = 3 ∨ (l.begin T ph m).1.phase = 5 ∨ (l.begin T ph m).1.phase = ph := by
 unfold LD.begin
 simp only
 repeat' split
 all_goals first | exact .inl rfl | exact .inr (.inl rfl) | exact .inr (.inr rfl)
theorem On.begin (l : LD) (T : Tbl) (ph : Int) (m : Msg Bs) {a : Int} (h : On a ph) (ha : a ≠ 3) (h5 : a ≠ 5) : On a (l.begin T ph m).1.phase := by
 rcases begin_ph l T ph m with e | e | e <;> rw [e]
 ·exact On.to3 ha h5
 ·exact On.to5 ha h5
 ·exact h
theorem On.heard (l : LD) (T : Tbl) (h : l.phase = 1) : On l.phase (l.heard T).1.phase := by
 unfold LD.heard
 split
 ·exact On.to3 (by omega) (by omega)
 ·split
  ·exact On.begin _ _ _ _ (.inr (by rw [h]; decide)) (by omega) (by omega)
  ·exact On.refl _
theorem On.prepared (l : LD) (T : Tbl) (h : l.phase = 4) : On l.phase (l.prepared T).1.phase := by
 have h2 : On l.phase 2 := .inr (by rw [h]; decide)
 have h1 : On l.phase 1 := .inr (by rw [h]; decide)
 have h3 : l.phase ≠ 3 := by omega
 have h5 : l.phase ≠ 5 := by omega
 unfold LD.prepared
 split
 ·exact On.begin _ _ _ _ h2 h3 h5
 ·split
  ·exact On.begin _ _ _ _ h2 h3 h5
  ·split
   ·exact On.begin _ _ _ _ h1 h3 h5
   ·exact On.begin _ _ _ _ h2 h3 h5
theorem On.got (l : LD) (T : Tbl) (fr : Int) (a : Ans Bs) : On l.phase (l.got T fr a).1.1.phase := by
 unfold LD.got
 split
 ·exact On.refl _
 rename_i h0
 have h3 : l.phase ≠ 3 := fun h => h0 (.inl h)
 have h5 : l.phase ≠ 5 := fun h => h0 (.inr (.inl h))
 split
 ·exact On.refl _
 split
 ·exact On.to3 h3 h5
 split
 ·split
  ·exact On.refl _
  ·exact On.to5 h3 h5
 simp only
 split
 ·rename_i h1
  exact On.heard _ _ h1
 split
 ·split
  ·exact On.to3 h3 h5
  ·exact On.refl _
 split
 ·rename_i h4
  split
  ·exact On.prepared _ _ h4
  ·exact On.refl _
 ·exact On.refl _
theorem On.slow (l : LD) (T : Tbl) : On l.phase (l.slow T).1.1.phase := by
 unfold LD.slow
 split
 ·exact On.refl _
 ·rename_i h
  have h1 : l.phase = 1 := Classical.byContradiction fun hc => h (.inl hc)
  exact On.begin _ _ _ _ (.inr (by rw [h1]; decide)) (by omega) (by omega)
theorem On.one (n : Nat) (s : TL) (to : Nat) : On s.x.ld.phase (TL.one n s to).x.ld.phase := by
 unfold TL.one
 split
 ·exact On.refl _
 ·unfold TL.ask
  simp only
  split
  ·rename_i h; split at h
   ·cases h; exact On.got _ _ _ _
   ·cases h
  ·rename_i h; split at h
   ·cases h
   ·cases h; exact On.refl _
theorem On.fold (n : Nat) : ∀ (l : List Nat) (s : TL), On s.x.ld.phase (l.foldl (TL.one n) s).x.ld.phase
 | [], s => On.refl _
 | a :: l, s => (On.one n s a).trans (On.fold n l _)
def TL.turn (n N : Nat) (s : TL) : TL := if s.x.ld.phase = 1 ∧ (s.round n N).x.ld.phase = 1 then ((s.round n N).slow n).1 else s.round n N
theorem On.turn (n N : Nat) (s : TL) : On s.x.ld.phase (s.turn n N).x.ld.phase := by
 unfold TL.turn
 split
 ·exact (On.fold n _ s).trans (On.slow _ _)
 ·exact On.fold n _ s
theorem lead_go {n N f : Nat} {ph : Int} {s : TL} (h1 : ph ≠ s.x.ld.phase) (h2 : s.x.ld.phase ≠ 5) : TL.lead n N (f + 1) ph s = TL.lead n N f s.x.ld.phase (s.turn n N) := by
 rw [TL.lead, if_neg (by rintro (h | h); exact h1 h; exact h2 h)]; rfl
theorem lead_end {n N f : Nat} {ph : Int} {s : TL} (h : ph = s.x.ld.phase ∨ s.x.ld.phase = 5) : TL.lead n N f ph s = s := by
 cases f with
 | zero => rfl
 | succ f => rw [TL.lead, if_pos h]
end Go.Proofs.YtfhacbhgmnhmlaaGreat
namespace Go.Proofs.YtfhacbhgmnhmlaaGreat
set_option linter.unusedVariables false
set_option linter.unusedSimpArgs false
open Go Go.Eng
section
variable {sk : SK} {W0 W : World} {L L' : List Asn} {g q : Nat} {G : Grp} {X : GX} {y : LdX} {T : List Tbl}
theorem foldl_range_succ {α : Type} (f : α → Nat → α) (s : α) (i : Nat) : (List.range (i + 1)).foldl f s = f ((List.range i).foldl f s) i := by
  rw [List.range_succ, List.foldl_append]; rfl
theorem one_some {n to b : Nat} {a : Ans BSl} (hne : to ≠ n) (he : (askO T y to).2.2 = 0) (ha : a.map BSl.bs = (askO T y to).2.1) :
    TL.one n (TL.of T y) to = (TL.of (T.set to (askO T y to).1) { y with lp := y.lp.set to (some (b, a)) }).got n to (a.map BSl.bs) := by
  unfold TL.one
  rw [if_neg hne, ask_some he ha]
theorem one_none {n to : Nat} (hne : to ≠ n) (he : ¬ (askO T y to).2.2 = 0) : TL.one n (TL.of T y) to = TL.of T y := by
  unfold TL.one
  rw [if_neg hne, ask_none he]
theorem rk_le (a : Int) : rk a ≤ 4 := by unfold rk; repeat' split
                                         all_goals omega
set_option maxRecDepth 100000 in
set_option maxHeartbeats 8000000 in
theorem paxLead {n : Nat} {k : Value → World → Prop} (hl : X.zs.length = T.length) (h7 : T.length ≤ 7) (hn : n < T.length) (hy : y.ok (X.zs[n]'(by omega)).t)
    (h : St W0 (gce g X :: gar X :: many rce X.zs :: many rtb (X.tz T) :: cells q [.pointer (some ⟨y.q, 0, none⟩), .pointer (qa y.lp.x0), .pointer (qa y.lp.x1), .pointer (qa y.lp.x2), .pointer (qa y.lp.x3), .pointer (qa y.lp.x4), .pointer (qa y.lp.x5), .pointer (qa y.lp.x6)] T_pax_leader :: ldc y.q y.X :: many oa y.lp.list :: L) W)
    (hk : ∀ (y' : LdX) W', y'.ok (X.zs[n]'(by omega)).t → (TL.lead n T.length 6 0 (TL.of T y)).T.length = T.length → y'.abs = (TL.lead n T.length 6 0 (TL.of T y)).x →
      St W0 (gce g X :: gar X :: many rce X.zs :: many rtb (X.tz (TL.lead n T.length 6 0 (TL.of T y)).T) :: cells q [.pointer (some ⟨y'.q, 0, none⟩), .pointer (qa y'.lp.x0), .pointer (qa y'.lp.x1), .pointer (qa y'.lp.x2), .pointer (qa y'.lp.x3), .pointer (qa y'.lp.x4), .pointer (qa y'.lp.x5), .pointer (qa y'.lp.x6)] T_pax_leader :: ldc y'.q y'.X :: many oa y'.lp.list :: L) W' → k (.tuple #[]) W') :
    callK PR F_pax_Group_lead [.pointer (some ⟨g, 0, none⟩), .int .i64 n, .pointer (some ⟨q, 0, none⟩)] k W := by
  apply S.pax_Group_lead.call
  delta S.pax_Group_lead.body oK oA rD lD eF eU sT cL vC gD gX gP gA gR gL gE gU gC gV hL sB nI
  have hz : n < X.zs.length := by omega
  generalize hR : TL.lead n T.length 6 0 (TL.of T y) = R at *
  refine loop_x (σ := Nat × Int × List Tbl × LdX) (fun s => [.pointer (some ⟨g, 0, none⟩), .int .i64 n, .pointer (some ⟨q, 0, none⟩), .int .i64 s.2.1])
    (fun s W1 => s.2.2.1.length = T.length ∧ s.2.2.2.ok (X.zs[n]'hz).t ∧ (s.2.1 = s.2.2.2.X.phase ∨ 4 - rk s.2.2.2.X.phase < s.1) ∧ TL.lead n T.length s.1 s.2.1 (TL.of s.2.2.1 s.2.2.2) = R ∧
      St W0 (gce g X :: gar X :: many rce X.zs :: many rtb (X.tz s.2.2.1) :: cells q [.pointer (some ⟨s.2.2.2.q, 0, none⟩), .pointer (qa s.2.2.2.lp.x0), .pointer (qa s.2.2.2.lp.x1), .pointer (qa s.2.2.2.lp.x2), .pointer (qa s.2.2.2.lp.x3), .pointer (qa s.2.2.2.lp.x4), .pointer (qa s.2.2.2.lp.x5), .pointer (qa s.2.2.2.lp.x6)] T_pax_leader :: ldc s.2.2.2.q s.2.2.2.X :: many oa s.2.2.2.lp.list :: L) W1)
    (fun s => s.1) (6, 0, T, y) rfl ⟨rfl, hy, .inr (by simp only; omega), hR, h⟩ ?_
  clear h hy hR
  rintro K ⟨f, ph, T1, y1⟩ W1 ⟨hT1, hy1, hf, hR1, h⟩ hK
  simp only at hT1 hy1 hf hR1 h hK ⊢
  simp -implicitDefEqProofs only [SE, SU, SV]
  delta S.pax_Group_lead.l1 oK oA rD lD eF eU sT cL vC gD gX gP gA gR gL gE gU gC gV hL sB nI
  have hl1 : X.zs.length = T1.length := by omega
  (repeat (first | ((with_reducible refine v5 ?_); refine ⟨_, rfl, ?_⟩) | simp -implicitDefEqProofs only [SE, SU, SV]))
  refine leadPhase (X := y1.X) (by assumption) fun W2 h => ?_
  have hend : (ph = y1.X.phase ∨ y1.X.phase = 5) → ∀ W', St W0 (ldc y1.q y1.X :: gce g X :: gar X :: many rce X.zs :: many rtb (X.tz T1) :: cells q [.pointer (some ⟨y1.q, 0, none⟩), .pointer (qa y1.lp.x0), .pointer (qa y1.lp.x1), .pointer (qa y1.lp.x2), .pointer (qa y1.lp.x3), .pointer (qa y1.lp.x4), .pointer (qa y1.lp.x5), .pointer (qa y1.lp.x6)] T_pax_leader :: many oa y1.lp.list :: L) W' → k (.tuple #[]) W' := by
    intro he W' h
    have e := lead_end (n := n) (N := T.length) (f := f) (s := TL.of T1 y1) he
    rw [hR1] at e
    subst e
    exact hk y1 W' hy1 hT1 rfl (St.wk h)
  by_cases c1 : ph = y1.X.phase
  · have f1 := decide_eq_true c1
    (repeat simp -implicitDefEqProofs only [SE, SU, SV, f1])
    exact hend (.inl c1) _ (by assumption)
  have f1 := decide_eq_false c1
  (repeat (first | ((with_reducible refine v5 ?_); refine ⟨_, rfl, ?_⟩) | simp -implicitDefEqProofs only [SE, SU, SV, f1]))
  refine leadPhase (X := y1.X) (by assumption) fun W2 h => ?_
  by_cases c2 : y1.X.phase = 5
  · have f2 := decide_eq_true c2
    (repeat simp -implicitDefEqProofs only [SE, SU, SV, f2])
    exact hend (.inr c2) _ (by assumption)
  have f2 := decide_eq_false c2
  clear hend hk
  (repeat (first | ((with_reducible refine v5 ?_); refine ⟨_, rfl, ?_⟩) | simp -implicitDefEqProofs only [SE, SU, SV, f2]))
  refine leadPhase (X := y1.X) (by assumption) fun W3 h => ?_
  have hf1 : 4 - rk y1.X.phase < f := hf.resolve_left c1
  obtain ⟨f, rfl⟩ : ∃ f', f = f' + 1 := ⟨f - 1, by omega⟩
  rw [lead_go (s := TL.of T1 y1) c1 c2] at hR1
  refine joinK_i ?_
  -- behind the round
  have hJ1 : ∀ (T2 : List Tbl) (y2 : LdX) W', T2.length = T.length → y2.ok (X.zs[n]'hz).t → TL.of T2 y2 = (TL.of T1 y1).round n T.length →
      St W0 (gce g X :: gar X :: many rce X.zs :: many rtb (X.tz T2) :: cells q [.pointer (some ⟨y2.q, 0, none⟩), .pointer (qa y2.lp.x0), .pointer (qa y2.lp.x1), .pointer (qa y2.lp.x2), .pointer (qa y2.lp.x3), .pointer (qa y2.lp.x4), .pointer (qa y2.lp.x5), .pointer (qa y2.lp.x6)] T_pax_leader :: ldc y2.q y2.X :: many oa y2.lp.list :: L) W' →
      S.pax_Group_lead.j1 K (.pointer (some ⟨g, 0, none⟩)) (.int .i64 n) (.pointer (some ⟨q, 0, none⟩)) (.int .i64 y1.X.phase) W' := by
    intro T2 y2 W' hT2 hy2 he2 h
    delta S.pax_Group_lead.j1 oK oA rD lD eF eU sT cL vC gD gX gP gA gR gL gE gU gC gV hL sB nI
    have hon := On.turn n T.length (TL.of T1 y1)
    have hnext : ∀ (T3 : List Tbl) (y3 : LdX) W', T3.length = T.length → y3.ok (X.zs[n]'hz).t → TL.of T3 y3 = (TL.of T1 y1).turn n T.length →
        St W0 (gce g X :: gar X :: many rce X.zs :: many rtb (X.tz T3) :: cells q [.pointer (some ⟨y3.q, 0, none⟩), .pointer (qa y3.lp.x0), .pointer (qa y3.lp.x1), .pointer (qa y3.lp.x2), .pointer (qa y3.lp.x3), .pointer (qa y3.lp.x4), .pointer (qa y3.lp.x5), .pointer (qa y3.lp.x6)] T_pax_leader :: ldc y3.q y3.X :: many oa y3.lp.list :: L) W' →
        K [.pointer (some ⟨g, 0, none⟩), .int .i64 n, .pointer (some ⟨q, 0, none⟩), .int .i64 y1.X.phase] W' := by
      intro T3 y3 W' hT3 hy3 he3 h
      refine hK (f, y1.X.phase, T3, y3) W' (by simp) ⟨hT3, hy3, ?_, ?_, h⟩
      · rw [← he3] at hon
        rcases hon with e | e
        · exact .inl e.symm
        · refine .inr ?_
          have e : rk y1.X.phase < rk y3.X.phase := e
          have := rk_le y3.X.phase
          simp only; omega
      · simp only
        rw [he3]; exact hR1
    have ht : (TL.of T1 y1).turn n T.length = if y1.X.phase = 1 ∧ y2.X.phase = 1 then ((TL.of T2 y2).slow n).1 else TL.of T2 y2 := by
      unfold TL.turn
      rw [← he2]; rfl
    rw [ht] at hnext
    clear hK hR1 ht hon
    by_cases p1 : y1.X.phase = 1
    · have g1 := decide_eq_true p1
      (repeat (first | ((with_reducible refine v5 ?_); refine ⟨_, rfl, ?_⟩) | simp -implicitDefEqProofs only [SE, SU, SV, g1]))
      refine leadPhase (X := y2.X) (by assumption) fun W3 h => ?_
      by_cases p2 : y2.X.phase = 1
      · have g2 := decide_eq_true p2
        rw [if_pos ⟨p1, p2⟩] at hnext
        (repeat (first | ((with_reducible refine v5 ?_); refine ⟨_, rfl, ?_⟩) | simp -implicitDefEqProofs only [SE, SU, SV, g2]))
        refine paxSlow (g := g) (q := q) (X := X) (T := T2) (y := y2) (n := n) (L := L) (by omega) (by omega) hy2.1 (St.wk (by assumption)) fun y' W5 _ g1 g2 g3 h => ?_
        skip
        refine hnext _ y' _ (by rw [List.length_set]; exact hT2) (LdX.ok_got hy2 g1 g2) g3 (by assumption)
      · have g2 := decide_eq_false p2
        rw [if_neg (fun h => p2 h.2)] at hnext
        (repeat simp -implicitDefEqProofs only [SE, SU, SV, g2])
        exact hnext T2 y2 _ hT2 hy2 rfl (St.wk (by assumption))
    · have g1 := decide_eq_false p1
      rw [if_neg (fun h => p1 h.1)] at hnext
      (repeat simp -implicitDefEqProofs only [SE, SU, SV, g1])
      exact hnext T2 y2 _ hT2 hy2 rfl (St.wk (by assumption))
  clear hK hR1
  (repeat (first | ((with_reducible refine v5 ?_); refine ⟨_, rfl, ?_⟩) | simp -implicitDefEqProofs only [SE, SU, SV]))
  refine loop_c (σ := List Tbl × LdX) T.length (fun i _ => [.pointer (some ⟨g, 0, none⟩), .int .i64 n, .pointer (some ⟨q, 0, none⟩), .int .i64 y1.X.phase, .int .i64 X.zs.length, .int .i64 i])
    (fun i s W1 => s.1.length = T.length ∧ s.2.ok (X.zs[n]'hz).t ∧ TL.of s.1 s.2 = (List.range i).foldl (TL.one n) (TL.of T1 y1) ∧
      St W0 (gce g X :: gar X :: many rce X.zs :: many rtb (X.tz s.1) :: cells q [.pointer (some ⟨s.2.q, 0, none⟩), .pointer (qa s.2.lp.x0), .pointer (qa s.2.lp.x1), .pointer (qa s.2.lp.x2), .pointer (qa s.2.lp.x3), .pointer (qa s.2.lp.x4), .pointer (qa s.2.lp.x5), .pointer (qa s.2.lp.x6)] T_pax_leader :: ldc s.2.q s.2.X :: many oa s.2.lp.list :: L) W1) (T1, y1) rfl ⟨hT1, hy1, rfl, St.wk (by assumption)⟩ ?_
  clear h
  rintro K2 i ⟨T2, y2⟩ W4 hi ⟨hT2, hy2, he2, h⟩ hK2
  simp only at hT2 hy2 he2 h hK2 ⊢
  simp -implicitDefEqProofs only [SE, SU, SV]
  delta S.pax_Group_lead.l2 oK oA rD lD eF eU sT cL vC gD gX gP gA gR gL gE gU gC gV hL sB nI
  have ew : IntKind.i64.wrap ((i : Int) + 1) = ((i + 1 : Nat) : Int) := by rw [i64w]; omega
  by_cases hlt : i < T.length
  · have g1 : decide ((i : Int) < (X.zs.length : Int)) = true := decide_eq_true (by omega)
    have hJ2 : ∀ (T3 : List Tbl) (y3 : LdX) W', T3.length = T.length → y3.ok (X.zs[n]'hz).t → TL.of T3 y3 = TL.one n (TL.of T2 y2) i →
        St W0 (gce g X :: gar X :: many rce X.zs :: many rtb (X.tz T3) :: cells q [.pointer (some ⟨y3.q, 0, none⟩), .pointer (qa y3.lp.x0), .pointer (qa y3.lp.x1), .pointer (qa y3.lp.x2), .pointer (qa y3.lp.x3), .pointer (qa y3.lp.x4), .pointer (qa y3.lp.x5), .pointer (qa y3.lp.x6)] T_pax_leader :: ldc y3.q y3.X :: many oa y3.lp.list :: L) W' →
        S.pax_Group_lead.j2 K2 (.pointer (some ⟨g, 0, none⟩)) (.int .i64 n) (.pointer (some ⟨q, 0, none⟩)) (.int .i64 y1.X.phase) (.int .i64 X.zs.length) (.int .i64 i) W' := by
      intro T3 y3 W' hT3 hy3 he3 h
      delta S.pax_Group_lead.j2 oK oA rD lD eF eU sT cL vC gD gX gP gA gR gL gE gU gC gV hL sB nI
      (repeat simp -implicitDefEqProofs only [SE, SU, SV, ew])
      refine hK2 (T3, y3) _ hlt ⟨hT3, hy3, ?_, h⟩
      rw [foldl_range_succ, ← he2]; exact he3
    clear hK2 hJ1
    (repeat simp -implicitDefEqProofs only [SE, SU, SV, g1])
    refine joinK_i ?_
    by_cases hne : i = n
    · have g2 : decide ((i : Int) = (n : Int)) = true := decide_eq_true (by omega)
      (repeat simp -implicitDefEqProofs only [SE, SU, SV, g2])
      exact hJ2 T2 y2 _ hT2 hy2 (by unfold TL.one; rw [if_pos hne]) (by assumption)
    · have g2 : decide ((i : Int) = (n : Int)) = false := decide_eq_false (by omega)
      (repeat simp -implicitDefEqProofs only [SE, SU, SV, g2])
      refine paxAsk (g := g) (q := q) (X := X) (T := T2) (y := y2) (to := i) (L := L) (by omega) (by omega) (by omega) (St.wk (by assumption)) (fun b a W3 he ha hal h => ?_) (fun W3 he h => ?_)
      · have hs := one_some (b := b) hne he ha
        generalize hy3 : ({ y2 with lp := y2.lp.set i (some (b, a)) } : LdX) = y3 at hs
        have hok3 : y3.ok (X.zs[n]'hz).t := hy3 ▸ LdX.ok_set hy2 hal
        have hm3 : some (b, a) ∈ y3.lp.list := by rw [← hy3]; exact mem_set7 _ (by omega) _
        have hq3 : y3.q = y2.q := by rw [← hy3]
        have hX3 : y3.X = y2.X := by rw [← hy3]
        have h : St W0 (gce g X :: gar X :: many rce X.zs :: many rtb (X.tz (T2.set i (askO T2 y2 i).1)) :: cells q [.pointer (some ⟨y3.q, 0, none⟩), .pointer (qa y3.lp.x0), .pointer (qa y3.lp.x1), .pointer (qa y3.lp.x2), .pointer (qa y3.lp.x3), .pointer (qa y3.lp.x4), .pointer (qa y3.lp.x5), .pointer (qa y3.lp.x6)] T_pax_leader :: ldc y3.q y3.X :: many oa y3.lp.list :: L) W3 := by rw [hq3, hX3, ← hy3]; exact h
        clear hy3 hX3 hq3
        have hl3 : (T2.set i (askO T2 y2 i).1).length = T.length := by rw [List.length_set]; exact hT2
        generalize T2.set i (askO T2 y2 i).1 = T3 at *
        (repeat (first | ((with_reducible refine w11 ?_); intros) | ((with_reducible refine v5 ?_); refine ⟨_, rfl, ?_⟩) | ((with_reducible refine v12 ?_ ?_); exact rfl; intros) | ((with_reducible refine w5 ?_ ?_); simp; refine ⟨_, rfl, ?_⟩) | ((with_reducible refine w12 ?_ ?_ ?_ ?_); simp; simp; simp [oneC]; intros) | simp -implicitDefEqProofs only [SE, SU, SV]))
        rename_i b8 _ _ W5 h
        (try simp only [BLS, SB, stL_a, stL_b, stL_c, lsub_a, lsub_b, lsub_c, List.append_nil, List.take_nil, List.drop_nil, Nat.reduceAdd] at h)
        refine paxGot (g := g) (q := q) (X := X) (T := T3) (y := y3) (n := n) (L := cells b8 [.bool a.ok, .int .i64 a.bal.1, .int .i64 a.bal.2, .int .i64 a.rc.st, a.rc.cmd.v, .int .i64 a.rc.seq, .int .i64 a.rc.deps.x0, .int .i64 a.rc.deps.x1, .int .i64 a.rc.deps.x2, .int .i64 a.rc.deps.x3, .int .i64 a.rc.deps.x4, .int .i64 a.rc.deps.x5, .int .i64 a.rc.deps.x6, .int .i64 a.rc.bal.1, .int .i64 a.rc.bal.2, .int .i64 a.rc.ab.1, .int .i64 a.rc.ab.2] T_inst_Answer :: L) (by omega) (by omega) hok3.1 hm3 hal (St.wk (by exact St.tick (by assumption))) fun y' W5 _ g1 g2 g3 h => ?_
        skip
        exact hJ2 _ y' _ (by rw [List.length_set]; exact hl3) (LdX.ok_got hok3 g1 g2) (g3.trans hs.symm) (St.wk (by assumption))
      · have hs := one_none (n := n) hne he
        (repeat (first | ((with_reducible refine w11 ?_); intros) | ((with_reducible refine v12 ?_ ?_); exact rfl; intros) | ((with_reducible refine w12 ?_ ?_ ?_ ?_); simp; simp; simp [oneC]; intros) | simp -implicitDefEqProofs only [SE, SU, SV]))
        rename_i h
        (try simp only [BLS, SB, stL_a, stL_b, stL_c, lsub_a, lsub_b, lsub_c, List.append_nil, List.take_nil, List.drop_nil, Nat.reduceAdd] at h)
        exact hJ2 T2 y2 _ hT2 hy2 hs.symm (St.wk h)
  · have g1 : decide ((i : Int) < (X.zs.length : Int)) = false := decide_eq_false (by omega)
    have hi2 : i = T.length := by omega
    subst hi2
    (repeat simp -implicitDefEqProofs only [SE, SU, SV, g1])
    exact hJ1 T2 y2 _ hT2 hy2 he2 (by assumption)
end
end Go.Proofs.YtfhacbhgmnhmlaaGreat
namespace Go.Proofs.YtfhacbhgmnhmlaaGreat
set_option linter.unusedVariables false
set_option linter.unusedSimpArgs false
open Go Go.Eng
structure Ev (T T' : Tbl) : Prop where
 nd : Nd T → Nd T'
 com : ∀ d, (trec T d).st = 3 → (trec T' d).st = 3
theorem Ev.refl (T : Tbl) : Ev T T := ⟨id, fun _ => id⟩
theorem Ev.trans {a b c : Tbl} (h : Ev a b) (h' : Ev b c) : Ev a c := ⟨fun n => h'.nd (h.nd n), fun d x => h'.com d (h.com d x)⟩
theorem mput_nd {κ β : Type} [DecidableEq κ] (l : List (κ × β)) (a : κ) (b : β) (h : (l.map (·.1)).Nodup) : ((mput l a b).map (·.1)).Nodup := by
 have key : ∀ l : List (κ × β), ∀ x, x ∈ (mput l a b).map (·.1) → x = a ∨ x ∈ l.map (·.1) := by
  intro l
  induction l with
  | nil => intro x hx; simp [mput] at hx; exact .inl hx
  | cons p l ih =>
   intro x hx
   by_cases e : p.1 = a
   ·simp only [mput, if_pos e, List.map_cons, List.mem_cons] at hx
    rcases hx with hx | hx
    ·exact .inl hx
    ·exact .inr (by simp only [List.map_cons, List.mem_cons]; exact .inr hx)
   ·simp only [mput, if_neg e, List.map_cons, List.mem_cons] at hx
    rcases hx with hx | hx
    ·exact .inr (by simp [hx])
    ·exact (ih x hx).imp id fun h => by simp only [List.map_cons, List.mem_cons]; exact .inr h
 induction l with
 | nil => simp [mput]
 | cons p l ih =>
  simp only [List.map_cons, List.nodup_cons] at h
  by_cases e : p.1 = a
  ·simp only [mput, if_pos e, List.map_cons, List.nodup_cons]
   exact ⟨e ▸ h.1, h.2⟩
  ·simp only [mput, if_neg e, List.map_cons, List.nodup_cons]
   exact ⟨fun hm => (key l _ hm).elim e h.1, ih h.2⟩
theorem tdo_ev (T : Tbl) (m : Msg Bs) : Ev T (tdo T m).1 := by
 unfold tdo
 split
 ·exact Ev.refl T
 ·cases ho : old m (trec T m.dot) with
  | some ok => exact Ev.refl T
  | none =>
   refine ⟨mput_nd T _ _, fun d hd => ?_⟩
   simp only
   unfold trec at *
   rw [mget_mput]
   by_cases e : m.dot = d
   ·subst e
    rw [old_3 hd] at ho
    cases ho
   ·rw [if_neg e]; exact hd
theorem dec_ev (l : LD) (T : Tbl) (r : Rec Bs) (f : Bool) : Ev T (l.dec T r f).2 := tdo_ev T _
theorem begin_ev (l : LD) (T : Tbl) (ph : Int) (m : Msg Bs) : Ev T (l.begin T ph m).2 := by
 unfold LD.begin
 simp only
 split
 ·exact (tdo_ev T m).trans (dec_ev _ _ _ _)
 ·split <;> exact tdo_ev T m
theorem heard_ev (l : LD) (T : Tbl) : Ev T (l.heard T).2 := by
 unfold LD.heard
 split
 ·exact dec_ev _ _ _ _
 ·split
  ·exact begin_ev _ _ _ _
  ·exact Ev.refl T
theorem prepared_ev (l : LD) (T : Tbl) : Ev T (l.prepared T).2 := by
 unfold LD.prepared
 repeat' split
 all_goals exact begin_ev _ _ _ _
theorem got_ev (l : LD) (T : Tbl) (fr : Int) (a : Ans Bs) : Ev T (l.got T fr a).1.2 := by
 unfold LD.got
 simp only
 repeat' split
 all_goals first | exact Ev.refl T | exact dec_ev _ _ _ _ | exact heard_ev _ _ | exact prepared_ev _ _
theorem slow_ev (l : LD) (T : Tbl) : Ev T (l.slow T).1.2 := by
 unfold LD.slow
 split
 ·exact Ev.refl T
 ·exact begin_ev _ _ _ _
theorem propose_ev {n rep : Int} {d : Dot} {c : Bs} {T : Tbl} {x : LD × Tbl} (h : propose n rep d c T = .inl x) : Ev T x.2 := by
 unfold propose at h
 simp only at h
 split at h
 ·cases h
 ·split at h
  ·cases h
  ·cases h; exact begin_ev _ _ _ _
theorem recover_ev {n rep : Int} {d : Dot} {T : Tbl} {x : LD × Tbl} (h : recover n rep d T = .inl x) : Ev T x.2 := by
 unfold recover at h
 simp only at h
 split at h
 ·cases h
 ·split at h
  ·cases h
  ·split at h
   ·cases h
   ·cases h; exact begin_ev _ _ _ _
structure EvL (T T' : List Tbl) : Prop where
 len : T'.length = T.length
 ev : ∀ i, Ev (tAt T i) (tAt T' i)
theorem EvL.refl (T : List Tbl) : EvL T T := ⟨rfl, fun _ => Ev.refl _⟩
theorem EvL.trans {a b c : List Tbl} (h : EvL a b) (h' : EvL b c) : EvL a c := ⟨h'.len.trans h.len, fun i => (h.ev i).trans (h'.ev i)⟩
theorem EvL.set {T : List Tbl} {n : Nat} {U : Tbl} (h : Ev (tAt T n) U) : EvL T (T.set n U) := by
 refine ⟨by simp, fun i => ?_⟩
 unfold tAt at *
 rw [List.getD_eq_getElem?_getD, List.getD_eq_getElem?_getD, List.getElem?_set]
 by_cases e : n = i
 ·subst e
  rw [if_pos rfl]
  by_cases hn : n < T.length
  ·rw [if_pos hn]
   rw [List.getD_eq_getElem?_getD] at h
   exact h
  ·rw [if_neg hn, List.getElem?_eq_none (by omega)]; exact Ev.refl _
 ·rw [if_neg e]; exact Ev.refl _
theorem EvL.fold {α β : Type} (f : β → α → β) (p : β → List Tbl) (h : ∀ b a, EvL (p b) (p (f b a))) : ∀ (l : List α) (b : β), EvL (p b) (p (l.foldl f b))
 | [], b => EvL.refl _
 | a :: l, b => (h b a).trans (EvL.fold f p h l _)
theorem EvL.nds {T T' : List Tbl} (h : EvL T T') (hn : ∀ U ∈ T, Nd U) : ∀ U ∈ T', Nd U := by
 intro U hU
 obtain ⟨i, hi, rfl⟩ := List.getElem_of_mem hU
 have := (h.ev i).nd (nd_at hn i)
 unfold tAt at this
 rwa [List.getD_eq_getElem?_getD, List.getElem?_eq_getElem hi] at this
theorem ask_ev (s : TL) (to : Nat) : EvL s.T (s.ask to).1.T := by
 unfold TL.ask
 simp only
 split
 ·exact EvL.set (tdo_ev _ _)
 ·exact EvL.refl _
theorem tgot_ev (s : TL) (n : Nat) (fr : Int) (a : Ans Bs) : EvL s.T (s.got n fr a).T := EvL.set (got_ev _ _ _ _)
theorem tslow_ev (s : TL) (n : Nat) : EvL s.T (s.slow n).1.T := EvL.set (slow_ev _ _)
theorem told_ev (s : TL) (n : Nat) (op to : Int) : EvL s.T (s.told n op to).1.T := by
 have ha := ask_ev s to.toNat
 unfold TL.told
 split
 ·split
  ·rename_i h; rw [h] at ha; exact ha
  ·rename_i h
   rw [h] at ha
   simp only at ha ⊢
   refine ha.trans ?_
   repeat' split
   all_goals first | exact EvL.refl _ | exact tgot_ev _ _ _ _ | exact (tgot_ev _ _ _ _).trans (tgot_ev _ _ _ _)
 ·split
  ·split
   ·exact EvL.refl _
   ·exact tgot_ev _ _ _ _
  ·exact EvL.refl _
theorem one_ev (n : Nat) (s : TL) (to : Nat) : EvL s.T (TL.one n s to).T := by
 have ha := ask_ev s to
 unfold TL.one
 split
 ·exact EvL.refl _
 ·split
  ·rename_i h; rw [h] at ha; exact ha.trans (tgot_ev _ _ _ _)
  ·rename_i h; rw [h] at ha; exact ha
theorem round_ev (s : TL) (n N : Nat) : EvL s.T (s.round n N).T := EvL.fold (TL.one n) TL.T (one_ev n) _ s
theorem turn_ev (s : TL) (n N : Nat) : EvL s.T (s.turn n N).T := by
 unfold TL.turn
 split
 ·exact (round_ev s n N).trans (tslow_ev _ _)
 ·exact round_ev s n N
theorem lead_ev (n N : Nat) : ∀ (f : Nat) (ph : Int) (s : TL), EvL s.T (TL.lead n N f ph s).T
 | 0, _, s => EvL.refl _
 | f + 1, ph, s => by
  by_cases h : ph = s.x.ld.phase ∨ s.x.ld.phase = 5
  ·rw [lead_end h]; exact EvL.refl _
  ·rw [lead_go (fun e => h (.inl e)) (fun e => h (.inr e))]
   exact (turn_ev s n N).trans (lead_ev n N f _ _)
theorem gpropose_ev (G : Grp) (i : Nat) (b : UInt8) : EvL G.T (G.propose i b).1.T := by
 unfold Grp.propose
 split
 ·exact EvL.refl _
 ·split
  ·rename_i h; exact EvL.set (propose_ev h)
  ·exact EvL.refl _
theorem grecover_ev (G : Grp) (i : Nat) (d : Dot) : EvL G.T (G.recover i d).1.T := by
 unfold Grp.recover
 split
 ·exact EvL.refl _
 ·split
  ·rename_i h; exact EvL.set (recover_ev h)
  ·exact EvL.refl _
theorem act_ev (G : Grp) (a : Act) : EvL G.T (G.act a).1.T := by
 unfold Grp.act
 split
 ·exact EvL.refl _
 split
 ·exact gpropose_ev _ _ _
 split
 ·split
  ·exact grecover_ev _ _ _
  ·exact EvL.refl _
 split
 ·exact EvL.refl _
 split
 ·exact tslow_ev (G.tl _ _) _
 split
 ·exact EvL.refl _
 split
 ·exact told_ev (G.tl _ _) _ _ _
 ·exact EvL.refl _
theorem leadJ_ev (n : Nat) (G : Grp) (j : Nat) : EvL G.T (Grp.leadJ n G j).T := lead_ev n G.n 6 0 (G.tl n j)
theorem spreadD_ev (n : Nat) (T : List Tbl) (d : Dot) : EvL T (spreadD n T d) := by
 unfold spreadD
 refine EvL.fold (fun (T' : List Tbl) (to : Nat) => if to = n then T' else T'.set to (tdo (tAt T' to) (spreadM (tAt T n) d)).1) id (fun T' to => ?_) _ T
 simp only [id]
 split
 ·exact EvL.refl _
 ·exact EvL.set (tdo_ev _ _)
theorem spreadT_ev (n : Nat) (T : List Tbl) : EvL T (spreadT n T) := EvL.fold (spreadD n) id (fun T d => spreadD_ev n T d) _ T
theorem calm1_ev (G : Grp) (n : Nat) : EvL G.T (G.calm1 n).T := by
 unfold Grp.calm1
 simp only
 exact ((EvL.fold (fun (G : Grp) d => (G.recover n d).1) Grp.T (fun G d => grecover_ev G n d) _ G).trans (EvL.fold (Grp.leadJ n) Grp.T (leadJ_ev n) _ _)).trans (spreadT_ev n _)
theorem comT_mem {T : Tbl} {d : Dot} : d ∈ comT T ↔ (trec T d).st = 3 := by
 unfold comT allT
 simp only [List.mem_filter, Bool.not_eq_true', decide_eq_false_iff_not, decide_eq_true_eq, promT_mem]
 constructor
 ·exact fun h => h.2
 ·intro h
  refine ⟨⟨?_, by omega⟩, h⟩
  unfold trec at h
  cases hm : mget T d with
  | none => rw [hm] at h; exact absurd h (by decide)
  | some r => exact ⟨r, mgetT hm⟩
theorem comT_sub {T T' : Tbl} (hn : Nd T) (h : Ev T T') : (comT T).Sublist (comT T') := by
 have hs : ∀ T, Nd T → (comT T).Pairwise fun x y => dotB x y = true := by
  intro T hn
  have h1 : (promT T).Pairwise fun x y => dotB x y = true := by
   refine (List.pairwise_and_iff.2 ⟨sortDt_sorted (T.map (·.1)), ((sortDt_perm _).nodup_iff.2 hn)⟩).imp fun {a b} ⟨h1, h2⟩ => ?_
   cases hb : dotB a b with
   | true => rfl
   | false => exact absurd (dotB_same hb h1) h2
  exact (h1.filter _).filter _
 have key : ∀ (a b : List Dot), a.Pairwise (fun x y => dotB x y = true) → b.Pairwise (fun x y => dotB x y = true) → (∀ x ∈ a, x ∈ b) → a.Sublist b := by
  intro a b
  induction b generalizing a with
  | nil =>
   intro _ _ h
   cases a with
   | nil => exact List.Sublist.refl _
   | cons x a => exact absurd (h x (by simp)) (by simp)
  | cons y b ih =>
   intro ha hb h
   cases a with
   | nil => exact List.nil_sublist _
   | cons x a =>
    rw [List.pairwise_cons] at ha hb
    by_cases e : x = y
    ·subst e
     refine List.Sublist.cons_cons _ (ih a ha.2 hb.2 fun z hz => ?_)
     rcases List.mem_cons.1 (h z (by simp [hz])) with e | e
     ·subst e
      have := ha.1 z hz
      rw [dotB_iff] at this; omega
     ·exact e
    ·refine List.Sublist.cons _ (ih (x :: a) (List.pairwise_cons.2 ha) hb.2 fun z hz => ?_)
     rcases List.mem_cons.1 (h z hz) with e2 | e2
     ·subst e2
      have hx : x ∈ b := (List.mem_cons.1 (h x (by simp))).resolve_left e
      have h1 := hb.1 x hx
      rcases List.mem_cons.1 hz with e3 | e3
      ·exact absurd e3.symm e
      ·have h2 := ha.1 z e3
       rw [dotB_iff] at h1 h2; omega
     ·exact e2
 exact key _ _ (hs T hn) (hs T' (h.nd hn)) fun d hd => comT_mem.2 (h.com d (comT_mem.1 hd))
end Go.Proofs.YtfhacbhgmnhmlaaGreat
namespace Go.Proofs.YtfhacbhgmnhmlaaGreat
set_option linter.unusedVariables false
set_option linter.unusedSimpArgs false
open Go Go.Eng
abbrev GX.put (x : GX) (i : Nat) (z : RepX) : GX := ⟨x.a, x.c, x.zs.set i z⟩
theorem GX.ok_put {x : GX} {sk : SK} {G : Grp} (hx : x.ok sk G) {i : Nat} {z : RepX} {T : List Tbl} (hi : i < x.zs.length) (hp : z.p = x.zs[i].p) (hT : T.length = G.T.length) : (x.put i z).ok sk ⟨T, G.ls.set i (z.ls.map (·.2)), G.used.set i z.used⟩ := by
 refine ⟨?_, ?_, ?_, ?_⟩
 ·show (x.zs.set i z).length = T.length
  rw [List.length_set, hT]; exact hx.1
 ·show (x.zs.set i z).map _ = _
  rw [List.map_set, hx.2.1]
 ·show (x.zs.set i z).map _ = _
  rw [List.map_set, hx.2.2.1]
 ·rw [← hx.2.2.2]
  show (x.a, x.c, (x.zs.set i z).map fun z : RepX => z.p) = _
  rw [List.map_set, hp]
  have := List.set_getElem_self (i := i) (show i < (x.zs.map fun z : RepX => z.p).length by simpa using hi)
  rw [List.getElem_map] at this
  rw [this]
section
variable {sk : SK} {W0 W : World} {L L' : List Asn} {g q : Nat} {G : Grp} {x : GX} {y : LdX} {T : List Tbl}
theorem rep_open (hl : x.zs.length = T.length) {i : Nat} (hi : i < x.zs.length) (h : St W0 (gce g x :: gar x :: many rce x.zs :: many rld x.zs :: many rtb (x.tz T) :: L) W) :
  St W0 (rce x.zs[i] :: arr PTR T_p_pax_leader x.zs[i].la x.zs[i].lc (x.zs[i].ls.map (·.1)) :: many (lrc x.zs[i].t) x.zs[i].ls :: tb x.zs[i].t (tAt T i) :: gce g x :: gar x :: many rce (x.zs.eraseIdx i) :: many rld (x.zs.eraseIdx i) :: many rtb ((x.tz T).eraseIdx i) :: L) W := by
 have h := (St.wk (L' := many rce x.zs :: many rld x.zs :: many rtb (x.tz T) :: gce g x :: gar x :: L) h).ent ((mtake (F := rce) x.zs hi).trans (ent.cons _ (ent.cons _ ((mtake (F := rld) x.zs hi).trans (ent.cons _ (ent.cons _ (tb_take (i := i) hl (by omega))))))))
 have h := (St.wk (L' := rld x.zs[i] :: rce x.zs[i] :: tb x.zs[i].t (tAt T i) :: gce g x :: gar x :: many rce (x.zs.eraseIdx i) :: many rld (x.zs.eraseIdx i) :: many rtb ((x.tz T).eraseIdx i) :: L) h).flat
 simp only [List.cons_append, List.nil_append] at h
 exact St.wk h
theorem rep_close (hl : x.zs.length = T.length) {i : Nat} (hi : i < x.zs.length) {z : RepX} {U : Tbl} (hp : z.p = x.zs[i].p) (ht : z.t = x.zs[i].t)
  (h : St W0 (rce z :: arr PTR T_p_pax_leader z.la z.lc (z.ls.map (·.1)) :: many (lrc z.t) z.ls :: tb z.t U :: gce g x :: gar x :: many rce (x.zs.eraseIdx i) :: many rld (x.zs.eraseIdx i) :: many rtb ((x.tz T).eraseIdx i) :: L) W) :
  St W0 (gce g (x.put i z) :: gar (x.put i z) :: many rce (x.put i z).zs :: many rld (x.put i z).zs :: many rtb ((x.put i z).tz (T.set i U)) :: L) W := by
 have h := (St.wk (L' := arr PTR T_p_pax_leader z.la z.lc (z.ls.map (·.1)) :: many (lrc z.t) z.ls :: many rld (x.zs.eraseIdx i) :: rce z :: many rce (x.zs.eraseIdx i) :: tb z.t U :: many rtb ((x.tz T).eraseIdx i) :: gce g x :: gar x :: L) h).ent (ent.pack [_, _] _)
 have h : St W0 (rld z :: many rld (x.zs.eraseIdx i) :: rce z :: many rce (x.zs.eraseIdx i) :: tb z.t U :: many rtb ((x.tz T).eraseIdx i) :: gce g x :: gar x :: L) W := h
 rw [ht] at h
 have h := h.ent ((mgive (F := rld) x.zs hi z).trans (ent.cons _ ((mgive (F := rce) x.zs hi z).trans (ent.cons _ (tb_give (i := i) hl (by omega) U)))))
 have h := St.wk (L' := gce g x :: gar x :: many rce (x.zs.set i z) :: many rld (x.zs.set i z) :: many rtb (x.tz (T.set i U)) :: L) h
 have e1 : (x.zs.set i z).map (fun z : RepX => z.p) = x.zs.map fun z : RepX => z.p := by
  rw [List.map_set, hp]
  have := List.set_getElem_self (i := i) (show i < (x.zs.map fun z : RepX => z.p).length by simpa using hi)
  rwa [List.getElem_map] at this
 have e2 : (x.zs.set i z).map (fun z : RepX => z.t) = x.zs.map fun z : RepX => z.t := by
  rw [List.map_set, ht]
  have := List.set_getElem_self (i := i) (show i < (x.zs.map fun z : RepX => z.t).length by simpa using hi)
  rwa [List.getElem_map] at this
 unfold gce gar GX.put GX.tz
 simp only [List.length_set, e1, e2]
 exact h
theorem leadDot {X : LX} {k : Value → World → Prop} (h : St W0 L W) [ht : Tk (ldc q) L X L'] (hk : ∀ W', St W0 (ldc q X :: L') W' → k (.agg #[.int .i64 X.m.dot.rep, .int .i64 X.m.dot.n]) W') : callK PR F_lead_Lead_Dot [.pointer (some ⟨q, 0, none⟩)] k W := by
 apply S.lead_Lead_Dot.call
 delta S.lead_Lead_Dot.body oK oA rD lD eF eU sT cL vC gD gX gP gA gR gL gE gU gC gV hL sB nI
 obtain ⟨hX, h⟩ := ldc_at (h.perm ht.perm)
 (repeat (first | ((with_reducible refine w11 ?_); intros) | ((with_reducible refine v5 ?_); refine ⟨_, rfl, ?_⟩) | ((with_reducible refine v12 ?_ ?_); exact rfl; intros) | ((with_reducible refine w5 ?_ ?_); simp; refine ⟨_, rfl, ?_⟩) | ((with_reducible refine w12 ?_ ?_ ?_ ?_); simp; simp; simp [oneC]; intros) | simp -implicitDefEqProofs only [SE, SU, SV]))
 exact hk _ ((St.wk (L' := cells q (.int .i64 X.n :: .int .i64 X.rep :: .pointer (some ⟨X.t, 0, none⟩) :: .int .i64 X.m.kind :: .int .i64 X.m.dot.rep :: .int .i64 X.m.dot.n :: .int .i64 X.m.bal.1 :: .int .i64 X.m.bal.2 :: X.m.cmd.v :: .int .i64 X.m.seq :: .int .i64 X.m.deps.x0 :: .int .i64 X.m.deps.x1 :: .int .i64 X.m.deps.x2 :: .int .i64 X.m.deps.x3 :: .int .i64 X.m.deps.x4 :: .int .i64 X.m.deps.x5 :: .int .i64 X.m.deps.x6 :: .int .i64 X.phase :: .bool X.fast :: .bool X.apart :: .pointer (pa X.rp.x0) :: .pointer (pa X.rp.x1) :: .pointer (pa X.rp.x2) :: .pointer (pa X.rp.x3) :: .pointer (pa X.rp.x4) :: .pointer (pa X.rp.x5) :: .pointer (pa X.rp.x6) :: .int .i64 X.own.st :: X.own.cmd.v :: .int .i64 X.own.seq :: .int .i64 X.own.deps.x0 :: .int .i64 X.own.deps.x1 :: .int .i64 X.own.deps.x2 :: .int .i64 X.own.deps.x3 :: .int .i64 X.own.deps.x4 :: .int .i64 X.own.deps.x5 :: .int .i64 X.own.deps.x6 :: .int .i64 X.own.bal.1 :: .int .i64 X.own.bal.2 :: .int .i64 X.own.ab.1 :: .int .i64 X.own.ab.2 :: []) T_lead_Lead :: many oc X.rp.list :: many fch X.B :: L') (by assumption)).ent (ldc_ent hX))
theorem lrc_at {tp : Nat} {z : Nat × LdR} (h : St W0 (lrc tp z :: L) W) : ∃ y : LdX, y.ok tp ∧ y.abs = z.2 ∧ St W0 (cells z.1 [.pointer (some ⟨y.q, 0, none⟩), .pointer (qa y.lp.x0), .pointer (qa y.lp.x1), .pointer (qa y.lp.x2), .pointer (qa y.lp.x3), .pointer (qa y.lp.x4), .pointer (qa y.lp.x5), .pointer (qa y.lp.x6)] T_pax_leader :: ldc y.q y.X :: many oa y.lp.list :: L) W := by
 obtain ⟨y, h⟩ := h.ex
 obtain ⟨⟨h1, h2⟩, h⟩ := h.fact
 exact ⟨y, h1, h2, h.flat⟩
theorem lrc_ent {tp : Nat} {z : Nat × LdR} {y : LdX} (h1 : y.ok tp) (h2 : y.abs = z.2) : ent (cells z.1 [.pointer (some ⟨y.q, 0, none⟩), .pointer (qa y.lp.x0), .pointer (qa y.lp.x1), .pointer (qa y.lp.x2), .pointer (qa y.lp.x3), .pointer (qa y.lp.x4), .pointer (qa y.lp.x5), .pointer (qa y.lp.x6)] T_pax_leader :: ldc y.q y.X :: many oa y.lp.list :: L) (lrc tp z :: L) :=
 (ent.pack [_, _, _] L).trans (ent.weak fun _ hp => ⟨y, ⟨h1, h2⟩, hp⟩)
theorem leading_cons (x : LdR) (l : List LdR) (d : Dot) : leadingL (x :: l) d = ((decide (x.ld.m.dot = d) && decide (x.ld.phase ≠ 3) && decide (x.ld.phase ≠ 5)) || leadingL l d) := by
 simp [leadingL]
set_option maxHeartbeats 4000000 in
theorem paxLeading {z : RepX} {d : Dot} {k : Value → World → Prop} (hlen : z.ls.length < 1000000) (h : St W0 (rce z :: arr PTR T_p_pax_leader z.la z.lc (z.ls.map (·.1)) :: many (lrc z.t) z.ls :: L) W)
  (hk : ∀ W', St W0 (rce z :: arr PTR T_p_pax_leader z.la z.lc (z.ls.map (·.1)) :: many (lrc z.t) z.ls :: L) W' → k (.bool (leadingL (z.ls.map (·.2)) d)) W') :
  callK PR F_pax_replica_leading [.pointer (some ⟨z.p, 0, none⟩), .agg #[.int .i64 d.rep, .int .i64 d.n]] k W := by
 apply S.pax_replica_leading.call
 delta S.pax_replica_leading.body oK oA rD lD eF eU sT cL vC gD gX gP gA gR gL gE gU gC gV hL sB nI
 refine bxa h fun db W1 h => ?_
 have h : St W0 (cells db [.int .i64 d.rep, .int .i64 d.n] T_api_Dot :: rce z :: arr PTR T_p_pax_leader z.la z.lc (z.ls.map (·.1)) :: many (lrc z.t) z.ls :: L) W1 := h
 (repeat (first | ((with_reducible refine v5 ?_); refine ⟨_, rfl, ?_⟩) | simp -implicitDefEqProofs only [SE, SU, SV]))
 refine loop_c (σ := Unit) z.ls.length (fun i _ => [.pointer (some ⟨db, 0, none⟩), .slice z.la z.ls.length z.lc, .int .i64 z.ls.length, .int .i64 i])
  (fun i _ W1 => leadingL ((z.ls.map (·.2)).drop i) d = leadingL (z.ls.map (·.2)) d ∧ St W0 (cells db [.int .i64 d.rep, .int .i64 d.n] T_api_Dot :: rce z :: arr PTR T_p_pax_leader z.la z.lc (z.ls.map (·.1)) :: many (lrc z.t) z.ls :: L) W1) () rfl ⟨by simp, h⟩ ?_
 clear h
 rintro K i _ W4 hi ⟨hs, h⟩ hK
 simp -implicitDefEqProofs only [SE, SU, SV]
 delta S.pax_replica_leading.l1 oK oA rD lD eF eU sT cL vC gD gX gP gA gR gL gE gU gC gV hL sB nI
 have ew : IntKind.i64.wrap ((i : Int) + 1) = ((i + 1 : Nat) : Int) := by rw [i64w]; omega
 by_cases hlt : i < z.ls.length
 ·have f1 : decide ((i : Int) < (z.ls.length : Int)) = true := decide_eq_true (by omega)
  obtain ⟨ga, go, hga⟩ := posP (a := z.la) (ps := z.ls.map fun x : Nat × LdR => x.1) (i := i) h (by simpa using hlt)
  have ix := ixP (c := z.lc) hga hlt
  have hdrop : (z.ls.map (·.2)).drop i = z.ls[i].2 :: (z.ls.map (·.2)).drop (i + 1) := by
   rw [List.drop_eq_getElem_cons (by simpa using hlt)]; simp
  rw [hdrop, leading_cons] at hs
  (repeat simp -implicitDefEqProofs only [SE, SU, SV, f1, ix])
  refine ldP (ps := z.ls.map fun x : Nat × LdR => x.1) hga (by assumption) (by simpa using hlt) ?_
  rw [List.getElem_map]
  have h := (St.wk (L' := many (lrc z.t) z.ls :: cells db [.int .i64 d.rep, .int .i64 d.n] T_api_Dot :: rce z :: arr PTR T_p_pax_leader z.la z.lc (z.ls.map (·.1)) :: L) h).ent (mtake (F := lrc z.t) z.ls hlt)
  obtain ⟨y, hy1, hy2, h⟩ := lrc_at h
  have hc : ∀ W', St W0 (ldc y.q y.X :: cells z.ls[i].1 [.pointer (some ⟨y.q, 0, none⟩), .pointer (qa y.lp.x0), .pointer (qa y.lp.x1), .pointer (qa y.lp.x2), .pointer (qa y.lp.x3), .pointer (qa y.lp.x4), .pointer (qa y.lp.x5), .pointer (qa y.lp.x6)] T_pax_leader :: many oa y.lp.list :: many (lrc z.t) (z.ls.eraseIdx i) :: cells db [.int .i64 d.rep, .int .i64 d.n] T_api_Dot :: rce z :: arr PTR T_p_pax_leader z.la z.lc (z.ls.map (·.1)) :: L) W' →
    St W0 (cells db [.int .i64 d.rep, .int .i64 d.n] T_api_Dot :: rce z :: arr PTR T_p_pax_leader z.la z.lc (z.ls.map (·.1)) :: many (lrc z.t) z.ls :: L) W' := fun W' h => by
   have h := (St.wk (L' := cells z.ls[i].1 [.pointer (some ⟨y.q, 0, none⟩), .pointer (qa y.lp.x0), .pointer (qa y.lp.x1), .pointer (qa y.lp.x2), .pointer (qa y.lp.x3), .pointer (qa y.lp.x4), .pointer (qa y.lp.x5), .pointer (qa y.lp.x6)] T_pax_leader :: ldc y.q y.X :: many oa y.lp.list :: many (lrc z.t) (z.ls.eraseIdx i) :: cells db [.int .i64 d.rep, .int .i64 d.n] T_api_Dot :: rce z :: arr PTR T_p_pax_leader z.la z.lc (z.ls.map (·.1)) :: L) h).ent ((lrc_ent hy1 hy2).trans (mback (F := lrc z.t) z.ls hlt))
   exact St.wk h
  rw [← hy2] at hs
  have hs : (decide (y.X.m.dot = d) && decide (y.X.phase ≠ 3) && decide (y.X.phase ≠ 5) || leadingL ((z.ls.map (·.2)).drop (i + 1)) d) = leadingL (z.ls.map (·.2)) d := hs
  rw [← hs] at hk
  have ed : (decide (y.X.m.dot.rep = d.rep) && decide (y.X.m.dot.n = d.n)) = decide (y.X.m.dot = d) := by rw [Bool.eq_iff_iff]; cases y.X.m.dot; cases d; simp
  (repeat (first | ((with_reducible refine v5 ?_); refine ⟨_, rfl, ?_⟩) | simp -implicitDefEqProofs only [SE, SU, SV]))
  refine leadPhase (X := y.X) (by assumption) fun W5 h => ?_
  (repeat (first | ((with_reducible refine v5 ?_); refine ⟨_, rfl, ?_⟩) | simp -implicitDefEqProofs only [SE, SU, SV]))
  refine leadDot (X := y.X) (by exact St.tick (by assumption)) fun W6 h => ?_
  have hno : (decide (y.X.m.dot = d) && decide (y.X.phase ≠ 3) && decide (y.X.phase ≠ 5)) = false → ∀ W', St W0 (ldc y.q y.X :: cells z.ls[i].1 [.pointer (some ⟨y.q, 0, none⟩), .pointer (qa y.lp.x0), .pointer (qa y.lp.x1), .pointer (qa y.lp.x2), .pointer (qa y.lp.x3), .pointer (qa y.lp.x4), .pointer (qa y.lp.x5), .pointer (qa y.lp.x6)] T_pax_leader :: many oa y.lp.list :: many (lrc z.t) (z.ls.eraseIdx i) :: cells db [.int .i64 d.rep, .int .i64 d.n] T_api_Dot :: rce z :: arr PTR T_p_pax_leader z.la z.lc (z.ls.map (·.1)) :: L) W' →
    K [.pointer (some ⟨db, 0, none⟩), .slice z.la z.ls.length z.lc, .int .i64 z.ls.length, .int .i64 ((i + 1 : Nat) : Int)] W' := fun e W' h => by
   refine hK () W' hlt ⟨?_, hc W' h⟩
   rw [← hs, e, Bool.false_or]
  clear hK
  by_cases c1 : y.X.m.dot = d
  ·rw [decide_eq_true c1] at ed
   by_cases c2 : y.X.phase = 3
   ·have f2 := decide_eq_true c2
    (repeat (first | ((with_reducible refine stb_n ?_); intros) | ((with_reducible refine ve ?_); refine ⟨_, rfl, ?_⟩) | ((with_reducible refine v8 ?_ ?_); exact rfl; intros) | simp -implicitDefEqProofs only [SE, SU, SV, ed, f2, ew]))
    exact hno (by simp [c2]) _ (by assumption)
   ·have f2 := decide_eq_false c2
    by_cases c3 : y.X.phase = 5
    ·have f3 := decide_eq_true c3
     (repeat (first | ((with_reducible refine stb_n ?_); intros) | ((with_reducible refine ve ?_); refine ⟨_, rfl, ?_⟩) | ((with_reducible refine v8 ?_ ?_); exact rfl; intros) | simp -implicitDefEqProofs only [SE, SU, SV, ed, f2, f3, ew]))
     exact hno (by simp [c3]) _ (by assumption)
    ·have f3 := decide_eq_false c3
     (repeat (first | ((with_reducible refine stb_n ?_); intros) | ((with_reducible refine ve ?_); refine ⟨_, rfl, ?_⟩) | ((with_reducible refine v8 ?_ ?_); exact rfl; intros) | simp -implicitDefEqProofs only [SE, SU, SV, ed, f2, f3, ew]))
     have e : (decide (y.X.m.dot = d) && decide (y.X.phase ≠ 3) && decide (y.X.phase ≠ 5)) = true := by simp [c1, c2, c3]
     rw [e, Bool.true_or] at hk
     exact hk _ (St.drop (hc _ (by assumption)))
  ·rw [decide_eq_false c1] at ed
   (repeat (first | ((with_reducible refine stb_n ?_); intros) | ((with_reducible refine ve ?_); refine ⟨_, rfl, ?_⟩) | ((with_reducible refine v8 ?_ ?_); exact rfl; intros) | simp -implicitDefEqProofs only [SE, SU, SV, ed, ew]))
   exact hno (by simp [c1]) _ (by assumption)
 ·have f1 : decide ((i : Int) < (z.ls.length : Int)) = false := decide_eq_false (by omega)
  rw [← hs, List.drop_eq_nil_of_le (by simp; omega)] at hk
  (repeat simp -implicitDefEqProofs only [SE, SU, SV, f1])
  exact hk _ (St.drop (by assumption))
end
end Go.Proofs.YtfhacbhgmnhmlaaGreat
namespace Go.Proofs.YtfhacbhgmnhmlaaGreat
set_option linter.unusedVariables false
set_option linter.unusedSimpArgs false
open Go Go.Eng
structure Grp.Ok (k : Nat) (G : Grp) : Prop where
 n : 3 ≤ G.T.length ∧ G.T.length ≤ 7
 nd : ∀ U ∈ G.T, Go.Proofs.YtfhacbhgmnhmlaaGreat.Nd U
 used : ∀ u ∈ G.used, 0 ≤ u ∧ u ≤ 50
 ls : ∀ l ∈ G.ls, l.length ≤ k
theorem getD_mem_or {α : Type} (l : List α) (i : Nat) (d : α) : l.getD i d = d ∨ l.getD i d ∈ l := by
 by_cases h : i < l.length
 ·right; rw [List.getD_eq_getElem?_getD, List.getElem?_eq_getElem h]; exact List.getElem_mem h
 ·left; rw [List.getD_eq_getElem?_getD, List.getElem?_eq_none (by omega)]; rfl
theorem Grp.Ok.usedAt {k : Nat} {G : Grp} (h : G.Ok k) (i : Nat) : 0 ≤ G.used.getD i 0 ∧ G.used.getD i 0 ≤ 50 := by
 rcases getD_mem_or G.used i 0 with e | e
 ·rw [e]; omega
 ·exact h.used _ e
theorem Grp.Ok.lsAt {k : Nat} {G : Grp} (h : G.Ok k) (i : Nat) : (G.l i).length ≤ k := by
 rcases getD_mem_or G.ls i [] with e | e
 ·show (G.ls.getD i []).length ≤ k
  rw [e]; simp
 ·exact h.ls _ e
theorem mem_set_or {α : Type} {l : List α} {i : Nat} {a b : α} (h : b ∈ l.set i a) : b = a ∨ b ∈ l := by
 rcases List.mem_or_eq_of_mem_set h with h | h
 ·exact .inr h
 ·exact .inl h
theorem u8b (b : Int) : Value.int .u8 (IntKind.u8.wrap b) = b8 (UInt8.ofNat (b % 256).toNat) := by
 have e : (UInt8.ofNat (b % 256).toNat).toNat = (b % 256).toNat := by simp [UInt8.toNat_ofNat']; omega
 simp only [b8, e]
 congr 1
 show b % 256 = _
 omega
theorem GX.at {sk : SK} {x : GX} {G : Grp} (hx : x.ok sk G) {i : Nat} (hi : i < x.zs.length) : G.used.getD i 0 = x.zs[i].used ∧ G.l i = x.zs[i].ls.map (·.2) := by
 refine ⟨?_, ?_⟩
 ·rw [← hx.2.2.1, List.getD_eq_getElem?_getD, List.getElem?_map, List.getElem?_eq_getElem hi]; rfl
 ·show G.ls.getD i [] = _
  rw [← hx.2.1, List.getD_eq_getElem?_getD, List.getElem?_map, List.getElem?_eq_getElem hi]; rfl
section
theorem oa_none {L : List Asn} : ent L (many oa (P7.all none).list :: L) := by
 have h1 : ∀ n (L : List Asn), ent L (many oa (List.replicate n none) :: L) := by
  intro n
  induction n with
  | zero => exact fun L => many_nil
  | succ n ih => exact fun L => (ih L).trans ((ent.emp (a := oa none) fun _ => rfl).trans (many_uncons (F := oa) none (List.replicate n none)))
 exact h1 7 L
variable {sk : SK} {W0 W : World} {L L' : List Asn} {g q : Nat} {G : Grp} {x : GX} {y : LdX} {T : List Tbl} {kk : Nat}
theorem grp_put (hx : x.ok sk G) {i : Nat} (hz : i < x.zs.length) (z : RepX) (U : Tbl) (h1 : z.p = x.zs[i].p) (h2 : z.t = x.zs[i].t) (h : St W0 (rce z :: arr PTR T_p_pax_leader z.la z.lc (z.ls.map (·.1)) :: many (lrc z.t) z.ls :: tb z.t U :: gce g x :: gar x :: many rce (x.zs.eraseIdx i) :: many rld (x.zs.eraseIdx i) :: many rtb ((x.tz G.T).eraseIdx i) :: L) W) :
  St W0 (grp g sk ⟨G.T.set i U, G.ls.set i (z.ls.map (·.2)), G.used.set i z.used⟩ :: L) W :=
 (rep_close hx.1 hz h1 h2 h).ent (grp_ent (GX.ok_put hx hz h1 (by simp)))
theorem grp_same (hx : x.ok sk G) {i : Nat} (hz : i < x.zs.length) : (⟨G.T.set i (tAt G.T i), G.ls.set i (x.zs[i].ls.map (·.2)), G.used.set i x.zs[i].used⟩ : Grp) = G := by
 obtain ⟨eu, el⟩ := GX.at hx hz
 rw [tAt_set_self, ← el, ← eu]
 have e1 : G.ls.set i (G.l i) = G.ls := by
  have h1 : i < G.ls.length := by rw [← hx.2.1, List.length_map]; exact hz
  have := List.set_getElem_self h1
  rw [show G.l i = G.ls[i] by show G.ls.getD i [] = _; rw [List.getD_eq_getElem?_getD, List.getElem?_eq_getElem h1]; rfl]
  exact this
 have e2 : G.used.set i (G.used.getD i 0) = G.used := by
  have h1 : i < G.used.length := by rw [← hx.2.2.1, List.length_map]; exact hz
  have := List.set_getElem_self h1
  rw [show G.used.getD i 0 = G.used[i] by rw [List.getD_eq_getElem?_getD, List.getElem?_eq_getElem h1]; rfl]
  exact this
 rw [e1, e2]
theorem ldRep {ga go i : Nat} (hz : i < x.zs.length) (hga : x.a = some ⟨ga, go, none⟩) {k : Value → World → Prop} (h : St W0 L W) (hr : Rd W0 L x.a PTR (x.zs.map fun z : RepX => z.p)) (hk : k (.pointer (some ⟨x.zs[i].p, 0, none⟩)) W) : rdK PR (Instr.loadAt T_p_pax_replica (.pointer (some ⟨ga, go + i * 1, none⟩))) k W := by
 refine ldP (hr := hr) (ps := x.zs.map fun z : RepX => z.p) hga h (by simpa using hz) ?_
 rw [List.getElem_map]; exact hk
theorem lrc_snoc {z : RepX} {xb q : Nat} {X' : LX} (e1 : X'.t = z.t) : ent (cells xb [.pointer (some ⟨(⟨q, X', P7.all none⟩ : LdX).q, 0, none⟩), .pointer (qa ((⟨q, X', P7.all none⟩ : LdX).lp).x0), .pointer (qa ((⟨q, X', P7.all none⟩ : LdX).lp).x1), .pointer (qa ((⟨q, X', P7.all none⟩ : LdX).lp).x2), .pointer (qa ((⟨q, X', P7.all none⟩ : LdX).lp).x3), .pointer (qa ((⟨q, X', P7.all none⟩ : LdX).lp).x4), .pointer (qa ((⟨q, X', P7.all none⟩ : LdX).lp).x5), .pointer (qa ((⟨q, X', P7.all none⟩ : LdX).lp).x6)] T_pax_leader :: ldc q X' :: many (lrc z.t) z.ls :: L) (many (lrc z.t) (z.ls ++ [(xb, ⟨X'.abs, P7.all none⟩)]) :: L) := by
 have hy : LdX.ok z.t ⟨q, X', P7.all none⟩ := ⟨e1, fun p hp => by simp [P7.list] at hp⟩
 refine (ent.cons _ (ent.cons _ (oa_none.trans (ent.refl _)))).trans ?_
 exact (lrc_ent (z := (xb, ⟨X'.abs, P7.all none⟩)) hy rfl).trans ((many_uncons (F := lrc z.t) _ _).trans (many_perm (F := lrc z.t) (List.perm_append_singleton _ _).symm))
theorem appP {t e : TypeId} {z : Value} [ht : TyS PR t e 1 8 z] {a a2 : Option Addr} {c c2 xb : Nat} {l : List Nat} {K : Value → World → Prop} (h : St W0 (arr PTR e a2 c2 [xb] :: arr PTR e a c l :: L) W) (hl : l.length < 1000001)
  (hk : ∀ a' c' W', St W0 (arr PTR e a' c' (l ++ [xb]) :: arr PTR e a2 c2 [xb] :: L) W' → K (.slice a' (l ++ [xb]).length c') W') :
  efK PR (Builtin.append_ #[t, t] t #[.slice a l.length c, .slice a2 [xb].length c2]) K W :=
 appA (e := e) (m := [xb]) h rfl (by simp; omega) (by simp [maxLen]; omega) hk
set_option maxHeartbeats 400000 in
theorem paxPropose {i : Nat} {b : Int} {k : Value → World → Prop} (hO : G.Ok kk) (hkk : kk < 1000000) (hi : i < G.n) (h : St W0 L W) [ht : Tk (grpP g) L (sk, G) L']
  (hk : ∀ W', St W0 (grp g sk (G.propose i (UInt8.ofNat (b % 256).toNat)).1 :: L') W' → k (.bool (G.propose i (UInt8.ofNat (b % 256).toNat)).2) W') :
  callK PR F_pax_Group_propose [.pointer (some ⟨g, 0, none⟩), .int .i64 i, .int .i64 b] k W := by
 apply S.pax_Group_propose.call
 delta S.pax_Group_propose.body oK oA rD lD eF eU sT cL vC gD gX gP gA gR gL gE gU gC gV hL sB nI
 obtain ⟨x, hx, h⟩ := grp_at (h.perm ht.perm)
 have hn : x.zs.length = G.T.length := hx.1
 have hz : i < x.zs.length := by rw [hn]; exact hi
 obtain ⟨eu, el⟩ := GX.at hx hz
 have hu := hO.usedAt i
 have hll := hO.lsAt i
 rw [eu] at hu
 rw [el, List.length_map] at hll
 obtain ⟨ga, go, hga⟩ := posP (a := x.a) (ps := x.zs.map fun z : RepX => z.p) (i := i) h (by simpa using hz)
 have ix := ixP (c := x.c) hga hz
 have h := rep_open hn hz h
 have ldp := fun {W : World} {L : List Asn} {k : Value → World → Prop} => ldRep (W0 := W0) (W := W) (L := L) (k := k) hz hga
 have hcl := fun {W' : World} => grp_put (W0 := W0) (L := L') (W := W') (g := g) hx hz
 have hsame := grp_same hx hz
 generalize x.zs[i] = z at *
 have hfail : (G.propose i (UInt8.ofNat (b % 256).toNat)) = (G, false) → ∀ W', St W0 (rce z :: arr PTR T_p_pax_leader z.la z.lc (z.ls.map (·.1)) :: many (lrc z.t) z.ls :: tb z.t (tAt G.T i) :: gce g x :: gar x :: many rce (x.zs.eraseIdx i) :: many rld (x.zs.eraseIdx i) :: many rtb ((x.tz G.T).eraseIdx i) :: L') W' → k (.bool false) W' := by
  intro e W' h
  rw [e] at hk
  have h := hcl z _ rfl rfl h
  rw [hsame] at h
  exact hk W' h
 (repeat (first | ((with_reducible refine v5 ?_); refine ⟨_, rfl, ?_⟩) | simp -implicitDefEqProofs only [SE, SU, SV, ix]))
 refine ldp (by assumption) inferInstance ?_
 by_cases h50 : 50 ≤ z.used
 ·(repeat (first | ((with_reducible refine v5 ?_); refine ⟨_, rfl, ?_⟩) | simp -implicitDefEqProofs only [SE, SU, SV, h50]))
  exact hfail (by unfold Grp.propose; rw [eu, if_pos h50]) _ (by assumption)
 have ew : IntKind.i64.wrap (z.used + 1) = z.used + 1 := by rw [i64w]; omega
 (repeat (first | ((with_reducible refine v5 ?_); refine ⟨_, rfl, ?_⟩) | (refine okF_i (bldP_eq rfl) ?_; try simp only [BLS, SB, Nat.reduceAdd]) | simp -implicitDefEqProofs only [SE, SU, SV, h50, ix]))
 (repeat simp -implicitDefEqProofs only [SE, SU, SV, u8b])
 refine bsA B8 [UInt8.ofNat (b % 256).toNat] (n := 1) (by exact St.tick (by assumption)) rfl rfl (by decide) (by decide) rfl fun ca cc W3 h => ?_
 (repeat (first | ((with_reducible refine stb_n ?_); intros) | ((with_reducible refine v8 ?_ ?_); exact rfl; intros) | simp -implicitDefEqProofs only [SE, SU, SV, ew]))
 have hlen : (x.zs.length : Int) = (G.n : Int) := by rw [hn]
 rw [hlen]
 have ep : ∀ r, Go.Proofs.YtfhacbhgmnhmlaaGreat.propose G.n i ⟨i, z.used + 1⟩ [UInt8.ofNat (b % 256).toNat] (tAt G.T i) = r → G.propose i (UInt8.ofNat (b % 256).toNat) = (match r with
   | .inl (l, T) => (⟨G.T.set i T, G.ls.set i (G.l i ++ [⟨l, P7.all none⟩]), G.used.set i (z.used + 1)⟩, true)
   | .inr _ => (G, false)) := by
  intro r e
  unfold Grp.propose
  rw [eu, if_neg h50, show G.t i = tAt G.T i from rfl, e]
  cases r <;> rfl
 refine leadPropose (n := G.n) (rep := i) (d := ⟨i, z.used + 1⟩) (x := ⟨ca, cc, [UInt8.ofNat (b % 256).toNat]⟩) (p := z.t) (T := tAt G.T i) (by assumption) (by simp) (fun e W' he h => ?_) (fun q X' T' W' he e1 h => ?_)
 ·have e2 := ep _ he
  by_cases c : e = 0
  ·exfalso
   subst c
   unfold Go.Proofs.YtfhacbhgmnhmlaaGreat.propose at he
   simp only at he
   split at he
   ·cases he
   ·split at he
    ·cases he
    ·cases he
  ·have f1 := decide_eq_false c
   (repeat simp -implicitDefEqProofs only [SE, SU, SV, f1])
   exact hfail e2 _ (St.wk h)
 ·have e2 := ep _ he
  (repeat (first | ((with_reducible refine w3 ?_); intros) | ((with_reducible refine v5 ?_); refine ⟨_, rfl, ?_⟩) | ((with_reducible refine v12 ?_ ?_); exact rfl; intros) | ((with_reducible refine w5 ?_ ?_); simp; refine ⟨_, rfl, ?_⟩) | (refine okF_i (bldP_eq rfl) ?_; try simp only [BLS, SB, Nat.reduceAdd]) | simp -implicitDefEqProofs only [SE, SU, SV, ew]))
  rename_i xb W5 h
  (try simp only [BLS, SB, stL_a, stL_b, stL_c, lsub_a, lsub_b, lsub_c, List.append_nil, List.take_nil, List.drop_nil, Nat.reduceAdd] at h)
  refine bsA PTR [xb] (n := 1) (by assumption) rfl rfl (by decide) (by decide) rfl fun a2 c2 W6 h => ?_
  have hls : z.ls.length = (z.ls.map (·.1)).length := by simp
  rw [hls] at h ⊢
  have h := St.wk (L' := arr PTR T_p_pax_leader a2 c2 [xb] :: arr PTR T_p_pax_leader z.la z.lc (z.ls.map (·.1)) :: cells xb [.pointer (some ⟨(⟨q, X', P7.all none⟩ : LdX).q, 0, none⟩), .pointer (qa ((⟨q, X', P7.all none⟩ : LdX).lp).x0), .pointer (qa ((⟨q, X', P7.all none⟩ : LdX).lp).x1), .pointer (qa ((⟨q, X', P7.all none⟩ : LdX).lp).x2), .pointer (qa ((⟨q, X', P7.all none⟩ : LdX).lp).x3), .pointer (qa ((⟨q, X', P7.all none⟩ : LdX).lp).x4), .pointer (qa ((⟨q, X', P7.all none⟩ : LdX).lp).x5), .pointer (qa ((⟨q, X', P7.all none⟩ : LdX).lp).x6)] T_pax_leader :: ldc q X' :: tb z.t T' :: cells z.p [.pointer (some ⟨z.t, 0, none⟩), .slice z.la (z.ls.map (·.1)).length z.lc, .int .i64 (z.used + 1)] T_pax_replica :: many (lrc z.t) z.ls :: gce g x :: gar x :: many rce (x.zs.eraseIdx i) :: many rld (x.zs.eraseIdx i) :: many rtb ((x.tz G.T).eraseIdx i) :: L') h
  refine appP h (by simp; omega) fun a' c' W8 h => ?_
  (repeat ((with_reducible refine v12 ?_ ?_); exact rfl; intros))
  rename_i h
  (try simp only [BLS, SB, stL_a, stL_b, stL_c, lsub_a, lsub_b, lsub_c, List.append_nil, List.take_nil, List.drop_nil, Nat.reduceAdd] at h)
  rw [e2] at hk
  have h := (St.wk (L' := cells xb [.pointer (some ⟨(⟨q, X', P7.all none⟩ : LdX).q, 0, none⟩), .pointer (qa ((⟨q, X', P7.all none⟩ : LdX).lp).x0), .pointer (qa ((⟨q, X', P7.all none⟩ : LdX).lp).x1), .pointer (qa ((⟨q, X', P7.all none⟩ : LdX).lp).x2), .pointer (qa ((⟨q, X', P7.all none⟩ : LdX).lp).x3), .pointer (qa ((⟨q, X', P7.all none⟩ : LdX).lp).x4), .pointer (qa ((⟨q, X', P7.all none⟩ : LdX).lp).x5), .pointer (qa ((⟨q, X', P7.all none⟩ : LdX).lp).x6)] T_pax_leader :: ldc q X' :: many (lrc z.t) z.ls :: arr PTR T_p_pax_leader a' c' (z.ls.map (·.1) ++ [xb]) :: cells z.p [.pointer (some ⟨z.t, 0, none⟩), .slice a' (z.ls.map (·.1) ++ [xb]).length c', .int .i64 (z.used + 1)] T_pax_replica :: tb z.t T' :: gce g x :: gar x :: many rce (x.zs.eraseIdx i) :: many rld (x.zs.eraseIdx i) :: many rtb ((x.tz G.T).eraseIdx i) :: L') h).ent (lrc_snoc e1)
  have em : z.ls.map (fun x : Nat × LdR => x.1) ++ [xb] = (z.ls ++ [(xb, (⟨X'.abs, P7.all none⟩ : LdR))]).map fun x : Nat × LdR => x.1 := by simp
  have en : (z.ls ++ [(xb, (⟨X'.abs, P7.all none⟩ : LdR))]).map (fun x : Nat × LdR => x.2) = G.l i ++ [⟨X'.abs, P7.all none⟩] := by rw [el]; simp
  rw [em, List.length_map] at h
  have h := hcl ⟨z.p, z.t, a', c', z.ls ++ [(xb, ⟨X'.abs, P7.all none⟩)], z.used + 1⟩ T' rfl rfl (St.wk h)
  simp only [en] at h
  exact hk _ h
set_option maxHeartbeats 400000 in
theorem paxRecover {i : Nat} {d : Dot} {k : Value → World → Prop} (hO : G.Ok kk) (hkk : kk < 1000000) (hi : i < G.n) (h : St W0 L W) [ht : Tk (grpP g) L (sk, G) L']
  (hk : ∀ W', St W0 (grp g sk (G.recover i d).1 :: L') W' → k (.bool (G.recover i d).2) W') :
  callK PR F_pax_Group_recover [.pointer (some ⟨g, 0, none⟩), .int .i64 i, .agg #[.int .i64 d.rep, .int .i64 d.n]] k W := by
 apply S.pax_Group_recover.call
 delta S.pax_Group_recover.body oK oA rD lD eF eU sT cL vC gD gX gP gA gR gL gE gU gC gV hL sB nI
 obtain ⟨x, hx, h⟩ := grp_at (h.perm ht.perm)
 have hn : x.zs.length = G.T.length := hx.1
 have hz : i < x.zs.length := by rw [hn]; exact hi
 obtain ⟨eu, el⟩ := GX.at hx hz
 have hll := hO.lsAt i
 rw [el, List.length_map] at hll
 obtain ⟨ga, go, hga⟩ := posP (a := x.a) (ps := x.zs.map fun z : RepX => z.p) (i := i) h (by simpa using hz)
 have ix := ixP (c := x.c) hga hz
 have h := rep_open hn hz h
 have ldp := fun {W : World} {L : List Asn} {k : Value → World → Prop} => ldRep (W0 := W0) (W := W) (L := L) (k := k) hz hga
 have hcl := fun {W' : World} => grp_put (W0 := W0) (L := L') (W := W') (g := g) hx hz
 have hsame := grp_same hx hz
 generalize x.zs[i] = z at *
 refine bxa h fun db W1 h => ?_
 have h : St W0 (cells db [.int .i64 d.rep, .int .i64 d.n] T_api_Dot :: rce z :: arr PTR T_p_pax_leader z.la z.lc (z.ls.map (·.1)) :: many (lrc z.t) z.ls :: tb z.t (tAt G.T i) :: gce g x :: gar x :: many rce (x.zs.eraseIdx i) :: many rld (x.zs.eraseIdx i) :: many rtb ((x.tz G.T).eraseIdx i) :: L') W1 := h
 have hfail : (G.recover i d) = (G, false) → ∀ W', St W0 (rce z :: arr PTR T_p_pax_leader z.la z.lc (z.ls.map (·.1)) :: many (lrc z.t) z.ls :: tb z.t (tAt G.T i) :: gce g x :: gar x :: many rce (x.zs.eraseIdx i) :: many rld (x.zs.eraseIdx i) :: many rtb ((x.tz G.T).eraseIdx i) :: L') W' → k (.bool false) W' := by
  intro e W' h
  rw [e] at hk
  have h := hcl z _ rfl rfl h
  rw [hsame] at h
  exact hk W' h
 (repeat (first | ((with_reducible refine v5 ?_); refine ⟨_, rfl, ?_⟩) | simp -implicitDefEqProofs only [SE, SU, SV, ix]))
 refine ldp (by assumption) inferInstance ?_
 have hbad : ∀ (p : d.n < 1 ∨ 50 < d.n ∨ leadingL (G.l i) d = true), (G.recover i d) = (G, false) := fun p => by unfold Grp.recover; rw [if_pos p]
 by_cases c1 : d.n < 1
 ·(repeat (first | ((with_reducible refine v5 ?_); refine ⟨_, rfl, ?_⟩) | simp -implicitDefEqProofs only [SE, SU, SV, c1]))
  exact hfail (hbad (.inl c1)) _ (St.wk (by assumption))
 by_cases c2 : 50 < d.n
 ·(repeat (first | ((with_reducible refine v5 ?_); refine ⟨_, rfl, ?_⟩) | simp -implicitDefEqProofs only [SE, SU, SV, c1, c2]))
  exact hfail (hbad (.inr (.inl c2))) _ (St.wk (by assumption))
 (repeat (first | ((with_reducible refine v5 ?_); refine ⟨_, rfl, ?_⟩) | simp -implicitDefEqProofs only [SE, SU, SV, c1, c2]))
 refine paxLeading (z := z) (d := d) (by omega) (St.wk (L' := rce z :: arr PTR T_p_pax_leader z.la z.lc (z.ls.map (·.1)) :: many (lrc z.t) z.ls :: cells db [.int .i64 d.rep, .int .i64 d.n] T_api_Dot :: tb z.t (tAt G.T i) :: gce g x :: gar x :: many rce (x.zs.eraseIdx i) :: many rld (x.zs.eraseIdx i) :: many rtb ((x.tz G.T).eraseIdx i) :: L') (by assumption)) fun W2 h => ?_
 rw [← el]
 cases c3 : leadingL (G.l i) d with
 | true =>
  (repeat simp -implicitDefEqProofs only [SE, SU, SV])
  exact hfail (hbad (.inr (.inr c3))) _ (St.wk (by assumption))
 | false =>
 (repeat (first | ((with_reducible refine v5 ?_); refine ⟨_, rfl, ?_⟩) | simp -implicitDefEqProofs only [SE, SU, SV]))
 have hlen : (x.zs.length : Int) = (G.n : Int) := by rw [hn]
 rw [hlen]
 have ep : ∀ r, Go.Proofs.YtfhacbhgmnhmlaaGreat.recover G.n i d (tAt G.T i) = r → G.recover i d = (match r with
   | .inl (l, T) => (⟨G.T.set i T, G.ls.set i (G.l i ++ [⟨l, P7.all none⟩]), G.used⟩, true)
   | .inr _ => (G, false)) := by
  intro r e
  unfold Grp.recover
  rw [if_neg (by rintro (h | h | h); exact c1 h; exact c2 h; rw [c3] at h; cases h), show G.t i = tAt G.T i from rfl, e]
  cases r <;> rfl
 refine leadRecover (n := G.n) (rep := i) (d := d) (p := z.t) (T := tAt G.T i) (by exact St.tick (by assumption)) (fun e W' he h => ?_) (fun q X' T' W' he e1 h => ?_)
 ·have e2 := ep _ he
  by_cases c : e = 0
  ·exfalso
   subst c
   unfold Go.Proofs.YtfhacbhgmnhmlaaGreat.recover at he
   simp only at he
   split at he
   ·cases he
   ·split at he
    ·cases he
    ·split at he
     ·rename_i hne
      exact hne (Sum.inr.inj he)
     ·cases he
  ·have f1 := decide_eq_false c
   (repeat simp -implicitDefEqProofs only [SE, SU, SV, f1])
   exact hfail e2 _ (St.wk h)
 ·have e2 := ep _ he
  (repeat (first | ((with_reducible refine w3 ?_); intros) | ((with_reducible refine v5 ?_); refine ⟨_, rfl, ?_⟩) | (refine okF_i (bldP_eq rfl) ?_; try simp only [BLS, SB, Nat.reduceAdd]) | simp -implicitDefEqProofs only [SE, SU, SV]))
  rename_i xb W5 h
  (try simp only [BLS, SB, stL_a, stL_b, stL_c, lsub_a, lsub_b, lsub_c, List.append_nil, List.take_nil, List.drop_nil, Nat.reduceAdd] at h)
  refine bsA PTR [xb] (n := 1) (by assumption) rfl rfl (by decide) (by decide) rfl fun a2 c2 W6 h => ?_
  have hls : z.ls.length = (z.ls.map (·.1)).length := by simp
  rw [show rce z = cells z.p [.pointer (some ⟨z.t, 0, none⟩), .slice z.la z.ls.length z.lc, .int .i64 z.used] T_pax_replica from rfl, hls] at h
  rw [hls]
  have h := St.wk (L' := arr PTR T_p_pax_leader a2 c2 [xb] :: arr PTR T_p_pax_leader z.la z.lc (z.ls.map (·.1)) :: cells xb [.pointer (some ⟨(⟨q, X', P7.all none⟩ : LdX).q, 0, none⟩), .pointer (qa ((⟨q, X', P7.all none⟩ : LdX).lp).x0), .pointer (qa ((⟨q, X', P7.all none⟩ : LdX).lp).x1), .pointer (qa ((⟨q, X', P7.all none⟩ : LdX).lp).x2), .pointer (qa ((⟨q, X', P7.all none⟩ : LdX).lp).x3), .pointer (qa ((⟨q, X', P7.all none⟩ : LdX).lp).x4), .pointer (qa ((⟨q, X', P7.all none⟩ : LdX).lp).x5), .pointer (qa ((⟨q, X', P7.all none⟩ : LdX).lp).x6)] T_pax_leader :: ldc q X' :: tb z.t T' :: cells z.p [.pointer (some ⟨z.t, 0, none⟩), .slice z.la (z.ls.map (·.1)).length z.lc, .int .i64 z.used] T_pax_replica :: many (lrc z.t) z.ls :: gce g x :: gar x :: many rce (x.zs.eraseIdx i) :: many rld (x.zs.eraseIdx i) :: many rtb ((x.tz G.T).eraseIdx i) :: L') h
  refine appP h (by simp; omega) fun a' c' W8 h => ?_
  (repeat ((with_reducible refine v12 ?_ ?_); exact rfl; intros))
  rename_i h
  (try simp only [BLS, SB, stL_a, stL_b, stL_c, lsub_a, lsub_b, lsub_c, List.append_nil, List.take_nil, List.drop_nil, Nat.reduceAdd] at h)
  rw [e2] at hk
  have h := (St.wk (L' := cells xb [.pointer (some ⟨(⟨q, X', P7.all none⟩ : LdX).q, 0, none⟩), .pointer (qa ((⟨q, X', P7.all none⟩ : LdX).lp).x0), .pointer (qa ((⟨q, X', P7.all none⟩ : LdX).lp).x1), .pointer (qa ((⟨q, X', P7.all none⟩ : LdX).lp).x2), .pointer (qa ((⟨q, X', P7.all none⟩ : LdX).lp).x3), .pointer (qa ((⟨q, X', P7.all none⟩ : LdX).lp).x4), .pointer (qa ((⟨q, X', P7.all none⟩ : LdX).lp).x5), .pointer (qa ((⟨q, X', P7.all none⟩ : LdX).lp).x6)] T_pax_leader :: ldc q X' :: many (lrc z.t) z.ls :: arr PTR T_p_pax_leader a' c' (z.ls.map (·.1) ++ [xb]) :: cells z.p [.pointer (some ⟨z.t, 0, none⟩), .slice a' (z.ls.map (·.1) ++ [xb]).length c', .int .i64 z.used] T_pax_replica :: tb z.t T' :: gce g x :: gar x :: many rce (x.zs.eraseIdx i) :: many rld (x.zs.eraseIdx i) :: many rtb ((x.tz G.T).eraseIdx i) :: L') h).ent (lrc_snoc e1)
  have em : z.ls.map (fun x : Nat × LdR => x.1) ++ [xb] = (z.ls ++ [(xb, (⟨X'.abs, P7.all none⟩ : LdR))]).map fun x : Nat × LdR => x.1 := by simp
  have en : (z.ls ++ [(xb, (⟨X'.abs, P7.all none⟩ : LdR))]).map (fun x : Nat × LdR => x.2) = G.l i ++ [⟨X'.abs, P7.all none⟩] := by rw [el]; simp
  rw [em, List.length_map] at h
  have h := hcl ⟨z.p, z.t, a', c', z.ls ++ [(xb, ⟨X'.abs, P7.all none⟩)], z.used⟩ T' rfl rfl (St.wk h)
  have eus : G.used.set i z.used = G.used := congrArg Grp.used hsame
  simp only [en, eus] at h
  exact hk _ h
end
end Go.Proofs.YtfhacbhgmnhmlaaGreat
namespace Go.Proofs.YtfhacbhgmnhmlaaGreat
set_option linter.unusedVariables false
set_option linter.unusedSimpArgs false
open Go Go.Eng
section
variable {sk : SK} {W0 W : World} {L L' : List Asn} {g q : Nat} {G : Grp} {x : GX} {y : LdX} {T : List Tbl} {kk : Nat}
structure GX.fresh (i : Nat) (x : GX) : Prop where
 len : x.zs.length = i
 one : ∀ z ∈ x.zs, z.la = none ∧ z.lc = 0 ∧ z.ls = [] ∧ z.used = 0
theorem map_rep {α β : Type} (f : α → β) (b : β) (l : List α) (h : ∀ a ∈ l, f a = b) : l.map f = List.replicate l.length b := by
 induction l with
 | nil => rfl
 | cons a l ih => rw [List.map_cons, h a (by simp), ih fun c hc => h c (by simp [hc]), List.length_cons, List.replicate_succ]
theorem GX.fresh.ok {i : Nat} {x : GX} (h : x.fresh i) : x.ok x.sk (gNew i) := by
 refine ⟨?_, ?_, ?_, rfl⟩
 ·show x.zs.length = (List.replicate i ([] : Tbl)).length
  rw [List.length_replicate, h.len]
 ·rw [map_rep (fun z : RepX => z.ls.map (·.2)) [] x.zs fun z hz => by rw [(h.one z hz).2.2.1]; rfl, h.len]; rfl
 ·rw [map_rep (fun z : RepX => z.used) 0 x.zs fun z hz => (h.one z hz).2.2.2, h.len]; rfl
theorem paxNew {n : Int} {k : Value → World → Prop} (h : St W0 L W) (hk1 : (n < 3 ∨ 7 < n) → ∀ W', St W0 L W' → k (.tuple #[.pointer none, .int .i64 1]) W')
  (hk2 : ∀ m : Nat, n = m → 3 ≤ m → m ≤ 7 → ∀ g sk W', St W0 (grp g sk (gNew m) :: L) W' → k (.tuple #[.pointer (some ⟨g, 0, none⟩), .int .i64 0]) W') :
  callK PR F_pax_New [.int .i64 n] k W := by
 apply S.pax_New.call
 delta S.pax_New.body oK oA rD lD eF eU sT cL vC gD gX gP gA gR gL gE gU gC gV hL sB nI
 by_cases c1 : n < 3
 ·(repeat simp -implicitDefEqProofs only [SE, SU, SV, c1])
  exact hk1 (.inl c1) _ (by assumption)
 by_cases c2 : 7 < n
 ·(repeat simp -implicitDefEqProofs only [SE, SU, SV, c1, c2])
  exact hk1 (.inr c2) _ (by assumption)
 clear hk1
 obtain ⟨m, rfl⟩ := Int.eq_ofNat_of_zero_le (show 0 ≤ n by omega)
 (repeat (first | ((with_reducible refine w3 ?_); intros) | (refine okF_i (bldP_eq rfl) ?_; try simp only [BLS, SB, Nat.reduceAdd]) | simp -implicitDefEqProofs only [SE, SU, SV, c1, c2]))
 rename_i g W1 h
 (try simp only [BLS, SB, stL_a, stL_b, stL_c, lsub_a, lsub_b, lsub_c, List.append_nil, List.take_nil, List.drop_nil, Nat.reduceAdd] at h)
 refine joinK_i ?_
 have h := ((((h.ent (arr_nil PTR T_p_pax_replica)).ent (many_nil (F := rce))).ent (many_nil (F := rld))).ent (many_nil (F := rtb)))
 refine loop_c (σ := GX) m (fun i _ => [.pointer (some ⟨g, 0, none⟩), .int .i64 m, .int .i64 i])
  (fun i x W1 => x.fresh i ∧ St W0 (gce g x :: gar x :: many rce x.zs :: many rld x.zs :: many rtb (x.tz (List.replicate i [])) :: L) W1) ⟨none, 0, []⟩ rfl ⟨⟨rfl, fun z hz => nomatch hz⟩, St.wk (L' := cells g [.slice none 0 0] T_pax_Group :: arr PTR T_p_pax_replica none 0 [] :: many rce [] :: many rld [] :: many rtb [] :: L) h⟩ ?_
 clear h
 rintro K i x W4 hi ⟨hf, h⟩ hK
 simp -implicitDefEqProofs only [SE, SU, SV]
 delta S.pax_New.l1 oK oA rD lD eF eU sT cL vC gD gX gP gA gR gL gE gU gC gV hL sB nI
 have ew : IntKind.i64.wrap ((i : Int) + 1) = ((i + 1 : Nat) : Int) := by rw [i64w]; omega
 by_cases hlt : i < m
 ·have f1 : decide ((i : Int) < (m : Int)) = true := decide_eq_true (by omega)
  (repeat (first | ((with_reducible refine v5 ?_); refine ⟨_, rfl, ?_⟩) | simp -implicitDefEqProofs only [SE, SU, SV, f1]))
  refine instNew (by exact St.tick (by assumption)) fun t W5 h => ?_
  (repeat (first | ((with_reducible first | refine w3 ?_ | refine stb_n ?_); intros) | ((with_reducible refine v8 ?_ ?_); exact rfl; intros) | (refine okF_i (bldP_eq rfl) ?_; try simp only [BLS, SB, Nat.reduceAdd])))
  rename_i zb W6 h
  (try simp only [BLS, SB, stL_a, stL_b, stL_c, lsub_a, lsub_b, lsub_c, List.append_nil, List.take_nil, List.drop_nil, Nat.reduceAdd] at h)
  refine bsA PTR [zb] (n := 1) (by assumption) rfl rfl (by decide) (by decide) rfl fun a2 c2 W6 h => ?_
  (repeat (first | ((with_reducible refine stb_n ?_); intros) | ((with_reducible refine v8 ?_ ?_); exact rfl; intros)))
  have hxl : x.zs.length = (x.zs.map fun z : RepX => z.p).length := by simp
  have hxz := hf.len
  obtain ⟨xa, xc, xzs⟩ := x
  simp only at hxl hxz h ⊢
  have h := St.wk (L' := arr PTR T_p_pax_replica a2 c2 [zb] :: arr PTR T_p_pax_replica xa xc (xzs.map fun z : RepX => z.p) :: cells zb [.pointer (some ⟨t, 0, none⟩), .slice none 0 0, .int .i64 0] T_pax_replica :: tb t [] :: gce g ⟨xa, xc, xzs⟩ :: many rce xzs :: many rld xzs :: many rtb (GX.tz ⟨xa, xc, xzs⟩ (List.replicate i [])) :: L) h
  rw [hxl]
  refine appP h (by rw [← hxl]; omega) fun a' c' W8 h => ?_
  (repeat (first | ((with_reducible refine v12 ?_ ?_); exact rfl; intros) | simp -implicitDefEqProofs only [SE, SU, SV, ew]))
  rename_i h
  (try simp only [BLS, SB, stL_a, stL_b, stL_c, lsub_a, lsub_b, lsub_c, List.append_nil, List.take_nil, List.drop_nil, Nat.reduceAdd] at h)
  let z : RepX := ⟨zb, t, none, 0, [], 0⟩
  have h := (h.ent (arr_nil PTR T_p_pax_leader)).ent (many_nil (F := lrc t))
  have h := (St.wk (L' := arr PTR T_p_pax_leader none 0 [] :: many (lrc t) [] :: many rld xzs :: cells zb [.pointer (some ⟨t, 0, none⟩), .slice none 0 0, .int .i64 0] T_pax_replica :: many rce xzs :: tb t [] :: many rtb (GX.tz ⟨xa, xc, xzs⟩ (List.replicate i [])) :: cells g [.slice a' (xzs.map (fun z : RepX => z.p) ++ [zb]).length c'] T_pax_Group :: arr PTR T_p_pax_replica a' c' (xzs.map (fun z : RepX => z.p) ++ [zb]) :: L) h).ent (ent.pack [_, _] _)
  have h : St W0 (rld z :: many rld xzs :: rce z :: many rce xzs :: rtb (t, []) :: many rtb (GX.tz ⟨xa, xc, xzs⟩ (List.replicate i [])) :: cells g [.slice a' (xzs.map (fun z : RepX => z.p) ++ [zb]).length c'] T_pax_Group :: arr PTR T_p_pax_replica a' c' (xzs.map (fun z : RepX => z.p) ++ [zb]) :: L) _ := h
  have sn : ∀ {β : Type} {F : β → Asn} {b : β} {l : List β} {L : List Asn}, ent (F b :: many F l :: L) (many F (l ++ [b]) :: L) := fun {β F b l L} => (many_uncons (F := F) b l).trans (many_perm (F := F) (List.perm_append_singleton _ _).symm)
  have h := h.ent (sn.trans (ent.cons _ (sn.trans (ent.cons _ sn))))
  have e1 : xzs.map (fun z : RepX => z.p) ++ [zb] = (xzs ++ [z]).map fun z : RepX => z.p := by simp [z]
  have e2 : GX.tz ⟨xa, xc, xzs⟩ (List.replicate i []) ++ [(t, [])] = GX.tz ⟨a', c', xzs ++ [z]⟩ (List.replicate (i + 1) []) := by
   unfold GX.tz
   rw [List.replicate_succ', List.map_append, List.zip_append (by simp [hxz])]; rfl
  rw [e1, e2, List.length_map] at h
  refine hK ⟨a', c', xzs ++ [z]⟩ _ hlt ⟨⟨by simp [hxz], fun w hw => ?_⟩, St.wk h⟩
  rcases List.mem_append.1 hw with hw | hw
  ·exact hf.one w hw
  ·rw [List.mem_singleton.1 hw]; exact ⟨rfl, rfl, rfl, rfl⟩
 ·have f1 : decide ((i : Int) < (m : Int)) = false := decide_eq_false (by omega)
  have hi2 : i = m := by omega
  subst hi2
  (repeat simp -implicitDefEqProofs only [SE, SU, SV, f1])
  delta S.pax_New.j1 oK oA rD lD eF eU sT cL vC gD gX gP gA gR gL gE gU gC gV hL sB nI
  skip
  exact hk2 i rfl (by omega) (by omega) g _ _ (h.ent (grp_ent hf.ok))
end
end Go.Proofs.YtfhacbhgmnhmlaaGreat
namespace Go.Proofs.YtfhacbhgmnhmlaaGreat
set_option linter.unusedVariables false
set_option linter.unusedSimpArgs false
open Go Go.Eng
def Small (v : P7 Int) : Prop := ∀ j, j < 7 → 0 ≤ v.get j ∧ v.get j ≤ 1000
theorem mostS_small {T : Tbl} {v : P7 Int} {d : Dot} (hd : d.okI = true) (h : Small v) : Small (mostS T v d) := by
 unfold mostS
 split
 ·intro j hj
  rw [P7.get_set _ _ _ _ hj]
  split
  ·unfold Dot.okI at hd
   simp only [decide_eq_true_eq] at hd
   have := h d.rep.toNat (by omega)
   unfold imax
   split <;> omega
  ·exact h j hj
 ·exact h
theorem foldM_small {T : Tbl} : ∀ (l : List Dot) (v : P7 Int), (∀ d ∈ l, d.okI = true) → Small v → Small (l.foldl (mostS T) v)
 | [], _, _, h => h
 | d :: l, v, hl, h => foldM_small l _ (fun e he => hl e (by simp [he])) (mostS_small (hl d (by simp)) h)
theorem promT_ok {T : Tbl} (ht : Tok T) : ∀ d ∈ promT T, d.okI = true := fun d hd => by
 obtain ⟨r, hr⟩ := promT_mem.1 hd
 exact (ht _ hr).1
theorem openR_len (T : Tbl) (rep : Nat) (k : Int) : (openR T rep k).length ≤ k.toNat := by
 unfold openR
 exact Nat.le_trans (List.length_filter_le _ _) (by simp)
theorem openR_succ (T : Tbl) (rep i : Nat) : openR T rep ((i + 1 : Nat) : Int) = openR T rep (i : Int) ++ if (trec T ⟨rep, (i : Int) + 1⟩).st ≠ 3 then [⟨rep, (i : Int) + 1⟩] else [] := by
 unfold openR
 rw [Int.toNat_natCast, Int.toNat_natCast, List.range_succ, List.map_append, List.filter_append]
 exact congrArg _ (filter_one (fun d => (trec T d).st ≠ 3) _)
theorem openP_len {T : Tbl} {v : P7 Int} (h : Small v) (n : Nat) (hn : n ≤ 7) : ((List.range n).flatMap fun r => openR T r (v.get r)).length ≤ n * 1000 := by
 refine Nat.le_trans (flatMap_len _ 1000 (List.range n) fun r hr => ?_) (by simp)
 have h1 := openR_len T r (v.get r)
 have h2 := h r (by have := List.mem_range.1 hr; omega)
 omega
section
variable {sk : SK} {W0 W : World} {L L' : List Asn} {g q : Nat} {G : Grp} {x : GX} {y : LdX} {T : List Tbl} {kk : Nat}
set_option maxRecDepth 100000 in
set_option maxHeartbeats 1000000 in
theorem paxOpen {j : Nat} {k : Value → World → Prop} (hN : G.Nd) (hj0 : j < G.n) (h : St W0 L W) [ht : Tk (grpP g) L (sk, G) L']
  (hk : ∀ a c W', (openT (G.t j)).length ≤ 7000 → St W0 (arr DOT T_api_Dot a c (openT (G.t j)) :: grp g sk G :: L') W' → k (.slice a (openT (G.t j)).length c) W') : callK PR F_pax_Group_open [.pointer (some ⟨g, 0, none⟩), .int .i64 j] k W := by
 apply S.pax_Group_open.call
 delta S.pax_Group_open.body oK oA rD lD eF eU sT cL vC gD gX gP gA gR gL gE gU gC gV hL sB nI
 obtain ⟨x, hx, h⟩ := grp_at (h.perm ht.perm)
 have hn : x.zs.length = G.n := hx.1
 have hj : j < x.zs.length := by omega
 obtain ⟨ga, go, hga⟩ := posP (a := x.a) (ps := x.zs.map fun z : RepX => z.p) (i := j) h (by simpa using hj)
 have h := grp_one hx hj h
 have ix := ixP (c := x.c) hga hj
 have hnd : Nd (G.t j) := nd_at hN j
 have htok : Tok (G.t j) := tb_tok (p := x.zs[j].t) h.drop
 have hlenP : (promT (G.t j)).length ≤ 7000 := by
  have := tok_len hnd htok
  unfold promT; rw [(sortDt_perm _).length_eq, List.length_map]; exact this
 have hcl := fun {W' : World} => grp_shut (W0 := W0) (L := L') (W := W') (g := g) hx hj
 (repeat (first | ((with_reducible refine v5 ?_); refine ⟨_, rfl, ?_⟩) | simp -implicitDefEqProofs only [SE, SU, SV, ix]))
 refine ldRep hj hga (by assumption) inferInstance ?_
 (repeat (first | ((with_reducible refine w11 ?_); intros) | ((with_reducible refine v5 ?_); refine ⟨_, rfl, ?_⟩) | simp -implicitDefEqProofs only [SE, SU, SV]))
 rename_i mb W3 h
 (try simp only [BLS, SB, stL_a, stL_b, stL_c, lsub_a, lsub_b, lsub_c, List.append_nil, List.take_nil, List.drop_nil, Nat.reduceAdd] at h)
 have h := St.wk (L' := tb x.zs[j].t (G.t j) :: cells mb [.int .i64 (P7.all 0 : P7 Int).x0, .int .i64 (P7.all 0 : P7 Int).x1, .int .i64 (P7.all 0 : P7 Int).x2, .int .i64 (P7.all 0 : P7 Int).x3, .int .i64 (P7.all 0 : P7 Int).x4, .int .i64 (P7.all 0 : P7 Int).x5, .int .i64 (P7.all 0 : P7 Int).x6] T_vec_Vec :: rce x.zs[j] :: gce g x :: gar x :: many rce (x.zs.eraseIdx j) :: many rld x.zs :: many rtb ((x.tz G.T).eraseIdx j) :: L') h
 generalize hz : x.zs[j] = z at *
 have hpok := promT_ok htok
 have hopen : openT (G.t j) = (List.range 7).flatMap fun rep => openR (G.t j) rep (((promT (G.t j)).foldl (mostS (G.t j)) (P7.all 0)).get rep) := rfl
 rw [hopen] at hk
 clear hopen
 generalize hT : G.t j = U at *
 refine joinK_i ?_
 have hsm : Small ((promT U).foldl (mostS U) (P7.all 0)) := foldM_small _ _ hpok fun j _ => by rw [P7.get_all]; omega
 -- behind the greatest
 have hJ1 : ∀ W', St W0 (cells mb [.int .i64 ((promT U).foldl (mostS U) (P7.all 0)).x0, .int .i64 ((promT U).foldl (mostS U) (P7.all 0)).x1, .int .i64 ((promT U).foldl (mostS U) (P7.all 0)).x2, .int .i64 ((promT U).foldl (mostS U) (P7.all 0)).x3, .int .i64 ((promT U).foldl (mostS U) (P7.all 0)).x4, .int .i64 ((promT U).foldl (mostS U) (P7.all 0)).x5, .int .i64 ((promT U).foldl (mostS U) (P7.all 0)).x6] T_vec_Vec :: rce z :: tb z.t U :: gce g x :: gar x :: many rce (x.zs.eraseIdx j) :: many rld x.zs :: many rtb ((x.tz G.T).eraseIdx j) :: L') W' →
   S.pax_Group_open.j1 k (.pointer (some ⟨z.t, 0, none⟩)) (.pointer (some ⟨mb, 0, none⟩)) W' := by
  intro W' h
  generalize (promT U).foldl (mostS U) (P7.all 0) = v at *
  delta S.pax_Group_open.j1 oK oA rD lD eF eU sT cL vC gD gX gP gA gR gL gE gU gC gV hL sB nI
  refine joinK_i ?_
  (repeat (first | ((with_reducible refine v5 ?_); refine ⟨_, rfl, ?_⟩) | simp -implicitDefEqProofs only [SE, SU, SV]))
  refine loop_c (σ := Option Addr × Nat × List Dot) 7 (fun i s => [.pointer (some ⟨z.t, 0, none⟩), .slice s.1 s.2.2.length s.2.1, .agg #[.int .i64 v.x0, .int .i64 v.x1, .int .i64 v.x2, .int .i64 v.x3, .int .i64 v.x4, .int .i64 v.x5, .int .i64 v.x6], .int .i64 i])
   (fun i s W1 => s.2.2 = ((List.range i).flatMap fun r => openR U r (v.get r)) ∧ St W0 (arr DOT T_api_Dot s.1 s.2.1 s.2.2 :: rce z :: tb z.t U :: gce g x :: gar x :: many rce (x.zs.eraseIdx j) :: many rld x.zs :: many rtb ((x.tz G.T).eraseIdx j) :: L') W1)
   (none, 0, []) rfl ⟨by simp, (St.drop (by assumption)).ent (arr_nil _ _)⟩ ?_
  clear h
  rintro K i ⟨a, c, s⟩ W4 hi ⟨hs, h⟩ hK
  simp only at hs h hK ⊢
  simp -implicitDefEqProofs only [SE, SU, SV]
  delta S.pax_Group_open.l1 oK oA rD lD eF eU sT cL vC gD gX gP gA gR gL gE gU gC gV hL sB nI
  by_cases hlt : i < 7
  ·have f1 : decide ((i : Int) < 7) = true := decide_eq_true (by omega)
   have ev := idxV7i (x := v) (i := i) hlt
   have hv := hsm i hlt
   have hsl := openP_len (T := U) hsm i (by omega)
   rw [← hs] at hsl
   have ew : IntKind.i64.wrap ((i : Int) + 1) = ((i + 1 : Nat) : Int) := by rw [i64w]; omega
   (repeat simp -implicitDefEqProofs only [SE, SU, SV, f1])
   refine joinK_i ?_
   (repeat simp -implicitDefEqProofs only [SE, SU, SV, ev])
   have hJ3 : ∀ a' c' s' W', s' = s ++ openR U i (v.get i) → St W0 (arr DOT T_api_Dot a' c' s' :: rce z :: tb z.t U :: gce g x :: gar x :: many rce (x.zs.eraseIdx j) :: many rld x.zs :: many rtb ((x.tz G.T).eraseIdx j) :: L') W' →
     S.pax_Group_open.j3 K (.pointer (some ⟨z.t, 0, none⟩)) (.slice a' s'.length c') (.agg #[.int .i64 v.x0, .int .i64 v.x1, .int .i64 v.x2, .int .i64 v.x3, .int .i64 v.x4, .int .i64 v.x5, .int .i64 v.x6]) (.int .i64 i) W' := by
    intro a' c' s' W' e h
    delta S.pax_Group_open.j3 oK oA rD lD eF eU sT cL vC gD gX gP gA gR gL gE gU gC gV hL sB nI
    (repeat simp -implicitDefEqProofs only [SE, SU, SV, ew])
    refine hK (a', c', s') _ hlt ⟨?_, h⟩
    simp only
    rw [e, List.range_succ, List.flatMap_append, ← hs]; simp
   clear hK
   obtain ⟨kn, hkn⟩ := Int.eq_ofNat_of_zero_le hv.1
   rw [hkn] at hv hJ3 ⊢
   refine loop_c (σ := Option Addr × Nat × List Dot) kn (fun q s => [.pointer (some ⟨z.t, 0, none⟩), .slice s.1 s.2.2.length s.2.1, .int .i64 i, .int .i64 kn, .int .i64 ((q : Int) + 1), .agg #[.int .i64 v.x0, .int .i64 v.x1, .int .i64 v.x2, .int .i64 v.x3, .int .i64 v.x4, .int .i64 v.x5, .int .i64 v.x6], .int .i64 i])
    (fun q s1 W1 => s1.2.2 = s ++ openR U i (q : Int) ∧ St W0 (arr DOT T_api_Dot s1.1 s1.2.1 s1.2.2 :: rce z :: tb z.t U :: gce g x :: gar x :: many rce (x.zs.eraseIdx j) :: many rld x.zs :: many rtb ((x.tz G.T).eraseIdx j) :: L') W1)
    (a, c, s) rfl ⟨by simp [openR], h⟩ ?_
   clear h
   rintro K2 q ⟨a1, c1, s1⟩ W5 hq ⟨hs1, h⟩ hK2
   simp only at hs1 h hK2 ⊢
   simp -implicitDefEqProofs only [SE, SU, SV]
   delta S.pax_Group_open.l2 oK oA rD lD eF eU sT cL vC gD gX gP gA gR gL gE gU gC gV hL sB nI
   have hsl1 : s1.length ≤ 7000 := by
    rw [hs1, List.length_append]
    have := openR_len U i (q : Int)
    omega
   by_cases hql : q < kn
   ·have f2 : decide ((q : Int) + 1 ≤ (kn : Int)) = true := decide_eq_true (by omega)
    have ew2 : IntKind.i64.wrap ((q : Int) + 1 + 1) = ((q + 1 : Nat) : Int) + 1 := by rw [i64w]; omega
    have hst := openR_succ U i q
    have hJ4 : ∀ a' c' s' W', s' = s1 ++ (if (trec U ⟨i, (q : Int) + 1⟩).st ≠ 3 then [⟨i, (q : Int) + 1⟩] else []) → St W0 (arr DOT T_api_Dot a' c' s' :: rce z :: tb z.t U :: gce g x :: gar x :: many rce (x.zs.eraseIdx j) :: many rld x.zs :: many rtb ((x.tz G.T).eraseIdx j) :: L') W' →
      S.pax_Group_open.j4 K2 (.pointer (some ⟨z.t, 0, none⟩)) (.slice a' s'.length c') (.int .i64 i) (.int .i64 kn) (.int .i64 ((q : Int) + 1)) (.agg #[.int .i64 v.x0, .int .i64 v.x1, .int .i64 v.x2, .int .i64 v.x3, .int .i64 v.x4, .int .i64 v.x5, .int .i64 v.x6]) (.int .i64 i) W' := by
     intro a' c' s' W' e h
     delta S.pax_Group_open.j4 oK oA rD lD eF eU sT cL vC gD gX gP gA gR gL gE gU gC gV hL sB nI
     (repeat simp -implicitDefEqProofs only [SE, SU, SV, ew2])
     refine hK2 (a', c', s') _ hql ⟨?_, h⟩
     simp only
     rw [e, hst, hs1, List.append_assoc]
    clear hK2 hJ3
    (repeat simp -implicitDefEqProofs only [SE, SU, SV, f2])
    refine joinK_i ?_
    (repeat (first | ((with_reducible refine w11 ?_); intros) | ((with_reducible refine v5 ?_); refine ⟨_, rfl, ?_⟩) | ((with_reducible refine v12 ?_ ?_); exact rfl; intros) | ((with_reducible refine w5 ?_ ?_); simp; refine ⟨_, rfl, ?_⟩) | ((with_reducible refine w12 ?_ ?_ ?_ ?_); simp; simp; simp [oneC]; intros) | (refine okF_i (bldP_eq rfl) ?_; try simp only [BLS, SB, Nat.reduceAdd]) | simp -implicitDefEqProofs only [SE, SU, SV]))
    rename_i db _ _ W6 h
    (try simp only [BLS, SB, stL_a, stL_b, stL_c, lsub_a, lsub_b, lsub_c, List.append_nil, List.take_nil, List.drop_nil, Nat.reduceAdd] at h)
    refine instRec (p := z.t) (T := U) (d := ⟨i, (q : Int) + 1⟩) (by assumption) fun y W6 hy h => ?_
    have hys : (trec U ⟨i, (q : Int) + 1⟩).st = y.st := by rw [← hy]; rfl
    rw [hys] at hJ4
    by_cases h3 : y.st = 3
    ·have f3 := decide_eq_true h3
     rw [if_neg (by simp [h3])] at hJ4
     (repeat simp -implicitDefEqProofs only [SE, SU, SV, f3])
     exact hJ4 a1 c1 s1 _ (by simp) (St.wk (by assumption))
    ·have f3 := decide_eq_false h3
     rw [if_pos h3] at hJ4
     (repeat (first | ((with_reducible refine v5 ?_); refine ⟨_, rfl, ?_⟩) | simp -implicitDefEqProofs only [SE, SU, SV, f3]))
     refine bsA DOT [(⟨i, (q : Int) + 1⟩ : Dot)] (n := 1) (by assumption) rfl rfl (by decide) (by decide) rfl fun a2 c2 W7 h => ?_
     refine appA (a := a1) (l := s1) (m := [(⟨i, (q : Int) + 1⟩ : Dot)]) h rfl (by simp; omega) (by simp [maxLen]; omega) fun a' c' W8 h => ?_
     skip
     exact hJ4 a' c' _ _ rfl (St.wk h)
   ·have f2 : decide ((q : Int) + 1 ≤ (kn : Int)) = false := decide_eq_false (by omega)
    have hqk : q = kn := by omega
    subst hqk
    (repeat simp -implicitDefEqProofs only [SE, SU, SV, f2])
    exact hJ3 a1 c1 s1 _ hs1 h
  ·have f1 : decide ((i : Int) < 7) = false := decide_eq_false (by omega)
   have hi7 : i = 7 := by omega
   subst hi7
   have hsl := openP_len (T := U) hsm 7 (by omega)
   (repeat simp -implicitDefEqProofs only [SE, SU, SV, f1])
   delta S.pax_Group_open.j2 oK oA rD lD eF eU sT cL vC gD gX gP gA gR gL gE gU gC gV hL sB nI
   rw [← hs] at hk hsl
   have hcl := hcl (W' := W4)
   exact hk a c _ hsl ((grp_shut hx hj (by rw [hz, hT]; exact St.wk (L' := rce z :: tb z.t U :: gce g x :: gar x :: many rce (x.zs.eraseIdx j) :: many rld x.zs :: many rtb ((x.tz G.T).eraseIdx j) :: arr DOT T_api_Dot a c s :: L') h)).perm (List.Perm.swap _ _ _))
 clear hk hcl
 refine instPromised (p := z.t) (T := U) (by assumption) hnd fun al cl W4 h => ?_
 (repeat simp -implicitDefEqProofs only [SE, SU, SV])
 generalize hP : promT U = P at *
 refine loop_c (σ := P7 Int) P.length (fun i _ => [.pointer (some ⟨z.t, 0, none⟩), .pointer (some ⟨mb, 0, none⟩), .slice al P.length cl, .int .i64 P.length, .int .i64 i])
  (fun i v W1 => v = (P.take i).foldl (mostS U) (P7.all 0) ∧ St W0 (cells mb [.int .i64 v.x0, .int .i64 v.x1, .int .i64 v.x2, .int .i64 v.x3, .int .i64 v.x4, .int .i64 v.x5, .int .i64 v.x6] T_vec_Vec :: arr DOT T_api_Dot al cl P :: rce z :: tb z.t U :: gce g x :: gar x :: many rce (x.zs.eraseIdx j) :: many rld x.zs :: many rtb ((x.tz G.T).eraseIdx j) :: L') W1)
  (P7.all 0) rfl ⟨by simp, St.wk h⟩ ?_
 clear h
 rintro K i v W5 hi ⟨hv, h⟩ hK
 simp -implicitDefEqProofs only [SE, SU, SV]
 delta S.pax_Group_open.l3 oK oA rD lD eF eU sT cL vC gD gX gP gA gR gL gE gU gC gV hL sB nI
 have ew : IntKind.i64.wrap ((i : Int) + 1) = ((i + 1 : Nat) : Int) := by rw [i64w]; omega
 by_cases hlt : i < P.length
 ·have f1 : decide ((i : Int) < (P.length : Int)) = true := decide_eq_true (by omega)
  have hst : (P.take (i + 1)).foldl (mostS U) (P7.all 0) = mostS U v P[i] := by
   rw [List.take_succ_eq_append_getElem hlt, List.foldl_append, ← hv]; rfl
  have hpi := hpok _ (List.getElem_mem hlt)
  clear hJ1
  (repeat simp -implicitDefEqProofs only [SE, SU, SV, f1])
  refine joinK_i ?_
  refine ixA (i := i) (a := al) (l := P) (A := DOT) (by assumption) rfl rfl hlt fun g1 o1 ha => ?_
  cases ha
  refine ldA0 (i := i) (l := P) (A := DOT) (by assumption) rfl hlt (v := .agg #[.int .i64 (P[i]).rep, .int .i64 (P[i]).n]) rfl (by simp [DOT]) ?_
  generalize P[i] = d at *
  (repeat (first | ((with_reducible refine w11 ?_); intros) | ((with_reducible refine v5 ?_); refine ⟨_, rfl, ?_⟩) | ((with_reducible refine v12 ?_ ?_); exact rfl; intros) | ((with_reducible refine w5 ?_ ?_); simp; refine ⟨_, rfl, ?_⟩) | ((with_reducible refine w12 ?_ ?_ ?_ ?_); simp; simp; simp [oneC]; intros) | simp -implicitDefEqProofs only [SE, SU, SV]))
  rename_i db _ _ W6 h
  (try simp only [BLS, SB, stL_a, stL_b, stL_c, lsub_a, lsub_b, lsub_c, List.append_nil, List.take_nil, List.drop_nil, Nat.reduceAdd] at h)
  refine instRec (p := z.t) (T := U) (d := d) (by assumption) fun y W6 hy h => ?_
  have hJ5 : ∀ v' W', v' = mostS U v d → St W0 (cells mb [.int .i64 v'.x0, .int .i64 v'.x1, .int .i64 v'.x2, .int .i64 v'.x3, .int .i64 v'.x4, .int .i64 v'.x5, .int .i64 v'.x6] T_vec_Vec :: arr DOT T_api_Dot (some ⟨g1, o1, none⟩) cl P :: rce z :: tb z.t U :: gce g x :: gar x :: many rce (x.zs.eraseIdx j) :: many rld x.zs :: many rtb ((x.tz G.T).eraseIdx j) :: L') W' →
    S.pax_Group_open.j5 K (.pointer (some ⟨z.t, 0, none⟩)) (.pointer (some ⟨mb, 0, none⟩)) (.slice (some ⟨g1, o1, none⟩) P.length cl) (.int .i64 P.length) (.int .i64 i) W' := by
   intro v' W' e h
   delta S.pax_Group_open.j5 oK oA rD lD eF eU sT cL vC gD gX gP gA gR gL gE gU gC gV hL sB nI
   (repeat simp -implicitDefEqProofs only [SE, SU, SV, ew])
   exact hK v' _ hlt ⟨by rw [hst]; exact e, h⟩
  clear hK hst
  have hm : mostS U v d = if 0 < y.st ∨ y.bal ≠ (0, 0) then v.set d.rep.toNat (imax (v.get d.rep.toNat) d.n) else v := by unfold mostS; rw [← hy]; rfl
  rw [hm] at hJ5
  have eb : (decide (y.bal.1 = 0) && decide (y.bal.2 = 0)) = decide (y.bal = (0, 0)) := by rw [Bool.eq_iff_iff]; simp [Prod.ext_iff]
  have hrep : 0 ≤ d.rep ∧ d.rep < 7 := by unfold Dot.okI at hpi; simp at hpi; omega
  have ia : idxA 7 1 (.pointer (some ⟨mb, 0, none⟩)) (.int .i64 d.rep) = some (.pointer (some ⟨mb, d.rep.toNat, none⟩)) := by rw [idxA_blk (by omega) (by omega)]; simp
  have hlt7 : d.rep.toNat < 7 := by omega
  by_cases c1 : 0 < y.st
  ·rw [if_pos (.inl c1)] at hJ5
   (repeat (first | ((with_reducible refine w11 ?_); intros) | ((with_reducible refine v5 ?_); refine ⟨_, rfl, ?_⟩) | ((with_reducible refine v12 ?_ ?_); exact rfl; intros) | ((with_reducible refine w5 ?_ ?_); simp; refine ⟨_, rfl, ?_⟩) | ((with_reducible refine w12 ?_ ?_ ?_ ?_); simp; simp; simp [oneC]; intros) | simp -implicitDefEqProofs only [SE, SU, SV, c1, ia, max2i]))
   generalize d.rep.toNat = r at *
   clear ia
   rcases P7.cases7 hlt7 with rfl | rfl | rfl | rfl | rfl | rfl | rfl
   all_goals
    (repeat (first | ((with_reducible refine v5 ?_); refine ⟨_, rfl, ?_⟩) | ((with_reducible refine v12 ?_ ?_); exact rfl; intros) | simp -implicitDefEqProofs only [SE, SU, SV, max2i]))
    rename_i h
    (try simp only [BLS, SB, stL_a, stL_b, stL_c, lsub_a, lsub_b, lsub_c, List.append_nil, List.take_nil, List.drop_nil, Nat.reduceAdd] at h)
    refine hJ5 _ _ rfl ?_
    simp (decide := true) only [imax, if_true, if_false]
    exact St.wk h
  ·by_cases c2 : y.bal = (0, 0)
   ·rw [decide_eq_true c2] at eb
    rw [if_neg (by rintro (h | h); exact c1 h; exact h c2)] at hJ5
    (repeat (first | ((with_reducible refine w11 ?_); intros) | ((with_reducible first | refine v5 ?_ | refine vn ?_); refine ⟨_, rfl, ?_⟩) | ((with_reducible refine v12 ?_ ?_); exact rfl; intros) | ((with_reducible refine w5 ?_ ?_); simp; refine ⟨_, rfl, ?_⟩) | ((with_reducible refine w12 ?_ ?_ ?_ ?_); simp; simp; simp [oneC]; intros) | (refine okF_i (bldP_eq rfl) ?_; try simp only [BLS, SB, Nat.reduceAdd]) | simp -implicitDefEqProofs only [SE, SU, SV, c1, eb]))
    rename_i h
    (try simp only [BLS, SB, stL_a, stL_b, stL_c, lsub_a, lsub_b, lsub_c, List.append_nil, List.take_nil, List.drop_nil, Nat.reduceAdd] at h)
    exact hJ5 _ _ rfl (St.wk h)
   ·rw [decide_eq_false c2] at eb
    rw [if_pos (.inr c2)] at hJ5
    (repeat (first | ((with_reducible refine w11 ?_); intros) | ((with_reducible first | refine v5 ?_ | refine vn ?_); refine ⟨_, rfl, ?_⟩) | ((with_reducible refine v12 ?_ ?_); exact rfl; intros) | ((with_reducible refine w5 ?_ ?_); simp; refine ⟨_, rfl, ?_⟩) | ((with_reducible refine w12 ?_ ?_ ?_ ?_); simp; simp; simp [oneC]; intros) | (refine okF_i (bldP_eq rfl) ?_; try simp only [BLS, SB, Nat.reduceAdd]) | simp -implicitDefEqProofs only [SE, SU, SV, c1, eb, ia, max2i]))
    generalize d.rep.toNat = r at *
    clear ia
    rcases P7.cases7 hlt7 with rfl | rfl | rfl | rfl | rfl | rfl | rfl
    all_goals
     (repeat (first | ((with_reducible refine v5 ?_); refine ⟨_, rfl, ?_⟩) | ((with_reducible refine v12 ?_ ?_); exact rfl; intros) | simp -implicitDefEqProofs only [SE, SU, SV, max2i]))
     rename_i h
     (try simp only [BLS, SB, stL_a, stL_b, stL_c, lsub_a, lsub_b, lsub_c, List.append_nil, List.take_nil, List.drop_nil, Nat.reduceAdd] at h)
     refine hJ5 _ _ rfl ?_
     simp (decide := true) only [imax, if_true, if_false]
     exact St.wk h
 ·have f1 : decide ((i : Int) < (P.length : Int)) = false := decide_eq_false (by omega)
  rw [List.take_of_length_le (by omega)] at hv
  rw [← hv] at hJ1
  (repeat simp -implicitDefEqProofs only [SE, SU, SV, f1])
  exact hJ1 _ (St.wk (by assumption))
end
end Go.Proofs.YtfhacbhgmnhmlaaGreat
namespace Go.Proofs.YtfhacbhgmnhmlaaGreat
set_option linter.unusedVariables false
set_option linter.unusedSimpArgs false
open Go Go.Eng
section
variable {sk : SK} {W0 W : World} {L L' : List Asn} {g q : Nat} {G : Grp} {x : GX} {y : LdX} {T : List Tbl} {kk : Nat}
theorem tabDo {to : Nat} {m : Msg BSl} {k : Value → World → Prop} (hl : x.zs.length = T.length) (hto : to < T.length) (hml : m.cmd.bs.length < 1099511627776)
  (h : St W0 (many rtb (x.tz T) :: fch m.cmd :: L) W)
  (hk : ∀ (a : Ans BSl) W', St W0 (many rtb (x.tz (T.set to (tdo (tAt T to) (m.map BSl.bs)).1)) :: fch m.cmd :: L) W' → k (.tuple #[.agg #[.bool a.ok, .int .i64 a.bal.1, .int .i64 a.bal.2, .int .i64 a.rc.st, a.rc.cmd.v, .int .i64 a.rc.seq, .int .i64 a.rc.deps.x0, .int .i64 a.rc.deps.x1, .int .i64 a.rc.deps.x2, .int .i64 a.rc.deps.x3, .int .i64 a.rc.deps.x4, .int .i64 a.rc.deps.x5, .int .i64 a.rc.deps.x6, .int .i64 a.rc.bal.1, .int .i64 a.rc.bal.2, .int .i64 a.rc.ab.1, .int .i64 a.rc.ab.2], .int .i64 (tdo (tAt T to) (m.map BSl.bs)).2.2]) W') :
  callK PR F_inst_Table_Do [.pointer (some ⟨(x.zs[to]'(by omega)).t, 0, none⟩), .agg #[.int .i64 m.kind, .int .i64 m.dot.rep, .int .i64 m.dot.n, .int .i64 m.bal.1, .int .i64 m.bal.2, m.cmd.v, .int .i64 m.seq, .int .i64 m.deps.x0, .int .i64 m.deps.x1, .int .i64 m.deps.x2, .int .i64 m.deps.x3, .int .i64 m.deps.x4, .int .i64 m.deps.x5, .int .i64 m.deps.x6]] k W := by
 have h := h.ent (tb_take hl hto)
 refine instDo (T := tAt T to) (m := m) h hml fun a W' _ h => ?_
 have h := (St.wk (L' := tb (x.zs[to]'(by omega)).t (tdo (tAt T to) (m.map BSl.bs)).1 :: many rtb ((x.tz T).eraseIdx to) :: fch m.cmd :: L) h).ent (tb_give hl hto _)
 exact hk a W' h
def spS (n : Nat) (m : Msg Bs) (T' : List Tbl) (to : Nat) : List Tbl := if to = n then T' else T'.set to (tdo (tAt T' to) m).1
theorem spreadD_eq (n : Nat) (T : List Tbl) (d : Dot) : spreadD n T d = (List.range T.length).foldl (spS n (spreadM (tAt T n) d)) T := rfl
theorem spS_len (n : Nat) (m : Msg Bs) (T : List Tbl) (to : Nat) : (spS n m T to).length = T.length := by
 unfold spS; split <;> simp
theorem spF_len (n : Nat) (m : Msg Bs) : ∀ (l : List Nat) (T : List Tbl), (l.foldl (spS n m) T).length = T.length
 | [], _ => rfl
 | a :: l, T => (spF_len n m l _).trans (spS_len n m T a)
set_option maxRecDepth 100000 in
set_option maxHeartbeats 1000000 in
theorem paxSpread {n : Nat} {k : Value → World → Prop} (hN : G.Nd) (h7 : G.T.length ≤ 7) (hn0 : n < G.n) (h : St W0 L W) [ht : Tk (grpP g) L (sk, G) L']
  (hk : ∀ W', St W0 (grp g sk ⟨spreadT n G.T, G.ls, G.used⟩ :: L') W' → k (.tuple #[]) W') : callK PR F_pax_Group_spread [.pointer (some ⟨g, 0, none⟩), .int .i64 n] k W := by
 apply S.pax_Group_spread.call
 delta S.pax_Group_spread.body oK oA rD lD eF eU sT cL vC gD gX gP gA gR gL gE gU gC gV hL sB nI
 have hn0 : n < G.T.length := hn0
 have hhas : G.has (n : Int) = true := has_iff.2 ⟨by omega, by omega⟩
 have hcom : G.committed (n : Int) = comT (tAt G.T n) := by unfold Grp.committed; rw [hhas, if_pos rfl, Int.toNat_natCast]
 have hlen := com_len (h.perm ht.perm) hN (n : Int)
 refine paxCommitted (g := g) (i := (n : Int)) h hN fun al cl W3 h => ?_
 rw [hcom] at h hlen ⊢
 have hsp : spreadT n G.T = (comT (tAt G.T n)).foldl (spreadD n) G.T := rfl
 rw [hsp] at hk
 clear hsp hcom
 (repeat simp -implicitDefEqProofs only [SE, SU, SV])
 generalize comT (tAt G.T n) = A at *
 refine loop_c (σ := List Tbl) A.length (fun i _ => [.pointer (some ⟨g, 0, none⟩), .int .i64 n, .slice al A.length cl, .int .i64 A.length, .int .i64 i])
  (fun i T W1 => T = (A.take i).foldl (spreadD n) G.T ∧ T.length = G.T.length ∧ St W0 (arr DOT T_api_Dot al cl A :: grp g sk ⟨T, G.ls, G.used⟩ :: L') W1) G.T rfl ⟨by simp, rfl, h⟩ ?_
 clear h
 rintro K i T W4 hi ⟨hT, hTl, h⟩ hK
 simp -implicitDefEqProofs only [SE, SU, SV]
 delta S.pax_Group_spread.l1 oK oA rD lD eF eU sT cL vC gD gX gP gA gR gL gE gU gC gV hL sB nI
 have ew : IntKind.i64.wrap ((i : Int) + 1) = ((i + 1 : Nat) : Int) := by rw [i64w]; omega
 by_cases hlt : i < A.length
 ·have f1 : decide ((i : Int) < (A.length : Int)) = true := decide_eq_true (by omega)
  have hst : (A.take (i + 1)).foldl (spreadD n) G.T = spreadD n T A[i] := by
   rw [List.take_succ_eq_append_getElem hlt, List.foldl_append, ← hT]; rfl
  rw [spreadD_eq] at hst
  (repeat simp -implicitDefEqProofs only [SE, SU, SV, f1])
  refine joinK_i ?_
  refine ixA (i := i) (a := al) (l := A) (A := DOT) (by assumption) rfl rfl hlt fun g1 o1 ha => ?_
  cases ha
  refine ldA0 (i := i) (l := A) (A := DOT) (by assumption) rfl hlt (v := .agg #[.int .i64 (A[i]).rep, .int .i64 (A[i]).n]) rfl (by simp [DOT]) ?_
  generalize A[i] = d at *
  (repeat (first | ((with_reducible refine w11 ?_); intros) | ((with_reducible refine v5 ?_); refine ⟨_, rfl, ?_⟩) | ((with_reducible refine v12 ?_ ?_); exact rfl; intros) | ((with_reducible refine w5 ?_ ?_); simp; refine ⟨_, rfl, ?_⟩) | ((with_reducible refine w12 ?_ ?_ ?_ ?_); simp; simp; simp [oneC]; intros) | simp -implicitDefEqProofs only [SE, SU, SV]))
  rename_i db _ W5 h
  (try simp only [BLS, SB, stL_a, stL_b, stL_c, lsub_a, lsub_b, lsub_c, List.append_nil, List.take_nil, List.drop_nil, Nat.reduceAdd] at h)
  have htok : Tok (tAt T n) := grp_tok (G := ⟨T, G.ls, G.used⟩) (St.wk (L' := grp g sk ⟨T, G.ls, G.used⟩ :: L') h) n
  refine paxRec (g := g) (i := (n : Int)) (d := d) (by assumption) fun y W6 hy h => ?_
  have hyr : y.map BSl.bs = trec (tAt T n) d := by
   rw [hy]; unfold Grp.recd
   have : Grp.has ⟨T, G.ls, G.used⟩ (n : Int) = true := has_iff.2 ⟨by omega, by show (n : Int) < (T.length : Int); omega⟩
   rw [this, if_pos rfl, Int.toNat_natCast]
  have hml : y.cmd.bs.length < 1099511627776 := by
   have h1 : y.cmd.bs.length = (trec (tAt T n) d).cmd.length := congrArg (fun r : Rec Bs => r.cmd.length) hyr
   have := htok.trec d
   omega
  have hmm : (⟨3, d, y.bal, y.cmd, y.seq, y.deps⟩ : Msg BSl).map BSl.bs = spreadM (tAt T n) d := by unfold spreadM; rw [← hyr]; rfl
  rw [← hmm] at hst
  clear hmm hyr hy
  (repeat (first | ((with_reducible refine w11 ?_); intros) | ((with_reducible refine v5 ?_); refine ⟨_, rfl, ?_⟩) | ((with_reducible refine v12 ?_ ?_); exact rfl; intros) | ((with_reducible refine w5 ?_ ?_); simp; refine ⟨_, rfl, ?_⟩) | ((with_reducible refine w12 ?_ ?_ ?_ ?_); simp; simp; simp [oneC]; intros) | (refine okF_i (bldP_eq rfl) ?_; try simp only [BLS, SB, Nat.reduceAdd]) | simp -implicitDefEqProofs only [SE, SU, SV]))
  rename_i mb _ _ W7 h
  (try simp only [BLS, SB, stL_a, stL_b, stL_c, lsub_a, lsub_b, lsub_c, List.append_nil, List.take_nil, List.drop_nil, Nat.reduceAdd] at h)
  obtain ⟨x, hx, h⟩ := grp_at (St.wk (L' := grp g sk ⟨T, G.ls, G.used⟩ :: cells mb [.int .i64 (⟨3, d, y.bal, y.cmd, y.seq, y.deps⟩ : Msg BSl).kind, .int .i64 ((⟨3, d, y.bal, y.cmd, y.seq, y.deps⟩ : Msg BSl).dot).rep, .int .i64 ((⟨3, d, y.bal, y.cmd, y.seq, y.deps⟩ : Msg BSl).dot).n, .int .i64 ((⟨3, d, y.bal, y.cmd, y.seq, y.deps⟩ : Msg BSl).bal).1, .int .i64 ((⟨3, d, y.bal, y.cmd, y.seq, y.deps⟩ : Msg BSl).bal).2, (⟨3, d, y.bal, y.cmd, y.seq, y.deps⟩ : Msg BSl).cmd.v, .int .i64 (⟨3, d, y.bal, y.cmd, y.seq, y.deps⟩ : Msg BSl).seq, .int .i64 ((⟨3, d, y.bal, y.cmd, y.seq, y.deps⟩ : Msg BSl).deps).x0, .int .i64 ((⟨3, d, y.bal, y.cmd, y.seq, y.deps⟩ : Msg BSl).deps).x1, .int .i64 ((⟨3, d, y.bal, y.cmd, y.seq, y.deps⟩ : Msg BSl).deps).x2, .int .i64 ((⟨3, d, y.bal, y.cmd, y.seq, y.deps⟩ : Msg BSl).deps).x3, .int .i64 ((⟨3, d, y.bal, y.cmd, y.seq, y.deps⟩ : Msg BSl).deps).x4, .int .i64 ((⟨3, d, y.bal, y.cmd, y.seq, y.deps⟩ : Msg BSl).deps).x5, .int .i64 ((⟨3, d, y.bal, y.cmd, y.seq, y.deps⟩ : Msg BSl).deps).x6] T_inst_Msg :: fch y.cmd :: arr DOT T_api_Dot (some ⟨g1, o1, none⟩) cl A :: L') h)
  have hxl : x.zs.length = T.length := hx.1
  have hnx : n < x.zs.length := by rw [hxl, hTl]; exact hn0
  simp only at h
  have hJ1 : ∀ T' W', T' = (List.range T.length).foldl (spS n ((⟨3, d, y.bal, y.cmd, y.seq, y.deps⟩ : Msg BSl).map BSl.bs)) T → St W0 (arr DOT T_api_Dot (some ⟨g1, o1, none⟩) cl A :: grp g sk ⟨T', G.ls, G.used⟩ :: L') W' →
    S.pax_Group_spread.j1 K (.pointer (some ⟨g, 0, none⟩)) (.int .i64 n) (.slice (some ⟨g1, o1, none⟩) A.length cl) (.int .i64 A.length) (.int .i64 i) W' := by
   intro T' W' e h
   delta S.pax_Group_spread.j1 oK oA rD lD eF eU sT cL vC gD gX gP gA gR gL gE gU gC gV hL sB nI
   (repeat simp -implicitDefEqProofs only [SE, SU, SV, ew])
   exact hK T' _ hlt ⟨by rw [hst]; exact e, by rw [e, spF_len]; exact hTl, h⟩
  clear hK hst hk
  (repeat (first | ((with_reducible refine v5 ?_); refine ⟨_, rfl, ?_⟩) | simp -implicitDefEqProofs only [SE, SU, SV]))
  refine loop_c (σ := List Tbl) T.length (fun to _ => [.pointer (some ⟨g, 0, none⟩), .int .i64 n, .pointer (some ⟨mb, 0, none⟩), .slice (some ⟨g1, o1, none⟩) A.length cl, .int .i64 A.length, .int .i64 i, .slice x.a x.zs.length x.c, .int .i64 x.zs.length, .int .i64 to])
   (fun to T' W1 => T' = (List.range to).foldl (spS n ((⟨3, d, y.bal, y.cmd, y.seq, y.deps⟩ : Msg BSl).map BSl.bs)) T ∧ T'.length = T.length ∧
    St W0 (gce g x :: gar x :: many rce x.zs :: many rld x.zs :: many rtb (x.tz T') :: cells mb [.int .i64 (⟨3, d, y.bal, y.cmd, y.seq, y.deps⟩ : Msg BSl).kind, .int .i64 ((⟨3, d, y.bal, y.cmd, y.seq, y.deps⟩ : Msg BSl).dot).rep, .int .i64 ((⟨3, d, y.bal, y.cmd, y.seq, y.deps⟩ : Msg BSl).dot).n, .int .i64 ((⟨3, d, y.bal, y.cmd, y.seq, y.deps⟩ : Msg BSl).bal).1, .int .i64 ((⟨3, d, y.bal, y.cmd, y.seq, y.deps⟩ : Msg BSl).bal).2, (⟨3, d, y.bal, y.cmd, y.seq, y.deps⟩ : Msg BSl).cmd.v, .int .i64 (⟨3, d, y.bal, y.cmd, y.seq, y.deps⟩ : Msg BSl).seq, .int .i64 ((⟨3, d, y.bal, y.cmd, y.seq, y.deps⟩ : Msg BSl).deps).x0, .int .i64 ((⟨3, d, y.bal, y.cmd, y.seq, y.deps⟩ : Msg BSl).deps).x1, .int .i64 ((⟨3, d, y.bal, y.cmd, y.seq, y.deps⟩ : Msg BSl).deps).x2, .int .i64 ((⟨3, d, y.bal, y.cmd, y.seq, y.deps⟩ : Msg BSl).deps).x3, .int .i64 ((⟨3, d, y.bal, y.cmd, y.seq, y.deps⟩ : Msg BSl).deps).x4, .int .i64 ((⟨3, d, y.bal, y.cmd, y.seq, y.deps⟩ : Msg BSl).deps).x5, .int .i64 ((⟨3, d, y.bal, y.cmd, y.seq, y.deps⟩ : Msg BSl).deps).x6] T_inst_Msg :: fch y.cmd :: arr DOT T_api_Dot (some ⟨g1, o1, none⟩) cl A :: L') W1) T rfl ⟨rfl, rfl, (by assumption)⟩ ?_
  clear h
  rintro K2 to T' W8 hto ⟨hT', hTl', h⟩ hK2
  simp -implicitDefEqProofs only [SE, SU, SV]
  delta S.pax_Group_spread.l2 oK oA rD lD eF eU sT cL vC gD gX gP gA gR gL gE gU gC gV hL sB nI
  have ew2 : IntKind.i64.wrap ((to : Int) + 1) = ((to + 1 : Nat) : Int) := by rw [i64w]; omega
  by_cases hlt2 : to < T.length
  ·have f2 : decide ((to : Int) < (x.zs.length : Int)) = true := decide_eq_true (by omega)
   have hz : to < x.zs.length := by omega
   obtain ⟨ga, go, hga⟩ := posP (a := x.a) (ps := x.zs.map fun z : RepX => z.p) (i := to) h (by simpa using hz)
   have ix := ixP (c := x.c) hga hz
   have hJ2 : ∀ T2 W', T2 = spS n ((⟨3, d, y.bal, y.cmd, y.seq, y.deps⟩ : Msg BSl).map BSl.bs) T' to → St W0 (gce g x :: gar x :: many rce x.zs :: many rld x.zs :: many rtb (x.tz T2) :: cells mb [.int .i64 (⟨3, d, y.bal, y.cmd, y.seq, y.deps⟩ : Msg BSl).kind, .int .i64 ((⟨3, d, y.bal, y.cmd, y.seq, y.deps⟩ : Msg BSl).dot).rep, .int .i64 ((⟨3, d, y.bal, y.cmd, y.seq, y.deps⟩ : Msg BSl).dot).n, .int .i64 ((⟨3, d, y.bal, y.cmd, y.seq, y.deps⟩ : Msg BSl).bal).1, .int .i64 ((⟨3, d, y.bal, y.cmd, y.seq, y.deps⟩ : Msg BSl).bal).2, (⟨3, d, y.bal, y.cmd, y.seq, y.deps⟩ : Msg BSl).cmd.v, .int .i64 (⟨3, d, y.bal, y.cmd, y.seq, y.deps⟩ : Msg BSl).seq, .int .i64 ((⟨3, d, y.bal, y.cmd, y.seq, y.deps⟩ : Msg BSl).deps).x0, .int .i64 ((⟨3, d, y.bal, y.cmd, y.seq, y.deps⟩ : Msg BSl).deps).x1, .int .i64 ((⟨3, d, y.bal, y.cmd, y.seq, y.deps⟩ : Msg BSl).deps).x2, .int .i64 ((⟨3, d, y.bal, y.cmd, y.seq, y.deps⟩ : Msg BSl).deps).x3, .int .i64 ((⟨3, d, y.bal, y.cmd, y.seq, y.deps⟩ : Msg BSl).deps).x4, .int .i64 ((⟨3, d, y.bal, y.cmd, y.seq, y.deps⟩ : Msg BSl).deps).x5, .int .i64 ((⟨3, d, y.bal, y.cmd, y.seq, y.deps⟩ : Msg BSl).deps).x6] T_inst_Msg :: fch y.cmd :: arr DOT T_api_Dot (some ⟨g1, o1, none⟩) cl A :: L') W' →
     S.pax_Group_spread.j2 K2 (.pointer (some ⟨g, 0, none⟩)) (.int .i64 n) (.pointer (some ⟨mb, 0, none⟩)) (.slice (some ⟨g1, o1, none⟩) A.length cl) (.int .i64 A.length) (.int .i64 i) (.slice x.a x.zs.length x.c) (.int .i64 x.zs.length) (.int .i64 to) W' := by
    intro T2 W' e h
    delta S.pax_Group_spread.j2 oK oA rD lD eF eU sT cL vC gD gX gP gA gR gL gE gU gC gV hL sB nI
    (repeat simp -implicitDefEqProofs only [SE, SU, SV, ew2])
    exact hK2 T2 _ hlt2 ⟨by rw [foldl_range_succ, ← hT']; exact e, by rw [e, spS_len]; exact hTl', h⟩
   clear hK2 hJ1
   (repeat simp -implicitDefEqProofs only [SE, SU, SV, f2])
   refine joinK_i ?_
   (repeat simp -implicitDefEqProofs only [SE, SU, SV, ix])
   refine ldRep hz hga (by assumption) inferInstance ?_
   by_cases hne : to = n
   ·have f3 : decide ((to : Int) = (n : Int)) = true := decide_eq_true (by omega)
    (repeat simp -implicitDefEqProofs only [SE, SU, SV, f3])
    exact hJ2 T' _ (by unfold spS; rw [if_pos hne]) (by assumption)
   ·have f3 : decide ((to : Int) = (n : Int)) = false := decide_eq_false (by omega)
    have h := (St.wk (L' := many rce x.zs :: gce g x :: gar x :: many rld x.zs :: many rtb (x.tz T') :: cells mb [.int .i64 (⟨3, d, y.bal, y.cmd, y.seq, y.deps⟩ : Msg BSl).kind, .int .i64 ((⟨3, d, y.bal, y.cmd, y.seq, y.deps⟩ : Msg BSl).dot).rep, .int .i64 ((⟨3, d, y.bal, y.cmd, y.seq, y.deps⟩ : Msg BSl).dot).n, .int .i64 ((⟨3, d, y.bal, y.cmd, y.seq, y.deps⟩ : Msg BSl).bal).1, .int .i64 ((⟨3, d, y.bal, y.cmd, y.seq, y.deps⟩ : Msg BSl).bal).2, (⟨3, d, y.bal, y.cmd, y.seq, y.deps⟩ : Msg BSl).cmd.v, .int .i64 (⟨3, d, y.bal, y.cmd, y.seq, y.deps⟩ : Msg BSl).seq, .int .i64 ((⟨3, d, y.bal, y.cmd, y.seq, y.deps⟩ : Msg BSl).deps).x0, .int .i64 ((⟨3, d, y.bal, y.cmd, y.seq, y.deps⟩ : Msg BSl).deps).x1, .int .i64 ((⟨3, d, y.bal, y.cmd, y.seq, y.deps⟩ : Msg BSl).deps).x2, .int .i64 ((⟨3, d, y.bal, y.cmd, y.seq, y.deps⟩ : Msg BSl).deps).x3, .int .i64 ((⟨3, d, y.bal, y.cmd, y.seq, y.deps⟩ : Msg BSl).deps).x4, .int .i64 ((⟨3, d, y.bal, y.cmd, y.seq, y.deps⟩ : Msg BSl).deps).x5, .int .i64 ((⟨3, d, y.bal, y.cmd, y.seq, y.deps⟩ : Msg BSl).deps).x6] T_inst_Msg :: fch y.cmd :: arr DOT T_api_Dot (some ⟨g1, o1, none⟩) cl A :: L') (by assumption)).ent (mtake (F := rce) x.zs hz)
    (repeat (first | ((with_reducible refine v5 ?_); refine ⟨_, rfl, ?_⟩) | simp -implicitDefEqProofs only [SE, SU, SV, f3]))
    have h := (St.wk (L' := rce x.zs[to] :: many rce (x.zs.eraseIdx to) :: many rtb (x.tz T') :: fch y.cmd :: gce g x :: gar x :: many rld x.zs :: cells mb [.int .i64 (⟨3, d, y.bal, y.cmd, y.seq, y.deps⟩ : Msg BSl).kind, .int .i64 ((⟨3, d, y.bal, y.cmd, y.seq, y.deps⟩ : Msg BSl).dot).rep, .int .i64 ((⟨3, d, y.bal, y.cmd, y.seq, y.deps⟩ : Msg BSl).dot).n, .int .i64 ((⟨3, d, y.bal, y.cmd, y.seq, y.deps⟩ : Msg BSl).bal).1, .int .i64 ((⟨3, d, y.bal, y.cmd, y.seq, y.deps⟩ : Msg BSl).bal).2, (⟨3, d, y.bal, y.cmd, y.seq, y.deps⟩ : Msg BSl).cmd.v, .int .i64 (⟨3, d, y.bal, y.cmd, y.seq, y.deps⟩ : Msg BSl).seq, .int .i64 ((⟨3, d, y.bal, y.cmd, y.seq, y.deps⟩ : Msg BSl).deps).x0, .int .i64 ((⟨3, d, y.bal, y.cmd, y.seq, y.deps⟩ : Msg BSl).deps).x1, .int .i64 ((⟨3, d, y.bal, y.cmd, y.seq, y.deps⟩ : Msg BSl).deps).x2, .int .i64 ((⟨3, d, y.bal, y.cmd, y.seq, y.deps⟩ : Msg BSl).deps).x3, .int .i64 ((⟨3, d, y.bal, y.cmd, y.seq, y.deps⟩ : Msg BSl).deps).x4, .int .i64 ((⟨3, d, y.bal, y.cmd, y.seq, y.deps⟩ : Msg BSl).deps).x5, .int .i64 ((⟨3, d, y.bal, y.cmd, y.seq, y.deps⟩ : Msg BSl).deps).x6] T_inst_Msg :: arr DOT T_api_Dot (some ⟨g1, o1, none⟩) cl A :: L') (by assumption)).ent (mback (F := rce) x.zs hz)
    refine tabDo (x := x) (T := T') (to := to) (m := ⟨3, d, y.bal, y.cmd, y.seq, y.deps⟩) (L := many rce x.zs :: gce g x :: gar x :: many rld x.zs :: cells mb [.int .i64 (⟨3, d, y.bal, y.cmd, y.seq, y.deps⟩ : Msg BSl).kind, .int .i64 ((⟨3, d, y.bal, y.cmd, y.seq, y.deps⟩ : Msg BSl).dot).rep, .int .i64 ((⟨3, d, y.bal, y.cmd, y.seq, y.deps⟩ : Msg BSl).dot).n, .int .i64 ((⟨3, d, y.bal, y.cmd, y.seq, y.deps⟩ : Msg BSl).bal).1, .int .i64 ((⟨3, d, y.bal, y.cmd, y.seq, y.deps⟩ : Msg BSl).bal).2, (⟨3, d, y.bal, y.cmd, y.seq, y.deps⟩ : Msg BSl).cmd.v, .int .i64 (⟨3, d, y.bal, y.cmd, y.seq, y.deps⟩ : Msg BSl).seq, .int .i64 ((⟨3, d, y.bal, y.cmd, y.seq, y.deps⟩ : Msg BSl).deps).x0, .int .i64 ((⟨3, d, y.bal, y.cmd, y.seq, y.deps⟩ : Msg BSl).deps).x1, .int .i64 ((⟨3, d, y.bal, y.cmd, y.seq, y.deps⟩ : Msg BSl).deps).x2, .int .i64 ((⟨3, d, y.bal, y.cmd, y.seq, y.deps⟩ : Msg BSl).deps).x3, .int .i64 ((⟨3, d, y.bal, y.cmd, y.seq, y.deps⟩ : Msg BSl).deps).x4, .int .i64 ((⟨3, d, y.bal, y.cmd, y.seq, y.deps⟩ : Msg BSl).deps).x5, .int .i64 ((⟨3, d, y.bal, y.cmd, y.seq, y.deps⟩ : Msg BSl).deps).x6] T_inst_Msg :: arr DOT T_api_Dot (some ⟨g1, o1, none⟩) cl A :: L') (by omega) (by omega) hml (St.wk (by exact St.tick (by assumption))) fun a W9 h => ?_
    skip
    exact hJ2 _ _ (by unfold spS; rw [if_neg hne]) (St.wk h)
  ·have f2 : decide ((to : Int) < (x.zs.length : Int)) = false := decide_eq_false (by omega)
   have : to = T.length := by omega
   subst this
   (repeat simp -implicitDefEqProofs only [SE, SU, SV, f2])
   refine hJ1 T' _ hT' ?_
   have hx' : x.ok sk ⟨T', G.ls, G.used⟩ := ⟨by show x.zs.length = T'.length; omega, hx.2.1, hx.2.2⟩
   exact (St.wk (L' := gce g x :: gar x :: many rce x.zs :: many rld x.zs :: many rtb (x.tz T') :: arr DOT T_api_Dot (some ⟨g1, o1, none⟩) cl A :: L') h).ent (grp_ent (G := ⟨T', G.ls, G.used⟩) hx') |>.perm (List.Perm.swap _ _ _)
 ·have f1 : decide ((i : Int) < (A.length : Int)) = false := decide_eq_false (by omega)
  rw [List.take_of_length_le (by omega)] at hT
  rw [← hT] at hk
  (repeat simp -implicitDefEqProofs only [SE, SU, SV, f1])
  exact hk _ (St.drop h)
end
end Go.Proofs.YtfhacbhgmnhmlaaGreat
namespace Go.Proofs.YtfhacbhgmnhmlaaGreat
set_option linter.unusedVariables false
set_option linter.unusedSimpArgs false
open Go Go.Eng
section
variable {k k' : Nat} {G : Grp}
theorem Grp.Ok.mono (h : G.Ok k) (hk : k ≤ k') : G.Ok k' := ⟨h.n, h.nd, h.used, fun l hl => Nat.le_trans (h.ls l hl) hk⟩
theorem Grp.Ok.to {T : List Tbl} {ls : List (List LdR)} {us : List Int} (h : G.Ok k) (hT : EvL G.T T) (hu : ∀ u ∈ us, 0 ≤ u ∧ u ≤ 50) (hl : ∀ l ∈ ls, l.length ≤ k') : Grp.Ok k' ⟨T, ls, us⟩ :=
 ⟨by have := hT.len; have := h.n; simp only; omega, hT.nds h.nd, hu, hl⟩
theorem Grp.Ok.set (h : G.Ok k) {i : Nat} {l : List LdR} (hl : l.length ≤ k) : ∀ m ∈ G.ls.set i l, m.length ≤ k := fun m hm => by
 rcases mem_set_or hm with rfl | hm
 ·exact hl
 ·exact h.ls m hm
theorem propose_ok (h : G.Ok k) (i : Nat) (b : UInt8) : (G.propose i b).1.Ok (k + 1) := by
 have he := gpropose_ev G i b
 unfold Grp.propose at he ⊢
 split
 ·exact h.mono (by omega)
 ·rename_i h50
  split
  ·rename_i hp
   rw [if_neg h50, hp] at he
   refine h.to he (fun u hu => ?_) ((h.mono (Nat.le_succ k)).set (by simp only [List.length_append, List.length_singleton]; have := h.lsAt i; omega))
   rcases mem_set_or hu with rfl | hu
   ·have := h.usedAt i; omega
   ·exact h.used u hu
  ·exact h.mono (by omega)
theorem recover_ok (h : G.Ok k) (i : Nat) (d : Dot) : (G.recover i d).1.Ok (k + 1) := by
 have he := grecover_ev G i d
 unfold Grp.recover at he ⊢
 split
 ·exact h.mono (by omega)
 ·rename_i h50
  split
  ·rename_i hp
   rw [if_neg h50, hp] at he
   exact h.to he h.used ((h.mono (Nat.le_succ k)).set (by simp only [List.length_append, List.length_singleton]; have := h.lsAt i; omega))
  ·exact h.mono (by omega)
theorem put_ok (h : G.Ok k) (n j : Nat) (s : TL) (hs : EvL G.T s.T) : (G.put n j s).Ok k :=
 h.to hs h.used (h.set (by rw [List.length_set]; exact h.lsAt n))
theorem act_ok (h : G.Ok k) (a : Act) : (G.act a).1.Ok (k + 1) := by
 have h1 := h.mono (Nat.le_succ k)
 unfold Grp.act
 split
 ·exact h1
 split
 ·exact propose_ok h _ _
 split
 ·split
  ·exact recover_ok h _ _
  ·exact h1
 split
 ·exact h1
 split
 ·exact put_ok h1 _ _ _ (tslow_ev (G.tl _ _) _)
 split
 ·exact h1.to (EvL.refl _) h.used (h1.set (Nat.le_trans (List.length_eraseIdx_le _ _) (h1.lsAt _)))
 split
 ·exact put_ok h1 _ _ _ (told_ev (G.tl _ _) _ _ _)
 ·exact h1
theorem leadJ_ok (h : G.Ok k) (n j : Nat) : (Grp.leadJ n G j).Ok k := put_ok h n j _ (lead_ev n G.n 6 0 (G.tl n j))
theorem gNew_ok {n : Nat} (h3 : 3 ≤ n) (h7 : n ≤ 7) : (gNew n).Ok 0 := by
 refine ⟨by simp [gNew]; omega, fun U hU => ?_, fun u hu => ?_, fun l hl => ?_⟩
 ·rw [(List.mem_replicate.1 hU).2]; exact List.nodup_nil
 ·rw [(List.mem_replicate.1 hu).2]; omega
 ·rw [(List.mem_replicate.1 hl).2]; simp
end
end Go.Proofs.YtfhacbhgmnhmlaaGreat
namespace Go.Proofs.YtfhacbhgmnhmlaaGreat
set_option linter.unusedVariables false
set_option linter.unusedSimpArgs false
open Go Go.Eng
section
variable {sk : SK} {W0 W : World} {L L' : List Asn} {g q : Nat} {G : Grp} {x : GX} {y : LdX} {T : List Tbl} {kk : Nat}
theorem leadJ_at {T : List Tbl} {ls : List (List LdR)} {us : List Int} {n : Nat} {l : List LdR} (hn : n < ls.length) (j : Nat) :
  Grp.leadJ n ⟨T, ls.set n l, us⟩ j = ⟨(TL.lead n T.length 6 0 ⟨T, l.getD j ldrZ⟩).T, ls.set n (l.set j (TL.lead n T.length 6 0 ⟨T, l.getD j ldrZ⟩).x), us⟩ := by
 have e : (Grp.l ⟨T, ls.set n l, us⟩ n) = l := by
  show (ls.set n l).getD n [] = l
  rw [List.getD_eq_getElem?_getD, List.getElem?_set_self hn]; rfl
 unfold Grp.leadJ Grp.put Grp.tl
 simp only [e, List.set_set]
set_option maxRecDepth 100000 in
set_option maxHeartbeats 1000000 in
theorem calmLeads {n : Nat} {x5 : Nat} {J4 : LK} {k13 k14 : Int} {v19 : Value} {v20 v21 : Int} (hO : G.Ok kk) (hkk : kk < 1000000) (hn0 : n < G.n) (hx5 : sk.2.2[n]? = some x5) (h : St W0 (grp g sk G :: L) W)
  (hk : ∀ W', St W0 (grp g sk ((List.range (G.l n).length).foldl (Grp.leadJ n) G) :: L) W' → J4 [.pointer (some ⟨g, 0, none⟩), .int .i64 n, .int .i64 k13, .int .i64 k14, v19, .int .i64 v20, .int .i64 v21] W') :
  rdK PR (Instr.loadAt T_s_p_pax_leader (.pointer (some ⟨x5, 1, none⟩))) (fun v42 W => okF (lenP (.slice T_p_pax_leader) v42) fun v43 =>
   loopK (fun K3 s W => S.pax_Group_Calm.l3 J4 K3 (nthv s 0) (nthv s 1) (nthv s 2) (nthv s 3) (nthv s 4) (nthv s 5) (nthv s 6) (nthv s 7) (nthv s 8) (nthv s 9) W) [.pointer (some ⟨g, 0, none⟩), .int .i64 n, .int .i64 k13, .int .i64 k14, v19, .int .i64 v20, .int .i64 v21, v42, v43, .int .i64 0] W) W := by
 have hn0 : n < G.T.length := hn0
 obtain ⟨x, hx, h⟩ := grp_at h
 have hn : x.zs.length = G.T.length := hx.1
 have hz : n < x.zs.length := by omega
 have hp : x.zs[n].p = x5 := by
  rw [← hx.2.2.2] at hx5
  have hx5 : (x.zs.map fun z : RepX => z.p)[n]? = some x5 := hx5
  rw [List.getElem?_map, List.getElem?_eq_getElem hz] at hx5
  exact Option.some.inj hx5
 obtain ⟨eu, el⟩ := GX.at hx hz
 have hll := hO.lsAt n
 have hGl : G.ls.length = x.zs.length := by rw [← hx.2.1, List.length_map]
 rw [el] at hk hll
 rw [List.length_map] at hk hll
 have h := rep_open hn hz h
 have hcl := fun {W' : World} => grp_put (sk := sk) (W0 := W0) (L := L) (W := W') (g := g) hx hz
 have hsame := grp_same hx hz
 generalize hzz : x.zs[n] = z at *
 subst hp
 (repeat (first | ((with_reducible refine v5 ?_); refine ⟨_, rfl, ?_⟩) | simp -implicitDefEqProofs only [SE, SU, SV]))
 have h := (St.wk (L' := rce z :: many rce (x.zs.eraseIdx n) :: tb z.t (tAt G.T n) :: many rtb ((x.tz G.T).eraseIdx n) :: gce g x :: gar x :: arr PTR T_p_pax_leader z.la z.lc (z.ls.map (·.1)) :: many (lrc z.t) z.ls :: many rld (x.zs.eraseIdx n) :: L) (by assumption))
 rw [← hzz] at h
 have h := h.ent ((mback (F := rce) x.zs hz).trans (ent.cons _ (tb_back (i := n) hn hn0)))
 rw [hzz] at h
 refine loop_c (σ := List Tbl × List (Nat × LdR)) z.ls.length (fun i _ => [.pointer (some ⟨g, 0, none⟩), .int .i64 n, .int .i64 k13, .int .i64 k14, v19, .int .i64 v20, .int .i64 v21, .slice z.la z.ls.length z.lc, .int .i64 z.ls.length, .int .i64 i])
  (fun i s W1 => s.1.length = G.T.length ∧ s.2.map (·.1) = z.ls.map (·.1) ∧ (List.range i).foldl (Grp.leadJ n) G = ⟨s.1, G.ls.set n (s.2.map (·.2)), G.used⟩ ∧
   St W0 (gce g x :: gar x :: many rce x.zs :: many rtb (x.tz s.1) :: arr PTR T_p_pax_leader z.la z.lc (z.ls.map (·.1)) :: many (lrc z.t) s.2 :: many rld (x.zs.eraseIdx n) :: L) W1)
  (G.T, z.ls) rfl ⟨rfl, rfl, ?_, St.wk h⟩ ?_
 ·rw [tAt_set_self] at hsame
  have e1 : G.ls.set n (z.ls.map (·.2)) = G.ls := congrArg Grp.ls hsame
  show G = _
  rw [e1]
 clear h
 rintro K i ⟨T', l⟩ W4 hi ⟨hT', hl1, hst, h⟩ hK
 simp only at hT' hl1 hst h hK ⊢
 simp -implicitDefEqProofs only [SE, SU, SV]
 delta S.pax_Group_Calm.l3 oK oA rD lD eF eU sT cL vC gD gX gP gA gR gL gE gU gC gV hL sB nI
 have hll2 : l.length = z.ls.length := by have := congrArg List.length hl1; simpa using this
 by_cases hlt : i < z.ls.length
 ·have f1 : decide ((i : Int) < (z.ls.length : Int)) = true := decide_eq_true (by omega)
  have ew : IntKind.i64.wrap ((i : Int) + 1) = ((i + 1 : Nat) : Int) := by rw [i64w]; omega
  have hil : i < l.length := by omega
  obtain ⟨ga, go, hga⟩ := posP (a := z.la) (ps := z.ls.map fun x : Nat × LdR => x.1) (i := i) h (by simpa using hlt)
  have ix := ixP (c := z.lc) hga hlt
  have hpi : (z.ls.map fun x : Nat × LdR => x.1)[i]'(by simpa using hlt) = l[i].1 := by
   have : (l.map fun x : Nat × LdR => x.1)[i]'(by simpa using hil) = l[i].1 := by simp
   rw [← this]
   congr 1
   exact hl1.symm
  have hnext : ∀ (T2 : List Tbl) (r : LdR) W', T2.length = G.T.length → r = (TL.lead n T'.length 6 0 ⟨T', l[i].2⟩).x → T2 = (TL.lead n T'.length 6 0 ⟨T', l[i].2⟩).T →
    St W0 (gce g x :: gar x :: many rce x.zs :: many rtb (x.tz T2) :: arr PTR T_p_pax_leader z.la z.lc (z.ls.map (·.1)) :: many (lrc z.t) (l.set i (l[i].1, r)) :: many rld (x.zs.eraseIdx n) :: L) W' →
    K [.pointer (some ⟨g, 0, none⟩), .int .i64 n, .int .i64 k13, .int .i64 k14, v19, .int .i64 v20, .int .i64 v21, .slice z.la z.ls.length z.lc, .int .i64 z.ls.length, .int .i64 ((i + 1 : Nat) : Int)] W' := by
   intro T2 r W' h1 h2 h3 h
   refine hK (T2, l.set i (l[i].1, r)) W' hlt ⟨h1, ?_, ?_, h⟩
   ·simp only
    rw [List.map_set]
    have := List.set_getElem_self (i := i) (show i < (l.map fun x : Nat × LdR => x.1).length by simpa using hil)
    rw [List.getElem_map] at this
    rw [this]; exact hl1
   ·simp only
    rw [foldl_range_succ, hst, leadJ_at (by omega)]
    have hg : (l.map fun x : Nat × LdR => x.2).getD i ldrZ = l[i].2 := by
     rw [List.getD_eq_getElem?_getD, List.getElem?_map, List.getElem?_eq_getElem hil]; rfl
    rw [hg, ← h2, ← h3, List.map_set]
  clear hK hk
  (repeat simp -implicitDefEqProofs only [SE, SU, SV, f1, ix])
  refine ldP (ps := z.ls.map fun x : Nat × LdR => x.1) hga (by assumption) (by simpa using hlt) ?_
  rw [hpi]
  have h := (St.wk (L' := many (lrc z.t) l :: gce g x :: gar x :: many rce x.zs :: many rtb (x.tz T') :: arr PTR T_p_pax_leader z.la z.lc (z.ls.map (·.1)) :: many rld (x.zs.eraseIdx n) :: L) h).ent (mtake (F := lrc z.t) l hil)
  obtain ⟨y, hy1, hy2, h⟩ := lrc_at h
  have hyz : y.ok (x.zs[n]'hz).t := by rw [hzz]; exact hy1
  skip
  refine paxLead (g := g) (q := l[i].1) (X := x) (T := T') (y := y) (n := n) (L := arr PTR T_p_pax_leader z.la z.lc (z.ls.map (·.1)) :: many (lrc z.t) (l.eraseIdx i) :: many rld (x.zs.eraseIdx n) :: L) (by omega) (by have := hO.n; omega) (by omega) hyz (St.wk (by assumption)) fun y' W5 g1 g2 g3 h => ?_
  rw [hzz] at g1
  have eT : TL.of T' y = ⟨T', l[i].2⟩ := by show (⟨T', y.abs⟩ : TL) = _; rw [hy2]
  rw [eT] at g2 g3 h
  (repeat simp -implicitDefEqProofs only [SE, SU, SV, ew])
  refine hnext _ _ _ (by rw [g2]; exact hT') rfl rfl ?_
  have h := (St.wk (L' := cells l[i].1 [.pointer (some ⟨y'.q, 0, none⟩), .pointer (qa y'.lp.x0), .pointer (qa y'.lp.x1), .pointer (qa y'.lp.x2), .pointer (qa y'.lp.x3), .pointer (qa y'.lp.x4), .pointer (qa y'.lp.x5), .pointer (qa y'.lp.x6)] T_pax_leader :: ldc y'.q y'.X :: many oa y'.lp.list :: many (lrc z.t) (l.eraseIdx i) :: gce g x :: gar x :: many rce x.zs :: many rtb (x.tz (TL.lead n T'.length 6 0 ⟨T', l[i].2⟩).T) :: arr PTR T_p_pax_leader z.la z.lc (z.ls.map (·.1)) :: many rld (x.zs.eraseIdx n) :: L) (by assumption)).ent ((lrc_ent (z := (l[i].1, (TL.lead n T'.length 6 0 ⟨T', l[i].2⟩).x)) g1 g3).trans (mgive (F := lrc z.t) l hil _))
  exact St.wk h
 ·have f1 : decide ((i : Int) < (z.ls.length : Int)) = false := decide_eq_false (by omega)
  have : i = z.ls.length := by omega
  subst this
  rw [hst] at hk
  (repeat simp -implicitDefEqProofs only [SE, SU, SV, f1])
  refine hk _ ?_
  have h := (St.wk (L' := many rce x.zs :: many rtb (x.tz T') :: arr PTR T_p_pax_leader z.la z.lc (z.ls.map (·.1)) :: many (lrc z.t) l :: gce g x :: gar x :: many rld (x.zs.eraseIdx n) :: L) h).ent ((mtake (F := rce) x.zs hz).trans (ent.cons _ (ent.cons _ (tb_take (i := n) (by omega) (by omega)))))
  rw [hzz] at h
  have e1 : rce z = rce { z with ls := l } := by unfold rce; simp only [hll2]
  rw [e1, ← hl1] at h
  have h := rep_close (g := g) (x := x) (T := T') (L := L) (by omega) hz (z := { z with ls := l }) (U := tAt T' n) (by rw [hzz]) (by rw [hzz]) (St.wk h)
  rw [tAt_set_self] at h
  have hx' := GX.ok_put hx hz (z := { z with ls := l }) (T := T') (by rw [hzz]) hT'
  have h := h.ent (grp_ent hx')
  have eus : G.used.set n z.used = G.used := congrArg Grp.used hsame
  simp only [eus] at h
  exact h
set_option maxRecDepth 100000 in
set_option maxHeartbeats 1000000 in
theorem calmOne {n : Nat} {J2 : LK} {k13 k14 : Int} {v19 : Value} {v20 : Int} {x5 : Nat} (hO : G.Ok kk) (hkk : kk + 7000 < 1000000) (hn0 : n < G.n) (hx5 : sk.2.2[n]? = some x5) (h : St W0 (grp g sk G :: L) W)
  (hk : ∀ W', (G.calm1 n).Ok (kk + 7000) → St W0 (grp g sk (G.calm1 n) :: L) W' → J2 [.pointer (some ⟨g, 0, none⟩), .int .i64 k13, .int .i64 k14, v19, .int .i64 v20, .int .i64 n] W') :
  joinK (fun s W => S.pax_Group_Calm.j3 J2 (nthv s 0) (nthv s 1) (nthv s 2) (nthv s 3) (nthv s 4) (nthv s 5) (nthv s 6) (nthv s 7) W) (fun J3 =>
   callK PR F_pax_Group_open [.pointer (some ⟨g, 0, none⟩), .int .i64 n] (fun v28 W => okF (lenP (.slice T_api_Dot) v28) fun v29 =>
    loopK (fun K4 s W => S.pax_Group_Calm.l4 J3 K4 (nthv s 0) (nthv s 1) (nthv s 2) (nthv s 3) (nthv s 4) (nthv s 5) (nthv s 6) (nthv s 7) (nthv s 8) (nthv s 9) (nthv s 10) W) [.pointer (some ⟨g, 0, none⟩), .int .i64 n, .pointer (some ⟨x5, 0, none⟩), .int .i64 k13, .int .i64 k14, v19, .int .i64 v20, .int .i64 n, v28, v29, .int .i64 0] W) W) := by
 refine joinK_i ?_
 refine paxOpen (g := g) hO.nd hn0 h fun a c W2 hlen h => ?_
 (repeat simp -implicitDefEqProofs only [SE, SU, SV])
 have hc1 : G.calm1 n = (let G1 := (openT (G.t n)).foldl (fun G d => (G.recover n d).1) G
   let G2 := (List.range (G1.l n).length).foldl (Grp.leadJ n) G1
   ⟨spreadT n G2.T, G2.ls, G2.used⟩) := rfl
 generalize openT (G.t n) = D at *
 refine loop_c (σ := Grp) D.length (fun i _ => [.pointer (some ⟨g, 0, none⟩), .int .i64 n, .pointer (some ⟨x5, 0, none⟩), .int .i64 k13, .int .i64 k14, v19, .int .i64 v20, .int .i64 n, .slice a D.length c, .int .i64 D.length, .int .i64 i])
  (fun i G' W1 => G' = (D.take i).foldl (fun G d => (G.recover n d).1) G ∧ G'.Ok (kk + i) ∧ G'.n = G.n ∧ St W0 (arr DOT T_api_Dot a c D :: grp g sk G' :: L) W1) G rfl ⟨by simp, hO, rfl, h⟩ ?_
 clear h
 rintro K i G' W4 hi ⟨hG', hO', hn', h⟩ hK
 simp -implicitDefEqProofs only [SE, SU, SV]
 delta S.pax_Group_Calm.l4 oK oA rD lD eF eU sT cL vC gD gX gP gA gR gL gE gU gC gV hL sB nI
 have ew : IntKind.i64.wrap ((i : Int) + 1) = ((i + 1 : Nat) : Int) := by rw [i64w]; omega
 by_cases hlt : i < D.length
 ·have f1 : decide ((i : Int) < (D.length : Int)) = true := decide_eq_true (by omega)
  have hst : (D.take (i + 1)).foldl (fun G d => (Grp.recover G n d).1) G = (G'.recover n D[i]).1 := by
   rw [List.take_succ_eq_append_getElem hlt, List.foldl_append, ← hG']; rfl
  (repeat simp -implicitDefEqProofs only [SE, SU, SV, f1])
  refine ixA (i := i) (a := a) (l := D) (A := DOT) (by assumption) rfl rfl hlt fun g1 o1 ha => ?_
  cases ha
  refine ldA0 (i := i) (l := D) (A := DOT) (by assumption) rfl hlt (v := .agg #[.int .i64 (D[i]).rep, .int .i64 (D[i]).n]) rfl (by simp [DOT]) ?_
  generalize D[i] = d at *
  (repeat (first | ((with_reducible refine w11 ?_); intros) | ((with_reducible refine v5 ?_); refine ⟨_, rfl, ?_⟩) | ((with_reducible refine v12 ?_ ?_); exact rfl; intros) | ((with_reducible refine w5 ?_ ?_); simp; refine ⟨_, rfl, ?_⟩) | ((with_reducible refine w12 ?_ ?_ ?_ ?_); simp; simp; simp [oneC]; intros) | simp -implicitDefEqProofs only [SE, SU, SV]))
  rename_i h
  (try simp only [BLS, SB, stL_a, stL_b, stL_c, lsub_a, lsub_b, lsub_c, List.append_nil, List.take_nil, List.drop_nil, Nat.reduceAdd] at h)
  refine paxRecover (g := g) (i := n) (d := d) hO' (by omega) (by omega) h fun W5 h => ?_
  (repeat simp -implicitDefEqProofs only [SE, SU, SV, ew])
  refine hK (G'.recover n d).1 _ hlt ⟨hst.symm, recover_ok hO' n d, ?_, St.wk h⟩
  exact (grecover_ev G' n d).len.trans hn'
 ·have f1 : decide ((i : Int) < (D.length : Int)) = false := decide_eq_false (by omega)
  have hn2 : n < G'.n := by rw [hn']; exact hn0
  have : i = D.length := by omega
  subst this
  rw [List.take_of_length_le (by omega)] at hG'
  rw [← hG'] at hc1
  simp only at hc1
  rw [hc1] at hk
  have hev : EvL G'.T ((List.range (G'.l n).length).foldl (Grp.leadJ n) G').T := EvL.fold (Grp.leadJ n) Grp.T (leadJ_ev n) _ _
  have hO2 : ((List.range (G'.l n).length).foldl (Grp.leadJ n) G').Ok (kk + D.length) := by
   have key : ∀ (l : List Nat) (G : Grp), G.Ok (kk + D.length) → (l.foldl (Grp.leadJ n) G).Ok (kk + D.length) := by
    intro l
    induction l with
    | nil => exact fun G h => h
    | cons j l ih => exact fun G h => ih _ (leadJ_ok h n j)
   exact key _ _ hO'
  (repeat simp -implicitDefEqProofs only [SE, SU, SV, f1])
  delta S.pax_Group_Calm.j3 oK oA rD lD eF eU sT cL vC gD gX gP gA gR gL gE gU gC gV hL sB nI
  refine joinK_i ?_
  (repeat simp -implicitDefEqProofs only [SE, SU, SV])
  refine calmLeads (J4 := fun s W => S.pax_Group_Calm.j4 J2 (nthv s 0) (nthv s 1) (nthv s 2) (nthv s 3) (nthv s 4) (nthv s 5) (nthv s 6) W) hO' (by omega) hn2 hx5 (St.drop h) fun W5 h => ?_
  generalize (List.range (G'.l n).length).foldl (Grp.leadJ n) G' = G2 at *
  (repeat simp -implicitDefEqProofs only [SE, SU, SV])
  delta S.pax_Group_Calm.j4 oK oA rD lD eF eU sT cL vC gD gX gP gA gR gL gE gU gC gV hL sB nI
  refine paxSpread (g := g) (n := n) hO2.nd (by have := hO2.n; omega) (show n < G2.T.length from hev.len ▸ hn2) h fun W6 h => ?_
  skip
  refine hk _ ?_ h
  have h3 := hO2.mono (k' := kk + 7000) (by omega)
  exact h3.to (spreadT_ev n _) hO2.used h3.ls
set_option maxRecDepth 100000 in
set_option maxHeartbeats 1000000 in
theorem paxCalm {r : Nat} {k : Value → World → Prop} (hr : r ≤ 50) (hO : G.Ok kk) (hkk : kk + 50000 * r < 1000000) (h : St W0 L W) [ht : Tk (grpP g) L (sk, G) L']
  (hk : ∀ W', (G.calm r).Ok (kk + 50000 * r) → St W0 (grp g sk (G.calm r) :: L') W' → k (.tuple #[]) W') : callK PR F_pax_Group_Calm [.pointer (some ⟨g, 0, none⟩), .int .i64 r] k W := by
 apply S.pax_Group_Calm.call
 delta S.pax_Group_Calm.body oK oA rD lD eF eU sT cL vC gD gX gP gA gR gL gE gU gC gV hL sB nI
 have h := h.perm ht.perm
 have f0 : decide ((50 : Int) < (r : Int)) = false := decide_eq_false (by omega)
 have em : imax (r : Int) 0 = (r : Int) := by unfold imax; rw [if_neg (by omega)]
 (repeat simp -implicitDefEqProofs only [SE, SU, SV, f0, max2m, em])
 generalize hR : G.calm r = R at *
 refine loop_c (σ := Grp) r (fun i _ => [.pointer (some ⟨g, 0, none⟩), .int .i64 r, .int .i64 i])
  (fun i G' W1 => G'.calm (r - i) = R ∧ G'.Ok (kk + 50000 * i) ∧ St W0 (grp g sk G' :: L') W1) G rfl ⟨hR, hO, h⟩ ?_
 clear h hO hR
 rintro K i G1 W4 hi ⟨hR, hO, h⟩ hK
 simp -implicitDefEqProofs only [SE, SU, SV]
 delta S.pax_Group_Calm.l1 oK oA rD lD eF eU sT cL vC gD gX gP gA gR gL gE gU gC gV hL sB nI
 by_cases hlt : i < r
 ·have f1 : decide ((i : Int) < (r : Int)) = true := decide_eq_true (by omega)
  have ew : IntKind.i64.wrap ((i : Int) + 1) = ((i + 1 : Nat) : Int) := by rw [i64w]; omega
  obtain ⟨m, hm⟩ : ∃ m, r - i = m + 1 := ⟨r - i - 1, by omega⟩
  rw [hm] at hR
  have hR2 : (G1.calmR).calm (r - (i + 1)) = R := by rw [show r - (i + 1) = m by omega]; exact hR
  (repeat simp -implicitDefEqProofs only [SE, SU, SV, f1])
  refine joinK_i ?_
  obtain ⟨x, hx, h⟩ := grp_at h
  have hn : x.zs.length = G1.T.length := hx.1
  have hsk := hx.2.2.2
  have hn7 := hO.n
  (repeat (first | ((with_reducible refine v5 ?_); refine ⟨_, rfl, ?_⟩) | simp -implicitDefEqProofs only [SE, SU, SV]))
  have h := (St.wk (L' := gce g x :: gar x :: many rce x.zs :: many rld x.zs :: many rtb (x.tz G1.T) :: L') (by assumption)).ent (grp_ent hx)
  refine loop_c (σ := Grp) G1.T.length (fun j _ => [.pointer (some ⟨g, 0, none⟩), .int .i64 r, .int .i64 i, .slice x.a x.zs.length x.c, .int .i64 x.zs.length, .int .i64 j])
   (fun j G' W1 => G' = (List.range j).foldl Grp.calm1 G1 ∧ G'.Ok (kk + 50000 * i + 7000 * j) ∧ G'.T.length = G1.T.length ∧ St W0 (grp g sk G' :: L') W1) G1 rfl ⟨rfl, hO, rfl, h⟩ ?_
  clear h
  rintro K2 j G2 W5 hj ⟨hG2, hO2, hn2, h⟩ hK2
  simp -implicitDefEqProofs only [SE, SU, SV]
  delta S.pax_Group_Calm.l2 oK oA rD lD eF eU sT cL vC gD gX gP gA gR gL gE gU gC gV hL sB nI
  by_cases hlt2 : j < G1.T.length
  ·have f2 : decide ((j : Int) < (x.zs.length : Int)) = true := decide_eq_true (by omega)
   have ew2 : IntKind.i64.wrap ((j : Int) + 1) = ((j + 1 : Nat) : Int) := by rw [i64w]; omega
   have hz : j < x.zs.length := by omega
   clear hK
   (repeat simp -implicitDefEqProofs only [SE, SU, SV, f2])
   refine joinK_i ?_
   obtain ⟨x2, hx2, h⟩ := grp_at h
   have hn3 : x2.zs.length = G2.T.length := hx2.1
   have hz2 : j < x2.zs.length := by omega
   obtain ⟨ga, go, hga⟩ := posP (a := x2.a) (ps := x2.zs.map fun z : RepX => z.p) (i := j) h (by simpa using hz2)
   have hsk2 : x2.sk = x.sk := hx2.2.2.2.trans hsk.symm
   have hga' : x.a = some ⟨ga, go, none⟩ := by rw [← hga]; exact (congrArg Prod.fst hsk2).symm
   have ix := ixP (c := x.c) hga' hz
   (repeat simp -implicitDefEqProofs only [SE, SU, SV, ix])
   refine ldRep hz2 hga (by assumption) inferInstance ?_
   have h := (St.wk (L' := gce g x2 :: gar x2 :: many rce x2.zs :: many rld x2.zs :: many rtb (x2.tz G2.T) :: L') (by assumption)).ent (grp_ent hx2)
   have hx5 : sk.2.2[j]? = some x2.zs[j].p := by
    rw [← hx2.2.2.2]
    show (x2.zs.map fun z : RepX => z.p)[j]? = _
    rw [List.getElem?_map, List.getElem?_eq_getElem hz2]; rfl
   refine calmOne (J2 := fun s W => S.pax_Group_Calm.j2 K2 (nthv s 0) (nthv s 1) (nthv s 2) (nthv s 3) (nthv s 4) (nthv s 5) W) hO2 (by omega) (show j < G2.T.length by omega) hx5 h fun W6 hO3 h => ?_
   (repeat simp -implicitDefEqProofs only [SE, SU, SV])
   delta S.pax_Group_Calm.j2 oK oA rD lD eF eU sT cL vC gD gX gP gA gR gL gE gU gC gV hL sB nI
   (repeat simp -implicitDefEqProofs only [SE, SU, SV, ew2])
   refine hK2 (G2.calm1 j) _ hlt2 ⟨by rw [foldl_range_succ, ← hG2], hO3.mono (by omega), (calm1_ev G2 j).len.trans hn2, h⟩
  ·have f2 : decide ((j : Int) < (x.zs.length : Int)) = false := decide_eq_false (by omega)
   have : j = G1.T.length := by omega
   subst this
   (repeat simp -implicitDefEqProofs only [SE, SU, SV, f2])
   delta S.pax_Group_Calm.j1 oK oA rD lD eF eU sT cL vC gD gX gP gA gR gL gE gU gC gV hL sB nI
   (repeat simp -implicitDefEqProofs only [SE, SU, SV, ew])
   refine hK G2 _ hlt ⟨?_, hO2.mono (by omega), h⟩
   rw [hG2]; exact hR2
 ·have f1 : decide ((i : Int) < (r : Int)) = false := decide_eq_false (by omega)
  have : i = r := by omega
  subst this
  rw [Nat.sub_self] at hR
  have hR : G1 = R := hR
  subst hR
  (repeat simp -implicitDefEqProofs only [SE, SU, SV, f1])
  exact hk _ hO h
end
end Go.Proofs.YtfhacbhgmnhmlaaGreat
