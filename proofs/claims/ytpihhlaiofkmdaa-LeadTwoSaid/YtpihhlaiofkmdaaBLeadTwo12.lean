/- Texts of the claim LeadTwo, joined: PTwoB, PTwo2, PTwo3, PTwo4, PTwo5, PTwo6, PTwo7, CTabs, CTabs2, CTabs3, Sl6, LLead6. -/
import Derived.Test.YtpihhlaiofkmdaaBLeadTwo11
import Derived.Test.YtpihhlaiofkmdaaBLeadTwo10
import Derived.Test.YtpihhlaiofkmdaaBLeadTwo5
namespace Go.Proofs.Ytpihhlaiofkmdaa
set_option linter.unusedVariables false
set_option linter.unusedSimpArgs false
open Go Go.Eng

section
variable {n : Int} {f g : Nat} {a : LD} {R R' : Nat → Rec Bs} {v : Val}
theorem Dead_mono (hR : ∀ j : Nat, (j : Int) < n → R' j = R j ∨ blk1 g (R' j)) (h : Dead n g a R) : Dead n g a R' := by
  rcases h with h | ⟨h, Q, q1, q2, q3⟩
  · exact .inl h
  · refine .inr ⟨h, Q, q1, q2, fun j hj hq => ⟨?_, (q3 j hj hq).2⟩⟩
    rcases hR j hj with e | e
    · rw [e]; exact (q3 j hj hq).1
    · exact e
theorem noD_mono (hR : ∀ j : Nat, (j : Int) < n → R' j = R j ∨ (R' j).st ≠ 3) (h : noD n R) : noD n R' := fun j hj => by
  rcases hR j hj with e | e
  · rw [e]; exact h j hj
  · exact e
theorem allD_mono (hR : ∀ j : Nat, (j : Int) < n → R' j = R j ∨ (R' j).st ≠ 3 ∨ rva (R' j) = v) (h : allD n R v) : allD n R' v := fun j hj hs => by
  rcases hR j hj with e | e | e
  · rw [e] at hs ⊢; exact h j hj hs
  · exact absurd hs e
  · exact e
/-- prepared: the ballot alone is another -/
theorem B_prep {br br' : P7 (Option (Rec Bs))} (hc : ∀ j : Nat, (j : Int) < n → cOk (R j).cmd)
    (hR : ∀ j : Nat, (j : Int) < n → R' j = R j ∨ ((R j).st ≠ 3 ∧ R' j = { R j with bal := bB g }))
    (hb : ∀ j : Nat, (j : Int) < n → ∀ r, br'.get j = some r → br.get j = some r ∨ (r = R' j ∧ r.st ≠ 3 ∧ r.bal = bB g))
    (h1 : P4a n g a br R) (h2 : P4b n a br R) : P4a n g a br' R' ∧ P4b n a br' R' := by
  have hst : ∀ j : Nat, (j : Int) < n → (R' j).st = (R j).st ∧ rva (R' j) = rva (R j) ∧ (R' j).cmd = (R j).cmd := fun j hj => by
    rcases hR j hj with e | ⟨_, e⟩
    · rw [e]; exact ⟨rfl, rfl, rfl⟩
    · rw [e]; exact ⟨rfl, rfl, rfl⟩
  have hblk : ∀ j : Nat, (j : Int) < n → blk1 g (R j) → blk1 g (R' j) := fun j hj hb => by
    rcases hR j hj with e | ⟨_, e⟩
    · rw [e]; exact hb
    · rw [e]; exact .inl rfl
  have hno : noD n R → noD n R' := fun h j hj => by rw [(hst j hj).1]; exact h j hj
  have hall : ∀ v, allD n R v → allD n R' v := fun v h j hj hs => by rw [(hst j hj).1] at hs; rw [(hst j hj).2.1]; exact h j hj hs
  have hst2 : ∀ v, st2 n R v → st2 n R' v := fun v h j hj hs => by rw [(hst j hj).1] at hs; rw [(hst j hj).2.1]; exact h j hj hs
  refine ⟨fun j hj r hr => ?_, ?_⟩
  · rcases hb j hj r hr with e | ⟨rfl, e1, e2⟩
    · obtain ⟨c1, c2⟩ := h1 j hj r e
      exact ⟨hblk j hj c1, c2⟩
    · obtain ⟨s1, s2, s3⟩ := hst j hj
      refine ⟨.inl e2, e1, by rw [s3]; exact hc j hj, fun h => ?_, fun h ha => ?_⟩
      · rw [s1] at h
        rw [s2]
        rcases h2 with ⟨_, _, b2⟩ | ⟨q, _, b2, _⟩ | ⟨q, _, b2, _⟩ | ⟨q, _⟩
        · exact absurd h (b2 j hj)
        · exact ⟨fun h => phx h q, fun _ => b2 j hj h⟩
        · exact ⟨fun h => phx h q, fun _ => b2 j hj h⟩
        · exact ⟨fun h => phx h q, fun h => by rcases h with h | h <;> exact phx h q⟩
      · rw [s1] at h
        rcases h2 with ⟨q, _⟩ | ⟨_, _, _, b3⟩ | ⟨q, _⟩ | ⟨q, _⟩
        · exact phx ha q
        · cases hq : a.recs.get j with
          | none => rfl
          | some x => exact absurd (b3 j hj (by rw [hq]; rfl)) h
        · exact phx ha q
        · exact phx ha q
  · rcases h2 with ⟨q, b1, b2⟩ | ⟨q, b1, b2, b3⟩ | ⟨q, b1, b2, S, s1, s2, s3⟩ | ⟨q, b1⟩
    · exact .inl ⟨q, hno b1, fun j hj => by rw [(hst j hj).1]; exact b2 j hj⟩
    · exact .inr (.inl ⟨q, hno b1, hst2 _ b2, fun j hj hs => by rw [(hst j hj).1]; exact b3 j hj hs⟩)
    · refine .inr (.inr (.inl ⟨q, hall _ b1, hst2 _ b2, S, s1, s2, fun j hj hs => ⟨by rw [(hst j hj).1]; exact (s3 j hj hs).1, fun r hr => ?_⟩⟩))
      rcases hb j hj r hr with e | ⟨rfl, e1, _⟩
      · exact (s3 j hj hs).2 r e
      · rcases (s3 j hj hs).1 with e | e
        · rw [(hst j hj).1]; exact e
        · rw [(hst j hj).1] at e1; exact absurd e e1
    · exact .inr (.inr (.inr ⟨q, hno b1⟩))
theorem B_gone4 {br : P7 (Option (Rec Bs))} (h2 : P4b n a br R) : X5 n a R := by
  rcases h2 with ⟨q, b1, _⟩ | ⟨q, b1, _⟩ | ⟨q, b1, _⟩ | ⟨q, b1⟩
  · exact .inr ⟨fun h => phx h q, b1⟩
  · exact .inr ⟨fun h => phx h q, b1⟩
  · exact .inl ⟨q, b1⟩
  · exact .inr ⟨fun h => phx h q, b1⟩
/-- takes over what one has accepted -/
theorem B_take {br : P7 (Option (Rec Bs))} (h1 : P4a n g a br R) (h2 : P4b n a br R) {j : Nat} (hj : (j : Int) < n) {r : Rec Bs} (hr : br.get j = some r) (hs : r.st = 2) : X2 n g a R (rva r) := by
  obtain ⟨_, _, _, c4, _⟩ := h1 j hj r hr
  obtain ⟨c4, c5⟩ := c4 hs
  rcases h2 with ⟨q, _⟩ | ⟨q, b1, _⟩ | ⟨q, b1, _⟩ | ⟨q, b1⟩
  · exact absurd q c4
  · exact .inr (.inl ⟨q, (c5 (.inl q)).symm, b1⟩)
  · exact .inr (.inr ⟨q, (c5 (.inr q)).symm, by rw [c5 (.inr q)]; exact b1⟩)
  · exact .inl ⟨.inl q, b1⟩
/-- is free to choose: the first leader is done for -/
theorem B_free {br : P7 (Option (Rec Bs))} (h3 : 3 ≤ n) (h7 : n ≤ 7) (hm : mj n (br.map Option.isSome)) (hs : supB n (br.map Option.isSome)) (hf : ∀ j : Nat, (j : Int) < n → ∀ r, br.get j = some r → r.st ≠ 2)
    (h1 : P4a n g a br R) (h2 : P4b n a br R) : Dead n g a R ∧ noD n R := by
  have hQ : ∀ j : Nat, (j : Int) < n → (br.map Option.isSome).get j = true → blk1 g (R j) ∧ (a.phase = 2 → a.recs.get j = none) := fun j hj hq => by
    rw [P7.get_map] at hq
    cases hr : br.get j with
    | none => rw [hr] at hq; cases hq
    | some r =>
      obtain ⟨c1, _, _, _, c5⟩ := h1 j hj r hr
      exact ⟨c1, c5 (hf j hj r hr)⟩
  rcases h2 with ⟨q, b1, _⟩ | ⟨q, b1, _⟩ | ⟨q, _, _, S, s1, s2, s3⟩ | ⟨q, b1⟩
  · exact ⟨.inr ⟨.inl q, _, hm, hs, hQ⟩, b1⟩
  · exact ⟨.inr ⟨.inr q, _, hm, hs, hQ⟩, b1⟩
  · obtain ⟨j, hj, e1, e2⟩ := inter n h3 h7 s1 hm s2 hs
    rw [P7.get_map] at e2
    cases hr : br.get j with
    | none => rw [hr] at e2; cases e2
    | some r => exact absurd ((s3 j hj e1).2 r hr) (hf j hj r hr)
  · exact ⟨.inl q, b1⟩
/-- hears that it is decided -/
theorem B_learn4 {br : P7 (Option (Rec Bs))} (h2 : P4b n a br R) {j : Nat} (hj : (j : Int) < n) (hs : (R j).st = 3) : X3 n g a R (rva (R j)) := by
  rcases h2 with ⟨_, b1, _⟩ | ⟨_, b1, _⟩ | ⟨q, b1, _⟩ | ⟨_, b1⟩
  · exact absurd hs (b1 j hj)
  · exact absurd hs (b1 j hj)
  · rw [b1 j hj hs]; exact ⟨b1, .inr (.inr ⟨q, rfl⟩)⟩
  · exact absurd hs (b1 j hj)
theorem B_learn2 (h : X2 n g a R v) {j : Nat} (hj : (j : Int) < n) (hs : (R j).st = 3) : X3 n g a R (rva (R j)) := by
  rcases h with ⟨_, b1⟩ | ⟨_, _, b1⟩ | ⟨q, e, b1⟩
  · exact absurd hs (b1 j hj)
  · exact absurd hs (b1 j hj)
  · rw [b1 j hj hs]; exact ⟨b1, .inr (.inr ⟨q, e⟩)⟩
theorem B_dec (h : X2 n g a R v) : X3 n g a R v := by
  rcases h with ⟨d, b1⟩ | ⟨q, e, b1⟩ | ⟨q, e, b1⟩
  · exact ⟨fun j hj hs => absurd hs (b1 j hj), .inl d⟩
  · exact ⟨fun j hj hs => absurd hs (b1 j hj), .inr (.inl ⟨q, e⟩)⟩
  · exact ⟨b1, .inr (.inr ⟨q, e⟩)⟩
theorem B_gone2 (h : X2 n g a R v) : X5 n a R := by
  rcases h with ⟨d, b1⟩ | ⟨q, e, b1⟩ | ⟨q, e, b1⟩
  · refine .inr ⟨fun h => ?_, b1⟩
    rcases d with d | ⟨d | d, _⟩ <;> exact phx h d
  · exact .inr ⟨fun h => phx h q, b1⟩
  · exact .inl ⟨q, by rw [e]; exact b1⟩
theorem B_gone1 (h : Dead n g a R) (h2 : noD n R) : X5 n a R := B_gone2 (g := g) (v := ([], 0, P7.all 0)) (.inl ⟨h, h2⟩)
theorem X2_mono (hR : ∀ j : Nat, (j : Int) < n → R' j = R j ∨ ((R' j).st ≠ 3 ∧ (R' j).bal = bB g)) (h : X2 n g a R v) : X2 n g a R' v := by
  have h1 : ∀ j : Nat, (j : Int) < n → R' j = R j ∨ blk1 g (R' j) := fun j hj => (hR j hj).imp id fun h => .inl h.2
  have h2 : ∀ j : Nat, (j : Int) < n → R' j = R j ∨ (R' j).st ≠ 3 := fun j hj => (hR j hj).imp id fun h => h.1
  rcases h with ⟨d, b1⟩ | ⟨q, e, b1⟩ | ⟨q, e, b1⟩
  · exact .inl ⟨Dead_mono h1 d, noD_mono h2 b1⟩
  · exact .inr (.inl ⟨q, e, noD_mono h2 b1⟩)
  · exact .inr (.inr ⟨q, e, allD_mono (fun j hj => (h2 j hj).imp id .inl) b1⟩)
theorem X3_mono (hR : ∀ j : Nat, (j : Int) < n → R' j = R j ∨ ((R' j).st = 3 ∧ rva (R' j) = v)) (h : X3 n g a R v) : X3 n g a R' v := by
  obtain ⟨b1, h⟩ := h
  refine ⟨allD_mono (fun j hj => (hR j hj).imp id fun h => .inr h.2) b1, ?_⟩
  rcases h with d | h
  · exact .inl (Dead_mono (fun j hj => (hR j hj).imp id fun h => .inr h.1) d)
  · exact .inr h
end
end Go.Proofs.Ytpihhlaiofkmdaa
namespace Go.Proofs.Ytpihhlaiofkmdaa
set_option linter.unusedVariables false
set_option linter.unusedSimpArgs false
open Go Go.Eng

section
variable {n : Int} {f g : Nat} {T : Tbl} {m : Msg Bs} {d : Dot}
theorem cmpAB : cmpB (bA f).1 (bA f).2 (bB g).1 (bB g).2 < 0 := by simp [bA, bB, cmpB, orI, cmpI]
theorem tdo_cases (hd : m.dot = d) :
    ((tdo T m).1 = T ∧ (tdo T m).2.1.ok = false ∧ (tdo T m).2.1.rc.st ≠ 3) ∨
    (∃ ok, old m (trec T d) = some ok ∧ (tdo T m).1 = T ∧ (tdo T m).2.1 = ⟨ok, (trec T d).bal, trec T d⟩) ∨
    (old m (trec T d) = none ∧ (tdo T m).1 = mput T d (putRec T m (trec T d)) ∧ (tdo T m).2.1 = ⟨true, (putRec T m (trec T d)).bal, putRec T m (trec T d)⟩) := by
  subst hd
  unfold tdo
  by_cases hm : m.may = false
  · rw [if_pos hm]; exact .inl ⟨rfl, rfl, (show ¬ (0 : Int) = 3 by decide)⟩
  · rw [if_neg hm]
    cases ho : old m (trec T m.dot) with
    | some ok => exact .inr (.inl ⟨ok, rfl, rfl, rfl⟩)
    | none => exact .inr (.inr ⟨rfl, rfl, rfl⟩)
def o1 (r r' : Rec Bs) (a : Ans Bs) : Prop := r' = r ∧ a.ok = false ∧ a.rc.st ≠ 3
def o2 (r r' : Rec Bs) (a : Ans Bs) : Prop := r' = r ∧ r.st = 3 ∧ a.rc = r ∧ a.ok = false
theorem out (hd : m.dot = d) (hk : m.kind ≠ 3) :
    o1 (trec T d) (trec (tdo T m).1 d) (tdo T m).2.1 ∨ o2 (trec T d) (trec (tdo T m).1 d) (tdo T m).2.1 ∨
    ((trec T d).st ≠ 3 ∧ ¬ (cmpB m.bal.1 m.bal.2 (trec T d).bal.1 (trec T d).bal.2 < 0 ∨ (m.kind = 1 ∧ (trec T d).st = 2)) ∧ (tdo T m).2.1.ok = true ∧ (tdo T m).2.1.rc = trec (tdo T m).1 d ∧
      (tdo T m).2.1.bal = (trec (tdo T m).1 d).bal ∧ ((m.kind = 1 ∧ (trec T d).st = 1 ∧ (trec T d).ab = m.bal ∧ trec (tdo T m).1 d = trec T d) ∨ trec (tdo T m).1 d = putRec T m (trec T d))) := by
  rcases tdo_cases (T := T) hd with ⟨e1, e2, e3⟩ | ⟨ok, ho, e1, e2⟩ | ⟨ho, e1, e2⟩
  · rw [e1]; exact .inl ⟨rfl, e2, e3⟩
  · rw [e1, e2]
    by_cases h3 : (trec T d).st = 3
    · rw [old_3 h3] at ho
      have : ok = false := by rw [← Option.some.inj ho]; simpa using hk
      exact .inr (.inl ⟨rfl, h3, rfl, this⟩)
    · by_cases hf : cmpB m.bal.1 m.bal.2 (trec T d).bal.1 (trec T d).bal.2 < 0 ∨ (m.kind = 1 ∧ (trec T d).st = 2)
      · rw [old_f h3 hk hf] at ho
        exact .inl ⟨rfl, (Option.some.inj ho).symm, h3⟩
      · by_cases ht : m.kind = 1 ∧ (trec T d).st = 1 ∧ (trec T d).ab = m.bal
        · rw [old_t h3 hk hf ht] at ho
          exact .inr (.inr ⟨h3, hf, (Option.some.inj ho).symm, rfl, rfl, .inl ⟨ht.1, ht.2.1, ht.2.2, rfl⟩⟩)
        · rw [old_n h3 hk hf ht] at ho
          cases ho
  · rw [e1, e2, trec_mput]
    have h3 : (trec T d).st ≠ 3 := fun h => by rw [old_3 h] at ho; cases ho
    have hf : ¬ (cmpB m.bal.1 m.bal.2 (trec T d).bal.1 (trec T d).bal.2 < 0 ∨ (m.kind = 1 ∧ (trec T d).st = 2)) := fun h => by rw [old_f h3 hk h] at ho; cases ho
    exact .inr (.inr ⟨h3, hf, rfl, rfl, rfl, .inr rfl⟩)
theorem out3 (hd : m.dot = d) (hk : m.kind = 3) : trec (tdo T m).1 d = trec T d ∨ ((trec T d).st ≠ 3 ∧ (trec (tdo T m).1 d).st = 3 ∧ rva (trec (tdo T m).1 d) = mva m ∧ (trec (tdo T m).1 d).cmd = m.cmd) := by
  rcases tdo_cases (T := T) hd with ⟨e1, e2, e3⟩ | ⟨ok, ho, e1, e2⟩ | ⟨ho, e1, e2⟩
  · rw [e1]; exact .inl rfl
  · rw [e1]; exact .inl rfl
  · rw [e1, trec_mput]
    have h3 : (trec T d).st ≠ 3 := fun h => by rw [old_3 h] at ho; cases ho
    have hp : putRec T m (trec T d) = ⟨3, m.cmd, m.seq, m.deps, most2 m.bal (trec T d).bal, most2 m.bal (trec T d).ab⟩ := by
      unfold putRec; rw [if_neg (by omega), if_neg (by omega), if_pos hk]
    rw [hp]
    exact .inr ⟨h3, rfl, rfl, rfl⟩
theorem put1 (hk : m.kind = 1) (r : Rec Bs) : putRec T m r = ⟨1, m.cmd, imax m.seq (would T m.dot).1, vmerge m.deps (would T m.dot).2, m.bal, m.bal⟩ := by unfold putRec; rw [if_pos hk]
theorem put2 (hk : m.kind = 2) (r : Rec Bs) : putRec T m r = ⟨2, m.cmd, m.seq, m.deps, m.bal, m.bal⟩ := by unfold putRec; rw [if_neg (by omega), if_pos hk]
theorem put4 (hk : m.kind = 4) (r : Rec Bs) : putRec T m r = { r with bal := m.bal } := by unfold putRec; rw [if_neg (by omega), if_neg (by omega), if_neg (by omega)]
/-! ### the tables -/
def RW (f g : Nat) (r : Rec Bs) : Prop := cOk r.cmd ∧ (r.st ≠ 3 → r.bal = (0, 0) ∨ r.bal = bA f ∨ r.bal = bB g)
def gT (f g : Nat) (T : Tbl) : Prop := ∃ r0 l, T = ((⟨(g : Int), 1⟩ : Dot), r0) :: l ∧ r0.st = 1 ∧ r0.seq = 0 ∧ ∀ q ∈ l, q.1 = td f
structure TI (n : Int) (f g : Nat) (U : Nat → Tbl) : Prop where
  rw : ∀ j : Nat, (j : Int) < n → RW f g (trec (U j) (td f))
  gt : gT f g (U g)
  gs : (trec (U g) (td f)).st = 1 → (trec (U g) (td f)).ab = bA f → (trec (U g) (td f)).seq ≠ 0
def upd {α : Type} (U : Nat → α) (j : Nat) (T : α) : Nat → α := fun i => if i = j then T else U i
theorem upd_eq {α : Type} (U : Nat → α) (j : Nat) (T : α) : upd U j T j = T := if_pos rfl
theorem upd_ne {α : Type} (U : Nat → α) {j i : Nat} (T : α) (h : i ≠ j) : upd U j T i = U i := if_neg h
theorem gT_put (h : gT f g T) (hfg : f ≠ g) (r : Rec Bs) : gT f g (mput T (td f) r) := by
  obtain ⟨r0, l, rfl, h1, h2, h3⟩ := h
  have hne : ¬ (⟨(g : Int), 1⟩ : Dot) = td f := fun e => by
    have : (g : Int) = f := congrArg Dot.rep e
    omega
  refine ⟨r0, mput l (td f) r, by simp only [mput, if_neg hne], h1, h2, fun q hq => ?_⟩
  rcases mem_mput hq with rfl | hq
  · rfl
  · exact h3 q hq
theorem gT_would (h : gT f g T) (hfg : f ≠ g) : (would T (td f)).1 = 1 := by
  obtain ⟨r0, l, rfl, h1, h2, h3⟩ := h
  have hne : ¬ (⟨(g : Int), 1⟩ : Dot) = td f := fun e => by
    have : (g : Int) = f := congrArg Dot.rep e
    omega
  have hl : ∀ (l : Tbl) acc, (∀ q ∈ l, q.1 = td f) → l.foldl (wouldStep (td f)) acc = acc := by
    intro l
    induction l with
    | nil => intro acc _; rfl
    | cons q l ih =>
      intro acc hq
      rw [List.foldl_cons, show wouldStep (td f) acc q = acc by unfold wouldStep; exact if_pos (.inl (hq q (by simp)))]
      exact ih acc fun x hx => hq x (List.mem_cons_of_mem _ hx)
  unfold would
  rw [List.foldl_cons, hl _ _ h3]
  unfold wouldStep
  rw [if_neg (by rintro (h | h); exact hne h; exact phx (show r0.st = 0 from h) h1)]
  simp only [h2]
  decide
structure MW (f g : Nat) (m : Msg Bs) : Prop where
  dot : m.dot = td f
  c : cOk m.cmd
  k : m.kind = 1 ∨ m.kind = 2 ∨ m.kind = 3 ∨ m.kind = 4
  b : m.kind ≠ 3 → m.bal = bA f ∨ m.bal = bB g
theorem TI_do {U : Nat → Tbl} (h : TI n f g U) (hfg : f ≠ g) (hm : MW f g m) {j : Nat} (hj : (j : Int) < n) : TI n f g (upd U j (tdo (U j) m).1) := by
  have hr := h.rw j hj
  have key : RW f g (trec (tdo (U j) m).1 (td f)) ∧ (j = g → (trec (tdo (U j) m).1 (td f)).st = 1 → (trec (tdo (U j) m).1 (td f)).ab = bA f → (trec (tdo (U j) m).1 (td f)).seq ≠ 0) := by
    by_cases hk : m.kind = 3
    · rcases out3 (T := U j) hm.dot hk with e | ⟨e1, e2, e3, e4⟩
      · rw [e]; exact ⟨hr, fun h1 => by subst h1; exact h.gs⟩
      · exact ⟨⟨by rw [e4]; exact hm.c, fun h => absurd e2 h⟩, fun _ h1 => phx h1 e2⟩
    · rcases out (T := U j) hm.dot hk with ⟨e, _⟩ | ⟨e, _⟩ | ⟨_, _, _, _, _, ⟨_, _, _, e⟩ | e⟩
      · rw [e]; exact ⟨hr, fun h1 => by subst h1; exact h.gs⟩
      · rw [e]; exact ⟨hr, fun h1 => by subst h1; exact h.gs⟩
      · rw [e]; exact ⟨hr, fun h1 => by subst h1; exact h.gs⟩
      · rw [e]
        rcases hm.k with k | k | k | k
        · rw [put1 k]
          refine ⟨⟨hm.c, fun _ => .inr (hm.b hk)⟩, fun h1 _ _ => ?_⟩
          subst h1
          rw [hm.dot]
          have h2 := gT_would h.gt hfg
          have : ∀ a b : Int, b ≤ imax a b := fun a b => by unfold imax; split <;> omega
          have := this m.seq (would (U j) (td f)).1
          show imax m.seq (would (U j) (td f)).1 ≠ 0
          omega
        · rw [put2 k]
          exact ⟨⟨hm.c, fun _ => .inr (hm.b hk)⟩, fun _ h1 => phx (show (2 : Int) = 1 from h1) rfl⟩
        · exact absurd k hk
        · rw [put4 k]
          exact ⟨⟨hr.1, fun _ => .inr (hm.b hk)⟩, fun h1 => by subst h1; exact h.gs⟩
  have hgt : gT f g (upd U j (tdo (U j) m).1 g) := by
    by_cases hg : g = j
    · subst hg
      rw [upd_eq]
      rcases tdo_cases (T := U g) hm.dot with ⟨e1, _⟩ | ⟨_, _, e1, _⟩ | ⟨_, e1, _⟩
      · rw [e1]; exact h.gt
      · rw [e1]; exact h.gt
      · rw [e1]; exact gT_put h.gt hfg _
    · rw [upd_ne _ _ hg]; exact h.gt
  refine ⟨fun i hi => ?_, hgt, ?_⟩
  · by_cases hij : i = j
    · subst hij; rw [upd_eq]; exact key.1
    · rw [upd_ne _ _ hij]; exact h.rw i hi
  · by_cases hg : g = j
    · subst hg; rw [upd_eq]; exact key.2 rfl
    · rw [upd_ne _ _ hg]; exact h.gs
end
end Go.Proofs.Ytpihhlaiofkmdaa
namespace Go.Proofs.Ytpihhlaiofkmdaa
set_option linter.unusedVariables false
set_option linter.unusedSimpArgs false
open Go Go.Eng

section
variable {n : Int} {f g : Nat}
theorem cnt_some (p : P7 (Option (Rec Bs))) : cnt p.list = cntB (p.map Option.isSome) := by
  unfold cnt cntB
  rw [show (p.map Option.isSome).list = p.list.map Option.isSome from rfl, List.filter_map, List.length_map]
  rfl
def gnext (l : LD) (T : Tbl) (i : Int) (a : Ans Bs) : LD × Tbl :=
  if l.phase = 1 then LD.heard { l with recs := l.recs.set i.toNat (some a.rc), apart := l.apart || Decidable.decide (a.rc.seq ≠ l.own.seq) || Decidable.decide (a.rc.deps ≠ l.own.deps) } T
  else if l.phase = 2 then (if LD.maj { l with recs := l.recs.set i.toNat (some a.rc) } then LD.dec { l with recs := l.recs.set i.toNat (some a.rc) } T ⟨0, l.m.cmd, l.m.seq, l.m.deps, (0, 0), (0, 0)⟩ false else ({ l with recs := l.recs.set i.toNat (some a.rc) }, T))
  else if l.phase = 4 then (if LD.maj { l with recs := l.recs.set i.toNat (some a.rc) } then LD.prepared { l with recs := l.recs.set i.toNat (some a.rc) } T else ({ l with recs := l.recs.set i.toNat (some a.rc) }, T))
  else ({ l with recs := l.recs.set i.toNat (some a.rc) }, T)
theorem got_c (l : LD) (T : Tbl) (i : Int) (a : Ans Bs) : (l.got T i a).1 = (l, T) ∨ (l.phase ≠ 3 ∧ l.phase ≠ 5 ∧ ((a.rc.st = 3 ∧ (l.got T i a).1 = l.dec T a.rc false) ∨ (a.ok = false ∧ (l.got T i a).1 = ({ l with phase := 5 }, T)) ∨
    (a.ok = true ∧ a.rc.st ≠ 3 ∧ 0 ≤ i ∧ i < l.n ∧ i ≠ l.rep ∧ l.recs.get i.toNat = none ∧ (l.got T i a).1 = gnext l T i a))) := by
  unfold LD.got
  by_cases h1 : l.phase = 3 ∨ l.phase = 5 ∨ i < 0 ∨ l.n ≤ i ∨ i = l.rep ∨ (l.recs.get i.toNat).isSome = true
  · rw [if_pos h1]; exact .inl rfl
  rw [if_neg h1]
  by_cases h2 : a.ok = true ∧ (a.bal ≠ l.m.bal ∨ l.fits a.rc = false)
  · rw [if_pos h2]; exact .inl rfl
  rw [if_neg h2]
  have p3 : l.phase ≠ 3 := fun h => h1 (.inl h)
  have p5 : l.phase ≠ 5 := fun h => h1 (.inr (.inl h))
  by_cases h3 : a.rc.st = 3
  · rw [if_pos h3]; exact .inr ⟨p3, p5, .inl ⟨h3, rfl⟩⟩
  rw [if_neg h3]
  by_cases h4 : a.ok = false
  · rw [if_pos h4]
    by_cases h5 : cmpB a.bal.1 a.bal.2 l.m.bal.1 l.m.bal.2 ≤ 0
    · rw [if_pos h5]; exact .inl rfl
    · rw [if_neg h5]; exact .inr ⟨p3, p5, .inr (.inl ⟨h4, rfl⟩)⟩
  rw [if_neg h4]
  refine .inr ⟨p3, p5, .inr (.inr ⟨by simpa using h4, h3, Int.not_lt.1 fun h => h1 (.inr (.inr (.inl h))), Int.not_le.1 fun h => h1 (.inr (.inr (.inr (.inl h)))), fun h => h1 (.inr (.inr (.inr (.inr (.inl h))))), ?_, ?_⟩)⟩
  · cases hq : l.recs.get i.toNat with
    | none => rfl
    | some x => exact absurd (.inr (.inr (.inr (.inr (.inr (by rw [hq]; rfl)))))) h1
  · unfold gnext
    by_cases q1 : l.phase = 1
    · rw [if_pos q1, if_pos q1]
    rw [if_neg q1, if_neg q1]
    by_cases q2 : l.phase = 2
    · rw [if_pos q2, if_pos q2]
    rw [if_neg q2, if_neg q2]
    by_cases q4 : l.phase = 4
    · rw [if_pos q4, if_pos q4]
    rw [if_neg q4, if_neg q4]
def RU (f : Nat) (U : Nat → Tbl) : Nat → Rec Bs := fun j => trec (U j) (td f)
structure AW (n : Int) (f g : Nat) (a : LD) : Prop where
  en : a.n = n
  er : a.rep = f
  dot : a.m.dot = td f
  c : cOk a.m.cmd
  ph : (a.phase = 1 ∧ a.m.kind = 1 ∧ a.m.bal = bA f ∧ a.own.seq = 0 ∧ ((a.recs.get g).isSome = true → a.apart = true)) ∨ (a.phase = 2 ∧ a.m.kind = 2 ∧ a.m.bal = bA f) ∨ (a.phase = 3 ∧ a.m.kind = 3) ∨ a.phase = 5
  sup : ∀ j : Nat, j < 7 → n ≤ (j : Int) → a.recs.get j = none
structure Env (n : Int) (f g : Nat) : Prop where
  n3 : 3 ≤ n
  n5 : n ≤ 5
  fn : (f : Int) < n
  gn : (g : Int) < n
  fg : f ≠ g
structure FA (n : Int) (f g : Nat) (a : LD) (ob : Option LD) (U : Nat → Tbl) : Prop where
  aw : AW n f g a
  ti : TI n f g U
  ib : IB n g a ob (RU f U)
theorem RU_upd (U : Nat → Tbl) (j : Nat) (T : Tbl) (i : Nat) : RU f (upd U j T) i = if i = j then trec T (td f) else RU f U i := by
  unfold RU upd; split <;> rfl
theorem RU_same {U : Nat → Tbl} {j : Nat} {T : Tbl} (h : trec T (td f) = trec (U j) (td f)) : RU f (upd U j T) = RU f U := by
  funext i; rw [RU_upd]; split
  · rename_i e; rw [h, e]; rfl
  · rfl
theorem upd_upd {α : Type} (U : Nat → α) (j : Nat) (T T' : α) : upd (upd U j T) j T' = upd U j T' := by funext i; unfold upd; split <;> rfl
theorem R_com {U : Nat → Tbl} {j : Nat} {m : Msg Bs} (hd : m.dot = td f) (hk : m.kind = 3) (i : Nat) :
    RU f (upd U j (tdo (U j) m).1) i = RU f U i ∨ ((RU f (upd U j (tdo (U j) m).1) i).st = 3 ∧ rva (RU f (upd U j (tdo (U j) m).1) i) = mva m) := by
  rw [RU_upd]
  by_cases h : i = j
  · subst h
    rw [if_pos rfl]
    rcases out3 (T := U i) hd hk with e | ⟨_, e1, e2, _⟩
    · exact .inl e
    · exact .inr ⟨e1, e2⟩
  · rw [if_neg h]; exact .inl rfl
abbrev cmsg (l : LD) (r : Rec Bs) : Msg Bs := ⟨3, l.m.dot, l.m.bal, r.cmd, r.seq, r.deps⟩
variable {a l : LD} {ob : Option LD} {U : Nat → Tbl}
theorem a_learn (E : Env n f g) (h : FA n f g a ob U) (hp : a.phase = 1 ∨ a.phase = 2) (hn : l.n = n) (hr : l.rep = f) (hd : l.m.dot = td f) (hs : ∀ j : Nat, j < 7 → n ≤ (j : Int) → l.recs.get j = none)
    {i : Nat} (hi : (i : Int) < n) (h3 : (RU f U i).st = 3) : FA n f g (l.dec (U f) (RU f U i) false).1 ob (upd U f (l.dec (U f) (RU f U i) false).2) := by
  have hc := (h.ti.rw i hi).1
  refine ⟨⟨hn, hr, hd, hc, .inr (.inr (.inl ⟨rfl, rfl⟩)), hs⟩, TI_do h.ti E.fg (m := cmsg l (RU f U i)) ⟨hd, hc, .inr (.inr (.inl rfl)), fun h => absurd rfl h⟩ E.fn, ?_⟩
  exact A_learn (a' := (l.dec (U f) (RU f U i) false).1) hp rfl hi h3 rfl (fun j _ => R_com (U := U) (j := f) (m := cmsg l (RU f U i)) hd rfl j) h.ib
theorem balA {r : Rec Bs} (h : ¬ (cmpB (bA f).1 (bA f).2 r.bal.1 r.bal.2 < 0)) : r.bal ≠ bB g := fun e => h (by rw [e]; exact cmpAB)
theorem bA_ne : bA f ≠ bB g := fun h => absurd (congrArg Prod.fst h) (by simp [bA, bB])
theorem a_begin2 (E : Env n f g) (h : FA n f g a ob U) (hp : a.phase = 1) (hn : l.n = n) (hr : l.rep = f) {m : Msg Bs} (hk : m.kind = 2) (hb : m.bal = bA f) (hd : m.dot = td f) (hc : cOk m.cmd) :
    FA n f g (l.begin (U f) 2 m).1 ob (upd U f (l.begin (U f) 2 m).2) := by
  have hti := TI_do h.ti E.fg (m := m) ⟨hd, hc, .inr (.inl hk), fun _ => .inl hb⟩ E.fn
  have h7 : (f : Int) < 7 := by have := E.fn; have := E.n5; omega
  rcases out (T := U f) hd (by omega) with ⟨e1, e2, e3⟩ | ⟨e1, e2, e3, e4⟩ | ⟨e1, e2, e3, e4, e5, e6⟩
  · rw [LD.begin_f rfl e3 e2]
    exact ⟨⟨hn, hr, hd, hc, .inr (.inr (.inr rfl)), fun j _ _ => P7.get_all _ _⟩, hti, by rw [RU_same e1]; exact A_gone (.inl hp) rfl h.ib⟩
  · rw [LD.begin_3 (a := (tdo (U f) m).2.1) rfl (by rw [e3]; exact e2)]
    have h1 : FA n f g a ob (upd U f (tdo (U f) m).1) := ⟨h.aw, hti, by rw [RU_same e1]; exact h.ib⟩
    have h2 := a_learn (l := { l with phase := 2, m := m, apart := false, recs := P7.all none }) E h1 (.inl hp) hn hr hd (fun j _ _ => P7.get_all _ _) (i := f) E.fn (by rw [RU_same e1]; exact e2)
    rw [upd_upd, upd_eq, RU_same e1] at h2
    rw [e3]
    exact h2
  · have e6 : trec (tdo (U f) m).1 (td f) = ⟨2, m.cmd, m.seq, m.deps, m.bal, m.bal⟩ := by
      rcases e6 with ⟨q, _⟩ | q
      · omega
      · rw [q, put2 hk]
    have hst : (tdo (U f) m).2.1.rc.st = 2 := by rw [e4, e6]
    rw [LD.begin_t rfl (by rw [hst]; decide) e3]
    have hbal : (RU f U f).bal ≠ bB g := balA (f := f) fun h => e2 (.inl (by rw [hb]; exact h))
    have e6' : RU f (upd U f (tdo (U f) m).1) f = ⟨2, m.cmd, m.seq, m.deps, m.bal, m.bal⟩ := by rw [RU_upd, if_pos rfl, e6]
    have hx : ∀ j, j < 7 → ((P7.all none).set l.rep.toNat (some (tdo (U f) m).2.1.rc)).get j = if j = f then some (tdo (U f) m).2.1.rc else none := fun j hj => by
      rw [P7.get_set _ _ _ _ hj, hr, P7.get_all]; rfl
    refine ⟨⟨hn, hr, ?_, ?_, .inr (.inl ⟨rfl, ?_, ?_⟩), fun j hj hjn => ?_⟩, hti, A_acc (.inl hp) rfl (fun j hj => ?_) (fun j hj hs => ?_) h.ib⟩
    · rw [if_neg (by decide)]; exact hd
    · rw [if_neg (by decide)]; exact hc
    · rw [if_neg (by decide)]; exact hk
    · rw [if_neg (by decide)]; exact hb
    · rw [hx j hj, if_neg (by have := E.fn; omega)]
    · by_cases hjf : j = f
      · subst hjf
        rw [e6']
        exact .inr ⟨hbal, e1, rfl, by rw [if_neg (by decide)]; rfl, by rw [hb]; exact bA_ne⟩
      · rw [RU_upd, if_neg hjf]; exact .inl rfl
    · have hj7 : j < 7 := by have := E.n5; omega
      rw [hx j hj7] at hs
      by_cases hjf : j = f
      · subst hjf; exact .inr ⟨hbal, e1, by rw [e6']⟩
      · rw [if_neg hjf] at hs; cases hs
end
end Go.Proofs.Ytpihhlaiofkmdaa
namespace Go.Proofs.Ytpihhlaiofkmdaa
set_option linter.unusedVariables false
set_option linter.unusedSimpArgs false
open Go Go.Eng

section
variable {n : Int} {f g : Nat} {a l : LD} {ob : Option LD} {U : Nat → Tbl}
theorem accFold : ∀ (L : List (Option (Rec Bs))) (m : Msg Bs), (L.foldl accStep m).kind = m.kind ∧ (L.foldl accStep m).bal = m.bal ∧ (L.foldl accStep m).dot = m.dot ∧ (L.foldl accStep m).cmd = m.cmd := by
  intro L
  induction L with
  | nil => intro m; exact ⟨rfl, rfl, rfl, rfl⟩
  | cons o L ih =>
    intro m
    rw [List.foldl_cons]
    obtain ⟨h1, h2, h3, h4⟩ := ih (accStep m o)
    rw [h1, h2, h3, h4]
    cases o <;> exact ⟨rfl, rfl, rfl, rfl⟩
theorem upd_self (U : Nat → Tbl) (j : Nat) : upd U j (U j) = U := by funext i; unfold upd; split; rename_i h; rw [h]; rfl
theorem full (h5 : n ≤ 5) {S : P7 Bool} (hs : supB n S) (hc : cntB S = n) (hg : (g : Int) < n) : S.get g = true := by
  refine Classical.byContradiction fun hno => ?_
  have hno : S.get g = false := by simpa using hno
  have hj : ∀ j : Nat, j < 7 → (n ≤ (j : Int) ∧ bi (S.get j) = 0) ∨ ((j : Int) < n ∧ 0 ≤ bi (S.get j) ∧ bi (S.get j) ≤ 1) := by
    intro j h
    by_cases hn : n ≤ (j : Int)
    · left; rw [hs j h hn]; exact ⟨hn, rfl⟩
    · right
      refine ⟨by omega, ?_⟩
      cases S.get j <;> decide
  rw [cntB_sum] at hc
  have hz : bi (S.get g) = 0 := by rw [hno]; rfl
  have h0 := hj 0 (by omega)
  have h1 := hj 1 (by omega)
  have h2 := hj 2 (by omega)
  have h3' := hj 3 (by omega)
  have h4 := hj 4 (by omega)
  have h5' := hj 5 (by omega)
  have h6 := hj 6 (by omega)
  have hg5 : g = 0 ∨ g = 1 ∨ g = 2 ∨ g = 3 ∨ g = 4 := by omega
  clear hj hno hs
  rcases hg5 with rfl | rfl | rfl | rfl | rfl
  all_goals
    simp only [P7.get] at h0 h1 h2 h3' h4 h5' h6 hz
    omega
theorem supN (h : ∀ j : Nat, j < 7 → n ≤ (j : Int) → l.recs.get j = none) : supB n (l.recs.map Option.isSome) := fun j h7 hn => by rw [P7.get_map, h j h7 hn]; rfl
theorem a_accept (E : Env n f g) (h : FA n f g a ob U) (hp : a.phase = 1) (hn : l.n = n) (hr : l.rep = f) (hb : l.m.bal = bA f) (hd : l.m.dot = td f) (hc : cOk l.m.cmd) :
    FA n f g (l.accept (U f)).1 ob (upd U f (l.accept (U f)).2) := by
  obtain ⟨e1, e2, e3, e4⟩ := accFold l.recs.list { l.m with kind := 2 }
  exact a_begin2 E h hp hn hr e1 (e2.trans hb) (e3.trans hd) (by rw [e4]; exact hc)
theorem AW.one (h : AW n f g a) (hp : a.phase = 1) : a.m.kind = 1 ∧ a.m.bal = bA f ∧ a.own.seq = 0 ∧ ((a.recs.get g).isSome = true → a.apart = true) := by
  rcases h.ph with ⟨_, q⟩ | ⟨q, _⟩ | ⟨q, _⟩ | q
  · exact q
  all_goals exact phx hp q
theorem AW.two (h : AW n f g a) (hp : a.phase = 2) : a.m.kind = 2 ∧ a.m.bal = bA f := by
  rcases h.ph with ⟨q, _⟩ | ⟨_, q⟩ | ⟨q, _⟩ | q
  · exact phx hp q
  · exact q
  all_goals exact phx hp q
theorem a_slow (E : Env n f g) (h : FA n f g a ob U) : FA n f g (a.slow (U f)).1.1 ob (upd U f (a.slow (U f)).1.2) := by
  unfold LD.slow
  by_cases hc : a.phase ≠ 1 ∨ a.maj = false
  · rw [if_pos hc]; simp only; rw [upd_self]; exact h
  · rw [if_neg hc]
    have hp : a.phase = 1 := Classical.byContradiction fun q => hc (.inl q)
    obtain ⟨_, q2, _, _⟩ := h.aw.one hp
    exact a_accept E h hp h.aw.en h.aw.er q2 h.aw.dot h.aw.c
theorem a_gone (h : FA n f g a ob U) (hp : a.phase = 1 ∨ a.phase = 2) : FA n f g { a with phase := 5 } ob U :=
  ⟨⟨h.aw.en, h.aw.er, h.aw.dot, h.aw.c, .inr (.inr (.inr rfl)), h.aw.sup⟩, h.ti, A_gone hp rfl h.ib⟩
/-- an answer that says nothing new of this ballot -/
theorem a_no (E : Env n f g) (h : FA n f g a ob U) (hp : a.phase = 1 ∨ a.phase = 2) {j : Nat} (hj : (j : Int) < n) {x : Ans Bs} (hok : x.ok = false) (hx : x.rc.st = 3 → x.rc = RU f U j) :
    FA n f g (a.got (U f) j x).1.1 ob (upd U f (a.got (U f) j x).1.2) := by
  rcases got_c a (U f) j x with e | ⟨_, _, ⟨e1, e⟩ | ⟨_, e⟩ | ⟨e1, _⟩⟩
  · rw [e]; simp only; rw [upd_self]; exact h
  · rw [e, hx e1]
    exact a_learn E h hp h.aw.en h.aw.er h.aw.dot h.aw.sup hj (by rw [← hx e1]; exact e1)
  · rw [e]; simp only; rw [upd_self]; exact a_gone h hp
  · rw [hok] at e1; cases e1
theorem a_step (E : Env n f g) (h : FA n f g a ob U) (h5 : a.phase ≠ 5) {j : Nat} (hj : (j : Int) < n) (hjf : j ≠ f) :
    FA n f g (a.got (U f) j (tdo (U j) a.msg).2.1).1.1 ob (upd (upd U j (tdo (U j) a.msg).1) f (a.got (U f) j (tdo (U j) a.msg).2.1).1.2) := by
  have hmsg : a.msg = a.m := if_neg h5
  rw [hmsg]
  have hn5 := E.n5
  have hfj : f ≠ j := Ne.symm hjf
  have hMW : MW f g a.m := by
    refine ⟨h.aw.dot, h.aw.c, ?_, fun h3 => ?_⟩
    · rcases h.aw.ph with q | q | q | q
      · exact .inl q.2.1
      · exact .inr (.inl q.2.1)
      · exact .inr (.inr (.inl q.2))
      · exact absurd q h5
    · rcases h.aw.ph with q | q | q | q
      · exact .inl q.2.2.1
      · exact .inl q.2.2
      · exact absurd q.2 h3
      · exact absurd q h5
  have hti := TI_do h.ti E.fg hMW hj
  have hUf : upd U j (tdo (U j) a.m).1 f = U f := upd_ne _ _ hfj
  have hRj : RU f (upd U j (tdo (U j) a.m).1) j = trec (tdo (U j) a.m).1 (td f) := by rw [RU_upd, if_pos rfl]
  have hRi : ∀ i, i ≠ j → RU f (upd U j (tdo (U j) a.m).1) i = RU f U i := fun i hi => by rw [RU_upd, if_neg hi]
  generalize hU1 : upd U j (tdo (U j) a.m).1 = U1 at *
  rw [← hUf]
  have hsame : trec (tdo (U j) a.m).1 (td f) = trec (U j) (td f) → RU f U1 = RU f U := fun e => by rw [← hU1]; exact RU_same e
  have hgetset : ∀ (x : Option (Rec Bs)) i, i < 7 → (a.recs.set (j : Int).toNat x).get i = if i = j then x else a.recs.get i := fun x i hi => by rw [Int.toNat_natCast, P7.get_set _ _ _ _ hi]
  rcases h.aw.ph with ⟨p, k, b, q1, q2⟩ | ⟨p, k, b⟩ | ⟨p, k⟩ | p
  · -- it hears
    rcases out (T := U j) h.aw.dot (by omega) with ⟨e1, e2, e3⟩ | ⟨e1, e2, e3, e4⟩ | ⟨e1, e2, e3, e4, e5, e6⟩
    · exact a_no E ⟨h.aw, hti, by rw [hsame e1]; exact h.ib⟩ (.inl p) hj e2 (fun q => absurd q e3)
    · exact a_no E ⟨h.aw, hti, by rw [hsame e1]; exact h.ib⟩ (.inl p) hj e4 (fun _ => by rw [e3, hsame e1]; rfl)
    · have hst : (trec (tdo (U j) a.m).1 (td f)).st = 1 ∧ (trec (tdo (U j) a.m).1 (td f)).ab = bA f := by
        rcases e6 with ⟨_, s1, s2, s3⟩ | s
        · rw [s3]; exact ⟨s1, s2.trans b⟩
        · rw [s, put1 k]; exact ⟨rfl, b⟩
      have hh : ∀ a', a'.phase = 1 → IB n g a' ob (RU f U1) := fun a' pa => by
        refine A_hear p pa (fun i hi => ?_) h.ib
        by_cases hij : i = j
        · subst hij
          rw [hRj]
          rcases e6 with ⟨_, _, _, s3⟩ | s
          · exact .inl s3
          · refine .inr ⟨balA (f := f) fun h => e2 (.inl (by rw [b]; exact h)), e1, fun h => e2 (.inr ⟨k, h⟩), hst.1, ?_⟩
            rw [s, put1 k]; show a.m.bal ≠ bB g; rw [b]; exact bA_ne
        · exact .inl (hRi i hij)
      have h1 : FA n f g a ob U1 := ⟨h.aw, hti, hh a p⟩
      rcases got_c a (U1 f) j (tdo (U j) a.m).2.1 with e | ⟨_, _, ⟨r1, _⟩ | ⟨r1, _⟩ | ⟨_, _, _, _, _, _, e⟩⟩
      · rw [e]; simp only; rw [upd_self]; exact h1
      · rw [e4] at r1; exact phx r1 hst.1
      · rw [e3] at r1; cases r1
      · rw [e]
        unfold gnext
        rw [if_pos p]
        generalize hl : ({ a with recs := a.recs.set (j : Int).toNat (some (tdo (U j) a.m).2.1.rc), apart := a.apart || decide ((tdo (U j) a.m).2.1.rc.seq ≠ a.own.seq) || decide ((tdo (U j) a.m).2.1.rc.deps ≠ a.own.deps) } : LD) = l1
        have l_rec : l1.recs = a.recs.set (j : Int).toNat (some (tdo (U j) a.m).2.1.rc) := by rw [← hl]
        have l_ap : l1.apart = (a.apart || decide ((tdo (U j) a.m).2.1.rc.seq ≠ a.own.seq) || decide ((tdo (U j) a.m).2.1.rc.deps ≠ a.own.deps)) := by rw [← hl]
        have l_n : l1.n = n := by rw [← hl]; exact h.aw.en
        have l_r : l1.rep = f := by rw [← hl]; exact h.aw.er
        have l_m : l1.m = a.m := by rw [← hl]
        have l_p : l1.phase = 1 := by rw [← hl]; exact p
        have l_o : l1.own = a.own := by rw [← hl]
        have hgap : (l1.recs.get g).isSome = true → l1.apart = true := fun hs => by
          rw [l_ap]
          by_cases hgj : g = j
          · have hq : (tdo (U j) a.m).2.1.rc.seq ≠ 0 := by
              have := hti.gs
              rw [show trec (U1 g) (td f) = RU f U1 g from rfl, hgj, hRj] at this
              rw [e4]; exact this hst.1 hst.2
            rw [q1]; simp [hq]
          · rw [l_rec, hgetset _ _ (by have := E.gn; omega), if_neg hgj] at hs
            rw [q2 hs]; simp
        have l_s : ∀ i : Nat, i < 7 → n ≤ (i : Int) → l1.recs.get i = none := fun i h7 hin => by
          rw [l_rec, hgetset _ _ h7, if_neg (by omega)]; exact h.aw.sup i h7 hin
        have hAW : AW n f g l1 := ⟨l_n, l_r, by rw [l_m]; exact h.aw.dot, by rw [l_m]; exact h.aw.c, .inl ⟨l_p, by rw [l_m]; exact k, by rw [l_m]; exact b, by rw [l_o]; exact q1, hgap⟩, l_s⟩
        clear hl
        unfold LD.heard
        by_cases hf : l1.count = l1.n ∧ l1.apart = false ∧ l1.m.bal.1 = 0
        · have hc : cntB (l1.recs.map Option.isSome) = n := by rw [← cnt_some, ← l_n]; exact hf.1
          have := full E.n5 (supN l_s) hc E.gn
          rw [P7.get_map] at this
          rw [hgap this] at hf
          exact absurd hf.2.1 (by simp)
        · rw [if_neg hf]
          by_cases hm : l1.maj = true ∧ (l1.apart = true ∨ 0 < l1.m.bal.1)
          · rw [if_pos hm]
            exact a_accept E h1 p l_n l_r (by rw [l_m]; exact b) (by rw [l_m]; exact h.aw.dot) (by rw [l_m]; exact h.aw.c)
          · rw [if_neg hm]
            simp only
            rw [upd_self]
            exact ⟨hAW, hti, hh l1 l_p⟩
  · -- it has it accepted
    rcases out (T := U j) h.aw.dot (by omega) with ⟨e1, e2, e3⟩ | ⟨e1, e2, e3, e4⟩ | ⟨e1, e2, e3, e4, e5, e6⟩
    · exact a_no E ⟨h.aw, hti, by rw [hsame e1]; exact h.ib⟩ (.inr p) hj e2 (fun q => absurd q e3)
    · exact a_no E ⟨h.aw, hti, by rw [hsame e1]; exact h.ib⟩ (.inr p) hj e4 (fun _ => by rw [e3, hsame e1]; rfl)
    · have e6 : trec (tdo (U j) a.m).1 (td f) = ⟨2, a.m.cmd, a.m.seq, a.m.deps, a.m.bal, a.m.bal⟩ := by
        rcases e6 with ⟨q, _⟩ | q
        · omega
        · rw [q, put2 k]
      have hbal : (RU f U j).bal ≠ bB g := balA (f := f) fun h => e2 (.inl (by rw [b]; exact h))
      have hh : ∀ a' : LD, a'.phase = 2 → a'.m = a.m → (∀ i : Nat, (i : Int) < n → (a'.recs.get i).isSome = true → i ≠ j → (a.recs.get i).isSome = true) → IB n g a' ob (RU f U1) := fun a' pa em hc => by
        refine A_acc (.inr ⟨p, by rw [em]⟩) pa (fun i hi => ?_) (fun i hi hs => ?_) h.ib
        · by_cases hij : i = j
          · subst hij
            rw [hRj, e6, em]
            exact .inr ⟨hbal, e1, rfl, rfl, by rw [b]; exact bA_ne⟩
          · exact .inl (hRi i hij)
        · by_cases hij : i = j
          · subst hij
            rw [hRj, e6]
            exact .inr ⟨hbal, e1, rfl⟩
          · exact .inl ⟨p, hc i hi hs hij⟩
      have h1 : FA n f g a ob U1 := ⟨h.aw, hti, hh a p rfl fun _ _ hs _ => hs⟩
      rcases got_c a (U1 f) j (tdo (U j) a.m).2.1 with e | ⟨_, _, ⟨r1, _⟩ | ⟨r1, _⟩ | ⟨_, _, _, _, _, _, e⟩⟩
      · rw [e]; simp only; rw [upd_self]; exact h1
      · rw [e4, e6] at r1; exact phx (show (2 : Int) = 3 from r1) rfl
      · rw [e3] at r1; cases r1
      · rw [e]
        unfold gnext
        rw [if_neg (by omega), if_pos p]
        generalize hl : ({ a with recs := a.recs.set (j : Int).toNat (some (tdo (U j) a.m).2.1.rc) } : LD) = l1
        have l_rec : l1.recs = a.recs.set (j : Int).toNat (some (tdo (U j) a.m).2.1.rc) := by rw [← hl]
        have l_n : l1.n = n := by rw [← hl]; exact h.aw.en
        have l_r : l1.rep = f := by rw [← hl]; exact h.aw.er
        have l_m : l1.m = a.m := by rw [← hl]
        have l_p : l1.phase = 2 := by rw [← hl]; exact p
        have l_s : ∀ i : Nat, i < 7 → n ≤ (i : Int) → l1.recs.get i = none := fun i h7 hin => by
          rw [l_rec, hgetset _ _ h7, if_neg (by omega)]; exact h.aw.sup i h7 hin
        have hAW : AW n f g l1 := ⟨l_n, l_r, by rw [l_m]; exact h.aw.dot, by rw [l_m]; exact h.aw.c, .inr (.inl ⟨l_p, by rw [l_m]; exact k, by rw [l_m]; exact b⟩), l_s⟩
        have h2 : FA n f g l1 ob U1 := ⟨hAW, hti, hh l1 l_p l_m fun i hi hs hij => by rwa [l_rec, hgetset _ _ (by omega), if_neg hij] at hs⟩
        clear hl
        by_cases hm : l1.maj = true
        · rw [if_pos hm]
          have hmj : mj n (l1.recs.map Option.isSome) := by
            unfold mj
            rw [← cnt_some, ← l_n]
            exact of_decide_eq_true hm
          refine ⟨⟨l_n, l_r, by rw [← l_m] at hMW; exact hMW.dot, h.aw.c, .inr (.inr (.inl ⟨rfl, rfl⟩)), l_s⟩, ?_, ?_⟩
          · exact TI_do hti E.fg (m := cmsg l1 ⟨0, a.m.cmd, a.m.seq, a.m.deps, (0, 0), (0, 0)⟩) ⟨(congrArg Msg.dot l_m).trans h.aw.dot, h.aw.c, .inr (.inr (.inl rfl)), fun h => absurd rfl h⟩ E.fn
          · refine A_dec E.n3 (by omega) l_p (a' := (l1.dec (U1 f) ⟨0, a.m.cmd, a.m.seq, a.m.deps, (0, 0), (0, 0)⟩ false).1) rfl (by rw [l_m]; rfl) hmj (supN l_s) (fun i _ => ?_) h2.ib
            have := R_com (U := U1) (j := f) (m := cmsg l1 ⟨0, a.m.cmd, a.m.seq, a.m.deps, (0, 0), (0, 0)⟩) ((congrArg Msg.dot l_m).trans h.aw.dot) rfl i
            rw [l_m]
            exact this
        · rw [if_neg hm]
          simp only
          rw [upd_self]
          exact h2
  · -- it is decided
    have h1 : FA n f g a ob U1 := ⟨h.aw, hti, by
      refine A_com p (fun i _ => ?_) h.ib
      rw [← hU1]
      exact R_com h.aw.dot k i⟩
    rcases got_c a (U1 f) j (tdo (U j) a.m).2.1 with e | ⟨e, _⟩
    · rw [e]; simp only; rw [upd_self]; exact h1
    · exact absurd p e
  · exact absurd p h5
end
end Go.Proofs.Ytpihhlaiofkmdaa
namespace Go.Proofs.Ytpihhlaiofkmdaa
set_option linter.unusedVariables false
set_option linter.unusedSimpArgs false
open Go Go.Eng

section
variable {n : Int} {f g : Nat} {a b l : LD} {U : Nat → Tbl}
structure BW (n : Int) (f g : Nat) (b : LD) : Prop where
  en : b.n = n
  er : b.rep = g
  dot : b.m.dot = td f
  c : cOk b.m.cmd
  ph : (b.phase = 4 ∧ b.m.kind = 4 ∧ b.m.bal = bB g) ∨ (b.phase = 1 ∧ b.m.kind = 1 ∧ b.m.bal = bB g) ∨ (b.phase = 2 ∧ b.m.kind = 2 ∧ b.m.bal = bB g) ∨ (b.phase = 3 ∧ b.m.kind = 3) ∨ b.phase = 5
  sup : ∀ j : Nat, j < 7 → n ≤ (j : Int) → b.recs.get j = none
structure FB (n : Int) (f g : Nat) (a b : LD) (U : Nat → Tbl) : Prop where
  bw : BW n f g b
  ti : TI n f g U
  ib : IBs n g a b (RU f U)
theorem b_learn (E : Env n f g) (hti : TI n f g U) (hn : l.n = n) (hr : l.rep = g) (hd : l.m.dot = td f) (hs : ∀ j : Nat, j < 7 → n ≤ (j : Int) → l.recs.get j = none)
    {i : Nat} (hi : (i : Int) < n) (hx : X3 n g a (RU f U) (rva (RU f U i))) : FB n f g a (l.dec (U g) (RU f U i) false).1 (upd U g (l.dec (U g) (RU f U i) false).2) := by
  have hc := (hti.rw i hi).1
  refine ⟨⟨hn, hr, hd, hc, .inr (.inr (.inr (.inl ⟨rfl, rfl⟩))), hs⟩, TI_do hti E.fg (m := cmsg l (RU f U i)) ⟨hd, hc, .inr (.inr (.inl rfl)), fun h => absurd rfl h⟩ E.gn, ?_⟩
  exact .inr (.inr (.inr (.inl ⟨rfl, X3_mono (fun j _ => R_com (U := U) (j := g) (m := cmsg l (RU f U i)) hd rfl j) hx⟩)))
theorem b_begin2 (E : Env n f g) (hti0 : TI n f g U) (hn : l.n = n) (hr : l.rep = g) {m : Msg Bs} (hk : m.kind = 2) (hb : m.bal = bB g) (hd : m.dot = td f) (hc : cOk m.cmd) (hx : X2 n g a (RU f U) (mva m)) :
    FB n f g a (l.begin (U g) 2 m).1 (upd U g (l.begin (U g) 2 m).2) := by
  have hti := TI_do hti0 E.fg (m := m) ⟨hd, hc, .inr (.inl hk), fun _ => .inr hb⟩ E.gn
  rcases out (T := U g) hd (by omega) with ⟨e1, e2, e3⟩ | ⟨e1, e2, e3, e4⟩ | ⟨e1, e2, e3, e4, e5, e6⟩
  · rw [LD.begin_f rfl e3 e2]
    exact ⟨⟨hn, hr, hd, hc, .inr (.inr (.inr (.inr rfl))), fun j _ _ => P7.get_all _ _⟩, hti, by rw [RU_same e1]; exact .inr (.inr (.inr (.inr ⟨rfl, B_gone2 hx⟩)))⟩
  · rw [LD.begin_3 (a := (tdo (U g) m).2.1) rfl (by rw [e3]; exact e2)]
    have h2 := b_learn (a := a) (l := { l with phase := 2, m := m, apart := false, recs := P7.all none }) E hti hn hr hd (fun j _ _ => P7.get_all _ _) (i := g) E.gn (by rw [RU_same e1]; exact B_learn2 hx E.gn e2)
    rw [upd_upd, upd_eq, RU_same e1] at h2
    rw [e3]
    exact h2
  · have e6 : trec (tdo (U g) m).1 (td f) = ⟨2, m.cmd, m.seq, m.deps, m.bal, m.bal⟩ := by
      rcases e6 with ⟨q, _⟩ | q
      · omega
      · rw [q, put2 hk]
    have hst : (tdo (U g) m).2.1.rc.st = 2 := by rw [e4, e6]
    rw [LD.begin_t rfl (by rw [hst]; decide) e3]
    refine ⟨⟨hn, hr, ?_, ?_, .inr (.inr (.inl ⟨rfl, ?_, ?_⟩)), fun j hj hjn => ?_⟩, hti, .inr (.inr (.inl ⟨rfl, ?_⟩))⟩
    · rw [if_neg (by decide)]; exact hd
    · rw [if_neg (by decide)]; exact hc
    · rw [if_neg (by decide)]; exact hk
    · rw [if_neg (by decide)]; exact hb
    · show ((P7.all none).set l.rep.toNat (some (tdo (U g) m).2.1.rc)).get j = none
      rw [P7.get_set _ _ _ _ hj, hr, if_neg (by have := E.gn; omega), P7.get_all]
    · rw [if_neg (by decide)]
      refine X2_mono (fun j hj => ?_) hx
      rw [RU_upd]
      by_cases hjg : j = g
      · rw [if_pos hjg, e6]; exact .inr ⟨(show ¬ (2 : Int) = 3 by decide), hb⟩
      · rw [if_neg hjg]; exact .inl rfl
theorem b_begin1 (E : Env n f g) (hti0 : TI n f g U) (hn : l.n = n) (hr : l.rep = g) {m : Msg Bs} (hk : m.kind = 1) (hb : m.bal = bB g) (hd : m.dot = td f) (hc : cOk m.cmd) (hx : Dead n g a (RU f U)) (hno : noD n (RU f U)) :
    FB n f g a (l.begin (U g) 1 m).1 (upd U g (l.begin (U g) 1 m).2) := by
  have hti := TI_do hti0 E.fg (m := m) ⟨hd, hc, .inl hk, fun _ => .inr hb⟩ E.gn
  rcases out (T := U g) hd (by omega) with ⟨e1, e2, e3⟩ | ⟨e1, e2, e3, e4⟩ | ⟨e1, e2, e3, e4, e5, e6⟩
  · rw [LD.begin_f rfl e3 e2]
    exact ⟨⟨hn, hr, hd, hc, .inr (.inr (.inr (.inr rfl))), fun j _ _ => P7.get_all _ _⟩, hti, by rw [RU_same e1]; exact .inr (.inr (.inr (.inr ⟨rfl, B_gone1 hx hno⟩)))⟩
  · exact absurd e2 (hno g E.gn)
  · have hR : RU f (upd U g (tdo (U g) m).1) = RU f U ∨ ((RU f (upd U g (tdo (U g) m).1) g).st ≠ 3 ∧ (RU f (upd U g (tdo (U g) m).1) g).bal = bB g) := by
      rcases e6 with ⟨_, _, _, q⟩ | q
      · exact .inl (RU_same q)
      · right; rw [RU_upd, if_pos rfl, q, put1 hk]; exact ⟨(show ¬ (1 : Int) = 3 by decide), hb⟩
    have hst : (tdo (U g) m).2.1.rc.st = 1 := by
      rw [e4]
      rcases e6 with ⟨_, q, _, q2⟩ | q
      · rw [q2]; exact q
      · rw [q, put1 hk]
    rw [LD.begin_t rfl (by rw [hst]; decide) e3]
    refine ⟨⟨hn, hr, ?_, ?_, .inr (.inl ⟨rfl, ?_, ?_⟩), fun j hj hjn => ?_⟩, hti, .inr (.inl ⟨rfl, ?_, ?_⟩)⟩
    · rw [if_pos rfl]; exact hd
    · rw [if_pos rfl]; exact hc
    · rw [if_pos rfl]; exact hk
    · rw [if_pos rfl]; exact hb
    · show ((P7.all none).set l.rep.toNat (some (tdo (U g) m).2.1.rc)).get j = none
      rw [P7.get_set _ _ _ _ hj, hr, if_neg (by have := E.gn; omega), P7.get_all]
    · rcases hR with e | e
      · rw [e]; exact hx
      · refine Dead_mono (fun j _ => ?_) hx
        by_cases hjg : j = g
        · rw [hjg]; exact .inr (.inl e.2)
        · rw [RU_upd, if_neg hjg]; exact .inl rfl
    · rcases hR with e | e
      · rw [e]; exact hno
      · refine noD_mono (fun j _ => ?_) hno
        by_cases hjg : j = g
        · rw [hjg]; exact .inr e.1
        · rw [RU_upd, if_neg hjg]; exact .inl rfl
theorem mem7 {α : Type} {p : P7 α} {x : α} (h : x ∈ p.list) : ∃ j, j < 7 ∧ p.get j = x := by
  simp only [P7.list, List.mem_cons, List.not_mem_nil, or_false] at h
  rcases h with rfl | rfl | rfl | rfl | rfl | rfl | rfl
  · exact ⟨0, by omega, rfl⟩
  · exact ⟨1, by omega, rfl⟩
  · exact ⟨2, by omega, rfl⟩
  · exact ⟨3, by omega, rfl⟩
  · exact ⟨4, by omega, rfl⟩
  · exact ⟨5, by omega, rfl⟩
  · exact ⟨6, by omega, rfl⟩
theorem gr1 (st : Int) (o : Option (Rec Bs)) (y : Rec Bs) : (grStep id st o (some y) = some y ∧ y.st = st) ∨ (grStep id st o (some y) = o ∧ (o = none → y.st ≠ st)) := by
  unfold grStep
  cases o with
  | none =>
    by_cases hy : y.st = st
    · exact .inl ⟨if_pos ⟨hy, rfl⟩, hy⟩
    · exact .inr ⟨if_neg fun h => hy h.1, fun _ => hy⟩
  | some b =>
    by_cases hy : (id y).st = st ∧ decide (0 < cmpB (id y).ab.1 (id y).ab.2 (id b).ab.1 (id b).ab.2) = true
    · exact .inl ⟨if_pos hy, hy.1⟩
    · exact .inr ⟨if_neg hy, fun h => by cases h⟩
theorem gr_go (st : Int) : ∀ (L : List (Option (Rec Bs))) (o : Option (Rec Bs)),
    (∀ r, L.foldl (grStep id st) o = some r → o = some r ∨ (some r ∈ L ∧ r.st = st)) ∧ (L.foldl (grStep id st) o = none → o = none ∧ ∀ r, some r ∈ L → r.st ≠ st) := by
  intro L
  induction L with
  | nil => intro o; exact ⟨fun r h => .inl h, fun h => ⟨h, fun r hr => by cases hr⟩⟩
  | cons x L ih =>
    intro o
    rw [List.foldl_cons]
    obtain ⟨i1, i2⟩ := ih (grStep id st o x)
    cases x with
    | none =>
      refine ⟨fun r h => (i1 r h).imp id fun h => ⟨List.mem_cons_of_mem _ h.1, h.2⟩, fun h => ⟨(i2 h).1, fun r hr => ?_⟩⟩
      rcases List.mem_cons.1 hr with q | q
      · cases q
      · exact (i2 h).2 r q
    | some y =>
      rcases gr1 st o y with ⟨e, hy⟩ | ⟨e, hy⟩
      · rw [e] at i1 i2 ⊢
        refine ⟨fun r h => .inr ?_, fun h => ?_⟩
        · rcases i1 r h with q | q
          · cases q; exact ⟨by simp, hy⟩
          · exact ⟨List.mem_cons_of_mem _ q.1, q.2⟩
        · have := (i2 h).1; cases this
      · rw [e] at i1 i2 ⊢
        refine ⟨fun r h => (i1 r h).imp id fun h => ⟨List.mem_cons_of_mem _ h.1, h.2⟩, fun h => ⟨(i2 h).1, fun r hr => ?_⟩⟩
        rcases List.mem_cons.1 hr with q | q
        · cases q
          exact hy (i2 h).1
        · exact (i2 h).2 r q
theorem firstR_mem {L : List (Option (Rec Bs))} {r : Rec Bs} (h : firstR L = some r) : some r ∈ L := by
  induction L with
  | nil => cases h
  | cons x L ih =>
    cases x with
    | none => exact List.mem_cons_of_mem _ (ih h)
    | some y => have : y = r := Option.some.inj h; subst this; simp
theorem b_prepared (E : Env n f g) (h : FB n f g a b U) (hp : b.phase = 4) (hm : b.maj = true) : FB n f g a (b.prepared (U g)).1 (upd U g (b.prepared (U g)).2) := by
  obtain ⟨hk, hb⟩ : b.m.kind = 4 ∧ b.m.bal = bB g := by
    rcases h.bw.ph with ⟨_, q⟩ | ⟨q, _⟩ | ⟨q, _⟩ | ⟨q, _⟩ | q
    · exact q
    all_goals exact phx hp q
  obtain ⟨p1, p2⟩ : P4a n g a b.recs (RU f U) ∧ P4b n a b.recs (RU f U) := by
    rcases h.ib with ⟨_, q⟩ | ⟨q, _⟩ | ⟨q, _⟩ | ⟨q, _⟩ | ⟨q, _⟩
    · exact q
    all_goals exact phx hp q
  have hmj : mj n (b.recs.map Option.isSome) := by
    unfold mj; rw [← cnt_some, ← h.bw.en]; exact of_decide_eq_true hm
  have hin : ∀ r, some r ∈ b.recs.list → ∃ j : Nat, (j : Int) < n ∧ b.recs.get j = some r := fun r hr => by
    obtain ⟨j, hj, e⟩ := mem7 hr
    refine ⟨j, Int.not_le.1 fun hn => ?_, e⟩
    rw [h.bw.sup j hj hn] at e
    cases e
  have hcr : ∀ r, some r ∈ b.recs.list → cOk r.cmd := fun r hr => by
    obtain ⟨j, hj, e⟩ := hin r hr
    exact (p1 j hj r e).2.2.1
  unfold LD.prepared
  obtain ⟨g1, g2⟩ := gr_go 2 b.recs.list none
  cases hg : greatest id 2 b.recs.list with
  | some r =>
    rcases g1 r hg with q | ⟨q, hs⟩
    · cases q
    · obtain ⟨j, hj, e⟩ := hin r q
      exact b_begin2 E h.ti h.bw.en h.bw.er rfl hb h.bw.dot (hcr r q) (B_take p1 p2 hj e hs)
  | none =>
    obtain ⟨_, g3⟩ := g2 hg
    obtain ⟨hD, hN⟩ := B_free E.n3 (by have := E.n5; omega) hmj (supN h.bw.sup) (fun j hj r hr => g3 r (by
      have := get7_mem b.recs (i := j) (by have := E.n5; omega)
      rwa [hr] at this)) p1 p2
    simp only
    by_cases ha : b.alike = true
    · rw [if_pos ha]
      refine b_begin2 E h.ti h.bw.en h.bw.er rfl hb h.bw.dot ?_ (.inl ⟨hD, hN⟩)
      cases hf : firstR b.recs.list with
      | none => exact .inr rfl
      | some r => exact hcr r (firstR_mem hf)
    · rw [if_neg ha]
      cases hg1 : greatest id 1 b.recs.list with
      | some r =>
        rcases (gr_go 1 b.recs.list none).1 r hg1 with q | ⟨q, _⟩
        · cases q
        · exact b_begin1 E h.ti h.bw.en h.bw.er rfl hb h.bw.dot (hcr r q) hD hN
      | none => exact b_begin2 E h.ti h.bw.en h.bw.er rfl hb h.bw.dot h.bw.c (.inl ⟨hD, hN⟩)
end
end Go.Proofs.Ytpihhlaiofkmdaa
namespace Go.Proofs.Ytpihhlaiofkmdaa
set_option linter.unusedVariables false
set_option linter.unusedSimpArgs false
open Go Go.Eng

section
variable {n : Int} {f g : Nat} {a b l : LD} {U : Nat → Tbl}
theorem b_no (E : Env n f g) (h : FB n f g a b U) {j : Nat} (hj : (j : Int) < n) {x : Ans Bs} (hok : x.ok = false) (hx : x.rc.st = 3 → x.rc = RU f U j) :
    FB n f g a (b.got (U g) j x).1.1 (upd U g (b.got (U g) j x).1.2) := by
  rcases got_c b (U g) j x with e | ⟨p3, p5, ⟨e1, e⟩ | ⟨_, e⟩ | ⟨e1, _⟩⟩
  · rw [e]; simp only; rw [upd_self]; exact h
  · rw [e, hx e1]
    have hs : (RU f U j).st = 3 := by rw [← hx e1]; exact e1
    refine b_learn E h.ti h.bw.en h.bw.er h.bw.dot h.bw.sup hj ?_
    rcases h.ib with ⟨_, _, q⟩ | ⟨_, _, q⟩ | ⟨_, q⟩ | ⟨q, _⟩ | ⟨q, _⟩
    · exact B_learn4 q hj hs
    · exact absurd hs (q j hj)
    · exact B_learn2 q hj hs
    · exact absurd q p3
    · exact absurd q p5
  · rw [e]; simp only; rw [upd_self]
    refine ⟨⟨h.bw.en, h.bw.er, h.bw.dot, h.bw.c, .inr (.inr (.inr (.inr rfl))), h.bw.sup⟩, h.ti, .inr (.inr (.inr (.inr ⟨rfl, ?_⟩)))⟩
    rcases h.ib with ⟨_, _, q⟩ | ⟨_, q1, q2⟩ | ⟨_, q⟩ | ⟨q, _⟩ | ⟨q, _⟩
    · exact B_gone4 q
    · exact B_gone1 q1 q2
    · exact B_gone2 q
    · exact absurd q p3
    · exact absurd q p5
  · rw [hok] at e1; cases e1
theorem b_step (E : Env n f g) (h : FB n f g a b U) (h5 : b.phase ≠ 5) {j : Nat} (hj : (j : Int) < n) (hjg : j ≠ g) :
    FB n f g a (b.got (U g) j (tdo (U j) b.msg).2.1).1.1 (upd (upd U j (tdo (U j) b.msg).1) g (b.got (U g) j (tdo (U j) b.msg).2.1).1.2) := by
  have hmsg : b.msg = b.m := if_neg h5
  rw [hmsg]
  have hn5 := E.n5
  have hgj : g ≠ j := Ne.symm hjg
  have hMW : MW f g b.m := by
    refine ⟨h.bw.dot, h.bw.c, ?_, fun h3 => ?_⟩
    · rcases h.bw.ph with q | q | q | q | q
      · exact .inr (.inr (.inr q.2.1))
      · exact .inl q.2.1
      · exact .inr (.inl q.2.1)
      · exact .inr (.inr (.inl q.2))
      · exact absurd q h5
    · rcases h.bw.ph with q | q | q | q | q
      · exact .inr q.2.2
      · exact .inr q.2.2
      · exact .inr q.2.2
      · exact absurd q.2 h3
      · exact absurd q h5
  have hti := TI_do h.ti E.fg hMW hj
  have hUg : upd U j (tdo (U j) b.m).1 g = U g := upd_ne _ _ hgj
  have hRj : RU f (upd U j (tdo (U j) b.m).1) j = trec (tdo (U j) b.m).1 (td f) := by rw [RU_upd, if_pos rfl]
  have hRi : ∀ i, i ≠ j → RU f (upd U j (tdo (U j) b.m).1) i = RU f U i := fun i hi => by rw [RU_upd, if_neg hi]
  generalize hU1 : upd U j (tdo (U j) b.m).1 = U1 at *
  rw [← hUg]
  have hsame : trec (tdo (U j) b.m).1 (td f) = trec (U j) (td f) → RU f U1 = RU f U := fun e => by rw [← hU1]; exact RU_same e
  have hgetset : ∀ (x : Option (Rec Bs)) i, i < 7 → (b.recs.set (j : Int).toNat x).get i = if i = j then x else b.recs.get i := fun x i hi => by rw [Int.toNat_natCast, P7.get_set _ _ _ _ hi]
  have hsup : ∀ (x : Option (Rec Bs)) (i : Nat), i < 7 → n ≤ (i : Int) → (b.recs.set (j : Int).toNat x).get i = none := fun x i h7 hin => by rw [hgetset _ _ h7, if_neg (by omega)]; exact h.bw.sup i h7 hin
  rcases h.bw.ph with ⟨p, k, bb⟩ | ⟨p, k, bb⟩ | ⟨p, k, bb⟩ | ⟨p, k⟩ | p
  · -- it prepares
    obtain ⟨p1, p2⟩ : P4a n g a b.recs (RU f U) ∧ P4b n a b.recs (RU f U) := by
      rcases h.ib with ⟨_, q⟩ | ⟨q, _⟩ | ⟨q, _⟩ | ⟨q, _⟩ | ⟨q, _⟩
      · exact q
      all_goals exact phx p q
    rcases out (T := U j) h.bw.dot (by omega) with ⟨e1, e2, e3⟩ | ⟨e1, e2, e3, e4⟩ | ⟨e1, e2, e3, e4, e5, e6⟩
    · exact b_no E ⟨h.bw, hti, by rw [hsame e1]; exact h.ib⟩ hj e2 (fun q => absurd q e3)
    · exact b_no E ⟨h.bw, hti, by rw [hsame e1]; exact h.ib⟩ hj e4 (fun _ => by rw [e3, hsame e1]; rfl)
    · have e6 : trec (tdo (U j) b.m).1 (td f) = { RU f U j with bal := bB g } := by
        rcases e6 with ⟨q, _⟩ | q
        · omega
        · rw [q, put4 k, bb]; rfl
      have hh : ∀ br' : P7 (Option (Rec Bs)), (∀ i : Nat, (i : Int) < n → i ≠ j → br'.get i = b.recs.get i) → (∀ r, br'.get j = some r → b.recs.get j = some r ∨ r = RU f U1 j) → P4a n g a br' (RU f U1) ∧ P4b n a br' (RU f U1) := fun br' c1 c2 => by
        refine B_prep (fun i hi => (h.ti.rw i hi).1) (fun i hi => ?_) (fun i hi r hr => ?_) p1 p2
        · by_cases hij : i = j
          · subst hij; rw [hRj, e6]; exact .inr ⟨e1, rfl⟩
          · exact .inl (hRi i hij)
        · by_cases hij : i = j
          · subst hij
            rcases c2 r hr with q | q
            · exact .inl q
            · refine .inr ⟨q, ?_, ?_⟩
              · rw [q, hRj, e6]; exact e1
              · rw [q, hRj, e6]
          · rw [c1 i hi hij] at hr; exact .inl hr
      have h1 : FB n f g a b U1 := ⟨h.bw, hti, .inl ⟨p, hh b.recs (fun _ _ _ => rfl) fun _ hr => .inl hr⟩⟩
      rcases got_c b (U1 g) j (tdo (U j) b.m).2.1 with e | ⟨_, _, ⟨r1, _⟩ | ⟨r1, _⟩ | ⟨_, _, _, _, _, _, e⟩⟩
      · rw [e]; simp only; rw [upd_self]; exact h1
      · rw [e4, e6] at r1; exact absurd r1 e1
      · rw [e3] at r1; cases r1
      · rw [e]
        unfold gnext
        rw [if_neg (by omega), if_neg (by omega), if_pos p]
        have h2 : FB n f g a { b with recs := b.recs.set (j : Int).toNat (some (tdo (U j) b.m).2.1.rc) } U1 := by
          refine ⟨⟨h.bw.en, h.bw.er, h.bw.dot, h.bw.c, .inl ⟨p, k, bb⟩, hsup _⟩, hti, .inl ⟨p, hh _ (fun i hi hij => ?_) fun r hr => ?_⟩⟩
          · show (b.recs.set (j : Int).toNat _).get i = _
            rw [hgetset _ _ (by omega), if_neg hij]
          · have hr : (b.recs.set (j : Int).toNat (some (tdo (U j) b.m).2.1.rc)).get j = some r := hr
            rw [hgetset _ _ (by omega), if_pos rfl] at hr
            right
            rw [← Option.some.inj hr, hRj, e4]
        by_cases hm : LD.maj { b with recs := b.recs.set (j : Int).toNat (some (tdo (U j) b.m).2.1.rc) } = true
        · rw [if_pos hm]
          exact b_prepared E h2 p hm
        · rw [if_neg hm]
          simp only
          rw [upd_self]
          exact h2
  · -- it hears
    obtain ⟨p1, p2⟩ : Dead n g a (RU f U) ∧ noD n (RU f U) := by
      rcases h.ib with ⟨q, _⟩ | ⟨_, q⟩ | ⟨q, _⟩ | ⟨q, _⟩ | ⟨q, _⟩
      · exact phx p q
      · exact q
      all_goals exact phx p q
    rcases out (T := U j) h.bw.dot (by omega) with ⟨e1, e2, e3⟩ | ⟨e1, e2, e3, e4⟩ | ⟨e1, e2, e3, e4, e5, e6⟩
    · exact b_no E ⟨h.bw, hti, by rw [hsame e1]; exact h.ib⟩ hj e2 (fun q => absurd q e3)
    · exact absurd e2 (p2 j hj)
    · have hst : (trec (tdo (U j) b.m).1 (td f)).st = 1 := by
        rcases e6 with ⟨_, s1, _, s3⟩ | s
        · rw [s3]; exact s1
        · rw [s, put1 k]
      have hR : ∀ i : Nat, (i : Int) < n → RU f U1 i = RU f U i ∨ ((RU f U1 i).st ≠ 3 ∧ (RU f U1 i).bal = bB g) := fun i hi => by
        by_cases hij : i = j
        · subst hij
          rw [hRj]
          rcases e6 with ⟨_, _, _, s3⟩ | s
          · exact .inl s3
          · right; refine ⟨fun h => phx h hst, ?_⟩; rw [s, put1 k]; exact bb
        · exact .inl (hRi i hij)
      have hD : Dead n g a (RU f U1) := Dead_mono (fun i hi => (hR i hi).imp id fun h => .inl h.2) p1
      have hN : noD n (RU f U1) := noD_mono (fun i hi => (hR i hi).imp id fun h => h.1) p2
      have h1 : FB n f g a b U1 := ⟨h.bw, hti, .inr (.inl ⟨p, hD, hN⟩)⟩
      rcases got_c b (U1 g) j (tdo (U j) b.m).2.1 with e | ⟨_, _, ⟨r1, _⟩ | ⟨r1, _⟩ | ⟨_, _, _, _, _, _, e⟩⟩
      · rw [e]; simp only; rw [upd_self]; exact h1
      · rw [e4] at r1; exact phx r1 hst
      · rw [e3] at r1; cases r1
      · rw [e]
        unfold gnext
        rw [if_pos p]
        generalize hl : ({ b with recs := b.recs.set (j : Int).toNat (some (tdo (U j) b.m).2.1.rc), apart := b.apart || decide ((tdo (U j) b.m).2.1.rc.seq ≠ b.own.seq) || decide ((tdo (U j) b.m).2.1.rc.deps ≠ b.own.deps) } : LD) = l1
        have l_rec : l1.recs = b.recs.set (j : Int).toNat (some (tdo (U j) b.m).2.1.rc) := by rw [← hl]
        have l_n : l1.n = n := by rw [← hl]; exact h.bw.en
        have l_r : l1.rep = g := by rw [← hl]; exact h.bw.er
        have l_m : l1.m = b.m := by rw [← hl]
        have l_p : l1.phase = 1 := by rw [← hl]; exact p
        clear hl
        unfold LD.heard
        rw [if_neg (by rintro ⟨_, _, q⟩; rw [l_m, bb] at q; exact absurd q (by simp [bB]))]
        by_cases hm : l1.maj = true ∧ (l1.apart = true ∨ 0 < l1.m.bal.1)
        · rw [if_pos hm]
          obtain ⟨f1, f2, f3, f4⟩ := accFold l1.recs.list { l1.m with kind := 2 }
          exact b_begin2 E hti l_n l_r f1 (f2.trans (by show l1.m.bal = _; rw [l_m]; exact bb)) (f3.trans (by show l1.m.dot = _; rw [l_m]; exact h.bw.dot)) (by rw [f4]; show cOk l1.m.cmd; rw [l_m]; exact h.bw.c) (.inl ⟨hD, hN⟩)
        · rw [if_neg hm]
          simp only
          rw [upd_self]
          exact ⟨⟨l_n, l_r, by rw [l_m]; exact h.bw.dot, by rw [l_m]; exact h.bw.c, .inr (.inl ⟨l_p, by rw [l_m]; exact k, by rw [l_m]; exact bb⟩), by rw [l_rec]; exact hsup _⟩, hti, .inr (.inl ⟨l_p, hD, hN⟩)⟩
  · -- it has it accepted
    have p1 : X2 n g a (RU f U) (mva b.m) := by
      rcases h.ib with ⟨q, _⟩ | ⟨q, _⟩ | ⟨_, q⟩ | ⟨q, _⟩ | ⟨q, _⟩
      · exact phx p q
      · exact phx p q
      · exact q
      all_goals exact phx p q
    rcases out (T := U j) h.bw.dot (by omega) with ⟨e1, e2, e3⟩ | ⟨e1, e2, e3, e4⟩ | ⟨e1, e2, e3, e4, e5, e6⟩
    · exact b_no E ⟨h.bw, hti, by rw [hsame e1]; exact h.ib⟩ hj e2 (fun q => absurd q e3)
    · exact b_no E ⟨h.bw, hti, by rw [hsame e1]; exact h.ib⟩ hj e4 (fun _ => by rw [e3, hsame e1]; rfl)
    · have e6 : trec (tdo (U j) b.m).1 (td f) = ⟨2, b.m.cmd, b.m.seq, b.m.deps, b.m.bal, b.m.bal⟩ := by
        rcases e6 with ⟨q, _⟩ | q
        · omega
        · rw [q, put2 k]
      have hX : X2 n g a (RU f U1) (mva b.m) := X2_mono (fun i hi => by
        by_cases hij : i = j
        · subst hij; rw [hRj, e6]; exact .inr ⟨(show ¬ (2 : Int) = 3 by decide), bb⟩
        · exact .inl (hRi i hij)) p1
      have h1 : FB n f g a b U1 := ⟨h.bw, hti, .inr (.inr (.inl ⟨p, hX⟩))⟩
      rcases got_c b (U1 g) j (tdo (U j) b.m).2.1 with e | ⟨_, _, ⟨r1, _⟩ | ⟨r1, _⟩ | ⟨_, _, _, _, _, _, e⟩⟩
      · rw [e]; simp only; rw [upd_self]; exact h1
      · rw [e4, e6] at r1; exact phx (show (2 : Int) = 3 from r1) rfl
      · rw [e3] at r1; cases r1
      · rw [e]
        unfold gnext
        rw [if_neg (by omega), if_pos p]
        by_cases hm : LD.maj { b with recs := b.recs.set (j : Int).toNat (some (tdo (U j) b.m).2.1.rc) } = true
        · rw [if_pos hm]
          refine ⟨⟨h.bw.en, h.bw.er, h.bw.dot, h.bw.c, .inr (.inr (.inr (.inl ⟨rfl, rfl⟩))), hsup _⟩, ?_, .inr (.inr (.inr (.inl ⟨rfl, ?_⟩)))⟩
          · exact TI_do hti E.fg (m := cmsg b ⟨0, b.m.cmd, b.m.seq, b.m.deps, (0, 0), (0, 0)⟩) ⟨h.bw.dot, h.bw.c, .inr (.inr (.inl rfl)), fun h => absurd rfl h⟩ E.gn
          · exact X3_mono (fun i _ => R_com (U := U1) (j := g) (m := cmsg b ⟨0, b.m.cmd, b.m.seq, b.m.deps, (0, 0), (0, 0)⟩) h.bw.dot rfl i) (B_dec hX)
        · rw [if_neg hm]
          simp only
          rw [upd_self]
          exact ⟨⟨h.bw.en, h.bw.er, h.bw.dot, h.bw.c, .inr (.inr (.inl ⟨p, k, bb⟩)), hsup _⟩, hti, .inr (.inr (.inl ⟨p, hX⟩))⟩
  · -- it is decided
    have h1 : FB n f g a b U1 := by
      refine ⟨h.bw, hti, .inr (.inr (.inr (.inl ⟨p, ?_⟩)))⟩
      rcases h.ib with ⟨q, _⟩ | ⟨q, _⟩ | ⟨q, _⟩ | ⟨_, q⟩ | ⟨q, _⟩
      · exact phx p q
      · exact phx p q
      · exact phx p q
      · refine X3_mono (fun i _ => ?_) q
        rw [← hU1]
        exact R_com h.bw.dot k i
      · exact phx p q
    rcases got_c b (U1 g) j (tdo (U j) b.m).2.1 with e | ⟨e, _⟩
    · rw [e]; simp only; rw [upd_self]; exact h1
    · exact absurd p e
  · exact absurd p h5
theorem b_recover (E : Env n f g) (h : FA n f g a none U) {b' : LD} {T' : Tbl} (he : recover n g (td f) (U g) = .inl (b', T')) : FB n f g a b' (upd U g T') := by
  have hib : P4a n g a (P7.all none) (RU f U) ∧ P4b n a (P7.all none) (RU f U) ∧ XN n g (RU f U) := h.ib
  obtain ⟨p1, p2, p3⟩ := hib
  unfold recover at he
  simp only at he
  split at he
  · cases he
  split at he
  · cases he
  rename_i h3
  split at he
  · cases he
  rename_i h0
  have h3 : (RU f U g).st ≠ 3 := h3
  have hb0 : (RU f U g).bal.1 = 0 := by
    rcases (h.ti.rw g E.gn).2 h3 with q | q | q
    · show (trec (U g) (td f)).bal.1 = 0; rw [q]
    · show (trec (U g) (td f)).bal.1 = 0; rw [q]; rfl
    · exact absurd q (p3 g E.gn h3)
  have hbal : (nextB (trec (U g) (td f)).bal.1 (trec (U g) (td f)).bal.2 g).1 = bB g := by
    have hb0 : (trec (U g) (td f)).bal.1 = 0 := hb0
    rw [hb0] at h0 ⊢
    unfold nextB at h0 ⊢
    split at h0
    · rename_i hc
      rw [if_pos hc, if_neg (by decide)]
      rfl
    · exact absurd (show ((1 : Int) ≠ 0) by decide) h0
  rw [hbal] at he
  have he := Sum.inl.inj he
  have hmd : (⟨4, td f, bB g, [], 0, P7.all 0⟩ : Msg Bs).dot = td f := rfl
  have hti := TI_do h.ti E.fg (m := ⟨4, td f, bB g, [], 0, P7.all 0⟩) ⟨rfl, .inr rfl, .inr (.inr (.inr rfl)), fun _ => .inr rfl⟩ E.gn
  have hgl : ((g : Int)).toNat = g := Int.toNat_natCast g
  rcases out (T := U g) hmd (by simp) with ⟨e1, e2, e3⟩ | ⟨e1, e2, e3, e4⟩ | ⟨e1, e2, e3, e4, e5, e6⟩
  · rw [show (⟨4, td f, bB g, [], 0, P7.all 0⟩ : Msg Bs) = ({ (⟨4, td f, (0, 0), [], 0, P7.all 0⟩ : Msg Bs) with bal := bB g } : Msg Bs) from rfl] at *
    rw [LD.begin_f rfl e3 e2] at he
    cases he
    exact ⟨⟨rfl, rfl, rfl, .inr rfl, .inr (.inr (.inr (.inr rfl))), fun j _ _ => P7.get_all _ _⟩, hti, by rw [RU_same e1]; exact .inr (.inr (.inr (.inr ⟨rfl, B_gone4 p2⟩)))⟩
  · exact absurd e2 h3
  · have e6 : trec (tdo (U g) ⟨4, td f, bB g, [], 0, P7.all 0⟩).1 (td f) = { RU f U g with bal := bB g } := by
      rcases e6 with ⟨q, _⟩ | q
      · simp at q
      · rw [q, put4 rfl]; rfl
    have hst : (tdo (U g) ⟨4, td f, bB g, [], 0, P7.all 0⟩).2.1.rc.st ≠ 3 := by rw [e4, e6]; exact e1
    rw [show (⟨4, td f, bB g, [], 0, P7.all 0⟩ : Msg Bs) = ({ (⟨4, td f, (0, 0), [], 0, P7.all 0⟩ : Msg Bs) with bal := bB g } : Msg Bs) from rfl] at *
    rw [LD.begin_t rfl hst e3] at he
    cases he
    have hx : ∀ (x : Option (Rec Bs)) i, i < 7 → ((P7.all none).set (ldZ n g).rep.toNat x).get i = if i = g then x else none := fun x i hi => by
      rw [P7.get_set _ _ _ _ hi, P7.get_all]; rfl
    refine ⟨⟨rfl, rfl, rfl, .inr rfl, .inl ⟨rfl, rfl, rfl⟩, fun j hj hjn => ?_⟩, hti, .inl ⟨rfl, B_prep (fun i hi => (h.ti.rw i hi).1) (fun i hi => ?_) (fun i hi r hr => ?_) p1 p2⟩⟩
    · show ((P7.all none).set (ldZ n g).rep.toNat _).get j = none
      rw [hx _ _ hj, if_neg (by have := E.gn; omega)]
    · rw [RU_upd]
      by_cases hig : i = g
      · subst hig; rw [if_pos rfl, e6]; exact .inr ⟨e1, rfl⟩
      · rw [if_neg hig]; exact .inl rfl
    · have hr : ((P7.all none).set (ldZ n g).rep.toNat _).get i = some r := hr
      rw [hx _ _ (by have := E.n5; omega)] at hr
      by_cases hig : i = g
      · rw [if_pos hig] at hr
        right
        rw [← Option.some.inj hr, e4, RU_upd, if_pos hig]
        exact ⟨rfl, by rw [e6]; exact e1, by rw [e6]⟩
      · rw [if_neg hig] at hr; cases hr
end
end Go.Proofs.Ytpihhlaiofkmdaa
namespace Go.Proofs.Ytpihhlaiofkmdaa
set_option linter.unusedVariables false
set_option linter.unusedSimpArgs false
open Go Go.Eng

section
variable {n : Int} {f g : Nat} {a : LD} {ob : Option LD} {U : Nat → Tbl}
def oth : Bs := [111, 116, 104, 101, 114]
def U0 (f g : Nat) : Nat → Tbl := fun i => if i = f then fT f 1 [120] else if i = g then fT g 1 oth else []
structure SY (n : Int) (f g : Nat) (a : LD) (ob : Option LD) (U : Nat → Tbl) : Prop where
  fa : FA n f g a ob U
  bw : ∀ b, ob = some b → BW n f g b
theorem SY.fb {b : LD} (h : SY n f g a (some b) U) : FB n f g a b U := ⟨h.bw b rfl, h.fa.ti, h.fa.ib⟩
theorem FB.sy {b b' : LD} {U' : Nat → Tbl} (h : SY n f g a ob U) (h' : FB n f g a b U') : SY n f g a (some b) U' := ⟨⟨h.fa.aw, h'.ti, h'.ib⟩, fun x hx => by cases hx; exact h'.bw⟩
theorem SY.all (h : SY n f g a ob U) : ∃ v, allD n (RU f U) v := by
  have hno : noD n (RU f U) → ∃ v, allD n (RU f U) v := fun h => ⟨([], 0, P7.all 0), fun j hj hs => absurd hs (h j hj)⟩
  have h4 : ∀ br, P4b n a br (RU f U) → ∃ v, allD n (RU f U) v := by
    rintro br (⟨_, q, _⟩ | ⟨_, q, _⟩ | ⟨_, q, _⟩ | ⟨_, q⟩)
    · exact hno q
    · exact hno q
    · exact ⟨_, q⟩
    · exact hno q
  have hib := h.fa.ib
  cases ob with
  | none => exact h4 _ hib.2.1
  | some b =>
    rcases hib with ⟨_, _, q⟩ | ⟨_, _, q⟩ | ⟨_, q⟩ | ⟨_, q⟩ | ⟨_, q⟩
    · exact h4 _ q
    · exact hno q
    · rcases q with ⟨_, q⟩ | ⟨_, _, q⟩ | ⟨_, _, q⟩
      · exact hno q
      · exact hno q
      · exact ⟨_, q⟩
    · exact ⟨_, q.1⟩
    · rcases q with ⟨_, q⟩ | ⟨_, q⟩
      · exact ⟨_, q⟩
      · exact hno q
theorem sy_start (E : Env n f g) : SY n f g (fU n f 1 [120] 0) none (U0 f g) := by
  have hgf : g ≠ f := Ne.symm E.fg
  have hne : ¬ (⟨(g : Int), 1⟩ : Dot) = td f := fun e => by
    have : (g : Int) = f := congrArg Dot.rep e
    omega
  have hff : ((f : Int)).toNat = f := Int.toNat_natCast f
  have hR : ∀ i, RU f (U0 f g) i = if i = f then fr0 f [120] else recZ := fun i => by
    unfold RU U0
    by_cases hi : i = f
    · rw [if_pos hi, if_pos hi]; unfold fT trec; simp [mget, td]
    · rw [if_neg hi, if_neg hi]
      by_cases hg : i = g
      · rw [if_pos hg]; unfold fT trec; simp [mget, hne]
      · rw [if_neg hg]; rfl
  have hrec : ∀ j, j < 7 → j ≠ f → (fU n f 1 [120] 0).recs.get j = none := fun j hj hjf => by
    show (fp f [120] 0).get j = none
    unfold fp
    rw [P7.get_of _ hj, if_neg (by omega)]
  have hst : ∀ i, (RU f (U0 f g) i).st = 1 ∨ (RU f (U0 f g) i).st = 0 := fun i => by
    rw [hR]; split
    · exact .inl rfl
    · exact .inr rfl
  have hn5 := E.n5
  have hgn := E.gn
  have hfn := E.fn
  refine ⟨⟨⟨rfl, rfl, rfl, .inl rfl, .inl ⟨rfl, rfl, rfl, rfl, fun h => ?_⟩, fun j hj hjn => hrec j hj (by omega)⟩, ⟨fun j hj => ?_, ?_, fun h => ?_⟩, ?_, ?_, ?_⟩, fun b hb => by cases hb⟩
  · rw [hrec g (by omega) hgf] at h; cases h
  · show RW f g (RU f (U0 f g) j)
    rw [hR]
    split
    · exact ⟨.inl rfl, fun _ => .inr (.inl rfl)⟩
    · exact ⟨.inr rfl, fun _ => .inl rfl⟩
  · unfold U0
    rw [if_neg hgf, if_pos rfl]
    exact ⟨_, [], rfl, rfl, rfl, fun q hq => by cases hq⟩
  · have h : (RU f (U0 f g) g).st = 1 := h
    rw [hR, if_neg hgf] at h
    exact absurd (show (0 : Int) = 1 from h) (by decide)
  · intro j _ r hr
    rw [P7.get_all] at hr
    cases hr
  · refine .inl ⟨rfl, fun j _ h => ?_, fun j _ h => ?_⟩
    · rcases hst j with q | q <;> exact phx h q
    · rcases hst j with q | q <;> exact phx h q
  · intro j _ _
    rw [hR]
    split
    · exact bA_ne
    · exact fun h => absurd (congrArg Prod.fst h) (by simp [bB, recZ])
end
end Go.Proofs.Ytpihhlaiofkmdaa
namespace Go.Proofs.Ytpihhlaiofkmdaa
set_option linter.unusedVariables false
set_option linter.unusedSimpArgs false
open Go Go.Eng

abbrev tptr (p : Nat) : Value := .pointer (some ⟨p, 0, none⟩)
def tps (us : List Nat) : List Value := us.map tptr ++ List.replicate (7 - us.length) (.pointer none)
theorem tps_len {us : List Nat} (h : us.length ≤ 7) : (tps us).length = 7 := by simp [tps]; omega
theorem tps_set {us : List Nat} (h : us.length < 7) (p : Nat) : stL (tps us) us.length [tptr p] = tps (us ++ [p]) := by
  have e : List.replicate (7 - us.length) (Value.pointer none) = .pointer none :: List.replicate (7 - (us.length + 1)) (.pointer none) := by
    rw [show 7 - us.length = (7 - (us.length + 1)) + 1 by omega]; rfl
  rw [stL_eq _ _ _ (by rw [tps_len (by omega)]; simp; omega)]
  unfold tps
  rw [List.take_left' (by simp), e]
  simp [List.drop_append]
theorem tps_get {us : List Nat} {i p : Nat} (h : us[i]? = some p) : getL false (tps us) i 1 = some (tptr p) := by
  show lget (tps us) i = _
  rw [lget_eq]
  unfold tps
  have hi : i < us.length := (List.getElem?_eq_some_iff.1 h).1
  rw [List.getElem?_append_left (by simpa using hi), List.getElem?_map, h]
  rfl
theorem perm_erase {α : Type} {l : List α} {i : Nat} (h : i < l.length) : (l[i] :: l.eraseIdx i).Perm l := by
  have e : l = l.take i ++ l[i] :: l.drop (i + 1) := by rw [← List.drop_eq_getElem_cons h, List.take_append_drop]
  have e2 : l.eraseIdx i = l.take i ++ l.drop (i + 1) := List.eraseIdx_eq_take_drop_succ l i
  rw [e2]
  exact (List.perm_middle.symm).trans (List.Perm.of_eq e.symm)
def tbs (us : List (Nat × Tbl)) : Asn := many (fun e => tb e.1 e.2) us
section
variable {W0 W : World} {L L' : List Asn}
theorem tbs_nil : ent L (tbs [] :: L) := many_nil
theorem tbs_cons {p : Nat} {T : Tbl} {us : List (Nat × Tbl)} : ent (tb p T :: tbs us :: L) (tbs (us ++ [(p, T)]) :: L) :=
  (many_uncons (F := fun e : Nat × Tbl => tb e.1 e.2) (p, T) us).trans (many_perm (List.perm_append_singleton (p, T) us).symm)
theorem tbs_take {us : List (Nat × Tbl)} {i : Nat} {e : Nat × Tbl} (h : us[i]? = some e) : ent (tbs us :: L) (tb e.1 e.2 :: tbs (us.eraseIdx i) :: L) := by
  obtain ⟨hi, rfl⟩ := List.getElem?_eq_some_iff.1 h
  exact (many_perm (perm_erase hi).symm).trans (many_cons (F := fun e : Nat × Tbl => tb e.1 e.2) _ _)
theorem tbs_put {us : List (Nat × Tbl)} {i : Nat} {e : Nat × Tbl} (hi : i < us.length) : ent (tb e.1 e.2 :: tbs (us.eraseIdx i) :: L) (tbs (us.set i e) :: L) := by
  have h := tbs_take (L := L) (us := us.set i e) (i := i) (e := e) (by simp [hi])
  have h2 : ((us.set i e)[i]'(by simpa using hi) :: (us.set i e).eraseIdx i).Perm (us.set i e) := perm_erase _
  rw [List.getElem_set_self, List.eraseIdx_set_eq] at h2
  exact (many_uncons (F := fun e : Nat × Tbl => tb e.1 e.2) _ _).trans (many_perm h2)
theorem tabDo {us : List (Nat × Tbl)} {i : Nat} {e : Nat × Tbl} (he : us[i]? = some e) {m : Msg BSl} {k : Value → World → Prop} (h : St W0 L W) [ht : Tk tbs L us L'] [hr : Rd W0 L' m.cmd.a B8 m.cmd.bs] (hl : m.cmd.bs.length < 1099511627776)
    (hk : ∀ (x : Ans BSl) W', x.rc.cmd.bs.length < 1099511627776 → x.map BSl.bs = (tdo e.2 (m.map BSl.bs)).2.1 → St W0 (fch x.rc.cmd :: tbs (us.set i (e.1, (tdo e.2 (m.map BSl.bs)).1)) :: L') W' → k (.tuple #[.agg #[.bool x.ok, .int .i64 x.bal.1, .int .i64 x.bal.2, .int .i64 x.rc.st, x.rc.cmd.v, .int .i64 x.rc.seq, .int .i64 x.rc.deps.x0, .int .i64 x.rc.deps.x1, .int .i64 x.rc.deps.x2, .int .i64 x.rc.deps.x3, .int .i64 x.rc.deps.x4, .int .i64 x.rc.deps.x5, .int .i64 x.rc.deps.x6, .int .i64 x.rc.bal.1, .int .i64 x.rc.bal.2, .int .i64 x.rc.ab.1, .int .i64 x.rc.ab.2], .int .i64 (tdo e.2 (m.map BSl.bs)).2.2]) W') :
    callK PR F_inst_Table_Do [tptr e.1, .agg #[.int .i64 m.kind, .int .i64 m.dot.rep, .int .i64 m.dot.n, .int .i64 m.bal.1, .int .i64 m.bal.2, m.cmd.v, .int .i64 m.seq, .int .i64 m.deps.x0, .int .i64 m.deps.x1, .int .i64 m.deps.x2, .int .i64 m.deps.x3, .int .i64 m.deps.x4, .int .i64 m.deps.x5, .int .i64 m.deps.x6]] k W := by
  have h := (h.perm ht.perm).ent (tbs_take he)
  have hT := tb_tok (p := e.1) (T := e.2) (L' := tbs (us.eraseIdx i) :: L') (ht := ⟨List.Perm.refl _⟩) h
  haveI : Tk (tb e.1) (tb e.1 e.2 :: tbs (us.eraseIdx i) :: L') e.2 (tbs (us.eraseIdx i) :: L') := ⟨List.Perm.refl _⟩
  refine instDo (p := e.1) (T := e.2) (m := m) (L' := tbs (us.eraseIdx i) :: L') h hl fun x W' hx h => ?_
  refine hk x W' ?_ hx (h.ent (ent.cons _ (tbs_put (e := (e.1, _)) (List.getElem?_eq_some_iff.1 he).1)))
  have h1 : x.rc.cmd.bs.length = (tdo e.2 (m.map BSl.bs)).2.1.rc.cmd.length := congrArg (fun x : Ans Bs => x.rc.cmd.length) hx
  have h2 := tdo_len hT (m.map BSl.bs)
  omega
end
end Go.Proofs.Ytpihhlaiofkmdaa
namespace Go.Proofs.Ytpihhlaiofkmdaa
set_option linter.unusedVariables false
set_option linter.unusedSimpArgs false
open Go Go.Eng

section
variable {W0 W : World} {L L' : List Asn} {q t : Nat} {X : LX} {L1 : List Asn}
theorem leadGotT (e : X.t = t) {T : Tbl} {fr : Int} {a : Ans BSl} {k : Value → World → Prop} (h : St W0 L W) [ht : Tk (ldc q) L X L1] [ht2 : Tk (tb t) L1 T L'] [hr : Rd W0 (many fch X.B :: L1) a.rc.cmd.a B8 a.rc.cmd.bs] (hl : a.rc.cmd.bs.length < 1099511627776)
    (hk : ∀ (X' : LX) W', X'.t = t → X'.abs = (X.abs.got T fr (a.map BSl.bs)).1.1 → St W0 (ldc q X' :: tb t (X.abs.got T fr (a.map BSl.bs)).1.2 :: L') W' → k (.bool (X.abs.got T fr (a.map BSl.bs)).2) W') :
    callK PR F_lead_Lead_Got [.pointer (some ⟨q, 0, none⟩), .int .i64 fr, .agg #[.bool a.ok, .int .i64 a.bal.1, .int .i64 a.bal.2, .int .i64 a.rc.st, a.rc.cmd.v, .int .i64 a.rc.seq, .int .i64 a.rc.deps.x0, .int .i64 a.rc.deps.x1, .int .i64 a.rc.deps.x2, .int .i64 a.rc.deps.x3, .int .i64 a.rc.deps.x4, .int .i64 a.rc.deps.x5, .int .i64 a.rc.deps.x6, .int .i64 a.rc.bal.1, .int .i64 a.rc.bal.2, .int .i64 a.rc.ab.1, .int .i64 a.rc.ab.2]] k W := by
  subst e; exact leadGot h hl hk
theorem leadSlowT (e : X.t = t) {T : Tbl} {k : Value → World → Prop} (h : St W0 L W) [ht : Tk (ldc q) L X L1] [ht2 : Tk (tb t) L1 T L']
    (hk : ∀ (X' : LX) W', X'.t = t → X'.abs = (X.abs.slow T).1.1 → St W0 (ldc q X' :: tb t (X.abs.slow T).1.2 :: L') W' → k (.bool (X.abs.slow T).2) W') : callK PR F_lead_Lead_Slow [.pointer (some ⟨q, 0, none⟩)] k W := by
  subst e; exact leadSlow h hk
end
end Go.Proofs.Ytpihhlaiofkmdaa
namespace Go.Proofs.Ytpihhlaiofkmdaa
set_option linter.unusedVariables false
set_option linter.unusedSimpArgs false
open Go Go.Eng

def tp5 (us : List Nat) : List Value := us.map tptr ++ List.replicate (5 - us.length) (.pointer none)
theorem tp5_len {us : List Nat} (h : us.length ≤ 5) : (tp5 us).length = 5 := by simp [tp5]; omega
theorem tp5_set {us : List Nat} (h : us.length < 5) (p : Nat) : stL (tp5 us) us.length [tptr p] = tp5 (us ++ [p]) := by
  have e : List.replicate (5 - us.length) (Value.pointer none) = .pointer none :: List.replicate (5 - (us.length + 1)) (.pointer none) := by
    rw [show 5 - us.length = (5 - (us.length + 1)) + 1 by omega]; rfl
  rw [stL_eq _ _ _ (by rw [tp5_len (by omega)]; simp; omega)]
  unfold tp5
  rw [List.take_left' (by simp), e]
  simp [List.drop_append]
theorem tp5_get {us : List Nat} {i p : Nat} (h : us[i]? = some p) : getL false (tp5 us) i 1 = some (tptr p) := by
  show lget (tp5 us) i = _
  rw [lget_eq]
  unfold tp5
  have hi : i < us.length := (List.getElem?_eq_some_iff.1 h).1
  rw [List.getElem?_append_left (by simpa using hi), List.getElem?_map, h]
  rfl
def esU (es : List (Nat × Tbl)) : Nat → Tbl := fun i => ((es[i]?).map (·.2)).getD []
theorem esU_at {es : List (Nat × Tbl)} {i : Nat} {e : Nat × Tbl} (h : es[i]? = some e) : esU es i = e.2 := by unfold esU; rw [h]; rfl
theorem fst_set {es : List (Nat × Tbl)} {i : Nat} {e : Nat × Tbl} (h : es[i]? = some e) (T : Tbl) : (es.set i (e.1, T)).map (·.1) = es.map (·.1) := by
  refine List.ext_getElem? fun j => ?_
  rw [List.getElem?_map, List.getElem?_map, List.getElem?_set]
  by_cases hj : i = j
  · subst hj; rw [if_pos rfl, h, if_pos (List.getElem?_eq_some_iff.1 h).1]; rfl
  · rw [if_neg hj]
section
variable {W0 W : World} {L : List Asn} {es : List (Nat × Tbl)} {f q : Nat} {X : LX} {T : Tbl}
theorem tabGot (hf : es[f]? = some (X.t, T)) {fr : Int} {a : Ans BSl} {k : Value → World → Prop} (h : St W0 (tbs es :: ldc q X :: L) W) [hr : Rd W0 L a.rc.cmd.a B8 a.rc.cmd.bs] (hl : a.rc.cmd.bs.length < 1099511627776)
    (hk : ∀ (X' : LX) W', X'.t = X.t → X'.abs = (X.abs.got T fr (a.map BSl.bs)).1.1 → St W0 (tbs (es.set f (X.t, (X.abs.got T fr (a.map BSl.bs)).1.2)) :: ldc q X' :: L) W' → k (.bool (X.abs.got T fr (a.map BSl.bs)).2) W') :
    callK PR F_lead_Lead_Got [.pointer (some ⟨q, 0, none⟩), .int .i64 fr, .agg #[.bool a.ok, .int .i64 a.bal.1, .int .i64 a.bal.2, .int .i64 a.rc.st, a.rc.cmd.v, .int .i64 a.rc.seq, .int .i64 a.rc.deps.x0, .int .i64 a.rc.deps.x1, .int .i64 a.rc.deps.x2, .int .i64 a.rc.deps.x3, .int .i64 a.rc.deps.x4, .int .i64 a.rc.deps.x5, .int .i64 a.rc.deps.x6, .int .i64 a.rc.bal.1, .int .i64 a.rc.bal.2, .int .i64 a.rc.ab.1, .int .i64 a.rc.ab.2]] k W := by
  have h := h.ent (tbs_take hf)
  refine leadGot (L1 := tb X.t T :: tbs (es.eraseIdx f) :: L) (L' := tbs (es.eraseIdx f) :: L) (T := T) (ht := ⟨(List.Perm.swap _ _ _).cons _ |>.trans (List.Perm.swap _ _ _)⟩) (ht2 := ⟨List.Perm.refl _⟩) h hl fun X' W' e1 e2 h => ?_
  exact hk X' W' e1 e2 ((h.perm ((List.Perm.swap _ _ _).trans ((List.Perm.swap _ _ _).cons _))).ent (tbs_put (e := (X.t, _)) (List.getElem?_eq_some_iff.1 hf).1))
theorem tabSlow (hf : es[f]? = some (X.t, T)) {k : Value → World → Prop} (h : St W0 (tbs es :: ldc q X :: L) W)
    (hk : ∀ (X' : LX) W', X'.t = X.t → X'.abs = (X.abs.slow T).1.1 → St W0 (tbs (es.set f (X.t, (X.abs.slow T).1.2)) :: ldc q X' :: L) W' → k (.bool (X.abs.slow T).2) W') :
    callK PR F_lead_Lead_Slow [.pointer (some ⟨q, 0, none⟩)] k W := by
  have h := h.ent (tbs_take hf)
  refine leadSlow (L1 := tb X.t T :: tbs (es.eraseIdx f) :: L) (L' := tbs (es.eraseIdx f) :: L) (T := T) (ht := ⟨(List.Perm.swap _ _ _).cons _ |>.trans (List.Perm.swap _ _ _)⟩) (ht2 := ⟨List.Perm.refl _⟩) h fun X' W' e1 e2 h => ?_
  exact hk X' W' e1 e2 ((h.perm ((List.Perm.swap _ _ _).trans ((List.Perm.swap _ _ _).cons _))).ent (tbs_put (e := (X.t, _)) (List.getElem?_eq_some_iff.1 hf).1))
theorem tabRecover {p : Nat} {n rep : Int} {d : Dot} (hf : es[f]? = some (p, T)) {k : Value → World → Prop} (h : St W0 (tbs es :: L) W)
    (hk1 : ∀ e W', recover n rep d T = .inr e → St W0 (tbs es :: L) W' → k (.tuple #[.pointer none, .int .i64 e]) W')
    (hk2 : ∀ q (X' : LX) T' W', recover n rep d T = .inl (X'.abs, T') → X'.t = p → St W0 (tbs (es.set f (p, T')) :: ldc q X' :: L) W' → k (.tuple #[.pointer (some ⟨q, 0, none⟩), .int .i64 0]) W') :
    callK PR F_lead_Recover [.int .i64 n, .int .i64 rep, .agg #[.int .i64 d.rep, .int .i64 d.n], .pointer (some ⟨p, 0, none⟩)] k W := by
  have h := h.ent (tbs_take hf)
  have hlt := (List.getElem?_eq_some_iff.1 hf).1
  refine leadRecover (L' := tbs (es.eraseIdx f) :: L) (T := T) (ht := ⟨List.Perm.refl _⟩) h (fun e W' he h => ?_) (fun q X' T' W' he e1 h => ?_)
  · refine hk1 e W' he ?_
    have h2 := h.ent (tbs_put (e := (p, T)) hlt)
    obtain ⟨hh, e⟩ := List.getElem?_eq_some_iff.1 hf
    rwa [← e, List.set_getElem_self hh] at h2
  · exact hk2 q X' T' W' he e1 ((h.perm ((List.Perm.swap _ _ _).trans ((List.Perm.swap _ _ _).cons _))).ent (tbs_put (e := (p, T')) hlt))
theorem tabRec {p : Nat} {d : Dot} (hf : es[f]? = some (p, T)) {k : Value → World → Prop} (h : St W0 (tbs es :: L) W)
    (hk : ∀ (r : Rec BSl) W', r.map BSl.bs = trec T d → St W0 (fch r.cmd :: tbs es :: L) W' → k (.agg #[.int .i64 r.st, r.cmd.v, .int .i64 r.seq, .int .i64 r.deps.x0, .int .i64 r.deps.x1, .int .i64 r.deps.x2, .int .i64 r.deps.x3, .int .i64 r.deps.x4, .int .i64 r.deps.x5, .int .i64 r.deps.x6, .int .i64 r.bal.1, .int .i64 r.bal.2, .int .i64 r.ab.1, .int .i64 r.ab.2]) W') :
    callK PR F_inst_Table_Rec [.pointer (some ⟨p, 0, none⟩), .agg #[.int .i64 d.rep, .int .i64 d.n]] k W := by
  have h := h.ent (tbs_take hf)
  have hlt := (List.getElem?_eq_some_iff.1 hf).1
  refine instRec (T := T) (L' := tbs (es.eraseIdx f) :: L) (ht := ⟨List.Perm.refl _⟩) h fun r W' hr h => ?_
  refine hk r W' hr ?_
  have h2 := h.ent (ent.cons _ (tbs_put (e := (p, T)) hlt))
  obtain ⟨hh, e⟩ := List.getElem?_eq_some_iff.1 hf
  rwa [← e, List.set_getElem_self hh] at h2
end
end Go.Proofs.Ytpihhlaiofkmdaa
namespace Go.Eng
set_option linter.unusedVariables false
set_option linter.unusedSimpArgs false
open Go Go.RowKit
section
variable {P : Program} {W0 W : World} {L : List Asn} {e : TypeId}
theorem bl1 (l : List UInt8) {t : TypeId} {by' n : Nat} {z : Value} [ht : TyS P t e 1 by' z] {ps : List (Nat × Value)} {k : Value → World → Prop} (h : St W0 L W) (hln : l.length = n) (hn : n ≤ 16777216) (hn0 : n ≠ 0)
    (hc : fillL (fun i => some (i * 1, 1)) ((List.range (n * 1)).map fun i => ((vcells z)[i % (vcells z).length]?).getD undef) ps = some (B8.rows l))
    (hk : ∀ b W', St W0 (blk b (.cells (B8.rows l).toArray e) :: L) W' → k (.slice (some ⟨b, 0, none⟩) l.length l.length) W') : efK P (Instr.buildSlice t n ps.toArray) k W := by
  subst hln
  exact ⟨_, _, bs_run (P := P) (t := t) (e := e) (by omega) (by omega) hc, hk _ _ (h.alloc _)⟩
theorem bl2 (l : List UInt8) {b n c : Nat} {t : TypeId} [hb : BytesT P t e] {k : Value → World → Prop} (h : St W0 (blk b (.cells (B8.rows l).toArray e) :: L) W) (hl : l.length ≤ maxLen)
    (hk : ∀ W', St W0 (arr B8 e (some ⟨b, 0, none⟩) l.length l :: L) W' → k (.slice (some ⟨b, 0, none⟩) n c) W') : efK P (convert t t (.slice (some ⟨b, 0, none⟩) n c)) k W := by
  have hbl := h.blk.2
  have hsh : W.shape? b = some (e, (B8.rows l).toArray.size) := by
    unfold World.shape?; rw [hbl]
  have hfr : W.freeze ⟨b, (B8.rows l).toArray.size, none⟩ 1 = { W with heap := W.heap.setIfInBounds b (.cells (B8.rows l).toArray e ((B8.rows l).toArray.size, (B8.rows l).toArray.size + 1)) } := by
    unfold World.freeze
    rw [if_neg (by decide)]
    congr 1
    apply Array.ext_getElem?
    intro i
    rw [Array.getElem?_modify, Array.getElem?_setIfInBounds]
    by_cases hi : b = i
    · subst hi
      rw [if_pos rfl, if_pos rfl, hbl]
      rw [if_pos (Array.getElem?_eq_some_iff.1 hbl).1]
      rfl
    · rw [if_neg hi, if_neg hi]
  refine ⟨.slice (some ⟨b, 0, none⟩) n c, W.freeze ⟨b, (B8.rows l).toArray.size, none⟩ 1, ?_, hk _ ?_⟩
  · simp [convert, run_underlying hb.ok.1, run_underlying hb.ok.2, markStringish, hsh]
  · rw [hfr]
    refine (((h.setBlk _).weak (a' := cells b (B8.rows l) e) fun p hp => ⟨((B8.rows l).toArray.size, (B8.rows l).toArray.size + 1), ?_, hp⟩).ent (arr_full (A := B8) hl))
    intro i hi
    simp; omega
end
end Go.Eng
namespace Go.Proofs.Ytpihhlaiofkmdaa
set_option linter.unusedVariables false
set_option linter.unusedSimpArgs false
open Go Go.Eng

set_option maxHeartbeats 4000000 in
theorem two_end {W W1 : World} {n : Int} {f ub db : Nat} {us : List Nat} {es : List (Nat × Tbl)} {v : Val} (hn5 : n ≤ 5) (hen : es.map (·.1) = us) (hel : es.length = 5) (hv : allD n (RU f (esU es)) v)
    (hc : ∀ j : Nat, (j : Int) < n → cOk (RU f (esU es) j).cmd) (h : St W [cells ub (tp5 us) T_a5_p_inst_Table, tbs es, cells db [.int .i64 (f : Int), .int .i64 1] T_api_Dot] W1) :
    S.rostrumlaw21_LeadTwo.j3 (fun v W' => v = .bool true ∧ St W [] W') (.int .i64 n) (.pointer (some ⟨ub, 0, none⟩)) (.pointer (some ⟨db, 0, none⟩)) W1 := by
  unfold S.rostrumlaw21_LeadTwo.j3
  (repeat (first | (first | (with_reducible (first | refine w1 fun _ _ => ?_ | refine w3 fun _ _ _ => ?_ | refine w4 fun _ _ _ => ?_ | refine w11 fun _ _ _ => ?_ | refine stb_n ?_)) | ((with_reducible refine w2 ?_); try simp -implicitDefEqProofs only [EN, lsub, lget, stL, beq_self_eq_true, ne_eq, if_true, if_false, List.cons_append, List.nil_append, Option.isNone_some, Option.isNone_none]; intro _ _) | ((with_reducible (first | refine w5 ?_ ?_ | refine w6 ?_ ?_ | refine w7 ?_ ?_)); simp; refine ⟨_, rfl, ?_⟩) | ((with_reducible (first | refine w8 ?_ ?_ ?_ | refine w9 ?_ ?_ ?_ | refine w10 ?_ ?_ ?_)); exact rfl; simp) | ((with_reducible refine w12 ?_ ?_ ?_ fun _ _ => ?_); simp; simp; simp [oneC]) | ((with_reducible (first | refine eqs ?_ | refine nes ?_)); refine ⟨_, rfl, ?_⟩) | ((refine okF_i (bldP_eq rfl) ?_); try simp only [BLS, List.take_succ_cons, List.take_zero, List.drop_succ_cons, List.drop_zero, List.cons_append, List.nil_append, Nat.reduceAdd])) | simp -implicitDefEqProofs only [EN, lsub, lget, stL, beq_self_eq_true, ne_eq, if_true, if_false, List.cons_append, List.nil_append, Option.isNone_some, Option.isNone_none]))
  rename_i rb _ _ W2 h
  (try simp only [BLS, List.take_succ_cons, List.take_zero, List.drop_succ_cons, List.drop_zero, List.cons_append, List.nil_append, List.append_nil, List.take_nil, List.drop_nil, stL, Nat.reduceAdd] at h)
  refine joinK_i ?_
  refine loop_c (σ := Rec BSl) n.toNat (fun i _ => [.int .i64 n, .pointer (some ⟨ub, 0, none⟩), .pointer (some ⟨db, 0, none⟩), .pointer (some ⟨rb, 0, none⟩), .int .i64 i])
    (fun i R W1 => (R.st = 3 → rva (R.map BSl.bs) = v ∧ cOk R.cmd.bs) ∧ St W [cells rb [.int .i64 R.st, R.cmd.v, .int .i64 R.seq, .int .i64 R.deps.x0, .int .i64 R.deps.x1, .int .i64 R.deps.x2, .int .i64 R.deps.x3, .int .i64 R.deps.x4, .int .i64 R.deps.x5, .int .i64 R.deps.x6, .int .i64 R.bal.1, .int .i64 R.bal.2, .int .i64 R.ab.1, .int .i64 R.ab.2] T_inst_Rec, fch R.cmd, cells ub (tp5 us) T_a5_p_inst_Table, tbs es, cells db [.int .i64 (f : Int), .int .i64 1] T_api_Dot] W1) recZX rfl ⟨fun h => absurd (show (0 : Int) = 3 from h) (by decide), ?_⟩ ?_
  · exact (St.ent (St.wk (L' := [cells rb [.int .i64 recZX.st, recZX.cmd.v, .int .i64 recZX.seq, .int .i64 recZX.deps.x0, .int .i64 recZX.deps.x1, .int .i64 recZX.deps.x2, .int .i64 recZX.deps.x3, .int .i64 recZX.deps.x4, .int .i64 recZX.deps.x5, .int .i64 recZX.deps.x6, .int .i64 recZX.bal.1, .int .i64 recZX.bal.2, .int .i64 recZX.ab.1, .int .i64 recZX.ab.2] T_inst_Rec, cells ub (tp5 us) T_a5_p_inst_Table, tbs es, cells db [.int .i64 (f : Int), .int .i64 1] T_api_Dot]) h) (fch0 _)).perm (List.Perm.swap _ _ _)
  clear h
  rintro K i R W3 hi ⟨hR, h⟩ hK
  simp -implicitDefEqProofs only [EN, lsub, lget, stL, beq_self_eq_true, ne_eq, if_true, if_false, List.cons_append, List.nil_append, Option.isNone_some, Option.isNone_none]
  unfold S.rostrumlaw21_LeadTwo.l1
  have ew : IntKind.i64.wrap ((i : Int) + 1) = ((i + 1 : Nat) : Int) := by rw [i64w]; omega
  by_cases hlt : (i : Int) < n
  · obtain ⟨e, he⟩ : ∃ e, es[i]? = some e := ⟨_, List.getElem?_eq_getElem (by omega)⟩
    have hue : us[i]? = some e.1 := by rw [← hen, List.getElem?_map, he]; rfl
    have ei : idxA 5 1 (.pointer (some ⟨ub, 0, none⟩)) (.int .i64 i) = some (.pointer (some ⟨ub, i, none⟩)) := by rw [idxA_blk (by omega) (by omega)]; simp
    have hre : RU f (esU es) i = trec e.2 (td f) := by unfold RU; rw [esU_at he]
    have hj6 : ∀ (r : Rec BSl) (cb : Nat) W', r.map BSl.bs = trec e.2 (td f) → St W [cells cb [.int .i64 r.st, r.cmd.v, .int .i64 r.seq, .int .i64 r.deps.x0, .int .i64 r.deps.x1, .int .i64 r.deps.x2, .int .i64 r.deps.x3, .int .i64 r.deps.x4, .int .i64 r.deps.x5, .int .i64 r.deps.x6, .int .i64 r.bal.1, .int .i64 r.bal.2, .int .i64 r.ab.1, .int .i64 r.ab.2] T_inst_Rec, fch r.cmd, cells rb [.int .i64 R.st, R.cmd.v, .int .i64 R.seq, .int .i64 R.deps.x0, .int .i64 R.deps.x1, .int .i64 R.deps.x2, .int .i64 R.deps.x3, .int .i64 R.deps.x4, .int .i64 R.deps.x5, .int .i64 R.deps.x6, .int .i64 R.bal.1, .int .i64 R.bal.2, .int .i64 R.ab.1, .int .i64 R.ab.2] T_inst_Rec, fch R.cmd, cells ub (tp5 us) T_a5_p_inst_Table, tbs es, cells db [.int .i64 (f : Int), .int .i64 1] T_api_Dot] W' →
        S.rostrumlaw21_LeadTwo.j6 (fun v W' => v = .bool true ∧ St W [] W') (fun s W => S.rostrumlaw21_LeadTwo.j5 K (nthv s 0) (nthv s 1) (nthv s 2) (nthv s 3) (nthv s 4) W) (.int .i64 n) (.pointer (some ⟨ub, 0, none⟩)) (.pointer (some ⟨db, 0, none⟩)) (.pointer (some ⟨rb, 0, none⟩)) (.int .i64 i) (.pointer (some ⟨cb, 0, none⟩)) W' := by
      intro r cb W4 hr h
      unfold S.rostrumlaw21_LeadTwo.j6
      by_cases c1 : r.st = 3
      · have f1 := decide_eq_true c1
        have hrv : rva (r.map BSl.bs) = v := by rw [hr, ← hre]; exact hv i hlt (by rw [hre, ← hr]; exact c1)
        have hrc : cOk r.cmd.bs := by have := hc i hlt; rw [hre, ← hr] at this; exact this
        by_cases c2 : R.st = 3
        · have f2 := decide_eq_true c2
          obtain ⟨hRv, hRc⟩ := hR c2
          have hs : r.seq = R.seq := (congrArg (fun x : Val => x.2.1) hrv).trans (congrArg (fun x : Val => x.2.1) hRv).symm
          have hd : r.deps = R.deps := (congrArg (fun x : Val => x.2.2) hrv).trans (congrArg (fun x : Val => x.2.2) hRv).symm
          have hcm : r.cmd.bs = R.cmd.bs := (congrArg (fun x : Val => x.1) hrv).trans (congrArg (fun x : Val => x.1) hRv).symm
          (repeat (first | (first | (with_reducible (first | refine w1 fun _ _ => ?_ | refine w3 fun _ _ _ => ?_ | refine w4 fun _ _ _ => ?_ | refine w11 fun _ _ _ => ?_ | refine stb_n ?_)) | ((with_reducible refine w2 ?_); try simp -implicitDefEqProofs only [EN, lsub, lget, stL, beq_self_eq_true, ne_eq, if_true, if_false, List.cons_append, List.nil_append, Option.isNone_some, Option.isNone_none, f1, f2]; intro _ _) | ((with_reducible (first | refine w5 ?_ ?_ | refine w6 ?_ ?_ | refine w7 ?_ ?_)); simp; refine ⟨_, rfl, ?_⟩) | ((with_reducible (first | refine w8 ?_ ?_ ?_ | refine w9 ?_ ?_ ?_ | refine w10 ?_ ?_ ?_)); exact rfl; simp) | ((with_reducible refine w12 ?_ ?_ ?_ fun _ _ => ?_); simp; simp; simp [oneC]) | ((with_reducible (first | refine eqs ?_ | refine nes ?_)); refine ⟨_, rfl, ?_⟩) | ((refine okF_i (bldP_eq rfl) ?_); try simp only [BLS, List.take_succ_cons, List.take_zero, List.drop_succ_cons, List.drop_zero, List.cons_append, List.nil_append, Nat.reduceAdd])) | simp -implicitDefEqProofs only [EN, lsub, lget, stL, beq_self_eq_true, ne_eq, if_true, if_false, List.cons_append, List.nil_append, Option.isNone_some, Option.isNone_none, f1, f2]))
          refine b2s (a := R.cmd.a) (l := R.cmd.bs) (by first | assumption | exact St.tick (by assumption) | exact St.tick (St.tick (by assumption))) ?_
          (repeat (first | (first | (with_reducible (first | refine w1 fun _ _ => ?_ | refine w3 fun _ _ _ => ?_ | refine w4 fun _ _ _ => ?_ | refine w11 fun _ _ _ => ?_ | refine stb_n ?_)) | ((with_reducible refine w2 ?_); try simp -implicitDefEqProofs only [EN, lsub, lget, stL, beq_self_eq_true, ne_eq, if_true, if_false, List.cons_append, List.nil_append, Option.isNone_some, Option.isNone_none]; intro _ _) | ((with_reducible (first | refine w5 ?_ ?_ | refine w6 ?_ ?_ | refine w7 ?_ ?_)); simp; refine ⟨_, rfl, ?_⟩) | ((with_reducible (first | refine w8 ?_ ?_ ?_ | refine w9 ?_ ?_ ?_ | refine w10 ?_ ?_ ?_)); exact rfl; simp) | ((with_reducible refine w12 ?_ ?_ ?_ fun _ _ => ?_); simp; simp; simp [oneC]) | ((with_reducible (first | refine eqs ?_ | refine nes ?_)); refine ⟨_, rfl, ?_⟩) | ((refine okF_i (bldP_eq rfl) ?_); try simp only [BLS, List.take_succ_cons, List.take_zero, List.drop_succ_cons, List.drop_zero, List.cons_append, List.nil_append, Nat.reduceAdd])) | simp -implicitDefEqProofs only [EN, lsub, lget, stL, beq_self_eq_true, ne_eq, if_true, if_false, List.cons_append, List.nil_append, Option.isNone_some, Option.isNone_none]))
          refine b2s (a := r.cmd.a) (l := r.cmd.bs) (by first | assumption | exact St.tick (by assumption) | exact St.tick (St.tick (by assumption))) ?_
          rw [hcm]
          have ed : (decide (R.deps.x0 = r.deps.x0) && (decide (R.deps.x1 = r.deps.x1) && (decide (R.deps.x2 = r.deps.x2) && (decide (R.deps.x3 = r.deps.x3) && (decide (R.deps.x4 = r.deps.x4) && (decide (R.deps.x5 = r.deps.x5) && decide (R.deps.x6 = r.deps.x6))))))) = true := by rw [hd]; simp
          (repeat (first | (first | (with_reducible (first | refine w1 fun _ _ => ?_ | refine w3 fun _ _ _ => ?_ | refine w4 fun _ _ _ => ?_ | refine w11 fun _ _ _ => ?_ | refine stb_n ?_)) | ((with_reducible refine w2 ?_); try simp -implicitDefEqProofs only [EN, lsub, lget, stL, beq_self_eq_true, ne_eq, if_true, if_false, List.cons_append, List.nil_append, Option.isNone_some, Option.isNone_none, eq_self, hs, ed]; intro _ _) | ((with_reducible (first | refine w5 ?_ ?_ | refine w6 ?_ ?_ | refine w7 ?_ ?_)); simp; refine ⟨_, rfl, ?_⟩) | ((with_reducible (first | refine w8 ?_ ?_ ?_ | refine w9 ?_ ?_ ?_ | refine w10 ?_ ?_ ?_)); exact rfl; simp) | ((with_reducible refine w12 ?_ ?_ ?_ fun _ _ => ?_); simp; simp; simp [oneC]) | ((with_reducible (first | refine eqs ?_ | refine nes ?_)); refine ⟨_, rfl, ?_⟩) | ((refine okF_i (bldP_eq rfl) ?_); try simp only [BLS, List.take_succ_cons, List.take_zero, List.drop_succ_cons, List.drop_zero, List.cons_append, List.nil_append, Nat.reduceAdd])) | simp -implicitDefEqProofs only [EN, lsub, lget, stL, beq_self_eq_true, ne_eq, if_true, if_false, List.cons_append, List.nil_append, Option.isNone_some, Option.isNone_none, eq_self, hs, ed]))
          unfold S.rostrumlaw21_LeadTwo.j5
          (repeat (first | (first | (with_reducible (first | refine w1 fun _ _ => ?_ | refine w3 fun _ _ _ => ?_ | refine w4 fun _ _ _ => ?_ | refine w11 fun _ _ _ => ?_ | refine stb_n ?_)) | ((with_reducible refine w2 ?_); try simp -implicitDefEqProofs only [EN, lsub, lget, stL, beq_self_eq_true, ne_eq, if_true, if_false, List.cons_append, List.nil_append, Option.isNone_some, Option.isNone_none, ew]; intro _ _) | ((with_reducible (first | refine w5 ?_ ?_ | refine w6 ?_ ?_ | refine w7 ?_ ?_)); simp; refine ⟨_, rfl, ?_⟩) | ((with_reducible (first | refine w8 ?_ ?_ ?_ | refine w9 ?_ ?_ ?_ | refine w10 ?_ ?_ ?_)); exact rfl; simp) | ((with_reducible refine w12 ?_ ?_ ?_ fun _ _ => ?_); simp; simp; simp [oneC]) | ((with_reducible (first | refine eqs ?_ | refine nes ?_)); refine ⟨_, rfl, ?_⟩) | ((refine okF_i (bldP_eq rfl) ?_); try simp only [BLS, List.take_succ_cons, List.take_zero, List.drop_succ_cons, List.drop_zero, List.cons_append, List.nil_append, Nat.reduceAdd])) | simp -implicitDefEqProofs only [EN, lsub, lget, stL, beq_self_eq_true, ne_eq, if_true, if_false, List.cons_append, List.nil_append, Option.isNone_some, Option.isNone_none, ew]))
          refine hK r _ (by omega) ⟨fun _ => ⟨hrv, hrc⟩, ?_⟩
          rename_i h
          (try simp only [BLS, List.take_succ_cons, List.take_zero, List.drop_succ_cons, List.drop_zero, List.cons_append, List.nil_append, List.append_nil, List.take_nil, List.drop_nil, stL, Nat.reduceAdd] at h)
          rw [← hs] at h
          exact St.wk h
        · have f2 := decide_eq_false c2
          (repeat (first | (first | (with_reducible (first | refine w1 fun _ _ => ?_ | refine w3 fun _ _ _ => ?_ | refine w4 fun _ _ _ => ?_ | refine w11 fun _ _ _ => ?_ | refine stb_n ?_)) | ((with_reducible refine w2 ?_); try simp -implicitDefEqProofs only [EN, lsub, lget, stL, beq_self_eq_true, ne_eq, if_true, if_false, List.cons_append, List.nil_append, Option.isNone_some, Option.isNone_none, f1, f2]; intro _ _) | ((with_reducible (first | refine w5 ?_ ?_ | refine w6 ?_ ?_ | refine w7 ?_ ?_)); simp; refine ⟨_, rfl, ?_⟩) | ((with_reducible (first | refine w8 ?_ ?_ ?_ | refine w9 ?_ ?_ ?_ | refine w10 ?_ ?_ ?_)); exact rfl; simp) | ((with_reducible refine w12 ?_ ?_ ?_ fun _ _ => ?_); simp; simp; simp [oneC]) | ((with_reducible (first | refine eqs ?_ | refine nes ?_)); refine ⟨_, rfl, ?_⟩) | ((refine okF_i (bldP_eq rfl) ?_); try simp only [BLS, List.take_succ_cons, List.take_zero, List.drop_succ_cons, List.drop_zero, List.cons_append, List.nil_append, Nat.reduceAdd])) | simp -implicitDefEqProofs only [EN, lsub, lget, stL, beq_self_eq_true, ne_eq, if_true, if_false, List.cons_append, List.nil_append, Option.isNone_some, Option.isNone_none, f1, f2]))
          unfold S.rostrumlaw21_LeadTwo.j5
          (repeat (first | (first | (with_reducible (first | refine w1 fun _ _ => ?_ | refine w3 fun _ _ _ => ?_ | refine w4 fun _ _ _ => ?_ | refine w11 fun _ _ _ => ?_ | refine stb_n ?_)) | ((with_reducible refine w2 ?_); try simp -implicitDefEqProofs only [EN, lsub, lget, stL, beq_self_eq_true, ne_eq, if_true, if_false, List.cons_append, List.nil_append, Option.isNone_some, Option.isNone_none, ew]; intro _ _) | ((with_reducible (first | refine w5 ?_ ?_ | refine w6 ?_ ?_ | refine w7 ?_ ?_)); simp; refine ⟨_, rfl, ?_⟩) | ((with_reducible (first | refine w8 ?_ ?_ ?_ | refine w9 ?_ ?_ ?_ | refine w10 ?_ ?_ ?_)); exact rfl; simp) | ((with_reducible refine w12 ?_ ?_ ?_ fun _ _ => ?_); simp; simp; simp [oneC]) | ((with_reducible (first | refine eqs ?_ | refine nes ?_)); refine ⟨_, rfl, ?_⟩) | ((refine okF_i (bldP_eq rfl) ?_); try simp only [BLS, List.take_succ_cons, List.take_zero, List.drop_succ_cons, List.drop_zero, List.cons_append, List.nil_append, Nat.reduceAdd])) | simp -implicitDefEqProofs only [EN, lsub, lget, stL, beq_self_eq_true, ne_eq, if_true, if_false, List.cons_append, List.nil_append, Option.isNone_some, Option.isNone_none, ew]))
          refine hK r _ (by omega) ⟨fun _ => ⟨hrv, hrc⟩, ?_⟩
          rename_i h
          (try simp only [BLS, List.take_succ_cons, List.take_zero, List.drop_succ_cons, List.drop_zero, List.cons_append, List.nil_append, List.append_nil, List.take_nil, List.drop_nil, stL, Nat.reduceAdd] at h)
          exact St.wk h
      · have f1 := decide_eq_false c1
        (repeat (first | (first | (with_reducible (first | refine w1 fun _ _ => ?_ | refine w3 fun _ _ _ => ?_ | refine w4 fun _ _ _ => ?_ | refine w11 fun _ _ _ => ?_ | refine stb_n ?_)) | ((with_reducible refine w2 ?_); try simp -implicitDefEqProofs only [EN, lsub, lget, stL, beq_self_eq_true, ne_eq, if_true, if_false, List.cons_append, List.nil_append, Option.isNone_some, Option.isNone_none, f1]; intro _ _) | ((with_reducible (first | refine w5 ?_ ?_ | refine w6 ?_ ?_ | refine w7 ?_ ?_)); simp; refine ⟨_, rfl, ?_⟩) | ((with_reducible (first | refine w8 ?_ ?_ ?_ | refine w9 ?_ ?_ ?_ | refine w10 ?_ ?_ ?_)); exact rfl; simp) | ((with_reducible refine w12 ?_ ?_ ?_ fun _ _ => ?_); simp; simp; simp [oneC]) | ((with_reducible (first | refine eqs ?_ | refine nes ?_)); refine ⟨_, rfl, ?_⟩) | ((refine okF_i (bldP_eq rfl) ?_); try simp only [BLS, List.take_succ_cons, List.take_zero, List.drop_succ_cons, List.drop_zero, List.cons_append, List.nil_append, Nat.reduceAdd])) | simp -implicitDefEqProofs only [EN, lsub, lget, stL, beq_self_eq_true, ne_eq, if_true, if_false, List.cons_append, List.nil_append, Option.isNone_some, Option.isNone_none, f1]))
        unfold S.rostrumlaw21_LeadTwo.j5
        (repeat (first | (first | (with_reducible (first | refine w1 fun _ _ => ?_ | refine w3 fun _ _ _ => ?_ | refine w4 fun _ _ _ => ?_ | refine w11 fun _ _ _ => ?_ | refine stb_n ?_)) | ((with_reducible refine w2 ?_); try simp -implicitDefEqProofs only [EN, lsub, lget, stL, beq_self_eq_true, ne_eq, if_true, if_false, List.cons_append, List.nil_append, Option.isNone_some, Option.isNone_none, ew]; intro _ _) | ((with_reducible (first | refine w5 ?_ ?_ | refine w6 ?_ ?_ | refine w7 ?_ ?_)); simp; refine ⟨_, rfl, ?_⟩) | ((with_reducible (first | refine w8 ?_ ?_ ?_ | refine w9 ?_ ?_ ?_ | refine w10 ?_ ?_ ?_)); exact rfl; simp) | ((with_reducible refine w12 ?_ ?_ ?_ fun _ _ => ?_); simp; simp; simp [oneC]) | ((with_reducible (first | refine eqs ?_ | refine nes ?_)); refine ⟨_, rfl, ?_⟩) | ((refine okF_i (bldP_eq rfl) ?_); try simp only [BLS, List.take_succ_cons, List.take_zero, List.drop_succ_cons, List.drop_zero, List.cons_append, List.nil_append, Nat.reduceAdd])) | simp -implicitDefEqProofs only [EN, lsub, lget, stL, beq_self_eq_true, ne_eq, if_true, if_false, List.cons_append, List.nil_append, Option.isNone_some, Option.isNone_none, ew]))
        exact hK R _ (by omega) ⟨hR, St.wk (by first | assumption | exact St.tick (by assumption) | exact St.tick (St.tick (by assumption)))⟩
    (repeat (first | (first | (with_reducible (first | refine w1 fun _ _ => ?_ | refine w3 fun _ _ _ => ?_ | refine w4 fun _ _ _ => ?_ | refine w11 fun _ _ _ => ?_ | refine stb_n ?_)) | ((with_reducible refine w2 ?_); try simp -implicitDefEqProofs only [EN, lsub, lget, stL, beq_self_eq_true, ne_eq, if_true, if_false, List.cons_append, List.nil_append, Option.isNone_some, Option.isNone_none, hlt]; intro _ _) | ((with_reducible (first | refine w5 ?_ ?_ | refine w6 ?_ ?_ | refine w7 ?_ ?_)); simp; refine ⟨_, rfl, ?_⟩) | ((with_reducible (first | refine w8 ?_ ?_ ?_ | refine w9 ?_ ?_ ?_ | refine w10 ?_ ?_ ?_)); exact rfl; simp) | ((with_reducible refine w12 ?_ ?_ ?_ fun _ _ => ?_); simp; simp; simp [oneC]) | ((with_reducible (first | refine eqs ?_ | refine nes ?_)); refine ⟨_, rfl, ?_⟩) | ((refine okF_i (bldP_eq rfl) ?_); try simp only [BLS, List.take_succ_cons, List.take_zero, List.drop_succ_cons, List.drop_zero, List.cons_append, List.nil_append, Nat.reduceAdd])) | simp -implicitDefEqProofs only [EN, lsub, lget, stL, beq_self_eq_true, ne_eq, if_true, if_false, List.cons_append, List.nil_append, Option.isNone_some, Option.isNone_none, hlt]))
    refine joinK_i ?_
    refine joinK_i ?_
    (repeat (first | (first | (with_reducible (first | refine w1 fun _ _ => ?_ | refine w3 fun _ _ _ => ?_ | refine w4 fun _ _ _ => ?_ | refine w11 fun _ _ _ => ?_ | refine stb_n ?_)) | ((with_reducible refine w2 ?_); try simp -implicitDefEqProofs only [EN, lsub, lget, stL, beq_self_eq_true, ne_eq, if_true, if_false, List.cons_append, List.nil_append, Option.isNone_some, Option.isNone_none, ei]; intro _ _) | ((with_reducible (first | refine w5 ?_ ?_ | refine w6 ?_ ?_ | refine w7 ?_ ?_)); simp; refine ⟨_, rfl, ?_⟩) | ((with_reducible (first | refine w8 ?_ ?_ ?_ | refine w9 ?_ ?_ ?_ | refine w10 ?_ ?_ ?_)); exact rfl; simp) | ((with_reducible refine w12 ?_ ?_ ?_ fun _ _ => ?_); simp; simp; simp [oneC]) | ((with_reducible (first | refine eqs ?_ | refine nes ?_)); refine ⟨_, rfl, ?_⟩) | ((refine okF_i (bldP_eq rfl) ?_); try simp only [BLS, List.take_succ_cons, List.take_zero, List.drop_succ_cons, List.drop_zero, List.cons_append, List.nil_append, Nat.reduceAdd])) | simp -implicitDefEqProofs only [EN, lsub, lget, stL, beq_self_eq_true, ne_eq, if_true, if_false, List.cons_append, List.nil_append, Option.isNone_some, Option.isNone_none, ei]))
    refine ld (v := tptr e.1) (by first | assumption | exact St.tick (by assumption) | exact St.tick (St.tick (by assumption))) (tp5_get hue) (by simp) ?_
    (repeat (first | (first | (with_reducible (first | refine w1 fun _ _ => ?_ | refine w3 fun _ _ _ => ?_ | refine w4 fun _ _ _ => ?_ | refine w11 fun _ _ _ => ?_ | refine stb_n ?_)) | ((with_reducible refine w2 ?_); try simp -implicitDefEqProofs only [EN, lsub, lget, stL, beq_self_eq_true, ne_eq, if_true, if_false, List.cons_append, List.nil_append, Option.isNone_some, Option.isNone_none]; intro _ _) | ((with_reducible (first | refine w5 ?_ ?_ | refine w6 ?_ ?_ | refine w7 ?_ ?_)); simp; refine ⟨_, rfl, ?_⟩) | ((with_reducible (first | refine w8 ?_ ?_ ?_ | refine w9 ?_ ?_ ?_ | refine w10 ?_ ?_ ?_)); exact rfl; simp) | ((with_reducible refine w12 ?_ ?_ ?_ fun _ _ => ?_); simp; simp; simp [oneC]) | ((with_reducible (first | refine eqs ?_ | refine nes ?_)); refine ⟨_, rfl, ?_⟩) | ((refine okF_i (bldP_eq rfl) ?_); try simp only [BLS, List.take_succ_cons, List.take_zero, List.drop_succ_cons, List.drop_zero, List.cons_append, List.nil_append, Nat.reduceAdd])) | simp -implicitDefEqProofs only [EN, lsub, lget, stL, beq_self_eq_true, ne_eq, if_true, if_false, List.cons_append, List.nil_append, Option.isNone_some, Option.isNone_none]))
    refine ⟨?_, ?_⟩
    · refine tabRec (d := td f) he (St.wk (L' := tbs es :: [cells rb [.int .i64 R.st, R.cmd.v, .int .i64 R.seq, .int .i64 R.deps.x0, .int .i64 R.deps.x1, .int .i64 R.deps.x2, .int .i64 R.deps.x3, .int .i64 R.deps.x4, .int .i64 R.deps.x5, .int .i64 R.deps.x6, .int .i64 R.bal.1, .int .i64 R.bal.2, .int .i64 R.ab.1, .int .i64 R.ab.2] T_inst_Rec, fch R.cmd, cells ub (tp5 us) T_a5_p_inst_Table, cells db [.int .i64 (f : Int), .int .i64 1] T_api_Dot]) (by first | assumption | exact St.tick (by assumption) | exact St.tick (St.tick (by assumption)))) fun r W4 hr h => ?_
      (repeat (first | (first | (with_reducible (first | refine w1 fun _ _ => ?_ | refine w3 fun _ _ _ => ?_ | refine w4 fun _ _ _ => ?_ | refine w11 fun _ _ _ => ?_ | refine stb_n ?_)) | ((with_reducible refine w2 ?_); try simp -implicitDefEqProofs only [EN, lsub, lget, stL, beq_self_eq_true, ne_eq, if_true, if_false, List.cons_append, List.nil_append, Option.isNone_some, Option.isNone_none]; intro _ _) | ((with_reducible (first | refine w5 ?_ ?_ | refine w6 ?_ ?_ | refine w7 ?_ ?_)); simp; refine ⟨_, rfl, ?_⟩) | ((with_reducible (first | refine w8 ?_ ?_ ?_ | refine w9 ?_ ?_ ?_ | refine w10 ?_ ?_ ?_)); exact rfl; simp) | ((with_reducible refine w12 ?_ ?_ ?_ fun _ _ => ?_); simp; simp; simp [oneC]) | ((with_reducible (first | refine eqs ?_ | refine nes ?_)); refine ⟨_, rfl, ?_⟩) | ((refine okF_i (bldP_eq rfl) ?_); try simp only [BLS, List.take_succ_cons, List.take_zero, List.drop_succ_cons, List.drop_zero, List.cons_append, List.nil_append, Nat.reduceAdd])) | simp -implicitDefEqProofs only [EN, lsub, lget, stL, beq_self_eq_true, ne_eq, if_true, if_false, List.cons_append, List.nil_append, Option.isNone_some, Option.isNone_none]))
      rename_i h
      (try simp only [BLS, List.take_succ_cons, List.take_zero, List.drop_succ_cons, List.drop_zero, List.cons_append, List.nil_append, List.append_nil, List.take_nil, List.drop_nil, stL, Nat.reduceAdd] at h)
      exact hj6 r _ _ hr (St.wk h)
    · (repeat (first | (first | (with_reducible (first | refine w1 fun _ _ => ?_ | refine w3 fun _ _ _ => ?_ | refine w4 fun _ _ _ => ?_ | refine w11 fun _ _ _ => ?_ | refine stb_n ?_)) | ((with_reducible refine w2 ?_); try simp -implicitDefEqProofs only [EN, lsub, lget, stL, beq_self_eq_true, ne_eq, if_true, if_false, List.cons_append, List.nil_append, Option.isNone_some, Option.isNone_none]; intro _ _) | ((with_reducible (first | refine w5 ?_ ?_ | refine w6 ?_ ?_ | refine w7 ?_ ?_)); simp; refine ⟨_, rfl, ?_⟩) | ((with_reducible (first | refine w8 ?_ ?_ ?_ | refine w9 ?_ ?_ ?_ | refine w10 ?_ ?_ ?_)); exact rfl; simp) | ((with_reducible refine w12 ?_ ?_ ?_ fun _ _ => ?_); simp; simp; simp [oneC]) | ((with_reducible (first | refine eqs ?_ | refine nes ?_)); refine ⟨_, rfl, ?_⟩) | ((refine okF_i (bldP_eq rfl) ?_); try simp only [BLS, List.take_succ_cons, List.take_zero, List.drop_succ_cons, List.drop_zero, List.cons_append, List.nil_append, Nat.reduceAdd])) | simp -implicitDefEqProofs only [EN, lsub, lget, stL, beq_self_eq_true, ne_eq, if_true, if_false, List.cons_append, List.nil_append, Option.isNone_some, Option.isNone_none]))
      refine stb_ld (by first | assumption | exact St.tick (by assumption) | exact St.tick (St.tick (by assumption))) (tp5_get hue) (by simp) (stb_n ?_)
      rename_i cb _ h
      (try simp only [BLS, List.take_succ_cons, List.take_zero, List.drop_succ_cons, List.drop_zero, List.cons_append, List.nil_append, List.append_nil, List.take_nil, List.drop_nil, stL, Nat.reduceAdd] at h)
      refine tabRec (d := td f) he (St.wk (L' := tbs es :: [cells cb [.int .i64 recZX.st, recZX.cmd.v, .int .i64 recZX.seq, .int .i64 recZX.deps.x0, .int .i64 recZX.deps.x1, .int .i64 recZX.deps.x2, .int .i64 recZX.deps.x3, .int .i64 recZX.deps.x4, .int .i64 recZX.deps.x5, .int .i64 recZX.deps.x6, .int .i64 recZX.bal.1, .int .i64 recZX.bal.2, .int .i64 recZX.ab.1, .int .i64 recZX.ab.2] T_inst_Rec, cells rb [.int .i64 R.st, R.cmd.v, .int .i64 R.seq, .int .i64 R.deps.x0, .int .i64 R.deps.x1, .int .i64 R.deps.x2, .int .i64 R.deps.x3, .int .i64 R.deps.x4, .int .i64 R.deps.x5, .int .i64 R.deps.x6, .int .i64 R.bal.1, .int .i64 R.bal.2, .int .i64 R.ab.1, .int .i64 R.ab.2] T_inst_Rec, fch R.cmd, cells ub (tp5 us) T_a5_p_inst_Table, cells db [.int .i64 (f : Int), .int .i64 1] T_api_Dot]) h) fun r W4 hr h => ?_
      (repeat (first | (first | (with_reducible (first | refine w1 fun _ _ => ?_ | refine w3 fun _ _ _ => ?_ | refine w4 fun _ _ _ => ?_ | refine w11 fun _ _ _ => ?_ | refine stb_n ?_)) | ((with_reducible refine w2 ?_); try simp -implicitDefEqProofs only [EN, lsub, lget, stL, beq_self_eq_true, ne_eq, if_true, if_false, List.cons_append, List.nil_append, Option.isNone_some, Option.isNone_none]; intro _ _) | ((with_reducible (first | refine w5 ?_ ?_ | refine w6 ?_ ?_ | refine w7 ?_ ?_)); simp; refine ⟨_, rfl, ?_⟩) | ((with_reducible (first | refine w8 ?_ ?_ ?_ | refine w9 ?_ ?_ ?_ | refine w10 ?_ ?_ ?_)); exact rfl; simp) | ((with_reducible refine w12 ?_ ?_ ?_ fun _ _ => ?_); simp; simp; simp [oneC]) | ((with_reducible (first | refine eqs ?_ | refine nes ?_)); refine ⟨_, rfl, ?_⟩) | ((refine okF_i (bldP_eq rfl) ?_); try simp only [BLS, List.take_succ_cons, List.take_zero, List.drop_succ_cons, List.drop_zero, List.cons_append, List.nil_append, Nat.reduceAdd])) | simp -implicitDefEqProofs only [EN, lsub, lget, stL, beq_self_eq_true, ne_eq, if_true, if_false, List.cons_append, List.nil_append, Option.isNone_some, Option.isNone_none]))
      rename_i h
      (try simp only [BLS, List.take_succ_cons, List.take_zero, List.drop_succ_cons, List.drop_zero, List.cons_append, List.nil_append, List.append_nil, List.take_nil, List.drop_nil, stL, Nat.reduceAdd] at h)
      exact hj6 r _ _ hr (St.wk h)
  · (repeat (first | (first | (with_reducible (first | refine w1 fun _ _ => ?_ | refine w3 fun _ _ _ => ?_ | refine w4 fun _ _ _ => ?_ | refine w11 fun _ _ _ => ?_ | refine stb_n ?_)) | ((with_reducible refine w2 ?_); try simp -implicitDefEqProofs only [EN, lsub, lget, stL, beq_self_eq_true, ne_eq, if_true, if_false, List.cons_append, List.nil_append, Option.isNone_some, Option.isNone_none, hlt]; intro _ _) | ((with_reducible (first | refine w5 ?_ ?_ | refine w6 ?_ ?_ | refine w7 ?_ ?_)); simp; refine ⟨_, rfl, ?_⟩) | ((with_reducible (first | refine w8 ?_ ?_ ?_ | refine w9 ?_ ?_ ?_ | refine w10 ?_ ?_ ?_)); exact rfl; simp) | ((with_reducible refine w12 ?_ ?_ ?_ fun _ _ => ?_); simp; simp; simp [oneC]) | ((with_reducible (first | refine eqs ?_ | refine nes ?_)); refine ⟨_, rfl, ?_⟩) | ((refine okF_i (bldP_eq rfl) ?_); try simp only [BLS, List.take_succ_cons, List.take_zero, List.drop_succ_cons, List.drop_zero, List.cons_append, List.nil_append, Nat.reduceAdd])) | simp -implicitDefEqProofs only [EN, lsub, lget, stL, beq_self_eq_true, ne_eq, if_true, if_false, List.cons_append, List.nil_append, Option.isNone_some, Option.isNone_none, hlt]))
    unfold S.rostrumlaw21_LeadTwo.j4
    by_cases c2 : R.st = 3
    · have f2 := decide_eq_true c2
      obtain ⟨_, hRc⟩ := hR c2
      (repeat (first | (first | (with_reducible (first | refine w1 fun _ _ => ?_ | refine w3 fun _ _ _ => ?_ | refine w4 fun _ _ _ => ?_ | refine w11 fun _ _ _ => ?_ | refine stb_n ?_)) | ((with_reducible refine w2 ?_); try simp -implicitDefEqProofs only [EN, lsub, lget, stL, beq_self_eq_true, ne_eq, if_true, if_false, List.cons_append, List.nil_append, Option.isNone_some, Option.isNone_none, f2]; intro _ _) | ((with_reducible (first | refine w5 ?_ ?_ | refine w6 ?_ ?_ | refine w7 ?_ ?_)); simp; refine ⟨_, rfl, ?_⟩) | ((with_reducible (first | refine w8 ?_ ?_ ?_ | refine w9 ?_ ?_ ?_ | refine w10 ?_ ?_ ?_)); exact rfl; simp) | ((with_reducible refine w12 ?_ ?_ ?_ fun _ _ => ?_); simp; simp; simp [oneC]) | ((with_reducible (first | refine eqs ?_ | refine nes ?_)); refine ⟨_, rfl, ?_⟩) | ((refine okF_i (bldP_eq rfl) ?_); try simp only [BLS, List.take_succ_cons, List.take_zero, List.drop_succ_cons, List.drop_zero, List.cons_append, List.nil_append, Nat.reduceAdd])) | simp -implicitDefEqProofs only [EN, lsub, lget, stL, beq_self_eq_true, ne_eq, if_true, if_false, List.cons_append, List.nil_append, Option.isNone_some, Option.isNone_none, f2]))
      refine b2s (a := R.cmd.a) (l := R.cmd.bs) (by first | assumption | exact St.tick (by assumption) | exact St.tick (St.tick (by assumption))) ?_
      rcases hRc with q | q
      · rw [q]
        (repeat (first | (first | (with_reducible (first | refine w1 fun _ _ => ?_ | refine w3 fun _ _ _ => ?_ | refine w4 fun _ _ _ => ?_ | refine w11 fun _ _ _ => ?_ | refine stb_n ?_)) | ((with_reducible refine w2 ?_); try simp -implicitDefEqProofs only [EN, lsub, lget, stL, beq_self_eq_true, ne_eq, if_true, if_false, List.cons_append, List.nil_append, Option.isNone_some, Option.isNone_none]; intro _ _) | ((with_reducible (first | refine w5 ?_ ?_ | refine w6 ?_ ?_ | refine w7 ?_ ?_)); simp; refine ⟨_, rfl, ?_⟩) | ((with_reducible (first | refine w8 ?_ ?_ ?_ | refine w9 ?_ ?_ ?_ | refine w10 ?_ ?_ ?_)); exact rfl; simp) | ((with_reducible refine w12 ?_ ?_ ?_ fun _ _ => ?_); simp; simp; simp [oneC]) | ((with_reducible (first | refine eqs ?_ | refine nes ?_)); refine ⟨_, rfl, ?_⟩) | ((refine okF_i (bldP_eq rfl) ?_); try simp only [BLS, List.take_succ_cons, List.take_zero, List.drop_succ_cons, List.drop_zero, List.cons_append, List.nil_append, Nat.reduceAdd])) | simp -implicitDefEqProofs only [EN, lsub, lget, stL, beq_self_eq_true, ne_eq, if_true, if_false, List.cons_append, List.nil_append, Option.isNone_some, Option.isNone_none]))
        (first | exact St.nil (by first | assumption | exact St.tick (by assumption) | exact St.tick (St.tick (by assumption))) | exact ⟨rfl, St.nil (by first | assumption | exact St.tick (by assumption) | exact St.tick (St.tick (by assumption)))⟩)
      · rw [q]
        have fs : decide ((⟨#[]⟩ : ByteArray) = ⟨#[120]⟩) = false := by decide
        have ql : decide ((R.cmd.bs.length : Int) = 0) = true := by rw [q]; rfl
        (repeat (first | (first | (with_reducible (first | refine w1 fun _ _ => ?_ | refine w3 fun _ _ _ => ?_ | refine w4 fun _ _ _ => ?_ | refine w11 fun _ _ _ => ?_ | refine stb_n ?_)) | ((with_reducible refine w2 ?_); try simp -implicitDefEqProofs only [EN, lsub, lget, stL, beq_self_eq_true, ne_eq, if_true, if_false, List.cons_append, List.nil_append, Option.isNone_some, Option.isNone_none, q, fs, ql]; intro _ _) | ((with_reducible (first | refine w5 ?_ ?_ | refine w6 ?_ ?_ | refine w7 ?_ ?_)); simp; refine ⟨_, rfl, ?_⟩) | ((with_reducible (first | refine w8 ?_ ?_ ?_ | refine w9 ?_ ?_ ?_ | refine w10 ?_ ?_ ?_)); exact rfl; simp) | ((with_reducible refine w12 ?_ ?_ ?_ fun _ _ => ?_); simp; simp; simp [oneC]) | ((with_reducible (first | refine eqs ?_ | refine nes ?_)); refine ⟨_, rfl, ?_⟩) | ((refine okF_i (bldP_eq rfl) ?_); try simp only [BLS, List.take_succ_cons, List.take_zero, List.drop_succ_cons, List.drop_zero, List.cons_append, List.nil_append, Nat.reduceAdd])) | simp -implicitDefEqProofs only [EN, lsub, lget, stL, beq_self_eq_true, ne_eq, if_true, if_false, List.cons_append, List.nil_append, Option.isNone_some, Option.isNone_none, q, fs, ql]))
        (first | exact St.nil (by first | assumption | exact St.tick (by assumption) | exact St.tick (St.tick (by assumption))) | exact ⟨rfl, St.nil (by first | assumption | exact St.tick (by assumption) | exact St.tick (St.tick (by assumption)))⟩)
    · have f2 := decide_eq_false c2
      (repeat (first | (first | (with_reducible (first | refine w1 fun _ _ => ?_ | refine w3 fun _ _ _ => ?_ | refine w4 fun _ _ _ => ?_ | refine w11 fun _ _ _ => ?_ | refine stb_n ?_)) | ((with_reducible refine w2 ?_); try simp -implicitDefEqProofs only [EN, lsub, lget, stL, beq_self_eq_true, ne_eq, if_true, if_false, List.cons_append, List.nil_append, Option.isNone_some, Option.isNone_none, f2]; intro _ _) | ((with_reducible (first | refine w5 ?_ ?_ | refine w6 ?_ ?_ | refine w7 ?_ ?_)); simp; refine ⟨_, rfl, ?_⟩) | ((with_reducible (first | refine w8 ?_ ?_ ?_ | refine w9 ?_ ?_ ?_ | refine w10 ?_ ?_ ?_)); exact rfl; simp) | ((with_reducible refine w12 ?_ ?_ ?_ fun _ _ => ?_); simp; simp; simp [oneC]) | ((with_reducible (first | refine eqs ?_ | refine nes ?_)); refine ⟨_, rfl, ?_⟩) | ((refine okF_i (bldP_eq rfl) ?_); try simp only [BLS, List.take_succ_cons, List.take_zero, List.drop_succ_cons, List.drop_zero, List.cons_append, List.nil_append, Nat.reduceAdd])) | simp -implicitDefEqProofs only [EN, lsub, lget, stL, beq_self_eq_true, ne_eq, if_true, if_false, List.cons_append, List.nil_append, Option.isNone_some, Option.isNone_none, f2]))
      (first | exact St.nil (by first | assumption | exact St.tick (by assumption) | exact St.tick (St.tick (by assumption))) | exact ⟨rfl, St.nil (by first | assumption | exact St.tick (by assumption) | exact St.tick (St.tick (by assumption)))⟩)
end Go.Proofs.Ytpihhlaiofkmdaa
