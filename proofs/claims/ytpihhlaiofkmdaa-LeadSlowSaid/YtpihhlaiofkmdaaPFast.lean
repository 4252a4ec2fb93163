/- LeadFast, plainly. -/
import Derived.Test.YtpihhlaiofkmdaaCLead8
namespace Go.Proofs.Ytpihhlaiofkmdaa
set_option linter.unusedVariables false
set_option linter.unusedSimpArgs false
open Go Go.Eng

section
variable (n rep num : Int) (cmd : Bs)
def fm : Msg Bs := ⟨1, ⟨rep, num⟩, (0, rep), cmd, 0, P7.all 0⟩
def fr0 : Rec Bs := ⟨1, cmd, 0, P7.all 0, (0, rep), (0, rep)⟩
def fT : Tbl := [(⟨rep, num⟩, fr0 rep cmd)]
def fa : Ans Bs := ⟨true, (0, rep), fr0 rep cmd⟩
def fp (i : Nat) : P7 (Option (Rec Bs)) := P7.of fun j => if j = rep.toNat ∨ j < i then some (fr0 rep cmd) else none
def fU (i : Nat) : LD := ⟨n, rep, fm rep num cmd, 1, false, false, fp rep cmd i, fr0 rep cmd⟩
def fm3 : Msg Bs := ⟨3, ⟨rep, num⟩, (0, rep), cmd, 0, P7.all 0⟩
def fDone (i : Nat) : Prop := ∀ j : Nat, (j : Int) < n → j = rep.toNat ∨ j < i
structure FIn : Prop where
  n3 : 3 ≤ n
  n7 : n ≤ 7
  r0 : 0 ≤ rep
  rn : rep < n
  m1 : 1 ≤ num
  m2 : num ≤ 1000
  len : cmd.length ≤ 300
variable {n rep num cmd}
theorem fast_may (h : FIn n rep num cmd) (k : Int) (hk : k = 1 ∨ k = 3) : (Msg.may ⟨k, ⟨rep, num⟩, (0, rep), cmd, 0, P7.all 0⟩) = true := by
  obtain ⟨h1, h2, h3, h4, h5, h6, h7⟩ := h
  unfold Msg.may Dot.okI goodB contentOk
  have hd : depsOk (P7.all 0) = true := by decide
  have hc : (cmd.length : Int) ≤ 300 := by omega
  rcases hk with rfl | rfl
  all_goals
    simp only [hd, Bool.true_and, Bool.and_eq_true, decide_eq_true_eq, Bool.or_eq_true]
    refine ⟨⟨⟨⟨by omega, by omega⟩, by omega⟩, by omega⟩, .inl (by omega)⟩
theorem fast_do (h : FIn n rep num cmd) : tdo [] (fm rep num cmd) = (fT rep num cmd, fa rep cmd, 0) := by
  unfold tdo
  rw [if_neg (by rw [show (fm rep num cmd).may = true from fast_may h 1 (.inl rfl)]; simp)]
  have ho : old (fm rep num cmd) (trec [] (fm rep num cmd).dot) = none := by
    refine old_n (show ¬ (0 : Int) = 3 by decide) (show ¬ (1 : Int) = 3 by decide) ?_ (fun h => absurd (show (0 : Int) = 1 from h.2.1) (by decide))
    rintro (h1 | h1)
    · have h1 : cmpB 0 rep 0 0 < 0 := h1
      have h0 := h.r0
      have e : cmpB 0 rep 0 0 = cmpI rep 0 := by
        unfold cmpB orI
        rw [show cmpI 0 0 = 0 from rfl, if_neg (by simp)]
        unfold orI
        split
        · rfl
        · rename_i h; simp at h; rw [h]; rfl
      rw [e] at h1
      unfold cmpI at h1
      rw [if_neg (by omega)] at h1
      split at h1 <;> omega
    · exact absurd (show (0 : Int) = 2 from h1.2) (by decide)
  rw [ho]
  rfl
theorem fast_propose (h : FIn n rep num cmd) : propose n rep ⟨rep, num⟩ cmd [] = .inl (fU n rep num cmd 0, fT rep num cmd) := by
  have hg : goodL n rep = true := by unfold goodL; simp; have := h.n3; have := h.n7; have := h.r0; have := h.rn; omega
  unfold propose
  rw [if_neg, if_neg]
  · have hb := LD.begin_t (l := ldZ n rep) (ph := 1) (congrArg (fun x => x.2.1) (fast_do h)) (show ¬ (1 : Int) = 3 by decide) rfl
    rw [show (⟨1, ⟨rep, num⟩, (0, rep), cmd, 0, P7.all 0⟩ : Msg Bs) = fm rep num cmd from rfl, hb, fast_do h]
    congr 2
    unfold fU
    congr 1
    unfold fp
    refine P7.ext7 fun j hj => ?_
    rw [P7.get_set _ _ _ _ hj, P7.get_of _ hj, P7.get_all]
    by_cases hj : j = rep.toNat
    · rw [if_pos (show j = (ldZ n rep).rep.toNat from hj), if_pos (.inl hj)]; rfl
    · rw [if_neg (show ¬ j = (ldZ n rep).rep.toNat from hj), if_neg (by rintro (h | h); exact hj h; omega)]
  · unfold trec; simp [mget, recZ]
  · rintro (h1 | h1 | h1)
    · rw [hg] at h1; cases h1
    · exact h1 rfl
    · rw [fast_may h 1 (.inl rfl)] at h1; cases h1
theorem fp_set {i : Nat} (hi : i < 7) : (fp rep cmd i).set i (some (fr0 rep cmd)) = fp rep cmd (i + 1) := by
  refine P7.ext7 fun j hj => ?_
  unfold fp
  rw [P7.get_set _ _ _ _ hj, P7.get_of _ hj, P7.get_of _ hj]
  by_cases h1 : j = i
  · rw [if_pos h1, if_pos (.inr (by omega))]
  · rw [if_neg h1]
    by_cases h2 : j = rep.toNat ∨ j < i
    · rw [if_pos h2, if_pos (h2.imp id fun h => by omega)]
    · rw [if_neg h2, if_neg (by omega)]
theorem fp_rep : fp rep cmd (rep.toNat + 1) = fp rep cmd rep.toNat := by
  refine P7.ext7 fun j hj => ?_
  unfold fp
  rw [P7.get_of _ hj, P7.get_of _ hj]
  by_cases h2 : j = rep.toNat ∨ j < rep.toNat
  · rw [if_pos h2, if_pos (h2.imp id fun h => by omega)]
  · rw [if_neg h2, if_neg (by omega)]
theorem cnt_tab : ∀ r, r < 7 → ∀ i, i ≤ 7 → cnt (P7.of fun j => if j = r ∨ j < i then some () else none).list = if r < i then (i : Int) else i + 1 := by decide
theorem fp_cnt {i : Nat} (hr : rep.toNat < 7) (hi : i ≤ 7) : cnt (fp rep cmd i).list = if rep.toNat < i then (i : Int) else i + 1 := by
  rw [← cnt_tab _ hr i hi, ← cnt_map (fun _ : Unit => fr0 rep cmd)]
  congr 1
  unfold fp P7.of P7.list
  simp only [List.map_cons, List.map_nil, List.cons.injEq, and_true]
  refine ⟨?_, ?_, ?_, ?_, ?_, ?_, ?_⟩ <;> split <;> rfl
/-- decided -/
def fD (i : Nat) : LD := ⟨n, rep, fm3 rep num cmd, 3, true, false, fp rep cmd i, fr0 rep cmd⟩
def fT3 (rep num : Int) (cmd : Bs) : Tbl := (tdo (fT rep num cmd) (fm3 rep num cmd)).1
theorem fast_got (h : FIn n rep num cmd) {i : Nat} (hi : (i : Int) < n) (hr : (i : Int) ≠ rep) :
    (fU n rep num cmd i).got (fT rep num cmd) i (fa rep cmd) = (if (if rep.toNat < i + 1 then ((i + 1 : Nat) : Int) else ((i + 1 : Nat) : Int) + 1) = n then (fD (n := n) (rep := rep) (num := num) (cmd := cmd) (i + 1), fT3 rep num cmd) else (fU n rep num cmd (i + 1), fT rep num cmd), true) := by
  have h7 := h.n7
  have h0 := h.r0
  have h3 := h.rn
  have hr' : i ≠ rep.toNat := by omega
  have n1 : ¬ ((fU n rep num cmd i).phase = 3 ∨ (fU n rep num cmd i).phase = 5 ∨ (i : Int) < 0 ∨ (fU n rep num cmd i).n ≤ i ∨ (i : Int) = (fU n rep num cmd i).rep ∨ ((fU n rep num cmd i).recs.get (i : Int).toNat).isSome = true) := by
    rintro (h | h | h | h | h | h)
    · cases h
    · cases h
    · omega
    · have : n ≤ i := h; omega
    · exact hr h
    · rw [Int.toNat_natCast, show (fU n rep num cmd i).recs = fp rep cmd i from rfl, fp, P7.get_of _ (by omega), if_neg (by omega)] at h
      cases h
  unfold LD.got
  rw [if_neg n1, if_neg (by rintro ⟨_, h | h⟩; exact h rfl; unfold LD.fits at h; simp [fU, fa, fr0, fm] at h), if_neg (show ¬ (fa rep cmd).rc.st = 3 from (show ¬ (1 : Int) = 3 by decide)), if_neg (by simp [fa])]
  rw [if_pos (show (fU n rep num cmd i).phase = 1 from rfl)]
  congr 1
  have hs : ({ fU n rep num cmd i with recs := (fU n rep num cmd i).recs.set (i : Int).toNat (some (fa rep cmd).rc), apart := (fU n rep num cmd i).apart || decide ((fa rep cmd).rc.seq ≠ (fU n rep num cmd i).own.seq) || decide ((fa rep cmd).rc.deps ≠ (fU n rep num cmd i).own.deps) } : LD) = fU n rep num cmd (i + 1) := by
    rw [Int.toNat_natCast, show (fU n rep num cmd i).recs.set i (some (fa rep cmd).rc) = fp rep cmd (i + 1) from fp_set (by omega)]
    simp [fU, fa, fr0]
  simp only
  rw [hs]
  unfold LD.heard
  have hc : (fU n rep num cmd (i + 1)).count = if rep.toNat < i + 1 then ((i + 1 : Nat) : Int) else ((i + 1 : Nat) : Int) + 1 := fp_cnt (by omega) (by omega)
  rw [hc]
  by_cases hd : (if rep.toNat < i + 1 then ((i + 1 : Nat) : Int) else ((i + 1 : Nat) : Int) + 1) = n
  · rw [if_pos hd, if_pos ⟨hd, rfl, rfl⟩]
    rfl
  · rw [if_neg hd, if_neg (fun h => hd h.1), if_neg (by rintro ⟨_, h | h⟩; cases h; exact absurd (show (0 : Int) < 0 from h) (by decide))]
theorem fast_again (h : FIn n rep num cmd) {i : Nat} (l : LD) (T : Tbl) (a : Ans Bs) (hl : l.phase = 3 ∨ l = fU n rep num cmd (i + 1)) (hi : (i : Int) < n) : l.got T i a = ((l, T), false) := by
  unfold LD.got
  refine if_pos ?_
  rcases hl with hl | rfl
  · exact .inl hl
  · refine .inr (.inr (.inr (.inr (.inr ?_))))
    have := h.n7
    rw [Int.toNat_natCast, show (fU n rep num cmd (i + 1)).recs = fp rep cmd (i + 1) from rfl, fp, P7.get_of _ (by omega), if_pos (.inr (by omega))]
    rfl
theorem fast_rec (h : FIn n rep num cmd) : (trec (fT3 rep num cmd) ⟨rep, num⟩).st = 3 ∧ (trec (fT3 rep num cmd) ⟨rep, num⟩).cmd = cmd ∧ (trec (fT3 rep num cmd) ⟨rep, num⟩).seq = 0 ∧ (trec (fT3 rep num cmd) ⟨rep, num⟩).deps = P7.all 0 := by
  have e : fT3 rep num cmd = [(⟨rep, num⟩, ⟨3, cmd, 0, P7.all 0, most2 (0, rep) (0, rep), most2 (0, rep) (0, rep)⟩)] := by
    unfold fT3 tdo
    rw [if_neg (by rw [show (fm3 rep num cmd).may = true from fast_may h 3 (.inr rfl)]; simp)]
    have ht : trec (fT rep num cmd) (fm3 rep num cmd).dot = fr0 rep cmd := by unfold trec fT fm3; simp [mget]
    rw [ht, old_c (show ¬ (1 : Int) = 3 by decide) rfl]
    simp only
    unfold fT
    simp [mput, fm3, putRec, fr0]
  rw [e]
  unfold trec
  simp [mget]
end
end Go.Proofs.Ytpihhlaiofkmdaa
