/- Instances, plainly: what a table says to a message. -/
import Derived.Test.YtpihhlaiofkmdaaCBal
import Derived.Test.YtpihhlaiofkmdaaMp3
namespace Go.Proofs.Ytpihhlaiofkmdaa
set_option linter.unusedVariables false
set_option linter.unusedSimpArgs false
open Go Go.Eng

structure Rec (β : Type) where
  st : Int
  cmd : β
  seq : Int
  deps : P7 Int
  bal : Int × Int
  ab : Int × Int
structure Msg (β : Type) where
  kind : Int
  dot : Dot
  bal : Int × Int
  cmd : β
  seq : Int
  deps : P7 Int
structure Ans (β : Type) where
  ok : Bool
  bal : Int × Int
  rc : Rec β
abbrev Bs := List UInt8
section
variable {β γ : Type}
def Rec.map (f : β → γ) (r : Rec β) : Rec γ := ⟨r.st, f r.cmd, r.seq, r.deps, r.bal, r.ab⟩
def Ans.map (f : β → γ) (a : Ans β) : Ans γ := ⟨a.ok, a.bal, a.rc.map f⟩
def Msg.map (f : β → γ) (r : Msg β) : Msg γ := ⟨r.kind, r.dot, r.bal, f r.cmd, r.seq, r.deps⟩
end
abbrev nilS : BSl := ⟨none, 0, []⟩
def recZ : Rec Bs := ⟨0, [], 0, P7.all 0, (0, 0), (0, 0)⟩
def ansZ : Ans Bs := ⟨false, (0, 0), recZ⟩
def Dot.okI (d : Dot) : Bool := decide (0 ≤ d.rep ∧ d.rep < 7 ∧ 1 ≤ d.n ∧ d.n ≤ 1000)
def depsOk (v : P7 Int) : Bool := v.list.all fun n => decide (0 ≤ n ∧ n ≤ 1000)
def contentOk (len : Nat) (seq : Int) (deps : P7 Int) : Bool := depsOk deps && decide (0 ≤ seq ∧ seq ≤ 1099511627776 ∧ (len : Int) ≤ 300)
def Msg.may (m : Msg Bs) : Bool := decide (1 ≤ m.kind ∧ m.kind ≤ 4) && m.dot.okI && goodB m.bal.1 m.bal.2 && contentOk m.cmd.length m.seq m.deps && (decide (m.kind ≠ 4) || (decide (m.cmd.length = 0) && decide (m.seq = 0) && decide (m.deps = P7.all 0)))
theorem Msg.may_iff {m : Msg Bs} (h : m.may = true) : (1 ≤ m.kind ∧ m.kind ≤ 4) ∧ m.dot.okI = true ∧ goodB m.bal.1 m.bal.2 = true ∧ depsOk m.deps = true ∧ 0 ≤ m.seq ∧ m.seq ≤ 1099511627776 ∧ m.cmd.length ≤ 300 := by
  unfold Msg.may contentOk at h
  simp only [Bool.and_eq_true, decide_eq_true_eq] at h
  obtain ⟨⟨⟨⟨h1, h2⟩, h3⟩, h4, h5, h6, h7⟩, _⟩ := h
  exact ⟨h1, h2, h3, h4, h5, h6, by omega⟩
def imax (a b : Int) : Int := if a < b then b else a
theorem max2m {k : IntKind} {a b : Int} : foldP max2P [.int k a, .int k b] = some (.int k (imax a b)) := rfl
abbrev Tbl := List (Dot × Rec Bs)
def wouldStep (d : Dot) (acc : Int × P7 Int) (q : Dot × Rec Bs) : Int × P7 Int :=
  if q.1 = d ∨ q.2.st = 0 then acc else (imax acc.1 (IntKind.i64.wrap (q.2.seq + 1)), acc.2.set q.1.rep.toNat (imax (acc.2.get q.1.rep.toNat) q.1.n))
def would (T : Tbl) (d : Dot) : Int × P7 Int := T.foldl (wouldStep d) (0, P7.all 0)
def vmerge (a b : P7 Int) : P7 Int := a.zip imax b
def most2 (a b : Int × Int) : Int × Int := mostB [a, b]
def old (m : Msg Bs) (r : Rec Bs) : Option Bool :=
  if r.st = 3 then some (decide (m.kind = 3))
  else if m.kind = 3 then none
  else if cmpB m.bal.1 m.bal.2 r.bal.1 r.bal.2 < 0 ∨ (m.kind = 1 ∧ r.st = 2) then some false
  else if m.kind = 1 ∧ r.st = 1 ∧ r.ab = m.bal then some true
  else none
section
variable {m : Msg Bs} {r : Rec Bs}
theorem old_3 (h : r.st = 3) : old m r = some (decide (m.kind = 3)) := if_pos h
theorem old_c (h : ¬ r.st = 3) (h1 : m.kind = 3) : old m r = none := by unfold old; rw [if_neg h, if_pos h1]
theorem old_f (h : ¬ r.st = 3) (h1 : ¬ m.kind = 3) (h2 : cmpB m.bal.1 m.bal.2 r.bal.1 r.bal.2 < 0 ∨ (m.kind = 1 ∧ r.st = 2)) : old m r = some false := by unfold old; rw [if_neg h, if_neg h1, if_pos h2]
theorem old_t (h : ¬ r.st = 3) (h1 : ¬ m.kind = 3) (h2 : ¬ (cmpB m.bal.1 m.bal.2 r.bal.1 r.bal.2 < 0 ∨ (m.kind = 1 ∧ r.st = 2))) (h3 : m.kind = 1 ∧ r.st = 1 ∧ r.ab = m.bal) : old m r = some true := by
  unfold old; rw [if_neg h, if_neg h1, if_neg h2, if_pos h3]
theorem old_n (h : ¬ r.st = 3) (h1 : ¬ m.kind = 3) (h2 : ¬ (cmpB m.bal.1 m.bal.2 r.bal.1 r.bal.2 < 0 ∨ (m.kind = 1 ∧ r.st = 2))) (h3 : ¬ (m.kind = 1 ∧ r.st = 1 ∧ r.ab = m.bal)) : old m r = none := by
  unfold old; rw [if_neg h, if_neg h1, if_neg h2, if_neg h3]
end
def putRec (T : Tbl) (m : Msg Bs) (r : Rec Bs) : Rec Bs :=
  if m.kind = 1 then ⟨1, m.cmd, imax m.seq (would T m.dot).1, vmerge m.deps (would T m.dot).2, m.bal, m.bal⟩
  else if m.kind = 2 then ⟨2, m.cmd, m.seq, m.deps, m.bal, m.bal⟩
  else if m.kind = 3 then ⟨3, m.cmd, m.seq, m.deps, most2 m.bal r.bal, most2 m.bal r.ab⟩
  else { r with bal := m.bal }
def trec (T : Tbl) (d : Dot) : Rec Bs := (mget T d).getD recZ
def tdo (T : Tbl) (m : Msg Bs) : Tbl × Ans Bs × Int :=
  if m.may = false then (T, ansZ, 1)
  else match old m (trec T m.dot) with
    | some ok => (T, ⟨ok, (trec T m.dot).bal, trec T m.dot⟩, 0)
    | none => (mput T m.dot (putRec T m (trec T m.dot)), ⟨true, (putRec T m (trec T m.dot)).bal, putRec T m (trec T m.dot)⟩, 0)
/-- what a table's records may be -/
def Tok (T : Tbl) : Prop := ∀ q ∈ T, q.1.okI = true ∧ q.2.cmd.length ≤ 300

theorem mgetT {T : Tbl} {d : Dot} {r : Rec Bs} (h : mget T d = some r) : (d, r) ∈ T := by
  induction T with
  | nil => cases h
  | cons p T ih =>
    by_cases e : p.1 = d
    · simp only [mget, if_pos e, Option.some.injEq] at h
      subst h e
      simp
    · simp only [mget, if_neg e] at h
      exact List.mem_cons_of_mem _ (ih h)
theorem Tok.trec {T : Tbl} (h : Tok T) (d : Dot) : (Go.Proofs.Ytpihhlaiofkmdaa.trec T d).cmd.length ≤ 300 := by
  unfold Go.Proofs.Ytpihhlaiofkmdaa.trec
  cases hm : mget T d with
  | none => exact Nat.zero_le _
  | some r => exact (h _ (mgetT hm)).2
theorem tdo_len {T : Tbl} (h : Tok T) (m : Msg Bs) : (tdo T m).2.1.rc.cmd.length ≤ 300 := by
  unfold tdo
  by_cases hm : m.may = false
  · rw [if_pos hm]; exact Nat.zero_le _
  · rw [if_neg hm]
    have hm : m.may = true := by simpa using hm
    cases old m (trec T m.dot) with
    | some ok => exact h.trec _
    | none =>
      have h1 := (Msg.may_iff hm).2.2.2.2.2.2
      have h2 := h.trec m.dot
      simp only [putRec]
      repeat' split
      all_goals assumption
theorem wouldStep_comm (d : Dot) (acc : Int × P7 Int) (p q : Dot × Rec Bs) : wouldStep d (wouldStep d acc p) q = wouldStep d (wouldStep d acc q) p := by
  unfold wouldStep
  by_cases hp : p.1 = d ∨ p.2.st = 0
  · by_cases hq : q.1 = d ∨ q.2.st = 0
    · simp only [if_pos hp, if_pos hq]
    · simp only [if_pos hp, if_neg hq]
  · by_cases hq : q.1 = d ∨ q.2.st = 0
    · simp only [if_neg hp, if_pos hq]
    · simp only [if_neg hp, if_neg hq]
      generalize p.1.rep.toNat = i
      generalize q.1.rep.toNat = j
      refine Prod.ext ?_ (P7.ext7 fun k hk => ?_)
      · simp only [imax]; repeat' split
        all_goals omega
      · by_cases hi : i < 7
        · by_cases hj : j < 7
          · simp only [P7.get_set _ _ _ _ hk, P7.get_set _ _ _ _ hi, P7.get_set _ _ _ _ hj]
            by_cases h1 : k = i
            · subst h1
              by_cases h2 : k = j
              · subst h2
                simp only [if_true, imax]
                repeat' split
                all_goals omega
              · simp [h2]
            · by_cases h2 : k = j
              · subst h2; simp [h1, Ne.symm h1]
              · simp [h1, h2]
          · have e : ∀ (v : P7 Int) x, v.set j x = v := fun v x => P7.ext7 fun k hk => by rw [P7.get_set _ _ _ _ hk, if_neg (by omega)]
            simp only [e]
        · have e : ∀ (v : P7 Int) x, v.set i x = v := fun v x => P7.ext7 fun k hk => by rw [P7.get_set _ _ _ _ hk, if_neg (by omega)]
          simp only [e]
theorem would_pick (d : Dot) (acc : Int × P7 Int) (A B : Tbl) (x : Dot × Rec Bs) : (A ++ x :: B).foldl (wouldStep d) acc = (A ++ B).foldl (wouldStep d) (wouldStep d acc x) := by
  induction A generalizing acc with
  | nil => rfl
  | cons a A ih => simp only [List.cons_append, List.foldl_cons, ih, wouldStep_comm d acc a x]
end Go.Proofs.Ytpihhlaiofkmdaa
