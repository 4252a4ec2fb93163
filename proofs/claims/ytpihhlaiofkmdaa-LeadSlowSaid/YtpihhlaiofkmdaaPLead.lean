/- Leaders, plainly. -/
import Derived.Test.YtpihhlaiofkmdaaPInst
namespace Go.Proofs.Ytpihhlaiofkmdaa
set_option linter.unusedVariables false
set_option linter.unusedSimpArgs false
open Go Go.Eng

structure LD where
  n : Int
  rep : Int
  m : Msg Bs
  phase : Int
  fast : Bool
  apart : Bool
  recs : P7 (Option (Rec Bs))
  own : Rec Bs
def LD.dec (l : LD) (T : Tbl) (r : Rec Bs) (fast : Bool) : LD × Tbl :=
  ({ l with phase := 3, fast := fast, m := ⟨3, l.m.dot, l.m.bal, r.cmd, r.seq, r.deps⟩ }, (tdo T ⟨3, l.m.dot, l.m.bal, r.cmd, r.seq, r.deps⟩).1)
def LD.begin (l : LD) (T : Tbl) (phase : Int) (m : Msg Bs) : LD × Tbl :=
  let a := (tdo T m).2.1
  let l1 : LD := { l with phase := phase, m := m, apart := false, recs := P7.all none }
  if a.rc.st = 3 then l1.dec (tdo T m).1 a.rc false
  else if a.ok = false then ({ l1 with phase := 5 }, (tdo T m).1)
  else ({ l1 with own := a.rc, recs := l1.recs.set l.rep.toNat (some a.rc), m := if phase = 1 then { m with seq := a.rc.seq, deps := a.rc.deps } else m }, (tdo T m).1)
section
variable {l : LD} {T : Tbl} {ph : Int} {m : Msg Bs} {a : Ans Bs}
theorem LD.begin_3 (ha : (tdo T m).2.1 = a) (h : a.rc.st = 3) : l.begin T ph m = LD.dec { l with phase := ph, m := m, apart := false, recs := P7.all none } (tdo T m).1 a.rc false := by
  subst ha; unfold LD.begin; exact if_pos h
theorem LD.begin_f (ha : (tdo T m).2.1 = a) (h : ¬ a.rc.st = 3) (h1 : a.ok = false) : l.begin T ph m = ({ l with phase := 5, m := m, apart := false, recs := P7.all none }, (tdo T m).1) := by
  subst ha; unfold LD.begin; exact (if_neg h).trans (if_pos h1)
theorem LD.begin_t (ha : (tdo T m).2.1 = a) (h : ¬ a.rc.st = 3) (h1 : a.ok = true) :
    l.begin T ph m = ({ l with phase := ph, m := if ph = 1 then { m with seq := a.rc.seq, deps := a.rc.deps } else m, apart := false, recs := (P7.all none).set l.rep.toNat (some a.rc), own := a.rc }, (tdo T m).1) := by
  subst ha; unfold LD.begin; exact (if_neg h).trans (if_neg (by rw [h1]; simp))
end
def cnt {α : Type} (l : List (Option α)) : Int := ((l.filter Option.isSome).length : Int)
def LD.count (l : LD) : Int := cnt l.recs.list
def LD.maj (l : LD) : Bool := Decidable.decide (l.n.tdiv 2 + 1 ≤ l.count)
def LD.fits (l : LD) (r : Rec Bs) : Bool :=
  if l.phase = 1 then Decidable.decide (r.st = 1) && Decidable.decide (r.ab = l.m.bal)
  else if l.phase = 2 then Decidable.decide (r.st = 2) && Decidable.decide (r.ab = l.m.bal)
  else true
def accStep (m : Msg Bs) (r : Option (Rec Bs)) : Msg Bs := match r with
  | some r => { m with seq := imax m.seq r.seq, deps := vmerge m.deps r.deps }
  | none => m
def LD.accept (l : LD) (T : Tbl) : LD × Tbl := l.begin T 2 (l.recs.list.foldl accStep { l.m with kind := 2 })
def LD.heard (l : LD) (T : Tbl) : LD × Tbl :=
  if l.count = l.n ∧ l.apart = false ∧ l.m.bal.1 = 0 then l.dec T l.own true
  else if l.maj = true ∧ (l.apart = true ∨ 0 < l.m.bal.1) then l.accept T
  else (l, T)
def grStep {α : Type} (f : α → Rec Bs) (st : Int) (best : Option α) (r : Option α) : Option α := match r with
  | some r => if (f r).st = st ∧ (match best with | none => true | some b => Decidable.decide (0 < cmpB (f r).ab.1 (f r).ab.2 (f b).ab.1 (f b).ab.2)) = true then some r else best
  | none => best
theorem grStep_or {α : Type} (f : α → Rec Bs) (st : Int) (b : Option α) (y : α) : grStep f st b (some y) = some y ∨ grStep f st b (some y) = b := by
  unfold grStep
  simp only
  repeat' split
  all_goals first | exact .inl rfl | exact .inr rfl
def greatest {α : Type} (f : α → Rec Bs) (st : Int) (l : List (Option α)) : Option α := l.foldl (grStep f st) none
def likeR (own r : Rec Bs) : Bool := Decidable.decide (r.st = 1) && Decidable.decide (r.ab.1 = 0) && Decidable.decide (r.seq = own.seq) && Decidable.decide (r.deps = own.deps)
def LD.alike (l : LD) : Bool := l.recs.list.all fun r => match r with | some r => likeR l.own r | none => true
def firstR {α : Type} : List (Option α) → Option α
  | [] => none
  | some r :: _ => some r
  | none :: l => firstR l
def LD.withR (l : LD) (T : Tbl) (r : Rec Bs) : LD × Tbl := l.begin T 2 { l.m with kind := 2, cmd := r.cmd, seq := r.seq, deps := r.deps }
def LD.prepared (l : LD) (T : Tbl) : LD × Tbl :=
  match greatest id 2 l.recs.list with
  | some b => l.withR T b
  | none =>
    if l.alike then l.withR T ((firstR l.recs.list).getD recZ)
    else match greatest id 1 l.recs.list with
      | some b => l.begin T 1 { l.m with kind := 1, cmd := b.cmd }
      | none => l.begin T 2 { l.m with kind := 2, seq := (would T l.m.dot).1, deps := (would T l.m.dot).2 }
def LD.got (l : LD) (T : Tbl) (fr : Int) (a : Ans Bs) : (LD × Tbl) × Bool :=
  if l.phase = 3 ∨ l.phase = 5 ∨ fr < 0 ∨ l.n ≤ fr ∨ fr = l.rep ∨ (l.recs.get fr.toNat).isSome = true then ((l, T), false)
  else if a.ok = true ∧ (a.bal ≠ l.m.bal ∨ l.fits a.rc = false) then ((l, T), false)
  else if a.rc.st = 3 then (l.dec T a.rc false, true)
  else if a.ok = false then (if cmpB a.bal.1 a.bal.2 l.m.bal.1 l.m.bal.2 ≤ 0 then ((l, T), false) else (({ l with phase := 5 }, T), true))
  else
    let l1 : LD := { l with recs := l.recs.set fr.toNat (some a.rc) }
    if l.phase = 1 then ((LD.heard { l1 with apart := l.apart || Decidable.decide (a.rc.seq ≠ l.own.seq) || Decidable.decide (a.rc.deps ≠ l.own.deps) } T), true)
    else if l.phase = 2 then ((if l1.maj then l1.dec T ⟨0, l.m.cmd, l.m.seq, l.m.deps, (0, 0), (0, 0)⟩ false else (l1, T)), true)
    else if l.phase = 4 then ((if l1.maj then l1.prepared T else (l1, T)), true)
    else ((l1, T), true)
def LD.slow (l : LD) (T : Tbl) : (LD × Tbl) × Bool := if l.phase ≠ 1 ∨ l.maj = false then ((l, T), false) else (l.accept T, true)
def msgZ : Msg Bs := ⟨0, ⟨0, 0⟩, (0, 0), [], 0, P7.all 0⟩
def LD.msg (l : LD) : Msg Bs := if l.phase = 5 then msgZ else l.m
def goodL (n rep : Int) : Bool := decide (3 ≤ n ∧ n ≤ 7 ∧ 0 ≤ rep ∧ rep < n)
def ldZ (n rep : Int) : LD := ⟨n, rep, msgZ, 0, false, false, P7.all none, recZ⟩
def propose (n rep : Int) (d : Dot) (cmd : Bs) (T : Tbl) : (LD × Tbl) ⊕ Int :=
  let m : Msg Bs := ⟨1, d, (0, rep), cmd, 0, P7.all 0⟩
  if goodL n rep = false ∨ d.rep ≠ rep ∨ m.may = false then .inr 1
  else if 0 < (trec T d).st ∨ (trec T d).bal ≠ (0, 0) then .inr 5
  else .inl ((ldZ n rep).begin T 1 m)
def recover (n rep : Int) (d : Dot) (T : Tbl) : (LD × Tbl) ⊕ Int :=
  let m : Msg Bs := ⟨4, d, (0, 0), [], 0, P7.all 0⟩
  if goodL n rep = false ∨ n ≤ d.rep ∨ m.may = false then .inr 1
  else if (trec T d).st = 3 then .inr 5
  else if (nextB (trec T d).bal.1 (trec T d).bal.2 rep).2 ≠ 0 then .inr (nextB (trec T d).bal.1 (trec T d).bal.2 rep).2
  else .inl ((ldZ n rep).begin T 4 { m with bal := (nextB (trec T d).bal.1 (trec T d).bal.2 rep).1 })
end Go.Proofs.Ytpihhlaiofkmdaa
