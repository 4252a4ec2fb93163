/- Texts of the claim PaxStays, joined: Eng, Eng2, Eng3, Eng4, Eng5, Sep, Rf, Base, Shw. -/
import Derived.Orders
import Derived.OrdersHeld
import Derived.Laws.Sem
import Derived.Laws.Entries
import Derived.KernelRfl
import Derived.Below
import Derived.RangeFuncLeaves
import Derived.RangeFuncSeq
import Derived.OwnWalkIn
import Derived.LoopNIn
import Derived.Test.YtfhacbhgmnhmlaaGreatProg
namespace Go.Eng
set_option linter.unusedVariables false
set_option linter.unusedSimpArgs false
open Go

/-! ### frames -/
abbrev Frm := Nat → Option Value
def emp : Frm := fun _ => none
abbrev upd (f : Frm) (d : Nat) (v : Value) : Frm := fun i => bif Nat.beq i d then some v else f i
abbrev upo (f : Frm) (d : Option Nat) (v : Value) : Frm := match d with | some d => upd f d v | none => f
def nthv (s : List Value) (k : Nat) : Value := s.getD k undef
def ofs : List Nat → Nat → List Value → Frm
  | [], _, _ => emp
  | d :: ds, k, s => fun i => bif Nat.beq i d then some (nthv s k) else ofs ds (k + 1) s i
def evs (f : Frm) : List Nat → Option (List Value)
  | [] => some []
  | d :: ds => match f d with
    | none => none
    | some v => match evs f ds with
      | none => none
      | some vs => some (v :: vs)
def ev (f : Frm) : Operand → Option Value
  | .tmp t => f t
  | .const v => some v
  | .global g => some (.pointer (some ⟨g, 0, none⟩))
  | .func g => some (.func (.func g) #[] #[])
def evl (f : Frm) : List Operand → Option (List Value)
  | [] => some []
  | x :: xs => match ev f x with
    | none => none
    | some v => match evl f xs with
      | none => none
      | some vs => some (v :: vs)
/-- parts of a literal: (place, operand) -/
def evp (f : Frm) : List (Nat × Operand) → Option (List (Nat × Value))
  | [] => some []
  | (i, x) :: xs => match ev f x with
    | none => none
    | some v => match evp f xs with
      | none => none
      | some vs => some ((i, v) :: vs)
def evo (f : Frm) : Option Operand → Option (Option Value)
  | none => some none
  | some x => match ev f x with
    | none => none
    | some v => some (some v)

structure Fits (n : Nat) (f : Frm) (a : Act) : Prop where
  size : a.tmps.size = n
  defers : a.defers = []
  tmps : ∀ i v, f i = some v → a.tmps[i]? = some v

theorem Fits.eval {n : Nat} {f : Frm} {a : Act} (h : Fits n f a) {x : Operand} {v : Value} (hx : ev f x = some v) : a.eval x = v := by
  cases x with
  | tmp t => have := h.tmps t v hx; simp [Act.eval, this]
  | const u => simpa [ev, Act.eval] using hx
  | global g => simpa [ev, Act.eval] using hx
  | func g => simpa [ev, Act.eval] using hx

theorem Fits.upd {n : Nat} {f : Frm} {a : Act} (h : Fits n f a) {d : Nat} {v : Value} (hd : d < n) : Fits n (upd f d v) (a.put (some d) v) := by
  refine ⟨by simp [Act.put, h.size], by simp [Act.put, h.defers], fun i u hi => ?_⟩
  simp only [Eng.upd] at hi
  simp only [Act.put]
  by_cases hid : i = d
  · subst hid
    have : Nat.beq i i = true := Nat.beq_refl i
    rw [this] at hi
    simp at hi
    subst hi
    simp [h.size, hd]
  · have hb : Nat.beq i d = false := by
      cases hbb : Nat.beq i d with
      | false => rfl
      | true => exact absurd (Nat.eq_of_beq_eq_true hbb) hid
    rw [hb] at hi
    simp at hi
    rw [Array.getElem?_setIfInBounds_ne (Ne.symm hid)]
    exact h.tmps i u hi

/-- a destination that lies in the frame -/
def dstOk (n : Nat) : Option Nat → Bool
  | none => true
  | some d => Nat.blt d n
theorem Fits.upo {n : Nat} {f : Frm} {a : Act} (h : Fits n f a) {d : Option Nat} {v : Value} (hd : dstOk n d = true) : Fits n (upo f d v) (a.put d v) := by
  cases d with
  | none => exact h
  | some d => exact h.upd (Nat.le_of_ble_eq_true hd)

theorem Fits.ofs_aux {f : Frm} : ∀ (ds : List Nat) (k : Nat) (pre vs : List Value), evs f ds = some vs → pre.length = k → ∀ i v, ofs ds k (pre ++ vs) i = some v → f i = some v
  | [], _, _, _, _, _, i, v, h => by simp [ofs, emp] at h
  | d :: ds, k, pre, vs, he, hk, i, v, h => by
    simp only [evs] at he
    cases hfd : f d with
    | none => rw [hfd] at he; cases he
    | some u =>
      rw [hfd] at he
      cases hes : evs f ds with
      | none => rw [hes] at he; cases he
      | some us =>
        rw [hes] at he
        simp at he
        subst he
        simp only [ofs] at h
        cases hb : Nat.beq i d with
        | true =>
          rw [hb] at h
          have := Nat.eq_of_beq_eq_true hb
          subst this
          simp [nthv, ← hk] at h
          rw [hfd, h]
        | false =>
          rw [hb] at h
          simp only [cond_false] at h
          refine Fits.ofs_aux ds (k + 1) (pre ++ [u]) us hes (by simp [hk]) i v ?_
          simpa using h

theorem Fits.ofs {n : Nat} {f : Frm} {a : Act} (h : Fits n f a) {ds : List Nat} {vs : List Value} (he : evs f ds = some vs) : Fits n (ofs ds 0 vs) a :=
  ⟨h.size, h.defers, fun i v hi => h.tmps i v (Fits.ofs_aux ds 0 [] vs he rfl i v (by simpa using hi))⟩

/-! ### what the operations come to, over values -/
def okF (r : Option Value) (k : Value → Prop) : Prop := match r with | some v => k v | none => False
/-- carried out, the world may turn -/
def efK {α : Type} (P : Program) (s : Sem α) (k : α → World → Prop) (W : World) : Prop := ∃ v W', s.run P W = .ok v W' ∧ k v W'
/-- carried out, the world stays -/
def rdK {α : Type} (P : Program) (s : Sem α) (k : α → World → Prop) (W : World) : Prop := ∃ v, s.run P W = .ok v W ∧ k v W
def callK (P : Program) (g : Nat) (args : List Value) (k : Value → World → Prop) (W : World) : Prop :=
  Calls P g args.toArray W fun e W' => match e with | .returned v => k v W' | _ => False

def binP (op : BinOp) (x y : Value) : Option Value :=
  match x, y with
  | .int k a, .int k' b =>
    match op with
    | .shl => if b < 0 then none else some (.int k (k.wrap (a * 2 ^ (min b.toNat k.bits))))
    | .shr => if b < 0 then none else some (.int k (a.fdiv (2 ^ (min b.toNat k.bits))))
    | _ => if k ≠ k' then none else
      match op with
      | .add => some (.int k (k.wrap (a + b)))
      | .sub => some (.int k (k.wrap (a - b)))
      | .mul => some (.int k (k.wrap (a * b)))
      | .quo => if b = 0 then none else some (.int k (k.wrap (a.tdiv b)))
      | .rem => if b = 0 then none else some (.int k (a.tmod b))
      | .and => some (.int k (k.wrap (BitVec.ofInt k.bits a &&& BitVec.ofInt k.bits b).toNat))
      | .or => some (.int k (k.wrap (BitVec.ofInt k.bits a ||| BitVec.ofInt k.bits b).toNat))
      | .xor => some (.int k (k.wrap (BitVec.ofInt k.bits a ^^^ BitVec.ofInt k.bits b).toNat))
      | .andNot => some (.int k (k.wrap (BitVec.ofInt k.bits a &&& ~~~(BitVec.ofInt k.bits b)).toNat))
      | .eql => some (.bool (a == b))
      | .neq => some (.bool (a != b))
      | .lss => some (.bool (a < b))
      | .leq => some (.bool (a ≤ b))
      | .gtr => some (.bool (a > b))
      | .geq => some (.bool (a ≥ b))
      | _ => none
  | .string a, .string b =>
    match op with
    | .add => if ((a.size + b.size : Nat) : Int) > IntKind.i64.max then none else some (.string (a ++ b))
    | .eql => some (.bool (a.toList == b.toList))
    | .neq => some (.bool !(a.toList == b.toList))
    | .lss => some (.bool (Op.bytesLess a.toList b.toList))
    | .leq => some (.bool (Op.bytesLess a.toList b.toList || a.toList == b.toList))
    | .gtr => some (.bool !(Op.bytesLess a.toList b.toList || a.toList == b.toList))
    | .geq => some (.bool !(Op.bytesLess a.toList b.toList))
    | _ => none
  | _, _ => none

theorem binP_run {P : Program} {op : BinOp} {t : TypeId} {x y : Operand} {a b v : Value} (h : binP op a b = some v) (w : World) :
    (do eqGuard op t x y a b; binOp op t a b).run P w = .ok v w := by
  unfold binP at h
  split at h
  · rename_i k n k' n'
    have hg : (eqGuard op t x y (.int k n) (.int k' n')).run P w = .ok () w := by
      unfold eqGuard; split <;> rfl
    rw [Sem.run_bind, hg]
    simp only [Result.andThen_ok]
    split at h
    · split at h
      · cases h
      · rename_i hn; simp at h; subst h; simp [binOp, Op.shift, hn]
    · split at h
      · cases h
      · rename_i hn; simp at h; subst h; simp [binOp, Op.shift, hn]
    · split at h
      · cases h
      · rename_i hk
        have hk' : k = k' := Classical.not_not.1 hk
        subst hk'
        split at h <;> first
          | (simp at h; subst h; simp [binOp, Op.intArith, Op.intBits, Op.intCmp]; done)
          | (split at h
             · cases h
             · rename_i hz; simp at h; subst h; simp [binOp, Op.intDiv, hz]; done)
          | cases h
  · have hg : ∀ s s', (eqGuard op t x y (.string s) (.string s')).run P w = .ok () w := by
      intro s s'; unfold eqGuard; split <;> rfl
    rw [Sem.run_bind, hg]
    simp only [Result.andThen_ok]
    split at h
    · split at h
      · cases h
      · rename_i hn; simp at h; subst h; simp only [binOp, Op.stringOp, hn]; rfl
    all_goals first
      | (simp at h; subst h; simp [binOp, Op.stringOp]; done)
      | cases h
  · cases h


def unP (op : UnOp) (x : Value) : Option Value :=
  match op, x with
  | .neg, .int k n => some (.int k (k.wrap (0 - n)))
  | .xor, .int k n => some (.int k (k.wrap (BitVec.ofInt k.bits (if k.signed then -1 else k.max) ^^^ BitVec.ofInt k.bits n).toNat))
  | .not, .bool b => some (.bool !b)
  | _, _ => none
theorem unP_run {P : Program} {op : UnOp} {a v : Value} (h : unP op a = some v) (w : World) : (Op.unary op a).run P w = .ok v w := by
  unfold unP at h
  split at h <;> first
    | (simp at h; subst h; simp [Op.unary, Op.intArith, Op.intBits]; done)
    | cases h

/-- '==' where one side is nil, or of two bools -/
def eqR (d : TypeDesc) (x y : Value) : Option Bool :=
  match d, x, y with
    | .bool, .bool a, .bool b => some (a == b)
    | .pointer _, .pointer none, .pointer b => some b.isNone
    | .pointer _, .pointer (some _), .pointer none => some false
    | .slice _, .slice none _ _, .slice b _ _ => some b.isNone
    | .slice _, .slice (some _) _ _, .slice none _ _ => some false
    | .map _ _, .map none, .map b => some b.isNone
    | .map _ _, .map (some _), .map none => some false
    | .func _ _ _, .nilFunc, .nilFunc => some true
    | .func _ _ _, .nilFunc, .func _ _ _ => some false
    | .func _ _ _, .func _ _ _, .nilFunc => some false
    | _, _, _ => none
def eqP (d : TypeDesc) (op : BinOp) (x y : Value) : Option Value :=
  match op, eqR d x y with
  | .eql, some b => some (.bool b)
  | .neq, some b => some (.bool !b)
  | _, _ => none
theorem eqGuard_run {P : Program} {op : BinOp} {t : TypeId} {x y : Operand} {a b : Value} (h1 : ∀ c d, ¬ (a = .agg c ∧ b = .agg d)) (h2 : a ≠ .nilIface) (w : World) :
    (eqGuard op t x y a b).run P w = .ok () w := by
  unfold eqGuard
  have hm : ∀ (m : Sem Unit), m.run P w = .ok () w → ((if (!(op matches .eql | .neq)) = true then pure () else m) : Sem Unit).run P w = .ok () w := by
    intro m hm
    by_cases h : (!(op matches .eql | .neq)) = true
    · rw [if_pos h]; rfl
    · rw [if_neg h]; exact hm
  refine hm _ ?_
  split
  · exact absurd rfl h2
  · rename_i c d; exact absurd ⟨rfl, rfl⟩ (h1 c d)
  · rfl
theorem binOp_eql {P : Program} {t : TypeId} {a b : Value} {r : Bool} {w : World} (hb : binOp .eql t a b = (do pure (.bool (← Op.equal t a b)))) (h : ∀ n, (Op.equalIn (n + 1) t a b).run P w = .ok r w) :
    (binOp .eql t a b).run P w = .ok (.bool r) w := by
  rw [hb]
  have := h 9999
  simp only [bind_pure_comp]
  show (Value.bool <$> Op.equalIn 10000 t a b).run P w = _
  rw [← bind_pure_comp, Sem.run_bind, this]
  rfl
theorem binOp_neq {P : Program} {t : TypeId} {a b : Value} {r : Bool} {w : World} (hb : binOp .neq t a b = (do pure (.bool (!(← Op.equal t a b))))) (h : ∀ n, (Op.equalIn (n + 1) t a b).run P w = .ok r w) :
    (binOp .neq t a b).run P w = .ok (.bool !r) w := by
  rw [hb]
  have := h 9999
  show ((Op.equalIn 10000 t a b) >>= fun x => pure (Value.bool !x)).run P w = _
  rw [Sem.run_bind, this]
  rfl
theorem eqR_run {P : Program} {d : TypeDesc} {t : TypeId} {a b : Value} {r : Bool} (ht : P.underlying t = some d) (h : eqR d a b = some r) (w : World) (n : Nat) :
    (Op.equalIn (n + 1) t a b).run P w = .ok r w := by
  have hu := run_underlying (P := P) ht w
  unfold eqR at h
  split at h <;> first
    | (cases h; done)
    | (simp only [Option.some.injEq] at h
       subst h
       show Sem.run P (underlying t >>= _) w = _
       rw [Sem.run_bind, hu]
       rfl)
theorem eqR_ne {d : TypeDesc} {a b : Value} {r : Bool} (h : eqR d a b = some r) : (∀ c d, ¬ (a = .agg c ∧ b = .agg d)) ∧ a ≠ .nilIface := by
  unfold eqR at h
  split at h <;> first
    | (cases h; done)
    | exact ⟨fun c d h => (nomatch h.1), fun h => (nomatch h)⟩
theorem eqR_bin {d : TypeDesc} {a b : Value} {r : Bool} (h : eqR d a b = some r) (t : TypeId) :
    binOp .eql t a b = (do pure (.bool (← Op.equal t a b))) ∧ binOp .neq t a b = (do pure (.bool (!(← Op.equal t a b)))) := by
  unfold eqR at h
  split at h <;> first
    | (cases h; done)
    | exact ⟨by simp only [binOp], by simp only [binOp]⟩
theorem eqP_run {P : Program} {d : TypeDesc} {op : BinOp} {t : TypeId} {x y : Operand} {a b v : Value} (ht : P.underlying t = some d) (h : eqP d op a b = some v) (w : World) :
    (do eqGuard op t x y a b; binOp op t a b).run P w = .ok v w := by
  unfold eqP at h
  split at h
  · rename_i r hr
    obtain ⟨h1, h2⟩ := eqR_ne hr
    simp only [Option.some.injEq] at h
    subst h
    rw [Sem.run_bind, eqGuard_run h1 h2]
    exact binOp_eql (eqR_bin hr t).1 (eqR_run ht hr w)
  · rename_i r hr
    obtain ⟨h1, h2⟩ := eqR_ne hr
    simp only [Option.some.injEq] at h
    subst h
    rw [Sem.run_bind, eqGuard_run h1 h2]
    exact binOp_neq (eqR_bin hr t).2 (eqR_run ht hr w)
  · cases h

def addrF (off : Nat) (x : Value) : Option Value := match x with | .pointer (some a) => some (.pointer (some (a.add off))) | _ => none
def idxS (sz : Nat) (x i : Value) : Option Value :=
  match x, i with
  | .slice (some a) len _, .int _ i => if 0 ≤ i ∧ i < len then some (.pointer (some (a.add (i.toNat * sz)))) else none
  | _, _ => none
def idxA (len sz : Nat) (x i : Value) : Option Value :=
  match x, i with
  | .pointer (some a), .int _ i => if 0 ≤ i ∧ i < len then some (.pointer (some (a.add (i.toNat * sz)))) else none
  | _, _ => none
def partV (agg : Bool) (cs : Array Value) (off sz : Nat) : Option Value := match agg with | true => some (.agg (cs.extract off (off + sz))) | false => cs[off]?
def idxV (len : Nat) (agg : Bool) (sz : Nat) (x i : Value) : Option Value :=
  match x, i with
  | .agg cs, .int _ i => if 0 ≤ i ∧ i < len then partV agg cs (i.toNat * sz) sz else none
  | _, _ => none
def idxStr (x i : Value) : Option Value :=
  match x, i with
  | .string s, .int _ i => if 0 ≤ i then (s[i.toNat]?).map fun b => .int .u8 b.toNat else none
  | _, _ => none
def fldV (agg : Bool) (off sz : Nat) (x : Value) : Option Value := match x with | .agg cs => partV agg cs off sz | _ => none
def bnd (v : Option Value) (dflt y : Nat) : Option Nat :=
  match v with
  | none => some dflt
  | some (.int _ i) => if 0 ≤ i ∧ i ≤ y then some i.toNat else none
  | _ => none
/-- low, high, max of a cut; a cut with a max has a high -/
def slcB (len cap : Nat) (lo hi mx : Option Value) : Option (Nat × Nat × Nat) :=
  match hi, mx with
  | none, some _ => none
  | _, _ =>
    match bnd mx cap cap with
    | none => none
    | some m => match bnd hi len m with
      | none => none
      | some h => match bnd lo 0 h with
        | none => none
        | some l => some (l, h, m)
def slcStr (x : Value) (lo hi : Option Value) : Option Value :=
  match x with
  | .string s => match slcB s.size s.size lo hi none with
    | some (l, h, _) => some (.string (s.extract l h))
    | none => none
  | _ => none
def slcS (sz : Nat) (x : Value) (lo hi mx : Option Value) : Option Value :=
  match x with
  | .slice a len cap => match slcB len cap lo hi mx with
    | some (l, h, m) => some (.slice (if m = l then a else a.map (·.add (l * sz))) (h - l) (m - l))
    | none => none
  | _ => none
def slcA (n sz : Nat) (x : Value) (lo hi mx : Option Value) : Option Value :=
  match x with
  | .pointer (some a) => match slcB n n lo hi mx with
    | some (l, h, m) => some (.slice (some (if m = l then a else a.add (l * sz))) (h - l) (m - l))
    | none => none
  | _ => none
def cvtP (d : TypeDesc) (x : Value) : Option Value :=
  match d, x with
  | .int k, .int _ n => some (.int k (k.wrap n))
  | .string, .string s => some (.string s)
  | _, _ => none
def nilP (x : Value) : Option Value :=
  match x with
  | .pointer (some a) => some (.pointer (some a))
  | .func (.func g) fi ca => some (.func (.func g) fi ca)
  | _ => none
def pickP (c a b : Value) : Option Value := match c with | .bool c => some (if c then a else b) | _ => none
def lenP (d : TypeDesc) (x : Value) : Option Value :=
  match d, x with
  | .string, .string s => some (goInt s.size)
  | .array n _, _ => some (goInt n)
  | .slice _, .slice _ n _ => some (goInt n)
  | _, _ => none
def capP (d : TypeDesc) (x : Value) : Option Value :=
  match d, x with
  | .array n _, _ => some (goInt n)
  | .slice _, .slice _ _ n => some (goInt n)
  | _, _ => none
def max2P (x y : Value) : Option Value := match x, y with | .int k x, .int _ y => some (.int k (if y > x then y else x)) | _, _ => none
def min2P (x y : Value) : Option Value := match x, y with | .int k x, .int _ y => some (.int k (if y < x then y else x)) | _, _ => none
def foldA (g : Value → Value → Option Value) (acc : Value) : List Value → Option Value
  | [] => some acc
  | y :: r => match g acc y with
    | some z => foldA g z r
    | none => none
def foldP (g : Value → Value → Option Value) : List Value → Option Value
  | [] => none
  | x :: r => foldA g x r
/-- the cells of a literal: each part over the noughts -/
def fillL (place : Nat → Option (Nat × Nat)) (zero : List Value) : List (Nat × Value) → Option (List Value)
  | [] => some zero
  | (i, v) :: rest => match place i with
    | none => none
    | some (off, size) => match Nat.beq v.cells.size size && Nat.ble (off + size) zero.length with
      | true => fillL place (zero.take off ++ v.cells.toList ++ zero.drop (off + size)) rest
      | false => none
def bldP (place : Nat → Option (Nat × Nat)) (zero : List Value) (parts : List (Nat × Value)) : Option Value :=
  match fillL place zero parts with
  | some cs => some (.agg cs.toArray)
  | none => none
def extP (i : Nat) (x : Value) : Option Value := match x with | .tuple vs => vs[i]? | _ => none

/-! ### each pure evaluator is the operation's own run -/
section
variable {P : Program} {w : World}

theorem run_typeInfo' {t : TypeId} {i : TypeInfo} (h : P.info? t = some i) : (typeInfo t).run P w = .ok i w := by
  simp [typeInfo, program, Sem.run, h]
theorem run_sizeOf' {t : TypeId} {i : TypeInfo} (h : P.info? t = some i) : (sizeOf t).run P w = .ok i.size w := by
  simp [sizeOf, run_typeInfo' h]
theorem run_zeroValue' {t : TypeId} {i : TypeInfo} {z : Value} (h : P.info? t = some i) (hz : i.zero = some z) : (zeroValue t).run P w = .ok z w := by
  simp [zeroValue, run_typeInfo' h, hz]
def aggB : TypeDesc → Bool
  | .struct _ => true
  | .array _ _ => true
  | _ => false
theorem run_isAgg' {t : TypeId} {d : TypeDesc} (h : P.underlying t = some d) : (isAgg t).run P w = .ok (aggB d) w := by
  simp only [isAgg, Sem.run_bind, run_underlying h, Result.andThen_ok]
  cases d <;> rfl

theorem addrF_run {s : TypeId} {fs : Array Field} {fld : Nat} {fd : Field} {i : TypeInfo} {x v : Value} (hs : P.underlying s = some (.struct fs)) (hf : fs[fld]? = some fd)
    (hi : P.info? fd.type = some i) (h0 : i.size ≠ 0) (h : addrF fd.offset x = some v) : (Instr.fieldAt s x fld).run P w = .ok v w := by
  unfold addrF at h
  split at h
  · simp only [Option.some.injEq] at h
    subst h
    simp [Instr.fieldAt, run_underlying hs, hf, Instr.sureAddr, fieldPlace, run_sizeOf' hi, h0]
  · cases h
theorem idxS_run {t elem : TypeId} {i : TypeInfo} {x j v : Value} (ht : P.underlying t = some (.slice elem)) (hi : P.info? elem = some i) (h : idxS i.size x j = some v) :
    (Instr.indexAt t x j).run P w = .ok v w := by
  unfold idxS at h
  split at h
  · split at h
    · rename_i hb
      simp only [Option.some.injEq] at h
      subst h
      simp [Instr.indexAt, asIntOf, run_underlying ht, run_sizeOf' hi, hb]
    · cases h
  · cases h
theorem idxA_run {t elem : TypeId} {len : Nat} {i : TypeInfo} {x j v : Value} (ht : P.underlying t = some (.array len elem)) (hi : P.info? elem = some i) (h : idxA len i.size x j = some v) :
    (Instr.indexAt t x j).run P w = .ok v w := by
  unfold idxA at h
  split at h
  · split at h
    · rename_i hb
      simp only [Option.some.injEq] at h
      subst h
      simp [Instr.indexAt, asIntOf, run_underlying ht, run_sizeOf' hi, Instr.sureAddr, hb]
    · cases h
  · cases h
theorem partV_run {t : TypeId} {d : TypeDesc} {i : TypeInfo} {cs : Array Value} {off : Nat} {v : Value} (ht : P.underlying t = some d) (hi : P.info? t = some i) (h : partV (aggB d) cs off i.size = some v) :
    (part t cs off).run P w = .ok v w := by
  unfold partV at h
  simp only [part, Sem.run_bind, run_isAgg' ht, Result.andThen_ok]
  split at h
  · rename_i hb
    simp only [Option.some.injEq] at h
    subst h
    simp [hb, run_sizeOf' hi]
  · rename_i hb
    simp [hb, h]
theorem idxV_run {t elem : TypeId} {len : Nat} {d : TypeDesc} {i : TypeInfo} {x j v : Value} (ht : P.underlying t = some (.array len elem)) (hd : P.underlying elem = some d) (hi : P.info? elem = some i)
    (h : idxV len (aggB d) i.size x j = some v) : (Instr.index t x j).run P w = .ok v w := by
  unfold idxV at h
  split at h
  · split at h
    · rename_i hb
      simp [Instr.index, asIntOf, run_underlying ht, run_sizeOf' hi, hb, partV_run hd hi h]
    · cases h
  · cases h
theorem idxStr_run {t : TypeId} {x j v : Value} (ht : P.underlying t = some .string) (h : idxStr x j = some v) : (Instr.index t x j).run P w = .ok v w := by
  unfold idxStr at h
  split at h
  · split at h
    · rename_i hb
      obtain ⟨b, hb1, hb2⟩ := Option.map_eq_some_iff.1 h
      subst hb2
      simp [Instr.index, asIntOf, run_underlying ht, hb, hb1]
    · cases h
  · cases h
theorem fldV_run {s : TypeId} {fs : Array Field} {fld : Nat} {fd : Field} {d : TypeDesc} {i : TypeInfo} {x v : Value} (hs : P.underlying s = some (.struct fs)) (hf : fs[fld]? = some fd)
    (hd : P.underlying fd.type = some d) (hi : P.info? fd.type = some i) (h : fldV (aggB d) fd.offset i.size x = some v) : (Instr.field s x fld).run P w = .ok v w := by
  unfold fldV at h
  split at h
  · simp [Instr.field, run_underlying hs, hf, asAgg, partV_run hd hi h]
  · cases h

theorem bnd_run {x : Value} {y : Nat} {c : BoundsCode} {n dflt : Nat} (h : bnd (some x) dflt y = some n) : (Instr.sliceBound x y c).run P w = .ok n w := by
  unfold bnd at h
  split at h
  · rename_i hx; cases hx
  · rename_i k i hx
    simp only [Option.some.injEq] at hx
    subst hx
    split at h
    · rename_i hb
      simp only [Option.some.injEq] at h
      subst h
      simp [Instr.sliceBound, asIntOf, hb]
    · cases h
  · cases h
theorem slcB_run {isS : Bool} {len cap : Nat} {lo hi mx : Option Value} {r : Nat × Nat × Nat} (h : slcB len cap lo hi mx = some r) : (Instr.sliceBounds isS len cap lo hi mx).run P w = .ok r w := by
  unfold slcB at h
  split at h
  · cases h
  · rename_i hne
    split at h
    · cases h
    · rename_i m hm
      split at h
      · cases h
      · rename_i hh hhe
        split at h
        · cases h
        · rename_i l hl
          simp only [Option.some.injEq] at h
          subst h
          cases lo with
          | none =>
            simp [bnd] at hl
            subst hl
            cases mx with
            | none =>
              simp [bnd] at hm
              subst hm
              cases hi with
              | none => simp [bnd] at hhe; subst hhe; simp [Instr.sliceBounds]
              | some y => simp [Instr.sliceBounds, bnd_run hhe]
            | some z =>
              cases hi with
              | none => exact absurd rfl (hne z rfl)
              | some y => simp [Instr.sliceBounds, bnd_run hhe, bnd_run hm]
          | some x =>
            cases mx with
            | none =>
              simp [bnd] at hm
              subst hm
              cases hi with
              | none => simp [bnd] at hhe; subst hhe; simp [Instr.sliceBounds, bnd_run hl]
              | some y => simp [Instr.sliceBounds, bnd_run hhe, bnd_run hl]
            | some z =>
              cases hi with
              | none => exact absurd rfl (hne z rfl)
              | some y => simp [Instr.sliceBounds, bnd_run hhe, bnd_run hm, bnd_run hl]
theorem slcStr_run {t : TypeId} {x v : Value} {lo hi : Option Value} (ht : P.underlying t = some .string) (h : slcStr x lo hi = some v) : (Instr.sliceAt t x lo hi none).run P w = .ok v w := by
  unfold slcStr at h
  split at h
  · split at h
    · rename_i l hh m hb
      simp only [Option.some.injEq] at h
      subst h
      simp [Instr.sliceAt, Instr.slice, run_underlying ht, slcB_run hb]
    · cases h
  · cases h
theorem slcS_run {t elem : TypeId} {i : TypeInfo} {x v : Value} {lo hi mx : Option Value} (ht : P.underlying t = some (.slice elem)) (hi' : P.info? elem = some i) (h : slcS i.size x lo hi mx = some v) :
    (Instr.sliceAt t x lo hi mx).run P w = .ok v w := by
  unfold slcS at h
  split at h
  · split at h
    · rename_i l hh m hb
      simp only [Option.some.injEq] at h
      subst h
      simp [Instr.sliceAt, Instr.slice, run_underlying ht, run_sizeOf' hi', slcB_run hb]
    · cases h
  · cases h
theorem slcA_run {t elem : TypeId} {n : Nat} {i : TypeInfo} {x v : Value} {lo hi mx : Option Value} (ht : P.underlying t = some (.array n elem)) (hi' : P.info? elem = some i) (h : slcA n i.size x lo hi mx = some v) :
    (Instr.sliceAt t x lo hi mx).run P w = .ok v w := by
  unfold slcA at h
  split at h
  · split at h
    · rename_i l hh m hb
      simp only [Option.some.injEq] at h
      subst h
      simp [Instr.sliceAt, Instr.sureAddr, run_underlying ht, run_sizeOf' hi', slcB_run hb]
    · cases h
  · cases h
theorem cvtInt_run {src dst : TypeId} {ds : TypeDesc} {k : IntKind} {x v : Value} (hs : P.underlying src = some ds) (hd : P.underlying dst = some (.int k)) (h : cvtP (.int k) x = some v) :
    (convert src dst x).run P w = .ok v w := by
  unfold cvtP at h
  split at h
  · rename_i hk
    simp only [TypeDesc.int.injEq] at hk
    subst hk
    simp only [Option.some.injEq] at h
    subst h
    simp [convert, run_underlying hs, run_underlying hd, Conv.intToInt]
  · rename_i hk; cases hk
  · cases h
theorem cvtStr_run {src dst : TypeId} {x v : Value} (hs : P.underlying src = some .string) (hd : P.underlying dst = some .string) (h : cvtP .string x = some v) :
    (convert src dst x).run P w = .ok v w := by
  unfold cvtP at h
  split at h
  · rename_i hk; cases hk
  · simp only [Option.some.injEq] at h
    subst h
    simp [convert, run_underlying hs, run_underlying hd]
  · cases h
theorem lenP_run {t ty : TypeId} {ats : Array TypeId} {d : TypeDesc} {x v : Value} {xs : Array Value} (h0 : ats[0]? = some t) (hx : xs[0]? = some x) (ht : P.underlying t = some d) (h : lenP d x = some v) :
    (Builtin.len_ ats ty xs).run P w = .ok v w := by
  unfold lenP at h
  split at h <;> first
    | (cases h; done)
    | (simp only [Option.some.injEq] at h; subst h; simp [Builtin.len_, h0, hx, run_underlying ht]; done)
theorem capP_run {t ty : TypeId} {ats : Array TypeId} {d : TypeDesc} {x v : Value} {xs : Array Value} (h0 : ats[0]? = some t) (hx : xs[0]? = some x) (ht : P.underlying t = some d) (h : capP d x = some v) :
    (Builtin.cap_ ats ty xs).run P w = .ok v w := by
  unfold capP at h
  split at h <;> first
    | (cases h; done)
    | (simp only [Option.some.injEq] at h; subst h; simp [Builtin.cap_, h0, hx, run_underlying ht]; done)
theorem max2P_run {x y v : Value} (h : max2P x y = some v) : (Builtin.max2 x y).run P w = .ok v w := by
  unfold max2P at h
  split at h
  · simp only [Option.some.injEq] at h; subst h; simp [Builtin.max2]
  · cases h
theorem min2P_run {x y v : Value} (h : min2P x y = some v) : (Builtin.min2 x y).run P w = .ok v w := by
  unfold min2P at h
  split at h
  · simp only [Option.some.injEq] at h; subst h; simp [Builtin.min2]
  · cases h

theorem foldA_run {P : Program} {w : World} {g : Value → Value → Option Value} {m : Value → Value → Sem Value} (hg : ∀ x y v, g x y = some v → (m x y).run P w = .ok v w) :
    ∀ (l : List Value) (x v : Value), foldA g x l = some v → (l.foldlM m x).run P w = .ok v w
  | [], x, v, h => by simp only [foldA, Option.some.injEq] at h; subst h; rfl
  | y :: r, x, v, h => by
    simp only [foldA] at h
    split at h
    · rename_i z hz
      simp [hg _ _ _ hz, foldA_run hg r z v h]
    · cases h
theorem max_run {ats : Array TypeId} {ty : TypeId} {l : List Value} {v : Value} (h : foldP max2P l = some v) : (Builtin.max_ ats ty l.toArray).run P w = .ok v w := by
  cases l with
  | nil => simp [foldP] at h
  | cons x r => simp only [foldP] at h; simp [Builtin.max_, foldA_run (fun _ _ _ h => max2P_run h) r x v h]
theorem min_run {ats : Array TypeId} {ty : TypeId} {l : List Value} {v : Value} (h : foldP min2P l = some v) : (Builtin.min_ ats ty l.toArray).run P w = .ok v w := by
  cases l with
  | nil => simp [foldP] at h
  | cons x r => simp only [foldP] at h; simp [Builtin.min_, foldA_run (fun _ _ _ h => min2P_run h) r x v h]

theorem put_cells (vs : List Value) : ∀ (k : Nat) (cs : Array Value), k + vs.length ≤ cs.size →
    (vs.zipIdx k).foldl (fun cs (p : Value × Nat) => cs.setIfInBounds p.2 p.1) cs = (cs.toList.take k ++ vs ++ cs.toList.drop (k + vs.length)).toArray := by
  induction vs with
  | nil => intro k cs h; simp
  | cons v vs ih =>
    intro k cs h
    simp only [List.length_cons] at h
    rw [List.zipIdx_cons, List.foldl_cons, ih (k + 1) _ (by simp; omega)]
    simp only [Array.toList_setIfInBounds, List.length_cons]
    have hk : k < cs.toList.length := by simp; omega
    have h1 : (cs.toList.set k v).take (k + 1) = cs.toList.take k ++ [v] := by
      rw [List.take_set, List.take_succ_eq_append_getElem hk, List.set_append_right _ _ (by simp; omega)]
      have : k - (cs.toList.take k).length = 0 := by simp; omega
      rw [this]
      rfl
    have h2 : (cs.toList.set k v).drop (k + 1 + vs.length) = cs.toList.drop (k + (vs.length + 1)) := by
      rw [List.drop_set_of_lt (by omega)]
      congr 1
      omega
    rw [h1, h2]
    simp

theorem fillL_run (place : Nat → Option (Nat × Nat)) : ∀ (parts : List (Nat × Value)) (zero cs : List Value), fillL place zero parts = some cs → Instr.fill place zero.toArray parts = some cs.toArray
  | [], zero, cs, h => by simp only [fillL, Option.some.injEq] at h; subst h; rfl
  | (i, v) :: rest, zero, cs, h => by
    simp only [fillL] at h
    simp only [Instr.fill]
    split at h
    · cases h
    · rename_i off size hp
      split at h
      · rename_i hb
        simp only [Bool.and_eq_true] at hb
        have h1 := Nat.eq_of_beq_eq_true hb.1
        have h2 := Nat.le_of_ble_eq_true hb.2
        have h3 : ¬ ((decide (v.cells.size ≠ size) || decide (off + v.cells.size > zero.toArray.size)) = true) := by simp [h1]; omega
        simp only [hp]
        rw [if_neg h3]
        have h4 := fillL_run place rest _ cs h
        have h5 : v.cells.zipIdx.foldl (fun cs (p : Value × Nat) => cs.setIfInBounds (off + p.2) p.1) zero.toArray = (zero.take off ++ v.cells.toList ++ zero.drop (off + size)).toArray := by
          have := put_cells v.cells.toList off zero.toArray (by simp [h1]; omega)
          simp only [Array.length_toList, h1] at this
          rw [← this]
          rw [← Array.foldl_toList, Array.toList_zipIdx]
          rw [List.zipIdx_eq_map_add (i := off), List.foldl_map]
        rw [h5]
        exact h4
      · cases h
end
end Go.Eng
namespace Go.Eng
set_option linter.unusedVariables false
set_option linter.unusedSimpArgs false
open Go
inductive Sh where
 | val (v : Value)
 | pure (v : Option Value)
 | read (s : Sem Value)
 | eff (s : Sem Value)
 | effU (s : Sem Unit)
 | call (g : Nat) (args : List Value)
 | vcall (f : Value) (args : List Value)
 | bad
def aggEq (op : BinOp) (t : TypeId) (a b : Value) : Sem Value :=
 match a, b with
 | .agg xs, .agg ys => do eqGuard op t (.tmp 0) (.tmp 0) (.agg xs) (.agg ys); binOp op t (.agg xs) (.agg ys)
 | _, _ => stuck ""
abbrev ap1 (r : Option Value) (k : Value → Sh) : Sh := match r with | some v => k v | none => .bad
abbrev apl (r : Option (List Value)) (k : List Value → Sh) : Sh := match r with | some v => k v | none => .bad
abbrev app (r : Option (List (Nat × Value))) (k : List (Nat × Value) → Sh) : Sh := match r with | some v => k v | none => .bad
abbrev apo (r : Option (Option Value)) (k : Option Value → Sh) : Sh := match r with | some v => k v | none => .bad
def plOf (P : Program) : List Field → Option (List (Nat × Nat))
 | [] => some []
 | fd :: r => match P.info? fd.type with
  | none => none
  | some i => match plOf P r with
   | none => none
   | some l => some ((fd.offset, i.size) :: l)
def shape (P : Program) (CB : Nat → Bool) (o : Oper) (f : Frm) : Sh :=
 match o.op with
 | .move x => ap1 (ev f x) fun v => .val v
 | .assign x => ap1 (ev f x) fun v => .val v
 | .pick c a b => ap1 (ev f c) fun c => ap1 (ev f a) fun a => ap1 (ev f b) fun b => .pure (pickP c a b)
 | .nilCheck x => ap1 (ev f x) fun x => .pure (nilP x)
 | .binOp op t x y _ => ap1 (ev f x) fun a => ap1 (ev f y) fun b =>
  match P.underlying t with
  | some (.int _) => .pure (binP op a b)
  | some .string => .pure (binP op a b)
  | some (.struct _) => .read (aggEq op t a b)
  | some (.array _ _) => .read (aggEq op t a b)
  | some d => .pure (eqP d op a b)
  | none => .bad
 | .unOp op _ x => ap1 (ev f x) fun a => .pure (unP op a)
 | .convert src dst x => ap1 (ev f x) fun a =>
  match P.underlying dst, P.underlying src with
  | some (.int k), some _ => .pure (cvtP (.int k) a)
  | some .string, some .string => .pure (cvtP .string a)
  | some .string, some (.slice _) => .read (convert src dst a)
  | _, _ => .eff (convert src dst a)
 | .makeFunc fn first captured => apl (evl f first.toList) fun fi => apl (evl f captured.toList) fun ca => .val (.func fn fi.toArray ca.toArray)
 | .fieldAddr s x fld =>
  match P.underlying s with
  | some (.struct fs) => match fs[fld]? with
   | some fd => match P.info? fd.type with
    | some i => match Nat.beq i.size 0 with
     | true => .bad
     | false => ap1 (ev f x) fun x => .pure (addrF fd.offset x)
    | none => .bad
   | none => .bad
  | _ => .bad
 | .field s x fld =>
  match P.underlying s with
  | some (.struct fs) => match fs[fld]? with
   | some fd => match P.info? fd.type, P.underlying fd.type with
    | some i, some d => ap1 (ev f x) fun x => .pure (fldV (aggB d) fd.offset i.size x)
    | _, _ => .bad
   | none => .bad
  | _ => .bad
 | .indexAddr t x j =>
  match P.underlying t with
  | some (.slice e) => match P.info? e with
   | some i => ap1 (ev f x) fun x => ap1 (ev f j) fun j => .pure (idxS i.size x j)
   | none => .bad
  | some (.array n e) => match P.info? e with
   | some i => ap1 (ev f x) fun x => ap1 (ev f j) fun j => .pure (idxA n i.size x j)
   | none => .bad
  | _ => .bad
 | .index t x j =>
  match P.underlying t with
  | some .string => ap1 (ev f x) fun x => ap1 (ev f j) fun j => .pure (idxStr x j)
  | some (.array n e) => match P.info? e, P.underlying e with
   | some i, some d => ap1 (ev f x) fun x => ap1 (ev f j) fun j => .pure (idxV n (aggB d) i.size x j)
   | _, _ => .bad
  | _ => .bad
 | .slice t x lo hi mx =>
  match P.underlying t with
  | some .string => match mx with
   | none => ap1 (ev f x) fun x => apo (evo f lo) fun lo => apo (evo f hi) fun hi => .pure (slcStr x lo hi)
   | some _ => .bad
  | some (.slice e) => match P.info? e with
   | some i => ap1 (ev f x) fun x => apo (evo f lo) fun lo => apo (evo f hi) fun hi => apo (evo f mx) fun mx => .pure (slcS i.size x lo hi mx)
   | none => .bad
  | some (.array n e) => match P.info? e with
   | some i => ap1 (ev f x) fun x => apo (evo f lo) fun lo => apo (evo f hi) fun hi => apo (evo f mx) fun mx => .pure (slcA n i.size x lo hi mx)
   | none => .bad
  | _ => .bad
 | .extract x i => ap1 (ev f x) fun x => .pure (extP i x)
 | .build t parts =>
  match P.info? t with
  | some ti => match ti.zero with
   | some z => match P.underlying t with
    | some (.struct fs) => match plOf P fs.toList with
     | some pl => app (evp f parts.toList) fun parts => .pure (bldP (fun i => pl[i]?) z.cells.toList parts)
     | none => .bad
    | some (.array _ e) => match P.info? e with
     | some ei => app (evp f parts.toList) fun parts => .pure (bldP (fun i => some (i * ei.size, ei.size)) z.cells.toList parts)
     | none => .bad
    | _ => .bad
   | none => .bad
  | none => .bad
 | .alloc t => .eff (Instr.alloc t true (.tuple #[]))
 | .box t x => ap1 (ev f x) fun x => .eff (Instr.box t x)
 | .buildSlice t n parts => app (evp f parts.toList) fun parts => .eff (Instr.buildSlice t n parts.toArray)
 | .load t x => ap1 (ev f x) fun x => .read (Instr.loadAt t x)
 | .store t a x => ap1 (ev f a) fun a => ap1 (ev f x) fun x => .effU (Instr.storeAt t a x)
 | .makeMap t r => apo (evo f r) fun r => .eff (Instr.makeMap t r)
 | .makeSlice t l c => ap1 (ev f l) fun l => ap1 (ev f c) fun c => .eff (Instr.makeSlice t l c)
 | .makeInterface t x => ap1 (ev f x) fun x => .read (Instr.makeInterface t x)
 | .typeAssert x t u ok => ap1 (ev f x) fun x => .eff (Instr.typeAssert x t u ok)
 | .lookup t x j ok => ap1 (ev f x) fun x => ap1 (ev f j) fun j => .read (Instr.lookup t x j ok)
 | .mapUpdate t m k x => ap1 (ev f m) fun m => ap1 (ev f k) fun k => ap1 (ev f x) fun x => .effU (Instr.mapUpdate t m k x)
 | .insert t m k x => ap1 (ev f m) fun m => ap1 (ev f k) fun k => ap1 (ev f x) fun x => .effU (Instr.mapUpdate t m k x)
 | .mapEntry t m k => ap1 (ev f m) fun m => ap1 (ev f k) fun k => .eff (Instr.mapEntry t m k)
 | .entryStore t m s x => ap1 (ev f m) fun m => ap1 (ev f s) fun s => ap1 (ev f x) fun x => .effU (Instr.entryStore t m s x)
 | .range t x => ap1 (ev f x) fun x => .eff (Instr.range t x)
 | .next x isS => ap1 (ev f x) fun x => .eff (Instr.next x isS o.type)
 | .entry x => ap1 (ev f x) fun x => .eff (Instr.entry x)
 | .call c =>
  match c.callee with
  | .builtin b => apl (evl f c.args.toList) fun xs =>
   match b with
   | .len => match c.argTypes[0]?, xs[0]? with
    | some t, some x => match P.underlying t with
     | some (.map _ _) => .read (Builtin.len_ c.argTypes o.type xs.toArray)
     | some d => .pure (lenP d x)
     | none => .bad
    | _, _ => .bad
   | .cap => match c.argTypes[0]?, xs[0]? with
    | some t, some x => match P.underlying t with
     | some d => .pure (capP d x)
     | none => .bad
    | _, _ => .bad
   | .max => .pure (foldP max2P xs)
   | .min => .pure (foldP min2P xs)
   | .append => .eff (Builtin.append_ c.argTypes o.type xs.toArray)
   | .copy => .eff (Builtin.copy_ c.argTypes o.type xs.toArray)
   | .delete => .eff (Builtin.delete_ c.argTypes o.type xs.toArray)
   | .clear => .eff (Builtin.clear_ c.argTypes o.type xs.toArray)
   | _ => .bad
  | .value (.func g) => match CB g with
   | true => apl (evl f c.args.toList) fun xs => .call g xs
   | false => .bad
  | .value x => ap1 (ev f x) fun v => apl (evl f c.args.toList) fun xs => .vcall v xs
  | .invoke _ _ => .bad
 | _ => .bad
def isFl (P : Program) (o : Oper) : Bool :=
 match o.op with
 | .move _ | .assign _ | .pick .. | .nilCheck _ | .binOp .. | .unOp .. | .makeFunc .. | .fieldAddr .. | .field .. | .indexAddr .. | .index .. | .slice .. | .extract .. | .build .. | .load .. | .lookup .. | .makeInterface .. => true
 | .convert src dst _ => match P.underlying dst, P.underlying src with
  | some (.int _), _ => true
  | some .string, some .string => true
  | some .string, some (.slice _) => true
  | _, _ => false
 | .call { callee := .builtin b, .. } => match b with
  | .len | .cap | .max | .min => true
  | _ => false
 | _ => false
def fnOk (P : Program) (g : Nat) : Prop := ∃ fn, P.funcs[g]? = some fn ∧ fn.body.isNone = false ∧ (fn.name == "runtime.NumGoroutine") = false
def Sh.says (P : Program) (sh : Sh) (s : Sem Next) : Prop :=
 match sh with
 | .val v => ∀ w, s.run P w = .ok (.value v) w
 | .pure (some v) => ∀ w, s.run P w = .ok (.value v) w
 | .pure none => True
 | .read m => ∀ w v w', m.run P w = .ok v w' → s.run P w = .ok (.value v) w'
 | .eff m => ∀ w v w', m.run P w = .ok v w' → s.run P w = .ok (.value v) w'
 | .effU m => ∀ w w', m.run P w = .ok () w' → s.run P w = .ok .skip w'
 | .call g args => ∀ w, s.run P w = .ok (.enter g args.toArray) w
 | .vcall v args => (∀ g fi ca w, v = .func (.func g) fi ca → fnOk P g → s.run P w = .ok (.enter g (fi ++ args.toArray ++ ca)) w) ∧ ∀ l fi ca w, v = .func (.yield l) fi ca → s.run P w = (Instr.yield l (fi ++ args.toArray)).run P w
 | .bad => True
theorem says_ap1 {P : Program} {s : Sem Next} {r : Option Value} {k : Value → Sh} (h : ∀ v, r = some v → (k v).says P s) : (ap1 r k).says P s := by
 cases r with
 | none => trivial
 | some v => exact h v rfl
theorem says_apl {P : Program} {s : Sem Next} {r : Option (List Value)} {k : List Value → Sh} (h : ∀ v, r = some v → (k v).says P s) : (apl r k).says P s := by
 cases r with
 | none => trivial
 | some v => exact h v rfl
theorem says_app {P : Program} {s : Sem Next} {r : Option (List (Nat × Value))} {k : List (Nat × Value) → Sh} (h : ∀ v, r = some v → (k v).says P s) : (app r k).says P s := by
 cases r with
 | none => trivial
 | some v => exact h v rfl
theorem says_apo {P : Program} {s : Sem Next} {r : Option (Option Value)} {k : Option Value → Sh} (h : ∀ v, r = some v → (k v).says P s) : (apo r k).says P s := by
 cases r with
 | none => trivial
 | some v => exact h v rfl
theorem says_pure {P : Program} {s : Sem Next} {r : Option Value} (h : ∀ v, r = some v → ∀ w, s.run P w = .ok (.value v) w) : (Sh.pure r).says P s := by
 cases r with
 | none => trivial
 | some v => exact h v rfl
section
variable {n : Nat} {f : Frm} {a : Act}
theorem evl_map (hf : Fits n f a) : ∀ (xs : List Operand) (vs : List Value), evl f xs = some vs → xs.map a.eval = vs
 | [], vs, h => by simp [evl] at h; subst h; rfl
 | x :: xs, vs, h => by
  simp only [evl] at h
  cases hx : ev f x with
  | none => rw [hx] at h; cases h
  | some v =>
   rw [hx] at h
   cases hxs : evl f xs with
   | none => rw [hxs] at h; cases h
   | some us =>
    rw [hxs] at h
    simp only [Option.some.injEq] at h
    subst h
    simp [hf.eval hx, evl_map hf xs us hxs]
theorem evl_arr (hf : Fits n f a) {xs : Array Operand} {vs : List Value} (h : evl f xs.toList = some vs) : xs.map a.eval = vs.toArray := by
 have := evl_map hf _ _ h
 rw [← this]
 simp [← Array.toList_inj]
theorem evp_map (hf : Fits n f a) : ∀ (xs : List (Nat × Operand)) (vs : List (Nat × Value)), evp f xs = some vs → xs.map (fun p => (p.1, a.eval p.2)) = vs
 | [], vs, h => by simp [evp] at h; subst h; rfl
 | (i, x) :: xs, vs, h => by
  simp only [evp] at h
  cases hx : ev f x with
  | none => rw [hx] at h; cases h
  | some v =>
   rw [hx] at h
   cases hxs : evp f xs with
   | none => rw [hxs] at h; cases h
   | some us =>
    rw [hxs] at h
    simp only [Option.some.injEq] at h
    subst h
    simp [hf.eval hx, evp_map hf xs us hxs]
theorem evp_arr (hf : Fits n f a) {xs : Array (Nat × Operand)} {vs : List (Nat × Value)} (h : evp f xs.toList = some vs) : (xs.map fun (i, x) => (i, a.eval x)) = vs.toArray := by
 have := evp_map hf _ _ h
 rw [← this]
 simp [← Array.toList_inj]
theorem evo_map (hf : Fits n f a) {x : Option Operand} {v : Option Value} (h : evo f x = some v) : x.map a.eval = v := by
 cases x with
 | none => simp [evo] at h; subst h; rfl
 | some x =>
  simp only [evo] at h
  cases hx : ev f x with
  | none => rw [hx] at h; cases h
  | some u => rw [hx] at h; simp only [Option.some.injEq] at h; subst h; simp [hf.eval hx]
end
theorem val_ok {P : Program} {s : Sem Value} {v : Value} {w w' : World} (h : s.run P w = .ok v w') : (do pure (Next.value (← s)) : Sem Next).run P w = .ok (.value v) w' := by
 rw [Sem.run_bind, h]; rfl
theorem unit_ok {P : Program} {s : Sem Unit} {w w' : World} (h : s.run P w = .ok () w') : (do s; pure Next.skip : Sem Next).run P w = .ok .skip w' := by
 rw [Sem.run_bind, h]; rfl
theorem callFunc_ok {P : Program} {g : Nat} {args : Array Value} (h : fnOk P g) (w : World) : (callFunc g args).run P w = .ok (.enter g args) w := by
 obtain ⟨fn, h1, h2, h3⟩ := h
 simp only [callFunc, Sem.run_bind]
 show (match P.funcs[g]? with | none => _ | some fn => _ : Sem Next).run P w = _
 rw [h1]
 simp [h2, h3]
theorem plOf_run {P : Program} {w : World} : ∀ (fs : List Field) (pl : List (Nat × Nat)), plOf P fs = some pl →
  (fs.mapM fun f => do pure (f.offset, ← sizeOf f.type) : Sem (List (Nat × Nat))).run P w = .ok pl w
 | [], pl, h => by simp only [plOf, Option.some.injEq] at h; subst h; rfl
 | fd :: r, pl, h => by
  simp only [plOf] at h
  split at h
  ·cases h
  ·rename_i i hi
   split at h
   ·cases h
   ·rename_i l hl
    simp only [Option.some.injEq] at h
    subst h
    have ih := plOf_run (w := w) r l hl
    simp at ih
    simp [List.mapM_cons, run_sizeOf' hi, ih]
theorem build_struct {P : Program} {w : World} {t : TypeId} {ti : TypeInfo} {z : Value} {fs : Array Field} {pl : List (Nat × Nat)} {parts : List (Nat × Value)} {v : Value}
  (hi : P.info? t = some ti) (hz : ti.zero = some z) (hu : P.underlying t = some (.struct fs)) (hp : plOf P fs.toList = some pl) (h : bldP (fun i => pl[i]?) z.cells.toList parts = some v) :
  (Instr.build t parts.toArray).run P w = .ok v w := by
 unfold bldP at h
 split at h
 ·rename_i cs hcs
  simp only [Option.some.injEq] at h
  subst h
  have h1 := fillL_run _ _ _ _ hcs
  have h2 := plOf_run (w := w) _ _ hp
  have h3 : (fs.mapM fun f => do pure (f.offset, ← sizeOf f.type) : Sem (Array (Nat × Nat))).run P w = .ok pl.toArray w := by
   rw [← Array.toArray_toList (xs := fs)]
   rw [List.mapM_toArray]
   rw [← bind_pure_comp, Sem.run_bind, h2]
   rfl
  simp only [Array.toArray_toList] at h1
  have h4 : Instr.fill (fun x => pl.toArray[x]?) z.cells parts = some cs.toArray := by
   rw [← h1]; congr 1; funext x; simp
  simp only [Instr.build, Sem.run_bind, run_zeroValue' hi hz, run_underlying hu, Result.andThen_ok, h3]
  rw [h4]
  rfl
 ·cases h
theorem build_array {P : Program} {w : World} {t e : TypeId} {n : Nat} {ti ei : TypeInfo} {z : Value} {parts : List (Nat × Value)} {v : Value}
  (hi : P.info? t = some ti) (hz : ti.zero = some z) (hu : P.underlying t = some (.array n e)) (he : P.info? e = some ei) (h : bldP (fun i => some (i * ei.size, ei.size)) z.cells.toList parts = some v) :
  (Instr.build t parts.toArray).run P w = .ok v w := by
 unfold bldP at h
 split at h
 ·rename_i cs hcs
  simp only [Option.some.injEq] at h
  subst h
  have h1 := fillL_run _ _ _ _ hcs
  simp only [Array.toArray_toList] at h1
  simp only [Instr.build, Sem.run_bind, run_zeroValue' hi hz, run_underlying hu, Result.andThen_ok, run_sizeOf' he]
  rw [h1]
  rfl
 ·cases h
theorem shape_says {P : Program} {CB : Nat → Bool} (hCB : ∀ g, CB g = true → fnOk P g) (o : Oper) {n : Nat} {f : Frm} {a : Act} (hf : Fits n f a) :
  (shape P CB o f).says P (execOp a.eval o) := by
 obtain ⟨dst, op, type, pos, after, guard⟩ := o
 cases op
 case move x => exact says_ap1 fun v hv w => by simp [execOp, hf.eval hv]
 case assign x => exact says_ap1 fun v hv w => by simp [execOp, hf.eval hv]
 case pick c x y =>
  refine says_ap1 fun vc hc => says_ap1 fun va ha => says_ap1 fun vb hb => says_pure fun v hv w => ?_
  simp only [execOp, hf.eval hc, hf.eval ha, hf.eval hb]
  unfold pickP at hv
  split at hv
  ·rename_i b
   simp only [Option.some.injEq] at hv
   subst hv
   simp [asBool]
  ·cases hv
 case alloc t => exact fun w v w' h => val_ok h
 case box t x => exact says_ap1 fun v hv w u w' h => by simp only [execOp, hf.eval hv]; exact val_ok h
 case build t parts =>
  simp only [shape]
  split <;> try trivial
  rename_i ti hti
  split <;> try trivial
  rename_i z hz
  split <;> try trivial
  ·rename_i fs hfs
   split <;> try trivial
   rename_i pl hpl
   refine says_app fun ps hps => says_pure fun v hv w => ?_
   simp only [execOp, evp_arr hf hps]
   exact val_ok (build_struct hti hz hfs hpl hv)
  ·rename_i n e hfs
   split <;> try trivial
   rename_i ei hei
   refine says_app fun ps hps => says_pure fun v hv w => ?_
   simp only [execOp, evp_arr hf hps]
   exact val_ok (build_array hti hz hfs hei hv)
 case buildSlice t n parts => exact says_app fun ps hps w u w' h => by simp only [execOp, evp_arr hf hps]; exact val_ok h
 case insert t m k x => exact says_ap1 fun vm hm => says_ap1 fun vk hk => says_ap1 fun vx hx w w' h => by simp only [execOp, hf.eval hm, hf.eval hk, hf.eval hx]; exact unit_ok h
 case load t x => exact says_ap1 fun v hv w u w' h => by simp only [execOp, hf.eval hv]; exact val_ok h
 case store t x y => exact says_ap1 fun va ha => says_ap1 fun vx hx w w' h => by simp only [execOp, hf.eval ha, hf.eval hx]; exact unit_ok h
 case nilCheck x =>
  refine says_ap1 fun vx hx => says_pure fun v hv w => ?_
  simp only [execOp, hf.eval hx]
  unfold nilP at hv
  split at hv
  ·simp only [Option.some.injEq] at hv; subst hv; rfl
  ·simp only [Option.some.injEq] at hv; subst hv; rfl
  ·cases hv
 case binOp op t x y yt =>
  simp only [shape]
  refine says_ap1 fun va ha => says_ap1 fun vb hb => ?_
  have hread : (Sh.read (aggEq op t va vb)).says P (execOp a.eval ⟨dst, .binOp op t x y yt, type, pos, after, guard⟩) := by
   intro w v w' h
   simp only [execOp, hf.eval ha, hf.eval hb]
   refine val_ok ?_
   unfold aggEq at h
   split at h
   ·exact h
   ·cases h
  split
  ·exact says_pure fun v hv w => by simp only [execOp, hf.eval ha, hf.eval hb]; exact val_ok (binP_run hv w)
  ·exact says_pure fun v hv w => by simp only [execOp, hf.eval ha, hf.eval hb]; exact val_ok (binP_run hv w)
  ·exact hread
  ·exact hread
  ·rename_i d _ _ _ _ hd
   exact says_pure fun v hv w => by simp only [execOp, hf.eval ha, hf.eval hb]; exact val_ok (eqP_run hd hv w)
  ·trivial
 case unOp op t x => exact says_ap1 fun va ha => says_pure fun v hv w => by simp only [execOp, hf.eval ha]; exact val_ok (unP_run hv w)
 case convert src dst x =>
  simp only [shape]
  refine says_ap1 fun va ha => ?_
  split
  ·rename_i k d hk hd
   exact says_pure fun v hv w => by simp only [execOp, hf.eval ha]; exact val_ok (cvtInt_run hd hk hv)
  ·rename_i hk hd
   exact says_pure fun v hv w => by simp only [execOp, hf.eval ha]; exact val_ok (cvtStr_run hd hk hv)
  ·exact fun w v w' h => by simp only [execOp, hf.eval ha]; exact val_ok h
  ·exact fun w v w' h => by simp only [execOp, hf.eval ha]; exact val_ok h
 case makeInterface t x => exact says_ap1 fun v hv w u w' h => by simp only [execOp, hf.eval hv]; exact val_ok h
 case makeFunc fn first captured =>
  refine says_apl fun fi hfi => says_apl fun ca hca => fun w => ?_
  simp only [execOp, evl_arr hf hfi, evl_arr hf hca]
  exact val_ok rfl
 case makeMap t r =>
  refine says_apo fun vr hr => fun w v w' h => ?_
  simp only [execOp, evo_map hf hr]
  exact val_ok h
 case makeSlice t l c => exact says_ap1 fun vl hl => says_ap1 fun vc hc w v w' h => by simp only [execOp, hf.eval hl, hf.eval hc]; exact val_ok h
 case slice t x lo hi mx =>
  simp only [shape]
  split
  ·rename_i ht
   split
   ·refine says_ap1 fun vx hx => says_apo fun vl hl => says_apo fun vh hh => says_pure fun v hv w => ?_
    simp only [execOp, hf.eval hx, evo_map hf hl, evo_map hf hh]
    exact val_ok (slcStr_run ht hv)
   ·trivial
  ·rename_i e ht
   split <;> try trivial
   rename_i i hi'
   refine says_ap1 fun vx hx => says_apo fun vl hl => says_apo fun vh hh => says_apo fun vm hm => says_pure fun v hv w => ?_
   simp only [execOp, hf.eval hx, evo_map hf hl, evo_map hf hh, evo_map hf hm]
   exact val_ok (slcS_run ht hi' hv)
  ·rename_i n e ht
   split <;> try trivial
   rename_i i hi'
   refine says_ap1 fun vx hx => says_apo fun vl hl => says_apo fun vh hh => says_apo fun vm hm => says_pure fun v hv w => ?_
   simp only [execOp, hf.eval hx, evo_map hf hl, evo_map hf hh, evo_map hf hm]
   exact val_ok (slcA_run ht hi' hv)
  ·trivial
 case fieldAddr s x fld =>
  simp only [shape]
  split <;> try trivial
  rename_i fs hfs
  split <;> try trivial
  rename_i fd hfd
  split <;> try trivial
  rename_i i hi
  split <;> try trivial
  rename_i h0
  refine says_ap1 fun vx hx => says_pure fun v hv w => ?_
  simp only [execOp, hf.eval hx]
  exact val_ok (addrF_run hfs hfd hi (fun h => by rw [h] at h0; cases h0) hv)
 case field s x fld =>
  simp only [shape]
  split <;> try trivial
  rename_i fs hfs
  split <;> try trivial
  rename_i fd hfd
  split <;> try trivial
  rename_i i d hi hd
  refine says_ap1 fun vx hx => says_pure fun v hv w => ?_
  simp only [execOp, hf.eval hx]
  exact val_ok (fldV_run hfs hfd hd hi hv)
 case indexAddr t x j =>
  simp only [shape]
  split <;> try trivial
  ·rename_i e ht
   split <;> try trivial
   rename_i i hi
   refine says_ap1 fun vx hx => says_ap1 fun vj hj => says_pure fun v hv w => ?_
   simp only [execOp, hf.eval hx, hf.eval hj]
   exact val_ok (idxS_run ht hi hv)
  ·rename_i n e ht
   split <;> try trivial
   rename_i i hi
   refine says_ap1 fun vx hx => says_ap1 fun vj hj => says_pure fun v hv w => ?_
   simp only [execOp, hf.eval hx, hf.eval hj]
   exact val_ok (idxA_run ht hi hv)
 case index t x j =>
  simp only [shape]
  split <;> try trivial
  ·rename_i ht
   refine says_ap1 fun vx hx => says_ap1 fun vj hj => says_pure fun v hv w => ?_
   simp only [execOp, hf.eval hx, hf.eval hj]
   exact val_ok (idxStr_run ht hv)
  ·rename_i n e ht
   split <;> try trivial
   rename_i i d hi hd
   refine says_ap1 fun vx hx => says_ap1 fun vj hj => says_pure fun v hv w => ?_
   simp only [execOp, hf.eval hx, hf.eval hj]
   exact val_ok (idxV_run ht hd hi hv)
 case lookup t x j ok => exact says_ap1 fun vx hx => says_ap1 fun vj hj w v w' h => by simp only [execOp, hf.eval hx, hf.eval hj]; exact val_ok h
 case mapUpdate t m k x => exact says_ap1 fun vm hm => says_ap1 fun vk hk => says_ap1 fun vx hx w w' h => by simp only [execOp, hf.eval hm, hf.eval hk, hf.eval hx]; exact unit_ok h
 case mapEntry t m k => exact says_ap1 fun vm hm => says_ap1 fun vk hk w v w' h => by simp only [execOp, hf.eval hm, hf.eval hk]; exact val_ok h
 case entryStore t m s x => exact says_ap1 fun vm hm => says_ap1 fun vk hk => says_ap1 fun vx hx w w' h => by simp only [execOp, hf.eval hm, hf.eval hk, hf.eval hx]; exact unit_ok h
 case range t x => exact says_ap1 fun vx hx w v w' h => by simp only [execOp, hf.eval hx]; exact val_ok h
 case entry x => exact says_ap1 fun vx hx w v w' h => by simp only [execOp, hf.eval hx]; exact val_ok h
 case next x b => exact says_ap1 fun vx hx w v w' h => by simp only [execOp, hf.eval hx]; exact val_ok h
 case typeAssert x t u ok => exact says_ap1 fun vx hx w v w' h => by simp only [execOp, hf.eval hx]; exact val_ok h
 case extract x i =>
  refine says_ap1 fun vx hx => says_pure fun v hv w => ?_
  simp only [execOp, hf.eval hx]
  unfold extP at hv
  split at hv
  ·exact val_ok (by simp [Instr.extract, hv])
  ·cases hv
 case call c =>
  obtain ⟨callee, cargs, ats⟩ := c
  simp only [shape]
  split
  ·rename_i b
   refine says_apl fun xs hxs => ?_
   have hex : execOp a.eval ⟨dst, .call ⟨.builtin b, cargs, ats⟩, type, pos, after, guard⟩ = builtin b ats type (cargs.map fun | .const _ => true | _ => false) xs.toArray := by
    simp only [execOp, resolve, evl_arr hf hxs]
    rfl
   rw [hex]
   split
   ·split <;> try trivial
    rename_i t x ht hx
    split <;> try trivial
    ·exact fun w v w' h => val_ok h
    ·rename_i d _ hd
     refine says_pure fun v hv w => ?_
     exact val_ok (lenP_run ht (by simpa using hx) hd hv)
   ·split <;> try trivial
    rename_i t x ht hx
    split <;> try trivial
    rename_i d hd
    refine says_pure fun v hv w => ?_
    exact val_ok (capP_run ht (by simpa using hx) hd hv)
   ·exact says_pure fun v hv w => val_ok (max_run hv)
   ·exact says_pure fun v hv w => val_ok (min_run hv)
   ·exact fun w v w' h => val_ok h
   ·exact fun w v w' h => val_ok h
   ·exact fun w v w' h => val_ok h
   ·exact fun w v w' h => val_ok h
   ·trivial
  ·rename_i g
   split <;> try trivial
   rename_i hg
   refine says_apl fun xs hxs => fun w => ?_
   simp only [execOp, resolve, evl_arr hf hxs, Act.eval, Deferred.ofValue]
   simp only [pure_bind, invoke]
   have := callFunc_ok (args := xs.toArray) (hCB g hg) w
   simpa using this
  ·rename_i x _
   refine says_ap1 fun v hv => says_apl fun xs hxs => ⟨fun g fi ca w hvv hg => ?_, fun l fi ca w hvv => ?_⟩
   ·simp only [execOp, resolve, evl_arr hf hxs, hf.eval hv, hvv, Deferred.ofValue]
    simp only [pure_bind, invoke]
    exact callFunc_ok hg w
   ·simp only [execOp, resolve, evl_arr hf hxs, hf.eval hv, hvv, Deferred.ofValue]
    simp only [pure_bind, invoke]
  ·trivial
 all_goals trivial
end Go.Eng
namespace Go.Eng
set_option linter.unusedVariables false
set_option linter.unusedSimpArgs false
open Go
structure Hold where
 idx : Nat
 S : World → Prop
def hold (J : List Hold) (w : World) : Prop := ∀ h ∈ J, h.S w
def dmask (o : Oper) : Nat := o.after.toList.foldl (fun m e => bif Region.binds .any e then Nat.lor m (Nat.shiftLeft 1 e.on) else m) 0
def amask (acc : List Nat) (o : Oper) : Nat := o.after.toList.foldl (fun m e => bif Region.binds .any e then Nat.lor (Nat.lor m (Nat.shiftLeft 1 e.on)) (acc.getD e.on 0) else m) 0
def masks : List Oper → List Nat → List Nat
 | [], acc => acc
 | o :: os, acc => masks os (acc ++ [amask acc o])
def tb (m i : Nat) : Bool := Nat.testBit m i
section
variable {P : Program} {ops : Array Oper} {Q : Exit → Act → World → Prop}
def dropJ (P : Program) (ops : Array Oper) (ms : List Nat) (J : List Hold) (i : Nat) : List Hold :=
 match ops[i]? with
 | some o => bif isFl P o then J else J.filter fun h => !tb (ms.getD i 0) h.idx
 | none => J
def wpAnyJ (P : Program) (ops : Array Oper) (ms : List Nat) (Q : Exit → Act → World → Prop) : Nat → Array Bool → List Hold → Act → World → Prop
 | 0, listed, _, a, w => Region.ready .any ops listed = [] ∧ Q .normal a w
 | fuel + 1, listed, J, a, w =>
  (Region.ready .any ops listed = [] → Q .normal a w) ∧
  ∀ i ∈ Region.ready .any ops listed, wpOp P ops Q i (fun a' w' => hold (dropJ P ops ms J i) w' ∧ wpAnyJ P ops ms Q fuel (listed.setIfInBounds i true) (dropJ P ops ms J i) a' w') a w
theorem wpAny_of_J {ms : List Nat} : ∀ (fuel : Nat) (listed : Array Bool) (J : List Hold) (a : Act) (w : World), wpAnyJ P ops ms Q fuel listed J a w → wpAny P .any ops Q fuel listed a w
 | 0, _, _, _, _, h => h
 | fuel + 1, _, _, _, _, h => ⟨h.1, fun i hi => wpOp_mono (fun a' w' h' => wpAny_of_J fuel _ _ a' w' h'.2) (h.2 i hi)⟩
theorem dropJ_sub {ms : List Nat} {J J' : List Hold} (h : ∀ x ∈ J, x ∈ J' ∨ ∀ w, x.S w) (i : Nat) : ∀ x ∈ dropJ P ops ms J i, x ∈ dropJ P ops ms J' i ∨ ∀ w, x.S w := by
 intro x hx
 unfold dropJ at *
 split at hx
 ·rename_i o ho
  cases hb : isFl P o with
  | true => simp only [hb, cond_true] at *; exact h x hx
  | false =>
   simp only [hb, cond_false, List.mem_filter] at *
   exact (h x hx.1).imp (fun h' => ⟨h', hx.2⟩) id
 ·exact h x hx
theorem wpAnyJ_sub {ms : List Nat} : ∀ (fuel : Nat) (listed : Array Bool) (J J' : List Hold) (a : Act) (w : World), (∀ x ∈ J, x ∈ J' ∨ ∀ w, x.S w) →
  wpAnyJ P ops ms Q fuel listed J' a w → wpAnyJ P ops ms Q fuel listed J a w
 | 0, _, _, _, _, _, _, h => h
 | fuel + 1, _, J, J', _, _, hs, h => ⟨h.1, fun i hi => wpOp_mono (fun a' w' h' => ⟨fun x hx => (dropJ_sub hs i x hx).elim (h'.1 x) (fun h => h w'),
   wpAnyJ_sub fuel _ _ _ a' w' (dropJ_sub hs i) h'.2⟩) (h.2 i hi)⟩
def DC (ops : Array Oper) (listed : Array Bool) : Prop :=
 ∀ j o, ops[j]? = some o → listed.getD j false = true → ∀ e ∈ o.after, Region.binds .any e = true → listed.getD e.on false = true
theorem DC.set {listed : Array Bool} {i : Nat} (h : DC ops listed) (hi : i ∈ Region.ready .any ops listed) : DC ops (listed.setIfInBounds i true) := by
 intro j o hj hl e he hb
 by_cases hij : i = j
 ·subst hij
  obtain ⟨_, o', ho', hall⟩ := mem_ready.1 hi
  rw [hj] at ho'
  cases ho'
  exact getD_set_true (hall e he hb)
 ·rw [getD_set_ne false hij] at hl
  exact getD_set_true (h j o hj hl e he hb)
theorem masks_spec {listed : Array Bool} (hd : DC ops listed) : ∀ (os : List Oper) (acc : List Nat), (∀ k, os[k]? = ops[acc.length + k]?) →
  (∀ j o, j < acc.length → ops[j]? = some o → (∀ e ∈ o.after, Region.binds .any e = true → listed.getD e.on false = true) → ∀ i, tb (acc.getD j 0) i = true → listed.getD i false = true) →
  ∀ j o, ops[j]? = some o → j < acc.length + os.length → (∀ e ∈ o.after, Region.binds .any e = true → listed.getD e.on false = true) → ∀ i, tb ((masks os acc).getD j 0) i = true → listed.getD i false = true
 | [], acc, _, h, j, o, hj, hlt, hall, i, ht => h j o (by simpa using hlt) hj hall i ht
 | x :: os, acc, hos, h, j, o, hj, hlt, hall, i, ht => by
  refine masks_spec hd os (acc ++ [amask acc x]) ?_ ?_ j o hj (by simp at hlt ⊢; omega) hall i (by simpa [masks] using ht)
  ·intro k
   have := hos (k + 1)
   simp only [List.getElem?_cons_succ] at this
   rw [this]
   congr 1
   simp; omega
  ·intro j o hjl hj hall i ht
   simp only [List.length_append, List.length_cons, List.length_nil, Nat.zero_add] at hjl
   by_cases hjl' : j < acc.length
   ·rw [List.getD_eq_getElem?_getD, List.getElem?_append_left hjl', ← List.getD_eq_getElem?_getD] at ht
    exact h j o hjl' hj hall i ht
   ·have hje : j = acc.length := by omega
    subst hje
    rw [List.getD_eq_getElem?_getD, List.getElem?_append_right (Nat.le_refl _)] at ht
    simp only [Nat.sub_self, List.getElem?_cons_zero, Option.getD_some] at ht
    have hx : x = o := by
     have := hos 0
     simp only [List.getElem?_cons_zero, Nat.add_zero] at this
     rw [hj] at this
     exact Option.some.inj this
    subst hx
    -- along the edges
    have key : ∀ (l : List Edge) (m : Nat), (∀ i, tb m i = true → listed.getD i false = true) → (∀ e ∈ l, Region.binds .any e = true → listed.getD e.on false = true) →
      ∀ i, tb (l.foldl (fun m e => bif Region.binds .any e then Nat.lor (Nat.lor m (Nat.shiftLeft 1 e.on)) (acc.getD e.on 0) else m) m) i = true → listed.getD i false = true := by
     intro l
     induction l with
     | nil => exact fun m hm _ i hi => hm i hi
     | cons e l ih =>
      intro m hm hl i hi
      simp only [List.foldl_cons] at hi
      refine ih _ ?_ (fun e' he' => hl e' (List.mem_cons_of_mem _ he')) i hi
      intro i hi
      cases hb : Region.binds .any e with
      | false => rw [hb] at hi; exact hm i hi
      | true =>
       rw [hb] at hi
       simp only [cond_true] at hi
       have hle := hl e (List.mem_cons_self) hb
       have hi' : ((m ||| 1 <<< e.on) ||| acc.getD e.on 0).testBit i = true := hi
       rw [Nat.testBit_or, Nat.testBit_or] at hi'
       simp only [Bool.or_eq_true] at hi'
       rcases hi' with (hi' | hi') | hi'
       ·exact hm i hi'
       ·have : e.on = i := by
         rw [Nat.one_shiftLeft, Nat.testBit_two_pow] at hi'
         simpa using hi'
        rw [← this]; exact hle
       ·by_cases hel : e.on < acc.length
        ·cases hoe : ops[e.on]? with
         | none =>
          have h1 : e.on < ops.size := by
           have := Array.getElem?_eq_none_iff.1 hoe
           have h2 : acc.length < ops.size := (Array.getElem?_eq_some_iff.1 hj).1
           omega
          rw [Array.getElem?_eq_getElem h1] at hoe
          cases hoe
         | some oe => exact h e.on oe hel hoe (hd e.on oe hoe hle) i hi'
        ·have : acc.getD e.on 0 = 0 := by rw [List.getD_eq_getElem?_getD, List.getElem?_eq_none (by omega)]; rfl
         rw [this] at hi'
         simp at hi'
    exact key x.after.toList 0 (fun i hi => by simp [tb] at hi) (fun e he hb => hall e (Array.mem_toList_iff.1 he) hb) i ht
theorem not_waits {listed : Array Bool} (hd : DC ops listed) {i j : Nat} (hj : j ∈ Region.ready .any ops listed) (hi : listed.getD i false = false) :
  tb ((masks ops.toList []).getD j 0) i = false := by
 obtain ⟨_, o, ho, hall⟩ := mem_ready.1 hj
 cases ht : tb ((masks ops.toList []).getD j 0) i with
 | false => rfl
 | true =>
  have := masks_spec hd ops.toList [] (by simp) (by simp) j o ho (by have := (Array.getElem?_eq_some_iff.1 ho).1; simpa using this) hall i ht
  rw [this] at hi
  cases hi
def apartAll (ops : Array Oper) (ms : List Nat) : Bool :=
 ops.toList.zipIdx.all fun (x, i) => ops.toList.zipIdx.all fun (y, j) => Nat.beq i j || tb (ms.getD j 0) i || tb (ms.getD i 0) j || x.apart ops y
theorem apartAll_spec {ms : List Nat} (h : apartAll ops ms = true) {i j : Nat} {x y : Oper} (hx : ops[i]? = some x) (hy : ops[j]? = some y) (hne : j ≠ i)
  (h1 : tb (ms.getD j 0) i = false) (h2 : tb (ms.getD i 0) j = false) : x.apart ops y = true := by
 unfold apartAll at h
 simp only [List.all_eq_true] at h
 have hxm : (x, i) ∈ ops.toList.zipIdx := by rw [List.mk_mem_zipIdx_iff_getElem?]; simpa using hx
 have hym : (y, j) ∈ ops.toList.zipIdx := by rw [List.mk_mem_zipIdx_iff_getElem?]; simpa using hy
 have := h _ hxm _ hym
 simp only [h1, h2, Bool.or_false, Bool.or_eq_true] at this
 rcases this with h' | h'
 ·exact absurd (Nat.eq_of_beq_eq_true h').symm hne
 ·exact h'
theorem ready_not {listed : Array Bool} {i : Nat} (hi : i ∈ Region.ready .any ops listed) : listed.getD i false = false := by
 have h0 := (mem_ready.1 hi).1
 rcases Nat.lt_or_ge i listed.size with h' | h'
 ·simpa [h'] using h0
 ·simp [Array.getElem?_eq_none h'] at h0
theorem wpAnyJ_first {i : Nat} {oi : Oper} {v : Value} {S : World → Prop} (hi : ops[i]? = some oi) (hfl : isFl P oi = true) (hap : apartAll ops (masks ops.toList []) = true)
  (hsel : ∀ (j : Nat) (o : Oper) cs b, ops[j]? = some o → o.op ≠ .select cs b)
  (hQ : ∀ c a w, Q (.panic c) (a.put oi.dst v) w → Q (.panic c) a w) :
  ∀ (fuel : Nat) (listed : Array Bool) (J : List Hold) (a : Act) (w : World), DC ops listed → i ∈ Region.ready .any ops listed → YieldsIf P ops S oi v a → S w → hold J w →
   wpAnyJ P ops (masks ops.toList []) Q fuel (listed.setIfInBounds i true) (⟨i, S⟩ :: J) (a.put oi.dst v) w → wpAnyJ P ops (masks ops.toList []) Q (fuel + 1) listed J a w := by
 have hdi : ∀ J, dropJ P ops (masks ops.toList []) J i = J := fun J => by simp [dropJ, hi, hfl]
 intro fuel
 induction fuel with
 | zero =>
  intro listed J a w hd hr hy hS hJ H
  refine ⟨fun h => (by rw [h] at hr; cases hr), fun j hj => ?_⟩
  by_cases hji : j = i
  ·subst hji
   refine hy.wpOp hi hS ?_
   rw [hdi]
   exact ⟨hJ, H⟩
  ·have := ready_mono hj hji
   rw [H.1] at this
   cases this
 | succ fuel ih =>
  intro listed J a w hd hr hy hS hJ H
  refine ⟨fun h => (by rw [h] at hr; cases hr), fun j hj => ?_⟩
  by_cases hji : j = i
  ·subst hji
   refine hy.wpOp hi hS ?_
   rw [hdi]
   exact ⟨hJ, wpAnyJ_sub _ _ _ _ _ _ (fun x hx => .inl (List.mem_cons_of_mem _ hx)) H⟩
  ·have h1 := H.2 j (ready_mono hj hji)
   obtain ⟨hjun, oj, hoj, hall⟩ := mem_ready.1 hj
   have hw1 := not_waits hd hj (ready_not hr)
   have hw2 := not_waits hd hr (ready_not hj)
   have h2 := wpOp_putIf hoj (apartAll_spec hap hi hoj hji hw1 hw2) (fun cs b => hsel i oi cs b hi) (fun cs b => hsel j oj cs b hoj) hQ hy h1
   have hmem : ∀ J, (⟨i, S⟩ : Hold) ∈ dropJ P ops (masks ops.toList []) (⟨i, S⟩ :: J) j := by
    intro J
    simp only [dropJ, hoj]
    cases isFl P oj with
    | true => simp
    | false => simp only [cond_false, List.mem_filter, List.mem_cons, true_or, hw1]; exact ⟨trivial, rfl⟩
   have hsub : ∀ J, ∀ x ∈ dropJ P ops (masks ops.toList []) J j, x ∈ dropJ P ops (masks ops.toList []) (⟨i, S⟩ :: J) j := by
    intro J x hx
    simp only [dropJ, hoj] at *
    cases hfj : isFl P oj with
    | true => simp only [hfj, cond_true] at *; exact List.mem_cons_of_mem _ hx
    | false => simp only [hfj, cond_false, List.mem_filter] at *; exact ⟨List.mem_cons_of_mem _ hx.1, hx.2⟩
   refine wpOp_mono (fun a' w' h3 => ?_) h2
   obtain ⟨hy', hhold, h3⟩ := h3
   refine ⟨fun x hx => hhold x (hsub J x hx), ?_⟩
   refine ih (listed.setIfInBounds j true) _ a' w' (hd.set hj) (ready_mono hr (Ne.symm hji)) hy' (hhold _ (hmem J)) (fun x hx => hhold x (hsub J x hx)) ?_
   rw [Array.setIfInBounds_comm _ _ hji]
   refine wpAnyJ_sub _ _ _ _ _ _ ?_ h3
   intro x hx
   rcases List.mem_cons.1 hx with rfl | hx
   ·exact .inl (hmem J)
   ·exact .inl (hsub J x hx)
theorem wpAnyJ_all {ms : List Nat} {rs : List Nat} {fuel : Nat} {listed : Array Bool} {J : List Hold} {a : Act} {w : World} (hr : ∀ i ∈ Region.ready .any ops listed, i ∈ rs) (hne : Region.ready .any ops listed = [] → Q .normal a w)
  (h : ∀ i ∈ rs, i ∈ Region.ready .any ops listed → wpOp P ops Q i (fun a' w' => hold (dropJ P ops ms J i) w' ∧ wpAnyJ P ops ms Q fuel (listed.setIfInBounds i true) (dropJ P ops ms J i) a' w') a w) : wpAnyJ P ops ms Q (fuel + 1) listed J a w :=
 ⟨hne, fun i hi => h i (hr i hi) hi⟩
end
end Go.Eng
namespace Go.Eng
set_option linter.unusedVariables false
set_option linter.unusedSimpArgs false
open Go
def vcK (P : Program) (v : Value) (args : List Value) (k : Value → World → Prop) (W : World) : Prop :=
 match v with
 | .func (.func g) fi ca => fnOk P g ∧ callK P g (fi.toList ++ args ++ ca.toList) k W
 | _ => False
abbrev shK (P : Program) (sh : Sh) (k : Value → World → Prop) (W : World) : Prop :=
 match sh with
 | .val v => k v W
 | .pure r => okF r fun v => k v W
 | .read s => rdK P s k W
 | .eff s => efK P s k W
 | .effU s => efK P s (fun _ W' => k undef W') W
 | .call g args => callK P g args k W
 | .vcall v args => vcK P v args k W
 | .bad => False
def wantd (c : Value) (want : Bool) : Bool := match c with | .bool b => b == want | _ => false
def gdK (b : Bool) (A : (Value → World → Prop) → World → Prop) (k : Value → World → Prop) (W : World) : Prop := match b with | true => A k W | false => k undef W
abbrev guardOf (ops : Array Oper) (f : Frm) (j : Nat) : Option Value := match ops[j]? with | some o => (match o.dst with | some d => f d | none => none) | none => none
abbrev stepK (P : Program) (CB : Nat → Bool) (ops : Array Oper) (o : Oper) (f : Frm) (k : Value → World → Prop) (W : World) : Prop :=
 match o.guard with
 | none => shK P (shape P CB o f) k W
 | some (j, want) => match guardOf ops f j with
  | some c => gdK (wantd c want) (fun k W => shK P (shape P CB o f) k W) k W
  | none => False
theorem Fits.wanted {n : Nat} {f : Frm} {a : Act} (hf : Fits n f a) {ops : Array Oper} {o : Oper} {j : Nat} {want : Bool} {c : Value} (hg : o.guard = some (j, want)) (hc : guardOf ops f j = some c) :
  Region.wanted o (yielded ops a.tmps) = wantd c want := by
 unfold guardOf at hc
 split at hc
 ·rename_i oj hoj
  split at hc
  ·rename_i d hd
   have := hf.tmps d c hc
   simp only [Region.wanted, hg, yielded, hoj, hd, Option.bind_some, this]
   cases c <;> simp [wantd]
  ·cases hc
 ·cases hc
section
variable {P : Program} {CB : Nat → Bool} {n : Nat}
theorem shK_wp (hCB : ∀ g, CB g = true → fnOk P g) {o : Oper} {f : Frm} {a : Act} (hf : Fits n f a) {k : Value → World → Prop} {w : World} {Q : Exit → Act → World → Prop}
  {next : Act → World → Prop} (hk : ∀ v w', k v w' → next (a.put o.dst v) w') (h : shK P (shape P CB o f) k w) : o.wp P a w next Q := by
 have hs := shape_says hCB o hf
 unfold Oper.wp
 generalize shape P CB o f = sh at *
 cases sh with
 | val v => rw [hs w]; exact hk _ _ h
 | pure r =>
  cases r with
  | none => exact h.elim
  | some v => rw [hs w]; exact hk _ _ h
 | read s => obtain ⟨v, h1, h2⟩ := h; rw [hs _ _ _ h1]; exact hk _ _ h2
 | eff s => obtain ⟨v, w', h1, h2⟩ := h; rw [hs _ _ _ h1]; exact hk _ _ h2
 | effU s => obtain ⟨v, w', h1, h2⟩ := h; rw [hs _ _ h1]; exact hk _ _ h2
 | call g args =>
  rw [hs w]
  refine Calls.mono h fun e w' he => ?_
  cases e with
  | returned v => exact hk _ _ he
  | panicked c => exact he.elim
  | outgrown => exact he.elim
 | vcall v args =>
  unfold shK vcK at h
  simp only at h
  split at h
  ·rename_i g fi ca
   rw [hs.1 g fi ca w rfl h.1]
   have h2 := h.2
   have hargs : (fi.toList ++ args ++ ca.toList).toArray = fi ++ args.toArray ++ ca := by simp [← Array.toList_inj]
   unfold callK at h2
   rw [hargs] at h2
   refine Calls.mono h2 fun e w' he => ?_
   cases e with
   | returned v => exact hk _ _ he
   | panicked c => exact he.elim
   | outgrown => exact he.elim
  ·exact h.elim
 | bad => exact h.elim
theorem stepK_wp (hCB : ∀ g, CB g = true → fnOk P g) {ops : Array Oper} {i : Nat} {o : Oper} (ho : ops[i]? = some o) {f : Frm} {a : Act} (hf : Fits n f a) {k : Value → World → Prop} {w : World} {Q : Exit → Act → World → Prop}
  {next : Act → World → Prop} (hk : ∀ v w', k v w' → next (a.put o.dst v) w') (h : stepK P CB ops o f k w) : wpOp P ops Q i next a w := by
 unfold wpOp
 simp only [ho]
 unfold stepK at h
 split at h
 ·rename_i hg
  have hw : Region.wanted o (yielded ops a.tmps) = true := by simp [Region.wanted, hg]
  rw [if_pos hw]
  exact .inl (shK_wp hCB hf hk h)
 ·rename_i j want hg
  split at h
  ·rename_i c hc
   have hw := hf.wanted hg hc
   unfold gdK at h
   split at h
   ·rename_i hb
    rw [hw, if_pos hb]
    exact .inl (shK_wp hCB hf hk h)
   ·rename_i hb
    rw [hw, if_neg (by rw [hb]; simp)]
    exact hk _ _ h
  ·exact h.elim
def opsK (P : Program) (CB : Nat → Bool) (n : Nat) (ops : Array Oper) : List Oper → Frm → (Frm → World → Prop) → World → Prop
 | [], f, K, W => K f W
 | o :: os, f, K, W => match dstOk n o.dst with
  | true => stepK P CB ops o f (fun v W' => opsK P CB n ops os (upo f o.dst v) K W') W
  | false => False
theorem opsK_wp (hCB : ∀ g, CB g = true → fnOk P g) {ops : Array Oper} {Q : Exit → Act → World → Prop} {K : Frm → World → Prop} (hK : ∀ f a w, K f w → Fits n f a → Q .normal a w) :
  ∀ (os : List Oper) (i : Nat) (f : Frm) (a : Act) (w : World), (∀ j, os[j]? = ops[i + j]?) → i + os.length = ops.size → Fits n f a → opsK P CB n ops os f K w → wpOps P ops Q (List.range' i os.length) a w
 | [], i, f, a, w, _, _, hf, h => hK _ _ _ h hf
 | o :: os, i, f, a, w, hos, hl, hf, h => by
  simp only [List.length_cons, List.range'_succ]
  rw [wpOps_cons]
  simp only [opsK] at h
  split at h
  ·rename_i hd
   have ho : ops[i]? = some o := by have := hos 0; simpa using this.symm
   refine stepK_wp hCB ho hf (fun v w' hv => ?_) h
   exact opsK_wp hCB hK os (i + 1) _ _ w' (fun j => by have := hos (j + 1); simp only [List.getElem?_cons_succ] at this; rw [this]; congr 1; omega) (by simp at hl; omega) (hf.upo hd) hv
  ·exact h.elim
def rdyB (d done k : Nat) : Bool := !tb done k && Nat.beq (Nat.land d done) d
def pickFl (P : Program) : List Oper → Nat → Nat → Option Nat
 | [], _, _ => none
 | o :: os, k, done => bif rdyB (dmask o) done k && isFl P o then some k else pickFl P os (k + 1) done
def rdyL : List Oper → Nat → Nat → List Nat
 | [], _, _ => []
 | o :: os, k, done => bif rdyB (dmask o) done k then k :: rdyL os (k + 1) done else rdyL os (k + 1) done
abbrev HoldV := Nat × Bool × Sem Value × Value
def stb (P : Program) : List HoldV → (World → Prop) → World → Prop
 | [], R, W => R W
 | (_, b, s, v) :: t, R, W => (b = true → s.run P W = .ok v W) ∧ stb P t R W
abbrev stbA (P : Program) (J : List HoldV) (R : World → Prop) (W : World) : Prop :=
 match J with
 | [] => R W
 | h :: t => stb P (h :: t) R W
theorem stbA_eq {P : Program} {J : List HoldV} {R : World → Prop} {W : World} : stbA P J R W = stb P J R W := by cases J <;> rfl
def filt (ms : List Nat) (i : Nat) : List HoldV → List HoldV
 | [] => []
 | h :: t => bif tb (ms.getD i 0) h.1 then filt ms i t else h :: filt ms i t
abbrev flK (P : Program) (CB : Nat → Bool) (ops : Array Oper) (o : Oper) (f : Frm) (i : Nat) (J : List HoldV) (k : Value → List HoldV → World → Prop) (W : World) : Prop :=
 match o.guard with
 | none => match shape P CB o f with
  | .val v => k v J W
  | .pure r => okF r fun v => k v J W
  | .read s => rdK P s (fun v W' => k v ((i, true, s, v) :: J) W') W
  | _ => False
 | some (j, want) => match guardOf ops f j with
  | some c => match shape P CB o f with
   | .val v => gdK (wantd c want) (fun k W => k v W) (fun v W' => k v J W') W
   | .pure r => gdK (wantd c want) (fun k W => okF r fun v => k v W) (fun v W' => k v J W') W
   | .read s => gdK (wantd c want) (fun k W => rdK P s k W) (fun v W' => k v ((i, wantd c want, s, v) :: J) W') W
   | _ => False
  | none => False
abbrev efS (P : Program) (CB : Nat → Bool) (ops : Array Oper) (o : Oper) (f : Frm) (J : List HoldV) (k : Value → World → Prop) (W : World) : Prop :=
 match o.guard with
 | none => shK P (shape P CB o f) (fun v W' => stbA P J (fun W' => k v W') W') W
 | some (j, want) => match guardOf ops f j with
  | some c => gdK (wantd c want) (fun k W => shK P (shape P CB o f) (fun v W' => stbA P J (fun W' => k v W') W') W) (fun v W' => k v W') W
  | none => False
def allK (l : List Nat) (A : Nat → Prop) : Prop := match l with
 | [] => True
 | [i] => A i
 | i :: t => A i ∧ allK t A
def drawK (P : Program) (CB : Nat → Bool) (n : Nat) (ops : Array Oper) (ms : List Nat) : Nat → Nat → List HoldV → Frm → (Frm → World → Prop) → World → Prop
 | 0, done, _, f, K, W => match rdyL ops.toList 0 done with
  | [] => K f W
  | _ :: _ => False
 | fuel + 1, done, J, f, K, W => match pickFl P ops.toList 0 done with
  | some i => match ops[i]? with
   | some o => match dstOk n o.dst with
    | true => flK P CB ops o f i J (fun v J' W' => drawK P CB n ops ms fuel (Nat.lor done (Nat.shiftLeft 1 i)) J' (upo f o.dst v) K W') W
    | false => False
   | none => False
  | none => match rdyL ops.toList 0 done with
   | [] => K f W
   | i :: l => allK (i :: l) fun i => match ops[i]? with
    | some o => match dstOk n o.dst with
     | true => match isFl P o with
      | false => efS P CB ops o f (filt ms i J) (fun v W' => drawK P CB n ops ms fuel (Nat.lor done (Nat.shiftLeft 1 i)) (filt ms i J) (upo f o.dst v) K W') W
      | true => False
     | false => False
    | none => False
def JH (P : Program) (J : List HoldV) : List Hold := J.map fun h => ⟨h.1, fun w => h.2.1 = true → h.2.2.1.run P w = .ok h.2.2.2 w⟩
theorem allK_mem {A : Nat → Prop} : ∀ {l : List Nat}, allK l A → ∀ i ∈ l, A i
 | [], _, i, hi => by cases hi
 | [j], h, i, hi => by simp at hi; subst hi; exact h
 | j :: k :: t, h, i, hi => by
  rcases List.mem_cons.1 hi with rfl | hi
  ·exact h.1
  ·exact allK_mem h.2 i hi
structure Rel (ops : Array Oper) (listed : Array Bool) (done : Nat) : Prop where
 size : listed.size = ops.size
 bits : ∀ k, listed.getD k false = tb done k
theorem Rel.set {ops : Array Oper} {listed : Array Bool} {done i : Nat} (h : Rel ops listed done) (hi : i < ops.size) : Rel ops (listed.setIfInBounds i true) (Nat.lor done (Nat.shiftLeft 1 i)) := by
 refine ⟨by simp [h.size], fun k => ?_⟩
 have hb : tb (Nat.lor done (Nat.shiftLeft 1 i)) k = (tb done k || decide (i = k)) := by
  show (done ||| 1 <<< i).testBit k = _
  rw [Nat.testBit_or, Nat.one_shiftLeft, Nat.testBit_two_pow]
  rfl
 rw [hb]
 by_cases hik : i = k
 ·subst hik
  simp [h.size, hi]
 ·rw [getD_set_ne false hik, h.bits]
  simp [hik]
theorem dmask_bit (o : Oper) (i : Nat) : tb (dmask o) i = true ↔ ∃ e ∈ o.after, Region.binds .any e = true ∧ e.on = i := by
 have key : ∀ (l : List Edge) (m : Nat), tb (l.foldl (fun m e => bif Region.binds .any e then Nat.lor m (Nat.shiftLeft 1 e.on) else m) m) i = true ↔ tb m i = true ∨ ∃ e ∈ l, Region.binds .any e = true ∧ e.on = i := by
  intro l
  induction l with
  | nil => simp
  | cons e l ih =>
   intro m
   simp only [List.foldl_cons, ih]
   cases hb : Region.binds .any e with
   | false => simp [hb]
   | true =>
    simp only [cond_true]
    have : tb (Nat.lor m (Nat.shiftLeft 1 e.on)) i = (tb m i || decide (e.on = i)) := by
     show (m ||| 1 <<< e.on).testBit i = _
     rw [Nat.testBit_or, Nat.one_shiftLeft, Nat.testBit_two_pow]
     rfl
    rw [this]
    simp only [Bool.or_eq_true, decide_eq_true_eq, List.mem_cons, exists_eq_or_imp, hb, true_and]
    rw [or_assoc]
 have := key o.after.toList 0
 simp only [Array.mem_toList_iff] at this
 have h0 : tb 0 i = false := by simp [tb]
 rw [h0] at this
 simpa [dmask] using this
theorem rdyB_iff {ops : Array Oper} {listed : Array Bool} {done k : Nat} {o : Oper} (h : Rel ops listed done) (ho : ops[k]? = some o) :
  rdyB (dmask o) done k = true ↔ k ∈ Region.ready .any ops listed := by
 have hk := (Array.getElem?_eq_some_iff.1 ho).1
 have h1 : listed.getD k true = listed.getD k false := by simp [h.size, hk]
 rw [mem_ready, h1, h.bits]
 unfold rdyB
 simp only [Bool.and_eq_true, Bool.not_eq_true']
 refine and_congr Iff.rfl ?_
 constructor
 ·intro hb
  have hb' : dmask o &&& done = dmask o := Nat.eq_of_beq_eq_true hb
  refine ⟨o, ho, fun e he hbi => ?_⟩
  rw [h.bits]
  have h2 := (dmask_bit o e.on).2 ⟨e, he, hbi, rfl⟩
  have h3 : (dmask o &&& done).testBit e.on = true := by rw [hb']; exact h2
  rw [Nat.testBit_and] at h3
  simp only [Bool.and_eq_true] at h3
  exact h3.2
 ·rintro ⟨o', ho', hall⟩
  rw [ho] at ho'
  cases ho'
  have : dmask o &&& done = dmask o := by
   apply Nat.eq_of_testBit_eq
   intro i
   rw [Nat.testBit_and]
   cases hd : (dmask o).testBit i with
   | false => rfl
   | true =>
    obtain ⟨e, he, hbi, rfl⟩ := (dmask_bit o i).1 hd
    have h4 : done.testBit e.on = true := by rw [← hall e he hbi, h.bits]; rfl
    simp [h4]
  show Nat.beq (dmask o &&& done) (dmask o) = true
  rw [this]
  exact Nat.beq_refl _
theorem pickFl_spec {ops : Array Oper} {done : Nat} : ∀ (os : List Oper) (k i : Nat), (∀ j, os[j]? = ops[k + j]?) → pickFl P os k done = some i → ∃ o, ops[i]? = some o ∧ rdyB (dmask o) done i = true ∧ isFl P o = true
 | [], k, i, _, h => by cases h
 | o :: os, k, i, hos, h => by
  simp only [pickFl] at h
  cases hb : rdyB (dmask o) done k && isFl P o with
  | true =>
   rw [hb] at h
   simp only [cond_true, Option.some.injEq] at h
   subst h
   simp only [Bool.and_eq_true] at hb
   exact ⟨o, by have := hos 0; simpa using this.symm, hb.1, hb.2⟩
  | false =>
   rw [hb] at h
   exact pickFl_spec os (k + 1) i (fun j => by have := hos (j + 1); simp only [List.getElem?_cons_succ] at this; rw [this]; congr 1; omega) h
theorem rdyL_spec {ops : Array Oper} {done : Nat} : ∀ (os : List Oper) (k i : Nat) (o : Oper), (∀ j, os[j]? = ops[k + j]?) → k ≤ i → ops[i]? = some o → rdyB (dmask o) done i = true → i ∈ rdyL os k done
 | [], k, i, o, hos, hk, ho, hb => by
  have := hos (i - k)
  rw [show k + (i - k) = i from by omega, ho] at this
  simp at this
 | x :: os, k, i, o, hos, hk, ho, hb => by
  by_cases hki : k = i
  ·subst hki
   have : x = o := by have := hos 0; simp [ho] at this; exact this
   subst this
   simp [rdyL, hb]
  ·have := rdyL_spec (ops := ops) os (k + 1) i o (fun j => by have := hos (j + 1); simp only [List.getElem?_cons_succ] at this; rw [this]; congr 1; omega) (by omega) ho hb
   simp only [rdyL]
   cases rdyB (dmask x) done k with
   | true => exact List.mem_cons_of_mem _ this
   | false => exact this
theorem filt_JH {ops : Array Oper} {ms : List Nat} {i : Nat} {o : Oper} (ho : ops[i]? = some o) (hf : isFl P o = false) : ∀ (J : List HoldV), JH P (filt ms i J) = dropJ P ops ms (JH P J) i
 | [] => by simp [filt, JH, dropJ, ho, hf]
 | h :: t => by
  have ih := filt_JH (ms := ms) ho hf t
  simp only [dropJ, ho, hf, cond_false] at ih ⊢
  simp only [filt, JH, List.map_cons, List.filter_cons] at *
  cases hb : tb (ms.getD i 0) h.1 with
  | true => simp [ih]
  | false => simp [ih]
theorem stb_hold : ∀ {J : List HoldV} {R : World → Prop} {w : World}, stb P J R w → hold (JH P J) w ∧ R w
 | [], _, _, h => ⟨fun x hx => by simp [JH] at hx, h⟩
 | (i, b, s, v) :: t, R, w, h => by
  obtain ⟨h1, h2⟩ := h
  have ih := stb_hold h2
  refine ⟨fun x hx => ?_, ih.2⟩
  simp only [JH, List.map_cons, List.mem_cons] at hx
  rcases hx with rfl | hx
  ·exact h1
  ·exact ih.1 x hx
def PQ (Q : Exit → Act → World → Prop) : Prop := ∀ c a d v w, Q (.panic c) (Act.put a d v) w → Q (.panic c) a w
theorem drawK_wp (hCB : ∀ g, CB g = true → fnOk P g) {ops : Array Oper} {Q : Exit → Act → World → Prop} (hPQ : PQ Q) {K : Frm → World → Prop} (hK : ∀ f a w, K f w → Fits n f a → Q .normal a w)
  (hsel : Region.noSelect ops = true) (hap : apartAll ops (masks ops.toList []) = true) :
  ∀ (fuel : Nat) (done : Nat) (listed : Array Bool) (J : List HoldV) (f : Frm) (a : Act) (w : World), Rel ops listed done → DC ops listed → Fits n f a → hold (JH P J) w →
   drawK P CB n ops (masks ops.toList []) fuel done J f K w → wpAnyJ P ops (masks ops.toList []) Q fuel listed (JH P J) a w := by
 intro fuel
 induction fuel with
 | zero =>
  intro done listed J f a w hR hd hf hJ h
  simp only [drawK] at h
  split at h
  ·rename_i hr
   refine ⟨?_, hK _ _ _ h hf⟩
   rw [List.eq_nil_iff_forall_not_mem]
   intro i hi
   obtain ⟨_, o, ho, _⟩ := mem_ready.1 hi
   have := rdyL_spec (ops := ops) ops.toList 0 i o (by simp) (Nat.zero_le _) ho ((rdyB_iff hR ho).2 hi)
   rw [hr] at this
   cases this
  ·exact h.elim
 | succ fuel ih =>
  intro done listed J f a w hR hd hf hJ h
  simp only [drawK] at h
  split at h
  ·rename_i i hp
   obtain ⟨o, ho, hb, hfl⟩ := pickFl_spec (ops := ops) ops.toList 0 i (by simp) hp
   have hrdy := (rdyB_iff hR ho).1 hb
   have hi := (Array.getElem?_eq_some_iff.1 ho).1
   simp only [ho] at h
   split at h
   ·rename_i hdst
    have hfirst : ∀ (v : Value) (S : World → Prop), YieldsIf P ops S o v a → S w → wpAnyJ P ops (masks ops.toList []) Q fuel (listed.setIfInBounds i true) (⟨i, S⟩ :: JH P J) (a.put o.dst v) w →
      wpAnyJ P ops (masks ops.toList []) Q (fuel + 1) listed (JH P J) a w :=
     fun v S hy hS H => wpAnyJ_first ho hfl hap (Region.noSelect_spec hsel) (fun c a w => hPQ c a _ _ w) fuel listed (JH P J) a w hd hrdy hy hS hJ H
    have hs := shape_says hCB o hf
    have hpure : ∀ v, (∀ w, (execOp a.eval o).run P w = .ok (.value v) w) → Region.wanted o (yielded ops a.tmps) = true →
      drawK P CB n ops (masks ops.toList []) fuel (Nat.lor done (Nat.shiftLeft 1 i)) J (upo f o.dst v) K w → wpAnyJ P ops (masks ops.toList []) Q (fuel + 1) listed (JH P J) a w := by
     intro v hv hw hk
     refine hfirst v (fun _ => True) (.inl ⟨hw, fun w _ => hv w⟩) trivial ?_
     exact wpAnyJ_sub _ _ _ _ _ _ (fun x hx => by
      rcases List.mem_cons.1 hx with rfl | hx
      ·exact .inr fun _ => trivial
      ·exact .inl hx) (ih _ _ J _ _ w (hR.set hi) (hd.set hrdy) (hf.upo hdst) hJ hk)
    have hskip : Region.wanted o (yielded ops a.tmps) = false → ∀ J', (∀ x ∈ JH P J', x ∈ JH P J ∨ ∀ w, x.S w) → (∀ x ∈ JH P J, x ∈ JH P J') →
      drawK P CB n ops (masks ops.toList []) fuel (Nat.lor done (Nat.shiftLeft 1 i)) J' (upo f o.dst undef) K w → wpAnyJ P ops (masks ops.toList []) Q (fuel + 1) listed (JH P J) a w := by
     intro hw J' hJ' hJJ hk
     refine hfirst undef (fun _ => True) (.inr ⟨hw, rfl⟩) trivial ?_
     refine wpAnyJ_sub _ _ _ (JH P J') _ _ (fun x hx => ?_) (ih _ _ J' _ _ w (hR.set hi) (hd.set hrdy) (hf.upo hdst) (fun x hx => (hJ' x hx).elim (hJ x) (fun h => h w)) hk)
     rcases List.mem_cons.1 hx with rfl | hx
     ·exact .inr fun _ => trivial
     ·exact .inl (hJJ x hx)
    unfold flK at h
    split at h
    ·rename_i hg
     have hw : Region.wanted o (yielded ops a.tmps) = true := by simp [Region.wanted, hg]
     split at h
     ·rename_i v hsh
      rw [hsh] at hs
      exact hpure v hs hw h
     ·rename_i r hsh
      rw [hsh] at hs
      cases r with
      | none => exact h.elim
      | some v => exact hpure v hs hw h
     ·rename_i s hsh
      rw [hsh] at hs
      obtain ⟨v, hv, hk⟩ := h
      refine hfirst v (fun w => true = true → s.run P w = .ok v w) (.inl ⟨hw, fun w hS => hs _ _ _ (hS rfl)⟩) (fun _ => hv) ?_
      exact ih _ _ ((i, true, s, v) :: J) _ _ w (hR.set hi) (hd.set hrdy) (hf.upo hdst) (fun x hx => by
       simp only [JH, List.map_cons, List.mem_cons] at hx
       rcases hx with rfl | hx
       ·exact fun _ => hv
       ·exact hJ x hx) hk
     ·exact h.elim
    ·rename_i j want hg
     split at h
     ·rename_i c hc
      have hwd := hf.wanted hg hc
      split at h
      ·rename_i v hsh
       rw [hsh] at hs
       unfold gdK at h
       split at h
       ·rename_i hb'
        exact hpure v hs (by rw [hwd]; exact hb') h
       ·rename_i hb'
        exact hskip (by rw [hwd]; exact hb') J (fun x hx => .inl hx) (fun x hx => hx) h
      ·rename_i r hsh
       rw [hsh] at hs
       unfold gdK at h
       split at h
       ·rename_i hb'
        cases r with
        | none => exact h.elim
        | some v => exact hpure v hs (by rw [hwd]; exact hb') h
       ·rename_i hb'
        exact hskip (by rw [hwd]; exact hb') J (fun x hx => .inl hx) (fun x hx => hx) h
      ·rename_i s hsh
       rw [hsh] at hs
       unfold gdK at h
       split at h
       ·rename_i hb'
        obtain ⟨v, hv, hk⟩ := h
        rw [hb'] at hk
        refine hfirst v (fun w => true = true → s.run P w = .ok v w) (.inl ⟨by rw [hwd]; exact hb', fun w hS => hs _ _ _ (hS rfl)⟩) (fun _ => hv) ?_
        exact ih _ _ ((i, true, s, v) :: J) _ _ w (hR.set hi) (hd.set hrdy) (hf.upo hdst) (fun x hx => by
         simp only [JH, List.map_cons, List.mem_cons] at hx
         rcases hx with rfl | hx
         ·exact fun _ => hv
         ·exact hJ x hx) hk
       ·rename_i hb'
        refine hskip (by rw [hwd]; exact hb') ((i, wantd c want, s, undef) :: J) (fun x hx => ?_) (fun x hx => ?_) h
        ·simp only [JH, List.map_cons, List.mem_cons] at hx
         rcases hx with rfl | hx
         ·exact .inr fun w hw => by simp only [hb'] at hw; cases hw
         ·exact .inl hx
        ·simp only [JH, List.map_cons, List.mem_cons]; exact .inr hx
      ·exact h.elim
     ·exact h.elim
   ·exact h.elim
  ·split at h
   ·rename_i hr
    have hnil : Region.ready .any ops listed = [] := by
     rw [List.eq_nil_iff_forall_not_mem]
     intro i hi
     obtain ⟨_, o, ho, _⟩ := mem_ready.1 hi
     have := rdyL_spec (ops := ops) ops.toList 0 i o (by simp) (Nat.zero_le _) ho ((rdyB_iff hR ho).2 hi)
     rw [hr] at this
     cases this
    exact ⟨fun _ => hK _ _ _ h hf, by rw [hnil]; simp⟩
   ·rename_i i0 l hr
    refine wpAnyJ_all (rs := i0 :: l) (fun i hi => ?_) (fun hnil => ?_) (fun i hi hrdy => ?_)
    ·obtain ⟨_, o, ho, _⟩ := mem_ready.1 hi
     have := rdyL_spec (ops := ops) ops.toList 0 i o (by simp) (Nat.zero_le _) ho ((rdyB_iff hR ho).2 hi)
     rwa [hr] at this
    ·exfalso
     have hmem : ∀ (os : List Oper) (k : Nat) (i0 : Nat) (l : List Nat), (∀ j, os[j]? = ops[k + j]?) → rdyL os k done = i0 :: l → ∃ o, ops[i0]? = some o ∧ rdyB (dmask o) done i0 = true := by
      intro os
      induction os with
      | nil => intro k i0 l _ h; cases h
      | cons o os ih2 =>
       intro k i0 l hos h
       simp only [rdyL] at h
       cases hb : rdyB (dmask o) done k with
       | true =>
        rw [hb] at h
        simp only [cond_true, List.cons.injEq] at h
        obtain ⟨rfl, _⟩ := h
        exact ⟨o, by have := hos 0; simpa using this.symm, hb⟩
       | false =>
        rw [hb] at h
        exact ih2 (k + 1) i0 l (fun j => by have := hos (j + 1); simp only [List.getElem?_cons_succ] at this; rw [this]; congr 1; omega) h
     obtain ⟨o, ho, hb⟩ := hmem ops.toList 0 i0 l (by simp) hr
     have := (rdyB_iff hR ho).1 hb
     rw [hnil] at this
     cases this
    ·have h1 := allK_mem h i hi
     obtain ⟨_, o, ho, _⟩ := mem_ready.1 hrdy
     have hil := (Array.getElem?_eq_some_iff.1 ho).1
     simp only [ho] at h1
     split at h1
     ·rename_i hdst
      split at h1
      ·rename_i hfl
       rw [← filt_JH ho hfl]
       have hcont : ∀ v w', (hold (JH P (filt (masks ops.toList []) i J)) w' ∧ drawK P CB n ops (masks ops.toList []) fuel (Nat.lor done (Nat.shiftLeft 1 i)) (filt (masks ops.toList []) i J) (upo f o.dst v) K w') →
         hold (JH P (filt (masks ops.toList []) i J)) w' ∧ wpAnyJ P ops (masks ops.toList []) Q fuel (listed.setIfInBounds i true) (JH P (filt (masks ops.toList []) i J)) (a.put o.dst v) w' :=
        fun v w' hv => ⟨hv.1, ih _ _ _ _ _ w' (hR.set hil) (hd.set hrdy) (hf.upo hdst) hv.1 hv.2⟩
       refine stepK_wp (k := fun v w' => hold (JH P (filt (masks ops.toList []) i J)) w' ∧ drawK P CB n ops (masks ops.toList []) fuel (Nat.lor done (Nat.shiftLeft 1 i)) (filt (masks ops.toList []) i J) (upo f o.dst v) K w') hCB ho hf hcont ?_
       unfold stepK
       unfold efS at h1
       have hconv : ∀ (sh : Sh) (k : Value → World → Prop) (w : World), shK P sh (fun v W' => stbA P (filt (masks ops.toList []) i J) (fun W' => k v W') W') w → shK P sh (fun v W' => hold (JH P (filt (masks ops.toList []) i J)) W' ∧ k v W') w := by
        intro sh k w h
        simp only [stbA_eq] at h
        cases sh with
        | val v => exact stb_hold h
        | pure r =>
         cases r with
         | none => exact h
         | some v => exact stb_hold h
        | read s => obtain ⟨v, h1, h2⟩ := h; exact ⟨v, h1, stb_hold h2⟩
        | eff s => obtain ⟨v, w', h1, h2⟩ := h; exact ⟨v, w', h1, stb_hold h2⟩
        | effU s => obtain ⟨v, w', h1, h2⟩ := h; exact ⟨v, w', h1, stb_hold h2⟩
        | call g args =>
         refine Calls.mono h fun e w' he => ?_
         cases e with
         | returned v => exact stb_hold he
         | panicked c => exact he
         | outgrown => exact he
        | vcall v args =>
         simp only [shK, vcK] at h ⊢
         split at h
         ·refine ⟨h.1, Calls.mono h.2 fun e w' he => ?_⟩
          cases e with
          | returned v => exact stb_hold he
          | panicked c => exact he
          | outgrown => exact he
         ·exact h
        | bad => exact h
       split at h1
       ·rename_i hg
        exact hconv _ _ _ h1
       ·rename_i j want hg
        split at h1
        ·rename_i c hc
         unfold gdK at h1 ⊢
         split at h1
         ·exact hconv _ _ _ h1
         ·refine ⟨fun x hx => hJ x ?_, h1⟩
          rw [filt_JH ho hfl] at hx
          simp only [dropJ, ho, hfl, cond_false, List.mem_filter] at hx
          exact hx.1
        ·exact h1.elim
      ·exact h1.elim
     ·exact h1.elim
end
end Go.Eng
namespace Go.Eng
set_option linter.unusedVariables false
set_option linter.unusedSimpArgs false
open Go
inductive Hint where
 | nil
 | two (a b : Hint)
 | at (ls : List Nat) (a b : Hint)
def tick (W : World) : World := { W with drawn := W.drawn + 1 }
abbrev thenF (K : Frm → World → Prop) (Q : Exit → Frm → World → Prop) : Exit → Frm → World → Prop
 | .normal, f, W => K f W
 | e, f, W => Q e f W
abbrev blkF (id : Nat) (Q : Exit → Frm → World → Prop) : Exit → Frm → World → Prop
 | .exit id', f, W => bif Nat.beq id' id then Q .normal f W else Q (.exit id') f W
 | e, f, W => Q e f W
def joinK (K : List Value → World → Prop) (A : (List Value → World → Prop) → Prop) : Prop := A K
abbrev goK (r : Option (List Value)) (K : List Value → World → Prop) (W : World) : Prop := match r with | some s => K s W | none => False
def ifK (v : Value) (A B : Prop) : Prop := match v with | .bool b => (match b with | true => A | false => B) | _ => False
abbrev cndK (r : Option Value) (A B : Prop) : Prop := match r with | some v => ifK v A B | none => False
def loopK (body : (List Value → World → Prop) → List Value → World → Prop) (s : List Value) (W : World) : Prop :=
 ∃ I : Nat → List Value → World → Prop, (∃ m, I m s W) ∧ ∀ m s W, I m s W → body (fun s' W' => ∃ m', m' < m ∧ I m' s' W') s W
def wpc (P : Program) (CB : Nat → Bool) (n : Nat) : Code → Hint → (Exit → Frm → World → Prop) → Frm → World → Prop
 | .skip, _, Q, f, W => Q .normal f W
 | .label _, _, Q, f, W => Q .normal f W
 | .region _ ops draw, _, Q, f, W => match draw with
  | false => opsK P CB n ops ops.toList f (fun f' W' => Q .normal f' W') W
  | true => match Region.noSelect ops with
   | true => match apartAll ops (masks ops.toList []) with
    | true => drawK P CB n ops (masks ops.toList []) ops.size 0 [] f (fun f' W' => Q .normal f' W') (tick W)
    | false => False
   | false => False
 | .seq a b, h, Q, f, W => match h with
  | .two ha hb => wpc P CB n a ha (thenF (fun f' W' => wpc P CB n b hb Q f' W') Q) f W
  | .at ls ha hb => joinK (fun s W' => wpc P CB n b hb Q (ofs ls 0 s) W') (fun J => wpc P CB n a ha (thenF (fun f' W' => goK (evs f' ls) J W') Q) f W)
  | .nil => False
 | .cond c a b, h, Q, f, W => match h with
  | .two ha hb => cndK (ev f c) (wpc P CB n a ha Q f W) (wpc P CB n b hb Q f W)
  | _ => False
 | .block id c, h, Q, f, W => wpc P CB n c h (blkF id Q) f W
 | .loop c, h, Q, f, W => match h with
  | .at ls hc _ => goK (evs f ls) (fun s W' => loopK (fun K s W => wpc P CB n c hc (thenF (fun f' W' => goK (evs f' ls) K W') Q) (ofs ls 0 s) W) s W') W
  | _ => False
 | .exit id, _, Q, f, W => Q (.exit id) f W
 | .goto l, _, Q, f, W => Q (.goto l) f W
 | .ret, _, Q, f, W => Q .ret f W
 | .scope _, _, _, _, _ => False
 | .rangeFunc .., _, _, _, _ => False
 | .refuse _, _, _, _, _ => False
section
variable {P : Program} {CB : Nat → Bool} {n : Nat}
def RQ (n : Nat) (Qf : Exit → Frm → World → Prop) (Q : Exit → Act → World → Prop) : Prop := ∀ e f a w, Qf e f w → Fits n f a → Q e a w
theorem PQ.then {Q : Exit → Act → World → Prop} (h : PQ Q) (K : Act → World → Prop) : PQ (Exit.then K Q) := fun c a d v w hq => h c a d v w hq
theorem PQ.block {Q : Exit → Act → World → Prop} (h : PQ Q) (id : Nat) : PQ (Exit.inBlock id Q) := fun c a d v w hq => h c a d v w hq
theorem RQ.then {Qf : Exit → Frm → World → Prop} {Q : Exit → Act → World → Prop} (h : RQ n Qf Q) {Kf : Frm → World → Prop} {K : Act → World → Prop} (hk : ∀ f a w, Kf f w → Fits n f a → K a w) :
  RQ n (thenF Kf Qf) (Exit.then K Q) := by
 intro e f a w hq hf
 cases e with
 | normal => exact hk f a w hq hf
 | _ => exact h _ f a w hq hf
theorem RQ.block {Qf : Exit → Frm → World → Prop} {Q : Exit → Act → World → Prop} (h : RQ n Qf Q) (id : Nat) : RQ n (blkF id Qf) (Exit.inBlock id Q) := by
 intro e f a w hq hf
 cases e with
 | exit id' =>
  simp only [blkF] at hq
  simp only [Exit.inBlock]
  cases hb : Nat.beq id' id with
  | true =>
   rw [hb] at hq
   rw [if_pos (Nat.eq_of_beq_eq_true hb)]
   exact h _ f a w hq hf
  | false =>
   rw [hb] at hq
   rw [if_neg (fun e => by rw [e, Nat.beq_refl] at hb; cases hb)]
   exact h _ f a w hq hf
 | _ => exact h _ f a w hq hf
theorem wp_loop_rel {Q : Exit → Act → World → Prop} {c : Code} (I : Nat → Act → World → Prop) (round : ∀ m a w, I m a w → c.wp P (Exit.then (fun a' w' => ∃ m', m' < m ∧ I m' a' w') Q) a w)
  {m : Nat} {a : Act} {w : World} (h : I m a w) : (Code.loop c).wp P Q a w := by
 intro b k cs
 have key : ∀ m a w, I m a w → ∃ e a' w', Q e a' w' ∧ Arrives P (lone (b.at a (.code c :: .inLoop c :: k)) cs w) b k cs e a' w' := by
  intro m
  induction m using Nat.strongRecOn with
  | _ m ih =>
   intro a w hI
   obtain ⟨e, a₁, w₁, hq, harr⟩ := round m a w hI b (.inLoop c :: k) cs
   cases e with
   | normal =>
    obtain ⟨m', hlt, hI₁⟩ := hq
    obtain ⟨e₂, a₂, w₂, hq₂, harr₂⟩ := ih m' hlt a₁ w₁ hI₁
    exact ⟨e₂, a₂, w₂, hq₂, .of_steps (Steps.trans harr (.one step_inLoop)) harr₂⟩
   | exit id => exact ⟨_, a₁, w₁, hq, .pass (x := .inLoop c) rfl (fun _ _ => .inl (by simp)) harr⟩
   | goto l => exact ⟨_, a₁, w₁, hq, .pass (x := .inLoop c) rfl (fun _ _ => .inl (by simp)) harr⟩
   | ret => exact ⟨_, a₁, w₁, hq, .pass (x := .inLoop c) rfl (fun _ _ => .inl (by simp)) harr⟩
   | panic ch => exact ⟨_, a₁, w₁, hq, .pass (x := .inLoop c) rfl (fun _ _ => .inl (by simp)) harr⟩
   | outgrown => exact ⟨_, a₁, w₁, hq, .pass (x := .inLoop c) rfl (fun _ _ => .inl (by simp)) harr⟩
 obtain ⟨e, a', w', hq, harr⟩ := key m a w h
 exact ⟨e, a', w', hq, .of_steps (.one step_loop) harr⟩
theorem goK_some {r : Option (List Value)} {K : List Value → World → Prop} {W : World} (h : goK r K W) : ∃ s, r = some s ∧ K s W := by
 cases r with
 | none => exact h.elim
 | some s => exact ⟨s, rfl, h⟩
theorem DC.start (ops : Array Oper) : DC ops (Array.replicate ops.size false) := by
 intro j o _ hl
 have : (Array.replicate ops.size false).getD j false = false := by
  rw [Array.getD_eq_getD_getElem?, Array.getElem?_replicate]
  split <;> rfl
 rw [this] at hl
 cases hl
theorem Rel.start (ops : Array Oper) : Rel ops (Array.replicate ops.size false) 0 := by
 refine ⟨by simp, fun k => ?_⟩
 have : (Array.replicate ops.size false).getD k false = false := by
  rw [Array.getD_eq_getD_getElem?, Array.getElem?_replicate]
  split <;> rfl
 rw [this]
 simp [tb]
theorem wpc_wp (hm : P.follows .mixedOrders = true) (hCB : ∀ g, CB g = true → fnOk P g) :
  ∀ (c : Code) (h : Hint) (Qf : Exit → Frm → World → Prop) (Q : Exit → Act → World → Prop) (f : Frm) (a : Act) (w : World), PQ Q → RQ n Qf Q → Fits n f a → wpc P CB n c h Qf f w → c.wp P Q a w := by
 intro c
 induction c with
 | skip => exact fun h Qf Q f a w _ hq hf hw => wp_skip (hq _ _ _ _ hw hf)
 | label l => exact fun h Qf Q f a w _ hq hf hw => wp_label (hq _ _ _ _ hw hf)
 | region id ops draw =>
  intro h Qf Q f a w hP hq hf hw
  simp only [wpc] at hw
  split at hw
  ·refine wp_region ?_
   have := opsK_wp (ops := ops) (Q := Q) hCB (fun f a w hk hf => hq .normal f a w hk hf) ops.toList 0 f a w (by simp) (by simp) hf hw
   rw [List.range_eq_range']
   simpa using this
  ·split at hw
   ·rename_i hsel
    split at hw
    ·rename_i hap
     refine wp_region_any hm (wpAny_of_J (ms := masks ops.toList []) _ _ (JH P []) _ _ ?_)
     exact drawK_wp hCB hP (fun f a w hk hf => hq .normal f a w hk hf) hsel hap ops.size 0 _ [] f a _ (Rel.start ops) (DC.start ops) hf (fun x hx => by simp [JH] at hx) hw
    ·exact hw.elim
   ·exact hw.elim
 | seq x y ihx ihy =>
  intro h Qf Q f a w hP hq hf hw
  cases h with
  | nil => exact hw.elim
  | two ha hb => exact wp_seq (ihx ha _ _ f a w (hP.then _) (hq.then fun f' a' w' hk hf' => ihy hb Qf Q f' a' w' hP hq hf' hk) hf hw)
  | «at» ls ha hb =>
   exact wp_seq (ihx ha _ _ f a w (hP.then _) (hq.then fun f' a' w' hk hf' => by
    obtain ⟨s, hs, hk⟩ := goK_some hk
    exact ihy hb Qf Q _ a' w' hP hq (hf'.ofs hs) hk) hf hw)
 | cond c x y ihx ihy =>
  intro h Qf Q f a w hP hq hf hw
  cases h with
  | nil => exact hw.elim
  | «at» ls ha hb => exact hw.elim
  | two ha hb =>
   simp only [wpc] at hw
   cases hc : ev f c with
   | none => rw [hc] at hw; exact hw.elim
   | some v =>
    rw [hc] at hw
    simp only [cndK] at hw
    unfold ifK at hw
    split at hw
    ·rename_i b
     split at hw
     ·exact wp_cond_true (hf.eval hc) (ihx ha Qf Q f a w hP hq hf hw)
     ·exact wp_cond_false (hf.eval hc) (ihy hb Qf Q f a w hP hq hf hw)
    ·exact hw.elim
 | block id c ih => exact fun h Qf Q f a w hP hq hf hw => wp_block (ih h _ _ f a w (hP.block id) (hq.block id) hf hw)
 | loop c ih =>
  intro h Qf Q f a w hP hq hf hw
  cases h with
  | nil => exact hw.elim
  | two ha hb => exact hw.elim
  | «at» ls hc hb =>
   obtain ⟨s, hs, I, ⟨m, hI⟩, hround⟩ := goK_some hw
   refine wp_loop_rel (fun m a w => ∃ s, Fits n (ofs ls 0 s) a ∧ I m s w) (fun m a w hI => ?_) (m := m) ⟨s, hf.ofs hs, hI⟩
   obtain ⟨s, hf, hI⟩ := hI
   refine ih hc _ _ (ofs ls 0 s) a w (hP.then _) (hq.then fun f' a' w' hk hf' => ?_) hf (hround m s w hI)
   obtain ⟨s', hs', m', hlt, hI'⟩ := goK_some hk
   exact ⟨m', hlt, s', hf'.ofs hs', hI'⟩
 | rangeFunc f ps x y => exact fun h Qf Q f a w hP hq hf hw => hw.elim
 | exit id => exact fun h Qf Q f a w _ hq hf hw => wp_exit (hq _ _ _ _ hw hf)
 | scope c => exact fun h Qf Q f a w hP hq hf hw => hw.elim
 | goto l => exact fun h Qf Q f a w _ hq hf hw => wp_goto (hq _ _ _ _ hw hf)
 | ret => exact fun h Qf Q f a w _ hq hf hw => wp_ret (hq _ _ _ _ hw hf)
 | refuse s => exact fun h Qf Q f a w hP hq hf hw => hw.elim
abbrev resV (f : Frm) : ResultVar → Option (Sum Value (TypeId × Value))
 | .tmp t => match f t with | some v => some (.inl v) | none => none
 | .cell a t => match f a with | some v => some (.inr (t, v)) | none => none
def resK (P : Program) : List ResultVar → Frm → List Value → (List Value → Prop) → World → Prop
 | [], _, acc, k, _ => k acc.reverse
 | r :: rs, f, acc, k, W => match resV f r with
  | some (.inl v) => resK P rs f (v :: acc) k W
  | some (.inr (t, v)) => rdK P (Instr.loadAt t v) (fun u W' => resK P rs f (u :: acc) k W') W
  | none => False
def tupV (vs : List Value) : Value := match vs with
 | [v] => v
 | _ => .tuple vs.toArray
def retF (P : Program) (rs : List ResultVar) (R : Value → World → Prop) : Exit → Frm → World → Prop
 | .normal, f, W => resK P rs f [] (fun vs => R (tupV vs) W) W
 | .ret, f, W => resK P rs f [] (fun vs => R (tupV vs) W) W
 | _, _, _ => False
def argF : List Value → Nat → Frm
 | [], _ => emp
 | v :: vs, k => fun i => bif Nat.beq i k then some v else argF vs (k + 1) i
def bodyK (P : Program) (CB : Nat → Bool) (fn : Func) (h : Hint) (args : List Value) (R : Value → World → Prop) (W : World) : Prop :=
 match fn.body with
 | some c => match Nat.ble args.length fn.ntmps with
  | true => wpc P CB fn.ntmps c h (retF P fn.results.toList R) (argF args 0) W
  | false => False
 | none => False
theorem argF_get : ∀ (args : List Value) (k i : Nat) (v : Value), argF args k i = some v → ∃ j, i = k + j ∧ args[j]? = some v
 | [], k, i, v, h => by cases h
 | u :: us, k, i, v, h => by
  simp only [argF] at h
  cases hb : Nat.beq i k with
  | true =>
   rw [hb] at h
   have := Nat.eq_of_beq_eq_true hb
   simp only [cond_true, Option.some.injEq] at h
   exact ⟨0, by omega, by simp [h]⟩
  | false =>
   rw [hb] at h
   obtain ⟨j, hj, hv⟩ := argF_get us (k + 1) i v h
   exact ⟨j + 1, by omega, by simpa using hv⟩
theorem resK_run {fn : Func} {f : Frm} {a : Act} {w : World} (hf : Fits n f a) {k : List Value → Prop} : ∀ (rs : List ResultVar) (acc : List Value), resK P rs f acc k w →
  ∃ vs, (rs.mapM (fun r => match r with | .tmp t => pure (a.tmps.getD t undef) | .cell x t => do loadVar t (← asAddr (a.tmps.getD x undef)) : ResultVar → Sem Value)).run P w = .ok vs w ∧ k (acc.reverse ++ vs)
 | [], acc, h => ⟨[], rfl, by simpa [resK] using h⟩
 | .tmp t :: rs, acc, h => by
  simp only [resK, resV] at h
  cases ht : f t with
  | none => rw [ht] at h; exact h.elim
  | some v =>
   rw [ht] at h
   obtain ⟨vs, h1, h2⟩ := resK_run (fn := fn) hf rs (v :: acc) h
   have hv : a.tmps.getD t undef = v := by rw [Array.getD_eq_getD_getElem?, hf.tmps t v ht]; rfl
   refine ⟨v :: vs, ?_, by simpa using h2⟩
   rw [List.mapM_cons]
   simp only [Sem.run_bind, Sem.run_pure, Result.andThen_ok, hv, h1]
 | .cell x t :: rs, acc, h => by
  simp only [resK, resV] at h
  cases ht : f x with
  | none => rw [ht] at h; exact h.elim
  | some v =>
   rw [ht] at h
   obtain ⟨u, hu, h⟩ := h
   obtain ⟨vs, h1, h2⟩ := resK_run (fn := fn) hf rs (u :: acc) h
   have hv : a.tmps.getD x undef = v := by rw [Array.getD_eq_getD_getElem?, hf.tmps x v ht]; rfl
   refine ⟨u :: vs, ?_, by simpa using h2⟩
   have hload : (do loadVar t (← asAddr v) : Sem Value).run P w = .ok u w := by
    simp only [Instr.loadAt, Sem.run_bind] at hu
    unfold Instr.sureAddr at hu
    split at hu
    ·simpa [asAddr] using hu
    ·cases hu
   rw [List.mapM_cons]
   simp only [Sem.run_bind, Result.andThen_ok] at hload ⊢
   rw [hv]
   cases ha : (asAddr v).run P w with
   | halt x w' => rw [ha] at hload; cases hload
   | ok x w' =>
    rw [ha] at hload
    simp only [Result.andThen_ok] at hload ⊢
    rw [hload]
    simp only [Result.andThen_ok, h1, Sem.run_pure]
theorem retF_post {fn : Func} {R : Value → World → Prop} : RQ n (retF P fn.results.toList R) (bodyPost P fn fun e w' => match e with | .returned v => R v w' | _ => False) := by
 have key : ∀ f a w, resK P fn.results.toList f [] (fun vs => R (tupV vs) w) w → Fits n f a → a.defers = [] ∧ ∃ v, (results fn a.tmps).run P w = .ok v w ∧ R v w := by
  intro f a w h hf
  obtain ⟨vs, h1, h2⟩ := resK_run (fn := fn) hf _ _ h
  refine ⟨hf.defers, tupV vs, ?_, by simpa using h2⟩
  have hmap : (fn.results.mapM (fun r => match r with | .tmp t => pure (a.tmps.getD t undef) | .cell x t => do loadVar t (← asAddr (a.tmps.getD x undef)) : ResultVar → Sem Value)).run P w = .ok vs.toArray w := by
   rw [← Array.toArray_toList (xs := fn.results), List.mapM_toArray]
   rw [← bind_pure_comp, Sem.run_bind, h1]
   rfl
  unfold results
  rw [Sem.run_bind]
  refine Eq.trans (congrArg (fun r => Result.andThen r _) hmap) ?_
  simp only [Result.andThen_ok, Sem.run_pure]
  congr 1
  match vs with
  | [] => rfl
  | [v] => rfl
  | v :: u :: t => simp [tupV]
 intro e f a w h hf
 cases e with
 | normal => exact key f a w h hf
 | ret => exact key f a w h hf
 | exit id => exact h.elim
 | goto l => exact h.elim
 | panic c => exact h.elim
 | outgrown => exact h.elim
theorem callK_of_body (hm : P.follows .mixedOrders = true) (hCB : ∀ g, CB g = true → fnOk P g) {g : Nat} {fn : Func} (hg : P.funcs[g]? = some fn) (h : Hint) {args : List Value} {R : Value → World → Prop} {w : World}
  (hb : bodyK P CB fn h args R w) : callK P g args R w := by
 unfold bodyK at hb
 split at hb
 ·rename_i c hc
  split at hb
  ·rename_i hl
   have hl := Nat.le_of_ble_eq_true hl
   refine calls_of_wp hg hc (wpc_wp (n := fn.ntmps) hm hCB c h _ _ (argF args 0) _ w ?_ retF_post ?_ hb)
   ·intro ch a d v w hq
    exact ⟨hq.1 ▸ by cases d <;> rfl, hq.2.elim⟩
   ·refine ⟨by simp; omega, rfl, fun i v hi => ?_⟩
    obtain ⟨j, hj, hv⟩ := argF_get args 0 i v hi
    have hij : i = j := by omega
    subst hij
    have hlt : i < args.length := (List.getElem?_eq_some_iff.1 hv).1
    show (args.toArray ++ _)[i]? = _
    rw [Array.getElem?_append_left (by simpa using hlt)]
    simpa using hv
  ·exact hb.elim
 ·exact hb.elim
theorem callK_mono {g : Nat} {args : List Value} {R R' : Value → World → Prop} {w : World} (h : callK P g args R w) (hr : ∀ v w', R v w' → R' v w') : callK P g args R' w :=
 Calls.mono h fun e w' he => by cases e <;> first | exact hr _ _ he | exact he
end
end Go.Eng
namespace Go.Eng
set_option linter.unusedVariables false
set_option linter.unusedSimpArgs false
open Go Go.RowKit
abbrev PH := Nat → Option Obj
abbrev Asn := PH → Prop
def PH.disj (a b : PH) : Prop := ∀ x, a x = none ∨ b x = none
def PH.join (a b : PH) : PH := fun x => (a x).or (b x)
def sep : List Asn → Asn
 | [], h => ∀ x, h x = none
 | a :: l, h => ∃ h1 h2, PH.disj h1 h2 ∧ h = PH.join h1 h2 ∧ a h1 ∧ sep l h2
theorem PH.disj_comm {a b : PH} (h : PH.disj a b) : PH.disj b a := fun x => (h x).symm
theorem PH.join_comm {a b : PH} (h : PH.disj a b) : PH.join a b = PH.join b a := by
 funext x
 simp only [PH.join]
 rcases h x with h | h <;> simp [h]
theorem PH.join_assoc (a b c : PH) : PH.join (PH.join a b) c = PH.join a (PH.join b c) := by
 funext x
 simp only [PH.join]
 cases a x <;> rfl
theorem PH.disj_join {a b c : PH} : PH.disj a (PH.join b c) ↔ PH.disj a b ∧ PH.disj a c := by
 constructor
 ·intro h
  constructor
  ·intro x
   rcases h x with h | h
   ·exact .inl h
   ·simp only [PH.join, Option.or_eq_none_iff] at h; exact .inr h.1
  ·intro x
   rcases h x with h | h
   ·exact .inl h
   ·simp only [PH.join, Option.or_eq_none_iff] at h; exact .inr h.2
 ·rintro ⟨h1, h2⟩ x
  rcases h1 x with h | h
  ·exact .inl h
  ·rcases h2 x with h' | h'
   ·exact .inl h'
   ·exact .inr (by simp [PH.join, h, h'])
theorem sep_swap {a b : Asn} {l : List Asn} {h : PH} (H : sep (a :: b :: l) h) : sep (b :: a :: l) h := by
 obtain ⟨h1, h2, hd, rfl, ha, h3, h4, hd', rfl, hb, hl⟩ := H
 have hd2 := PH.disj_join.1 hd
 refine ⟨h3, PH.join h1 h4, PH.disj_join.2 ⟨PH.disj_comm hd2.1, hd'⟩, ?_, hb, h1, h4, hd2.2, rfl, ha, hl⟩
 rw [← PH.join_assoc, PH.join_comm hd2.1, PH.join_assoc]
theorem sep_perm {l l' : List Asn} (hp : l.Perm l') : ∀ {h : PH}, sep l h → sep l' h := by
 induction hp with
 | nil => exact fun h => h
 | cons a _ ih =>
  rintro h ⟨h1, h2, hd, hj, ha, hl⟩
  exact ⟨h1, h2, hd, hj, ha, ih hl⟩
 | swap a b l => exact sep_swap
 | trans _ _ ih1 ih2 => exact fun h => ih2 (ih1 h)
theorem sep_append {l l' : List Asn} : ∀ {h : PH}, sep (l ++ l') h ↔ ∃ h1 h2, PH.disj h1 h2 ∧ h = PH.join h1 h2 ∧ sep l h1 ∧ sep l' h2 := by
 induction l with
 | nil =>
  intro h
  constructor
  ·intro H
   refine ⟨fun _ => none, h, fun x => .inl rfl, ?_, fun x => rfl, H⟩
   funext x; simp [PH.join]
  ·rintro ⟨h1, h2, hd, rfl, he, hl⟩
   have : PH.join h1 h2 = h2 := by funext x; simp [PH.join, he x]
   rw [this]; exact hl
 | cons a l ih =>
  intro h
  constructor
  ·rintro ⟨h1, h2, hd, rfl, ha, hl⟩
   obtain ⟨h3, h4, hd', rfl, hl3, hl4⟩ := ih.1 hl
   have hd2 := PH.disj_join.1 hd
   refine ⟨PH.join h1 h3, h4, PH.disj_comm (PH.disj_join.2 ⟨PH.disj_comm hd2.2, PH.disj_comm hd'⟩), (PH.join_assoc _ _ _).symm, ⟨h1, h3, hd2.1, rfl, ha, hl3⟩, hl4⟩
  ·rintro ⟨h1, h2, hd, rfl, ⟨h3, h4, hd', rfl, ha, hl⟩, hl'⟩
   have hd2 := PH.disj_join.1 (PH.disj_comm hd)
   refine ⟨h3, PH.join h4 h2, PH.disj_join.2 ⟨hd', PH.disj_comm hd2.1⟩, PH.join_assoc _ _ _, ha, ih.2 ⟨h4, h2, PH.disj_comm hd2.2, rfl, hl, hl'⟩⟩
def blk (b : Nat) (o : Obj) : Asn := fun h => h b = some o ∧ ∀ x, x ≠ b → h x = none
def free (fr : Nat × Nat) (n : Nat) : Prop := ∀ i, i < n → (fr.1 ≤ i && i < fr.2) = false
def cells (b : Nat) (cs : List Value) (T : TypeId) : Asn := fun h => ∃ fr, free fr cs.length ∧ blk b (.cells cs.toArray T fr) h
structure Bel (B : Nat) (w w' : World) : Prop extends Below B w w' where
 drawn : w.drawn ≤ w'.drawn
theorem Bel.refl (B : Nat) (w : World) : Bel B w w := ⟨Below.refl B w, Nat.le_refl _⟩
theorem Bel.trans {B : Nat} {a b c : World} (h : Bel B a b) (k : Bel B b c) : Bel B a c := ⟨h.toBelow.trans k.toBelow, Nat.le_trans h.drawn k.drawn⟩
theorem Bel.mono {B B' : Nat} {w w' : World} (h : Bel B w w') (hB : B' ≤ B) : Bel B' w w' := ⟨h.toBelow.mono hB, h.drawn⟩
theorem Bel.drew {B : Nat} {a w : World} (h : Bel B a w) : Bel B a w.drew := ⟨h.toBelow.drew, Nat.le_succ_of_le h.drawn⟩
theorem Bel.alloc {B : Nat} {a w : World} (h : Bel B a w) (hB : B ≤ w.heap.size) (o : Obj) : Bel B a (w.alloc o) := ⟨h.toBelow.alloc hB o, h.drawn⟩
structure St (W0 : World) (L : List Asn) (W : World) : Prop where
 bel : Bel W0.heap.size W0 W
 own : ∃ h, sep L h ∧ ∀ b o, h b = some o → W0.heap.size ≤ b ∧ W.heap[b]? = some o
section
variable {W0 W W' : World} {L L' : List Asn}
theorem St.below (h : St W0 L W) : Below W0.heap.size W0 W := h.bel.toBelow
theorem St.start (W : World) : St W [] W := ⟨Bel.refl _ _, fun _ => none, fun _ => rfl, fun b o h => by cases h⟩
theorem St.perm (h : St W0 L W) (hp : L.Perm L') : St W0 L' W := by
 obtain ⟨hb, p, hs, ho⟩ := h
 exact ⟨hb, p, sep_perm hp hs, ho⟩
theorem St.drop {a : Asn} (h : St W0 (a :: L) W) : St W0 L W := by
 obtain ⟨hb, p, ⟨h1, h2, hd, rfl, ha, hl⟩, ho⟩ := h
 refine ⟨hb, h2, hl, fun b o hbo => ho b o ?_⟩
 rcases hd b with h | h
 ·simp [PH.join, h, hbo]
 ·rw [h] at hbo; cases hbo
theorem St.nil (h : St W0 L W) : St W0 [] W := ⟨h.bel, fun _ => none, fun _ => rfl, fun b o h => by cases h⟩
theorem St.tick (h : St W0 L W) : St W0 L (tick W) := ⟨h.bel.drew, h.own⟩
theorem St.weak {a a' : Asn} (h : St W0 (a :: L) W) (ha : ∀ p, a p → a' p) : St W0 (a' :: L) W := by
 obtain ⟨hb, p, ⟨h1, h2, hd, hj, h1a, hl⟩, ho⟩ := h
 exact ⟨hb, p, ⟨h1, h2, hd, hj, ha _ h1a, hl⟩, ho⟩
theorem St.ex {α : Sort _} {A : α → Asn} (h : St W0 ((fun p => ∃ x, A x p) :: L) W) : ∃ x, St W0 (A x :: L) W := by
 obtain ⟨hb, p, ⟨h1, h2, hd, hj, ⟨x, hx⟩, hl⟩, ho⟩ := h
 exact ⟨x, hb, p, ⟨h1, h2, hd, hj, hx, hl⟩, ho⟩
theorem St.fact {q : Prop} {A : Asn} (h : St W0 ((fun p => q ∧ A p) :: L) W) : q ∧ St W0 (A :: L) W := by
 obtain ⟨hb, p, ⟨h1, h2, hd, hj, ⟨hq, hx⟩, hl⟩, ho⟩ := h
 exact ⟨hq, hb, p, ⟨h1, h2, hd, hj, hx, hl⟩, ho⟩
theorem St.flat {l : List Asn} (h : St W0 (sep l :: L) W) : St W0 (l ++ L) W := by
 obtain ⟨hb, p, ⟨h1, h2, hd, hj, hl, hl'⟩, ho⟩ := h
 exact ⟨hb, p, sep_append.2 ⟨h1, h2, hd, hj, hl, hl'⟩, ho⟩
theorem St.pack {l : List Asn} (h : St W0 (l ++ L) W) : St W0 (sep l :: L) W := by
 obtain ⟨hb, p, hs, ho⟩ := h
 obtain ⟨h1, h2, hd, hj, hl, hl'⟩ := sep_append.1 hs
 exact ⟨hb, p, ⟨h1, h2, hd, hj, hl, hl'⟩, ho⟩
theorem St.emp {a : Asn} (h : St W0 L W) (ha : a fun _ => none) : St W0 (a :: L) W := by
 obtain ⟨hb, p, hs, ho⟩ := h
 exact ⟨hb, p, ⟨fun _ => none, p, fun x => .inl rfl, by funext x; simp [PH.join], ha, hs⟩, ho⟩
theorem St.over (h : St W0 L W) (h' : St W L' W') : St W0 (L' ++ L) W' := by
 obtain ⟨hb, p, hs, ho⟩ := h
 obtain ⟨hb', p', hs', ho'⟩ := h'
 have hlt : ∀ b o, p b = some o → b < W.heap.size := fun b o hpb => (Array.getElem?_eq_some_iff.1 (ho b o hpb).2).1
 refine ⟨hb.trans (hb'.mono hb.size), PH.join p' p, sep_append.2 ⟨p', p, fun x => ?_, rfl, hs', hs⟩, fun b o hbo => ?_⟩
 ·cases hp : p x with
  | none => exact .inr rfl
  | some o =>
   cases hp' : p' x with
   | none => exact .inl rfl
   | some o' =>
    have := hlt x o hp
    have := (ho' x o' hp').1
    omega
 ·simp only [PH.join] at hbo
  cases hp' : p' b with
  | some o' =>
   rw [hp'] at hbo
   simp only [Option.some_or, Option.some.injEq] at hbo
   subst hbo
   have := ho' b o' hp'
   have := hb.size
   exact ⟨by omega, (ho' b o' hp').2⟩
  | none =>
   rw [hp'] at hbo
   simp only [Option.none_or] at hbo
   refine ⟨(ho b o hbo).1, ?_⟩
   rw [hb'.block b (hlt b o hbo)]
   exact (ho b o hbo).2
theorem St.blk {b : Nat} {o : Obj} (h : St W0 (blk b o :: L) W) : W0.heap.size ≤ b ∧ W.heap[b]? = some o := by
 obtain ⟨hb, p, ⟨h1, h2, hd, rfl, ha, hl⟩, ho⟩ := h
 exact ho b o (by simp [PH.join, ha.1])
theorem St.cells {b : Nat} {cs : List Value} {T : TypeId} (h : St W0 (cells b cs T :: L) W) : ∃ fr, free fr cs.length ∧ St W0 (Eng.blk b (.cells cs.toArray T fr) :: L) W := by
 obtain ⟨fr, h⟩ := h.ex
 exact ⟨fr, h.fact⟩
theorem St.alloc (h : St W0 L W) (o : Obj) : St W0 (Eng.blk W.heap.size o :: L) (W.alloc o) := by
 have h' : St W [Eng.blk W.heap.size o] (W.alloc o) := by
  refine ⟨(Bel.refl _ _).alloc (Nat.le_refl _) o, fun x => if x = W.heap.size then some o else none, ⟨fun x => if x = W.heap.size then some o else none, fun _ => none, fun x => .inr rfl, ?_, ⟨?_, ?_⟩, fun _ => rfl⟩, ?_⟩
  ·funext x; simp [PH.join]
  ·simp
  ·intro x hx; simp [hx]
  ·intro b o' hb
   by_cases hbe : b = W.heap.size
   ·subst hbe
    simp only [if_true, Option.some.injEq] at hb
    subst hb
    exact ⟨Nat.le_refl _, heap_alloc_new W o⟩
   ·simp only [hbe, if_false] at hb
    cases hb
 exact h.over h'
theorem free_zero (n : Nat) : free (0, 0) n := fun i _ => by simp
theorem St.allocCells (h : St W0 L W) (cs : List Value) (T : TypeId) : St W0 (Eng.cells W.heap.size cs T :: L) (W.alloc (.cells cs.toArray T)) :=
 (h.alloc _).weak fun p hp => ⟨(0, 0), free_zero _, hp⟩
theorem St.setBlk {b : Nat} {o : Obj} (h : St W0 (Eng.blk b o :: L) W) (o' : Obj) : St W0 (Eng.blk b o' :: L) { W with heap := W.heap.setIfInBounds b o' } := by
 have hbl := h.blk
 have hlt : b < W.heap.size := (Array.getElem?_eq_some_iff.1 hbl.2).1
 obtain ⟨hb, p, ⟨h1, h2, hd, rfl, ha, hl⟩, ho⟩ := h
 have hne : ∀ x, h2 x ≠ none → x ≠ b := by
  rintro x hx rfl
  rcases hd x with h | h
  ·rw [ha.1] at h; cases h
  ·exact hx h
 refine ⟨hb.trans ⟨⟨rfl, rfl, rfl, by simp, fun k hk => ?_⟩, Nat.le_refl _⟩, PH.join (fun x => if x = b then some o' else none) h2, ⟨_, h2, fun x => ?_, rfl, ⟨by simp, fun x hx => by simp [hx]⟩, hl⟩, fun x u hx => ?_⟩
 ·show (W.heap.setIfInBounds b o')[k]? = _
  rw [Array.getElem?_setIfInBounds_ne (by have := hbl.1; omega)]
 ·by_cases hx : x = b
  ·subst hx
   cases h2x : h2 x with
   | none => exact .inr rfl
   | some u => exact absurd rfl (hne x (by simp [h2x]))
  ·exact .inl (by simp [hx])
 ·show _ ∧ (W.heap.setIfInBounds b o')[x]? = _
  simp only [PH.join] at hx
  by_cases hxb : x = b
  ·subst hxb
   simp only [if_true, Option.some_or, Option.some.injEq] at hx
   subst hx
   exact ⟨hbl.1, by simp [hlt]⟩
  ·simp only [hxb, if_false, Option.none_or] at hx
   have := ho x u (by simp [PH.join, hx, ha.2 x hxb])
   exact ⟨this.1, by rw [Array.getElem?_setIfInBounds_ne (Ne.symm hxb)]; exact this.2⟩
end
class Tk {α : Type} (F : α → Asn) (L : List Asn) (a : outParam α) (L' : outParam (List Asn)) : Prop where
 perm : L.Perm (F a :: L')
instance (priority := high) Tk.here {α : Type} (F : α → Asn) (a : α) (L : List Asn) : Tk F (F a :: L) a L := ⟨.refl _⟩
instance Tk.there {α : Type} (F : α → Asn) (x : Asn) (L : List Asn) (a : α) (L' : List Asn) [h : Tk F L a L'] : Tk F (x :: L) a (x :: L') := ⟨(h.perm.cons x).trans (List.Perm.swap _ _ _)⟩
class Ck (b : Nat) (L : List Asn) (cs : outParam (List Value)) (T : outParam TypeId) (L' : outParam (List Asn)) : Prop where
 perm : L.Perm (cells b cs T :: L')
instance (priority := high) Ck.here (b : Nat) (cs : List Value) (T : TypeId) (L : List Asn) : Ck b (cells b cs T :: L) cs T L := ⟨.refl _⟩
instance Ck.there (b : Nat) (x : Asn) (L : List Asn) (cs : List Value) (T : TypeId) (L' : List Asn) [h : Ck b L cs T L'] : Ck b (x :: L) cs T (x :: L') := ⟨(h.perm.cons x).trans (List.Perm.swap _ _ _)⟩
class Cu (b : Nat) (L : List Asn) (cs : outParam (List Value)) (T : outParam TypeId) (L' : outParam (List Value → List Asn)) : Prop where
 perm : ∃ R, L.Perm (cells b cs T :: R) ∧ ∀ cs', (L' cs').Perm (cells b cs' T :: R)
instance (priority := high) Cu.here (b : Nat) (cs : List Value) (T : TypeId) (L : List Asn) : Cu b (cells b cs T :: L) cs T (fun cs' => cells b cs' T :: L) := ⟨L, .refl _, fun _ => .refl _⟩
instance Cu.there (b : Nat) (x : Asn) (L : List Asn) (cs : List Value) (T : TypeId) (L' : List Value → List Asn) [h : Cu b L cs T L'] : Cu b (x :: L) cs T (fun cs' => x :: L' cs') := by
 obtain ⟨R, h1, h2⟩ := h.perm
 exact ⟨x :: R, (h1.cons x).trans (List.Perm.swap _ _ _), fun cs' => ((h2 cs').cons x).trans (List.Perm.swap _ _ _)⟩
end Go.Eng
namespace Go.Eng
set_option linter.unusedVariables false
set_option linter.unusedSimpArgs false
open Go
def yvK (F : Fence) (m : Nat) (P : Program) (v : Value) (args : List Value) (k : Value → World → Prop) (W : World) : Prop :=
 match v with
 | .func (.yield l) fi ca => YieldAt F (m - 1) P l (fi ++ args.toArray) W fun e W' => ∃ v, e = .returned v ∧ k v W'
 | _ => False
abbrev shI (F : Fence) (m : Nat) (P : Program) (sh : Sh) (k : Value → World → Prop) (W : World) : Prop :=
 match sh with
 | .val v => k v W
 | .pure r => okF r fun v => k v W
 | .read s => rdK P s k W
 | .eff s => efK P s k W
 | .effU s => efK P s (fun _ W' => k undef W') W
 | .vcall v args => yvK F m P v args k W
 | _ => False
section
variable {P : Program} {CB : Nat → Bool} {F : Fence} {m n : Nat}
theorem shI_wp (hF : ∀ f, F.fn f) (hd : F.depth = none) (hCB : ∀ g, CB g = true → fnOk P g) {o : Oper} {f : Frm} {a : Act} (hf : Fits n f { a with defers := [] }) {k : Value → World → Prop} {w : World} {Q : Exit → Act → World → Prop}
  {next : Act → World → Prop} (hk : ∀ v w', k v w' → next (a.put o.dst v) w') (h : shI F m P (shape P CB o f) k w) : o.wpIn F m P a w next Q := by
 have hdf : ∀ c, o.op ≠ .defer c := fun c hc => by
  have : shape P CB o f = .bad := by unfold shape; rw [hc]
  rw [this] at h; exact h
 refine ⟨fun f _ => hF f, ?_⟩
 rw [Oper.semAt_plain F _ o hdf]
 have hs : (shape P CB o f).says P (execOp a.eval o) := by
  have h0 := shape_says hCB o hf
  rw [show ({ a with defers := [] } : Act).eval = a.eval from funext fun x => by cases x <;> rfl] at h0
  exact h0
 generalize shape P CB o f = sh at *
 cases sh with
 | val v => rw [hs w]; exact hk _ _ h
 | pure r =>
  cases r with
  | none => exact h.elim
  | some v => rw [hs w]; exact hk _ _ h
 | read s => obtain ⟨v, h1, h2⟩ := h; rw [hs _ _ _ h1]; exact hk _ _ h2
 | eff s => obtain ⟨v, w', h1, h2⟩ := h; rw [hs _ _ _ h1]; exact hk _ _ h2
 | effU s => obtain ⟨v, w', h1, h2⟩ := h; rw [hs _ _ h1]; exact hk _ _ h2
 | call g args => exact h.elim
 | vcall v args =>
  unfold shI yvK at h
  simp only at h
  split at h
  ·rename_i l fi ca
   obtain ⟨fn, tmps, assign, body, h1, h2⟩ := h
   rw [hs.2 l fi ca w rfl, h1]
   refine ⟨fun hc => (by rw [hd] at hc; cases hc), h2.mono fun e w' he => ?_⟩
   obtain ⟨v, rfl, hv⟩ := he
   exact hk _ _ hv
  ·exact h.elim
 | bad => exact h.elim
def opsI (F : Fence) (m : Nat) (P : Program) (CB : Nat → Bool) (n : Nat) : List Oper → Frm → (Frm → World → Prop) → World → Prop
 | [], f, K, W => K f W
 | o :: os, f, K, W => match dstOk n o.dst with
  | true => match o.guard with
   | none => shI F m P (shape P CB o f) (fun v W' => opsI F m P CB n os (upo f o.dst v) K W') W
   | some _ => False
  | false => False
theorem put_fits {f : Frm} {a : Act} (hf : Fits n f { a with defers := [] }) {d : Option Nat} {v : Value} (hd : dstOk n d = true) : (a.put d v).defers = a.defers ∧ Fits n (upo f d v) { a.put d v with defers := [] } := by
 have h := hf.upo (v := v) hd
 cases d with
 | none => exact ⟨rfl, h⟩
 | some d => exact ⟨rfl, h⟩
theorem opsI_wp (D : List Deferred) (hF : ∀ f, F.fn f) (hd : F.depth = none) (hCB : ∀ g, CB g = true → fnOk P g) {ops : Array Oper} {Q : Exit → Act → World → Prop} {K : Frm → World → Prop} (hK : ∀ f a w, K f w → a.defers = D → Fits n f { a with defers := [] } → Q .normal a w) :
  ∀ (os : List Oper) (i : Nat) (f : Frm) (a : Act) (w : World), (∀ j, os[j]? = ops[i + j]?) → i + os.length = ops.size → a.defers = D → Fits n f { a with defers := [] } → opsI F m P CB n os f K w → wpOpsIn F m P ops Q (List.range' i os.length) a w
 | [], i, f, a, w, _, _, ha, hf, h => hK _ _ _ h ha hf
 | o :: os, i, f, a, w, hos, hl, ha, hf, h => by
  simp only [List.length_cons, List.range'_succ]
  have ho : ops[i]? = some o := by have := hos 0; simpa using this.symm
  simp only [opsI] at h
  split at h
  ·rename_i hdo
   split at h
   ·rename_i hg
    have hw : Region.wanted o (yielded ops a.tmps) = true := by simp [Region.wanted, hg]
    simp only [wpOpsIn, ho, hw, if_true]
    refine shI_wp hF hd hCB hf (fun v w' hv => ?_) h
    have hp := put_fits (v := v) hf hdo
    exact opsI_wp D hF hd hCB hK os (i + 1) _ _ w' (fun j => by have := hos (j + 1); simp only [List.getElem?_cons_succ] at this; rw [this]; congr 1; omega) (by simp at hl; omega) (hp.1.trans ha) hp.2 hv
   ·exact h.elim
  ·exact h.elim
theorem regI (D : List Deferred) (hF : ∀ f, F.fn f) (hd : F.depth = none) (hCB : ∀ g, CB g = true → fnOk P g) {id : Nat} {ops : Array Oper} {Q : Exit → Act → World → Prop} {f : Frm} {a : Act} {w : World} (ha : a.defers = D) (hf : Fits n f { a with defers := [] })
  {K : Frm → World → Prop} (h : opsI F m P CB n ops.toList f K w) (hK : ∀ f a w, K f w → a.defers = D → Fits n f { a with defers := [] } → Q .normal a w) : (Code.region id ops false).wpIn F m P Q a w := by
 refine wpIn_region ?_
 have := opsI_wp (ops := ops) (Q := Q) D hF hd hCB hK ops.toList 0 f a w (by simp) (by simp) ha hf h
 rw [List.range_eq_range']
 simpa using this
def wpcI (F : Fence) (m : Nat) (P : Program) (CB : Nat → Bool) (n : Nat) : Code → Hint → (Exit → Frm → World → Prop) → Frm → World → Prop
 | .skip, _, Q, f, W => Q .normal f W
 | .region _ ops false, _, Q, f, W => opsI F m P CB n ops.toList f (fun f' W' => Q .normal f' W') W
 | .seq a b, .two ha hb, Q, f, W => wpcI F m P CB n a ha (thenF (fun f' W' => wpcI F m P CB n b hb Q f' W') Q) f W
 | .cond c a b, .two ha hb, Q, f, W => cndK (ev f c) (wpcI F m P CB n a ha Q f W) (wpcI F m P CB n b hb Q f W)
 | .block id c, h, Q, f, W => wpcI F m P CB n c h (blkF id Q) f W
 | .loop c, .at ls hc _, Q, f, W => goK (evs f ls) (fun s W' => loopK (fun K s W => wpcI F m P CB n c hc (thenF (fun f' W' => goK (evs f' ls) K W') Q) (ofs ls 0 s) W) s W') W
 | .exit id, _, Q, f, W => Q (.exit id) f W
 | .ret, _, Q, f, W => Q .ret f W
 | _, _, _, _, _ => False
theorem wpIn_loop_rel {Q : Exit → Act → World → Prop} {c : Code} (I : Nat → Act → World → Prop) (round : ∀ k a w, I k a w → c.wpIn F m P (Exit.then (fun a' w' => ∃ k', k' < k ∧ I k' a' w') Q) a w)
  {k : Nat} {a : Act} {w : World} (h : I k a w) : (Code.loop c).wpIn F m P Q a w := by
 have key : ∀ j k a w, k < j → I k a w → Code.roundsIn F m P c Q j a w := by
  intro j
  induction j with
  | zero => intro k a w hk; omega
  | succ j ih =>
   intro k a w hk h
   rw [roundsIn_succ]
   refine wpIn_mono (round k a w h) fun e a w hq => ?_
   cases e with
   | normal => obtain ⟨k', hlt, hI⟩ := hq; exact ih k' a w (by omega) hI
   | _ => exact hq
 exact wpIn_loop_rounds (k + 1) (key _ k a w (by omega) h)
theorem wpcI_wp (hF : ∀ f, F.fn f) (hd : F.depth = none) (hCB : ∀ g, CB g = true → fnOk P g) :
  ∀ (c : Code) (h : Hint) (Qf : Exit → Frm → World → Prop) (Q : Exit → Act → World → Prop) (f : Frm) (a : Act) (w : World), RQ n Qf Q → Fits n f a → wpcI F m P CB n c h Qf f w → c.wpIn F m P Q a w := by
 intro c
 induction c with
 | skip => exact fun h Qf Q f a w hq hf hw => wpIn_skip (hq _ _ _ _ hw hf)
 | region id ops draw =>
  intro h Qf Q f a w hq hf hw
  cases draw with
  | true => exact hw.elim
  | false =>
   obtain ⟨ts, ds⟩ := a
   have hds : ds = [] := hf.defers
   subst hds
   exact regI [] hF hd hCB rfl hf hw fun f' a' w' hk ha hf' => hq .normal f' a' w' hk (by obtain ⟨ts', ds'⟩ := a'; have hd2 : ds' = [] := ha; subst hd2; exact hf')
 | seq x y ihx ihy =>
  intro h Qf Q f a w hq hf hw
  cases h with
  | two ha hb => exact wpIn_seq (ihx ha _ _ f a w (hq.then fun f' a' w' hk hf' => ihy hb Qf Q f' a' w' hq hf' hk) hf hw)
  | _ => exact hw.elim
 | cond c x y ihx ihy =>
  intro h Qf Q f a w hq hf hw
  cases h with
  | two ha hb =>
   simp only [wpcI] at hw
   cases hc : ev f c with
   | none => rw [hc] at hw; exact hw.elim
   | some v =>
    rw [hc] at hw
    simp only [cndK] at hw
    unfold ifK at hw
    split at hw
    ·rename_i b
     split at hw
     ·exact wpIn_cond_true (hf.eval hc) (ihx ha Qf Q f a w hq hf hw)
     ·exact wpIn_cond_false (hf.eval hc) (ihy hb Qf Q f a w hq hf hw)
    ·exact hw.elim
  | _ => exact hw.elim
 | block id c ih => exact fun h Qf Q f a w hq hf hw => wpIn_block (ih h _ _ f a w (hq.block id) hf hw)
 | loop c ih =>
  intro h Qf Q f a w hq hf hw
  cases h with
  | «at» ls hc hb =>
   obtain ⟨s, hs, I, ⟨k, hI⟩, hround⟩ := goK_some hw
   refine wpIn_loop_rel (fun k a w => ∃ s, Fits n (ofs ls 0 s) a ∧ I k s w) (fun k a w hI => ?_) (k := k) ⟨s, hf.ofs hs, hI⟩
   obtain ⟨s, hf, hI⟩ := hI
   refine ih hc _ _ (ofs ls 0 s) a w (hq.then fun f' a' w' hk hf' => ?_) hf (hround k s w hI)
   obtain ⟨s', hs', k', hlt, hI'⟩ := goK_some hk
   exact ⟨k', hlt, s', hf'.ofs hs', hI'⟩
  | _ => exact hw.elim
 | exit id => exact fun h Qf Q f a w hq hf hw => wpIn_exit (hq _ _ _ _ hw hf)
 | ret => exact fun h Qf Q f a w hq hf hw => wpIn_ret (hq _ _ _ _ hw hf)
 | _ => intro h Qf Q f a w hq hf hw; exact hw.elim
def bodyI (F : Fence) (m : Nat) (P : Program) (CB : Nat → Bool) (fn : Func) (h : Hint) (args : List Value) (R : Value → World → Prop) (W : World) : Prop :=
 match fn.body with
 | some c => match Nat.ble args.length fn.ntmps with
  | true => wpcI F m P CB fn.ntmps c h (retF P fn.results.toList R) (argF args 0) W
  | false => False
 | none => False
theorem fits_args {n : Nat} {args : List Value} (hl : args.length ≤ n) : Fits n (argF args 0) { tmps := args.toArray ++ Array.replicate (n - args.toArray.size) undef, defers := [] } := by
 refine ⟨by simp; omega, rfl, fun i v hi => ?_⟩
 obtain ⟨j, hj, hv⟩ := argF_get args 0 i v hi
 have hij : i = j := by omega
 subst hij
 have hlt : i < args.length := (List.getElem?_eq_some_iff.1 hv).1
 show (args.toArray ++ _)[i]? = _
 rw [Array.getElem?_append_left (by simpa using hlt)]
 simpa using hv
theorem callI_of_body (hF : ∀ f, F.fn f) (hd : F.depth = none) (hro : F.round = none) (hCB : ∀ g, CB g = true → fnOk P g) {g : Nat} {fn : Func} (hg : P.funcs[g]? = some fn) (h : Hint) {args : List Value} {R : Value → World → Prop} {w : World}
  (hb : bodyI F m P CB fn h args R w) : CallsIn F m P g args.toArray w fun e w' => ∃ v, e = .returned v ∧ R v w' := by
 unfold bodyI at hb
 split at hb
 ·rename_i c hc
  split at hb
  ·rename_i hl
   have hl := Nat.le_of_ble_eq_true hl
   refine callsIn_of_wp hg hc (hF g) (wpIn_mono (wpcI_wp (n := fn.ntmps) hF hd hCB c h _ _ (argF args 0) _ w (retF_post (R := R)) (fits_args hl) hb) fun e a w hq => ?_) hro
   cases e with
   | normal => obtain ⟨h1, v, h2, h3⟩ := hq; exact ⟨h1, v, h2, v, rfl, h3⟩
   | ret => obtain ⟨h1, v, h2, h3⟩ := hq; exact ⟨h1, v, h2, v, rfl, h3⟩
   | panic ch => exact ⟨hq.1, hq.2.elim⟩
   | _ => first | exact hq.elim | exact hq
  ·exact hb.elim
 ·exact hb.elim
end
end Go.Eng
namespace Go.Proofs.YtfhacbhgmnhmlaaGreat
set_option linter.unusedVariables false
set_option linter.unusedSimpArgs false
open Go.Eng
noncomputable abbrev PR : Program := Tryz.prog
def CB (g : Nat) : Bool := Nat.blt g 187 && !(([0, 1, 169, 170, 171, 172, 173, 174, 175, 176, 177, 178, 179, 180, 181, 182, 183, 184, 185, 186] : List Nat).any fun k => Nat.beq g k)
theorem mixed : PR.follows .mixedOrders = true := by kernel_rfl
noncomputable def fnOkB (g : Nat) : Bool := match PR.funcs[g]? with | some fn => !fn.body.isNone && !(fn.name == "runtime.NumGoroutine") | none => false
theorem CBall : (List.range 187).all (fun g => !CB g || fnOkB g) = true := by kernel_rfl
theorem CBok (g : Nat) (h : CB g = true) : fnOk PR g := by
 have hlt : g < 187 := by
  have h1 : Nat.blt g 187 = true := by unfold CB at h; simp only [Bool.and_eq_true] at h; exact h.1
  exact Nat.le_of_ble_eq_true h1
 have := List.all_eq_true.1 CBall g (List.mem_range.2 hlt)
 simp only [h, Bool.not_true, Bool.false_or] at this
 unfold fnOkB at this
 split at this
 ·rename_i fn hf
  simp only [Bool.and_eq_true, Bool.not_eq_true'] at this
  exact ⟨fn, hf, this.1, this.2⟩
 ·cases this
def T_t0 : Nat := 0
def T_int64 : Nat := 2
def T_int : Nat := 3
def T_bool : Nat := 4
def T_uint8 : Nat := 5
def T_string : Nat := 9
def T_pax_Act : Nat := 29
def T_api_Dot : Nat := 32
def T_s_uint8 : Nat := 33
def T_a7_int64 : Nat := 34
def T_vec_Vec : Nat := 35
def T_ballot_Ballot : Nat := 37
def T_inst_Rec : Nat := 39
def T_s_api_Dot : Nat := 42
def T_s_pax_Act : Nat := 45
def T_a5_s_api_Dot : Nat := 46
def T_s_p_pax_replica : Nat := 51
def T_pax_Group : Nat := 53
def T_p_pax_replica : Nat := 54
def T_p_inst_Table : Nat := 55
def T_s_p_pax_leader : Nat := 57
def T_pax_replica : Nat := 59
def T_p_pax_leader : Nat := 63
def T_p_lead_Lead : Nat := 64
def T_p_inst_Answer : Nat := 65
def T_pax_leader : Nat := 68
def T_s_order_Inst : Nat := 73
def T_order_Inst : Nat := 75
def T_m_api_Dot_inst_Rec : Nat := 77
def T_inst_Table : Nat := 79
def T_t82 : Nat := 82
def T_inst_Msg : Nat := 85
def T_p_inst_Rec : Nat := 86
def T_a7_p_inst_Rec : Nat := 87
def T_lead_Lead : Nat := 89
def T_inst_Answer : Nat := 91
def T_m_api_Dot_bool : Nat := 106
def T_p_order_web : Nat := 110
def T_s_int : Nat := 114
def T_s_s_int : Nat := 116
def T_m_api_Dot_int : Nat := 143
def T_order_web : Nat := 145
def T_s_bool : Nat := 146
def T_order_tied : Nat := 152
def T_s_ballot_Ballot : Nat := 159
def T_order_finder : Nat := 187
def F_rostrumlaw22_PaxStays : Nat := 4
def F_rostrumlaw22_awake : Nat := 7
def F_pax_New : Nat := 8
def F_pax_Group_Do : Nat := 9
def F_pax_Group_Calm : Nat := 10
def F_pax_Group_Rec : Nat := 11
def F_rostrumref7_SameDots : Nat := 12
def F_pax_Group_Committed : Nat := 13
def F_pax_Group_Line : Nat := 14
def F_rostrumlaw22_calmed : Nat := 16
def F_inst_New : Nat := 17
def F_pax_Group_has : Nat := 18
def F_pax_Group_propose : Nat := 19
def F_pax_Group_recover : Nat := 20
def F_lead_Lead_Slow : Nat := 21
def F_pax_Group_told : Nat := 22
def F_pax_Group_open : Nat := 23
def F_pax_Group_lead : Nat := 24
def F_pax_Group_spread : Nat := 25
def F_inst_Table_Rec : Nat := 26
def F_inst_Table_All : Nat := 27
def F_order_Line : Nat := 28
def F_lead_Propose : Nat := 29
def F_pax_replica_leading : Nat := 30
def F_lead_Recover : Nat := 31
def F_lead_Lead_majority : Nat := 32
def F_lead_Lead_accept : Nat := 33
def F_pax_Group_ask : Nat := 34
def F_lead_Lead_Got : Nat := 35
def F_inst_Table_Promised : Nat := 36
def F_lead_Lead_Phase : Nat := 37
def F_inst_Table_Do : Nat := 38
def F_inst_copied : Nat := 39
def F_slices_SortedFunc_api_Dot : Nat := 40
def F_maps_Keys_map_api_Dot_inst_Rec_api_Dot_inst_Rec : Nat := 41
def F_dots_Order : Nat := 42
def F_slices_DeleteFunc_api_Dot_api_Dot : Nat := 43
def F_inst_Table_All_1 : Nat := 44
def F_order_Good : Nat := 45
def F_order_Line_1 : Nat := 46
def F_slices_DeleteFunc_order_Inst_order_Inst : Nat := 47
def F_slices_Clone_order_Inst_order_Inst : Nat := 48
def F_order_Line_2 : Nat := 49
def F_order_weave : Nat := 50
def F_order_kept : Nat := 51
def F_order_web_dots : Nat := 52
def F_order_line : Nat := 53
def F_order_web_on : Nat := 54
def F_ballot_First : Nat := 55
def F_bytes_Clone : Nat := 56
def F_lead_good : Nat := 57
def F_inst_May : Nat := 58
def F_lead_Lead_begin : Nat := 59
def F_lead_Lead_Dot : Nat := 60
def F_ballot_Next : Nat := 61
def F_lead_Lead_count : Nat := 62
def F_vec_Merge : Nat := 63
def F_lead_Lead_Msg : Nat := 64
def F_lead_Lead_fits : Nat := 65
def F_lead_Lead_decide : Nat := 66
def F_ballot_Cmp : Nat := 67
def F_lead_Lead_heard : Nat := 68
def F_lead_Lead_prepared : Nat := 69
def F_inst_Table_old : Nat := 70
def F_inst_Table_Would : Nat := 71
def F_ballot_Most : Nat := 72
def F_slices_Collect_api_Dot : Nat := 73
def F_slices_SortFunc_api_Dot_api_Dot : Nat := 74
def F_maps_Keys_map_api_Dot_inst_Rec_api_Dot_inst_Rec_1 : Nat := 75
def F_cmp_Or_int : Nat := 76
def F_cmp_Compare_int : Nat := 77
def F_cmp_Compare_int64 : Nat := 78
def F_slices_IndexFunc_api_Dot_api_Dot : Nat := 79
def F_order_dot : Nat := 80
def F_slices_IndexFunc_order_Inst_order_Inst : Nat := 81
def F_slices_SortFunc_order_Inst_order_Inst : Nat := 82
def F_order_compare : Nat := 83
def F_order_kept_1 : Nat := 84
def F_order_web_each : Nat := 85
def F_order_tie : Nat := 86
def F_slices_Index_int_int : Nat := 87
def F_order_web_on_1 : Nat := 88
def F_inst_Dot : Nat := 89
def F_ballot_Good : Nat := 90
def F_inst_content : Nat := 91
def F_ballot_rep : Nat := 92
def F_lead_Lead_prepared_1 : Nat := 93
def F_lead_Lead_greatest : Nat := 94
def F_lead_Lead_alike : Nat := 95
def F_lead_Lead_first : Nat := 96
def F_slices_AppendSeq_api_Dot_api_Dot : Nat := 97
def F_cmp_isNaN_int : Nat := 100
def F_cmp_isNaN_int64 : Nat := 101
def F_order_groups : Nat := 103
def F_slices_SortFunc_int_int : Nat := 104
def F_order_tie_1 : Nat := 105
def F_vec_Rep : Nat := 106
def F_order_finder_visit : Nat := 125
def F_slices_Sorted_int : Nat := 135
def F_slices_Values_int_int : Nat := 136
def F_slices_Values_int_int_1 : Nat := 149
end Go.Proofs.YtfhacbhgmnhmlaaGreat
namespace Go.Eng
set_option linter.unusedVariables false
set_option linter.unusedSimpArgs false
abbrev Hint.t (h : Hint) : Hint := .two .nil h
abbrev Hint.n : Hint := .nil
end Go.Eng
namespace Go.Proofs.YtfhacbhgmnhmlaaGreat
open Go Go.Eng
abbrev VK := Value → World → Prop
abbrev LK := List Value → World → Prop
abbrev nI (n : Int) : Value := .int .i64 n
def oK (r : Option Value) (k : Value → Prop) : Prop := okF r k
def oA (n : Nat) (x : Value) (k : Value → Prop) : Prop := okF (addrF n x) k
def rD (W : World) (s : Sem Value) (k : VK) : Prop := rdK PR s k W
def lD (W : World) (t : TypeId) (x : Value) (k : VK) : Prop := rdK PR (Instr.loadAt t x) k W
def eF (W : World) (s : Sem Value) (k : VK) : Prop := efK PR s k W
def eU (W : World) (s : Sem Unit) (k : Unit → World → Prop) : Prop := efK PR s k W
def sT (W : World) (t : TypeId) (x v : Value) (k : Unit → World → Prop) : Prop := efK PR (Instr.storeAt t x v) k W
def cL (W : World) (f : Nat) (xs : List Value) (k : VK) : Prop := callK PR f xs k W
def vC (W : World) (f : Value) (xs : List Value) (k : VK) : Prop := vcK PR f xs k W
def gD (W : World) (c : Value) (b : Bool) (A : VK → World → Prop) (k : VK) : Prop := gdK (wantd c b) A k W
def gX (W : World) (c : Value) (b : Bool) (x : Value) (k : VK) : Prop := gdK (wantd c b) (fun k W => k x W) k W
def gP (W : World) (c : Value) (b : Bool) (r : Option Value) (k : VK) : Prop := gdK (wantd c b) (fun k W => okF r fun v => k v W) k W
def gA (W : World) (c : Value) (b : Bool) (n : Nat) (x : Value) (k : VK) : Prop := gdK (wantd c b) (fun k W => okF (addrF n x) fun v => k v W) k W
def gR (W : World) (c : Value) (b : Bool) (s : Sem Value) (k : VK) : Prop := gdK (wantd c b) (fun k W => rdK PR s k W) k W
def gL (W : World) (c : Value) (b : Bool) (t : TypeId) (x : Value) (k : VK) : Prop := gdK (wantd c b) (fun k W => rdK PR (Instr.loadAt t x) k W) k W
def gE (W : World) (c : Value) (b : Bool) (s : Sem Value) (k : VK) : Prop := gdK (wantd c b) (fun k W => efK PR s k W) k W
def gU (W : World) (c : Value) (b : Bool) (s : Sem Unit) (k : VK) : Prop := gdK (wantd c b) (fun k W => efK PR s (fun _ W => k undef W) W) k W
def gC (W : World) (c : Value) (b : Bool) (f : Nat) (xs : List Value) (k : VK) : Prop := gdK (wantd c b) (fun k W => callK PR f xs k W) k W
def gV (W : World) (c : Value) (b : Bool) (f : Value) (xs : List Value) (k : VK) : Prop := gdK (wantd c b) (fun k W => vcK PR f xs k W) k W
def hL (i : Nat) (t : TypeId) (x v : Value) : HoldV := (i, true, Instr.loadAt t x, v)
def sB (W : World) (l : List HoldV) (k : World → Prop) : Prop := stb PR l k W
theorem callS {g : Nat} {fn : Func} {h : Hint} {args : List Value} {R : VK} {W : World} {B : Prop} (hB : B) (hg : PR.funcs[g]? = some fn := by kernel_rfl) (e : bodyK PR CB fn h args R W = B := by kernel_rfl) : callK PR g args R W :=
 callK_of_body (g := g) (fn := fn) (args := args) (R := R) (w := W) mixed CBok hg h (e ▸ hB)
end Go.Proofs.YtfhacbhgmnhmlaaGreat
