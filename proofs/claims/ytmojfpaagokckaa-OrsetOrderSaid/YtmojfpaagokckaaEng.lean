/-
  Own engine, part 1: a predicate evaluator over Go code. It takes frames and control flow away: what is left of a function is a chain of its operations over plain values.
-/
import Derived.Orders
import Derived.OrdersHeld
import Derived.Laws.Sem
import Derived.Laws.Entries
import Derived.KernelRfl
namespace Go.Eng
set_option linter.unusedVariables false
set_option linter.unusedSimpArgs false
open Go

/-! ### frames -/
abbrev Frm := Nat → Option Value
def emp : Frm := fun _ => none
abbrev upd (f : Frm) (d : Nat) (v : Value) : Frm := fun i => bif Nat.beq i d then some v else f i
abbrev upo (f : Frm) (d : Option Nat) (v : Value) : Frm := match d with | some d => upd f d v | none => f
def nthv (s : List Value) (k : Nat) : Value := s.getD k undef
def ofs : List Nat → Nat → List Value → Frm
  | [], _, _ => emp
  | d :: ds, k, s => fun i => bif Nat.beq i d then some (nthv s k) else ofs ds (k + 1) s i
def evs (f : Frm) : List Nat → Option (List Value)
  | [] => some []
  | d :: ds => match f d with
    | none => none
    | some v => match evs f ds with
      | none => none
      | some vs => some (v :: vs)
def ev (f : Frm) : Operand → Option Value
  | .tmp t => f t
  | .const v => some v
  | .global g => some (.pointer (some ⟨g, 0, none⟩))
  | .func g => some (.func (.func g) #[] #[])
def evl (f : Frm) : List Operand → Option (List Value)
  | [] => some []
  | x :: xs => match ev f x with
    | none => none
    | some v => match evl f xs with
      | none => none
      | some vs => some (v :: vs)
/-- parts of a literal: (place, operand) -/
def evp (f : Frm) : List (Nat × Operand) → Option (List (Nat × Value))
  | [] => some []
  | (i, x) :: xs => match ev f x with
    | none => none
    | some v => match evp f xs with
      | none => none
      | some vs => some ((i, v) :: vs)
def evo (f : Frm) : Option Operand → Option (Option Value)
  | none => some none
  | some x => match ev f x with
    | none => none
    | some v => some (some v)

structure Fits (n : Nat) (f : Frm) (a : Act) : Prop where
  size : a.tmps.size = n
  defers : a.defers = []
  tmps : ∀ i v, f i = some v → a.tmps[i]? = some v

theorem Fits.eval {n : Nat} {f : Frm} {a : Act} (h : Fits n f a) {x : Operand} {v : Value} (hx : ev f x = some v) : a.eval x = v := by
  cases x with
  | tmp t => have := h.tmps t v hx; simp [Act.eval, this]
  | const u => simpa [ev, Act.eval] using hx
  | global g => simpa [ev, Act.eval] using hx
  | func g => simpa [ev, Act.eval] using hx

theorem Fits.upd {n : Nat} {f : Frm} {a : Act} (h : Fits n f a) {d : Nat} {v : Value} (hd : d < n) : Fits n (upd f d v) (a.put (some d) v) := by
  refine ⟨by simp [Act.put, h.size], by simp [Act.put, h.defers], fun i u hi => ?_⟩
  simp only [Eng.upd] at hi
  simp only [Act.put]
  by_cases hid : i = d
  · subst hid
    have : Nat.beq i i = true := Nat.beq_refl i
    rw [this] at hi
    simp at hi
    subst hi
    simp [h.size, hd]
  · have hb : Nat.beq i d = false := by
      cases hbb : Nat.beq i d with
      | false => rfl
      | true => exact absurd (Nat.eq_of_beq_eq_true hbb) hid
    rw [hb] at hi
    simp at hi
    rw [Array.getElem?_setIfInBounds_ne (Ne.symm hid)]
    exact h.tmps i u hi

/-- a destination that lies in the frame -/
def dstOk (n : Nat) : Option Nat → Bool
  | none => true
  | some d => Nat.blt d n
theorem Fits.upo {n : Nat} {f : Frm} {a : Act} (h : Fits n f a) {d : Option Nat} {v : Value} (hd : dstOk n d = true) : Fits n (upo f d v) (a.put d v) := by
  cases d with
  | none => exact h
  | some d => exact h.upd (Nat.le_of_ble_eq_true hd)

theorem Fits.ofs_aux {f : Frm} : ∀ (ds : List Nat) (k : Nat) (pre vs : List Value), evs f ds = some vs → pre.length = k → ∀ i v, ofs ds k (pre ++ vs) i = some v → f i = some v
  | [], _, _, _, _, _, i, v, h => by simp [ofs, emp] at h
  | d :: ds, k, pre, vs, he, hk, i, v, h => by
    simp only [evs] at he
    cases hfd : f d with
    | none => rw [hfd] at he; cases he
    | some u =>
      rw [hfd] at he
      cases hes : evs f ds with
      | none => rw [hes] at he; cases he
      | some us =>
        rw [hes] at he
        simp at he
        subst he
        simp only [ofs] at h
        cases hb : Nat.beq i d with
        | true =>
          rw [hb] at h
          have := Nat.eq_of_beq_eq_true hb
          subst this
          simp [nthv, ← hk] at h
          rw [hfd, h]
        | false =>
          rw [hb] at h
          simp only [cond_false] at h
          refine Fits.ofs_aux ds (k + 1) (pre ++ [u]) us hes (by simp [hk]) i v ?_
          simpa using h

theorem Fits.ofs {n : Nat} {f : Frm} {a : Act} (h : Fits n f a) {ds : List Nat} {vs : List Value} (he : evs f ds = some vs) : Fits n (ofs ds 0 vs) a :=
  ⟨h.size, h.defers, fun i v hi => h.tmps i v (Fits.ofs_aux ds 0 [] vs he rfl i v (by simpa using hi))⟩

/-! ### what the operations come to, over values -/
def okF (r : Option Value) (k : Value → Prop) : Prop := match r with | some v => k v | none => False
/-- carried out, the world may turn -/
def efK {α : Type} (P : Program) (s : Sem α) (k : α → World → Prop) (W : World) : Prop := ∃ v W', s.run P W = .ok v W' ∧ k v W'
/-- carried out, the world stays -/
def rdK {α : Type} (P : Program) (s : Sem α) (k : α → World → Prop) (W : World) : Prop := ∃ v, s.run P W = .ok v W ∧ k v W
def callK (P : Program) (g : Nat) (args : List Value) (k : Value → World → Prop) (W : World) : Prop :=
  Calls P g args.toArray W fun e W' => match e with | .returned v => k v W' | _ => False

def binP (op : BinOp) (x y : Value) : Option Value :=
  match x, y with
  | .int k a, .int k' b =>
    match op with
    | .shl => if b < 0 then none else some (.int k (k.wrap (a * 2 ^ (min b.toNat k.bits))))
    | .shr => if b < 0 then none else some (.int k (a.fdiv (2 ^ (min b.toNat k.bits))))
    | _ => if k ≠ k' then none else
      match op with
      | .add => some (.int k (k.wrap (a + b)))
      | .sub => some (.int k (k.wrap (a - b)))
      | .mul => some (.int k (k.wrap (a * b)))
      | .quo => if b = 0 then none else some (.int k (k.wrap (a.tdiv b)))
      | .rem => if b = 0 then none else some (.int k (a.tmod b))
      | .and => some (.int k (k.wrap (BitVec.ofInt k.bits a &&& BitVec.ofInt k.bits b).toNat))
      | .or => some (.int k (k.wrap (BitVec.ofInt k.bits a ||| BitVec.ofInt k.bits b).toNat))
      | .xor => some (.int k (k.wrap (BitVec.ofInt k.bits a ^^^ BitVec.ofInt k.bits b).toNat))
      | .andNot => some (.int k (k.wrap (BitVec.ofInt k.bits a &&& ~~~(BitVec.ofInt k.bits b)).toNat))
      | .eql => some (.bool (a == b))
      | .neq => some (.bool (a != b))
      | .lss => some (.bool (a < b))
      | .leq => some (.bool (a ≤ b))
      | .gtr => some (.bool (a > b))
      | .geq => some (.bool (a ≥ b))
      | _ => none
  | .string a, .string b =>
    match op with
    | .add => if ((a.size + b.size : Nat) : Int) > IntKind.i64.max then none else some (.string (a ++ b))
    | .eql => some (.bool (a.toList == b.toList))
    | .neq => some (.bool !(a.toList == b.toList))
    | .lss => some (.bool (Op.bytesLess a.toList b.toList))
    | .leq => some (.bool (Op.bytesLess a.toList b.toList || a.toList == b.toList))
    | .gtr => some (.bool !(Op.bytesLess a.toList b.toList || a.toList == b.toList))
    | .geq => some (.bool !(Op.bytesLess a.toList b.toList))
    | _ => none
  | _, _ => none

theorem binP_run {P : Program} {op : BinOp} {t : TypeId} {x y : Operand} {a b v : Value} (h : binP op a b = some v) (w : World) :
    (do eqGuard op t x y a b; binOp op t a b).run P w = .ok v w := by
  unfold binP at h
  split at h
  · rename_i k n k' n'
    have hg : (eqGuard op t x y (.int k n) (.int k' n')).run P w = .ok () w := by
      unfold eqGuard; split <;> rfl
    rw [Sem.run_bind, hg]
    simp only [Result.andThen_ok]
    split at h
    · split at h
      · cases h
      · rename_i hn; simp at h; subst h; simp [binOp, Op.shift, hn]
    · split at h
      · cases h
      · rename_i hn; simp at h; subst h; simp [binOp, Op.shift, hn]
    · split at h
      · cases h
      · rename_i hk
        have hk' : k = k' := Classical.not_not.1 hk
        subst hk'
        split at h <;> first
          | (simp at h; subst h; simp [binOp, Op.intArith, Op.intBits, Op.intCmp]; done)
          | (split at h
             · cases h
             · rename_i hz; simp at h; subst h; simp [binOp, Op.intDiv, hz]; done)
          | cases h
  · have hg : ∀ s s', (eqGuard op t x y (.string s) (.string s')).run P w = .ok () w := by
      intro s s'; unfold eqGuard; split <;> rfl
    rw [Sem.run_bind, hg]
    simp only [Result.andThen_ok]
    split at h
    · split at h
      · cases h
      · rename_i hn; simp at h; subst h; simp only [binOp, Op.stringOp, hn]; rfl
    all_goals first
      | (simp at h; subst h; simp [binOp, Op.stringOp]; done)
      | cases h
  · cases h


def unP (op : UnOp) (x : Value) : Option Value :=
  match op, x with
  | .neg, .int k n => some (.int k (k.wrap (0 - n)))
  | .xor, .int k n => some (.int k (k.wrap (BitVec.ofInt k.bits (if k.signed then -1 else k.max) ^^^ BitVec.ofInt k.bits n).toNat))
  | .not, .bool b => some (.bool !b)
  | _, _ => none
theorem unP_run {P : Program} {op : UnOp} {a v : Value} (h : unP op a = some v) (w : World) : (Op.unary op a).run P w = .ok v w := by
  unfold unP at h
  split at h <;> first
    | (simp at h; subst h; simp [Op.unary, Op.intArith, Op.intBits]; done)
    | cases h

/-- '==' where one side is nil, or of two bools -/
def eqR (d : TypeDesc) (x y : Value) : Option Bool :=
  match d, x, y with
    | .bool, .bool a, .bool b => some (a == b)
    | .pointer _, .pointer none, .pointer b => some b.isNone
    | .pointer _, .pointer (some _), .pointer none => some false
    | .slice _, .slice none _ _, .slice b _ _ => some b.isNone
    | .slice _, .slice (some _) _ _, .slice none _ _ => some false
    | .map _ _, .map none, .map b => some b.isNone
    | .map _ _, .map (some _), .map none => some false
    | .func _ _ _, .nilFunc, .nilFunc => some true
    | .func _ _ _, .nilFunc, .func _ _ _ => some false
    | .func _ _ _, .func _ _ _, .nilFunc => some false
    | _, _, _ => none
def eqP (d : TypeDesc) (op : BinOp) (x y : Value) : Option Value :=
  match op, eqR d x y with
  | .eql, some b => some (.bool b)
  | .neq, some b => some (.bool !b)
  | _, _ => none
theorem eqGuard_run {P : Program} {op : BinOp} {t : TypeId} {x y : Operand} {a b : Value} (h1 : ∀ c d, ¬ (a = .agg c ∧ b = .agg d)) (h2 : a ≠ .nilIface) (w : World) :
    (eqGuard op t x y a b).run P w = .ok () w := by
  unfold eqGuard
  have hm : ∀ (m : Sem Unit), m.run P w = .ok () w → ((if (!(op matches .eql | .neq)) = true then pure () else m) : Sem Unit).run P w = .ok () w := by
    intro m hm
    by_cases h : (!(op matches .eql | .neq)) = true
    · rw [if_pos h]; rfl
    · rw [if_neg h]; exact hm
  refine hm _ ?_
  split
  · exact absurd rfl h2
  · rename_i c d; exact absurd ⟨rfl, rfl⟩ (h1 c d)
  · rfl
theorem binOp_eql {P : Program} {t : TypeId} {a b : Value} {r : Bool} {w : World} (hb : binOp .eql t a b = (do pure (.bool (← Op.equal t a b)))) (h : ∀ n, (Op.equalIn (n + 1) t a b).run P w = .ok r w) :
    (binOp .eql t a b).run P w = .ok (.bool r) w := by
  rw [hb]
  have := h 9999
  simp only [bind_pure_comp]
  show (Value.bool <$> Op.equalIn 10000 t a b).run P w = _
  rw [← bind_pure_comp, Sem.run_bind, this]
  rfl
theorem binOp_neq {P : Program} {t : TypeId} {a b : Value} {r : Bool} {w : World} (hb : binOp .neq t a b = (do pure (.bool (!(← Op.equal t a b))))) (h : ∀ n, (Op.equalIn (n + 1) t a b).run P w = .ok r w) :
    (binOp .neq t a b).run P w = .ok (.bool !r) w := by
  rw [hb]
  have := h 9999
  show ((Op.equalIn 10000 t a b) >>= fun x => pure (Value.bool !x)).run P w = _
  rw [Sem.run_bind, this]
  rfl
theorem eqR_run {P : Program} {d : TypeDesc} {t : TypeId} {a b : Value} {r : Bool} (ht : P.underlying t = some d) (h : eqR d a b = some r) (w : World) (n : Nat) :
    (Op.equalIn (n + 1) t a b).run P w = .ok r w := by
  have hu := run_underlying (P := P) ht w
  unfold eqR at h
  split at h <;> first
    | (cases h; done)
    | (simp only [Option.some.injEq] at h
       subst h
       show Sem.run P (underlying t >>= _) w = _
       rw [Sem.run_bind, hu]
       rfl)
theorem eqR_ne {d : TypeDesc} {a b : Value} {r : Bool} (h : eqR d a b = some r) : (∀ c d, ¬ (a = .agg c ∧ b = .agg d)) ∧ a ≠ .nilIface := by
  unfold eqR at h
  split at h <;> first
    | (cases h; done)
    | exact ⟨fun c d h => (nomatch h.1), fun h => (nomatch h)⟩
theorem eqR_bin {d : TypeDesc} {a b : Value} {r : Bool} (h : eqR d a b = some r) (t : TypeId) :
    binOp .eql t a b = (do pure (.bool (← Op.equal t a b))) ∧ binOp .neq t a b = (do pure (.bool (!(← Op.equal t a b)))) := by
  unfold eqR at h
  split at h <;> first
    | (cases h; done)
    | exact ⟨by simp only [binOp], by simp only [binOp]⟩
theorem eqP_run {P : Program} {d : TypeDesc} {op : BinOp} {t : TypeId} {x y : Operand} {a b v : Value} (ht : P.underlying t = some d) (h : eqP d op a b = some v) (w : World) :
    (do eqGuard op t x y a b; binOp op t a b).run P w = .ok v w := by
  unfold eqP at h
  split at h
  · rename_i r hr
    obtain ⟨h1, h2⟩ := eqR_ne hr
    simp only [Option.some.injEq] at h
    subst h
    rw [Sem.run_bind, eqGuard_run h1 h2]
    exact binOp_eql (eqR_bin hr t).1 (eqR_run ht hr w)
  · rename_i r hr
    obtain ⟨h1, h2⟩ := eqR_ne hr
    simp only [Option.some.injEq] at h
    subst h
    rw [Sem.run_bind, eqGuard_run h1 h2]
    exact binOp_neq (eqR_bin hr t).2 (eqR_run ht hr w)
  · cases h

def addrF (off : Nat) (x : Value) : Option Value := match x with | .pointer (some a) => some (.pointer (some (a.add off))) | _ => none
def idxS (sz : Nat) (x i : Value) : Option Value :=
  match x, i with
  | .slice (some a) len _, .int _ i => if 0 ≤ i ∧ i < len then some (.pointer (some (a.add (i.toNat * sz)))) else none
  | _, _ => none
def idxA (len sz : Nat) (x i : Value) : Option Value :=
  match x, i with
  | .pointer (some a), .int _ i => if 0 ≤ i ∧ i < len then some (.pointer (some (a.add (i.toNat * sz)))) else none
  | _, _ => none
def partV (agg : Bool) (cs : Array Value) (off sz : Nat) : Option Value := match agg with | true => some (.agg (cs.extract off (off + sz))) | false => cs[off]?
def idxV (len : Nat) (agg : Bool) (sz : Nat) (x i : Value) : Option Value :=
  match x, i with
  | .agg cs, .int _ i => if 0 ≤ i ∧ i < len then partV agg cs (i.toNat * sz) sz else none
  | _, _ => none
def idxStr (x i : Value) : Option Value :=
  match x, i with
  | .string s, .int _ i => if 0 ≤ i then (s[i.toNat]?).map fun b => .int .u8 b.toNat else none
  | _, _ => none
def fldV (agg : Bool) (off sz : Nat) (x : Value) : Option Value := match x with | .agg cs => partV agg cs off sz | _ => none
def bnd (v : Option Value) (dflt y : Nat) : Option Nat :=
  match v with
  | none => some dflt
  | some (.int _ i) => if 0 ≤ i ∧ i ≤ y then some i.toNat else none
  | _ => none
/-- low, high, max of a cut; a cut with a max has a high -/
def slcB (len cap : Nat) (lo hi mx : Option Value) : Option (Nat × Nat × Nat) :=
  match hi, mx with
  | none, some _ => none
  | _, _ =>
    match bnd mx cap cap with
    | none => none
    | some m => match bnd hi len m with
      | none => none
      | some h => match bnd lo 0 h with
        | none => none
        | some l => some (l, h, m)
def slcStr (x : Value) (lo hi : Option Value) : Option Value :=
  match x with
  | .string s => match slcB s.size s.size lo hi none with
    | some (l, h, _) => some (.string (s.extract l h))
    | none => none
  | _ => none
def slcS (sz : Nat) (x : Value) (lo hi mx : Option Value) : Option Value :=
  match x with
  | .slice a len cap => match slcB len cap lo hi mx with
    | some (l, h, m) => some (.slice (if m = l then a else a.map (·.add (l * sz))) (h - l) (m - l))
    | none => none
  | _ => none
def slcA (n sz : Nat) (x : Value) (lo hi mx : Option Value) : Option Value :=
  match x with
  | .pointer (some a) => match slcB n n lo hi mx with
    | some (l, h, m) => some (.slice (some (if m = l then a else a.add (l * sz))) (h - l) (m - l))
    | none => none
  | _ => none
def cvtP (d : TypeDesc) (x : Value) : Option Value :=
  match d, x with
  | .int k, .int _ n => some (.int k (k.wrap n))
  | .string, .string s => some (.string s)
  | _, _ => none
def nilP (x : Value) : Option Value :=
  match x with
  | .pointer (some a) => some (.pointer (some a))
  | .func (.func g) fi ca => some (.func (.func g) fi ca)
  | _ => none
def pickP (c a b : Value) : Option Value := match c with | .bool c => some (if c then a else b) | _ => none
def lenP (d : TypeDesc) (x : Value) : Option Value :=
  match d, x with
  | .string, .string s => some (goInt s.size)
  | .array n _, _ => some (goInt n)
  | .slice _, .slice _ n _ => some (goInt n)
  | _, _ => none
def capP (d : TypeDesc) (x : Value) : Option Value :=
  match d, x with
  | .array n _, _ => some (goInt n)
  | .slice _, .slice _ _ n => some (goInt n)
  | _, _ => none
def max2P (x y : Value) : Option Value := match x, y with | .int k x, .int _ y => some (.int k (if y > x then y else x)) | _, _ => none
def min2P (x y : Value) : Option Value := match x, y with | .int k x, .int _ y => some (.int k (if y < x then y else x)) | _, _ => none
def foldA (g : Value → Value → Option Value) (acc : Value) : List Value → Option Value
  | [] => some acc
  | y :: r => match g acc y with
    | some z => foldA g z r
    | none => none
def foldP (g : Value → Value → Option Value) : List Value → Option Value
  | [] => none
  | x :: r => foldA g x r
/-- the cells of a literal: each part over the noughts -/
def fillL (place : Nat → Option (Nat × Nat)) (zero : List Value) : List (Nat × Value) → Option (List Value)
  | [] => some zero
  | (i, v) :: rest => match place i with
    | none => none
    | some (off, size) => match Nat.beq v.cells.size size && Nat.ble (off + size) zero.length with
      | true => fillL place (zero.take off ++ v.cells.toList ++ zero.drop (off + size)) rest
      | false => none
def bldP (place : Nat → Option (Nat × Nat)) (zero : List Value) (parts : List (Nat × Value)) : Option Value :=
  match fillL place zero parts with
  | some cs => some (.agg cs.toArray)
  | none => none
def extP (i : Nat) (x : Value) : Option Value := match x with | .tuple vs => vs[i]? | _ => none

/-! ### each pure evaluator is the operation's own run -/
section
variable {P : Program} {w : World}

theorem run_typeInfo' {t : TypeId} {i : TypeInfo} (h : P.info? t = some i) : (typeInfo t).run P w = .ok i w := by
  simp [typeInfo, program, Sem.run, h]
theorem run_sizeOf' {t : TypeId} {i : TypeInfo} (h : P.info? t = some i) : (sizeOf t).run P w = .ok i.size w := by
  simp [sizeOf, run_typeInfo' h]
theorem run_zeroValue' {t : TypeId} {i : TypeInfo} {z : Value} (h : P.info? t = some i) (hz : i.zero = some z) : (zeroValue t).run P w = .ok z w := by
  simp [zeroValue, run_typeInfo' h, hz]
def aggB : TypeDesc → Bool
  | .struct _ => true
  | .array _ _ => true
  | _ => false
theorem run_isAgg' {t : TypeId} {d : TypeDesc} (h : P.underlying t = some d) : (isAgg t).run P w = .ok (aggB d) w := by
  simp only [isAgg, Sem.run_bind, run_underlying h, Result.andThen_ok]
  cases d <;> rfl

theorem addrF_run {s : TypeId} {fs : Array Field} {fld : Nat} {fd : Field} {i : TypeInfo} {x v : Value} (hs : P.underlying s = some (.struct fs)) (hf : fs[fld]? = some fd)
    (hi : P.info? fd.type = some i) (h0 : i.size ≠ 0) (h : addrF fd.offset x = some v) : (Instr.fieldAt s x fld).run P w = .ok v w := by
  unfold addrF at h
  split at h
  · simp only [Option.some.injEq] at h
    subst h
    simp [Instr.fieldAt, run_underlying hs, hf, Instr.sureAddr, fieldPlace, run_sizeOf' hi, h0]
  · cases h
theorem idxS_run {t elem : TypeId} {i : TypeInfo} {x j v : Value} (ht : P.underlying t = some (.slice elem)) (hi : P.info? elem = some i) (h : idxS i.size x j = some v) :
    (Instr.indexAt t x j).run P w = .ok v w := by
  unfold idxS at h
  split at h
  · split at h
    · rename_i hb
      simp only [Option.some.injEq] at h
      subst h
      simp [Instr.indexAt, asIntOf, run_underlying ht, run_sizeOf' hi, hb]
    · cases h
  · cases h
theorem idxA_run {t elem : TypeId} {len : Nat} {i : TypeInfo} {x j v : Value} (ht : P.underlying t = some (.array len elem)) (hi : P.info? elem = some i) (h : idxA len i.size x j = some v) :
    (Instr.indexAt t x j).run P w = .ok v w := by
  unfold idxA at h
  split at h
  · split at h
    · rename_i hb
      simp only [Option.some.injEq] at h
      subst h
      simp [Instr.indexAt, asIntOf, run_underlying ht, run_sizeOf' hi, Instr.sureAddr, hb]
    · cases h
  · cases h
theorem partV_run {t : TypeId} {d : TypeDesc} {i : TypeInfo} {cs : Array Value} {off : Nat} {v : Value} (ht : P.underlying t = some d) (hi : P.info? t = some i) (h : partV (aggB d) cs off i.size = some v) :
    (part t cs off).run P w = .ok v w := by
  unfold partV at h
  simp only [part, Sem.run_bind, run_isAgg' ht, Result.andThen_ok]
  split at h
  · rename_i hb
    simp only [Option.some.injEq] at h
    subst h
    simp [hb, run_sizeOf' hi]
  · rename_i hb
    simp [hb, h]
theorem idxV_run {t elem : TypeId} {len : Nat} {d : TypeDesc} {i : TypeInfo} {x j v : Value} (ht : P.underlying t = some (.array len elem)) (hd : P.underlying elem = some d) (hi : P.info? elem = some i)
    (h : idxV len (aggB d) i.size x j = some v) : (Instr.index t x j).run P w = .ok v w := by
  unfold idxV at h
  split at h
  · split at h
    · rename_i hb
      simp [Instr.index, asIntOf, run_underlying ht, run_sizeOf' hi, hb, partV_run hd hi h]
    · cases h
  · cases h
theorem idxStr_run {t : TypeId} {x j v : Value} (ht : P.underlying t = some .string) (h : idxStr x j = some v) : (Instr.index t x j).run P w = .ok v w := by
  unfold idxStr at h
  split at h
  · split at h
    · rename_i hb
      obtain ⟨b, hb1, hb2⟩ := Option.map_eq_some_iff.1 h
      subst hb2
      simp [Instr.index, asIntOf, run_underlying ht, hb, hb1]
    · cases h
  · cases h
theorem fldV_run {s : TypeId} {fs : Array Field} {fld : Nat} {fd : Field} {d : TypeDesc} {i : TypeInfo} {x v : Value} (hs : P.underlying s = some (.struct fs)) (hf : fs[fld]? = some fd)
    (hd : P.underlying fd.type = some d) (hi : P.info? fd.type = some i) (h : fldV (aggB d) fd.offset i.size x = some v) : (Instr.field s x fld).run P w = .ok v w := by
  unfold fldV at h
  split at h
  · simp [Instr.field, run_underlying hs, hf, asAgg, partV_run hd hi h]
  · cases h

theorem bnd_run {x : Value} {y : Nat} {c : BoundsCode} {n dflt : Nat} (h : bnd (some x) dflt y = some n) : (Instr.sliceBound x y c).run P w = .ok n w := by
  unfold bnd at h
  split at h
  · rename_i hx; cases hx
  · rename_i k i hx
    simp only [Option.some.injEq] at hx
    subst hx
    split at h
    · rename_i hb
      simp only [Option.some.injEq] at h
      subst h
      simp [Instr.sliceBound, asIntOf, hb]
    · cases h
  · cases h
theorem slcB_run {isS : Bool} {len cap : Nat} {lo hi mx : Option Value} {r : Nat × Nat × Nat} (h : slcB len cap lo hi mx = some r) : (Instr.sliceBounds isS len cap lo hi mx).run P w = .ok r w := by
  unfold slcB at h
  split at h
  · cases h
  · rename_i hne
    split at h
    · cases h
    · rename_i m hm
      split at h
      · cases h
      · rename_i hh hhe
        split at h
        · cases h
        · rename_i l hl
          simp only [Option.some.injEq] at h
          subst h
          cases lo with
          | none =>
            simp [bnd] at hl
            subst hl
            cases mx with
            | none =>
              simp [bnd] at hm
              subst hm
              cases hi with
              | none => simp [bnd] at hhe; subst hhe; simp [Instr.sliceBounds]
              | some y => simp [Instr.sliceBounds, bnd_run hhe]
            | some z =>
              cases hi with
              | none => exact absurd rfl (hne z rfl)
              | some y => simp [Instr.sliceBounds, bnd_run hhe, bnd_run hm]
          | some x =>
            cases mx with
            | none =>
              simp [bnd] at hm
              subst hm
              cases hi with
              | none => simp [bnd] at hhe; subst hhe; simp [Instr.sliceBounds, bnd_run hl]
              | some y => simp [Instr.sliceBounds, bnd_run hhe, bnd_run hl]
            | some z =>
              cases hi with
              | none => exact absurd rfl (hne z rfl)
              | some y => simp [Instr.sliceBounds, bnd_run hhe, bnd_run hm, bnd_run hl]
theorem slcStr_run {t : TypeId} {x v : Value} {lo hi : Option Value} (ht : P.underlying t = some .string) (h : slcStr x lo hi = some v) : (Instr.sliceAt t x lo hi none).run P w = .ok v w := by
  unfold slcStr at h
  split at h
  · split at h
    · rename_i l hh m hb
      simp only [Option.some.injEq] at h
      subst h
      simp [Instr.sliceAt, Instr.slice, run_underlying ht, slcB_run hb]
    · cases h
  · cases h
theorem slcS_run {t elem : TypeId} {i : TypeInfo} {x v : Value} {lo hi mx : Option Value} (ht : P.underlying t = some (.slice elem)) (hi' : P.info? elem = some i) (h : slcS i.size x lo hi mx = some v) :
    (Instr.sliceAt t x lo hi mx).run P w = .ok v w := by
  unfold slcS at h
  split at h
  · split at h
    · rename_i l hh m hb
      simp only [Option.some.injEq] at h
      subst h
      simp [Instr.sliceAt, Instr.slice, run_underlying ht, run_sizeOf' hi', slcB_run hb]
    · cases h
  · cases h
theorem slcA_run {t elem : TypeId} {n : Nat} {i : TypeInfo} {x v : Value} {lo hi mx : Option Value} (ht : P.underlying t = some (.array n elem)) (hi' : P.info? elem = some i) (h : slcA n i.size x lo hi mx = some v) :
    (Instr.sliceAt t x lo hi mx).run P w = .ok v w := by
  unfold slcA at h
  split at h
  · split at h
    · rename_i l hh m hb
      simp only [Option.some.injEq] at h
      subst h
      simp [Instr.sliceAt, Instr.sureAddr, run_underlying ht, run_sizeOf' hi', slcB_run hb]
    · cases h
  · cases h
theorem cvtInt_run {src dst : TypeId} {ds : TypeDesc} {k : IntKind} {x v : Value} (hs : P.underlying src = some ds) (hd : P.underlying dst = some (.int k)) (h : cvtP (.int k) x = some v) :
    (convert src dst x).run P w = .ok v w := by
  unfold cvtP at h
  split at h
  · rename_i hk
    simp only [TypeDesc.int.injEq] at hk
    subst hk
    simp only [Option.some.injEq] at h
    subst h
    simp [convert, run_underlying hs, run_underlying hd, Conv.intToInt]
  · rename_i hk; cases hk
  · cases h
theorem cvtStr_run {src dst : TypeId} {x v : Value} (hs : P.underlying src = some .string) (hd : P.underlying dst = some .string) (h : cvtP .string x = some v) :
    (convert src dst x).run P w = .ok v w := by
  unfold cvtP at h
  split at h
  · rename_i hk; cases hk
  · simp only [Option.some.injEq] at h
    subst h
    simp [convert, run_underlying hs, run_underlying hd]
  · cases h
theorem lenP_run {t ty : TypeId} {ats : Array TypeId} {d : TypeDesc} {x v : Value} {xs : Array Value} (h0 : ats[0]? = some t) (hx : xs[0]? = some x) (ht : P.underlying t = some d) (h : lenP d x = some v) :
    (Builtin.len_ ats ty xs).run P w = .ok v w := by
  unfold lenP at h
  split at h <;> first
    | (cases h; done)
    | (simp only [Option.some.injEq] at h; subst h; simp [Builtin.len_, h0, hx, run_underlying ht]; done)
theorem capP_run {t ty : TypeId} {ats : Array TypeId} {d : TypeDesc} {x v : Value} {xs : Array Value} (h0 : ats[0]? = some t) (hx : xs[0]? = some x) (ht : P.underlying t = some d) (h : capP d x = some v) :
    (Builtin.cap_ ats ty xs).run P w = .ok v w := by
  unfold capP at h
  split at h <;> first
    | (cases h; done)
    | (simp only [Option.some.injEq] at h; subst h; simp [Builtin.cap_, h0, hx, run_underlying ht]; done)
theorem max2P_run {x y v : Value} (h : max2P x y = some v) : (Builtin.max2 x y).run P w = .ok v w := by
  unfold max2P at h
  split at h
  · simp only [Option.some.injEq] at h; subst h; simp [Builtin.max2]
  · cases h
theorem min2P_run {x y v : Value} (h : min2P x y = some v) : (Builtin.min2 x y).run P w = .ok v w := by
  unfold min2P at h
  split at h
  · simp only [Option.some.injEq] at h; subst h; simp [Builtin.min2]
  · cases h

theorem foldA_run {P : Program} {w : World} {g : Value → Value → Option Value} {m : Value → Value → Sem Value} (hg : ∀ x y v, g x y = some v → (m x y).run P w = .ok v w) :
    ∀ (l : List Value) (x v : Value), foldA g x l = some v → (l.foldlM m x).run P w = .ok v w
  | [], x, v, h => by simp only [foldA, Option.some.injEq] at h; subst h; rfl
  | y :: r, x, v, h => by
    simp only [foldA] at h
    split at h
    · rename_i z hz
      simp [hg _ _ _ hz, foldA_run hg r z v h]
    · cases h
theorem max_run {ats : Array TypeId} {ty : TypeId} {l : List Value} {v : Value} (h : foldP max2P l = some v) : (Builtin.max_ ats ty l.toArray).run P w = .ok v w := by
  cases l with
  | nil => simp [foldP] at h
  | cons x r => simp only [foldP] at h; simp [Builtin.max_, foldA_run (fun _ _ _ h => max2P_run h) r x v h]
theorem min_run {ats : Array TypeId} {ty : TypeId} {l : List Value} {v : Value} (h : foldP min2P l = some v) : (Builtin.min_ ats ty l.toArray).run P w = .ok v w := by
  cases l with
  | nil => simp [foldP] at h
  | cons x r => simp only [foldP] at h; simp [Builtin.min_, foldA_run (fun _ _ _ h => min2P_run h) r x v h]

theorem put_cells (vs : List Value) : ∀ (k : Nat) (cs : Array Value), k + vs.length ≤ cs.size →
    (vs.zipIdx k).foldl (fun cs (p : Value × Nat) => cs.setIfInBounds p.2 p.1) cs = (cs.toList.take k ++ vs ++ cs.toList.drop (k + vs.length)).toArray := by
  induction vs with
  | nil => intro k cs h; simp
  | cons v vs ih =>
    intro k cs h
    simp only [List.length_cons] at h
    rw [List.zipIdx_cons, List.foldl_cons, ih (k + 1) _ (by simp; omega)]
    simp only [Array.toList_setIfInBounds, List.length_cons]
    have hk : k < cs.toList.length := by simp; omega
    have h1 : (cs.toList.set k v).take (k + 1) = cs.toList.take k ++ [v] := by
      rw [List.take_set, List.take_succ_eq_append_getElem hk, List.set_append_right _ _ (by simp; omega)]
      have : k - (cs.toList.take k).length = 0 := by simp; omega
      rw [this]
      rfl
    have h2 : (cs.toList.set k v).drop (k + 1 + vs.length) = cs.toList.drop (k + (vs.length + 1)) := by
      rw [List.drop_set_of_lt (by omega)]
      congr 1
      omega
    rw [h1, h2]
    simp

theorem fillL_run (place : Nat → Option (Nat × Nat)) : ∀ (parts : List (Nat × Value)) (zero cs : List Value), fillL place zero parts = some cs → Instr.fill place zero.toArray parts = some cs.toArray
  | [], zero, cs, h => by simp only [fillL, Option.some.injEq] at h; subst h; rfl
  | (i, v) :: rest, zero, cs, h => by
    simp only [fillL] at h
    simp only [Instr.fill]
    split at h
    · cases h
    · rename_i off size hp
      split at h
      · rename_i hb
        simp only [Bool.and_eq_true] at hb
        have h1 := Nat.eq_of_beq_eq_true hb.1
        have h2 := Nat.le_of_ble_eq_true hb.2
        have h3 : ¬ ((decide (v.cells.size ≠ size) || decide (off + v.cells.size > zero.toArray.size)) = true) := by simp [h1]; omega
        simp only [hp]
        rw [if_neg h3]
        have h4 := fillL_run place rest _ cs h
        have h5 : v.cells.zipIdx.foldl (fun cs (p : Value × Nat) => cs.setIfInBounds (off + p.2) p.1) zero.toArray = (zero.take off ++ v.cells.toList ++ zero.drop (off + size)).toArray := by
          have := put_cells v.cells.toList off zero.toArray (by simp [h1]; omega)
          simp only [Array.length_toList, h1] at this
          rw [← this]
          rw [← Array.foldl_toList, Array.toList_zipIdx]
          rw [List.zipIdx_eq_map_add (i := off), List.foldl_map]
        rw [h5]
        exact h4
      · cases h
end
end Go.Eng
