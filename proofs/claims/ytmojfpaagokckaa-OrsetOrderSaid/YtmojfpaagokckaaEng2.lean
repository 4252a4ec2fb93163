/-
  Own engine, part 2: the shape of an operation over a frame, and that it is the operation's own run.
-/
import Derived.Test.YtmojfpaagokckaaEng
namespace Go.Eng
set_option linter.unusedVariables false
set_option linter.unusedSimpArgs false
open Go

/-- what an operation comes to once its operands are known -/
inductive Sh where
  | val (v : Value)
  | pure (v : Option Value)
  | read (s : Sem Value)
  | eff (s : Sem Value)
  | effU (s : Sem Unit)
  | call (g : Nat) (args : List Value)
  | vcall (f : Value) (args : List Value)
  | bad

/-- '==' of structs and arrays -/
def aggEq (op : BinOp) (t : TypeId) (a b : Value) : Sem Value :=
  match a, b with
  | .agg xs, .agg ys => do eqGuard op t (.tmp 0) (.tmp 0) (.agg xs) (.agg ys); binOp op t (.agg xs) (.agg ys)
  | _, _ => stuck ""

abbrev ap1 (r : Option Value) (k : Value → Sh) : Sh := match r with | some v => k v | none => .bad
abbrev apl (r : Option (List Value)) (k : List Value → Sh) : Sh := match r with | some v => k v | none => .bad
abbrev app (r : Option (List (Nat × Value))) (k : List (Nat × Value) → Sh) : Sh := match r with | some v => k v | none => .bad
abbrev apo (r : Option (Option Value)) (k : Option Value → Sh) : Sh := match r with | some v => k v | none => .bad

/-- the places of a struct's fields -/
def plOf (P : Program) : List Field → Option (List (Nat × Nat))
  | [] => some []
  | fd :: r => match P.info? fd.type with
    | none => none
    | some i => match plOf P r with
      | none => none
      | some l => some ((fd.offset, i.size) :: l)

def shape (P : Program) (CB : Nat → Bool) (o : Oper) (f : Frm) : Sh :=
  match o.op with
  | .move x => ap1 (ev f x) fun v => .val v
  | .assign x => ap1 (ev f x) fun v => .val v
  | .pick c a b => ap1 (ev f c) fun c => ap1 (ev f a) fun a => ap1 (ev f b) fun b => .pure (pickP c a b)
  | .nilCheck x => ap1 (ev f x) fun x => .pure (nilP x)
  | .binOp op t x y _ => ap1 (ev f x) fun a => ap1 (ev f y) fun b =>
    match P.underlying t with
    | some (.int _) => .pure (binP op a b)
    | some .string => .pure (binP op a b)
    | some (.struct _) => .read (aggEq op t a b)
    | some (.array _ _) => .read (aggEq op t a b)
    | some d => .pure (eqP d op a b)
    | none => .bad
  | .unOp op _ x => ap1 (ev f x) fun a => .pure (unP op a)
  | .convert src dst x => ap1 (ev f x) fun a =>
    match P.underlying dst, P.underlying src with
    | some (.int k), some _ => .pure (cvtP (.int k) a)
    | some .string, some .string => .pure (cvtP .string a)
    | some .string, some (.slice _) => .read (convert src dst a)
    | _, _ => .eff (convert src dst a)
  | .makeFunc fn first captured => apl (evl f first.toList) fun fi => apl (evl f captured.toList) fun ca => .val (.func fn fi.toArray ca.toArray)
  | .fieldAddr s x fld =>
    match P.underlying s with
    | some (.struct fs) => match fs[fld]? with
      | some fd => match P.info? fd.type with
        | some i => match Nat.beq i.size 0 with
          | true => .bad
          | false => ap1 (ev f x) fun x => .pure (addrF fd.offset x)
        | none => .bad
      | none => .bad
    | _ => .bad
  | .field s x fld =>
    match P.underlying s with
    | some (.struct fs) => match fs[fld]? with
      | some fd => match P.info? fd.type, P.underlying fd.type with
        | some i, some d => ap1 (ev f x) fun x => .pure (fldV (aggB d) fd.offset i.size x)
        | _, _ => .bad
      | none => .bad
    | _ => .bad
  | .indexAddr t x j =>
    match P.underlying t with
    | some (.slice e) => match P.info? e with
      | some i => ap1 (ev f x) fun x => ap1 (ev f j) fun j => .pure (idxS i.size x j)
      | none => .bad
    | some (.array n e) => match P.info? e with
      | some i => ap1 (ev f x) fun x => ap1 (ev f j) fun j => .pure (idxA n i.size x j)
      | none => .bad
    | _ => .bad
  | .index t x j =>
    match P.underlying t with
    | some .string => ap1 (ev f x) fun x => ap1 (ev f j) fun j => .pure (idxStr x j)
    | some (.array n e) => match P.info? e, P.underlying e with
      | some i, some d => ap1 (ev f x) fun x => ap1 (ev f j) fun j => .pure (idxV n (aggB d) i.size x j)
      | _, _ => .bad
    | _ => .bad
  | .slice t x lo hi mx =>
    match P.underlying t with
    | some .string => match mx with
      | none => ap1 (ev f x) fun x => apo (evo f lo) fun lo => apo (evo f hi) fun hi => .pure (slcStr x lo hi)
      | some _ => .bad
    | some (.slice e) => match P.info? e with
      | some i => ap1 (ev f x) fun x => apo (evo f lo) fun lo => apo (evo f hi) fun hi => apo (evo f mx) fun mx => .pure (slcS i.size x lo hi mx)
      | none => .bad
    | some (.array n e) => match P.info? e with
      | some i => ap1 (ev f x) fun x => apo (evo f lo) fun lo => apo (evo f hi) fun hi => apo (evo f mx) fun mx => .pure (slcA n i.size x lo hi mx)
      | none => .bad
    | _ => .bad
  | .extract x i => ap1 (ev f x) fun x => .pure (extP i x)
  | .build t parts =>
    match P.info? t with
    | some ti => match ti.zero with
      | some z => match P.underlying t with
        | some (.struct fs) => match plOf P fs.toList with
          | some pl => app (evp f parts.toList) fun parts => .pure (bldP (fun i => pl[i]?) z.cells.toList parts)
          | none => .bad
        | some (.array _ e) => match P.info? e with
          | some ei => app (evp f parts.toList) fun parts => .pure (bldP (fun i => some (i * ei.size, ei.size)) z.cells.toList parts)
          | none => .bad
        | _ => .bad
      | none => .bad
    | none => .bad
  | .alloc t => .eff (Instr.alloc t true (.tuple #[]))
  | .box t x => ap1 (ev f x) fun x => .eff (Instr.box t x)
  | .buildSlice t n parts => app (evp f parts.toList) fun parts => .eff (Instr.buildSlice t n parts.toArray)
  | .load t x => ap1 (ev f x) fun x => .read (Instr.loadAt t x)
  | .store t a x => ap1 (ev f a) fun a => ap1 (ev f x) fun x => .effU (Instr.storeAt t a x)
  | .makeMap t r => apo (evo f r) fun r => .eff (Instr.makeMap t r)
  | .makeSlice t l c => ap1 (ev f l) fun l => ap1 (ev f c) fun c => .eff (Instr.makeSlice t l c)
  | .makeInterface t x => ap1 (ev f x) fun x => .read (Instr.makeInterface t x)
  | .typeAssert x t u ok => ap1 (ev f x) fun x => .eff (Instr.typeAssert x t u ok)
  | .lookup t x j ok => ap1 (ev f x) fun x => ap1 (ev f j) fun j => .read (Instr.lookup t x j ok)
  | .mapUpdate t m k x => ap1 (ev f m) fun m => ap1 (ev f k) fun k => ap1 (ev f x) fun x => .effU (Instr.mapUpdate t m k x)
  | .insert t m k x => ap1 (ev f m) fun m => ap1 (ev f k) fun k => ap1 (ev f x) fun x => .effU (Instr.mapUpdate t m k x)
  | .mapEntry t m k => ap1 (ev f m) fun m => ap1 (ev f k) fun k => .eff (Instr.mapEntry t m k)
  | .entryStore t m s x => ap1 (ev f m) fun m => ap1 (ev f s) fun s => ap1 (ev f x) fun x => .effU (Instr.entryStore t m s x)
  | .range t x => ap1 (ev f x) fun x => .eff (Instr.range t x)
  | .next x isS => ap1 (ev f x) fun x => .eff (Instr.next x isS o.type)
  | .entry x => ap1 (ev f x) fun x => .eff (Instr.entry x)
  | .call c =>
    match c.callee with
    | .builtin b => apl (evl f c.args.toList) fun xs =>
      match b with
      | .len => match c.argTypes[0]?, xs[0]? with
        | some t, some x => match P.underlying t with
          | some (.map _ _) => .read (Builtin.len_ c.argTypes o.type xs.toArray)
          | some d => .pure (lenP d x)
          | none => .bad
        | _, _ => .bad
      | .cap => match c.argTypes[0]?, xs[0]? with
        | some t, some x => match P.underlying t with
          | some d => .pure (capP d x)
          | none => .bad
        | _, _ => .bad
      | .max => .pure (foldP max2P xs)
      | .min => .pure (foldP min2P xs)
      | .append => .eff (Builtin.append_ c.argTypes o.type xs.toArray)
      | .copy => .eff (Builtin.copy_ c.argTypes o.type xs.toArray)
      | .delete => .eff (Builtin.delete_ c.argTypes o.type xs.toArray)
      | .clear => .eff (Builtin.clear_ c.argTypes o.type xs.toArray)
      | _ => .bad
    | .value (.func g) => match CB g with
      | true => apl (evl f c.args.toList) fun xs => .call g xs
      | false => .bad
    | .value x => ap1 (ev f x) fun v => apl (evl f c.args.toList) fun xs => .vcall v xs
    | .invoke _ _ => .bad
  | _ => .bad

/-- does an operation leave the world as it is, whatever it is told? -/
def isFl (P : Program) (o : Oper) : Bool :=
  match o.op with
  | .move _ | .assign _ | .pick .. | .nilCheck _ | .binOp .. | .unOp .. | .makeFunc .. | .fieldAddr .. | .field .. | .indexAddr .. | .index .. | .slice .. | .extract .. | .build .. | .load .. | .lookup .. | .makeInterface .. => true
  | .convert src dst _ => match P.underlying dst, P.underlying src with
    | some (.int _), _ => true
    | some .string, some .string => true
    | some .string, some (.slice _) => true
    | _, _ => false
  | .call { callee := .builtin b, .. } => match b with
    | .len | .cap | .max | .min => true
    | _ => false
  | _ => false

/-- a function that may be called: it has a body -/
def fnOk (P : Program) (g : Nat) : Prop := ∃ fn, P.funcs[g]? = some fn ∧ fn.body.isNone = false ∧ (fn.name == "runtime.NumGoroutine") = false

/-- what a shape says of a run -/
def Sh.says (P : Program) (sh : Sh) (s : Sem Next) : Prop :=
  match sh with
  | .val v => ∀ w, s.run P w = .ok (.value v) w
  | .pure (some v) => ∀ w, s.run P w = .ok (.value v) w
  | .pure none => True
  | .read m => ∀ w v w', m.run P w = .ok v w' → s.run P w = .ok (.value v) w'
  | .eff m => ∀ w v w', m.run P w = .ok v w' → s.run P w = .ok (.value v) w'
  | .effU m => ∀ w w', m.run P w = .ok () w' → s.run P w = .ok .skip w'
  | .call g args => ∀ w, s.run P w = .ok (.enter g args.toArray) w
  | .vcall v args => ∀ g fi ca w, v = .func (.func g) fi ca → fnOk P g → s.run P w = .ok (.enter g (fi ++ args.toArray ++ ca)) w
  | .bad => True

theorem says_ap1 {P : Program} {s : Sem Next} {r : Option Value} {k : Value → Sh} (h : ∀ v, r = some v → (k v).says P s) : (ap1 r k).says P s := by
  cases r with
  | none => trivial
  | some v => exact h v rfl
theorem says_apl {P : Program} {s : Sem Next} {r : Option (List Value)} {k : List Value → Sh} (h : ∀ v, r = some v → (k v).says P s) : (apl r k).says P s := by
  cases r with
  | none => trivial
  | some v => exact h v rfl
theorem says_app {P : Program} {s : Sem Next} {r : Option (List (Nat × Value))} {k : List (Nat × Value) → Sh} (h : ∀ v, r = some v → (k v).says P s) : (app r k).says P s := by
  cases r with
  | none => trivial
  | some v => exact h v rfl
theorem says_apo {P : Program} {s : Sem Next} {r : Option (Option Value)} {k : Option Value → Sh} (h : ∀ v, r = some v → (k v).says P s) : (apo r k).says P s := by
  cases r with
  | none => trivial
  | some v => exact h v rfl
theorem says_pure {P : Program} {s : Sem Next} {r : Option Value} (h : ∀ v, r = some v → ∀ w, s.run P w = .ok (.value v) w) : (Sh.pure r).says P s := by
  cases r with
  | none => trivial
  | some v => exact h v rfl

section
variable {n : Nat} {f : Frm} {a : Act}
theorem evl_map (hf : Fits n f a) : ∀ (xs : List Operand) (vs : List Value), evl f xs = some vs → xs.map a.eval = vs
  | [], vs, h => by simp [evl] at h; subst h; rfl
  | x :: xs, vs, h => by
    simp only [evl] at h
    cases hx : ev f x with
    | none => rw [hx] at h; cases h
    | some v =>
      rw [hx] at h
      cases hxs : evl f xs with
      | none => rw [hxs] at h; cases h
      | some us =>
        rw [hxs] at h
        simp only [Option.some.injEq] at h
        subst h
        simp [hf.eval hx, evl_map hf xs us hxs]
theorem evl_arr (hf : Fits n f a) {xs : Array Operand} {vs : List Value} (h : evl f xs.toList = some vs) : xs.map a.eval = vs.toArray := by
  have := evl_map hf _ _ h
  rw [← this]
  simp [← Array.toList_inj]
theorem evp_map (hf : Fits n f a) : ∀ (xs : List (Nat × Operand)) (vs : List (Nat × Value)), evp f xs = some vs → xs.map (fun p => (p.1, a.eval p.2)) = vs
  | [], vs, h => by simp [evp] at h; subst h; rfl
  | (i, x) :: xs, vs, h => by
    simp only [evp] at h
    cases hx : ev f x with
    | none => rw [hx] at h; cases h
    | some v =>
      rw [hx] at h
      cases hxs : evp f xs with
      | none => rw [hxs] at h; cases h
      | some us =>
        rw [hxs] at h
        simp only [Option.some.injEq] at h
        subst h
        simp [hf.eval hx, evp_map hf xs us hxs]
theorem evp_arr (hf : Fits n f a) {xs : Array (Nat × Operand)} {vs : List (Nat × Value)} (h : evp f xs.toList = some vs) : (xs.map fun (i, x) => (i, a.eval x)) = vs.toArray := by
  have := evp_map hf _ _ h
  rw [← this]
  simp [← Array.toList_inj]
theorem evo_map (hf : Fits n f a) {x : Option Operand} {v : Option Value} (h : evo f x = some v) : x.map a.eval = v := by
  cases x with
  | none => simp [evo] at h; subst h; rfl
  | some x =>
    simp only [evo] at h
    cases hx : ev f x with
    | none => rw [hx] at h; cases h
    | some u => rw [hx] at h; simp only [Option.some.injEq] at h; subst h; simp [hf.eval hx]
end

theorem val_ok {P : Program} {s : Sem Value} {v : Value} {w w' : World} (h : s.run P w = .ok v w') : (do pure (Next.value (← s)) : Sem Next).run P w = .ok (.value v) w' := by
  rw [Sem.run_bind, h]; rfl
theorem unit_ok {P : Program} {s : Sem Unit} {w w' : World} (h : s.run P w = .ok () w') : (do s; pure Next.skip : Sem Next).run P w = .ok .skip w' := by
  rw [Sem.run_bind, h]; rfl
theorem callFunc_ok {P : Program} {g : Nat} {args : Array Value} (h : fnOk P g) (w : World) : (callFunc g args).run P w = .ok (.enter g args) w := by
  obtain ⟨fn, h1, h2, h3⟩ := h
  simp only [callFunc, Sem.run_bind]
  show (match P.funcs[g]? with | none => _ | some fn => _ : Sem Next).run P w = _
  rw [h1]
  simp [h2, h3]

theorem plOf_run {P : Program} {w : World} : ∀ (fs : List Field) (pl : List (Nat × Nat)), plOf P fs = some pl →
    (fs.mapM fun f => do pure (f.offset, ← sizeOf f.type) : Sem (List (Nat × Nat))).run P w = .ok pl w
  | [], pl, h => by simp only [plOf, Option.some.injEq] at h; subst h; rfl
  | fd :: r, pl, h => by
    simp only [plOf] at h
    split at h
    · cases h
    · rename_i i hi
      split at h
      · cases h
      · rename_i l hl
        simp only [Option.some.injEq] at h
        subst h
        have ih := plOf_run (w := w) r l hl
        simp at ih
        simp [List.mapM_cons, run_sizeOf' hi, ih]

theorem build_struct {P : Program} {w : World} {t : TypeId} {ti : TypeInfo} {z : Value} {fs : Array Field} {pl : List (Nat × Nat)} {parts : List (Nat × Value)} {v : Value}
    (hi : P.info? t = some ti) (hz : ti.zero = some z) (hu : P.underlying t = some (.struct fs)) (hp : plOf P fs.toList = some pl) (h : bldP (fun i => pl[i]?) z.cells.toList parts = some v) :
    (Instr.build t parts.toArray).run P w = .ok v w := by
  unfold bldP at h
  split at h
  · rename_i cs hcs
    simp only [Option.some.injEq] at h
    subst h
    have h1 := fillL_run _ _ _ _ hcs
    have h2 := plOf_run (w := w) _ _ hp
    have h3 : (fs.mapM fun f => do pure (f.offset, ← sizeOf f.type) : Sem (Array (Nat × Nat))).run P w = .ok pl.toArray w := by
      rw [← Array.toArray_toList (xs := fs)]
      rw [List.mapM_toArray]
      rw [← bind_pure_comp, Sem.run_bind, h2]
      rfl
    simp only [Array.toArray_toList] at h1
    have h4 : Instr.fill (fun x => pl.toArray[x]?) z.cells parts = some cs.toArray := by
      rw [← h1]; congr 1; funext x; simp
    simp only [Instr.build, Sem.run_bind, run_zeroValue' hi hz, run_underlying hu, Result.andThen_ok, h3]
    rw [h4]
    rfl
  · cases h
theorem build_array {P : Program} {w : World} {t e : TypeId} {n : Nat} {ti ei : TypeInfo} {z : Value} {parts : List (Nat × Value)} {v : Value}
    (hi : P.info? t = some ti) (hz : ti.zero = some z) (hu : P.underlying t = some (.array n e)) (he : P.info? e = some ei) (h : bldP (fun i => some (i * ei.size, ei.size)) z.cells.toList parts = some v) :
    (Instr.build t parts.toArray).run P w = .ok v w := by
  unfold bldP at h
  split at h
  · rename_i cs hcs
    simp only [Option.some.injEq] at h
    subst h
    have h1 := fillL_run _ _ _ _ hcs
    simp only [Array.toArray_toList] at h1
    simp only [Instr.build, Sem.run_bind, run_zeroValue' hi hz, run_underlying hu, Result.andThen_ok, run_sizeOf' he]
    rw [h1]
    rfl
  · cases h

/-- **each shape is its operation's run** -/
theorem shape_says {P : Program} {CB : Nat → Bool} (hCB : ∀ g, CB g = true → fnOk P g) (o : Oper) {n : Nat} {f : Frm} {a : Act} (hf : Fits n f a) :
    (shape P CB o f).says P (execOp a.eval o) := by
  obtain ⟨dst, op, type, pos, after, guard⟩ := o
  cases op
  case move x => exact says_ap1 fun v hv w => by simp [execOp, hf.eval hv]
  case assign x => exact says_ap1 fun v hv w => by simp [execOp, hf.eval hv]
  case pick c x y =>
    refine says_ap1 fun vc hc => says_ap1 fun va ha => says_ap1 fun vb hb => says_pure fun v hv w => ?_
    simp only [execOp, hf.eval hc, hf.eval ha, hf.eval hb]
    unfold pickP at hv
    split at hv
    · rename_i b
      simp only [Option.some.injEq] at hv
      subst hv
      simp [asBool]
    · cases hv
  case alloc t => exact fun w v w' h => val_ok h
  case box t x => exact says_ap1 fun v hv w u w' h => by simp only [execOp, hf.eval hv]; exact val_ok h
  case build t parts =>
    simp only [shape]
    split <;> try trivial
    rename_i ti hti
    split <;> try trivial
    rename_i z hz
    split <;> try trivial
    · rename_i fs hfs
      split <;> try trivial
      rename_i pl hpl
      refine says_app fun ps hps => says_pure fun v hv w => ?_
      simp only [execOp, evp_arr hf hps]
      exact val_ok (build_struct hti hz hfs hpl hv)
    · rename_i n e hfs
      split <;> try trivial
      rename_i ei hei
      refine says_app fun ps hps => says_pure fun v hv w => ?_
      simp only [execOp, evp_arr hf hps]
      exact val_ok (build_array hti hz hfs hei hv)
  case buildSlice t n parts => exact says_app fun ps hps w u w' h => by simp only [execOp, evp_arr hf hps]; exact val_ok h
  case insert t m k x => exact says_ap1 fun vm hm => says_ap1 fun vk hk => says_ap1 fun vx hx w w' h => by simp only [execOp, hf.eval hm, hf.eval hk, hf.eval hx]; exact unit_ok h
  case load t x => exact says_ap1 fun v hv w u w' h => by simp only [execOp, hf.eval hv]; exact val_ok h
  case store t x y => exact says_ap1 fun va ha => says_ap1 fun vx hx w w' h => by simp only [execOp, hf.eval ha, hf.eval hx]; exact unit_ok h
  case nilCheck x =>
    refine says_ap1 fun vx hx => says_pure fun v hv w => ?_
    simp only [execOp, hf.eval hx]
    unfold nilP at hv
    split at hv
    · simp only [Option.some.injEq] at hv; subst hv; rfl
    · simp only [Option.some.injEq] at hv; subst hv; rfl
    · cases hv
  case binOp op t x y yt =>
    simp only [shape]
    refine says_ap1 fun va ha => says_ap1 fun vb hb => ?_
    have hread : (Sh.read (aggEq op t va vb)).says P (execOp a.eval ⟨dst, .binOp op t x y yt, type, pos, after, guard⟩) := by
      intro w v w' h
      simp only [execOp, hf.eval ha, hf.eval hb]
      refine val_ok ?_
      unfold aggEq at h
      split at h
      · exact h
      · cases h
    split
    · exact says_pure fun v hv w => by simp only [execOp, hf.eval ha, hf.eval hb]; exact val_ok (binP_run hv w)
    · exact says_pure fun v hv w => by simp only [execOp, hf.eval ha, hf.eval hb]; exact val_ok (binP_run hv w)
    · exact hread
    · exact hread
    · rename_i d _ _ _ _ hd
      exact says_pure fun v hv w => by simp only [execOp, hf.eval ha, hf.eval hb]; exact val_ok (eqP_run hd hv w)
    · trivial
  case unOp op t x => exact says_ap1 fun va ha => says_pure fun v hv w => by simp only [execOp, hf.eval ha]; exact val_ok (unP_run hv w)
  case convert src dst x =>
    simp only [shape]
    refine says_ap1 fun va ha => ?_
    split
    · rename_i k d hk hd
      exact says_pure fun v hv w => by simp only [execOp, hf.eval ha]; exact val_ok (cvtInt_run hd hk hv)
    · rename_i hk hd
      exact says_pure fun v hv w => by simp only [execOp, hf.eval ha]; exact val_ok (cvtStr_run hd hk hv)
    · exact fun w v w' h => by simp only [execOp, hf.eval ha]; exact val_ok h
    · exact fun w v w' h => by simp only [execOp, hf.eval ha]; exact val_ok h
  case makeInterface t x => exact says_ap1 fun v hv w u w' h => by simp only [execOp, hf.eval hv]; exact val_ok h
  case makeFunc fn first captured =>
    refine says_apl fun fi hfi => says_apl fun ca hca => fun w => ?_
    simp only [execOp, evl_arr hf hfi, evl_arr hf hca]
    exact val_ok rfl
  case makeMap t r =>
    refine says_apo fun vr hr => fun w v w' h => ?_
    simp only [execOp, evo_map hf hr]
    exact val_ok h
  case makeSlice t l c => exact says_ap1 fun vl hl => says_ap1 fun vc hc w v w' h => by simp only [execOp, hf.eval hl, hf.eval hc]; exact val_ok h
  case slice t x lo hi mx =>
    simp only [shape]
    split
    · rename_i ht
      split
      · refine says_ap1 fun vx hx => says_apo fun vl hl => says_apo fun vh hh => says_pure fun v hv w => ?_
        simp only [execOp, hf.eval hx, evo_map hf hl, evo_map hf hh]
        exact val_ok (slcStr_run ht hv)
      · trivial
    · rename_i e ht
      split <;> try trivial
      rename_i i hi'
      refine says_ap1 fun vx hx => says_apo fun vl hl => says_apo fun vh hh => says_apo fun vm hm => says_pure fun v hv w => ?_
      simp only [execOp, hf.eval hx, evo_map hf hl, evo_map hf hh, evo_map hf hm]
      exact val_ok (slcS_run ht hi' hv)
    · rename_i n e ht
      split <;> try trivial
      rename_i i hi'
      refine says_ap1 fun vx hx => says_apo fun vl hl => says_apo fun vh hh => says_apo fun vm hm => says_pure fun v hv w => ?_
      simp only [execOp, hf.eval hx, evo_map hf hl, evo_map hf hh, evo_map hf hm]
      exact val_ok (slcA_run ht hi' hv)
    · trivial
  case fieldAddr s x fld =>
    simp only [shape]
    split <;> try trivial
    rename_i fs hfs
    split <;> try trivial
    rename_i fd hfd
    split <;> try trivial
    rename_i i hi
    split <;> try trivial
    rename_i h0
    refine says_ap1 fun vx hx => says_pure fun v hv w => ?_
    simp only [execOp, hf.eval hx]
    exact val_ok (addrF_run hfs hfd hi (fun h => by rw [h] at h0; cases h0) hv)
  case field s x fld =>
    simp only [shape]
    split <;> try trivial
    rename_i fs hfs
    split <;> try trivial
    rename_i fd hfd
    split <;> try trivial
    rename_i i d hi hd
    refine says_ap1 fun vx hx => says_pure fun v hv w => ?_
    simp only [execOp, hf.eval hx]
    exact val_ok (fldV_run hfs hfd hd hi hv)
  case indexAddr t x j =>
    simp only [shape]
    split <;> try trivial
    · rename_i e ht
      split <;> try trivial
      rename_i i hi
      refine says_ap1 fun vx hx => says_ap1 fun vj hj => says_pure fun v hv w => ?_
      simp only [execOp, hf.eval hx, hf.eval hj]
      exact val_ok (idxS_run ht hi hv)
    · rename_i n e ht
      split <;> try trivial
      rename_i i hi
      refine says_ap1 fun vx hx => says_ap1 fun vj hj => says_pure fun v hv w => ?_
      simp only [execOp, hf.eval hx, hf.eval hj]
      exact val_ok (idxA_run ht hi hv)
  case index t x j =>
    simp only [shape]
    split <;> try trivial
    · rename_i ht
      refine says_ap1 fun vx hx => says_ap1 fun vj hj => says_pure fun v hv w => ?_
      simp only [execOp, hf.eval hx, hf.eval hj]
      exact val_ok (idxStr_run ht hv)
    · rename_i n e ht
      split <;> try trivial
      rename_i i d hi hd
      refine says_ap1 fun vx hx => says_ap1 fun vj hj => says_pure fun v hv w => ?_
      simp only [execOp, hf.eval hx, hf.eval hj]
      exact val_ok (idxV_run ht hd hi hv)
  case lookup t x j ok => exact says_ap1 fun vx hx => says_ap1 fun vj hj w v w' h => by simp only [execOp, hf.eval hx, hf.eval hj]; exact val_ok h
  case mapUpdate t m k x => exact says_ap1 fun vm hm => says_ap1 fun vk hk => says_ap1 fun vx hx w w' h => by simp only [execOp, hf.eval hm, hf.eval hk, hf.eval hx]; exact unit_ok h
  case mapEntry t m k => exact says_ap1 fun vm hm => says_ap1 fun vk hk w v w' h => by simp only [execOp, hf.eval hm, hf.eval hk]; exact val_ok h
  case entryStore t m s x => exact says_ap1 fun vm hm => says_ap1 fun vk hk => says_ap1 fun vx hx w w' h => by simp only [execOp, hf.eval hm, hf.eval hk, hf.eval hx]; exact unit_ok h
  case range t x => exact says_ap1 fun vx hx w v w' h => by simp only [execOp, hf.eval hx]; exact val_ok h
  case entry x => exact says_ap1 fun vx hx w v w' h => by simp only [execOp, hf.eval hx]; exact val_ok h
  case next x b => exact says_ap1 fun vx hx w v w' h => by simp only [execOp, hf.eval hx]; exact val_ok h
  case typeAssert x t u ok => exact says_ap1 fun vx hx w v w' h => by simp only [execOp, hf.eval hx]; exact val_ok h
  case extract x i =>
    refine says_ap1 fun vx hx => says_pure fun v hv w => ?_
    simp only [execOp, hf.eval hx]
    unfold extP at hv
    split at hv
    · exact val_ok (by simp [Instr.extract, hv])
    · cases hv
  case call c =>
    obtain ⟨callee, cargs, ats⟩ := c
    simp only [shape]
    split
    · rename_i b
      refine says_apl fun xs hxs => ?_
      have hex : execOp a.eval ⟨dst, .call ⟨.builtin b, cargs, ats⟩, type, pos, after, guard⟩ = builtin b ats type (cargs.map fun | .const _ => true | _ => false) xs.toArray := by
        simp only [execOp, resolve, evl_arr hf hxs]
        rfl
      rw [hex]
      split
      · split <;> try trivial
        rename_i t x ht hx
        split <;> try trivial
        · exact fun w v w' h => val_ok h
        · rename_i d _ hd
          refine says_pure fun v hv w => ?_
          exact val_ok (lenP_run ht (by simpa using hx) hd hv)
      · split <;> try trivial
        rename_i t x ht hx
        split <;> try trivial
        rename_i d hd
        refine says_pure fun v hv w => ?_
        exact val_ok (capP_run ht (by simpa using hx) hd hv)
      · exact says_pure fun v hv w => val_ok (max_run hv)
      · exact says_pure fun v hv w => val_ok (min_run hv)
      · exact fun w v w' h => val_ok h
      · exact fun w v w' h => val_ok h
      · exact fun w v w' h => val_ok h
      · exact fun w v w' h => val_ok h
      · trivial
    · rename_i g
      split <;> try trivial
      rename_i hg
      refine says_apl fun xs hxs => fun w => ?_
      simp only [execOp, resolve, evl_arr hf hxs, Act.eval, Deferred.ofValue]
      simp only [pure_bind, invoke]
      have := callFunc_ok (args := xs.toArray) (hCB g hg) w
      simpa using this
    · rename_i x _
      refine says_ap1 fun v hv => says_apl fun xs hxs => fun g fi ca w hvv hg => ?_
      simp only [execOp, resolve, evl_arr hf hxs, hf.eval hv, hvv, Deferred.ofValue]
      simp only [pure_bind, invoke]
      exact callFunc_ok hg w
    · trivial
  all_goals trivial
end Go.Eng
