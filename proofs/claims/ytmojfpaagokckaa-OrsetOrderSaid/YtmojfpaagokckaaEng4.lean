/-
  Own engine, part 4: the evaluator over code, and that it is sound.
-/
import Derived.Test.YtmojfpaagokckaaEng3
namespace Go.Eng
set_option linter.unusedVariables false
set_option linter.unusedSimpArgs false
open Go

/-! ### one operation -/
def vcK (P : Program) (v : Value) (args : List Value) (k : Value → World → Prop) (W : World) : Prop :=
  match v with
  | .func (.func g) fi ca => fnOk P g ∧ callK P g (fi.toList ++ args ++ ca.toList) k W
  | _ => False
abbrev shK (P : Program) (sh : Sh) (k : Value → World → Prop) (W : World) : Prop :=
  match sh with
  | .val v => k v W
  | .pure r => okF r fun v => k v W
  | .read s => rdK P s k W
  | .eff s => efK P s k W
  | .effU s => efK P s (fun _ W' => k undef W') W
  | .call g args => callK P g args k W
  | .vcall v args => vcK P v args k W
  | .bad => False
/-- is a guard's test as it is wanted? -/
def wantd (c : Value) (want : Bool) : Bool := match c with | .bool b => b == want | _ => false
/-- carried out where b, left out else -/
def gdK (b : Bool) (A : (Value → World → Prop) → World → Prop) (k : Value → World → Prop) (W : World) : Prop := match b with | true => A k W | false => k undef W
abbrev guardOf (ops : Array Oper) (f : Frm) (j : Nat) : Option Value := match ops[j]? with | some o => (match o.dst with | some d => f d | none => none) | none => none

abbrev stepK (P : Program) (CB : Nat → Bool) (ops : Array Oper) (o : Oper) (f : Frm) (k : Value → World → Prop) (W : World) : Prop :=
  match o.guard with
  | none => shK P (shape P CB o f) k W
  | some (j, want) => match guardOf ops f j with
    | some c => gdK (wantd c want) (fun k W => shK P (shape P CB o f) k W) k W
    | none => False

theorem Fits.wanted {n : Nat} {f : Frm} {a : Act} (hf : Fits n f a) {ops : Array Oper} {o : Oper} {j : Nat} {want : Bool} {c : Value} (hg : o.guard = some (j, want)) (hc : guardOf ops f j = some c) :
    Region.wanted o (yielded ops a.tmps) = wantd c want := by
  unfold guardOf at hc
  split at hc
  · rename_i oj hoj
    split at hc
    · rename_i d hd
      have := hf.tmps d c hc
      simp only [Region.wanted, hg, yielded, hoj, hd, Option.bind_some, this]
      cases c <;> simp [wantd]
    · cases hc
  · cases hc

section
variable {P : Program} {CB : Nat → Bool} {n : Nat}

/-- the engine's word is the model's -/
theorem shK_wp (hCB : ∀ g, CB g = true → fnOk P g) {o : Oper} {f : Frm} {a : Act} (hf : Fits n f a) {k : Value → World → Prop} {w : World} {Q : Exit → Act → World → Prop}
    {next : Act → World → Prop} (hk : ∀ v w', k v w' → next (a.put o.dst v) w') (h : shK P (shape P CB o f) k w) : o.wp P a w next Q := by
  have hs := shape_says hCB o hf
  unfold Oper.wp
  generalize shape P CB o f = sh at *
  cases sh with
  | val v => rw [hs w]; exact hk _ _ h
  | pure r =>
    cases r with
    | none => exact h.elim
    | some v => rw [hs w]; exact hk _ _ h
  | read s => obtain ⟨v, h1, h2⟩ := h; rw [hs _ _ _ h1]; exact hk _ _ h2
  | eff s => obtain ⟨v, w', h1, h2⟩ := h; rw [hs _ _ _ h1]; exact hk _ _ h2
  | effU s => obtain ⟨v, w', h1, h2⟩ := h; rw [hs _ _ h1]; exact hk _ _ h2
  | call g args =>
    rw [hs w]
    refine Calls.mono h fun e w' he => ?_
    cases e with
    | returned v => exact hk _ _ he
    | panicked c => exact he.elim
    | outgrown => exact he.elim
  | vcall v args =>
    unfold shK vcK at h
    simp only at h
    split at h
    · rename_i g fi ca
      rw [hs g fi ca w rfl h.1]
      have h2 := h.2
      have hargs : (fi.toList ++ args ++ ca.toList).toArray = fi ++ args.toArray ++ ca := by simp [← Array.toList_inj]
      unfold callK at h2
      rw [hargs] at h2
      refine Calls.mono h2 fun e w' he => ?_
      cases e with
      | returned v => exact hk _ _ he
      | panicked c => exact he.elim
      | outgrown => exact he.elim
    · exact h.elim
  | bad => exact h.elim

theorem stepK_wp (hCB : ∀ g, CB g = true → fnOk P g) {ops : Array Oper} {i : Nat} {o : Oper} (ho : ops[i]? = some o) {f : Frm} {a : Act} (hf : Fits n f a) {k : Value → World → Prop} {w : World} {Q : Exit → Act → World → Prop}
    {next : Act → World → Prop} (hk : ∀ v w', k v w' → next (a.put o.dst v) w') (h : stepK P CB ops o f k w) : wpOp P ops Q i next a w := by
  unfold wpOp
  simp only [ho]
  unfold stepK at h
  split at h
  · rename_i hg
    have hw : Region.wanted o (yielded ops a.tmps) = true := by simp [Region.wanted, hg]
    rw [if_pos hw]
    exact .inl (shK_wp hCB hf hk h)
  · rename_i j want hg
    split at h
    · rename_i c hc
      have hw := hf.wanted hg hc
      unfold gdK at h
      split at h
      · rename_i hb
        rw [hw, if_pos hb]
        exact .inl (shK_wp hCB hf hk h)
      · rename_i hb
        rw [hw, if_neg (by rw [hb]; simp)]
        exact hk _ _ h
    · exact h.elim

/-! ### a region in the order of the text -/
def opsK (P : Program) (CB : Nat → Bool) (n : Nat) (ops : Array Oper) : List Oper → Frm → (Frm → World → Prop) → World → Prop
  | [], f, K, W => K f W
  | o :: os, f, K, W => match dstOk n o.dst with
    | true => stepK P CB ops o f (fun v W' => opsK P CB n ops os (upo f o.dst v) K W') W
    | false => False

theorem opsK_wp (hCB : ∀ g, CB g = true → fnOk P g) {ops : Array Oper} {Q : Exit → Act → World → Prop} {K : Frm → World → Prop} (hK : ∀ f a w, K f w → Fits n f a → Q .normal a w) :
    ∀ (os : List Oper) (i : Nat) (f : Frm) (a : Act) (w : World), (∀ j, os[j]? = ops[i + j]?) → i + os.length = ops.size → Fits n f a → opsK P CB n ops os f K w → wpOps P ops Q (List.range' i os.length) a w
  | [], i, f, a, w, _, _, hf, h => hK _ _ _ h hf
  | o :: os, i, f, a, w, hos, hl, hf, h => by
    simp only [List.length_cons, List.range'_succ]
    rw [wpOps_cons]
    simp only [opsK] at h
    split at h
    · rename_i hd
      have ho : ops[i]? = some o := by have := hos 0; simpa using this.symm
      refine stepK_wp hCB ho hf (fun v w' hv => ?_) h
      exact opsK_wp hCB hK os (i + 1) _ _ w' (fun j => by have := hos (j + 1); simp only [List.getElem?_cons_succ] at this; rw [this]; congr 1; omega) (by simp at hl; omega) (hf.upo hd) hv
    · exact h.elim

/-! ### a region that draws -/
def rdyB (d done k : Nat) : Bool := !tb done k && Nat.beq (Nat.land d done) d
def pickFl (P : Program) : List Oper → Nat → Nat → Option Nat
  | [], _, _ => none
  | o :: os, k, done => bif rdyB (dmask o) done k && isFl P o then some k else pickFl P os (k + 1) done
def rdyL : List Oper → Nat → Nat → List Nat
  | [], _, _ => []
  | o :: os, k, done => bif rdyB (dmask o) done k then k :: rdyL os (k + 1) done else rdyL os (k + 1) done
abbrev HoldV := Nat × Bool × Sem Value × Value
def stb (P : Program) : List HoldV → (World → Prop) → World → Prop
  | [], R, W => R W
  | (_, b, s, v) :: t, R, W => (b = true → s.run P W = .ok v W) ∧ stb P t R W
/-- the promises, where there are any -/
abbrev stbA (P : Program) (J : List HoldV) (R : World → Prop) (W : World) : Prop :=
  match J with
  | [] => R W
  | h :: t => stb P (h :: t) R W
theorem stbA_eq {P : Program} {J : List HoldV} {R : World → Prop} {W : World} : stbA P J R W = stb P J R W := by cases J <;> rfl
def filt (ms : List Nat) (i : Nat) : List HoldV → List HoldV
  | [] => []
  | h :: t => bif tb (ms.getD i 0) h.1 then filt ms i t else h :: filt ms i t
abbrev flK (P : Program) (CB : Nat → Bool) (ops : Array Oper) (o : Oper) (f : Frm) (i : Nat) (J : List HoldV) (k : Value → List HoldV → World → Prop) (W : World) : Prop :=
  match o.guard with
  | none => match shape P CB o f with
    | .val v => k v J W
    | .pure r => okF r fun v => k v J W
    | .read s => rdK P s (fun v W' => k v ((i, true, s, v) :: J) W') W
    | _ => False
  | some (j, want) => match guardOf ops f j with
    | some c => match shape P CB o f with
      | .val v => gdK (wantd c want) (fun k W => k v W) (fun v W' => k v J W') W
      | .pure r => gdK (wantd c want) (fun k W => okF r fun v => k v W) (fun v W' => k v J W') W
      | .read s => gdK (wantd c want) (fun k W => rdK P s k W) (fun v W' => k v ((i, wantd c want, s, v) :: J) W') W
      | _ => False
    | none => False
abbrev efS (P : Program) (CB : Nat → Bool) (ops : Array Oper) (o : Oper) (f : Frm) (J : List HoldV) (k : Value → World → Prop) (W : World) : Prop :=
  match o.guard with
  | none => shK P (shape P CB o f) (fun v W' => stbA P J (fun W' => k v W') W') W
  | some (j, want) => match guardOf ops f j with
    | some c => gdK (wantd c want) (fun k W => shK P (shape P CB o f) (fun v W' => stbA P J (fun W' => k v W') W') W) (fun v W' => k v W') W
    | none => False
def allK (l : List Nat) (A : Nat → Prop) : Prop := match l with
  | [] => True
  | [i] => A i
  | i :: t => A i ∧ allK t A
def drawK (P : Program) (CB : Nat → Bool) (n : Nat) (ops : Array Oper) (ms : List Nat) : Nat → Nat → List HoldV → Frm → (Frm → World → Prop) → World → Prop
  | 0, done, _, f, K, W => match rdyL ops.toList 0 done with
    | [] => K f W
    | _ :: _ => False
  | fuel + 1, done, J, f, K, W => match pickFl P ops.toList 0 done with
    | some i => match ops[i]? with
      | some o => match dstOk n o.dst with
        | true => flK P CB ops o f i J (fun v J' W' => drawK P CB n ops ms fuel (Nat.lor done (Nat.shiftLeft 1 i)) J' (upo f o.dst v) K W') W
        | false => False
      | none => False
    | none => match rdyL ops.toList 0 done with
      | [] => K f W
      | i :: l => allK (i :: l) fun i => match ops[i]? with
        | some o => match dstOk n o.dst with
          | true => match isFl P o with
            | false => efS P CB ops o f (filt ms i J) (fun v W' => drawK P CB n ops ms fuel (Nat.lor done (Nat.shiftLeft 1 i)) (filt ms i J) (upo f o.dst v) K W') W
            | true => False
          | false => False
        | none => False

def JH (P : Program) (J : List HoldV) : List Hold := J.map fun h => ⟨h.1, fun w => h.2.1 = true → h.2.2.1.run P w = .ok h.2.2.2 w⟩

theorem allK_mem {A : Nat → Prop} : ∀ {l : List Nat}, allK l A → ∀ i ∈ l, A i
  | [], _, i, hi => by cases hi
  | [j], h, i, hi => by simp at hi; subst hi; exact h
  | j :: k :: t, h, i, hi => by
    rcases List.mem_cons.1 hi with rfl | hi
    · exact h.1
    · exact allK_mem h.2 i hi

structure Rel (ops : Array Oper) (listed : Array Bool) (done : Nat) : Prop where
  size : listed.size = ops.size
  bits : ∀ k, listed.getD k false = tb done k

theorem Rel.set {ops : Array Oper} {listed : Array Bool} {done i : Nat} (h : Rel ops listed done) (hi : i < ops.size) : Rel ops (listed.setIfInBounds i true) (Nat.lor done (Nat.shiftLeft 1 i)) := by
  refine ⟨by simp [h.size], fun k => ?_⟩
  have hb : tb (Nat.lor done (Nat.shiftLeft 1 i)) k = (tb done k || decide (i = k)) := by
    show (done ||| 1 <<< i).testBit k = _
    rw [Nat.testBit_or, Nat.one_shiftLeft, Nat.testBit_two_pow]
    rfl
  rw [hb]
  by_cases hik : i = k
  · subst hik
    simp [h.size, hi]
  · rw [getD_set_ne false hik, h.bits]
    simp [hik]

theorem dmask_bit (o : Oper) (i : Nat) : tb (dmask o) i = true ↔ ∃ e ∈ o.after, Region.binds .any e = true ∧ e.on = i := by
  have key : ∀ (l : List Edge) (m : Nat), tb (l.foldl (fun m e => bif Region.binds .any e then Nat.lor m (Nat.shiftLeft 1 e.on) else m) m) i = true ↔ tb m i = true ∨ ∃ e ∈ l, Region.binds .any e = true ∧ e.on = i := by
    intro l
    induction l with
    | nil => simp
    | cons e l ih =>
      intro m
      simp only [List.foldl_cons, ih]
      cases hb : Region.binds .any e with
      | false => simp [hb]
      | true =>
        simp only [cond_true]
        have : tb (Nat.lor m (Nat.shiftLeft 1 e.on)) i = (tb m i || decide (e.on = i)) := by
          show (m ||| 1 <<< e.on).testBit i = _
          rw [Nat.testBit_or, Nat.one_shiftLeft, Nat.testBit_two_pow]
          rfl
        rw [this]
        simp only [Bool.or_eq_true, decide_eq_true_eq, List.mem_cons, exists_eq_or_imp, hb, true_and]
        rw [or_assoc]
  have := key o.after.toList 0
  simp only [Array.mem_toList_iff] at this
  have h0 : tb 0 i = false := by simp [tb]
  rw [h0] at this
  simpa [dmask] using this

theorem rdyB_iff {ops : Array Oper} {listed : Array Bool} {done k : Nat} {o : Oper} (h : Rel ops listed done) (ho : ops[k]? = some o) :
    rdyB (dmask o) done k = true ↔ k ∈ Region.ready .any ops listed := by
  have hk := (Array.getElem?_eq_some_iff.1 ho).1
  have h1 : listed.getD k true = listed.getD k false := by simp [h.size, hk]
  rw [mem_ready, h1, h.bits]
  unfold rdyB
  simp only [Bool.and_eq_true, Bool.not_eq_true']
  refine and_congr Iff.rfl ?_
  constructor
  · intro hb
    have hb' : dmask o &&& done = dmask o := Nat.eq_of_beq_eq_true hb
    refine ⟨o, ho, fun e he hbi => ?_⟩
    rw [h.bits]
    have h2 := (dmask_bit o e.on).2 ⟨e, he, hbi, rfl⟩
    have h3 : (dmask o &&& done).testBit e.on = true := by rw [hb']; exact h2
    rw [Nat.testBit_and] at h3
    simp only [Bool.and_eq_true] at h3
    exact h3.2
  · rintro ⟨o', ho', hall⟩
    rw [ho] at ho'
    cases ho'
    have : dmask o &&& done = dmask o := by
      apply Nat.eq_of_testBit_eq
      intro i
      rw [Nat.testBit_and]
      cases hd : (dmask o).testBit i with
      | false => rfl
      | true =>
        obtain ⟨e, he, hbi, rfl⟩ := (dmask_bit o i).1 hd
        have h4 : done.testBit e.on = true := by rw [← hall e he hbi, h.bits]; rfl
        simp [h4]
    show Nat.beq (dmask o &&& done) (dmask o) = true
    rw [this]
    exact Nat.beq_refl _

theorem pickFl_spec {ops : Array Oper} {done : Nat} : ∀ (os : List Oper) (k i : Nat), (∀ j, os[j]? = ops[k + j]?) → pickFl P os k done = some i → ∃ o, ops[i]? = some o ∧ rdyB (dmask o) done i = true ∧ isFl P o = true
  | [], k, i, _, h => by cases h
  | o :: os, k, i, hos, h => by
    simp only [pickFl] at h
    cases hb : rdyB (dmask o) done k && isFl P o with
    | true =>
      rw [hb] at h
      simp only [cond_true, Option.some.injEq] at h
      subst h
      simp only [Bool.and_eq_true] at hb
      exact ⟨o, by have := hos 0; simpa using this.symm, hb.1, hb.2⟩
    | false =>
      rw [hb] at h
      exact pickFl_spec os (k + 1) i (fun j => by have := hos (j + 1); simp only [List.getElem?_cons_succ] at this; rw [this]; congr 1; omega) h

theorem rdyL_spec {ops : Array Oper} {done : Nat} : ∀ (os : List Oper) (k i : Nat) (o : Oper), (∀ j, os[j]? = ops[k + j]?) → k ≤ i → ops[i]? = some o → rdyB (dmask o) done i = true → i ∈ rdyL os k done
  | [], k, i, o, hos, hk, ho, hb => by
    have := hos (i - k)
    rw [show k + (i - k) = i from by omega, ho] at this
    simp at this
  | x :: os, k, i, o, hos, hk, ho, hb => by
    by_cases hki : k = i
    · subst hki
      have : x = o := by have := hos 0; simp [ho] at this; exact this
      subst this
      simp [rdyL, hb]
    · have := rdyL_spec (ops := ops) os (k + 1) i o (fun j => by have := hos (j + 1); simp only [List.getElem?_cons_succ] at this; rw [this]; congr 1; omega) (by omega) ho hb
      simp only [rdyL]
      cases rdyB (dmask x) done k with
      | true => exact List.mem_cons_of_mem _ this
      | false => exact this

theorem filt_JH {ops : Array Oper} {ms : List Nat} {i : Nat} {o : Oper} (ho : ops[i]? = some o) (hf : isFl P o = false) : ∀ (J : List HoldV), JH P (filt ms i J) = dropJ P ops ms (JH P J) i
  | [] => by simp [filt, JH, dropJ, ho, hf]
  | h :: t => by
    have ih := filt_JH (ms := ms) ho hf t
    simp only [dropJ, ho, hf, cond_false] at ih ⊢
    simp only [filt, JH, List.map_cons, List.filter_cons] at *
    cases hb : tb (ms.getD i 0) h.1 with
    | true => simp [ih]
    | false => simp [ih]

theorem stb_hold : ∀ {J : List HoldV} {R : World → Prop} {w : World}, stb P J R w → hold (JH P J) w ∧ R w
  | [], _, _, h => ⟨fun x hx => by simp [JH] at hx, h⟩
  | (i, b, s, v) :: t, R, w, h => by
    obtain ⟨h1, h2⟩ := h
    have ih := stb_hold h2
    refine ⟨fun x hx => ?_, ih.2⟩
    simp only [JH, List.map_cons, List.mem_cons] at hx
    rcases hx with rfl | hx
    · exact h1
    · exact ih.1 x hx

theorem isFl_sel {o : Oper} {cs : Array SelectCase} {b : Bool} (h : isFl P o = true) : o.op ≠ .select cs b := by
  intro hs
  simp [isFl, hs] at h

/-- panics do not hang on the frame -/
def PQ (Q : Exit → Act → World → Prop) : Prop := ∀ c a d v w, Q (.panic c) (Act.put a d v) w → Q (.panic c) a w

theorem drawK_wp (hCB : ∀ g, CB g = true → fnOk P g) {ops : Array Oper} {Q : Exit → Act → World → Prop} (hPQ : PQ Q) {K : Frm → World → Prop} (hK : ∀ f a w, K f w → Fits n f a → Q .normal a w)
    (hsel : Region.noSelect ops = true) (hap : apartAll ops (masks ops.toList []) = true) :
    ∀ (fuel : Nat) (done : Nat) (listed : Array Bool) (J : List HoldV) (f : Frm) (a : Act) (w : World), Rel ops listed done → DC ops listed → Fits n f a → hold (JH P J) w →
      drawK P CB n ops (masks ops.toList []) fuel done J f K w → wpAnyJ P ops (masks ops.toList []) Q fuel listed (JH P J) a w := by
  intro fuel
  induction fuel with
  | zero =>
    intro done listed J f a w hR hd hf hJ h
    simp only [drawK] at h
    split at h
    · rename_i hr
      refine ⟨?_, hK _ _ _ h hf⟩
      rw [List.eq_nil_iff_forall_not_mem]
      intro i hi
      obtain ⟨_, o, ho, _⟩ := mem_ready.1 hi
      have := rdyL_spec (ops := ops) ops.toList 0 i o (by simp) (Nat.zero_le _) ho ((rdyB_iff hR ho).2 hi)
      rw [hr] at this
      cases this
    · exact h.elim
  | succ fuel ih =>
    intro done listed J f a w hR hd hf hJ h
    simp only [drawK] at h
    split at h
    · rename_i i hp
      obtain ⟨o, ho, hb, hfl⟩ := pickFl_spec (ops := ops) ops.toList 0 i (by simp) hp
      have hrdy := (rdyB_iff hR ho).1 hb
      have hi := (Array.getElem?_eq_some_iff.1 ho).1
      simp only [ho] at h
      split at h
      · rename_i hdst
        have hfirst : ∀ (v : Value) (S : World → Prop), YieldsIf P ops S o v a → S w → wpAnyJ P ops (masks ops.toList []) Q fuel (listed.setIfInBounds i true) (⟨i, S⟩ :: JH P J) (a.put o.dst v) w →
            wpAnyJ P ops (masks ops.toList []) Q (fuel + 1) listed (JH P J) a w :=
          fun v S hy hS H => wpAnyJ_first ho hfl hap (Region.noSelect_spec hsel) (fun c a w => hPQ c a _ _ w) fuel listed (JH P J) a w hd hrdy hy hS hJ H
        have hs := shape_says hCB o hf
        have hpure : ∀ v, (∀ w, (execOp a.eval o).run P w = .ok (.value v) w) → Region.wanted o (yielded ops a.tmps) = true →
            drawK P CB n ops (masks ops.toList []) fuel (Nat.lor done (Nat.shiftLeft 1 i)) J (upo f o.dst v) K w → wpAnyJ P ops (masks ops.toList []) Q (fuel + 1) listed (JH P J) a w := by
          intro v hv hw hk
          refine hfirst v (fun _ => True) (.inl ⟨hw, fun w _ => hv w⟩) trivial ?_
          exact wpAnyJ_sub _ _ _ _ _ _ (fun x hx => by
            rcases List.mem_cons.1 hx with rfl | hx
            · exact .inr fun _ => trivial
            · exact .inl hx) (ih _ _ J _ _ w (hR.set hi) (hd.set hrdy) (hf.upo hdst) hJ hk)
        have hskip : Region.wanted o (yielded ops a.tmps) = false → ∀ J', (∀ x ∈ JH P J', x ∈ JH P J ∨ ∀ w, x.S w) → (∀ x ∈ JH P J, x ∈ JH P J') →
            drawK P CB n ops (masks ops.toList []) fuel (Nat.lor done (Nat.shiftLeft 1 i)) J' (upo f o.dst undef) K w → wpAnyJ P ops (masks ops.toList []) Q (fuel + 1) listed (JH P J) a w := by
          intro hw J' hJ' hJJ hk
          refine hfirst undef (fun _ => True) (.inr ⟨hw, rfl⟩) trivial ?_
          refine wpAnyJ_sub _ _ _ (JH P J') _ _ (fun x hx => ?_) (ih _ _ J' _ _ w (hR.set hi) (hd.set hrdy) (hf.upo hdst) (fun x hx => (hJ' x hx).elim (hJ x) (fun h => h w)) hk)
          rcases List.mem_cons.1 hx with rfl | hx
          · exact .inr fun _ => trivial
          · exact .inl (hJJ x hx)
        unfold flK at h
        split at h
        · rename_i hg
          have hw : Region.wanted o (yielded ops a.tmps) = true := by simp [Region.wanted, hg]
          split at h
          · rename_i v hsh
            rw [hsh] at hs
            exact hpure v hs hw h
          · rename_i r hsh
            rw [hsh] at hs
            cases r with
            | none => exact h.elim
            | some v => exact hpure v hs hw h
          · rename_i s hsh
            rw [hsh] at hs
            obtain ⟨v, hv, hk⟩ := h
            refine hfirst v (fun w => true = true → s.run P w = .ok v w) (.inl ⟨hw, fun w hS => hs _ _ _ (hS rfl)⟩) (fun _ => hv) ?_
            exact ih _ _ ((i, true, s, v) :: J) _ _ w (hR.set hi) (hd.set hrdy) (hf.upo hdst) (fun x hx => by
              simp only [JH, List.map_cons, List.mem_cons] at hx
              rcases hx with rfl | hx
              · exact fun _ => hv
              · exact hJ x hx) hk
          · exact h.elim
        · rename_i j want hg
          split at h
          · rename_i c hc
            have hwd := hf.wanted hg hc
            split at h
            · rename_i v hsh
              rw [hsh] at hs
              unfold gdK at h
              split at h
              · rename_i hb'
                exact hpure v hs (by rw [hwd]; exact hb') h
              · rename_i hb'
                exact hskip (by rw [hwd]; exact hb') J (fun x hx => .inl hx) (fun x hx => hx) h
            · rename_i r hsh
              rw [hsh] at hs
              unfold gdK at h
              split at h
              · rename_i hb'
                cases r with
                | none => exact h.elim
                | some v => exact hpure v hs (by rw [hwd]; exact hb') h
              · rename_i hb'
                exact hskip (by rw [hwd]; exact hb') J (fun x hx => .inl hx) (fun x hx => hx) h
            · rename_i s hsh
              rw [hsh] at hs
              unfold gdK at h
              split at h
              · rename_i hb'
                obtain ⟨v, hv, hk⟩ := h
                rw [hb'] at hk
                refine hfirst v (fun w => true = true → s.run P w = .ok v w) (.inl ⟨by rw [hwd]; exact hb', fun w hS => hs _ _ _ (hS rfl)⟩) (fun _ => hv) ?_
                exact ih _ _ ((i, true, s, v) :: J) _ _ w (hR.set hi) (hd.set hrdy) (hf.upo hdst) (fun x hx => by
                  simp only [JH, List.map_cons, List.mem_cons] at hx
                  rcases hx with rfl | hx
                  · exact fun _ => hv
                  · exact hJ x hx) hk
              · rename_i hb'
                refine hskip (by rw [hwd]; exact hb') ((i, wantd c want, s, undef) :: J) (fun x hx => ?_) (fun x hx => ?_) h
                · simp only [JH, List.map_cons, List.mem_cons] at hx
                  rcases hx with rfl | hx
                  · exact .inr fun w hw => by simp only [hb'] at hw; cases hw
                  · exact .inl hx
                · simp only [JH, List.map_cons, List.mem_cons]; exact .inr hx
            · exact h.elim
          · exact h.elim
      · exact h.elim
    · split at h
      · rename_i hr
        have hnil : Region.ready .any ops listed = [] := by
          rw [List.eq_nil_iff_forall_not_mem]
          intro i hi
          obtain ⟨_, o, ho, _⟩ := mem_ready.1 hi
          have := rdyL_spec (ops := ops) ops.toList 0 i o (by simp) (Nat.zero_le _) ho ((rdyB_iff hR ho).2 hi)
          rw [hr] at this
          cases this
        exact ⟨fun _ => hK _ _ _ h hf, by rw [hnil]; simp⟩
      · rename_i i0 l hr
        refine wpAnyJ_all (rs := i0 :: l) (fun i hi => ?_) (fun hnil => ?_) (fun i hi hrdy => ?_)
        · obtain ⟨_, o, ho, _⟩ := mem_ready.1 hi
          have := rdyL_spec (ops := ops) ops.toList 0 i o (by simp) (Nat.zero_le _) ho ((rdyB_iff hR ho).2 hi)
          rwa [hr] at this
        · exfalso
          have hmem : ∀ (os : List Oper) (k : Nat) (i0 : Nat) (l : List Nat), (∀ j, os[j]? = ops[k + j]?) → rdyL os k done = i0 :: l → ∃ o, ops[i0]? = some o ∧ rdyB (dmask o) done i0 = true := by
            intro os
            induction os with
            | nil => intro k i0 l _ h; cases h
            | cons o os ih2 =>
              intro k i0 l hos h
              simp only [rdyL] at h
              cases hb : rdyB (dmask o) done k with
              | true =>
                rw [hb] at h
                simp only [cond_true, List.cons.injEq] at h
                obtain ⟨rfl, _⟩ := h
                exact ⟨o, by have := hos 0; simpa using this.symm, hb⟩
              | false =>
                rw [hb] at h
                exact ih2 (k + 1) i0 l (fun j => by have := hos (j + 1); simp only [List.getElem?_cons_succ] at this; rw [this]; congr 1; omega) h
          obtain ⟨o, ho, hb⟩ := hmem ops.toList 0 i0 l (by simp) hr
          have := (rdyB_iff hR ho).1 hb
          rw [hnil] at this
          cases this
        · have h1 := allK_mem h i hi
          obtain ⟨_, o, ho, _⟩ := mem_ready.1 hrdy
          have hil := (Array.getElem?_eq_some_iff.1 ho).1
          simp only [ho] at h1
          split at h1
          · rename_i hdst
            split at h1
            · rename_i hfl
              rw [← filt_JH ho hfl]
              have hcont : ∀ v w', (hold (JH P (filt (masks ops.toList []) i J)) w' ∧ drawK P CB n ops (masks ops.toList []) fuel (Nat.lor done (Nat.shiftLeft 1 i)) (filt (masks ops.toList []) i J) (upo f o.dst v) K w') →
                  hold (JH P (filt (masks ops.toList []) i J)) w' ∧ wpAnyJ P ops (masks ops.toList []) Q fuel (listed.setIfInBounds i true) (JH P (filt (masks ops.toList []) i J)) (a.put o.dst v) w' :=
                fun v w' hv => ⟨hv.1, ih _ _ _ _ _ w' (hR.set hil) (hd.set hrdy) (hf.upo hdst) hv.1 hv.2⟩
              refine stepK_wp (k := fun v w' => hold (JH P (filt (masks ops.toList []) i J)) w' ∧ drawK P CB n ops (masks ops.toList []) fuel (Nat.lor done (Nat.shiftLeft 1 i)) (filt (masks ops.toList []) i J) (upo f o.dst v) K w') hCB ho hf hcont ?_
              unfold stepK
              unfold efS at h1
              have hconv : ∀ (sh : Sh) (k : Value → World → Prop) (w : World), shK P sh (fun v W' => stbA P (filt (masks ops.toList []) i J) (fun W' => k v W') W') w → shK P sh (fun v W' => hold (JH P (filt (masks ops.toList []) i J)) W' ∧ k v W') w := by
                intro sh k w h
                simp only [stbA_eq] at h
                cases sh with
                | val v => exact stb_hold h
                | pure r =>
                  cases r with
                  | none => exact h
                  | some v => exact stb_hold h
                | read s => obtain ⟨v, h1, h2⟩ := h; exact ⟨v, h1, stb_hold h2⟩
                | eff s => obtain ⟨v, w', h1, h2⟩ := h; exact ⟨v, w', h1, stb_hold h2⟩
                | effU s => obtain ⟨v, w', h1, h2⟩ := h; exact ⟨v, w', h1, stb_hold h2⟩
                | call g args =>
                  refine Calls.mono h fun e w' he => ?_
                  cases e with
                  | returned v => exact stb_hold he
                  | panicked c => exact he
                  | outgrown => exact he
                | vcall v args =>
                  simp only [shK, vcK] at h ⊢
                  split at h
                  · refine ⟨h.1, Calls.mono h.2 fun e w' he => ?_⟩
                    cases e with
                    | returned v => exact stb_hold he
                    | panicked c => exact he
                    | outgrown => exact he
                  · exact h
                | bad => exact h
              split at h1
              · rename_i hg
                exact hconv _ _ _ h1
              · rename_i j want hg
                split at h1
                · rename_i c hc
                  unfold gdK at h1 ⊢
                  split at h1
                  · exact hconv _ _ _ h1
                  · refine ⟨fun x hx => hJ x ?_, h1⟩
                    rw [filt_JH ho hfl] at hx
                    simp only [dropJ, ho, hfl, cond_false, List.mem_filter] at hx
                    exact hx.1
                · exact h1.elim
            · exact h1.elim
          · exact h1.elim
end
end Go.Eng
