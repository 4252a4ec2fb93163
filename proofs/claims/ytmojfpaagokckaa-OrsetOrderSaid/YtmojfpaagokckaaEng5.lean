/-
  Own engine, part 5: code, loops, functions.
-/
import Derived.Test.YtmojfpaagokckaaEng4
namespace Go.Eng
set_option linter.unusedVariables false
set_option linter.unusedSimpArgs false
open Go

inductive Hint where
  | nil
  | two (a b : Hint)
  | at (ls : List Nat) (a b : Hint)

def tick (W : World) : World := { W with drawn := W.drawn + 1 }
abbrev thenF (K : Frm → World → Prop) (Q : Exit → Frm → World → Prop) : Exit → Frm → World → Prop
  | .normal, f, W => K f W
  | e, f, W => Q e f W
abbrev blkF (id : Nat) (Q : Exit → Frm → World → Prop) : Exit → Frm → World → Prop
  | .exit id', f, W => bif Nat.beq id' id then Q .normal f W else Q (.exit id') f W
  | e, f, W => Q e f W
def joinK (K : List Value → World → Prop) (A : (List Value → World → Prop) → Prop) : Prop := A K
abbrev goK (r : Option (List Value)) (K : List Value → World → Prop) (W : World) : Prop := match r with | some s => K s W | none => False
def ifK (v : Value) (A B : Prop) : Prop := match v with | .bool b => (match b with | true => A | false => B) | _ => False
abbrev cndK (r : Option Value) (A B : Prop) : Prop := match r with | some v => ifK v A B | none => False
/-- a loop: a relation that holds at each round's head, and a number that each round lowers -/
def loopK (body : (List Value → World → Prop) → List Value → World → Prop) (s : List Value) (W : World) : Prop :=
  ∃ I : Nat → List Value → World → Prop, (∃ m, I m s W) ∧ ∀ m s W, I m s W → body (fun s' W' => ∃ m', m' < m ∧ I m' s' W') s W

def wpc (P : Program) (CB : Nat → Bool) (n : Nat) : Code → Hint → (Exit → Frm → World → Prop) → Frm → World → Prop
  | .skip, _, Q, f, W => Q .normal f W
  | .label _, _, Q, f, W => Q .normal f W
  | .region _ ops draw, _, Q, f, W => match draw with
    | false => opsK P CB n ops ops.toList f (fun f' W' => Q .normal f' W') W
    | true => match Region.noSelect ops with
      | true => match apartAll ops (masks ops.toList []) with
        | true => drawK P CB n ops (masks ops.toList []) ops.size 0 [] f (fun f' W' => Q .normal f' W') (tick W)
        | false => False
      | false => False
  | .seq a b, h, Q, f, W => match h with
    | .two ha hb => wpc P CB n a ha (thenF (fun f' W' => wpc P CB n b hb Q f' W') Q) f W
    | .at ls ha hb => joinK (fun s W' => wpc P CB n b hb Q (ofs ls 0 s) W') (fun J => wpc P CB n a ha (thenF (fun f' W' => goK (evs f' ls) J W') Q) f W)
    | .nil => False
  | .cond c a b, h, Q, f, W => match h with
    | .two ha hb => cndK (ev f c) (wpc P CB n a ha Q f W) (wpc P CB n b hb Q f W)
    | _ => False
  | .block id c, h, Q, f, W => wpc P CB n c h (blkF id Q) f W
  | .loop c, h, Q, f, W => match h with
    | .at ls hc _ => goK (evs f ls) (fun s W' => loopK (fun K s W => wpc P CB n c hc (thenF (fun f' W' => goK (evs f' ls) K W') Q) (ofs ls 0 s) W) s W') W
    | _ => False
  | .exit id, _, Q, f, W => Q (.exit id) f W
  | .goto l, _, Q, f, W => Q (.goto l) f W
  | .ret, _, Q, f, W => Q .ret f W
  | .scope _, _, _, _, _ => False
  | .rangeFunc .., _, _, _, _ => False
  | .refuse _, _, _, _, _ => False

section
variable {P : Program} {CB : Nat → Bool} {n : Nat}

def RQ (n : Nat) (Qf : Exit → Frm → World → Prop) (Q : Exit → Act → World → Prop) : Prop := ∀ e f a w, Qf e f w → Fits n f a → Q e a w

theorem PQ.then {Q : Exit → Act → World → Prop} (h : PQ Q) (K : Act → World → Prop) : PQ (Exit.then K Q) := fun c a d v w hq => h c a d v w hq
theorem PQ.block {Q : Exit → Act → World → Prop} (h : PQ Q) (id : Nat) : PQ (Exit.inBlock id Q) := fun c a d v w hq => h c a d v w hq

theorem RQ.then {Qf : Exit → Frm → World → Prop} {Q : Exit → Act → World → Prop} (h : RQ n Qf Q) {Kf : Frm → World → Prop} {K : Act → World → Prop} (hk : ∀ f a w, Kf f w → Fits n f a → K a w) :
    RQ n (thenF Kf Qf) (Exit.then K Q) := by
  intro e f a w hq hf
  cases e with
  | normal => exact hk f a w hq hf
  | _ => exact h _ f a w hq hf

theorem RQ.block {Qf : Exit → Frm → World → Prop} {Q : Exit → Act → World → Prop} (h : RQ n Qf Q) (id : Nat) : RQ n (blkF id Qf) (Exit.inBlock id Q) := by
  intro e f a w hq hf
  cases e with
  | exit id' =>
    simp only [blkF] at hq
    simp only [Exit.inBlock]
    cases hb : Nat.beq id' id with
    | true =>
      rw [hb] at hq
      rw [if_pos (Nat.eq_of_beq_eq_true hb)]
      exact h _ f a w hq hf
    | false =>
      rw [hb] at hq
      rw [if_neg (fun e => by rw [e, Nat.beq_refl] at hb; cases hb)]
      exact h _ f a w hq hf
  | _ => exact h _ f a w hq hf

/-- a loop by a relation and a number that falls -/
theorem wp_loop_rel {Q : Exit → Act → World → Prop} {c : Code} (I : Nat → Act → World → Prop) (round : ∀ m a w, I m a w → c.wp P (Exit.then (fun a' w' => ∃ m', m' < m ∧ I m' a' w') Q) a w)
    {m : Nat} {a : Act} {w : World} (h : I m a w) : (Code.loop c).wp P Q a w := by
  intro b k cs
  have key : ∀ m a w, I m a w → ∃ e a' w', Q e a' w' ∧ Arrives P (lone (b.at a (.code c :: .inLoop c :: k)) cs w) b k cs e a' w' := by
    intro m
    induction m using Nat.strongRecOn with
    | _ m ih =>
      intro a w hI
      obtain ⟨e, a₁, w₁, hq, harr⟩ := round m a w hI b (.inLoop c :: k) cs
      cases e with
      | normal =>
        obtain ⟨m', hlt, hI₁⟩ := hq
        obtain ⟨e₂, a₂, w₂, hq₂, harr₂⟩ := ih m' hlt a₁ w₁ hI₁
        exact ⟨e₂, a₂, w₂, hq₂, .of_steps (Steps.trans harr (.one step_inLoop)) harr₂⟩
      | exit id => exact ⟨_, a₁, w₁, hq, .pass (x := .inLoop c) rfl (fun _ _ => .inl (by simp)) harr⟩
      | goto l => exact ⟨_, a₁, w₁, hq, .pass (x := .inLoop c) rfl (fun _ _ => .inl (by simp)) harr⟩
      | ret => exact ⟨_, a₁, w₁, hq, .pass (x := .inLoop c) rfl (fun _ _ => .inl (by simp)) harr⟩
      | panic ch => exact ⟨_, a₁, w₁, hq, .pass (x := .inLoop c) rfl (fun _ _ => .inl (by simp)) harr⟩
      | outgrown => exact ⟨_, a₁, w₁, hq, .pass (x := .inLoop c) rfl (fun _ _ => .inl (by simp)) harr⟩
  obtain ⟨e, a', w', hq, harr⟩ := key m a w h
  exact ⟨e, a', w', hq, .of_steps (.one step_loop) harr⟩

theorem goK_some {r : Option (List Value)} {K : List Value → World → Prop} {W : World} (h : goK r K W) : ∃ s, r = some s ∧ K s W := by
  cases r with
  | none => exact h.elim
  | some s => exact ⟨s, rfl, h⟩

theorem DC.start (ops : Array Oper) : DC ops (Array.replicate ops.size false) := by
  intro j o _ hl
  have : (Array.replicate ops.size false).getD j false = false := by
    rw [Array.getD_eq_getD_getElem?, Array.getElem?_replicate]
    split <;> rfl
  rw [this] at hl
  cases hl
theorem Rel.start (ops : Array Oper) : Rel ops (Array.replicate ops.size false) 0 := by
  refine ⟨by simp, fun k => ?_⟩
  have : (Array.replicate ops.size false).getD k false = false := by
    rw [Array.getD_eq_getD_getElem?, Array.getElem?_replicate]
    split <;> rfl
  rw [this]
  simp [tb]

/-- **what the evaluator says holds of the code** -/
theorem wpc_wp (hm : P.follows .mixedOrders = true) (hCB : ∀ g, CB g = true → fnOk P g) :
    ∀ (c : Code) (h : Hint) (Qf : Exit → Frm → World → Prop) (Q : Exit → Act → World → Prop) (f : Frm) (a : Act) (w : World), PQ Q → RQ n Qf Q → Fits n f a → wpc P CB n c h Qf f w → c.wp P Q a w := by
  intro c
  induction c with
  | skip => exact fun h Qf Q f a w _ hq hf hw => wp_skip (hq _ _ _ _ hw hf)
  | label l => exact fun h Qf Q f a w _ hq hf hw => wp_label (hq _ _ _ _ hw hf)
  | region id ops draw =>
    intro h Qf Q f a w hP hq hf hw
    simp only [wpc] at hw
    split at hw
    · refine wp_region ?_
      have := opsK_wp (ops := ops) (Q := Q) hCB (fun f a w hk hf => hq .normal f a w hk hf) ops.toList 0 f a w (by simp) (by simp) hf hw
      rw [List.range_eq_range']
      simpa using this
    · split at hw
      · rename_i hsel
        split at hw
        · rename_i hap
          refine wp_region_any hm (wpAny_of_J (ms := masks ops.toList []) _ _ (JH P []) _ _ ?_)
          exact drawK_wp hCB hP (fun f a w hk hf => hq .normal f a w hk hf) hsel hap ops.size 0 _ [] f a _ (Rel.start ops) (DC.start ops) hf (fun x hx => by simp [JH] at hx) hw
        · exact hw.elim
      · exact hw.elim
  | seq x y ihx ihy =>
    intro h Qf Q f a w hP hq hf hw
    cases h with
    | nil => exact hw.elim
    | two ha hb => exact wp_seq (ihx ha _ _ f a w (hP.then _) (hq.then fun f' a' w' hk hf' => ihy hb Qf Q f' a' w' hP hq hf' hk) hf hw)
    | «at» ls ha hb =>
      exact wp_seq (ihx ha _ _ f a w (hP.then _) (hq.then fun f' a' w' hk hf' => by
        obtain ⟨s, hs, hk⟩ := goK_some hk
        exact ihy hb Qf Q _ a' w' hP hq (hf'.ofs hs) hk) hf hw)
  | cond c x y ihx ihy =>
    intro h Qf Q f a w hP hq hf hw
    cases h with
    | nil => exact hw.elim
    | «at» ls ha hb => exact hw.elim
    | two ha hb =>
      simp only [wpc] at hw
      cases hc : ev f c with
      | none => rw [hc] at hw; exact hw.elim
      | some v =>
        rw [hc] at hw
        simp only [cndK] at hw
        unfold ifK at hw
        split at hw
        · rename_i b
          split at hw
          · exact wp_cond_true (hf.eval hc) (ihx ha Qf Q f a w hP hq hf hw)
          · exact wp_cond_false (hf.eval hc) (ihy hb Qf Q f a w hP hq hf hw)
        · exact hw.elim
  | block id c ih => exact fun h Qf Q f a w hP hq hf hw => wp_block (ih h _ _ f a w (hP.block id) (hq.block id) hf hw)
  | loop c ih =>
    intro h Qf Q f a w hP hq hf hw
    cases h with
    | nil => exact hw.elim
    | two ha hb => exact hw.elim
    | «at» ls hc hb =>
      obtain ⟨s, hs, I, ⟨m, hI⟩, hround⟩ := goK_some hw
      refine wp_loop_rel (fun m a w => ∃ s, Fits n (ofs ls 0 s) a ∧ I m s w) (fun m a w hI => ?_) (m := m) ⟨s, hf.ofs hs, hI⟩
      obtain ⟨s, hf, hI⟩ := hI
      refine ih hc _ _ (ofs ls 0 s) a w (hP.then _) (hq.then fun f' a' w' hk hf' => ?_) hf (hround m s w hI)
      obtain ⟨s', hs', m', hlt, hI'⟩ := goK_some hk
      exact ⟨m', hlt, s', hf'.ofs hs', hI'⟩
  | rangeFunc f ps x y => exact fun h Qf Q f a w hP hq hf hw => hw.elim
  | exit id => exact fun h Qf Q f a w _ hq hf hw => wp_exit (hq _ _ _ _ hw hf)
  | scope c => exact fun h Qf Q f a w hP hq hf hw => hw.elim
  | goto l => exact fun h Qf Q f a w _ hq hf hw => wp_goto (hq _ _ _ _ hw hf)
  | ret => exact fun h Qf Q f a w _ hq hf hw => wp_ret (hq _ _ _ _ hw hf)
  | refuse s => exact fun h Qf Q f a w hP hq hf hw => hw.elim

/-! ### functions -/
abbrev resV (f : Frm) : ResultVar → Option (Sum Value (TypeId × Value))
  | .tmp t => match f t with | some v => some (.inl v) | none => none
  | .cell a t => match f a with | some v => some (.inr (t, v)) | none => none
/-- the results, one by one -/
def resK (P : Program) : List ResultVar → Frm → List Value → (List Value → Prop) → World → Prop
  | [], _, acc, k, _ => k acc.reverse
  | r :: rs, f, acc, k, W => match resV f r with
    | some (.inl v) => resK P rs f (v :: acc) k W
    | some (.inr (t, v)) => rdK P (Instr.loadAt t v) (fun u W' => resK P rs f (u :: acc) k W') W
    | none => False
def tupV (vs : List Value) : Value := match vs with
  | [v] => v
  | _ => .tuple vs.toArray
def retF (P : Program) (rs : List ResultVar) (R : Value → World → Prop) : Exit → Frm → World → Prop
  | .normal, f, W => resK P rs f [] (fun vs => R (tupV vs) W) W
  | .ret, f, W => resK P rs f [] (fun vs => R (tupV vs) W) W
  | _, _, _ => False
def argF : List Value → Nat → Frm
  | [], _ => emp
  | v :: vs, k => fun i => bif Nat.beq i k then some v else argF vs (k + 1) i

/-- the body of a function at some arguments -/
def bodyK (P : Program) (CB : Nat → Bool) (fn : Func) (h : Hint) (args : List Value) (R : Value → World → Prop) (W : World) : Prop :=
  match fn.body with
  | some c => match Nat.ble args.length fn.ntmps with
    | true => wpc P CB fn.ntmps c h (retF P fn.results.toList R) (argF args 0) W
    | false => False
  | none => False

theorem argF_get : ∀ (args : List Value) (k i : Nat) (v : Value), argF args k i = some v → ∃ j, i = k + j ∧ args[j]? = some v
  | [], k, i, v, h => by cases h
  | u :: us, k, i, v, h => by
    simp only [argF] at h
    cases hb : Nat.beq i k with
    | true =>
      rw [hb] at h
      have := Nat.eq_of_beq_eq_true hb
      simp only [cond_true, Option.some.injEq] at h
      exact ⟨0, by omega, by simp [h]⟩
    | false =>
      rw [hb] at h
      obtain ⟨j, hj, hv⟩ := argF_get us (k + 1) i v h
      exact ⟨j + 1, by omega, by simpa using hv⟩

theorem resK_run {fn : Func} {f : Frm} {a : Act} {w : World} (hf : Fits n f a) {k : List Value → Prop} : ∀ (rs : List ResultVar) (acc : List Value), resK P rs f acc k w →
    ∃ vs, (rs.mapM (fun r => match r with | .tmp t => pure (a.tmps.getD t undef) | .cell x t => do loadVar t (← asAddr (a.tmps.getD x undef)) : ResultVar → Sem Value)).run P w = .ok vs w ∧ k (acc.reverse ++ vs)
  | [], acc, h => ⟨[], rfl, by simpa [resK] using h⟩
  | .tmp t :: rs, acc, h => by
    simp only [resK, resV] at h
    cases ht : f t with
    | none => rw [ht] at h; exact h.elim
    | some v =>
      rw [ht] at h
      obtain ⟨vs, h1, h2⟩ := resK_run (fn := fn) hf rs (v :: acc) h
      have hv : a.tmps.getD t undef = v := by rw [Array.getD_eq_getD_getElem?, hf.tmps t v ht]; rfl
      refine ⟨v :: vs, ?_, by simpa using h2⟩
      rw [List.mapM_cons]
      simp only [Sem.run_bind, Sem.run_pure, Result.andThen_ok, hv, h1]
  | .cell x t :: rs, acc, h => by
    simp only [resK, resV] at h
    cases ht : f x with
    | none => rw [ht] at h; exact h.elim
    | some v =>
      rw [ht] at h
      obtain ⟨u, hu, h⟩ := h
      obtain ⟨vs, h1, h2⟩ := resK_run (fn := fn) hf rs (u :: acc) h
      have hv : a.tmps.getD x undef = v := by rw [Array.getD_eq_getD_getElem?, hf.tmps x v ht]; rfl
      refine ⟨u :: vs, ?_, by simpa using h2⟩
      have hload : (do loadVar t (← asAddr v) : Sem Value).run P w = .ok u w := by
        simp only [Instr.loadAt, Sem.run_bind] at hu
        unfold Instr.sureAddr at hu
        split at hu
        · simpa [asAddr] using hu
        · cases hu
      rw [List.mapM_cons]
      simp only [Sem.run_bind, Result.andThen_ok] at hload ⊢
      rw [hv]
      cases ha : (asAddr v).run P w with
      | halt x w' => rw [ha] at hload; cases hload
      | ok x w' =>
        rw [ha] at hload
        simp only [Result.andThen_ok] at hload ⊢
        rw [hload]
        simp only [Result.andThen_ok, h1, Sem.run_pure]

theorem retF_post {fn : Func} {R : Value → World → Prop} : RQ n (retF P fn.results.toList R) (bodyPost P fn fun e w' => match e with | .returned v => R v w' | _ => False) := by
  have key : ∀ f a w, resK P fn.results.toList f [] (fun vs => R (tupV vs) w) w → Fits n f a → a.defers = [] ∧ ∃ v, (results fn a.tmps).run P w = .ok v w ∧ R v w := by
    intro f a w h hf
    obtain ⟨vs, h1, h2⟩ := resK_run (fn := fn) hf _ _ h
    refine ⟨hf.defers, tupV vs, ?_, by simpa using h2⟩
    have hmap : (fn.results.mapM (fun r => match r with | .tmp t => pure (a.tmps.getD t undef) | .cell x t => do loadVar t (← asAddr (a.tmps.getD x undef)) : ResultVar → Sem Value)).run P w = .ok vs.toArray w := by
      rw [← Array.toArray_toList (xs := fn.results), List.mapM_toArray]
      rw [← bind_pure_comp, Sem.run_bind, h1]
      rfl
    unfold results
    rw [Sem.run_bind]
    refine Eq.trans (congrArg (fun r => Result.andThen r _) hmap) ?_
    simp only [Result.andThen_ok, Sem.run_pure]
    congr 1
    match vs with
    | [] => rfl
    | [v] => rfl
    | v :: u :: t => simp [tupV]
  intro e f a w h hf
  cases e with
  | normal => exact key f a w h hf
  | ret => exact key f a w h hf
  | exit id => exact h.elim
  | goto l => exact h.elim
  | panic c => exact h.elim
  | outgrown => exact h.elim

/-- **a call, out of its body** -/
theorem callK_of_body (hm : P.follows .mixedOrders = true) (hCB : ∀ g, CB g = true → fnOk P g) {g : Nat} {fn : Func} (hg : P.funcs[g]? = some fn) (h : Hint) {args : List Value} {R : Value → World → Prop} {w : World}
    (hb : bodyK P CB fn h args R w) : callK P g args R w := by
  unfold bodyK at hb
  split at hb
  · rename_i c hc
    split at hb
    · rename_i hl
      have hl := Nat.le_of_ble_eq_true hl
      refine calls_of_wp hg hc (wpc_wp (n := fn.ntmps) hm hCB c h _ _ (argF args 0) _ w ?_ retF_post ?_ hb)
      · intro ch a d v w hq
        exact ⟨hq.1 ▸ by cases d <;> rfl, hq.2.elim⟩
      · refine ⟨by simp; omega, rfl, fun i v hi => ?_⟩
        obtain ⟨j, hj, hv⟩ := argF_get args 0 i v hi
        have hij : i = j := by omega
        subst hij
        have hlt : i < args.length := (List.getElem?_eq_some_iff.1 hv).1
        show (args.toArray ++ _)[i]? = _
        rw [Array.getElem?_append_left (by simpa using hlt)]
        simpa using hv
    · exact hb.elim
  · exact hb.elim

theorem callK_mono {g : Nat} {args : List Value} {R R' : Value → World → Prop} {w : World} (h : callK P g args R w) (hr : ∀ v w', R v w' → R' v w') : callK P g args R' w :=
  Calls.mono h fun e w' he => by cases e <;> first | exact hr _ _ he | exact he
end
end Go.Eng
