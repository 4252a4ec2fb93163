/-
  Own engine: what a law is handed, opened by its type's shape.
-/
import Derived.Test.YtmojfpaagokckaaEqu
import Derived.Deep.Slices
import Derived.OpenShut
import Derived.ShutString
import Derived.ChangeOld
import Derived.Carry
namespace Go.Eng
set_option linter.unusedVariables false
set_option linter.unusedSimpArgs false
open Go Go.RowKit Go.ChangeShapes Go.WideShapes Go.Deep

inductive Cl where
  | int (k : IntKind)
  | str
  | bool
  | sl (e : List Cl)

mutual
inductive GoodC (W : World) : Cl → Value → Prop where
  | int {k : IntKind} {n : Int} (h : (Lit.int k n).wf = true) : GoodC W (.int k) (.int k n)
  | str {s : ByteArray} (h : s.size ≤ maxLen) : GoodC W .str (.string s)
  | bool {b : Bool} : GoodC W .bool (.bool b)
  | sl {e : List Cl} {a : Option Addr} {n c : Nat} (rows : Nat → List Value) (hc : n ≤ c) (hm : c ≤ maxLen) (hn : a = none → c = 0)
      (hr : ∀ i, i < n → ∃ b o, a = some ⟨b, o, none⟩ ∧ ro W b (o + i * e.length) (rows i)) (hg : ∀ i, i < n → GoodL W e (rows i)) : GoodC W (.sl e) (.slice a n c)
inductive GoodL (W : World) : List Cl → List Value → Prop where
  | nil : GoodL W [] []
  | cons {c : Cl} {cs : List Cl} {v : Value} {vs : List Value} (h : GoodC W c v) (hs : GoodL W cs vs) : GoodL W (c :: cs) (v :: vs)
end

theorem GoodL.app {W : World} : ∀ {l : List Cl} {vs : List Value} {l' : List Cl} {vs' : List Value}, GoodL W l vs → GoodL W l' vs' → GoodL W (l ++ l') (vs ++ vs')
  | _, _, _, _, .nil, h => h
  | _, _, _, _, .cons h hs, h' => .cons h (hs.app h')
theorem GoodL.len {W : World} : ∀ {l : List Cl} {vs : List Value}, GoodL W l vs → vs.length = l.length
  | _, _, .nil => rfl
  | _, _, .cons h hs => by simp [hs.len]

def clF (P : Program) (g : TypeId → Option (List Cl)) : List Field → Nat → Option (List Cl)
  | [], _ => some []
  | f :: r, off => match Nat.beq f.offset off with
    | false => none
    | true => match g f.type with
      | some ks => match Nat.beq (P.cellsOf f.type) ks.length with
        | true => (match clF P g r (off + ks.length) with | some l => some (ks ++ l) | none => none)
        | false => none
      | none => none
/-- the cells of a type -/
def cls (P : Program) : Nat → TypeId → Option (List Cl)
  | 0, _ => none
  | d + 1, t => match P.underlying t with
    | some (.int k) => some [.int k]
    | some .string => some [.str]
    | some .bool => some [.bool]
    | some (.slice e) => (match cls P d e with | some l => (match Nat.beq (P.cellsOf e) l.length && !Nat.beq l.length 0 with | true => some [.sl l] | false => none) | none => none)
    | some (.struct fs) => (match clF P (cls P d) fs.toList 0 with | some l => (match Nat.beq (P.cellsOf t) l.length with | true => some l | false => none) | none => none)
    | some (.array n e) => (match cls P d e with | some l => (match Nat.beq (P.cellsOf e) l.length && Nat.beq (P.cellsOf t) (n * l.length) with | true => some (List.replicate n l).flatten | false => none) | none => none)
    | _ => none

section
variable {P : Program} {w : World} {H : Type} {enc : TypeId × Value → H}

theorem good_fields {g : TypeId → Option (List Cl)} {n : Nat} {cs : List Value}
    (hg : ∀ t l, g t = some l → ∀ cs x, DataW.trod enc P w 0 (fun _ => true) true n t cs = some x → GoodL w l cs) :
    ∀ (fs : List Field) (off : Nat) (l : List Cl), clF P g fs off = some l → (∀ f ∈ fs, ∃ x, DataW.trod enc P w 0 (fun _ => true) true n f.type ((cs.drop f.offset).take (P.cellsOf f.type)) = some x) →
      GoodL w l ((cs.drop off).take l.length)
  | [], off, l, h, _ => by simp only [clF, Option.some.injEq] at h; subst h; simpa using GoodL.nil
  | f :: fs, off, l, h, hx => by
    simp only [clF] at h
    split at h
    · cases h
    · rename_i ho
      have ho := Nat.eq_of_beq_eq_true ho
      split at h
      · rename_i ks hks
        split at h
        · rename_i hsz
          have hsz := Nat.eq_of_beq_eq_true hsz
          split at h
          · rename_i l' hl'
            simp only [Option.some.injEq] at h
            subst h
            obtain ⟨x, hx0⟩ := hx f (by simp)
            rw [hsz, ho] at hx0
            have h1 := hg _ _ hks _ _ hx0
            have h2 := good_fields hg fs _ _ hl' (fun f' hf' => hx f' (List.mem_cons_of_mem _ hf'))
            have := h1.app h2
            rw [← List.drop_drop, ← List.take_add] at this
            simpa using this
          · cases h
        · cases h
      · cases h

theorem open_cls : ∀ (m : Nat) (t : TypeId) (l : List Cl), cls P m t = some l → ∀ (fuel : Nat) (cs : List Value) (x : DataW H × List MemPlace), DataW.trod enc P w 0 (fun _ => true) true fuel t cs = some x → GoodL w l cs
  | 0, _, _, h => by simp [cls] at h
  | m + 1, t, l, h => by
    intro fuel cs x hx
    simp only [cls] at h
    cases ht : P.underlying t with
    | none => rw [ht] at h; cases h
    | some d =>
      rw [ht] at h
      cases d <;> simp only at h <;> try (cases h; done)
      case int k =>
        simp only [Option.some.injEq] at h
        subst h
        obtain ⟨n, rfl, _, hw⟩ := DataW.trod_int ht hx
        exact .cons (.int hw) .nil
      case string =>
        simp only [Option.some.injEq] at h
        subst h
        obtain ⟨n, rfl, _, hw⟩ := DataW.trod_string ht hx
        exact .cons (.str hw) .nil
      case bool =>
        simp only [Option.some.injEq] at h
        subst h
        obtain ⟨n, rfl, _⟩ := DataW.trod_bool ht hx
        exact .cons .bool .nil
      case slice e =>
        split at h
        · rename_i le hle
          split at h
          · rename_i hb
            simp only [Bool.and_eq_true, Bool.not_eq_true'] at hb
            have hsz := Nat.eq_of_beq_eq_true hb.1
            have hpos : 0 < le.length := Nat.pos_of_ne_zero fun e => by rw [e] at hb; simp at hb
            simp only [Option.some.injEq] at h
            subst h
            rcases open_slice ht hx with ⟨rfl, _⟩ | ⟨a, len, cap, mm, n, D, Pl, rfl, hb0, hl, hmx, hmm, rfl, hel⟩
            · exact .cons (.sl (fun _ => []) (by omega) (by simp [maxLen]) (fun _ => rfl) (fun i hi => by omega) (fun i hi => by omega)) .nil
            · simp only [if_true] at hmm
              subst hmm
              rw [hsz] at hel
              obtain ⟨rows, hrows⟩ := choose_lt (α := List Value) (p := fun i cs' => w.cells? 0 (a.add (i * le.length)) le.length = some cs' ∧ DataW.trod enc P w 0 (fun _ => true) true n e cs' = some (D i, Pl i)) hel
              refine .cons (.sl rows hl hmx (fun h => by cases h) (fun i hi => ?_) (fun i hi => open_cls m e le hle n _ _ (hrows i (by omega)).2)) .nil
              obtain ⟨_, hlen0, hcell0⟩ := World.cells?_some (hrows 0 (by omega)).1
              obtain ⟨_, hlen, hcell⟩ := World.cells?_some (hrows i (by omega)).1
              have h0 : ∃ v, w.cell? a = some v := by
                have := hcell0 0 hpos
                simp only [Nat.zero_mul, Addr.add, if_true] at this
                rw [this]
                exact ⟨(rows 0)[0]'(by omega), by simp⟩
              obtain ⟨v, hv⟩ := h0
              have hsp := World.cell?_spot hv
              obtain ⟨ab, ao, asp⟩ := a
              simp only at hsp
              subst hsp
              refine ⟨ab, ao, rfl, fun j hj => ?_⟩
              have := hcell j (by omega)
              rw [add_none, add_none] at this
              exact this
          · cases h
        · cases h
      case struct fs =>
        split at h
        · rename_i l' hl'
          split at h
          · rename_i hsz
            have hsz := Nat.eq_of_beq_eq_true hsz
            simp only [Option.some.injEq] at h
            subst h
            obtain ⟨xs, n, rfl, rfl, hlen, hxs, hf⟩ := DataW.trod_struct ht hx
            have := good_fields (cs := cs) (fun t l hl cs x hx => open_cls m t l hl n cs x hx) fs.toList 0 l' hl' (fun f hf' => by
              obtain ⟨i, hi, rfl⟩ := List.getElem_of_mem hf'
              have hi' : i < fs.size := by simpa using hi
              have := hf i fs[i] (by simp [hi'])
              rw [show fs.toList[i] = fs[i] by simp, this]
              exact ⟨xs[i]'(by omega), by simp⟩)
            rw [← hsz, ← hlen] at this
            simpa using this
          · cases h
        · cases h
      case array k e =>
        split at h
        · rename_i le hle
          split at h
          · rename_i hb
            simp only [Bool.and_eq_true] at hb
            have hsz := Nat.eq_of_beq_eq_true hb.1
            have hsz2 := Nat.eq_of_beq_eq_true hb.2
            simp only [Option.some.injEq] at h
            subst h
            obtain ⟨xs, n, rfl, rfl, hlen, hxs, hf⟩ := DataW.trod_array ht hx
            rw [hsz2] at hlen
            rw [hsz] at hf
            have key : ∀ j, j ≤ k → GoodL w (List.replicate j le).flatten (cs.take (j * le.length)) := by
              intro j
              induction j with
              | zero => intro _; simpa using GoodL.nil
              | succ j ih =>
                intro hj
                have h1 := hf j (by omega)
                have h2 : GoodL w le ((cs.drop (j * le.length)).take le.length) := by
                  refine open_cls m e le hle n _ (xs[j]'(by omega)) ?_
                  rw [h1]; simp
                have := (ih (by omega)).app h2
                rw [← List.take_add] at this
                rw [List.replicate_succ', List.flatten_append, Nat.succ_mul]
                simpa using this
            have := key k (Nat.le_refl _)
            rw [← hlen] at this
            simpa using this
          · cases h
        · cases h

/-- an argument of a law -/
def GoodA (w : World) (l : List Cl) (agg : Bool) (v : Value) : Prop := GoodL w l (vcells v) ∧ (agg = true → ∃ cs : List Value, v = .agg cs.toArray) ∧ (agg = false → vcells v = [v])
theorem open_arg {t : TypeId} {l : List Cl} {agg : Bool} {m : Nat} {v : Value} {d : DataW H} {ps : List MemPlace} {r : Reach} {b0 : Nat} (hl : cls P m t = some l) (ha : (P.underlying t).map aggB = some agg)
    (hval : Value.okWide P w r b0 t v) (h : DataW.Trod enc P w 0 (fun _ => true) true t v d ps) : GoodA w l agg v := by
  obtain ⟨fuel, hf⟩ := h
  obtain ⟨u, hu, hu'⟩ := Option.map_eq_some_iff.1 ha
  refine ⟨by have := open_cls m t l hl _ _ _ hf; rwa [vcells_eq] at this, fun hagg => ?_, fun hagg => ?_⟩
  · subst hagg
    cases u <;> simp only [aggB] at hu' <;> try (cases hu'; done)
    case struct fs =>
      obtain ⟨cs, rfl, _⟩ := okWide_struct hu hval
      exact ⟨cs.toList, rfl⟩
    case array n e =>
      simp only [Value.okWide, hu] at hval
      cases v <;> simp_all
      exact ⟨_, (Array.toArray_toList).symm⟩
  · subst hagg
    cases m with
    | zero => simp [cls] at hl
    | succ m =>
      simp only [cls, hu] at hl
      cases u <;> simp only [aggB] at hu' <;> simp only at hl <;> try (first | (cases hu'; done) | (cases hl; done))
      case int k => obtain ⟨n, rfl⟩ := okWide_int hu hval; rfl
      case string => obtain ⟨n, rfl⟩ := okWide_string hu hval; rfl
      case bool => obtain ⟨n, rfl⟩ := okWide_bool hu hval; rfl
      case slice e => obtain ⟨a, b, c, rfl⟩ := okWide_slice hu hval; rfl
theorem GoodL.cons' {c : Cl} {cs : List Cl} {vs : List Value} (h : GoodL w (c :: cs) vs) : ∃ v vs', vs = v :: vs' ∧ GoodC w c v ∧ GoodL w cs vs' := by
  cases h with | cons h1 h2 => exact ⟨_, _, rfl, h1, h2⟩
theorem GoodL.nil' {vs : List Value} (h : GoodL w [] vs) : vs = [] := by cases h; rfl
theorem GoodA.one {c : Cl} {v : Value} (h : GoodA w [c] false v) : GoodC w c v := by
  obtain ⟨h1, _, h2⟩ := h
  rw [h2 rfl] at h1
  cases h1 with | cons h _ => exact h
theorem GoodC.int' {k : IntKind} {v : Value} (h : GoodC w (.int k) v) : ∃ n, v = .int k n ∧ (Lit.int k n).wf = true := by
  cases h with | int h => exact ⟨_, rfl, h⟩
theorem GoodC.str' {v : Value} (h : GoodC w .str v) : ∃ s : ByteArray, v = .string s ∧ s.size ≤ maxLen := by
  cases h with | str h => exact ⟨_, rfl, h⟩
theorem GoodC.bool' {v : Value} (h : GoodC w .bool v) : ∃ b, v = .bool b := by
  cases h with | bool => exact ⟨_, rfl⟩
/-- a slice whose rows are of a kind -/
theorem GoodC.sl' {e : List Cl} {v : Value} {α : Type} [Inhabited α] {q : α → List Value → Prop} (h : GoodC w (.sl e) v) (hq : ∀ vs, GoodL w e vs → ∃ a, q a vs) :
    ∃ a n c, ∃ A : Nat → α, v = .slice a n c ∧ n ≤ c ∧ c ≤ maxLen ∧ (a = none → c = 0) ∧ ∀ i, i < n → ∃ b o vs, a = some ⟨b, o, none⟩ ∧ ro w b (o + i * e.length) vs ∧ q (A i) vs := by
  cases h with
  | sl rows hc hm hn hr hg =>
    obtain ⟨A, hA⟩ := choose_lt fun i hi => hq _ (hg i hi)
    exact ⟨_, _, _, A, rfl, hc, hm, hn, fun i hi => let ⟨b, o, h1, h2⟩ := hr i hi; ⟨b, o, rows i, h1, h2, hA i hi⟩⟩
theorem keep_all (hl : laidOutB P = true) : ∀ {ts : List TypeId} {vs : List Value} {ds : List (DataW H)} {ps : List MemPlace} {W W' : World}, ts.all (fun t => P.readableRec t && decide (t < P.types.size)) = true →
    DataW.TrodAll enc P W 0 (fun _ => true) true ts vs ds ps → Below W.heap.size W W' → DataW.TrodAll enc P W' 0 (fun b => decide (b < W.heap.size)) true ts vs ds ps
  | [], [], [], _, _, _, _, h, _ => h
  | [], [], _ :: _, _, _, _, _, h, _ => h.elim
  | [], _ :: _, _, _, _, _, _, h, _ => h.elim
  | _ :: _, [], _, _, _, _, _, h, _ => h.elim
  | _ :: _, _ :: _, [], _, _, _, _, h, _ => h.elim
  | t :: ts, v :: vs, d :: ds, ps, W, W', ha, h, hb => by
    obtain ⟨p, q, h1, h2, rfl⟩ := h
    simp only [List.all_cons, Bool.and_eq_true, decide_eq_true_eq] at ha
    have lt : ∀ x ∈ p, x.block < W.heap.size := by obtain ⟨m, hm⟩ := h1; exact DataW.trod_lt m _ _ _ hm
    exact ⟨p, q, Below.trod hl ha.1.1 ha.1.2 h1 hb lt, keep_all hl ha.2 h2 hb, rfl⟩
end
end Go.Eng
