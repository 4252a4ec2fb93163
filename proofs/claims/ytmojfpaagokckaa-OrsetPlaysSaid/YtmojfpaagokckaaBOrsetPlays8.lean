/- Texts of the claim OrsetPlays, joined: Opn, Opn2, LOrs, LOrs2. -/
import Derived.Test.YtmojfpaagokckaaBOrsetPlays2
import Derived.Deep.Slices
import Derived.OpenShut
import Derived.ShutString
import Derived.ChangeOld
import Derived.Carry
import Derived.Test.YtmojfpaagokckaaBOrsetPlays7
namespace Go.Eng
set_option linter.unusedVariables false
set_option linter.unusedSimpArgs false
open Go Go.RowKit Go.ChangeShapes Go.WideShapes Go.Deep

inductive Cl where
  | int (k : IntKind)
  | str
  | bool
  | sl (e : List Cl)

mutual
inductive GoodC (W : World) : Cl → Value → Prop where
  | int {k : IntKind} {n : Int} (h : (Lit.int k n).wf = true) : GoodC W (.int k) (.int k n)
  | str {s : ByteArray} (h : s.size ≤ maxLen) : GoodC W .str (.string s)
  | bool {b : Bool} : GoodC W .bool (.bool b)
  | sl {e : List Cl} {a : Option Addr} {n c : Nat} (rows : Nat → List Value) (hc : n ≤ c) (hm : c ≤ maxLen) (hn : a = none → c = 0)
      (hr : ∀ i, i < n → ∃ b o, a = some ⟨b, o, none⟩ ∧ ro W b (o + i * e.length) (rows i)) (hg : ∀ i, i < n → GoodL W e (rows i)) : GoodC W (.sl e) (.slice a n c)
inductive GoodL (W : World) : List Cl → List Value → Prop where
  | nil : GoodL W [] []
  | cons {c : Cl} {cs : List Cl} {v : Value} {vs : List Value} (h : GoodC W c v) (hs : GoodL W cs vs) : GoodL W (c :: cs) (v :: vs)
end

theorem GoodL.app {W : World} : ∀ {l : List Cl} {vs : List Value} {l' : List Cl} {vs' : List Value}, GoodL W l vs → GoodL W l' vs' → GoodL W (l ++ l') (vs ++ vs')
  | _, _, _, _, .nil, h => h
  | _, _, _, _, .cons h hs, h' => .cons h (hs.app h')
theorem GoodL.len {W : World} : ∀ {l : List Cl} {vs : List Value}, GoodL W l vs → vs.length = l.length
  | _, _, .nil => rfl
  | _, _, .cons h hs => by simp [hs.len]

def clF (P : Program) (g : TypeId → Option (List Cl)) : List Field → Nat → Option (List Cl)
  | [], _ => some []
  | f :: r, off => match Nat.beq f.offset off with
    | false => none
    | true => match g f.type with
      | some ks => match Nat.beq (P.cellsOf f.type) ks.length with
        | true => (match clF P g r (off + ks.length) with | some l => some (ks ++ l) | none => none)
        | false => none
      | none => none
/-- the cells of a type -/
def cls (P : Program) : Nat → TypeId → Option (List Cl)
  | 0, _ => none
  | d + 1, t => match P.underlying t with
    | some (.int k) => some [.int k]
    | some .string => some [.str]
    | some .bool => some [.bool]
    | some (.slice e) => (match cls P d e with | some l => (match Nat.beq (P.cellsOf e) l.length && !Nat.beq l.length 0 with | true => some [.sl l] | false => none) | none => none)
    | some (.struct fs) => (match clF P (cls P d) fs.toList 0 with | some l => (match Nat.beq (P.cellsOf t) l.length with | true => some l | false => none) | none => none)
    | some (.array n e) => (match cls P d e with | some l => (match Nat.beq (P.cellsOf e) l.length && Nat.beq (P.cellsOf t) (n * l.length) with | true => some (List.replicate n l).flatten | false => none) | none => none)
    | _ => none

section
variable {P : Program} {w : World} {H : Type} {enc : TypeId × Value → H}

theorem good_fields {g : TypeId → Option (List Cl)} {n : Nat} {cs : List Value}
    (hg : ∀ t l, g t = some l → ∀ cs x, DataW.trod enc P w 0 (fun _ => true) true n t cs = some x → GoodL w l cs) :
    ∀ (fs : List Field) (off : Nat) (l : List Cl), clF P g fs off = some l → (∀ f ∈ fs, ∃ x, DataW.trod enc P w 0 (fun _ => true) true n f.type ((cs.drop f.offset).take (P.cellsOf f.type)) = some x) →
      GoodL w l ((cs.drop off).take l.length)
  | [], off, l, h, _ => by simp only [clF, Option.some.injEq] at h; subst h; simpa using GoodL.nil
  | f :: fs, off, l, h, hx => by
    simp only [clF] at h
    split at h
    · cases h
    · rename_i ho
      have ho := Nat.eq_of_beq_eq_true ho
      split at h
      · rename_i ks hks
        split at h
        · rename_i hsz
          have hsz := Nat.eq_of_beq_eq_true hsz
          split at h
          · rename_i l' hl'
            simp only [Option.some.injEq] at h
            subst h
            obtain ⟨x, hx0⟩ := hx f (by simp)
            rw [hsz, ho] at hx0
            have h1 := hg _ _ hks _ _ hx0
            have h2 := good_fields hg fs _ _ hl' (fun f' hf' => hx f' (List.mem_cons_of_mem _ hf'))
            have := h1.app h2
            rw [← List.drop_drop, ← List.take_add] at this
            simpa using this
          · cases h
        · cases h
      · cases h

theorem open_cls : ∀ (m : Nat) (t : TypeId) (l : List Cl), cls P m t = some l → ∀ (fuel : Nat) (cs : List Value) (x : DataW H × List MemPlace), DataW.trod enc P w 0 (fun _ => true) true fuel t cs = some x → GoodL w l cs
  | 0, _, _, h => by simp [cls] at h
  | m + 1, t, l, h => by
    intro fuel cs x hx
    simp only [cls] at h
    cases ht : P.underlying t with
    | none => rw [ht] at h; cases h
    | some d =>
      rw [ht] at h
      cases d <;> simp only at h <;> try (cases h; done)
      case int k =>
        simp only [Option.some.injEq] at h
        subst h
        obtain ⟨n, rfl, _, hw⟩ := DataW.trod_int ht hx
        exact .cons (.int hw) .nil
      case string =>
        simp only [Option.some.injEq] at h
        subst h
        obtain ⟨n, rfl, _, hw⟩ := DataW.trod_string ht hx
        exact .cons (.str hw) .nil
      case bool =>
        simp only [Option.some.injEq] at h
        subst h
        obtain ⟨n, rfl, _⟩ := DataW.trod_bool ht hx
        exact .cons .bool .nil
      case slice e =>
        split at h
        · rename_i le hle
          split at h
          · rename_i hb
            simp only [Bool.and_eq_true, Bool.not_eq_true'] at hb
            have hsz := Nat.eq_of_beq_eq_true hb.1
            have hpos : 0 < le.length := Nat.pos_of_ne_zero fun e => by rw [e] at hb; simp at hb
            simp only [Option.some.injEq] at h
            subst h
            rcases open_slice ht hx with ⟨rfl, _⟩ | ⟨a, len, cap, mm, n, D, Pl, rfl, hb0, hl, hmx, hmm, rfl, hel⟩
            · exact .cons (.sl (fun _ => []) (by omega) (by simp [maxLen]) (fun _ => rfl) (fun i hi => by omega) (fun i hi => by omega)) .nil
            · simp only [if_true] at hmm
              subst hmm
              rw [hsz] at hel
              obtain ⟨rows, hrows⟩ := choose_lt (α := List Value) (p := fun i cs' => w.cells? 0 (a.add (i * le.length)) le.length = some cs' ∧ DataW.trod enc P w 0 (fun _ => true) true n e cs' = some (D i, Pl i)) hel
              refine .cons (.sl rows hl hmx (fun h => by cases h) (fun i hi => ?_) (fun i hi => open_cls m e le hle n _ _ (hrows i (by omega)).2)) .nil
              obtain ⟨_, hlen0, hcell0⟩ := World.cells?_some (hrows 0 (by omega)).1
              obtain ⟨_, hlen, hcell⟩ := World.cells?_some (hrows i (by omega)).1
              have h0 : ∃ v, w.cell? a = some v := by
                have := hcell0 0 hpos
                simp only [Nat.zero_mul, Addr.add, if_true] at this
                rw [this]
                exact ⟨(rows 0)[0]'(by omega), by simp⟩
              obtain ⟨v, hv⟩ := h0
              have hsp := World.cell?_spot hv
              obtain ⟨ab, ao, asp⟩ := a
              simp only at hsp
              subst hsp
              refine ⟨ab, ao, rfl, fun j hj => ?_⟩
              have := hcell j (by omega)
              rw [add_none, add_none] at this
              exact this
          · cases h
        · cases h
      case struct fs =>
        split at h
        · rename_i l' hl'
          split at h
          · rename_i hsz
            have hsz := Nat.eq_of_beq_eq_true hsz
            simp only [Option.some.injEq] at h
            subst h
            obtain ⟨xs, n, rfl, rfl, hlen, hxs, hf⟩ := DataW.trod_struct ht hx
            have := good_fields (cs := cs) (fun t l hl cs x hx => open_cls m t l hl n cs x hx) fs.toList 0 l' hl' (fun f hf' => by
              obtain ⟨i, hi, rfl⟩ := List.getElem_of_mem hf'
              have hi' : i < fs.size := by simpa using hi
              have := hf i fs[i] (by simp [hi'])
              rw [show fs.toList[i] = fs[i] by simp, this]
              exact ⟨xs[i]'(by omega), by simp⟩)
            rw [← hsz, ← hlen] at this
            simpa using this
          · cases h
        · cases h
      case array k e =>
        split at h
        · rename_i le hle
          split at h
          · rename_i hb
            simp only [Bool.and_eq_true] at hb
            have hsz := Nat.eq_of_beq_eq_true hb.1
            have hsz2 := Nat.eq_of_beq_eq_true hb.2
            simp only [Option.some.injEq] at h
            subst h
            obtain ⟨xs, n, rfl, rfl, hlen, hxs, hf⟩ := DataW.trod_array ht hx
            rw [hsz2] at hlen
            rw [hsz] at hf
            have key : ∀ j, j ≤ k → GoodL w (List.replicate j le).flatten (cs.take (j * le.length)) := by
              intro j
              induction j with
              | zero => intro _; simpa using GoodL.nil
              | succ j ih =>
                intro hj
                have h1 := hf j (by omega)
                have h2 : GoodL w le ((cs.drop (j * le.length)).take le.length) := by
                  refine open_cls m e le hle n _ (xs[j]'(by omega)) ?_
                  rw [h1]; simp
                have := (ih (by omega)).app h2
                rw [← List.take_add] at this
                rw [List.replicate_succ', List.flatten_append, Nat.succ_mul]
                simpa using this
            have := key k (Nat.le_refl _)
            rw [← hlen] at this
            simpa using this
          · cases h
        · cases h

/-- an argument of a law -/
def GoodA (w : World) (l : List Cl) (agg : Bool) (v : Value) : Prop := GoodL w l (vcells v) ∧ (agg = true → ∃ cs : List Value, v = .agg cs.toArray) ∧ (agg = false → vcells v = [v])
theorem open_arg {t : TypeId} {l : List Cl} {agg : Bool} {m : Nat} {v : Value} {d : DataW H} {ps : List MemPlace} {r : Reach} {b0 : Nat} (hl : cls P m t = some l) (ha : (P.underlying t).map aggB = some agg)
    (hval : Value.okWide P w r b0 t v) (h : DataW.Trod enc P w 0 (fun _ => true) true t v d ps) : GoodA w l agg v := by
  obtain ⟨fuel, hf⟩ := h
  obtain ⟨u, hu, hu'⟩ := Option.map_eq_some_iff.1 ha
  refine ⟨by have := open_cls m t l hl _ _ _ hf; rwa [vcells_eq] at this, fun hagg => ?_, fun hagg => ?_⟩
  · subst hagg
    cases u <;> simp only [aggB] at hu' <;> try (cases hu'; done)
    case struct fs =>
      obtain ⟨cs, rfl, _⟩ := okWide_struct hu hval
      exact ⟨cs.toList, rfl⟩
    case array n e =>
      simp only [Value.okWide, hu] at hval
      cases v <;> simp_all
      exact ⟨_, (Array.toArray_toList).symm⟩
  · subst hagg
    cases m with
    | zero => simp [cls] at hl
    | succ m =>
      simp only [cls, hu] at hl
      cases u <;> simp only [aggB] at hu' <;> simp only at hl <;> try (first | (cases hu'; done) | (cases hl; done))
      case int k => obtain ⟨n, rfl⟩ := okWide_int hu hval; rfl
      case string => obtain ⟨n, rfl⟩ := okWide_string hu hval; rfl
      case bool => obtain ⟨n, rfl⟩ := okWide_bool hu hval; rfl
      case slice e => obtain ⟨a, b, c, rfl⟩ := okWide_slice hu hval; rfl
theorem GoodL.cons' {c : Cl} {cs : List Cl} {vs : List Value} (h : GoodL w (c :: cs) vs) : ∃ v vs', vs = v :: vs' ∧ GoodC w c v ∧ GoodL w cs vs' := by
  cases h with | cons h1 h2 => exact ⟨_, _, rfl, h1, h2⟩
theorem GoodL.nil' {vs : List Value} (h : GoodL w [] vs) : vs = [] := by cases h; rfl
theorem GoodA.one {c : Cl} {v : Value} (h : GoodA w [c] false v) : GoodC w c v := by
  obtain ⟨h1, _, h2⟩ := h
  rw [h2 rfl] at h1
  cases h1 with | cons h _ => exact h
theorem GoodC.int' {k : IntKind} {v : Value} (h : GoodC w (.int k) v) : ∃ n, v = .int k n ∧ (Lit.int k n).wf = true := by
  cases h with | int h => exact ⟨_, rfl, h⟩
theorem GoodC.str' {v : Value} (h : GoodC w .str v) : ∃ s : ByteArray, v = .string s ∧ s.size ≤ maxLen := by
  cases h with | str h => exact ⟨_, rfl, h⟩
theorem GoodC.bool' {v : Value} (h : GoodC w .bool v) : ∃ b, v = .bool b := by
  cases h with | bool => exact ⟨_, rfl⟩
/-- a slice whose rows are of a kind -/
theorem GoodC.sl' {e : List Cl} {v : Value} {α : Type} [Inhabited α] {q : α → List Value → Prop} (h : GoodC w (.sl e) v) (hq : ∀ vs, GoodL w e vs → ∃ a, q a vs) :
    ∃ a n c, ∃ A : Nat → α, v = .slice a n c ∧ n ≤ c ∧ c ≤ maxLen ∧ (a = none → c = 0) ∧ ∀ i, i < n → ∃ b o vs, a = some ⟨b, o, none⟩ ∧ ro w b (o + i * e.length) vs ∧ q (A i) vs := by
  cases h with
  | sl rows hc hm hn hr hg =>
    obtain ⟨A, hA⟩ := choose_lt fun i hi => hq _ (hg i hi)
    exact ⟨_, _, _, A, rfl, hc, hm, hn, fun i hi => let ⟨b, o, h1, h2⟩ := hr i hi; ⟨b, o, rows i, h1, h2, hA i hi⟩⟩
theorem keep_all (hl : laidOutB P = true) : ∀ {ts : List TypeId} {vs : List Value} {ds : List (DataW H)} {ps : List MemPlace} {W W' : World}, ts.all (fun t => P.readableRec t && decide (t < P.types.size)) = true →
    DataW.TrodAll enc P W 0 (fun _ => true) true ts vs ds ps → Below W.heap.size W W' → DataW.TrodAll enc P W' 0 (fun b => decide (b < W.heap.size)) true ts vs ds ps
  | [], [], [], _, _, _, _, h, _ => h
  | [], [], _ :: _, _, _, _, _, h, _ => h.elim
  | [], _ :: _, _, _, _, _, _, h, _ => h.elim
  | _ :: _, [], _, _, _, _, _, h, _ => h.elim
  | _ :: _, _ :: _, [], _, _, _, _, h, _ => h.elim
  | t :: ts, v :: vs, d :: ds, ps, W, W', ha, h, hb => by
    obtain ⟨p, q, h1, h2, rfl⟩ := h
    simp only [List.all_cons, Bool.and_eq_true, decide_eq_true_eq] at ha
    have lt : ∀ x ∈ p, x.block < W.heap.size := by obtain ⟨m, hm⟩ := h1; exact DataW.trod_lt m _ _ _ hm
    exact ⟨p, q, Below.trod hl ha.1.1 ha.1.2 h1 hb lt, keep_all hl ha.2 h2 hb, rfl⟩
end
end Go.Eng
namespace Go.Eng
set_option linter.unusedVariables false
set_option linter.unusedSimpArgs false
open Go Go.RowKit

theorem wf64 {n : Int} (h : (Lit.int .i64 n).wf = true) : -9223372036854775808 ≤ n ∧ n ≤ 9223372036854775807 := by
  simp only [Lit.wf, Bool.and_eq_true, decide_eq_true_eq] at h
  exact h
theorem wf8 {n : Int} (h : (Lit.int .u8 n).wf = true) : 0 ≤ n ∧ n ≤ 255 := by
  simp only [Lit.wf, Bool.and_eq_true, decide_eq_true_eq] at h
  exact h
theorem ro_rows {α : Type} {A : Ly α} {w : World} {b o : Nat} : ∀ (l : List α), (∀ i (hi : i < l.length), ro w b (o + i * A.sz) (A.row l[i])) → ro w b o (A.rows l) := by
  intro l h j hj
  rw [Ly.rows_len] at hj
  have hp := A.pos
  have hi : j / A.sz < l.length := Nat.div_lt_of_lt_mul (by rw [Nat.mul_comm]; exact hj)
  have hr : j % A.sz < A.sz := Nat.mod_lt _ hp
  have h1 := h _ hi (j % A.sz) (by rw [A.len]; exact hr)
  have e : o + j / A.sz * A.sz + j % A.sz = o + j := by rw [Nat.add_assoc, Nat.div_add_mod']
  rw [e] at h1
  rw [h1, ← Ly.rows_at hi, List.getElem?_take_of_lt hr, List.getElem?_drop, Nat.div_add_mod']
theorem openArr {α : Type} [Inhabited α] (A : Ly α) {e : List Cl} (p : α → Prop) {w : World} {v : Value} (h : GoodC w (.sl e) v) (he : e.length = A.sz) (hq : ∀ vs, GoodL w e vs → ∃ a, vs = A.row a ∧ p a) :
    ∃ (a : Option Addr) (c : Nat) (l : List α), v = .slice a l.length c ∧ l.length ≤ c ∧ c ≤ maxLen ∧ Rd w [] a A l ∧ ∀ x ∈ l, p x := by
  obtain ⟨a, n, c, F, rfl, hn, hc, ha, hr⟩ := h.sl' (q := fun x vs => vs = A.row x ∧ p x) hq
  refine ⟨a, c, (List.range n).map F, by simp, by simpa using hn, hc, Rd.base ?_, fun x hx => ?_⟩
  · by_cases hn0 : n = 0
    · subst hn0; exact .inl rfl
    · right
      obtain ⟨b, o, vs, rfl, _⟩ := hr 0 (by omega)
      refine ⟨b, o, rfl, ro_rows _ fun i hi => ?_⟩
      obtain ⟨b', o', vs, h1, h2, h3, _⟩ := hr i (by simpa using hi)
      cases h1
      rw [he] at h2
      subst h3
      simpa using h2
  · obtain ⟨i, hi, rfl⟩ := List.mem_map.1 hx
    obtain ⟨_, _, _, _, _, _, h⟩ := hr i (by simpa using hi)
    exact h
/-- a slice of bytes -/
theorem openBytes {w : World} {v : Value} (h : GoodC w (.sl [.int .u8]) v) : ∃ (a : Option Addr) (c : Nat) (l : List UInt8), v = .slice a l.length c ∧ l.length ≤ c ∧ c ≤ maxLen ∧ Rd w [] a B8 l := by
  obtain ⟨a, c, l, h1, h2, h3, h4, _⟩ := openArr B8 (fun _ => True) h rfl fun vs hv => by
    obtain ⟨_, _, rfl, h1, h⟩ := hv.cons'
    obtain rfl := h.nil'
    obtain ⟨n, rfl, hn⟩ := h1.int'
    have := wf8 hn
    refine ⟨UInt8.ofNat n.toNat, ?_, trivial⟩
    have e : (UInt8.ofNat n.toNat).toNat = n.toNat := by simp [UInt8.toNat_ofNat']; omega
    show _ = [b8 _]
    simp only [b8, e]
    rw [Int.toNat_of_nonneg this.1]
  exact ⟨a, c, l, h1, h2, h3, h4⟩
end Go.Eng
namespace Go.Proofs.Ytmojfpaagokckaa
set_option linter.unusedVariables false
set_option linter.unusedSimpArgs false
open Go Go.Eng

theorem has_any (s : OS) (x : Bs) : s.has x = s.added.any fun p => decide (x = p.2) && s.live p.1 x := by
  rw [Bool.eq_iff_iff, List.any_eq_true]
  unfold OS.has
  rw [decide_eq_true_eq, List.length_pos_iff_exists_mem]
  constructor
  · rintro ⟨d, hd⟩
    obtain ⟨h1, h2⟩ := OS.dots_mem.1 hd
    exact ⟨(d, x), h1, by simp [h2]⟩
  · rintro ⟨p, hp, h⟩
    simp only [Bool.and_eq_true, decide_eq_true_eq] at h
    exact ⟨p.1, OS.dots_mem.2 ⟨by rw [h.1]; exact hp, h.2⟩⟩
theorem all_one {s : OS} {x : Bs} (h : s.lives.map (·.2) = [x]) : s.all = [x] := by
  unfold OS.all sortB
  rw [h, List.mergeSort_singleton]; rfl
theorem dots_one {s : OS} {x : Bs} {d : Dot} (h : (s.added.filter fun p => decide (x = p.2) && s.live p.1 x).map (·.1) = [d]) : s.dots x = [d] := by
  unfold OS.dots sortD
  rw [h, List.mergeSort_singleton]
theorem sameO_self (s : OS) : sameO s s = true := by unfold sameO; simp
theorem vmerge_zero {v : P7 Int} (h : goodV v = true) : vmerge (P7.all 0) v = v := by
  refine P7.ext7 fun i hi => ?_
  rw [vmerge, P7.get_zip, P7.get_all]
  have := (goodV_iff v).1 h i hi
  unfold imax
  split <;> omega
def sA : OS := ⟨[(⟨0, 1⟩, [120])], []⟩
def sB : OS := ⟨[(⟨0, 1⟩, [120])], [([120], ⟨1, 0, 0, 0, 0, 0, 0⟩)]⟩
def sC : OS := ⟨[(⟨0, 1⟩, [120]), (⟨1, 1⟩, [120])], [([120], ⟨1, 0, 0, 0, 0, 0, 0⟩)]⟩
set_option maxHeartbeats 4000000 in
instance orsAwake : Pure0 PR F_rostrumlaw9_awake [] (.bool true) := ⟨fun W => by
  apply S.rostrumlaw9_awake.call
  unfold S.rostrumlaw9_awake.body
  have h := St.start W
  refine orsetNew h fun q W1 h => ?_
  (repeat (first | (first | (with_reducible (first | refine w1 fun _ _ => ?_ | refine w3 fun _ _ _ => ?_ | refine w4 fun _ _ _ => ?_ | refine w11 fun _ _ _ => ?_ | refine stb_n ?_)) | ((with_reducible refine w2 ?_); try simp -implicitDefEqProofs only [EN, lsub, lget, stL, beq_self_eq_true, ne_eq, if_true, if_false, List.cons_append, List.nil_append, Option.isNone_some, Option.isNone_none]; intro _ _) | ((with_reducible (first | refine w5 ?_ ?_ | refine w6 ?_ ?_ | refine w7 ?_ ?_)); simp; refine ⟨_, rfl, ?_⟩) | ((with_reducible (first | refine w8 ?_ ?_ ?_ | refine w9 ?_ ?_ ?_ | refine w10 ?_ ?_ ?_)); exact rfl; simp) | ((with_reducible refine w12 ?_ ?_ ?_ fun _ _ => ?_); simp; simp; simp [oneC]) | ((with_reducible (first | refine eqs ?_ | refine nes ?_)); refine ⟨_, rfl, ?_⟩) | ((refine okF_i (bldP_eq rfl) ?_); try simp only [BLS, List.take_succ_cons, List.take_zero, List.drop_succ_cons, List.drop_zero, List.cons_append, List.nil_append, Nat.reduceAdd])) | simp -implicitDefEqProofs only [EN, lsub, lget, stL, beq_self_eq_true, ne_eq, if_true, if_false, List.cons_append, List.nil_append, Option.isNone_some, Option.isNone_none]))
  refine orsetAdd (s := OS.new) (d := ⟨0, 1⟩) (x := [120]) h fun W2 h => ?_
  rw [show OS.new.add ⟨0, 1⟩ [120] = (sA, 0) from rfl] at h ⊢
  (repeat (first | (first | (with_reducible (first | refine w1 fun _ _ => ?_ | refine w3 fun _ _ _ => ?_ | refine w4 fun _ _ _ => ?_ | refine w11 fun _ _ _ => ?_ | refine stb_n ?_)) | ((with_reducible refine w2 ?_); try simp -implicitDefEqProofs only [EN, lsub, lget, stL, beq_self_eq_true, ne_eq, if_true, if_false, List.cons_append, List.nil_append, Option.isNone_some, Option.isNone_none]; intro _ _) | ((with_reducible (first | refine w5 ?_ ?_ | refine w6 ?_ ?_ | refine w7 ?_ ?_)); simp; refine ⟨_, rfl, ?_⟩) | ((with_reducible (first | refine w8 ?_ ?_ ?_ | refine w9 ?_ ?_ ?_ | refine w10 ?_ ?_ ?_)); exact rfl; simp) | ((with_reducible refine w12 ?_ ?_ ?_ fun _ _ => ?_); simp; simp; simp [oneC]) | ((with_reducible (first | refine eqs ?_ | refine nes ?_)); refine ⟨_, rfl, ?_⟩) | ((refine okF_i (bldP_eq rfl) ?_); try simp only [BLS, List.take_succ_cons, List.take_zero, List.drop_succ_cons, List.drop_zero, List.cons_append, List.nil_append, Nat.reduceAdd])) | simp -implicitDefEqProofs only [EN, lsub, lget, stL, beq_self_eq_true, ne_eq, if_true, if_false, List.cons_append, List.nil_append, Option.isNone_some, Option.isNone_none]))
  refine orsetRemove (s := sA) (x := [120]) (v := ⟨1, 0, 0, 0, 0, 0, 0⟩) h fun W3 h => ?_
  rw [show sA.remove [120] ⟨1, 0, 0, 0, 0, 0, 0⟩ = (sB, 0) from rfl] at h ⊢
  (repeat (first | (first | (with_reducible (first | refine w1 fun _ _ => ?_ | refine w3 fun _ _ _ => ?_ | refine w4 fun _ _ _ => ?_ | refine w11 fun _ _ _ => ?_ | refine stb_n ?_)) | ((with_reducible refine w2 ?_); try simp -implicitDefEqProofs only [EN, lsub, lget, stL, beq_self_eq_true, ne_eq, if_true, if_false, List.cons_append, List.nil_append, Option.isNone_some, Option.isNone_none]; intro _ _) | ((with_reducible (first | refine w5 ?_ ?_ | refine w6 ?_ ?_ | refine w7 ?_ ?_)); simp; refine ⟨_, rfl, ?_⟩) | ((with_reducible (first | refine w8 ?_ ?_ ?_ | refine w9 ?_ ?_ ?_ | refine w10 ?_ ?_ ?_)); exact rfl; simp) | ((with_reducible refine w12 ?_ ?_ ?_ fun _ _ => ?_); simp; simp; simp [oneC]) | ((with_reducible (first | refine eqs ?_ | refine nes ?_)); refine ⟨_, rfl, ?_⟩) | ((refine okF_i (bldP_eq rfl) ?_); try simp only [BLS, List.take_succ_cons, List.take_zero, List.drop_succ_cons, List.drop_zero, List.cons_append, List.nil_append, Nat.reduceAdd])) | simp -implicitDefEqProofs only [EN, lsub, lget, stL, beq_self_eq_true, ne_eq, if_true, if_false, List.cons_append, List.nil_append, Option.isNone_some, Option.isNone_none]))
  refine orsetAdd (s := sB) (d := ⟨1, 1⟩) (x := [120]) h fun W4 h => ?_
  rw [show sB.add ⟨1, 1⟩ [120] = (sC, 0) from rfl] at h ⊢
  have e1 : sC.has [120] = true := by rw [has_any]; rfl
  have e2 : sC.all = [[120]] := all_one rfl
  have e3 : sC.dots [120] = [⟨1, 1⟩] := dots_one rfl
  (repeat (first | (first | (with_reducible (first | refine w1 fun _ _ => ?_ | refine w3 fun _ _ _ => ?_ | refine w4 fun _ _ _ => ?_ | refine w11 fun _ _ _ => ?_ | refine stb_n ?_)) | ((with_reducible refine w2 ?_); try simp -implicitDefEqProofs only [EN, lsub, lget, stL, beq_self_eq_true, ne_eq, if_true, if_false, List.cons_append, List.nil_append, Option.isNone_some, Option.isNone_none]; intro _ _) | ((with_reducible (first | refine w5 ?_ ?_ | refine w6 ?_ ?_ | refine w7 ?_ ?_)); simp; refine ⟨_, rfl, ?_⟩) | ((with_reducible (first | refine w8 ?_ ?_ ?_ | refine w9 ?_ ?_ ?_ | refine w10 ?_ ?_ ?_)); exact rfl; simp) | ((with_reducible refine w12 ?_ ?_ ?_ fun _ _ => ?_); simp; simp; simp [oneC]) | ((with_reducible (first | refine eqs ?_ | refine nes ?_)); refine ⟨_, rfl, ?_⟩) | ((refine okF_i (bldP_eq rfl) ?_); try simp only [BLS, List.take_succ_cons, List.take_zero, List.drop_succ_cons, List.drop_zero, List.cons_append, List.nil_append, Nat.reduceAdd])) | simp -implicitDefEqProofs only [EN, lsub, lget, stL, beq_self_eq_true, ne_eq, if_true, if_false, List.cons_append, List.nil_append, Option.isNone_some, Option.isNone_none]))
  refine orsetHas (s := sC) (x := [120]) h (by decide) fun W5 h => ?_
  (repeat (first | (first | (with_reducible (first | refine w1 fun _ _ => ?_ | refine w3 fun _ _ _ => ?_ | refine w4 fun _ _ _ => ?_ | refine w11 fun _ _ _ => ?_ | refine stb_n ?_)) | ((with_reducible refine w2 ?_); try simp -implicitDefEqProofs only [EN, lsub, lget, stL, beq_self_eq_true, ne_eq, if_true, if_false, List.cons_append, List.nil_append, Option.isNone_some, Option.isNone_none, e1]; intro _ _) | ((with_reducible (first | refine w5 ?_ ?_ | refine w6 ?_ ?_ | refine w7 ?_ ?_)); simp; refine ⟨_, rfl, ?_⟩) | ((with_reducible (first | refine w8 ?_ ?_ ?_ | refine w9 ?_ ?_ ?_ | refine w10 ?_ ?_ ?_)); exact rfl; simp) | ((with_reducible refine w12 ?_ ?_ ?_ fun _ _ => ?_); simp; simp; simp [oneC]) | ((with_reducible (first | refine eqs ?_ | refine nes ?_)); refine ⟨_, rfl, ?_⟩) | ((refine okF_i (bldP_eq rfl) ?_); try simp only [BLS, List.take_succ_cons, List.take_zero, List.drop_succ_cons, List.drop_zero, List.cons_append, List.nil_append, Nat.reduceAdd])) | simp -implicitDefEqProofs only [EN, lsub, lget, stL, beq_self_eq_true, ne_eq, if_true, if_false, List.cons_append, List.nil_append, Option.isNone_some, Option.isNone_none, e1]))
  refine orsetAll (s := sC) h (by decide) fun a c W6 h => ?_
  rw [e2] at h ⊢
  (repeat (first | (first | (with_reducible (first | refine w1 fun _ _ => ?_ | refine w3 fun _ _ _ => ?_ | refine w4 fun _ _ _ => ?_ | refine w11 fun _ _ _ => ?_ | refine stb_n ?_)) | ((with_reducible refine w2 ?_); try simp -implicitDefEqProofs only [EN, lsub, lget, stL, beq_self_eq_true, ne_eq, if_true, if_false, List.cons_append, List.nil_append, Option.isNone_some, Option.isNone_none]; intro _ _) | ((with_reducible (first | refine w5 ?_ ?_ | refine w6 ?_ ?_ | refine w7 ?_ ?_)); simp; refine ⟨_, rfl, ?_⟩) | ((with_reducible (first | refine w8 ?_ ?_ ?_ | refine w9 ?_ ?_ ?_ | refine w10 ?_ ?_ ?_)); exact rfl; simp) | ((with_reducible refine w12 ?_ ?_ ?_ fun _ _ => ?_); simp; simp; simp [oneC]) | ((with_reducible (first | refine eqs ?_ | refine nes ?_)); refine ⟨_, rfl, ?_⟩) | ((refine okF_i (bldP_eq rfl) ?_); try simp only [BLS, List.take_succ_cons, List.take_zero, List.drop_succ_cons, List.drop_zero, List.cons_append, List.nil_append, Nat.reduceAdd])) | simp -implicitDefEqProofs only [EN, lsub, lget, stL, beq_self_eq_true, ne_eq, if_true, if_false, List.cons_append, List.nil_append, Option.isNone_some, Option.isNone_none]))
  refine bsA STB [[120]] (n := 1) h rfl rfl (by decide) (by decide) rfl fun a2 c2 W7 h => ?_
  (repeat (first | (first | (with_reducible (first | refine w1 fun _ _ => ?_ | refine w3 fun _ _ _ => ?_ | refine w4 fun _ _ _ => ?_ | refine w11 fun _ _ _ => ?_ | refine stb_n ?_)) | ((with_reducible refine w2 ?_); try simp -implicitDefEqProofs only [EN, lsub, lget, stL, beq_self_eq_true, ne_eq, if_true, if_false, List.cons_append, List.nil_append, Option.isNone_some, Option.isNone_none]; intro _ _) | ((with_reducible (first | refine w5 ?_ ?_ | refine w6 ?_ ?_ | refine w7 ?_ ?_)); simp; refine ⟨_, rfl, ?_⟩) | ((with_reducible (first | refine w8 ?_ ?_ ?_ | refine w9 ?_ ?_ ?_ | refine w10 ?_ ?_ ?_)); exact rfl; simp) | ((with_reducible refine w12 ?_ ?_ ?_ fun _ _ => ?_); simp; simp; simp [oneC]) | ((with_reducible (first | refine eqs ?_ | refine nes ?_)); refine ⟨_, rfl, ?_⟩) | ((refine okF_i (bldP_eq rfl) ?_); try simp only [BLS, List.take_succ_cons, List.take_zero, List.drop_succ_cons, List.drop_zero, List.cons_append, List.nil_append, Nat.reduceAdd])) | simp -implicitDefEqProofs only [EN, lsub, lget, stL, beq_self_eq_true, ne_eq, if_true, if_false, List.cons_append, List.nil_append, Option.isNone_some, Option.isNone_none]))
  refine lawTexts (a := a) (b := a2) (l := [[120]]) (m := [[120]]) h (by decide) fun W8 h => ?_
  have h : St W (os q sC :: []) W8 := St.wk h
  (repeat (first | (first | (with_reducible (first | refine w1 fun _ _ => ?_ | refine w3 fun _ _ _ => ?_ | refine w4 fun _ _ _ => ?_ | refine w11 fun _ _ _ => ?_ | refine stb_n ?_)) | ((with_reducible refine w2 ?_); try simp -implicitDefEqProofs only [EN, lsub, lget, stL, beq_self_eq_true, ne_eq, if_true, if_false, List.cons_append, List.nil_append, Option.isNone_some, Option.isNone_none, eq_self]; intro _ _) | ((with_reducible (first | refine w5 ?_ ?_ | refine w6 ?_ ?_ | refine w7 ?_ ?_)); simp; refine ⟨_, rfl, ?_⟩) | ((with_reducible (first | refine w8 ?_ ?_ ?_ | refine w9 ?_ ?_ ?_ | refine w10 ?_ ?_ ?_)); exact rfl; simp) | ((with_reducible refine w12 ?_ ?_ ?_ fun _ _ => ?_); simp; simp; simp [oneC]) | ((with_reducible (first | refine eqs ?_ | refine nes ?_)); refine ⟨_, rfl, ?_⟩) | ((refine okF_i (bldP_eq rfl) ?_); try simp only [BLS, List.take_succ_cons, List.take_zero, List.drop_succ_cons, List.drop_zero, List.cons_append, List.nil_append, Nat.reduceAdd])) | simp -implicitDefEqProofs only [EN, lsub, lget, stL, beq_self_eq_true, ne_eq, if_true, if_false, List.cons_append, List.nil_append, Option.isNone_some, Option.isNone_none, eq_self]))
  refine orsetDots (s := sC) (x := [120]) h (by decide) fun a c W6 h => ?_
  rw [e3] at h ⊢
  (repeat (first | (first | (with_reducible (first | refine w1 fun _ _ => ?_ | refine w3 fun _ _ _ => ?_ | refine w4 fun _ _ _ => ?_ | refine w11 fun _ _ _ => ?_ | refine stb_n ?_)) | ((with_reducible refine w2 ?_); try simp -implicitDefEqProofs only [EN, lsub, lget, stL, beq_self_eq_true, ne_eq, if_true, if_false, List.cons_append, List.nil_append, Option.isNone_some, Option.isNone_none]; intro _ _) | ((with_reducible (first | refine w5 ?_ ?_ | refine w6 ?_ ?_ | refine w7 ?_ ?_)); simp; refine ⟨_, rfl, ?_⟩) | ((with_reducible (first | refine w8 ?_ ?_ ?_ | refine w9 ?_ ?_ ?_ | refine w10 ?_ ?_ ?_)); exact rfl; simp) | ((with_reducible refine w12 ?_ ?_ ?_ fun _ _ => ?_); simp; simp; simp [oneC]) | ((with_reducible (first | refine eqs ?_ | refine nes ?_)); refine ⟨_, rfl, ?_⟩) | ((refine okF_i (bldP_eq rfl) ?_); try simp only [BLS, List.take_succ_cons, List.take_zero, List.drop_succ_cons, List.drop_zero, List.cons_append, List.nil_append, Nat.reduceAdd])) | simp -implicitDefEqProofs only [EN, lsub, lget, stL, beq_self_eq_true, ne_eq, if_true, if_false, List.cons_append, List.nil_append, Option.isNone_some, Option.isNone_none]))
  refine bsA DT [⟨1, 1⟩] (n := 1) h rfl rfl (by decide) (by decide) rfl fun a2 c2 W7 h => ?_
  (repeat (first | (first | (with_reducible (first | refine w1 fun _ _ => ?_ | refine w3 fun _ _ _ => ?_ | refine w4 fun _ _ _ => ?_ | refine w11 fun _ _ _ => ?_ | refine stb_n ?_)) | ((with_reducible refine w2 ?_); try simp -implicitDefEqProofs only [EN, lsub, lget, stL, beq_self_eq_true, ne_eq, if_true, if_false, List.cons_append, List.nil_append, Option.isNone_some, Option.isNone_none]; intro _ _) | ((with_reducible (first | refine w5 ?_ ?_ | refine w6 ?_ ?_ | refine w7 ?_ ?_)); simp; refine ⟨_, rfl, ?_⟩) | ((with_reducible (first | refine w8 ?_ ?_ ?_ | refine w9 ?_ ?_ ?_ | refine w10 ?_ ?_ ?_)); exact rfl; simp) | ((with_reducible refine w12 ?_ ?_ ?_ fun _ _ => ?_); simp; simp; simp [oneC]) | ((with_reducible (first | refine eqs ?_ | refine nes ?_)); refine ⟨_, rfl, ?_⟩) | ((refine okF_i (bldP_eq rfl) ?_); try simp only [BLS, List.take_succ_cons, List.take_zero, List.drop_succ_cons, List.drop_zero, List.cons_append, List.nil_append, Nat.reduceAdd])) | simp -implicitDefEqProofs only [EN, lsub, lget, stL, beq_self_eq_true, ne_eq, if_true, if_false, List.cons_append, List.nil_append, Option.isNone_some, Option.isNone_none]))
  refine lawDots (a := a) (b := a2) (l := [⟨1, 1⟩]) (m := [⟨1, 1⟩]) h (by decide) fun W8 h => ?_
  (repeat (first | (first | (with_reducible (first | refine w1 fun _ _ => ?_ | refine w3 fun _ _ _ => ?_ | refine w4 fun _ _ _ => ?_ | refine w11 fun _ _ _ => ?_ | refine stb_n ?_)) | ((with_reducible refine w2 ?_); try simp -implicitDefEqProofs only [EN, lsub, lget, stL, beq_self_eq_true, ne_eq, if_true, if_false, List.cons_append, List.nil_append, Option.isNone_some, Option.isNone_none, eq_self]; intro _ _) | ((with_reducible (first | refine w5 ?_ ?_ | refine w6 ?_ ?_ | refine w7 ?_ ?_)); simp; refine ⟨_, rfl, ?_⟩) | ((with_reducible (first | refine w8 ?_ ?_ ?_ | refine w9 ?_ ?_ ?_ | refine w10 ?_ ?_ ?_)); exact rfl; simp) | ((with_reducible refine w12 ?_ ?_ ?_ fun _ _ => ?_); simp; simp; simp [oneC]) | ((with_reducible (first | refine eqs ?_ | refine nes ?_)); refine ⟨_, rfl, ?_⟩) | ((refine okF_i (bldP_eq rfl) ?_); try simp only [BLS, List.take_succ_cons, List.take_zero, List.drop_succ_cons, List.drop_zero, List.cons_append, List.nil_append, Nat.reduceAdd])) | simp -implicitDefEqProofs only [EN, lsub, lget, stL, beq_self_eq_true, ne_eq, if_true, if_false, List.cons_append, List.nil_append, Option.isNone_some, Option.isNone_none, eq_self]))
  exact St.nil h⟩
theorem any_mput {κ β : Type} [DecidableEq κ] (f : κ → Bool) (l : List (κ × β)) (k : κ) (v : β) : (mput l k v).any (fun p => f p.1) = (l.any (fun p => f p.1) || f k) := by
  induction l with
  | nil => simp [mput]
  | cons x l ih =>
    obtain ⟨a, b⟩ := x
    by_cases h : a = k
    · subst h
      simp only [mput, if_true, List.any_cons]
      cases f a <;> simp
    · simp only [mput, if_neg h, List.any_cons, ih, Bool.or_assoc]
theorem goodDots {W : World} (vs : List Value) (h : GoodL W [.int .i64, .int .i64] vs) : ∃ d : Dot, vs = DT.row d ∧ True := by
  obtain ⟨_, _, rfl, h1, h⟩ := h.cons'
  obtain ⟨_, _, rfl, h2, h⟩ := h.cons'
  obtain rfl := h.nil'
  obtain ⟨a, rfl, _⟩ := h1.int'
  obtain ⟨b, rfl, _⟩ := h2.int'
  exact ⟨⟨a, b⟩, rfl, trivial⟩
theorem openDots {W : World} {v : Value} (h : GoodA W [.sl [.int .i64, .int .i64]] false v) : ∃ (a : Option Addr) (c : Nat) (l : List Dot), v = .slice a l.length c ∧ l.length ≤ c ∧ c ≤ maxLen ∧ Rd W [] a DT l := by
  obtain ⟨a, c, l, h1, h2, h3, h4, _⟩ := openArr DT (fun _ => True) h.one rfl goodDots
  exact ⟨a, c, l, h1, h2, h3, h4⟩
theorem openV7 {W : World} {v : Value} (h : GoodA W [.int .i64, .int .i64, .int .i64, .int .i64, .int .i64, .int .i64, .int .i64] true v) : ∃ p : P7 Int, v = vv p := by
  obtain ⟨cs, rfl⟩ := h.2.1 rfl
  have h1 := h.1
  rw [vcells_agg] at h1
  obtain ⟨_, _, rfl, h0, h1⟩ := h1.cons'
  obtain ⟨_, _, rfl, i1, h1⟩ := h1.cons'
  obtain ⟨_, _, rfl, i2, h1⟩ := h1.cons'
  obtain ⟨_, _, rfl, i3, h1⟩ := h1.cons'
  obtain ⟨_, _, rfl, i4, h1⟩ := h1.cons'
  obtain ⟨_, _, rfl, i5, h1⟩ := h1.cons'
  obtain ⟨_, _, rfl, i6, h1⟩ := h1.cons'
  obtain rfl := h1.nil'
  obtain ⟨x0, rfl, _⟩ := h0.int'
  obtain ⟨x1, rfl, _⟩ := i1.int'
  obtain ⟨x2, rfl, _⟩ := i2.int'
  obtain ⟨x3, rfl, _⟩ := i3.int'
  obtain ⟨x4, rfl, _⟩ := i4.int'
  obtain ⟨x5, rfl, _⟩ := i5.int'
  obtain ⟨x6, rfl, _⟩ := i6.int'
  exact ⟨⟨x0, x1, x2, x3, x4, x5, x6⟩, rfl⟩
set_option maxHeartbeats 4000000 in
theorem orsetSeen_walk {W : World} {v0 v1 v2 : Value} (h0 : GoodA W [.sl [.int .i64, .int .i64]] false v0) (h1 : GoodA W [.int .i64, .int .i64, .int .i64, .int .i64, .int .i64, .int .i64, .int .i64] true v1) (h2 : GoodA W [.bool] false v2) :
    callK PR F_rostrumlaw9_OrsetSeen [v0, v1, v2] (fun v W' => v = .bool true ∧ St W [] W') W := by
  obtain ⟨la, lc, l, rfl, hlc, hlm, hrd⟩ := openDots h0
  obtain ⟨sn, rfl⟩ := openV7 h1
  obtain ⟨first, rfl⟩ := h2.one.bool'
  apply S.rostrumlaw9_OrsetSeen.call
  unfold S.rostrumlaw9_OrsetSeen.body
  refine bxa (St.start W) fun sb W1 h => ?_
  by_cases c1 : (20 : Int) < (l.length : Int)
  · (repeat (first | (first | (with_reducible (first | refine w1 fun _ _ => ?_ | refine w3 fun _ _ _ => ?_ | refine w4 fun _ _ _ => ?_ | refine w11 fun _ _ _ => ?_ | refine stb_n ?_)) | ((with_reducible refine w2 ?_); try simp -implicitDefEqProofs only [EN, lsub, lget, stL, beq_self_eq_true, ne_eq, if_true, if_false, List.cons_append, List.nil_append, Option.isNone_some, Option.isNone_none, c1]; intro _ _) | ((with_reducible (first | refine w5 ?_ ?_ | refine w6 ?_ ?_ | refine w7 ?_ ?_)); simp; refine ⟨_, rfl, ?_⟩) | ((with_reducible (first | refine w8 ?_ ?_ ?_ | refine w9 ?_ ?_ ?_ | refine w10 ?_ ?_ ?_)); exact rfl; simp) | ((with_reducible refine w12 ?_ ?_ ?_ fun _ _ => ?_); simp; simp; simp [oneC]) | ((with_reducible (first | refine eqs ?_ | refine nes ?_)); refine ⟨_, rfl, ?_⟩) | ((refine okF_i (bldP_eq rfl) ?_); try simp only [BLS, List.take_succ_cons, List.take_zero, List.drop_succ_cons, List.drop_zero, List.cons_append, List.nil_append, Nat.reduceAdd])) | simp -implicitDefEqProofs only [EN, lsub, lget, stL, beq_self_eq_true, ne_eq, if_true, if_false, List.cons_append, List.nil_append, Option.isNone_some, Option.isNone_none, c1]))
    (first | exact St.nil (by first | assumption | exact St.tick (by assumption) | exact St.tick (St.tick (by assumption))) | exact ⟨rfl, St.nil (by first | assumption | exact St.tick (by assumption) | exact St.tick (St.tick (by assumption)))⟩)
  have eg : goodV ⟨sn.x0, sn.x1, sn.x2, sn.x3, sn.x4, sn.x5, sn.x6⟩ = goodV sn := rfl
  cases hg : goodV sn with
  | false =>
    (repeat (first | (first | (with_reducible (first | refine w1 fun _ _ => ?_ | refine w3 fun _ _ _ => ?_ | refine w4 fun _ _ _ => ?_ | refine w11 fun _ _ _ => ?_ | refine stb_n ?_)) | ((with_reducible refine w2 ?_); try simp -implicitDefEqProofs only [EN, lsub, lget, stL, beq_self_eq_true, ne_eq, if_true, if_false, List.cons_append, List.nil_append, Option.isNone_some, Option.isNone_none, c1, eg, hg]; intro _ _) | ((with_reducible (first | refine w5 ?_ ?_ | refine w6 ?_ ?_ | refine w7 ?_ ?_)); simp; refine ⟨_, rfl, ?_⟩) | ((with_reducible (first | refine w8 ?_ ?_ ?_ | refine w9 ?_ ?_ ?_ | refine w10 ?_ ?_ ?_)); exact rfl; simp) | ((with_reducible refine w12 ?_ ?_ ?_ fun _ _ => ?_); simp; simp; simp [oneC]) | ((with_reducible (first | refine eqs ?_ | refine nes ?_)); refine ⟨_, rfl, ?_⟩) | ((refine okF_i (bldP_eq rfl) ?_); try simp only [BLS, List.take_succ_cons, List.take_zero, List.drop_succ_cons, List.drop_zero, List.cons_append, List.nil_append, Nat.reduceAdd])) | simp -implicitDefEqProofs only [EN, lsub, lget, stL, beq_self_eq_true, ne_eq, if_true, if_false, List.cons_append, List.nil_append, Option.isNone_some, Option.isNone_none, c1, eg, hg]))
    (first | exact St.nil (by first | assumption | exact St.tick (by assumption) | exact St.tick (St.tick (by assumption))) | exact ⟨rfl, St.nil (by first | assumption | exact St.tick (by assumption) | exact St.tick (St.tick (by assumption)))⟩)
  | true =>
    (repeat (first | (first | (with_reducible (first | refine w1 fun _ _ => ?_ | refine w3 fun _ _ _ => ?_ | refine w4 fun _ _ _ => ?_ | refine w11 fun _ _ _ => ?_ | refine stb_n ?_)) | ((with_reducible refine w2 ?_); try simp -implicitDefEqProofs only [EN, lsub, lget, stL, beq_self_eq_true, ne_eq, if_true, if_false, List.cons_append, List.nil_append, Option.isNone_some, Option.isNone_none, c1, eg, hg]; intro _ _) | ((with_reducible (first | refine w5 ?_ ?_ | refine w6 ?_ ?_ | refine w7 ?_ ?_)); simp; refine ⟨_, rfl, ?_⟩) | ((with_reducible (first | refine w8 ?_ ?_ ?_ | refine w9 ?_ ?_ ?_ | refine w10 ?_ ?_ ?_)); exact rfl; simp) | ((with_reducible refine w12 ?_ ?_ ?_ fun _ _ => ?_); simp; simp; simp [oneC]) | ((with_reducible (first | refine eqs ?_ | refine nes ?_)); refine ⟨_, rfl, ?_⟩) | ((refine okF_i (bldP_eq rfl) ?_); try simp only [BLS, List.take_succ_cons, List.take_zero, List.drop_succ_cons, List.drop_zero, List.cons_append, List.nil_append, Nat.reduceAdd])) | simp -implicitDefEqProofs only [EN, lsub, lget, stL, beq_self_eq_true, ne_eq, if_true, if_false, List.cons_append, List.nil_append, Option.isNone_some, Option.isNone_none, c1, eg, hg]))
    refine orsetNew (by first | assumption | exact St.tick (by assumption) | exact St.tick (St.tick (by assumption))) fun q W2 h => ?_
    refine joinK_i ?_
    have hrm : ∀ s : OS, mget s.gone [120] = none → s.remove [120] sn = ({ s with gone := mput s.gone [120] sn }, 0) := fun s hn => by
      unfold OS.remove
      rw [if_neg (by rw [hg]; simp), OS.gv, hn]
      simp only [Option.getD_none, vmerge_zero hg]
    have hJ1 : ∀ s0 W', s0 = (if first then (⟨[], [([120], sn)]⟩ : OS) else OS.new) → St W [cells sb [.int .i64 sn.x0, .int .i64 sn.x1, .int .i64 sn.x2, .int .i64 sn.x3, .int .i64 sn.x4, .int .i64 sn.x5, .int .i64 sn.x6] T_vec_Vec, os q s0] W' →
        S.rostrumlaw9_OrsetSeen.j1 (fun v W' => v = .bool true ∧ St W [] W') (.slice la l.length lc) (.bool first) (.pointer (some ⟨sb, 0, none⟩)) (.pointer (some ⟨q, 0, none⟩)) W' := by
      intro s0 W' hs0 h
      unfold S.rostrumlaw9_OrsetSeen.j1
      refine joinK_i ?_
      refine loop_c (σ := OS × Bool) l.length (fun i x => [.slice la l.length lc, .bool first, .pointer (some ⟨sb, 0, none⟩), .pointer (some ⟨q, 0, none⟩), .bool x.2, .int .i64 i])
        (fun i x W1 => (x.1.gone = s0.gone ∧ (∀ p ∈ x.1.added, p.2 = [120]) ∧ x.2 = x.1.added.any (fun p => !hasV sn p.1) ∧ x.1.added.length ≤ i) ∧ St W [cells sb [.int .i64 sn.x0, .int .i64 sn.x1, .int .i64 sn.x2, .int .i64 sn.x3, .int .i64 sn.x4, .int .i64 sn.x5, .int .i64 sn.x6] T_vec_Vec, os q x.1] W1) (s0, false) rfl ⟨⟨rfl, ?_, ?_, ?_⟩, h⟩ ?_
      · rw [hs0]; cases first <;> (intro p hp; cases hp)
      · rw [hs0]; cases first <;> rfl
      · rw [hs0]; cases first <;> exact Nat.le_refl _
      clear h
      rintro K i ⟨s, left⟩ W3 hi ⟨⟨hgo, htx, hlf, hln⟩, h⟩ hK
      simp only at hgo htx hlf hln h
      simp -implicitDefEqProofs only [EN, lsub, lget, stL, beq_self_eq_true, ne_eq, if_true, if_false, List.cons_append, List.nil_append, Option.isNone_some, Option.isNone_none]
      unfold S.rostrumlaw9_OrsetSeen.l1
      by_cases hlt : (i : Int) < (l.length : Int)
      · have hib : i < l.length := by omega
        have ew : IntKind.i64.wrap ((i : Int) + 1) = ((i + 1 : Nat) : Int) := by rw [i64w]; omega
        have hJ4 : ∀ s' left' W', s'.gone = s0.gone → (∀ p ∈ s'.added, p.2 = [120]) → left' = s'.added.any (fun p => !hasV sn p.1) → s'.added.length ≤ i + 1 → St W [cells sb [.int .i64 sn.x0, .int .i64 sn.x1, .int .i64 sn.x2, .int .i64 sn.x3, .int .i64 sn.x4, .int .i64 sn.x5, .int .i64 sn.x6] T_vec_Vec, os q s'] W' →
            S.rostrumlaw9_OrsetSeen.j4 K (.slice la l.length lc) (.bool first) (.pointer (some ⟨sb, 0, none⟩)) (.pointer (some ⟨q, 0, none⟩)) (.bool left') (.int .i64 i) W' := by
          intro s' left' W' g1 g2 g3 g4 h
          unfold S.rostrumlaw9_OrsetSeen.j4
          (repeat (first | (first | (with_reducible (first | refine w1 fun _ _ => ?_ | refine w3 fun _ _ _ => ?_ | refine w4 fun _ _ _ => ?_ | refine w11 fun _ _ _ => ?_ | refine stb_n ?_)) | ((with_reducible refine w2 ?_); try simp -implicitDefEqProofs only [EN, lsub, lget, stL, beq_self_eq_true, ne_eq, if_true, if_false, List.cons_append, List.nil_append, Option.isNone_some, Option.isNone_none, ew]; intro _ _) | ((with_reducible (first | refine w5 ?_ ?_ | refine w6 ?_ ?_ | refine w7 ?_ ?_)); simp; refine ⟨_, rfl, ?_⟩) | ((with_reducible (first | refine w8 ?_ ?_ ?_ | refine w9 ?_ ?_ ?_ | refine w10 ?_ ?_ ?_)); exact rfl; simp) | ((with_reducible refine w12 ?_ ?_ ?_ fun _ _ => ?_); simp; simp; simp [oneC]) | ((with_reducible (first | refine eqs ?_ | refine nes ?_)); refine ⟨_, rfl, ?_⟩) | ((refine okF_i (bldP_eq rfl) ?_); try simp only [BLS, List.take_succ_cons, List.take_zero, List.drop_succ_cons, List.drop_zero, List.cons_append, List.nil_append, Nat.reduceAdd])) | simp -implicitDefEqProofs only [EN, lsub, lget, stL, beq_self_eq_true, ne_eq, if_true, if_false, List.cons_append, List.nil_append, Option.isNone_some, Option.isNone_none, ew]))
          exact hK (s', left') _ hib ⟨⟨g1, g2, g3, g4⟩, h⟩
        (repeat (first | (first | (with_reducible (first | refine w1 fun _ _ => ?_ | refine w3 fun _ _ _ => ?_ | refine w4 fun _ _ _ => ?_ | refine w11 fun _ _ _ => ?_ | refine stb_n ?_)) | ((with_reducible refine w2 ?_); try simp -implicitDefEqProofs only [EN, lsub, lget, stL, beq_self_eq_true, ne_eq, if_true, if_false, List.cons_append, List.nil_append, Option.isNone_some, Option.isNone_none, hlt]; intro _ _) | ((with_reducible (first | refine w5 ?_ ?_ | refine w6 ?_ ?_ | refine w7 ?_ ?_)); simp; refine ⟨_, rfl, ?_⟩) | ((with_reducible (first | refine w8 ?_ ?_ ?_ | refine w9 ?_ ?_ ?_ | refine w10 ?_ ?_ ?_)); exact rfl; simp) | ((with_reducible refine w12 ?_ ?_ ?_ fun _ _ => ?_); simp; simp; simp [oneC]) | ((with_reducible (first | refine eqs ?_ | refine nes ?_)); refine ⟨_, rfl, ?_⟩) | ((refine okF_i (bldP_eq rfl) ?_); try simp only [BLS, List.take_succ_cons, List.take_zero, List.drop_succ_cons, List.drop_zero, List.cons_append, List.nil_append, Nat.reduceAdd])) | simp -implicitDefEqProofs only [EN, lsub, lget, stL, beq_self_eq_true, ne_eq, if_true, if_false, List.cons_append, List.nil_append, Option.isNone_some, Option.isNone_none, hlt]))
        refine joinK_i ?_
        refine ixA (i := i) (a := la) (l := l) (A := DT) h rfl rfl hib fun g o ha => ?_
        cases ha
        refine ldA0 (i := i) (l := l) (A := DT) h rfl hib (v := .agg #[.int .i64 (l[i]).rep, .int .i64 (l[i]).n]) rfl (by simp) ?_
        have hrow : ro W g (o + i * 2) [.int .i64 (l[i]).rep, .int .i64 (l[i]).n] := Rd.row (A := DT) (l := l) (St.start W) hib
        generalize l[i] = d at *
        refine orsetAdd (s := s) (d := d) (x := [120]) h fun W4 h => ?_
        have hal := s.add_len d [120]
        by_cases hz : (s.add d [120]).2 = 0
        · have hadd : (s.add d [120]).1 = { s with added := mput s.added d [120] } := by
            unfold OS.add at hz ⊢
            split at hz
            · exact absurd hz (by simp)
            · rename_i h1
              rw [if_neg h1]
              split at hz
              · exact absurd hz (by simp)
              · rename_i h2
                rw [if_neg h2]
          have hany : (s.add d [120]).1.added.any (fun p => !hasV sn p.1) = (left || !hasV sn d) := by
            rw [hadd, hlf]
            exact any_mput (fun d => !hasV sn d) s.added d [120]
          have htx' : ∀ p ∈ (s.add d [120]).1.added, p.2 = [120] := by
            rw [hadd]
            intro p hp
            rcases mem_mput hp with rfl | hp
            · rfl
            · exact htx p hp
          have hgo' : (s.add d [120]).1.gone = s0.gone := by rw [hadd]; exact hgo
          rw [hz]
          cases left with
          | true =>
            (repeat (first | (first | (with_reducible (first | refine w1 fun _ _ => ?_ | refine w3 fun _ _ _ => ?_ | refine w4 fun _ _ _ => ?_ | refine w11 fun _ _ _ => ?_ | refine stb_n ?_)) | ((with_reducible refine w2 ?_); try simp -implicitDefEqProofs only [EN, lsub, lget, stL, beq_self_eq_true, ne_eq, if_true, if_false, List.cons_append, List.nil_append, Option.isNone_some, Option.isNone_none]; intro _ _) | ((with_reducible (first | refine w5 ?_ ?_ | refine w6 ?_ ?_ | refine w7 ?_ ?_)); simp; refine ⟨_, rfl, ?_⟩) | ((with_reducible (first | refine w8 ?_ ?_ ?_ | refine w9 ?_ ?_ ?_ | refine w10 ?_ ?_ ?_)); exact rfl; simp) | ((with_reducible refine w12 ?_ ?_ ?_ fun _ _ => ?_); simp; simp; simp [oneC]) | ((with_reducible (first | refine eqs ?_ | refine nes ?_)); refine ⟨_, rfl, ?_⟩) | ((refine okF_i (bldP_eq rfl) ?_); try simp only [BLS, List.take_succ_cons, List.take_zero, List.drop_succ_cons, List.drop_zero, List.cons_append, List.nil_append, Nat.reduceAdd])) | simp -implicitDefEqProofs only [EN, lsub, lget, stL, beq_self_eq_true, ne_eq, if_true, if_false, List.cons_append, List.nil_append, Option.isNone_some, Option.isNone_none]))
            exact hJ4 _ _ _ hgo' htx' (by rw [hany]; rfl) (by omega) (St.wk (by first | assumption | exact St.tick (by assumption) | exact St.tick (St.tick (by assumption))))
          | false =>
            have eh : hasV ⟨sn.x0, sn.x1, sn.x2, sn.x3, sn.x4, sn.x5, sn.x6⟩ ⟨d.rep, d.n⟩ = hasV sn d := rfl
            have ei : idxS 2 (.slice (some ⟨g, o, none⟩) l.length lc) (.int .i64 (i : Int)) = some (.pointer (some ⟨g, o + i * 2, none⟩)) := by rw [idxS_blk (by omega) (by omega), Int.toNat_natCast]
            (repeat (first | (first | (with_reducible (first | refine w1 fun _ _ => ?_ | refine w3 fun _ _ _ => ?_ | refine w4 fun _ _ _ => ?_ | refine w11 fun _ _ _ => ?_ | refine stb_n ?_)) | ((with_reducible refine w2 ?_); try simp -implicitDefEqProofs only [EN, lsub, lget, stL, beq_self_eq_true, ne_eq, if_true, if_false, List.cons_append, List.nil_append, Option.isNone_some, Option.isNone_none, ei, eh]; intro _ _) | ((with_reducible (first | refine w5 ?_ ?_ | refine w6 ?_ ?_ | refine w7 ?_ ?_)); simp; refine ⟨_, rfl, ?_⟩) | ((with_reducible (first | refine w8 ?_ ?_ ?_ | refine w9 ?_ ?_ ?_ | refine w10 ?_ ?_ ?_)); exact rfl; simp) | ((with_reducible refine w12 ?_ ?_ ?_ fun _ _ => ?_); simp; simp; simp [oneC]) | ((with_reducible (first | refine eqs ?_ | refine nes ?_)); refine ⟨_, rfl, ?_⟩) | ((refine okF_i (bldP_eq rfl) ?_); try simp only [BLS, List.take_succ_cons, List.take_zero, List.drop_succ_cons, List.drop_zero, List.cons_append, List.nil_append, Nat.reduceAdd])) | simp -implicitDefEqProofs only [EN, lsub, lget, stL, beq_self_eq_true, ne_eq, if_true, if_false, List.cons_append, List.nil_append, Option.isNone_some, Option.isNone_none, ei, eh]))
            exact hJ4 _ _ _ hgo' htx' (by rw [hany]; rfl) (by omega) (St.wk (by first | assumption | exact St.tick (by assumption) | exact St.tick (St.tick (by assumption))))
        · have hadd : (s.add d [120]).1 = s := by
            unfold OS.add at hz ⊢
            split at hz
            · rename_i h1; rw [if_pos h1]
            · rename_i h1
              rw [if_neg h1]
              split at hz
              · rename_i h2; rw [if_pos h2]
              · exact absurd rfl hz
          rw [hadd] at h
          have f1 := decide_eq_false hz
          (repeat (first | (first | (with_reducible (first | refine w1 fun _ _ => ?_ | refine w3 fun _ _ _ => ?_ | refine w4 fun _ _ _ => ?_ | refine w11 fun _ _ _ => ?_ | refine stb_n ?_)) | ((with_reducible refine w2 ?_); try simp -implicitDefEqProofs only [EN, lsub, lget, stL, beq_self_eq_true, ne_eq, if_true, if_false, List.cons_append, List.nil_append, Option.isNone_some, Option.isNone_none, f1]; intro _ _) | ((with_reducible (first | refine w5 ?_ ?_ | refine w6 ?_ ?_ | refine w7 ?_ ?_)); simp; refine ⟨_, rfl, ?_⟩) | ((with_reducible (first | refine w8 ?_ ?_ ?_ | refine w9 ?_ ?_ ?_ | refine w10 ?_ ?_ ?_)); exact rfl; simp) | ((with_reducible refine w12 ?_ ?_ ?_ fun _ _ => ?_); simp; simp; simp [oneC]) | ((with_reducible (first | refine eqs ?_ | refine nes ?_)); refine ⟨_, rfl, ?_⟩) | ((refine okF_i (bldP_eq rfl) ?_); try simp only [BLS, List.take_succ_cons, List.take_zero, List.drop_succ_cons, List.drop_zero, List.cons_append, List.nil_append, Nat.reduceAdd])) | simp -implicitDefEqProofs only [EN, lsub, lget, stL, beq_self_eq_true, ne_eq, if_true, if_false, List.cons_append, List.nil_append, Option.isNone_some, Option.isNone_none, f1]))
          exact hJ4 _ _ _ hgo htx hlf (by omega) (St.wk h)
      · (repeat (first | (first | (with_reducible (first | refine w1 fun _ _ => ?_ | refine w3 fun _ _ _ => ?_ | refine w4 fun _ _ _ => ?_ | refine w11 fun _ _ _ => ?_ | refine stb_n ?_)) | ((with_reducible refine w2 ?_); try simp -implicitDefEqProofs only [EN, lsub, lget, stL, beq_self_eq_true, ne_eq, if_true, if_false, List.cons_append, List.nil_append, Option.isNone_some, Option.isNone_none, hlt]; intro _ _) | ((with_reducible (first | refine w5 ?_ ?_ | refine w6 ?_ ?_ | refine w7 ?_ ?_)); simp; refine ⟨_, rfl, ?_⟩) | ((with_reducible (first | refine w8 ?_ ?_ ?_ | refine w9 ?_ ?_ ?_ | refine w10 ?_ ?_ ?_)); exact rfl; simp) | ((with_reducible refine w12 ?_ ?_ ?_ fun _ _ => ?_); simp; simp; simp [oneC]) | ((with_reducible (first | refine eqs ?_ | refine nes ?_)); refine ⟨_, rfl, ?_⟩) | ((refine okF_i (bldP_eq rfl) ?_); try simp only [BLS, List.take_succ_cons, List.take_zero, List.drop_succ_cons, List.drop_zero, List.cons_append, List.nil_append, Nat.reduceAdd])) | simp -implicitDefEqProofs only [EN, lsub, lget, stL, beq_self_eq_true, ne_eq, if_true, if_false, List.cons_append, List.nil_append, Option.isNone_some, Option.isNone_none, hlt]))
        unfold S.rostrumlaw9_OrsetSeen.j2
        refine joinK_i ?_
        have hJ3 : ∀ s' W', mget s'.gone [120] = some sn → s'.added = s.added → St W [cells sb [.int .i64 sn.x0, .int .i64 sn.x1, .int .i64 sn.x2, .int .i64 sn.x3, .int .i64 sn.x4, .int .i64 sn.x5, .int .i64 sn.x6] T_vec_Vec, os q s'] W' → S.rostrumlaw9_OrsetSeen.j3 (fun v W' => v = .bool true ∧ St W [] W') (.pointer (some ⟨q, 0, none⟩)) (.bool left) W' := by
          intro s' W' g1 g2 h
          unfold S.rostrumlaw9_OrsetSeen.j3
          refine orsetHas (s := s') (x := [120]) h (by rw [g2]; omega) fun W5 h => ?_
          have e : s'.has [120] = left := by
            rw [has_any, hlf, g2]
            have : ∀ (l : List (Dot × Bs)), (∀ p ∈ l, p.2 = [120]) → (l.any fun p => decide ([120] = p.2) && s'.live p.1 [120]) = l.any fun p => !hasV sn p.1 := by
              intro l hl
              induction l with
              | nil => rfl
              | cons x l ih =>
                simp only [List.any_cons]
                rw [ih fun p hp => hl p (by simp [hp]), hl x (by simp)]
                congr 1
                unfold OS.live OS.gv
                rw [g1]
                simp
            exact this _ htx
          rw [e]
          have e2 : decide (left = left) = true := decide_eq_true rfl
          (repeat (first | (first | (with_reducible (first | refine w1 fun _ _ => ?_ | refine w3 fun _ _ _ => ?_ | refine w4 fun _ _ _ => ?_ | refine w11 fun _ _ _ => ?_ | refine stb_n ?_)) | ((with_reducible refine w2 ?_); try simp -implicitDefEqProofs only [EN, lsub, lget, stL, beq_self_eq_true, ne_eq, if_true, if_false, List.cons_append, List.nil_append, Option.isNone_some, Option.isNone_none, eq_self, e2]; intro _ _) | ((with_reducible (first | refine w5 ?_ ?_ | refine w6 ?_ ?_ | refine w7 ?_ ?_)); simp; refine ⟨_, rfl, ?_⟩) | ((with_reducible (first | refine w8 ?_ ?_ ?_ | refine w9 ?_ ?_ ?_ | refine w10 ?_ ?_ ?_)); exact rfl; simp) | ((with_reducible refine w12 ?_ ?_ ?_ fun _ _ => ?_); simp; simp; simp [oneC]) | ((with_reducible (first | refine eqs ?_ | refine nes ?_)); refine ⟨_, rfl, ?_⟩) | ((refine okF_i (bldP_eq rfl) ?_); try simp only [BLS, List.take_succ_cons, List.take_zero, List.drop_succ_cons, List.drop_zero, List.cons_append, List.nil_append, Nat.reduceAdd])) | simp -implicitDefEqProofs only [EN, lsub, lget, stL, beq_self_eq_true, ne_eq, if_true, if_false, List.cons_append, List.nil_append, Option.isNone_some, Option.isNone_none, eq_self, e2]))
          (first | exact St.nil (by first | assumption | exact St.tick (by assumption) | exact St.tick (St.tick (by assumption))) | exact ⟨rfl, St.nil (by first | assumption | exact St.tick (by assumption) | exact St.tick (St.tick (by assumption)))⟩)
        cases first with
        | true =>
          (repeat (first | (first | (with_reducible (first | refine w1 fun _ _ => ?_ | refine w3 fun _ _ _ => ?_ | refine w4 fun _ _ _ => ?_ | refine w11 fun _ _ _ => ?_ | refine stb_n ?_)) | ((with_reducible refine w2 ?_); try simp -implicitDefEqProofs only [EN, lsub, lget, stL, beq_self_eq_true, ne_eq, if_true, if_false, List.cons_append, List.nil_append, Option.isNone_some, Option.isNone_none]; intro _ _) | ((with_reducible (first | refine w5 ?_ ?_ | refine w6 ?_ ?_ | refine w7 ?_ ?_)); simp; refine ⟨_, rfl, ?_⟩) | ((with_reducible (first | refine w8 ?_ ?_ ?_ | refine w9 ?_ ?_ ?_ | refine w10 ?_ ?_ ?_)); exact rfl; simp) | ((with_reducible refine w12 ?_ ?_ ?_ fun _ _ => ?_); simp; simp; simp [oneC]) | ((with_reducible (first | refine eqs ?_ | refine nes ?_)); refine ⟨_, rfl, ?_⟩) | ((refine okF_i (bldP_eq rfl) ?_); try simp only [BLS, List.take_succ_cons, List.take_zero, List.drop_succ_cons, List.drop_zero, List.cons_append, List.nil_append, Nat.reduceAdd])) | simp -implicitDefEqProofs only [EN, lsub, lget, stL, beq_self_eq_true, ne_eq, if_true, if_false, List.cons_append, List.nil_append, Option.isNone_some, Option.isNone_none]))
          refine hJ3 s _ ?_ rfl h
          rw [hgo, hs0]; rfl
        | false =>
          have hn : mget s.gone [120] = none := by rw [hgo, hs0]; rfl
          (repeat (first | (first | (with_reducible (first | refine w1 fun _ _ => ?_ | refine w3 fun _ _ _ => ?_ | refine w4 fun _ _ _ => ?_ | refine w11 fun _ _ _ => ?_ | refine stb_n ?_)) | ((with_reducible refine w2 ?_); try simp -implicitDefEqProofs only [EN, lsub, lget, stL, beq_self_eq_true, ne_eq, if_true, if_false, List.cons_append, List.nil_append, Option.isNone_some, Option.isNone_none]; intro _ _) | ((with_reducible (first | refine w5 ?_ ?_ | refine w6 ?_ ?_ | refine w7 ?_ ?_)); simp; refine ⟨_, rfl, ?_⟩) | ((with_reducible (first | refine w8 ?_ ?_ ?_ | refine w9 ?_ ?_ ?_ | refine w10 ?_ ?_ ?_)); exact rfl; simp) | ((with_reducible refine w12 ?_ ?_ ?_ fun _ _ => ?_); simp; simp; simp [oneC]) | ((with_reducible (first | refine eqs ?_ | refine nes ?_)); refine ⟨_, rfl, ?_⟩) | ((refine okF_i (bldP_eq rfl) ?_); try simp only [BLS, List.take_succ_cons, List.take_zero, List.drop_succ_cons, List.drop_zero, List.cons_append, List.nil_append, Nat.reduceAdd])) | simp -implicitDefEqProofs only [EN, lsub, lget, stL, beq_self_eq_true, ne_eq, if_true, if_false, List.cons_append, List.nil_append, Option.isNone_some, Option.isNone_none]))
          refine orsetRemove (s := s) (x := [120]) (v := sn) (by first | assumption | exact St.tick (by assumption) | exact St.tick (St.tick (by assumption))) fun W5 h => ?_
          rw [hrm s hn, show (({ s with gone := mput s.gone [120] sn }, 0) : OS × Int).1 = { s with gone := mput s.gone [120] sn } from rfl] at h
          refine hJ3 { s with gone := mput s.gone [120] sn } _ ?_ rfl (St.wk h)
          simp only [mget_mput, if_true]
    cases first with
    | true =>
      (repeat (first | (first | (with_reducible (first | refine w1 fun _ _ => ?_ | refine w3 fun _ _ _ => ?_ | refine w4 fun _ _ _ => ?_ | refine w11 fun _ _ _ => ?_ | refine stb_n ?_)) | ((with_reducible refine w2 ?_); try simp -implicitDefEqProofs only [EN, lsub, lget, stL, beq_self_eq_true, ne_eq, if_true, if_false, List.cons_append, List.nil_append, Option.isNone_some, Option.isNone_none]; intro _ _) | ((with_reducible (first | refine w5 ?_ ?_ | refine w6 ?_ ?_ | refine w7 ?_ ?_)); simp; refine ⟨_, rfl, ?_⟩) | ((with_reducible (first | refine w8 ?_ ?_ ?_ | refine w9 ?_ ?_ ?_ | refine w10 ?_ ?_ ?_)); exact rfl; simp) | ((with_reducible refine w12 ?_ ?_ ?_ fun _ _ => ?_); simp; simp; simp [oneC]) | ((with_reducible (first | refine eqs ?_ | refine nes ?_)); refine ⟨_, rfl, ?_⟩) | ((refine okF_i (bldP_eq rfl) ?_); try simp only [BLS, List.take_succ_cons, List.take_zero, List.drop_succ_cons, List.drop_zero, List.cons_append, List.nil_append, Nat.reduceAdd])) | simp -implicitDefEqProofs only [EN, lsub, lget, stL, beq_self_eq_true, ne_eq, if_true, if_false, List.cons_append, List.nil_append, Option.isNone_some, Option.isNone_none]))
      refine orsetRemove (s := OS.new) (x := [120]) (v := sn) (by first | assumption | exact St.tick (by assumption) | exact St.tick (St.tick (by assumption))) fun W5 h => ?_
      rw [hrm OS.new rfl, show (({ OS.new with gone := mput OS.new.gone [120] sn }, 0) : OS × Int).1 = ⟨[], [([120], sn)]⟩ from rfl] at h
      exact hJ1 ⟨[], [([120], sn)]⟩ _ rfl (St.wk h)
    | false =>
      (repeat (first | (first | (with_reducible (first | refine w1 fun _ _ => ?_ | refine w3 fun _ _ _ => ?_ | refine w4 fun _ _ _ => ?_ | refine w11 fun _ _ _ => ?_ | refine stb_n ?_)) | ((with_reducible refine w2 ?_); try simp -implicitDefEqProofs only [EN, lsub, lget, stL, beq_self_eq_true, ne_eq, if_true, if_false, List.cons_append, List.nil_append, Option.isNone_some, Option.isNone_none]; intro _ _) | ((with_reducible (first | refine w5 ?_ ?_ | refine w6 ?_ ?_ | refine w7 ?_ ?_)); simp; refine ⟨_, rfl, ?_⟩) | ((with_reducible (first | refine w8 ?_ ?_ ?_ | refine w9 ?_ ?_ ?_ | refine w10 ?_ ?_ ?_)); exact rfl; simp) | ((with_reducible refine w12 ?_ ?_ ?_ fun _ _ => ?_); simp; simp; simp [oneC]) | ((with_reducible (first | refine eqs ?_ | refine nes ?_)); refine ⟨_, rfl, ?_⟩) | ((refine okF_i (bldP_eq rfl) ?_); try simp only [BLS, List.take_succ_cons, List.take_zero, List.drop_succ_cons, List.drop_zero, List.cons_append, List.nil_append, Nat.reduceAdd])) | simp -implicitDefEqProofs only [EN, lsub, lget, stL, beq_self_eq_true, ne_eq, if_true, if_false, List.cons_append, List.nil_append, Option.isNone_some, Option.isNone_none]))
      exact hJ1 OS.new _ rfl (St.wk (by first | assumption | exact St.tick (by assumption) | exact St.tick (St.tick (by assumption))))
end Go.Proofs.Ytmojfpaagokckaa
namespace Go.Proofs.Ytmojfpaagokckaa
set_option linter.unusedVariables false
set_option linter.unusedSimpArgs false
open Go Go.Eng

structure ActO where
  op : Int
  d : Dot
  x : Bs
  v : P7 Int
instance : Inhabited ActO := ⟨⟨0, ⟨0, 0⟩, [], P7.all 0⟩⟩
def ACT : Ly ActO := ⟨11, by omega, fun a => [.int .i64 a.op, .int .i64 a.d.rep, .int .i64 a.d.n, sv a.x, .int .i64 a.v.x0, .int .i64 a.v.x1, .int .i64 a.v.x2, .int .i64 a.v.x3, .int .i64 a.v.x4, .int .i64 a.v.x5, .int .i64 a.v.x6], fun _ => rfl, fun _ => rfl⟩
def OS.act (s : OS) (a : ActO) : OS := if a.op = 0 then (s.add a.d a.x).1 else (s.remove a.x a.v).1
theorem sv_of (s : ByteArray) : Value.string s = sv s.data.toList := by simp [sv]
theorem openActRow {W : World} (vs : List Value) (h : GoodL W [.int .i64, .int .i64, .int .i64, .str, .int .i64, .int .i64, .int .i64, .int .i64, .int .i64, .int .i64, .int .i64] vs) : ∃ a : ActO, vs = ACT.row a ∧ True := by
  obtain ⟨_, _, rfl, h0, h⟩ := h.cons'
  obtain ⟨_, _, rfl, h1, h⟩ := h.cons'
  obtain ⟨_, _, rfl, h2, h⟩ := h.cons'
  obtain ⟨_, _, rfl, h3, h⟩ := h.cons'
  obtain ⟨_, _, rfl, i0, h⟩ := h.cons'
  obtain ⟨_, _, rfl, i1, h⟩ := h.cons'
  obtain ⟨_, _, rfl, i2, h⟩ := h.cons'
  obtain ⟨_, _, rfl, i3, h⟩ := h.cons'
  obtain ⟨_, _, rfl, i4, h⟩ := h.cons'
  obtain ⟨_, _, rfl, i5, h⟩ := h.cons'
  obtain ⟨_, _, rfl, i6, h⟩ := h.cons'
  obtain rfl := h.nil'
  obtain ⟨a, rfl, _⟩ := h0.int'
  obtain ⟨b, rfl, _⟩ := h1.int'
  obtain ⟨c, rfl, _⟩ := h2.int'
  obtain ⟨s, rfl, _⟩ := h3.str'
  obtain ⟨x0, rfl, _⟩ := i0.int'
  obtain ⟨x1, rfl, _⟩ := i1.int'
  obtain ⟨x2, rfl, _⟩ := i2.int'
  obtain ⟨x3, rfl, _⟩ := i3.int'
  obtain ⟨x4, rfl, _⟩ := i4.int'
  obtain ⟨x5, rfl, _⟩ := i5.int'
  obtain ⟨x6, rfl, _⟩ := i6.int'
  exact ⟨⟨a, ⟨b, c⟩, s.data.toList, ⟨x0, x1, x2, x3, x4, x5, x6⟩⟩, by rw [sv_of]; rfl, trivial⟩
theorem openActs {W : World} {v : Value} (h : GoodA W [.sl [.int .i64, .int .i64, .int .i64, .str, .int .i64, .int .i64, .int .i64, .int .i64, .int .i64, .int .i64, .int .i64]] false v) :
    ∃ (a : Option Addr) (c : Nat) (l : List ActO), v = .slice a l.length c ∧ l.length ≤ c ∧ c ≤ maxLen ∧ Rd W [] a ACT l := by
  obtain ⟨a, c, l, h1, h2, h3, h4, _⟩ := openArr ACT (fun _ => True) h.one rfl openActRow
  exact ⟨a, c, l, h1, h2, h3, h4⟩
theorem openAct {W : World} {v : Value} (h : GoodA W [.int .i64, .int .i64, .int .i64, .str, .int .i64, .int .i64, .int .i64, .int .i64, .int .i64, .int .i64, .int .i64] true v) : ∃ a : ActO, v = .agg (ACT.row a).toArray := by
  obtain ⟨cs, rfl⟩ := h.2.1 rfl
  have h1 := h.1
  rw [vcells_agg] at h1
  obtain ⟨a, rfl, _⟩ := openActRow _ h1
  exact ⟨a, rfl⟩
theorem OS.ok.actS {s : OS} (h : s.ok) (a : ActO) : (s.act a).ok := by
  unfold OS.act; split
  · exact h.addS _ _
  · exact h.removeS _ _
theorem OS.act_len (s : OS) (a : ActO) : (s.act a).added.length ≤ s.added.length + 1 := by
  unfold OS.act; split
  · exact s.add_len _ _
  · unfold OS.remove; split <;> simp
theorem acts_ok : ∀ (l : List ActO) (s : OS), s.ok → (l.foldl OS.act s).ok ∧ (l.foldl OS.act s).added.length ≤ s.added.length + l.length
  | [], s, h => ⟨h, by simp⟩
  | a :: l, s, h => by
    have h1 := acts_ok l (s.act a) (h.actS a)
    have h2 := s.act_len a
    simp only [List.foldl_cons, List.length_cons]
    exact ⟨h1.1, by omega⟩
def k1 : OS := ⟨[], [([120], ⟨3, 0, 0, 0, 0, 0, 0⟩)]⟩
def k2 : OS := ⟨[(⟨0, 2⟩, [120])], [([120], ⟨3, 0, 0, 0, 0, 0, 0⟩)]⟩
def k3 : OS := ⟨[(⟨0, 2⟩, [120]), (⟨0, 4⟩, [120])], [([120], ⟨3, 0, 0, 0, 0, 0, 0⟩)]⟩
def k4 : OS := ⟨[(⟨0, 2⟩, [120]), (⟨0, 4⟩, [120]), (⟨2, 1⟩, [122])], [([120], ⟨3, 0, 0, 0, 0, 0, 0⟩)]⟩
theorem k34 : sameO k3 k4 = false := by
  have hne : k3.all ≠ k4.all := fun e => by
    have : ([122] : Bs) ∈ k3.all := by
      rw [e]
      exact OS.all_mem.2 ⟨⟨2, 1⟩, by simp [k4], by rfl⟩
    obtain ⟨d, hd, _⟩ := OS.all_mem.1 this
    simp [k3] at hd
  unfold sameO
  rw [decide_eq_false hne, Bool.false_and]
set_option maxHeartbeats 4000000 in
theorem orsetKnown_walk {W : World} : callK PR F_rostrumlaw9_OrsetKnown [] (fun v W' => v = .bool true ∧ St W [] W') W := by
  apply S.rostrumlaw9_OrsetKnown.call
  unfold S.rostrumlaw9_OrsetKnown.body
  have h := St.start W
  (repeat (first | (first | (with_reducible (first | refine w1 fun _ _ => ?_ | refine w3 fun _ _ _ => ?_ | refine w4 fun _ _ _ => ?_ | refine w11 fun _ _ _ => ?_ | refine stb_n ?_)) | ((with_reducible refine w2 ?_); try simp -implicitDefEqProofs only [EN, lsub, lget, stL, beq_self_eq_true, ne_eq, if_true, if_false, List.cons_append, List.nil_append, Option.isNone_some, Option.isNone_none]; intro _ _) | ((with_reducible (first | refine w5 ?_ ?_ | refine w6 ?_ ?_ | refine w7 ?_ ?_)); simp; refine ⟨_, rfl, ?_⟩) | ((with_reducible (first | refine w8 ?_ ?_ ?_ | refine w9 ?_ ?_ ?_ | refine w10 ?_ ?_ ?_)); exact rfl; simp) | ((with_reducible refine w12 ?_ ?_ ?_ fun _ _ => ?_); simp; simp; simp [oneC]) | ((with_reducible (first | refine eqs ?_ | refine nes ?_)); refine ⟨_, rfl, ?_⟩) | ((refine okF_i (bldP_eq rfl) ?_); try simp only [BLS, List.take_succ_cons, List.take_zero, List.drop_succ_cons, List.drop_zero, List.cons_append, List.nil_append, Nat.reduceAdd])) | simp -implicitDefEqProofs only [EN, lsub, lget, stL, beq_self_eq_true, ne_eq, if_true, if_false, List.cons_append, List.nil_append, Option.isNone_some, Option.isNone_none]))
  refine orsetNew (by first | assumption | exact St.tick (by assumption) | exact St.tick (St.tick (by assumption))) fun q W1 h => ?_
  (repeat (first | (first | (with_reducible (first | refine w1 fun _ _ => ?_ | refine w3 fun _ _ _ => ?_ | refine w4 fun _ _ _ => ?_ | refine w11 fun _ _ _ => ?_ | refine stb_n ?_)) | ((with_reducible refine w2 ?_); try simp -implicitDefEqProofs only [EN, lsub, lget, stL, beq_self_eq_true, ne_eq, if_true, if_false, List.cons_append, List.nil_append, Option.isNone_some, Option.isNone_none]; intro _ _) | ((with_reducible (first | refine w5 ?_ ?_ | refine w6 ?_ ?_ | refine w7 ?_ ?_)); simp; refine ⟨_, rfl, ?_⟩) | ((with_reducible (first | refine w8 ?_ ?_ ?_ | refine w9 ?_ ?_ ?_ | refine w10 ?_ ?_ ?_)); exact rfl; simp) | ((with_reducible refine w12 ?_ ?_ ?_ fun _ _ => ?_); simp; simp; simp [oneC]) | ((with_reducible (first | refine eqs ?_ | refine nes ?_)); refine ⟨_, rfl, ?_⟩) | ((refine okF_i (bldP_eq rfl) ?_); try simp only [BLS, List.take_succ_cons, List.take_zero, List.drop_succ_cons, List.drop_zero, List.cons_append, List.nil_append, Nat.reduceAdd])) | simp -implicitDefEqProofs only [EN, lsub, lget, stL, beq_self_eq_true, ne_eq, if_true, if_false, List.cons_append, List.nil_append, Option.isNone_some, Option.isNone_none]))
  refine orsetRemove (s := OS.new) (x := [120]) (v := ⟨3, 0, 0, 0, 0, 0, 0⟩) (by first | assumption | exact St.tick (by assumption) | exact St.tick (St.tick (by assumption))) fun W2 h => ?_
  rw [show OS.new.remove [120] ⟨3, 0, 0, 0, 0, 0, 0⟩ = (k1, 0) from rfl] at h
  (repeat (first | (first | (with_reducible (first | refine w1 fun _ _ => ?_ | refine w3 fun _ _ _ => ?_ | refine w4 fun _ _ _ => ?_ | refine w11 fun _ _ _ => ?_ | refine stb_n ?_)) | ((with_reducible refine w2 ?_); try simp -implicitDefEqProofs only [EN, lsub, lget, stL, beq_self_eq_true, ne_eq, if_true, if_false, List.cons_append, List.nil_append, Option.isNone_some, Option.isNone_none]; intro _ _) | ((with_reducible (first | refine w5 ?_ ?_ | refine w6 ?_ ?_ | refine w7 ?_ ?_)); simp; refine ⟨_, rfl, ?_⟩) | ((with_reducible (first | refine w8 ?_ ?_ ?_ | refine w9 ?_ ?_ ?_ | refine w10 ?_ ?_ ?_)); exact rfl; simp) | ((with_reducible refine w12 ?_ ?_ ?_ fun _ _ => ?_); simp; simp; simp [oneC]) | ((with_reducible (first | refine eqs ?_ | refine nes ?_)); refine ⟨_, rfl, ?_⟩) | ((refine okF_i (bldP_eq rfl) ?_); try simp only [BLS, List.take_succ_cons, List.take_zero, List.drop_succ_cons, List.drop_zero, List.cons_append, List.nil_append, Nat.reduceAdd])) | simp -implicitDefEqProofs only [EN, lsub, lget, stL, beq_self_eq_true, ne_eq, if_true, if_false, List.cons_append, List.nil_append, Option.isNone_some, Option.isNone_none]))
  refine orsetAdd (s := k1) (d := ⟨0, 2⟩) (x := [120]) (by first | assumption | exact St.tick (by assumption) | exact St.tick (St.tick (by assumption))) fun W3 h => ?_
  rw [show k1.add ⟨0, 2⟩ [120] = (k2, 0) from rfl] at h ⊢
  refine orsetHas (s := k2) (x := [120]) (by first | assumption | exact St.tick (by assumption) | exact St.tick (St.tick (by assumption))) (by decide) fun W4 h => ?_
  rw [show k2.has [120] = false by rw [has_any]; rfl]
  (repeat (first | (first | (with_reducible (first | refine w1 fun _ _ => ?_ | refine w3 fun _ _ _ => ?_ | refine w4 fun _ _ _ => ?_ | refine w11 fun _ _ _ => ?_ | refine stb_n ?_)) | ((with_reducible refine w2 ?_); try simp -implicitDefEqProofs only [EN, lsub, lget, stL, beq_self_eq_true, ne_eq, if_true, if_false, List.cons_append, List.nil_append, Option.isNone_some, Option.isNone_none]; intro _ _) | ((with_reducible (first | refine w5 ?_ ?_ | refine w6 ?_ ?_ | refine w7 ?_ ?_)); simp; refine ⟨_, rfl, ?_⟩) | ((with_reducible (first | refine w8 ?_ ?_ ?_ | refine w9 ?_ ?_ ?_ | refine w10 ?_ ?_ ?_)); exact rfl; simp) | ((with_reducible refine w12 ?_ ?_ ?_ fun _ _ => ?_); simp; simp; simp [oneC]) | ((with_reducible (first | refine eqs ?_ | refine nes ?_)); refine ⟨_, rfl, ?_⟩) | ((refine okF_i (bldP_eq rfl) ?_); try simp only [BLS, List.take_succ_cons, List.take_zero, List.drop_succ_cons, List.drop_zero, List.cons_append, List.nil_append, Nat.reduceAdd])) | simp -implicitDefEqProofs only [EN, lsub, lget, stL, beq_self_eq_true, ne_eq, if_true, if_false, List.cons_append, List.nil_append, Option.isNone_some, Option.isNone_none]))
  refine orsetAdd (s := k2) (d := ⟨0, 2⟩) (x := [121]) (by first | assumption | exact St.tick (by assumption) | exact St.tick (St.tick (by assumption))) fun W5 h => ?_
  rw [show k2.add ⟨0, 2⟩ [121] = (k2, 5) from rfl] at h ⊢
  (repeat (first | (first | (with_reducible (first | refine w1 fun _ _ => ?_ | refine w3 fun _ _ _ => ?_ | refine w4 fun _ _ _ => ?_ | refine w11 fun _ _ _ => ?_ | refine stb_n ?_)) | ((with_reducible refine w2 ?_); try simp -implicitDefEqProofs only [EN, lsub, lget, stL, beq_self_eq_true, ne_eq, if_true, if_false, List.cons_append, List.nil_append, Option.isNone_some, Option.isNone_none]; intro _ _) | ((with_reducible (first | refine w5 ?_ ?_ | refine w6 ?_ ?_ | refine w7 ?_ ?_)); simp; refine ⟨_, rfl, ?_⟩) | ((with_reducible (first | refine w8 ?_ ?_ ?_ | refine w9 ?_ ?_ ?_ | refine w10 ?_ ?_ ?_)); exact rfl; simp) | ((with_reducible refine w12 ?_ ?_ ?_ fun _ _ => ?_); simp; simp; simp [oneC]) | ((with_reducible (first | refine eqs ?_ | refine nes ?_)); refine ⟨_, rfl, ?_⟩) | ((refine okF_i (bldP_eq rfl) ?_); try simp only [BLS, List.take_succ_cons, List.take_zero, List.drop_succ_cons, List.drop_zero, List.cons_append, List.nil_append, Nat.reduceAdd])) | simp -implicitDefEqProofs only [EN, lsub, lget, stL, beq_self_eq_true, ne_eq, if_true, if_false, List.cons_append, List.nil_append, Option.isNone_some, Option.isNone_none]))
  refine orsetAdd (s := k2) (d := ⟨0, 4⟩) (x := [120]) (by first | assumption | exact St.tick (by assumption) | exact St.tick (St.tick (by assumption))) fun W6 h => ?_
  rw [show k2.add ⟨0, 4⟩ [120] = (k3, 0) from rfl] at h ⊢
  refine orsetHas (s := k3) (x := [120]) (by first | assumption | exact St.tick (by assumption) | exact St.tick (St.tick (by assumption))) (by decide) fun W7 h => ?_
  rw [show k3.has [120] = true by rw [has_any]; rfl]
  (repeat (first | (first | (with_reducible (first | refine w1 fun _ _ => ?_ | refine w3 fun _ _ _ => ?_ | refine w4 fun _ _ _ => ?_ | refine w11 fun _ _ _ => ?_ | refine stb_n ?_)) | ((with_reducible refine w2 ?_); try simp -implicitDefEqProofs only [EN, lsub, lget, stL, beq_self_eq_true, ne_eq, if_true, if_false, List.cons_append, List.nil_append, Option.isNone_some, Option.isNone_none]; intro _ _) | ((with_reducible (first | refine w5 ?_ ?_ | refine w6 ?_ ?_ | refine w7 ?_ ?_)); simp; refine ⟨_, rfl, ?_⟩) | ((with_reducible (first | refine w8 ?_ ?_ ?_ | refine w9 ?_ ?_ ?_ | refine w10 ?_ ?_ ?_)); exact rfl; simp) | ((with_reducible refine w12 ?_ ?_ ?_ fun _ _ => ?_); simp; simp; simp [oneC]) | ((with_reducible (first | refine eqs ?_ | refine nes ?_)); refine ⟨_, rfl, ?_⟩) | ((refine okF_i (bldP_eq rfl) ?_); try simp only [BLS, List.take_succ_cons, List.take_zero, List.drop_succ_cons, List.drop_zero, List.cons_append, List.nil_append, Nat.reduceAdd])) | simp -implicitDefEqProofs only [EN, lsub, lget, stL, beq_self_eq_true, ne_eq, if_true, if_false, List.cons_append, List.nil_append, Option.isNone_some, Option.isNone_none]))
  refine orsetAdd (s := k3) (d := ⟨0, 0⟩) (x := [120]) (by first | assumption | exact St.tick (by assumption) | exact St.tick (St.tick (by assumption))) fun W8 h => ?_
  rw [show k3.add ⟨0, 0⟩ [120] = (k3, 1) from rfl] at h ⊢
  (repeat (first | (first | (with_reducible (first | refine w1 fun _ _ => ?_ | refine w3 fun _ _ _ => ?_ | refine w4 fun _ _ _ => ?_ | refine w11 fun _ _ _ => ?_ | refine stb_n ?_)) | ((with_reducible refine w2 ?_); try simp -implicitDefEqProofs only [EN, lsub, lget, stL, beq_self_eq_true, ne_eq, if_true, if_false, List.cons_append, List.nil_append, Option.isNone_some, Option.isNone_none]; intro _ _) | ((with_reducible (first | refine w5 ?_ ?_ | refine w6 ?_ ?_ | refine w7 ?_ ?_)); simp; refine ⟨_, rfl, ?_⟩) | ((with_reducible (first | refine w8 ?_ ?_ ?_ | refine w9 ?_ ?_ ?_ | refine w10 ?_ ?_ ?_)); exact rfl; simp) | ((with_reducible refine w12 ?_ ?_ ?_ fun _ _ => ?_); simp; simp; simp [oneC]) | ((with_reducible (first | refine eqs ?_ | refine nes ?_)); refine ⟨_, rfl, ?_⟩) | ((refine okF_i (bldP_eq rfl) ?_); try simp only [BLS, List.take_succ_cons, List.take_zero, List.drop_succ_cons, List.drop_zero, List.cons_append, List.nil_append, Nat.reduceAdd])) | simp -implicitDefEqProofs only [EN, lsub, lget, stL, beq_self_eq_true, ne_eq, if_true, if_false, List.cons_append, List.nil_append, Option.isNone_some, Option.isNone_none]))
  refine mkS (A := B8) 0 101 h rfl rfl (by decide) (by decide) fun a c W9 h => ?_
  refine b2s (a := a) (l := List.replicate 101 0) h ?_
  refine orsetAdd (s := k3) (d := ⟨0, 9⟩) (x := List.replicate 101 0) (by first | assumption | exact St.tick (by assumption) | exact St.tick (St.tick (by assumption))) fun W10 h => ?_
  rw [show k3.add ⟨0, 9⟩ (List.replicate 101 0) = (k3, 1) from if_pos (.inr (by simp))] at h ⊢
  (repeat (first | (first | (with_reducible (first | refine w1 fun _ _ => ?_ | refine w3 fun _ _ _ => ?_ | refine w4 fun _ _ _ => ?_ | refine w11 fun _ _ _ => ?_ | refine stb_n ?_)) | ((with_reducible refine w2 ?_); try simp -implicitDefEqProofs only [EN, lsub, lget, stL, beq_self_eq_true, ne_eq, if_true, if_false, List.cons_append, List.nil_append, Option.isNone_some, Option.isNone_none]; intro _ _) | ((with_reducible (first | refine w5 ?_ ?_ | refine w6 ?_ ?_ | refine w7 ?_ ?_)); simp; refine ⟨_, rfl, ?_⟩) | ((with_reducible (first | refine w8 ?_ ?_ ?_ | refine w9 ?_ ?_ ?_ | refine w10 ?_ ?_ ?_)); exact rfl; simp) | ((with_reducible refine w12 ?_ ?_ ?_ fun _ _ => ?_); simp; simp; simp [oneC]) | ((with_reducible (first | refine eqs ?_ | refine nes ?_)); refine ⟨_, rfl, ?_⟩) | ((refine okF_i (bldP_eq rfl) ?_); try simp only [BLS, List.take_succ_cons, List.take_zero, List.drop_succ_cons, List.drop_zero, List.cons_append, List.nil_append, Nat.reduceAdd])) | simp -implicitDefEqProofs only [EN, lsub, lget, stL, beq_self_eq_true, ne_eq, if_true, if_false, List.cons_append, List.nil_append, Option.isNone_some, Option.isNone_none]))
  refine orsetRemove (s := k3) (x := [120]) (v := ⟨-1, 0, 0, 0, 0, 0, 0⟩) (by first | assumption | exact St.tick (by assumption) | exact St.tick (St.tick (by assumption))) fun W11 h => ?_
  rw [show k3.remove [120] ⟨-1, 0, 0, 0, 0, 0, 0⟩ = (k3, 1) from rfl] at h ⊢
  refine orsetCopy (s := k3) (by first | assumption | exact St.tick (by assumption) | exact St.tick (St.tick (by assumption))) fun q2 W12 h => ?_
  (repeat (first | (first | (with_reducible (first | refine w1 fun _ _ => ?_ | refine w3 fun _ _ _ => ?_ | refine w4 fun _ _ _ => ?_ | refine w11 fun _ _ _ => ?_ | refine stb_n ?_)) | ((with_reducible refine w2 ?_); try simp -implicitDefEqProofs only [EN, lsub, lget, stL, beq_self_eq_true, ne_eq, if_true, if_false, List.cons_append, List.nil_append, Option.isNone_some, Option.isNone_none]; intro _ _) | ((with_reducible (first | refine w5 ?_ ?_ | refine w6 ?_ ?_ | refine w7 ?_ ?_)); simp; refine ⟨_, rfl, ?_⟩) | ((with_reducible (first | refine w8 ?_ ?_ ?_ | refine w9 ?_ ?_ ?_ | refine w10 ?_ ?_ ?_)); exact rfl; simp) | ((with_reducible refine w12 ?_ ?_ ?_ fun _ _ => ?_); simp; simp; simp [oneC]) | ((with_reducible (first | refine eqs ?_ | refine nes ?_)); refine ⟨_, rfl, ?_⟩) | ((refine okF_i (bldP_eq rfl) ?_); try simp only [BLS, List.take_succ_cons, List.take_zero, List.drop_succ_cons, List.drop_zero, List.cons_append, List.nil_append, Nat.reduceAdd])) | simp -implicitDefEqProofs only [EN, lsub, lget, stL, beq_self_eq_true, ne_eq, if_true, if_false, List.cons_append, List.nil_append, Option.isNone_some, Option.isNone_none]))
  refine orsetAdd (q := q2) (s := k3) (d := ⟨2, 1⟩) (x := [122]) (by first | assumption | exact St.tick (by assumption) | exact St.tick (St.tick (by assumption))) fun W13 h => ?_
  rw [show k3.add ⟨2, 1⟩ [122] = (k4, 0) from rfl] at h
  have f1 : decide ((1 : Int) = 1) = true := rfl
  have f5 : decide ((5 : Int) = 5) = true := rfl
  have f0 : decide ((0 : Int) = 0) = true := rfl
  (repeat (first | (first | (with_reducible (first | refine w1 fun _ _ => ?_ | refine w3 fun _ _ _ => ?_ | refine w4 fun _ _ _ => ?_ | refine w11 fun _ _ _ => ?_ | refine stb_n ?_)) | ((with_reducible refine w2 ?_); try simp -implicitDefEqProofs only [EN, lsub, lget, stL, beq_self_eq_true, ne_eq, if_true, if_false, List.cons_append, List.nil_append, Option.isNone_some, Option.isNone_none, f0, f1, f5]; intro _ _) | ((with_reducible (first | refine w5 ?_ ?_ | refine w6 ?_ ?_ | refine w7 ?_ ?_)); simp; refine ⟨_, rfl, ?_⟩) | ((with_reducible (first | refine w8 ?_ ?_ ?_ | refine w9 ?_ ?_ ?_ | refine w10 ?_ ?_ ?_)); exact rfl; simp) | ((with_reducible refine w12 ?_ ?_ ?_ fun _ _ => ?_); simp; simp; simp [oneC]) | ((with_reducible (first | refine eqs ?_ | refine nes ?_)); refine ⟨_, rfl, ?_⟩) | ((refine okF_i (bldP_eq rfl) ?_); try simp only [BLS, List.take_succ_cons, List.take_zero, List.drop_succ_cons, List.drop_zero, List.cons_append, List.nil_append, Nat.reduceAdd])) | simp -implicitDefEqProofs only [EN, lsub, lget, stL, beq_self_eq_true, ne_eq, if_true, if_false, List.cons_append, List.nil_append, Option.isNone_some, Option.isNone_none, f0, f1, f5]))
  refine orsetHas (q := q) (s := k3) (x := [122]) (by first | assumption | exact St.tick (by assumption) | exact St.tick (St.tick (by assumption))) (by decide) fun W14 h => ?_
  rw [show k3.has [122] = false by rw [has_any]; rfl]
  (repeat (first | (first | (with_reducible (first | refine w1 fun _ _ => ?_ | refine w3 fun _ _ _ => ?_ | refine w4 fun _ _ _ => ?_ | refine w11 fun _ _ _ => ?_ | refine stb_n ?_)) | ((with_reducible refine w2 ?_); try simp -implicitDefEqProofs only [EN, lsub, lget, stL, beq_self_eq_true, ne_eq, if_true, if_false, List.cons_append, List.nil_append, Option.isNone_some, Option.isNone_none]; intro _ _) | ((with_reducible (first | refine w5 ?_ ?_ | refine w6 ?_ ?_ | refine w7 ?_ ?_)); simp; refine ⟨_, rfl, ?_⟩) | ((with_reducible (first | refine w8 ?_ ?_ ?_ | refine w9 ?_ ?_ ?_ | refine w10 ?_ ?_ ?_)); exact rfl; simp) | ((with_reducible refine w12 ?_ ?_ ?_ fun _ _ => ?_); simp; simp; simp [oneC]) | ((with_reducible (first | refine eqs ?_ | refine nes ?_)); refine ⟨_, rfl, ?_⟩) | ((refine okF_i (bldP_eq rfl) ?_); try simp only [BLS, List.take_succ_cons, List.take_zero, List.drop_succ_cons, List.drop_zero, List.cons_append, List.nil_append, Nat.reduceAdd])) | simp -implicitDefEqProofs only [EN, lsub, lget, stL, beq_self_eq_true, ne_eq, if_true, if_false, List.cons_append, List.nil_append, Option.isNone_some, Option.isNone_none]))
  refine orsetHas (q := q2) (s := k4) (x := [122]) (by first | assumption | exact St.tick (by assumption) | exact St.tick (St.tick (by assumption))) (by decide) fun W15 h => ?_
  rw [show k4.has [122] = true by rw [has_any]; rfl]
  (repeat (first | (first | (with_reducible (first | refine w1 fun _ _ => ?_ | refine w3 fun _ _ _ => ?_ | refine w4 fun _ _ _ => ?_ | refine w11 fun _ _ _ => ?_ | refine stb_n ?_)) | ((with_reducible refine w2 ?_); try simp -implicitDefEqProofs only [EN, lsub, lget, stL, beq_self_eq_true, ne_eq, if_true, if_false, List.cons_append, List.nil_append, Option.isNone_some, Option.isNone_none]; intro _ _) | ((with_reducible (first | refine w5 ?_ ?_ | refine w6 ?_ ?_ | refine w7 ?_ ?_)); simp; refine ⟨_, rfl, ?_⟩) | ((with_reducible (first | refine w8 ?_ ?_ ?_ | refine w9 ?_ ?_ ?_ | refine w10 ?_ ?_ ?_)); exact rfl; simp) | ((with_reducible refine w12 ?_ ?_ ?_ fun _ _ => ?_); simp; simp; simp [oneC]) | ((with_reducible (first | refine eqs ?_ | refine nes ?_)); refine ⟨_, rfl, ?_⟩) | ((refine okF_i (bldP_eq rfl) ?_); try simp only [BLS, List.take_succ_cons, List.take_zero, List.drop_succ_cons, List.drop_zero, List.cons_append, List.nil_append, Nat.reduceAdd])) | simp -implicitDefEqProofs only [EN, lsub, lget, stL, beq_self_eq_true, ne_eq, if_true, if_false, List.cons_append, List.nil_append, Option.isNone_some, Option.isNone_none]))
  refine orsetSame (q := q) (q2 := q2) (s := k3) (t := k4) (by first | assumption | exact St.tick (by assumption) | exact St.tick (St.tick (by assumption))) (by decide) (by decide) fun W16 h => ?_
  (repeat (first | (first | (with_reducible (first | refine w1 fun _ _ => ?_ | refine w3 fun _ _ _ => ?_ | refine w4 fun _ _ _ => ?_ | refine w11 fun _ _ _ => ?_ | refine stb_n ?_)) | ((with_reducible refine w2 ?_); try simp -implicitDefEqProofs only [EN, lsub, lget, stL, beq_self_eq_true, ne_eq, if_true, if_false, List.cons_append, List.nil_append, Option.isNone_some, Option.isNone_none, k34]; intro _ _) | ((with_reducible (first | refine w5 ?_ ?_ | refine w6 ?_ ?_ | refine w7 ?_ ?_)); simp; refine ⟨_, rfl, ?_⟩) | ((with_reducible (first | refine w8 ?_ ?_ ?_ | refine w9 ?_ ?_ ?_ | refine w10 ?_ ?_ ?_)); exact rfl; simp) | ((with_reducible refine w12 ?_ ?_ ?_ fun _ _ => ?_); simp; simp; simp [oneC]) | ((with_reducible (first | refine eqs ?_ | refine nes ?_)); refine ⟨_, rfl, ?_⟩) | ((refine okF_i (bldP_eq rfl) ?_); try simp only [BLS, List.take_succ_cons, List.take_zero, List.drop_succ_cons, List.drop_zero, List.cons_append, List.nil_append, Nat.reduceAdd])) | simp -implicitDefEqProofs only [EN, lsub, lget, stL, beq_self_eq_true, ne_eq, if_true, if_false, List.cons_append, List.nil_append, Option.isNone_some, Option.isNone_none, k34]))
  refine orsetCopy (q := q) (s := k3) (by first | assumption | exact St.tick (by assumption) | exact St.tick (St.tick (by assumption))) fun q3 W17 h => ?_
  (repeat (first | (first | (with_reducible (first | refine w1 fun _ _ => ?_ | refine w3 fun _ _ _ => ?_ | refine w4 fun _ _ _ => ?_ | refine w11 fun _ _ _ => ?_ | refine stb_n ?_)) | ((with_reducible refine w2 ?_); try simp -implicitDefEqProofs only [EN, lsub, lget, stL, beq_self_eq_true, ne_eq, if_true, if_false, List.cons_append, List.nil_append, Option.isNone_some, Option.isNone_none]; intro _ _) | ((with_reducible (first | refine w5 ?_ ?_ | refine w6 ?_ ?_ | refine w7 ?_ ?_)); simp; refine ⟨_, rfl, ?_⟩) | ((with_reducible (first | refine w8 ?_ ?_ ?_ | refine w9 ?_ ?_ ?_ | refine w10 ?_ ?_ ?_)); exact rfl; simp) | ((with_reducible refine w12 ?_ ?_ ?_ fun _ _ => ?_); simp; simp; simp [oneC]) | ((with_reducible (first | refine eqs ?_ | refine nes ?_)); refine ⟨_, rfl, ?_⟩) | ((refine okF_i (bldP_eq rfl) ?_); try simp only [BLS, List.take_succ_cons, List.take_zero, List.drop_succ_cons, List.drop_zero, List.cons_append, List.nil_append, Nat.reduceAdd])) | simp -implicitDefEqProofs only [EN, lsub, lget, stL, beq_self_eq_true, ne_eq, if_true, if_false, List.cons_append, List.nil_append, Option.isNone_some, Option.isNone_none]))
  refine orsetSame (q := q) (q2 := q3) (s := k3) (t := k3) (by first | assumption | exact St.tick (by assumption) | exact St.tick (St.tick (by assumption))) (by decide) (by decide) fun W18 h => ?_
  (repeat (first | (first | (with_reducible (first | refine w1 fun _ _ => ?_ | refine w3 fun _ _ _ => ?_ | refine w4 fun _ _ _ => ?_ | refine w11 fun _ _ _ => ?_ | refine stb_n ?_)) | ((with_reducible refine w2 ?_); try simp -implicitDefEqProofs only [EN, lsub, lget, stL, beq_self_eq_true, ne_eq, if_true, if_false, List.cons_append, List.nil_append, Option.isNone_some, Option.isNone_none, sameO_self]; intro _ _) | ((with_reducible (first | refine w5 ?_ ?_ | refine w6 ?_ ?_ | refine w7 ?_ ?_)); simp; refine ⟨_, rfl, ?_⟩) | ((with_reducible (first | refine w8 ?_ ?_ ?_ | refine w9 ?_ ?_ ?_ | refine w10 ?_ ?_ ?_)); exact rfl; simp) | ((with_reducible refine w12 ?_ ?_ ?_ fun _ _ => ?_); simp; simp; simp [oneC]) | ((with_reducible (first | refine eqs ?_ | refine nes ?_)); refine ⟨_, rfl, ?_⟩) | ((refine okF_i (bldP_eq rfl) ?_); try simp only [BLS, List.take_succ_cons, List.take_zero, List.drop_succ_cons, List.drop_zero, List.cons_append, List.nil_append, Nat.reduceAdd])) | simp -implicitDefEqProofs only [EN, lsub, lget, stL, beq_self_eq_true, ne_eq, if_true, if_false, List.cons_append, List.nil_append, Option.isNone_some, Option.isNone_none, sameO_self]))
  (first | exact St.nil (by first | assumption | exact St.tick (by assumption) | exact St.tick (St.tick (by assumption))) | exact ⟨rfl, St.nil (by first | assumption | exact St.tick (by assumption) | exact St.tick (St.tick (by assumption)))⟩)
set_option maxHeartbeats 4000000 in
theorem orsetCopy_walk {W : World} {v0 v1 : Value} (h0 : GoodA W [.sl [.int .i64, .int .i64, .int .i64, .str, .int .i64, .int .i64, .int .i64, .int .i64, .int .i64, .int .i64, .int .i64]] false v0)
    (h1 : GoodA W [.int .i64, .int .i64, .int .i64, .str, .int .i64, .int .i64, .int .i64, .int .i64, .int .i64, .int .i64, .int .i64] true v1) :
    callK PR F_rostrumlaw9_OrsetCopy [v0, v1] (fun v W' => v = .bool true ∧ St W [] W') W := by
  obtain ⟨la, lc, l, rfl, hlc, hlm, hrd⟩ := openActs h0
  obtain ⟨x, rfl⟩ := openAct h1
  apply S.rostrumlaw9_OrsetCopy.call
  unfold S.rostrumlaw9_OrsetCopy.body
  refine bxa (St.start W) fun xb W1 h => ?_
  by_cases c1 : (30 : Int) < (l.length : Int)
  · (repeat (first | (first | (with_reducible (first | refine w1 fun _ _ => ?_ | refine w3 fun _ _ _ => ?_ | refine w4 fun _ _ _ => ?_ | refine w11 fun _ _ _ => ?_ | refine stb_n ?_)) | ((with_reducible refine w2 ?_); try simp -implicitDefEqProofs only [EN, lsub, lget, stL, beq_self_eq_true, ne_eq, if_true, if_false, List.cons_append, List.nil_append, Option.isNone_some, Option.isNone_none, c1]; intro _ _) | ((with_reducible (first | refine w5 ?_ ?_ | refine w6 ?_ ?_ | refine w7 ?_ ?_)); simp; refine ⟨_, rfl, ?_⟩) | ((with_reducible (first | refine w8 ?_ ?_ ?_ | refine w9 ?_ ?_ ?_ | refine w10 ?_ ?_ ?_)); exact rfl; simp) | ((with_reducible refine w12 ?_ ?_ ?_ fun _ _ => ?_); simp; simp; simp [oneC]) | ((with_reducible (first | refine eqs ?_ | refine nes ?_)); refine ⟨_, rfl, ?_⟩) | ((refine okF_i (bldP_eq rfl) ?_); try simp only [BLS, List.take_succ_cons, List.take_zero, List.drop_succ_cons, List.drop_zero, List.cons_append, List.nil_append, Nat.reduceAdd])) | simp -implicitDefEqProofs only [EN, lsub, lget, stL, beq_self_eq_true, ne_eq, if_true, if_false, List.cons_append, List.nil_append, Option.isNone_some, Option.isNone_none, c1]))
    (first | exact St.nil (by first | assumption | exact St.tick (by assumption) | exact St.tick (St.tick (by assumption))) | exact ⟨rfl, St.nil (by first | assumption | exact St.tick (by assumption) | exact St.tick (St.tick (by assumption)))⟩)
  (repeat (first | (first | (with_reducible (first | refine w1 fun _ _ => ?_ | refine w3 fun _ _ _ => ?_ | refine w4 fun _ _ _ => ?_ | refine w11 fun _ _ _ => ?_ | refine stb_n ?_)) | ((with_reducible refine w2 ?_); try simp -implicitDefEqProofs only [EN, lsub, lget, stL, beq_self_eq_true, ne_eq, if_true, if_false, List.cons_append, List.nil_append, Option.isNone_some, Option.isNone_none, c1]; intro _ _) | ((with_reducible (first | refine w5 ?_ ?_ | refine w6 ?_ ?_ | refine w7 ?_ ?_)); simp; refine ⟨_, rfl, ?_⟩) | ((with_reducible (first | refine w8 ?_ ?_ ?_ | refine w9 ?_ ?_ ?_ | refine w10 ?_ ?_ ?_)); exact rfl; simp) | ((with_reducible refine w12 ?_ ?_ ?_ fun _ _ => ?_); simp; simp; simp [oneC]) | ((with_reducible (first | refine eqs ?_ | refine nes ?_)); refine ⟨_, rfl, ?_⟩) | ((refine okF_i (bldP_eq rfl) ?_); try simp only [BLS, List.take_succ_cons, List.take_zero, List.drop_succ_cons, List.drop_zero, List.cons_append, List.nil_append, Nat.reduceAdd])) | simp -implicitDefEqProofs only [EN, lsub, lget, stL, beq_self_eq_true, ne_eq, if_true, if_false, List.cons_append, List.nil_append, Option.isNone_some, Option.isNone_none, c1]))
  refine orsetNew (by first | assumption | exact St.tick (by assumption) | exact St.tick (St.tick (by assumption))) fun q W2 h => ?_
  refine joinK_i ?_
  refine loop_c (σ := Unit) l.length (fun i _ => [.slice la l.length lc, .pointer (some ⟨xb, 0, none⟩), .pointer (some ⟨q, 0, none⟩), .int .i64 i])
    (fun i _ W1 => St W [os q ((l.take i).foldl OS.act OS.new), cells xb (ACT.row x) T_rostrumlaw9_Act] W1) () rfl (St.wk (L' := [os q OS.new, cells xb (ACT.row x) T_rostrumlaw9_Act]) h) ?_
  clear h
  rintro K i _ W3 hi h hK
  simp -implicitDefEqProofs only [EN, lsub, lget, stL, beq_self_eq_true, ne_eq, if_true, if_false, List.cons_append, List.nil_append, Option.isNone_some, Option.isNone_none]
  unfold S.rostrumlaw9_OrsetCopy.l1
  by_cases hlt : (i : Int) < (l.length : Int)
  · have hib : i < l.length := by omega
    have ew : IntKind.i64.wrap ((i : Int) + 1) = ((i + 1 : Nat) : Int) := by rw [i64w]; omega
    have hst : (l.take (i + 1)).foldl OS.act OS.new = ((l.take i).foldl OS.act OS.new).act l[i] := foldl_take _ _ _ hib
    have hJ2 : ∀ W', St W [os q (((l.take i).foldl OS.act OS.new).act l[i]), cells xb (ACT.row x) T_rostrumlaw9_Act] W' →
        S.rostrumlaw9_OrsetCopy.j2 K (.slice la l.length lc) (.pointer (some ⟨xb, 0, none⟩)) (.pointer (some ⟨q, 0, none⟩)) (.int .i64 i) W' := fun W' h => by
      unfold S.rostrumlaw9_OrsetCopy.j2
      (repeat (first | (first | (with_reducible (first | refine w1 fun _ _ => ?_ | refine w3 fun _ _ _ => ?_ | refine w4 fun _ _ _ => ?_ | refine w11 fun _ _ _ => ?_ | refine stb_n ?_)) | ((with_reducible refine w2 ?_); try simp -implicitDefEqProofs only [EN, lsub, lget, stL, beq_self_eq_true, ne_eq, if_true, if_false, List.cons_append, List.nil_append, Option.isNone_some, Option.isNone_none, ew]; intro _ _) | ((with_reducible (first | refine w5 ?_ ?_ | refine w6 ?_ ?_ | refine w7 ?_ ?_)); simp; refine ⟨_, rfl, ?_⟩) | ((with_reducible (first | refine w8 ?_ ?_ ?_ | refine w9 ?_ ?_ ?_ | refine w10 ?_ ?_ ?_)); exact rfl; simp) | ((with_reducible refine w12 ?_ ?_ ?_ fun _ _ => ?_); simp; simp; simp [oneC]) | ((with_reducible (first | refine eqs ?_ | refine nes ?_)); refine ⟨_, rfl, ?_⟩) | ((refine okF_i (bldP_eq rfl) ?_); try simp only [BLS, List.take_succ_cons, List.take_zero, List.drop_succ_cons, List.drop_zero, List.cons_append, List.nil_append, Nat.reduceAdd])) | simp -implicitDefEqProofs only [EN, lsub, lget, stL, beq_self_eq_true, ne_eq, if_true, if_false, List.cons_append, List.nil_append, Option.isNone_some, Option.isNone_none, ew]))
      refine hK () _ hib ?_
      rw [hst]; exact h
    clear hK
    obtain ⟨g, o, rfl, _⟩ := Rd.at (A := ACT) (l := l) (a := la) (St.start W) (by intro e; subst e; simp at hib)
    have ei : idxS 11 (.slice (some ⟨g, o, none⟩) l.length lc) (.int .i64 (i : Int)) = some (.pointer (some ⟨g, o + i * 11, none⟩)) := by rw [idxS_blk (by omega) (by omega), Int.toNat_natCast]
    have hrow : ro W g (o + i * 11) (ACT.row l[i]) := Rd.row (A := ACT) (l := l) (St.start W) hib
    generalize l[i] = y at *
    generalize (l.take i).foldl OS.act OS.new = s at *
    have hrow : ro W g (o + i * 11) [.int .i64 y.op, .int .i64 y.d.rep, .int .i64 y.d.n, sv y.x, .int .i64 y.v.x0, .int .i64 y.v.x1, .int .i64 y.v.x2, .int .i64 y.v.x3, .int .i64 y.v.x4, .int .i64 y.v.x5, .int .i64 y.v.x6] := hrow
    (repeat (first | (first | (with_reducible (first | refine w1 fun _ _ => ?_ | refine w3 fun _ _ _ => ?_ | refine w4 fun _ _ _ => ?_ | refine w11 fun _ _ _ => ?_ | refine stb_n ?_)) | ((with_reducible refine w2 ?_); try simp -implicitDefEqProofs only [EN, lsub, lget, stL, beq_self_eq_true, ne_eq, if_true, if_false, List.cons_append, List.nil_append, Option.isNone_some, Option.isNone_none, hlt]; intro _ _) | ((with_reducible (first | refine w5 ?_ ?_ | refine w6 ?_ ?_ | refine w7 ?_ ?_)); simp; refine ⟨_, rfl, ?_⟩) | ((with_reducible (first | refine w8 ?_ ?_ ?_ | refine w9 ?_ ?_ ?_ | refine w10 ?_ ?_ ?_)); exact rfl; simp) | ((with_reducible refine w12 ?_ ?_ ?_ fun _ _ => ?_); simp; simp; simp [oneC]) | ((with_reducible (first | refine eqs ?_ | refine nes ?_)); refine ⟨_, rfl, ?_⟩) | ((refine okF_i (bldP_eq rfl) ?_); try simp only [BLS, List.take_succ_cons, List.take_zero, List.drop_succ_cons, List.drop_zero, List.cons_append, List.nil_append, Nat.reduceAdd])) | simp -implicitDefEqProofs only [EN, lsub, lget, stL, beq_self_eq_true, ne_eq, if_true, if_false, List.cons_append, List.nil_append, Option.isNone_some, Option.isNone_none, hlt]))
    refine joinK_i ?_
    unfold OS.act at hJ2
    by_cases hop : y.op = 0
    · rw [if_pos hop] at hJ2
      have f1 := decide_eq_true hop
      (repeat (first | (first | (with_reducible (first | refine w1 fun _ _ => ?_ | refine w3 fun _ _ _ => ?_ | refine w4 fun _ _ _ => ?_ | refine w11 fun _ _ _ => ?_ | refine stb_n ?_)) | ((with_reducible refine w2 ?_); try simp -implicitDefEqProofs only [EN, lsub, lget, stL, beq_self_eq_true, ne_eq, if_true, if_false, List.cons_append, List.nil_append, Option.isNone_some, Option.isNone_none, ei, f1]; intro _ _) | ((with_reducible (first | refine w5 ?_ ?_ | refine w6 ?_ ?_ | refine w7 ?_ ?_)); simp; refine ⟨_, rfl, ?_⟩) | ((with_reducible (first | refine w8 ?_ ?_ ?_ | refine w9 ?_ ?_ ?_ | refine w10 ?_ ?_ ?_)); exact rfl; simp) | ((with_reducible refine w12 ?_ ?_ ?_ fun _ _ => ?_); simp; simp; simp [oneC]) | ((with_reducible (first | refine eqs ?_ | refine nes ?_)); refine ⟨_, rfl, ?_⟩) | ((refine okF_i (bldP_eq rfl) ?_); try simp only [BLS, List.take_succ_cons, List.take_zero, List.drop_succ_cons, List.drop_zero, List.cons_append, List.nil_append, Nat.reduceAdd])) | simp -implicitDefEqProofs only [EN, lsub, lget, stL, beq_self_eq_true, ne_eq, if_true, if_false, List.cons_append, List.nil_append, Option.isNone_some, Option.isNone_none, ei, f1]))
      refine orsetAdd (s := s) (d := y.d) (x := y.x) (by first | assumption | exact St.tick (by assumption) | exact St.tick (St.tick (by assumption))) fun W4 h => ?_
      exact hJ2 _ h
    · rw [if_neg hop] at hJ2
      have f1 := decide_eq_false hop
      (repeat (first | (first | (with_reducible (first | refine w1 fun _ _ => ?_ | refine w3 fun _ _ _ => ?_ | refine w4 fun _ _ _ => ?_ | refine w11 fun _ _ _ => ?_ | refine stb_n ?_)) | ((with_reducible refine w2 ?_); try simp -implicitDefEqProofs only [EN, lsub, lget, stL, beq_self_eq_true, ne_eq, if_true, if_false, List.cons_append, List.nil_append, Option.isNone_some, Option.isNone_none, ei, f1]; intro _ _) | ((with_reducible (first | refine w5 ?_ ?_ | refine w6 ?_ ?_ | refine w7 ?_ ?_)); simp; refine ⟨_, rfl, ?_⟩) | ((with_reducible (first | refine w8 ?_ ?_ ?_ | refine w9 ?_ ?_ ?_ | refine w10 ?_ ?_ ?_)); exact rfl; simp) | ((with_reducible refine w12 ?_ ?_ ?_ fun _ _ => ?_); simp; simp; simp [oneC]) | ((with_reducible (first | refine eqs ?_ | refine nes ?_)); refine ⟨_, rfl, ?_⟩) | ((refine okF_i (bldP_eq rfl) ?_); try simp only [BLS, List.take_succ_cons, List.take_zero, List.drop_succ_cons, List.drop_zero, List.cons_append, List.nil_append, Nat.reduceAdd])) | simp -implicitDefEqProofs only [EN, lsub, lget, stL, beq_self_eq_true, ne_eq, if_true, if_false, List.cons_append, List.nil_append, Option.isNone_some, Option.isNone_none, ei, f1]))
      refine orsetRemove (s := s) (x := y.x) (v := y.v) (by first | assumption | exact St.tick (by assumption) | exact St.tick (St.tick (by assumption))) fun W4 h => ?_
      exact hJ2 _ h
  · (repeat (first | (first | (with_reducible (first | refine w1 fun _ _ => ?_ | refine w3 fun _ _ _ => ?_ | refine w4 fun _ _ _ => ?_ | refine w11 fun _ _ _ => ?_ | refine stb_n ?_)) | ((with_reducible refine w2 ?_); try simp -implicitDefEqProofs only [EN, lsub, lget, stL, beq_self_eq_true, ne_eq, if_true, if_false, List.cons_append, List.nil_append, Option.isNone_some, Option.isNone_none, hlt]; intro _ _) | ((with_reducible (first | refine w5 ?_ ?_ | refine w6 ?_ ?_ | refine w7 ?_ ?_)); simp; refine ⟨_, rfl, ?_⟩) | ((with_reducible (first | refine w8 ?_ ?_ ?_ | refine w9 ?_ ?_ ?_ | refine w10 ?_ ?_ ?_)); exact rfl; simp) | ((with_reducible refine w12 ?_ ?_ ?_ fun _ _ => ?_); simp; simp; simp [oneC]) | ((with_reducible (first | refine eqs ?_ | refine nes ?_)); refine ⟨_, rfl, ?_⟩) | ((refine okF_i (bldP_eq rfl) ?_); try simp only [BLS, List.take_succ_cons, List.take_zero, List.drop_succ_cons, List.drop_zero, List.cons_append, List.nil_append, Nat.reduceAdd])) | simp -implicitDefEqProofs only [EN, lsub, lget, stL, beq_self_eq_true, ne_eq, if_true, if_false, List.cons_append, List.nil_append, Option.isNone_some, Option.isNone_none, hlt]))
    rw [List.take_of_length_le (by omega)] at h
    have hok := acts_ok l OS.new OS.ok.new
    generalize l.foldl OS.act OS.new = s at *
    have hl : s.added.length ≤ 30 := by have := hok.2; simp only [OS.new, List.length_nil] at this; omega
    unfold S.rostrumlaw9_OrsetCopy.j1
    have h : St W [os q s, cells xb [.int .i64 x.op, .int .i64 x.d.rep, .int .i64 x.d.n, sv x.x, .int .i64 x.v.x0, .int .i64 x.v.x1, .int .i64 x.v.x2, .int .i64 x.v.x3, .int .i64 x.v.x4, .int .i64 x.v.x5, .int .i64 x.v.x6] T_rostrumlaw9_Act] W3 := h
    refine orsetPut (s := s) (by first | assumption | exact St.tick (by assumption) | exact St.tick (St.tick (by assumption))) hok.1 (by omega) fun a c W4 h => ?_
    refine b2s (a := a) (l := s.put) h ?_
    refine orsetCopy (s := s) (q := q) (by first | assumption | exact St.tick (by assumption) | exact St.tick (St.tick (by assumption))) fun q2 W5 h => ?_
    refine orsetSame (q := q) (q2 := q2) (s := s) (t := s) (by first | assumption | exact St.tick (by assumption) | exact St.tick (St.tick (by assumption))) (by omega) (by omega) fun W6 h => ?_
    (repeat (first | (first | (with_reducible (first | refine w1 fun _ _ => ?_ | refine w3 fun _ _ _ => ?_ | refine w4 fun _ _ _ => ?_ | refine w11 fun _ _ _ => ?_ | refine stb_n ?_)) | ((with_reducible refine w2 ?_); try simp -implicitDefEqProofs only [EN, lsub, lget, stL, beq_self_eq_true, ne_eq, if_true, if_false, List.cons_append, List.nil_append, Option.isNone_some, Option.isNone_none, sameO_self]; intro _ _) | ((with_reducible (first | refine w5 ?_ ?_ | refine w6 ?_ ?_ | refine w7 ?_ ?_)); simp; refine ⟨_, rfl, ?_⟩) | ((with_reducible (first | refine w8 ?_ ?_ ?_ | refine w9 ?_ ?_ ?_ | refine w10 ?_ ?_ ?_)); exact rfl; simp) | ((with_reducible refine w12 ?_ ?_ ?_ fun _ _ => ?_); simp; simp; simp [oneC]) | ((with_reducible (first | refine eqs ?_ | refine nes ?_)); refine ⟨_, rfl, ?_⟩) | ((refine okF_i (bldP_eq rfl) ?_); try simp only [BLS, List.take_succ_cons, List.take_zero, List.drop_succ_cons, List.drop_zero, List.cons_append, List.nil_append, Nat.reduceAdd])) | simp -implicitDefEqProofs only [EN, lsub, lget, stL, beq_self_eq_true, ne_eq, if_true, if_false, List.cons_append, List.nil_append, Option.isNone_some, Option.isNone_none, sameO_self]))
    refine orsetAdd (q := q2) (s := s) (d := x.d) (x := x.x) (by first | assumption | exact St.tick (by assumption) | exact St.tick (St.tick (by assumption))) fun W7 h => ?_
    (repeat (first | (first | (with_reducible (first | refine w1 fun _ _ => ?_ | refine w3 fun _ _ _ => ?_ | refine w4 fun _ _ _ => ?_ | refine w11 fun _ _ _ => ?_ | refine stb_n ?_)) | ((with_reducible refine w2 ?_); try simp -implicitDefEqProofs only [EN, lsub, lget, stL, beq_self_eq_true, ne_eq, if_true, if_false, List.cons_append, List.nil_append, Option.isNone_some, Option.isNone_none]; intro _ _) | ((with_reducible (first | refine w5 ?_ ?_ | refine w6 ?_ ?_ | refine w7 ?_ ?_)); simp; refine ⟨_, rfl, ?_⟩) | ((with_reducible (first | refine w8 ?_ ?_ ?_ | refine w9 ?_ ?_ ?_ | refine w10 ?_ ?_ ?_)); exact rfl; simp) | ((with_reducible refine w12 ?_ ?_ ?_ fun _ _ => ?_); simp; simp; simp [oneC]) | ((with_reducible (first | refine eqs ?_ | refine nes ?_)); refine ⟨_, rfl, ?_⟩) | ((refine okF_i (bldP_eq rfl) ?_); try simp only [BLS, List.take_succ_cons, List.take_zero, List.drop_succ_cons, List.drop_zero, List.cons_append, List.nil_append, Nat.reduceAdd])) | simp -implicitDefEqProofs only [EN, lsub, lget, stL, beq_self_eq_true, ne_eq, if_true, if_false, List.cons_append, List.nil_append, Option.isNone_some, Option.isNone_none]))
    refine orsetCopy (s := s) (q := q) (by first | assumption | exact St.tick (by assumption) | exact St.tick (St.tick (by assumption))) fun q3 W8 h => ?_
    (repeat (first | (first | (with_reducible (first | refine w1 fun _ _ => ?_ | refine w3 fun _ _ _ => ?_ | refine w4 fun _ _ _ => ?_ | refine w11 fun _ _ _ => ?_ | refine stb_n ?_)) | ((with_reducible refine w2 ?_); try simp -implicitDefEqProofs only [EN, lsub, lget, stL, beq_self_eq_true, ne_eq, if_true, if_false, List.cons_append, List.nil_append, Option.isNone_some, Option.isNone_none]; intro _ _) | ((with_reducible (first | refine w5 ?_ ?_ | refine w6 ?_ ?_ | refine w7 ?_ ?_)); simp; refine ⟨_, rfl, ?_⟩) | ((with_reducible (first | refine w8 ?_ ?_ ?_ | refine w9 ?_ ?_ ?_ | refine w10 ?_ ?_ ?_)); exact rfl; simp) | ((with_reducible refine w12 ?_ ?_ ?_ fun _ _ => ?_); simp; simp; simp [oneC]) | ((with_reducible (first | refine eqs ?_ | refine nes ?_)); refine ⟨_, rfl, ?_⟩) | ((refine okF_i (bldP_eq rfl) ?_); try simp only [BLS, List.take_succ_cons, List.take_zero, List.drop_succ_cons, List.drop_zero, List.cons_append, List.nil_append, Nat.reduceAdd])) | simp -implicitDefEqProofs only [EN, lsub, lget, stL, beq_self_eq_true, ne_eq, if_true, if_false, List.cons_append, List.nil_append, Option.isNone_some, Option.isNone_none]))
    refine orsetAdd (q := q3) (s := s) (d := x.d) (x := x.x) (by first | assumption | exact St.tick (by assumption) | exact St.tick (St.tick (by assumption))) fun W9 h => ?_
    (repeat (first | (first | (with_reducible (first | refine w1 fun _ _ => ?_ | refine w3 fun _ _ _ => ?_ | refine w4 fun _ _ _ => ?_ | refine w11 fun _ _ _ => ?_ | refine stb_n ?_)) | ((with_reducible refine w2 ?_); try simp -implicitDefEqProofs only [EN, lsub, lget, stL, beq_self_eq_true, ne_eq, if_true, if_false, List.cons_append, List.nil_append, Option.isNone_some, Option.isNone_none, eq_self]; intro _ _) | ((with_reducible (first | refine w5 ?_ ?_ | refine w6 ?_ ?_ | refine w7 ?_ ?_)); simp; refine ⟨_, rfl, ?_⟩) | ((with_reducible (first | refine w8 ?_ ?_ ?_ | refine w9 ?_ ?_ ?_ | refine w10 ?_ ?_ ?_)); exact rfl; simp) | ((with_reducible refine w12 ?_ ?_ ?_ fun _ _ => ?_); simp; simp; simp [oneC]) | ((with_reducible (first | refine eqs ?_ | refine nes ?_)); refine ⟨_, rfl, ?_⟩) | ((refine okF_i (bldP_eq rfl) ?_); try simp only [BLS, List.take_succ_cons, List.take_zero, List.drop_succ_cons, List.drop_zero, List.cons_append, List.nil_append, Nat.reduceAdd])) | simp -implicitDefEqProofs only [EN, lsub, lget, stL, beq_self_eq_true, ne_eq, if_true, if_false, List.cons_append, List.nil_append, Option.isNone_some, Option.isNone_none, eq_self]))
    refine orsetRemove (q := q2) (s := (s.add x.d x.x).1) (x := x.x) (v := x.v) (by first | assumption | exact St.tick (by assumption) | exact St.tick (St.tick (by assumption))) fun W10 h => ?_
    refine orsetPut (q := q) (s := s) (by first | assumption | exact St.tick (by assumption) | exact St.tick (St.tick (by assumption))) hok.1 (by omega) fun a2 c2 W11 h => ?_
    refine b2s (a := a2) (l := s.put) h ?_
    (repeat (first | (first | (with_reducible (first | refine w1 fun _ _ => ?_ | refine w3 fun _ _ _ => ?_ | refine w4 fun _ _ _ => ?_ | refine w11 fun _ _ _ => ?_ | refine stb_n ?_)) | ((with_reducible refine w2 ?_); try simp -implicitDefEqProofs only [EN, lsub, lget, stL, beq_self_eq_true, ne_eq, if_true, if_false, List.cons_append, List.nil_append, Option.isNone_some, Option.isNone_none, eq_self]; intro _ _) | ((with_reducible (first | refine w5 ?_ ?_ | refine w6 ?_ ?_ | refine w7 ?_ ?_)); simp; refine ⟨_, rfl, ?_⟩) | ((with_reducible (first | refine w8 ?_ ?_ ?_ | refine w9 ?_ ?_ ?_ | refine w10 ?_ ?_ ?_)); exact rfl; simp) | ((with_reducible refine w12 ?_ ?_ ?_ fun _ _ => ?_); simp; simp; simp [oneC]) | ((with_reducible (first | refine eqs ?_ | refine nes ?_)); refine ⟨_, rfl, ?_⟩) | ((refine okF_i (bldP_eq rfl) ?_); try simp only [BLS, List.take_succ_cons, List.take_zero, List.drop_succ_cons, List.drop_zero, List.cons_append, List.nil_append, Nat.reduceAdd])) | simp -implicitDefEqProofs only [EN, lsub, lget, stL, beq_self_eq_true, ne_eq, if_true, if_false, List.cons_append, List.nil_append, Option.isNone_some, Option.isNone_none, eq_self]))
    (first | exact St.nil (by first | assumption | exact St.tick (by assumption) | exact St.tick (St.tick (by assumption))) | exact ⟨rfl, St.nil (by first | assumption | exact St.tick (by assumption) | exact St.tick (St.tick (by assumption)))⟩)
end Go.Proofs.Ytmojfpaagokckaa
