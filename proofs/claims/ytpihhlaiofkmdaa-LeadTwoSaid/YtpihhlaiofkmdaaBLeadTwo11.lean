/- Texts of the claim LeadTwo, joined: Opn, Opn2, LLead, PFast, PNoop, PSlow, PTwo. -/
import Derived.Test.YtpihhlaiofkmdaaBLeadTwo2
import Derived.Deep.Slices
import Derived.OpenShut
import Derived.ShutString
import Derived.ChangeOld
import Derived.Carry
import Derived.Test.YtpihhlaiofkmdaaBLeadTwo10
namespace Go.Eng
set_option linter.unusedVariables false
set_option linter.unusedSimpArgs false
open Go Go.RowKit Go.ChangeShapes Go.WideShapes Go.Deep

inductive Cl where
  | int (k : IntKind)
  | str
  | bool
  | sl (e : List Cl)

mutual
inductive GoodC (W : World) : Cl → Value → Prop where
  | int {k : IntKind} {n : Int} (h : (Lit.int k n).wf = true) : GoodC W (.int k) (.int k n)
  | str {s : ByteArray} (h : s.size ≤ maxLen) : GoodC W .str (.string s)
  | bool {b : Bool} : GoodC W .bool (.bool b)
  | sl {e : List Cl} {a : Option Addr} {n c : Nat} (rows : Nat → List Value) (hc : n ≤ c) (hm : c ≤ maxLen) (hn : a = none → c = 0)
      (hr : ∀ i, i < n → ∃ b o, a = some ⟨b, o, none⟩ ∧ ro W b (o + i * e.length) (rows i)) (hg : ∀ i, i < n → GoodL W e (rows i)) : GoodC W (.sl e) (.slice a n c)
inductive GoodL (W : World) : List Cl → List Value → Prop where
  | nil : GoodL W [] []
  | cons {c : Cl} {cs : List Cl} {v : Value} {vs : List Value} (h : GoodC W c v) (hs : GoodL W cs vs) : GoodL W (c :: cs) (v :: vs)
end

theorem GoodL.app {W : World} : ∀ {l : List Cl} {vs : List Value} {l' : List Cl} {vs' : List Value}, GoodL W l vs → GoodL W l' vs' → GoodL W (l ++ l') (vs ++ vs')
  | _, _, _, _, .nil, h => h
  | _, _, _, _, .cons h hs, h' => .cons h (hs.app h')
theorem GoodL.len {W : World} : ∀ {l : List Cl} {vs : List Value}, GoodL W l vs → vs.length = l.length
  | _, _, .nil => rfl
  | _, _, .cons h hs => by simp [hs.len]

def clF (P : Program) (g : TypeId → Option (List Cl)) : List Field → Nat → Option (List Cl)
  | [], _ => some []
  | f :: r, off => match Nat.beq f.offset off with
    | false => none
    | true => match g f.type with
      | some ks => match Nat.beq (P.cellsOf f.type) ks.length with
        | true => (match clF P g r (off + ks.length) with | some l => some (ks ++ l) | none => none)
        | false => none
      | none => none
/-- the cells of a type -/
def cls (P : Program) : Nat → TypeId → Option (List Cl)
  | 0, _ => none
  | d + 1, t => match P.underlying t with
    | some (.int k) => some [.int k]
    | some .string => some [.str]
    | some .bool => some [.bool]
    | some (.slice e) => (match cls P d e with | some l => (match Nat.beq (P.cellsOf e) l.length && !Nat.beq l.length 0 with | true => some [.sl l] | false => none) | none => none)
    | some (.struct fs) => (match clF P (cls P d) fs.toList 0 with | some l => (match Nat.beq (P.cellsOf t) l.length with | true => some l | false => none) | none => none)
    | some (.array n e) => (match cls P d e with | some l => (match Nat.beq (P.cellsOf e) l.length && Nat.beq (P.cellsOf t) (n * l.length) with | true => some (List.replicate n l).flatten | false => none) | none => none)
    | _ => none

section
variable {P : Program} {w : World} {H : Type} {enc : TypeId × Value → H}

theorem good_fields {g : TypeId → Option (List Cl)} {n : Nat} {cs : List Value}
    (hg : ∀ t l, g t = some l → ∀ cs x, DataW.trod enc P w 0 (fun _ => true) true n t cs = some x → GoodL w l cs) :
    ∀ (fs : List Field) (off : Nat) (l : List Cl), clF P g fs off = some l → (∀ f ∈ fs, ∃ x, DataW.trod enc P w 0 (fun _ => true) true n f.type ((cs.drop f.offset).take (P.cellsOf f.type)) = some x) →
      GoodL w l ((cs.drop off).take l.length)
  | [], off, l, h, _ => by simp only [clF, Option.some.injEq] at h; subst h; simpa using GoodL.nil
  | f :: fs, off, l, h, hx => by
    simp only [clF] at h
    split at h
    · cases h
    · rename_i ho
      have ho := Nat.eq_of_beq_eq_true ho
      split at h
      · rename_i ks hks
        split at h
        · rename_i hsz
          have hsz := Nat.eq_of_beq_eq_true hsz
          split at h
          · rename_i l' hl'
            simp only [Option.some.injEq] at h
            subst h
            obtain ⟨x, hx0⟩ := hx f (by simp)
            rw [hsz, ho] at hx0
            have h1 := hg _ _ hks _ _ hx0
            have h2 := good_fields hg fs _ _ hl' (fun f' hf' => hx f' (List.mem_cons_of_mem _ hf'))
            have := h1.app h2
            rw [← List.drop_drop, ← List.take_add] at this
            simpa using this
          · cases h
        · cases h
      · cases h

theorem open_cls : ∀ (m : Nat) (t : TypeId) (l : List Cl), cls P m t = some l → ∀ (fuel : Nat) (cs : List Value) (x : DataW H × List MemPlace), DataW.trod enc P w 0 (fun _ => true) true fuel t cs = some x → GoodL w l cs
  | 0, _, _, h => by simp [cls] at h
  | m + 1, t, l, h => by
    intro fuel cs x hx
    simp only [cls] at h
    cases ht : P.underlying t with
    | none => rw [ht] at h; cases h
    | some d =>
      rw [ht] at h
      cases d <;> simp only at h <;> try (cases h; done)
      case int k =>
        simp only [Option.some.injEq] at h
        subst h
        obtain ⟨n, rfl, _, hw⟩ := DataW.trod_int ht hx
        exact .cons (.int hw) .nil
      case string =>
        simp only [Option.some.injEq] at h
        subst h
        obtain ⟨n, rfl, _, hw⟩ := DataW.trod_string ht hx
        exact .cons (.str hw) .nil
      case bool =>
        simp only [Option.some.injEq] at h
        subst h
        obtain ⟨n, rfl, _⟩ := DataW.trod_bool ht hx
        exact .cons .bool .nil
      case slice e =>
        split at h
        · rename_i le hle
          split at h
          · rename_i hb
            simp only [Bool.and_eq_true, Bool.not_eq_true'] at hb
            have hsz := Nat.eq_of_beq_eq_true hb.1
            have hpos : 0 < le.length := Nat.pos_of_ne_zero fun e => by rw [e] at hb; simp at hb
            simp only [Option.some.injEq] at h
            subst h
            rcases open_slice ht hx with ⟨rfl, _⟩ | ⟨a, len, cap, mm, n, D, Pl, rfl, hb0, hl, hmx, hmm, rfl, hel⟩
            · exact .cons (.sl (fun _ => []) (by omega) (by simp [maxLen]) (fun _ => rfl) (fun i hi => by omega) (fun i hi => by omega)) .nil
            · simp only [if_true] at hmm
              subst hmm
              rw [hsz] at hel
              obtain ⟨rows, hrows⟩ := choose_lt (α := List Value) (p := fun i cs' => w.cells? 0 (a.add (i * le.length)) le.length = some cs' ∧ DataW.trod enc P w 0 (fun _ => true) true n e cs' = some (D i, Pl i)) hel
              refine .cons (.sl rows hl hmx (fun h => by cases h) (fun i hi => ?_) (fun i hi => open_cls m e le hle n _ _ (hrows i (by omega)).2)) .nil
              obtain ⟨_, hlen0, hcell0⟩ := World.cells?_some (hrows 0 (by omega)).1
              obtain ⟨_, hlen, hcell⟩ := World.cells?_some (hrows i (by omega)).1
              have h0 : ∃ v, w.cell? a = some v := by
                have := hcell0 0 hpos
                simp only [Nat.zero_mul, Addr.add, if_true] at this
                rw [this]
                exact ⟨(rows 0)[0]'(by omega), by simp⟩
              obtain ⟨v, hv⟩ := h0
              have hsp := World.cell?_spot hv
              obtain ⟨ab, ao, asp⟩ := a
              simp only at hsp
              subst hsp
              refine ⟨ab, ao, rfl, fun j hj => ?_⟩
              have := hcell j (by omega)
              rw [add_none, add_none] at this
              exact this
          · cases h
        · cases h
      case struct fs =>
        split at h
        · rename_i l' hl'
          split at h
          · rename_i hsz
            have hsz := Nat.eq_of_beq_eq_true hsz
            simp only [Option.some.injEq] at h
            subst h
            obtain ⟨xs, n, rfl, rfl, hlen, hxs, hf⟩ := DataW.trod_struct ht hx
            have := good_fields (cs := cs) (fun t l hl cs x hx => open_cls m t l hl n cs x hx) fs.toList 0 l' hl' (fun f hf' => by
              obtain ⟨i, hi, rfl⟩ := List.getElem_of_mem hf'
              have hi' : i < fs.size := by simpa using hi
              have := hf i fs[i] (by simp [hi'])
              rw [show fs.toList[i] = fs[i] by simp, this]
              exact ⟨xs[i]'(by omega), by simp⟩)
            rw [← hsz, ← hlen] at this
            simpa using this
          · cases h
        · cases h
      case array k e =>
        split at h
        · rename_i le hle
          split at h
          · rename_i hb
            simp only [Bool.and_eq_true] at hb
            have hsz := Nat.eq_of_beq_eq_true hb.1
            have hsz2 := Nat.eq_of_beq_eq_true hb.2
            simp only [Option.some.injEq] at h
            subst h
            obtain ⟨xs, n, rfl, rfl, hlen, hxs, hf⟩ := DataW.trod_array ht hx
            rw [hsz2] at hlen
            rw [hsz] at hf
            have key : ∀ j, j ≤ k → GoodL w (List.replicate j le).flatten (cs.take (j * le.length)) := by
              intro j
              induction j with
              | zero => intro _; simpa using GoodL.nil
              | succ j ih =>
                intro hj
                have h1 := hf j (by omega)
                have h2 : GoodL w le ((cs.drop (j * le.length)).take le.length) := by
                  refine open_cls m e le hle n _ (xs[j]'(by omega)) ?_
                  rw [h1]; simp
                have := (ih (by omega)).app h2
                rw [← List.take_add] at this
                rw [List.replicate_succ', List.flatten_append, Nat.succ_mul]
                simpa using this
            have := key k (Nat.le_refl _)
            rw [← hlen] at this
            simpa using this
          · cases h
        · cases h

/-- an argument of a law -/
def GoodA (w : World) (l : List Cl) (agg : Bool) (v : Value) : Prop := GoodL w l (vcells v) ∧ (agg = true → ∃ cs : List Value, v = .agg cs.toArray) ∧ (agg = false → vcells v = [v])
theorem open_arg {t : TypeId} {l : List Cl} {agg : Bool} {m : Nat} {v : Value} {d : DataW H} {ps : List MemPlace} {r : Reach} {b0 : Nat} (hl : cls P m t = some l) (ha : (P.underlying t).map aggB = some agg)
    (hval : Value.okWide P w r b0 t v) (h : DataW.Trod enc P w 0 (fun _ => true) true t v d ps) : GoodA w l agg v := by
  obtain ⟨fuel, hf⟩ := h
  obtain ⟨u, hu, hu'⟩ := Option.map_eq_some_iff.1 ha
  refine ⟨by have := open_cls m t l hl _ _ _ hf; rwa [vcells_eq] at this, fun hagg => ?_, fun hagg => ?_⟩
  · subst hagg
    cases u <;> simp only [aggB] at hu' <;> try (cases hu'; done)
    case struct fs =>
      obtain ⟨cs, rfl, _⟩ := okWide_struct hu hval
      exact ⟨cs.toList, rfl⟩
    case array n e =>
      simp only [Value.okWide, hu] at hval
      cases v <;> simp_all
      exact ⟨_, (Array.toArray_toList).symm⟩
  · subst hagg
    cases m with
    | zero => simp [cls] at hl
    | succ m =>
      simp only [cls, hu] at hl
      cases u <;> simp only [aggB] at hu' <;> simp only at hl <;> try (first | (cases hu'; done) | (cases hl; done))
      case int k => obtain ⟨n, rfl⟩ := okWide_int hu hval; rfl
      case string => obtain ⟨n, rfl⟩ := okWide_string hu hval; rfl
      case bool => obtain ⟨n, rfl⟩ := okWide_bool hu hval; rfl
      case slice e => obtain ⟨a, b, c, rfl⟩ := okWide_slice hu hval; rfl
theorem GoodL.cons' {c : Cl} {cs : List Cl} {vs : List Value} (h : GoodL w (c :: cs) vs) : ∃ v vs', vs = v :: vs' ∧ GoodC w c v ∧ GoodL w cs vs' := by
  cases h with | cons h1 h2 => exact ⟨_, _, rfl, h1, h2⟩
theorem GoodL.nil' {vs : List Value} (h : GoodL w [] vs) : vs = [] := by cases h; rfl
theorem GoodA.one {c : Cl} {v : Value} (h : GoodA w [c] false v) : GoodC w c v := by
  obtain ⟨h1, _, h2⟩ := h
  rw [h2 rfl] at h1
  cases h1 with | cons h _ => exact h
theorem GoodC.int' {k : IntKind} {v : Value} (h : GoodC w (.int k) v) : ∃ n, v = .int k n ∧ (Lit.int k n).wf = true := by
  cases h with | int h => exact ⟨_, rfl, h⟩
theorem GoodC.str' {v : Value} (h : GoodC w .str v) : ∃ s : ByteArray, v = .string s ∧ s.size ≤ maxLen := by
  cases h with | str h => exact ⟨_, rfl, h⟩
theorem GoodC.bool' {v : Value} (h : GoodC w .bool v) : ∃ b, v = .bool b := by
  cases h with | bool => exact ⟨_, rfl⟩
/-- a slice whose rows are of a kind -/
theorem GoodC.sl' {e : List Cl} {v : Value} {α : Type} [Inhabited α] {q : α → List Value → Prop} (h : GoodC w (.sl e) v) (hq : ∀ vs, GoodL w e vs → ∃ a, q a vs) :
    ∃ a n c, ∃ A : Nat → α, v = .slice a n c ∧ n ≤ c ∧ c ≤ maxLen ∧ (a = none → c = 0) ∧ ∀ i, i < n → ∃ b o vs, a = some ⟨b, o, none⟩ ∧ ro w b (o + i * e.length) vs ∧ q (A i) vs := by
  cases h with
  | sl rows hc hm hn hr hg =>
    obtain ⟨A, hA⟩ := choose_lt fun i hi => hq _ (hg i hi)
    exact ⟨_, _, _, A, rfl, hc, hm, hn, fun i hi => let ⟨b, o, h1, h2⟩ := hr i hi; ⟨b, o, rows i, h1, h2, hA i hi⟩⟩
theorem keep_all (hl : laidOutB P = true) : ∀ {ts : List TypeId} {vs : List Value} {ds : List (DataW H)} {ps : List MemPlace} {W W' : World}, ts.all (fun t => P.readableRec t && decide (t < P.types.size)) = true →
    DataW.TrodAll enc P W 0 (fun _ => true) true ts vs ds ps → Below W.heap.size W W' → DataW.TrodAll enc P W' 0 (fun b => decide (b < W.heap.size)) true ts vs ds ps
  | [], [], [], _, _, _, _, h, _ => h
  | [], [], _ :: _, _, _, _, _, h, _ => h.elim
  | [], _ :: _, _, _, _, _, _, h, _ => h.elim
  | _ :: _, [], _, _, _, _, _, h, _ => h.elim
  | _ :: _, _ :: _, [], _, _, _, _, h, _ => h.elim
  | t :: ts, v :: vs, d :: ds, ps, W, W', ha, h, hb => by
    obtain ⟨p, q, h1, h2, rfl⟩ := h
    simp only [List.all_cons, Bool.and_eq_true, decide_eq_true_eq] at ha
    have lt : ∀ x ∈ p, x.block < W.heap.size := by obtain ⟨m, hm⟩ := h1; exact DataW.trod_lt m _ _ _ hm
    exact ⟨p, q, Below.trod hl ha.1.1 ha.1.2 h1 hb lt, keep_all hl ha.2 h2 hb, rfl⟩
end
end Go.Eng
namespace Go.Eng
set_option linter.unusedVariables false
set_option linter.unusedSimpArgs false
open Go Go.RowKit

theorem wf64 {n : Int} (h : (Lit.int .i64 n).wf = true) : -9223372036854775808 ≤ n ∧ n ≤ 9223372036854775807 := by
  simp only [Lit.wf, Bool.and_eq_true, decide_eq_true_eq] at h
  exact h
theorem wf8 {n : Int} (h : (Lit.int .u8 n).wf = true) : 0 ≤ n ∧ n ≤ 255 := by
  simp only [Lit.wf, Bool.and_eq_true, decide_eq_true_eq] at h
  exact h
theorem ro_rows {α : Type} {A : Ly α} {w : World} {b o : Nat} : ∀ (l : List α), (∀ i (hi : i < l.length), ro w b (o + i * A.sz) (A.row l[i])) → ro w b o (A.rows l) := by
  intro l h j hj
  rw [Ly.rows_len] at hj
  have hp := A.pos
  have hi : j / A.sz < l.length := Nat.div_lt_of_lt_mul (by rw [Nat.mul_comm]; exact hj)
  have hr : j % A.sz < A.sz := Nat.mod_lt _ hp
  have h1 := h _ hi (j % A.sz) (by rw [A.len]; exact hr)
  have e : o + j / A.sz * A.sz + j % A.sz = o + j := by rw [Nat.add_assoc, Nat.div_add_mod']
  rw [e] at h1
  rw [h1, ← Ly.rows_at hi, List.getElem?_take_of_lt hr, List.getElem?_drop, Nat.div_add_mod']
theorem openArr {α : Type} [Inhabited α] (A : Ly α) {e : List Cl} (p : α → Prop) {w : World} {v : Value} (h : GoodC w (.sl e) v) (he : e.length = A.sz) (hq : ∀ vs, GoodL w e vs → ∃ a, vs = A.row a ∧ p a) :
    ∃ (a : Option Addr) (c : Nat) (l : List α), v = .slice a l.length c ∧ l.length ≤ c ∧ c ≤ maxLen ∧ Rd w [] a A l ∧ ∀ x ∈ l, p x := by
  obtain ⟨a, n, c, F, rfl, hn, hc, ha, hr⟩ := h.sl' (q := fun x vs => vs = A.row x ∧ p x) hq
  refine ⟨a, c, (List.range n).map F, by simp, by simpa using hn, hc, Rd.base ?_, fun x hx => ?_⟩
  · by_cases hn0 : n = 0
    · subst hn0; exact .inl rfl
    · right
      obtain ⟨b, o, vs, rfl, _⟩ := hr 0 (by omega)
      refine ⟨b, o, rfl, ro_rows _ fun i hi => ?_⟩
      obtain ⟨b', o', vs, h1, h2, h3, _⟩ := hr i (by simpa using hi)
      cases h1
      rw [he] at h2
      subst h3
      simpa using h2
  · obtain ⟨i, hi, rfl⟩ := List.mem_map.1 hx
    obtain ⟨_, _, _, _, _, _, h⟩ := hr i (by simpa using hi)
    exact h
/-- a slice of bytes -/
theorem openBytes {w : World} {v : Value} (h : GoodC w (.sl [.int .u8]) v) : ∃ (a : Option Addr) (c : Nat) (l : List UInt8), v = .slice a l.length c ∧ l.length ≤ c ∧ c ≤ maxLen ∧ Rd w [] a B8 l := by
  obtain ⟨a, c, l, h1, h2, h3, h4, _⟩ := openArr B8 (fun _ => True) h rfl fun vs hv => by
    obtain ⟨_, _, rfl, h1, h⟩ := hv.cons'
    obtain rfl := h.nil'
    obtain ⟨n, rfl, hn⟩ := h1.int'
    have := wf8 hn
    refine ⟨UInt8.ofNat n.toNat, ?_, trivial⟩
    have e : (UInt8.ofNat n.toNat).toNat = n.toNat := by simp [UInt8.toNat_ofNat']; omega
    show _ = [b8 _]
    simp only [b8, e]
    rw [Int.toNat_of_nonneg this.1]
  exact ⟨a, c, l, h1, h2, h3, h4⟩
end Go.Eng
namespace Go.Proofs.Ytpihhlaiofkmdaa
set_option linter.unusedVariables false
set_option linter.unusedSimpArgs false
open Go Go.Eng

def aw0 : LD × Tbl := (ldZ 3 0).begin [] 1 ⟨1, ⟨0, 1⟩, (0, 0), [120], 0, P7.all 0⟩
def awA : Ans Bs := (tdo [] aw0.1.msg).2.1
def aw1 : (LD × Tbl) × Bool := aw0.1.got aw0.2 1 awA
def aw2 : (LD × Tbl) × Bool := aw1.1.1.got aw1.1.2 2 awA
theorem aw_prop : propose 3 0 ⟨0, 1⟩ [120] [] = .inl aw0 := by kernel_rfl
theorem awA_len : awA.rc.cmd.length = 1 := by kernel_rfl
instance leadAwake : Pure0 PR F_rostrumlaw21_awake [] (.bool true) := ⟨fun W => by
  apply S.rostrumlaw21_awake.call
  unfold S.rostrumlaw21_awake.body
  have h := St.start W
  refine instNew h fun t W1 h => ?_
  refine instNew h fun u W1 h => ?_
  refine instNew h fun v W1 h => ?_
  (repeat (first | (first | (with_reducible (first | refine w1 fun _ _ => ?_ | refine w3 fun _ _ _ => ?_ | refine w4 fun _ _ _ => ?_ | refine w11 fun _ _ _ => ?_ | refine stb_n ?_)) | ((with_reducible refine w2 ?_); try simp -implicitDefEqProofs only [EN, lsub, lget, stL, beq_self_eq_true, ne_eq, if_true, if_false, List.cons_append, List.nil_append, Option.isNone_some, Option.isNone_none]; intro _ _) | ((with_reducible (first | refine w5 ?_ ?_ | refine w6 ?_ ?_ | refine w7 ?_ ?_)); simp; refine ⟨_, rfl, ?_⟩) | ((with_reducible (first | refine w8 ?_ ?_ ?_ | refine w9 ?_ ?_ ?_ | refine w10 ?_ ?_ ?_)); exact rfl; simp) | ((with_reducible refine w12 ?_ ?_ ?_ fun _ _ => ?_); simp; simp; simp [oneC]) | ((with_reducible (first | refine eqs ?_ | refine nes ?_)); refine ⟨_, rfl, ?_⟩) | ((refine okF_i (bldP_eq rfl) ?_); try simp only [BLS, List.take_succ_cons, List.take_zero, List.drop_succ_cons, List.drop_zero, List.cons_append, List.nil_append, Nat.reduceAdd])) | simp -implicitDefEqProofs only [EN, lsub, lget, stL, beq_self_eq_true, ne_eq, if_true, if_false, List.cons_append, List.nil_append, Option.isNone_some, Option.isNone_none]))
  refine bytesLit [120] (by first | assumption | exact St.tick (by assumption) | exact St.tick (St.tick (by assumption))) rfl (by decide) (by decide) rfl fun a1 c1 W2 h => ?_
  refine leadPropose (n := 3) (rep := 0) (d := ⟨0, 1⟩) (x := ⟨a1, c1, [120]⟩) (p := t) (by first | assumption | exact St.tick (by assumption) | exact St.tick (St.tick (by assumption))) (by simp) (fun e W' he h => ?_) (fun q X T' W' he e1 h => ?_)
  · rw [aw_prop] at he; cases he
  rw [aw_prop] at he
  have hX : aw0.1 = X.abs := congrArg Prod.fst (Sum.inl.inj he)
  have hT : aw0.2 = T' := congrArg Prod.snd (Sum.inl.inj he)
  subst hT e1
  clear he
  (repeat (first | (first | (with_reducible (first | refine w1 fun _ _ => ?_ | refine w3 fun _ _ _ => ?_ | refine w4 fun _ _ _ => ?_ | refine w11 fun _ _ _ => ?_ | refine stb_n ?_)) | ((with_reducible refine w2 ?_); try simp -implicitDefEqProofs only [EN, lsub, lget, stL, beq_self_eq_true, ne_eq, if_true, if_false, List.cons_append, List.nil_append, Option.isNone_some, Option.isNone_none]; intro _ _) | ((with_reducible (first | refine w5 ?_ ?_ | refine w6 ?_ ?_ | refine w7 ?_ ?_)); simp; refine ⟨_, rfl, ?_⟩) | ((with_reducible (first | refine w8 ?_ ?_ ?_ | refine w9 ?_ ?_ ?_ | refine w10 ?_ ?_ ?_)); exact rfl; simp) | ((with_reducible refine w12 ?_ ?_ ?_ fun _ _ => ?_); simp; simp; simp [oneC]) | ((with_reducible (first | refine eqs ?_ | refine nes ?_)); refine ⟨_, rfl, ?_⟩) | ((refine okF_i (bldP_eq rfl) ?_); try simp only [BLS, List.take_succ_cons, List.take_zero, List.drop_succ_cons, List.drop_zero, List.cons_append, List.nil_append, Nat.reduceAdd])) | simp -implicitDefEqProofs only [EN, lsub, lget, stL, beq_self_eq_true, ne_eq, if_true, if_false, List.cons_append, List.nil_append, Option.isNone_some, Option.isNone_none]))
  refine leadMsg (X := X) (by first | assumption | exact St.tick (by assumption) | exact St.tick (St.tick (by assumption))) fun m W3 hm hml h => ?_
  rw [← hX] at hm
  refine instDo (p := u) (m := m) (by first | assumption | exact St.tick (by assumption) | exact St.tick (St.tick (by assumption))) hml fun a W4 ha h => ?_
  rw [hm] at ha h ⊢
  (repeat (first | (first | (with_reducible (first | refine w1 fun _ _ => ?_ | refine w3 fun _ _ _ => ?_ | refine w4 fun _ _ _ => ?_ | refine w11 fun _ _ _ => ?_ | refine stb_n ?_)) | ((with_reducible refine w2 ?_); try simp -implicitDefEqProofs only [EN, lsub, lget, stL, beq_self_eq_true, ne_eq, if_true, if_false, List.cons_append, List.nil_append, Option.isNone_some, Option.isNone_none]; intro _ _) | ((with_reducible (first | refine w5 ?_ ?_ | refine w6 ?_ ?_ | refine w7 ?_ ?_)); simp; refine ⟨_, rfl, ?_⟩) | ((with_reducible (first | refine w8 ?_ ?_ ?_ | refine w9 ?_ ?_ ?_ | refine w10 ?_ ?_ ?_)); exact rfl; simp) | ((with_reducible refine w12 ?_ ?_ ?_ fun _ _ => ?_); simp; simp; simp [oneC]) | ((with_reducible (first | refine eqs ?_ | refine nes ?_)); refine ⟨_, rfl, ?_⟩) | ((refine okF_i (bldP_eq rfl) ?_); try simp only [BLS, List.take_succ_cons, List.take_zero, List.drop_succ_cons, List.drop_zero, List.cons_append, List.nil_append, Nat.reduceAdd])) | simp -implicitDefEqProofs only [EN, lsub, lget, stL, beq_self_eq_true, ne_eq, if_true, if_false, List.cons_append, List.nil_append, Option.isNone_some, Option.isNone_none]))
  refine leadMsg (X := X) (by first | assumption | exact St.tick (by assumption) | exact St.tick (St.tick (by assumption))) fun m2 W5 hm2 hml2 h => ?_
  rw [← hX] at hm2
  refine instDo (p := v) (m := m2) (by first | assumption | exact St.tick (by assumption) | exact St.tick (St.tick (by assumption))) hml2 fun b W6 hb h => ?_
  rw [hm2] at hb h ⊢
  (repeat (first | (first | (with_reducible (first | refine w1 fun _ _ => ?_ | refine w3 fun _ _ _ => ?_ | refine w4 fun _ _ _ => ?_ | refine w11 fun _ _ _ => ?_ | refine stb_n ?_)) | ((with_reducible refine w2 ?_); try simp -implicitDefEqProofs only [EN, lsub, lget, stL, beq_self_eq_true, ne_eq, if_true, if_false, List.cons_append, List.nil_append, Option.isNone_some, Option.isNone_none]; intro _ _) | ((with_reducible (first | refine w5 ?_ ?_ | refine w6 ?_ ?_ | refine w7 ?_ ?_)); simp; refine ⟨_, rfl, ?_⟩) | ((with_reducible (first | refine w8 ?_ ?_ ?_ | refine w9 ?_ ?_ ?_ | refine w10 ?_ ?_ ?_)); exact rfl; simp) | ((with_reducible refine w12 ?_ ?_ ?_ fun _ _ => ?_); simp; simp; simp [oneC]) | ((with_reducible (first | refine eqs ?_ | refine nes ?_)); refine ⟨_, rfl, ?_⟩) | ((refine okF_i (bldP_eq rfl) ?_); try simp only [BLS, List.take_succ_cons, List.take_zero, List.drop_succ_cons, List.drop_zero, List.cons_append, List.nil_append, Nat.reduceAdd])) | simp -implicitDefEqProofs only [EN, lsub, lget, stL, beq_self_eq_true, ne_eq, if_true, if_false, List.cons_append, List.nil_append, Option.isNone_some, Option.isNone_none]))
  have ha : a.map BSl.bs = awA := ha
  have hb : b.map BSl.bs = awA := hb
  have hal : a.rc.cmd.bs.length < 1099511627776 := by
    have : a.rc.cmd.bs.length = awA.rc.cmd.length := congrArg (fun x : Ans Bs => x.rc.cmd.length) ha
    rw [this, awA_len]; omega
  have hbl : b.rc.cmd.bs.length < 1099511627776 := by
    have : b.rc.cmd.bs.length = awA.rc.cmd.length := congrArg (fun x : Ans Bs => x.rc.cmd.length) hb
    rw [this, awA_len]; omega
  refine leadGot (X := X) (T := aw0.2) (a := a) (by first | assumption | exact St.tick (by assumption) | exact St.tick (St.tick (by assumption))) hal fun X1 W7 e1 e2 h => ?_
  rw [← hX, ha] at e2 h ⊢
  rw [← e1] at h
  have p1 : X1.phase = 1 := (congrArg LD.phase e2).trans (by kernel_rfl)
  have g1 : (aw0.1.got aw0.2 1 awA).2 = true := by kernel_rfl
  refine leadPhase (X := X1) (by first | assumption | exact St.tick (by assumption) | exact St.tick (St.tick (by assumption))) fun W8 h => ?_
  rw [p1, g1]
  (repeat (first | (first | (with_reducible (first | refine w1 fun _ _ => ?_ | refine w3 fun _ _ _ => ?_ | refine w4 fun _ _ _ => ?_ | refine w11 fun _ _ _ => ?_ | refine stb_n ?_)) | ((with_reducible refine w2 ?_); try simp -implicitDefEqProofs only [EN, lsub, lget, stL, beq_self_eq_true, ne_eq, if_true, if_false, List.cons_append, List.nil_append, Option.isNone_some, Option.isNone_none]; intro _ _) | ((with_reducible (first | refine w5 ?_ ?_ | refine w6 ?_ ?_ | refine w7 ?_ ?_)); simp; refine ⟨_, rfl, ?_⟩) | ((with_reducible (first | refine w8 ?_ ?_ ?_ | refine w9 ?_ ?_ ?_ | refine w10 ?_ ?_ ?_)); exact rfl; simp) | ((with_reducible refine w12 ?_ ?_ ?_ fun _ _ => ?_); simp; simp; simp [oneC]) | ((with_reducible (first | refine eqs ?_ | refine nes ?_)); refine ⟨_, rfl, ?_⟩) | ((refine okF_i (bldP_eq rfl) ?_); try simp only [BLS, List.take_succ_cons, List.take_zero, List.drop_succ_cons, List.drop_zero, List.cons_append, List.nil_append, Nat.reduceAdd])) | simp -implicitDefEqProofs only [EN, lsub, lget, stL, beq_self_eq_true, ne_eq, if_true, if_false, List.cons_append, List.nil_append, Option.isNone_some, Option.isNone_none]))
  refine leadGot (X := X1) (T := aw1.1.2) (a := b) (by first | assumption | exact St.tick (by assumption) | exact St.tick (St.tick (by assumption))) hbl fun X2 W9 e3 e4 h => ?_
  rw [e2, hb] at e4 h ⊢
  rw [← e3] at h
  have p2 : X2.phase = 3 := (congrArg LD.phase e4).trans (by kernel_rfl)
  have f2 : X2.fast = true := (congrArg LD.fast e4).trans (by kernel_rfl)
  have g2 : ((aw0.1.got aw0.2 1 awA).1.1.got aw1.1.2 2 awA).2 = true := by kernel_rfl
  have hm2 : X2.abs.msg.kind = 3 := by rw [e4]; kernel_rfl
  have hr2 : (trec ((aw0.1.got aw0.2 1 awA).1.1.got aw1.1.2 2 awA).1.2 ⟨0, 1⟩).st = 3 := by kernel_rfl
  rw [g2]
  (repeat (first | (first | (with_reducible (first | refine w1 fun _ _ => ?_ | refine w3 fun _ _ _ => ?_ | refine w4 fun _ _ _ => ?_ | refine w11 fun _ _ _ => ?_ | refine stb_n ?_)) | ((with_reducible refine w2 ?_); try simp -implicitDefEqProofs only [EN, lsub, lget, stL, beq_self_eq_true, ne_eq, if_true, if_false, List.cons_append, List.nil_append, Option.isNone_some, Option.isNone_none]; intro _ _) | ((with_reducible (first | refine w5 ?_ ?_ | refine w6 ?_ ?_ | refine w7 ?_ ?_)); simp; refine ⟨_, rfl, ?_⟩) | ((with_reducible (first | refine w8 ?_ ?_ ?_ | refine w9 ?_ ?_ ?_ | refine w10 ?_ ?_ ?_)); exact rfl; simp) | ((with_reducible refine w12 ?_ ?_ ?_ fun _ _ => ?_); simp; simp; simp [oneC]) | ((with_reducible (first | refine eqs ?_ | refine nes ?_)); refine ⟨_, rfl, ?_⟩) | ((refine okF_i (bldP_eq rfl) ?_); try simp only [BLS, List.take_succ_cons, List.take_zero, List.drop_succ_cons, List.drop_zero, List.cons_append, List.nil_append, Nat.reduceAdd])) | simp -implicitDefEqProofs only [EN, lsub, lget, stL, beq_self_eq_true, ne_eq, if_true, if_false, List.cons_append, List.nil_append, Option.isNone_some, Option.isNone_none]))
  refine leadPhase (X := X2) (by first | assumption | exact St.tick (by assumption) | exact St.tick (St.tick (by assumption))) fun W10 h => ?_
  rw [p2]
  (repeat (first | (first | (with_reducible (first | refine w1 fun _ _ => ?_ | refine w3 fun _ _ _ => ?_ | refine w4 fun _ _ _ => ?_ | refine w11 fun _ _ _ => ?_ | refine stb_n ?_)) | ((with_reducible refine w2 ?_); try simp -implicitDefEqProofs only [EN, lsub, lget, stL, beq_self_eq_true, ne_eq, if_true, if_false, List.cons_append, List.nil_append, Option.isNone_some, Option.isNone_none]; intro _ _) | ((with_reducible (first | refine w5 ?_ ?_ | refine w6 ?_ ?_ | refine w7 ?_ ?_)); simp; refine ⟨_, rfl, ?_⟩) | ((with_reducible (first | refine w8 ?_ ?_ ?_ | refine w9 ?_ ?_ ?_ | refine w10 ?_ ?_ ?_)); exact rfl; simp) | ((with_reducible refine w12 ?_ ?_ ?_ fun _ _ => ?_); simp; simp; simp [oneC]) | ((with_reducible (first | refine eqs ?_ | refine nes ?_)); refine ⟨_, rfl, ?_⟩) | ((refine okF_i (bldP_eq rfl) ?_); try simp only [BLS, List.take_succ_cons, List.take_zero, List.drop_succ_cons, List.drop_zero, List.cons_append, List.nil_append, Nat.reduceAdd])) | simp -implicitDefEqProofs only [EN, lsub, lget, stL, beq_self_eq_true, ne_eq, if_true, if_false, List.cons_append, List.nil_append, Option.isNone_some, Option.isNone_none]))
  refine leadFast (X := X2) (by first | assumption | exact St.tick (by assumption) | exact St.tick (St.tick (by assumption))) fun W11 h => ?_
  rw [f2]
  (repeat (first | (first | (with_reducible (first | refine w1 fun _ _ => ?_ | refine w3 fun _ _ _ => ?_ | refine w4 fun _ _ _ => ?_ | refine w11 fun _ _ _ => ?_ | refine stb_n ?_)) | ((with_reducible refine w2 ?_); try simp -implicitDefEqProofs only [EN, lsub, lget, stL, beq_self_eq_true, ne_eq, if_true, if_false, List.cons_append, List.nil_append, Option.isNone_some, Option.isNone_none]; intro _ _) | ((with_reducible (first | refine w5 ?_ ?_ | refine w6 ?_ ?_ | refine w7 ?_ ?_)); simp; refine ⟨_, rfl, ?_⟩) | ((with_reducible (first | refine w8 ?_ ?_ ?_ | refine w9 ?_ ?_ ?_ | refine w10 ?_ ?_ ?_)); exact rfl; simp) | ((with_reducible refine w12 ?_ ?_ ?_ fun _ _ => ?_); simp; simp; simp [oneC]) | ((with_reducible (first | refine eqs ?_ | refine nes ?_)); refine ⟨_, rfl, ?_⟩) | ((refine okF_i (bldP_eq rfl) ?_); try simp only [BLS, List.take_succ_cons, List.take_zero, List.drop_succ_cons, List.drop_zero, List.cons_append, List.nil_append, Nat.reduceAdd])) | simp -implicitDefEqProofs only [EN, lsub, lget, stL, beq_self_eq_true, ne_eq, if_true, if_false, List.cons_append, List.nil_append, Option.isNone_some, Option.isNone_none]))
  refine leadMsg (X := X2) (by first | assumption | exact St.tick (by assumption) | exact St.tick (St.tick (by assumption))) fun m3 W12 hm3 hml3 h => ?_
  have k3 : m3.kind = 3 := (congrArg Msg.kind hm3).trans hm2
  rw [e3, e1] at h
  (repeat (first | (first | (with_reducible (first | refine w1 fun _ _ => ?_ | refine w3 fun _ _ _ => ?_ | refine w4 fun _ _ _ => ?_ | refine w11 fun _ _ _ => ?_ | refine stb_n ?_)) | ((with_reducible refine w2 ?_); try simp -implicitDefEqProofs only [EN, lsub, lget, stL, beq_self_eq_true, ne_eq, if_true, if_false, List.cons_append, List.nil_append, Option.isNone_some, Option.isNone_none, k3]; intro _ _) | ((with_reducible (first | refine w5 ?_ ?_ | refine w6 ?_ ?_ | refine w7 ?_ ?_)); simp; refine ⟨_, rfl, ?_⟩) | ((with_reducible (first | refine w8 ?_ ?_ ?_ | refine w9 ?_ ?_ ?_ | refine w10 ?_ ?_ ?_)); exact rfl; simp) | ((with_reducible refine w12 ?_ ?_ ?_ fun _ _ => ?_); simp; simp; simp [oneC]) | ((with_reducible (first | refine eqs ?_ | refine nes ?_)); refine ⟨_, rfl, ?_⟩) | ((refine okF_i (bldP_eq rfl) ?_); try simp only [BLS, List.take_succ_cons, List.take_zero, List.drop_succ_cons, List.drop_zero, List.cons_append, List.nil_append, Nat.reduceAdd])) | simp -implicitDefEqProofs only [EN, lsub, lget, stL, beq_self_eq_true, ne_eq, if_true, if_false, List.cons_append, List.nil_append, Option.isNone_some, Option.isNone_none, k3]))
  refine instRec (p := X.t) (d := ⟨0, 1⟩) (by first | assumption | exact St.tick (by assumption) | exact St.tick (St.tick (by assumption))) fun r W13 hr h => ?_
  have r3 : r.st = 3 := (congrArg Rec.st hr).trans hr2
  (repeat (first | (first | (with_reducible (first | refine w1 fun _ _ => ?_ | refine w3 fun _ _ _ => ?_ | refine w4 fun _ _ _ => ?_ | refine w11 fun _ _ _ => ?_ | refine stb_n ?_)) | ((with_reducible refine w2 ?_); try simp -implicitDefEqProofs only [EN, lsub, lget, stL, beq_self_eq_true, ne_eq, if_true, if_false, List.cons_append, List.nil_append, Option.isNone_some, Option.isNone_none, r3]; intro _ _) | ((with_reducible (first | refine w5 ?_ ?_ | refine w6 ?_ ?_ | refine w7 ?_ ?_)); simp; refine ⟨_, rfl, ?_⟩) | ((with_reducible (first | refine w8 ?_ ?_ ?_ | refine w9 ?_ ?_ ?_ | refine w10 ?_ ?_ ?_)); exact rfl; simp) | ((with_reducible refine w12 ?_ ?_ ?_ fun _ _ => ?_); simp; simp; simp [oneC]) | ((with_reducible (first | refine eqs ?_ | refine nes ?_)); refine ⟨_, rfl, ?_⟩) | ((refine okF_i (bldP_eq rfl) ?_); try simp only [BLS, List.take_succ_cons, List.take_zero, List.drop_succ_cons, List.drop_zero, List.cons_append, List.nil_append, Nat.reduceAdd])) | simp -implicitDefEqProofs only [EN, lsub, lget, stL, beq_self_eq_true, ne_eq, if_true, if_false, List.cons_append, List.nil_append, Option.isNone_some, Option.isNone_none, r3]))
  exact St.nil (by first | assumption | exact St.tick (by assumption) | exact St.tick (St.tick (by assumption)))⟩
end Go.Proofs.Ytpihhlaiofkmdaa
namespace Go.Proofs.Ytpihhlaiofkmdaa
set_option linter.unusedVariables false
set_option linter.unusedSimpArgs false
open Go Go.Eng

section
variable (n rep num : Int) (cmd : Bs)
def fm : Msg Bs := ⟨1, ⟨rep, num⟩, (0, rep), cmd, 0, P7.all 0⟩
def fr0 : Rec Bs := ⟨1, cmd, 0, P7.all 0, (0, rep), (0, rep)⟩
def fT : Tbl := [(⟨rep, num⟩, fr0 rep cmd)]
def fa : Ans Bs := ⟨true, (0, rep), fr0 rep cmd⟩
def fp (i : Nat) : P7 (Option (Rec Bs)) := P7.of fun j => if j = rep.toNat ∨ j < i then some (fr0 rep cmd) else none
def fU (i : Nat) : LD := ⟨n, rep, fm rep num cmd, 1, false, false, fp rep cmd i, fr0 rep cmd⟩
def fm3 : Msg Bs := ⟨3, ⟨rep, num⟩, (0, rep), cmd, 0, P7.all 0⟩
def fDone (i : Nat) : Prop := ∀ j : Nat, (j : Int) < n → j = rep.toNat ∨ j < i
structure FIn : Prop where
  n3 : 3 ≤ n
  n7 : n ≤ 7
  r0 : 0 ≤ rep
  rn : rep < n
  m1 : 1 ≤ num
  m2 : num ≤ 1000
  len : cmd.length ≤ 300
variable {n rep num cmd}
theorem fast_may (h : FIn n rep num cmd) (k : Int) (hk : k = 1 ∨ k = 3) : (Msg.may ⟨k, ⟨rep, num⟩, (0, rep), cmd, 0, P7.all 0⟩) = true := by
  obtain ⟨h1, h2, h3, h4, h5, h6, h7⟩ := h
  unfold Msg.may Dot.okI goodB contentOk
  have hd : depsOk (P7.all 0) = true := by decide
  have hc : (cmd.length : Int) ≤ 300 := by omega
  rcases hk with rfl | rfl
  all_goals
    simp only [hd, Bool.true_and, Bool.and_eq_true, decide_eq_true_eq, Bool.or_eq_true]
    refine ⟨⟨⟨⟨by omega, by omega⟩, by omega⟩, by omega⟩, .inl (by omega)⟩
theorem fast_do (h : FIn n rep num cmd) : tdo [] (fm rep num cmd) = (fT rep num cmd, fa rep cmd, 0) := by
  unfold tdo
  rw [if_neg (by rw [show (fm rep num cmd).may = true from fast_may h 1 (.inl rfl)]; simp)]
  have ho : old (fm rep num cmd) (trec [] (fm rep num cmd).dot) = none := by
    refine old_n (show ¬ (0 : Int) = 3 by decide) (show ¬ (1 : Int) = 3 by decide) ?_ (fun h => absurd (show (0 : Int) = 1 from h.2.1) (by decide))
    rintro (h1 | h1)
    · have h1 : cmpB 0 rep 0 0 < 0 := h1
      have h0 := h.r0
      have e : cmpB 0 rep 0 0 = cmpI rep 0 := by
        unfold cmpB orI
        rw [show cmpI 0 0 = 0 from rfl, if_neg (by simp)]
        unfold orI
        split
        · rfl
        · rename_i h; simp at h; rw [h]; rfl
      rw [e] at h1
      unfold cmpI at h1
      rw [if_neg (by omega)] at h1
      split at h1 <;> omega
    · exact absurd (show (0 : Int) = 2 from h1.2) (by decide)
  rw [ho]
  rfl
theorem fast_propose (h : FIn n rep num cmd) : propose n rep ⟨rep, num⟩ cmd [] = .inl (fU n rep num cmd 0, fT rep num cmd) := by
  have hg : goodL n rep = true := by unfold goodL; simp; have := h.n3; have := h.n7; have := h.r0; have := h.rn; omega
  unfold propose
  rw [if_neg, if_neg]
  · have hb := LD.begin_t (l := ldZ n rep) (ph := 1) (congrArg (fun x => x.2.1) (fast_do h)) (show ¬ (1 : Int) = 3 by decide) rfl
    rw [show (⟨1, ⟨rep, num⟩, (0, rep), cmd, 0, P7.all 0⟩ : Msg Bs) = fm rep num cmd from rfl, hb, fast_do h]
    congr 2
    unfold fU
    congr 1
    unfold fp
    refine P7.ext7 fun j hj => ?_
    rw [P7.get_set _ _ _ _ hj, P7.get_of _ hj, P7.get_all]
    by_cases hj : j = rep.toNat
    · rw [if_pos (show j = (ldZ n rep).rep.toNat from hj), if_pos (.inl hj)]; rfl
    · rw [if_neg (show ¬ j = (ldZ n rep).rep.toNat from hj), if_neg (by rintro (h | h); exact hj h; omega)]
  · unfold trec; simp [mget, recZ]
  · rintro (h1 | h1 | h1)
    · rw [hg] at h1; cases h1
    · exact h1 rfl
    · rw [fast_may h 1 (.inl rfl)] at h1; cases h1
theorem fp_set {i : Nat} (hi : i < 7) : (fp rep cmd i).set i (some (fr0 rep cmd)) = fp rep cmd (i + 1) := by
  refine P7.ext7 fun j hj => ?_
  unfold fp
  rw [P7.get_set _ _ _ _ hj, P7.get_of _ hj, P7.get_of _ hj]
  by_cases h1 : j = i
  · rw [if_pos h1, if_pos (.inr (by omega))]
  · rw [if_neg h1]
    by_cases h2 : j = rep.toNat ∨ j < i
    · rw [if_pos h2, if_pos (h2.imp id fun h => by omega)]
    · rw [if_neg h2, if_neg (by omega)]
theorem fp_rep : fp rep cmd (rep.toNat + 1) = fp rep cmd rep.toNat := by
  refine P7.ext7 fun j hj => ?_
  unfold fp
  rw [P7.get_of _ hj, P7.get_of _ hj]
  by_cases h2 : j = rep.toNat ∨ j < rep.toNat
  · rw [if_pos h2, if_pos (h2.imp id fun h => by omega)]
  · rw [if_neg h2, if_neg (by omega)]
theorem cnt_tab : ∀ r, r < 7 → ∀ i, i ≤ 7 → cnt (P7.of fun j => if j = r ∨ j < i then some () else none).list = if r < i then (i : Int) else i + 1 := by decide
theorem fp_cnt {i : Nat} (hr : rep.toNat < 7) (hi : i ≤ 7) : cnt (fp rep cmd i).list = if rep.toNat < i then (i : Int) else i + 1 := by
  rw [← cnt_tab _ hr i hi, ← cnt_map (fun _ : Unit => fr0 rep cmd)]
  congr 1
  unfold fp P7.of P7.list
  simp only [List.map_cons, List.map_nil, List.cons.injEq, and_true]
  refine ⟨?_, ?_, ?_, ?_, ?_, ?_, ?_⟩ <;> split <;> rfl
/-- decided -/
def fD (i : Nat) : LD := ⟨n, rep, fm3 rep num cmd, 3, true, false, fp rep cmd i, fr0 rep cmd⟩
def fT3 (rep num : Int) (cmd : Bs) : Tbl := (tdo (fT rep num cmd) (fm3 rep num cmd)).1
theorem fast_got (h : FIn n rep num cmd) {i : Nat} (hi : (i : Int) < n) (hr : (i : Int) ≠ rep) :
    (fU n rep num cmd i).got (fT rep num cmd) i (fa rep cmd) = (if (if rep.toNat < i + 1 then ((i + 1 : Nat) : Int) else ((i + 1 : Nat) : Int) + 1) = n then (fD (n := n) (rep := rep) (num := num) (cmd := cmd) (i + 1), fT3 rep num cmd) else (fU n rep num cmd (i + 1), fT rep num cmd), true) := by
  have h7 := h.n7
  have h0 := h.r0
  have h3 := h.rn
  have hr' : i ≠ rep.toNat := by omega
  have n1 : ¬ ((fU n rep num cmd i).phase = 3 ∨ (fU n rep num cmd i).phase = 5 ∨ (i : Int) < 0 ∨ (fU n rep num cmd i).n ≤ i ∨ (i : Int) = (fU n rep num cmd i).rep ∨ ((fU n rep num cmd i).recs.get (i : Int).toNat).isSome = true) := by
    rintro (h | h | h | h | h | h)
    · cases h
    · cases h
    · omega
    · have : n ≤ i := h; omega
    · exact hr h
    · rw [Int.toNat_natCast, show (fU n rep num cmd i).recs = fp rep cmd i from rfl, fp, P7.get_of _ (by omega), if_neg (by omega)] at h
      cases h
  unfold LD.got
  rw [if_neg n1, if_neg (by rintro ⟨_, h | h⟩; exact h rfl; unfold LD.fits at h; simp [fU, fa, fr0, fm] at h), if_neg (show ¬ (fa rep cmd).rc.st = 3 from (show ¬ (1 : Int) = 3 by decide)), if_neg (by simp [fa])]
  rw [if_pos (show (fU n rep num cmd i).phase = 1 from rfl)]
  congr 1
  have hs : ({ fU n rep num cmd i with recs := (fU n rep num cmd i).recs.set (i : Int).toNat (some (fa rep cmd).rc), apart := (fU n rep num cmd i).apart || decide ((fa rep cmd).rc.seq ≠ (fU n rep num cmd i).own.seq) || decide ((fa rep cmd).rc.deps ≠ (fU n rep num cmd i).own.deps) } : LD) = fU n rep num cmd (i + 1) := by
    rw [Int.toNat_natCast, show (fU n rep num cmd i).recs.set i (some (fa rep cmd).rc) = fp rep cmd (i + 1) from fp_set (by omega)]
    simp [fU, fa, fr0]
  simp only
  rw [hs]
  unfold LD.heard
  have hc : (fU n rep num cmd (i + 1)).count = if rep.toNat < i + 1 then ((i + 1 : Nat) : Int) else ((i + 1 : Nat) : Int) + 1 := fp_cnt (by omega) (by omega)
  rw [hc]
  by_cases hd : (if rep.toNat < i + 1 then ((i + 1 : Nat) : Int) else ((i + 1 : Nat) : Int) + 1) = n
  · rw [if_pos hd, if_pos ⟨hd, rfl, rfl⟩]
    rfl
  · rw [if_neg hd, if_neg (fun h => hd h.1), if_neg (by rintro ⟨_, h | h⟩; cases h; exact absurd (show (0 : Int) < 0 from h) (by decide))]
theorem fast_again (h : FIn n rep num cmd) {i : Nat} (l : LD) (T : Tbl) (a : Ans Bs) (hl : l.phase = 3 ∨ l = fU n rep num cmd (i + 1)) (hi : (i : Int) < n) : l.got T i a = ((l, T), false) := by
  unfold LD.got
  refine if_pos ?_
  rcases hl with hl | rfl
  · exact .inl hl
  · refine .inr (.inr (.inr (.inr (.inr ?_))))
    have := h.n7
    rw [Int.toNat_natCast, show (fU n rep num cmd (i + 1)).recs = fp rep cmd (i + 1) from rfl, fp, P7.get_of _ (by omega), if_pos (.inr (by omega))]
    rfl
theorem fast_rec (h : FIn n rep num cmd) : (trec (fT3 rep num cmd) ⟨rep, num⟩).st = 3 ∧ (trec (fT3 rep num cmd) ⟨rep, num⟩).cmd = cmd ∧ (trec (fT3 rep num cmd) ⟨rep, num⟩).seq = 0 ∧ (trec (fT3 rep num cmd) ⟨rep, num⟩).deps = P7.all 0 := by
  have e : fT3 rep num cmd = [(⟨rep, num⟩, ⟨3, cmd, 0, P7.all 0, most2 (0, rep) (0, rep), most2 (0, rep) (0, rep)⟩)] := by
    unfold fT3 tdo
    rw [if_neg (by rw [show (fm3 rep num cmd).may = true from fast_may h 3 (.inr rfl)]; simp)]
    have ht : trec (fT rep num cmd) (fm3 rep num cmd).dot = fr0 rep cmd := by unfold trec fT fm3; simp [mget]
    rw [ht, old_c (show ¬ (1 : Int) = 3 by decide) rfl]
    simp only
    unfold fT
    simp [mput, fm3, putRec, fr0]
  rw [e]
  unfold trec
  simp [mget]
end
end Go.Proofs.Ytpihhlaiofkmdaa
namespace Go.Proofs.Ytpihhlaiofkmdaa
set_option linter.unusedVariables false
set_option linter.unusedSimpArgs false
open Go Go.Eng

section
variable (n rep : Int) (d : Dot)
def nb : Int × Int := (1, rep)
def nm : Msg Bs := ⟨4, d, nb rep, [], 0, P7.all 0⟩
def nr0 : Rec Bs := ⟨0, [], 0, P7.all 0, nb rep, (0, 0)⟩
def na0 : Ans Bs := ⟨true, nb rep, nr0 rep⟩
def nm2 : Msg Bs := ⟨2, d, nb rep, [], 0, P7.all 0⟩
def nr2 : Rec Bs := ⟨2, [], 0, P7.all 0, nb rep, nb rep⟩
def na2 : Ans Bs := ⟨true, nb rep, nr2 rep⟩
def nm3 : Msg Bs := ⟨3, d, nb rep, [], 0, P7.all 0⟩
def nsel (r : Rec Bs) (S : P7 Bool) : P7 (Option (Rec Bs)) := S.map fun b => if b then some r else none
def n4 (S : P7 Bool) : LD := ⟨n, rep, nm rep d, 4, false, false, nsel (nr0 rep) S, nr0 rep⟩
def n2 (S : P7 Bool) : LD := ⟨n, rep, nm2 rep d, 2, false, false, nsel (nr2 rep) S, nr2 rep⟩
structure NIn : Prop where
  n3 : 3 ≤ n
  n7 : n ≤ 7
  r0 : 0 ≤ rep
  rn : rep < n
  d0 : 0 ≤ d.rep
  dn : d.rep < n
  m1 : 1 ≤ d.n
  m2 : d.n ≤ 1000
variable {n rep d}
theorem n_may (h : NIn n rep d) (k : Int) (hk : 2 ≤ k ∧ k ≤ 4) : (Msg.may ⟨k, d, nb rep, [], 0, P7.all 0⟩) = true := by
  obtain ⟨h1, h2, h3, h4, h5, h6, h7, h8⟩ := h
  unfold Msg.may Dot.okI goodB contentOk nb
  have hd : depsOk (P7.all 0) = true := by decide
  simp only [hd, Bool.true_and, Bool.and_eq_true, decide_eq_true_eq, Bool.or_eq_true]
  refine ⟨⟨⟨⟨by omega, by omega⟩, by omega⟩, by omega, by omega, by simp⟩, ?_⟩
  exact .inr ⟨⟨rfl, trivial⟩, trivial⟩
theorem cmp_self (b : Int × Int) : cmpB b.1 b.2 b.1 b.2 = 0 := by
  have : ∀ a : Int, cmpI a a = 0 := fun a => by unfold cmpI; rw [if_neg (by omega), if_neg (by omega)]
  simp [cmpB, orI, this]
theorem cmp_one (h : 0 ≤ rep) : cmpB 1 rep 0 0 = 1 := by simp [cmpB, orI, cmpI]
theorem trec1 (d : Dot) (r : Rec Bs) : trec [(d, r)] d = r := by simp [trec, mget]
theorem trec0 (d : Dot) : trec [] d = recZ := rfl
/-- what a table says to 'prepare': one that knows nothing but that -/
theorem n_prep (h : NIn n rep d) (U : Tbl) (hU : U = [] ∨ U = [(d, nr0 rep)]) : tdo U (nm rep d) = ([(d, nr0 rep)], na0 rep, 0) := by
  unfold tdo
  rw [if_neg (by rw [show (nm rep d).may = true from n_may h 4 (by omega)]; simp)]
  have ho : old (nm rep d) (trec U d) = none := by
    rcases hU with rfl | rfl
    · refine old_n (show ¬ (0 : Int) = 3 by decide) (show ¬ (4 : Int) = 3 by decide) ?_ (fun h => absurd (show (4 : Int) = 1 from h.1) (by decide))
      rintro (h1 | h1)
      · have h1 : cmpB 1 rep 0 0 < 0 := h1
        rw [cmp_one h.r0] at h1; omega
      · exact absurd (show (4 : Int) = 1 from h1.1) (by decide)
    · rw [trec1]
      refine old_n (show ¬ (0 : Int) = 3 by decide) (show ¬ (4 : Int) = 3 by decide) ?_ (fun h => absurd (show (4 : Int) = 1 from h.1) (by decide))
      rintro (h1 | h1)
      · have h1 : cmpB (nb rep).1 (nb rep).2 (nb rep).1 (nb rep).2 < 0 := h1
        rw [cmp_self] at h1; omega
      · exact absurd (show (4 : Int) = 1 from h1.1) (by decide)
  rw [show (nm rep d).dot = d from rfl, ho]
  rcases hU with rfl | rfl
  · rfl
  · simp only [trec1, mput, if_true]; rfl
theorem n_acc (h : NIn n rep d) (U : Tbl) (hU : U = [] ∨ U = [(d, nr0 rep)] ∨ U = [(d, nr2 rep)]) : tdo U (nm2 rep d) = ([(d, nr2 rep)], na2 rep, 0) := by
  unfold tdo
  rw [if_neg (by rw [show (nm2 rep d).may = true from n_may h 2 (by omega)]; simp)]
  have ho : old (nm2 rep d) (trec U d) = none := by
    rcases hU with rfl | rfl | rfl
    · refine old_n (show ¬ (0 : Int) = 3 by decide) (show ¬ (2 : Int) = 3 by decide) ?_ (fun h => absurd (show (2 : Int) = 1 from h.1) (by decide))
      rintro (h1 | h1)
      · have h1 : cmpB 1 rep 0 0 < 0 := h1
        rw [cmp_one h.r0] at h1; omega
      · exact absurd (show (2 : Int) = 1 from h1.1) (by decide)
    · rw [trec1]
      refine old_n (show ¬ (0 : Int) = 3 by decide) (show ¬ (2 : Int) = 3 by decide) ?_ (fun h => absurd (show (2 : Int) = 1 from h.1) (by decide))
      rintro (h1 | h1)
      · have h1 : cmpB (nb rep).1 (nb rep).2 (nb rep).1 (nb rep).2 < 0 := h1
        rw [cmp_self] at h1; omega
      · exact absurd (show (2 : Int) = 1 from h1.1) (by decide)
    · rw [trec1]
      refine old_n (show ¬ (2 : Int) = 3 by decide) (show ¬ (2 : Int) = 3 by decide) ?_ (fun h => absurd (show (2 : Int) = 1 from h.1) (by decide))
      rintro (h1 | h1)
      · have h1 : cmpB (nb rep).1 (nb rep).2 (nb rep).1 (nb rep).2 < 0 := h1
        rw [cmp_self] at h1; omega
      · exact absurd (show (2 : Int) = 1 from h1.1) (by decide)
  rw [show (nm2 rep d).dot = d from rfl, ho]
  rcases hU with rfl | rfl | rfl
  · rfl
  · simp only [trec1, mput, if_true]; rfl
  · simp only [trec1, mput, if_true]; rfl
def only (rep : Int) : P7 Bool := P7.of fun j => decide (j = rep.toNat)
theorem nsel_set (r : Rec Bs) (S : P7 Bool) (i : Nat) : (nsel r S).set i (some r) = nsel r (S.set i true) := by
  unfold nsel; rw [P7.map_set]; rfl
theorem nsel_only (r : Rec Bs) : (P7.all none).set rep.toNat (some r) = nsel r (only rep) := by
  refine P7.ext7 fun j hj => ?_
  unfold nsel only
  rw [P7.get_set _ _ _ _ hj, P7.get_map, P7.get_of _ hj, P7.get_all]
  by_cases h : j = rep.toNat
  · rw [if_pos h, if_pos (by simp [h])]
  · rw [if_neg h, if_neg (by simp [h])]
theorem would1 (d : Dot) (r : Rec Bs) : would [(d, r)] d = (0, P7.all 0) := by simp [would, wouldStep]
theorem n_recover (h : NIn n rep d) : recover n rep d [] = .inl (n4 n rep d (only rep), [(d, nr0 rep)]) := by
  have hg : goodL n rep = true := by unfold goodL; simp; have := h.n3; have := h.n7; have := h.r0; have := h.rn; omega
  have hmz : (Msg.may ⟨4, d, (0, 0), [], 0, P7.all 0⟩) = true := by
    obtain ⟨h1, h2, h3, h4, h5, h6, h7, h8⟩ := h
    unfold Msg.may Dot.okI goodB contentOk
    have hd : depsOk (P7.all 0) = true := by decide
    simp only [hd, Bool.true_and, Bool.and_eq_true, decide_eq_true_eq, Bool.or_eq_true]
    refine ⟨⟨⟨⟨by omega, by omega⟩, by omega⟩, by omega, by omega, by simp⟩, ?_⟩
    exact .inr ⟨⟨rfl, trivial⟩, trivial⟩
  have hnx : nextB 0 0 rep = (nb rep, 0) := by
    have := h.r0; have := h.rn; have := h.n7
    unfold nextB
    rw [if_pos ⟨by decide, by omega, by omega⟩, if_neg (by decide)]
    rfl
  unfold recover
  rw [if_neg, if_neg]
  · rw [trec0, show recZ.bal = (0, 0) from rfl, hnx]
    rw [if_neg (by simp)]
    have hb := LD.begin_t (l := ldZ n rep) (ph := 4) (congrArg (fun x => x.2.1) (n_prep h [] (.inl rfl))) (show ¬ (0 : Int) = 3 by decide) rfl
    rw [show ({ (⟨4, d, (0, 0), [], 0, P7.all 0⟩ : Msg Bs) with bal := nb rep } : Msg Bs) = nm rep d from rfl, hb, n_prep h [] (.inl rfl)]
    congr 2
    unfold n4
    congr 1
    exact nsel_only _
  · rw [trec0]; exact (show ¬ (0 : Int) = 3 by decide)
  · rintro (h1 | h1 | h1)
    · rw [hg] at h1; cases h1
    · have := h.dn; omega
    · rw [hmz] at h1; cases h1
def cntB (S : P7 Bool) : Int := ((S.list.filter id).length : Int)
theorem nsel_cnt (r : Rec Bs) (S : P7 Bool) : cnt (nsel r S).list = cntB S := by
  unfold cnt cntB nsel
  rw [show (S.map fun b => if b then some r else none).list = S.list.map (fun b => if b then some r else none) from rfl, List.filter_map, List.length_map]
  congr 3
  funext b
  cases b <;> rfl
theorem nsel_get (r : Rec Bs) (S : P7 Bool) (i : Nat) : ((nsel r S).get i).isSome = S.get i := by
  unfold nsel; rw [P7.get_map]; cases S.get i <;> rfl
theorem gr_sel {r : Rec Bs} {st : Int} (hne : r.st ≠ st) : ∀ (l : List Bool), greatest id st (l.map fun b => if b then some r else none) = none := by
  intro l
  unfold greatest
  induction l with
  | nil => rfl
  | cons b l ih =>
    cases b with
    | false => exact ih
    | true =>
      rw [List.map_cons, List.foldl_cons]
      have : grStep id st none (some r) = none := by unfold grStep; exact if_neg fun h => hne h.1
      rw [show (if true = true then some r else none) = some r from rfl, this]
      exact ih
/-- phase 4: one more answer -/
theorem n4_got (h : NIn n rep d) {S : P7 Bool} {i : Nat} (hi : (i : Int) < n) (hr : (i : Int) ≠ rep) (hs : S.get i = false) (hrep : S.get rep.toNat = true) :
    (n4 n rep d S).got [(d, nr0 rep)] i (na0 rep) = (if n.tdiv 2 + 1 ≤ cntB (S.set i true) then (n2 n rep d (only rep), [(d, nr2 rep)]) else (n4 n rep d (S.set i true), [(d, nr0 rep)]), true) := by
  have h7 := h.n7
  have n1 : ¬ ((n4 n rep d S).phase = 3 ∨ (n4 n rep d S).phase = 5 ∨ (i : Int) < 0 ∨ (n4 n rep d S).n ≤ i ∨ (i : Int) = (n4 n rep d S).rep ∨ ((n4 n rep d S).recs.get (i : Int).toNat).isSome = true) := by
    rintro (h | h | h | h | h | h)
    · exact absurd (show (4 : Int) = 3 from h) (by decide)
    · exact absurd (show (4 : Int) = 5 from h) (by decide)
    · omega
    · have : n ≤ i := h; omega
    · exact hr h
    · rw [Int.toNat_natCast, show (n4 n rep d S).recs = nsel (nr0 rep) S from rfl, nsel_get, hs] at h
      cases h
  unfold LD.got
  rw [if_neg n1, if_neg (by rintro ⟨_, h | h⟩; exact h rfl; unfold LD.fits at h; simp [n4] at h), if_neg (show ¬ (na0 rep).rc.st = 3 from (show ¬ (0 : Int) = 3 by decide)), if_neg (by simp [na0])]
  rw [if_neg (show ¬ (n4 n rep d S).phase = 1 from (show ¬ (4 : Int) = 1 by decide)), if_neg (show ¬ (n4 n rep d S).phase = 2 from (show ¬ (4 : Int) = 2 by decide)), if_pos (show (n4 n rep d S).phase = 4 from rfl)]
  congr 1
  have hl : ({ n4 n rep d S with recs := (n4 n rep d S).recs.set (i : Int).toNat (some (na0 rep).rc) } : LD) = n4 n rep d (S.set i true) := by
    rw [Int.toNat_natCast]; exact congrArg (fun R => (⟨n, rep, nm rep d, 4, false, false, R, nr0 rep⟩ : LD)) (nsel_set (nr0 rep) S i)
  rw [hl]
  have hm : (n4 n rep d (S.set i true)).maj = decide (n.tdiv 2 + 1 ≤ cntB (S.set i true)) := by unfold LD.maj LD.count; rw [show (n4 n rep d (S.set i true)).recs = nsel (nr0 rep) (S.set i true) from rfl, nsel_cnt]; rfl
  rw [hm]
  by_cases hc : n.tdiv 2 + 1 ≤ cntB (S.set i true)
  · rw [if_pos hc, if_pos (by simpa using hc)]
    unfold LD.prepared
    have hli : (n4 n rep d (S.set i true)).recs.list = (S.set i true).list.map (fun b => if b then some (nr0 rep) else none) := rfl
    rw [hli, gr_sel (show (0 : Int) ≠ 2 by decide), gr_sel (show (0 : Int) ≠ 1 by decide)]
    have ha : (n4 n rep d (S.set i true)).alike = false := by
      unfold LD.alike
      rw [hli, List.all_eq_false]
      refine ⟨some (nr0 rep), ?_, by simp [likeR, nr0]⟩
      rw [List.mem_map]
      refine ⟨true, ?_, rfl⟩
      have h1 := get7_mem (S.set i true) (i := i) (by omega)
      rwa [P7.get_set _ _ _ _ (by omega), if_pos rfl] at h1
    rw [ha]
    simp only [Bool.false_eq_true, if_false]
    rw [show (n4 n rep d (S.set i true)).m = nm rep d from rfl, show (nm rep d).dot = d from rfl, would1]
    have hb := LD.begin_t (l := n4 n rep d (S.set i true)) (ph := 2) (congrArg (fun x => x.2.1) (n_acc h [(d, nr0 rep)] (.inr (.inl rfl)))) (show ¬ (2 : Int) = 3 by decide) rfl
    show (n4 n rep d (S.set i true)).begin [(d, nr0 rep)] 2 (nm2 rep d) = (n2 n rep d (only rep), [(d, nr2 rep)])
    rw [hb, n_acc h [(d, nr0 rep)] (.inr (.inl rfl))]
    congr 1
    unfold n2
    congr 1
    exact nsel_only _
  · rw [if_neg hc, if_neg (by simpa using hc)]
def n3 (n rep : Int) (d : Dot) (S : P7 Bool) : LD := ⟨n, rep, nm3 rep d, 3, false, false, nsel (nr2 rep) S, nr2 rep⟩
theorem n2_got (h : NIn n rep d) {S : P7 Bool} {i : Nat} (hi : (i : Int) < n) (hr : (i : Int) ≠ rep) (hs : S.get i = false) :
    (n2 n rep d S).got [(d, nr2 rep)] i (na2 rep) = (if n.tdiv 2 + 1 ≤ cntB (S.set i true) then (n3 n rep d (S.set i true), (tdo [(d, nr2 rep)] (nm3 rep d)).1) else (n2 n rep d (S.set i true), [(d, nr2 rep)]), true) := by
  have h7 := h.n7
  have n1 : ¬ ((n2 n rep d S).phase = 3 ∨ (n2 n rep d S).phase = 5 ∨ (i : Int) < 0 ∨ (n2 n rep d S).n ≤ i ∨ (i : Int) = (n2 n rep d S).rep ∨ ((n2 n rep d S).recs.get (i : Int).toNat).isSome = true) := by
    rintro (h | h | h | h | h | h)
    · exact absurd (show (2 : Int) = 3 from h) (by decide)
    · exact absurd (show (2 : Int) = 5 from h) (by decide)
    · omega
    · have : n ≤ i := h; omega
    · exact hr h
    · rw [Int.toNat_natCast, show (n2 n rep d S).recs = nsel (nr2 rep) S from rfl, nsel_get, hs] at h
      cases h
  unfold LD.got
  rw [if_neg n1, if_neg (by rintro ⟨_, h | h⟩; exact h rfl; unfold LD.fits at h; simp [n2, na2, nr2, nm2] at h), if_neg (show ¬ (na2 rep).rc.st = 3 from (show ¬ (2 : Int) = 3 by decide)), if_neg (by simp [na2])]
  rw [if_neg (show ¬ (n2 n rep d S).phase = 1 from (show ¬ (2 : Int) = 1 by decide)), if_pos (show (n2 n rep d S).phase = 2 from rfl)]
  congr 1
  have hl : ({ n2 n rep d S with recs := (n2 n rep d S).recs.set (i : Int).toNat (some (na2 rep).rc) } : LD) = n2 n rep d (S.set i true) := by
    rw [Int.toNat_natCast]; exact congrArg (fun R => (⟨n, rep, nm2 rep d, 2, false, false, R, nr2 rep⟩ : LD)) (nsel_set (nr2 rep) S i)
  rw [hl]
  have hm : (n2 n rep d (S.set i true)).maj = decide (n.tdiv 2 + 1 ≤ cntB (S.set i true)) := by unfold LD.maj LD.count; rw [show (n2 n rep d (S.set i true)).recs = nsel (nr2 rep) (S.set i true) from rfl, nsel_cnt]; rfl
  rw [hm]
  by_cases hc : n.tdiv 2 + 1 ≤ cntB (S.set i true)
  · rw [if_pos hc, if_pos (by simpa using hc)]
    rfl
  · rw [if_neg hc, if_neg (by simpa using hc)]
theorem n_rec (h : NIn n rep d) : (trec (tdo [(d, nr2 rep)] (nm3 rep d)).1 d).st = 3 ∧ (trec (tdo [(d, nr2 rep)] (nm3 rep d)).1 d).cmd = [] := by
  unfold tdo
  rw [if_neg (by rw [show (nm3 rep d).may = true from n_may h 3 (by omega)]; simp)]
  rw [show (nm3 rep d).dot = d from rfl, trec1, old_c (show ¬ (2 : Int) = 3 by decide) rfl]
  simp only [mput, if_true, trec1]
  exact ⟨rfl, rfl⟩
/-- the course of it: the phase, and who has answered -/
def nstep (n : Int) (rep : Nat) (x : Int × P7 Bool) (i : Nat) : Int × P7 Bool :=
  if i = rep then x
  else if x.1 = 3 then x
  else if x.2.get i = true then x
  else if n.tdiv 2 + 1 ≤ cntB (x.2.set i true) then (if x.1 = 4 then (2, P7.of fun j => decide (j = rep)) else (3, x.2.set i true))
  else (x.1, x.2.set i true)
def nst0 (rep : Nat) : Int × P7 Bool := (4, P7.of fun j => decide (j = rep))
def nturn (n rep : Nat) : Nat → Int × P7 Bool
  | 0 => nst0 rep
  | t + 1 => (List.range n).foldl (nstep n rep) (nturn n rep t)
theorem nturn_all : ∀ n, n < 8 → 3 ≤ n → ∀ rep, rep < n → (nturn n rep 3).1 = 3 := by decide
def ncl (n rep : Int) (d : Dot) (x : Int × P7 Bool) : LD := if x.1 = 4 then n4 n rep d x.2 else if x.1 = 2 then n2 n rep d x.2 else n3 n rep d x.2
def nct (rep : Int) (d : Dot) (x : Int × P7 Bool) : Tbl := if x.1 = 4 then [(d, nr0 rep)] else if x.1 = 2 then [(d, nr2 rep)] else (tdo [(d, nr2 rep)] (nm3 rep d)).1
def nU (rep : Int) (d : Dot) (x : Int × P7 Bool) (U : Tbl) : Prop := (x.1 = 4 → U = [] ∨ U = [(d, nr0 rep)]) ∧ (x.1 = 2 → U = [] ∨ U = [(d, nr0 rep)] ∨ U = [(d, nr2 rep)])
structure NX (rep : Int) (x : Int × P7 Bool) : Prop where
  ph : x.1 = 4 ∨ x.1 = 2 ∨ x.1 = 3
  rp : x.2.get rep.toNat = true
theorem got_id {l : LD} {T : Tbl} {i : Int} {a : Ans Bs} (h : l.phase = 3 ∨ (l.recs.get i.toNat).isSome = true) : l.got T i a = ((l, T), false) := by
  unfold LD.got
  refine if_pos ?_
  rcases h with h | h
  · exact .inl h
  · exact .inr (.inr (.inr (.inr (.inr h))))
theorem nstep_rep {x : Int × P7 Bool} {i : Nat} (hrep : (i : Int) = rep) : nstep n rep.toNat x i = x := by
  unfold nstep; rw [if_pos (by omega)]
theorem n_step (h : NIn n rep d) {x : Int × P7 Bool} (hx : NX rep x) {i : Nat} (hi : (i : Int) < n) (hr : (i : Int) ≠ rep) {U : Tbl} (hU : nU rep d x U) :
    (∃ b, (ncl n rep d x).got (nct rep d x) i (tdo U (ncl n rep d x).msg).2.1 = ((ncl n rep d (nstep n rep.toNat x i), nct rep d (nstep n rep.toNat x i)), b)) ∧
    NX rep (nstep n rep.toNat x i) ∧ nU rep d (nstep n rep.toNat x i) (tdo U (ncl n rep d x).msg).1 ∧ ∀ V, nU rep d x V → nU rep d (nstep n rep.toNat x i) V := by
  have h7 := h.n7
  have hr0 := h.r0
  have hrn := h.rn
  have hir : ¬ i = rep.toNat := by omega
  obtain ⟨p, S⟩ := x
  obtain ⟨hph, hrp⟩ := hx
  simp only at hph hrp
  have hset : ∀ S : P7 Bool, S.get rep.toNat = true → (S.set i true).get rep.toNat = true := fun S hS => by
    rw [P7.get_set _ _ _ _ (by omega)]; split
    · rfl
    · exact hS
  have honly : (P7.of fun j => decide (j = rep.toNat)).get rep.toNat = true := by rw [P7.get_of _ (by omega)]; simp
  rcases hph with rfl | rfl | rfl
  · have hm : (ncl n rep d (4, S)).msg = nm rep d := rfl
    have hA := hU.1 rfl
    rw [hm, n_prep h U hA]
    cases hs : S.get i with
    | true =>
      have e : nstep n rep.toNat (4, S) i = (4, S) := by unfold nstep; rw [if_neg hir, if_neg (by simp), if_pos hs]
      rw [e]
      refine ⟨⟨false, got_id (.inr ?_)⟩, ⟨.inl rfl, hrp⟩, ⟨fun _ => .inr rfl, fun h => absurd h (by simp)⟩, fun V hV => hV⟩
      show ((nsel (nr0 rep) S).get _).isSome = true
      rw [Int.toNat_natCast, nsel_get, hs]
    | false =>
      have hg := n4_got h hi hr hs hrp
      by_cases hc : n.tdiv 2 + 1 ≤ cntB (S.set i true)
      · have e : nstep n rep.toNat (4, S) i = (2, P7.of fun j => decide (j = rep.toNat)) := by unfold nstep; rw [if_neg hir, if_neg (by simp), if_neg (by simp [hs]), if_pos hc, if_pos rfl]
        rw [e]
        rw [if_pos hc] at hg
        exact ⟨⟨true, hg⟩, ⟨.inr (.inl rfl), honly⟩, ⟨fun h => absurd h (by simp), fun _ => .inr (.inl rfl)⟩, fun V hV => ⟨fun h => absurd h (by simp), fun _ => (hV.1 rfl).imp id .inl⟩⟩
      · have e : nstep n rep.toNat (4, S) i = (4, S.set i true) := by unfold nstep; rw [if_neg hir, if_neg (by simp), if_neg (by simp [hs]), if_neg hc]
        rw [e]
        rw [if_neg hc] at hg
        exact ⟨⟨true, hg⟩, ⟨.inl rfl, hset S hrp⟩, ⟨fun _ => .inr rfl, fun h => absurd h (by simp)⟩, fun V hV => ⟨hV.1, hV.2⟩⟩
  · have hm : (ncl n rep d (2, S)).msg = nm2 rep d := rfl
    have hA := hU.2 rfl
    rw [hm, n_acc h U hA]
    cases hs : S.get i with
    | true =>
      have e : nstep n rep.toNat (2, S) i = (2, S) := by unfold nstep; rw [if_neg hir, if_neg (by simp), if_pos hs]
      rw [e]
      refine ⟨⟨false, got_id (.inr ?_)⟩, ⟨.inr (.inl rfl), hrp⟩, ⟨fun h => absurd h (by simp), fun _ => .inr (.inr rfl)⟩, fun V hV => hV⟩
      show ((nsel (nr2 rep) S).get _).isSome = true
      rw [Int.toNat_natCast, nsel_get, hs]
    | false =>
      have hg := n2_got h hi hr hs
      by_cases hc : n.tdiv 2 + 1 ≤ cntB (S.set i true)
      · have e : nstep n rep.toNat (2, S) i = (3, S.set i true) := by unfold nstep; rw [if_neg hir, if_neg (by simp), if_neg (by simp [hs]), if_pos hc, if_neg (by simp)]
        rw [e]
        rw [if_pos hc] at hg
        exact ⟨⟨true, hg⟩, ⟨.inr (.inr rfl), hset S hrp⟩, ⟨fun h => absurd h (by simp), fun h => absurd h (by simp)⟩, fun V hV => ⟨fun h => absurd h (by simp), fun h => absurd h (by simp)⟩⟩
      · have e : nstep n rep.toNat (2, S) i = (2, S.set i true) := by unfold nstep; rw [if_neg hir, if_neg (by simp), if_neg (by simp [hs]), if_neg hc]
        rw [e]
        rw [if_neg hc] at hg
        exact ⟨⟨true, hg⟩, ⟨.inr (.inl rfl), hset S hrp⟩, ⟨fun h => absurd h (by simp), fun _ => .inr (.inr rfl)⟩, fun V hV => ⟨hV.1, hV.2⟩⟩
  · have e : nstep n rep.toNat (3, S) i = (3, S) := by unfold nstep; rw [if_neg hir, if_pos rfl]
    rw [e]
    exact ⟨⟨false, got_id (.inl rfl)⟩, ⟨.inr (.inr rfl), hrp⟩, ⟨fun h => absurd h (by simp), fun h => absurd h (by simp)⟩, fun V hV => hV⟩
end
end Go.Proofs.Ytpihhlaiofkmdaa
namespace Go.Proofs.Ytpihhlaiofkmdaa
set_option linter.unusedVariables false
set_option linter.unusedSimpArgs false
open Go Go.Eng

section
variable (n rep : Int) (k : Nat) (s : Int) (v : P7 Int) (ap : Bool)
def sd : Dot := ⟨rep, 1⟩
def srk : Rec Bs := ⟨1, [120], s, v, (0, rep), (0, rep)⟩
def sfr : Rec Bs := srk rep 0 (P7.all 0)
def sr2 : Rec Bs := ⟨2, [120], s, v, (0, rep), (0, rep)⟩
def smk (kind : Int) : Msg Bs := ⟨kind, sd rep, (0, rep), [120], s, v⟩
def sR (j : Nat) : Rec Bs := if j = k then srk rep s v else sfr rep
def s1 (S : P7 Bool) : LD := ⟨n, rep, smk rep 0 (P7.all 0) 1, 1, false, ap && S.get k, P7.of fun j => if S.get j then some (sR rep k s v j) else none, sfr rep⟩
def s2 (S : P7 Bool) : LD := ⟨n, rep, smk rep s v 2, 2, false, false, nsel (sr2 rep s v) S, sr2 rep s v⟩
def sP3 (l : LD) (T : Tbl) : Prop := l.phase = 3 ∧ l.fast = !ap ∧ (trec T (sd rep)).st = 3 ∧ (trec T (sd rep)).cmd = [120] ∧ (trec T (sd rep)).deps = v
structure SIn : Prop where
  n3 : 3 ≤ n
  n7 : n ≤ 7
  r0 : 0 ≤ rep
  rn : rep < n
  kr : (k : Int) ≠ rep
  kn : (k : Int) < n
  s0 : 0 ≤ s
  s1 : s ≤ 100
  vo : depsOk v = true
  apf : ap = false → s = 0 ∧ v = P7.all 0
  apt : ap = true → s ≠ 0
variable {n rep k s v ap}
theorem depsOk_get {v : P7 Int} (h : depsOk v = true) {j : Nat} (hj : j < 7) : 0 ≤ v.get j ∧ v.get j ≤ 1000 := by
  have := List.all_eq_true.1 h _ (get7_mem v hj)
  simpa using this
theorem imax0 {a : Int} (h : 0 ≤ a) : imax 0 a = a := by unfold imax; split <;> omega
theorem imax_self (a : Int) : imax a a = a := by unfold imax; split <;> omega
theorem imax_0 {a : Int} (h : 0 ≤ a) : imax a 0 = a := by unfold imax; split <;> omega
theorem vm0 {v : P7 Int} (h : depsOk v = true) : vmerge (P7.all 0) v = v := P7.ext7 fun j hj => by
  unfold vmerge; rw [P7.get_zip, P7.get_all]; exact imax0 (depsOk_get h hj).1
theorem vm_0 {v : P7 Int} (h : depsOk v = true) : vmerge v (P7.all 0) = v := P7.ext7 fun j hj => by
  unfold vmerge; rw [P7.get_zip, P7.get_all]; exact imax_0 (depsOk_get h hj).1
theorem vm_self (v : P7 Int) : vmerge v v = v := P7.ext7 fun j hj => by
  unfold vmerge; rw [P7.get_zip]; exact imax_self _
theorem deps0 : depsOk (P7.all 0) = true := by decide
theorem s_may (h : SIn n rep k s v ap) {kd : Int} (hk : 1 ≤ kd ∧ kd ≤ 3) {s' : Int} {v' : P7 Int} (hs : 0 ≤ s' ∧ s' ≤ 100) (hv : depsOk v' = true) : (smk rep s' v' kd).may = true := by
  obtain ⟨h1, h2, h3, h4, h5, h6, h7⟩ := h
  unfold Msg.may Dot.okI goodB contentOk smk sd
  simp only [hv, Bool.true_and, Bool.and_eq_true, decide_eq_true_eq, Bool.or_eq_true]
  refine ⟨⟨⟨⟨by omega, by omega⟩, by omega⟩, by omega, by omega, by simp⟩, .inl (by omega)⟩
theorem cmp_ge (h0 : 0 ≤ rep) : ¬ cmpB 0 rep 0 0 < 0 := by
  intro h1
  have e : cmpB 0 rep 0 0 = cmpI rep 0 := by
    unfold cmpB orI
    rw [show cmpI 0 0 = 0 from rfl, if_neg (by simp)]
    unfold orI
    split
    · rfl
    · rename_i h; simp at h; rw [h]; rfl
  rw [e] at h1
  unfold cmpI at h1
  rw [if_neg (by omega)] at h1
  split at h1 <;> omega
theorem cmp_sf : ¬ cmpB 0 rep 0 rep < 0 := by have := cmp_self (0, rep); simp only at this; omega
theorem trec_mput (T : Tbl) (d : Dot) (r : Rec Bs) : trec (mput T d r) d = r := by unfold trec; rw [mget_mput, if_pos rfl]; rfl
def wj (k : Nat) (s : Int) (v : P7 Int) (j : Nat) : Int × P7 Int := if j = k then (s, v) else (0, P7.all 0)
theorem s_do1 (h : SIn n rep k s v ap) {U : Tbl} {j : Nat} (hU : (trec U (sd rep) = recZ ∧ would U (sd rep) = wj k s v j) ∨ trec U (sd rep) = sR rep k s v j) :
    (tdo U (smk rep 0 (P7.all 0) 1)).2.1 = ⟨true, (0, rep), sR rep k s v j⟩ ∧ trec (tdo U (smk rep 0 (P7.all 0) 1)).1 (sd rep) = sR rep k s v j := by
  unfold tdo
  rw [if_neg (by rw [s_may h (by omega) (by omega) deps0]; simp)]
  rw [show (smk rep 0 (P7.all 0) 1).dot = sd rep from rfl]
  rcases hU with ⟨hU, hw⟩ | hU
  · rw [hU]
    have ho : old (smk rep 0 (P7.all 0) 1) recZ = none := by
      refine old_n (show ¬ (0 : Int) = 3 by decide) (show ¬ (1 : Int) = 3 by decide) ?_ (fun h => absurd (show (0 : Int) = 1 from h.2.1) (by decide))
      rintro (h1 | h1)
      · exact cmp_ge h.r0 h1
      · exact absurd (show (0 : Int) = 2 from h1.2) (by decide)
    rw [ho]
    have hp : putRec U (smk rep 0 (P7.all 0) 1) recZ = sR rep k s v j := by
      unfold putRec
      rw [if_pos (show (smk rep 0 (P7.all 0) 1).kind = 1 from rfl), show (smk rep 0 (P7.all 0) 1).dot = sd rep from rfl, hw]
      unfold wj sR
      by_cases hj : j = k
      · rw [if_pos hj, if_pos hj]
        show (⟨1, [120], imax 0 s, vmerge (P7.all 0) v, (0, rep), (0, rep)⟩ : Rec Bs) = _
        rw [imax0 h.s0, vm0 h.vo]; rfl
      · rw [if_neg hj, if_neg hj]; rfl
    simp only [hp, trec_mput, and_true]
    unfold sR; split <;> rfl
  · rw [hU]
    have ho : old (smk rep 0 (P7.all 0) 1) (sR rep k s v j) = some true := by
      unfold sR
      split
      all_goals
        refine old_t (show ¬ (1 : Int) = 3 by decide) (show ¬ (1 : Int) = 3 by decide) ?_ ⟨rfl, rfl, rfl⟩
        rintro (h1 | h1)
        · exact cmp_sf h1
        · exact absurd (show (1 : Int) = 2 from h1.2) (by decide)
    rw [ho]
    refine ⟨?_, hU⟩
    show (⟨true, (sR rep k s v j).bal, sR rep k s v j⟩ : Ans Bs) = _
    congr 1
    unfold sR; split <;> rfl
theorem s_do2 (h : SIn n rep k s v ap) {U : Tbl} (h3 : (trec U (sd rep)).st ≠ 3) (hb : (trec U (sd rep)).bal = (0, 0) ∨ (trec U (sd rep)).bal = (0, rep)) :
    tdo U (smk rep s v 2) = (mput U (sd rep) (sr2 rep s v), ⟨true, (0, rep), sr2 rep s v⟩, 0) := by
  unfold tdo
  rw [if_neg (by rw [s_may h (by omega) ⟨h.s0, h.s1⟩ h.vo]; simp)]
  rw [show (smk rep s v 2).dot = sd rep from rfl]
  have ho : old (smk rep s v 2) (trec U (sd rep)) = none := by
    refine old_n h3 (show ¬ (2 : Int) = 3 by decide) ?_ (fun h => absurd (show (2 : Int) = 1 from h.1) (by decide))
    rintro (h1 | h1)
    · rcases hb with hb | hb
      · rw [hb] at h1; exact cmp_ge h.r0 h1
      · rw [hb] at h1; exact cmp_sf h1
    · exact absurd (show (2 : Int) = 1 from h1.1) (by decide)
  rw [ho]
  rfl
theorem s_do3 (h : SIn n rep k s v ap) {U : Tbl} (h3 : (trec U (sd rep)).st ≠ 3) {s' : Int} {v' : P7 Int} (hs : 0 ≤ s' ∧ s' ≤ 100) (hv : depsOk v' = true) :
    (trec (tdo U (smk rep s' v' 3)).1 (sd rep)).st = 3 ∧ (trec (tdo U (smk rep s' v' 3)).1 (sd rep)).cmd = [120] ∧ (trec (tdo U (smk rep s' v' 3)).1 (sd rep)).deps = v' := by
  unfold tdo
  rw [if_neg (by rw [s_may h (by omega) hs hv]; simp)]
  rw [show (smk rep s' v' 3).dot = sd rep from rfl, old_c h3 rfl]
  simp only [trec_mput]
  exact ⟨rfl, rfl, rfl⟩
theorem cnt_of (f : Nat → Rec Bs) (S : P7 Bool) : cnt (P7.of fun j => if S.get j then some (f j) else none).list = cntB S := by
  have e : ∀ l : List (Option (Rec Bs)), cnt l = (((l.map Option.isSome).filter id).length : Int) := fun l => by
    unfold cnt; rw [List.filter_map, List.length_map]; rfl
  rw [e]
  unfold cntB
  congr 3
  have hi : ∀ (b : Bool) (x : Rec Bs), (if b then some x else none).isSome = b := fun b x => by cases b <;> rfl
  simp only [P7.of, P7.list, List.map_cons, List.map_nil, hi]
  rfl
def accOk (rep s : Int) (v : P7 Int) (o : Option (Rec Bs)) : Prop := o = none ∨ o = some (sfr rep) ∨ o = some (srk rep s v)
theorem acc_stay (h : SIn n rep k s v ap) : ∀ (l : List (Option (Rec Bs))), (∀ o ∈ l, accOk rep s v o) → l.foldl accStep (smk rep s v 2) = smk rep s v 2 := by
  intro l
  induction l with
  | nil => intro _; rfl
  | cons o l ih =>
    intro hl
    rw [List.foldl_cons]
    have e : accStep (smk rep s v 2) o = smk rep s v 2 := by
      rcases hl o (by simp) with rfl | rfl | rfl
      · rfl
      · show (⟨2, sd rep, (0, rep), [120], imax s 0, vmerge v (P7.all 0)⟩ : Msg Bs) = _
        rw [imax_0 h.s0, vm_0 h.vo]; rfl
      · show (⟨2, sd rep, (0, rep), [120], imax s s, vmerge v v⟩ : Msg Bs) = _
        rw [imax_self, vm_self]; rfl
    rw [e]
    exact ih fun o ho => hl o (List.mem_cons_of_mem _ ho)
theorem acc_go (h : SIn n rep k s v ap) : ∀ (l : List (Option (Rec Bs))), (∀ o ∈ l, accOk rep s v o) → some (srk rep s v) ∈ l → l.foldl accStep (smk rep 0 (P7.all 0) 2) = smk rep s v 2 := by
  intro l
  induction l with
  | nil => intro _ h; cases h
  | cons o l ih =>
    intro hl hm
    rw [List.foldl_cons]
    have hl' : ∀ o ∈ l, accOk rep s v o := fun o ho => hl o (List.mem_cons_of_mem _ ho)
    by_cases ho : o = some (srk rep s v)
    · subst ho
      have e : accStep (smk rep 0 (P7.all 0) 2) (some (srk rep s v)) = smk rep s v 2 := by
        show (⟨2, sd rep, (0, rep), [120], imax 0 s, vmerge (P7.all 0) v⟩ : Msg Bs) = _
        rw [imax0 h.s0, vm0 h.vo]; rfl
      rw [e]
      exact acc_stay h l hl'
    · have hm' : some (srk rep s v) ∈ l := by
        rcases List.mem_cons.1 hm with h1 | h1
        · exact absurd h1.symm ho
        · exact h1
      have e : accStep (smk rep 0 (P7.all 0) 2) o = smk rep 0 (P7.all 0) 2 := by
        rcases hl o (by simp) with rfl | rfl | h1
        · rfl
        · rfl
        · exact absurd h1 ho
      rw [e]
      exact ih hl' hm'
end

section
variable {n rep : Int} {k : Nat} {s : Int} {v : P7 Int} {ap : Bool}
theorem s_n1 {l : LD} {i : Nat} (hp : l.phase = 1 ∨ l.phase = 2) (hn : l.n = n) (hr : l.rep = rep) (hi : (i : Int) < n) (hir : (i : Int) ≠ rep) (hs : (l.recs.get i).isSome = false) :
    ¬ (l.phase = 3 ∨ l.phase = 5 ∨ (i : Int) < 0 ∨ l.n ≤ i ∨ (i : Int) = l.rep ∨ (l.recs.get (i : Int).toNat).isSome = true) := by
  subst hn hr
  rintro (h | h | h | h | h | h)
  · omega
  · omega
  · omega
  · omega
  · exact hir h
  · rw [Int.toNat_natCast, hs] at h; cases h
theorem s1_set (h : SIn n rep k s v ap) {S : P7 Bool} {j : Nat} (hj : (j : Int) < n) (hs : S.get j = false) (hk : S.get k = true ∨ j = k) :
    (⟨n, rep, smk rep 0 (P7.all 0) 1, 1, false, (ap && S.get k) || decide ((sR rep k s v j).seq ≠ 0) || decide ((sR rep k s v j).deps ≠ P7.all 0), (P7.of fun j => if S.get j then some (sR rep k s v j) else none).set j (some (sR rep k s v j)), sfr rep⟩ : LD) = s1 n rep k s v ap (S.set j true) := by
  have h7 := h.n7
  have hkn := h.kn
  unfold s1
  congr 1
  · rw [P7.get_set _ _ _ _ (by omega)]
    unfold sR
    by_cases hjk : j = k
    · subst hjk
      rw [hs, if_pos rfl, if_pos rfl]
      cases ap with
      | true => simp [srk, h.apt rfl]
      | false => obtain ⟨rfl, rfl⟩ := h.apf rfl; simp [srk]
    · rw [if_neg hjk, if_neg (Ne.symm hjk)]
      simp [sfr, srk]
  · refine P7.ext7 fun i hi => ?_
    rw [P7.get_set _ _ _ _ hi, P7.get_of _ hi, P7.get_of _ hi, P7.get_set _ _ _ _ hi]
    by_cases hij : i = j
    · subst hij; rw [if_pos rfl, if_pos rfl]; rfl
    · rw [if_neg hij, if_neg hij]
theorem s1_fits (h : SIn n rep k s v ap) (S : P7 Bool) (j : Nat) : (s1 n rep k s v ap S).fits (sR rep k s v j) = true := by
  unfold LD.fits sR
  rw [if_pos (show (s1 n rep k s v ap S).phase = 1 from rfl)]
  split <;> simp [srk, sfr, s1, smk]
theorem s1_acc (h : SIn n rep k s v ap) {S : P7 Bool} (hk : S.get k = true) :
    (s1 n rep k s v ap S).accept [(sd rep, sfr rep)] = (s2 n rep s v (only rep), [(sd rep, sr2 rep s v)]) := by
  have h7 := h.n7
  have hkn := h.kn
  unfold LD.accept
  have hf : (s1 n rep k s v ap S).recs.list.foldl accStep { (s1 n rep k s v ap S).m with kind := 2 } = smk rep s v 2 := by
    show (s1 n rep k s v ap S).recs.list.foldl accStep (smk rep 0 (P7.all 0) 2) = _
    refine acc_go h _ ?_ ?_
    · have hx : ∀ (b : Bool) j, accOk rep s v (if b then some (sR rep k s v j) else none) := fun b j => by
        cases b with
        | false => exact .inl rfl
        | true =>
          unfold sR accOk
          by_cases hj : j = k
          · rw [if_pos hj]; exact .inr (.inr rfl)
          · rw [if_neg hj]; exact .inr (.inl rfl)
      intro o ho
      simp only [s1, P7.of, P7.list, List.mem_cons, List.not_mem_nil, or_false] at ho
      rcases ho with rfl | rfl | rfl | rfl | rfl | rfl | rfl <;> exact hx _ _
    · have := get7_mem (s1 n rep k s v ap S).recs (i := k) (by omega)
      rw [show (s1 n rep k s v ap S).recs = (P7.of fun j => if S.get j then some (sR rep k s v j) else none) from rfl, P7.get_of _ (by omega), hk] at this
      have e : sR rep k s v k = srk rep s v := by unfold sR; rw [if_pos rfl]
      rw [e] at this
      exact this
  rw [hf]
  have ht : trec [(sd rep, sfr rep)] (sd rep) = sfr rep := trec1 _ _
  have hd := s_do2 (U := [(sd rep, sfr rep)]) h (by rw [ht]; exact (show ¬ (1 : Int) = 3 by decide)) (by rw [ht]; exact .inr rfl)
  have hb := LD.begin_t (l := s1 n rep k s v ap S) (T := [(sd rep, sfr rep)]) (ph := 2) (congrArg (fun x => x.2.1) hd) (show ¬ (2 : Int) = 3 by decide) rfl
  rw [hb, hd]
  refine Prod.ext ?_ ?_
  · show (⟨n, rep, smk rep s v 2, 2, false, false, (P7.all none).set rep.toNat (some (sr2 rep s v)), sr2 rep s v⟩ : LD) = _
    rw [nsel_only]; rfl
  · simp [mput]
theorem s1_got (h : SIn n rep k s v ap) {S : P7 Bool} {j : Nat} (hj : (j : Int) < n) (hr : (j : Int) ≠ rep) (hs : S.get j = false) (hk : S.get k = true ∨ j = k) :
    (s1 n rep k s v ap S).got [(sd rep, sfr rep)] j ⟨true, (0, rep), sR rep k s v j⟩ =
      ((if ap = true then (if n.tdiv 2 + 1 ≤ cntB (S.set j true) then (s2 n rep s v (only rep), [(sd rep, sr2 rep s v)]) else (s1 n rep k s v ap (S.set j true), [(sd rep, sfr rep)]))
        else (if cntB (S.set j true) = n then (s1 n rep k s v ap (S.set j true)).dec [(sd rep, sfr rep)] (sfr rep) true else (s1 n rep k s v ap (S.set j true), [(sd rep, sfr rep)]))), true) := by
  have h7 := h.n7
  have hkn := h.kn
  have n1 := s_n1 (l := s1 n rep k s v ap S) (.inl rfl) rfl rfl hj hr (by show ((P7.of fun j => if S.get j then some (sR rep k s v j) else none).get j).isSome = false; rw [P7.get_of _ (by omega), hs]; rfl)
  have hst : (sR rep k s v j).st = 1 := by unfold sR; split <;> rfl
  unfold LD.got
  rw [if_neg n1, if_neg (by
    rintro ⟨_, h1 | h1⟩
    · exact h1 rfl
    · rw [s1_fits h] at h1; cases h1), if_neg (by show ¬ (sR rep k s v j).st = 3; rw [hst]; decide), if_neg (by simp)]
  rw [if_pos (show (s1 n rep k s v ap S).phase = 1 from rfl)]
  congr 1
  have hl := s1_set h hj hs hk
  have hkS : (S.set j true).get k = true := by
    rw [P7.get_set _ _ _ _ (by omega)]
    rcases hk with hk | hk
    · rw [hk]; split <;> rfl
    · rw [if_pos hk.symm]
  show LD.heard (⟨n, rep, smk rep 0 (P7.all 0) 1, 1, false, (ap && S.get k) || decide ((sR rep k s v j).seq ≠ 0) || decide ((sR rep k s v j).deps ≠ P7.all 0), (P7.of fun j => if S.get j then some (sR rep k s v j) else none).set (j : Int).toNat (some (sR rep k s v j)), sfr rep⟩ : LD) _ = _
  rw [Int.toNat_natCast, hl]
  have hc : (s1 n rep k s v ap (S.set j true)).count = cntB (S.set j true) := cnt_of _ _
  have ha : (s1 n rep k s v ap (S.set j true)).apart = ap := by show (ap && (S.set j true).get k) = ap; rw [hkS]; simp
  have hm : (s1 n rep k s v ap (S.set j true)).maj = decide (n.tdiv 2 + 1 ≤ cntB (S.set j true)) := by unfold LD.maj; rw [hc]; rfl
  unfold LD.heard
  rw [hc, ha, hm]
  cases ap with
  | true =>
    rw [if_neg (by rintro ⟨_, h, _⟩; cases h), if_pos rfl]
    by_cases hcc : n.tdiv 2 + 1 ≤ cntB (S.set j true)
    · rw [if_pos ⟨by simpa using hcc, .inl rfl⟩, if_pos hcc, s1_acc h hkS]
    · rw [if_neg (by rintro ⟨h1, _⟩; exact hcc (by simpa using h1)), if_neg hcc]
  | false =>
    rw [if_neg (show ¬ (false = true) by simp)]
    by_cases hcc : cntB (S.set j true) = n
    · rw [if_pos ⟨hcc, rfl, rfl⟩, if_pos hcc]; rfl
    · rw [if_neg (by rintro ⟨h1, _⟩; exact hcc h1), if_neg hcc, if_neg]
      rintro ⟨_, h1 | h1⟩
      · cases h1
      · exact absurd (show (0 : Int) < 0 from h1) (by decide)
theorem s2_got (h : SIn n rep k s v ap) {S : P7 Bool} {j : Nat} (hj : (j : Int) < n) (hr : (j : Int) ≠ rep) (hs : S.get j = false) :
    (s2 n rep s v S).got [(sd rep, sr2 rep s v)] j ⟨true, (0, rep), sr2 rep s v⟩ =
      ((if n.tdiv 2 + 1 ≤ cntB (S.set j true) then (s2 n rep s v (S.set j true)).dec [(sd rep, sr2 rep s v)] ⟨0, [120], s, v, (0, 0), (0, 0)⟩ false else (s2 n rep s v (S.set j true), [(sd rep, sr2 rep s v)])), true) := by
  have h7 := h.n7
  have n1 := s_n1 (l := s2 n rep s v S) (.inr rfl) rfl rfl hj hr (by show ((nsel (sr2 rep s v) S).get j).isSome = false; rw [nsel_get, hs])
  unfold LD.got
  rw [if_neg n1, if_neg (by rintro ⟨_, h | h⟩; exact h rfl; unfold LD.fits at h; simp [s2, sr2, smk] at h), if_neg (show ¬ (sr2 rep s v).st = 3 from (show ¬ (2 : Int) = 3 by decide)), if_neg (by simp)]
  rw [if_neg (show ¬ (s2 n rep s v S).phase = 1 from (show ¬ (2 : Int) = 1 by decide)), if_pos (show (s2 n rep s v S).phase = 2 from rfl)]
  congr 1
  have hl : ({ s2 n rep s v S with recs := (s2 n rep s v S).recs.set (j : Int).toNat (some (sr2 rep s v)) } : LD) = s2 n rep s v (S.set j true) := by
    rw [Int.toNat_natCast]; exact congrArg (fun R => (⟨n, rep, smk rep s v 2, 2, false, false, R, sr2 rep s v⟩ : LD)) (nsel_set (sr2 rep s v) S j)
  simp only
  rw [hl]
  have hm : (s2 n rep s v (S.set j true)).maj = decide (n.tdiv 2 + 1 ≤ cntB (S.set j true)) := by unfold LD.maj LD.count; rw [show (s2 n rep s v (S.set j true)).recs = nsel (sr2 rep s v) (S.set j true) from rfl, nsel_cnt]; rfl
  rw [hm]
  by_cases hc : n.tdiv 2 + 1 ≤ cntB (S.set j true)
  · rw [if_pos hc, if_pos (by simpa using hc)]
    rfl
  · rw [if_neg hc, if_neg (by simpa using hc)]
/-- the course of it -/
def sstep (n : Int) (rep : Nat) (ap : Bool) (x : Int × P7 Bool) (i : Nat) : Int × P7 Bool :=
  if i = rep then x
  else if x.1 = 3 then x
  else if x.2.get i = true then x
  else if x.1 = 1 then
    (if ap = true then (if n.tdiv 2 + 1 ≤ cntB (x.2.set i true) then (2, P7.of fun j => decide (j = rep)) else (1, x.2.set i true))
      else (if cntB (x.2.set i true) = n then (3, x.2.set i true) else (1, x.2.set i true)))
  else if n.tdiv 2 + 1 ≤ cntB (x.2.set i true) then (3, x.2.set i true) else (2, x.2.set i true)
def sst0 (rep : Nat) : Int × P7 Bool := (1, P7.of fun j => decide (j = rep))
def sord (n rep : Nat) (i : Nat) : Nat := (rep + 1 + i) % n
def sturn (n rep : Nat) (ap : Bool) : Nat → Int × P7 Bool
  | 0 => sst0 rep
  | t + 1 => ((List.range n).map (sord n rep)).foldl (sstep n rep ap) (sturn n rep ap t)
theorem sturn_all : ∀ ap, ∀ n, n < 8 → 3 ≤ n → ∀ rep, rep < n → (sturn n rep ap 3).1 = 3 := by decide
structure SX (rep : Int) (x : Int × P7 Bool) : Prop where
  ph : x.1 = 1 ∨ x.1 = 2 ∨ x.1 = 3
  rp : x.2.get rep.toNat = true
def SG (n rep : Int) (k : Nat) (s : Int) (v : P7 Int) (ap : Bool) (x : Int × P7 Bool) (l : LD) (T : Tbl) : Prop :=
  (x.1 = 1 → l = s1 n rep k s v ap x.2 ∧ T = [(sd rep, sfr rep)]) ∧ (x.1 = 2 → l = s2 n rep s v x.2 ∧ T = [(sd rep, sr2 rep s v)] ∧ ap = true) ∧ (x.1 = 3 → sP3 rep v ap l T)
def sU (rep : Int) (k : Nat) (s : Int) (v : P7 Int) (x : Int × P7 Bool) (j : Nat) (U : Tbl) : Prop :=
  (x.1 = 1 → (trec U (sd rep) = recZ ∧ would U (sd rep) = wj k s v j) ∨ trec U (sd rep) = sR rep k s v j) ∧
  (x.1 = 2 → trec U (sd rep) = recZ ∨ trec U (sd rep) = sR rep k s v j ∨ trec U (sd rep) = sr2 rep s v)
theorem sU_12 {x y : Int × P7 Bool} {i : Nat} {V : Tbl} (h1 : x.1 = 1) (h2 : y.1 = 2) (h : sU rep k s v x i V) : sU rep k s v y i V := by
  refine ⟨fun h => by omega, fun _ => ?_⟩
  rcases h.1 h1 with h | h
  · exact .inl h.1
  · exact .inr (.inl h)
theorem sU_3 {y : Int × P7 Bool} {i : Nat} {V : Tbl} (h2 : y.1 = 3) : sU rep k s v y i V := ⟨fun h => by omega, fun h => by omega⟩
theorem sU_same {x y : Int × P7 Bool} {i : Nat} {V : Tbl} (h1 : x.1 = y.1) (h : sU rep k s v x i V) : sU rep k s v y i V := ⟨fun e => h.1 (h1.trans e), fun e => h.2 (h1.trans e)⟩
theorem sstep_rep {x : Int × P7 Bool} {i : Nat} (hrep : (i : Int) = rep) : sstep n rep.toNat ap x i = x := by
  unfold sstep; rw [if_pos (by omega)]
theorem s_step (h : SIn n rep k s v ap) {x : Int × P7 Bool} {l : LD} {T : Tbl} (hx : SX rep x) (hg : SG n rep k s v ap x l T) {j : Nat} (hj : (j : Int) < n) (hr : (j : Int) ≠ rep)
    (hk : x.1 = 1 → x.2.get k = true ∨ j = k) {U : Tbl} (hU : sU rep k s v x j U) :
    SG n rep k s v ap (sstep n rep.toNat ap x j) (l.got T j (tdo U l.msg).2.1).1.1 (l.got T j (tdo U l.msg).2.1).1.2 ∧ SX rep (sstep n rep.toNat ap x j) ∧ sU rep k s v (sstep n rep.toNat ap x j) j (tdo U l.msg).1 ∧
    (∀ i V, sU rep k s v x i V → sU rep k s v (sstep n rep.toNat ap x j) i V) ∧ ((sstep n rep.toNat ap x j).1 = 1 → (sstep n rep.toNat ap x j).2.get k = true) := by
  have h7 := h.n7
  have hr0 := h.r0
  have hrn := h.rn
  have hkn := h.kn
  have hir : ¬ j = rep.toNat := by omega
  obtain ⟨p, S⟩ := x
  obtain ⟨hph, hrp⟩ := hx
  simp only at hph hrp hk
  have hset : ∀ (S : P7 Bool) i, i < 7 → S.get i = true → (S.set j true).get i = true := fun S i hi hS => by
    rw [P7.get_set _ _ _ _ hi]; split
    · rfl
    · exact hS
  have hset' : ∀ (S : P7 Bool), (S.set j true).get j = true := fun S => by rw [P7.get_set _ _ _ _ (by omega), if_pos rfl]
  have honly : (P7.of fun j => decide (j = rep.toNat)).get rep.toNat = true := by rw [P7.get_of _ (by omega)]; simp
  rcases hph with rfl | rfl | rfl
  · obtain ⟨rfl, rfl⟩ := hg.1 rfl
    have hm : (s1 n rep k s v ap S).msg = smk rep 0 (P7.all 0) 1 := rfl
    obtain ⟨hd1, hd2⟩ := s_do1 h (hU.1 rfl)
    rw [hm, hd1]
    have hU1 : ∀ y : Int × P7 Bool, y.1 = 1 ∨ y.1 = 2 ∨ y.1 = 3 → sU rep k s v y j (tdo U (smk rep 0 (P7.all 0) 1)).1 := fun y hy => ⟨fun _ => .inr hd2, fun _ => .inr (.inl hd2)⟩
    cases hs : S.get j with
    | true =>
      have e : sstep n rep.toNat ap (1, S) j = (1, S) := by unfold sstep; rw [if_neg hir, if_neg (by simp), if_pos hs]
      have hsk : S.get k = true := by
        rcases hk rfl with h1 | h1
        · exact h1
        · rw [← h1]; exact hs
      rw [e, got_id (.inr (by show ((P7.of fun j => if S.get j then some (sR rep k s v j) else none).get (j : Int).toNat).isSome = true; rw [Int.toNat_natCast, P7.get_of _ (by omega), hs]; rfl))]
      exact ⟨hg, ⟨.inl rfl, hrp⟩, hU1 _ (.inl rfl), fun i V hV => hV, fun _ => hsk⟩
    | false =>
      have hsk : (S.set j true).get k = true := by
        rcases hk rfl with h1 | h1
        · exact hset S k (by omega) h1
        · rw [← h1]; exact hset' S
      rw [s1_got h hj hr hs (hk rfl)]
      have e0 : sstep n rep.toNat ap (1, S) j = (if ap = true then (if n.tdiv 2 + 1 ≤ cntB (S.set j true) then (2, P7.of fun j => decide (j = rep.toNat)) else (1, S.set j true))
          else (if cntB (S.set j true) = n then (3, S.set j true) else (1, S.set j true))) := by
        unfold sstep; rw [if_neg hir, if_neg (by simp), if_neg (by simp [hs]), if_pos rfl]
      rw [e0]
      by_cases ha : ap = true
      · rw [if_pos ha, if_pos ha]
        by_cases hc : n.tdiv 2 + 1 ≤ cntB (S.set j true)
        · rw [if_pos hc, if_pos hc]
          exact ⟨⟨fun h => by simp at h, fun _ => ⟨rfl, rfl, ha⟩, fun h => by simp at h⟩, ⟨.inr (.inl rfl), honly⟩, hU1 _ (.inr (.inl rfl)), fun i V hV => sU_12 rfl rfl hV, fun h => by simp at h⟩
        · rw [if_neg hc, if_neg hc]
          exact ⟨⟨fun _ => ⟨rfl, rfl⟩, fun h => by simp at h, fun h => by simp at h⟩, ⟨.inl rfl, hset _ _ (by omega) hrp⟩, hU1 _ (.inl rfl), fun i V hV => sU_same rfl hV, fun _ => hsk⟩
      · rw [if_neg ha, if_neg ha]
        by_cases hc : cntB (S.set j true) = n
        · rw [if_pos hc, if_pos hc]
          have ha' : ap = false := by simpa using ha
          refine ⟨⟨fun h => by simp at h, fun h => by simp at h, fun _ => ?_⟩, ⟨.inr (.inr rfl), hset _ _ (by omega) hrp⟩, sU_3 rfl, fun i V hV => sU_3 rfl, fun h => by simp at h⟩
          obtain ⟨r1, r2, r3⟩ := s_do3 (U := [(sd rep, sfr rep)]) h (by rw [trec1]; exact (show ¬ (1 : Int) = 3 by decide)) (s' := 0) (v' := P7.all 0) (by omega) deps0
          refine ⟨rfl, ?_, r1, r2, r3.trans (h.apf ha').2.symm⟩
          rw [ha']; rfl
        · rw [if_neg hc, if_neg hc]
          exact ⟨⟨fun _ => ⟨rfl, rfl⟩, fun h => by simp at h, fun h => by simp at h⟩, ⟨.inl rfl, hset _ _ (by omega) hrp⟩, hU1 _ (.inl rfl), fun i V hV => sU_same rfl hV, fun _ => hsk⟩
  · obtain ⟨rfl, rfl, hap⟩ := hg.2.1 rfl
    have hm : (s2 n rep s v S).msg = smk rep s v 2 := rfl
    have hA := hU.2 rfl
    have h3 : (trec U (sd rep)).st ≠ 3 := by
      rcases hA with e | e | e
      · rw [e]; exact (show ¬ (0 : Int) = 3 by decide)
      · rw [e]; unfold sR; split <;> exact (show ¬ (1 : Int) = 3 by decide)
      · rw [e]; exact (show ¬ (2 : Int) = 3 by decide)
    have hb : (trec U (sd rep)).bal = (0, 0) ∨ (trec U (sd rep)).bal = (0, rep) := by
      rcases hA with e | e | e
      · rw [e]; exact .inl rfl
      · rw [e]; right; unfold sR; split <;> rfl
      · rw [e]; exact .inr rfl
    rw [hm, s_do2 h h3 hb]
    have hU2 : ∀ y : Int × P7 Bool, y.1 = 2 ∨ y.1 = 3 → sU rep k s v y j (mput U (sd rep) (sr2 rep s v)) := fun y hy => ⟨fun h => by omega, fun _ => .inr (.inr (trec_mput _ _ _))⟩
    cases hs : S.get j with
    | true =>
      have e : sstep n rep.toNat ap (2, S) j = (2, S) := by unfold sstep; rw [if_neg hir, if_neg (by simp), if_pos hs]
      rw [e, got_id (.inr (by show ((nsel _ S).get _).isSome = true; rw [Int.toNat_natCast, nsel_get, hs]))]
      exact ⟨hg, ⟨.inr (.inl rfl), hrp⟩, hU2 _ (.inl rfl), fun i V hV => hV, fun h => by simp at h⟩
    | false =>
      rw [s2_got h hj hr hs]
      have e0 : sstep n rep.toNat ap (2, S) j = if n.tdiv 2 + 1 ≤ cntB (S.set j true) then (3, S.set j true) else (2, S.set j true) := by
        unfold sstep; rw [if_neg hir, if_neg (by simp), if_neg (by simp [hs]), if_neg (by simp)]
      rw [e0]
      by_cases hc : n.tdiv 2 + 1 ≤ cntB (S.set j true)
      · rw [if_pos hc, if_pos hc]
        refine ⟨⟨fun h => by simp at h, fun h => by simp at h, fun _ => ?_⟩, ⟨.inr (.inr rfl), hset _ _ (by omega) hrp⟩, sU_3 rfl, fun i V hV => sU_3 rfl, fun h => by simp at h⟩
        obtain ⟨r1, r2, r3⟩ := s_do3 (U := [(sd rep, sr2 rep s v)]) h (by rw [trec1]; exact (show ¬ (2 : Int) = 3 by decide)) (s' := s) (v' := v) ⟨h.s0, h.s1⟩ h.vo
        refine ⟨rfl, ?_, r1, r2, r3⟩
        rw [hap]; rfl
      · rw [if_neg hc, if_neg hc]
        exact ⟨⟨fun h => by simp at h, fun _ => ⟨rfl, rfl, hap⟩, fun h => by simp at h⟩, ⟨.inr (.inl rfl), hset _ _ (by omega) hrp⟩, hU2 _ (.inl rfl), fun i V hV => sU_same rfl hV, fun h => by simp at h⟩
  · have e : sstep n rep.toNat ap (3, S) j = (3, S) := by unfold sstep; rw [if_neg hir, if_pos rfl]
    obtain ⟨q1, q2, q3, q4, q5⟩ := hg.2.2 rfl
    rw [e, got_id (.inl q1)]
    exact ⟨hg, ⟨.inr (.inr rfl), hrp⟩, sU_3 rfl, fun i V hV => hV, fun h => by simp at h⟩
end

def om (o : Dot) : Msg Bs := ⟨1, o, (0, o.rep), [111], 0, P7.all 0⟩
def ot (l : List Dot) : Tbl := l.foldl (fun T o => (tdo T (om o)).1) []
def og (d o : Dot) : Prop := o ≠ d ∧ 0 ≤ o.rep ∧ o.rep ≤ 6 ∧ 1 ≤ o.n ∧ o.n ≤ 1000
def qok (d : Dot) (B : Int) (q : Dot × Rec Bs) : Prop := og d q.1 ∧ q.2.st = 1 ∧ q.2.ab = (0, q.1.rep) ∧ q.2.bal = (0, q.1.rep) ∧ 0 ≤ q.2.seq ∧ q.2.seq < B
structure OI (d : Dot) (l : List Dot) (T : Tbl) (B : Int) : Prop where
  q : ∀ q ∈ T, qok d B q
  m : ∀ o ∈ l, mget T o ≠ none
theorem would_b {d e : Dot} {B : Int} (hB : B ≤ 100) : ∀ (T : Tbl) (acc : Int × P7 Int), (∀ q ∈ T, qok d B q) → 0 ≤ acc.1 → acc.1 ≤ B → (∀ j, j < 7 → 0 ≤ acc.2.get j ∧ acc.2.get j ≤ 1000) →
    (acc.1 ≤ (T.foldl (wouldStep e) acc).1 ∧ (T.foldl (wouldStep e) acc).1 ≤ B) ∧ (∀ j, j < 7 → acc.2.get j ≤ (T.foldl (wouldStep e) acc).2.get j ∧ (T.foldl (wouldStep e) acc).2.get j ≤ 1000) ∧
    ∀ q ∈ T, q.1 ≠ e → 1 ≤ (T.foldl (wouldStep e) acc).1 ∧ q.1.n ≤ (T.foldl (wouldStep e) acc).2.get q.1.rep.toNat := by
  intro T
  induction T with
  | nil => intro acc _ h0 hb hj; exact ⟨⟨Int.le_refl _, hb⟩, fun j h => ⟨Int.le_refl _, (hj j h).2⟩, fun q hq => by cases hq⟩
  | cons p T ih =>
    intro acc hT h0 hb hj
    rw [List.foldl_cons]
    obtain ⟨⟨hd, a1, a2, a3, a4⟩, b1, b2, b3, b4, b5⟩ := hT p (by simp)
    have hT' : ∀ q ∈ T, qok d B q := fun q hq => hT q (List.mem_cons_of_mem _ hq)
    by_cases hp : p.1 = e
    · have e1 : wouldStep e acc p = acc := by unfold wouldStep; rw [if_pos (.inl hp)]
      rw [e1]
      obtain ⟨i1, i2, i3⟩ := ih acc hT' h0 hb hj
      refine ⟨i1, i2, fun q hq hne => ?_⟩
      rcases List.mem_cons.1 hq with rfl | hq
      · exact absurd hp hne
      · exact i3 q hq hne
    · have ew : IntKind.i64.wrap (p.2.seq + 1) = p.2.seq + 1 := by rw [i64w]; omega
      have e1 : wouldStep e acc p = (imax acc.1 (p.2.seq + 1), acc.2.set p.1.rep.toNat (imax (acc.2.get p.1.rep.toNat) p.1.n)) := by
        unfold wouldStep; rw [if_neg (by rintro (h | h); exact hp h; omega), ew]
      rw [e1]
      have hr7 : p.1.rep.toNat < 7 := by omega
      have im : ∀ a b : Int, a ≤ imax a b ∧ b ≤ imax a b ∧ (imax a b = a ∨ imax a b = b) := fun a b => by unfold imax; split <;> omega
      have m1 := im acc.1 (p.2.seq + 1)
      have m2 := im (acc.2.get p.1.rep.toNat) p.1.n
      have hj1 := hj _ hr7
      have hget : ∀ j, j < 7 → (acc.2.set p.1.rep.toNat (imax (acc.2.get p.1.rep.toNat) p.1.n)).get j = if j = p.1.rep.toNat then imax (acc.2.get p.1.rep.toNat) p.1.n else acc.2.get j := fun j h => P7.get_set _ _ _ _ h
      obtain ⟨i1, i2, i3⟩ := ih (imax acc.1 (p.2.seq + 1), acc.2.set p.1.rep.toNat (imax (acc.2.get p.1.rep.toNat) p.1.n)) hT' (by simp only; omega) (by simp only; omega) (fun j h => by
        simp only; rw [hget j h]; split
        · omega
        · exact hj j h)
      simp only at i1 i2 i3
      generalize T.foldl (wouldStep e) (imax acc.1 (p.2.seq + 1), acc.2.set p.1.rep.toNat (imax (acc.2.get p.1.rep.toNat) p.1.n)) = w at *
      refine ⟨⟨by omega, by omega⟩, fun j h => ?_, fun q hq hne => ?_⟩
      · have := i2 j h
        rw [hget j h] at this
        refine ⟨?_, this.2⟩
        by_cases hjp : j = p.1.rep.toNat
        · rw [if_pos hjp] at this; subst hjp; omega
        · rw [if_neg hjp] at this; omega
      · rcases List.mem_cons.1 hq with rfl | hq
        · have := i2 _ hr7
          rw [hget _ hr7, if_pos rfl] at this
          omega
        · exact i3 q hq hne
theorem om_may {d o : Dot} (h : og d o) : (om o).may = true := by
  obtain ⟨hd, a1, a2, a3, a4⟩ := h
  unfold Msg.may Dot.okI goodB contentOk om
  simp only [deps0, Bool.true_and, Bool.and_eq_true, decide_eq_true_eq, Bool.or_eq_true]
  refine ⟨⟨⟨⟨by omega, by omega⟩, by omega⟩, by omega, by omega, by simp⟩, .inl (by omega)⟩
theorem oi_step {d o : Dot} {l : List Dot} {T : Tbl} {B : Int} (h : OI d l T B) (ho : og d o) (hB : B ≤ 50) (h0 : 0 ≤ B) : OI d (l ++ [o]) (tdo T (om o)).1 (B + 1) := by
  unfold tdo
  rw [if_neg (by rw [om_may ho]; simp), show (om o).dot = o from rfl]
  cases hm : mget T o with
  | none =>
    have ht : trec T o = recZ := by unfold trec; rw [hm]; rfl
    rw [ht]
    have hold : old (om o) recZ = none := by
      refine old_n (show ¬ (0 : Int) = 3 by decide) (show ¬ (1 : Int) = 3 by decide) ?_ (fun h => absurd (show (0 : Int) = 1 from h.2.1) (by decide))
      rintro (h1 | h1)
      · exact cmp_ge ho.2.1 h1
      · exact absurd (show (0 : Int) = 2 from h1.2) (by decide)
    rw [hold]
    simp only
    have hp : putRec T (om o) recZ = ⟨1, [111], imax 0 (would T o).1, vmerge (P7.all 0) (would T o).2, (0, o.rep), (0, o.rep)⟩ := by unfold putRec; exact if_pos rfl
    rw [hp]
    have hw := would_b (e := o) (d := d) (B := B) (by omega) T (0, P7.all 0) h.q (Int.le_refl _) h0 (fun j hj => by rw [P7.get_all]; omega)
    have hw1 : imax 0 (would T o).1 = (would T o).1 := imax0 hw.1.1
    have hw2 : (would T o).1 ≤ B := hw.1.2
    have hw0 : 0 ≤ (would T o).1 := hw.1.1
    refine ⟨fun q hq => ?_, fun x hx => ?_⟩
    · rcases mem_mput hq with rfl | hq
      · exact ⟨ho, rfl, rfl, rfl, by simp only [hw1]; exact hw0, by simp only [hw1]; omega⟩
      · obtain ⟨a, b1, b2, b3, b4, b5⟩ := h.q q hq
        exact ⟨a, b1, b2, b3, b4, by omega⟩
    · rw [mget_mput]
      by_cases hxo : o = x
      · rw [if_pos hxo]; simp
      · rw [if_neg hxo]
        rcases List.mem_append.1 hx with hx | hx
        · exact h.m x hx
        · simp at hx; exact absurd hx.symm hxo
  | some r =>
    have ht : trec T o = r := by unfold trec; rw [hm]; rfl
    rw [ht]
    obtain ⟨_, b1, b2, b3, _, _⟩ := h.q _ (mgetT hm)
    have b1 : r.st = 1 := b1
    have b2 : r.ab = (0, o.rep) := b2
    have b3 : r.bal = (0, o.rep) := b3
    have hold : old (om o) r = some true := by
      refine old_t (by omega) (show ¬ (1 : Int) = 3 by decide) ?_ ⟨rfl, b1, b2⟩
      rintro (h1 | h1)
      · rw [b3] at h1; exact cmp_sf h1
      · omega
    rw [hold]
    refine ⟨fun q hq => ?_, fun x hx => ?_⟩
    · obtain ⟨a, b1, b2, b3, b4, b5⟩ := h.q q hq
      exact ⟨a, b1, b2, b3, b4, by omega⟩
    · rcases List.mem_append.1 hx with hx | hx
      · exact h.m x hx
      · simp at hx; subst hx; rw [hm]; simp
theorem ot_snoc (l : List Dot) (o : Dot) : ot (l ++ [o]) = (tdo (ot l) (om o)).1 := by unfold ot; rw [List.foldl_append]; rfl
theorem ot_take {l : List Dot} {i : Nat} (h : i < l.length) : ot (l.take (i + 1)) = (tdo (ot (l.take i)) (om l[i])).1 := by
  rw [← ot_snoc, List.take_append_getElem h]
theorem ot_oi {d : Dot} {l : List Dot} (hl : l.length ≤ 10) (hg : ∀ o ∈ l, og d o) : ∀ i, i ≤ l.length → OI d (l.take i) (ot (l.take i)) i := by
  intro i
  induction i with
  | zero => intro _; exact ⟨fun q hq => by simp [ot] at hq, fun o ho => by simp at ho⟩
  | succ i ih =>
    intro hi
    have h := oi_step (ih (by omega)) (hg l[i] (List.getElem_mem _)) (by omega) (by omega)
    rw [ot_take (by omega), ← List.take_append_getElem (by omega)]
    have e : ((i + 1 : Nat) : Int) = (i : Int) + 1 := by omega
    rw [e]
    exact h
theorem ot_ok {d : Dot} {l : List Dot} (hl : l.length ≤ 10) (hg : ∀ o ∈ l, og d o) :
    trec (ot l) d = recZ ∧ (0 ≤ (would (ot l) d).1 ∧ (would (ot l) d).1 ≤ 100) ∧ depsOk (would (ot l) d).2 = true ∧ (l = [] → would (ot l) d = (0, P7.all 0)) ∧
    (l ≠ [] → (would (ot l) d).1 ≠ 0) ∧ ∀ o ∈ l, o.n ≤ (would (ot l) d).2.get o.rep.toNat := by
  have h := ot_oi hl hg l.length (Nat.le_refl _)
  rw [List.take_length] at h
  have hw := would_b (e := d) (d := d) (B := (l.length : Int)) (by omega) (ot l) (0, P7.all 0) h.q (Int.le_refl _) (by simp) (fun j hj => by rw [P7.get_all]; omega)
  have hin : ∀ o ∈ l, ∃ r, (o, r) ∈ ot l := fun o ho => by
    cases hm : mget (ot l) o with
    | none => exact absurd hm (h.m o ho)
    | some r => exact ⟨r, mgetT hm⟩
  obtain ⟨w1, w2, w3⟩ := hw
  refine ⟨?_, ⟨w1.1, ?_⟩, ?_, ?_, ?_, ?_⟩
  · unfold trec
    cases hm : mget (ot l) d with
    | none => rfl
    | some r => exact absurd rfl (h.q _ (mgetT hm)).1.1
  · have := w1.2
    show (List.foldl (wouldStep d) (0, P7.all 0) (ot l)).1 ≤ 100
    omega
  · refine (depsOk_iff _).2 fun j hj => ?_
    have := w2 j hj
    rw [P7.get_all] at this
    exact this
  · rintro rfl; rfl
  · intro hne
    obtain ⟨o, ho⟩ := List.exists_mem_of_ne_nil l hne
    obtain ⟨r, hr⟩ := hin o ho
    have := (w3 _ hr (hg o ho).1).1
    show (List.foldl (wouldStep d) (0, P7.all 0) (ot l)).1 ≠ 0
    omega
  · intro o ho
    obtain ⟨r, hr⟩ := hin o ho
    exact (w3 _ hr (hg o ho).1).2
end Go.Proofs.Ytpihhlaiofkmdaa
namespace Go.Proofs.Ytpihhlaiofkmdaa
set_option linter.unusedVariables false
set_option linter.unusedSimpArgs false
open Go Go.Eng

theorem phx {p x y : Int} {C : Prop} (h1 : p = x) (h2 : p = y) (h : x ≠ y := by decide) : C := absurd (h1.symm.trans h2) h
abbrev Val := Bs × Int × P7 Int
def rva (r : Rec Bs) : Val := (r.cmd, r.seq, r.deps)
def mva (m : Msg Bs) : Val := (m.cmd, m.seq, m.deps)
def cOk (c : Bs) : Prop := c = [120] ∨ c = []
def bi (b : Bool) : Int := if b then 1 else 0
theorem cntB_sum (S : P7 Bool) : cntB S = bi S.x0 + bi S.x1 + bi S.x2 + bi S.x3 + bi S.x4 + bi S.x5 + bi S.x6 := by
  obtain ⟨a, b, c, d, e, f, g⟩ := S
  cases a <;> cases b <;> cases c <;> cases d <;> cases e <;> cases f <;> cases g <;> rfl
section
variable (n : Int) (f g : Nat)
def bA : Int × Int := (0, (f : Int))
def bB : Int × Int := (1, (g : Int))
def td : Dot := ⟨(f : Int), 1⟩
def mj (S : P7 Bool) : Prop := n.tdiv 2 + 1 ≤ cntB S
def supB (S : P7 Bool) : Prop := ∀ j : Nat, j < 7 → n ≤ (j : Int) → S.get j = false
theorem inter (h3 : 3 ≤ n) (h7 : n ≤ 7) {S Q : P7 Bool} (hS : mj n S) (hQ : mj n Q) (sS : supB n S) (sQ : supB n Q) : ∃ j : Nat, (j : Int) < n ∧ S.get j = true ∧ Q.get j = true := by
  refine Classical.byContradiction fun hno => ?_
  have hj : ∀ j : Nat, j < 7 → (n ≤ (j : Int) ∧ bi (S.get j) + bi (Q.get j) = 0) ∨ ((j : Int) < n ∧ bi (S.get j) + bi (Q.get j) ≤ 1) := by
    intro j h
    by_cases hn : n ≤ (j : Int)
    · left; rw [sS j h hn, sQ j h hn]; exact ⟨hn, rfl⟩
    · right
      refine ⟨by omega, ?_⟩
      cases hs : S.get j with
      | false => cases Q.get j <;> decide
      | true =>
        cases hq : Q.get j with
        | false => decide
        | true => exact absurd ⟨j, by omega, hs, hq⟩ hno
  clear hno
  unfold mj at hS hQ
  rw [cntB_sum] at hS hQ
  rw [Int.tdiv_eq_ediv_of_nonneg (by omega)] at hS hQ
  have h0 : _ ∨ _ := hj 0 (by omega)
  have h1 : _ ∨ _ := hj 1 (by omega)
  have h2 : _ ∨ _ := hj 2 (by omega)
  have h3' : _ ∨ _ := hj 3 (by omega)
  have h4 : _ ∨ _ := hj 4 (by omega)
  have h5 : _ ∨ _ := hj 5 (by omega)
  have h6 : _ ∨ _ := hj 6 (by omega)
  simp only [P7.get] at h0 h1 h2 h3' h4 h5 h6
  clear hj
  omega
def blk1 (r : Rec Bs) : Prop := r.bal = bB g ∨ r.st = 3
def Dead (a : LD) (R : Nat → Rec Bs) : Prop := a.phase = 5 ∨ ((a.phase = 1 ∨ a.phase = 2) ∧ ∃ Q : P7 Bool, mj n Q ∧ supB n Q ∧ ∀ j : Nat, (j : Int) < n → Q.get j = true → blk1 g (R j) ∧ (a.phase = 2 → a.recs.get j = none))
def noD (R : Nat → Rec Bs) : Prop := ∀ j : Nat, (j : Int) < n → (R j).st ≠ 3
def allD (R : Nat → Rec Bs) (v : Val) : Prop := ∀ j : Nat, (j : Int) < n → (R j).st = 3 → rva (R j) = v
def P4a (a : LD) (br : P7 (Option (Rec Bs))) (R : Nat → Rec Bs) : Prop := ∀ j : Nat, (j : Int) < n → ∀ r, br.get j = some r →
  blk1 g (R j) ∧ r.st ≠ 3 ∧ cOk r.cmd ∧ (r.st = 2 → a.phase ≠ 1 ∧ (a.phase = 2 ∨ a.phase = 3 → rva r = mva a.m)) ∧ (r.st ≠ 2 → a.phase = 2 → a.recs.get j = none)
def st2 (R : Nat → Rec Bs) (v : Val) : Prop := ∀ j : Nat, (j : Int) < n → (R j).st = 2 → rva (R j) = v
def P4b (a : LD) (br : P7 (Option (Rec Bs))) (R : Nat → Rec Bs) : Prop :=
  (a.phase = 1 ∧ noD n R ∧ ∀ j : Nat, (j : Int) < n → (R j).st ≠ 2) ∨
  (a.phase = 2 ∧ noD n R ∧ st2 n R (mva a.m) ∧ ∀ j : Nat, (j : Int) < n → (a.recs.get j).isSome = true → (R j).st = 2) ∨
  (a.phase = 3 ∧ allD n R (mva a.m) ∧ st2 n R (mva a.m) ∧ ∃ S : P7 Bool, mj n S ∧ supB n S ∧ ∀ j : Nat, (j : Int) < n → S.get j = true → ((R j).st = 2 ∨ (R j).st = 3) ∧ ∀ r, br.get j = some r → r.st = 2) ∨
  (a.phase = 5 ∧ noD n R)
def X2 (a : LD) (R : Nat → Rec Bs) (v : Val) : Prop := (Dead n g a R ∧ noD n R) ∨ (a.phase = 2 ∧ mva a.m = v ∧ noD n R) ∨ (a.phase = 3 ∧ mva a.m = v ∧ allD n R v)
def X3 (a : LD) (R : Nat → Rec Bs) (v : Val) : Prop := allD n R v ∧ (Dead n g a R ∨ (a.phase = 2 ∧ mva a.m = v) ∨ (a.phase = 3 ∧ mva a.m = v))
def X5 (a : LD) (R : Nat → Rec Bs) : Prop := (a.phase = 3 ∧ allD n R (mva a.m)) ∨ (a.phase ≠ 3 ∧ noD n R)
def XN (R : Nat → Rec Bs) : Prop := ∀ j : Nat, (j : Int) < n → (R j).st ≠ 3 → (R j).bal ≠ bB g
def IBs (a b : LD) (R : Nat → Rec Bs) : Prop :=
  (b.phase = 4 ∧ P4a n g a b.recs R ∧ P4b n a b.recs R) ∨ (b.phase = 1 ∧ Dead n g a R ∧ noD n R) ∨ (b.phase = 2 ∧ X2 n g a R (mva b.m)) ∨ (b.phase = 3 ∧ X3 n g a R (mva b.m)) ∨ (b.phase = 5 ∧ X5 n a R)
def IB (a : LD) (ob : Option LD) (R : Nat → Rec Bs) : Prop := match ob with
  | none => P4a n g a (P7.all none) R ∧ P4b n a (P7.all none) R ∧ XN n g R
  | some b => IBs n g a b R
variable {n f g} {a a' : LD} {R R' : Nat → Rec Bs} {ob : Option LD}
theorem IB_A (hP : ∀ br, P4a n g a br R → P4b n a br R → P4a n g a' br R' ∧ P4b n a' br R') (hN : XN n g R → XN n g R') (h1 : Dead n g a R → noD n R → Dead n g a' R' ∧ noD n R')
    (h2 : ∀ v, X2 n g a R v → X2 n g a' R' v) (h3 : ∀ v, X3 n g a R v → X3 n g a' R' v) (h5 : X5 n a R → X5 n a' R') (h : IB n g a ob R) : IB n g a' ob R' := by
  cases ob with
  | none => obtain ⟨p1, p2, p3⟩ := h; exact ⟨(hP _ p1 p2).1, (hP _ p1 p2).2, hN p3⟩
  | some b =>
    rcases h with ⟨e, p1, p2⟩ | ⟨e, p1, p2⟩ | ⟨e, p⟩ | ⟨e, p⟩ | ⟨e, p⟩
    · exact .inl ⟨e, (hP _ p1 p2).1, (hP _ p1 p2).2⟩
    · exact .inr (.inl ⟨e, (h1 p1 p2).1, (h1 p1 p2).2⟩)
    · exact .inr (.inr (.inl ⟨e, h2 _ p⟩))
    · exact .inr (.inr (.inr (.inl ⟨e, h3 _ p⟩)))
    · exact .inr (.inr (.inr (.inr ⟨e, h5 p⟩)))
theorem A_hear (ha : a.phase = 1) (ha' : a'.phase = 1) (hR : ∀ j : Nat, (j : Int) < n → R' j = R j ∨ ((R j).bal ≠ bB g ∧ (R j).st ≠ 3 ∧ (R j).st ≠ 2 ∧ (R' j).st = 1 ∧ (R' j).bal ≠ bB g)) (h : IB n g a ob R) : IB n g a' ob R' := by
  have hblk : ∀ j : Nat, (j : Int) < n → blk1 g (R j) → R' j = R j := fun j hj hb => by
    rcases hR j hj with h | h
    · exact h
    · rcases hb with hb | hb
      · exact absurd hb h.1
      · exact absurd hb h.2.1
  have hno : noD n R → noD n R' := fun h j hj => by
    rcases hR j hj with e | e
    · rw [e]; exact h j hj
    · exact fun h => phx h e.2.2.2.1
  have hD : Dead n g a R → Dead n g a' R' := by
    rintro (h | ⟨_, Q, q1, q2, q3⟩)
    · exact phx h ha
    · exact .inr ⟨.inl ha', Q, q1, q2, fun j hj hq => ⟨by rw [hblk j hj (q3 j hj hq).1]; exact (q3 j hj hq).1, fun h => phx h ha'⟩⟩
  refine IB_A (fun br h4 hb => ⟨fun j hj r hr => ?_, ?_⟩) (fun h j hj => ?_) (fun h1 h2 => ⟨hD h1, hno h2⟩) (fun v h => ?_) (fun v h => ?_) (fun h => ?_) h
  · obtain ⟨c1, c2, c3, c4, c5⟩ := h4 j hj r hr
    exact ⟨by rw [hblk j hj c1]; exact c1, c2, c3, fun h => absurd ha (c4 h).1, fun _ h => phx h ha'⟩
  · rcases hb with ⟨_, b1, b2⟩ | ⟨h, _⟩ | ⟨h, _⟩ | ⟨h, _⟩
    · refine .inl ⟨ha', hno b1, fun j hj => ?_⟩
      rcases hR j hj with e | e
      · rw [e]; exact b2 j hj
      · exact fun h => phx h e.2.2.2.1
    all_goals exact phx h ha
  · rcases hR j hj with e | e
    · rw [e]; exact h j hj
    · exact fun _ => e.2.2.2.2
  · rcases h with ⟨h1, h2⟩ | ⟨h1, _⟩ | ⟨h1, _⟩
    · exact .inl ⟨hD h1, hno h2⟩
    · exact phx h1 ha
    · exact phx h1 ha
  · obtain ⟨h0, h⟩ := h
    refine ⟨fun j hj hs => ?_, ?_⟩
    · rcases hR j hj with e | e
      · rw [e] at hs ⊢; exact h0 j hj hs
      · exact phx hs e.2.2.2.1
    · rcases h with h1 | ⟨h1, _⟩ | ⟨h1, _⟩
      · exact .inl (hD h1)
      · exact phx h1 ha
      · exact phx h1 ha
  · rcases h with ⟨h1, _⟩ | ⟨h1, h2⟩
    · exact phx h1 ha
    · exact .inr ⟨fun h => phx h ha', hno h2⟩
theorem A_acc (ha : a.phase = 1 ∨ (a.phase = 2 ∧ mva a.m = mva a'.m)) (ha' : a'.phase = 2)
    (hR : ∀ j : Nat, (j : Int) < n → R' j = R j ∨ ((R j).bal ≠ bB g ∧ (R j).st ≠ 3 ∧ (R' j).st = 2 ∧ rva (R' j) = mva a'.m ∧ (R' j).bal ≠ bB g))
    (hc : ∀ j : Nat, (j : Int) < n → (a'.recs.get j).isSome = true → (a.phase = 2 ∧ (a.recs.get j).isSome = true) ∨ ((R j).bal ≠ bB g ∧ (R j).st ≠ 3 ∧ (R' j).st = 2)) (h : IB n g a ob R) : IB n g a' ob R' := by
  have hblk : ∀ j : Nat, (j : Int) < n → blk1 g (R j) → R' j = R j := fun j hj hb => by
    rcases hR j hj with h | h
    · exact h
    · rcases hb with hb | hb
      · exact absurd hb h.1
      · exact absurd hb h.2.1
  have hno : noD n R → noD n R' := fun h j hj => by
    rcases hR j hj with e | e
    · rw [e]; exact h j hj
    · exact fun h => phx h e.2.2.1
  have hnone : ∀ j : Nat, (j : Int) < n → blk1 g (R j) → (a.phase = 2 → a.recs.get j = none) → a'.recs.get j = none := fun j hj hb hn => by
    cases hq : a'.recs.get j with
    | none => rfl
    | some r =>
      rcases hc j hj (by rw [hq]; rfl) with ⟨e1, e2⟩ | ⟨e1, e2, _⟩
      · rw [hn e1] at e2; cases e2
      · rcases hb with hb | hb
        · exact absurd hb e1
        · exact absurd hb e2
  have hD : Dead n g a R → Dead n g a' R' := by
    rintro (h | ⟨_, Q, q1, q2, q3⟩)
    · rcases ha with ha | ha
      · exact phx h ha
      · exact phx h ha.1
    · exact .inr ⟨.inr ha', Q, q1, q2, fun j hj hq => ⟨by rw [hblk j hj (q3 j hj hq).1]; exact (q3 j hj hq).1, fun _ => hnone j hj (q3 j hj hq).1 (q3 j hj hq).2⟩⟩
  have h3 : ∀ {C : Prop}, a.phase = 3 → C := fun h => by
    rcases ha with ha | ha
    · exact phx h ha
    · exact phx h ha.1
  have h5 : ∀ {C : Prop}, a.phase = 5 → C := fun h => by
    rcases ha with ha | ha
    · exact phx h ha
    · exact phx h ha.1
  have hst : ∀ v, (a.phase = 2 → mva a.m = v) → (a.phase = 1 → mva a'.m = v) → mva a'.m = v := fun v h1 h2 => by
    rcases ha with ha | ha
    · exact h2 ha
    · exact ha.2.symm.trans (h1 ha.1)
  refine IB_A (fun br h4 hb => ⟨fun j hj r hr => ?_, ?_⟩) (fun h j hj => ?_) (fun h1 h2 => ⟨hD h1, hno h2⟩) (fun v h => ?_) (fun v h => ?_) (fun h => ?_) h
  · obtain ⟨c1, c2, c3, c4, c5⟩ := h4 j hj r hr
    refine ⟨by rw [hblk j hj c1]; exact c1, c2, c3, fun h => ⟨fun h => phx h ha', fun _ => ?_⟩, fun h _ => hnone j hj c1 (c5 h)⟩
    rcases ha with ha | ha
    · exact absurd ha (c4 h).1
    · exact ((c4 h).2 (.inl ha.1)).trans ha.2
  · refine .inr (.inl ?_)
    rcases hb with ⟨_, b1, b2⟩ | ⟨e, b1, b2, b3⟩ | ⟨h, _⟩ | ⟨h, _⟩
    · refine ⟨ha', hno b1, fun j hj hs => ?_, fun j hj hs => ?_⟩
      · rcases hR j hj with e | e
        · rw [e] at hs; exact absurd hs (b2 j hj)
        · exact e.2.2.2.1
      · rcases hc j hj hs with e | e
        · rename_i hp; exact phx e.1 hp
        · exact e.2.2
    · have hv : mva a.m = mva a'.m := by
        rcases ha with ha | ha
        · exact phx ha e
        · exact ha.2
      refine ⟨ha', hno b1, fun j hj hs => ?_, fun j hj hs => ?_⟩
      · rcases hR j hj with e | e
        · rw [e] at hs ⊢; exact (b2 j hj hs).trans hv
        · exact e.2.2.2.1
      · rcases hc j hj hs with e | e
        · rcases hR j hj with q | q
          · rw [q]; exact b3 j hj e.2
          · exact q.2.2.1
        · exact e.2.2
    · exact h3 h
    · exact h5 h
  · rcases hR j hj with e | e
    · rw [e]; exact h j hj
    · exact fun _ => e.2.2.2.2
  · rcases h with ⟨h1, h2⟩ | ⟨h1, h2, hh⟩ | ⟨h1, _⟩
    · exact .inl ⟨hD h1, hno h2⟩
    · exact .inr (.inl ⟨ha', hst v (fun _ => h2) (fun h => phx h h1), hno hh⟩)
    · exact h3 h1
  · obtain ⟨h0, h⟩ := h
    refine ⟨fun j hj hs => ?_, ?_⟩
    · rcases hR j hj with e | e
      · rw [e] at hs ⊢; exact h0 j hj hs
      · exact phx hs e.2.2.1
    · rcases h with h1 | ⟨h1, h2⟩ | ⟨h1, _⟩
      · exact .inl (hD h1)
      · exact .inr (.inl ⟨ha', hst v (fun _ => h2) (fun h => phx h h1)⟩)
      · exact h3 h1
  · rcases h with ⟨h1, _⟩ | ⟨h1, h2⟩
    · exact h3 h1
    · exact .inr ⟨fun h => phx h ha', hno h2⟩
theorem A_gone (ha : a.phase = 1 ∨ a.phase = 2) (ha' : a'.phase = 5) (h : IB n g a ob R) : IB n g a' ob R := by
  have hD : Dead n g a' R := .inl ha'
  have h3 : ∀ {C : Prop}, a.phase = 3 → C := fun h => by
    rcases ha with ha | ha <;> exact phx h ha
  refine IB_A (fun br h4 hb => ⟨fun j hj r hr => ?_, ?_⟩) (fun h => h) (fun _ h2 => ⟨hD, h2⟩) (fun v h => ?_) (fun v h => ⟨h.1, .inl hD⟩) (fun h => ?_) h
  · obtain ⟨c1, c2, c3, c4, c5⟩ := h4 j hj r hr
    exact ⟨c1, c2, c3, fun _ => ⟨fun h => phx h ha', fun h => by rcases h with h | h <;> exact phx h ha'⟩, fun _ h => phx h ha'⟩
  · rcases hb with ⟨_, b1, _⟩ | ⟨_, b1, _⟩ | ⟨h, _⟩ | ⟨_, b1⟩
    · exact .inr (.inr (.inr ⟨ha', b1⟩))
    · exact .inr (.inr (.inr ⟨ha', b1⟩))
    · exact h3 h
    · exact .inr (.inr (.inr ⟨ha', b1⟩))
  · rcases h with ⟨_, h2⟩ | ⟨_, _, h2⟩ | ⟨h1, _⟩
    · exact .inl ⟨hD, h2⟩
    · exact .inl ⟨hD, h2⟩
    · exact h3 h1
  · rcases h with ⟨h1, _⟩ | ⟨_, h2⟩
    · exact h3 h1
    · exact .inr ⟨fun h => phx h ha', h2⟩
theorem A_dec (h3 : 3 ≤ n) (h7 : n ≤ 7) (ha : a.phase = 2) (ha' : a'.phase = 3) (hv : mva a'.m = mva a.m) (hm : mj n (a.recs.map Option.isSome)) (hs : supB n (a.recs.map Option.isSome))
    (hR : ∀ j : Nat, (j : Int) < n → R' j = R j ∨ ((R' j).st = 3 ∧ rva (R' j) = mva a.m)) (h : IB n g a ob R) : IB n g a' ob R' := by
  have hb : ∀ j : Nat, (j : Int) < n → blk1 g (R j) → blk1 g (R' j) := fun j hj hb => by
    rcases hR j hj with e | e
    · rw [e]; exact hb
    · exact .inr e.1
  have hnD : ∀ {C : Prop}, Dead n g a R → C := by
    rintro C (h | ⟨_, Q, q1, q2, q3⟩)
    · exact phx h ha
    · obtain ⟨j, hj, s1, s2⟩ := inter n h3 h7 hm q1 hs q2
      rw [P7.get_map, (q3 j hj s2).2 ha] at s1
      cases s1
  have hall : ∀ v, noD n R ∨ allD n R v → mva a.m = v → allD n R' v := fun v h e j hj hs => by
    rcases hR j hj with q | q
    · rw [q] at hs ⊢
      rcases h with h | h
      · exact absurd hs (h j hj)
      · exact h j hj hs
    · exact q.2.trans e
  refine IB_A (fun br h4 hbb => ⟨fun j hj r hr => ?_, ?_⟩) (fun h j hj => ?_) (fun h1 _ => hnD h1) (fun v h => ?_) (fun v h => ?_) (fun h => ?_) h
  · obtain ⟨c1, c2, c3, c4, c5⟩ := h4 j hj r hr
    exact ⟨hb j hj c1, c2, c3, fun h => ⟨fun h => phx h ha', fun _ => ((c4 h).2 (.inl ha)).trans hv.symm⟩, fun _ h => phx h ha'⟩
  · rcases hbb with ⟨h, _⟩ | ⟨_, b1, b2, b3⟩ | ⟨h, _⟩ | ⟨h, _⟩
    · exact phx h ha
    · refine .inr (.inr (.inl ⟨ha', by rw [hv]; exact hall _ (.inl b1) rfl, fun j hj hs => ?_, a.recs.map Option.isSome, hm, hs, fun j hj hs => ⟨?_, fun r hr => ?_⟩⟩))
      · rcases hR j hj with q | q
        · rw [q] at hs ⊢; rw [hv]; exact b2 j hj hs
        · exact phx hs q.1
      · rw [P7.get_map] at hs
        rcases hR j hj with q | q
        · rw [q]; exact .inl (b3 j hj hs)
        · exact .inr q.1
      · rw [P7.get_map] at hs
        refine Classical.byContradiction fun hne => ?_
        rw [(h4 j hj r hr).2.2.2.2 hne ha] at hs
        cases hs
    · exact phx h ha
    · exact phx h ha
  · rcases hR j hj with q | q
    · rw [q]; exact h j hj
    · exact fun h => absurd q.1 h
  · rcases h with ⟨h1, _⟩ | ⟨_, h2, hh⟩ | ⟨h1, _⟩
    · exact hnD h1
    · exact .inr (.inr ⟨ha', hv.trans h2, hall v (.inl hh) h2⟩)
    · exact phx h1 ha
  · obtain ⟨h0, h⟩ := h
    rcases h with h1 | ⟨_, h2⟩ | ⟨h1, _⟩
    · exact hnD h1
    · exact ⟨hall v (.inr h0) h2, .inr (.inr ⟨ha', hv.trans h2⟩)⟩
    · exact phx h1 ha
  · rcases h with ⟨h1, _⟩ | ⟨_, h2⟩
    · exact phx h1 ha
    · exact .inl ⟨ha', hall _ (.inl h2) hv.symm⟩
theorem A_learn (ha : a.phase = 1 ∨ a.phase = 2) (ha' : a'.phase = 3) {i : Nat} (hi : (i : Int) < n) (hs : (R i).st = 3) (hv : rva (R i) = mva a'.m)
    (hR : ∀ j : Nat, (j : Int) < n → R' j = R j ∨ ((R' j).st = 3 ∧ rva (R' j) = mva a'.m)) (h : IB n g a ob R) : IB n g a' ob R' := by
  have hno : ∀ {C : Prop}, noD n R → C := fun h => absurd hs (h i hi)
  have h3 : ∀ {C : Prop}, a.phase = 3 → C := fun h => by
    rcases ha with ha | ha <;> exact phx h ha
  have h4 : ∀ {C : Prop} br, P4b n a br R → C := by
    rintro C br (⟨_, h, _⟩ | ⟨_, h, _⟩ | ⟨h, _⟩ | ⟨_, h⟩)
    · exact hno h
    · exact hno h
    · exact h3 h
    · exact hno h
  cases ob with
  | none => exact h4 _ h.2.1
  | some b =>
    rcases h with ⟨_, _, p⟩ | ⟨_, _, p⟩ | ⟨_, p⟩ | ⟨e, p0, p⟩ | ⟨_, p⟩
    · exact h4 _ p
    · exact hno p
    · rcases p with ⟨_, p⟩ | ⟨_, _, p⟩ | ⟨p, _⟩
      · exact hno p
      · exact hno p
      · exact h3 p
    · have hvb : mva a'.m = mva b.m := hv.symm.trans (p0 i hi hs)
      refine .inr (.inr (.inr (.inl ⟨e, fun j hj hs => ?_, .inr (.inr ⟨ha', hvb⟩)⟩)))
      rcases hR j hj with q | q
      · rw [q] at hs ⊢; exact p0 j hj hs
      · exact q.2.trans hvb
    · rcases p with ⟨p, _⟩ | ⟨_, p⟩
      · exact h3 p
      · exact hno p
theorem A_com (ha : a.phase = 3) (hR : ∀ j : Nat, (j : Int) < n → R' j = R j ∨ ((R' j).st = 3 ∧ rva (R' j) = mva a.m)) (h : IB n g a ob R) : IB n g a ob R' := by
  have hnD : ∀ {C : Prop}, Dead n g a R → C := by
    rintro C (h | ⟨h | h, _⟩) <;> exact phx h ha
  have hall : ∀ v, allD n R v → mva a.m = v → allD n R' v := fun v h e j hj hs => by
    rcases hR j hj with q | q
    · rw [q] at hs ⊢; exact h j hj hs
    · exact q.2.trans e
  refine IB_A (fun br h4 hbb => ⟨fun j hj r hr => ?_, ?_⟩) (fun h j hj => ?_) (fun h1 _ => hnD h1) (fun v h => ?_) (fun v h => ?_) (fun h => ?_) h
  · obtain ⟨c1, c2⟩ := h4 j hj r hr
    refine ⟨?_, c2⟩
    rcases hR j hj with e | e
    · rw [e]; exact c1
    · exact .inr e.1
  · rcases hbb with ⟨h, _⟩ | ⟨h, _⟩ | ⟨_, b1, b2, S, s1, s2, s3⟩ | ⟨h, _⟩
    · exact phx h ha
    · exact phx h ha
    · refine .inr (.inr (.inl ⟨ha, hall _ b1 rfl, fun j hj hs => ?_, S, s1, s2, fun j hj hs => ⟨?_, (s3 j hj hs).2⟩⟩))
      · rcases hR j hj with q | q
        · rw [q] at hs ⊢; exact b2 j hj hs
        · exact phx hs q.1
      · rcases hR j hj with q | q
        · rw [q]; exact (s3 j hj hs).1
        · exact .inr q.1
    · exact phx h ha
  · rcases hR j hj with q | q
    · rw [q]; exact h j hj
    · exact fun h => absurd q.1 h
  · rcases h with ⟨h1, _⟩ | ⟨h1, _⟩ | ⟨_, h2, hh⟩
    · exact hnD h1
    · exact phx h1 ha
    · exact .inr (.inr ⟨ha, h2, hall v hh h2⟩)
  · obtain ⟨h0, h⟩ := h
    rcases h with h1 | ⟨h1, _⟩ | ⟨_, h2⟩
    · exact hnD h1
    · exact phx h1 ha
    · exact ⟨hall v h0 h2, .inr (.inr ⟨ha, h2⟩)⟩
  · rcases h with ⟨_, h2⟩ | ⟨h1, _⟩
    · exact .inl ⟨ha, hall _ h2 rfl⟩
    · exact absurd ha h1
end
end Go.Proofs.Ytpihhlaiofkmdaa
