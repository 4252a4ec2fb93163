/- Sets, plainly: orders, what is forgotten. -/
import Derived.Test.YtmojfpaagokckaaLOrs2
namespace Go.Proofs.Ytmojfpaagokckaa
set_option linter.unusedVariables false
set_option linter.unusedSimpArgs false
open Go Go.Eng

/-! ### keys are once -/
def OS.nd (s : OS) : Prop := (s.added.map (·.1)).Nodup
theorem mput_keys {κ β : Type} [DecidableEq κ] (l : List (κ × β)) (k : κ) (v : β) : (mput l k v).map (·.1) = if k ∈ l.map (·.1) then l.map (·.1) else l.map (·.1) ++ [k] := by
  induction l with
  | nil => simp [mput]
  | cons x l ih =>
    obtain ⟨a, b⟩ := x
    by_cases h : a = k
    · subst h; simp [mput]
    · simp only [mput, if_neg h, List.map_cons, ih, List.mem_cons]
      by_cases h2 : k ∈ l.map (·.1)
      · rw [if_pos h2, if_pos (.inr h2)]
      · rw [if_neg h2, if_neg (by rintro (e | e); exact h e.symm; exact h2 e)]; rfl
theorem mput_nd {κ β : Type} [DecidableEq κ] {l : List (κ × β)} (h : (l.map (·.1)).Nodup) (k : κ) (v : β) : ((mput l k v).map (·.1)).Nodup := by
  rw [mput_keys]
  split
  · exact h
  · rename_i h2
    rw [List.nodup_append]
    exact ⟨h, by simp, fun a ha b hb e => by simp at hb; subst hb; subst e; exact h2 ha⟩
theorem mget_mem {κ β : Type} [DecidableEq κ] {l : List (κ × β)} (h : (l.map (·.1)).Nodup) {k : κ} {v : β} : mget l k = some v ↔ (k, v) ∈ l := by
  constructor
  · intro hg
    induction l with
    | nil => cases hg
    | cons x l ih =>
      obtain ⟨a, b⟩ := x
      by_cases hk : a = k
      · subst hk; simp [mget] at hg; subst hg; simp
      · simp only [mget, if_neg hk] at hg
        simp only [List.map_cons, List.nodup_cons] at h
        exact List.mem_cons_of_mem _ (ih h.2 hg)
  · intro hm
    obtain ⟨i, hi, he⟩ := List.getElem_of_mem hm
    exact mget_at h (by rw [List.getElem?_eq_getElem hi, he])
theorem OS.nd.new : OS.new.nd := List.nodup_nil
theorem OS.nd.addS {s : OS} (h : s.nd) (d : Dot) (x : Bs) : (s.add d x).1.nd := by
  unfold OS.add
  split
  · exact h
  · split
    · exact h
    · exact mput_nd h _ _
theorem OS.nd.removeS {s : OS} (h : s.nd) (x : Bs) (v : P7 Int) : (s.remove x v).1.nd := by
  unfold OS.remove; split <;> exact h
theorem OS.nd.actS {s : OS} (h : s.nd) (a : ActO) : (s.act a).nd := by
  unfold OS.act; split
  · exact h.addS _ _
  · exact h.removeS _ _
theorem OS.nd.dropS {s : OS} (h : s.nd) (st : P7 Int) : (s.drop st).nd := (List.filter_sublist.map _).nodup h
theorem acts_nd : ∀ (l : List ActO) (s : OS), s.nd → (l.foldl OS.act s).nd
  | [], _, h => h
  | a :: l, s, h => acts_nd l _ (h.actS a)

/-! ### the same that live -/
def sameL (a b : OS) : Prop := ∀ d x, (mget a.added d = some x ∧ a.live d x = true) ↔ (mget b.added d = some x ∧ b.live d x = true)
theorem lives_nd {s : OS} (h : s.nd) : s.lives.Nodup := by
  have : (s.lives.map (·.1)).Nodup := (List.filter_sublist.map _).nodup h
  exact (List.pairwise_map.1 this).imp fun h e => h (congrArg Prod.fst e)
theorem lives_mem {s : OS} (h : s.nd) {d : Dot} {x : Bs} : (d, x) ∈ s.lives ↔ mget s.added d = some x ∧ s.live d x = true := by
  unfold OS.lives
  rw [List.mem_filter, mget_mem h]
theorem sameL.perm {a b : OS} (ha : a.nd) (hb : b.nd) (h : sameL a b) : a.lives.Perm b.lives :=
  (List.perm_ext_iff_of_nodup (lives_nd ha) (lives_nd hb)).2 fun p => by
    obtain ⟨d, x⟩ := p
    rw [lives_mem ha, lives_mem hb]
    exact h d x
theorem dots_lives (s : OS) (x : Bs) : s.dots x = sortD ((s.lives.filter fun p => decide (x = p.2)).map (·.1)) := by
  unfold OS.dots OS.lives
  rw [List.filter_filter]
  congr 2
  refine List.filter_congr fun p _ => ?_
  by_cases h : x = p.2
  · rw [h]
  · simp [h]
theorem sameL.all {a b : OS} (ha : a.nd) (hb : b.nd) (h : sameL a b) : a.all = b.all := by
  unfold OS.all
  rw [sortB_perm ((h.perm ha hb).map _)]
theorem sameL.dots {a b : OS} (ha : a.nd) (hb : b.nd) (h : sameL a b) (x : Bs) : a.dots x = b.dots x := by
  rw [dots_lives, dots_lives]
  exact sortD_perm (((h.perm ha hb).filter _).map _)
theorem sameL.same {a b : OS} (ha : a.nd) (hb : b.nd) (h : sameL a b) : sameO a b = true := by
  unfold sameO
  rw [h.all ha hb]
  simp [h.dots ha hb]
theorem sameL.put {a b : OS} (ha : a.nd) (hb : b.nd) (h : sameL a b) : a.put = b.put := by
  have e : a.putX = b.putX := by
    funext buf x
    unfold OS.putX
    rw [h.dots ha hb]
  unfold OS.put
  rw [h.all ha hb, e]

/-! ### vectors -/
theorem hasV_merge (a b : P7 Int) (d : Dot) : hasV (vmerge a b) d = (hasV a d || hasV b d) := by
  unfold hasV vmerge
  rw [Bool.eq_iff_iff]
  simp only [decide_eq_true_eq, Bool.or_eq_true, P7.get_zip]
  unfold imax
  constructor
  · rintro ⟨h1, h2, h3, h4⟩
    split at h4
    · exact .inr ⟨h1, h2, h3, h4⟩
    · exact .inl ⟨h1, h2, h3, h4⟩
  · rintro (⟨h1, h2, h3, h4⟩ | ⟨h1, h2, h3, h4⟩)
    · refine ⟨h1, h2, h3, ?_⟩; split <;> omega
    · refine ⟨h1, h2, h3, ?_⟩; split <;> omega
theorem hasV_zero (d : Dot) : hasV (P7.all 0) d = false := by
  unfold hasV
  rw [decide_eq_false_iff_not]
  rintro ⟨_, _, h3, h4⟩
  rw [P7.get_all] at h4
  omega

/-! ### whatever order -/
def okA (y : ActO) : Prop := y.op = 0 ∧ y.d.ok = true ∧ y.x.length ≤ 100
def okR (y : ActO) : Prop := y.op ≠ 0 ∧ y.x.length ≤ 100 ∧ goodV y.v = true
def compat (l : List ActO) : Prop := ∀ y ∈ l, ∀ z ∈ l, y.op = 0 → z.op = 0 → y.d = z.d → y.x = z.x
theorem act_add {s : OS} {y : ActO} (h : okA y) (hc : ∀ x, mget s.added y.d = some x → x = y.x) : s.act y = { s with added := mput s.added y.d y.x } := by
  unfold OS.act OS.add
  rw [if_pos h.1, if_neg (by rw [h.2.1]; rintro (e | e); cases e; have := h.2.2; omega)]
  rw [if_neg]
  rintro ⟨h1, h2⟩
  obtain ⟨x, hx⟩ := Option.isSome_iff_exists.1 h1
  exact h2 (by rw [hx, hc x hx])
theorem act_no {s : OS} {y : ActO} (h : y.op = 0) (hn : ¬ okA y) : s.act y = s := by
  unfold OS.act OS.add
  rw [if_pos h, if_pos]
  by_cases hd : y.d.ok = true
  · right
    exact Nat.lt_of_not_le fun hl => hn ⟨h, hd, hl⟩
  · left; simpa using hd
theorem act_rem {s : OS} {y : ActO} (h : okR y) : s.act y = { s with gone := mput s.gone y.x (vmerge (s.gv y.x) y.v) } := by
  unfold OS.act OS.remove
  rw [if_neg h.1, if_neg (by rw [h.2.2]; simp; exact h.2.1)]
theorem act_nor {s : OS} {y : ActO} (h : y.op ≠ 0) (hn : ¬ okR y) : s.act y = s := by
  unfold OS.act OS.remove
  rw [if_neg h, if_pos]
  by_cases hg : goodV y.v = true
  · left
    exact Nat.lt_of_not_le fun hl => hn ⟨h, hl, hg⟩
  · right; simpa using hg
theorem gv_put (s : OS) (x z : Bs) (v : P7 Int) : ({ s with gone := mput s.gone x v } : OS).gv z = if x = z then v else s.gv z := by
  unfold OS.gv
  rw [mget_mput]
  split <;> rfl
theorem acts_add : ∀ (l : List ActO) (s : OS), compat l → (∀ y ∈ l, y.op = 0 → ∀ x, mget s.added y.d = some x → x = y.x) → ∀ d x,
    mget (l.foldl OS.act s).added d = some x ↔ (mget s.added d = some x ∨ ∃ y ∈ l, okA y ∧ y.d = d ∧ y.x = x)
  | [], s, _, _, d, x => by simp
  | y :: l, s, hc, hs, d, x => by
    have hc' : compat l := fun a ha b hb => hc a (by simp [ha]) b (by simp [hb])
    have key : (mget (s.act y).added d = some x ↔ (mget s.added d = some x ∨ (okA y ∧ y.d = d ∧ y.x = x))) ∧ (∀ z ∈ l, z.op = 0 → ∀ x, mget (s.act y).added z.d = some x → x = z.x) := by
      by_cases ho : okA y
      · rw [act_add ho (hs y (by simp) ho.1)]
        simp only [mget_mput]
        refine ⟨?_, fun z hz hz0 x => ?_⟩
        · by_cases hd : y.d = d
          · rw [if_pos hd]
            constructor
            · intro h; exact .inr ⟨ho, hd, by simpa using h⟩
            · rintro (h | ⟨_, _, h⟩)
              · have := hs y (by simp) ho.1 x (by rw [hd]; exact h)
                rw [this]
              · rw [h]
          · rw [if_neg hd]
            constructor
            · exact .inl
            · rintro (h | ⟨_, h, _⟩)
              · exact h
              · exact absurd h hd
        · by_cases hd : y.d = z.d
          · rw [if_pos hd]
            intro h
            have := hc y (by simp) z (by simp [hz]) ho.1 hz0 hd
            simp at h
            rw [← h, this]
          · rw [if_neg hd]; exact hs z (by simp [hz]) hz0 x
      · have e : (s.act y).added = s.added := by
          by_cases h0 : y.op = 0
          · rw [act_no h0 ho]
          · by_cases hr : okR y
            · rw [act_rem hr]
            · rw [act_nor h0 hr]
        rw [e]
        refine ⟨⟨.inl, ?_⟩, fun z hz => hs z (by simp [hz])⟩
        rintro (h | ⟨h, _⟩)
        · exact h
        · exact absurd h ho
    rw [List.foldl_cons, acts_add l (s.act y) hc' key.2 d x, key.1]
    constructor
    · rintro ((h | h) | ⟨z, hz, h⟩)
      · exact .inl h
      · exact .inr ⟨y, by simp, h⟩
      · exact .inr ⟨z, by simp [hz], h⟩
    · rintro (h | ⟨z, hz, h⟩)
      · exact .inl (.inl h)
      · rcases List.mem_cons.1 hz with rfl | hz
        · exact .inl (.inr h)
        · exact .inr ⟨z, hz, h⟩
theorem acts_gone : ∀ (l : List ActO) (s : OS) (x : Bs) (d : Dot), hasV ((l.foldl OS.act s).gv x) d = true ↔ (hasV (s.gv x) d = true ∨ ∃ y ∈ l, okR y ∧ y.x = x ∧ hasV y.v d = true)
  | [], s, x, d => by simp
  | y :: l, s, x, d => by
    have key : hasV ((s.act y).gv x) d = true ↔ (hasV (s.gv x) d = true ∨ (okR y ∧ y.x = x ∧ hasV y.v d = true)) := by
      by_cases ho : okR y
      · rw [act_rem ho, gv_put]
        by_cases hx : y.x = x
        · rw [if_pos hx, hasV_merge, Bool.or_eq_true, hx]
          simp [ho]
        · rw [if_neg hx]; simp [hx]
      · have e : (s.act y).gv x = s.gv x := by
          by_cases h0 : y.op = 0
          · unfold OS.act OS.add
            rw [if_pos h0]
            split
            · rfl
            · split <;> rfl
          · rw [act_nor h0 ho]
        rw [e]; simp [ho]
    rw [List.foldl_cons, acts_gone l (s.act y) x d, key]
    constructor
    · rintro ((h | h) | ⟨z, hz, h⟩)
      · exact .inl h
      · exact .inr ⟨y, by simp, h⟩
      · exact .inr ⟨z, by simp [hz], h⟩
    · rintro (h | ⟨z, hz, h⟩)
      · exact .inl (.inl h)
      · rcases List.mem_cons.1 hz with rfl | hz
        · exact .inl (.inr h)
        · exact .inr ⟨z, hz, h⟩
theorem order_same {l m : List ActO} (hc : compat l) (hm : ∀ y, y ∈ m ↔ y ∈ l) : sameL (l.foldl OS.act OS.new) (m.foldl OS.act OS.new) := by
  have hcm : compat m := fun a ha b hb => hc a ((hm a).1 ha) b ((hm b).1 hb)
  have h0 : ∀ (l : List ActO), ∀ y ∈ l, y.op = 0 → ∀ x, mget OS.new.added y.d = some x → x = y.x := fun _ _ _ _ x h => by cases h
  intro d x
  have e1 : mget (l.foldl OS.act OS.new).added d = some x ↔ mget (m.foldl OS.act OS.new).added d = some x := by
    rw [acts_add l _ hc (h0 l), acts_add m _ hcm (h0 m)]
    simp only [hm]
  have e2 : (l.foldl OS.act OS.new).live d x = (m.foldl OS.act OS.new).live d x := by
    unfold OS.live
    congr 1
    rw [Bool.eq_iff_iff, acts_gone, acts_gone]
    simp only [hm]
  rw [e1, e2]
theorem add_idem (s : OS) (d : Dot) (x : Bs) : ((s.add d x).1.add d x).1 = (s.add d x).1 := by
  unfold OS.add
  by_cases h1 : d.ok = false ∨ 100 < x.length
  · rw [if_pos h1, if_pos h1]
  · rw [if_neg h1, if_neg h1]
    by_cases h2 : (mget s.added d).isSome = true ∧ mget s.added d ≠ some x
    · rw [if_pos h2]
      simp only
      rw [if_pos h2]
    · rw [if_neg h2]
      simp only
      rw [mget_mput, if_pos rfl, if_neg (by simp)]
      have : ∀ (l : List (Dot × Bs)), mput (mput l d x) d x = mput l d x := by
        intro l
        induction l with
        | nil => simp [mput]
        | cons p l ih =>
          obtain ⟨a, b⟩ := p
          by_cases h : a = d
          · simp [mput, h]
          · simp [mput, h, ih]
      rw [this]
def rot (l : List ActO) (t : Nat) : List ActO := (List.range l.length).map fun i => l.getD ((i + t) % l.length) ⟨0, ⟨0, 0⟩, [], P7.all 0⟩
theorem rot_mem (l : List ActO) (t : Nat) (ht : t < l.length) (y : ActO) : y ∈ rot l t ↔ y ∈ l := by
  unfold rot
  rw [List.mem_map]
  constructor
  · rintro ⟨i, hi, rfl⟩
    have : (i + t) % l.length < l.length := Nat.mod_lt _ (by omega)
    rw [List.getD_eq_getElem?_getD, List.getElem?_eq_getElem this]
    exact List.getElem_mem this
  · intro hy
    obtain ⟨j, hj, rfl⟩ := List.getElem_of_mem hy
    by_cases h : t ≤ j
    · refine ⟨j - t, List.mem_range.2 (by omega), ?_⟩
      rw [show j - t + t = j by omega, Nat.mod_eq_of_lt hj, List.getD_eq_getElem?_getD, List.getElem?_eq_getElem hj]
      rfl
    · refine ⟨j + l.length - t, List.mem_range.2 (by omega), ?_⟩
      rw [show j + l.length - t + t = j + l.length by omega, Nat.add_mod_right, Nat.mod_eq_of_lt hj, List.getD_eq_getElem?_getD, List.getElem?_eq_getElem hj]
      rfl

/-! ### what is forgotten -/
def pos7 (v : P7 Int) : Prop := ∀ i, i < 7 → 0 ≤ v.get i
def leP (a b : P7 Int) : Prop := ∀ i, i < 7 → a.get i ≤ b.get i
theorem leP.has {a b : P7 Int} (h : leP a b) {d : Dot} (hd : hasV a d = true) : hasV b d = true := by
  unfold hasV at *
  simp only [decide_eq_true_eq] at *
  have := h d.rep.toNat (by omega)
  omega
theorem pos_merge {a b : P7 Int} (ha : pos7 a) : pos7 (vmerge a b) := fun i hi => by
  rw [vmerge, P7.get_zip]
  have := ha i hi
  unfold imax; split <;> omega
theorem merge_le {a st v : P7 Int} (h1 : leP a st) (h2 : leP st v) : vmerge a v = v := P7.ext7 fun i hi => by
  rw [vmerge, P7.get_zip]
  have := h1 i hi
  have := h2 i hi
  unfold imax; split <;> omega
structure DR (st : P7 Int) (a b : OS) : Prop where
  anew : ∀ d, hasV st d = false → mget a.added d = mget b.added d
  bold : ∀ d x, hasV st d = true → mget b.added d = some x → mget a.added d = some x ∧ (a.gv x = b.gv x ∨ a.live d x = true)
  aold : ∀ d x, hasV st d = true → mget a.added d = some x → mget b.added d = none → a.live d x = false
  gvs : ∀ x, a.gv x = b.gv x ∨ (b.gv x = P7.all 0 ∧ leP (a.gv x) st)
  pos : ∀ x, pos7 (a.gv x)
theorem DR.sameL {st : P7 Int} {a b : OS} (h : DR st a b) : sameL a b := by
  intro d x
  cases hs : hasV st d with
  | false =>
    rw [h.anew d hs]
    have e : a.live d x = b.live d x := by
      unfold OS.live
      rcases h.gvs x with e | ⟨e, hl⟩
      · rw [e]
      · rw [e, hasV_zero]
        cases ha : hasV (a.gv x) d with
        | false => rfl
        | true => have := hl.has ha; rw [hs] at this; cases this
    rw [e]
  | true =>
    constructor
    · rintro ⟨h1, h2⟩
      cases hb : mget b.added d with
      | none => have := h.aold d x hs h1 hb; rw [h2] at this; cases this
      | some y =>
        have := (h.bold d y hs hb).1
        rw [h1] at this
        cases this
        refine ⟨rfl, ?_⟩
        unfold OS.live at h2 ⊢
        rcases h.gvs x with e | ⟨e, _⟩
        · rw [← e]; exact h2
        · rw [e, hasV_zero]; rfl
    · rintro ⟨h1, h2⟩
      obtain ⟨h3, h4⟩ := h.bold d x hs h1
      refine ⟨h3, ?_⟩
      rcases h4 with e | e
      · unfold OS.live at h2 ⊢
        rw [e]; exact h2
      · exact e
theorem mget_filter {κ β : Type} [DecidableEq κ] {l : List (κ × β)} (hn : (l.map (·.1)).Nodup) (p : κ × β → Bool) (k : κ) : mget (l.filter p) k = (mget l k).filter fun v => p (k, v) := by
  induction l with
  | nil => rfl
  | cons x l ih =>
    obtain ⟨a, b⟩ := x
    simp only [List.map_cons, List.nodup_cons] at hn
    by_cases hk : a = k
    · subst hk
      have h0 : mget (l.filter p) a = none := mget_none.2 fun q hq e => hn.1 (List.mem_map.2 ⟨q, (List.mem_filter.1 hq).1, e⟩)
      simp only [List.filter_cons, mget, if_true]
      by_cases hp : p (a, b) = true
      · rw [if_pos hp]; simp [mget, Option.filter, hp]
      · rw [if_neg hp, h0]; simp [Option.filter, hp]
    · simp only [List.filter_cons, mget, if_neg hk]
      split
      · simp only [mget, if_neg hk]; exact ih hn.2
      · exact ih hn.2
theorem DR.start {st : P7 Int} {a : OS} (hn : a.nd) (hg : (a.gone.map (·.1)).Nodup) (hp : ∀ x, pos7 (a.gv x)) : DR st a (a.drop st) := by
  have ha : ∀ d, mget (a.drop st).added d = (mget a.added d).filter fun x => !(!a.live d x && hasV st d) := fun d => mget_filter hn _ d
  have hgo : ∀ x, mget (a.drop st).gone x = (mget a.gone x).filter fun v => !leV v st := fun x => mget_filter hg _ x
  have hgv : ∀ x, a.gv x = (a.drop st).gv x ∨ ((a.drop st).gv x = P7.all 0 ∧ leP (a.gv x) st) := fun x => by
    unfold OS.gv
    rw [hgo]
    cases hm : mget a.gone x with
    | none => exact .inl rfl
    | some v =>
      cases hl : leV v st with
      | false => simp [Option.filter, hl]
      | true => right; simp only [Option.filter, hl]; exact ⟨rfl, (leV_iff v st).1 hl⟩
  refine ⟨fun d hs => ?_, fun d x hs hb => ?_, fun d x hs h1 h2 => ?_, hgv, hp⟩
  · rw [ha, hs]; cases mget a.added d <;> simp [Option.filter]
  · rw [ha] at hb
    cases hm : mget a.added d with
    | none => rw [hm] at hb; cases hb
    | some y =>
      rw [hm, hs] at hb
      cases hl : a.live d y with
      | false => simp [Option.filter, hl] at hb
      | true =>
        simp [Option.filter, hl] at hb
        subst hb
        exact ⟨rfl, .inr hl⟩
  · rw [ha, h1, hs] at h2
    cases hl : a.live d x with
    | false => rfl
    | true => simp [Option.filter, hl] at h2
theorem DR.add {st : P7 Int} {a b : OS} (h : DR st a b) {d : Dot} {x : Bs} (hs : hasV st d = false) : (a.add d x).2 = (b.add d x).2 ∧ DR st (a.add d x).1 (b.add d x).1 := by
  unfold OS.add
  rw [← h.anew d hs]
  by_cases h1 : d.ok = false ∨ 100 < x.length
  · rw [if_pos h1, if_pos h1]; exact ⟨rfl, h⟩
  · rw [if_neg h1, if_neg h1]
    by_cases h2 : (mget a.added d).isSome = true ∧ mget a.added d ≠ some x
    · rw [if_pos h2, if_pos h2]; exact ⟨rfl, h⟩
    · rw [if_neg h2, if_neg h2]
      refine ⟨rfl, ⟨fun e he => ?_, fun e y he hb => ?_, fun e y he h3 h4 => ?_, h.gvs, h.pos⟩⟩
      · simp only [mget_mput]
        split
        · rfl
        · exact h.anew e he
      · have hne : d ≠ e := fun q => by rw [q, he] at hs; cases hs
        simp only [mget_mput, if_neg hne] at hb ⊢
        exact h.bold e y he hb
      · have hne : d ≠ e := fun q => by rw [q, he] at hs; cases hs
        simp only [mget_mput, if_neg hne] at h3 h4
        exact h.aold e y he h3 h4
theorem DR.remove {st : P7 Int} {a b : OS} (h : DR st a b) {x : Bs} {v : P7 Int} (hl : leV st v = true) (hst : pos7 st) : (a.remove x v).2 = (b.remove x v).2 ∧ DR st (a.remove x v).1 (b.remove x v).1 := by
  have hl := (leV_iff st v).1 hl
  unfold OS.remove
  by_cases h1 : 100 < x.length ∨ goodV v = false
  · rw [if_pos h1, if_pos h1]; exact ⟨rfl, h⟩
  · rw [if_neg h1, if_neg h1]
    have hx : vmerge (a.gv x) v = vmerge (b.gv x) v := by
      rcases h.gvs x with e | ⟨e, hle⟩
      · rw [e]
      · rw [e, merge_le hle hl, merge_le (st := st) (fun i hi => by rw [P7.get_all]; exact hst i hi) hl]
    have hgv : ∀ z, ({ a with gone := mput a.gone x (vmerge (a.gv x) v) } : OS).gv z = ({ b with gone := mput b.gone x (vmerge (b.gv x) v) } : OS).gv z ∨
        (x ≠ z ∧ ({ b with gone := mput b.gone x (vmerge (b.gv x) v) } : OS).gv z = P7.all 0 ∧ leP (({ a with gone := mput a.gone x (vmerge (a.gv x) v) } : OS).gv z) st) := fun z => by
      rw [gv_put, gv_put]
      by_cases hz : x = z
      · rw [if_pos hz, if_pos hz]; exact .inl hx
      · rw [if_neg hz, if_neg hz]
        rcases h.gvs z with e | e
        · exact .inl e
        · exact .inr ⟨hz, e⟩
    refine ⟨rfl, ⟨h.anew, fun d y hs hb => ?_, fun d y hs h3 h4 => ?_, fun z => (hgv z).imp id fun e => e.2, fun z => ?_⟩⟩
    · obtain ⟨h3, h4⟩ := h.bold d y hs hb
      refine ⟨h3, ?_⟩
      rcases hgv y with e | ⟨hz, _⟩
      · exact .inl e
      · rcases h4 with e | e
        · left; rw [gv_put, gv_put, if_neg hz, if_neg hz]; exact e
        · right; unfold OS.live at e ⊢; rw [gv_put, if_neg hz]; exact e
    · have := h.aold d y hs h3 h4
      unfold OS.live at this ⊢
      rw [gv_put]
      by_cases hz : x = y
      · rw [if_pos hz, hasV_merge, hz]
        simp only [Bool.not_eq_false'] at this ⊢
        rw [this]; rfl
      · rw [if_neg hz]; exact this
    · rw [gv_put]
      split
      · exact pos_merge (h.pos x)
      · exact h.pos z
theorem acts_pos : ∀ (l : List ActO) (s : OS), (∀ x, pos7 (s.gv x)) → ∀ x, pos7 ((l.foldl OS.act s).gv x)
  | [], s, h => h
  | y :: l, s, h => acts_pos l _ fun x => by
    by_cases ho : okR y
    · rw [act_rem ho, gv_put]
      split
      · exact pos_merge (h _)
      · exact h x
    · have e : (s.act y).gv x = s.gv x := by
        by_cases h0 : y.op = 0
        · unfold OS.act OS.add
          rw [if_pos h0]
          split
          · rfl
          · split <;> rfl
        · rw [act_nor h0 ho]
      rw [e]; exact h x
theorem acts_gnd : ∀ (l : List ActO) (s : OS), (s.gone.map (·.1)).Nodup → ((l.foldl OS.act s).gone.map (·.1)).Nodup
  | [], s, h => h
  | y :: l, s, h => acts_gnd l _ (by
    unfold OS.act OS.add OS.remove
    split
    · split
      · exact h
      · split <;> exact h
    · split
      · exact h
      · exact mput_nd h _ _)
end Go.Proofs.Ytmojfpaagokckaa
