/- Texts of the claim OrsetPlays, joined: POrs2, PRef7, CRefW, CRef7. -/
import Derived.Test.YtmojfpaagokckaaBOrsetPlays8
import Derived.Sort.Walk0
import Derived.Test.YtmojfpaagokckaaBOrsetPlays6
namespace Go.Proofs.Ytmojfpaagokckaa
set_option linter.unusedVariables false
set_option linter.unusedSimpArgs false
open Go Go.Eng

/-! ### keys are once -/
def OS.nd (s : OS) : Prop := (s.added.map (·.1)).Nodup
theorem mput_keys {κ β : Type} [DecidableEq κ] (l : List (κ × β)) (k : κ) (v : β) : (mput l k v).map (·.1) = if k ∈ l.map (·.1) then l.map (·.1) else l.map (·.1) ++ [k] := by
  induction l with
  | nil => simp [mput]
  | cons x l ih =>
    obtain ⟨a, b⟩ := x
    by_cases h : a = k
    · subst h; simp [mput]
    · simp only [mput, if_neg h, List.map_cons, ih, List.mem_cons]
      by_cases h2 : k ∈ l.map (·.1)
      · rw [if_pos h2, if_pos (.inr h2)]
      · rw [if_neg h2, if_neg (by rintro (e | e); exact h e.symm; exact h2 e)]; rfl
theorem mput_nd {κ β : Type} [DecidableEq κ] {l : List (κ × β)} (h : (l.map (·.1)).Nodup) (k : κ) (v : β) : ((mput l k v).map (·.1)).Nodup := by
  rw [mput_keys]
  split
  · exact h
  · rename_i h2
    rw [List.nodup_append]
    exact ⟨h, by simp, fun a ha b hb e => by simp at hb; subst hb; subst e; exact h2 ha⟩
theorem mget_mem {κ β : Type} [DecidableEq κ] {l : List (κ × β)} (h : (l.map (·.1)).Nodup) {k : κ} {v : β} : mget l k = some v ↔ (k, v) ∈ l := by
  constructor
  · intro hg
    induction l with
    | nil => cases hg
    | cons x l ih =>
      obtain ⟨a, b⟩ := x
      by_cases hk : a = k
      · subst hk; simp [mget] at hg; subst hg; simp
      · simp only [mget, if_neg hk] at hg
        simp only [List.map_cons, List.nodup_cons] at h
        exact List.mem_cons_of_mem _ (ih h.2 hg)
  · intro hm
    obtain ⟨i, hi, he⟩ := List.getElem_of_mem hm
    exact mget_at h (by rw [List.getElem?_eq_getElem hi, he])
theorem OS.nd.new : OS.new.nd := List.nodup_nil
theorem OS.nd.addS {s : OS} (h : s.nd) (d : Dot) (x : Bs) : (s.add d x).1.nd := by
  unfold OS.add
  split
  · exact h
  · split
    · exact h
    · exact mput_nd h _ _
theorem OS.nd.removeS {s : OS} (h : s.nd) (x : Bs) (v : P7 Int) : (s.remove x v).1.nd := by
  unfold OS.remove; split <;> exact h
theorem OS.nd.actS {s : OS} (h : s.nd) (a : ActO) : (s.act a).nd := by
  unfold OS.act; split
  · exact h.addS _ _
  · exact h.removeS _ _
theorem OS.nd.dropS {s : OS} (h : s.nd) (st : P7 Int) : (s.drop st).nd := (List.filter_sublist.map _).nodup h
theorem acts_nd : ∀ (l : List ActO) (s : OS), s.nd → (l.foldl OS.act s).nd
  | [], _, h => h
  | a :: l, s, h => acts_nd l _ (h.actS a)

/-! ### the same that live -/
def sameL (a b : OS) : Prop := ∀ d x, (mget a.added d = some x ∧ a.live d x = true) ↔ (mget b.added d = some x ∧ b.live d x = true)
theorem lives_nd {s : OS} (h : s.nd) : s.lives.Nodup := by
  have : (s.lives.map (·.1)).Nodup := (List.filter_sublist.map _).nodup h
  exact (List.pairwise_map.1 this).imp fun h e => h (congrArg Prod.fst e)
theorem lives_mem {s : OS} (h : s.nd) {d : Dot} {x : Bs} : (d, x) ∈ s.lives ↔ mget s.added d = some x ∧ s.live d x = true := by
  unfold OS.lives
  rw [List.mem_filter, mget_mem h]
theorem sameL.perm {a b : OS} (ha : a.nd) (hb : b.nd) (h : sameL a b) : a.lives.Perm b.lives :=
  (List.perm_ext_iff_of_nodup (lives_nd ha) (lives_nd hb)).2 fun p => by
    obtain ⟨d, x⟩ := p
    rw [lives_mem ha, lives_mem hb]
    exact h d x
theorem dots_lives (s : OS) (x : Bs) : s.dots x = sortD ((s.lives.filter fun p => decide (x = p.2)).map (·.1)) := by
  unfold OS.dots OS.lives
  rw [List.filter_filter]
  congr 2
  refine List.filter_congr fun p _ => ?_
  by_cases h : x = p.2
  · rw [h]
  · simp [h]
theorem sameL.all {a b : OS} (ha : a.nd) (hb : b.nd) (h : sameL a b) : a.all = b.all := by
  unfold OS.all
  rw [sortB_perm ((h.perm ha hb).map _)]
theorem sameL.dots {a b : OS} (ha : a.nd) (hb : b.nd) (h : sameL a b) (x : Bs) : a.dots x = b.dots x := by
  rw [dots_lives, dots_lives]
  exact sortD_perm (((h.perm ha hb).filter _).map _)
theorem sameL.same {a b : OS} (ha : a.nd) (hb : b.nd) (h : sameL a b) : sameO a b = true := by
  unfold sameO
  rw [h.all ha hb]
  simp [h.dots ha hb]
theorem sameL.put {a b : OS} (ha : a.nd) (hb : b.nd) (h : sameL a b) : a.put = b.put := by
  have e : a.putX = b.putX := by
    funext buf x
    unfold OS.putX
    rw [h.dots ha hb]
  unfold OS.put
  rw [h.all ha hb, e]

/-! ### vectors -/
theorem hasV_merge (a b : P7 Int) (d : Dot) : hasV (vmerge a b) d = (hasV a d || hasV b d) := by
  unfold hasV vmerge
  rw [Bool.eq_iff_iff]
  simp only [decide_eq_true_eq, Bool.or_eq_true, P7.get_zip]
  unfold imax
  constructor
  · rintro ⟨h1, h2, h3, h4⟩
    split at h4
    · exact .inr ⟨h1, h2, h3, h4⟩
    · exact .inl ⟨h1, h2, h3, h4⟩
  · rintro (⟨h1, h2, h3, h4⟩ | ⟨h1, h2, h3, h4⟩)
    · refine ⟨h1, h2, h3, ?_⟩; split <;> omega
    · refine ⟨h1, h2, h3, ?_⟩; split <;> omega
theorem hasV_zero (d : Dot) : hasV (P7.all 0) d = false := by
  unfold hasV
  rw [decide_eq_false_iff_not]
  rintro ⟨_, _, h3, h4⟩
  rw [P7.get_all] at h4
  omega

/-! ### whatever order -/
def okA (y : ActO) : Prop := y.op = 0 ∧ y.d.ok = true ∧ y.x.length ≤ 100
def okR (y : ActO) : Prop := y.op ≠ 0 ∧ y.x.length ≤ 100 ∧ goodV y.v = true
def compat (l : List ActO) : Prop := ∀ y ∈ l, ∀ z ∈ l, y.op = 0 → z.op = 0 → y.d = z.d → y.x = z.x
theorem act_add {s : OS} {y : ActO} (h : okA y) (hc : ∀ x, mget s.added y.d = some x → x = y.x) : s.act y = { s with added := mput s.added y.d y.x } := by
  unfold OS.act OS.add
  rw [if_pos h.1, if_neg (by rw [h.2.1]; rintro (e | e); cases e; have := h.2.2; omega)]
  rw [if_neg]
  rintro ⟨h1, h2⟩
  obtain ⟨x, hx⟩ := Option.isSome_iff_exists.1 h1
  exact h2 (by rw [hx, hc x hx])
theorem act_no {s : OS} {y : ActO} (h : y.op = 0) (hn : ¬ okA y) : s.act y = s := by
  unfold OS.act OS.add
  rw [if_pos h, if_pos]
  by_cases hd : y.d.ok = true
  · right
    exact Nat.lt_of_not_le fun hl => hn ⟨h, hd, hl⟩
  · left; simpa using hd
theorem act_rem {s : OS} {y : ActO} (h : okR y) : s.act y = { s with gone := mput s.gone y.x (vmerge (s.gv y.x) y.v) } := by
  unfold OS.act OS.remove
  rw [if_neg h.1, if_neg (by rw [h.2.2]; simp; exact h.2.1)]
theorem act_nor {s : OS} {y : ActO} (h : y.op ≠ 0) (hn : ¬ okR y) : s.act y = s := by
  unfold OS.act OS.remove
  rw [if_neg h, if_pos]
  by_cases hg : goodV y.v = true
  · left
    exact Nat.lt_of_not_le fun hl => hn ⟨h, hl, hg⟩
  · right; simpa using hg
theorem gv_put (s : OS) (x z : Bs) (v : P7 Int) : ({ s with gone := mput s.gone x v } : OS).gv z = if x = z then v else s.gv z := by
  unfold OS.gv
  rw [mget_mput]
  split <;> rfl
theorem acts_add : ∀ (l : List ActO) (s : OS), compat l → (∀ y ∈ l, y.op = 0 → ∀ x, mget s.added y.d = some x → x = y.x) → ∀ d x,
    mget (l.foldl OS.act s).added d = some x ↔ (mget s.added d = some x ∨ ∃ y ∈ l, okA y ∧ y.d = d ∧ y.x = x)
  | [], s, _, _, d, x => by simp
  | y :: l, s, hc, hs, d, x => by
    have hc' : compat l := fun a ha b hb => hc a (by simp [ha]) b (by simp [hb])
    have key : (mget (s.act y).added d = some x ↔ (mget s.added d = some x ∨ (okA y ∧ y.d = d ∧ y.x = x))) ∧ (∀ z ∈ l, z.op = 0 → ∀ x, mget (s.act y).added z.d = some x → x = z.x) := by
      by_cases ho : okA y
      · rw [act_add ho (hs y (by simp) ho.1)]
        simp only [mget_mput]
        refine ⟨?_, fun z hz hz0 x => ?_⟩
        · by_cases hd : y.d = d
          · rw [if_pos hd]
            constructor
            · intro h; exact .inr ⟨ho, hd, by simpa using h⟩
            · rintro (h | ⟨_, _, h⟩)
              · have := hs y (by simp) ho.1 x (by rw [hd]; exact h)
                rw [this]
              · rw [h]
          · rw [if_neg hd]
            constructor
            · exact .inl
            · rintro (h | ⟨_, h, _⟩)
              · exact h
              · exact absurd h hd
        · by_cases hd : y.d = z.d
          · rw [if_pos hd]
            intro h
            have := hc y (by simp) z (by simp [hz]) ho.1 hz0 hd
            simp at h
            rw [← h, this]
          · rw [if_neg hd]; exact hs z (by simp [hz]) hz0 x
      · have e : (s.act y).added = s.added := by
          by_cases h0 : y.op = 0
          · rw [act_no h0 ho]
          · by_cases hr : okR y
            · rw [act_rem hr]
            · rw [act_nor h0 hr]
        rw [e]
        refine ⟨⟨.inl, ?_⟩, fun z hz => hs z (by simp [hz])⟩
        rintro (h | ⟨h, _⟩)
        · exact h
        · exact absurd h ho
    rw [List.foldl_cons, acts_add l (s.act y) hc' key.2 d x, key.1]
    constructor
    · rintro ((h | h) | ⟨z, hz, h⟩)
      · exact .inl h
      · exact .inr ⟨y, by simp, h⟩
      · exact .inr ⟨z, by simp [hz], h⟩
    · rintro (h | ⟨z, hz, h⟩)
      · exact .inl (.inl h)
      · rcases List.mem_cons.1 hz with rfl | hz
        · exact .inl (.inr h)
        · exact .inr ⟨z, hz, h⟩
theorem acts_gone : ∀ (l : List ActO) (s : OS) (x : Bs) (d : Dot), hasV ((l.foldl OS.act s).gv x) d = true ↔ (hasV (s.gv x) d = true ∨ ∃ y ∈ l, okR y ∧ y.x = x ∧ hasV y.v d = true)
  | [], s, x, d => by simp
  | y :: l, s, x, d => by
    have key : hasV ((s.act y).gv x) d = true ↔ (hasV (s.gv x) d = true ∨ (okR y ∧ y.x = x ∧ hasV y.v d = true)) := by
      by_cases ho : okR y
      · rw [act_rem ho, gv_put]
        by_cases hx : y.x = x
        · rw [if_pos hx, hasV_merge, Bool.or_eq_true, hx]
          simp [ho]
        · rw [if_neg hx]; simp [hx]
      · have e : (s.act y).gv x = s.gv x := by
          by_cases h0 : y.op = 0
          · unfold OS.act OS.add
            rw [if_pos h0]
            split
            · rfl
            · split <;> rfl
          · rw [act_nor h0 ho]
        rw [e]; simp [ho]
    rw [List.foldl_cons, acts_gone l (s.act y) x d, key]
    constructor
    · rintro ((h | h) | ⟨z, hz, h⟩)
      · exact .inl h
      · exact .inr ⟨y, by simp, h⟩
      · exact .inr ⟨z, by simp [hz], h⟩
    · rintro (h | ⟨z, hz, h⟩)
      · exact .inl (.inl h)
      · rcases List.mem_cons.1 hz with rfl | hz
        · exact .inl (.inr h)
        · exact .inr ⟨z, hz, h⟩
theorem order_same {l m : List ActO} (hc : compat l) (hm : ∀ y, y ∈ m ↔ y ∈ l) : sameL (l.foldl OS.act OS.new) (m.foldl OS.act OS.new) := by
  have hcm : compat m := fun a ha b hb => hc a ((hm a).1 ha) b ((hm b).1 hb)
  have h0 : ∀ (l : List ActO), ∀ y ∈ l, y.op = 0 → ∀ x, mget OS.new.added y.d = some x → x = y.x := fun _ _ _ _ x h => by cases h
  intro d x
  have e1 : mget (l.foldl OS.act OS.new).added d = some x ↔ mget (m.foldl OS.act OS.new).added d = some x := by
    rw [acts_add l _ hc (h0 l), acts_add m _ hcm (h0 m)]
    simp only [hm]
  have e2 : (l.foldl OS.act OS.new).live d x = (m.foldl OS.act OS.new).live d x := by
    unfold OS.live
    congr 1
    rw [Bool.eq_iff_iff, acts_gone, acts_gone]
    simp only [hm]
  rw [e1, e2]
theorem add_idem (s : OS) (d : Dot) (x : Bs) : ((s.add d x).1.add d x).1 = (s.add d x).1 := by
  unfold OS.add
  by_cases h1 : d.ok = false ∨ 100 < x.length
  · rw [if_pos h1, if_pos h1]
  · rw [if_neg h1, if_neg h1]
    by_cases h2 : (mget s.added d).isSome = true ∧ mget s.added d ≠ some x
    · rw [if_pos h2]
      simp only
      rw [if_pos h2]
    · rw [if_neg h2]
      simp only
      rw [mget_mput, if_pos rfl, if_neg (by simp)]
      have : ∀ (l : List (Dot × Bs)), mput (mput l d x) d x = mput l d x := by
        intro l
        induction l with
        | nil => simp [mput]
        | cons p l ih =>
          obtain ⟨a, b⟩ := p
          by_cases h : a = d
          · simp [mput, h]
          · simp [mput, h, ih]
      rw [this]
def rot (l : List ActO) (t : Nat) : List ActO := (List.range l.length).map fun i => l.getD ((i + t) % l.length) ⟨0, ⟨0, 0⟩, [], P7.all 0⟩
theorem rot_mem (l : List ActO) (t : Nat) (ht : t < l.length) (y : ActO) : y ∈ rot l t ↔ y ∈ l := by
  unfold rot
  rw [List.mem_map]
  constructor
  · rintro ⟨i, hi, rfl⟩
    have : (i + t) % l.length < l.length := Nat.mod_lt _ (by omega)
    rw [List.getD_eq_getElem?_getD, List.getElem?_eq_getElem this]
    exact List.getElem_mem this
  · intro hy
    obtain ⟨j, hj, rfl⟩ := List.getElem_of_mem hy
    by_cases h : t ≤ j
    · refine ⟨j - t, List.mem_range.2 (by omega), ?_⟩
      rw [show j - t + t = j by omega, Nat.mod_eq_of_lt hj, List.getD_eq_getElem?_getD, List.getElem?_eq_getElem hj]
      rfl
    · refine ⟨j + l.length - t, List.mem_range.2 (by omega), ?_⟩
      rw [show j + l.length - t + t = j + l.length by omega, Nat.add_mod_right, Nat.mod_eq_of_lt hj, List.getD_eq_getElem?_getD, List.getElem?_eq_getElem hj]
      rfl

/-! ### what is forgotten -/
def pos7 (v : P7 Int) : Prop := ∀ i, i < 7 → 0 ≤ v.get i
def leP (a b : P7 Int) : Prop := ∀ i, i < 7 → a.get i ≤ b.get i
theorem leP.has {a b : P7 Int} (h : leP a b) {d : Dot} (hd : hasV a d = true) : hasV b d = true := by
  unfold hasV at *
  simp only [decide_eq_true_eq] at *
  have := h d.rep.toNat (by omega)
  omega
theorem pos_merge {a b : P7 Int} (ha : pos7 a) : pos7 (vmerge a b) := fun i hi => by
  rw [vmerge, P7.get_zip]
  have := ha i hi
  unfold imax; split <;> omega
theorem merge_le {a st v : P7 Int} (h1 : leP a st) (h2 : leP st v) : vmerge a v = v := P7.ext7 fun i hi => by
  rw [vmerge, P7.get_zip]
  have := h1 i hi
  have := h2 i hi
  unfold imax; split <;> omega
structure DR (st : P7 Int) (a b : OS) : Prop where
  anew : ∀ d, hasV st d = false → mget a.added d = mget b.added d
  bold : ∀ d x, hasV st d = true → mget b.added d = some x → mget a.added d = some x ∧ (a.gv x = b.gv x ∨ a.live d x = true)
  aold : ∀ d x, hasV st d = true → mget a.added d = some x → mget b.added d = none → a.live d x = false
  gvs : ∀ x, a.gv x = b.gv x ∨ (b.gv x = P7.all 0 ∧ leP (a.gv x) st)
  pos : ∀ x, pos7 (a.gv x)
theorem DR.sameL {st : P7 Int} {a b : OS} (h : DR st a b) : sameL a b := by
  intro d x
  cases hs : hasV st d with
  | false =>
    rw [h.anew d hs]
    have e : a.live d x = b.live d x := by
      unfold OS.live
      rcases h.gvs x with e | ⟨e, hl⟩
      · rw [e]
      · rw [e, hasV_zero]
        cases ha : hasV (a.gv x) d with
        | false => rfl
        | true => have := hl.has ha; rw [hs] at this; cases this
    rw [e]
  | true =>
    constructor
    · rintro ⟨h1, h2⟩
      cases hb : mget b.added d with
      | none => have := h.aold d x hs h1 hb; rw [h2] at this; cases this
      | some y =>
        have := (h.bold d y hs hb).1
        rw [h1] at this
        cases this
        refine ⟨rfl, ?_⟩
        unfold OS.live at h2 ⊢
        rcases h.gvs x with e | ⟨e, _⟩
        · rw [← e]; exact h2
        · rw [e, hasV_zero]; rfl
    · rintro ⟨h1, h2⟩
      obtain ⟨h3, h4⟩ := h.bold d x hs h1
      refine ⟨h3, ?_⟩
      rcases h4 with e | e
      · unfold OS.live at h2 ⊢
        rw [e]; exact h2
      · exact e
theorem mget_filter {κ β : Type} [DecidableEq κ] {l : List (κ × β)} (hn : (l.map (·.1)).Nodup) (p : κ × β → Bool) (k : κ) : mget (l.filter p) k = (mget l k).filter fun v => p (k, v) := by
  induction l with
  | nil => rfl
  | cons x l ih =>
    obtain ⟨a, b⟩ := x
    simp only [List.map_cons, List.nodup_cons] at hn
    by_cases hk : a = k
    · subst hk
      have h0 : mget (l.filter p) a = none := mget_none.2 fun q hq e => hn.1 (List.mem_map.2 ⟨q, (List.mem_filter.1 hq).1, e⟩)
      simp only [List.filter_cons, mget, if_true]
      by_cases hp : p (a, b) = true
      · rw [if_pos hp]; simp [mget, Option.filter, hp]
      · rw [if_neg hp, h0]; simp [Option.filter, hp]
    · simp only [List.filter_cons, mget, if_neg hk]
      split
      · simp only [mget, if_neg hk]; exact ih hn.2
      · exact ih hn.2
theorem DR.start {st : P7 Int} {a : OS} (hn : a.nd) (hg : (a.gone.map (·.1)).Nodup) (hp : ∀ x, pos7 (a.gv x)) : DR st a (a.drop st) := by
  have ha : ∀ d, mget (a.drop st).added d = (mget a.added d).filter fun x => !(!a.live d x && hasV st d) := fun d => mget_filter hn _ d
  have hgo : ∀ x, mget (a.drop st).gone x = (mget a.gone x).filter fun v => !leV v st := fun x => mget_filter hg _ x
  have hgv : ∀ x, a.gv x = (a.drop st).gv x ∨ ((a.drop st).gv x = P7.all 0 ∧ leP (a.gv x) st) := fun x => by
    unfold OS.gv
    rw [hgo]
    cases hm : mget a.gone x with
    | none => exact .inl rfl
    | some v =>
      cases hl : leV v st with
      | false => simp [Option.filter, hl]
      | true => right; simp only [Option.filter, hl]; exact ⟨rfl, (leV_iff v st).1 hl⟩
  refine ⟨fun d hs => ?_, fun d x hs hb => ?_, fun d x hs h1 h2 => ?_, hgv, hp⟩
  · rw [ha, hs]; cases mget a.added d <;> simp [Option.filter]
  · rw [ha] at hb
    cases hm : mget a.added d with
    | none => rw [hm] at hb; cases hb
    | some y =>
      rw [hm, hs] at hb
      cases hl : a.live d y with
      | false => simp [Option.filter, hl] at hb
      | true =>
        simp [Option.filter, hl] at hb
        subst hb
        exact ⟨rfl, .inr hl⟩
  · rw [ha, h1, hs] at h2
    cases hl : a.live d x with
    | false => rfl
    | true => simp [Option.filter, hl] at h2
theorem DR.add {st : P7 Int} {a b : OS} (h : DR st a b) {d : Dot} {x : Bs} (hs : hasV st d = false) : (a.add d x).2 = (b.add d x).2 ∧ DR st (a.add d x).1 (b.add d x).1 := by
  unfold OS.add
  rw [← h.anew d hs]
  by_cases h1 : d.ok = false ∨ 100 < x.length
  · rw [if_pos h1, if_pos h1]; exact ⟨rfl, h⟩
  · rw [if_neg h1, if_neg h1]
    by_cases h2 : (mget a.added d).isSome = true ∧ mget a.added d ≠ some x
    · rw [if_pos h2, if_pos h2]; exact ⟨rfl, h⟩
    · rw [if_neg h2, if_neg h2]
      refine ⟨rfl, ⟨fun e he => ?_, fun e y he hb => ?_, fun e y he h3 h4 => ?_, h.gvs, h.pos⟩⟩
      · simp only [mget_mput]
        split
        · rfl
        · exact h.anew e he
      · have hne : d ≠ e := fun q => by rw [q, he] at hs; cases hs
        simp only [mget_mput, if_neg hne] at hb ⊢
        exact h.bold e y he hb
      · have hne : d ≠ e := fun q => by rw [q, he] at hs; cases hs
        simp only [mget_mput, if_neg hne] at h3 h4
        exact h.aold e y he h3 h4
theorem DR.remove {st : P7 Int} {a b : OS} (h : DR st a b) {x : Bs} {v : P7 Int} (hl : leV st v = true) (hst : pos7 st) : (a.remove x v).2 = (b.remove x v).2 ∧ DR st (a.remove x v).1 (b.remove x v).1 := by
  have hl := (leV_iff st v).1 hl
  unfold OS.remove
  by_cases h1 : 100 < x.length ∨ goodV v = false
  · rw [if_pos h1, if_pos h1]; exact ⟨rfl, h⟩
  · rw [if_neg h1, if_neg h1]
    have hx : vmerge (a.gv x) v = vmerge (b.gv x) v := by
      rcases h.gvs x with e | ⟨e, hle⟩
      · rw [e]
      · rw [e, merge_le hle hl, merge_le (st := st) (fun i hi => by rw [P7.get_all]; exact hst i hi) hl]
    have hgv : ∀ z, ({ a with gone := mput a.gone x (vmerge (a.gv x) v) } : OS).gv z = ({ b with gone := mput b.gone x (vmerge (b.gv x) v) } : OS).gv z ∨
        (x ≠ z ∧ ({ b with gone := mput b.gone x (vmerge (b.gv x) v) } : OS).gv z = P7.all 0 ∧ leP (({ a with gone := mput a.gone x (vmerge (a.gv x) v) } : OS).gv z) st) := fun z => by
      rw [gv_put, gv_put]
      by_cases hz : x = z
      · rw [if_pos hz, if_pos hz]; exact .inl hx
      · rw [if_neg hz, if_neg hz]
        rcases h.gvs z with e | e
        · exact .inl e
        · exact .inr ⟨hz, e⟩
    refine ⟨rfl, ⟨h.anew, fun d y hs hb => ?_, fun d y hs h3 h4 => ?_, fun z => (hgv z).imp id fun e => e.2, fun z => ?_⟩⟩
    · obtain ⟨h3, h4⟩ := h.bold d y hs hb
      refine ⟨h3, ?_⟩
      rcases hgv y with e | ⟨hz, _⟩
      · exact .inl e
      · rcases h4 with e | e
        · left; rw [gv_put, gv_put, if_neg hz, if_neg hz]; exact e
        · right; unfold OS.live at e ⊢; rw [gv_put, if_neg hz]; exact e
    · have := h.aold d y hs h3 h4
      unfold OS.live at this ⊢
      rw [gv_put]
      by_cases hz : x = y
      · rw [if_pos hz, hasV_merge, hz]
        simp only [Bool.not_eq_false'] at this ⊢
        rw [this]; rfl
      · rw [if_neg hz]; exact this
    · rw [gv_put]
      split
      · exact pos_merge (h.pos x)
      · exact h.pos z
theorem acts_pos : ∀ (l : List ActO) (s : OS), (∀ x, pos7 (s.gv x)) → ∀ x, pos7 ((l.foldl OS.act s).gv x)
  | [], s, h => h
  | y :: l, s, h => acts_pos l _ fun x => by
    by_cases ho : okR y
    · rw [act_rem ho, gv_put]
      split
      · exact pos_merge (h _)
      · exact h x
    · have e : (s.act y).gv x = s.gv x := by
        by_cases h0 : y.op = 0
        · unfold OS.act OS.add
          rw [if_pos h0]
          split
          · rfl
          · split <;> rfl
        · rw [act_nor h0 ho]
      rw [e]; exact h x
theorem acts_gnd : ∀ (l : List ActO) (s : OS), (s.gone.map (·.1)).Nodup → ((l.foldl OS.act s).gone.map (·.1)).Nodup
  | [], s, h => h
  | y :: l, s, h => acts_gnd l _ (by
    unfold OS.act OS.add OS.remove
    split
    · split
      · exact h
      · split <;> exact h
    · split
      · exact h
      · exact mput_nd h _ _)
end Go.Proofs.Ytmojfpaagokckaa
namespace Go.Proofs.Ytmojfpaagokckaa
set_option linter.unusedVariables false
set_option linter.unusedSimpArgs false
open Go Go.Eng

/-! ### rows that rise -/
def insS {α : Type} [DecidableEq α] (lt : α → α → Bool) : List α → α → List α
  | [], x => [x]
  | a :: l, x => if lt a x then a :: insS lt l x else if a = x then a :: l else x :: a :: l
structure SOr {α : Type} (lt : α → α → Bool) : Prop where
  irr : ∀ a, lt a a = false
  tr : ∀ a b c, lt a b = true → lt b c = true → lt a c = true
  tri : ∀ a b, lt a b = false → lt b a = false → a = b
section
variable {α : Type} [DecidableEq α] {lt : α → α → Bool}
abbrev ss (lt : α → α → Bool) (l : List α) : Prop := l.Pairwise fun a b => lt a b = true
theorem insS_mem {x y : α} : ∀ {l : List α}, y ∈ insS lt l x ↔ y = x ∨ y ∈ l
  | [] => by simp [insS]
  | a :: l => by
    simp only [insS]
    split
    · rw [List.mem_cons, insS_mem, List.mem_cons]
      constructor
      · rintro (h | h | h)
        · exact .inr (.inl h)
        · exact .inl h
        · exact .inr (.inr h)
      · rintro (h | h | h)
        · exact .inr (.inl h)
        · exact .inl h
        · exact .inr (.inr h)
    · split
      · rename_i h; subst h; simp
      · simp
theorem insS_ss (ho : SOr lt) {x : α} : ∀ {l : List α}, ss lt l → ss lt (insS lt l x)
  | [], _ => by simp [insS, ss]
  | a :: l, h => by
    obtain ⟨h1, h2⟩ := List.pairwise_cons.1 h
    simp only [insS]
    split
    · rename_i hax
      refine List.pairwise_cons.2 ⟨fun y hy => ?_, insS_ss ho h2⟩
      rcases insS_mem.1 hy with rfl | hy
      · exact hax
      · exact h1 y hy
    · rename_i hax
      split
      · exact h
      · rename_i hne
        refine List.pairwise_cons.2 ⟨fun y hy => ?_, h⟩
        have hxa : lt x a = true := by
          cases hh : lt x a with
          | true => rfl
          | false => exact absurd (ho.tri a x (by simpa using hax) hh) hne
        rcases List.mem_cons.1 hy with rfl | hy
        · exact hxa
        · exact ho.tr _ _ _ hxa (h1 y hy)
omit [DecidableEq α] in
theorem ss_nodup (ho : SOr lt) {l : List α} (h : ss lt l) : l.Nodup := h.imp fun {a b} h e => by subst e; rw [ho.irr] at h; cases h
omit [DecidableEq α] in
theorem ss_uniq (ho : SOr lt) {l m : List α} (h : ss lt l) (h' : ss lt m) (hm : ∀ x, x ∈ l ↔ x ∈ m) : l = m :=
  List.Perm.eq_of_pairwise (le := fun a b => lt a b = true) (fun a b _ _ h1 h2 => by
    have := ho.tr _ _ _ h1 h2
    rw [ho.irr] at this; cases this) h h' ((List.perm_ext_iff_of_nodup (ss_nodup ho h) (ss_nodup ho h')).2 hm)
theorem cpt_ss (ho : SOr lt) : ∀ {l : List α}, l.Pairwise (fun a b => lt b a = false) → ss lt (cpt l)
  | [], _ => by simp [cpt, ss]
  | [a], _ => by simp [cpt, ss]
  | a :: b :: l, h => by
    obtain ⟨h1, h2⟩ := List.pairwise_cons.1 h
    obtain ⟨h3, _⟩ := List.pairwise_cons.1 h2
    have ih := cpt_ss ho h2
    simp only [cpt]
    split
    · exact ih
    · rename_i hne
      have hab : lt a b = true := by
        cases hh : lt a b with
        | true => rfl
        | false => exact absurd (ho.tri a b hh (h1 b (by simp))) hne
      refine List.pairwise_cons.2 ⟨fun y hy => ?_, ih⟩
      rcases List.mem_cons.1 (cpt_mem.1 hy) with rfl | hy
      · exact hab
      · cases hh : lt a y with
        | true => rfl
        | false =>
          have := ho.tri a y hh (h1 y (by simp [hy]))
          subst this
          have := h3 a hy
          rw [hab] at this; cases this
omit [DecidableEq α] in
theorem ss_of (ho : SOr lt) {l : List α} (h : l.Pairwise (fun a b => lt b a = false)) (hn : l.Nodup) : ss lt l :=
  (h.and hn).imp fun {a b} ⟨h1, h2⟩ => by
    cases hh : lt a b with
    | true => rfl
    | false => exact absurd (ho.tri a b hh h1) h2
/-- where it is put -/
theorem insS_at : ∀ {l : List α} {k : Nat} {x : α}, k ≤ l.length → (∀ j (hj : j < l.length), j < k → lt l[j] x = true) → (∀ (hk : k < l.length), lt l[k] x = false) →
    insS lt l x = if h : k < l.length then (if l[k] = x then l else l.take k ++ [x] ++ l.drop k) else l ++ [x]
  | [], k, x, hk, _, _ => by simp at hk; subst hk; simp [insS]
  | a :: l, 0, x, _, _, h0 => by
    have := h0 (by simp)
    simp only [List.getElem_cons_zero] at this
    simp only [insS, this, Bool.false_eq_true, if_false, List.length_cons]
    rw [dif_pos (by omega)]
    simp
  | a :: l, k + 1, x, hk, h1, h0 => by
    have ha := h1 0 (by simp) (by omega)
    simp only [List.getElem_cons_zero] at ha
    have ih := insS_at (l := l) (k := k) (x := x) (by simpa using hk) (fun j hj hjk => h1 (j + 1) (by simpa using hj) (by omega)) (fun hk => h0 (by simpa using hk))
    simp only [insS, ha, if_true, ih, List.length_cons]
    by_cases hkl : k < l.length
    · rw [dif_pos hkl, dif_pos (by omega)]
      simp only [List.getElem_cons_succ, List.take_succ_cons, List.drop_succ_cons, List.cons_append]
      split <;> rfl
    · rw [dif_neg hkl, dif_neg (by omega)]; rfl
end
theorem sorD : SOr dlt where
  irr a := by unfold dlt; rw [decide_eq_false_iff_not]; omega
  tr a b c h1 h2 := by unfold dlt at *; rw [decide_eq_true_eq] at *; omega
  tri a b h1 h2 := leD_anti a b (by rw [leD, h2]; rfl) (by rw [leD, h1]; rfl)
def ltB (a b : Bs) : Bool := decide (a < b)
theorem leB_lt (a b : Bs) : leB a b = !ltB b a := by
  unfold leB ltB
  rw [Bool.eq_iff_iff]
  simp only [decide_eq_true_eq, Bool.not_eq_true', decide_eq_false_iff_not]
  exact Iff.rfl
theorem sorB : SOr ltB where
  irr a := by unfold ltB; rw [decide_eq_false_iff_not]; exact List.lt_irrefl a
  tr a b c h1 h2 := by unfold ltB at *; rw [decide_eq_true_eq] at *; exact List.lt_trans h1 h2
  tri a b h1 h2 := leB_anti a b (by rw [leB_lt, h2]; rfl) (by rw [leB_lt, h1]; rfl)
theorem less_ltB (x y : Bs) : Op.bytesLess (⟨x.toArray⟩ : ByteArray).toList (⟨y.toArray⟩ : ByteArray).toList = ltB x y := by
  rw [ByteArray.toList_eq, ByteArray.toList_eq]
  exact bytesLess_eq x y

/-! ### the reference's -/
structure AddR where
  d : Dot
  x : Bs
  gone : Bool
structure RemR where
  x : Bs
  v : P7 Int
structure RS7 where
  l : List AddR
  r : List RemR
def RS7.add (R : RS7) (d : Dot) (x : Bs) : RS7 × Int :=
  if d.ok = false ∨ 100 < x.length then (R, 1)
  else match R.l.find? fun a => decide (a.d = d) with
    | some a => if a.x = x then (R, 0) else (R, 5)
    | none => ({ R with l := R.l ++ [⟨d, x, R.r.any fun q => decide (q.x = x) && hasV q.v d⟩] }, 0)
def remA (x : Bs) (v : P7 Int) (a : AddR) : AddR := ⟨a.d, a.x, a.gone || (decide (a.x = x) && hasV v a.d)⟩
def RS7.remove (R : RS7) (x : Bs) (v : P7 Int) : RS7 × Int :=
  if 100 < x.length ∨ goodV v = false then (R, 1) else (⟨R.l.map (remA x v), R.r ++ [⟨x, v⟩]⟩, 0)
def dotStep (x : Bs) (acc : List Dot) (a : AddR) : List Dot := if decide (a.x = x) && !a.gone then insS dlt acc a.d else acc
def RS7.dots (R : RS7) (x : Bs) : List Dot := R.l.foldl (dotStep x) []
def allStep (acc : List Bs) (a : AddR) : List Bs := if a.gone then acc else insS ltB acc a.x
def RS7.all (R : RS7) : List Bs := R.l.foldl allStep []
def putXG (dots : Bs → List Dot) (b : Bs) (x : Bs) : Bs := (dots x).foldl putD (b ++ encN x.length ++ x ++ encN (dots x).length)
def RS7.put (R : RS7) : Bs := R.all.foldl (putXG R.dots) (encN R.all.length)
structure SR (s : OS) (R : RS7) : Prop where
  lst : s.added = R.l.map fun a => (a.d, a.x)
  gn : ∀ a ∈ R.l, a.gone = hasV (s.gv a.x) a.d
  rm : ∀ x d, hasV (s.gv x) d = R.r.any fun q => decide (q.x = x) && hasV q.v d
theorem SR.new : SR OS.new ⟨[], []⟩ := ⟨rfl, fun a h => (by cases h), fun x d => by rw [show OS.new.gv x = P7.all 0 from rfl, hasV_zero]; rfl⟩
theorem mget_find (l : List AddR) (d : Dot) : mget (l.map fun a => (a.d, a.x)) d = (l.find? fun a => decide (a.d = d)).map (·.x) := by
  induction l with
  | nil => rfl
  | cons a l ih =>
    simp only [List.map_cons, mget, List.find?_cons]
    by_cases h : a.d = d
    · rw [if_pos h, decide_eq_true h]; rfl
    · rw [if_neg h, decide_eq_false h]; exact ih
theorem mput_same {κ β : Type} [DecidableEq κ] {l : List (κ × β)} {k : κ} {v : β} (h : mget l k = some v) : mput l k v = l := by
  induction l with
  | nil => cases h
  | cons p l ih =>
    obtain ⟨a, b⟩ := p
    by_cases hk : a = k
    · subst hk
      simp only [mget, if_true, Option.some.injEq] at h
      subst h
      simp [mput]
    · simp only [mget, if_neg hk] at h
      simp only [mput, if_neg hk, ih h]
theorem SR.add {s : OS} {R : RS7} (h : SR s R) (d : Dot) (x : Bs) : (s.add d x).2 = (R.add d x).2 ∧ SR (s.add d x).1 (R.add d x).1 := by
  unfold OS.add RS7.add
  by_cases h1 : d.ok = false ∨ 100 < x.length
  · rw [if_pos h1, if_pos h1]; exact ⟨rfl, h⟩
  · rw [if_neg h1, if_neg h1]
    have hg : mget s.added d = (R.l.find? fun a => decide (a.d = d)).map (·.x) := by rw [h.lst, mget_find]
    cases hf : R.l.find? fun a => decide (a.d = d) with
    | some a =>
      rw [hf] at hg
      simp only [Option.map_some] at hg
      rw [hg]
      simp only [Option.isSome_some, true_and]
      by_cases hx : a.x = x
      · rw [if_neg (by simp [hx]), if_pos hx]
        rw [hx] at hg
        refine ⟨rfl, ?_⟩
        simp only [mput_same hg]
        exact h
      · rw [if_pos (by simpa using hx), if_neg hx]; exact ⟨rfl, h⟩
    | none =>
      rw [hf] at hg
      simp only [Option.map_none] at hg
      rw [hg, if_neg (by simp)]
      refine ⟨rfl, ?_, fun a ha => ?_, h.rm⟩
      · simp only [List.map_append, List.map_cons, List.map_nil, ← h.lst]
        exact mput_new (mget_none.1 hg)
      · simp only [List.mem_append, List.mem_singleton] at ha
        rcases ha with ha | rfl
        · exact h.gn a ha
        · exact (h.rm x d).symm
theorem SR.remove {s : OS} {R : RS7} (h : SR s R) (x : Bs) (v : P7 Int) : (s.remove x v).2 = (R.remove x v).2 ∧ SR (s.remove x v).1 (R.remove x v).1 := by
  unfold OS.remove RS7.remove
  by_cases h1 : 100 < x.length ∨ goodV v = false
  · rw [if_pos h1, if_pos h1]; exact ⟨rfl, h⟩
  · rw [if_neg h1, if_neg h1]
    refine ⟨rfl, ?_, fun a ha => ?_, fun z d => ?_⟩
    · simp only [List.map_map, h.lst]; rfl
    · obtain ⟨b, hb, rfl⟩ := List.mem_map.1 ha
      simp only [remA, gv_put]
      rw [h.gn b hb]
      by_cases hx : b.x = x
      · rw [if_pos hx.symm, hasV_merge, hx, decide_eq_true rfl, Bool.true_and]
      · rw [if_neg (Ne.symm hx), decide_eq_false hx, Bool.false_and, Bool.or_false]
    · rw [gv_put]
      simp only [List.any_append, List.any_cons, List.any_nil, Bool.or_false]
      by_cases hx : x = z
      · rw [if_pos hx, hasV_merge, hx, h.rm, decide_eq_true rfl, Bool.true_and]
      · rw [if_neg hx, h.rm, decide_eq_false hx, Bool.false_and, Bool.or_false]
theorem dotStep_fold (x : Bs) : ∀ (l : List AddR) (acc : List Dot), ss dlt acc → ss dlt (l.foldl (dotStep x) acc) ∧ ∀ d, d ∈ l.foldl (dotStep x) acc ↔ d ∈ acc ∨ ∃ a ∈ l, a.x = x ∧ a.gone = false ∧ a.d = d
  | [], acc, h => ⟨h, fun d => by simp⟩
  | a :: l, acc, h => by
    have hs : ss dlt (dotStep x acc a) := by unfold dotStep; split; exact insS_ss sorD h; exact h
    obtain ⟨h1, h2⟩ := dotStep_fold x l (dotStep x acc a) hs
    refine ⟨h1, fun d => ?_⟩
    rw [List.foldl_cons, h2 d]
    have key : d ∈ dotStep x acc a ↔ d ∈ acc ∨ (a.x = x ∧ a.gone = false ∧ a.d = d) := by
      unfold dotStep
      split
      · rename_i hc
        simp only [Bool.and_eq_true, decide_eq_true_eq, Bool.not_eq_true'] at hc
        rw [insS_mem]
        constructor
        · rintro (h | h)
          · exact .inr ⟨hc.1, hc.2, h.symm⟩
          · exact .inl h
        · rintro (h | ⟨_, _, h⟩)
          · exact .inr h
          · exact .inl h.symm
      · rename_i hc
        simp only [Bool.and_eq_true, decide_eq_true_eq, Bool.not_eq_true'] at hc
        constructor
        · exact .inl
        · rintro (h | ⟨h1, h2, _⟩)
          · exact h
          · exact absurd ⟨h1, h2⟩ hc
    rw [key]
    constructor
    · rintro ((h | h) | ⟨b, hb, h⟩)
      · exact .inl h
      · exact .inr ⟨a, by simp, h⟩
      · exact .inr ⟨b, by simp [hb], h⟩
    · rintro (h | ⟨b, hb, h⟩)
      · exact .inl (.inl h)
      · rcases List.mem_cons.1 hb with rfl | hb
        · exact .inl (.inr h)
        · exact .inr ⟨b, hb, h⟩
theorem allStep_fold : ∀ (l : List AddR) (acc : List Bs), ss ltB acc → ss ltB (l.foldl allStep acc) ∧ ∀ x, x ∈ l.foldl allStep acc ↔ x ∈ acc ∨ ∃ a ∈ l, a.gone = false ∧ a.x = x
  | [], acc, h => ⟨h, fun d => by simp⟩
  | a :: l, acc, h => by
    have hs : ss ltB (allStep acc a) := by unfold allStep; split; exact h; exact insS_ss sorB h
    obtain ⟨h1, h2⟩ := allStep_fold l (allStep acc a) hs
    refine ⟨h1, fun x => ?_⟩
    rw [List.foldl_cons, h2 x]
    have key : x ∈ allStep acc a ↔ x ∈ acc ∨ (a.gone = false ∧ a.x = x) := by
      unfold allStep
      cases hg : a.gone with
      | true => simp
      | false =>
        simp only [Bool.false_eq_true, if_false, insS_mem, true_and]
        constructor
        · rintro (h | h)
          · exact .inr h.symm
          · exact .inl h
        · rintro (h | h)
          · exact .inr h
          · exact .inl h.symm
    rw [key]
    constructor
    · rintro ((h | h) | ⟨b, hb, h⟩)
      · exact .inl h
      · exact .inr ⟨a, by simp, h⟩
      · exact .inr ⟨b, by simp [hb], h⟩
    · rintro (h | ⟨b, hb, h⟩)
      · exact .inl (.inl h)
      · rcases List.mem_cons.1 hb with rfl | hb
        · exact .inl (.inr h)
        · exact .inr ⟨b, hb, h⟩
theorem SR.live {s : OS} {R : RS7} (h : SR s R) (d : Dot) (x : Bs) : ((d, x) ∈ s.added ∧ s.live d x = true) ↔ ∃ a ∈ R.l, a.gone = false ∧ a.x = x ∧ a.d = d := by
  rw [h.lst, List.mem_map]
  constructor
  · rintro ⟨⟨a, ha, he⟩, hl⟩
    simp only [Prod.mk.injEq] at he
    obtain ⟨rfl, rfl⟩ := he
    refine ⟨a, ha, ?_, rfl, rfl⟩
    rw [h.gn a ha]
    unfold OS.live at hl
    simpa using hl
  · rintro ⟨a, ha, hg, rfl, rfl⟩
    refine ⟨⟨a, ha, rfl⟩, ?_⟩
    unfold OS.live
    rw [← h.gn a ha, hg]; rfl
theorem SR.dots {s : OS} {R : RS7} (h : SR s R) (hn : s.nd) (x : Bs) : R.dots x = s.dots x := by
  obtain ⟨h1, h2⟩ := dotStep_fold x R.l [] List.Pairwise.nil
  refine ss_uniq sorD h1 ?_ fun d => ?_
  · unfold OS.dots sortD
    refine ss_of sorD ?_ ?_
    · exact (List.pairwise_mergeSort leD_trans leD_total _).imp fun {a b} h => by unfold leD at h; simpa using h
    · exact (List.mergeSort_perm _ _).nodup_iff.2 ((List.filter_sublist.map _).nodup hn)
  · rw [OS.dots_mem, h.live]
    refine (h2 d).trans ?_
    simp only [List.not_mem_nil, false_or]
    exact ⟨fun ⟨a, ha, e1, e2, e3⟩ => ⟨a, ha, e2, e1, e3⟩, fun ⟨a, ha, e1, e2, e3⟩ => ⟨a, ha, e2, e1, e3⟩⟩
theorem SR.all {s : OS} {R : RS7} (h : SR s R) : R.all = s.all := by
  obtain ⟨h1, h2⟩ := allStep_fold R.l [] List.Pairwise.nil
  refine ss_uniq sorB h1 ?_ fun x => ?_
  · unfold OS.all sortB
    refine cpt_ss sorB ?_
    exact (List.pairwise_mergeSort leB_trans leB_total _).imp fun {a b} h => by rw [leB_lt] at h; simpa using h
  · rw [OS.all_mem]
    refine (h2 x).trans ?_
    simp only [List.not_mem_nil, false_or]
    constructor
    · rintro ⟨a, ha, hg, rfl⟩
      exact ⟨a.d, (h.live a.d a.x).2 ⟨a, ha, hg, rfl, rfl⟩⟩
    · rintro ⟨d, hd⟩
      obtain ⟨a, ha, hg, e, _⟩ := (h.live d x).1 hd
      exact ⟨a, ha, hg, e⟩
theorem SR.put {s : OS} {R : RS7} (h : SR s R) (hn : s.nd) : R.put = s.put := by
  have e : R.dots = s.dots := funext fun x => h.dots hn x
  unfold RS7.put
  rw [h.all, e]; rfl
end Go.Proofs.Ytmojfpaagokckaa
namespace Go.Proofs.Ytmojfpaagokckaa
set_option linter.unusedVariables false
set_option linter.unusedSimpArgs false
open Go Go.Eng

section
variable {W0 W : World} {L L' : List Asn}
theorem refNum {a : Option Addr} {l : List UInt8} {c : Nat} {v : Int} {k : Value → World → Prop} (h : St W0 L W) [hr : Rd W0 L a B8 l] (hl : l.length < 70368744177664 - 10) (h0 : -9223372036854775808 ≤ v) (h1 : v ≤ 9223372036854775807)
    (hk : ∀ a' c' W', St W0 (arr B8 T_uint8 a' c' (l ++ encN v) :: L) W' → k (.slice a' (l ++ encN v).length c') W') : callK PR F_rostrumref1_Num [.slice a l.length c, .int .i64 v] k W := by
  apply S.rostrumref1_Num.call
  unfold S.rostrumref1_Num.body
  have hz := zig_lt h0 h1
  have key : S.rostrumref1_Num.j1 k (.slice a l.length c) (.int .u64 (zig v)) W := by
    unfold S.rostrumref1_Num.j1
    refine bs0 B8 h fun a1 c1 W1 h => ?_
    refine appA (a := a1) (l := []) (m := l) h rfl (by simp; omega) (by simp [maxLen]; omega) fun a2 c2 W2 h => ?_
    refine joinK_i ?_
    refine loop_i (fun m s W => ∃ (a : Option Addr) (c u : Nat) (out : List UInt8), u = m ∧ u < 18446744073709551616 ∧ s = [.int .u64 u, .slice a out.length c] ∧ out ++ encU u = l ++ encN v ∧ St W0 (arr B8 T_uint8 a c out :: L) W)
      _ ⟨a2, c2, _, l, rfl, hz, rfl, rfl, h⟩ ?_
    rintro m s W2 ⟨a2, c2, u, out, rfl, hu, rfl, he, h⟩
    have hlen : out.length ≤ l.length + 10 := by
      have := congrArg List.length he
      have h10 := encN_le h0 h1
      simp only [List.length_append] at this
      omega
    simp -implicitDefEqProofs only [EN, lsub, lget, stL, beq_self_eq_true, ne_eq, if_true, if_false, List.cons_append, List.nil_append, Option.isNone_some, Option.isNone_none]
    unfold S.rostrumref1_Num.l1
    simp -implicitDefEqProofs only [EN, lsub, lget, stL, beq_self_eq_true, ne_eq, if_true, if_false, List.cons_append, List.nil_append, Option.isNone_some, Option.isNone_none]
    refine ifK_d (fun hge => ?_) (fun hlt => ?_)
    · refine okF_i (binP_rem (by decide)) ?_
      simp -implicitDefEqProofs only [EN, lsub, lget, stL, beq_self_eq_true, ne_eq, if_true, if_false, List.cons_append, List.nil_append, Option.isNone_some, Option.isNone_none]
      rw [show ((u : Int).tmod 128) = ((u % 128 : Nat) : Int) by rw [IntWalk.rem_in _ _ (by omega)]; rfl]
      rw [show IntKind.u8.wrap (IntKind.u8.wrap ((u % 128 : Nat) : Int) + 128) = ((u % 128 + 128 : Nat) : Int) by rw [u8w, u8w]; omega]
      refine pushA (UInt8.ofNat (u % 128 + 128)) h ?_ rfl (by omega) (by simp only [maxLen]; omega) (by decide) fun a3 c3 W3 h => ?_
      · exact b8v (by omega)
      refine okF_i (binP_quo (by decide)) ?_
      rw [IntWalk.u64_quo _ _ (by omega)]
      refine ⟨u / 128, by omega, a3, c3, u / 128, _, rfl, by omega, rfl, ?_, h⟩
      rw [← he, encU_big (u := u) (by omega)]; simp only [List.append_assoc, List.cons_append, List.nil_append]
    · unfold S.rostrumref1_Num.j2
      simp -implicitDefEqProofs only [EN, lsub, lget, stL, beq_self_eq_true, ne_eq, if_true, if_false, List.cons_append, List.nil_append, Option.isNone_some, Option.isNone_none]
      rw [cvt8 u]
      refine pushA (UInt8.ofNat u) h ?_ rfl (by omega) (by simp only [maxLen]; omega) (by decide) fun a3 c3 W3 h => ?_
      · rw [show u % 256 = u by omega]; exact b8v (by omega)
      have e : out ++ [UInt8.ofNat u] = l ++ encN v := by rw [← he, encU_small (u := u) (by omega)]
      rw [e] at h ⊢
      exact hk a3 c3 W3 h
  simp -implicitDefEqProofs only [EN, lsub, lget, stL, beq_self_eq_true, ne_eq, if_true, if_false, List.cons_append, List.nil_append, Option.isNone_some, Option.isNone_none]
  refine okF_i (binP_shl (by decide)) ?_
  rw [shl1]
  refine joinK_i ?_
  simp -implicitDefEqProofs only [EN, lsub, lget, stL, beq_self_eq_true, ne_eq, if_true, if_false, List.cons_append, List.nil_append, Option.isNone_some, Option.isNone_none]
  refine ifK_d (fun hn => ?_) (fun hn => ?_)
  · refine okF_i (v := .int .u64 (zig v)) ?_ ?_
    · exact congrArg (fun n : Int => some (Value.int .u64 n)) (zig_not v h0 hn)
    · exact key
  · rw [zig_pos v (by omega) h1]
    exact key
theorem refBytes {a b : Option Addr} {l m : List UInt8} {c d : Nat} {k : Value → World → Prop} (h : St W0 L W) [hr : Rd W0 L a B8 l] [hr2 : Rd W0 L b B8 m] (hl : l.length < 35184372088832) (hm : m.length < 35184372088832)
    (hk : ∀ a' c' W', St W0 (arr B8 T_uint8 a' c' (l ++ encN m.length ++ m) :: L) W' → k (.slice a' (l ++ encN m.length ++ m).length c') W') : callK PR F_rostrumref1_Bytes [.slice a l.length c, .slice b m.length d] k W := by
  apply S.rostrumref1_Bytes.call
  unfold S.rostrumref1_Bytes.body
  simp -implicitDefEqProofs only [EN, lsub, lget, stL, beq_self_eq_true, ne_eq, if_true, if_false, List.cons_append, List.nil_append, Option.isNone_some, Option.isNone_none]
  refine refNum h (by omega) (by omega) (by omega) fun a1 c1 W1 h => ?_
  have := encN_le (v := m.length) (by omega) (by omega)
  refine appA (a := a1) (m := m) h rfl (by simp only [List.length_append]; omega) (by simp only [List.length_append, maxLen]; omega) fun a2 c2 W2 h => ?_
  exact hk a2 c2 W2 h

end
end Go.Proofs.Ytmojfpaagokckaa
namespace Go.Proofs.Ytmojfpaagokckaa
set_option linter.unusedVariables false
set_option linter.unusedSimpArgs false
open Go Go.Eng

instance refMay (r n : Int) : Pure0 PR F_rostrumref7_May [.agg #[.int .i64 r, .int .i64 n]] (.bool (Dot.ok ⟨r, n⟩)) := ⟨fun W => by
  apply S.rostrumref7_May.call
  unfold S.rostrumref7_May.body
  have h := St.start W
  (repeat' (first | (first | (with_reducible (first | refine w1 fun _ _ => ?_ | refine w3 fun _ _ _ => ?_ | refine w4 fun _ _ _ => ?_ | refine w11 fun _ _ _ => ?_ | refine stb_n ?_)) | ((with_reducible refine w2 ?_); try simp -implicitDefEqProofs only [EN, lsub, lget, stL, beq_self_eq_true, ne_eq, if_true, if_false, List.cons_append, List.nil_append, Option.isNone_some, Option.isNone_none]; intro _ _) | ((with_reducible (first | refine w5 ?_ ?_ | refine w6 ?_ ?_ | refine w7 ?_ ?_)); simp; refine ⟨_, rfl, ?_⟩) | ((with_reducible (first | refine w8 ?_ ?_ ?_ | refine w9 ?_ ?_ ?_ | refine w10 ?_ ?_ ?_)); exact rfl; simp) | ((with_reducible refine w12 ?_ ?_ ?_ fun _ _ => ?_); simp; simp; simp [oneC]) | ((with_reducible (first | refine eqs ?_ | refine nes ?_)); refine ⟨_, rfl, ?_⟩) | ((refine okF_i (bldP_eq rfl) ?_); try simp only [BLS, List.take_succ_cons, List.take_zero, List.drop_succ_cons, List.drop_zero, List.cons_append, List.nil_append, Nat.reduceAdd])) | simp -implicitDefEqProofs only [EN, lsub, lget, stL, beq_self_eq_true, ne_eq, if_true, if_false, List.cons_append, List.nil_append, Option.isNone_some, Option.isNone_none] | ((first | refine ifK_b (fun hb => ?_) (fun hb => ?_) | refine gdK_b (fun hb => ?_) (fun hb => ?_)) <;> (try simp only [Bool.not_eq_true', Bool.not_eq_false'] at hb) <;> (try rw [hb]) <;> (first | replace hb := of_decide_eq_true hb | replace hb := of_decide_eq_false hb | (simp only [Bool.and_eq_true, Bool.and_eq_false_iff, Bool.or_eq_true, Bool.or_eq_false_iff, decide_eq_true_eq, decide_eq_false_iff_not, Bool.not_eq_true', Bool.not_eq_false'] at hb) | skip))))
  all_goals (refine ⟨?_, St.nil (by first | assumption | exact St.tick (by assumption) | exact St.tick (St.tick (by assumption)))⟩; congr 1; unfold Dot.ok; simp only; (first | rfl | (rw [decide_eq_decide]; omega) | (symm; rw [decide_eq_true_eq]; omega) | (symm; rw [decide_eq_false_iff_not]; omega) | (simp; omega)))⟩
theorem refHas_run (v : P7 Int) (d : Dot) (W : World) : callK PR F_rostrumref7_Has [.agg #[.int .i64 v.x0, .int .i64 v.x1, .int .i64 v.x2, .int .i64 v.x3, .int .i64 v.x4, .int .i64 v.x5, .int .i64 v.x6], .agg #[.int .i64 d.rep, .int .i64 d.n]] (fun u W' => u = .bool (hasV v d) ∧ St W [] W') W := by
  apply S.rostrumref7_Has.call
  unfold S.rostrumref7_Has.body
  have h := St.start W
  by_cases h1 : 0 ≤ d.rep
  · by_cases h1' : d.rep < 7
    · by_cases h2 : 1 ≤ d.n
      · have ei := fun z => idxA7i (z := z) h1 h1'
        have hg := fun (x : P7 Int) => getL7 (x := x) (i := d.rep.toNat) (by omega)
        (repeat (first | (first | (with_reducible (first | refine w1 fun _ _ => ?_ | refine w3 fun _ _ _ => ?_ | refine w4 fun _ _ _ => ?_ | refine w11 fun _ _ _ => ?_ | refine stb_n ?_)) | ((with_reducible refine w2 ?_); try simp -implicitDefEqProofs only [EN, lsub, lget, stL, beq_self_eq_true, ne_eq, if_true, if_false, List.cons_append, List.nil_append, Option.isNone_some, Option.isNone_none, h1, h1', h2, ei]; intro _ _) | ((with_reducible (first | refine w5 ?_ ?_ | refine w6 ?_ ?_ | refine w7 ?_ ?_)); simp; refine ⟨_, rfl, ?_⟩) | ((with_reducible (first | refine w8 ?_ ?_ ?_ | refine w9 ?_ ?_ ?_ | refine w10 ?_ ?_ ?_)); exact rfl; simp) | ((with_reducible refine w12 ?_ ?_ ?_ fun _ _ => ?_); simp; simp; simp [oneC]) | ((with_reducible (first | refine eqs ?_ | refine nes ?_)); refine ⟨_, rfl, ?_⟩) | ((refine okF_i (bldP_eq rfl) ?_); try simp only [BLS, List.take_succ_cons, List.take_zero, List.drop_succ_cons, List.drop_zero, List.cons_append, List.nil_append, Nat.reduceAdd])) | simp -implicitDefEqProofs only [EN, lsub, lget, stL, beq_self_eq_true, ne_eq, if_true, if_false, List.cons_append, List.nil_append, Option.isNone_some, Option.isNone_none, h1, h1', h2, ei]))
        refine ld (v := .int .i64 (v.get d.rep.toNat)) (by first | assumption | exact St.tick (by assumption) | exact St.tick (St.tick (by assumption))) (hg v) (by simp) ?_
        (repeat (first | (first | (with_reducible (first | refine w1 fun _ _ => ?_ | refine w3 fun _ _ _ => ?_ | refine w4 fun _ _ _ => ?_ | refine w11 fun _ _ _ => ?_ | refine stb_n ?_)) | ((with_reducible refine w2 ?_); try simp -implicitDefEqProofs only [EN, lsub, lget, stL, beq_self_eq_true, ne_eq, if_true, if_false, List.cons_append, List.nil_append, Option.isNone_some, Option.isNone_none]; intro _ _) | ((with_reducible (first | refine w5 ?_ ?_ | refine w6 ?_ ?_ | refine w7 ?_ ?_)); simp; refine ⟨_, rfl, ?_⟩) | ((with_reducible (first | refine w8 ?_ ?_ ?_ | refine w9 ?_ ?_ ?_ | refine w10 ?_ ?_ ?_)); exact rfl; simp) | ((with_reducible refine w12 ?_ ?_ ?_ fun _ _ => ?_); simp; simp; simp [oneC]) | ((with_reducible (first | refine eqs ?_ | refine nes ?_)); refine ⟨_, rfl, ?_⟩) | ((refine okF_i (bldP_eq rfl) ?_); try simp only [BLS, List.take_succ_cons, List.take_zero, List.drop_succ_cons, List.drop_zero, List.cons_append, List.nil_append, Nat.reduceAdd])) | simp -implicitDefEqProofs only [EN, lsub, lget, stL, beq_self_eq_true, ne_eq, if_true, if_false, List.cons_append, List.nil_append, Option.isNone_some, Option.isNone_none]))
        refine ⟨?_, St.nil (by first | assumption | exact St.tick (by assumption) | exact St.tick (St.tick (by assumption)))⟩
        congr 1
        unfold hasV
        (first | rfl | (rw [decide_eq_decide]; omega) | (symm; rw [decide_eq_true_eq]; omega) | (symm; rw [decide_eq_false_iff_not]; omega) | (simp; omega))
      · (repeat (first | (first | (with_reducible (first | refine w1 fun _ _ => ?_ | refine w3 fun _ _ _ => ?_ | refine w4 fun _ _ _ => ?_ | refine w11 fun _ _ _ => ?_ | refine stb_n ?_)) | ((with_reducible refine w2 ?_); try simp -implicitDefEqProofs only [EN, lsub, lget, stL, beq_self_eq_true, ne_eq, if_true, if_false, List.cons_append, List.nil_append, Option.isNone_some, Option.isNone_none, h1, h1', h2]; intro _ _) | ((with_reducible (first | refine w5 ?_ ?_ | refine w6 ?_ ?_ | refine w7 ?_ ?_)); simp; refine ⟨_, rfl, ?_⟩) | ((with_reducible (first | refine w8 ?_ ?_ ?_ | refine w9 ?_ ?_ ?_ | refine w10 ?_ ?_ ?_)); exact rfl; simp) | ((with_reducible refine w12 ?_ ?_ ?_ fun _ _ => ?_); simp; simp; simp [oneC]) | ((with_reducible (first | refine eqs ?_ | refine nes ?_)); refine ⟨_, rfl, ?_⟩) | ((refine okF_i (bldP_eq rfl) ?_); try simp only [BLS, List.take_succ_cons, List.take_zero, List.drop_succ_cons, List.drop_zero, List.cons_append, List.nil_append, Nat.reduceAdd])) | simp -implicitDefEqProofs only [EN, lsub, lget, stL, beq_self_eq_true, ne_eq, if_true, if_false, List.cons_append, List.nil_append, Option.isNone_some, Option.isNone_none, h1, h1', h2]))
        refine ⟨?_, St.nil (by first | assumption | exact St.tick (by assumption) | exact St.tick (St.tick (by assumption)))⟩
        congr 1
        unfold hasV
        (first | rfl | (rw [decide_eq_decide]; omega) | (symm; rw [decide_eq_true_eq]; omega) | (symm; rw [decide_eq_false_iff_not]; omega) | (simp; omega))
    · (repeat (first | (first | (with_reducible (first | refine w1 fun _ _ => ?_ | refine w3 fun _ _ _ => ?_ | refine w4 fun _ _ _ => ?_ | refine w11 fun _ _ _ => ?_ | refine stb_n ?_)) | ((with_reducible refine w2 ?_); try simp -implicitDefEqProofs only [EN, lsub, lget, stL, beq_self_eq_true, ne_eq, if_true, if_false, List.cons_append, List.nil_append, Option.isNone_some, Option.isNone_none, h1, h1']; intro _ _) | ((with_reducible (first | refine w5 ?_ ?_ | refine w6 ?_ ?_ | refine w7 ?_ ?_)); simp; refine ⟨_, rfl, ?_⟩) | ((with_reducible (first | refine w8 ?_ ?_ ?_ | refine w9 ?_ ?_ ?_ | refine w10 ?_ ?_ ?_)); exact rfl; simp) | ((with_reducible refine w12 ?_ ?_ ?_ fun _ _ => ?_); simp; simp; simp [oneC]) | ((with_reducible (first | refine eqs ?_ | refine nes ?_)); refine ⟨_, rfl, ?_⟩) | ((refine okF_i (bldP_eq rfl) ?_); try simp only [BLS, List.take_succ_cons, List.take_zero, List.drop_succ_cons, List.drop_zero, List.cons_append, List.nil_append, Nat.reduceAdd])) | simp -implicitDefEqProofs only [EN, lsub, lget, stL, beq_self_eq_true, ne_eq, if_true, if_false, List.cons_append, List.nil_append, Option.isNone_some, Option.isNone_none, h1, h1']))
      refine ⟨?_, St.nil (by first | assumption | exact St.tick (by assumption) | exact St.tick (St.tick (by assumption)))⟩
      congr 1
      unfold hasV
      (first | rfl | (rw [decide_eq_decide]; omega) | (symm; rw [decide_eq_true_eq]; omega) | (symm; rw [decide_eq_false_iff_not]; omega) | (simp; omega))
  · (repeat (first | (first | (with_reducible (first | refine w1 fun _ _ => ?_ | refine w3 fun _ _ _ => ?_ | refine w4 fun _ _ _ => ?_ | refine w11 fun _ _ _ => ?_ | refine stb_n ?_)) | ((with_reducible refine w2 ?_); try simp -implicitDefEqProofs only [EN, lsub, lget, stL, beq_self_eq_true, ne_eq, if_true, if_false, List.cons_append, List.nil_append, Option.isNone_some, Option.isNone_none, h1]; intro _ _) | ((with_reducible (first | refine w5 ?_ ?_ | refine w6 ?_ ?_ | refine w7 ?_ ?_)); simp; refine ⟨_, rfl, ?_⟩) | ((with_reducible (first | refine w8 ?_ ?_ ?_ | refine w9 ?_ ?_ ?_ | refine w10 ?_ ?_ ?_)); exact rfl; simp) | ((with_reducible refine w12 ?_ ?_ ?_ fun _ _ => ?_); simp; simp; simp [oneC]) | ((with_reducible (first | refine eqs ?_ | refine nes ?_)); refine ⟨_, rfl, ?_⟩) | ((refine okF_i (bldP_eq rfl) ?_); try simp only [BLS, List.take_succ_cons, List.take_zero, List.drop_succ_cons, List.drop_zero, List.cons_append, List.nil_append, Nat.reduceAdd])) | simp -implicitDefEqProofs only [EN, lsub, lget, stL, beq_self_eq_true, ne_eq, if_true, if_false, List.cons_append, List.nil_append, Option.isNone_some, Option.isNone_none, h1]))
    refine ⟨?_, St.nil (by first | assumption | exact St.tick (by assumption) | exact St.tick (St.tick (by assumption)))⟩
    congr 1
    unfold hasV
    (first | rfl | (rw [decide_eq_decide]; omega) | (symm; rw [decide_eq_true_eq]; omega) | (symm; rw [decide_eq_false_iff_not]; omega) | (simp; omega))
instance refHas (x0 x1 x2 x3 x4 x5 x6 r n : Int) : Pure0 PR F_rostrumref7_Has [.agg #[.int .i64 x0, .int .i64 x1, .int .i64 x2, .int .i64 x3, .int .i64 x4, .int .i64 x5, .int .i64 x6], .agg #[.int .i64 r, .int .i64 n]] (.bool (hasV ⟨x0, x1, x2, x3, x4, x5, x6⟩ ⟨r, n⟩)) :=
  ⟨fun W => refHas_run ⟨x0, x1, x2, x3, x4, x5, x6⟩ ⟨r, n⟩ W⟩
theorem refGood_run (v : P7 Int) (W : World) : callK PR F_rostrumref7_Good [.agg #[.int .i64 v.x0, .int .i64 v.x1, .int .i64 v.x2, .int .i64 v.x3, .int .i64 v.x4, .int .i64 v.x5, .int .i64 v.x6]] (fun u W' => u = .bool (goodV v) ∧ St W [] W') W := by
  apply S.rostrumref7_Good.call
  unfold S.rostrumref7_Good.body
  refine bxa (St.start W) fun b W1 h => ?_
  refine loop_c (σ := Unit) 7 (fun i _ => [.pointer (some ⟨b, 0, none⟩), .int .i64 i]) (fun i _ W1 => (∀ j, j < i → 0 ≤ v.get j ∧ v.get j ≤ 1099511627776) ∧ St W [cells b [.int .i64 v.x0, .int .i64 v.x1, .int .i64 v.x2, .int .i64 v.x3, .int .i64 v.x4, .int .i64 v.x5, .int .i64 v.x6] T_rostrumref7_Vec] W1) () rfl ⟨fun j h => by omega, h⟩ ?_
  clear h
  rintro K i _ W2 hi ⟨hv, h⟩ hK
  simp -implicitDefEqProofs only [EN, lsub, lget, stL, beq_self_eq_true, ne_eq, if_true, if_false, List.cons_append, List.nil_append, Option.isNone_some, Option.isNone_none]
  unfold S.rostrumref7_Good.l1
  have hno : i < 7 → (v.get i < 0 ∨ 1099511627776 < v.get i) → goodV v = false := fun hi h => by
    rw [Bool.eq_false_iff]
    intro hd
    have := (goodV_iff v).1 hd i hi
    omega
  by_cases hlt : (i : Int) < 7
  · have hi7 : i < 7 := by omega
    have ei := fun z => idxA7 (z := z) (i := i) hi7
    (repeat (first | (first | (with_reducible (first | refine w1 fun _ _ => ?_ | refine w3 fun _ _ _ => ?_ | refine w4 fun _ _ _ => ?_ | refine w11 fun _ _ _ => ?_ | refine stb_n ?_)) | ((with_reducible refine w2 ?_); try simp -implicitDefEqProofs only [EN, lsub, lget, stL, beq_self_eq_true, ne_eq, if_true, if_false, List.cons_append, List.nil_append, Option.isNone_some, Option.isNone_none, hlt, ei]; intro _ _) | ((with_reducible (first | refine w5 ?_ ?_ | refine w6 ?_ ?_ | refine w7 ?_ ?_)); simp; refine ⟨_, rfl, ?_⟩) | ((with_reducible (first | refine w8 ?_ ?_ ?_ | refine w9 ?_ ?_ ?_ | refine w10 ?_ ?_ ?_)); exact rfl; simp) | ((with_reducible refine w12 ?_ ?_ ?_ fun _ _ => ?_); simp; simp; simp [oneC]) | ((with_reducible (first | refine eqs ?_ | refine nes ?_)); refine ⟨_, rfl, ?_⟩) | ((refine okF_i (bldP_eq rfl) ?_); try simp only [BLS, List.take_succ_cons, List.take_zero, List.drop_succ_cons, List.drop_zero, List.cons_append, List.nil_append, Nat.reduceAdd])) | simp -implicitDefEqProofs only [EN, lsub, lget, stL, beq_self_eq_true, ne_eq, if_true, if_false, List.cons_append, List.nil_append, Option.isNone_some, Option.isNone_none, hlt, ei]))
    refine ld (v := .int .i64 (v.get i)) (by first | assumption | exact St.tick (by assumption) | exact St.tick (St.tick (by assumption))) (getL7 hi7) (by simp) ?_
    by_cases h1 : v.get i < 0
    · have hc := hno hi7 (.inl h1)
      (repeat (first | (first | (with_reducible (first | refine w1 fun _ _ => ?_ | refine w3 fun _ _ _ => ?_ | refine w4 fun _ _ _ => ?_ | refine w11 fun _ _ _ => ?_ | refine stb_n ?_)) | ((with_reducible refine w2 ?_); try simp -implicitDefEqProofs only [EN, lsub, lget, stL, beq_self_eq_true, ne_eq, if_true, if_false, List.cons_append, List.nil_append, Option.isNone_some, Option.isNone_none, h1]; intro _ _) | ((with_reducible (first | refine w5 ?_ ?_ | refine w6 ?_ ?_ | refine w7 ?_ ?_)); simp; refine ⟨_, rfl, ?_⟩) | ((with_reducible (first | refine w8 ?_ ?_ ?_ | refine w9 ?_ ?_ ?_ | refine w10 ?_ ?_ ?_)); exact rfl; simp) | ((with_reducible refine w12 ?_ ?_ ?_ fun _ _ => ?_); simp; simp; simp [oneC]) | ((with_reducible (first | refine eqs ?_ | refine nes ?_)); refine ⟨_, rfl, ?_⟩) | ((refine okF_i (bldP_eq rfl) ?_); try simp only [BLS, List.take_succ_cons, List.take_zero, List.drop_succ_cons, List.drop_zero, List.cons_append, List.nil_append, Nat.reduceAdd])) | simp -implicitDefEqProofs only [EN, lsub, lget, stL, beq_self_eq_true, ne_eq, if_true, if_false, List.cons_append, List.nil_append, Option.isNone_some, Option.isNone_none, h1]))
      exact ⟨by rw [hc], St.nil (by first | assumption | exact St.tick (by assumption) | exact St.tick (St.tick (by assumption)))⟩
    · (repeat (first | (first | (with_reducible (first | refine w1 fun _ _ => ?_ | refine w3 fun _ _ _ => ?_ | refine w4 fun _ _ _ => ?_ | refine w11 fun _ _ _ => ?_ | refine stb_n ?_)) | ((with_reducible refine w2 ?_); try simp -implicitDefEqProofs only [EN, lsub, lget, stL, beq_self_eq_true, ne_eq, if_true, if_false, List.cons_append, List.nil_append, Option.isNone_some, Option.isNone_none, h1, ei]; intro _ _) | ((with_reducible (first | refine w5 ?_ ?_ | refine w6 ?_ ?_ | refine w7 ?_ ?_)); simp; refine ⟨_, rfl, ?_⟩) | ((with_reducible (first | refine w8 ?_ ?_ ?_ | refine w9 ?_ ?_ ?_ | refine w10 ?_ ?_ ?_)); exact rfl; simp) | ((with_reducible refine w12 ?_ ?_ ?_ fun _ _ => ?_); simp; simp; simp [oneC]) | ((with_reducible (first | refine eqs ?_ | refine nes ?_)); refine ⟨_, rfl, ?_⟩) | ((refine okF_i (bldP_eq rfl) ?_); try simp only [BLS, List.take_succ_cons, List.take_zero, List.drop_succ_cons, List.drop_zero, List.cons_append, List.nil_append, Nat.reduceAdd])) | simp -implicitDefEqProofs only [EN, lsub, lget, stL, beq_self_eq_true, ne_eq, if_true, if_false, List.cons_append, List.nil_append, Option.isNone_some, Option.isNone_none, h1, ei]))
      refine ld (v := .int .i64 (v.get i)) (by first | assumption | exact St.tick (by assumption) | exact St.tick (St.tick (by assumption))) (getL7 hi7) (by simp) ?_
      by_cases h2 : 1099511627776 < v.get i
      · have hc := hno hi7 (.inr h2)
        (repeat (first | (first | (with_reducible (first | refine w1 fun _ _ => ?_ | refine w3 fun _ _ _ => ?_ | refine w4 fun _ _ _ => ?_ | refine w11 fun _ _ _ => ?_ | refine stb_n ?_)) | ((with_reducible refine w2 ?_); try simp -implicitDefEqProofs only [EN, lsub, lget, stL, beq_self_eq_true, ne_eq, if_true, if_false, List.cons_append, List.nil_append, Option.isNone_some, Option.isNone_none, h2]; intro _ _) | ((with_reducible (first | refine w5 ?_ ?_ | refine w6 ?_ ?_ | refine w7 ?_ ?_)); simp; refine ⟨_, rfl, ?_⟩) | ((with_reducible (first | refine w8 ?_ ?_ ?_ | refine w9 ?_ ?_ ?_ | refine w10 ?_ ?_ ?_)); exact rfl; simp) | ((with_reducible refine w12 ?_ ?_ ?_ fun _ _ => ?_); simp; simp; simp [oneC]) | ((with_reducible (first | refine eqs ?_ | refine nes ?_)); refine ⟨_, rfl, ?_⟩) | ((refine okF_i (bldP_eq rfl) ?_); try simp only [BLS, List.take_succ_cons, List.take_zero, List.drop_succ_cons, List.drop_zero, List.cons_append, List.nil_append, Nat.reduceAdd])) | simp -implicitDefEqProofs only [EN, lsub, lget, stL, beq_self_eq_true, ne_eq, if_true, if_false, List.cons_append, List.nil_append, Option.isNone_some, Option.isNone_none, h2]))
        exact ⟨by rw [hc], St.nil (by first | assumption | exact St.tick (by assumption) | exact St.tick (St.tick (by assumption)))⟩
      · have ew : IntKind.i64.wrap ((i : Int) + 1) = ((i + 1 : Nat) : Int) := by rw [i64w]; omega
        (repeat (first | (first | (with_reducible (first | refine w1 fun _ _ => ?_ | refine w3 fun _ _ _ => ?_ | refine w4 fun _ _ _ => ?_ | refine w11 fun _ _ _ => ?_ | refine stb_n ?_)) | ((with_reducible refine w2 ?_); try simp -implicitDefEqProofs only [EN, lsub, lget, stL, beq_self_eq_true, ne_eq, if_true, if_false, List.cons_append, List.nil_append, Option.isNone_some, Option.isNone_none, h2, ew]; intro _ _) | ((with_reducible (first | refine w5 ?_ ?_ | refine w6 ?_ ?_ | refine w7 ?_ ?_)); simp; refine ⟨_, rfl, ?_⟩) | ((with_reducible (first | refine w8 ?_ ?_ ?_ | refine w9 ?_ ?_ ?_ | refine w10 ?_ ?_ ?_)); exact rfl; simp) | ((with_reducible refine w12 ?_ ?_ ?_ fun _ _ => ?_); simp; simp; simp [oneC]) | ((with_reducible (first | refine eqs ?_ | refine nes ?_)); refine ⟨_, rfl, ?_⟩) | ((refine okF_i (bldP_eq rfl) ?_); try simp only [BLS, List.take_succ_cons, List.take_zero, List.drop_succ_cons, List.drop_zero, List.cons_append, List.nil_append, Nat.reduceAdd])) | simp -implicitDefEqProofs only [EN, lsub, lget, stL, beq_self_eq_true, ne_eq, if_true, if_false, List.cons_append, List.nil_append, Option.isNone_some, Option.isNone_none, h2, ew]))
        refine hK () _ hi7 ⟨fun j hj => ?_, St.wk (by first | assumption | exact St.tick (by assumption) | exact St.tick (St.tick (by assumption)))⟩
        by_cases hji : j = i
        · subst hji; omega
        · exact hv j (by omega)
  · (repeat (first | (first | (with_reducible (first | refine w1 fun _ _ => ?_ | refine w3 fun _ _ _ => ?_ | refine w4 fun _ _ _ => ?_ | refine w11 fun _ _ _ => ?_ | refine stb_n ?_)) | ((with_reducible refine w2 ?_); try simp -implicitDefEqProofs only [EN, lsub, lget, stL, beq_self_eq_true, ne_eq, if_true, if_false, List.cons_append, List.nil_append, Option.isNone_some, Option.isNone_none, hlt]; intro _ _) | ((with_reducible (first | refine w5 ?_ ?_ | refine w6 ?_ ?_ | refine w7 ?_ ?_)); simp; refine ⟨_, rfl, ?_⟩) | ((with_reducible (first | refine w8 ?_ ?_ ?_ | refine w9 ?_ ?_ ?_ | refine w10 ?_ ?_ ?_)); exact rfl; simp) | ((with_reducible refine w12 ?_ ?_ ?_ fun _ _ => ?_); simp; simp; simp [oneC]) | ((with_reducible (first | refine eqs ?_ | refine nes ?_)); refine ⟨_, rfl, ?_⟩) | ((refine okF_i (bldP_eq rfl) ?_); try simp only [BLS, List.take_succ_cons, List.take_zero, List.drop_succ_cons, List.drop_zero, List.cons_append, List.nil_append, Nat.reduceAdd])) | simp -implicitDefEqProofs only [EN, lsub, lget, stL, beq_self_eq_true, ne_eq, if_true, if_false, List.cons_append, List.nil_append, Option.isNone_some, Option.isNone_none, hlt]))
    exact ⟨by rw [(goodV_iff v).2 fun j hj => hv j (by omega)], St.nil (by first | assumption | exact St.tick (by assumption) | exact St.tick (St.tick (by assumption)))⟩
instance refGood (x0 x1 x2 x3 x4 x5 x6 : Int) : Pure0 PR F_rostrumref7_Good [.agg #[.int .i64 x0, .int .i64 x1, .int .i64 x2, .int .i64 x3, .int .i64 x4, .int .i64 x5, .int .i64 x6]] (.bool (goodV ⟨x0, x1, x2, x3, x4, x5, x6⟩)) :=
  ⟨fun W => refGood_run ⟨x0, x1, x2, x3, x4, x5, x6⟩ W⟩
instance refLess (a b c d : Int) : Pure0 PR F_rostrumref7_Less [.agg #[.int .i64 a, .int .i64 b], .agg #[.int .i64 c, .int .i64 d]] (.bool (dlt ⟨a, b⟩ ⟨c, d⟩)) := ⟨fun W => by
  apply S.rostrumref7_Less.call
  unfold S.rostrumref7_Less.body
  have h := St.start W
  by_cases h1 : a < c
  · (repeat (first | (first | (with_reducible (first | refine w1 fun _ _ => ?_ | refine w3 fun _ _ _ => ?_ | refine w4 fun _ _ _ => ?_ | refine w11 fun _ _ _ => ?_ | refine stb_n ?_)) | ((with_reducible refine w2 ?_); try simp -implicitDefEqProofs only [EN, lsub, lget, stL, beq_self_eq_true, ne_eq, if_true, if_false, List.cons_append, List.nil_append, Option.isNone_some, Option.isNone_none, h1]; intro _ _) | ((with_reducible (first | refine w5 ?_ ?_ | refine w6 ?_ ?_ | refine w7 ?_ ?_)); simp; refine ⟨_, rfl, ?_⟩) | ((with_reducible (first | refine w8 ?_ ?_ ?_ | refine w9 ?_ ?_ ?_ | refine w10 ?_ ?_ ?_)); exact rfl; simp) | ((with_reducible refine w12 ?_ ?_ ?_ fun _ _ => ?_); simp; simp; simp [oneC]) | ((with_reducible (first | refine eqs ?_ | refine nes ?_)); refine ⟨_, rfl, ?_⟩) | ((refine okF_i (bldP_eq rfl) ?_); try simp only [BLS, List.take_succ_cons, List.take_zero, List.drop_succ_cons, List.drop_zero, List.cons_append, List.nil_append, Nat.reduceAdd])) | simp -implicitDefEqProofs only [EN, lsub, lget, stL, beq_self_eq_true, ne_eq, if_true, if_false, List.cons_append, List.nil_append, Option.isNone_some, Option.isNone_none, h1]))
    refine ⟨?_, St.nil (by first | assumption | exact St.tick (by assumption) | exact St.tick (St.tick (by assumption)))⟩
    congr 1; unfold dlt; first | (simp only; (first | rfl | (rw [decide_eq_decide]; omega) | (symm; rw [decide_eq_true_eq]; omega) | (symm; rw [decide_eq_false_iff_not]; omega) | (simp; omega))) | (first | rfl | (rw [decide_eq_decide]; omega) | (symm; rw [decide_eq_true_eq]; omega) | (symm; rw [decide_eq_false_iff_not]; omega) | (simp; omega)) | simp
  · by_cases h2 : a = c
    · subst h2
      have f2 : decide (a = a) = true := decide_eq_true rfl
      (repeat (first | (first | (with_reducible (first | refine w1 fun _ _ => ?_ | refine w3 fun _ _ _ => ?_ | refine w4 fun _ _ _ => ?_ | refine w11 fun _ _ _ => ?_ | refine stb_n ?_)) | ((with_reducible refine w2 ?_); try simp -implicitDefEqProofs only [EN, lsub, lget, stL, beq_self_eq_true, ne_eq, if_true, if_false, List.cons_append, List.nil_append, Option.isNone_some, Option.isNone_none, h1, f2]; intro _ _) | ((with_reducible (first | refine w5 ?_ ?_ | refine w6 ?_ ?_ | refine w7 ?_ ?_)); simp; refine ⟨_, rfl, ?_⟩) | ((with_reducible (first | refine w8 ?_ ?_ ?_ | refine w9 ?_ ?_ ?_ | refine w10 ?_ ?_ ?_)); exact rfl; simp) | ((with_reducible refine w12 ?_ ?_ ?_ fun _ _ => ?_); simp; simp; simp [oneC]) | ((with_reducible (first | refine eqs ?_ | refine nes ?_)); refine ⟨_, rfl, ?_⟩) | ((refine okF_i (bldP_eq rfl) ?_); try simp only [BLS, List.take_succ_cons, List.take_zero, List.drop_succ_cons, List.drop_zero, List.cons_append, List.nil_append, Nat.reduceAdd])) | simp -implicitDefEqProofs only [EN, lsub, lget, stL, beq_self_eq_true, ne_eq, if_true, if_false, List.cons_append, List.nil_append, Option.isNone_some, Option.isNone_none, h1, f2]))
      refine ⟨?_, St.nil (by first | assumption | exact St.tick (by assumption) | exact St.tick (St.tick (by assumption)))⟩
      congr 1; unfold dlt; first | (simp only; (first | rfl | (rw [decide_eq_decide]; omega) | (symm; rw [decide_eq_true_eq]; omega) | (symm; rw [decide_eq_false_iff_not]; omega) | (simp; omega))) | (first | rfl | (rw [decide_eq_decide]; omega) | (symm; rw [decide_eq_true_eq]; omega) | (symm; rw [decide_eq_false_iff_not]; omega) | (simp; omega)) | simp
    · have f2 := decide_eq_false h2
      (repeat (first | (first | (with_reducible (first | refine w1 fun _ _ => ?_ | refine w3 fun _ _ _ => ?_ | refine w4 fun _ _ _ => ?_ | refine w11 fun _ _ _ => ?_ | refine stb_n ?_)) | ((with_reducible refine w2 ?_); try simp -implicitDefEqProofs only [EN, lsub, lget, stL, beq_self_eq_true, ne_eq, if_true, if_false, List.cons_append, List.nil_append, Option.isNone_some, Option.isNone_none, h1, f2]; intro _ _) | ((with_reducible (first | refine w5 ?_ ?_ | refine w6 ?_ ?_ | refine w7 ?_ ?_)); simp; refine ⟨_, rfl, ?_⟩) | ((with_reducible (first | refine w8 ?_ ?_ ?_ | refine w9 ?_ ?_ ?_ | refine w10 ?_ ?_ ?_)); exact rfl; simp) | ((with_reducible refine w12 ?_ ?_ ?_ fun _ _ => ?_); simp; simp; simp [oneC]) | ((with_reducible (first | refine eqs ?_ | refine nes ?_)); refine ⟨_, rfl, ?_⟩) | ((refine okF_i (bldP_eq rfl) ?_); try simp only [BLS, List.take_succ_cons, List.take_zero, List.drop_succ_cons, List.drop_zero, List.cons_append, List.nil_append, Nat.reduceAdd])) | simp -implicitDefEqProofs only [EN, lsub, lget, stL, beq_self_eq_true, ne_eq, if_true, if_false, List.cons_append, List.nil_append, Option.isNone_some, Option.isNone_none, h1, f2]))
      refine ⟨?_, St.nil (by first | assumption | exact St.tick (by assumption) | exact St.tick (St.tick (by assumption)))⟩
      congr 1; unfold dlt; first | (simp only; (first | rfl | (rw [decide_eq_decide]; omega) | (symm; rw [decide_eq_true_eq]; omega) | (symm; rw [decide_eq_false_iff_not]; omega) | (simp; omega))) | (first | rfl | (rw [decide_eq_decide]; omega) | (symm; rw [decide_eq_true_eq]; omega) | (symm; rw [decide_eq_false_iff_not]; omega) | (simp; omega)) | simp⟩
section
variable {W0 W : World} {L L' : List Asn} {q : Nat}
theorem ins_eq {α : Type} (l : List α) (x : α) (i : Nat) : [] ++ (l.take i).drop 0 ++ [x] ++ (l.take l.length).drop i = l.take i ++ [x] ++ l.drop i := by simp
set_option maxHeartbeats 4000000 in
theorem refInsert {a : Option Addr} {c : Nat} {l : List Dot} {d : Dot} {k : Value → World → Prop} (h : St W0 (arr DT T_api_Dot a c l :: L) W) (hl : l.length < 1000000)
    (hk : ∀ a' c' W', St W0 (arr DT T_api_Dot a' c' (insS dlt l d) :: L) W' → k (.slice a' (insS dlt l d).length c') W') : callK PR F_rostrumref7_insert [.slice a l.length c, .agg #[.int .i64 d.rep, .int .i64 d.n]] k W := by
  apply S.rostrumref7_insert.call
  unfold S.rostrumref7_insert.body
  have hlc := h.arrFacts.1
  refine bxa h fun b W1 h => ?_
  refine joinK_i ?_
  have hJ1 : ∀ (i : Nat) W', i ≤ l.length → (∀ j (hj : j < l.length), j < i → dlt l[j] d = true) → (∀ (hi : i < l.length), dlt l[i] d = false) → St W0 (cells b [.int .i64 d.rep, .int .i64 d.n] T_api_Dot :: arr DT T_api_Dot a c l :: L) W' →
      S.rostrumref7_insert.j1 k (.slice a l.length c) (.pointer (some ⟨b, 0, none⟩)) (.int .i64 (i : Int)) W' := by
    intro i W' hi h1 h2 h
    have hat := insS_at (lt := dlt) (l := l) (x := d) hi h1 h2
    unfold S.rostrumref7_insert.j1
    have hfin0 : insS dlt l d = l.take i ++ [d] ++ l.drop i → ∀ {L2 : List Asn} a' c' W', St W0 (arr DT T_api_Dot a' c' ([] ++ (l.take i).drop 0 ++ [d] ++ (l.take l.length).drop i) :: L2) W' → (∀ W', St W0 (arr DT T_api_Dot a' c' (l.take i ++ [d] ++ l.drop i) :: L2) W' → St W0 (arr DT T_api_Dot a' c' (l.take i ++ [d] ++ l.drop i) :: L) W') →
        k (.slice a' ([] ++ (l.take i).drop 0 ++ [d] ++ (l.take l.length).drop i).length c') W' := fun e L2 a' c' W' h hw => by
      rw [ins_eq] at h ⊢
      have h := hw _ h
      rw [← e] at h ⊢
      exact hk a' c' W' h
    have hgo : insS dlt l d = l.take i ++ [d] ++ l.drop i → ∀ W', St W0 (cells b [.int .i64 d.rep, .int .i64 d.n] T_api_Dot :: arr DT T_api_Dot a c l :: L) W' →
      okF (slcS 2 (.slice a l.length c) none (some (.int .i64 (i : Int))) none) fun v36 =>
      rdK PR (Instr.loadAt T_api_Dot (.pointer (some ⟨b, 0, none⟩))) (fun v38 W =>
      okF (slcS 2 (.slice a l.length c) (some (.int .i64 (i : Int))) none none) fun v43 =>
      (efK PR (Instr.buildSlice T_s_api_Dot 0 #[]) (fun v33 W =>
      stb PR [(5, true, (Instr.loadAt T_api_Dot (.pointer (some ⟨b, 0, none⟩))), v38)] (fun W =>
      (efK PR (Builtin.append_ #[T_s_api_Dot, T_s_api_Dot] T_s_api_Dot #[v33, v36]) (fun v37 W =>
      stb PR [(5, true, (Instr.loadAt T_api_Dot (.pointer (some ⟨b, 0, none⟩))), v38)] (fun W =>
      efK PR (Instr.buildSlice T_s_api_Dot 1 #[(0, v38)]) (fun v39 W =>
      efK PR (Builtin.append_ #[T_s_api_Dot, T_s_api_Dot] T_s_api_Dot #[v37, v39]) (fun v40 W =>
      efK PR (Builtin.append_ #[T_s_api_Dot, T_s_api_Dot] T_s_api_Dot #[v40, v43]) (fun v44 W =>
      k v44 W) W) W) W) W) W) ∧ (efK PR (Instr.buildSlice T_s_api_Dot 1 #[(0, v38)]) (fun v39_1 W =>
      efK PR (Builtin.append_ #[T_s_api_Dot, T_s_api_Dot] T_s_api_Dot #[v33, v36]) (fun v37_1 W =>
      efK PR (Builtin.append_ #[T_s_api_Dot, T_s_api_Dot] T_s_api_Dot #[v37_1, v39_1]) (fun v40_1 W =>
      efK PR (Builtin.append_ #[T_s_api_Dot, T_s_api_Dot] T_s_api_Dot #[v40_1, v43]) (fun v44_1 W =>
      k v44_1 W) W) W) W) W)) W) W) ∧ (efK PR (Instr.buildSlice T_s_api_Dot 1 #[(0, v38)]) (fun v39_2 W =>
      efK PR (Instr.buildSlice T_s_api_Dot 0 #[]) (fun v33_1 W =>
      efK PR (Builtin.append_ #[T_s_api_Dot, T_s_api_Dot] T_s_api_Dot #[v33_1, v36]) (fun v37_2 W =>
      efK PR (Builtin.append_ #[T_s_api_Dot, T_s_api_Dot] T_s_api_Dot #[v37_2, v39_2]) (fun v40_2 W =>
      efK PR (Builtin.append_ #[T_s_api_Dot, T_s_api_Dot] T_s_api_Dot #[v40_2, v43]) (fun v44_2 W =>
      k v44_2 W) W) W) W) W) W)) (tick W') := by
      intro e W' h
      have hfin := fun {L2 : List Asn} a' c' W' h hw => hfin0 e (L2 := L2) a' c' W' h hw
      clear hfin0 hk hat
      refine slcR (a := a) (l := l) (A := DT) (lo := 0) (hi := i) h rfl rfl (bnd_nat (by omega)) bnd_none (by omega) hi hlc fun a1 c1 hr1 => ?_
      refine ld (cs := [.int .i64 d.rep, .int .i64 d.n]) (v := .agg #[.int .i64 d.rep, .int .i64 d.n]) h.tick rfl (by simp) ?_
      refine slcR (a := a) (l := l) (A := DT) (lo := i) (hi := l.length) h rfl rfl bnd_none (bnd_nat (by omega)) (by omega) (Nat.le_refl _) hlc fun a2 c2 hr2 => ?_
      refine ⟨?_, ?_⟩
      · refine bs0 DT h.tick fun a3 c3 W3 h => ?_
        refine stb_ld (cs := [.int .i64 d.rep, .int .i64 d.n]) h rfl (by simp) (stb_n ?_)
        refine ⟨?_, ?_⟩
        · refine appA (a := a3) (l := []) (m := (l.take i).drop 0) h rfl (by simp only [List.length_append, List.length_take, List.length_drop, List.length_cons, List.length_nil]; omega) (by simp only [List.length_append, List.length_take, List.length_drop, List.length_cons, List.length_nil, maxLen]; omega) fun a4 c4 W4 h => ?_
          refine stb_ld (cs := [.int .i64 d.rep, .int .i64 d.n]) h rfl (by simp) (stb_n ?_)
          refine bsA DT [d] (n := 1) h rfl rfl (by decide) (by decide) rfl fun a5 c5 W5 h => ?_
          refine appA (a := a4) (l := [] ++ (l.take i).drop 0) (m := [d]) h rfl (by simp only [List.length_append, List.length_take, List.length_drop, List.length_cons, List.length_nil]; omega) (by simp only [List.length_append, List.length_take, List.length_drop, List.length_cons, List.length_nil, maxLen]; omega) fun a6 c6 W6 h => ?_
          refine appA (a := a6) (l := [] ++ (l.take i).drop 0 ++ [d]) (m := (l.take l.length).drop i) h rfl (by simp only [List.length_append, List.length_take, List.length_drop, List.length_cons, List.length_nil]; omega) (by simp only [List.length_append, List.length_take, List.length_drop, List.length_cons, List.length_nil, maxLen]; omega) fun a7 c7 W7 h => ?_
          exact hfin _ _ _ h fun _ h => St.wk h
        · refine bsA DT [d] (n := 1) h rfl rfl (by decide) (by decide) rfl fun a5 c5 W5 h => ?_
          refine appA (a := a3) (l := []) (m := (l.take i).drop 0) h rfl (by simp only [List.length_append, List.length_take, List.length_drop, List.length_cons, List.length_nil]; omega) (by simp only [List.length_append, List.length_take, List.length_drop, List.length_cons, List.length_nil, maxLen]; omega) fun a4 c4 W4 h => ?_
          refine appA (a := a4) (l := [] ++ (l.take i).drop 0) (m := [d]) h rfl (by simp only [List.length_append, List.length_take, List.length_drop, List.length_cons, List.length_nil]; omega) (by simp only [List.length_append, List.length_take, List.length_drop, List.length_cons, List.length_nil, maxLen]; omega) fun a6 c6 W6 h => ?_
          refine appA (a := a6) (l := [] ++ (l.take i).drop 0 ++ [d]) (m := (l.take l.length).drop i) h rfl (by simp only [List.length_append, List.length_take, List.length_drop, List.length_cons, List.length_nil]; omega) (by simp only [List.length_append, List.length_take, List.length_drop, List.length_cons, List.length_nil, maxLen]; omega) fun a7 c7 W7 h => ?_
          exact hfin _ _ _ h fun _ h => St.wk h
      · refine bsA DT [d] (n := 1) h.tick rfl rfl (by decide) (by decide) rfl fun a5 c5 W5 h => ?_
        refine bs0 DT h fun a3 c3 W3 h => ?_
        refine appA (a := a3) (l := []) (m := (l.take i).drop 0) h rfl (by simp only [List.length_append, List.length_take, List.length_drop, List.length_cons, List.length_nil]; omega) (by simp only [List.length_append, List.length_take, List.length_drop, List.length_cons, List.length_nil, maxLen]; omega) fun a4 c4 W4 h => ?_
        refine appA (a := a4) (l := [] ++ (l.take i).drop 0) (m := [d]) h rfl (by simp only [List.length_append, List.length_take, List.length_drop, List.length_cons, List.length_nil]; omega) (by simp only [List.length_append, List.length_take, List.length_drop, List.length_cons, List.length_nil, maxLen]; omega) fun a6 c6 W6 h => ?_
        refine appA (a := a6) (l := [] ++ (l.take i).drop 0 ++ [d]) (m := (l.take l.length).drop i) h rfl (by simp only [List.length_append, List.length_take, List.length_drop, List.length_cons, List.length_nil]; omega) (by simp only [List.length_append, List.length_take, List.length_drop, List.length_cons, List.length_nil, maxLen]; omega) fun a7 c7 W7 h => ?_
        exact hfin _ _ _ h fun _ h => St.wk h
    by_cases hit : i < l.length
    · have f0 : decide ((i : Int) < (l.length : Int)) = true := decide_eq_true (by omega)
      rw [dif_pos hit] at hat
      (repeat (first | (first | (with_reducible (first | refine w1 fun _ _ => ?_ | refine w3 fun _ _ _ => ?_ | refine w4 fun _ _ _ => ?_ | refine w11 fun _ _ _ => ?_ | refine stb_n ?_)) | ((with_reducible refine w2 ?_); try simp -implicitDefEqProofs only [EN, lsub, lget, stL, beq_self_eq_true, ne_eq, if_true, if_false, List.cons_append, List.nil_append, Option.isNone_some, Option.isNone_none, f0]; intro _ _) | ((with_reducible (first | refine w5 ?_ ?_ | refine w6 ?_ ?_ | refine w7 ?_ ?_)); simp; refine ⟨_, rfl, ?_⟩) | ((with_reducible (first | refine w8 ?_ ?_ ?_ | refine w9 ?_ ?_ ?_ | refine w10 ?_ ?_ ?_)); exact rfl; simp) | ((with_reducible refine w12 ?_ ?_ ?_ fun _ _ => ?_); simp; simp; simp [oneC]) | ((with_reducible (first | refine eqs ?_ | refine nes ?_)); refine ⟨_, rfl, ?_⟩) | ((refine okF_i (bldP_eq rfl) ?_); try simp only [BLS, List.take_succ_cons, List.take_zero, List.drop_succ_cons, List.drop_zero, List.cons_append, List.nil_append, Nat.reduceAdd])) | simp -implicitDefEqProofs only [EN, lsub, lget, stL, beq_self_eq_true, ne_eq, if_true, if_false, List.cons_append, List.nil_append, Option.isNone_some, Option.isNone_none, f0]))
      refine ixA (i := i) (a := a) (l := l) (A := DT) (by first | assumption | exact St.tick (by assumption) | exact St.tick (St.tick (by assumption))) rfl rfl hit fun g o ha => ?_
      cases ha
      (repeat (first | (first | (with_reducible (first | refine w1 fun _ _ => ?_ | refine w3 fun _ _ _ => ?_ | refine w4 fun _ _ _ => ?_ | refine w11 fun _ _ _ => ?_ | refine stb_n ?_)) | ((with_reducible refine w2 ?_); try simp -implicitDefEqProofs only [EN, lsub, lget, stL, beq_self_eq_true, ne_eq, if_true, if_false, List.cons_append, List.nil_append, Option.isNone_some, Option.isNone_none]; intro _ _) | ((with_reducible (first | refine w5 ?_ ?_ | refine w6 ?_ ?_ | refine w7 ?_ ?_)); simp; refine ⟨_, rfl, ?_⟩) | ((with_reducible (first | refine w8 ?_ ?_ ?_ | refine w9 ?_ ?_ ?_ | refine w10 ?_ ?_ ?_)); exact rfl; simp) | ((with_reducible refine w12 ?_ ?_ ?_ fun _ _ => ?_); simp; simp; simp [oneC]) | ((with_reducible (first | refine eqs ?_ | refine nes ?_)); refine ⟨_, rfl, ?_⟩) | ((refine okF_i (bldP_eq rfl) ?_); try simp only [BLS, List.take_succ_cons, List.take_zero, List.drop_succ_cons, List.drop_zero, List.cons_append, List.nil_append, Nat.reduceAdd])) | simp -implicitDefEqProofs only [EN, lsub, lget, stL, beq_self_eq_true, ne_eq, if_true, if_false, List.cons_append, List.nil_append, Option.isNone_some, Option.isNone_none]))
      refine ldA0 (i := i) (l := l) (A := DT) (by first | assumption | exact St.tick (by assumption) | exact St.tick (St.tick (by assumption))) rfl hit (v := .agg #[.int .i64 (l[i]).rep, .int .i64 (l[i]).n]) rfl (by simp) ?_
      generalize hy : l[i] = y at *
      by_cases he : y = d
      · have f1 : (decide (y.rep = d.rep) && decide (y.n = d.n)) = true := by rw [dot_eq]; exact decide_eq_true he
        rw [if_pos he] at hat
        rw [hat] at hk
        (repeat (first | (first | (with_reducible (first | refine w1 fun _ _ => ?_ | refine w3 fun _ _ _ => ?_ | refine w4 fun _ _ _ => ?_ | refine w11 fun _ _ _ => ?_ | refine stb_n ?_)) | ((with_reducible refine w2 ?_); try simp -implicitDefEqProofs only [EN, lsub, lget, stL, beq_self_eq_true, ne_eq, if_true, if_false, List.cons_append, List.nil_append, Option.isNone_some, Option.isNone_none, f1]; intro _ _) | ((with_reducible (first | refine w5 ?_ ?_ | refine w6 ?_ ?_ | refine w7 ?_ ?_)); simp; refine ⟨_, rfl, ?_⟩) | ((with_reducible (first | refine w8 ?_ ?_ ?_ | refine w9 ?_ ?_ ?_ | refine w10 ?_ ?_ ?_)); exact rfl; simp) | ((with_reducible refine w12 ?_ ?_ ?_ fun _ _ => ?_); simp; simp; simp [oneC]) | ((with_reducible (first | refine eqs ?_ | refine nes ?_)); refine ⟨_, rfl, ?_⟩) | ((refine okF_i (bldP_eq rfl) ?_); try simp only [BLS, List.take_succ_cons, List.take_zero, List.drop_succ_cons, List.drop_zero, List.cons_append, List.nil_append, Nat.reduceAdd])) | simp -implicitDefEqProofs only [EN, lsub, lget, stL, beq_self_eq_true, ne_eq, if_true, if_false, List.cons_append, List.nil_append, Option.isNone_some, Option.isNone_none, f1]))
        exact hk _ _ _ (St.wk (by first | assumption | exact St.tick (by assumption) | exact St.tick (St.tick (by assumption))))
      · have f1 : (decide (y.rep = d.rep) && decide (y.n = d.n)) = false := by rw [dot_eq]; exact decide_eq_false he
        rw [if_neg he] at hat
        (repeat (first | (first | (with_reducible (first | refine w1 fun _ _ => ?_ | refine w3 fun _ _ _ => ?_ | refine w4 fun _ _ _ => ?_ | refine w11 fun _ _ _ => ?_ | refine stb_n ?_)) | ((with_reducible refine w2 ?_); try simp -implicitDefEqProofs only [EN, lsub, lget, stL, beq_self_eq_true, ne_eq, if_true, if_false, List.cons_append, List.nil_append, Option.isNone_some, Option.isNone_none, f1]; intro _ _) | ((with_reducible (first | refine w5 ?_ ?_ | refine w6 ?_ ?_ | refine w7 ?_ ?_)); simp; refine ⟨_, rfl, ?_⟩) | ((with_reducible (first | refine w8 ?_ ?_ ?_ | refine w9 ?_ ?_ ?_ | refine w10 ?_ ?_ ?_)); exact rfl; simp) | ((with_reducible refine w12 ?_ ?_ ?_ fun _ _ => ?_); simp; simp; simp [oneC]) | ((with_reducible (first | refine eqs ?_ | refine nes ?_)); refine ⟨_, rfl, ?_⟩) | ((refine okF_i (bldP_eq rfl) ?_); try simp only [BLS, List.take_succ_cons, List.take_zero, List.drop_succ_cons, List.drop_zero, List.cons_append, List.nil_append, Nat.reduceAdd])) | simp -implicitDefEqProofs only [EN, lsub, lget, stL, beq_self_eq_true, ne_eq, if_true, if_false, List.cons_append, List.nil_append, Option.isNone_some, Option.isNone_none, f1]))
        exact hgo hat _ (by first | assumption | exact St.tick (by assumption) | exact St.tick (St.tick (by assumption)))
    · have f0 : decide ((i : Int) < (l.length : Int)) = false := decide_eq_false (by omega)
      rw [dif_neg hit] at hat
      have hil : i = l.length := by omega
      have hat : insS dlt l d = l.take i ++ [d] ++ l.drop i := by rw [hat, hil]; simp
      (repeat (first | (first | (with_reducible (first | refine w1 fun _ _ => ?_ | refine w3 fun _ _ _ => ?_ | refine w4 fun _ _ _ => ?_ | refine w11 fun _ _ _ => ?_ | refine stb_n ?_)) | ((with_reducible refine w2 ?_); try simp -implicitDefEqProofs only [EN, lsub, lget, stL, beq_self_eq_true, ne_eq, if_true, if_false, List.cons_append, List.nil_append, Option.isNone_some, Option.isNone_none, f0]; intro _ _) | ((with_reducible (first | refine w5 ?_ ?_ | refine w6 ?_ ?_ | refine w7 ?_ ?_)); simp; refine ⟨_, rfl, ?_⟩) | ((with_reducible (first | refine w8 ?_ ?_ ?_ | refine w9 ?_ ?_ ?_ | refine w10 ?_ ?_ ?_)); exact rfl; simp) | ((with_reducible refine w12 ?_ ?_ ?_ fun _ _ => ?_); simp; simp; simp [oneC]) | ((with_reducible (first | refine eqs ?_ | refine nes ?_)); refine ⟨_, rfl, ?_⟩) | ((refine okF_i (bldP_eq rfl) ?_); try simp only [BLS, List.take_succ_cons, List.take_zero, List.drop_succ_cons, List.drop_zero, List.cons_append, List.nil_append, Nat.reduceAdd])) | simp -implicitDefEqProofs only [EN, lsub, lget, stL, beq_self_eq_true, ne_eq, if_true, if_false, List.cons_append, List.nil_append, Option.isNone_some, Option.isNone_none, f0]))
      exact hgo hat _ (by first | assumption | exact St.tick (by assumption) | exact St.tick (St.tick (by assumption)))
  refine loop_c (σ := Unit) l.length (fun i _ => [.slice a l.length c, .pointer (some ⟨b, 0, none⟩), .int .i64 i])
    (fun i _ W1 => (∀ j (hj : j < l.length), j < i → dlt l[j] d = true) ∧ St W0 (cells b [.int .i64 d.rep, .int .i64 d.n] T_api_Dot :: arr DT T_api_Dot a c l :: L) W1) () rfl ⟨fun j _ h => by omega, h⟩ ?_
  clear h hk
  rintro K i _ W2 hi ⟨hlt, h⟩ hK
  simp -implicitDefEqProofs only [EN, lsub, lget, stL, beq_self_eq_true, ne_eq, if_true, if_false, List.cons_append, List.nil_append, Option.isNone_some, Option.isNone_none]
  unfold S.rostrumref7_insert.l1
  by_cases hit : i < l.length
  · have f0 : decide ((i : Int) < (l.length : Int)) = true := decide_eq_true (by omega)
    have ew : IntKind.i64.wrap ((i : Int) + 1) = ((i + 1 : Nat) : Int) := by rw [i64w]; omega
    (repeat (first | (first | (with_reducible (first | refine w1 fun _ _ => ?_ | refine w3 fun _ _ _ => ?_ | refine w4 fun _ _ _ => ?_ | refine w11 fun _ _ _ => ?_ | refine stb_n ?_)) | ((with_reducible refine w2 ?_); try simp -implicitDefEqProofs only [EN, lsub, lget, stL, beq_self_eq_true, ne_eq, if_true, if_false, List.cons_append, List.nil_append, Option.isNone_some, Option.isNone_none, f0]; intro _ _) | ((with_reducible (first | refine w5 ?_ ?_ | refine w6 ?_ ?_ | refine w7 ?_ ?_)); simp; refine ⟨_, rfl, ?_⟩) | ((with_reducible (first | refine w8 ?_ ?_ ?_ | refine w9 ?_ ?_ ?_ | refine w10 ?_ ?_ ?_)); exact rfl; simp) | ((with_reducible refine w12 ?_ ?_ ?_ fun _ _ => ?_); simp; simp; simp [oneC]) | ((with_reducible (first | refine eqs ?_ | refine nes ?_)); refine ⟨_, rfl, ?_⟩) | ((refine okF_i (bldP_eq rfl) ?_); try simp only [BLS, List.take_succ_cons, List.take_zero, List.drop_succ_cons, List.drop_zero, List.cons_append, List.nil_append, Nat.reduceAdd])) | simp -implicitDefEqProofs only [EN, lsub, lget, stL, beq_self_eq_true, ne_eq, if_true, if_false, List.cons_append, List.nil_append, Option.isNone_some, Option.isNone_none, f0]))
    refine ixA (i := i) (a := a) (l := l) (A := DT) (by first | assumption | exact St.tick (by assumption) | exact St.tick (St.tick (by assumption))) rfl rfl hit fun g o ha => ?_
    cases ha
    (repeat (first | (first | (with_reducible (first | refine w1 fun _ _ => ?_ | refine w3 fun _ _ _ => ?_ | refine w4 fun _ _ _ => ?_ | refine w11 fun _ _ _ => ?_ | refine stb_n ?_)) | ((with_reducible refine w2 ?_); try simp -implicitDefEqProofs only [EN, lsub, lget, stL, beq_self_eq_true, ne_eq, if_true, if_false, List.cons_append, List.nil_append, Option.isNone_some, Option.isNone_none]; intro _ _) | ((with_reducible (first | refine w5 ?_ ?_ | refine w6 ?_ ?_ | refine w7 ?_ ?_)); simp; refine ⟨_, rfl, ?_⟩) | ((with_reducible (first | refine w8 ?_ ?_ ?_ | refine w9 ?_ ?_ ?_ | refine w10 ?_ ?_ ?_)); exact rfl; simp) | ((with_reducible refine w12 ?_ ?_ ?_ fun _ _ => ?_); simp; simp; simp [oneC]) | ((with_reducible (first | refine eqs ?_ | refine nes ?_)); refine ⟨_, rfl, ?_⟩) | ((refine okF_i (bldP_eq rfl) ?_); try simp only [BLS, List.take_succ_cons, List.take_zero, List.drop_succ_cons, List.drop_zero, List.cons_append, List.nil_append, Nat.reduceAdd])) | simp -implicitDefEqProofs only [EN, lsub, lget, stL, beq_self_eq_true, ne_eq, if_true, if_false, List.cons_append, List.nil_append, Option.isNone_some, Option.isNone_none]))
    refine ldA0 (i := i) (l := l) (A := DT) (by first | assumption | exact St.tick (by assumption) | exact St.tick (St.tick (by assumption))) rfl hit (v := .agg #[.int .i64 (l[i]).rep, .int .i64 (l[i]).n]) rfl (by simp) ?_
    cases hd : dlt l[i] d with
    | true =>
      have ed : dlt ⟨l[i].rep, l[i].n⟩ ⟨d.rep, d.n⟩ = true := hd
      (repeat (first | (first | (with_reducible (first | refine w1 fun _ _ => ?_ | refine w3 fun _ _ _ => ?_ | refine w4 fun _ _ _ => ?_ | refine w11 fun _ _ _ => ?_ | refine stb_n ?_)) | ((with_reducible refine w2 ?_); try simp -implicitDefEqProofs only [EN, lsub, lget, stL, beq_self_eq_true, ne_eq, if_true, if_false, List.cons_append, List.nil_append, Option.isNone_some, Option.isNone_none, ed, ew]; intro _ _) | ((with_reducible (first | refine w5 ?_ ?_ | refine w6 ?_ ?_ | refine w7 ?_ ?_)); simp; refine ⟨_, rfl, ?_⟩) | ((with_reducible (first | refine w8 ?_ ?_ ?_ | refine w9 ?_ ?_ ?_ | refine w10 ?_ ?_ ?_)); exact rfl; simp) | ((with_reducible refine w12 ?_ ?_ ?_ fun _ _ => ?_); simp; simp; simp [oneC]) | ((with_reducible (first | refine eqs ?_ | refine nes ?_)); refine ⟨_, rfl, ?_⟩) | ((refine okF_i (bldP_eq rfl) ?_); try simp only [BLS, List.take_succ_cons, List.take_zero, List.drop_succ_cons, List.drop_zero, List.cons_append, List.nil_append, Nat.reduceAdd])) | simp -implicitDefEqProofs only [EN, lsub, lget, stL, beq_self_eq_true, ne_eq, if_true, if_false, List.cons_append, List.nil_append, Option.isNone_some, Option.isNone_none, ed, ew]))
      refine hK () _ hit ⟨fun j hj hji => ?_, (by first | assumption | exact St.tick (by assumption) | exact St.tick (St.tick (by assumption)))⟩
      by_cases e : j = i
      · subst e; exact hd
      · exact hlt j hj (by omega)
    | false =>
      have ed : dlt ⟨l[i].rep, l[i].n⟩ ⟨d.rep, d.n⟩ = false := hd
      (repeat (first | (first | (with_reducible (first | refine w1 fun _ _ => ?_ | refine w3 fun _ _ _ => ?_ | refine w4 fun _ _ _ => ?_ | refine w11 fun _ _ _ => ?_ | refine stb_n ?_)) | ((with_reducible refine w2 ?_); try simp -implicitDefEqProofs only [EN, lsub, lget, stL, beq_self_eq_true, ne_eq, if_true, if_false, List.cons_append, List.nil_append, Option.isNone_some, Option.isNone_none, ed]; intro _ _) | ((with_reducible (first | refine w5 ?_ ?_ | refine w6 ?_ ?_ | refine w7 ?_ ?_)); simp; refine ⟨_, rfl, ?_⟩) | ((with_reducible (first | refine w8 ?_ ?_ ?_ | refine w9 ?_ ?_ ?_ | refine w10 ?_ ?_ ?_)); exact rfl; simp) | ((with_reducible refine w12 ?_ ?_ ?_ fun _ _ => ?_); simp; simp; simp [oneC]) | ((with_reducible (first | refine eqs ?_ | refine nes ?_)); refine ⟨_, rfl, ?_⟩) | ((refine okF_i (bldP_eq rfl) ?_); try simp only [BLS, List.take_succ_cons, List.take_zero, List.drop_succ_cons, List.drop_zero, List.cons_append, List.nil_append, Nat.reduceAdd])) | simp -implicitDefEqProofs only [EN, lsub, lget, stL, beq_self_eq_true, ne_eq, if_true, if_false, List.cons_append, List.nil_append, Option.isNone_some, Option.isNone_none, ed]))
      exact hJ1 i _ hi hlt (fun _ => hd) (by first | assumption | exact St.tick (by assumption) | exact St.tick (St.tick (by assumption)))
  · have f0 : decide ((i : Int) < (l.length : Int)) = false := decide_eq_false (by omega)
    (repeat (first | (first | (with_reducible (first | refine w1 fun _ _ => ?_ | refine w3 fun _ _ _ => ?_ | refine w4 fun _ _ _ => ?_ | refine w11 fun _ _ _ => ?_ | refine stb_n ?_)) | ((with_reducible refine w2 ?_); try simp -implicitDefEqProofs only [EN, lsub, lget, stL, beq_self_eq_true, ne_eq, if_true, if_false, List.cons_append, List.nil_append, Option.isNone_some, Option.isNone_none, f0]; intro _ _) | ((with_reducible (first | refine w5 ?_ ?_ | refine w6 ?_ ?_ | refine w7 ?_ ?_)); simp; refine ⟨_, rfl, ?_⟩) | ((with_reducible (first | refine w8 ?_ ?_ ?_ | refine w9 ?_ ?_ ?_ | refine w10 ?_ ?_ ?_)); exact rfl; simp) | ((with_reducible refine w12 ?_ ?_ ?_ fun _ _ => ?_); simp; simp; simp [oneC]) | ((with_reducible (first | refine eqs ?_ | refine nes ?_)); refine ⟨_, rfl, ?_⟩) | ((refine okF_i (bldP_eq rfl) ?_); try simp only [BLS, List.take_succ_cons, List.take_zero, List.drop_succ_cons, List.drop_zero, List.cons_append, List.nil_append, Nat.reduceAdd])) | simp -implicitDefEqProofs only [EN, lsub, lget, stL, beq_self_eq_true, ne_eq, if_true, if_false, List.cons_append, List.nil_append, Option.isNone_some, Option.isNone_none, f0]))
    exact hJ1 i _ hi hlt (fun h => absurd h hit) (by first | assumption | exact St.tick (by assumption) | exact St.tick (St.tick (by assumption)))
end
end Go.Proofs.Ytmojfpaagokckaa
