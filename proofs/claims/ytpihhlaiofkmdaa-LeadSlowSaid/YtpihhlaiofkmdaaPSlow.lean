/- LeadSlow, plainly: the turns. -/
import Derived.Test.YtpihhlaiofkmdaaPFast
import Derived.Test.YtpihhlaiofkmdaaPNoop
namespace Go.Proofs.Ytpihhlaiofkmdaa
set_option linter.unusedVariables false
set_option linter.unusedSimpArgs false
open Go Go.Eng

section
variable (n rep : Int) (k : Nat) (s : Int) (v : P7 Int) (ap : Bool)
def sd : Dot := ⟨rep, 1⟩
def srk : Rec Bs := ⟨1, [120], s, v, (0, rep), (0, rep)⟩
def sfr : Rec Bs := srk rep 0 (P7.all 0)
def sr2 : Rec Bs := ⟨2, [120], s, v, (0, rep), (0, rep)⟩
def smk (kind : Int) : Msg Bs := ⟨kind, sd rep, (0, rep), [120], s, v⟩
def sR (j : Nat) : Rec Bs := if j = k then srk rep s v else sfr rep
def s1 (S : P7 Bool) : LD := ⟨n, rep, smk rep 0 (P7.all 0) 1, 1, false, ap && S.get k, P7.of fun j => if S.get j then some (sR rep k s v j) else none, sfr rep⟩
def s2 (S : P7 Bool) : LD := ⟨n, rep, smk rep s v 2, 2, false, false, nsel (sr2 rep s v) S, sr2 rep s v⟩
def sP3 (l : LD) (T : Tbl) : Prop := l.phase = 3 ∧ l.fast = !ap ∧ (trec T (sd rep)).st = 3 ∧ (trec T (sd rep)).cmd = [120] ∧ (trec T (sd rep)).deps = v
structure SIn : Prop where
  n3 : 3 ≤ n
  n7 : n ≤ 7
  r0 : 0 ≤ rep
  rn : rep < n
  kr : (k : Int) ≠ rep
  kn : (k : Int) < n
  s0 : 0 ≤ s
  s1 : s ≤ 100
  vo : depsOk v = true
  apf : ap = false → s = 0 ∧ v = P7.all 0
  apt : ap = true → s ≠ 0
variable {n rep k s v ap}
theorem depsOk_get {v : P7 Int} (h : depsOk v = true) {j : Nat} (hj : j < 7) : 0 ≤ v.get j ∧ v.get j ≤ 1000 := by
  have := List.all_eq_true.1 h _ (get7_mem v hj)
  simpa using this
theorem imax0 {a : Int} (h : 0 ≤ a) : imax 0 a = a := by unfold imax; split <;> omega
theorem imax_self (a : Int) : imax a a = a := by unfold imax; split <;> omega
theorem imax_0 {a : Int} (h : 0 ≤ a) : imax a 0 = a := by unfold imax; split <;> omega
theorem vm0 {v : P7 Int} (h : depsOk v = true) : vmerge (P7.all 0) v = v := P7.ext7 fun j hj => by
  unfold vmerge; rw [P7.get_zip, P7.get_all]; exact imax0 (depsOk_get h hj).1
theorem vm_0 {v : P7 Int} (h : depsOk v = true) : vmerge v (P7.all 0) = v := P7.ext7 fun j hj => by
  unfold vmerge; rw [P7.get_zip, P7.get_all]; exact imax_0 (depsOk_get h hj).1
theorem vm_self (v : P7 Int) : vmerge v v = v := P7.ext7 fun j hj => by
  unfold vmerge; rw [P7.get_zip]; exact imax_self _
theorem deps0 : depsOk (P7.all 0) = true := by decide
theorem s_may (h : SIn n rep k s v ap) {kd : Int} (hk : 1 ≤ kd ∧ kd ≤ 3) {s' : Int} {v' : P7 Int} (hs : 0 ≤ s' ∧ s' ≤ 100) (hv : depsOk v' = true) : (smk rep s' v' kd).may = true := by
  obtain ⟨h1, h2, h3, h4, h5, h6, h7⟩ := h
  unfold Msg.may Dot.okI goodB contentOk smk sd
  simp only [hv, Bool.true_and, Bool.and_eq_true, decide_eq_true_eq, Bool.or_eq_true]
  refine ⟨⟨⟨⟨by omega, by omega⟩, by omega⟩, by omega, by omega, by simp⟩, .inl (by omega)⟩
theorem cmp_ge (h0 : 0 ≤ rep) : ¬ cmpB 0 rep 0 0 < 0 := by
  intro h1
  have e : cmpB 0 rep 0 0 = cmpI rep 0 := by
    unfold cmpB orI
    rw [show cmpI 0 0 = 0 from rfl, if_neg (by simp)]
    unfold orI
    split
    · rfl
    · rename_i h; simp at h; rw [h]; rfl
  rw [e] at h1
  unfold cmpI at h1
  rw [if_neg (by omega)] at h1
  split at h1 <;> omega
theorem cmp_sf : ¬ cmpB 0 rep 0 rep < 0 := by have := cmp_self (0, rep); simp only at this; omega
theorem trec_mput (T : Tbl) (d : Dot) (r : Rec Bs) : trec (mput T d r) d = r := by unfold trec; rw [mget_mput, if_pos rfl]; rfl
def wj (k : Nat) (s : Int) (v : P7 Int) (j : Nat) : Int × P7 Int := if j = k then (s, v) else (0, P7.all 0)
theorem s_do1 (h : SIn n rep k s v ap) {U : Tbl} {j : Nat} (hU : (trec U (sd rep) = recZ ∧ would U (sd rep) = wj k s v j) ∨ trec U (sd rep) = sR rep k s v j) :
    (tdo U (smk rep 0 (P7.all 0) 1)).2.1 = ⟨true, (0, rep), sR rep k s v j⟩ ∧ trec (tdo U (smk rep 0 (P7.all 0) 1)).1 (sd rep) = sR rep k s v j := by
  unfold tdo
  rw [if_neg (by rw [s_may h (by omega) (by omega) deps0]; simp)]
  rw [show (smk rep 0 (P7.all 0) 1).dot = sd rep from rfl]
  rcases hU with ⟨hU, hw⟩ | hU
  · rw [hU]
    have ho : old (smk rep 0 (P7.all 0) 1) recZ = none := by
      refine old_n (show ¬ (0 : Int) = 3 by decide) (show ¬ (1 : Int) = 3 by decide) ?_ (fun h => absurd (show (0 : Int) = 1 from h.2.1) (by decide))
      rintro (h1 | h1)
      · exact cmp_ge h.r0 h1
      · exact absurd (show (0 : Int) = 2 from h1.2) (by decide)
    rw [ho]
    have hp : putRec U (smk rep 0 (P7.all 0) 1) recZ = sR rep k s v j := by
      unfold putRec
      rw [if_pos (show (smk rep 0 (P7.all 0) 1).kind = 1 from rfl), show (smk rep 0 (P7.all 0) 1).dot = sd rep from rfl, hw]
      unfold wj sR
      by_cases hj : j = k
      · rw [if_pos hj, if_pos hj]
        show (⟨1, [120], imax 0 s, vmerge (P7.all 0) v, (0, rep), (0, rep)⟩ : Rec Bs) = _
        rw [imax0 h.s0, vm0 h.vo]; rfl
      · rw [if_neg hj, if_neg hj]; rfl
    simp only [hp, trec_mput, and_true]
    unfold sR; split <;> rfl
  · rw [hU]
    have ho : old (smk rep 0 (P7.all 0) 1) (sR rep k s v j) = some true := by
      unfold sR
      split
      all_goals
        refine old_t (show ¬ (1 : Int) = 3 by decide) (show ¬ (1 : Int) = 3 by decide) ?_ ⟨rfl, rfl, rfl⟩
        rintro (h1 | h1)
        · exact cmp_sf h1
        · exact absurd (show (1 : Int) = 2 from h1.2) (by decide)
    rw [ho]
    refine ⟨?_, hU⟩
    show (⟨true, (sR rep k s v j).bal, sR rep k s v j⟩ : Ans Bs) = _
    congr 1
    unfold sR; split <;> rfl
theorem s_do2 (h : SIn n rep k s v ap) {U : Tbl} (h3 : (trec U (sd rep)).st ≠ 3) (hb : (trec U (sd rep)).bal = (0, 0) ∨ (trec U (sd rep)).bal = (0, rep)) :
    tdo U (smk rep s v 2) = (mput U (sd rep) (sr2 rep s v), ⟨true, (0, rep), sr2 rep s v⟩, 0) := by
  unfold tdo
  rw [if_neg (by rw [s_may h (by omega) ⟨h.s0, h.s1⟩ h.vo]; simp)]
  rw [show (smk rep s v 2).dot = sd rep from rfl]
  have ho : old (smk rep s v 2) (trec U (sd rep)) = none := by
    refine old_n h3 (show ¬ (2 : Int) = 3 by decide) ?_ (fun h => absurd (show (2 : Int) = 1 from h.1) (by decide))
    rintro (h1 | h1)
    · rcases hb with hb | hb
      · rw [hb] at h1; exact cmp_ge h.r0 h1
      · rw [hb] at h1; exact cmp_sf h1
    · exact absurd (show (2 : Int) = 1 from h1.1) (by decide)
  rw [ho]
  rfl
theorem s_do3 (h : SIn n rep k s v ap) {U : Tbl} (h3 : (trec U (sd rep)).st ≠ 3) {s' : Int} {v' : P7 Int} (hs : 0 ≤ s' ∧ s' ≤ 100) (hv : depsOk v' = true) :
    (trec (tdo U (smk rep s' v' 3)).1 (sd rep)).st = 3 ∧ (trec (tdo U (smk rep s' v' 3)).1 (sd rep)).cmd = [120] ∧ (trec (tdo U (smk rep s' v' 3)).1 (sd rep)).deps = v' := by
  unfold tdo
  rw [if_neg (by rw [s_may h (by omega) hs hv]; simp)]
  rw [show (smk rep s' v' 3).dot = sd rep from rfl, old_c h3 rfl]
  simp only [trec_mput]
  exact ⟨rfl, rfl, rfl⟩
theorem cnt_of (f : Nat → Rec Bs) (S : P7 Bool) : cnt (P7.of fun j => if S.get j then some (f j) else none).list = cntB S := by
  have e : ∀ l : List (Option (Rec Bs)), cnt l = (((l.map Option.isSome).filter id).length : Int) := fun l => by
    unfold cnt; rw [List.filter_map, List.length_map]; rfl
  rw [e]
  unfold cntB
  congr 3
  have hi : ∀ (b : Bool) (x : Rec Bs), (if b then some x else none).isSome = b := fun b x => by cases b <;> rfl
  simp only [P7.of, P7.list, List.map_cons, List.map_nil, hi]
  rfl
def accOk (rep s : Int) (v : P7 Int) (o : Option (Rec Bs)) : Prop := o = none ∨ o = some (sfr rep) ∨ o = some (srk rep s v)
theorem acc_stay (h : SIn n rep k s v ap) : ∀ (l : List (Option (Rec Bs))), (∀ o ∈ l, accOk rep s v o) → l.foldl accStep (smk rep s v 2) = smk rep s v 2 := by
  intro l
  induction l with
  | nil => intro _; rfl
  | cons o l ih =>
    intro hl
    rw [List.foldl_cons]
    have e : accStep (smk rep s v 2) o = smk rep s v 2 := by
      rcases hl o (by simp) with rfl | rfl | rfl
      · rfl
      · show (⟨2, sd rep, (0, rep), [120], imax s 0, vmerge v (P7.all 0)⟩ : Msg Bs) = _
        rw [imax_0 h.s0, vm_0 h.vo]; rfl
      · show (⟨2, sd rep, (0, rep), [120], imax s s, vmerge v v⟩ : Msg Bs) = _
        rw [imax_self, vm_self]; rfl
    rw [e]
    exact ih fun o ho => hl o (List.mem_cons_of_mem _ ho)
theorem acc_go (h : SIn n rep k s v ap) : ∀ (l : List (Option (Rec Bs))), (∀ o ∈ l, accOk rep s v o) → some (srk rep s v) ∈ l → l.foldl accStep (smk rep 0 (P7.all 0) 2) = smk rep s v 2 := by
  intro l
  induction l with
  | nil => intro _ h; cases h
  | cons o l ih =>
    intro hl hm
    rw [List.foldl_cons]
    have hl' : ∀ o ∈ l, accOk rep s v o := fun o ho => hl o (List.mem_cons_of_mem _ ho)
    by_cases ho : o = some (srk rep s v)
    · subst ho
      have e : accStep (smk rep 0 (P7.all 0) 2) (some (srk rep s v)) = smk rep s v 2 := by
        show (⟨2, sd rep, (0, rep), [120], imax 0 s, vmerge (P7.all 0) v⟩ : Msg Bs) = _
        rw [imax0 h.s0, vm0 h.vo]; rfl
      rw [e]
      exact acc_stay h l hl'
    · have hm' : some (srk rep s v) ∈ l := by
        rcases List.mem_cons.1 hm with h1 | h1
        · exact absurd h1.symm ho
        · exact h1
      have e : accStep (smk rep 0 (P7.all 0) 2) o = smk rep 0 (P7.all 0) 2 := by
        rcases hl o (by simp) with rfl | rfl | h1
        · rfl
        · rfl
        · exact absurd h1 ho
      rw [e]
      exact ih hl' hm'
end

section
variable {n rep : Int} {k : Nat} {s : Int} {v : P7 Int} {ap : Bool}
theorem s_n1 {l : LD} {i : Nat} (hp : l.phase = 1 ∨ l.phase = 2) (hn : l.n = n) (hr : l.rep = rep) (hi : (i : Int) < n) (hir : (i : Int) ≠ rep) (hs : (l.recs.get i).isSome = false) :
    ¬ (l.phase = 3 ∨ l.phase = 5 ∨ (i : Int) < 0 ∨ l.n ≤ i ∨ (i : Int) = l.rep ∨ (l.recs.get (i : Int).toNat).isSome = true) := by
  subst hn hr
  rintro (h | h | h | h | h | h)
  · omega
  · omega
  · omega
  · omega
  · exact hir h
  · rw [Int.toNat_natCast, hs] at h; cases h
theorem s1_set (h : SIn n rep k s v ap) {S : P7 Bool} {j : Nat} (hj : (j : Int) < n) (hs : S.get j = false) (hk : S.get k = true ∨ j = k) :
    (⟨n, rep, smk rep 0 (P7.all 0) 1, 1, false, (ap && S.get k) || decide ((sR rep k s v j).seq ≠ 0) || decide ((sR rep k s v j).deps ≠ P7.all 0), (P7.of fun j => if S.get j then some (sR rep k s v j) else none).set j (some (sR rep k s v j)), sfr rep⟩ : LD) = s1 n rep k s v ap (S.set j true) := by
  have h7 := h.n7
  have hkn := h.kn
  unfold s1
  congr 1
  · rw [P7.get_set _ _ _ _ (by omega)]
    unfold sR
    by_cases hjk : j = k
    · subst hjk
      rw [hs, if_pos rfl, if_pos rfl]
      cases ap with
      | true => simp [srk, h.apt rfl]
      | false => obtain ⟨rfl, rfl⟩ := h.apf rfl; simp [srk]
    · rw [if_neg hjk, if_neg (Ne.symm hjk)]
      simp [sfr, srk]
  · refine P7.ext7 fun i hi => ?_
    rw [P7.get_set _ _ _ _ hi, P7.get_of _ hi, P7.get_of _ hi, P7.get_set _ _ _ _ hi]
    by_cases hij : i = j
    · subst hij; rw [if_pos rfl, if_pos rfl]; rfl
    · rw [if_neg hij, if_neg hij]
theorem s1_fits (h : SIn n rep k s v ap) (S : P7 Bool) (j : Nat) : (s1 n rep k s v ap S).fits (sR rep k s v j) = true := by
  unfold LD.fits sR
  rw [if_pos (show (s1 n rep k s v ap S).phase = 1 from rfl)]
  split <;> simp [srk, sfr, s1, smk]
theorem s1_acc (h : SIn n rep k s v ap) {S : P7 Bool} (hk : S.get k = true) :
    (s1 n rep k s v ap S).accept [(sd rep, sfr rep)] = (s2 n rep s v (only rep), [(sd rep, sr2 rep s v)]) := by
  have h7 := h.n7
  have hkn := h.kn
  unfold LD.accept
  have hf : (s1 n rep k s v ap S).recs.list.foldl accStep { (s1 n rep k s v ap S).m with kind := 2 } = smk rep s v 2 := by
    show (s1 n rep k s v ap S).recs.list.foldl accStep (smk rep 0 (P7.all 0) 2) = _
    refine acc_go h _ ?_ ?_
    · have hx : ∀ (b : Bool) j, accOk rep s v (if b then some (sR rep k s v j) else none) := fun b j => by
        cases b with
        | false => exact .inl rfl
        | true =>
          unfold sR accOk
          by_cases hj : j = k
          · rw [if_pos hj]; exact .inr (.inr rfl)
          · rw [if_neg hj]; exact .inr (.inl rfl)
      intro o ho
      simp only [s1, P7.of, P7.list, List.mem_cons, List.not_mem_nil, or_false] at ho
      rcases ho with rfl | rfl | rfl | rfl | rfl | rfl | rfl <;> exact hx _ _
    · have := get7_mem (s1 n rep k s v ap S).recs (i := k) (by omega)
      rw [show (s1 n rep k s v ap S).recs = (P7.of fun j => if S.get j then some (sR rep k s v j) else none) from rfl, P7.get_of _ (by omega), hk] at this
      have e : sR rep k s v k = srk rep s v := by unfold sR; rw [if_pos rfl]
      rw [e] at this
      exact this
  rw [hf]
  have ht : trec [(sd rep, sfr rep)] (sd rep) = sfr rep := trec1 _ _
  have hd := s_do2 (U := [(sd rep, sfr rep)]) h (by rw [ht]; exact (show ¬ (1 : Int) = 3 by decide)) (by rw [ht]; exact .inr rfl)
  have hb := LD.begin_t (l := s1 n rep k s v ap S) (T := [(sd rep, sfr rep)]) (ph := 2) (congrArg (fun x => x.2.1) hd) (show ¬ (2 : Int) = 3 by decide) rfl
  rw [hb, hd]
  refine Prod.ext ?_ ?_
  · show (⟨n, rep, smk rep s v 2, 2, false, false, (P7.all none).set rep.toNat (some (sr2 rep s v)), sr2 rep s v⟩ : LD) = _
    rw [nsel_only]; rfl
  · simp [mput]
theorem s1_got (h : SIn n rep k s v ap) {S : P7 Bool} {j : Nat} (hj : (j : Int) < n) (hr : (j : Int) ≠ rep) (hs : S.get j = false) (hk : S.get k = true ∨ j = k) :
    (s1 n rep k s v ap S).got [(sd rep, sfr rep)] j ⟨true, (0, rep), sR rep k s v j⟩ =
      ((if ap = true then (if n.tdiv 2 + 1 ≤ cntB (S.set j true) then (s2 n rep s v (only rep), [(sd rep, sr2 rep s v)]) else (s1 n rep k s v ap (S.set j true), [(sd rep, sfr rep)]))
        else (if cntB (S.set j true) = n then (s1 n rep k s v ap (S.set j true)).dec [(sd rep, sfr rep)] (sfr rep) true else (s1 n rep k s v ap (S.set j true), [(sd rep, sfr rep)]))), true) := by
  have h7 := h.n7
  have hkn := h.kn
  have n1 := s_n1 (l := s1 n rep k s v ap S) (.inl rfl) rfl rfl hj hr (by show ((P7.of fun j => if S.get j then some (sR rep k s v j) else none).get j).isSome = false; rw [P7.get_of _ (by omega), hs]; rfl)
  have hst : (sR rep k s v j).st = 1 := by unfold sR; split <;> rfl
  unfold LD.got
  rw [if_neg n1, if_neg (by
    rintro ⟨_, h1 | h1⟩
    · exact h1 rfl
    · rw [s1_fits h] at h1; cases h1), if_neg (by show ¬ (sR rep k s v j).st = 3; rw [hst]; decide), if_neg (by simp)]
  rw [if_pos (show (s1 n rep k s v ap S).phase = 1 from rfl)]
  congr 1
  have hl := s1_set h hj hs hk
  have hkS : (S.set j true).get k = true := by
    rw [P7.get_set _ _ _ _ (by omega)]
    rcases hk with hk | hk
    · rw [hk]; split <;> rfl
    · rw [if_pos hk.symm]
  show LD.heard (⟨n, rep, smk rep 0 (P7.all 0) 1, 1, false, (ap && S.get k) || decide ((sR rep k s v j).seq ≠ 0) || decide ((sR rep k s v j).deps ≠ P7.all 0), (P7.of fun j => if S.get j then some (sR rep k s v j) else none).set (j : Int).toNat (some (sR rep k s v j)), sfr rep⟩ : LD) _ = _
  rw [Int.toNat_natCast, hl]
  have hc : (s1 n rep k s v ap (S.set j true)).count = cntB (S.set j true) := cnt_of _ _
  have ha : (s1 n rep k s v ap (S.set j true)).apart = ap := by show (ap && (S.set j true).get k) = ap; rw [hkS]; simp
  have hm : (s1 n rep k s v ap (S.set j true)).maj = decide (n.tdiv 2 + 1 ≤ cntB (S.set j true)) := by unfold LD.maj; rw [hc]; rfl
  unfold LD.heard
  rw [hc, ha, hm]
  cases ap with
  | true =>
    rw [if_neg (by rintro ⟨_, h, _⟩; cases h), if_pos rfl]
    by_cases hcc : n.tdiv 2 + 1 ≤ cntB (S.set j true)
    · rw [if_pos ⟨by simpa using hcc, .inl rfl⟩, if_pos hcc, s1_acc h hkS]
    · rw [if_neg (by rintro ⟨h1, _⟩; exact hcc (by simpa using h1)), if_neg hcc]
  | false =>
    rw [if_neg (show ¬ (false = true) by simp)]
    by_cases hcc : cntB (S.set j true) = n
    · rw [if_pos ⟨hcc, rfl, rfl⟩, if_pos hcc]; rfl
    · rw [if_neg (by rintro ⟨h1, _⟩; exact hcc h1), if_neg hcc, if_neg]
      rintro ⟨_, h1 | h1⟩
      · cases h1
      · exact absurd (show (0 : Int) < 0 from h1) (by decide)
theorem s2_got (h : SIn n rep k s v ap) {S : P7 Bool} {j : Nat} (hj : (j : Int) < n) (hr : (j : Int) ≠ rep) (hs : S.get j = false) :
    (s2 n rep s v S).got [(sd rep, sr2 rep s v)] j ⟨true, (0, rep), sr2 rep s v⟩ =
      ((if n.tdiv 2 + 1 ≤ cntB (S.set j true) then (s2 n rep s v (S.set j true)).dec [(sd rep, sr2 rep s v)] ⟨0, [120], s, v, (0, 0), (0, 0)⟩ false else (s2 n rep s v (S.set j true), [(sd rep, sr2 rep s v)])), true) := by
  have h7 := h.n7
  have n1 := s_n1 (l := s2 n rep s v S) (.inr rfl) rfl rfl hj hr (by show ((nsel (sr2 rep s v) S).get j).isSome = false; rw [nsel_get, hs])
  unfold LD.got
  rw [if_neg n1, if_neg (by rintro ⟨_, h | h⟩; exact h rfl; unfold LD.fits at h; simp [s2, sr2, smk] at h), if_neg (show ¬ (sr2 rep s v).st = 3 from (show ¬ (2 : Int) = 3 by decide)), if_neg (by simp)]
  rw [if_neg (show ¬ (s2 n rep s v S).phase = 1 from (show ¬ (2 : Int) = 1 by decide)), if_pos (show (s2 n rep s v S).phase = 2 from rfl)]
  congr 1
  have hl : ({ s2 n rep s v S with recs := (s2 n rep s v S).recs.set (j : Int).toNat (some (sr2 rep s v)) } : LD) = s2 n rep s v (S.set j true) := by
    rw [Int.toNat_natCast]; exact congrArg (fun R => (⟨n, rep, smk rep s v 2, 2, false, false, R, sr2 rep s v⟩ : LD)) (nsel_set (sr2 rep s v) S j)
  simp only
  rw [hl]
  have hm : (s2 n rep s v (S.set j true)).maj = decide (n.tdiv 2 + 1 ≤ cntB (S.set j true)) := by unfold LD.maj LD.count; rw [show (s2 n rep s v (S.set j true)).recs = nsel (sr2 rep s v) (S.set j true) from rfl, nsel_cnt]; rfl
  rw [hm]
  by_cases hc : n.tdiv 2 + 1 ≤ cntB (S.set j true)
  · rw [if_pos hc, if_pos (by simpa using hc)]
    rfl
  · rw [if_neg hc, if_neg (by simpa using hc)]
/-- the course of it -/
def sstep (n : Int) (rep : Nat) (ap : Bool) (x : Int × P7 Bool) (i : Nat) : Int × P7 Bool :=
  if i = rep then x
  else if x.1 = 3 then x
  else if x.2.get i = true then x
  else if x.1 = 1 then
    (if ap = true then (if n.tdiv 2 + 1 ≤ cntB (x.2.set i true) then (2, P7.of fun j => decide (j = rep)) else (1, x.2.set i true))
      else (if cntB (x.2.set i true) = n then (3, x.2.set i true) else (1, x.2.set i true)))
  else if n.tdiv 2 + 1 ≤ cntB (x.2.set i true) then (3, x.2.set i true) else (2, x.2.set i true)
def sst0 (rep : Nat) : Int × P7 Bool := (1, P7.of fun j => decide (j = rep))
def sord (n rep : Nat) (i : Nat) : Nat := (rep + 1 + i) % n
def sturn (n rep : Nat) (ap : Bool) : Nat → Int × P7 Bool
  | 0 => sst0 rep
  | t + 1 => ((List.range n).map (sord n rep)).foldl (sstep n rep ap) (sturn n rep ap t)
theorem sturn_all : ∀ ap, ∀ n, n < 8 → 3 ≤ n → ∀ rep, rep < n → (sturn n rep ap 3).1 = 3 := by decide
structure SX (rep : Int) (x : Int × P7 Bool) : Prop where
  ph : x.1 = 1 ∨ x.1 = 2 ∨ x.1 = 3
  rp : x.2.get rep.toNat = true
def SG (n rep : Int) (k : Nat) (s : Int) (v : P7 Int) (ap : Bool) (x : Int × P7 Bool) (l : LD) (T : Tbl) : Prop :=
  (x.1 = 1 → l = s1 n rep k s v ap x.2 ∧ T = [(sd rep, sfr rep)]) ∧ (x.1 = 2 → l = s2 n rep s v x.2 ∧ T = [(sd rep, sr2 rep s v)] ∧ ap = true) ∧ (x.1 = 3 → sP3 rep v ap l T)
def sU (rep : Int) (k : Nat) (s : Int) (v : P7 Int) (x : Int × P7 Bool) (j : Nat) (U : Tbl) : Prop :=
  (x.1 = 1 → (trec U (sd rep) = recZ ∧ would U (sd rep) = wj k s v j) ∨ trec U (sd rep) = sR rep k s v j) ∧
  (x.1 = 2 → trec U (sd rep) = recZ ∨ trec U (sd rep) = sR rep k s v j ∨ trec U (sd rep) = sr2 rep s v)
theorem sU_12 {x y : Int × P7 Bool} {i : Nat} {V : Tbl} (h1 : x.1 = 1) (h2 : y.1 = 2) (h : sU rep k s v x i V) : sU rep k s v y i V := by
  refine ⟨fun h => by omega, fun _ => ?_⟩
  rcases h.1 h1 with h | h
  · exact .inl h.1
  · exact .inr (.inl h)
theorem sU_3 {y : Int × P7 Bool} {i : Nat} {V : Tbl} (h2 : y.1 = 3) : sU rep k s v y i V := ⟨fun h => by omega, fun h => by omega⟩
theorem sU_same {x y : Int × P7 Bool} {i : Nat} {V : Tbl} (h1 : x.1 = y.1) (h : sU rep k s v x i V) : sU rep k s v y i V := ⟨fun e => h.1 (h1.trans e), fun e => h.2 (h1.trans e)⟩
theorem sstep_rep {x : Int × P7 Bool} {i : Nat} (hrep : (i : Int) = rep) : sstep n rep.toNat ap x i = x := by
  unfold sstep; rw [if_pos (by omega)]
theorem s_step (h : SIn n rep k s v ap) {x : Int × P7 Bool} {l : LD} {T : Tbl} (hx : SX rep x) (hg : SG n rep k s v ap x l T) {j : Nat} (hj : (j : Int) < n) (hr : (j : Int) ≠ rep)
    (hk : x.1 = 1 → x.2.get k = true ∨ j = k) {U : Tbl} (hU : sU rep k s v x j U) :
    SG n rep k s v ap (sstep n rep.toNat ap x j) (l.got T j (tdo U l.msg).2.1).1.1 (l.got T j (tdo U l.msg).2.1).1.2 ∧ SX rep (sstep n rep.toNat ap x j) ∧ sU rep k s v (sstep n rep.toNat ap x j) j (tdo U l.msg).1 ∧
    (∀ i V, sU rep k s v x i V → sU rep k s v (sstep n rep.toNat ap x j) i V) ∧ ((sstep n rep.toNat ap x j).1 = 1 → (sstep n rep.toNat ap x j).2.get k = true) := by
  have h7 := h.n7
  have hr0 := h.r0
  have hrn := h.rn
  have hkn := h.kn
  have hir : ¬ j = rep.toNat := by omega
  obtain ⟨p, S⟩ := x
  obtain ⟨hph, hrp⟩ := hx
  simp only at hph hrp hk
  have hset : ∀ (S : P7 Bool) i, i < 7 → S.get i = true → (S.set j true).get i = true := fun S i hi hS => by
    rw [P7.get_set _ _ _ _ hi]; split
    · rfl
    · exact hS
  have hset' : ∀ (S : P7 Bool), (S.set j true).get j = true := fun S => by rw [P7.get_set _ _ _ _ (by omega), if_pos rfl]
  have honly : (P7.of fun j => decide (j = rep.toNat)).get rep.toNat = true := by rw [P7.get_of _ (by omega)]; simp
  rcases hph with rfl | rfl | rfl
  · obtain ⟨rfl, rfl⟩ := hg.1 rfl
    have hm : (s1 n rep k s v ap S).msg = smk rep 0 (P7.all 0) 1 := rfl
    obtain ⟨hd1, hd2⟩ := s_do1 h (hU.1 rfl)
    rw [hm, hd1]
    have hU1 : ∀ y : Int × P7 Bool, y.1 = 1 ∨ y.1 = 2 ∨ y.1 = 3 → sU rep k s v y j (tdo U (smk rep 0 (P7.all 0) 1)).1 := fun y hy => ⟨fun _ => .inr hd2, fun _ => .inr (.inl hd2)⟩
    cases hs : S.get j with
    | true =>
      have e : sstep n rep.toNat ap (1, S) j = (1, S) := by unfold sstep; rw [if_neg hir, if_neg (by simp), if_pos hs]
      have hsk : S.get k = true := by
        rcases hk rfl with h1 | h1
        · exact h1
        · rw [← h1]; exact hs
      rw [e, got_id (.inr (by show ((P7.of fun j => if S.get j then some (sR rep k s v j) else none).get (j : Int).toNat).isSome = true; rw [Int.toNat_natCast, P7.get_of _ (by omega), hs]; rfl))]
      exact ⟨hg, ⟨.inl rfl, hrp⟩, hU1 _ (.inl rfl), fun i V hV => hV, fun _ => hsk⟩
    | false =>
      have hsk : (S.set j true).get k = true := by
        rcases hk rfl with h1 | h1
        · exact hset S k (by omega) h1
        · rw [← h1]; exact hset' S
      rw [s1_got h hj hr hs (hk rfl)]
      have e0 : sstep n rep.toNat ap (1, S) j = (if ap = true then (if n.tdiv 2 + 1 ≤ cntB (S.set j true) then (2, P7.of fun j => decide (j = rep.toNat)) else (1, S.set j true))
          else (if cntB (S.set j true) = n then (3, S.set j true) else (1, S.set j true))) := by
        unfold sstep; rw [if_neg hir, if_neg (by simp), if_neg (by simp [hs]), if_pos rfl]
      rw [e0]
      by_cases ha : ap = true
      · rw [if_pos ha, if_pos ha]
        by_cases hc : n.tdiv 2 + 1 ≤ cntB (S.set j true)
        · rw [if_pos hc, if_pos hc]
          exact ⟨⟨fun h => by simp at h, fun _ => ⟨rfl, rfl, ha⟩, fun h => by simp at h⟩, ⟨.inr (.inl rfl), honly⟩, hU1 _ (.inr (.inl rfl)), fun i V hV => sU_12 rfl rfl hV, fun h => by simp at h⟩
        · rw [if_neg hc, if_neg hc]
          exact ⟨⟨fun _ => ⟨rfl, rfl⟩, fun h => by simp at h, fun h => by simp at h⟩, ⟨.inl rfl, hset _ _ (by omega) hrp⟩, hU1 _ (.inl rfl), fun i V hV => sU_same rfl hV, fun _ => hsk⟩
      · rw [if_neg ha, if_neg ha]
        by_cases hc : cntB (S.set j true) = n
        · rw [if_pos hc, if_pos hc]
          have ha' : ap = false := by simpa using ha
          refine ⟨⟨fun h => by simp at h, fun h => by simp at h, fun _ => ?_⟩, ⟨.inr (.inr rfl), hset _ _ (by omega) hrp⟩, sU_3 rfl, fun i V hV => sU_3 rfl, fun h => by simp at h⟩
          obtain ⟨r1, r2, r3⟩ := s_do3 (U := [(sd rep, sfr rep)]) h (by rw [trec1]; exact (show ¬ (1 : Int) = 3 by decide)) (s' := 0) (v' := P7.all 0) (by omega) deps0
          refine ⟨rfl, ?_, r1, r2, r3.trans (h.apf ha').2.symm⟩
          rw [ha']; rfl
        · rw [if_neg hc, if_neg hc]
          exact ⟨⟨fun _ => ⟨rfl, rfl⟩, fun h => by simp at h, fun h => by simp at h⟩, ⟨.inl rfl, hset _ _ (by omega) hrp⟩, hU1 _ (.inl rfl), fun i V hV => sU_same rfl hV, fun _ => hsk⟩
  · obtain ⟨rfl, rfl, hap⟩ := hg.2.1 rfl
    have hm : (s2 n rep s v S).msg = smk rep s v 2 := rfl
    have hA := hU.2 rfl
    have h3 : (trec U (sd rep)).st ≠ 3 := by
      rcases hA with e | e | e
      · rw [e]; exact (show ¬ (0 : Int) = 3 by decide)
      · rw [e]; unfold sR; split <;> exact (show ¬ (1 : Int) = 3 by decide)
      · rw [e]; exact (show ¬ (2 : Int) = 3 by decide)
    have hb : (trec U (sd rep)).bal = (0, 0) ∨ (trec U (sd rep)).bal = (0, rep) := by
      rcases hA with e | e | e
      · rw [e]; exact .inl rfl
      · rw [e]; right; unfold sR; split <;> rfl
      · rw [e]; exact .inr rfl
    rw [hm, s_do2 h h3 hb]
    have hU2 : ∀ y : Int × P7 Bool, y.1 = 2 ∨ y.1 = 3 → sU rep k s v y j (mput U (sd rep) (sr2 rep s v)) := fun y hy => ⟨fun h => by omega, fun _ => .inr (.inr (trec_mput _ _ _))⟩
    cases hs : S.get j with
    | true =>
      have e : sstep n rep.toNat ap (2, S) j = (2, S) := by unfold sstep; rw [if_neg hir, if_neg (by simp), if_pos hs]
      rw [e, got_id (.inr (by show ((nsel _ S).get _).isSome = true; rw [Int.toNat_natCast, nsel_get, hs]))]
      exact ⟨hg, ⟨.inr (.inl rfl), hrp⟩, hU2 _ (.inl rfl), fun i V hV => hV, fun h => by simp at h⟩
    | false =>
      rw [s2_got h hj hr hs]
      have e0 : sstep n rep.toNat ap (2, S) j = if n.tdiv 2 + 1 ≤ cntB (S.set j true) then (3, S.set j true) else (2, S.set j true) := by
        unfold sstep; rw [if_neg hir, if_neg (by simp), if_neg (by simp [hs]), if_neg (by simp)]
      rw [e0]
      by_cases hc : n.tdiv 2 + 1 ≤ cntB (S.set j true)
      · rw [if_pos hc, if_pos hc]
        refine ⟨⟨fun h => by simp at h, fun h => by simp at h, fun _ => ?_⟩, ⟨.inr (.inr rfl), hset _ _ (by omega) hrp⟩, sU_3 rfl, fun i V hV => sU_3 rfl, fun h => by simp at h⟩
        obtain ⟨r1, r2, r3⟩ := s_do3 (U := [(sd rep, sr2 rep s v)]) h (by rw [trec1]; exact (show ¬ (2 : Int) = 3 by decide)) (s' := s) (v' := v) ⟨h.s0, h.s1⟩ h.vo
        refine ⟨rfl, ?_, r1, r2, r3⟩
        rw [hap]; rfl
      · rw [if_neg hc, if_neg hc]
        exact ⟨⟨fun h => by simp at h, fun _ => ⟨rfl, rfl, hap⟩, fun h => by simp at h⟩, ⟨.inr (.inl rfl), hset _ _ (by omega) hrp⟩, hU2 _ (.inl rfl), fun i V hV => sU_same rfl hV, fun h => by simp at h⟩
  · have e : sstep n rep.toNat ap (3, S) j = (3, S) := by unfold sstep; rw [if_neg hir, if_pos rfl]
    obtain ⟨q1, q2, q3, q4, q5⟩ := hg.2.2 rfl
    rw [e, got_id (.inl q1)]
    exact ⟨hg, ⟨.inr (.inr rfl), hrp⟩, sU_3 rfl, fun i V hV => hV, fun h => by simp at h⟩
end

def om (o : Dot) : Msg Bs := ⟨1, o, (0, o.rep), [111], 0, P7.all 0⟩
def ot (l : List Dot) : Tbl := l.foldl (fun T o => (tdo T (om o)).1) []
def og (d o : Dot) : Prop := o ≠ d ∧ 0 ≤ o.rep ∧ o.rep ≤ 6 ∧ 1 ≤ o.n ∧ o.n ≤ 1000
def qok (d : Dot) (B : Int) (q : Dot × Rec Bs) : Prop := og d q.1 ∧ q.2.st = 1 ∧ q.2.ab = (0, q.1.rep) ∧ q.2.bal = (0, q.1.rep) ∧ 0 ≤ q.2.seq ∧ q.2.seq < B
structure OI (d : Dot) (l : List Dot) (T : Tbl) (B : Int) : Prop where
  q : ∀ q ∈ T, qok d B q
  m : ∀ o ∈ l, mget T o ≠ none
theorem would_b {d e : Dot} {B : Int} (hB : B ≤ 100) : ∀ (T : Tbl) (acc : Int × P7 Int), (∀ q ∈ T, qok d B q) → 0 ≤ acc.1 → acc.1 ≤ B → (∀ j, j < 7 → 0 ≤ acc.2.get j ∧ acc.2.get j ≤ 1000) →
    (acc.1 ≤ (T.foldl (wouldStep e) acc).1 ∧ (T.foldl (wouldStep e) acc).1 ≤ B) ∧ (∀ j, j < 7 → acc.2.get j ≤ (T.foldl (wouldStep e) acc).2.get j ∧ (T.foldl (wouldStep e) acc).2.get j ≤ 1000) ∧
    ∀ q ∈ T, q.1 ≠ e → 1 ≤ (T.foldl (wouldStep e) acc).1 ∧ q.1.n ≤ (T.foldl (wouldStep e) acc).2.get q.1.rep.toNat := by
  intro T
  induction T with
  | nil => intro acc _ h0 hb hj; exact ⟨⟨Int.le_refl _, hb⟩, fun j h => ⟨Int.le_refl _, (hj j h).2⟩, fun q hq => by cases hq⟩
  | cons p T ih =>
    intro acc hT h0 hb hj
    rw [List.foldl_cons]
    obtain ⟨⟨hd, a1, a2, a3, a4⟩, b1, b2, b3, b4, b5⟩ := hT p (by simp)
    have hT' : ∀ q ∈ T, qok d B q := fun q hq => hT q (List.mem_cons_of_mem _ hq)
    by_cases hp : p.1 = e
    · have e1 : wouldStep e acc p = acc := by unfold wouldStep; rw [if_pos (.inl hp)]
      rw [e1]
      obtain ⟨i1, i2, i3⟩ := ih acc hT' h0 hb hj
      refine ⟨i1, i2, fun q hq hne => ?_⟩
      rcases List.mem_cons.1 hq with rfl | hq
      · exact absurd hp hne
      · exact i3 q hq hne
    · have ew : IntKind.i64.wrap (p.2.seq + 1) = p.2.seq + 1 := by rw [i64w]; omega
      have e1 : wouldStep e acc p = (imax acc.1 (p.2.seq + 1), acc.2.set p.1.rep.toNat (imax (acc.2.get p.1.rep.toNat) p.1.n)) := by
        unfold wouldStep; rw [if_neg (by rintro (h | h); exact hp h; omega), ew]
      rw [e1]
      have hr7 : p.1.rep.toNat < 7 := by omega
      have im : ∀ a b : Int, a ≤ imax a b ∧ b ≤ imax a b ∧ (imax a b = a ∨ imax a b = b) := fun a b => by unfold imax; split <;> omega
      have m1 := im acc.1 (p.2.seq + 1)
      have m2 := im (acc.2.get p.1.rep.toNat) p.1.n
      have hj1 := hj _ hr7
      have hget : ∀ j, j < 7 → (acc.2.set p.1.rep.toNat (imax (acc.2.get p.1.rep.toNat) p.1.n)).get j = if j = p.1.rep.toNat then imax (acc.2.get p.1.rep.toNat) p.1.n else acc.2.get j := fun j h => P7.get_set _ _ _ _ h
      obtain ⟨i1, i2, i3⟩ := ih (imax acc.1 (p.2.seq + 1), acc.2.set p.1.rep.toNat (imax (acc.2.get p.1.rep.toNat) p.1.n)) hT' (by simp only; omega) (by simp only; omega) (fun j h => by
        simp only; rw [hget j h]; split
        · omega
        · exact hj j h)
      simp only at i1 i2 i3
      generalize T.foldl (wouldStep e) (imax acc.1 (p.2.seq + 1), acc.2.set p.1.rep.toNat (imax (acc.2.get p.1.rep.toNat) p.1.n)) = w at *
      refine ⟨⟨by omega, by omega⟩, fun j h => ?_, fun q hq hne => ?_⟩
      · have := i2 j h
        rw [hget j h] at this
        refine ⟨?_, this.2⟩
        by_cases hjp : j = p.1.rep.toNat
        · rw [if_pos hjp] at this; subst hjp; omega
        · rw [if_neg hjp] at this; omega
      · rcases List.mem_cons.1 hq with rfl | hq
        · have := i2 _ hr7
          rw [hget _ hr7, if_pos rfl] at this
          omega
        · exact i3 q hq hne
theorem om_may {d o : Dot} (h : og d o) : (om o).may = true := by
  obtain ⟨hd, a1, a2, a3, a4⟩ := h
  unfold Msg.may Dot.okI goodB contentOk om
  simp only [deps0, Bool.true_and, Bool.and_eq_true, decide_eq_true_eq, Bool.or_eq_true]
  refine ⟨⟨⟨⟨by omega, by omega⟩, by omega⟩, by omega, by omega, by simp⟩, .inl (by omega)⟩
theorem oi_step {d o : Dot} {l : List Dot} {T : Tbl} {B : Int} (h : OI d l T B) (ho : og d o) (hB : B ≤ 50) (h0 : 0 ≤ B) : OI d (l ++ [o]) (tdo T (om o)).1 (B + 1) := by
  unfold tdo
  rw [if_neg (by rw [om_may ho]; simp), show (om o).dot = o from rfl]
  cases hm : mget T o with
  | none =>
    have ht : trec T o = recZ := by unfold trec; rw [hm]; rfl
    rw [ht]
    have hold : old (om o) recZ = none := by
      refine old_n (show ¬ (0 : Int) = 3 by decide) (show ¬ (1 : Int) = 3 by decide) ?_ (fun h => absurd (show (0 : Int) = 1 from h.2.1) (by decide))
      rintro (h1 | h1)
      · exact cmp_ge ho.2.1 h1
      · exact absurd (show (0 : Int) = 2 from h1.2) (by decide)
    rw [hold]
    simp only
    have hp : putRec T (om o) recZ = ⟨1, [111], imax 0 (would T o).1, vmerge (P7.all 0) (would T o).2, (0, o.rep), (0, o.rep)⟩ := by unfold putRec; exact if_pos rfl
    rw [hp]
    have hw := would_b (e := o) (d := d) (B := B) (by omega) T (0, P7.all 0) h.q (Int.le_refl _) h0 (fun j hj => by rw [P7.get_all]; omega)
    have hw1 : imax 0 (would T o).1 = (would T o).1 := imax0 hw.1.1
    have hw2 : (would T o).1 ≤ B := hw.1.2
    have hw0 : 0 ≤ (would T o).1 := hw.1.1
    refine ⟨fun q hq => ?_, fun x hx => ?_⟩
    · rcases mem_mput hq with rfl | hq
      · exact ⟨ho, rfl, rfl, rfl, by simp only [hw1]; exact hw0, by simp only [hw1]; omega⟩
      · obtain ⟨a, b1, b2, b3, b4, b5⟩ := h.q q hq
        exact ⟨a, b1, b2, b3, b4, by omega⟩
    · rw [mget_mput]
      by_cases hxo : o = x
      · rw [if_pos hxo]; simp
      · rw [if_neg hxo]
        rcases List.mem_append.1 hx with hx | hx
        · exact h.m x hx
        · simp at hx; exact absurd hx.symm hxo
  | some r =>
    have ht : trec T o = r := by unfold trec; rw [hm]; rfl
    rw [ht]
    obtain ⟨_, b1, b2, b3, _, _⟩ := h.q _ (mgetT hm)
    have b1 : r.st = 1 := b1
    have b2 : r.ab = (0, o.rep) := b2
    have b3 : r.bal = (0, o.rep) := b3
    have hold : old (om o) r = some true := by
      refine old_t (by omega) (show ¬ (1 : Int) = 3 by decide) ?_ ⟨rfl, b1, b2⟩
      rintro (h1 | h1)
      · rw [b3] at h1; exact cmp_sf h1
      · omega
    rw [hold]
    refine ⟨fun q hq => ?_, fun x hx => ?_⟩
    · obtain ⟨a, b1, b2, b3, b4, b5⟩ := h.q q hq
      exact ⟨a, b1, b2, b3, b4, by omega⟩
    · rcases List.mem_append.1 hx with hx | hx
      · exact h.m x hx
      · simp at hx; subst hx; rw [hm]; simp
theorem ot_snoc (l : List Dot) (o : Dot) : ot (l ++ [o]) = (tdo (ot l) (om o)).1 := by unfold ot; rw [List.foldl_append]; rfl
theorem ot_take {l : List Dot} {i : Nat} (h : i < l.length) : ot (l.take (i + 1)) = (tdo (ot (l.take i)) (om l[i])).1 := by
  rw [← ot_snoc, List.take_append_getElem h]
theorem ot_oi {d : Dot} {l : List Dot} (hl : l.length ≤ 10) (hg : ∀ o ∈ l, og d o) : ∀ i, i ≤ l.length → OI d (l.take i) (ot (l.take i)) i := by
  intro i
  induction i with
  | zero => intro _; exact ⟨fun q hq => by simp [ot] at hq, fun o ho => by simp at ho⟩
  | succ i ih =>
    intro hi
    have h := oi_step (ih (by omega)) (hg l[i] (List.getElem_mem _)) (by omega) (by omega)
    rw [ot_take (by omega), ← List.take_append_getElem (by omega)]
    have e : ((i + 1 : Nat) : Int) = (i : Int) + 1 := by omega
    rw [e]
    exact h
theorem ot_ok {d : Dot} {l : List Dot} (hl : l.length ≤ 10) (hg : ∀ o ∈ l, og d o) :
    trec (ot l) d = recZ ∧ (0 ≤ (would (ot l) d).1 ∧ (would (ot l) d).1 ≤ 100) ∧ depsOk (would (ot l) d).2 = true ∧ (l = [] → would (ot l) d = (0, P7.all 0)) ∧
    (l ≠ [] → (would (ot l) d).1 ≠ 0) ∧ ∀ o ∈ l, o.n ≤ (would (ot l) d).2.get o.rep.toNat := by
  have h := ot_oi hl hg l.length (Nat.le_refl _)
  rw [List.take_length] at h
  have hw := would_b (e := d) (d := d) (B := (l.length : Int)) (by omega) (ot l) (0, P7.all 0) h.q (Int.le_refl _) (by simp) (fun j hj => by rw [P7.get_all]; omega)
  have hin : ∀ o ∈ l, ∃ r, (o, r) ∈ ot l := fun o ho => by
    cases hm : mget (ot l) o with
    | none => exact absurd hm (h.m o ho)
    | some r => exact ⟨r, mgetT hm⟩
  obtain ⟨w1, w2, w3⟩ := hw
  refine ⟨?_, ⟨w1.1, ?_⟩, ?_, ?_, ?_, ?_⟩
  · unfold trec
    cases hm : mget (ot l) d with
    | none => rfl
    | some r => exact absurd rfl (h.q _ (mgetT hm)).1.1
  · have := w1.2
    show (List.foldl (wouldStep d) (0, P7.all 0) (ot l)).1 ≤ 100
    omega
  · refine (depsOk_iff _).2 fun j hj => ?_
    have := w2 j hj
    rw [P7.get_all] at this
    exact this
  · rintro rfl; rfl
  · intro hne
    obtain ⟨o, ho⟩ := List.exists_mem_of_ne_nil l hne
    obtain ⟨r, hr⟩ := hin o ho
    have := (w3 _ hr (hg o ho).1).1
    show (List.foldl (wouldStep d) (0, P7.all 0) (ot l)).1 ≠ 0
    omega
  · intro o ho
    obtain ⟨r, hr⟩ := hin o ho
    exact (w3 _ hr (hg o ho).1).2
end Go.Proofs.Ytpihhlaiofkmdaa
