/- 'LeadTwo' holds. Printed by an own tool (wip/tools/law.py), after the kit's shell. -/
import Derived.Test.YtpihhlaiofkmdaaBLeadTwo12
import Derived.Test.YtpihhlaiofkmdaaBLeadTwo11
import Derived.Test.YtpihhlaiofkmdaaRows
import Derived.WalkKit
import Derived.ProofKit
namespace Go.Proofs.Ytpihhlaiofkmdaa
set_option linter.unusedVariables false
set_option linter.unusedSimpArgs false
open Go Go.Eng

theorem esU_set {es : List (Nat × Tbl)} {j : Nat} (hj : j < es.length) (p : Nat) (T : Tbl) : esU (es.set j (p, T)) = upd (esU es) j T := by
  funext i
  unfold esU upd
  rw [List.getElem?_set]
  by_cases h : j = i
  · subst h; rw [if_pos rfl, if_pos hj, if_pos rfl]; rfl
  · rw [if_neg h, if_neg (Ne.symm h)]
abbrev PT (o : Option (Nat × LX)) : Value := .pointer (o.map fun p => ⟨p.1, 0, none⟩)
def obc (o : Option (Nat × LX)) : Asn := many (fun p : Nat × LX => ldc p.1 p.2) o.toList
theorem obc_st {W0 W : World} {p : Nat × LX} {L : List Asn} (h : St W0 (obc (some p) :: L) W) : St W0 (ldc p.1 p.2 :: L) W :=
  ((h.ent (many_cons (F := fun p : Nat × LX => ldc p.1 p.2) p [])).perm (List.Perm.swap _ _ _)).drop
theorem obc_ent {p : Nat × LX} {L : List Asn} : ent (ldc p.1 p.2 :: L) (obc (some p) :: L) :=
  (ent.cons _ many_nil).trans (many_uncons (F := fun p : Nat × LX => ldc p.1 p.2) p [])
theorem obc_none {L : List Asn} : ent L (obc none :: L) := many_nil
structure TS (n : Int) (f g : Nat) (us : List Nat) (x : LX × Option (Nat × LX) × List (Nat × Tbl)) : Prop where
  len : x.2.2.length = 5
  fst : x.2.2.map (·.1) = us
  af : x.2.2[f]? = some (x.1.t, esU x.2.2 f)
  bg : ∀ p, x.2.1 = some p → x.2.2[g]? = some (p.2.t, esU x.2.2 g)
  sy : SY n f g x.1.abs (x.2.1.map fun p => p.2.abs) (esU x.2.2)
section
variable {n : Int} {f g : Nat} {us : List Nat} {X X' : LX} {o : Option (Nat × LX)} {es : List (Nat × Tbl)}
theorem TS.slow (E : Env n f g) (h : TS n f g us (X, o, es)) (ht : X'.t = X.t) (hx : X'.abs = (X.abs.slow (esU es f)).1.1) : TS n f g us (X', o, es.set f (X.t, (X.abs.slow (esU es f)).1.2)) := by
  have hn5 := E.n5
  have hfn := E.fn
  have hl := h.len
  simp only at hl
  have hu := esU_set (es := es) (j := f) (by omega) X.t (X.abs.slow (esU es f)).1.2
  refine ⟨by simpa using hl, (fst_set h.af _).trans h.fst, ?_, fun p hp => ?_, ?_⟩
  · simp only
    rw [hu, upd_eq, List.getElem?_set, if_pos rfl, if_pos (by omega), ht]
  · simp only
    rw [hu, upd_ne _ _ (Ne.symm E.fg), List.getElem?_set, if_neg E.fg]
    exact h.bg p hp
  · simp only
    rw [hu, hx]
    exact ⟨a_slow E h.sy.fa, h.sy.bw⟩
theorem TS.aturn (E : Env n f g) (h : TS n f g us (X, o, es)) {j : Nat} (hj : (j : Int) < n) (hjf : j ≠ f) (h5 : X.abs.phase ≠ 5) {e : Nat × Tbl} (he : es[j]? = some e) (ht : X'.t = X.t)
    (hx : X'.abs = (X.abs.got (esU es f) j (tdo e.2 X.abs.msg).2.1).1.1) : TS n f g us (X', o, (es.set j (e.1, (tdo e.2 X.abs.msg).1)).set f (X.t, (X.abs.got (esU es f) j (tdo e.2 X.abs.msg).2.1).1.2)) := by
  have hn5 := E.n5
  have hfn := E.fn
  have hl : es.length = 5 := h.len
  have hej : e.2 = esU es j := (esU_at he).symm
  have hu1 := esU_set (es := es) (j := j) (by omega) e.1 (tdo e.2 X.abs.msg).1
  have hu := esU_set (es := es.set j (e.1, (tdo e.2 X.abs.msg).1)) (j := f) (by simp; omega) X.t (X.abs.got (esU es f) j (tdo e.2 X.abs.msg).2.1).1.2
  rw [hu1] at hu
  have hf1 : (es.set j (e.1, (tdo e.2 X.abs.msg).1))[f]? = some (X.t, esU es f) := by rw [List.getElem?_set, if_neg hjf]; exact h.af
  refine ⟨by simpa using hl, (fst_set hf1 _).trans ((fst_set he _).trans h.fst), ?_, fun p hp => ?_, ?_⟩
  · simp only
    rw [hu, upd_eq, List.getElem?_set, if_pos rfl, if_pos (by simp; omega), ht]
  · simp only
    rw [hu, upd_ne _ _ (Ne.symm E.fg), List.getElem?_set, if_neg E.fg, List.getElem?_set]
    have hb := h.bg p hp
    simp only at hb
    by_cases hjg : j = g
    · subst hjg
      rw [if_pos rfl, if_pos (by omega), upd_eq]
      rw [hb] at he
      cases he
      rfl
    · rw [if_neg hjg, upd_ne _ _ (Ne.symm hjg)]; exact hb
  · simp only
    rw [hu, hx, hej]
    exact ⟨a_step E h.sy.fa h5 hj hjf, h.sy.bw⟩
theorem TS.bturn {q : Nat} {Y Y' : LX} (E : Env n f g) (h : TS n f g us (X, some (q, Y), es)) {j : Nat} (hj : (j : Int) < n) (hjg : j ≠ g) (h5 : Y.abs.phase ≠ 5) {e : Nat × Tbl} (he : es[j]? = some e) (ht : Y'.t = Y.t)
    (hx : Y'.abs = (Y.abs.got (esU es g) j (tdo e.2 Y.abs.msg).2.1).1.1) : TS n f g us (X, some (q, Y'), (es.set j (e.1, (tdo e.2 Y.abs.msg).1)).set g (Y.t, (Y.abs.got (esU es g) j (tdo e.2 Y.abs.msg).2.1).1.2)) := by
  have hn5 := E.n5
  have hgn := E.gn
  have hl : es.length = 5 := h.len
  have hej : e.2 = esU es j := (esU_at he).symm
  have hu1 := esU_set (es := es) (j := j) (by omega) e.1 (tdo e.2 Y.abs.msg).1
  have hu := esU_set (es := es.set j (e.1, (tdo e.2 Y.abs.msg).1)) (j := g) (by simp; omega) Y.t (Y.abs.got (esU es g) j (tdo e.2 Y.abs.msg).2.1).1.2
  rw [hu1] at hu
  have hg1 : (es.set j (e.1, (tdo e.2 Y.abs.msg).1))[g]? = some (Y.t, esU es g) := by rw [List.getElem?_set, if_neg hjg]; exact h.bg _ rfl
  refine ⟨by simpa using hl, (fst_set hg1 _).trans ((fst_set he _).trans h.fst), ?_, fun p hp => ?_, ?_⟩
  · simp only
    rw [hu, upd_ne _ _ E.fg, List.getElem?_set, if_neg (Ne.symm E.fg), List.getElem?_set]
    have hb : es[f]? = some (X.t, esU es f) := h.af
    by_cases hjf : j = f
    · subst hjf
      rw [if_pos rfl, if_pos (by omega), upd_eq]
      rw [hb] at he
      cases he
      rfl
    · rw [if_neg hjf, upd_ne _ _ (Ne.symm hjf)]; exact hb
  · simp only at hp ⊢
    cases hp
    rw [hu, upd_eq, List.getElem?_set, if_pos rfl, if_pos (by simp; omega), ht]
  · have hs : SY n f g X.abs (some Y.abs) (esU es) := h.sy
    simp only [Option.map_some]
    rw [hu, hx, hej]
    exact FB.sy (b' := Y.abs) hs (b_step E hs.fb h5 hj hjg)
theorem TS.recov {p q : Nat} {Y : LX} {T' : Tbl} (E : Env n f g) (h : TS n f g us (X, none, es)) (hp : es[g]? = some (p, esU es g)) (hr : recover n g (td f) (esU es g) = .inl (Y.abs, T')) (ht : Y.t = p) :
    TS n f g us (X, some (q, Y), es.set g (p, T')) := by
  have hn5 := E.n5
  have hgn := E.gn
  have hl : es.length = 5 := h.len
  have hu := esU_set (es := es) (j := g) (by omega) p T'
  refine ⟨by simpa using hl, (fst_set hp _).trans h.fst, ?_, fun p' hp' => ?_, ?_⟩
  · simp only
    rw [hu, upd_ne _ _ E.fg, List.getElem?_set, if_neg (Ne.symm E.fg)]
    exact h.af
  · simp only at hp' ⊢
    cases hp'
    rw [hu, upd_eq, List.getElem?_set, if_pos rfl, if_pos (by omega), ht]
  · have hs : SY n f g X.abs none (esU es) := h.sy
    have hb := b_recover E hs.fa hr
    simp only [Option.map_some]
    rw [hu]
    exact ⟨⟨hs.fa.aw, hb.ti, hb.ib⟩, fun x hx => by cases hx; exact hb.bw⟩
end
end Go.Proofs.Ytpihhlaiofkmdaa
namespace Go.Proofs.Ytpihhlaiofkmdaa
set_option linter.unusedVariables false
set_option linter.unusedSimpArgs false
open Go Go.Eng

theorem idxS_nat2 {sz g o n c i : Nat} {k : IntKind} (hi : i < n) : idxS sz (.slice (some ⟨g, o, none⟩) n c) (.int k (i : Int)) = some (.pointer (some ⟨g, o + i * sz, none⟩)) := by
  rw [idxS_blk (by omega) (by omega), Int.toNat_natCast]
set_option maxRecDepth 100000 in
set_option maxHeartbeats 4000000 in
theorem two_loop {W W1 : World} {n : Int} {f g ub db q : Nat} {us : List Nat} {es : List (Nat × Tbl)} {X : LX} {la : Option Addr} {lc : Nat} {l : List Int} (E : Env n f g) (hrd : Rd W [] la I64 l) (hll : l.length ≤ 40) (hrg : ∀ y ∈ l, y ≤ 9223372036854775807)
    (hts : TS n f g us (X, none, es)) (h : St W [cells ub (tp5 us) T_a5_p_inst_Table, tbs es, ldc q X, obc none, cells db [.int .i64 (f : Int), .int .i64 1] T_api_Dot] W1) :
    loopK (fun K2 s W' => S.rostrumlaw21_LeadTwo.l2 (fun s W' => S.rostrumlaw21_LeadTwo.j3 (fun v W' => v = .bool true ∧ St W [] W') (nthv s 0) (nthv s 1) (nthv s 2) W') K2 (nthv s 0) (nthv s 1) (nthv s 2) (nthv s 3) (nthv s 4) (nthv s 5) (nthv s 6) (nthv s 7) (nthv s 8) W')
      [.int .i64 n, .int .i64 (f : Int), .int .i64 (g : Int), .slice la l.length lc, .pointer (some ⟨ub, 0, none⟩), .pointer (some ⟨db, 0, none⟩), .pointer (some ⟨q, 0, none⟩), .pointer none, .int .i64 0] W1 := by
  have hn5 := E.n5
  have hn3 := E.n3
  refine loop_c (σ := LX × Option (Nat × LX) × List (Nat × Tbl)) l.length (fun i x => [.int .i64 n, .int .i64 (f : Int), .int .i64 (g : Int), .slice la l.length lc, .pointer (some ⟨ub, 0, none⟩), .pointer (some ⟨db, 0, none⟩), .pointer (some ⟨q, 0, none⟩), PT x.2.1, .int .i64 i])
    (fun i x W1 => TS n f g us x ∧ St W [cells ub (tp5 us) T_a5_p_inst_Table, tbs x.2.2, ldc q x.1, obc x.2.1, cells db [.int .i64 (f : Int), .int .i64 1] T_api_Dot] W1) (X, none, es) rfl ⟨hts, h⟩ ?_
  clear h hts
  rintro K i ⟨X, o, es⟩ W2 hi ⟨hts, h⟩ hK
  simp only at h
  simp -implicitDefEqProofs only [EN, lsub, lget, stL, beq_self_eq_true, ne_eq, if_true, if_false, List.cons_append, List.nil_append, Option.isNone_some, Option.isNone_none]
  unfold S.rostrumlaw21_LeadTwo.l2
  generalize hJ3 : (fun (s : List Value) W' => S.rostrumlaw21_LeadTwo.j3 (fun v W' => v = .bool true ∧ St W [] W') (nthv s 0) (nthv s 1) (nthv s 2) W') = J3
  have hel : es.length = 5 := hts.len
  have hen : es.map (·.1) = us := hts.fst
  by_cases hlt : (i : Int) < (l.length : Int)
  · have hib : i < l.length := by omega
    obtain ⟨gg, oo, rfl, _⟩ := Rd.at (A := I64) (l := l) (a := la) (St.start W) (by intro e; subst e; simp at hib)
    have ei := idxS_nat2 (sz := 1) (g := gg) (o := oo) (c := lc) (k := .i64) hib
    have hri : ro W gg (oo + i * 1) [.int .i64 l[i]] := Rd.row (A := I64) (l := l) (St.start W) hib
    have ew : IntKind.i64.wrap ((i : Int) + 1) = ((i + 1 : Nat) : Int) := by rw [i64w]; omega
    have hym := hrg l[i] (List.getElem_mem _)
    generalize l[i] = y at *
    have hJ7 : ∀ X' o' es' W', TS n f g us (X', o', es') → St W [cells ub (tp5 us) T_a5_p_inst_Table, tbs es', ldc q X', obc o', cells db [.int .i64 (f : Int), .int .i64 1] T_api_Dot] W' →
        S.rostrumlaw21_LeadTwo.j7 K (.int .i64 n) (.int .i64 (f : Int)) (.int .i64 (g : Int)) (.slice (some ⟨gg, oo, none⟩) l.length lc) (.pointer (some ⟨ub, 0, none⟩)) (.pointer (some ⟨db, 0, none⟩)) (.pointer (some ⟨q, 0, none⟩)) (PT o') (.int .i64 i) W' := by
      intro X' o' es' W' ht h
      unfold S.rostrumlaw21_LeadTwo.j7
      (repeat (first | (first | (with_reducible (first | refine w1 fun _ _ => ?_ | refine w3 fun _ _ _ => ?_ | refine w4 fun _ _ _ => ?_ | refine w11 fun _ _ _ => ?_ | refine stb_n ?_)) | ((with_reducible refine w2 ?_); try simp -implicitDefEqProofs only [EN, lsub, lget, stL, beq_self_eq_true, ne_eq, if_true, if_false, List.cons_append, List.nil_append, Option.isNone_some, Option.isNone_none, ew]; intro _ _) | ((with_reducible (first | refine w5 ?_ ?_ | refine w6 ?_ ?_ | refine w7 ?_ ?_)); simp; refine ⟨_, rfl, ?_⟩) | ((with_reducible (first | refine w8 ?_ ?_ ?_ | refine w9 ?_ ?_ ?_ | refine w10 ?_ ?_ ?_)); exact rfl; simp) | ((with_reducible refine w12 ?_ ?_ ?_ fun _ _ => ?_); simp; simp; simp [oneC]) | ((with_reducible (first | refine eqs ?_ | refine nes ?_)); refine ⟨_, rfl, ?_⟩) | ((refine okF_i (bldP_eq rfl) ?_); try simp only [BLS, List.take_succ_cons, List.take_zero, List.drop_succ_cons, List.drop_zero, List.cons_append, List.nil_append, Nat.reduceAdd])) | simp -implicitDefEqProofs only [EN, lsub, lget, stL, beq_self_eq_true, ne_eq, if_true, if_false, List.cons_append, List.nil_append, Option.isNone_some, Option.isNone_none, ew]))
      exact hK (X', o', es') _ (by omega) ⟨ht, (by first | assumption | exact St.tick (by assumption) | exact St.tick (St.tick (by assumption)))⟩
    clear hK
    (repeat (first | (first | (with_reducible (first | refine w1 fun _ _ => ?_ | refine w3 fun _ _ _ => ?_ | refine w4 fun _ _ _ => ?_ | refine w11 fun _ _ _ => ?_ | refine stb_n ?_)) | ((with_reducible refine w2 ?_); try simp -implicitDefEqProofs only [EN, lsub, lget, stL, beq_self_eq_true, ne_eq, if_true, if_false, List.cons_append, List.nil_append, Option.isNone_some, Option.isNone_none, hlt]; intro _ _) | ((with_reducible (first | refine w5 ?_ ?_ | refine w6 ?_ ?_ | refine w7 ?_ ?_)); simp; refine ⟨_, rfl, ?_⟩) | ((with_reducible (first | refine w8 ?_ ?_ ?_ | refine w9 ?_ ?_ ?_ | refine w10 ?_ ?_ ?_)); exact rfl; simp) | ((with_reducible refine w12 ?_ ?_ ?_ fun _ _ => ?_); simp; simp; simp [oneC]) | ((with_reducible (first | refine eqs ?_ | refine nes ?_)); refine ⟨_, rfl, ?_⟩) | ((refine okF_i (bldP_eq rfl) ?_); try simp only [BLS, List.take_succ_cons, List.take_zero, List.drop_succ_cons, List.drop_zero, List.cons_append, List.nil_append, Nat.reduceAdd])) | simp -implicitDefEqProofs only [EN, lsub, lget, stL, beq_self_eq_true, ne_eq, if_true, if_false, List.cons_append, List.nil_append, Option.isNone_some, Option.isNone_none, hlt]))
    refine joinK_i ?_
    by_cases hy : y < 0
    · (repeat (first | (first | (with_reducible (first | refine w1 fun _ _ => ?_ | refine w3 fun _ _ _ => ?_ | refine w4 fun _ _ _ => ?_ | refine w11 fun _ _ _ => ?_ | refine stb_n ?_)) | ((with_reducible refine w2 ?_); try simp -implicitDefEqProofs only [EN, lsub, lget, stL, beq_self_eq_true, ne_eq, if_true, if_false, List.cons_append, List.nil_append, Option.isNone_some, Option.isNone_none, ei, hy]; intro _ _) | ((with_reducible (first | refine w5 ?_ ?_ | refine w6 ?_ ?_ | refine w7 ?_ ?_)); simp; refine ⟨_, rfl, ?_⟩) | ((with_reducible (first | refine w8 ?_ ?_ ?_ | refine w9 ?_ ?_ ?_ | refine w10 ?_ ?_ ?_)); exact rfl; simp) | ((with_reducible refine w12 ?_ ?_ ?_ fun _ _ => ?_); simp; simp; simp [oneC]) | ((with_reducible (first | refine eqs ?_ | refine nes ?_)); refine ⟨_, rfl, ?_⟩) | ((refine okF_i (bldP_eq rfl) ?_); try simp only [BLS, List.take_succ_cons, List.take_zero, List.drop_succ_cons, List.drop_zero, List.cons_append, List.nil_append, Nat.reduceAdd])) | simp -implicitDefEqProofs only [EN, lsub, lget, stL, beq_self_eq_true, ne_eq, if_true, if_false, List.cons_append, List.nil_append, Option.isNone_some, Option.isNone_none, ei, hy]))
      exact hJ7 X o es _ hts (by first | assumption | exact St.tick (by assumption) | exact St.tick (St.tick (by assumption)))
    obtain ⟨Y, rfl⟩ : ∃ Y : Nat, y = (Y : Int) := ⟨y.toNat, by omega⟩
    have hyl : (Y : Int) ≤ 9223372036854775807 := hym
    have eq4 : binP .quo (.int .i64 (Y : Int)) (.int .i64 4) = some (.int .i64 ((Y / 4 : Nat) : Int)) := by
      simp only [binP]
      rw [if_neg (show ¬ (4 : Int) = 0 by decide), Int.tdiv_eq_ediv_of_nonneg (show (0 : Int) ≤ (Y : Int) by omega), i64w, show ((Y : Int) / 4 + 9223372036854775808) % 18446744073709551616 - 9223372036854775808 = ((Y / 4 : Nat) : Int) by omega]
      exact if_neg fun h => h rfl
    have er4 : binP .rem (.int .i64 (Y : Int)) (.int .i64 4) = some (.int .i64 ((Y % 4 : Nat) : Int)) := by
      simp only [binP]
      rw [if_neg (show ¬ (4 : Int) = 0 by decide), Int.tmod_eq_emod_of_nonneg (show (0 : Int) ≤ (Y : Int) by omega), show (Y : Int) % 4 = ((Y % 4 : Nat) : Int) by omega]
      exact if_neg fun h => h rfl
    have ern : binP .rem (.int .i64 ((Y / 4 : Nat) : Int)) (.int .i64 n) = some (.int .i64 ((Y / 4 % n.toNat : Nat) : Int)) := by
      simp only [binP]
      rw [if_neg (show ¬ n = 0 by omega), Int.tmod_eq_emod_of_nonneg (show (0 : Int) ≤ ((Y / 4 : Nat) : Int) by omega), Int.natCast_emod, Int.toNat_of_nonneg (show 0 ≤ n by omega)]
      exact if_neg fun h => h rfl
    have hj : Y / 4 % n.toNat < n.toNat := Nat.mod_lt _ (by omega)
    generalize Y / 4 % n.toNat = j at *
    generalize Y % 4 = k4 at *
    obtain ⟨e, he⟩ : ∃ e, es[j]? = some e := ⟨_, List.getElem?_eq_getElem (by omega)⟩
    have hue : us[j]? = some e.1 := by rw [← hen, List.getElem?_map, he]; rfl
    have eij : idxA 5 1 (.pointer (some ⟨ub, 0, none⟩)) (.int .i64 (j : Int)) = some (.pointer (some ⟨ub, j, none⟩)) := by rw [idxA_blk (by omega) (by omega)]; simp
    by_cases k3 : k4 = 3
    · subst k3
      (repeat (first | (first | (with_reducible (first | refine w1 fun _ _ => ?_ | refine w3 fun _ _ _ => ?_ | refine w4 fun _ _ _ => ?_ | refine w11 fun _ _ _ => ?_ | refine stb_n ?_)) | ((with_reducible refine w2 ?_); try simp -implicitDefEqProofs only [EN, lsub, lget, stL, beq_self_eq_true, ne_eq, if_true, if_false, List.cons_append, List.nil_append, Option.isNone_some, Option.isNone_none, ei, hy, eq4, ern, er4]; intro _ _) | ((with_reducible (first | refine w5 ?_ ?_ | refine w6 ?_ ?_ | refine w7 ?_ ?_)); simp; refine ⟨_, rfl, ?_⟩) | ((with_reducible (first | refine w8 ?_ ?_ ?_ | refine w9 ?_ ?_ ?_ | refine w10 ?_ ?_ ?_)); exact rfl; simp) | ((with_reducible refine w12 ?_ ?_ ?_ fun _ _ => ?_); simp; simp; simp [oneC]) | ((with_reducible (first | refine eqs ?_ | refine nes ?_)); refine ⟨_, rfl, ?_⟩) | ((refine okF_i (bldP_eq rfl) ?_); try simp only [BLS, List.take_succ_cons, List.take_zero, List.drop_succ_cons, List.drop_zero, List.cons_append, List.nil_append, Nat.reduceAdd])) | simp -implicitDefEqProofs only [EN, lsub, lget, stL, beq_self_eq_true, ne_eq, if_true, if_false, List.cons_append, List.nil_append, Option.isNone_some, Option.isNone_none, ei, hy, eq4, ern, er4]))
      refine tabSlow (X := X) (T := esU es f) hts.af (St.wk (L' := tbs es :: ldc q X :: [cells ub (tp5 us) T_a5_p_inst_Table, obc o, cells db [.int .i64 (f : Int), .int .i64 1] T_api_Dot]) (by first | assumption | exact St.tick (by assumption) | exact St.tick (St.tick (by assumption)))) fun X' W5 e1 e2 h => ?_
      exact hJ7 X' o _ _ (hts.slow E e1 e2) (St.wk h)
    have f3 : decide ((k4 : Int) = 3) = false := decide_eq_false (by omega)
    have hgn := E.gn
    have hlast : k4 ≠ 1 → k4 ≠ 0 → True := fun _ _ => trivial
    by_cases k2 : k4 = 2
    · have f2 : decide ((k4 : Int) = 2) = true := decide_eq_true (by omega)
      have f1 : decide ((k4 : Int) = 1) = false := decide_eq_false (by omega)
      have f0' : decide ((k4 : Int) = 0) = false := decide_eq_false (by omega)
      cases o with
      | none =>
        obtain ⟨eg, heg⟩ : ∃ e, es[g]? = some e := ⟨_, List.getElem?_eq_getElem (by omega)⟩
        have hueg : us[g]? = some eg.1 := by rw [← hen, List.getElem?_map, heg]; rfl
        have heg2 : es[g]? = some (eg.1, esU es g) := by rw [esU_at heg]; exact heg
        have eig : idxA 5 1 (.pointer (some ⟨ub, 0, none⟩)) (.int .i64 (g : Int)) = some (.pointer (some ⟨ub, g, none⟩)) := by rw [idxA_blk (by omega) (by omega)]; simp
        (repeat (first | (first | (with_reducible (first | refine w1 fun _ _ => ?_ | refine w3 fun _ _ _ => ?_ | refine w4 fun _ _ _ => ?_ | refine w11 fun _ _ _ => ?_ | refine stb_n ?_)) | ((with_reducible refine w2 ?_); try simp -implicitDefEqProofs only [EN, lsub, lget, stL, beq_self_eq_true, ne_eq, if_true, if_false, List.cons_append, List.nil_append, Option.isNone_some, Option.isNone_none, ei, hy, eq4, ern, er4, f3, f2, eig]; intro _ _) | ((with_reducible (first | refine w5 ?_ ?_ | refine w6 ?_ ?_ | refine w7 ?_ ?_)); simp; refine ⟨_, rfl, ?_⟩) | ((with_reducible (first | refine w8 ?_ ?_ ?_ | refine w9 ?_ ?_ ?_ | refine w10 ?_ ?_ ?_)); exact rfl; simp) | ((with_reducible refine w12 ?_ ?_ ?_ fun _ _ => ?_); simp; simp; simp [oneC]) | ((with_reducible (first | refine eqs ?_ | refine nes ?_)); refine ⟨_, rfl, ?_⟩) | ((refine okF_i (bldP_eq rfl) ?_); try simp only [BLS, List.take_succ_cons, List.take_zero, List.drop_succ_cons, List.drop_zero, List.cons_append, List.nil_append, Nat.reduceAdd])) | simp -implicitDefEqProofs only [EN, lsub, lget, stL, beq_self_eq_true, ne_eq, if_true, if_false, List.cons_append, List.nil_append, Option.isNone_some, Option.isNone_none, ei, hy, eq4, ern, er4, f3, f2, eig]))
        have h3 := h.tick
        refine ld (cs := [.int .i64 (f : Int), .int .i64 1]) (v := .agg #[.int .i64 (f : Int), .int .i64 1]) h3 rfl (by simp) ?_
        generalize tick W2 = W9 at *
        (repeat (first | (first | (with_reducible (first | refine w1 fun _ _ => ?_ | refine w3 fun _ _ _ => ?_ | refine w4 fun _ _ _ => ?_ | refine w11 fun _ _ _ => ?_ | refine stb_n ?_)) | ((with_reducible refine w2 ?_); try simp -implicitDefEqProofs only [EN, lsub, lget, stL, beq_self_eq_true, ne_eq, if_true, if_false, List.cons_append, List.nil_append, Option.isNone_some, Option.isNone_none, eig]; intro _ _) | ((with_reducible (first | refine w5 ?_ ?_ | refine w6 ?_ ?_ | refine w7 ?_ ?_)); simp; refine ⟨_, rfl, ?_⟩) | ((with_reducible (first | refine w8 ?_ ?_ ?_ | refine w9 ?_ ?_ ?_ | refine w10 ?_ ?_ ?_)); exact rfl; simp) | ((with_reducible refine w12 ?_ ?_ ?_ fun _ _ => ?_); simp; simp; simp [oneC]) | ((with_reducible (first | refine eqs ?_ | refine nes ?_)); refine ⟨_, rfl, ?_⟩) | ((refine okF_i (bldP_eq rfl) ?_); try simp only [BLS, List.take_succ_cons, List.take_zero, List.drop_succ_cons, List.drop_zero, List.cons_append, List.nil_append, Nat.reduceAdd])) | simp -implicitDefEqProofs only [EN, lsub, lget, stL, beq_self_eq_true, ne_eq, if_true, if_false, List.cons_append, List.nil_append, Option.isNone_some, Option.isNone_none, eig]))
        refine ld (v := tptr eg.1) h3 (tp5_get hueg) (by simp) ?_
        refine tabRecover (d := td f) heg2 (St.wk (L' := tbs es :: [cells ub (tp5 us) T_a5_p_inst_Table, ldc q X, obc none, cells db [.int .i64 (f : Int), .int .i64 1] T_api_Dot]) h3) (fun e W5 hr h => ?_) (fun q2 Y2 T' W5 hr e1 h => ?_)
        · by_cases e0 : e = 0
          · subst e0
            (repeat (first | (first | (with_reducible (first | refine w1 fun _ _ => ?_ | refine w3 fun _ _ _ => ?_ | refine w4 fun _ _ _ => ?_ | refine w11 fun _ _ _ => ?_ | refine stb_n ?_)) | ((with_reducible refine w2 ?_); try simp -implicitDefEqProofs only [EN, lsub, lget, stL, beq_self_eq_true, ne_eq, if_true, if_false, List.cons_append, List.nil_append, Option.isNone_some, Option.isNone_none]; intro _ _) | ((with_reducible (first | refine w5 ?_ ?_ | refine w6 ?_ ?_ | refine w7 ?_ ?_)); simp; refine ⟨_, rfl, ?_⟩) | ((with_reducible (first | refine w8 ?_ ?_ ?_ | refine w9 ?_ ?_ ?_ | refine w10 ?_ ?_ ?_)); exact rfl; simp) | ((with_reducible refine w12 ?_ ?_ ?_ fun _ _ => ?_); simp; simp; simp [oneC]) | ((with_reducible (first | refine eqs ?_ | refine nes ?_)); refine ⟨_, rfl, ?_⟩) | ((refine okF_i (bldP_eq rfl) ?_); try simp only [BLS, List.take_succ_cons, List.take_zero, List.drop_succ_cons, List.drop_zero, List.cons_append, List.nil_append, Nat.reduceAdd])) | simp -implicitDefEqProofs only [EN, lsub, lget, stL, beq_self_eq_true, ne_eq, if_true, if_false, List.cons_append, List.nil_append, Option.isNone_some, Option.isNone_none]))
            exact hJ7 X none es _ hts (St.wk (by first | assumption | exact St.tick (by assumption) | exact St.tick (St.tick (by assumption))))
          · have f0 := decide_eq_false e0
            (repeat (first | (first | (with_reducible (first | refine w1 fun _ _ => ?_ | refine w3 fun _ _ _ => ?_ | refine w4 fun _ _ _ => ?_ | refine w11 fun _ _ _ => ?_ | refine stb_n ?_)) | ((with_reducible refine w2 ?_); try simp -implicitDefEqProofs only [EN, lsub, lget, stL, beq_self_eq_true, ne_eq, if_true, if_false, List.cons_append, List.nil_append, Option.isNone_some, Option.isNone_none, f0]; intro _ _) | ((with_reducible (first | refine w5 ?_ ?_ | refine w6 ?_ ?_ | refine w7 ?_ ?_)); simp; refine ⟨_, rfl, ?_⟩) | ((with_reducible (first | refine w8 ?_ ?_ ?_ | refine w9 ?_ ?_ ?_ | refine w10 ?_ ?_ ?_)); exact rfl; simp) | ((with_reducible refine w12 ?_ ?_ ?_ fun _ _ => ?_); simp; simp; simp [oneC]) | ((with_reducible (first | refine eqs ?_ | refine nes ?_)); refine ⟨_, rfl, ?_⟩) | ((refine okF_i (bldP_eq rfl) ?_); try simp only [BLS, List.take_succ_cons, List.take_zero, List.drop_succ_cons, List.drop_zero, List.cons_append, List.nil_append, Nat.reduceAdd])) | simp -implicitDefEqProofs only [EN, lsub, lget, stL, beq_self_eq_true, ne_eq, if_true, if_false, List.cons_append, List.nil_append, Option.isNone_some, Option.isNone_none, f0]))
            exact hJ7 X none es _ hts (St.wk (by first | assumption | exact St.tick (by assumption) | exact St.tick (St.tick (by assumption))))
        · (repeat (first | (first | (with_reducible (first | refine w1 fun _ _ => ?_ | refine w3 fun _ _ _ => ?_ | refine w4 fun _ _ _ => ?_ | refine w11 fun _ _ _ => ?_ | refine stb_n ?_)) | ((with_reducible refine w2 ?_); try simp -implicitDefEqProofs only [EN, lsub, lget, stL, beq_self_eq_true, ne_eq, if_true, if_false, List.cons_append, List.nil_append, Option.isNone_some, Option.isNone_none]; intro _ _) | ((with_reducible (first | refine w5 ?_ ?_ | refine w6 ?_ ?_ | refine w7 ?_ ?_)); simp; refine ⟨_, rfl, ?_⟩) | ((with_reducible (first | refine w8 ?_ ?_ ?_ | refine w9 ?_ ?_ ?_ | refine w10 ?_ ?_ ?_)); exact rfl; simp) | ((with_reducible refine w12 ?_ ?_ ?_ fun _ _ => ?_); simp; simp; simp [oneC]) | ((with_reducible (first | refine eqs ?_ | refine nes ?_)); refine ⟨_, rfl, ?_⟩) | ((refine okF_i (bldP_eq rfl) ?_); try simp only [BLS, List.take_succ_cons, List.take_zero, List.drop_succ_cons, List.drop_zero, List.cons_append, List.nil_append, Nat.reduceAdd])) | simp -implicitDefEqProofs only [EN, lsub, lget, stL, beq_self_eq_true, ne_eq, if_true, if_false, List.cons_append, List.nil_append, Option.isNone_some, Option.isNone_none]))
          exact hJ7 X (some (q2, Y2)) _ _ (hts.recov E heg2 hr e1) ((St.wk (L' := ldc q2 Y2 :: [cells ub (tp5 us) T_a5_p_inst_Table, tbs (es.set g (eg.1, T')), ldc q X, cells db [.int .i64 (f : Int), .int .i64 1] T_api_Dot]) (by first | assumption | exact St.tick (by assumption) | exact St.tick (St.tick (by assumption)))).ent (obc_ent (p := (q2, Y2))) |>.perm (List.perm_middle (l₁ := [_, _, _]) (l₂ := [_])).symm)
      | some p =>
        (repeat (first | (first | (with_reducible (first | refine w1 fun _ _ => ?_ | refine w3 fun _ _ _ => ?_ | refine w4 fun _ _ _ => ?_ | refine w11 fun _ _ _ => ?_ | refine stb_n ?_)) | ((with_reducible refine w2 ?_); try simp -implicitDefEqProofs only [EN, lsub, lget, stL, beq_self_eq_true, ne_eq, if_true, if_false, List.cons_append, List.nil_append, Option.isNone_some, Option.isNone_none, ei, hy, eq4, ern, er4, f3, f2, f1, f0']; intro _ _) | ((with_reducible (first | refine w5 ?_ ?_ | refine w6 ?_ ?_ | refine w7 ?_ ?_)); simp; refine ⟨_, rfl, ?_⟩) | ((with_reducible (first | refine w8 ?_ ?_ ?_ | refine w9 ?_ ?_ ?_ | refine w10 ?_ ?_ ?_)); exact rfl; simp) | ((with_reducible refine w12 ?_ ?_ ?_ fun _ _ => ?_); simp; simp; simp [oneC]) | ((with_reducible (first | refine eqs ?_ | refine nes ?_)); refine ⟨_, rfl, ?_⟩) | ((refine okF_i (bldP_eq rfl) ?_); try simp only [BLS, List.take_succ_cons, List.take_zero, List.drop_succ_cons, List.drop_zero, List.cons_append, List.nil_append, Nat.reduceAdd])) | simp -implicitDefEqProofs only [EN, lsub, lget, stL, beq_self_eq_true, ne_eq, if_true, if_false, List.cons_append, List.nil_append, Option.isNone_some, Option.isNone_none, ei, hy, eq4, ern, er4, f3, f2, f1, f0']))
        exact hJ7 X (some p) es _ hts (by first | assumption | exact St.tick (by assumption) | exact St.tick (St.tick (by assumption)))
    have f2 : decide ((k4 : Int) = 2) = false := decide_eq_false (by omega)
    have f0 : ∀ {P : Prop} [Decidable P], ¬ P → decide P = false := fun h => decide_eq_false h
    by_cases k0 : k4 = 0
    · have f1 : decide ((k4 : Int) = 1) = false := decide_eq_false (by omega)
      have f00 : decide ((k4 : Int) = 0) = true := decide_eq_true (by omega)
      by_cases hjf : (j : Int) = f
      · have fj := decide_eq_true hjf
        (repeat (first | (first | (with_reducible (first | refine w1 fun _ _ => ?_ | refine w3 fun _ _ _ => ?_ | refine w4 fun _ _ _ => ?_ | refine w11 fun _ _ _ => ?_ | refine stb_n ?_)) | ((with_reducible refine w2 ?_); try simp -implicitDefEqProofs only [EN, lsub, lget, stL, beq_self_eq_true, ne_eq, if_true, if_false, List.cons_append, List.nil_append, Option.isNone_some, Option.isNone_none, ei, hy, eq4, ern, er4, f3, f2, f1, f00, fj]; intro _ _) | ((with_reducible (first | refine w5 ?_ ?_ | refine w6 ?_ ?_ | refine w7 ?_ ?_)); simp; refine ⟨_, rfl, ?_⟩) | ((with_reducible (first | refine w8 ?_ ?_ ?_ | refine w9 ?_ ?_ ?_ | refine w10 ?_ ?_ ?_)); exact rfl; simp) | ((with_reducible refine w12 ?_ ?_ ?_ fun _ _ => ?_); simp; simp; simp [oneC]) | ((with_reducible (first | refine eqs ?_ | refine nes ?_)); refine ⟨_, rfl, ?_⟩) | ((refine okF_i (bldP_eq rfl) ?_); try simp only [BLS, List.take_succ_cons, List.take_zero, List.drop_succ_cons, List.drop_zero, List.cons_append, List.nil_append, Nat.reduceAdd])) | simp -implicitDefEqProofs only [EN, lsub, lget, stL, beq_self_eq_true, ne_eq, if_true, if_false, List.cons_append, List.nil_append, Option.isNone_some, Option.isNone_none, ei, hy, eq4, ern, er4, f3, f2, f1, f00, fj]))
        exact hJ7 X o es _ hts (by first | assumption | exact St.tick (by assumption) | exact St.tick (St.tick (by assumption)))
      · have fj := decide_eq_false hjf
        (repeat (first | (first | (with_reducible (first | refine w1 fun _ _ => ?_ | refine w3 fun _ _ _ => ?_ | refine w4 fun _ _ _ => ?_ | refine w11 fun _ _ _ => ?_ | refine stb_n ?_)) | ((with_reducible refine w2 ?_); try simp -implicitDefEqProofs only [EN, lsub, lget, stL, beq_self_eq_true, ne_eq, if_true, if_false, List.cons_append, List.nil_append, Option.isNone_some, Option.isNone_none, ei, hy, eq4, ern, er4, f3, f2, f1, f00, fj]; intro _ _) | ((with_reducible (first | refine w5 ?_ ?_ | refine w6 ?_ ?_ | refine w7 ?_ ?_)); simp; refine ⟨_, rfl, ?_⟩) | ((with_reducible (first | refine w8 ?_ ?_ ?_ | refine w9 ?_ ?_ ?_ | refine w10 ?_ ?_ ?_)); exact rfl; simp) | ((with_reducible refine w12 ?_ ?_ ?_ fun _ _ => ?_); simp; simp; simp [oneC]) | ((with_reducible (first | refine eqs ?_ | refine nes ?_)); refine ⟨_, rfl, ?_⟩) | ((refine okF_i (bldP_eq rfl) ?_); try simp only [BLS, List.take_succ_cons, List.take_zero, List.drop_succ_cons, List.drop_zero, List.cons_append, List.nil_append, Nat.reduceAdd])) | simp -implicitDefEqProofs only [EN, lsub, lget, stL, beq_self_eq_true, ne_eq, if_true, if_false, List.cons_append, List.nil_append, Option.isNone_some, Option.isNone_none, ei, hy, eq4, ern, er4, f3, f2, f1, f00, fj]))
        refine leadPhase (X := X) (by first | assumption | exact St.tick (by assumption) | exact St.tick (St.tick (by assumption))) fun W5 h => ?_
        by_cases h5 : X.phase = 5
        · have f5 := decide_eq_true h5
          (repeat (first | (first | (with_reducible (first | refine w1 fun _ _ => ?_ | refine w3 fun _ _ _ => ?_ | refine w4 fun _ _ _ => ?_ | refine w11 fun _ _ _ => ?_ | refine stb_n ?_)) | ((with_reducible refine w2 ?_); try simp -implicitDefEqProofs only [EN, lsub, lget, stL, beq_self_eq_true, ne_eq, if_true, if_false, List.cons_append, List.nil_append, Option.isNone_some, Option.isNone_none, f5]; intro _ _) | ((with_reducible (first | refine w5 ?_ ?_ | refine w6 ?_ ?_ | refine w7 ?_ ?_)); simp; refine ⟨_, rfl, ?_⟩) | ((with_reducible (first | refine w8 ?_ ?_ ?_ | refine w9 ?_ ?_ ?_ | refine w10 ?_ ?_ ?_)); exact rfl; simp) | ((with_reducible refine w12 ?_ ?_ ?_ fun _ _ => ?_); simp; simp; simp [oneC]) | ((with_reducible (first | refine eqs ?_ | refine nes ?_)); refine ⟨_, rfl, ?_⟩) | ((refine okF_i (bldP_eq rfl) ?_); try simp only [BLS, List.take_succ_cons, List.take_zero, List.drop_succ_cons, List.drop_zero, List.cons_append, List.nil_append, Nat.reduceAdd])) | simp -implicitDefEqProofs only [EN, lsub, lget, stL, beq_self_eq_true, ne_eq, if_true, if_false, List.cons_append, List.nil_append, Option.isNone_some, Option.isNone_none, f5]))
          exact hJ7 X o es _ hts (St.wk (by first | assumption | exact St.tick (by assumption) | exact St.tick (St.tick (by assumption))))
        have f5 := decide_eq_false h5
        (repeat (first | (first | (with_reducible (first | refine w1 fun _ _ => ?_ | refine w3 fun _ _ _ => ?_ | refine w4 fun _ _ _ => ?_ | refine w11 fun _ _ _ => ?_ | refine stb_n ?_)) | ((with_reducible refine w2 ?_); try simp -implicitDefEqProofs only [EN, lsub, lget, stL, beq_self_eq_true, ne_eq, if_true, if_false, List.cons_append, List.nil_append, Option.isNone_some, Option.isNone_none, f5]; intro _ _) | ((with_reducible (first | refine w5 ?_ ?_ | refine w6 ?_ ?_ | refine w7 ?_ ?_)); simp; refine ⟨_, rfl, ?_⟩) | ((with_reducible (first | refine w8 ?_ ?_ ?_ | refine w9 ?_ ?_ ?_ | refine w10 ?_ ?_ ?_)); exact rfl; simp) | ((with_reducible refine w12 ?_ ?_ ?_ fun _ _ => ?_); simp; simp; simp [oneC]) | ((with_reducible (first | refine eqs ?_ | refine nes ?_)); refine ⟨_, rfl, ?_⟩) | ((refine okF_i (bldP_eq rfl) ?_); try simp only [BLS, List.take_succ_cons, List.take_zero, List.drop_succ_cons, List.drop_zero, List.cons_append, List.nil_append, Nat.reduceAdd])) | simp -implicitDefEqProofs only [EN, lsub, lget, stL, beq_self_eq_true, ne_eq, if_true, if_false, List.cons_append, List.nil_append, Option.isNone_some, Option.isNone_none, f5]))
        refine joinK_i ?_
        (repeat (first | (first | (with_reducible (first | refine w1 fun _ _ => ?_ | refine w3 fun _ _ _ => ?_ | refine w4 fun _ _ _ => ?_ | refine w11 fun _ _ _ => ?_ | refine stb_n ?_)) | ((with_reducible refine w2 ?_); try simp -implicitDefEqProofs only [EN, lsub, lget, stL, beq_self_eq_true, ne_eq, if_true, if_false, List.cons_append, List.nil_append, Option.isNone_some, Option.isNone_none, eij]; intro _ _) | ((with_reducible (first | refine w5 ?_ ?_ | refine w6 ?_ ?_ | refine w7 ?_ ?_)); simp; refine ⟨_, rfl, ?_⟩) | ((with_reducible (first | refine w8 ?_ ?_ ?_ | refine w9 ?_ ?_ ?_ | refine w10 ?_ ?_ ?_)); exact rfl; simp) | ((with_reducible refine w12 ?_ ?_ ?_ fun _ _ => ?_); simp; simp; simp [oneC]) | ((with_reducible (first | refine eqs ?_ | refine nes ?_)); refine ⟨_, rfl, ?_⟩) | ((refine okF_i (bldP_eq rfl) ?_); try simp only [BLS, List.take_succ_cons, List.take_zero, List.drop_succ_cons, List.drop_zero, List.cons_append, List.nil_append, Nat.reduceAdd])) | simp -implicitDefEqProofs only [EN, lsub, lget, stL, beq_self_eq_true, ne_eq, if_true, if_false, List.cons_append, List.nil_append, Option.isNone_some, Option.isNone_none, eij]))
        refine ld (v := tptr e.1) (by first | assumption | exact St.tick (by assumption) | exact St.tick (St.tick (by assumption))) (tp5_get hue) (by simp) ?_
        have hj9 : ∀ (m' : Msg BSl) (a : Ans BSl) (ab : Nat) W', m'.map BSl.bs = X.abs.msg → a.rc.cmd.bs.length < 1099511627776 → a.map BSl.bs = (tdo e.2 (m'.map BSl.bs)).2.1 →
            St W [cells ab [.bool a.ok, .int .i64 a.bal.1, .int .i64 a.bal.2, .int .i64 a.rc.st, a.rc.cmd.v, .int .i64 a.rc.seq, .int .i64 a.rc.deps.x0, .int .i64 a.rc.deps.x1, .int .i64 a.rc.deps.x2, .int .i64 a.rc.deps.x3, .int .i64 a.rc.deps.x4, .int .i64 a.rc.deps.x5, .int .i64 a.rc.deps.x6, .int .i64 a.rc.bal.1, .int .i64 a.rc.bal.2, .int .i64 a.rc.ab.1, .int .i64 a.rc.ab.2] T_inst_Answer, fch a.rc.cmd, cells ub (tp5 us) T_a5_p_inst_Table, tbs (es.set j (e.1, (tdo e.2 (m'.map BSl.bs)).1)), ldc q X, obc o, cells db [.int .i64 (f : Int), .int .i64 1] T_api_Dot] W' →
            S.rostrumlaw21_LeadTwo.j9 (fun s W => S.rostrumlaw21_LeadTwo.j7 K (nthv s 0) (nthv s 1) (nthv s 2) (nthv s 3) (nthv s 4) (nthv s 5) (nthv s 6) (nthv s 7) (nthv s 8) W) (.int .i64 n) (.int .i64 (f : Int)) (.int .i64 (g : Int)) (.slice (some ⟨gg, oo, none⟩) l.length lc) (.pointer (some ⟨ub, 0, none⟩)) (.pointer (some ⟨db, 0, none⟩)) (.pointer (some ⟨q, 0, none⟩)) (PT o) (.int .i64 i) (.int .i64 j) (.pointer (some ⟨ab, 0, none⟩)) W' := by
          intro m' a ab W' hm hal ha h
          unfold S.rostrumlaw21_LeadTwo.j9
          (repeat (first | (first | (with_reducible (first | refine w1 fun _ _ => ?_ | refine w3 fun _ _ _ => ?_ | refine w4 fun _ _ _ => ?_ | refine w11 fun _ _ _ => ?_ | refine stb_n ?_)) | ((with_reducible refine w2 ?_); try simp -implicitDefEqProofs only [EN, lsub, lget, stL, beq_self_eq_true, ne_eq, if_true, if_false, List.cons_append, List.nil_append, Option.isNone_some, Option.isNone_none]; intro _ _) | ((with_reducible (first | refine w5 ?_ ?_ | refine w6 ?_ ?_ | refine w7 ?_ ?_)); simp; refine ⟨_, rfl, ?_⟩) | ((with_reducible (first | refine w8 ?_ ?_ ?_ | refine w9 ?_ ?_ ?_ | refine w10 ?_ ?_ ?_)); exact rfl; simp) | ((with_reducible refine w12 ?_ ?_ ?_ fun _ _ => ?_); simp; simp; simp [oneC]) | ((with_reducible (first | refine eqs ?_ | refine nes ?_)); refine ⟨_, rfl, ?_⟩) | ((refine okF_i (bldP_eq rfl) ?_); try simp only [BLS, List.take_succ_cons, List.take_zero, List.drop_succ_cons, List.drop_zero, List.cons_append, List.nil_append, Nat.reduceAdd])) | simp -implicitDefEqProofs only [EN, lsub, lget, stL, beq_self_eq_true, ne_eq, if_true, if_false, List.cons_append, List.nil_append, Option.isNone_some, Option.isNone_none]))
          have hf1 : (es.set j (e.1, (tdo e.2 (m'.map BSl.bs)).1))[f]? = some (X.t, esU es f) := by rw [List.getElem?_set, if_neg (by omega)]; exact hts.af
          refine tabGot hf1 (X := X) (a := a) (St.wk (L' := tbs (es.set j (e.1, (tdo e.2 (m'.map BSl.bs)).1)) :: ldc q X :: [fch a.rc.cmd, cells ub (tp5 us) T_a5_p_inst_Table, obc o, cells db [.int .i64 (f : Int), .int .i64 1] T_api_Dot]) (by first | assumption | exact St.tick (by assumption) | exact St.tick (St.tick (by assumption)))) hal fun X1 W6 e2 e3 h => ?_
          rw [ha, hm] at e3 h
          exact hJ7 X1 o _ _ (hts.aturn E (by omega) (by omega) h5 he e2 e3) (St.wk h)
        refine ⟨?_, ?_⟩
        · refine leadMsg (X := X) (by first | assumption | exact St.tick (by assumption) | exact St.tick (St.tick (by assumption))) fun m' W5 hm hml h => ?_
          refine stb_ld (by first | assumption | exact St.tick (by assumption) | exact St.tick (St.tick (by assumption))) (tp5_get hue) (by simp) (stb_n ?_)
          refine ⟨?_, ?_⟩
          · refine tabDo he (m := m') (by first | assumption | exact St.tick (by assumption) | exact St.tick (St.tick (by assumption))) hml fun a W6 hal ha h => ?_
            (repeat (first | (first | (with_reducible (first | refine w1 fun _ _ => ?_ | refine w3 fun _ _ _ => ?_ | refine w4 fun _ _ _ => ?_ | refine w11 fun _ _ _ => ?_ | refine stb_n ?_)) | ((with_reducible refine w2 ?_); try simp -implicitDefEqProofs only [EN, lsub, lget, stL, beq_self_eq_true, ne_eq, if_true, if_false, List.cons_append, List.nil_append, Option.isNone_some, Option.isNone_none]; intro _ _) | ((with_reducible (first | refine w5 ?_ ?_ | refine w6 ?_ ?_ | refine w7 ?_ ?_)); simp; refine ⟨_, rfl, ?_⟩) | ((with_reducible (first | refine w8 ?_ ?_ ?_ | refine w9 ?_ ?_ ?_ | refine w10 ?_ ?_ ?_)); exact rfl; simp) | ((with_reducible refine w12 ?_ ?_ ?_ fun _ _ => ?_); simp; simp; simp [oneC]) | ((with_reducible (first | refine eqs ?_ | refine nes ?_)); refine ⟨_, rfl, ?_⟩) | ((refine okF_i (bldP_eq rfl) ?_); try simp only [BLS, List.take_succ_cons, List.take_zero, List.drop_succ_cons, List.drop_zero, List.cons_append, List.nil_append, Nat.reduceAdd])) | simp -implicitDefEqProofs only [EN, lsub, lget, stL, beq_self_eq_true, ne_eq, if_true, if_false, List.cons_append, List.nil_append, Option.isNone_some, Option.isNone_none]))
            rename_i h
            (try simp only [BLS, List.take_succ_cons, List.take_zero, List.drop_succ_cons, List.drop_zero, List.cons_append, List.nil_append, List.append_nil, List.take_nil, List.drop_nil, stL, Nat.reduceAdd] at h)
            exact hj9 m' a _ _ hm hal ha (St.wk h)
          · (repeat (first | (first | (with_reducible (first | refine w1 fun _ _ => ?_ | refine w3 fun _ _ _ => ?_ | refine w4 fun _ _ _ => ?_ | refine w11 fun _ _ _ => ?_ | refine stb_n ?_)) | ((with_reducible refine w2 ?_); try simp -implicitDefEqProofs only [EN, lsub, lget, stL, beq_self_eq_true, ne_eq, if_true, if_false, List.cons_append, List.nil_append, Option.isNone_some, Option.isNone_none]; intro _ _) | ((with_reducible (first | refine w5 ?_ ?_ | refine w6 ?_ ?_ | refine w7 ?_ ?_)); simp; refine ⟨_, rfl, ?_⟩) | ((with_reducible (first | refine w8 ?_ ?_ ?_ | refine w9 ?_ ?_ ?_ | refine w10 ?_ ?_ ?_)); exact rfl; simp) | ((with_reducible refine w12 ?_ ?_ ?_ fun _ _ => ?_); simp; simp; simp [oneC]) | ((with_reducible (first | refine eqs ?_ | refine nes ?_)); refine ⟨_, rfl, ?_⟩) | ((refine okF_i (bldP_eq rfl) ?_); try simp only [BLS, List.take_succ_cons, List.take_zero, List.drop_succ_cons, List.drop_zero, List.cons_append, List.nil_append, Nat.reduceAdd])) | simp -implicitDefEqProofs only [EN, lsub, lget, stL, beq_self_eq_true, ne_eq, if_true, if_false, List.cons_append, List.nil_append, Option.isNone_some, Option.isNone_none]))
            refine stb_ld (by first | assumption | exact St.tick (by assumption) | exact St.tick (St.tick (by assumption))) (tp5_get hue) (by simp) (stb_n ?_)
            refine tabDo he (m := m') (by first | assumption | exact St.tick (by assumption) | exact St.tick (St.tick (by assumption))) hml fun a W6 hal ha h => ?_
            (repeat (first | (first | (with_reducible (first | refine w1 fun _ _ => ?_ | refine w3 fun _ _ _ => ?_ | refine w4 fun _ _ _ => ?_ | refine w11 fun _ _ _ => ?_ | refine stb_n ?_)) | ((with_reducible refine w2 ?_); try simp -implicitDefEqProofs only [EN, lsub, lget, stL, beq_self_eq_true, ne_eq, if_true, if_false, List.cons_append, List.nil_append, Option.isNone_some, Option.isNone_none]; intro _ _) | ((with_reducible (first | refine w5 ?_ ?_ | refine w6 ?_ ?_ | refine w7 ?_ ?_)); simp; refine ⟨_, rfl, ?_⟩) | ((with_reducible (first | refine w8 ?_ ?_ ?_ | refine w9 ?_ ?_ ?_ | refine w10 ?_ ?_ ?_)); exact rfl; simp) | ((with_reducible refine w12 ?_ ?_ ?_ fun _ _ => ?_); simp; simp; simp [oneC]) | ((with_reducible (first | refine eqs ?_ | refine nes ?_)); refine ⟨_, rfl, ?_⟩) | ((refine okF_i (bldP_eq rfl) ?_); try simp only [BLS, List.take_succ_cons, List.take_zero, List.drop_succ_cons, List.drop_zero, List.cons_append, List.nil_append, Nat.reduceAdd])) | simp -implicitDefEqProofs only [EN, lsub, lget, stL, beq_self_eq_true, ne_eq, if_true, if_false, List.cons_append, List.nil_append, Option.isNone_some, Option.isNone_none]))
            rename_i h
            (try simp only [BLS, List.take_succ_cons, List.take_zero, List.drop_succ_cons, List.drop_zero, List.cons_append, List.nil_append, List.append_nil, List.take_nil, List.drop_nil, stL, Nat.reduceAdd] at h)
            exact hj9 m' a _ _ hm hal ha (St.wk h)
        · (repeat (first | (first | (with_reducible (first | refine w1 fun _ _ => ?_ | refine w3 fun _ _ _ => ?_ | refine w4 fun _ _ _ => ?_ | refine w11 fun _ _ _ => ?_ | refine stb_n ?_)) | ((with_reducible refine w2 ?_); try simp -implicitDefEqProofs only [EN, lsub, lget, stL, beq_self_eq_true, ne_eq, if_true, if_false, List.cons_append, List.nil_append, Option.isNone_some, Option.isNone_none]; intro _ _) | ((with_reducible (first | refine w5 ?_ ?_ | refine w6 ?_ ?_ | refine w7 ?_ ?_)); simp; refine ⟨_, rfl, ?_⟩) | ((with_reducible (first | refine w8 ?_ ?_ ?_ | refine w9 ?_ ?_ ?_ | refine w10 ?_ ?_ ?_)); exact rfl; simp) | ((with_reducible refine w12 ?_ ?_ ?_ fun _ _ => ?_); simp; simp; simp [oneC]) | ((with_reducible (first | refine eqs ?_ | refine nes ?_)); refine ⟨_, rfl, ?_⟩) | ((refine okF_i (bldP_eq rfl) ?_); try simp only [BLS, List.take_succ_cons, List.take_zero, List.drop_succ_cons, List.drop_zero, List.cons_append, List.nil_append, Nat.reduceAdd])) | simp -implicitDefEqProofs only [EN, lsub, lget, stL, beq_self_eq_true, ne_eq, if_true, if_false, List.cons_append, List.nil_append, Option.isNone_some, Option.isNone_none]))
          refine stb_ld (by first | assumption | exact St.tick (by assumption) | exact St.tick (St.tick (by assumption))) (tp5_get hue) (by simp) (stb_n ?_)
          refine leadMsg (X := X) (by first | assumption | exact St.tick (by assumption) | exact St.tick (St.tick (by assumption))) fun m' W5 hm hml h => ?_
          refine stb_ld (by first | assumption | exact St.tick (by assumption) | exact St.tick (St.tick (by assumption))) (tp5_get hue) (by simp) (stb_n ?_)
          refine tabDo he (m := m') (by first | assumption | exact St.tick (by assumption) | exact St.tick (St.tick (by assumption))) hml fun a W6 hal ha h => ?_
          (repeat (first | (first | (with_reducible (first | refine w1 fun _ _ => ?_ | refine w3 fun _ _ _ => ?_ | refine w4 fun _ _ _ => ?_ | refine w11 fun _ _ _ => ?_ | refine stb_n ?_)) | ((with_reducible refine w2 ?_); try simp -implicitDefEqProofs only [EN, lsub, lget, stL, beq_self_eq_true, ne_eq, if_true, if_false, List.cons_append, List.nil_append, Option.isNone_some, Option.isNone_none]; intro _ _) | ((with_reducible (first | refine w5 ?_ ?_ | refine w6 ?_ ?_ | refine w7 ?_ ?_)); simp; refine ⟨_, rfl, ?_⟩) | ((with_reducible (first | refine w8 ?_ ?_ ?_ | refine w9 ?_ ?_ ?_ | refine w10 ?_ ?_ ?_)); exact rfl; simp) | ((with_reducible refine w12 ?_ ?_ ?_ fun _ _ => ?_); simp; simp; simp [oneC]) | ((with_reducible (first | refine eqs ?_ | refine nes ?_)); refine ⟨_, rfl, ?_⟩) | ((refine okF_i (bldP_eq rfl) ?_); try simp only [BLS, List.take_succ_cons, List.take_zero, List.drop_succ_cons, List.drop_zero, List.cons_append, List.nil_append, Nat.reduceAdd])) | simp -implicitDefEqProofs only [EN, lsub, lget, stL, beq_self_eq_true, ne_eq, if_true, if_false, List.cons_append, List.nil_append, Option.isNone_some, Option.isNone_none]))
          rename_i h
          (try simp only [BLS, List.take_succ_cons, List.take_zero, List.drop_succ_cons, List.drop_zero, List.cons_append, List.nil_append, List.append_nil, List.take_nil, List.drop_nil, stL, Nat.reduceAdd] at h)
          exact hj9 m' a _ _ hm hal ha (St.wk h)
    have f00 : decide ((k4 : Int) = 0) = false := decide_eq_false (by omega)
    by_cases k1 : k4 = 1
    · have f1 : decide ((k4 : Int) = 1) = true := decide_eq_true (by omega)
      cases o with
      | none =>
        (repeat (first | (first | (with_reducible (first | refine w1 fun _ _ => ?_ | refine w3 fun _ _ _ => ?_ | refine w4 fun _ _ _ => ?_ | refine w11 fun _ _ _ => ?_ | refine stb_n ?_)) | ((with_reducible refine w2 ?_); try simp -implicitDefEqProofs only [EN, lsub, lget, stL, beq_self_eq_true, ne_eq, if_true, if_false, List.cons_append, List.nil_append, Option.isNone_some, Option.isNone_none, ei, hy, eq4, ern, er4, f3, f2, f1, f00]; intro _ _) | ((with_reducible (first | refine w5 ?_ ?_ | refine w6 ?_ ?_ | refine w7 ?_ ?_)); simp; refine ⟨_, rfl, ?_⟩) | ((with_reducible (first | refine w8 ?_ ?_ ?_ | refine w9 ?_ ?_ ?_ | refine w10 ?_ ?_ ?_)); exact rfl; simp) | ((with_reducible refine w12 ?_ ?_ ?_ fun _ _ => ?_); simp; simp; simp [oneC]) | ((with_reducible (first | refine eqs ?_ | refine nes ?_)); refine ⟨_, rfl, ?_⟩) | ((refine okF_i (bldP_eq rfl) ?_); try simp only [BLS, List.take_succ_cons, List.take_zero, List.drop_succ_cons, List.drop_zero, List.cons_append, List.nil_append, Nat.reduceAdd])) | simp -implicitDefEqProofs only [EN, lsub, lget, stL, beq_self_eq_true, ne_eq, if_true, if_false, List.cons_append, List.nil_append, Option.isNone_some, Option.isNone_none, ei, hy, eq4, ern, er4, f3, f2, f1, f00]))
        exact hJ7 X none es _ hts (by first | assumption | exact St.tick (by assumption) | exact St.tick (St.tick (by assumption)))
      | some p =>
        obtain ⟨q2, Y2⟩ := p
        simp only [PT, Option.map_some]
        by_cases hjg : (j : Int) = g
        · have fj := decide_eq_true hjg
          (repeat (first | (first | (with_reducible (first | refine w1 fun _ _ => ?_ | refine w3 fun _ _ _ => ?_ | refine w4 fun _ _ _ => ?_ | refine w11 fun _ _ _ => ?_ | refine stb_n ?_)) | ((with_reducible refine w2 ?_); try simp -implicitDefEqProofs only [EN, lsub, lget, stL, beq_self_eq_true, ne_eq, if_true, if_false, List.cons_append, List.nil_append, Option.isNone_some, Option.isNone_none, ei, hy, eq4, ern, er4, f3, f2, f1, f00, fj]; intro _ _) | ((with_reducible (first | refine w5 ?_ ?_ | refine w6 ?_ ?_ | refine w7 ?_ ?_)); simp; refine ⟨_, rfl, ?_⟩) | ((with_reducible (first | refine w8 ?_ ?_ ?_ | refine w9 ?_ ?_ ?_ | refine w10 ?_ ?_ ?_)); exact rfl; simp) | ((with_reducible refine w12 ?_ ?_ ?_ fun _ _ => ?_); simp; simp; simp [oneC]) | ((with_reducible (first | refine eqs ?_ | refine nes ?_)); refine ⟨_, rfl, ?_⟩) | ((refine okF_i (bldP_eq rfl) ?_); try simp only [BLS, List.take_succ_cons, List.take_zero, List.drop_succ_cons, List.drop_zero, List.cons_append, List.nil_append, Nat.reduceAdd])) | simp -implicitDefEqProofs only [EN, lsub, lget, stL, beq_self_eq_true, ne_eq, if_true, if_false, List.cons_append, List.nil_append, Option.isNone_some, Option.isNone_none, ei, hy, eq4, ern, er4, f3, f2, f1, f00, fj]))
          exact hJ7 X _ es _ hts (by first | assumption | exact St.tick (by assumption) | exact St.tick (St.tick (by assumption)))
        · have fj := decide_eq_false hjg
          have h : St W [ldc q2 Y2, cells ub (tp5 us) T_a5_p_inst_Table, tbs es, ldc q X, cells db [.int .i64 (f : Int), .int .i64 1] T_api_Dot] W2 := obc_st (St.perm h (List.perm_middle (l₁ := [_, _, _]) (l₂ := [_])))
          (repeat (first | (first | (with_reducible (first | refine w1 fun _ _ => ?_ | refine w3 fun _ _ _ => ?_ | refine w4 fun _ _ _ => ?_ | refine w11 fun _ _ _ => ?_ | refine stb_n ?_)) | ((with_reducible refine w2 ?_); try simp -implicitDefEqProofs only [EN, lsub, lget, stL, beq_self_eq_true, ne_eq, if_true, if_false, List.cons_append, List.nil_append, Option.isNone_some, Option.isNone_none, ei, hy, eq4, ern, er4, f3, f2, f1, f00, fj]; intro _ _) | ((with_reducible (first | refine w5 ?_ ?_ | refine w6 ?_ ?_ | refine w7 ?_ ?_)); simp; refine ⟨_, rfl, ?_⟩) | ((with_reducible (first | refine w8 ?_ ?_ ?_ | refine w9 ?_ ?_ ?_ | refine w10 ?_ ?_ ?_)); exact rfl; simp) | ((with_reducible refine w12 ?_ ?_ ?_ fun _ _ => ?_); simp; simp; simp [oneC]) | ((with_reducible (first | refine eqs ?_ | refine nes ?_)); refine ⟨_, rfl, ?_⟩) | ((refine okF_i (bldP_eq rfl) ?_); try simp only [BLS, List.take_succ_cons, List.take_zero, List.drop_succ_cons, List.drop_zero, List.cons_append, List.nil_append, Nat.reduceAdd])) | simp -implicitDefEqProofs only [EN, lsub, lget, stL, beq_self_eq_true, ne_eq, if_true, if_false, List.cons_append, List.nil_append, Option.isNone_some, Option.isNone_none, ei, hy, eq4, ern, er4, f3, f2, f1, f00, fj]))
          refine leadPhase (X := Y2) (by first | assumption | exact St.tick (by assumption) | exact St.tick (St.tick (by assumption))) fun W5 h => ?_
          by_cases h5 : Y2.phase = 5
          · have f5 := decide_eq_true h5
            (repeat (first | (first | (with_reducible (first | refine w1 fun _ _ => ?_ | refine w3 fun _ _ _ => ?_ | refine w4 fun _ _ _ => ?_ | refine w11 fun _ _ _ => ?_ | refine stb_n ?_)) | ((with_reducible refine w2 ?_); try simp -implicitDefEqProofs only [EN, lsub, lget, stL, beq_self_eq_true, ne_eq, if_true, if_false, List.cons_append, List.nil_append, Option.isNone_some, Option.isNone_none, f5]; intro _ _) | ((with_reducible (first | refine w5 ?_ ?_ | refine w6 ?_ ?_ | refine w7 ?_ ?_)); simp; refine ⟨_, rfl, ?_⟩) | ((with_reducible (first | refine w8 ?_ ?_ ?_ | refine w9 ?_ ?_ ?_ | refine w10 ?_ ?_ ?_)); exact rfl; simp) | ((with_reducible refine w12 ?_ ?_ ?_ fun _ _ => ?_); simp; simp; simp [oneC]) | ((with_reducible (first | refine eqs ?_ | refine nes ?_)); refine ⟨_, rfl, ?_⟩) | ((refine okF_i (bldP_eq rfl) ?_); try simp only [BLS, List.take_succ_cons, List.take_zero, List.drop_succ_cons, List.drop_zero, List.cons_append, List.nil_append, Nat.reduceAdd])) | simp -implicitDefEqProofs only [EN, lsub, lget, stL, beq_self_eq_true, ne_eq, if_true, if_false, List.cons_append, List.nil_append, Option.isNone_some, Option.isNone_none, f5]))
            exact hJ7 X (some (q2, Y2)) es _ hts ((St.wk (L' := ldc q2 Y2 :: [cells ub (tp5 us) T_a5_p_inst_Table, tbs es, ldc q X, cells db [.int .i64 (f : Int), .int .i64 1] T_api_Dot]) (by first | assumption | exact St.tick (by assumption) | exact St.tick (St.tick (by assumption)))).ent (obc_ent (p := (q2, Y2))) |>.perm (List.perm_middle (l₁ := [_, _, _]) (l₂ := [_])).symm)
          have f5 := decide_eq_false h5
          (repeat (first | (first | (with_reducible (first | refine w1 fun _ _ => ?_ | refine w3 fun _ _ _ => ?_ | refine w4 fun _ _ _ => ?_ | refine w11 fun _ _ _ => ?_ | refine stb_n ?_)) | ((with_reducible refine w2 ?_); try simp -implicitDefEqProofs only [EN, lsub, lget, stL, beq_self_eq_true, ne_eq, if_true, if_false, List.cons_append, List.nil_append, Option.isNone_some, Option.isNone_none, f5]; intro _ _) | ((with_reducible (first | refine w5 ?_ ?_ | refine w6 ?_ ?_ | refine w7 ?_ ?_)); simp; refine ⟨_, rfl, ?_⟩) | ((with_reducible (first | refine w8 ?_ ?_ ?_ | refine w9 ?_ ?_ ?_ | refine w10 ?_ ?_ ?_)); exact rfl; simp) | ((with_reducible refine w12 ?_ ?_ ?_ fun _ _ => ?_); simp; simp; simp [oneC]) | ((with_reducible (first | refine eqs ?_ | refine nes ?_)); refine ⟨_, rfl, ?_⟩) | ((refine okF_i (bldP_eq rfl) ?_); try simp only [BLS, List.take_succ_cons, List.take_zero, List.drop_succ_cons, List.drop_zero, List.cons_append, List.nil_append, Nat.reduceAdd])) | simp -implicitDefEqProofs only [EN, lsub, lget, stL, beq_self_eq_true, ne_eq, if_true, if_false, List.cons_append, List.nil_append, Option.isNone_some, Option.isNone_none, f5]))
          refine joinK_i ?_
          (repeat (first | (first | (with_reducible (first | refine w1 fun _ _ => ?_ | refine w3 fun _ _ _ => ?_ | refine w4 fun _ _ _ => ?_ | refine w11 fun _ _ _ => ?_ | refine stb_n ?_)) | ((with_reducible refine w2 ?_); try simp -implicitDefEqProofs only [EN, lsub, lget, stL, beq_self_eq_true, ne_eq, if_true, if_false, List.cons_append, List.nil_append, Option.isNone_some, Option.isNone_none, eij]; intro _ _) | ((with_reducible (first | refine w5 ?_ ?_ | refine w6 ?_ ?_ | refine w7 ?_ ?_)); simp; refine ⟨_, rfl, ?_⟩) | ((with_reducible (first | refine w8 ?_ ?_ ?_ | refine w9 ?_ ?_ ?_ | refine w10 ?_ ?_ ?_)); exact rfl; simp) | ((with_reducible refine w12 ?_ ?_ ?_ fun _ _ => ?_); simp; simp; simp [oneC]) | ((with_reducible (first | refine eqs ?_ | refine nes ?_)); refine ⟨_, rfl, ?_⟩) | ((refine okF_i (bldP_eq rfl) ?_); try simp only [BLS, List.take_succ_cons, List.take_zero, List.drop_succ_cons, List.drop_zero, List.cons_append, List.nil_append, Nat.reduceAdd])) | simp -implicitDefEqProofs only [EN, lsub, lget, stL, beq_self_eq_true, ne_eq, if_true, if_false, List.cons_append, List.nil_append, Option.isNone_some, Option.isNone_none, eij]))
          refine ld (v := tptr e.1) (by first | assumption | exact St.tick (by assumption) | exact St.tick (St.tick (by assumption))) (tp5_get hue) (by simp) ?_
          have hj8 : ∀ (m' : Msg BSl) (a : Ans BSl) (ab : Nat) W', m'.map BSl.bs = Y2.abs.msg → a.rc.cmd.bs.length < 1099511627776 → a.map BSl.bs = (tdo e.2 (m'.map BSl.bs)).2.1 →
              St W [cells ab [.bool a.ok, .int .i64 a.bal.1, .int .i64 a.bal.2, .int .i64 a.rc.st, a.rc.cmd.v, .int .i64 a.rc.seq, .int .i64 a.rc.deps.x0, .int .i64 a.rc.deps.x1, .int .i64 a.rc.deps.x2, .int .i64 a.rc.deps.x3, .int .i64 a.rc.deps.x4, .int .i64 a.rc.deps.x5, .int .i64 a.rc.deps.x6, .int .i64 a.rc.bal.1, .int .i64 a.rc.bal.2, .int .i64 a.rc.ab.1, .int .i64 a.rc.ab.2] T_inst_Answer, fch a.rc.cmd, cells ub (tp5 us) T_a5_p_inst_Table, tbs (es.set j (e.1, (tdo e.2 (m'.map BSl.bs)).1)), ldc q2 Y2, ldc q X, cells db [.int .i64 (f : Int), .int .i64 1] T_api_Dot] W' →
              S.rostrumlaw21_LeadTwo.j8 (fun s W => S.rostrumlaw21_LeadTwo.j7 K (nthv s 0) (nthv s 1) (nthv s 2) (nthv s 3) (nthv s 4) (nthv s 5) (nthv s 6) (nthv s 7) (nthv s 8) W) (.int .i64 n) (.int .i64 (f : Int)) (.int .i64 (g : Int)) (.slice (some ⟨gg, oo, none⟩) l.length lc) (.pointer (some ⟨ub, 0, none⟩)) (.pointer (some ⟨db, 0, none⟩)) (.pointer (some ⟨q, 0, none⟩)) (PT (some (q2, Y2))) (.int .i64 i) (.int .i64 j) (.pointer (some ⟨ab, 0, none⟩)) W' := by
            intro m' a ab W' hm hal ha h
            unfold S.rostrumlaw21_LeadTwo.j8
            (repeat (first | (first | (with_reducible (first | refine w1 fun _ _ => ?_ | refine w3 fun _ _ _ => ?_ | refine w4 fun _ _ _ => ?_ | refine w11 fun _ _ _ => ?_ | refine stb_n ?_)) | ((with_reducible refine w2 ?_); try simp -implicitDefEqProofs only [EN, lsub, lget, stL, beq_self_eq_true, ne_eq, if_true, if_false, List.cons_append, List.nil_append, Option.isNone_some, Option.isNone_none]; intro _ _) | ((with_reducible (first | refine w5 ?_ ?_ | refine w6 ?_ ?_ | refine w7 ?_ ?_)); simp; refine ⟨_, rfl, ?_⟩) | ((with_reducible (first | refine w8 ?_ ?_ ?_ | refine w9 ?_ ?_ ?_ | refine w10 ?_ ?_ ?_)); exact rfl; simp) | ((with_reducible refine w12 ?_ ?_ ?_ fun _ _ => ?_); simp; simp; simp [oneC]) | ((with_reducible (first | refine eqs ?_ | refine nes ?_)); refine ⟨_, rfl, ?_⟩) | ((refine okF_i (bldP_eq rfl) ?_); try simp only [BLS, List.take_succ_cons, List.take_zero, List.drop_succ_cons, List.drop_zero, List.cons_append, List.nil_append, Nat.reduceAdd])) | simp -implicitDefEqProofs only [EN, lsub, lget, stL, beq_self_eq_true, ne_eq, if_true, if_false, List.cons_append, List.nil_append, Option.isNone_some, Option.isNone_none]))
            have hf1 : (es.set j (e.1, (tdo e.2 (m'.map BSl.bs)).1))[g]? = some (Y2.t, esU es g) := by rw [List.getElem?_set, if_neg (by omega)]; exact hts.bg _ rfl
            refine tabGot hf1 (X := Y2) (a := a) (St.wk (L' := tbs (es.set j (e.1, (tdo e.2 (m'.map BSl.bs)).1)) :: ldc q2 Y2 :: [fch a.rc.cmd, cells ub (tp5 us) T_a5_p_inst_Table, ldc q X, cells db [.int .i64 (f : Int), .int .i64 1] T_api_Dot]) (by first | assumption | exact St.tick (by assumption) | exact St.tick (St.tick (by assumption)))) hal fun X1 W6 e2 e3 h => ?_
            rw [ha, hm] at e3 h
            exact hJ7 X (some (q2, X1)) _ _ (hts.bturn E (by omega) (by omega) h5 he e2 e3) ((St.wk (L' := ldc q2 X1 :: [cells ub (tp5 us) T_a5_p_inst_Table, tbs ((es.set j (e.1, (tdo e.2 Y2.abs.msg).1)).set g (Y2.t, (Y2.abs.got (esU es g) j (tdo e.2 Y2.abs.msg).2.1).1.2)), ldc q X, cells db [.int .i64 (f : Int), .int .i64 1] T_api_Dot]) h).ent (obc_ent (p := (q2, X1))) |>.perm (List.perm_middle (l₁ := [_, _, _]) (l₂ := [_])).symm)
          refine ⟨?_, ?_⟩
          · refine leadMsg (X := Y2) (by first | assumption | exact St.tick (by assumption) | exact St.tick (St.tick (by assumption))) fun m' W5 hm hml h => ?_
            refine stb_ld (by first | assumption | exact St.tick (by assumption) | exact St.tick (St.tick (by assumption))) (tp5_get hue) (by simp) (stb_n ?_)
            refine ⟨?_, ?_⟩
            · refine tabDo he (m := m') (by first | assumption | exact St.tick (by assumption) | exact St.tick (St.tick (by assumption))) hml fun a W6 hal ha h => ?_
              (repeat (first | (first | (with_reducible (first | refine w1 fun _ _ => ?_ | refine w3 fun _ _ _ => ?_ | refine w4 fun _ _ _ => ?_ | refine w11 fun _ _ _ => ?_ | refine stb_n ?_)) | ((with_reducible refine w2 ?_); try simp -implicitDefEqProofs only [EN, lsub, lget, stL, beq_self_eq_true, ne_eq, if_true, if_false, List.cons_append, List.nil_append, Option.isNone_some, Option.isNone_none]; intro _ _) | ((with_reducible (first | refine w5 ?_ ?_ | refine w6 ?_ ?_ | refine w7 ?_ ?_)); simp; refine ⟨_, rfl, ?_⟩) | ((with_reducible (first | refine w8 ?_ ?_ ?_ | refine w9 ?_ ?_ ?_ | refine w10 ?_ ?_ ?_)); exact rfl; simp) | ((with_reducible refine w12 ?_ ?_ ?_ fun _ _ => ?_); simp; simp; simp [oneC]) | ((with_reducible (first | refine eqs ?_ | refine nes ?_)); refine ⟨_, rfl, ?_⟩) | ((refine okF_i (bldP_eq rfl) ?_); try simp only [BLS, List.take_succ_cons, List.take_zero, List.drop_succ_cons, List.drop_zero, List.cons_append, List.nil_append, Nat.reduceAdd])) | simp -implicitDefEqProofs only [EN, lsub, lget, stL, beq_self_eq_true, ne_eq, if_true, if_false, List.cons_append, List.nil_append, Option.isNone_some, Option.isNone_none]))
              rename_i h
              (try simp only [BLS, List.take_succ_cons, List.take_zero, List.drop_succ_cons, List.drop_zero, List.cons_append, List.nil_append, List.append_nil, List.take_nil, List.drop_nil, stL, Nat.reduceAdd] at h)
              exact hj8 m' a _ _ hm hal ha (St.wk h)
            · (repeat (first | (first | (with_reducible (first | refine w1 fun _ _ => ?_ | refine w3 fun _ _ _ => ?_ | refine w4 fun _ _ _ => ?_ | refine w11 fun _ _ _ => ?_ | refine stb_n ?_)) | ((with_reducible refine w2 ?_); try simp -implicitDefEqProofs only [EN, lsub, lget, stL, beq_self_eq_true, ne_eq, if_true, if_false, List.cons_append, List.nil_append, Option.isNone_some, Option.isNone_none]; intro _ _) | ((with_reducible (first | refine w5 ?_ ?_ | refine w6 ?_ ?_ | refine w7 ?_ ?_)); simp; refine ⟨_, rfl, ?_⟩) | ((with_reducible (first | refine w8 ?_ ?_ ?_ | refine w9 ?_ ?_ ?_ | refine w10 ?_ ?_ ?_)); exact rfl; simp) | ((with_reducible refine w12 ?_ ?_ ?_ fun _ _ => ?_); simp; simp; simp [oneC]) | ((with_reducible (first | refine eqs ?_ | refine nes ?_)); refine ⟨_, rfl, ?_⟩) | ((refine okF_i (bldP_eq rfl) ?_); try simp only [BLS, List.take_succ_cons, List.take_zero, List.drop_succ_cons, List.drop_zero, List.cons_append, List.nil_append, Nat.reduceAdd])) | simp -implicitDefEqProofs only [EN, lsub, lget, stL, beq_self_eq_true, ne_eq, if_true, if_false, List.cons_append, List.nil_append, Option.isNone_some, Option.isNone_none]))
              refine stb_ld (by first | assumption | exact St.tick (by assumption) | exact St.tick (St.tick (by assumption))) (tp5_get hue) (by simp) (stb_n ?_)
              refine tabDo he (m := m') (by first | assumption | exact St.tick (by assumption) | exact St.tick (St.tick (by assumption))) hml fun a W6 hal ha h => ?_
              (repeat (first | (first | (with_reducible (first | refine w1 fun _ _ => ?_ | refine w3 fun _ _ _ => ?_ | refine w4 fun _ _ _ => ?_ | refine w11 fun _ _ _ => ?_ | refine stb_n ?_)) | ((with_reducible refine w2 ?_); try simp -implicitDefEqProofs only [EN, lsub, lget, stL, beq_self_eq_true, ne_eq, if_true, if_false, List.cons_append, List.nil_append, Option.isNone_some, Option.isNone_none]; intro _ _) | ((with_reducible (first | refine w5 ?_ ?_ | refine w6 ?_ ?_ | refine w7 ?_ ?_)); simp; refine ⟨_, rfl, ?_⟩) | ((with_reducible (first | refine w8 ?_ ?_ ?_ | refine w9 ?_ ?_ ?_ | refine w10 ?_ ?_ ?_)); exact rfl; simp) | ((with_reducible refine w12 ?_ ?_ ?_ fun _ _ => ?_); simp; simp; simp [oneC]) | ((with_reducible (first | refine eqs ?_ | refine nes ?_)); refine ⟨_, rfl, ?_⟩) | ((refine okF_i (bldP_eq rfl) ?_); try simp only [BLS, List.take_succ_cons, List.take_zero, List.drop_succ_cons, List.drop_zero, List.cons_append, List.nil_append, Nat.reduceAdd])) | simp -implicitDefEqProofs only [EN, lsub, lget, stL, beq_self_eq_true, ne_eq, if_true, if_false, List.cons_append, List.nil_append, Option.isNone_some, Option.isNone_none]))
              rename_i h
              (try simp only [BLS, List.take_succ_cons, List.take_zero, List.drop_succ_cons, List.drop_zero, List.cons_append, List.nil_append, List.append_nil, List.take_nil, List.drop_nil, stL, Nat.reduceAdd] at h)
              exact hj8 m' a _ _ hm hal ha (St.wk h)
          · (repeat (first | (first | (with_reducible (first | refine w1 fun _ _ => ?_ | refine w3 fun _ _ _ => ?_ | refine w4 fun _ _ _ => ?_ | refine w11 fun _ _ _ => ?_ | refine stb_n ?_)) | ((with_reducible refine w2 ?_); try simp -implicitDefEqProofs only [EN, lsub, lget, stL, beq_self_eq_true, ne_eq, if_true, if_false, List.cons_append, List.nil_append, Option.isNone_some, Option.isNone_none]; intro _ _) | ((with_reducible (first | refine w5 ?_ ?_ | refine w6 ?_ ?_ | refine w7 ?_ ?_)); simp; refine ⟨_, rfl, ?_⟩) | ((with_reducible (first | refine w8 ?_ ?_ ?_ | refine w9 ?_ ?_ ?_ | refine w10 ?_ ?_ ?_)); exact rfl; simp) | ((with_reducible refine w12 ?_ ?_ ?_ fun _ _ => ?_); simp; simp; simp [oneC]) | ((with_reducible (first | refine eqs ?_ | refine nes ?_)); refine ⟨_, rfl, ?_⟩) | ((refine okF_i (bldP_eq rfl) ?_); try simp only [BLS, List.take_succ_cons, List.take_zero, List.drop_succ_cons, List.drop_zero, List.cons_append, List.nil_append, Nat.reduceAdd])) | simp -implicitDefEqProofs only [EN, lsub, lget, stL, beq_self_eq_true, ne_eq, if_true, if_false, List.cons_append, List.nil_append, Option.isNone_some, Option.isNone_none]))
            refine stb_ld (by first | assumption | exact St.tick (by assumption) | exact St.tick (St.tick (by assumption))) (tp5_get hue) (by simp) (stb_n ?_)
            refine leadMsg (X := Y2) (by first | assumption | exact St.tick (by assumption) | exact St.tick (St.tick (by assumption))) fun m' W5 hm hml h => ?_
            refine stb_ld (by first | assumption | exact St.tick (by assumption) | exact St.tick (St.tick (by assumption))) (tp5_get hue) (by simp) (stb_n ?_)
            refine tabDo he (m := m') (by first | assumption | exact St.tick (by assumption) | exact St.tick (St.tick (by assumption))) hml fun a W6 hal ha h => ?_
            (repeat (first | (first | (with_reducible (first | refine w1 fun _ _ => ?_ | refine w3 fun _ _ _ => ?_ | refine w4 fun _ _ _ => ?_ | refine w11 fun _ _ _ => ?_ | refine stb_n ?_)) | ((with_reducible refine w2 ?_); try simp -implicitDefEqProofs only [EN, lsub, lget, stL, beq_self_eq_true, ne_eq, if_true, if_false, List.cons_append, List.nil_append, Option.isNone_some, Option.isNone_none]; intro _ _) | ((with_reducible (first | refine w5 ?_ ?_ | refine w6 ?_ ?_ | refine w7 ?_ ?_)); simp; refine ⟨_, rfl, ?_⟩) | ((with_reducible (first | refine w8 ?_ ?_ ?_ | refine w9 ?_ ?_ ?_ | refine w10 ?_ ?_ ?_)); exact rfl; simp) | ((with_reducible refine w12 ?_ ?_ ?_ fun _ _ => ?_); simp; simp; simp [oneC]) | ((with_reducible (first | refine eqs ?_ | refine nes ?_)); refine ⟨_, rfl, ?_⟩) | ((refine okF_i (bldP_eq rfl) ?_); try simp only [BLS, List.take_succ_cons, List.take_zero, List.drop_succ_cons, List.drop_zero, List.cons_append, List.nil_append, Nat.reduceAdd])) | simp -implicitDefEqProofs only [EN, lsub, lget, stL, beq_self_eq_true, ne_eq, if_true, if_false, List.cons_append, List.nil_append, Option.isNone_some, Option.isNone_none]))
            rename_i h
            (try simp only [BLS, List.take_succ_cons, List.take_zero, List.drop_succ_cons, List.drop_zero, List.cons_append, List.nil_append, List.append_nil, List.take_nil, List.drop_nil, stL, Nat.reduceAdd] at h)
            exact hj8 m' a _ _ hm hal ha (St.wk h)
    have f1 : decide ((k4 : Int) = 1) = false := decide_eq_false (by omega)
    (repeat (first | (first | (with_reducible (first | refine w1 fun _ _ => ?_ | refine w3 fun _ _ _ => ?_ | refine w4 fun _ _ _ => ?_ | refine w11 fun _ _ _ => ?_ | refine stb_n ?_)) | ((with_reducible refine w2 ?_); try simp -implicitDefEqProofs only [EN, lsub, lget, stL, beq_self_eq_true, ne_eq, if_true, if_false, List.cons_append, List.nil_append, Option.isNone_some, Option.isNone_none, ei, hy, eq4, ern, er4, f3, f2, f1, f00]; intro _ _) | ((with_reducible (first | refine w5 ?_ ?_ | refine w6 ?_ ?_ | refine w7 ?_ ?_)); simp; refine ⟨_, rfl, ?_⟩) | ((with_reducible (first | refine w8 ?_ ?_ ?_ | refine w9 ?_ ?_ ?_ | refine w10 ?_ ?_ ?_)); exact rfl; simp) | ((with_reducible refine w12 ?_ ?_ ?_ fun _ _ => ?_); simp; simp; simp [oneC]) | ((with_reducible (first | refine eqs ?_ | refine nes ?_)); refine ⟨_, rfl, ?_⟩) | ((refine okF_i (bldP_eq rfl) ?_); try simp only [BLS, List.take_succ_cons, List.take_zero, List.drop_succ_cons, List.drop_zero, List.cons_append, List.nil_append, Nat.reduceAdd])) | simp -implicitDefEqProofs only [EN, lsub, lget, stL, beq_self_eq_true, ne_eq, if_true, if_false, List.cons_append, List.nil_append, Option.isNone_some, Option.isNone_none, ei, hy, eq4, ern, er4, f3, f2, f1, f00]))
    exact hJ7 X o es _ hts (by first | assumption | exact St.tick (by assumption) | exact St.tick (St.tick (by assumption)))
  · (repeat (first | (first | (with_reducible (first | refine w1 fun _ _ => ?_ | refine w3 fun _ _ _ => ?_ | refine w4 fun _ _ _ => ?_ | refine w11 fun _ _ _ => ?_ | refine stb_n ?_)) | ((with_reducible refine w2 ?_); try simp -implicitDefEqProofs only [EN, lsub, lget, stL, beq_self_eq_true, ne_eq, if_true, if_false, List.cons_append, List.nil_append, Option.isNone_some, Option.isNone_none, hlt]; intro _ _) | ((with_reducible (first | refine w5 ?_ ?_ | refine w6 ?_ ?_ | refine w7 ?_ ?_)); simp; refine ⟨_, rfl, ?_⟩) | ((with_reducible (first | refine w8 ?_ ?_ ?_ | refine w9 ?_ ?_ ?_ | refine w10 ?_ ?_ ?_)); exact rfl; simp) | ((with_reducible refine w12 ?_ ?_ ?_ fun _ _ => ?_); simp; simp; simp [oneC]) | ((with_reducible (first | refine eqs ?_ | refine nes ?_)); refine ⟨_, rfl, ?_⟩) | ((refine okF_i (bldP_eq rfl) ?_); try simp only [BLS, List.take_succ_cons, List.take_zero, List.drop_succ_cons, List.drop_zero, List.cons_append, List.nil_append, Nat.reduceAdd])) | simp -implicitDefEqProofs only [EN, lsub, lget, stL, beq_self_eq_true, ne_eq, if_true, if_false, List.cons_append, List.nil_append, Option.isNone_some, Option.isNone_none, hlt]))
    obtain ⟨v, hv⟩ := hts.sy.all
    subst hJ3
    exact two_end hn5 hen hel hv (fun j hj => (hts.sy.fa.ti.rw j hj).1) (St.wk (by first | assumption | exact St.tick (by assumption) | exact St.tick (St.tick (by assumption))))
end Go.Proofs.Ytpihhlaiofkmdaa
namespace Go.Proofs.Ytpihhlaiofkmdaa
set_option linter.unusedVariables false
set_option linter.unusedSimpArgs false
open Go Go.Eng

theorem goodI64 {W : World} (vs : List Value) (h : GoodL W [.int .i64] vs) : ∃ y : Int, vs = I64.row y ∧ y ≤ 9223372036854775807 := by
  obtain ⟨_, _, rfl, h1, h⟩ := h.cons'
  obtain rfl := h.nil'
  obtain ⟨y, rfl, hy⟩ := h1.int'
  exact ⟨y, rfl, (Eng.wf64 hy).2⟩
theorem openI64s {W : World} {v : Value} (h : GoodA W [.sl [.int .i64]] false v) : ∃ (a : Option Addr) (c : Nat) (l : List Int), v = .slice a l.length c ∧ l.length ≤ c ∧ c ≤ maxLen ∧ Rd W [] a I64 l ∧ ∀ y ∈ l, y ≤ 9223372036854775807 := openArr I64 (fun y => y ≤ 9223372036854775807) h.one rfl goodI64
set_option maxRecDepth 100000 in
set_option maxHeartbeats 4000000 in
theorem leadTwo_walk {W : World} {v0 v1 v2 v3 : Value} (h0 : GoodA W [.int .i64] false v0) (h1 : GoodA W [.int .i64] false v1) (h2 : GoodA W [.int .i64] false v2) (h3 : GoodA W [.sl [.int .i64]] false v3) :
    callK PR F_rostrumlaw21_LeadTwo [v0, v1, v2, v3] (fun v W' => v = .bool true ∧ St W [] W') W := by
  obtain ⟨n, rfl, hn⟩ := h0.one.int'
  obtain ⟨ff, rfl, hf⟩ := h1.one.int'
  obtain ⟨gg, rfl, hg⟩ := h2.one.int'
  obtain ⟨la, lc, l, rfl, hlc, hlm, hrd, hrg⟩ := openI64s h3
  apply S.rostrumlaw21_LeadTwo.call
  unfold S.rostrumlaw21_LeadTwo.body
  have h := St.start W
  by_cases c1 : n < 3
  · (repeat (first | (first | (with_reducible (first | refine w1 fun _ _ => ?_ | refine w3 fun _ _ _ => ?_ | refine w4 fun _ _ _ => ?_ | refine w11 fun _ _ _ => ?_ | refine stb_n ?_)) | ((with_reducible refine w2 ?_); try simp -implicitDefEqProofs only [EN, lsub, lget, stL, beq_self_eq_true, ne_eq, if_true, if_false, List.cons_append, List.nil_append, Option.isNone_some, Option.isNone_none, c1]; intro _ _) | ((with_reducible (first | refine w5 ?_ ?_ | refine w6 ?_ ?_ | refine w7 ?_ ?_)); simp; refine ⟨_, rfl, ?_⟩) | ((with_reducible (first | refine w8 ?_ ?_ ?_ | refine w9 ?_ ?_ ?_ | refine w10 ?_ ?_ ?_)); exact rfl; simp) | ((with_reducible refine w12 ?_ ?_ ?_ fun _ _ => ?_); simp; simp; simp [oneC]) | ((with_reducible (first | refine eqs ?_ | refine nes ?_)); refine ⟨_, rfl, ?_⟩) | ((refine okF_i (bldP_eq rfl) ?_); try simp only [BLS, List.take_succ_cons, List.take_zero, List.drop_succ_cons, List.drop_zero, List.cons_append, List.nil_append, Nat.reduceAdd])) | simp -implicitDefEqProofs only [EN, lsub, lget, stL, beq_self_eq_true, ne_eq, if_true, if_false, List.cons_append, List.nil_append, Option.isNone_some, Option.isNone_none, c1]))
    (first | exact St.nil (by first | assumption | exact St.tick (by assumption) | exact St.tick (St.tick (by assumption))) | exact ⟨rfl, St.nil (by first | assumption | exact St.tick (by assumption) | exact St.tick (St.tick (by assumption)))⟩)
  by_cases c2 : 5 < n
  · (repeat (first | (first | (with_reducible (first | refine w1 fun _ _ => ?_ | refine w3 fun _ _ _ => ?_ | refine w4 fun _ _ _ => ?_ | refine w11 fun _ _ _ => ?_ | refine stb_n ?_)) | ((with_reducible refine w2 ?_); try simp -implicitDefEqProofs only [EN, lsub, lget, stL, beq_self_eq_true, ne_eq, if_true, if_false, List.cons_append, List.nil_append, Option.isNone_some, Option.isNone_none, c1, c2]; intro _ _) | ((with_reducible (first | refine w5 ?_ ?_ | refine w6 ?_ ?_ | refine w7 ?_ ?_)); simp; refine ⟨_, rfl, ?_⟩) | ((with_reducible (first | refine w8 ?_ ?_ ?_ | refine w9 ?_ ?_ ?_ | refine w10 ?_ ?_ ?_)); exact rfl; simp) | ((with_reducible refine w12 ?_ ?_ ?_ fun _ _ => ?_); simp; simp; simp [oneC]) | ((with_reducible (first | refine eqs ?_ | refine nes ?_)); refine ⟨_, rfl, ?_⟩) | ((refine okF_i (bldP_eq rfl) ?_); try simp only [BLS, List.take_succ_cons, List.take_zero, List.drop_succ_cons, List.drop_zero, List.cons_append, List.nil_append, Nat.reduceAdd])) | simp -implicitDefEqProofs only [EN, lsub, lget, stL, beq_self_eq_true, ne_eq, if_true, if_false, List.cons_append, List.nil_append, Option.isNone_some, Option.isNone_none, c1, c2]))
    (first | exact St.nil (by first | assumption | exact St.tick (by assumption) | exact St.tick (St.tick (by assumption))) | exact ⟨rfl, St.nil (by first | assumption | exact St.tick (by assumption) | exact St.tick (St.tick (by assumption)))⟩)
  by_cases c3 : ff < 0
  · (repeat (first | (first | (with_reducible (first | refine w1 fun _ _ => ?_ | refine w3 fun _ _ _ => ?_ | refine w4 fun _ _ _ => ?_ | refine w11 fun _ _ _ => ?_ | refine stb_n ?_)) | ((with_reducible refine w2 ?_); try simp -implicitDefEqProofs only [EN, lsub, lget, stL, beq_self_eq_true, ne_eq, if_true, if_false, List.cons_append, List.nil_append, Option.isNone_some, Option.isNone_none, c1, c2, c3]; intro _ _) | ((with_reducible (first | refine w5 ?_ ?_ | refine w6 ?_ ?_ | refine w7 ?_ ?_)); simp; refine ⟨_, rfl, ?_⟩) | ((with_reducible (first | refine w8 ?_ ?_ ?_ | refine w9 ?_ ?_ ?_ | refine w10 ?_ ?_ ?_)); exact rfl; simp) | ((with_reducible refine w12 ?_ ?_ ?_ fun _ _ => ?_); simp; simp; simp [oneC]) | ((with_reducible (first | refine eqs ?_ | refine nes ?_)); refine ⟨_, rfl, ?_⟩) | ((refine okF_i (bldP_eq rfl) ?_); try simp only [BLS, List.take_succ_cons, List.take_zero, List.drop_succ_cons, List.drop_zero, List.cons_append, List.nil_append, Nat.reduceAdd])) | simp -implicitDefEqProofs only [EN, lsub, lget, stL, beq_self_eq_true, ne_eq, if_true, if_false, List.cons_append, List.nil_append, Option.isNone_some, Option.isNone_none, c1, c2, c3]))
    (first | exact St.nil (by first | assumption | exact St.tick (by assumption) | exact St.tick (St.tick (by assumption))) | exact ⟨rfl, St.nil (by first | assumption | exact St.tick (by assumption) | exact St.tick (St.tick (by assumption)))⟩)
  by_cases c4 : n ≤ ff
  · (repeat (first | (first | (with_reducible (first | refine w1 fun _ _ => ?_ | refine w3 fun _ _ _ => ?_ | refine w4 fun _ _ _ => ?_ | refine w11 fun _ _ _ => ?_ | refine stb_n ?_)) | ((with_reducible refine w2 ?_); try simp -implicitDefEqProofs only [EN, lsub, lget, stL, beq_self_eq_true, ne_eq, if_true, if_false, List.cons_append, List.nil_append, Option.isNone_some, Option.isNone_none, c1, c2, c3, c4]; intro _ _) | ((with_reducible (first | refine w5 ?_ ?_ | refine w6 ?_ ?_ | refine w7 ?_ ?_)); simp; refine ⟨_, rfl, ?_⟩) | ((with_reducible (first | refine w8 ?_ ?_ ?_ | refine w9 ?_ ?_ ?_ | refine w10 ?_ ?_ ?_)); exact rfl; simp) | ((with_reducible refine w12 ?_ ?_ ?_ fun _ _ => ?_); simp; simp; simp [oneC]) | ((with_reducible (first | refine eqs ?_ | refine nes ?_)); refine ⟨_, rfl, ?_⟩) | ((refine okF_i (bldP_eq rfl) ?_); try simp only [BLS, List.take_succ_cons, List.take_zero, List.drop_succ_cons, List.drop_zero, List.cons_append, List.nil_append, Nat.reduceAdd])) | simp -implicitDefEqProofs only [EN, lsub, lget, stL, beq_self_eq_true, ne_eq, if_true, if_false, List.cons_append, List.nil_append, Option.isNone_some, Option.isNone_none, c1, c2, c3, c4]))
    (first | exact St.nil (by first | assumption | exact St.tick (by assumption) | exact St.tick (St.tick (by assumption))) | exact ⟨rfl, St.nil (by first | assumption | exact St.tick (by assumption) | exact St.tick (St.tick (by assumption)))⟩)
  by_cases c5 : gg < 0
  · (repeat (first | (first | (with_reducible (first | refine w1 fun _ _ => ?_ | refine w3 fun _ _ _ => ?_ | refine w4 fun _ _ _ => ?_ | refine w11 fun _ _ _ => ?_ | refine stb_n ?_)) | ((with_reducible refine w2 ?_); try simp -implicitDefEqProofs only [EN, lsub, lget, stL, beq_self_eq_true, ne_eq, if_true, if_false, List.cons_append, List.nil_append, Option.isNone_some, Option.isNone_none, c1, c2, c3, c4, c5]; intro _ _) | ((with_reducible (first | refine w5 ?_ ?_ | refine w6 ?_ ?_ | refine w7 ?_ ?_)); simp; refine ⟨_, rfl, ?_⟩) | ((with_reducible (first | refine w8 ?_ ?_ ?_ | refine w9 ?_ ?_ ?_ | refine w10 ?_ ?_ ?_)); exact rfl; simp) | ((with_reducible refine w12 ?_ ?_ ?_ fun _ _ => ?_); simp; simp; simp [oneC]) | ((with_reducible (first | refine eqs ?_ | refine nes ?_)); refine ⟨_, rfl, ?_⟩) | ((refine okF_i (bldP_eq rfl) ?_); try simp only [BLS, List.take_succ_cons, List.take_zero, List.drop_succ_cons, List.drop_zero, List.cons_append, List.nil_append, Nat.reduceAdd])) | simp -implicitDefEqProofs only [EN, lsub, lget, stL, beq_self_eq_true, ne_eq, if_true, if_false, List.cons_append, List.nil_append, Option.isNone_some, Option.isNone_none, c1, c2, c3, c4, c5]))
    (first | exact St.nil (by first | assumption | exact St.tick (by assumption) | exact St.tick (St.tick (by assumption))) | exact ⟨rfl, St.nil (by first | assumption | exact St.tick (by assumption) | exact St.tick (St.tick (by assumption)))⟩)
  by_cases c6 : n ≤ gg
  · (repeat (first | (first | (with_reducible (first | refine w1 fun _ _ => ?_ | refine w3 fun _ _ _ => ?_ | refine w4 fun _ _ _ => ?_ | refine w11 fun _ _ _ => ?_ | refine stb_n ?_)) | ((with_reducible refine w2 ?_); try simp -implicitDefEqProofs only [EN, lsub, lget, stL, beq_self_eq_true, ne_eq, if_true, if_false, List.cons_append, List.nil_append, Option.isNone_some, Option.isNone_none, c1, c2, c3, c4, c5, c6]; intro _ _) | ((with_reducible (first | refine w5 ?_ ?_ | refine w6 ?_ ?_ | refine w7 ?_ ?_)); simp; refine ⟨_, rfl, ?_⟩) | ((with_reducible (first | refine w8 ?_ ?_ ?_ | refine w9 ?_ ?_ ?_ | refine w10 ?_ ?_ ?_)); exact rfl; simp) | ((with_reducible refine w12 ?_ ?_ ?_ fun _ _ => ?_); simp; simp; simp [oneC]) | ((with_reducible (first | refine eqs ?_ | refine nes ?_)); refine ⟨_, rfl, ?_⟩) | ((refine okF_i (bldP_eq rfl) ?_); try simp only [BLS, List.take_succ_cons, List.take_zero, List.drop_succ_cons, List.drop_zero, List.cons_append, List.nil_append, Nat.reduceAdd])) | simp -implicitDefEqProofs only [EN, lsub, lget, stL, beq_self_eq_true, ne_eq, if_true, if_false, List.cons_append, List.nil_append, Option.isNone_some, Option.isNone_none, c1, c2, c3, c4, c5, c6]))
    (first | exact St.nil (by first | assumption | exact St.tick (by assumption) | exact St.tick (St.tick (by assumption))) | exact ⟨rfl, St.nil (by first | assumption | exact St.tick (by assumption) | exact St.tick (St.tick (by assumption)))⟩)
  by_cases c7 : ff = gg
  · have f7 := decide_eq_true c7
    (repeat (first | (first | (with_reducible (first | refine w1 fun _ _ => ?_ | refine w3 fun _ _ _ => ?_ | refine w4 fun _ _ _ => ?_ | refine w11 fun _ _ _ => ?_ | refine stb_n ?_)) | ((with_reducible refine w2 ?_); try simp -implicitDefEqProofs only [EN, lsub, lget, stL, beq_self_eq_true, ne_eq, if_true, if_false, List.cons_append, List.nil_append, Option.isNone_some, Option.isNone_none, c1, c2, c3, c4, c5, c6, f7]; intro _ _) | ((with_reducible (first | refine w5 ?_ ?_ | refine w6 ?_ ?_ | refine w7 ?_ ?_)); simp; refine ⟨_, rfl, ?_⟩) | ((with_reducible (first | refine w8 ?_ ?_ ?_ | refine w9 ?_ ?_ ?_ | refine w10 ?_ ?_ ?_)); exact rfl; simp) | ((with_reducible refine w12 ?_ ?_ ?_ fun _ _ => ?_); simp; simp; simp [oneC]) | ((with_reducible (first | refine eqs ?_ | refine nes ?_)); refine ⟨_, rfl, ?_⟩) | ((refine okF_i (bldP_eq rfl) ?_); try simp only [BLS, List.take_succ_cons, List.take_zero, List.drop_succ_cons, List.drop_zero, List.cons_append, List.nil_append, Nat.reduceAdd])) | simp -implicitDefEqProofs only [EN, lsub, lget, stL, beq_self_eq_true, ne_eq, if_true, if_false, List.cons_append, List.nil_append, Option.isNone_some, Option.isNone_none, c1, c2, c3, c4, c5, c6, f7]))
    (first | exact St.nil (by first | assumption | exact St.tick (by assumption) | exact St.tick (St.tick (by assumption))) | exact ⟨rfl, St.nil (by first | assumption | exact St.tick (by assumption) | exact St.tick (St.tick (by assumption)))⟩)
  have f7 := decide_eq_false c7
  by_cases c8 : (40 : Int) < (l.length : Int)
  · (repeat (first | (first | (with_reducible (first | refine w1 fun _ _ => ?_ | refine w3 fun _ _ _ => ?_ | refine w4 fun _ _ _ => ?_ | refine w11 fun _ _ _ => ?_ | refine stb_n ?_)) | ((with_reducible refine w2 ?_); try simp -implicitDefEqProofs only [EN, lsub, lget, stL, beq_self_eq_true, ne_eq, if_true, if_false, List.cons_append, List.nil_append, Option.isNone_some, Option.isNone_none, c1, c2, c3, c4, c5, c6, f7, c8]; intro _ _) | ((with_reducible (first | refine w5 ?_ ?_ | refine w6 ?_ ?_ | refine w7 ?_ ?_)); simp; refine ⟨_, rfl, ?_⟩) | ((with_reducible (first | refine w8 ?_ ?_ ?_ | refine w9 ?_ ?_ ?_ | refine w10 ?_ ?_ ?_)); exact rfl; simp) | ((with_reducible refine w12 ?_ ?_ ?_ fun _ _ => ?_); simp; simp; simp [oneC]) | ((with_reducible (first | refine eqs ?_ | refine nes ?_)); refine ⟨_, rfl, ?_⟩) | ((refine okF_i (bldP_eq rfl) ?_); try simp only [BLS, List.take_succ_cons, List.take_zero, List.drop_succ_cons, List.drop_zero, List.cons_append, List.nil_append, Nat.reduceAdd])) | simp -implicitDefEqProofs only [EN, lsub, lget, stL, beq_self_eq_true, ne_eq, if_true, if_false, List.cons_append, List.nil_append, Option.isNone_some, Option.isNone_none, c1, c2, c3, c4, c5, c6, f7, c8]))
    (first | exact St.nil (by first | assumption | exact St.tick (by assumption) | exact St.tick (St.tick (by assumption))) | exact ⟨rfl, St.nil (by first | assumption | exact St.tick (by assumption) | exact St.tick (St.tick (by assumption)))⟩)
  (repeat (first | (first | (with_reducible (first | refine w1 fun _ _ => ?_ | refine w3 fun _ _ _ => ?_ | refine w4 fun _ _ _ => ?_ | refine w11 fun _ _ _ => ?_ | refine stb_n ?_)) | ((with_reducible refine w2 ?_); try simp -implicitDefEqProofs only [EN, lsub, lget, stL, beq_self_eq_true, ne_eq, if_true, if_false, List.cons_append, List.nil_append, Option.isNone_some, Option.isNone_none, c1, c2, c3, c4, c5, c6, f7, c8]; intro _ _) | ((with_reducible (first | refine w5 ?_ ?_ | refine w6 ?_ ?_ | refine w7 ?_ ?_)); simp; refine ⟨_, rfl, ?_⟩) | ((with_reducible (first | refine w8 ?_ ?_ ?_ | refine w9 ?_ ?_ ?_ | refine w10 ?_ ?_ ?_)); exact rfl; simp) | ((with_reducible refine w12 ?_ ?_ ?_ fun _ _ => ?_); simp; simp; simp [oneC]) | ((with_reducible (first | refine eqs ?_ | refine nes ?_)); refine ⟨_, rfl, ?_⟩) | ((refine okF_i (bldP_eq rfl) ?_); try simp only [BLS, List.take_succ_cons, List.take_zero, List.drop_succ_cons, List.drop_zero, List.cons_append, List.nil_append, Nat.reduceAdd])) | simp -implicitDefEqProofs only [EN, lsub, lget, stL, beq_self_eq_true, ne_eq, if_true, if_false, List.cons_append, List.nil_append, Option.isNone_some, Option.isNone_none, c1, c2, c3, c4, c5, c6, f7, c8]))
  rename_i ub W2 h
  (try simp only [BLS, List.take_succ_cons, List.take_zero, List.drop_succ_cons, List.drop_zero, List.cons_append, List.nil_append, List.append_nil, List.take_nil, List.drop_nil, stL, Nat.reduceAdd] at h)
  refine joinK_i ?_
  refine loop_c (σ := List Nat) 5 (fun i us => [.int .i64 n, .int .i64 ff, .int .i64 gg, .slice la l.length lc, .pointer (some ⟨ub, 0, none⟩), .int .i64 i])
    (fun i us W1 => us.length = i ∧ St W [cells ub (tp5 us) T_a5_p_inst_Table, tbs (us.map fun p => (p, []))] W1) [] rfl ⟨rfl, (St.wk (L' := [cells ub [.pointer none, .pointer none, .pointer none, .pointer none, .pointer none] T_a5_p_inst_Table]) h).ent (ent.cons _ tbs_nil)⟩ ?_
  clear h
  rintro K i us W3 hi ⟨hl, h⟩ hK
  simp -implicitDefEqProofs only [EN, lsub, lget, stL, beq_self_eq_true, ne_eq, if_true, if_false, List.cons_append, List.nil_append, Option.isNone_some, Option.isNone_none]
  unfold S.rostrumlaw21_LeadTwo.l3
  by_cases hlt : (i : Int) < 5
  · (repeat (first | (first | (with_reducible (first | refine w1 fun _ _ => ?_ | refine w3 fun _ _ _ => ?_ | refine w4 fun _ _ _ => ?_ | refine w11 fun _ _ _ => ?_ | refine stb_n ?_)) | ((with_reducible refine w2 ?_); try simp -implicitDefEqProofs only [EN, lsub, lget, stL, beq_self_eq_true, ne_eq, if_true, if_false, List.cons_append, List.nil_append, Option.isNone_some, Option.isNone_none, hlt]; intro _ _) | ((with_reducible (first | refine w5 ?_ ?_ | refine w6 ?_ ?_ | refine w7 ?_ ?_)); simp; refine ⟨_, rfl, ?_⟩) | ((with_reducible (first | refine w8 ?_ ?_ ?_ | refine w9 ?_ ?_ ?_ | refine w10 ?_ ?_ ?_)); exact rfl; simp) | ((with_reducible refine w12 ?_ ?_ ?_ fun _ _ => ?_); simp; simp; simp [oneC]) | ((with_reducible (first | refine eqs ?_ | refine nes ?_)); refine ⟨_, rfl, ?_⟩) | ((refine okF_i (bldP_eq rfl) ?_); try simp only [BLS, List.take_succ_cons, List.take_zero, List.drop_succ_cons, List.drop_zero, List.cons_append, List.nil_append, Nat.reduceAdd])) | simp -implicitDefEqProofs only [EN, lsub, lget, stL, beq_self_eq_true, ne_eq, if_true, if_false, List.cons_append, List.nil_append, Option.isNone_some, Option.isNone_none, hlt]))
    refine instNew (by first | assumption | exact St.tick (by assumption) | exact St.tick (St.tick (by assumption))) fun p W4 h => ?_
    have ei : idxA 5 1 (.pointer (some ⟨ub, 0, none⟩)) (.int .i64 i) = some (.pointer (some ⟨ub, us.length, none⟩)) := by rw [idxA_blk (by omega) (by omega)]; simp [hl]
    (repeat (first | (first | (with_reducible (first | refine w1 fun _ _ => ?_ | refine w3 fun _ _ _ => ?_ | refine w4 fun _ _ _ => ?_ | refine w11 fun _ _ _ => ?_ | refine stb_n ?_)) | ((with_reducible refine w2 ?_); try simp -implicitDefEqProofs only [EN, lsub, lget, stL, beq_self_eq_true, ne_eq, if_true, if_false, List.cons_append, List.nil_append, Option.isNone_some, Option.isNone_none, ei]; intro _ _) | ((with_reducible (first | refine w5 ?_ ?_ | refine w6 ?_ ?_ | refine w7 ?_ ?_)); simp; refine ⟨_, rfl, ?_⟩) | ((with_reducible (first | refine w8 ?_ ?_ ?_ | refine w9 ?_ ?_ ?_ | refine w10 ?_ ?_ ?_)); exact rfl; simp) | ((with_reducible refine w12 ?_ ?_ ?_ fun _ _ => ?_); simp; simp; simp [oneC]) | ((with_reducible (first | refine eqs ?_ | refine nes ?_)); refine ⟨_, rfl, ?_⟩) | ((refine okF_i (bldP_eq rfl) ?_); try simp only [BLS, List.take_succ_cons, List.take_zero, List.drop_succ_cons, List.drop_zero, List.cons_append, List.nil_append, Nat.reduceAdd])) | simp -implicitDefEqProofs only [EN, lsub, lget, stL, beq_self_eq_true, ne_eq, if_true, if_false, List.cons_append, List.nil_append, Option.isNone_some, Option.isNone_none, ei]))
    refine sto (sz := 1) (cs := tp5 us) (off := us.length) (by first | assumption | exact St.tick (by assumption) | exact St.tick (St.tick (by assumption))) rfl (by rw [tp5_len (by omega)]; omega) rfl fun W5 h => ?_
    rw [show vcells (.pointer (some ⟨p, 0, none⟩)) = [tptr p] from rfl, tp5_set (by omega)] at h
    have ew : IntKind.i64.wrap ((i : Int) + 1) = ((i + 1 : Nat) : Int) := by rw [i64w]; omega
    (repeat (first | (first | (with_reducible (first | refine w1 fun _ _ => ?_ | refine w3 fun _ _ _ => ?_ | refine w4 fun _ _ _ => ?_ | refine w11 fun _ _ _ => ?_ | refine stb_n ?_)) | ((with_reducible refine w2 ?_); try simp -implicitDefEqProofs only [EN, lsub, lget, stL, beq_self_eq_true, ne_eq, if_true, if_false, List.cons_append, List.nil_append, Option.isNone_some, Option.isNone_none, ew]; intro _ _) | ((with_reducible (first | refine w5 ?_ ?_ | refine w6 ?_ ?_ | refine w7 ?_ ?_)); simp; refine ⟨_, rfl, ?_⟩) | ((with_reducible (first | refine w8 ?_ ?_ ?_ | refine w9 ?_ ?_ ?_ | refine w10 ?_ ?_ ?_)); exact rfl; simp) | ((with_reducible refine w12 ?_ ?_ ?_ fun _ _ => ?_); simp; simp; simp [oneC]) | ((with_reducible (first | refine eqs ?_ | refine nes ?_)); refine ⟨_, rfl, ?_⟩) | ((refine okF_i (bldP_eq rfl) ?_); try simp only [BLS, List.take_succ_cons, List.take_zero, List.drop_succ_cons, List.drop_zero, List.cons_append, List.nil_append, Nat.reduceAdd])) | simp -implicitDefEqProofs only [EN, lsub, lget, stL, beq_self_eq_true, ne_eq, if_true, if_false, List.cons_append, List.nil_append, Option.isNone_some, Option.isNone_none, ew]))
    refine hK (us ++ [p]) _ (by omega) ⟨by simp [hl], ?_⟩
    rw [List.map_append]
    exact (St.wk (L' := [tb p [], tbs (us.map fun p => (p, [])), cells ub (tp5 (us ++ [p])) T_a5_p_inst_Table]) (by first | assumption | exact St.tick (by assumption) | exact St.tick (St.tick (by assumption)))).ent (tbs_cons.trans (.perm (List.Perm.swap _ _ _)))
  have hi5 : i = 5 := by omega
  subst hi5
  (repeat (first | (first | (with_reducible (first | refine w1 fun _ _ => ?_ | refine w3 fun _ _ _ => ?_ | refine w4 fun _ _ _ => ?_ | refine w11 fun _ _ _ => ?_ | refine stb_n ?_)) | ((with_reducible refine w2 ?_); try simp -implicitDefEqProofs only [EN, lsub, lget, stL, beq_self_eq_true, ne_eq, if_true, if_false, List.cons_append, List.nil_append, Option.isNone_some, Option.isNone_none, hlt]; intro _ _) | ((with_reducible (first | refine w5 ?_ ?_ | refine w6 ?_ ?_ | refine w7 ?_ ?_)); simp; refine ⟨_, rfl, ?_⟩) | ((with_reducible (first | refine w8 ?_ ?_ ?_ | refine w9 ?_ ?_ ?_ | refine w10 ?_ ?_ ?_)); exact rfl; simp) | ((with_reducible refine w12 ?_ ?_ ?_ fun _ _ => ?_); simp; simp; simp [oneC]) | ((with_reducible (first | refine eqs ?_ | refine nes ?_)); refine ⟨_, rfl, ?_⟩) | ((refine okF_i (bldP_eq rfl) ?_); try simp only [BLS, List.take_succ_cons, List.take_zero, List.drop_succ_cons, List.drop_zero, List.cons_append, List.nil_append, Nat.reduceAdd])) | simp -implicitDefEqProofs only [EN, lsub, lget, stL, beq_self_eq_true, ne_eq, if_true, if_false, List.cons_append, List.nil_append, Option.isNone_some, Option.isNone_none, hlt]))
  clear hK hlt hi K
  rename_i db _ _ W4 h
  (try simp only [BLS, List.take_succ_cons, List.take_zero, List.drop_succ_cons, List.drop_zero, List.cons_append, List.nil_append, List.append_nil, List.take_nil, List.drop_nil, stL, Nat.reduceAdd] at h)
  refine joinK_i ?_
  obtain ⟨f, rfl⟩ : ∃ f : Nat, ff = (f : Int) := ⟨ff.toNat, by omega⟩
  obtain ⟨g, rfl⟩ : ∃ g : Nat, gg = (g : Int) := ⟨gg.toNat, by omega⟩
  have E : Env n f g := ⟨by omega, by omega, by omega, by omega, by omega⟩
  obtain ⟨pg, hpg⟩ : ∃ p, us[g]? = some p := ⟨_, List.getElem?_eq_getElem (by omega)⟩
  obtain ⟨pf, hpf⟩ : ∃ p, us[f]? = some p := ⟨_, List.getElem?_eq_getElem (by omega)⟩
  have eig : idxA 5 1 (.pointer (some ⟨ub, 0, none⟩)) (.int .i64 (g : Int)) = some (.pointer (some ⟨ub, g, none⟩)) := by rw [idxA_blk (by omega) (by omega)]; simp
  have eif : idxA 5 1 (.pointer (some ⟨ub, 0, none⟩)) (.int .i64 (f : Int)) = some (.pointer (some ⟨ub, f, none⟩)) := by rw [idxA_blk (by omega) (by omega)]; simp
  (repeat (first | (first | (with_reducible (first | refine w1 fun _ _ => ?_ | refine w3 fun _ _ _ => ?_ | refine w4 fun _ _ _ => ?_ | refine w11 fun _ _ _ => ?_ | refine stb_n ?_)) | ((with_reducible refine w2 ?_); try simp -implicitDefEqProofs only [EN, lsub, lget, stL, beq_self_eq_true, ne_eq, if_true, if_false, List.cons_append, List.nil_append, Option.isNone_some, Option.isNone_none, eig]; intro _ _) | ((with_reducible (first | refine w5 ?_ ?_ | refine w6 ?_ ?_ | refine w7 ?_ ?_)); simp; refine ⟨_, rfl, ?_⟩) | ((with_reducible (first | refine w8 ?_ ?_ ?_ | refine w9 ?_ ?_ ?_ | refine w10 ?_ ?_ ?_)); exact rfl; simp) | ((with_reducible refine w12 ?_ ?_ ?_ fun _ _ => ?_); simp; simp; simp [oneC]) | ((with_reducible (first | refine eqs ?_ | refine nes ?_)); refine ⟨_, rfl, ?_⟩) | ((refine okF_i (bldP_eq rfl) ?_); try simp only [BLS, List.take_succ_cons, List.take_zero, List.drop_succ_cons, List.drop_zero, List.cons_append, List.nil_append, Nat.reduceAdd])) | simp -implicitDefEqProofs only [EN, lsub, lget, stL, beq_self_eq_true, ne_eq, if_true, if_false, List.cons_append, List.nil_append, Option.isNone_some, Option.isNone_none, eig]))
  refine ld (v := tptr pg) (by first | assumption | exact St.tick (by assumption) | exact St.tick (St.tick (by assumption))) (tp5_get hpg) (by simp) ?_
  have hek : (us.map fun p => (p, ([] : Tbl)))[g]? = some (pg, []) := by rw [List.getElem?_map, hpg]; rfl
  have hG : FIn n g 1 oth := ⟨by omega, by omega, by omega, by omega, by omega, by omega, by decide⟩
  have hP : FIn n f 1 [120] := ⟨by omega, by omega, by omega, by omega, by omega, by omega, by simp⟩
  have hJ2 : ∀ W', St W [tbs ((us.map fun p => (p, ([] : Tbl))).set g (pg, fT g 1 oth)), cells ub (tp5 us) T_a5_p_inst_Table, cells db [.int .i64 (f : Int), .int .i64 1] T_api_Dot] W' →
      S.rostrumlaw21_LeadTwo.j2 (fun v W' => v = .bool true ∧ St W [] W') (.int .i64 n) (.int .i64 (f : Int)) (.int .i64 (g : Int)) (.slice la l.length lc) (.pointer (some ⟨ub, 0, none⟩)) (.pointer (some ⟨db, 0, none⟩)) W' := by
    intro W' h
    unfold S.rostrumlaw21_LeadTwo.j2
    generalize hes0 : (us.map fun p => (p, ([] : Tbl))).set g (pg, fT g 1 oth) = es0 at *
    have hef : es0[f]? = some (pf, []) := by
      rw [← hes0, List.getElem?_set, if_neg (by omega), List.getElem?_map, hpf]; rfl
    have hel0 : es0.length = 5 := by rw [← hes0]; simp [hl]
    have hen0 : es0.map (·.1) = us := by
      rw [← hes0]
      refine (fst_set hek _).trans ?_
      rw [List.map_map]
      exact List.map_id _
    have h3 := h.tick
    refine ld (cs := [.int .i64 (f : Int), .int .i64 1]) (v := .agg #[.int .i64 (f : Int), .int .i64 1]) h3 rfl (by simp) ?_
    generalize tick W' = W9 at *
    (repeat (first | (first | (with_reducible (first | refine w1 fun _ _ => ?_ | refine w3 fun _ _ _ => ?_ | refine w4 fun _ _ _ => ?_ | refine w11 fun _ _ _ => ?_ | refine stb_n ?_)) | ((with_reducible refine w2 ?_); try simp -implicitDefEqProofs only [EN, lsub, lget, stL, beq_self_eq_true, ne_eq, if_true, if_false, List.cons_append, List.nil_append, Option.isNone_some, Option.isNone_none, eif]; intro _ _) | ((with_reducible (first | refine w5 ?_ ?_ | refine w6 ?_ ?_ | refine w7 ?_ ?_)); simp; refine ⟨_, rfl, ?_⟩) | ((with_reducible (first | refine w8 ?_ ?_ ?_ | refine w9 ?_ ?_ ?_ | refine w10 ?_ ?_ ?_)); exact rfl; simp) | ((with_reducible refine w12 ?_ ?_ ?_ fun _ _ => ?_); simp; simp; simp [oneC]) | ((with_reducible (first | refine eqs ?_ | refine nes ?_)); refine ⟨_, rfl, ?_⟩) | ((refine okF_i (bldP_eq rfl) ?_); try simp only [BLS, List.take_succ_cons, List.take_zero, List.drop_succ_cons, List.drop_zero, List.cons_append, List.nil_append, Nat.reduceAdd])) | simp -implicitDefEqProofs only [EN, lsub, lget, stL, beq_self_eq_true, ne_eq, if_true, if_false, List.cons_append, List.nil_append, Option.isNone_some, Option.isNone_none, eif]))
    refine ld (v := tptr pf) h3 (tp5_get hpf) (by simp) ?_
    refine bl1 [120] h3 rfl (by decide) (by decide) rfl fun lb _ h => ?_
    refine stb_ld h (tp5_get hpf) (by simp) ?_
    refine stb_ld (cs := [.int .i64 (f : Int), .int .i64 1]) h rfl (by simp) (stb_n ?_)
    refine bl2 [120] h (by decide) fun _ h => ?_
    refine stb_ld h (tp5_get hpf) (by simp) ?_
    refine stb_ld (cs := [.int .i64 (f : Int), .int .i64 1]) h rfl (by simp) (stb_n ?_)
    have h : St W (tb pf [] :: tbs (es0.eraseIdx f) :: [arr B8 T_uint8 (some ⟨lb, 0, none⟩) 1 [120], cells ub (tp5 us) T_a5_p_inst_Table, cells db [.int .i64 (f : Int), .int .i64 1] T_api_Dot]) _ := (St.wk (L' := tbs es0 :: [arr B8 T_uint8 (some ⟨lb, 0, none⟩) 1 [120], cells ub (tp5 us) T_a5_p_inst_Table, cells db [.int .i64 (f : Int), .int .i64 1] T_api_Dot]) h).ent (tbs_take hef)
    refine leadPropose (n := n) (rep := (f : Int)) (d := ⟨(f : Int), 1⟩) (x := ⟨some ⟨lb, 0, none⟩, 1, [120]⟩) (p := pf) h (by simp) (fun e W' he h => ?_) (fun q X T' W' he e1 h => ?_)
    · rw [fast_propose hP] at he; cases he
    rw [fast_propose hP] at he
    have hX : X.abs = fU n f 1 [120] 0 := (congrArg Prod.fst (Sum.inl.inj he)).symm
    obtain rfl : fT f 1 [120] = T' := congrArg Prod.snd (Sum.inl.inj he)
    clear he
    have h : St W (tbs (es0.set f (pf, fT f 1 [120])) :: ldc q X :: [cells ub (tp5 us) T_a5_p_inst_Table, cells db [.int .i64 (f : Int), .int .i64 1] T_api_Dot]) _ :=
      (St.wk (L' := tb pf (fT f 1 [120]) :: tbs (es0.eraseIdx f) :: ldc q X :: [cells ub (tp5 us) T_a5_p_inst_Table, cells db [.int .i64 (f : Int), .int .i64 1] T_api_Dot]) h).ent (tbs_put (e := (pf, fT f 1 [120])) (by omega))
    have hU : esU (es0.set f (pf, fT f 1 [120])) = U0 f g := by
      rw [esU_set (by omega), ← hes0, esU_set (by simp; omega)]
      funext i
      unfold upd U0
      by_cases hi : i = f
      · rw [if_pos hi, if_pos hi]
      · rw [if_neg hi, if_neg hi]
        by_cases hi2 : i = g
        · rw [if_pos hi2, if_pos hi2]
        · rw [if_neg hi2, if_neg hi2]
          unfold esU
          rw [List.getElem?_map]
          cases us[i]? <;> rfl
    have hTS : TS n f g us (X, none, es0.set f (pf, fT f 1 [120])) := by
      refine ⟨by simpa using hel0, (fst_set hef _).trans hen0, ?_, fun p hp => (by cases hp), ?_⟩
      · simp only
        rw [hU, List.getElem?_set, if_pos rfl, if_pos (by omega), e1]
        unfold U0
        rw [if_pos rfl]
      · simp only [Option.map_none]
        rw [hU, hX]
        exact sy_start E
    (repeat (first | (first | (with_reducible (first | refine w1 fun _ _ => ?_ | refine w3 fun _ _ _ => ?_ | refine w4 fun _ _ _ => ?_ | refine w11 fun _ _ _ => ?_ | refine stb_n ?_)) | ((with_reducible refine w2 ?_); try simp -implicitDefEqProofs only [EN, lsub, lget, stL, beq_self_eq_true, ne_eq, if_true, if_false, List.cons_append, List.nil_append, Option.isNone_some, Option.isNone_none]; intro _ _) | ((with_reducible (first | refine w5 ?_ ?_ | refine w6 ?_ ?_ | refine w7 ?_ ?_)); simp; refine ⟨_, rfl, ?_⟩) | ((with_reducible (first | refine w8 ?_ ?_ ?_ | refine w9 ?_ ?_ ?_ | refine w10 ?_ ?_ ?_)); exact rfl; simp) | ((with_reducible refine w12 ?_ ?_ ?_ fun _ _ => ?_); simp; simp; simp [oneC]) | ((with_reducible (first | refine eqs ?_ | refine nes ?_)); refine ⟨_, rfl, ?_⟩) | ((refine okF_i (bldP_eq rfl) ?_); try simp only [BLS, List.take_succ_cons, List.take_zero, List.drop_succ_cons, List.drop_zero, List.cons_append, List.nil_append, Nat.reduceAdd])) | simp -implicitDefEqProofs only [EN, lsub, lget, stL, beq_self_eq_true, ne_eq, if_true, if_false, List.cons_append, List.nil_append, Option.isNone_some, Option.isNone_none]))
    refine joinK_i ?_
    exact two_loop E hrd (by omega) hrg hTS ((St.wk (L' := [cells ub (tp5 us) T_a5_p_inst_Table, tbs (es0.set f (pf, fT f 1 [120])), ldc q X, cells db [.int .i64 (f : Int), .int .i64 1] T_api_Dot]) (by first | assumption | exact St.tick (by assumption) | exact St.tick (St.tick (by assumption)))).ent ((obc_none).trans (.perm (List.perm_middle (l₁ := [_, _, _]) (l₂ := [_])).symm)))
  have hfin : ∀ (a : Option Addr) (c : Nat) W', St W [arr B8 T_uint8 a c oth, tbs (us.map fun p => (p, ([] : Tbl))), cells ub (tp5 us) T_a5_p_inst_Table, cells db [.int .i64 (f : Int), .int .i64 1] T_api_Dot] W' →
      callK PR F_inst_Table_Do [tptr pg, .agg #[.int .i64 (⟨1, ⟨(g : Int), 1⟩, (0, (g : Int)), ⟨a, c, oth⟩, 0, P7.all 0⟩ : Msg BSl).kind, .int .i64 ((⟨1, ⟨(g : Int), 1⟩, (0, (g : Int)), ⟨a, c, oth⟩, 0, P7.all 0⟩ : Msg BSl).dot).rep, .int .i64 ((⟨1, ⟨(g : Int), 1⟩, (0, (g : Int)), ⟨a, c, oth⟩, 0, P7.all 0⟩ : Msg BSl).dot).n, .int .i64 ((⟨1, ⟨(g : Int), 1⟩, (0, (g : Int)), ⟨a, c, oth⟩, 0, P7.all 0⟩ : Msg BSl).bal).1, .int .i64 ((⟨1, ⟨(g : Int), 1⟩, (0, (g : Int)), ⟨a, c, oth⟩, 0, P7.all 0⟩ : Msg BSl).bal).2, (⟨1, ⟨(g : Int), 1⟩, (0, (g : Int)), ⟨a, c, oth⟩, 0, P7.all 0⟩ : Msg BSl).cmd.v, .int .i64 (⟨1, ⟨(g : Int), 1⟩, (0, (g : Int)), ⟨a, c, oth⟩, 0, P7.all 0⟩ : Msg BSl).seq, .int .i64 ((⟨1, ⟨(g : Int), 1⟩, (0, (g : Int)), ⟨a, c, oth⟩, 0, P7.all 0⟩ : Msg BSl).deps).x0, .int .i64 ((⟨1, ⟨(g : Int), 1⟩, (0, (g : Int)), ⟨a, c, oth⟩, 0, P7.all 0⟩ : Msg BSl).deps).x1, .int .i64 ((⟨1, ⟨(g : Int), 1⟩, (0, (g : Int)), ⟨a, c, oth⟩, 0, P7.all 0⟩ : Msg BSl).deps).x2, .int .i64 ((⟨1, ⟨(g : Int), 1⟩, (0, (g : Int)), ⟨a, c, oth⟩, 0, P7.all 0⟩ : Msg BSl).deps).x3, .int .i64 ((⟨1, ⟨(g : Int), 1⟩, (0, (g : Int)), ⟨a, c, oth⟩, 0, P7.all 0⟩ : Msg BSl).deps).x4, .int .i64 ((⟨1, ⟨(g : Int), 1⟩, (0, (g : Int)), ⟨a, c, oth⟩, 0, P7.all 0⟩ : Msg BSl).deps).x5, .int .i64 ((⟨1, ⟨(g : Int), 1⟩, (0, (g : Int)), ⟨a, c, oth⟩, 0, P7.all 0⟩ : Msg BSl).deps).x6]] (fun v118 W' => S.rostrumlaw21_LeadTwo.j2 (fun v W' => v = .bool true ∧ St W [] W') (.int .i64 n) (.int .i64 (f : Int)) (.int .i64 (g : Int)) (.slice la l.length lc) (.pointer (some ⟨ub, 0, none⟩)) (.pointer (some ⟨db, 0, none⟩)) W') W' := by
    intro a c W' h
    refine tabDo hek (m := ⟨1, ⟨(g : Int), 1⟩, (0, (g : Int)), ⟨a, c, oth⟩, 0, P7.all 0⟩) h (show oth.length < 1099511627776 by decide) fun x W5 _ _ h => ?_
    have h2 : St W [fch x.rc.cmd, tbs ((us.map fun p => (p, ([] : Tbl))).set g (pg, (tdo [] (fm g 1 oth)).1)), arr B8 T_uint8 a c oth, cells ub (tp5 us) T_a5_p_inst_Table, cells db [.int .i64 (f : Int), .int .i64 1] T_api_Dot] W5 := h
    rw [fast_do hG] at h2
    exact hJ2 _ (St.wk h2)
  refine ⟨?_, ?_⟩
  · refine cp (by first | assumption | exact St.tick (by assumption) | exact St.tick (St.tick (by assumption))) fun _ h => ?_
    refine stb_ld h (tp5_get hpg) (by simp) (stb_n ?_)
    refine bl1 oth h rfl (by decide) (by decide) rfl fun lb _ h => ?_
    refine stb_ld h (tp5_get hpg) (by simp) (stb_n ?_)
    refine bl2 oth h (by decide) fun _ h => ?_
    refine stb_ld h (tp5_get hpg) (by simp) (stb_n ?_)
    (repeat (first | (first | (with_reducible (first | refine w1 fun _ _ => ?_ | refine w3 fun _ _ _ => ?_ | refine w4 fun _ _ _ => ?_ | refine w11 fun _ _ _ => ?_ | refine stb_n ?_)) | ((with_reducible refine w2 ?_); try simp -implicitDefEqProofs only [EN, lsub, lget, stL, beq_self_eq_true, ne_eq, if_true, if_false, List.cons_append, List.nil_append, Option.isNone_some, Option.isNone_none]; intro _ _) | ((with_reducible (first | refine w5 ?_ ?_ | refine w6 ?_ ?_ | refine w7 ?_ ?_)); simp; refine ⟨_, rfl, ?_⟩) | ((with_reducible (first | refine w8 ?_ ?_ ?_ | refine w9 ?_ ?_ ?_ | refine w10 ?_ ?_ ?_)); exact rfl; simp) | ((with_reducible refine w12 ?_ ?_ ?_ fun _ _ => ?_); simp; simp; simp [oneC]) | ((with_reducible (first | refine eqs ?_ | refine nes ?_)); refine ⟨_, rfl, ?_⟩) | ((refine okF_i (bldP_eq rfl) ?_); try simp only [BLS, List.take_succ_cons, List.take_zero, List.drop_succ_cons, List.drop_zero, List.cons_append, List.nil_append, Nat.reduceAdd])) | simp -implicitDefEqProofs only [EN, lsub, lget, stL, beq_self_eq_true, ne_eq, if_true, if_false, List.cons_append, List.nil_append, Option.isNone_some, Option.isNone_none]))
    exact hfin (some ⟨lb, 0, none⟩) oth.length _ (St.wk (by first | assumption | exact St.tick (by assumption) | exact St.tick (St.tick (by assumption))))
  · refine bl1 oth (by first | assumption | exact St.tick (by assumption) | exact St.tick (St.tick (by assumption))) rfl (by decide) (by decide) rfl fun lb _ h => ?_
    refine stb_ld h (tp5_get hpg) (by simp) (stb_n ?_)
    refine ⟨?_, ?_⟩
    · refine cp h fun _ h => ?_
      refine stb_ld h (tp5_get hpg) (by simp) (stb_n ?_)
      refine bl2 oth h (by decide) fun _ h => ?_
      refine stb_ld h (tp5_get hpg) (by simp) (stb_n ?_)
      (repeat (first | (first | (with_reducible (first | refine w1 fun _ _ => ?_ | refine w3 fun _ _ _ => ?_ | refine w4 fun _ _ _ => ?_ | refine w11 fun _ _ _ => ?_ | refine stb_n ?_)) | ((with_reducible refine w2 ?_); try simp -implicitDefEqProofs only [EN, lsub, lget, stL, beq_self_eq_true, ne_eq, if_true, if_false, List.cons_append, List.nil_append, Option.isNone_some, Option.isNone_none]; intro _ _) | ((with_reducible (first | refine w5 ?_ ?_ | refine w6 ?_ ?_ | refine w7 ?_ ?_)); simp; refine ⟨_, rfl, ?_⟩) | ((with_reducible (first | refine w8 ?_ ?_ ?_ | refine w9 ?_ ?_ ?_ | refine w10 ?_ ?_ ?_)); exact rfl; simp) | ((with_reducible refine w12 ?_ ?_ ?_ fun _ _ => ?_); simp; simp; simp [oneC]) | ((with_reducible (first | refine eqs ?_ | refine nes ?_)); refine ⟨_, rfl, ?_⟩) | ((refine okF_i (bldP_eq rfl) ?_); try simp only [BLS, List.take_succ_cons, List.take_zero, List.drop_succ_cons, List.drop_zero, List.cons_append, List.nil_append, Nat.reduceAdd])) | simp -implicitDefEqProofs only [EN, lsub, lget, stL, beq_self_eq_true, ne_eq, if_true, if_false, List.cons_append, List.nil_append, Option.isNone_some, Option.isNone_none]))
      exact hfin (some ⟨lb, 0, none⟩) oth.length _ (St.wk (by first | assumption | exact St.tick (by assumption) | exact St.tick (St.tick (by assumption))))
    · refine bl2 oth h (by decide) fun _ h => ?_
      refine stb_ld h (tp5_get hpg) (by simp) (stb_n ?_)
      refine cp h fun _ h => ?_
      refine stb_ld h (tp5_get hpg) (by simp) (stb_n ?_)
      (repeat (first | (first | (with_reducible (first | refine w1 fun _ _ => ?_ | refine w3 fun _ _ _ => ?_ | refine w4 fun _ _ _ => ?_ | refine w11 fun _ _ _ => ?_ | refine stb_n ?_)) | ((with_reducible refine w2 ?_); try simp -implicitDefEqProofs only [EN, lsub, lget, stL, beq_self_eq_true, ne_eq, if_true, if_false, List.cons_append, List.nil_append, Option.isNone_some, Option.isNone_none]; intro _ _) | ((with_reducible (first | refine w5 ?_ ?_ | refine w6 ?_ ?_ | refine w7 ?_ ?_)); simp; refine ⟨_, rfl, ?_⟩) | ((with_reducible (first | refine w8 ?_ ?_ ?_ | refine w9 ?_ ?_ ?_ | refine w10 ?_ ?_ ?_)); exact rfl; simp) | ((with_reducible refine w12 ?_ ?_ ?_ fun _ _ => ?_); simp; simp; simp [oneC]) | ((with_reducible (first | refine eqs ?_ | refine nes ?_)); refine ⟨_, rfl, ?_⟩) | ((refine okF_i (bldP_eq rfl) ?_); try simp only [BLS, List.take_succ_cons, List.take_zero, List.drop_succ_cons, List.drop_zero, List.cons_append, List.nil_append, Nat.reduceAdd])) | simp -implicitDefEqProofs only [EN, lsub, lget, stL, beq_self_eq_true, ne_eq, if_true, if_false, List.cons_append, List.nil_append, Option.isNone_some, Option.isNone_none]))
      exact hfin (some ⟨lb, 0, none⟩) oth.length _ (St.wk (by first | assumption | exact St.tick (by assumption) | exact St.tick (St.tick (by assumption))))
end Go.Proofs.Ytpihhlaiofkmdaa
namespace Go.Proofs.Ytpihhlaiofkmdaa.leadTwoDone
set_option linter.unusedVariables false
set_option linter.unusedSimpArgs false
open Go Go.Eng Go.ChangeShapes Go.WideShapes Go.ChangeAt Go.RowKit

theorem own : ownKnob Try.prog.godebug = none := by kernel_rfl
theorem laidOut : laidOutB Try.prog = true := by kernel_rfl

set_option maxRecDepth 100000 in
theorem lifted (os : Os) (started : os.Started) (H : Type) (enc : TypeId × Value → H) :
    ReturnsInHanded {} Try.checked os F_rostrumlaw21_LeadTwo .any (Rows.leadTwoSpec.pre6 enc Try.prog Try.f7 Rows.leadTwoRow.domain false) (Rows.leadTwoSpec.post enc Try.prog Try.f7 false true false false) := by
  refine returnsInHanded_of_change (C := Try.checked) own started (by kernel_rfl) S.rostrumlaw21_LeadTwo.fn
    (ChangeSpec.witness6 (enc := enc) (C := Try.checked) false ⟨#[], #[(.int .i64 0), (.int .i64 0), (.int .i64 0), (.slice none 0 0)], []⟩ 8 (by kernel_rfl) (by kernel_rfl) (by kernel_rfl) (by kernel_rfl)) ?_
  intro W base args ds gs before hval0 hW hcnd _
  have hval : ∀ (j : Nat) t v, Try.f7.params[j]? = some t → args[j]? = some v → Value.okWide Try.prog W .any base t v := hval0
  have hW' := hW
  obtain ⟨p, q, hA0, hV, rfl, hfz, hnd⟩ := hW
  have hA : DataW.TrodAll enc Try.prog W 0 (fun _ => true) true Try.f7.params.toList args.toList ds p := hA0
  have hpar : Try.f7.params.toList = [T_int, T_int, T_int, T_s_int] := by kernel_rfl
  rw [hpar] at hA
  have hA1 := hA
  obtain ⟨v0, vs0, d0, ds0, p0, q0, hargs, rfl, rfl, h0, r0⟩ := trodAll_cons hA
  obtain ⟨v1, vs1, d1, ds1, p1, q1, rfl, rfl, rfl, h1, r1⟩ := trodAll_cons r0
  obtain ⟨v2, vs2, d2, ds2, p2, q2, rfl, rfl, rfl, h2, r2⟩ := trodAll_cons r1
  obtain ⟨v3, vs3, d3, ds3, p3, q3, rfl, rfl, rfl, h3, r3⟩ := trodAll_cons r2
  obtain ⟨rfl, rfl, rfl⟩ := trodAll_nil r3
  obtain rfl : args = #[v0, v1, v2, v3] := by cases args; simp_all
  obtain ⟨rfl, rfl⟩ := trodVars_none hV
  have g0 : GoodA W [.int .i64] false v0 := open_arg (m := 8) (by kernel_rfl) (by kernel_rfl) (hval 0 T_int v0 (by kernel_rfl) rfl) h0
  have g1 : GoodA W [.int .i64] false v1 := open_arg (m := 8) (by kernel_rfl) (by kernel_rfl) (hval 1 T_int v1 (by kernel_rfl) rfl) h1
  have g2 : GoodA W [.int .i64] false v2 := open_arg (m := 8) (by kernel_rfl) (by kernel_rfl) (hval 2 T_int v2 (by kernel_rfl) rfl) h2
  have g3 : GoodA W [.sl [.int .i64]] false v3 := open_arg (m := 8) (by kernel_rfl) (by kernel_rfl) (hval 3 T_s_int v3 (by kernel_rfl) rfl) h3
  clear hA0 hval0
  have hc : Calls Try.prog F_rostrumlaw21_LeadTwo #[v0, v1, v2, v3] W fun e W' => e = .returned (.bool true) ∧ Below W.heap.size W W' :=
    Calls.mono (leadTwo_walk g0 g1 g2 g3) fun e W' h => by
      cases e <;> first | exact ⟨by rw [h.1], h.2.below⟩ | exact h.elim
  refine hc.mono fun e W' ⟨he, bel⟩ => ?_
  subst he
  exact ⟨_, rfl, _, _, _, [], _, [], hW', trodAll_mk1 (shut_bool (t := T_bool) (by kernel_rfl) _), keep_all laidOut (by kernel_rfl) hA1 bel, rfl, bel.frame _, fun h => by cases h⟩

theorem proved : Rows.LeadTwoSaid :=
  OpenClaim.holds_of_wide F_rostrumlaw21_LeadTwo Try.f7 rfl rfl rfl rfl rfl rfl rfl ⟨rfl, rfl, rfl, rfl, rfl⟩ rfl rfl rfl rfl rfl (by kernel_rfl) S.rostrumlaw21_LeadTwo.fn (by kernel_rfl)
    (of_decide_eq_true (by kernel_rfl)) (by unfold Func.isWrapper; first | (rw [if_pos (by decide +kernel)]; kernel_rfl) | (rw [if_neg (by decide +kernel)]; exact ⟨rfl, rfl⟩))
    (fun os started H enc _ => lifted os started H enc)
end Go.Proofs.Ytpihhlaiofkmdaa.leadTwoDone
