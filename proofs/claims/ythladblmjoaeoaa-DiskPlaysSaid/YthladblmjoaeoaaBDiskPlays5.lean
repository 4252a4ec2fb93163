/- Texts of the claim DiskPlays, joined: CDisk4, ShDelW, DelFW, ShDisk5, CDisk5, Srt, Srt3, Lay, ShDisk6, Mp3. -/
import Derived.Test.YthladblmjoaeoaaBDiskPlays4
import Derived.Test.YthladblmjoaeoaaBDiskPlays3
import Derived.Shelf.SlSortCmp.NoneTotal
import Derived.Test.YthladblmjoaeoaaBDiskPlays2
import Derived.WideShapes
import Derived.Shelf.SlIterI.Sorted
import Derived.Shelf.SortM.Plain
import Derived.Shelf.SortM.SortNone
namespace Go.Proofs.Ythladblmjoaeoaa
set_option linter.unusedVariables false
set_option linter.unusedSimpArgs false
open Go Go.Eng

section
variable {W0 W : World} {L L' : List Asn}
theorem crashGo_succ {keep torn : Int} {ws : List Wr} {n : Nat} {w : Wr} {fs : List (Int × List UInt8)} (h : ws[n]? = some w) :
    crashGo keep torn ws (n + 1) fs = if (n : Int) < keep then fs else crashGo keep torn ws n (mput fs w.1 ((cont fs w.1).take (stayN keep torn n w).toNat)) := by
  rw [crashGo, h]
abbrev dcells (p r : Nat) (d : DS) (a : Option Addr) (c : Nat) : Asn := cells p [.int .i64 d.room, .map (some r), .slice a d.ws.length c, .bool d.on, .int .i64 d.lives] T_disk_Disk
theorem diskCrash {p : Nat} {d : DS} {keep torn : Int} {k : Value → World → Prop} (h : St W0 L W) [ht : Tk (dk p) L d L'] (hd : d.ok) (hf : d.fit) (hw : d.ws.length < 1000000)
    (hk : ∀ W', St W0 (dk p (d.crash keep torn) :: L') W' → k (.tuple #[]) W') : callK PR F_disk_Disk_Crash [.pointer (some ⟨p, 0, none⟩), .int .i64 keep, .int .i64 torn] k W := by
  apply S.disk_Disk_Crash.call
  unfold S.disk_Disk_Crash.body
  obtain ⟨r, a, c, fs, hfs, h⟩ := dk_at (h.perm ht.perm)
  have hend : ∀ (fs' : List (Int × BSl)) W1, cts fs' = crashGo keep torn d.ws d.ws.length d.fs → St W0 (dcells p r d a c :: mp KI r (mvs fs') :: arr WRT T_disk_write a c d.ws :: many fch (fs'.map (·.2)) :: L') W1 →
      S.disk_Disk_Crash.j1 k (.pointer (some ⟨p, 0, none⟩)) W1 := by
    intro fs' W1 hfs' h
    unfold S.disk_Disk_Crash.j1
    have h1 := (h.ent (ent.rot3' _ _ _ _)).drop
    clear h
    (repeat (first | (first | (with_reducible (first | refine w1 fun _ _ => ?_ | refine w3 fun _ _ _ => ?_ | refine w4 fun _ _ _ => ?_ | refine w11 fun _ _ _ => ?_ | refine stb_n ?_)) | ((with_reducible refine w2 ?_); try simp -implicitDefEqProofs only [EN, lsub, lget, stL, beq_self_eq_true, ne_eq, if_true, if_false, List.cons_append, List.nil_append, Option.isNone_some, Option.isNone_none]; intro _ _) | ((with_reducible (first | refine w5 ?_ ?_ | refine w6 ?_ ?_ | refine w7 ?_ ?_)); simp; refine ⟨_, rfl, ?_⟩) | ((with_reducible (first | refine w8 ?_ ?_ ?_ | refine w9 ?_ ?_ ?_ | refine w10 ?_ ?_ ?_)); exact rfl; simp) | ((with_reducible refine w12 ?_ ?_ ?_ fun _ _ => ?_); simp; simp; simp [oneC]) | ((with_reducible (first | refine eqs ?_ | refine nes ?_)); refine ⟨_, rfl, ?_⟩) | ((refine okF_i (bldP_eq rfl) ?_); try simp only [BLS, List.take_succ_cons, List.take_zero, List.drop_succ_cons, List.drop_zero, List.cons_append, List.nil_append, Nat.reduceAdd])) | simp -implicitDefEqProofs only [EN, lsub, lget, stL, beq_self_eq_true, ne_eq, if_true, if_false, List.cons_append, List.nil_append, Option.isNone_some, Option.isNone_none]))
    rename_i h
    exact hk _ (h.ent ((ent.cons _ (ent.cons _ (arr_nil WRT T_disk_write))).trans (dk_ent (d := d.crash keep torn) (r := r) (a := none) (c := 0) hfs')))
  have ew : IntKind.i64.wrap ((d.ws.length : Int) - 1) = (d.ws.length : Int) - 1 := by rw [i64w]; omega
  refine joinK_i ?_
  (repeat (first | (first | (with_reducible (first | refine w1 fun _ _ => ?_ | refine w3 fun _ _ _ => ?_ | refine w4 fun _ _ _ => ?_ | refine w11 fun _ _ _ => ?_ | refine stb_n ?_)) | ((with_reducible refine w2 ?_); try simp -implicitDefEqProofs only [EN, lsub, lget, stL, beq_self_eq_true, ne_eq, if_true, if_false, List.cons_append, List.nil_append, Option.isNone_some, Option.isNone_none, ew]; intro _ _) | ((with_reducible (first | refine w5 ?_ ?_ | refine w6 ?_ ?_ | refine w7 ?_ ?_)); simp; refine ⟨_, rfl, ?_⟩) | ((with_reducible (first | refine w8 ?_ ?_ ?_ | refine w9 ?_ ?_ ?_ | refine w10 ?_ ?_ ?_)); exact rfl; simp) | ((with_reducible refine w12 ?_ ?_ ?_ fun _ _ => ?_); simp; simp; simp [oneC]) | ((with_reducible (first | refine eqs ?_ | refine nes ?_)); refine ⟨_, rfl, ?_⟩) | ((refine okF_i (bldP_eq rfl) ?_); try simp only [BLS, List.take_succ_cons, List.take_zero, List.drop_succ_cons, List.drop_zero, List.cons_append, List.nil_append, Nat.reduceAdd])) | simp -implicitDefEqProofs only [EN, lsub, lget, stL, beq_self_eq_true, ne_eq, if_true, if_false, List.cons_append, List.nil_append, Option.isNone_some, Option.isNone_none, ew]))
  refine loop_x (σ := Nat × List (Int × BSl)) (fun x => [.pointer (some ⟨p, 0, none⟩), .int .i64 keep, .int .i64 torn, .int .i64 ((x.1 : Int) - 1)])
    (fun x W1 => x.1 ≤ d.ws.length ∧ (fitGo d.ws x.1 (cts x.2) ∨ (x.1 : Int) ≤ keep) ∧ crashGo keep torn d.ws x.1 (cts x.2) = crashGo keep torn d.ws d.ws.length d.fs ∧ lens (cts x.2) ≤ d.room ∧
      St W0 (dcells p r d a c :: mp KI r (mvs x.2) :: arr WRT T_disk_write a c d.ws :: many fch (x.2.map (·.2)) :: L') W1)
    (fun x => x.1) (d.ws.length, fs) rfl ⟨Nat.le_refl _, .inl (hfs ▸ hf), by rw [hfs], by rw [hfs]; exact hd.2.2, (by first | assumption | exact St.tick (by assumption) | exact St.tick (St.tick (by assumption)))⟩ ?_
  clear h
  rintro K ⟨n, gs⟩ W2 ⟨hn, hfit, hgo, hln, h⟩ hK
  simp only at hn hfit hgo hln h hK ⊢
  simp -implicitDefEqProofs only [EN, lsub, lget, stL, beq_self_eq_true, ne_eq, if_true, if_false, List.cons_append, List.nil_append, Option.isNone_some, Option.isNone_none]
  unfold S.disk_Disk_Crash.l1
  cases n with
  | zero =>
    (repeat (first | (first | (with_reducible (first | refine w1 fun _ _ => ?_ | refine w3 fun _ _ _ => ?_ | refine w4 fun _ _ _ => ?_ | refine w11 fun _ _ _ => ?_ | refine stb_n ?_)) | ((with_reducible refine w2 ?_); try simp -implicitDefEqProofs only [EN, lsub, lget, stL, beq_self_eq_true, ne_eq, if_true, if_false, List.cons_append, List.nil_append, Option.isNone_some, Option.isNone_none]; intro _ _) | ((with_reducible (first | refine w5 ?_ ?_ | refine w6 ?_ ?_ | refine w7 ?_ ?_)); simp; refine ⟨_, rfl, ?_⟩) | ((with_reducible (first | refine w8 ?_ ?_ ?_ | refine w9 ?_ ?_ ?_ | refine w10 ?_ ?_ ?_)); exact rfl; simp) | ((with_reducible refine w12 ?_ ?_ ?_ fun _ _ => ?_); simp; simp; simp [oneC]) | ((with_reducible (first | refine eqs ?_ | refine nes ?_)); refine ⟨_, rfl, ?_⟩) | ((refine okF_i (bldP_eq rfl) ?_); try simp only [BLS, List.take_succ_cons, List.take_zero, List.drop_succ_cons, List.drop_zero, List.cons_append, List.nil_append, Nat.reduceAdd])) | simp -implicitDefEqProofs only [EN, lsub, lget, stL, beq_self_eq_true, ne_eq, if_true, if_false, List.cons_append, List.nil_append, Option.isNone_some, Option.isNone_none]))
    exact hend gs _ hgo h
  | succ n =>
    have e1 : ((n + 1 : Nat) : Int) - 1 = n := by omega
    rw [e1]
    have hib : n < d.ws.length := by omega
    have hget : d.ws[n]? = some d.ws[n] := List.getElem?_eq_getElem hib
    rw [crashGo_succ hget] at hgo
    have hfit' : (fitGo d.ws (n + 1) (cts gs)) → _ := fun h => h _ hget
    have e0 : decide (0 ≤ (n : Int)) = true := decide_eq_true (by omega)
    (repeat (first | (first | (with_reducible (first | refine w1 fun _ _ => ?_ | refine w3 fun _ _ _ => ?_ | refine w4 fun _ _ _ => ?_ | refine w11 fun _ _ _ => ?_ | refine stb_n ?_)) | ((with_reducible refine w2 ?_); try simp -implicitDefEqProofs only [EN, lsub, lget, stL, beq_self_eq_true, ne_eq, if_true, if_false, List.cons_append, List.nil_append, Option.isNone_some, Option.isNone_none, e0]; intro _ _) | ((with_reducible (first | refine w5 ?_ ?_ | refine w6 ?_ ?_ | refine w7 ?_ ?_)); simp; refine ⟨_, rfl, ?_⟩) | ((with_reducible (first | refine w8 ?_ ?_ ?_ | refine w9 ?_ ?_ ?_ | refine w10 ?_ ?_ ?_)); exact rfl; simp) | ((with_reducible refine w12 ?_ ?_ ?_ fun _ _ => ?_); simp; simp; simp [oneC]) | ((with_reducible (first | refine eqs ?_ | refine nes ?_)); refine ⟨_, rfl, ?_⟩) | ((refine okF_i (bldP_eq rfl) ?_); try simp only [BLS, List.take_succ_cons, List.take_zero, List.drop_succ_cons, List.drop_zero, List.cons_append, List.nil_append, Nat.reduceAdd])) | simp -implicitDefEqProofs only [EN, lsub, lget, stL, beq_self_eq_true, ne_eq, if_true, if_false, List.cons_append, List.nil_append, Option.isNone_some, Option.isNone_none, e0]))
    refine ixA (i := n) (a := a) (l := d.ws) (A := WRT) (by first | assumption | exact St.tick (by assumption) | exact St.tick (St.tick (by assumption))) rfl rfl hib fun g o ha => ?_
    cases ha
    have hwr : getL true (WRT.row d.ws[n]) 0 3 = some (.agg #[.int .i64 d.ws[n].1, .int .i64 d.ws[n].2.1, .int .i64 d.ws[n].2.2]) := rfl
    refine ldA0 (l := d.ws) (A := WRT) (by first | assumption | exact St.tick (by assumption) | exact St.tick (St.tick (by assumption))) rfl hib hwr (by simp) ?_
    generalize d.ws[n] = w at *
    (repeat (first | (first | (with_reducible (first | refine w1 fun _ _ => ?_ | refine w3 fun _ _ _ => ?_ | refine w4 fun _ _ _ => ?_ | refine w11 fun _ _ _ => ?_ | refine stb_n ?_)) | ((with_reducible refine w2 ?_); try simp -implicitDefEqProofs only [EN, lsub, lget, stL, beq_self_eq_true, ne_eq, if_true, if_false, List.cons_append, List.nil_append, Option.isNone_some, Option.isNone_none]; intro _ _) | ((with_reducible (first | refine w5 ?_ ?_ | refine w6 ?_ ?_ | refine w7 ?_ ?_)); simp; refine ⟨_, rfl, ?_⟩) | ((with_reducible (first | refine w8 ?_ ?_ ?_ | refine w9 ?_ ?_ ?_ | refine w10 ?_ ?_ ?_)); exact rfl; simp) | ((with_reducible refine w12 ?_ ?_ ?_ fun _ _ => ?_); simp; simp; simp [oneC]) | ((with_reducible (first | refine eqs ?_ | refine nes ?_)); refine ⟨_, rfl, ?_⟩) | ((refine okF_i (bldP_eq rfl) ?_); try simp only [BLS, List.take_succ_cons, List.take_zero, List.drop_succ_cons, List.drop_zero, List.cons_append, List.nil_append, Nat.reduceAdd])) | simp -implicitDefEqProofs only [EN, lsub, lget, stL, beq_self_eq_true, ne_eq, if_true, if_false, List.cons_append, List.nil_append, Option.isNone_some, Option.isNone_none]))
    by_cases hkeep : (n : Int) < keep
    · rw [if_pos hkeep] at hgo
      (repeat (first | (first | (with_reducible (first | refine w1 fun _ _ => ?_ | refine w3 fun _ _ _ => ?_ | refine w4 fun _ _ _ => ?_ | refine w11 fun _ _ _ => ?_ | refine stb_n ?_)) | ((with_reducible refine w2 ?_); try simp -implicitDefEqProofs only [EN, lsub, lget, stL, beq_self_eq_true, ne_eq, if_true, if_false, List.cons_append, List.nil_append, Option.isNone_some, Option.isNone_none, hkeep]; intro _ _) | ((with_reducible (first | refine w5 ?_ ?_ | refine w6 ?_ ?_ | refine w7 ?_ ?_)); simp; refine ⟨_, rfl, ?_⟩) | ((with_reducible (first | refine w8 ?_ ?_ ?_ | refine w9 ?_ ?_ ?_ | refine w10 ?_ ?_ ?_)); exact rfl; simp) | ((with_reducible refine w12 ?_ ?_ ?_ fun _ _ => ?_); simp; simp; simp [oneC]) | ((with_reducible (first | refine eqs ?_ | refine nes ?_)); refine ⟨_, rfl, ?_⟩) | ((refine okF_i (bldP_eq rfl) ?_); try simp only [BLS, List.take_succ_cons, List.take_zero, List.drop_succ_cons, List.drop_zero, List.cons_append, List.nil_append, Nat.reduceAdd])) | simp -implicitDefEqProofs only [EN, lsub, lget, stL, beq_self_eq_true, ne_eq, if_true, if_false, List.cons_append, List.nil_append, Option.isNone_some, Option.isNone_none, hkeep]))
      have h' := St.drop (by first | assumption | exact St.tick (by assumption) | exact St.tick (St.tick (by assumption)))
      exact hend gs _ hgo h'
    rw [if_neg hkeep] at hgo
    (repeat (first | (first | (with_reducible (first | refine w1 fun _ _ => ?_ | refine w3 fun _ _ _ => ?_ | refine w4 fun _ _ _ => ?_ | refine w11 fun _ _ _ => ?_ | refine stb_n ?_)) | ((with_reducible refine w2 ?_); try simp -implicitDefEqProofs only [EN, lsub, lget, stL, beq_self_eq_true, ne_eq, if_true, if_false, List.cons_append, List.nil_append, Option.isNone_some, Option.isNone_none, hkeep]; intro _ _) | ((with_reducible (first | refine w5 ?_ ?_ | refine w6 ?_ ?_ | refine w7 ?_ ?_)); simp; refine ⟨_, rfl, ?_⟩) | ((with_reducible (first | refine w8 ?_ ?_ ?_ | refine w9 ?_ ?_ ?_ | refine w10 ?_ ?_ ?_)); exact rfl; simp) | ((with_reducible refine w12 ?_ ?_ ?_ fun _ _ => ?_); simp; simp; simp [oneC]) | ((with_reducible (first | refine eqs ?_ | refine nes ?_)); refine ⟨_, rfl, ?_⟩) | ((refine okF_i (bldP_eq rfl) ?_); try simp only [BLS, List.take_succ_cons, List.take_zero, List.drop_succ_cons, List.drop_zero, List.cons_append, List.nil_append, Nat.reduceAdd])) | simp -implicitDefEqProofs only [EN, lsub, lget, stL, beq_self_eq_true, ne_eq, if_true, if_false, List.cons_append, List.nil_append, Option.isNone_some, Option.isNone_none, hkeep]))
    rename_i cb _ _ W3 h
    have hf1 : fitGo d.ws (n + 1) (cts gs) := hfit.resolve_right (by omega)
    obtain ⟨w1, w2, w3, w4⟩ := hfit' hf1
    have hcl := lens_cont (cts gs) w.1
    have hlc := lens_cut (cts gs) w.1 (stayN keep torn n w).toNat
    obtain ⟨hd1, hd2, _⟩ := hd
    have htr := tornN_range torn (x := w.2.2 - w.2.1) (by omega)
    have hm : w.2.1 ≤ stayN keep torn n w ∧ stayN keep torn n w ≤ w.2.2 := by unfold stayN; split <;> omega
    have hft : fitGo d.ws n (mput (cts gs) w.1 ((cont (cts gs) w.1).take (stayN keep torn n w).toNat)) ∨ (n : Int) ≤ keep := by
      by_cases hk' : (n : Int) = keep
      · exact .inr (by omega)
      · left; have : stayN keep torn n w = w.2.1 := by unfold stayN; rw [if_neg hk']
        rw [this]; exact w4
    have hJ : ∀ (m : Int) W1, m = stayN keep torn n w → St W0 (cells cb [.int .i64 w.1, .int .i64 w.2.1, .int .i64 w.2.2] T_disk_write :: dcells p r d (some ⟨g, o, none⟩) c :: mp KI r (mvs gs) :: arr WRT T_disk_write (some ⟨g, o, none⟩) c d.ws :: many fch (gs.map (·.2)) :: L') W1 →
        S.disk_Disk_Crash.j2 K (.pointer (some ⟨p, 0, none⟩)) (.int .i64 keep) (.int .i64 torn) (.int .i64 n) (.pointer (some ⟨cb, 0, none⟩)) (.int .i64 m) W1 := by
      intro m W1 hme h
      rw [← hme] at hm hgo hlc hft
      clear hme
      unfold S.disk_Disk_Crash.j2
      (repeat (first | (first | (with_reducible (first | refine w1 fun _ _ => ?_ | refine w3 fun _ _ _ => ?_ | refine w4 fun _ _ _ => ?_ | refine w11 fun _ _ _ => ?_ | refine stb_n ?_)) | ((with_reducible refine w2 ?_); try simp -implicitDefEqProofs only [EN, lsub, lget, stL, beq_self_eq_true, ne_eq, if_true, if_false, List.cons_append, List.nil_append, Option.isNone_some, Option.isNone_none]; intro _ _) | ((with_reducible (first | refine w5 ?_ ?_ | refine w6 ?_ ?_ | refine w7 ?_ ?_)); simp; refine ⟨_, rfl, ?_⟩) | ((with_reducible (first | refine w8 ?_ ?_ ?_ | refine w9 ?_ ?_ ?_ | refine w10 ?_ ?_ ?_)); exact rfl; simp) | ((with_reducible refine w12 ?_ ?_ ?_ fun _ _ => ?_); simp; simp; simp [oneC]) | ((with_reducible (first | refine eqs ?_ | refine nes ?_)); refine ⟨_, rfl, ?_⟩) | ((refine okF_i (bldP_eq rfl) ?_); try simp only [BLS, List.take_succ_cons, List.take_zero, List.drop_succ_cons, List.drop_zero, List.cons_append, List.nil_append, Nat.reduceAdd])) | simp -implicitDefEqProofs only [EN, lsub, lget, stL, beq_self_eq_true, ne_eq, if_true, if_false, List.cons_append, List.nil_append, Option.isNone_some, Option.isNone_none]))
      refine lkp (K := KI) (z := .slice none 0 0) w.1 (by first | assumption | exact St.tick (by assumption) | exact St.tick (St.tick (by assumption))) ?_
      rw [mget_mvs]
      rename_i h0
      have h := (St.tick h).drop
      have h' := h.ent (ent.cons _ (ent.cons _ (ent.cons _ (many_take (F := fch) w.1 ⟨none, 0, []⟩ fch0))))
      clear h h0
      have hcc := cont_cts gs w.1
      rw [hcc] at hcl hlc hgo hft w3
      generalize hy : (mget gs w.1).getD ⟨none, 0, []⟩ = y at *
      have h : St W0 (_ :: _ :: _ :: arr B8 T_uint8 y.a y.c y.bs :: _) _ := h'
      clear h'
      have hyc := (h.took (a := y.a)).arrFacts
      refine slcO (a := y.a) (l := y.bs) (lo := 0) (hi := m.toNat) h rfl rfl (bnd_int (by omega) (by omega)) bnd_none (by omega) (by omega) fun a' c' he => ?_
      rw [List.drop_zero] at he ⊢
      refine mset (K := KI) w.1 (h.ent he) fun W5 h5 => ?_
      clear h he
      have e4 : IntKind.i64.wrap ((n : Int) - 1) = (n : Int) - 1 := by rw [i64w]; omega
      rw [e4]
      have hp : cts (mput gs w.1 ⟨a', c', y.bs.take m.toNat⟩) = mput (cts gs) w.1 (y.bs.take m.toNat) := (mput_map BSl.bs gs w.1 ⟨a', c', y.bs.take m.toNat⟩).symm
      refine hK (n, mput gs w.1 ⟨a', c', y.bs.take m.toNat⟩) W5 (Nat.lt_succ_self n) ⟨Nat.le_of_lt hib, ?_, ?_, ?_, ?_⟩
      · simp only [hp]; exact hft
      · simp only [hp]; exact hgo
      · simp only [hp]; omega
      · have h6 : St W0 (mp KI r (mput (mvs gs) w.1 (BSl.v ⟨a', c', y.bs.take m.toNat⟩)) :: fch ⟨a', c', y.bs.take m.toNat⟩ :: dcells p r d (some ⟨g, o, none⟩) c :: arr WRT T_disk_write (some ⟨g, o, none⟩) c d.ws :: many fch ((mdel gs w.1).map (·.2)) :: L') W5 := h5
        rw [show mput (mvs gs) w.1 (BSl.v ⟨a', c', y.bs.take m.toNat⟩) = mvs (mput gs w.1 ⟨a', c', y.bs.take m.toNat⟩) from mput_map BSl.v gs w.1 _] at h6
        exact h6.ent ((ent.rot3' _ _ _ _).trans (ent.cons _ (ent.cons _ ((ent.swap _ _ _).trans (ent.cons _ (many_put w.1 _))))))
    clear hK hgo hfit hft hlc
    refine joinK_i ?_
    by_cases hk' : (n : Int) = keep
    · have e5 : IntKind.i64.wrap (w.2.2 - w.2.1) = w.2.2 - w.2.1 := by rw [i64w]; omega
      have hst : stayN keep torn n w = w.2.1 + (if (if w.2.2 - w.2.1 < torn then w.2.2 - w.2.1 else torn) < 0 then 0 else (if w.2.2 - w.2.1 < torn then w.2.2 - w.2.1 else torn)) := by unfold stayN; rw [if_pos hk']; rfl
      have e6 : IntKind.i64.wrap (stayN keep torn n w) = stayN keep torn n w := by rw [i64w]; omega
      have e7 : decide ((n : Int) = keep) = true := decide_eq_true hk'
      (repeat (first | (first | (with_reducible (first | refine w1 fun _ _ => ?_ | refine w3 fun _ _ _ => ?_ | refine w4 fun _ _ _ => ?_ | refine w11 fun _ _ _ => ?_ | refine stb_n ?_)) | ((with_reducible refine w2 ?_); try simp -implicitDefEqProofs only [EN, lsub, lget, stL, beq_self_eq_true, ne_eq, if_true, if_false, List.cons_append, List.nil_append, Option.isNone_some, Option.isNone_none, e7, e5, min2i, max2i]; intro _ _) | ((with_reducible (first | refine w5 ?_ ?_ | refine w6 ?_ ?_ | refine w7 ?_ ?_)); simp; refine ⟨_, rfl, ?_⟩) | ((with_reducible (first | refine w8 ?_ ?_ ?_ | refine w9 ?_ ?_ ?_ | refine w10 ?_ ?_ ?_)); exact rfl; simp) | ((with_reducible refine w12 ?_ ?_ ?_ fun _ _ => ?_); simp; simp; simp [oneC]) | ((with_reducible (first | refine eqs ?_ | refine nes ?_)); refine ⟨_, rfl, ?_⟩) | ((refine okF_i (bldP_eq rfl) ?_); try simp only [BLS, List.take_succ_cons, List.take_zero, List.drop_succ_cons, List.drop_zero, List.cons_append, List.nil_append, Nat.reduceAdd])) | simp -implicitDefEqProofs only [EN, lsub, lget, stL, beq_self_eq_true, ne_eq, if_true, if_false, List.cons_append, List.nil_append, Option.isNone_some, Option.isNone_none, e7, e5, min2i, max2i]))
      rw [← hst, e6]
      exact hJ (stayN keep torn n w) _ rfl (by first | assumption | exact St.tick (by assumption) | exact St.tick (St.tick (by assumption)))
    · have e7 : decide ((n : Int) = keep) = false := decide_eq_false hk'
      (repeat (first | (first | (with_reducible (first | refine w1 fun _ _ => ?_ | refine w3 fun _ _ _ => ?_ | refine w4 fun _ _ _ => ?_ | refine w11 fun _ _ _ => ?_ | refine stb_n ?_)) | ((with_reducible refine w2 ?_); try simp -implicitDefEqProofs only [EN, lsub, lget, stL, beq_self_eq_true, ne_eq, if_true, if_false, List.cons_append, List.nil_append, Option.isNone_some, Option.isNone_none, e7]; intro _ _) | ((with_reducible (first | refine w5 ?_ ?_ | refine w6 ?_ ?_ | refine w7 ?_ ?_)); simp; refine ⟨_, rfl, ?_⟩) | ((with_reducible (first | refine w8 ?_ ?_ ?_ | refine w9 ?_ ?_ ?_ | refine w10 ?_ ?_ ?_)); exact rfl; simp) | ((with_reducible refine w12 ?_ ?_ ?_ fun _ _ => ?_); simp; simp; simp [oneC]) | ((with_reducible (first | refine eqs ?_ | refine nes ?_)); refine ⟨_, rfl, ?_⟩) | ((refine okF_i (bldP_eq rfl) ?_); try simp only [BLS, List.take_succ_cons, List.take_zero, List.drop_succ_cons, List.drop_zero, List.cons_append, List.nil_append, Nat.reduceAdd])) | simp -implicitDefEqProofs only [EN, lsub, lget, stL, beq_self_eq_true, ne_eq, if_true, if_false, List.cons_append, List.nil_append, Option.isNone_some, Option.isNone_none, e7]))
      exact hJ w.2.1 _ (by unfold stayN; rw [if_neg hk']) (by first | assumption | exact St.tick (by assumption) | exact St.tick (St.tick (by assumption)))
end
end Go.Proofs.Ythladblmjoaeoaa
namespace Go.Proofs.Ythladblmjoaeoaa
set_option linter.unusedVariables false
set_option linter.unusedSimpArgs false
open Go.Eng
/-! ### slices.DeleteFunc[[]rostrum/disk.write,rostrum/disk.write] (60) -/
def S.slices_DeleteFunc_disk_write_disk_write.j1 (R : Value → World → Prop) (x0 x5 : Value) (W : World) : Prop :=
  okF (slcS 3 x0 (some x5) none none) fun v38 =>
  efK PR (Builtin.clear_ #[T_s_disk_write] T_t0 #[v38]) (fun _ W =>
  okF (slcS 3 x0 none (some x5) none) fun v41 =>
  R v41 W) W
def S.slices_DeleteFunc_disk_write_disk_write.j2 (K1 : List Value → World → Prop) (x0 x1 x5 x6 : Value) (W : World) : Prop :=
  okF (binP .add x6 (.int .i64 1)) fun v21 =>
  K1 [x0, x1, x5, v21] W
def S.slices_DeleteFunc_disk_write_disk_write.l1 (J1 : List Value → World → Prop) (K1 : List Value → World → Prop) (x0 x1 x5 x6 : Value) (W : World) : Prop :=
  okF (lenP (.slice T_disk_write) x0) fun v18 =>
  okF (binP .lss x6 v18) fun v19 =>
  ifK v19 (
  joinK (fun s W => S.slices_DeleteFunc_disk_write_disk_write.j2 K1 (nthv s 0) (nthv s 1) (nthv s 2) (nthv s 3) W) (fun J2 =>
  okF (idxS 3 x0 x6) fun v24 =>
  rdK PR (Instr.loadAt T_disk_write v24) (fun v25 W =>
  efK PR (Instr.alloc T_disk_write true (.tuple #[])) (fun v7 W =>
  efK PR (Instr.storeAt T_disk_write v7 v25) (fun _ W =>
  rdK PR (Instr.loadAt T_disk_write v7) (fun v27 W =>
  vcK PR x1 [v27] (fun v28 W =>
  okF (unP .not v28) fun v29 =>
  ifK v29 (
  rdK PR (Instr.loadAt T_disk_write v7) (fun v32 W =>
  okF (idxS 3 x0 x5) fun v33 =>
  efK PR (Instr.storeAt T_disk_write v33 v32) (fun _ W =>
  okF (binP .add x5 (.int .i64 1)) fun v35 =>
  J2 [x0, x1, v35, x6] W) W) W) (
  J2 [x0, x1, x5, x6] W)) W) W) W) W) W)) (
  J1 [x0, x5] W)
def S.slices_DeleteFunc_disk_write_disk_write.body (R : Value → World → Prop) (v0 v1 : Value) (W : World) : Prop :=
  callK PR F_slices_IndexFunc_disk_write_disk_write [v0, v1] (fun v10 W =>
  okF (binP .eql v10 (.int .i64 (-1))) fun v12 =>
  ifK v12 (
  R v0 W) (
  joinK (fun s W => S.slices_DeleteFunc_disk_write_disk_write.j1 R (nthv s 0) (nthv s 1) W) (fun J1 =>
  okF (binP .add v10 (.int .i64 1)) fun v15 =>
  loopK (fun K1 s W => S.slices_DeleteFunc_disk_write_disk_write.l1 J1 K1 (nthv s 0) (nthv s 1) (nthv s 2) (nthv s 3) W) [v0, v1, v10, v15] W))) W
def S.slices_DeleteFunc_disk_write_disk_write.hint : Hint := (.two .nil (.two .nil (.two (.two .nil (.two (.two .nil .nil) .nil)) (.at [0, 5] (.two .nil (.at [0, 1, 5, 6] (.two (.two .nil (.two .nil .nil)) (.at [0, 1, 5, 6] (.two .nil (.two .nil (.two (.two .nil .nil) .nil))) .nil)) .nil)) (.two .nil (.two .nil .nil))))))
theorem S.slices_DeleteFunc_disk_write_disk_write.ok (R : Value → World → Prop) (v0 v1 : Value) (W : World) : bodyK PR CB Try.f60 S.slices_DeleteFunc_disk_write_disk_write.hint [v0, v1] R W = S.slices_DeleteFunc_disk_write_disk_write.body R v0 v1 W := by kernel_rfl
theorem S.slices_DeleteFunc_disk_write_disk_write.fn : PR.funcs[F_slices_DeleteFunc_disk_write_disk_write]? = some Try.f60 := by kernel_rfl
theorem S.slices_DeleteFunc_disk_write_disk_write.call {R : Value → World → Prop} {v0 v1 : Value} {W : World} (h : S.slices_DeleteFunc_disk_write_disk_write.body R v0 v1 W) : callK PR F_slices_DeleteFunc_disk_write_disk_write [v0, v1] R W :=
  callK_of_body (g := F_slices_DeleteFunc_disk_write_disk_write) (fn := Try.f60) (args := [v0, v1]) (R := R) (w := W) mixed CBok S.slices_DeleteFunc_disk_write_disk_write.fn S.slices_DeleteFunc_disk_write_disk_write.hint (by rw [S.slices_DeleteFunc_disk_write_disk_write.ok]; exact h)
/-! ### slices.IndexFunc[[]rostrum/disk.write,rostrum/disk.write] (73) -/
def S.slices_IndexFunc_disk_write_disk_write.l1 (R : Value → World → Prop) (K1 : List Value → World → Prop) (x0 x1 x7 x8 : Value) (W : World) : Prop :=
  okF (binP .lss x8 x7) fun v9 =>
  ifK v9 (
  okF (idxS 3 x0 x8) fun v14 =>
  rdK PR (Instr.loadAt T_disk_write v14) (fun v15 W =>
  vcK PR x1 [v15] (fun v16 W =>
  ifK v16 (
  R x8 W) (
  okF (binP .add x8 (.int .i64 1)) fun v18 =>
  K1 [x0, x1, x7, v18] W)) W) W) (
  R (.int .i64 (-1)) W)
def S.slices_IndexFunc_disk_write_disk_write.body (R : Value → World → Prop) (v0 v1 : Value) (W : World) : Prop :=
  okF (lenP (.slice T_disk_write) v0) fun v7 =>
  loopK (fun K1 s W => S.slices_IndexFunc_disk_write_disk_write.l1 R K1 (nthv s 0) (nthv s 1) (nthv s 2) (nthv s 3) W) [v0, v1, v7, (.int .i64 0)] W
def S.slices_IndexFunc_disk_write_disk_write.hint : Hint := (.two .nil (.two (.two .nil (.at [0, 1, 7, 8] (.two .nil (.two (.two .nil .nil) (.two (.two .nil (.two .nil (.two (.two .nil .nil) .nil))) .nil))) .nil)) (.two .nil .nil)))
theorem S.slices_IndexFunc_disk_write_disk_write.ok (R : Value → World → Prop) (v0 v1 : Value) (W : World) : bodyK PR CB Try.f73 S.slices_IndexFunc_disk_write_disk_write.hint [v0, v1] R W = S.slices_IndexFunc_disk_write_disk_write.body R v0 v1 W := by kernel_rfl
theorem S.slices_IndexFunc_disk_write_disk_write.fn : PR.funcs[F_slices_IndexFunc_disk_write_disk_write]? = some Try.f73 := by kernel_rfl
theorem S.slices_IndexFunc_disk_write_disk_write.call {R : Value → World → Prop} {v0 v1 : Value} {W : World} (h : S.slices_IndexFunc_disk_write_disk_write.body R v0 v1 W) : callK PR F_slices_IndexFunc_disk_write_disk_write [v0, v1] R W :=
  callK_of_body (g := F_slices_IndexFunc_disk_write_disk_write) (fn := Try.f73) (args := [v0, v1]) (R := R) (w := W) mixed CBok S.slices_IndexFunc_disk_write_disk_write.fn S.slices_IndexFunc_disk_write_disk_write.hint (by rw [S.slices_IndexFunc_disk_write_disk_write.ok]; exact h)
end Go.Proofs.Ythladblmjoaeoaa
namespace Go.Proofs.Ythladblmjoaeoaa
set_option linter.unusedVariables false
set_option linter.unusedSimpArgs false
open Go Go.Eng
section
variable {W0 W : World} {L L' : List Asn} {α : Type} {A : Ly α} {C : Asn} {fv : Value} {p : α → Bool}
theorem indexFunc_disk_write_disk_write {a : Option Addr} {c : Nat} {l : List α} {k : Value → World → Prop} (hs : A.sz = 3) (h : St W0 (C :: L) W) [hr : Rd W0 L a A l] (hp : PredF PR A true C fv p) (hl : l.length < 4611686018427387904)
    (hk : ∀ W', St W0 (C :: L) W' → k (.int .i64 (match l.findIdx? p with | some i => (i : Int) | none => -1)) W') : callK PR F_slices_IndexFunc_disk_write_disk_write [.slice a l.length c, fv] k W := by
  apply S.slices_IndexFunc_disk_write_disk_write.call
  unfold S.slices_IndexFunc_disk_write_disk_write.body
  simp -implicitDefEqProofs only [EN, lsub, lget, stL, beq_self_eq_true, ne_eq, if_true, if_false, List.cons_append, List.nil_append, Option.isNone_some, Option.isNone_none]
  refine loop_c (σ := Unit) l.length (fun i _ => [.slice a l.length c, fv, .int .i64 l.length, .int .i64 i]) (fun i _ W1 => (∀ j, (hj : j < l.length) → j < i → p l[j] = false) ∧ St W0 (C :: L) W1) () rfl ⟨fun j _ h => by omega, h⟩ ?_
  clear h
  rintro K i _ W1 hi ⟨hno, h⟩ hK
  simp -implicitDefEqProofs only [EN, lsub, lget, stL, beq_self_eq_true, ne_eq, if_true, if_false, List.cons_append, List.nil_append, Option.isNone_some, Option.isNone_none]
  unfold S.slices_IndexFunc_disk_write_disk_write.l1
  simp -implicitDefEqProofs only [EN, lsub, lget, stL, beq_self_eq_true, ne_eq, if_true, if_false, List.cons_append, List.nil_append, Option.isNone_some, Option.isNone_none]
  refine ifK_d (fun hlt => ?_) (fun hge => ?_)
  · have hib : i < l.length := by omega
    refine ixA (i := i) (a := a) (l := l) (A := A) (by first | assumption | exact St.tick (by assumption) | exact St.tick (St.tick (by assumption))) hs rfl hib fun g o ha => ?_
    cases ha
    refine ldA0 (l := l) (A := A) (by first | assumption | exact St.tick (by assumption) | exact St.tick (St.tick (by assumption))) hs hib (getL_val hs (by decide) _) (by simp) ?_
    refine hp W0 L l[i] W1 _ h fun W2 h => ?_
    cases hpx : p l[i] with
    | true =>
      simp -implicitDefEqProofs only [EN, lsub, lget, stL, beq_self_eq_true, ne_eq, if_true, if_false, List.cons_append, List.nil_append, Option.isNone_some, Option.isNone_none]
      have : l.findIdx? p = some i := by
        rw [List.findIdx?_eq_some_iff_getElem]
        exact ⟨hib, hpx, fun j hj => by rw [hno j (by omega) hj]; simp⟩
      rw [this] at hk
      exact hk _ h
    | false =>
      have ew : IntKind.i64.wrap ((i : Int) + 1) = ((i + 1 : Nat) : Int) := by rw [i64w]; omega
      simp -implicitDefEqProofs only [EN, lsub, lget, stL, beq_self_eq_true, ne_eq, if_true, if_false, List.cons_append, List.nil_append, Option.isNone_some, Option.isNone_none, ew]
      refine hK () _ hib ⟨fun j hj hji => ?_, h⟩
      by_cases e : j = i
      · subst e; exact hpx
      · exact hno j hj (by omega)
  · have : l.findIdx? p = none := by
      rw [List.findIdx?_eq_none_iff]
      intro x hx
      obtain ⟨j, hj, rfl⟩ := List.getElem_of_mem hx
      exact hno j hj (by omega)
    rw [this] at hk
    exact hk _ h
theorem deleteFunc_disk_write_disk_write {a : Option Addr} {c : Nat} {l : List α} {k : Value → World → Prop} (hs : A.sz = 3) (h : St W0 (C :: arr A T_disk_write a c l :: L) W) (hp : PredF PR A true C fv p) (hl : l.length < 4611686018427387904)
    (hk : ∀ W', St W0 (C :: arr A T_disk_write a c (l.filter (!p ·)) :: L) W' → k (.slice a (l.filter (!p ·)).length c) W') : callK PR F_slices_DeleteFunc_disk_write_disk_write [.slice a l.length c, fv] k W := by
  apply S.slices_DeleteFunc_disk_write_disk_write.call
  unfold S.slices_DeleteFunc_disk_write_disk_write.body
  refine indexFunc_disk_write_disk_write (a := a) (l := l) hs h hp hl fun W1 h => ?_
  cases hf : l.findIdx? p with
  | none =>
    have : l.filter (!p ·) = l := by
      rw [List.filter_eq_self]
      intro x hx
      rw [List.findIdx?_eq_none_iff] at hf
      simp [hf x hx]
    rw [this] at hk
    (repeat (first | (first | (with_reducible (first | refine w1 fun _ _ => ?_ | refine w3 fun _ _ _ => ?_ | refine w4 fun _ _ _ => ?_ | refine w11 fun _ _ _ => ?_ | refine stb_n ?_)) | ((with_reducible refine w2 ?_); try simp -implicitDefEqProofs only [EN, lsub, lget, stL, beq_self_eq_true, ne_eq, if_true, if_false, List.cons_append, List.nil_append, Option.isNone_some, Option.isNone_none]; intro _ _) | ((with_reducible (first | refine w5 ?_ ?_ | refine w6 ?_ ?_ | refine w7 ?_ ?_)); simp; refine ⟨_, rfl, ?_⟩) | ((with_reducible (first | refine w8 ?_ ?_ ?_ | refine w9 ?_ ?_ ?_ | refine w10 ?_ ?_ ?_)); exact rfl; simp) | ((with_reducible refine w12 ?_ ?_ ?_ fun _ _ => ?_); simp; simp; simp [oneC]) | ((with_reducible (first | refine eqs ?_ | refine nes ?_)); refine ⟨_, rfl, ?_⟩) | ((refine okF_i (bldP_eq rfl) ?_); try simp only [BLS, List.take_succ_cons, List.take_zero, List.drop_succ_cons, List.drop_zero, List.cons_append, List.nil_append, Nat.reduceAdd])) | simp -implicitDefEqProofs only [EN, lsub, lget, stL, beq_self_eq_true, ne_eq, if_true, if_false, List.cons_append, List.nil_append, Option.isNone_some, Option.isNone_none]))
    exact hk _ h
  | some i =>
    rw [List.findIdx?_eq_some_iff_getElem] at hf
    obtain ⟨hil, hpi, hno⟩ := hf
    have e1 : decide ((i : Int) = -1) = false := decide_eq_false (by omega)
    have ew : IntKind.i64.wrap ((i : Int) + 1) = ((i + 1 : Nat) : Int) := by rw [i64w]; omega
    simp only []
    simp -implicitDefEqProofs only [EN, lsub, lget, stL, beq_self_eq_true, ne_eq, if_true, if_false, List.cons_append, List.nil_append, Option.isNone_some, Option.isNone_none, e1]
    refine joinK_i ?_
    simp -implicitDefEqProofs only [EN, lsub, lget, stL, beq_self_eq_true, ne_eq, if_true, if_false, List.cons_append, List.nil_append, Option.isNone_some, Option.isNone_none, ew]
    have hpre : (l.take (i + 1)).filter (!p ·) = l.take i := by
      rw [List.take_succ_eq_append_getElem hil, List.filter_append]
      rw [show (l.take i).filter (!p ·) = l.take i by
        rw [List.filter_eq_self]
        intro x hx
        obtain ⟨j, hj, rfl⟩ := List.getElem_of_mem hx
        simp only [List.length_take] at hj
        rw [List.getElem_take]
        have := hno j (by omega)
        simpa using this]
      simp [hpi]
    refine loop_x (σ := Nat × Nat × List α) (fun x => [.slice a l.length c, fv, .int .i64 x.1, .int .i64 x.2.1])
      (fun x W1 => x.1 < x.2.1 ∧ x.2.1 ≤ l.length ∧ x.2.2.length = l.length ∧ x.2.2.take x.1 = (l.take x.2.1).filter (!p ·) ∧ (∀ j, x.2.1 ≤ j → x.2.2[j]? = l[j]?) ∧ St W0 (C :: arr A T_disk_write a c x.2.2 :: L) W1)
      (fun x => l.length - x.2.1) (i, i + 1, l) rfl ⟨by simp, by simp only; omega, rfl, hpre.symm, fun _ _ => rfl, h⟩ ?_
    clear h hpre
    rintro K ⟨q, j, m⟩ W2 ⟨hqj, hjl, hml, hpre, hsuf, h⟩ hK
    simp only at hqj hjl hml hpre hsuf h hK ⊢
    simp -implicitDefEqProofs only [EN, lsub, lget, stL, beq_self_eq_true, ne_eq, if_true, if_false, List.cons_append, List.nil_append, Option.isNone_some, Option.isNone_none]
    unfold S.slices_DeleteFunc_disk_write_disk_write.l1
    simp -implicitDefEqProofs only [EN, lsub, lget, stL, beq_self_eq_true, ne_eq, if_true, if_false, List.cons_append, List.nil_append, Option.isNone_some, Option.isNone_none]
    refine ifK_d (fun hlt => ?_) (fun hge => ?_)
    · have hjm : j < m.length := by omega
      have hjb : j < l.length := by omega
      have hmj : m[j] = l[j] := by
        have := hsuf j (Nat.le_refl _)
        rw [List.getElem?_eq_getElem hjm, List.getElem?_eq_getElem hjb] at this
        exact Option.some.inj this
      refine joinK_i ?_
      rw [← hml]
      refine ixA (i := j) (a := a) (l := m) (A := A) (by first | assumption | exact St.tick (by assumption) | exact St.tick (St.tick (by assumption))) hs rfl hjm fun g o ha => ?_
      cases ha
      refine ldA0 (l := m) (A := A) (by first | assumption | exact St.tick (by assumption) | exact St.tick (St.tick (by assumption))) hs hjm (getL_val hs (by decide) _) (by simp) ?_
      rw [hmj]
      have ew : IntKind.i64.wrap ((j : Int) + 1) = ((j + 1 : Nat) : Int) := by rw [i64w]; omega
      have ew2 : IntKind.i64.wrap ((q : Int) + 1) = ((q + 1 : Nat) : Int) := by rw [i64w]; omega
      refine newV (A := A) l[j] h hs (by decide) rfl fun b W3 h => ?_
      refine ldV (A := A) l[j] h hs (by decide) ?_
      refine hp W0 _ l[j] _ _ (h.ent (ent.swap _ _ _)) fun W4 h => ?_
      cases hpx : p l[j] with
      | true =>
        simp -implicitDefEqProofs only [EN, lsub, lget, stL, beq_self_eq_true, ne_eq, if_true, if_false, List.cons_append, List.nil_append, Option.isNone_some, Option.isNone_none]
        unfold S.slices_DeleteFunc_disk_write_disk_write.j2
        simp -implicitDefEqProofs only [EN, lsub, lget, stL, beq_self_eq_true, ne_eq, if_true, if_false, List.cons_append, List.nil_append, Option.isNone_some, Option.isNone_none, ew]
        rw [hml]
        refine hK (q, j + 1, m) _ (by simp only; omega) ⟨by simp only; omega, by simp only; omega, hml, ?_, fun j' hj' => hsuf j' (by simp only at hj'; omega), h.drop2⟩
        simp only
        rw [hpre, List.take_succ_eq_append_getElem hjb, List.filter_append]
        simp [hpx]
      | false =>
        simp -implicitDefEqProofs only [EN, lsub, lget, stL, beq_self_eq_true, ne_eq, if_true, if_false, List.cons_append, List.nil_append, Option.isNone_some, Option.isNone_none]
        refine ldV (A := A) l[j] h hs (by decide) ?_
        refine ixA (i := q) (a := some ⟨g, o, none⟩) (l := m) (A := A) (by first | assumption | exact St.tick (by assumption) | exact St.tick (St.tick (by assumption))) hs rfl (by omega) fun g' o' ha => ?_
        cases ha
        refine stA (g := g) (o := o) (agg := true) (l := m) (A := A) (x := l[j]) (by first | assumption | exact St.tick (by assumption) | exact St.tick (St.tick (by assumption))) hs (by omega) (val_cells hs (by decide) _) fun W3 h => ?_
        simp -implicitDefEqProofs only [EN, lsub, lget, stL, beq_self_eq_true, ne_eq, if_true, if_false, List.cons_append, List.nil_append, Option.isNone_some, Option.isNone_none, ew2]
        unfold S.slices_DeleteFunc_disk_write_disk_write.j2
        simp -implicitDefEqProofs only [EN, lsub, lget, stL, beq_self_eq_true, ne_eq, if_true, if_false, List.cons_append, List.nil_append, Option.isNone_some, Option.isNone_none, ew]
        rw [hml]
        refine hK (q + 1, j + 1, m.set q l[j]) _ (by simp only; omega) ⟨by simp only; omega, by simp only; omega, by simp [hml], ?_, fun j' hj' => ?_, ?_⟩
        · simp only
          rw [List.take_succ_eq_append_getElem (by rw [List.length_set]; omega), List.take_set_of_le (Nat.le_refl _), hpre, List.take_succ_eq_append_getElem hjb, List.filter_append]
          simp [hpx]
        · simp only at hj' ⊢
          rw [List.getElem?_set_ne (by omega)]
          exact hsuf j' (by omega)
        · exact (h.ent (ent.rot3 _ _ _ _)).drop2
    · unfold S.slices_DeleteFunc_disk_write_disk_write.j1
      have hjn : j = l.length := by omega
      subst hjn
      rw [List.take_length] at hpre
      have hqc : q ≤ c := by have := (h.ent (ent.swap _ _ _)).arrFacts; omega
      refine okF_i (slcS_eq (n := l.length) (c := c) (l := q) (h := l.length) bnd_none (bnd_nat (by omega))) ?_
      refine clrA (a := a) (l := m) (L' := C :: L) (i := q) (A := A) (by first | assumption | exact St.tick (by assumption) | exact St.tick (St.tick (by assumption))) hs rfl (by omega) rfl (by rw [hml]) fun W3 h => ?_
      rw [hpre] at h
      have hql : q = (l.filter (!p ·)).length := by rw [← hpre, List.length_take]; omega
      refine slc_pre (L := C :: L) (A := A) (e := T_disk_write) h hqc ?_
      rw [hql]
      exact hk _ (h.ent (ent.swap _ _ _))
end
end Go.Proofs.Ythladblmjoaeoaa
namespace Go.Proofs.Ythladblmjoaeoaa
set_option linter.unusedVariables false
set_option linter.unusedSimpArgs false
open Go.Eng
/-! ### (*rostrum/disk.Disk).safe$1 (61) -/
def S.disk_Disk_safe_1.body (R : Value → World → Prop) (v0 v1 : Value) (W : World) : Prop :=
  efK PR (Instr.box T_disk_write v0) (fun v2 W =>
  okF (addrF 0 v2) fun v4 =>
  rdK PR (Instr.loadAt T_int v4) (fun v5 W =>
  rdK PR (Instr.loadAt T_int v1) (fun v6 W =>
  okF (binP .eql v5 v6) fun v7 =>
  R v7 W) W) W) W
def S.disk_Disk_safe_1.hint : Hint := (.two .nil (.two .nil .nil))
theorem S.disk_Disk_safe_1.ok (R : Value → World → Prop) (v0 v1 : Value) (W : World) : bodyK PR CB Try.f61 S.disk_Disk_safe_1.hint [v0, v1] R W = S.disk_Disk_safe_1.body R v0 v1 W := by kernel_rfl
theorem S.disk_Disk_safe_1.fn : PR.funcs[F_disk_Disk_safe_1]? = some Try.f61 := by kernel_rfl
theorem S.disk_Disk_safe_1.call {R : Value → World → Prop} {v0 v1 : Value} {W : World} (h : S.disk_Disk_safe_1.body R v0 v1 W) : callK PR F_disk_Disk_safe_1 [v0, v1] R W :=
  callK_of_body (g := F_disk_Disk_safe_1) (fn := Try.f61) (args := [v0, v1]) (R := R) (w := W) mixed CBok S.disk_Disk_safe_1.fn S.disk_Disk_safe_1.hint (by rw [S.disk_Disk_safe_1.ok]; exact h)
end Go.Proofs.Ythladblmjoaeoaa
namespace Go.Proofs.Ythladblmjoaeoaa
set_option linter.unusedVariables false
set_option linter.unusedSimpArgs false
open Go Go.Eng

section
variable {W0 W : World} {L L' : List Asn}
theorem safe_pred (b : Nat) (f : Int) : PredF PR WRT true (cells b [.int .i64 f] T_int) (.func (.func F_disk_Disk_safe_1) #[] #[.pointer (some ⟨b, 0, none⟩)]) (fun w => decide (w.1 = f)) := by
  intro W0 L x W k h hk
  refine ⟨CBok _ (by kernel_rfl), ?_⟩
  apply S.disk_Disk_safe_1.call
  unfold S.disk_Disk_safe_1.body
  rw [Ly.val_agg]
  simp only [WRT]
  (repeat (first | (first | (with_reducible (first | refine w1 fun _ _ => ?_ | refine w3 fun _ _ _ => ?_ | refine w4 fun _ _ _ => ?_ | refine w11 fun _ _ _ => ?_ | refine stb_n ?_)) | ((with_reducible refine w2 ?_); try simp -implicitDefEqProofs only [EN, lsub, lget, stL, beq_self_eq_true, ne_eq, if_true, if_false, List.cons_append, List.nil_append, Option.isNone_some, Option.isNone_none]; intro _ _) | ((with_reducible (first | refine w5 ?_ ?_ | refine w6 ?_ ?_ | refine w7 ?_ ?_)); simp; refine ⟨_, rfl, ?_⟩) | ((with_reducible (first | refine w8 ?_ ?_ ?_ | refine w9 ?_ ?_ ?_ | refine w10 ?_ ?_ ?_)); exact rfl; simp) | ((with_reducible refine w12 ?_ ?_ ?_ fun _ _ => ?_); simp; simp; simp [oneC]) | ((with_reducible (first | refine eqs ?_ | refine nes ?_)); refine ⟨_, rfl, ?_⟩) | ((refine okF_i (bldP_eq rfl) ?_); try simp only [BLS, List.take_succ_cons, List.take_zero, List.drop_succ_cons, List.drop_zero, List.cons_append, List.nil_append, Nat.reduceAdd])) | simp -implicitDefEqProofs only [EN, lsub, lget, stL, beq_self_eq_true, ne_eq, if_true, if_false, List.cons_append, List.nil_append, Option.isNone_some, Option.isNone_none]))
  rename_i h
  exact hk _ h.drop
theorem diskSafe {p : Nat} {d : DS} {f : Int} {k : Value → World → Prop} (h : St W0 L W) [ht : Tk (dk p) L d L'] (hw : d.ws.length < 1000000)
    (hk : ∀ W', St W0 (dk p (d.safe f) :: L') W' → k (.tuple #[]) W') : callK PR F_disk_Disk_safe [.pointer (some ⟨p, 0, none⟩), .int .i64 f] k W := by
  apply S.disk_Disk_safe.call
  unfold S.disk_Disk_safe.body
  obtain ⟨r, a, c, fs, hf, h⟩ := dk_at (h.perm ht.perm)
  refine bxi h fun b W1 h => ?_
  (repeat (first | (first | (with_reducible (first | refine w1 fun _ _ => ?_ | refine w3 fun _ _ _ => ?_ | refine w4 fun _ _ _ => ?_ | refine w11 fun _ _ _ => ?_ | refine stb_n ?_)) | ((with_reducible refine w2 ?_); try simp -implicitDefEqProofs only [EN, lsub, lget, stL, beq_self_eq_true, ne_eq, if_true, if_false, List.cons_append, List.nil_append, Option.isNone_some, Option.isNone_none]; intro _ _) | ((with_reducible (first | refine w5 ?_ ?_ | refine w6 ?_ ?_ | refine w7 ?_ ?_)); simp; refine ⟨_, rfl, ?_⟩) | ((with_reducible (first | refine w8 ?_ ?_ ?_ | refine w9 ?_ ?_ ?_ | refine w10 ?_ ?_ ?_)); exact rfl; simp) | ((with_reducible refine w12 ?_ ?_ ?_ fun _ _ => ?_); simp; simp; simp [oneC]) | ((with_reducible (first | refine eqs ?_ | refine nes ?_)); refine ⟨_, rfl, ?_⟩) | ((refine okF_i (bldP_eq rfl) ?_); try simp only [BLS, List.take_succ_cons, List.take_zero, List.drop_succ_cons, List.drop_zero, List.cons_append, List.nil_append, Nat.reduceAdd])) | simp -implicitDefEqProofs only [EN, lsub, lget, stL, beq_self_eq_true, ne_eq, if_true, if_false, List.cons_append, List.nil_append, Option.isNone_some, Option.isNone_none]))
  have h' := h.ent (ent.cons _ (ent.rot3' _ _ _ _))
  clear h
  refine deleteFunc_disk_write_disk_write (a := a) (l := d.ws) (A := WRT) rfl h' (safe_pred b f) (by omega) fun W2 h => ?_
  clear h'
  (repeat (first | (first | (with_reducible (first | refine w1 fun _ _ => ?_ | refine w3 fun _ _ _ => ?_ | refine w4 fun _ _ _ => ?_ | refine w11 fun _ _ _ => ?_ | refine stb_n ?_)) | ((with_reducible refine w2 ?_); try simp -implicitDefEqProofs only [EN, lsub, lget, stL, beq_self_eq_true, ne_eq, if_true, if_false, List.cons_append, List.nil_append, Option.isNone_some, Option.isNone_none]; intro _ _) | ((with_reducible (first | refine w5 ?_ ?_ | refine w6 ?_ ?_ | refine w7 ?_ ?_)); simp; refine ⟨_, rfl, ?_⟩) | ((with_reducible (first | refine w8 ?_ ?_ ?_ | refine w9 ?_ ?_ ?_ | refine w10 ?_ ?_ ?_)); exact rfl; simp) | ((with_reducible refine w12 ?_ ?_ ?_ fun _ _ => ?_); simp; simp; simp [oneC]) | ((with_reducible (first | refine eqs ?_ | refine nes ?_)); refine ⟨_, rfl, ?_⟩) | ((refine okF_i (bldP_eq rfl) ?_); try simp only [BLS, List.take_succ_cons, List.take_zero, List.drop_succ_cons, List.drop_zero, List.cons_append, List.nil_append, Nat.reduceAdd])) | simp -implicitDefEqProofs only [EN, lsub, lget, stL, beq_self_eq_true, ne_eq, if_true, if_false, List.cons_append, List.nil_append, Option.isNone_some, Option.isNone_none]))
  rename_i h
  exact hk _ ((h.drop).ent ((ent.rot3 _ _ _ _).trans (dk_ent (d := d.safe f) hf)))
theorem diskSync {p : Nat} {d : DS} {f : Int} {k : Value → World → Prop} (h : St W0 L W) [ht : Tk (dk p) L d L'] (hw : d.ws.length < 1000000)
    (hk : ∀ W', St W0 (dk p (d.sync f).1 :: L') W' → k (.int .i64 (d.sync f).2) W') : callK PR F_disk_Disk_Sync [.pointer (some ⟨p, 0, none⟩), .int .i64 f] k W := by
  apply S.disk_Disk_Sync.call
  unfold S.disk_Disk_Sync.body
  refine diskFind h fun W1 h => ?_
  refine joinK_i ?_
  unfold DS.sync at hk
  by_cases ha : d.find f = 0
  · rw [if_pos ha] at hk
    rw [ha]
    (repeat (first | (first | (with_reducible (first | refine w1 fun _ _ => ?_ | refine w3 fun _ _ _ => ?_ | refine w4 fun _ _ _ => ?_ | refine w11 fun _ _ _ => ?_ | refine stb_n ?_)) | ((with_reducible refine w2 ?_); try simp -implicitDefEqProofs only [EN, lsub, lget, stL, beq_self_eq_true, ne_eq, if_true, if_false, List.cons_append, List.nil_append, Option.isNone_some, Option.isNone_none]; intro _ _) | ((with_reducible (first | refine w5 ?_ ?_ | refine w6 ?_ ?_ | refine w7 ?_ ?_)); simp; refine ⟨_, rfl, ?_⟩) | ((with_reducible (first | refine w8 ?_ ?_ ?_ | refine w9 ?_ ?_ ?_ | refine w10 ?_ ?_ ?_)); exact rfl; simp) | ((with_reducible refine w12 ?_ ?_ ?_ fun _ _ => ?_); simp; simp; simp [oneC]) | ((with_reducible (first | refine eqs ?_ | refine nes ?_)); refine ⟨_, rfl, ?_⟩) | ((refine okF_i (bldP_eq rfl) ?_); try simp only [BLS, List.take_succ_cons, List.take_zero, List.drop_succ_cons, List.drop_zero, List.cons_append, List.nil_append, Nat.reduceAdd])) | simp -implicitDefEqProofs only [EN, lsub, lget, stL, beq_self_eq_true, ne_eq, if_true, if_false, List.cons_append, List.nil_append, Option.isNone_some, Option.isNone_none]))
    refine diskSafe (d := d) h hw fun W2 h => ?_
    exact hk _ h
  · rw [if_neg ha] at hk
    have e1 : decide (d.find f = 0) = false := decide_eq_false ha
    (repeat (first | (first | (with_reducible (first | refine w1 fun _ _ => ?_ | refine w3 fun _ _ _ => ?_ | refine w4 fun _ _ _ => ?_ | refine w11 fun _ _ _ => ?_ | refine stb_n ?_)) | ((with_reducible refine w2 ?_); try simp -implicitDefEqProofs only [EN, lsub, lget, stL, beq_self_eq_true, ne_eq, if_true, if_false, List.cons_append, List.nil_append, Option.isNone_some, Option.isNone_none, e1]; intro _ _) | ((with_reducible (first | refine w5 ?_ ?_ | refine w6 ?_ ?_ | refine w7 ?_ ?_)); simp; refine ⟨_, rfl, ?_⟩) | ((with_reducible (first | refine w8 ?_ ?_ ?_ | refine w9 ?_ ?_ ?_ | refine w10 ?_ ?_ ?_)); exact rfl; simp) | ((with_reducible refine w12 ?_ ?_ ?_ fun _ _ => ?_); simp; simp; simp [oneC]) | ((with_reducible (first | refine eqs ?_ | refine nes ?_)); refine ⟨_, rfl, ?_⟩) | ((refine okF_i (bldP_eq rfl) ?_); try simp only [BLS, List.take_succ_cons, List.take_zero, List.drop_succ_cons, List.drop_zero, List.cons_append, List.nil_append, Nat.reduceAdd])) | simp -implicitDefEqProofs only [EN, lsub, lget, stL, beq_self_eq_true, ne_eq, if_true, if_false, List.cons_append, List.nil_append, Option.isNone_some, Option.isNone_none, e1]))
    exact hk _ h
theorem diskDrop {p : Nat} {d : DS} {f : Int} {k : Value → World → Prop} (h : St W0 L W) [ht : Tk (dk p) L d L'] (hw : d.ws.length < 1000000)
    (hk : ∀ W', St W0 (dk p (d.drop f).1 :: L') W' → k (.int .i64 (d.drop f).2) W') : callK PR F_disk_Disk_Drop [.pointer (some ⟨p, 0, none⟩), .int .i64 f] k W := by
  apply S.disk_Disk_Drop.call
  unfold S.disk_Disk_Drop.body
  refine diskFind h fun W1 h => ?_
  refine joinK_i ?_
  unfold DS.drop at hk
  by_cases ha : d.find f = 0
  · rw [if_pos ha] at hk
    rw [ha]
    (repeat (first | (first | (with_reducible (first | refine w1 fun _ _ => ?_ | refine w3 fun _ _ _ => ?_ | refine w4 fun _ _ _ => ?_ | refine w11 fun _ _ _ => ?_ | refine stb_n ?_)) | ((with_reducible refine w2 ?_); try simp -implicitDefEqProofs only [EN, lsub, lget, stL, beq_self_eq_true, ne_eq, if_true, if_false, List.cons_append, List.nil_append, Option.isNone_some, Option.isNone_none]; intro _ _) | ((with_reducible (first | refine w5 ?_ ?_ | refine w6 ?_ ?_ | refine w7 ?_ ?_)); simp; refine ⟨_, rfl, ?_⟩) | ((with_reducible (first | refine w8 ?_ ?_ ?_ | refine w9 ?_ ?_ ?_ | refine w10 ?_ ?_ ?_)); exact rfl; simp) | ((with_reducible refine w12 ?_ ?_ ?_ fun _ _ => ?_); simp; simp; simp [oneC]) | ((with_reducible (first | refine eqs ?_ | refine nes ?_)); refine ⟨_, rfl, ?_⟩) | ((refine okF_i (bldP_eq rfl) ?_); try simp only [BLS, List.take_succ_cons, List.take_zero, List.drop_succ_cons, List.drop_zero, List.cons_append, List.nil_append, Nat.reduceAdd])) | simp -implicitDefEqProofs only [EN, lsub, lget, stL, beq_self_eq_true, ne_eq, if_true, if_false, List.cons_append, List.nil_append, Option.isNone_some, Option.isNone_none]))
    refine diskSafe (d := d) h hw fun W2 h => ?_
    obtain ⟨r, a, c, fs, hf, h⟩ := dk_at h
    (repeat (first | (first | (with_reducible (first | refine w1 fun _ _ => ?_ | refine w3 fun _ _ _ => ?_ | refine w4 fun _ _ _ => ?_ | refine w11 fun _ _ _ => ?_ | refine stb_n ?_)) | ((with_reducible refine w2 ?_); try simp -implicitDefEqProofs only [EN, lsub, lget, stL, beq_self_eq_true, ne_eq, if_true, if_false, List.cons_append, List.nil_append, Option.isNone_some, Option.isNone_none]; intro _ _) | ((with_reducible (first | refine w5 ?_ ?_ | refine w6 ?_ ?_ | refine w7 ?_ ?_)); simp; refine ⟨_, rfl, ?_⟩) | ((with_reducible (first | refine w8 ?_ ?_ ?_ | refine w9 ?_ ?_ ?_ | refine w10 ?_ ?_ ?_)); exact rfl; simp) | ((with_reducible refine w12 ?_ ?_ ?_ fun _ _ => ?_); simp; simp; simp [oneC]) | ((with_reducible (first | refine eqs ?_ | refine nes ?_)); refine ⟨_, rfl, ?_⟩) | ((refine okF_i (bldP_eq rfl) ?_); try simp only [BLS, List.take_succ_cons, List.take_zero, List.drop_succ_cons, List.drop_zero, List.cons_append, List.nil_append, Nat.reduceAdd])) | simp -implicitDefEqProofs only [EN, lsub, lget, stL, beq_self_eq_true, ne_eq, if_true, if_false, List.cons_append, List.nil_append, Option.isNone_some, Option.isNone_none]))
    refine mdelete (K := KI) f (by first | assumption | exact St.tick (by assumption) | exact St.tick (St.tick (by assumption))) fun W3 h => ?_
    unfold S.disk_Disk_Drop.j1
    have h2 := h.ent (ent.cons _ (ent.cons _ (ent.cons _ (many_take (F := fch) f ⟨none, 0, []⟩ fch0))))
    rw [mvs, mdel_map] at h2
    refine hk _ (((h2.ent (ent.p4 _ _ _ _ _)).drop).ent (dk_ent (d := { d.safe f with fs := mdel d.fs f }) ?_))
    have : fs.map (fun p => (p.1, p.2.bs)) = d.fs := hf
    simp only [cts, ← this]
    exact (mdel_map BSl.bs fs f).symm
  · rw [if_neg ha] at hk
    have e1 : decide (d.find f = 0) = false := decide_eq_false ha
    (repeat (first | (first | (with_reducible (first | refine w1 fun _ _ => ?_ | refine w3 fun _ _ _ => ?_ | refine w4 fun _ _ _ => ?_ | refine w11 fun _ _ _ => ?_ | refine stb_n ?_)) | ((with_reducible refine w2 ?_); try simp -implicitDefEqProofs only [EN, lsub, lget, stL, beq_self_eq_true, ne_eq, if_true, if_false, List.cons_append, List.nil_append, Option.isNone_some, Option.isNone_none, e1]; intro _ _) | ((with_reducible (first | refine w5 ?_ ?_ | refine w6 ?_ ?_ | refine w7 ?_ ?_)); simp; refine ⟨_, rfl, ?_⟩) | ((with_reducible (first | refine w8 ?_ ?_ ?_ | refine w9 ?_ ?_ ?_ | refine w10 ?_ ?_ ?_)); exact rfl; simp) | ((with_reducible refine w12 ?_ ?_ ?_ fun _ _ => ?_); simp; simp; simp [oneC]) | ((with_reducible (first | refine eqs ?_ | refine nes ?_)); refine ⟨_, rfl, ?_⟩) | ((refine okF_i (bldP_eq rfl) ?_); try simp only [BLS, List.take_succ_cons, List.take_zero, List.drop_succ_cons, List.drop_zero, List.cons_append, List.nil_append, Nat.reduceAdd])) | simp -implicitDefEqProofs only [EN, lsub, lget, stL, beq_self_eq_true, ne_eq, if_true, if_false, List.cons_append, List.nil_append, Option.isNone_some, Option.isNone_none, e1]))
    exact hk _ h
end
end Go.Proofs.Ythladblmjoaeoaa
namespace Go.Eng
set_option linter.unusedVariables false
set_option linter.unusedSimpArgs false
open Go Go.RowKit Go.Sort Go.Proofs
section
variable {P : Program} {W0 W W' : World} {L L' : List Asn} {e : TypeId}
/-- what a call comes to that keeps all and makes what it makes -/
theorem St.grown (h : St W [] W') : ∃ q os, W' = grow (W.drewN q) os := by
  obtain ⟨⟨⟨h1, h2, h3, h4, h5⟩, h6⟩, _⟩ := h
  refine ⟨W'.drawn - W.drawn, W'.heap.extract W.heap.size W'.heap.size, ?_⟩
  obtain ⟨hp, tp, dr, os, ou⟩ := W'
  simp only at h1 h2 h3 h4 h5 h6
  subst h1 h2 h3
  simp only [grow, World.drewN, World.mk.injEq, true_and, and_true]
  refine ⟨?_, by omega⟩
  apply Array.ext_getElem?
  intro i
  by_cases hi : i < W.heap.size
  · rw [h5 i hi, Array.getElem?_append_left hi]
  · rw [Array.getElem?_append_right (by omega), Array.getElem?_extract]
    by_cases hj : i < hp.size
    · rw [if_pos (by omega)]; congr 1; omega
    · rw [if_neg (by omega), Array.getElem?_eq_none (by omega)]
theorem St.more (h : St W0 L W) (os : Array Obj) : St W0 L (grow W os) := by
  obtain ⟨hb, p, hs, ho⟩ := h
  have hk : ∀ k, k < W.heap.size → (grow W os).heap[k]? = W.heap[k]? := fun k hk => by
    show (W.heap ++ os)[k]? = _
    rw [Array.getElem?_append_left hk]
  refine ⟨hb.trans ⟨⟨rfl, rfl, rfl, by simp, fun k hk' => hk k (Nat.lt_of_lt_of_le hk' hb.size)⟩, Nat.le_refl _⟩, p, hs, fun b o hbo => ⟨(ho b o hbo).1, ?_⟩⟩
  rw [hk b (Array.getElem?_eq_some_iff.1 (ho b o hbo).2).1]
  exact (ho b o hbo).2
theorem St.ahead (h : St W0 L W) (n : Nat) : St W0 L (Sort.ahead W n) :=
  ⟨h.bel.trans ⟨⟨rfl, rfl, rfl, Nat.le_refl _, fun _ _ => rfl⟩, Nat.le_add_right _ _⟩, h.own⟩
theorem putCells_id {F : List Value} {cur : List Value} {o : Nat} (h : o + F.length ≤ cur.length) : putCells id o F.toArray cur.toArray = (cur.take o ++ F ++ cur.drop (o + F.length)).toArray := by
  apply Array.ext_getElem?
  intro i
  simp only [putCells, Array.getElem?_mapIdx, List.getElem?_toArray, List.size_toArray, id_eq]
  by_cases h1 : i < o
  · rw [List.append_assoc, List.getElem?_append_left (by simp; omega), List.getElem?_take_of_lt h1]
    rw [List.getElem?_eq_getElem (by omega)]
    simp only [Option.map_some]
    rw [if_neg (by omega)]
  · by_cases h2 : i < o + F.length
    · rw [List.getElem?_append_left (by simp; omega), List.getElem?_append_right (by simp; omega)]
      simp only [List.length_take]
      rw [Nat.min_eq_left (by omega), List.getElem?_eq_getElem (by omega), List.getElem?_eq_getElem (by omega)]
      simp only [Option.map_some]
      rw [if_pos (by omega), getElem!_pos F.toArray _ (by simp; omega)]
      simp
    · rw [List.getElem?_append_right (by simp; omega), List.getElem?_drop]
      simp only [List.length_append, List.length_take]
      rw [Nat.min_eq_left (by omega)]
      rw [show o + F.length + (i - (o + F.length)) = i by omega]
      cases hc : cur[i]? with
      | none => rfl
      | some v => simp only [Option.map_some]; rw [if_neg (by omega)]
theorem St.putRow {g o n : Nat} {cur F : List Value} {os : Array Obj} (h : St W0 (Eng.cells g cur e :: L) W) (hF : o + F.length ≤ cur.length) :
    St W0 (Eng.cells g (cur.take o ++ F ++ cur.drop (o + F.length)) e :: L) (grow (Sort.putRow id (Sort.ahead W n) g o F.toArray) os) := by
  refine St.more ?_ os
  obtain ⟨fr, hf, hb⟩ := (h.ahead n).cells
  have hbl := hb.blk.2
  have hlt : g < W.heap.size := (Array.getElem?_eq_some_iff.1 hbl).1
  have he : Sort.putRow id (Sort.ahead W n) g o F.toArray = { (Sort.ahead W n) with heap := (Sort.ahead W n).heap.setIfInBounds g (.cells (cur.take o ++ F ++ cur.drop (o + F.length)).toArray e fr) } := by
    unfold Sort.putRow mapBlock
    congr 1
    apply Array.ext_getElem?
    intro j
    rw [Array.getElem?_modify, Array.getElem?_setIfInBounds]
    by_cases hj : g = j
    · subst hj
      rw [if_pos rfl, if_pos rfl, if_pos (show g < (Sort.ahead W n).heap.size from hlt), hbl]
      simp only [Option.map_some, onCells, putCells_id hF]
    · rw [if_neg hj, if_neg hj]
  rw [he]
  refine (hb.setBlk _).weak fun p hp => ⟨fr, ?_, hp⟩
  intro j hj
  refine hf j ?_
  simp at hj
  omega
theorem cells_hold {g o : Nat} {cur : List Value} (h : St W0 (cells g cur e :: L) W) (n : Nat) (hn : o + n ≤ cur.length) : ∀ j, j < n → W.cell? ⟨g, o + j, none⟩ = cur[o + j]? ∧ W.frozen? ⟨g, o + j, none⟩ = false := fun j hj =>
  St.cellOf (L' := L) (b := g) (cs := cur) (T := e) h (o + j) (by omega)
end
section
variable {P : Program} {ρ : Go.Shelf.Ren} {W0 W W' : World} {L L' : List Asn} {e : TypeId} {α : Type} [Inhabited α] {A : Ly α}
theorem flatK_rows {k : Nat} (hk : A.sz = k) (l : List α) : (flatK A.row k l.toArray).toList = A.rows l := by
  subst hk
  refine List.ext_getElem? fun t => ?_
  by_cases ht : t < l.length * A.sz
  · have h0 := get_flatK A.row A.sz l.toArray t (by simpa using ht)
    have hq : t / A.sz < l.length := Nat.div_lt_of_lt_mul (by rw [Nat.mul_comm]; exact ht)
    have hr : t % A.sz < A.sz := Nat.mod_lt _ A.pos
    have hs : t < (flatK A.row A.sz l.toArray).size := by simpa using ht
    rw [getElem!_pos _ t hs] at h0
    rw [Array.getElem?_toList, Array.getElem?_eq_getElem hs, h0]
    have e1 : (A.rows l)[t]? = (A.row l[t / A.sz])[t % A.sz]? := by
      rw [← Ly.rows_at hq, List.getElem?_take_of_lt hr, List.getElem?_drop, Nat.div_add_mod']
    rw [e1, getElem!_pos l.toArray _ (by simpa using hq), getElem!_pos _ _ (by rw [A.len]; exact hr), List.getElem?_eq_getElem (by rw [A.len]; exact hr)]
    simp
  · rw [List.getElem?_eq_none (by simp; omega), List.getElem?_eq_none (by rw [Ly.rows_len]; omega)]
/-- slices.SortFunc at structs, under a function value that parts any two -/
theorem sortFK (L6 : SlLaysF0.n6 P ρ) (aE : ∀ w, (isAgg (ρ.t 24)).run P w = .ok true w) (zE : ∀ w, (Go.sizeOf (ρ.t 24)).run P w = .ok A.sz w) (cf : α → α → Int) (hO : SWO (ltOf cf)) (hT : ∀ x y, (ltOf cf) x y = false → (ltOf cf) y x = false → x = y)
    (g : Nat) (cb : List Value) {a : Option Addr} {c : Nat} {l : List α} {k : Value → World → Prop} (eg : ∀ args w, (callFunc g args).run P w = .ok (.enter g args) w)
    (hc : ∀ x y W, callK P g (.agg (A.row x).toArray :: .agg (A.row y).toArray :: cb) (fun v W' => v = .int .i64 (cf x y) ∧ St W [] W') W)
    (h : St W0 L W) [ho : Own a L A e c l L'] (hl : l.length < 4611686018427387904) (hk : ∀ W', St W0 (arr A e a c (l.mergeSort fun x y => !(ltOf cf) y x) :: L') W' → k (.tuple #[]) W') : callK P (ρ.f 6) [.slice a l.length c, .func (.func g) #[] cb.toArray] k W := by
  have h := h.took (a := a)
  have hf := h.arrFacts
  by_cases ha : a = none
  · subst ha
    have hl0 : l = [] := List.eq_nil_of_length_eq_zero (by have := hf.2.2.1 rfl; omega)
    subst hl0
    refine (AnyF.slices_SortFunc_none L6 none c (.func (.func g) #[] cb.toArray) W).mono ?_
    rintro ed w' ⟨rfl, rfl⟩
    exact hk _ (by rw [List.mergeSort_nil]; exact h)
  · obtain ⟨b, o, cur, rfl, h1, h2, h3⟩ := h.arrCells ha
    have hle : l.length * A.sz ≤ c * A.sz := Nat.mul_le_mul_right _ hf.1
    have hcell := cells_hold (o := o) h3 (l.length * A.sz) (by omega)
    have hH : HoldsK A.row A.sz W b o l.toArray := by
      intro j hj
      have hj' : j < l.length * A.sz := by simpa using hj
      refine ⟨?_, (hcell j hj').2⟩
      rw [(hcell j hj').1, getElem!_pos _ j hj]
      have e1 := flatK_rows (A := A) rfl l
      have e2 : (flatK A.row A.sz l.toArray)[j] = (flatK A.row A.sz l.toArray).toList[j]'(by simpa using hj) := by simp
      rw [e2]
      have e3 : (A.rows l)[j]? = cur[o + j]? := by rw [← h2, List.getElem?_take_of_lt hj', List.getElem?_drop]
      rw [← e3, ← e1, List.getElem?_eq_getElem (by simpa using hj)]
      rfl
    have hblk : b < W.heap.size := by
      obtain ⟨fr, _, hb⟩ := h3.cells
      exact (Array.getElem?_eq_some_iff.1 hb.blk.2).1
    have hcmp : CmpLays P g cb.toArray A.row A.sz cf b o l.toArray.size W := by
      intro m os dk _ x y
      have := hc x y (sortWorldK A.row A.sz W b o m dk os)
      refine (show Calls P g _ _ _ from ?_)
      have h5 : Calls P g (.agg (A.row x).toArray :: .agg (A.row y).toArray :: cb).toArray (sortWorldK A.row A.sz W b o m dk os) _ := this
      have e5 : (#[.agg (A.row x).toArray, .agg (A.row y).toArray] ++ cb.toArray : Array Value) = (.agg (A.row x).toArray :: .agg (A.row y).toArray :: cb).toArray := by simp
      rw [e5]
      refine h5.mono fun ed w' hq => ?_
      cases ed with
      | returned v => exact ⟨by rw [hq.1], hq.2.grown⟩
      | _ => exact hq.elim
    have hcon := AnyQ.slices_SortFunc_total L6 A.sz aE zE A.row A.len (fun x v hv => ?_) cf hO g cb.toArray b o c l.toArray W eg hcmp hH hblk (by simpa using hl) hT
    · have e0 : (#[.slice (some ⟨b, o, none⟩) l.toArray.size c, .func (.func g) #[] cb.toArray] : Array Value) = [.slice (some ⟨b, o, none⟩) l.length c, .func (.func g) #[] cb.toArray].toArray := by simp
      rw [e0] at hcon
      refine hcon.mono ?_
      rintro ed w' ⟨rfl, n, os, rfl⟩
      have hlen : (l.mergeSort fun x y => !(ltOf cf) y x).length = l.length := List.length_mergeSort _
      refine hk _ ?_
      unfold sortWorldK putRowK
      have e6 : flatK A.row A.sz (l.mergeSort fun x y => !(ltOf cf) y x).toArray = (A.rows (l.mergeSort fun x y => !(ltOf cf) y x)).toArray := by
        rw [← flatK_rows (A := A) rfl]
      rw [e6]
      have hrl : (A.rows (l.mergeSort fun x y => !(ltOf cf) y x)).length = l.length * A.sz := by rw [Ly.rows_len, hlen]
      refine (St.putRow (n := n) (os := os) h3 (F := A.rows (l.mergeSort fun x y => !(ltOf cf) y x)) (by omega)).ent (arr_of_cells (by omega) hf.2.1 ?_ ?_)
      · simp only [List.length_append, List.length_take, List.length_drop]; omega
      · rw [List.append_assoc, List.drop_append_of_le_length (by simp; omega), List.drop_take, Nat.sub_self, List.take_zero, List.nil_append, hlen, ← hrl, List.take_left]
    · have := List.all_eq_true.1 (A.one x) v hv
      cases v <;> first | rfl | (simp [oneC] at this)
end
end Go.Eng
namespace Go.Eng
set_option linter.unusedVariables false
set_option linter.unusedSimpArgs false
open Go Go.RowKit Go.Sort Go.Proofs
section
variable {P : Program} {ρ ρ' : Go.Shelf.Ren} {W0 W W' : World} {L L' : List Asn} {e : TypeId}
theorem sortsI (L5 : SlLaysM.n5 P ρ') (e : ρ.f 9 = ρ'.f 5) (m : Nat) : AnyZI.SortsIn P ρ Fence.wide m := by
  refine ⟨fun blk off cap ss W hH hblk hsz => ?_, fun p cap W => ?_⟩ <;> rw [e]
  · exact callsIn_wide.2 (AnyM.slices_Sort_int L5 blk off cap ss W hH hblk hsz)
  · exact callsIn_wide.2 (AnyM.slices_Sort_int_none L5 p cap W)
/-- over a base that counts no draws, a world may forget its own -/
theorem St.lax (h : St W0 L W) (h0 : W0.drawn = 0) : St W0 L { W with drawn := 0 } :=
  ⟨⟨⟨h.bel.os, h.bel.tape, h.bel.output, h.bel.size, h.bel.block⟩, by rw [h0]; exact Nat.zero_le _⟩, h.own⟩
theorem St.fresh (h : St W0 L W) (h0 : W0.drawn = 0) (hb : Below W.heap.size W W') {g : Nat} {o : Obj} (hg : W.heap.size ≤ g) (ho : W'.heap[g]? = some o) : St W0 (Eng.blk g o :: L) W' := by
  have h' : St { W with drawn := 0 } [Eng.blk g o] W' := by
   refine ⟨⟨⟨hb.os, hb.tape, hb.output, hb.size, hb.block⟩, Nat.zero_le _⟩, fun x => if x = g then some o else none, ⟨fun x => if x = g then some o else none, fun _ => none, fun x => .inr rfl, ?_, ⟨?_, ?_⟩, fun _ => rfl⟩, ?_⟩
   · funext x; simp [PH.join]
   · simp
   · intro x hx; simp [hx]
   · intro b o' hb
     by_cases hbe : b = g
     · subst hbe
       simp only [if_true, Option.some.injEq] at hb
       subst hb
       exact ⟨hg, ho⟩
     · simp only [hbe, if_false] at hb
       cases hb
  exact (h.lax h0).over h'
theorem St.stay (h : St W0 L W) (h0 : W0.drawn = 0) (hb : Below W.heap.size W W') : St W0 L W' := by
  have h2 : St { W with drawn := 0 } [] W' := ⟨⟨⟨hb.os, hb.tape, hb.output, hb.size, hb.block⟩, Nat.zero_le _⟩, fun _ => none, fun _ => rfl, fun b o h => by cases h⟩
  exact (h.lax h0).over h2
theorem St.ownRow (h : St W0 L W) (h0 : W0.drawn = 0) (hb : Below W.heap.size W W') {v : Value} {l : List Int} (hr : W'.ownsRow W.heap.size e 1 v l.length (l.map encZ)) : ∃ a c, v = .slice a l.length c ∧ St W0 (arr I64 e a c l :: L) W' := by
  rcases hr.2 with ⟨rfl, hz⟩ | ⟨g, cap, cur, rfl, hbase, hg, h1, h2, h3, h4⟩
  · have : l = [] := List.eq_nil_of_length_eq_zero hz
    subst this
    exact ⟨none, 0, rfl, (h.stay h0 hb).ent (arr_nil I64 e)⟩
  · refine ⟨_, _, rfl, ?_⟩
    have hrows : ∀ l : List Int, I64.rows l = l.map encZ := fun l => by
      induction l with
      | nil => rfl
      | cons a l ih => rw [Ly.rows_cons, ih]; rfl
    have h5 : St W0 (Eng.cells g cur.toList e :: L) W' := (h.fresh h0 hb hbase hg).weak fun p hp => ⟨(0, 0), free_zero _, by simpa using hp⟩
    refine h5.ent (arr_of_cells h1 h2 ?_ ?_)
    · rw [show I64.sz = 1 from rfl]; simp [h3]
    · rw [show I64.sz = 1 from rfl, List.drop_zero, hrows]; exact h4
theorem sortedI (L6 : SlLaysZI.n6 P ρ) (hs : ∀ m, AnyZI.SortsIn P ρ Fence.wide m) (e9 : ∀ args w, (callFunc (ρ.f 9) args).run P w = .ok (.enter (ρ.f 9) args) w) {g : Nat} {lb : Array Value} (eg : ∀ args w, (callFunc g args).run P w = .ok (.enter g args) w) {S : List Int → Prop} {N : Nat} {k : Value → World → Prop}
    (h : St W0 L W) (h0 : W0.drawn = 0) (hN : N * 8 ≤ 140737488355328) (hseq : SeqGives Fence.wide 2 P g lb encZ S N W)
    (hk : ∀ a c ss W', S ss → St W0 (arr I64 (ρ.t 26) a c (ss.mergeSort fun x y => decide (x ≤ y)) :: L) W' → k (.slice a (ss.mergeSort fun x y => decide (x ≤ y)).length c) W') : callK P (ρ.f 6) [.func (.func g) #[] lb] k W := by
  have cS := AnyZI.sorted_in L6 Fence.wide 5 trivial trivial trivial trivial rfl (by omega) (hs _) e9 g lb trivial eg S N (by simp only [maxLen]; omega) hN W hseq
  refine (callsIn_wide.1 cS).mono ?_
  rintro ed w' ⟨v, ss, rfl, hS, hrow, -, hb⟩
  have hl : ss.length = (ss.mergeSort fun x y => decide (x ≤ y)).length := (List.length_mergeSort _).symm
  rw [hl] at hrow
  obtain ⟨a, c, rfl, h⟩ := h.ownRow h0 hb hrow
  exact hk a c ss w' hS h
theorem insert_fold {H : Type} : ∀ r : List (Lit × DataW H), (r.foldr DataW.insert []).Perm r
  | [] => List.Perm.nil
  | x :: r => (Go.WideShapes.insert_perm x _).trans ((insert_fold r).cons x)
def valI : Value → Int
  | .int _ a => a
  | _ => 0
theorem mp_owns {r : Nat} {l : List (Int × Value)} {kt : TypeId} (hk : P.underlying kt = some (.int .i64)) (h : St W0 (mp KI r l :: L) W) (hl : l.length ≤ maxLen) (hw : ∀ p ∈ l, (Lit.int .i64 p.1).wf = true) :
    ∃ D : DataW Unit, W.ownsMap P kt (fun _ => some (.nil, [])) r l.length D ∧ (intKeys D).Perm (l.map (·.1)) ∧ Maps.size D = l.length := by
  obtain ⟨es, clock, h1, h2, h3⟩ := h.mp
  have hlen : es.size = l.length := by have := congrArg List.length h1; simpa using this
  have hkey : ∀ x ∈ es.toList, ∃ p ∈ l, x.key = KI p.1 := fun x hx => by
    have : (x.key, x.val) ∈ l.map (fun p => (KI p.1, p.2)) := by rw [← h1]; exact List.mem_map.2 ⟨x, hx, rfl⟩
    obtain ⟨p, hp, he⟩ := List.mem_map.1 this
    exact ⟨p, hp, (congrArg Prod.fst he).symm⟩
  have hrd : ∀ x ∈ es.toList, ∃ p ∈ l, x.key = KI p.1 ∧ Go.WideElems.rd (H := Unit) P kt (fun _ => some (.nil, [])) x = some (.int .i64 p.1, .nil) := fun x hx => by
    obtain ⟨p, hp, he⟩ := hkey x hx
    refine ⟨p, hp, he, ?_⟩
    have hkk : keyOf P kt (KI p.1) = some (.int .i64 p.1) := by simp [KI, keyOf, hk, mapKey, hw p hp]
    unfold Go.WideElems.rd
    rw [he, hkk]; rfl
  refine ⟨_, ⟨es, clock, h3.blk.2, ⟨by omega, h2, fun x hx => ?_⟩, by omega, rfl⟩, ?_, ?_⟩
  · obtain ⟨p, _, _, h⟩ := hrd x hx
    exact ⟨_, h⟩
  · have e1 : (es.toList.map (Go.WideElems.rg (H := Unit) P kt fun _ => some (.nil, []))).map (fun p => intOf p.1) = l.map (·.1) := by
      have e2 : ∀ x ∈ es.toList, intOf (Go.WideElems.rg (H := Unit) P kt (fun _ => some (.nil, [])) x).1 = valI x.key := fun x hx => by
        obtain ⟨p, _, h4, h5⟩ := hrd x hx
        rw [Go.WideElems.rg_of h5, h4]; rfl
      rw [List.map_map]
      refine (List.map_congr_left e2).trans ?_
      have e3 := congrArg (fun t : List (Value × Value) => t.map fun q => valI q.1) h1
      rw [List.map_map, List.map_map] at e3
      exact e3
    rw [← e1]
    exact (insert_fold _).map _
  · show ((es.toList.map _).foldr DataW.insert []).length = _
    rw [(insert_fold _).length_eq, List.length_map, Array.length_toList, hlen]
theorem keysI (L7 : SlLaysZI.n7 P ρ) {mb : Option Nat} {k : Value → World → Prop} (h : St W0 L W)
    (hk : ∀ b W', St W0 (Eng.cells b [.map mb] (ρ.t 23) :: L) W' → k (.func (.func (ρ.f 10)) #[] #[.pointer (some ⟨b, 0, none⟩)]) W') : callK P (ρ.f 7) [.map mb] k W := by
  refine (callsIn_wide.1 (AnyZI.keys_in L7 Fence.wide 1 trivial rfl mb W)).mono ?_
  rintro ed w' ⟨rfl, rfl⟩
  exact hk _ _ (h.allocCells [.map mb] _)
theorem keysGive (L7 : SlLaysZI.n7 P ρ) {b r : Nat} {T : TypeId} {l : List (Int × Value)} (h : St W0 (Eng.cells b [.map (some r)] T :: mp KI r l :: L) W) (hl : l.length ≤ maxLen) (hw : ∀ p ∈ l, (Lit.int .i64 p.1).wf = true) :
    SeqGives Fence.wide 2 P (ρ.f 10) #[.pointer (some ⟨b, 0, none⟩)] encZ (fun ss => ss.Perm (l.map (·.1))) l.length W := by
  have h10 : SlLaysZI.n10 P ρ := { L7 with }
  obtain ⟨D, hD, hp, hsz⟩ := mp_owns h10.t26 (h.drop) hl hw
  have hc := h.cells
  obtain ⟨fr, _, hb⟩ := hc
  have hg := hb.blk.2
  have hseq := AnyZI.keys_gives (ρ := ρ) h10 Fence.wide 2 trivial rfl (by omega) b r l.length D W (Array.getElem?_eq_some_iff.1 hg).1 (by simp [World.cell?, hg]) hD
  rw [hsz] at hseq
  intro l' J W' hW hJ hY h0
  refine (hseq l' J W' hW hJ hY h0).mono ?_
  rintro ed w' ⟨h1, xs, h2, h3⟩
  exact ⟨h1, xs, h2.trans hp, h3⟩
end
end Go.Eng
namespace Go.Proofs.Ythladblmjoaeoaa
set_option linter.unusedVariables false
set_option linter.unusedSimpArgs false
open Go Go.Proofs Go.Shelf
def laySorted_ren : Go.Shelf.Ren := ⟨fun | 6 => 50 | 8 => 62 | 9 => 63 | 11 => 74 | 13 => 76 | 12 => 75 | 23 => 92 | 24 => 93 | 14 => 83 | 15 => 84 | 16 => 85 | 17 => 86 | 18 => 87 | 19 => 88 | 20 => 89 | 21 => 90 | 22 => 91 | 25 => 105 | 26 => 106 | 27 => 107 | 28 => 108 | 29 => 109 | 30 => 80 | 31 => 114 | n => n, fun | 26 => 3 | 28 => 80 | 24 => 42 | 0 => 0 | 3 => 3 | 37 => 112 | 48 => 128 | 50 => 87 | 4 => 4 | 40 => 120 | 39 => 119 | 45 => 125 | 5 => 5 | 9 => 9 | 51 => 139 | 55 => 143 | 57 => 148 | 58 => 149 | 33 => 96 | n => n, fun | n => n⟩
theorem laySorted : Go.Proofs.SlLaysZI.n6 Try.prog laySorted_ren := {
  mixed := by kernel_rfl
  f6 := ⟨Try.f50.name, by decide, Try.func50.trans (congrArg some (by kernel_rfl))⟩
  f8 := ⟨Try.f62.name, by decide, Try.func62.trans (congrArg some (by kernel_rfl))⟩
  f11 := ⟨Try.f74.name, by decide, Try.func74.trans (congrArg some (by kernel_rfl))⟩
  t0 := Try.underlying0
  a0 := Try.isAgg0
  z0 := Try.sizeOf0
  v0 := Try.zeroValue0
  t24 := Try.underlying42
  a24 := Try.isAgg42
  z24 := Try.sizeOf42
  v24 := Try.zeroValue42
  t26 := Try.underlying3
  a26 := Try.isAgg3
  z26 := Try.sizeOf3
  v26 := Try.zeroValue3
  t28 := Try.underlying80
  a28 := Try.isAgg80
  z28 := Try.sizeOf80
  v28 := Try.zeroValue80
  i26 := by kernel_rfl }
def layKeys_ren : Go.Shelf.Ren := ⟨fun | 7 => 51 | 10 => 64 | n => n, fun | 23 => 70 | 26 => 3 | 3 => 28 | 28 => 80 | 0 => 0 | 27 => 79 | 33 => 96 | 4 => 4 | n => n, fun | n => n⟩
theorem layKeys : Go.Proofs.SlLaysZI.n7 Try.prog layKeys_ren := {
  mixed := by kernel_rfl
  f7 := ⟨Try.f51.name, by decide, Try.func51.trans (congrArg some (by kernel_rfl))⟩
  f10 := ⟨Try.f64.name, by decide, Try.func64.trans (congrArg some (by kernel_rfl))⟩
  t0 := Try.underlying0
  a0 := Try.isAgg0
  z0 := Try.sizeOf0
  v0 := Try.zeroValue0
  t4 := Try.underlying4
  a4 := Try.isAgg4
  z4 := Try.sizeOf4
  v4 := Try.zeroValue4
  t23 := Try.underlying70
  a23 := Try.isAgg70
  z23 := Try.sizeOf70
  v23 := Try.zeroValue70
  t26 := Try.underlying3
  a26 := Try.isAgg3
  z26 := Try.sizeOf3
  v26 := Try.zeroValue3
  t27 := Try.underlying79
  a27 := Try.isAgg79
  z27 := Try.sizeOf79
  v27 := Try.zeroValue79
  t28 := Try.underlying80
  a28 := Try.isAgg80
  z28 := Try.sizeOf80
  v28 := Try.zeroValue80
  t33 := Try.underlying96
  a33 := Try.isAgg96
  z33 := Try.sizeOf96
  v33 := Try.zeroValue96 }
def laySortI_ren : Go.Shelf.Ren := ⟨fun | 5 => 63 | 8 => 76 | 7 => 75 | 19 => 92 | 20 => 93 | 10 => 83 | 11 => 84 | 12 => 85 | 13 => 86 | 14 => 87 | 15 => 88 | 16 => 89 | 17 => 90 | 18 => 91 | 30 => 105 | 31 => 106 | 32 => 107 | 33 => 108 | 34 => 109 | 35 => 80 | 40 => 114 | n => n, fun | 23 => 42 | 25 => 3 | 3 => 3 | 32 => 112 | 22 => 42 | 0 => 0 | 44 => 128 | 46 => 87 | 4 => 4 | 36 => 120 | 35 => 119 | 41 => 125 | 5 => 5 | 9 => 9 | 53 => 139 | 57 => 143 | 63 => 148 | 64 => 149 | n => n, fun | n => n⟩
theorem laySortI : Go.Proofs.SlLaysM.n5 Try.prog laySortI_ren := {
  mixed := by kernel_rfl
  f5 := ⟨Try.f63.name, by decide, Try.func63.trans (congrArg some (by kernel_rfl))⟩
  f7 := ⟨Try.f75.name, by decide, Try.func75.trans (congrArg some (by kernel_rfl))⟩
  f8 := Try.func76.trans (congrArg some (by kernel_rfl))
  f10 := ⟨Try.f83.name, by decide, Try.func83.trans (congrArg some (by kernel_rfl))⟩
  f11 := ⟨Try.f84.name, by decide, Try.func84.trans (congrArg some (by kernel_rfl))⟩
  f12 := ⟨Try.f85.name, by decide, Try.func85.trans (congrArg some (by kernel_rfl))⟩
  f13 := ⟨Try.f86.name, by decide, Try.func86.trans (congrArg some (by kernel_rfl))⟩
  f14 := ⟨Try.f87.name, by decide, Try.func87.trans (congrArg some (by kernel_rfl))⟩
  f15 := ⟨Try.f88.name, by decide, Try.func88.trans (congrArg some (by kernel_rfl))⟩
  f16 := ⟨Try.f89.name, by decide, Try.func89.trans (congrArg some (by kernel_rfl))⟩
  f17 := ⟨Try.f90.name, by decide, Try.func90.trans (congrArg some (by kernel_rfl))⟩
  f18 := ⟨Try.f91.name, by decide, Try.func91.trans (congrArg some (by kernel_rfl))⟩
  f19 := Try.func92.trans (congrArg some (by kernel_rfl))
  f20 := Try.func93.trans (congrArg some (by kernel_rfl))
  f30 := ⟨Try.f105.name, by decide, Try.func105.trans (congrArg some (by kernel_rfl))⟩
  f31 := Try.func106.trans (congrArg some (by kernel_rfl))
  f32 := Try.func107.trans (congrArg some (by kernel_rfl))
  f33 := ⟨Try.f108.name, by decide, Try.func108.trans (congrArg some (by kernel_rfl))⟩
  f34 := ⟨Try.f109.name, by decide, Try.func109.trans (congrArg some (by kernel_rfl))⟩
  f35 := ⟨Try.f80.name, by decide, Try.func80.trans (congrArg some (by kernel_rfl))⟩
  f40 := ⟨Try.f114.name, by decide, Try.func114.trans (congrArg some (by kernel_rfl))⟩
  t0 := Try.underlying0
  a0 := Try.isAgg0
  z0 := Try.sizeOf0
  v0 := Try.zeroValue0
  t3 := Try.underlying3
  a3 := Try.isAgg3
  z3 := Try.sizeOf3
  v3 := Try.zeroValue3
  t4 := Try.underlying4
  a4 := Try.isAgg4
  z4 := Try.sizeOf4
  v4 := Try.zeroValue4
  t5 := Try.underlying5
  a5 := Try.isAgg5
  z5 := Try.sizeOf5
  v5 := Try.zeroValue5
  t9 := Try.underlying9
  a9 := Try.isAgg9
  z9 := Try.sizeOf9
  v9 := Try.zeroValue9
  t22 := Try.underlying42
  a22 := Try.isAgg42
  z22 := Try.sizeOf42
  v22 := Try.zeroValue42
  t23 := Try.underlying42
  a23 := Try.isAgg42
  z23 := Try.sizeOf42
  v23 := Try.zeroValue42
  t25 := Try.underlying3
  a25 := Try.isAgg3
  z25 := Try.sizeOf3
  v25 := Try.zeroValue3
  t32 := Try.underlying112
  a32 := Try.isAgg112
  z32 := Try.sizeOf112
  v32 := Try.zeroValue112
  t35 := Try.underlying119
  a35 := Try.isAgg119
  z35 := Try.sizeOf119
  v35 := Try.zeroValue119
  t36 := Try.underlying120
  a36 := Try.isAgg120
  z36 := Try.sizeOf120
  v36 := Try.zeroValue120
  t41 := Try.underlying125
  a41 := Try.isAgg125
  z41 := Try.sizeOf125
  v41 := Try.zeroValue125
  t44 := Try.underlying128
  a44 := Try.isAgg128
  z44 := Try.sizeOf128
  v44 := Try.zeroValue128
  t46 := Try.underlying87
  a46 := Try.isAgg87
  z46 := Try.sizeOf87
  v46 := Try.zeroValue87
  t53 := Try.underlying139
  a53 := Try.isAgg139
  z53 := Try.sizeOf139
  v53 := Try.zeroValue139
  t57 := Try.underlying143
  a57 := Try.isAgg143
  z57 := Try.sizeOf143
  v57 := Try.zeroValue143
  t63 := Try.underlying148
  a63 := Try.isAgg148
  z63 := Try.sizeOf148
  v63 := Try.zeroValue148
  t64 := Try.underlying149
  a64 := Try.isAgg149
  z64 := Try.sizeOf149
  v64 := Try.zeroValue149 }
end Go.Proofs.Ythladblmjoaeoaa
namespace Go.Proofs.Ythladblmjoaeoaa
set_option linter.unusedVariables false
set_option linter.unusedSimpArgs false
open Go.Eng
/-! ### (*rostrum/disk.Disk).Files (22) -/
def S.disk_Disk_Files.body (R : Value → World → Prop) (v0 : Value) (W : World) : Prop :=
  okF (nilP v0) fun v4 =>
  okF (addrF 3 v4) fun v5 =>
  rdK PR (Instr.loadAt T_bool v5) (fun v6 W =>
  okF (unP .not v6) fun v7 =>
  ifK v7 (
  R (.slice none 0 0) W) (
  okF (nilP v0) fun v9 =>
  okF (addrF 1 v9) fun v10 =>
  rdK PR (Instr.loadAt T_m_int_s_uint8 v10) (fun v11 W =>
  callK PR F_maps_Keys_map_int_byte_int_byte [v11] (fun v12 W =>
  callK PR F_slices_Sorted_int [v12] (fun v13 W =>
  R v13 W) W) W) W)) W
def S.disk_Disk_Files.hint : Hint := (.two .nil (.two (.two .nil (.two (.two .nil .nil) .nil)) (.two .nil .nil)))
theorem S.disk_Disk_Files.ok (R : Value → World → Prop) (v0 : Value) (W : World) : bodyK PR CB Try.f22 S.disk_Disk_Files.hint [v0] R W = S.disk_Disk_Files.body R v0 W := by kernel_rfl
theorem S.disk_Disk_Files.fn : PR.funcs[F_disk_Disk_Files]? = some Try.f22 := by kernel_rfl
theorem S.disk_Disk_Files.call {R : Value → World → Prop} {v0 : Value} {W : World} (h : S.disk_Disk_Files.body R v0 W) : callK PR F_disk_Disk_Files [v0] R W :=
  callK_of_body (g := F_disk_Disk_Files) (fn := Try.f22) (args := [v0]) (R := R) (w := W) mixed CBok S.disk_Disk_Files.fn S.disk_Disk_Files.hint (by rw [S.disk_Disk_Files.ok]; exact h)
/-! ### rostrum/rostrumlaw5.ints (24) -/
def S.rostrumlaw5_ints.l1 (R : Value → World → Prop) (K1 : List Value → World → Prop) (x0 x1 x5 : Value) (W : World) : Prop :=
  okF (lenP (.slice T_int) x0) fun v13 =>
  okF (binP .lss x5 v13) fun v14 =>
  ifK v14 (
  okF (idxS 1 x0 x5) fun v19 =>
  rdK PR (Instr.loadAt T_int v19) (fun v20 W =>
  okF (idxS 1 x1 x5) fun v23 =>
  rdK PR (Instr.loadAt T_int v23) (fun v24 W =>
  okF (binP .neq v20 v24) fun v25 =>
  ifK v25 (
  R (.bool false) W) (
  okF (binP .add x5 (.int .i64 1)) fun v16 =>
  K1 [x0, x1, v16] W)) W) (tick W)) (
  R (.bool true) W)
def S.rostrumlaw5_ints.body (R : Value → World → Prop) (v0 v1 : Value) (W : World) : Prop :=
  okF (lenP (.slice T_int) v0) fun v7 =>
  okF (lenP (.slice T_int) v1) fun v9 =>
  okF (binP .neq v7 v9) fun v10 =>
  ifK v10 (
  R (.bool false) W) (
  loopK (fun K1 s W => S.rostrumlaw5_ints.l1 R K1 (nthv s 0) (nthv s 1) (nthv s 2) W) [v0, v1, (.int .i64 0)] W)
def S.rostrumlaw5_ints.hint : Hint := (.two .nil (.two (.two .nil (.two (.two .nil .nil) .nil)) (.two (.two .nil (.at [0, 1, 5] (.two (.two .nil (.two .nil .nil)) (.two (.two .nil (.two (.two .nil .nil) .nil)) .nil)) .nil)) (.two .nil .nil))))
theorem S.rostrumlaw5_ints.ok (R : Value → World → Prop) (v0 v1 : Value) (W : World) : bodyK PR CB Try.f24 S.rostrumlaw5_ints.hint [v0, v1] R W = S.rostrumlaw5_ints.body R v0 v1 W := by kernel_rfl
theorem S.rostrumlaw5_ints.fn : PR.funcs[F_rostrumlaw5_ints]? = some Try.f24 := by kernel_rfl
theorem S.rostrumlaw5_ints.call {R : Value → World → Prop} {v0 v1 : Value} {W : World} (h : S.rostrumlaw5_ints.body R v0 v1 W) : callK PR F_rostrumlaw5_ints [v0, v1] R W :=
  callK_of_body (g := F_rostrumlaw5_ints) (fn := Try.f24) (args := [v0, v1]) (R := R) (w := W) mixed CBok S.rostrumlaw5_ints.fn S.rostrumlaw5_ints.hint (by rw [S.rostrumlaw5_ints.ok]; exact h)
/-! ### rostrum/rostrumlaw5.DiskKnown (6) -/
def S.rostrumlaw5_DiskKnown.body (R : Value → World → Prop) (W : World) : Prop :=
  callK PR F_rostrumlaw5_awake [] (fun v20 W =>
  okF (unP .not v20) fun v21 =>
  ifK v21 (
  R (.bool false) W) (
  callK PR F_disk_New [(.int .i64 63)] (fun v23 W =>
  okF (extP 0 v23) fun v24 =>
  okF (extP 1 v23) fun v25 =>
  callK PR F_disk_New [(.int .i64 64)] (fun v27 W =>
  okF (extP 0 v27) fun v28 =>
  okF (extP 1 v27) fun v29 =>
  callK PR F_disk_Disk_Append [v28, (.int .i64 (-1)), (.slice none 0 0)] (fun v31 W =>
  callK PR F_disk_Disk_Append [v28, (.int .i64 1000), (.slice none 0 0)] (fun v33 W =>
  efK PR (Instr.makeSlice T_s_uint8 (.int .i64 65) (.int .i64 65)) (fun v35 W =>
  callK PR F_disk_Disk_Append [v28, (.int .i64 5), v35] (fun v36 W =>
  callK PR F_disk_Disk_Sync [v28, (.int .i64 5)] (fun v38 W =>
  efK PR (Instr.buildSlice T_s_uint8 3 #[(0, (.int .u8 97)), (1, (.int .u8 98)), (2, (.int .u8 99))]) (fun v40 W =>
  efK PR (convert T_s_uint8 T_s_uint8 v40) (fun v41 W =>
  callK PR F_disk_Disk_Append [v28, (.int .i64 9), v41] (fun v42 W =>
  callK PR F_disk_Disk_Sync [v28, (.int .i64 9)] (fun v44 W =>
  callK PR F_disk_Disk_Spoil [v28, (.int .i64 9), (.int .i64 1), (.int .u8 1)] (fun v46 W =>
  callK PR F_disk_Disk_Spoil [v28, (.int .i64 9), (.int .i64 3), (.int .u8 1)] (fun v48 W =>
  callK PR F_disk_Disk_Spoil [v28, (.int .i64 9), (.int .i64 0), (.int .u8 0)] (fun v50 W =>
  callK PR F_disk_Disk_Read [v28, (.int .i64 9)] (fun v53 W =>
  okF (extP 0 v53) fun v54 =>
  okF (extP 1 v53) fun v55 =>
  callK PR F_disk_Disk_Append [v28, (.int .i64 2), (.slice none 0 0)] (fun v57 W =>
  callK PR F_disk_Disk_Files [v28] (fun v59 W =>
  callK PR F_disk_Disk_Crash [v28, (.int .i64 0), (.int .i64 0)] (fun v61 W =>
  callK PR F_disk_Disk_Files [v28] (fun v63 W =>
  callK PR F_disk_Disk_On [v28] (fun v65 W =>
  callK PR F_disk_Disk_Read [v28, (.int .i64 9)] (fun v68 W =>
  okF (extP 0 v68) fun v69 =>
  okF (extP 1 v68) fun v70 =>
  callK PR F_disk_Disk_Drop [v28, (.int .i64 9)] (fun v72 W =>
  callK PR F_disk_Disk_Drop [v28, (.int .i64 9)] (fun v74 W =>
  okF (binP .eql v25 (.int .i64 1)) fun v76 =>
  gdK (wantd v76 true) (fun k W => k v31 W) (fun v78 W =>
  gdK (wantd v76 true) (fun k W => okF (binP .eql v78 (.int .i64 1)) fun v => k v W) (fun v79 W =>
  okF (pickP v76 v79 (.bool false)) fun v80 =>
  gdK (wantd v80 true) (fun k W => k v33 W) (fun v82 W =>
  gdK (wantd v80 true) (fun k W => okF (binP .eql v82 (.int .i64 1)) fun v => k v W) (fun v83 W =>
  okF (pickP v80 v83 (.bool false)) fun v84 =>
  gdK (wantd v84 true) (fun k W => k v36 W) (fun v86 W =>
  gdK (wantd v84 true) (fun k W => okF (binP .eql v86 (.int .i64 6)) fun v => k v W) (fun v87 W =>
  okF (pickP v84 v87 (.bool false)) fun v88 =>
  gdK (wantd v88 true) (fun k W => k v38 W) (fun v90 W =>
  gdK (wantd v88 true) (fun k W => okF (binP .eql v90 (.int .i64 4)) fun v => k v W) (fun v91 W =>
  okF (pickP v88 v91 (.bool false)) fun v92 =>
  gdK (wantd v92 true) (fun k W => k v46 W) (fun v94 W =>
  okF (pickP v92 v94 (.bool false)) fun v95 =>
  gdK (wantd v95 true) (fun k W => k v48 W) (fun v97 W =>
  gdK (wantd v95 true) (fun k W => okF (unP .not v97) fun v => k v W) (fun v98 W =>
  okF (pickP v95 v98 (.bool false)) fun v99 =>
  gdK (wantd v99 true) (fun k W => k v50 W) (fun v101 W =>
  gdK (wantd v99 true) (fun k W => okF (unP .not v101) fun v => k v W) (fun v102 W =>
  okF (pickP v99 v102 (.bool false)) fun v103 =>
  gdK (wantd v103 true) (fun k W => k v54 W) (fun v105 W =>
  gdK (wantd v103 true) (fun k W => rdK PR (convert T_s_uint8 T_string v105) k W) (fun v106 W =>
  gdK (wantd v103 true) (fun k W => okF (binP .eql v106 (.string ⟨#[97, 99, 99]⟩)) fun v => k v W) (fun v107 W =>
  okF (pickP v103 v107 (.bool false)) fun v108 =>
  gdK (wantd v108 true) (fun k W => k v59 W) (fun v110 W =>
  gdK (wantd v108 true) (fun k W => efK PR (Instr.buildSlice T_s_int 2 #[(0, (.int .i64 2)), (1, (.int .i64 9))]) k W) (fun v111 W =>
  gdK (wantd v108 true) (fun k W => callK PR F_rostrumlaw5_ints [v110, v111] k W) (fun v112 W =>
  okF (pickP v108 v112 (.bool false)) fun v113 =>
  gdK (wantd v113 true) (fun k W => k v63 W) (fun v115 W =>
  gdK (wantd v113 true) (fun k W => okF (lenP (.slice T_int) v115) fun v => k v W) (fun v116 W =>
  gdK (wantd v113 true) (fun k W => okF (binP .eql v116 (.int .i64 0)) fun v => k v W) (fun v117 W =>
  okF (pickP v113 v117 (.bool false)) fun v118 =>
  gdK (wantd v118 true) (fun k W => k v69 W) (fun v120 W =>
  gdK (wantd v118 true) (fun k W => rdK PR (convert T_s_uint8 T_string v120) k W) (fun v121 W =>
  gdK (wantd v118 true) (fun k W => okF (binP .eql v121 (.string ⟨#[97, 99, 99]⟩)) fun v => k v W) (fun v122 W =>
  okF (pickP v118 v122 (.bool false)) fun v123 =>
  gdK (wantd v123 true) (fun k W => k v72 W) (fun v125 W =>
  gdK (wantd v123 true) (fun k W => okF (binP .eql v125 (.int .i64 0)) fun v => k v W) (fun v126 W =>
  okF (pickP v123 v126 (.bool false)) fun v127 =>
  gdK (wantd v127 true) (fun k W => k v74 W) (fun v129 W =>
  gdK (wantd v127 true) (fun k W => okF (binP .eql v129 (.int .i64 4)) fun v => k v W) (fun v130 W =>
  okF (pickP v127 v130 (.bool false)) fun v131 =>
  gdK (wantd v131 true) (fun k W => k v28 W) (fun v133 W =>
  gdK (wantd v131 true) (fun k W => callK PR F_disk_Disk_Files [v133] k W) (fun v134 W =>
  gdK (wantd v131 true) (fun k W => efK PR (Instr.buildSlice T_s_int 1 #[(0, (.int .i64 2))]) k W) (fun v135 W =>
  gdK (wantd v131 true) (fun k W => callK PR F_rostrumlaw5_ints [v134, v135] k W) (fun v136 W =>
  okF (pickP v131 v136 (.bool false)) fun v137 =>
  R v137 W) W) W) W) W) W) W) W) W) W) W) W) W) W) W) W) W) W) W) W) W) W) W) W) W) W) W) W) W) W) W) W) W) W) W) W) W) W) W) W) W) W) W) W) W) W) W) W) W) W) W) W) W) W) W) W) W)) W
def S.rostrumlaw5_DiskKnown.hint : Hint := (.two .nil (.two (.two .nil (.two (.two .nil .nil) .nil)) (.two .nil (.two .nil (.two .nil (.two .nil (.two .nil (.two .nil (.two .nil (.two .nil (.two .nil (.two .nil (.two .nil (.two .nil (.two .nil (.two .nil (.two .nil (.two .nil (.two .nil (.two .nil .nil))))))))))))))))))))
theorem S.rostrumlaw5_DiskKnown.ok (R : Value → World → Prop) (W : World) : bodyK PR CB Try.f6 S.rostrumlaw5_DiskKnown.hint [] R W = S.rostrumlaw5_DiskKnown.body R  W := by kernel_rfl
theorem S.rostrumlaw5_DiskKnown.fn : PR.funcs[F_rostrumlaw5_DiskKnown]? = some Try.f6 := by kernel_rfl
theorem S.rostrumlaw5_DiskKnown.call {R : Value → World → Prop} {W : World} (h : S.rostrumlaw5_DiskKnown.body R  W) : callK PR F_rostrumlaw5_DiskKnown [] R W :=
  callK_of_body (g := F_rostrumlaw5_DiskKnown) (fn := Try.f6) (args := []) (R := R) (w := W) mixed CBok S.rostrumlaw5_DiskKnown.fn S.rostrumlaw5_DiskKnown.hint (by rw [S.rostrumlaw5_DiskKnown.ok]; exact h)
end Go.Proofs.Ythladblmjoaeoaa
namespace Go.Eng
set_option linter.unusedVariables false
set_option linter.unusedSimpArgs false
open Go Go.RowKit
section
variable {P : Program} {W0 W : World} {L L' : List Asn}
theorem KeyT.agg {t : TypeId} {d : TypeDesc} {κ : Type} {K : κ → Value} [DecidableEq κ] (cs : κ → List Value) {ks : List Leaf} [EqS P t ks] (hK : ∀ k, K k = .agg (cs k).toArray) (hd : P.underlying t = some d)
    (hs : ∀ a b, Instr.sameNow d a b = none) (heq : ∀ a b, eqC ks (cs a) (cs b) = some (decide (a = b))) (hst : ∀ k, Instr.sameBits 10000 (K k) (K k) = true)
    (hchk : ∀ (w : World) (em : Bool) (k : κ), (Instr.checkKey em 10000 t (K k)).run P w = .ok () w) : KeyT P t K where
  inj {a b} h := by
    rw [hK, hK] at h
    have h1 : cs a = cs b := by simpa using h
    have h2 := heq a b
    rw [h1, heq b b] at h2
    simpa using h2
  check := hchk
  find w k es hes := by
    have hasking : ∀ (es : List MapEntry) (i : Nat), (∀ e ∈ es, ∃ k', e.key = K k') →
        ((Instr.findAsking t (K k) es i).run P w = .ok none w ∧ ∀ e ∈ es, e.key ≠ K k) ∨ ∃ j e, (Instr.findAsking t (K k) es i).run P w = .ok (some (i + j, e.val)) w ∧ es[j]? = some e ∧ e.key = K k := by
      intro es
      induction es with
      | nil => intro i _; exact .inl ⟨rfl, by simp⟩
      | cons e es ih =>
        intro i hes
        obtain ⟨k', hk'⟩ := hes e (by simp)
        have he := (equal_run (P := P) (w := w))
        have hq : (Op.equal t (K k) e.key).run P w = .ok (decide (k = k')) w := by
          have h1 := (aggEq_run (P := P) (w := w) (t := t) (heq k k')).1
          rw [hk', hK k, hK k']
          obtain ⟨u, g1, g0, g2, g3⟩ := (inferInstance : EqS P t ks).ok
          exact equal_run (P := P) (w := w) 8 9992 t ks _ _ _ _ g2 g1 (heq k k') (.agg (cs k).toArray) (.agg (cs k').toArray) (fun _ => ⟨rfl, rfl⟩) (fun h => by rw [g0] at h; cases h)
        simp only [Instr.findAsking, Sem.run_bind, hq, Result.andThen_ok]
        by_cases hkk : k = k'
        · subst hkk
          rw [decide_eq_true rfl]
          exact .inr ⟨0, e, rfl, rfl, hk'⟩
        · rw [decide_eq_false hkk]
          rcases ih (i + 1) (fun x hx => hes x (by simp [hx])) with ⟨h1, h2⟩ | ⟨j, e', h1, h2, h3⟩
          · refine .inl ⟨h1, fun x hx => ?_⟩
            rcases List.mem_cons.1 hx with rfl | hx
            · rw [hk']
              intro h
              rw [hK, hK] at h
              have h1 : cs k' = cs k := by simpa using h
              have h2 := heq k k'
              rw [h1, heq k k] at h2
              exact hkk (by simpa using h2)
            · exact h2 x hx
          · refine .inr ⟨j + 1, e', ?_, by simpa using h2, h3⟩
            simpa [Nat.add_assoc, Nat.add_comm 1 j] using h1
    have hrun : ∀ es : List MapEntry, (Instr.findKey t (K k) es).run P w = (Instr.findAsking t (K k) es).run P w := by
      intro es
      simp only [Instr.findKey, Sem.run_bind, run_underlying hd, Result.andThen_ok]
      cases es with
      | nil => rfl
      | cons e es => simp only [Instr.findNow, hs]
    rw [hrun]
    rcases hasking es 0 hes with h | ⟨j, e, h1, h2, h3⟩
    · exact .inl h
    · exact .inr ⟨j, e, by simpa using h1, h2, h3⟩
  stays w k := by simp only [Instr.keyThatStays, hst, if_true, Sem.run_pure]

/-! ### what is not wanted is let go -/
def PH.le (a b : PH) : Prop := ∀ x o, a x = some o → b x = some o
def entd (L L' : List Asn) : Prop := ∀ p, sep L p → ∃ p', PH.le p' p ∧ sep L' p'
theorem entd.refl (L : List Asn) : entd L L := fun p h => ⟨p, fun _ _ h => h, h⟩
theorem entd.trans {L L' L'' : List Asn} (h : entd L L') (h' : entd L' L'') : entd L L'' := fun p hp => by
  obtain ⟨q, h1, h2⟩ := h p hp
  obtain ⟨r, h3, h4⟩ := h' q h2
  exact ⟨r, fun x o hx => h1 x o (h3 x o hx), h4⟩
theorem ent.d {L L' : List Asn} (h : ent L L') : entd L L' := fun p hp => ⟨p, fun _ _ h => h, h p hp⟩
theorem entd.drop (x : Asn) (L : List Asn) : entd (x :: L) L := by
  rintro p ⟨h1, h2, hd, rfl, ha, hl⟩
  refine ⟨h2, fun y o hy => ?_, hl⟩
  rcases hd y with h | h
  · simp [PH.join, h, hy]
  · rw [h] at hy; cases hy
theorem entd.cons (x : Asn) {L L' : List Asn} (h : entd L L') : entd (x :: L) (x :: L') := by
  rintro p ⟨h1, h2, hd, rfl, ha, hl⟩
  obtain ⟨q, hq, hs⟩ := h h2 hl
  refine ⟨PH.join h1 q, fun y o hy => ?_, h1, q, fun y => ?_, rfl, ha, hs⟩
  · simp only [PH.join] at hy ⊢
    cases h1y : h1 y with
    | some u => rw [h1y] at hy; simpa using hy
    | none => rw [h1y] at hy; simp only [Option.none_or] at hy ⊢; exact hq y o hy
  · rcases hd y with h | h
    · exact .inl h
    · cases hqy : q y with
      | none => exact .inr rfl
      | some u => rw [hq y u hqy] at h; cases h
theorem St.entd {L L' : List Asn} (h : St W0 L W) (he : Eng.entd L L') : St W0 L' W := by
  obtain ⟨hb, p, hs, ho⟩ := h
  obtain ⟨q, hq, hs'⟩ := he p hs
  exact ⟨hb, q, hs', fun b o hbo => ho b o (hq b o hbo)⟩
class Pk (x : Asn) (L : List Asn) (L' : outParam (List Asn)) : Prop where
  perm : L.Perm (x :: L')
instance (priority := high) Pk.here (x : Asn) (L : List Asn) : Pk x (x :: L) L := ⟨.refl _⟩
instance Pk.there (x y : Asn) (L L' : List Asn) [h : Pk x L L'] : Pk x (y :: L) (y :: L') := ⟨(h.perm.cons y).trans (List.Perm.swap _ _ _)⟩
class Wk (L L' : List Asn) : Prop where
  ok : Eng.entd L L'
instance (priority := high) Wk.refl (L : List Asn) : Wk L L := ⟨entd.refl L⟩
instance (priority := 900) Wk.pick (x : Asn) (L L1 L' : List Asn) [h : Pk x L L1] [h' : Wk L1 L'] : Wk L (x :: L') := ⟨(ent.perm h.perm).d.trans (h'.ok.cons x)⟩
instance (priority := low) Wk.drop (x : Asn) (L L' : List Asn) [h : Wk L L'] : Wk (x :: L) L' := ⟨(entd.drop x L).trans h.ok⟩
instance (priority := 950) Wk.nil (L : List Asn) : Wk L [] := ⟨fun p _ => ⟨fun _ => none, ⟨fun _ _ h => (nomatch h), fun _ => rfl⟩⟩⟩
/-- the chunks that are wanted, in the order that is wanted -/
theorem St.wk {L L' : List Asn} (h : St W0 L W) [hw : Wk L L'] : St W0 L' W := h.entd hw.ok
end

/-! ### seven of a kind -/
structure P7 (α : Type) where
  x0 : α
  x1 : α
  x2 : α
  x3 : α
  x4 : α
  x5 : α
  x6 : α
  deriving DecidableEq
namespace P7
variable {α β γ : Type}
abbrev of (f : Nat → α) : P7 α := ⟨f 0, f 1, f 2, f 3, f 4, f 5, f 6⟩
@[reducible] def get (p : P7 α) : Nat → α
  | 0 => p.x0
  | 1 => p.x1
  | 2 => p.x2
  | 3 => p.x3
  | 4 => p.x4
  | 5 => p.x5
  | _ => p.x6
def map (f : α → β) (p : P7 α) : P7 β := ⟨f p.x0, f p.x1, f p.x2, f p.x3, f p.x4, f p.x5, f p.x6⟩
def zip (f : α → β → γ) (p : P7 α) (q : P7 β) : P7 γ := ⟨f p.x0 q.x0, f p.x1 q.x1, f p.x2 q.x2, f p.x3 q.x3, f p.x4 q.x4, f p.x5 q.x5, f p.x6 q.x6⟩
def list (p : P7 α) : List α := [p.x0, p.x1, p.x2, p.x3, p.x4, p.x5, p.x6]
abbrev set (p : P7 α) (i : Nat) (x : α) : P7 α := of fun j => if j = i then x else p.get j
abbrev all (a : α) : P7 α := ⟨a, a, a, a, a, a, a⟩
theorem cases7 {i : Nat} (h : i < 7) : i = 0 ∨ i = 1 ∨ i = 2 ∨ i = 3 ∨ i = 4 ∨ i = 5 ∨ i = 6 := by omega
theorem get_of (f : Nat → α) {i : Nat} (h : i < 7) : (of f).get i = f i := by rcases cases7 h with rfl | rfl | rfl | rfl | rfl | rfl | rfl <;> rfl
theorem of_get (p : P7 α) : of p.get = p := rfl
theorem ext7 {p q : P7 α} (h : ∀ i, i < 7 → p.get i = q.get i) : p = q := by
  rw [← of_get p, ← of_get q]
  simp only [of, h 0 (by omega), h 1 (by omega), h 2 (by omega), h 3 (by omega), h 4 (by omega), h 5 (by omega), h 6 (by omega)]
theorem get_map (f : α → β) (p : P7 α) (i : Nat) : (p.map f).get i = f (p.get i) := by
  unfold get; split <;> rfl
theorem get_zip (f : α → β → γ) (p : P7 α) (q : P7 β) (i : Nat) : (p.zip f q).get i = f (p.get i) (q.get i) := by
  unfold get; split <;> rfl
theorem get_set (p : P7 α) (i j : Nat) (x : α) (hj : j < 7) : (p.set i x).get j = if j = i then x else p.get j := by rw [set, get_of _ hj]
theorem get_all (a : α) (i : Nat) : (all a).get i = a := by unfold get; split <;> rfl
theorem map_set (f : α → β) (p : P7 α) (i : Nat) (x : α) : (p.set i x).map f = (p.map f).set i (f x) := by
  refine ext7 fun j hj => ?_
  rw [get_map, get_set _ _ _ _ hj, get_set _ _ _ _ hj, get_map]
  split <;> rfl
theorem list_len (p : P7 α) : p.list.length = 7 := rfl
theorem list_get (p : P7 α) {i : Nat} (h : i < 7) : p.list[i]? = some (p.get i) := by rcases cases7 h with rfl | rfl | rfl | rfl | rfl | rfl | rfl <;> rfl
theorem map_map (f : α → β) (g : β → γ) (p : P7 α) : (p.map f).map g = p.map (fun x => g (f x)) := rfl
end P7
end Go.Eng
