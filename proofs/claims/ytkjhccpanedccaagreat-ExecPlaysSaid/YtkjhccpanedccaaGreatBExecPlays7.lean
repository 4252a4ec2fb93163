/- Texts of the claim ExecPlays, joined: CExe2, LOrd0, CExe3, PLine3, LOrd, LOrd2, Opn, Opn2, Lz, ShSD, SDots, Sl6, ShAw23, LExeA, LExe2, OAct, P18, LOrd5p, P19. -/
import Derived.Test.YtkjhccpanedccaaGreatBExecPlays6
import Derived.Test.YtkjhccpanedccaaGreatBExecPlays5
import Derived.Test.YtkjhccpanedccaaGreatBExecPlays2
import Derived.Deep.Slices
import Derived.OpenShut
import Derived.ShutString
import Derived.ChangeOld
import Derived.Carry
import Derived.Test.YtkjhccpanedccaaGreatBExecPlays1
import Derived.Test.YtkjhccpanedccaaGreatBExecPlays3
namespace Go.Proofs.YtkjhccpanedccaaGreat
set_option linter.unusedVariables false
set_option linter.unusedSimpArgs false
open Go Go.Eng Go.Tar Go.Sort
def XS.mark (s : XS) (d : Dot) : XS := if (s.find d).isSome && !decide (d ∈ s.done) then ⟨s.have_, s.cs, s.done ++ [d]⟩ else s
section
variable {W0 W : World} {L L' : List Asn} {p : Nat} {s : XS}
theorem exo_ok (h : St W0 (exo p s :: L) W) : ∃ (ys : List CmdX) (r1 r2 : Nat) (m : List (Dot × Value)) (la : Option Addr) (lc : Nat) (da : Option Addr) (dc : Nat), ys.map CmdX.er = s.cs ∧ (∀ d, (mget m d).getD (.bool false) = .bool (decide (d ∈ s.done))) ∧
  St W0 (cells p [.int .i64 s.have_.x0, .int .i64 s.have_.x1, .int .i64 s.have_.x2, .int .i64 s.have_.x3, .int .i64 s.have_.x4, .int .i64 s.have_.x5, .int .i64 s.have_.x6, .map (some r1), .slice la s.cs.length lc, .map (some r2), .slice da s.done.length dc] T_exec_Exec :: mp KD r1 (kv ys) :: mp KD r2 m :: arr INS T_order_Inst la lc s.ins :: arr DOT T_api_Dot da dc s.done :: many fch (ys.map (·.b)) :: L) W ∧
  (∀ (s' : XS) W', s'.cs = s.cs → s'.done = s.done → St W0 (cells p [.int .i64 s'.have_.x0, .int .i64 s'.have_.x1, .int .i64 s'.have_.x2, .int .i64 s'.have_.x3, .int .i64 s'.have_.x4, .int .i64 s'.have_.x5, .int .i64 s'.have_.x6, .map (some r1), .slice la s.cs.length lc, .map (some r2), .slice da s.done.length dc] T_exec_Exec :: mp KD r1 (kv ys) :: mp KD r2 m :: arr INS T_order_Inst la lc s.ins :: arr DOT T_api_Dot da dc s.done :: many fch (ys.map (·.b)) :: L) W' → St W0 (exo p s' :: L) W') := by
 obtain ⟨⟨ys, r1, r2, m, la, lc, da, dc⟩, ⟨hy, hm⟩, h⟩ := exo_at h
 refine ⟨ys, r1, r2, m, la, lc, da, dc, hy, hm, h, fun s' W' hc hd h => ?_⟩
 obtain ⟨v, cs, done⟩ := s
 obtain ⟨v', cs', done'⟩ := s'
 simp only at hc hd
 subst hc hd
 exact exo_of (p := p) (L := L) (s := ⟨v', cs', done'⟩) ⟨ys, r1, r2, m, la, lc, da, dc⟩ ⟨hy, hm⟩ h
set_option maxRecDepth 100000 in
set_option maxHeartbeats 8000000 in
theorem execMark {d : Dot} {k : Value → World → Prop} (h : St W0 (exo p s :: L) W) (hl : s.done.length < 1000000)
  (hk : ∀ v W', St W0 (exo p (s.mark d) :: L) W' → k (.bool v) W') : callK PR F_exec_Exec_Mark [.pointer (some ⟨p, 0, none⟩), .agg #[.int .i64 d.rep, .int .i64 d.n]] k W := by
 apply S.exec_Exec_Mark.call
 unfold S.exec_Exec_Mark.body
 refine bxa h fun db W1 h => ?_
 have h : St W0 (cells db [.int .i64 d.rep, .int .i64 d.n] T_api_Dot :: exo p s :: L) W1 := h
 obtain ⟨ys, r1, r2, m, la, lc, da, dc, hy, hm, h, fin⟩ := exo_ok (St.wk (L' := exo p s :: cells db [.int .i64 d.rep, .int .i64 d.n] T_api_Dot :: L) h)
 have hgk := kv_get ys d
 have hmd := hm d
 unfold XS.mark at hk
 rw [find_er hy] at hk
 have fin0 : ∀ W', St W0 (cells p [.int .i64 s.have_.x0, .int .i64 s.have_.x1, .int .i64 s.have_.x2, .int .i64 s.have_.x3, .int .i64 s.have_.x4, .int .i64 s.have_.x5, .int .i64 s.have_.x6, .map (some r1), .slice la s.cs.length lc, .map (some r2), .slice da s.done.length dc] T_exec_Exec :: mp KD r1 (kv ys) :: mp KD r2 m :: arr INS T_order_Inst la lc s.ins :: arr DOT T_api_Dot da dc s.done :: many fch (ys.map (·.b)) :: cells db [.int .i64 d.rep, .int .i64 d.n] T_api_Dot :: L) W' → St W0 (exo p s :: L) W' := fun W' h =>
  St.wk (fin s W' rfl rfl h)
 (repeat (first | ((with_reducible refine v5 ?_); refine ⟨_, rfl, ?_⟩) | simp -implicitDefEqProofs only [SE, SU, SV]))
 refine lkpOk (K := KD) (z := cmd0) d (by first | assumption | exact St.tick (by assumption) | exact St.tick (St.tick (by assumption))) ?_
 cases hf : ys.find? (fun y => decide (y.i.d = d)) with
 | none =>
  rw [hf] at hgk hk
  rw [if_neg (by simp)] at hk
  rw [Option.map_none] at hgk
  rw [hgk]
  simp only [Option.getD_none, Option.isSome_none]
  (repeat (first | ((with_reducible refine w11 ?_); intros) | simp -implicitDefEqProofs only [SE, SU, SV]))
  refine stb_kv (ys := ys) (d := d) (by first | assumption | exact St.tick (by assumption) | exact St.tick (St.tick (by assumption))) (by rw [hgk]; rfl) ?_
  (repeat (first | ((with_reducible refine stb_n ?_); intros) | ((with_reducible first | refine v8 ?_ ?_ | refine v12 ?_ ?_); exact rfl; intros) | ((with_reducible refine w12 ?_ ?_ ?_ ?_); simp; simp; simp [oneC]; intros)))
  exact hk _ _ (fin0 _ (St.wk (by first | assumption | exact St.tick (by assumption) | exact St.tick (St.tick (by assumption)))))
 | some y =>
  rw [hf] at hgk hk
  simp only [Option.map_some, Option.isSome_some, Bool.true_and] at hk
  rw [Option.map_some] at hgk
  rw [hgk]
  simp only [Option.getD_some, Option.isSome_some]
  (repeat (first | ((with_reducible refine w11 ?_); intros) | simp -implicitDefEqProofs only [SE, SU, SV]))
  refine stb_kv (ys := ys) (d := d) (by first | assumption | exact St.tick (by assumption) | exact St.tick (St.tick (by assumption))) (by rw [hgk]; rfl) ?_
  (repeat (first | ((with_reducible refine stb_n ?_); intros) | ((with_reducible refine v5 ?_); refine ⟨_, rfl, ?_⟩) | ((with_reducible first | refine v8 ?_ ?_ | refine v12 ?_ ?_); exact rfl; intros) | ((with_reducible refine w12 ?_ ?_ ?_ ?_); simp; simp; simp [oneC]; intros) | simp -implicitDefEqProofs only [SE, SU, SV]))
  refine lkp (K := KD) (z := .bool false) d (by first | assumption | exact St.tick (by assumption) | exact St.tick (St.tick (by assumption))) ?_
  rw [hmd]
  by_cases hin : d ∈ s.done
  ·rw [decide_eq_true hin] at hk ⊢
   simp only [Bool.not_true, Bool.false_eq_true, if_false] at hk
   (repeat simp -implicitDefEqProofs only [SE, SU, SV])
   exact hk _ _ (fin0 _ (St.wk (by first | assumption | exact St.tick (by assumption) | exact St.tick (St.tick (by assumption)))))
  ·rw [decide_eq_false hin] at hk ⊢
   simp only [Bool.not_false, if_true] at hk
   (repeat (first | ((with_reducible refine v5 ?_); refine ⟨_, rfl, ?_⟩) | simp -implicitDefEqProofs only [SE, SU, SV]))
   refine mset (K := KD) d (by first | assumption | exact St.tick (by assumption) | exact St.tick (St.tick (by assumption))) fun W10 h => ?_
   (repeat (first | ((with_reducible refine v5 ?_); refine ⟨_, rfl, ?_⟩) | simp -implicitDefEqProofs only [SE, SU, SV]))
   refine bsA DOT [d] (n := 1) (by first | assumption | exact St.tick (by assumption) | exact St.tick (St.tick (by assumption))) rfl rfl (by decide) (by decide) rfl fun a5 c5 W11 h => ?_
   (repeat (first | ((with_reducible refine stb_n ?_); intros) | ((with_reducible refine v8 ?_ ?_); exact rfl; intros)))
   refine appA (A := DOT) (a := da) (l := s.done) (m := [d]) (by first | assumption | exact St.tick (by assumption) | exact St.tick (St.tick (by assumption))) rfl (by simp only [List.length_cons, List.length_nil]; omega) (by simp only [List.length_cons, List.length_nil, maxLen]; omega) fun a6 c6 W12 h => ?_
   (repeat ((with_reducible refine v12 ?_ ?_); exact rfl; intros))
   rename_i W13 h
   (try simp only [BLS, SB, stL_a, stL_b, stL_c, List.append_nil, List.take_nil, List.drop_nil, Nat.reduceAdd] at h)
   refine hk _ _ ?_
   refine exo_of (p := p) (L := L) (s := ⟨s.have_, s.cs, s.done ++ [d]⟩) ⟨ys, r1, r2, mput m d (.bool true), la, lc, a6, c6⟩ ⟨hy, fun e => ?_⟩ ?_
   ·show (mget (mput m d (.bool true)) e).getD (.bool false) = .bool (decide (e ∈ s.done ++ [d]))
    rw [mget_mput]
    by_cases he : d = e
    ·rw [if_pos he]; subst he; simp
    ·rw [if_neg he, hm e]
     have : e ∈ s.done ++ [d] ↔ e ∈ s.done := by
      rw [List.mem_append, List.mem_singleton]
      exact ⟨fun h => h.resolve_right fun h => he h.symm, .inl⟩
     rw [decide_eq_decide.2 this]
   ·exact St.wk h
theorem dotClone {a : Option Addr} {l : List Dot} {c : Nat} {k : Value → World → Prop} (h : St W0 L W) [hr : Rd W0 L a DOT l] (hl : l.length < 1000000)
  (hk : ∀ a' c' W', St W0 (arr DOT T_api_Dot a' c' l :: L) W' → k (.slice a' l.length c') W') : callK PR F_slices_Clone_api_Dot_api_Dot [.slice a l.length c] k W := by
 apply S.slices_Clone_api_Dot_api_Dot.call
 unfold S.slices_Clone_api_Dot_api_Dot.body
 cases a with
 | none =>
  have hl0 : l = [] := by
   rcases Classical.em (l = []) with h0 | h0
   ·exact h0
   ·obtain ⟨g, o, h1, _⟩ := Rd.at (A := DOT) (l := l) (a := none) h h0
    cases h1
  subst hl0
  simp -implicitDefEqProofs only [SE, SU, SV]
  exact hk none 0 W (h.ent (arr_nil _ _))
 | some ad =>
  simp -implicitDefEqProofs only [SE, SU, SV]
  refine bs0 DOT h fun a1 c1 W1 h1 => ?_
  refine appA (a := a1) (l := []) (m := l) h1 rfl (by simp; omega) (by simp [maxLen]; omega) fun a2 c2 W2 h2 => ?_
  exact hk a2 c2 W2 h2
theorem execDone {k : Value → World → Prop} (h : St W0 (exo p s :: L) W) (hl : s.done.length < 1000000)
  (hk : ∀ a c W', St W0 (arr DOT T_api_Dot a c s.done :: exo p s :: L) W' → k (.slice a s.done.length c) W') : callK PR F_exec_Exec_Done [.pointer (some ⟨p, 0, none⟩)] k W := by
 apply S.exec_Exec_Done.call
 unfold S.exec_Exec_Done.body
 obtain ⟨ys, r1, r2, m, la, lc, da, dc, hy, hm, h, fin⟩ := exo_ok h
 (repeat (first | ((with_reducible refine v5 ?_); refine ⟨_, rfl, ?_⟩) | simp -implicitDefEqProofs only [SE, SU, SV]))
 refine dotClone (a := da) (l := s.done) h hl fun a c W1 h => ?_
 skip
 have h2 : St W0 (cells p [.int .i64 s.have_.x0, .int .i64 s.have_.x1, .int .i64 s.have_.x2, .int .i64 s.have_.x3, .int .i64 s.have_.x4, .int .i64 s.have_.x5, .int .i64 s.have_.x6, .map (some r1), .slice la s.cs.length lc, .map (some r2), .slice da s.done.length dc] T_exec_Exec :: mp KD r1 (kv ys) :: mp KD r2 m :: arr INS T_order_Inst la lc s.ins :: arr DOT T_api_Dot da dc s.done :: many fch (ys.map (·.b)) :: arr DOT T_api_Dot a c s.done :: L) W1 := St.wk h
 refine hk a c _ ?_
 have h3 := exo_of (p := p) (L := arr DOT T_api_Dot a c s.done :: L) (s := s) ⟨ys, r1, r2, m, la, lc, da, dc⟩ ⟨hy, hm⟩ h2
 exact St.wk h3
theorem execWaits {k : Value → World → Prop} (h : St W0 (exo p s :: L) W) (hl : s.done.length < 1000000) (hl2 : s.cs.length < 1000000)
  (hk : ∀ W', St W0 (exo p s :: L) W' → k (.int .i64 ((s.cs.length : Int) - s.done.length)) W') : callK PR F_exec_Exec_Waits [.pointer (some ⟨p, 0, none⟩)] k W := by
 apply S.exec_Exec_Waits.call
 unfold S.exec_Exec_Waits.body
 obtain ⟨ys, r1, r2, m, la, lc, da, dc, hy, hm, h, fin⟩ := exo_ok h
 have ew : IntKind.i64.wrap ((s.cs.length : Int) - s.done.length) = (s.cs.length : Int) - s.done.length := by rw [i64w]; omega
 (repeat (first | ((with_reducible refine v5 ?_); refine ⟨_, rfl, ?_⟩) | simp -implicitDefEqProofs only [SE, SU, SV, ew]))
 exact hk _ (fin s _ rfl rfl (by first | assumption | exact St.tick (by assumption) | exact St.tick (St.tick (by assumption))))
theorem bytesNil {c : Nat} {k : Value → World → Prop} (h : St W0 L W) (hk : ∀ a' c' W', St W0 (arr B8 T_uint8 a' c' [] :: L) W' → k (.slice a' 0 c') W') : callK PR F_bytes_Clone [.slice none 0 c] k W := by
 haveI : Rd W0 L none B8 [] := Rd.nil _ _ _ _
 exact bytesClone (l := []) h (by decide) hk
def XS.bodyOf (s : XS) (d : Dot) : List UInt8 := match s.find d with
 | some c => c.bs
 | none => []
set_option maxRecDepth 100000 in
set_option maxHeartbeats 8000000 in
theorem execBody {d : Dot} {k : Value → World → Prop} (h : St W0 (exo p s :: L) W) (hl : ∀ c ∈ s.cs, c.bs.length ≤ 65536)
  (hk : ∀ a c W', St W0 (arr B8 T_uint8 a c (s.bodyOf d) :: exo p s :: L) W' → k (.tuple #[.slice a (s.bodyOf d).length c, .bool (s.find d).isSome]) W') :
  callK PR F_exec_Exec_Body [.pointer (some ⟨p, 0, none⟩), .agg #[.int .i64 d.rep, .int .i64 d.n]] k W := by
 apply S.exec_Exec_Body.call
 unfold S.exec_Exec_Body.body
 refine bxa h fun db W1 h => ?_
 have h : St W0 (cells db [.int .i64 d.rep, .int .i64 d.n] T_api_Dot :: exo p s :: L) W1 := h
 obtain ⟨ys, r1, r2, m, la, lc, da, dc, hy, hm, h, fin⟩ := exo_ok (St.wk (L' := exo p s :: cells db [.int .i64 d.rep, .int .i64 d.n] T_api_Dot :: L) h)
 have hgk := kv_get ys d
 unfold XS.bodyOf at hk
 rw [find_er hy] at hk
 have fin0 : ∀ a c (bs : List UInt8) W', St W0 (cells p [.int .i64 s.have_.x0, .int .i64 s.have_.x1, .int .i64 s.have_.x2, .int .i64 s.have_.x3, .int .i64 s.have_.x4, .int .i64 s.have_.x5, .int .i64 s.have_.x6, .map (some r1), .slice la s.cs.length lc, .map (some r2), .slice da s.done.length dc] T_exec_Exec :: mp KD r1 (kv ys) :: mp KD r2 m :: arr INS T_order_Inst la lc s.ins :: arr DOT T_api_Dot da dc s.done :: many fch (ys.map (·.b)) :: arr B8 T_uint8 a c bs :: L) W' → St W0 (arr B8 T_uint8 a c bs :: exo p s :: L) W' := fun a c bs W' h =>
  St.wk (exo_of (p := p) (L := arr B8 T_uint8 a c bs :: L) (s := s) ⟨ys, r1, r2, m, la, lc, da, dc⟩ ⟨hy, hm⟩ h)
 (repeat (first | ((with_reducible refine v5 ?_); refine ⟨_, rfl, ?_⟩) | simp -implicitDefEqProofs only [SE, SU, SV]))
 refine lkpOk (K := KD) (z := cmd0) d (by first | assumption | exact St.tick (by assumption) | exact St.tick (St.tick (by assumption))) ?_
 cases hf : ys.find? (fun y => decide (y.i.d = d)) with
 | none =>
  rw [hf] at hgk hk
  rw [Option.map_none] at hgk
  rw [hgk]
  simp only [Option.getD_none, Option.isSome_none, Option.map_none] at hk ⊢
  (repeat (first | ((with_reducible refine w11 ?_); intros) | simp -implicitDefEqProofs only [SE, SU, SV]))
  refine stb_kv (ys := ys) (d := d) (by first | assumption | exact St.tick (by assumption) | exact St.tick (St.tick (by assumption))) (by rw [hgk]; rfl) ?_
  (repeat (first | ((with_reducible refine stb_n ?_); intros) | ((with_reducible refine v5 ?_); refine ⟨_, rfl, ?_⟩) | ((with_reducible first | refine v8 ?_ ?_ | refine v12 ?_ ?_); exact rfl; intros) | ((with_reducible refine w5 ?_ ?_); simp; refine ⟨_, rfl, ?_⟩) | ((with_reducible refine w12 ?_ ?_ ?_ ?_); simp; simp; simp [oneC]; intros)))
  refine bytesNil (by first | assumption | exact St.tick (by assumption) | exact St.tick (St.tick (by assumption))) fun a9 c9 W9 h => ?_
  skip
  exact hk a9 c9 _ (fin0 _ _ _ _ (St.wk (by first | assumption | exact St.tick (by assumption) | exact St.tick (St.tick (by assumption)))))
 | some y =>
  rw [hf] at hgk hk
  rw [Option.map_some] at hgk
  rw [hgk]
  have hym : y ∈ ys := List.mem_of_find?_eq_some hf
  have hyb : y.b.bs.length ≤ 65536 := hl y.er (by rw [← hy]; exact List.mem_map_of_mem hym)
  have hinb : InB y.b (ys.map (·.b)) := .inr (List.mem_map_of_mem hym)
  simp only [Option.getD_some, Option.isSome_some, Option.map_some] at hk ⊢
  (repeat (first | ((with_reducible refine w11 ?_); intros) | simp -implicitDefEqProofs only [SE, SU, SV]))
  refine stb_kv (ys := ys) (d := d) (by first | assumption | exact St.tick (by assumption) | exact St.tick (St.tick (by assumption))) (by rw [hgk]; rfl) ?_
  (repeat (first | ((with_reducible refine stb_n ?_); intros) | ((with_reducible refine v5 ?_); refine ⟨_, rfl, ?_⟩) | ((with_reducible first | refine v8 ?_ ?_ | refine v12 ?_ ?_); exact rfl; intros) | ((with_reducible refine w5 ?_ ?_); simp; refine ⟨_, rfl, ?_⟩) | ((with_reducible refine w12 ?_ ?_ ?_ ?_); simp; simp; simp [oneC]; intros)))
  rename_i h
  have h := St.wk (L' := many fch (ys.map (·.b)) :: cells p [.int .i64 s.have_.x0, .int .i64 s.have_.x1, .int .i64 s.have_.x2, .int .i64 s.have_.x3, .int .i64 s.have_.x4, .int .i64 s.have_.x5, .int .i64 s.have_.x6, .map (some r1), .slice la s.cs.length lc, .map (some r2), .slice da s.done.length dc] T_exec_Exec :: mp KD r1 (kv ys) :: mp KD r2 m :: arr INS T_order_Inst la lc s.ins :: arr DOT T_api_Dot da dc s.done :: L) h
  haveI hrd := rdMany (W0 := W0) (L := cells p [.int .i64 s.have_.x0, .int .i64 s.have_.x1, .int .i64 s.have_.x2, .int .i64 s.have_.x3, .int .i64 s.have_.x4, .int .i64 s.have_.x5, .int .i64 s.have_.x6, .map (some r1), .slice la s.cs.length lc, .map (some r2), .slice da s.done.length dc] T_exec_Exec :: mp KD r1 (kv ys) :: mp KD r2 m :: arr INS T_order_Inst la lc s.ins :: arr DOT T_api_Dot da dc s.done :: L) hinb
  refine bytesClone (a := y.b.a) (l := y.b.bs) h (by omega) fun a9 c9 W9 h => ?_
  skip
  exact hk a9 c9 _ (fin0 a9 c9 y.b.bs _ (St.wk (by first | assumption | exact St.tick (by assumption) | exact St.tick (St.tick (by assumption)))))
end
end Go.Proofs.YtkjhccpanedccaaGreat
namespace Go.Proofs.YtkjhccpanedccaaGreat
set_option linter.unusedVariables false
set_option linter.unusedSimpArgs false
open Go Go.Eng Go.Tar Go.Sort
section
variable {W0 W : World} {L L' : List Asn}
theorem ordLine0 {a : Option Addr} {c : Nat} {l : List Ins} (done : P7 Int) (h00 : W0.drawn = 0) (h : St W0 L W) [hr : Rd W0 L a INS l] (hl : l.length < 1000000) {k : Value → World → Prop}
  (hk : ∀ a' c' W', St W0 (arr DOT T_api_Dot a' c' (lineTop done [] l) :: L) W' → k (.slice a' (lineTop done [] l).length c') W') : callK PR F_order_Line [.slice a l.length c, .agg #[.int .i64 done.x0, .int .i64 done.x1, .int .i64 done.x2, .int .i64 done.x3, .int .i64 done.x4, .int .i64 done.x5, .int .i64 done.x6], .slice none 0 0] k W := by
 haveI : Rd W0 L none DOT [] := Rd.nil _ _ _ _
 exact ordLine (a2 := none) (c2 := 0) (also := []) (done := done) h00 h hl (by decide) hk
end
end Go.Proofs.YtkjhccpanedccaaGreat
namespace Go.Proofs.YtkjhccpanedccaaGreat
set_option linter.unusedVariables false
set_option linter.unusedSimpArgs false
open Go Go.Eng Go.Tar Go.Sort
def XS.waitOf (s : XS) (d : Dot) : P7 Int := match s.find d with
 | some c => c.w
 | none => P7.all 0
def nowF (s : XS) : List Dot → List Dot
 | [] => []
 | d :: ds => if d ∈ s.done then nowF s ds else if leV (s.waitOf d) s.have_ = true then d :: nowF s ds else []
def XS.merge (s : XS) (v : P7 Int) : XS := if goodV v = true then ⟨vmerge s.have_ v, s.cs, s.done⟩ else s
noncomputable def XS.now (s : XS) : List Dot := nowF s (lineTop (P7.all 0) [] s.ins)
noncomputable def XS.haves (s : XS) (v : P7 Int) : XS × List Dot := ((s.merge v).now.foldl XS.mark (s.merge v), (s.merge v).now)
theorem nowF_cons (s : XS) (d : Dot) (ds : List Dot) : nowF s (d :: ds) = if d ∈ s.done then nowF s ds else if leV (s.waitOf d) s.have_ = true then d :: nowF s ds else [] := rfl
theorem leV_eta {a b : P7 Int} {x : Bool} (h : leV a b = x) : leV ⟨a.x0, a.x1, a.x2, a.x3, a.x4, a.x5, a.x6⟩ ⟨b.x0, b.x1, b.x2, b.x3, b.x4, b.x5, b.x6⟩ = x := h
theorem goodV_eta {a : P7 Int} {x : Bool} (h : goodV a = x) : goodV ⟨a.x0, a.x1, a.x2, a.x3, a.x4, a.x5, a.x6⟩ = x := h
theorem nowF_len (s : XS) : ∀ l : List Dot, (nowF s l).length ≤ l.length
 | [] => Nat.le_refl _
 | d :: l => by
  have := nowF_len s l
  unfold nowF
  split
  ·simp only [List.length_cons]; omega
  ·split
   ·simp only [List.length_cons]; omega
   ·simp
theorem mark_len (s : XS) (d : Dot) : (s.mark d).done.length ≤ s.done.length + 1 := by
 unfold XS.mark
 split
 ·simp
 ·omega
theorem mark_cs (s : XS) (d : Dot) : (s.mark d).cs = s.cs ∧ (s.mark d).have_ = s.have_ := by unfold XS.mark; split <;> exact ⟨rfl, rfl⟩
section
variable {W0 W : World} {L L' : List Asn} {p : Nat} {s : XS}
set_option maxRecDepth 100000 in
set_option maxHeartbeats 8000000 in
theorem execHave (h00 : W0.drawn = 0) {v : P7 Int} {k : Value → World → Prop} (h : St W0 (exo p s :: L) W) (hc : s.cs.length ≤ 1000) (hd : s.done.length ≤ 100000)
  (hlen : ∀ l : List Ins, (lineTop (P7.all 0) [] l).length ≤ l.length)
  (hk : ∀ a c W', St W0 (arr DOT T_api_Dot a c (s.haves v).2 :: exo p (s.haves v).1 :: L) W' → k (.slice a (s.haves v).2.length c) W') : callK PR F_exec_Exec_Have [.pointer (some ⟨p, 0, none⟩), .agg #[.int .i64 v.x0, .int .i64 v.x1, .int .i64 v.x2, .int .i64 v.x3, .int .i64 v.x4, .int .i64 v.x5, .int .i64 v.x6]] k W := by
 apply S.exec_Exec_Have.call
 unfold S.exec_Exec_Have.body
 refine bxa h fun vb W1 h => ?_
 have h : St W0 (cells vb [.int .i64 v.x0, .int .i64 v.x1, .int .i64 v.x2, .int .i64 v.x3, .int .i64 v.x4, .int .i64 v.x5, .int .i64 v.x6] T_vec_Vec :: exo p s :: L) W1 := h
 have hcs : (s.merge v).cs = s.cs := by unfold XS.merge; split <;> rfl
 have hdn : (s.merge v).done = s.done := by unfold XS.merge; split <;> rfl
 have hgv : goodV ⟨v.x0, v.x1, v.x2, v.x3, v.x4, v.x5, v.x6⟩ = goodV v := rfl
 have key : ∀ W', St W0 (exo p (s.merge v) :: L) W' → S.exec_Exec_Have.j1 k (.pointer (some ⟨p, 0, none⟩)) W' := by
  clear h
  intro W h
  unfold XS.haves at hk
  rw [← hcs] at hc
  rw [← hdn] at hd
  generalize s.merge v = s at *
  unfold S.exec_Exec_Have.j1
  refine joinK_i ?_
  obtain ⟨ys, r1, r2, m, la, lc, da, dc, hy, hm, h, fin⟩ := exo_ok h
  have hins : s.ins.length = s.cs.length := List.length_map _
  (repeat (first | ((with_reducible refine v5 ?_); refine ⟨_, rfl, ?_⟩) | simp -implicitDefEqProofs only [SE, SU, SV]))
  rw [← hins]
  refine ordLine0 (l := s.ins) (a := la) (P7.all 0) h00 (by first | assumption | exact St.tick (by assumption) | exact St.tick (St.tick (by assumption))) (by omega) fun al cl W2 h => ?_
  have hnl := nowF_len s (lineTop (P7.all 0) [] s.ins)
  have hll := hlen s.ins
  unfold XS.now at hk
  generalize hline : lineTop (P7.all 0) [] s.ins = line at *
  rw [hins] at hll
  (repeat simp -implicitDefEqProofs only [SE, SU, SV])
  have h := St.wk (L' := arr DOT T_api_Dot al cl line :: cells p [.int .i64 s.have_.x0, .int .i64 s.have_.x1, .int .i64 s.have_.x2, .int .i64 s.have_.x3, .int .i64 s.have_.x4, .int .i64 s.have_.x5, .int .i64 s.have_.x6, .map (some r1), .slice la s.cs.length lc, .map (some r2), .slice da s.done.length dc] T_exec_Exec :: mp KD r1 (kv ys) :: mp KD r2 m :: arr INS T_order_Inst la lc s.ins :: arr DOT T_api_Dot da dc s.done :: many fch (ys.map (·.b)) :: L) h
  have h := h.ent (arr_nil DOT T_api_Dot)
  have hJ2 : ∀ (a : Option Addr) (c : Nat) W', St W0 (arr DOT T_api_Dot a c (nowF s line) :: exo p s :: L) W' → S.exec_Exec_Have.j2 k (.pointer (some ⟨p, 0, none⟩)) (.slice a (nowF s line).length c) W' := by
   clear h
   intro a c W h
   unfold S.exec_Exec_Have.j2
   refine joinK_i ?_
   generalize nowF s line = now at *
   (repeat simp -implicitDefEqProofs only [SE, SU, SV])
   refine loop_c (σ := Unit) now.length (fun i _ => [.pointer (some ⟨p, 0, none⟩), .slice a now.length c, .slice a now.length c, .int .i64 now.length, .int .i64 (i : Int)])
    (fun i _ W1 => ((now.take i).foldl XS.mark s).done.length ≤ s.done.length + i ∧ St W0 (exo p ((now.take i).foldl XS.mark s) :: arr DOT T_api_Dot a c now :: L) W1) () rfl ⟨by simp, St.wk (L' := exo p s :: arr DOT T_api_Dot a c now :: L) h⟩ ?_
   clear h
   rintro K i _ W3 hi ⟨hdl, h⟩ hK
   simp -implicitDefEqProofs only [SE, SU, SV]
   unfold S.exec_Exec_Have.l1
   by_cases hlt : (i : Int) < (now.length : Int)
   ·have hib : i < now.length := by omega
    have ew : IntKind.i64.wrap ((i : Int) + 1) = ((i + 1 : Nat) : Int) := by rw [i64w]; omega
    have htk : (now.take (i + 1)).foldl XS.mark s = ((now.take i).foldl XS.mark s).mark now[i] := by rw [List.take_succ_eq_append_getElem hib, List.foldl_append]; rfl
    have hml := mark_len ((now.take i).foldl XS.mark s) now[i]
    (repeat simp -implicitDefEqProofs only [SE, SU, SV, hlt])
    refine ixA (i := i) (a := a) (l := now) (A := DOT) (by first | assumption | exact St.tick (by assumption) | exact St.tick (St.tick (by assumption))) rfl rfl hib fun g1 o1 ha => ?_
    cases ha
    refine ldA0 (i := i) (l := now) (A := DOT) (by first | assumption | exact St.tick (by assumption) | exact St.tick (St.tick (by assumption))) rfl hib (getL_val rfl (by decide) _) (by simp [DOT]) ?_
    refine newV (A := DOT) now[i] (by first | assumption | exact St.tick (by assumption) | exact St.tick (St.tick (by assumption))) rfl (by decide) rfl fun vb W11 h => ?_
    refine ldV (A := DOT) now[i] (by first | assumption | exact St.tick (by assumption) | exact St.tick (St.tick (by assumption))) rfl (by decide) ?_
    refine execMark (s := (now.take i).foldl XS.mark s) (d := now[i]) (St.wk (L' := exo p ((now.take i).foldl XS.mark s) :: arr DOT T_api_Dot (some ⟨g1, o1, none⟩) c now :: L) (by first | assumption | exact St.tick (by assumption) | exact St.tick (St.tick (by assumption)))) (by omega) fun v W12 h => ?_
    (repeat simp -implicitDefEqProofs only [SE, SU, SV, ew])
    refine hK () _ hib ⟨?_, ?_⟩
    ·rw [htk]; omega
    ·rw [htk]; exact h
   ·have hil : i = now.length := by omega
    subst hil
    rw [List.take_length] at h
    (repeat simp -implicitDefEqProofs only [SE, SU, SV, hlt])
    unfold S.exec_Exec_Have.j3
    exact hk a c _ (St.wk h)
  refine loop_c (σ := List Dot × Option Addr × Nat) line.length (fun i x => [.pointer (some ⟨p, 0, none⟩), .slice x.2.1 x.1.length x.2.2, .slice al line.length cl, .int .i64 line.length, .int .i64 (i : Int)])
   (fun i x W1 => (nowF s line = x.1 ++ nowF s (line.drop i) ∧ x.1.length ≤ i) ∧ St W0 (arr DOT T_api_Dot x.2.1 x.2.2 x.1 :: arr DOT T_api_Dot al cl line :: cells p [.int .i64 s.have_.x0, .int .i64 s.have_.x1, .int .i64 s.have_.x2, .int .i64 s.have_.x3, .int .i64 s.have_.x4, .int .i64 s.have_.x5, .int .i64 s.have_.x6, .map (some r1), .slice la s.cs.length lc, .map (some r2), .slice da s.done.length dc] T_exec_Exec :: mp KD r1 (kv ys) :: mp KD r2 m :: arr INS T_order_Inst la lc s.ins :: arr DOT T_api_Dot da dc s.done :: many fch (ys.map (·.b)) :: L) W1) ([], none, 0) rfl ⟨⟨rfl, Nat.le_refl _⟩, h⟩ ?_
  clear h
  rintro K i ⟨acc, ax, cx⟩ W3 hi ⟨⟨hacc, hal⟩, h⟩ hK
  simp only at hacc hal h
  simp -implicitDefEqProofs only [SE, SU, SV]
  unfold S.exec_Exec_Have.l2
  by_cases hlt : (i : Int) < (line.length : Int)
  ·have hib : i < line.length := by omega
   have ew : IntKind.i64.wrap ((i : Int) + 1) = ((i + 1 : Nat) : Int) := by rw [i64w]; omega
   rw [List.drop_eq_getElem_cons hib, nowF_cons] at hacc
   have hmd := hm line[i]
   have hgk := kv_get ys line[i]
   have hwo : s.waitOf line[i] = match ys.find? (fun y => decide (y.i.d = line[i])) with | some y => y.w | none => P7.all 0 := by
    unfold XS.waitOf; rw [find_er hy]; cases ys.find? (fun y => decide (y.i.d = line[i])) <;> rfl
   (repeat simp -implicitDefEqProofs only [SE, SU, SV, hlt])
   refine joinK_i ?_
   refine ixA (i := i) (a := al) (l := line) (A := DOT) (by first | assumption | exact St.tick (by assumption) | exact St.tick (St.tick (by assumption))) rfl rfl hib fun g1 o1 ha => ?_
   cases ha
   refine ldA0 (i := i) (l := line) (A := DOT) (by first | assumption | exact St.tick (by assumption) | exact St.tick (St.tick (by assumption))) rfl hib (getL_val rfl (by decide) _) (by simp [DOT]) ?_
   refine newV (A := DOT) line[i] (by first | assumption | exact St.tick (by assumption) | exact St.tick (St.tick (by assumption))) rfl (by decide) rfl fun vb W11 h => ?_
   (repeat (first | ((with_reducible refine v5 ?_); refine ⟨_, rfl, ?_⟩) | simp -implicitDefEqProofs only [SE, SU, SV]))
   refine ldV (A := DOT) line[i] (by first | assumption | exact St.tick (by assumption) | exact St.tick (St.tick (by assumption))) rfl (by decide) ?_
   refine lkp (K := KD) (z := .bool false) line[i] (by first | assumption | exact St.tick (by assumption) | exact St.tick (St.tick (by assumption))) ?_
   rw [hmd]
   by_cases hin : line[i] ∈ s.done
   ·rw [if_pos hin] at hacc
    rw [decide_eq_true hin]
    (repeat simp -implicitDefEqProofs only [SE, SU, SV])
    unfold S.exec_Exec_Have.j4
    (repeat simp -implicitDefEqProofs only [SE, SU, SV, ew])
    exact hK (acc, ax, cx) _ hib ⟨⟨hacc, by simp only; omega⟩, St.wk (by first | assumption | exact St.tick (by assumption) | exact St.tick (St.tick (by assumption)))⟩
   ·rw [if_neg hin] at hacc
    rw [decide_eq_false hin]
    (repeat (first | ((with_reducible refine v5 ?_); refine ⟨_, rfl, ?_⟩) | simp -implicitDefEqProofs only [SE, SU, SV]))
    refine ldV (A := DOT) line[i] (by first | assumption | exact St.tick (by assumption) | exact St.tick (St.tick (by assumption))) rfl (by decide) ?_
    refine lkp (K := KD) (z := cmd0) line[i] (by first | assumption | exact St.tick (by assumption) | exact St.tick (St.tick (by assumption))) ?_
    have hfl : fldV true 10 7 ((mget (kv ys) line[i]).getD cmd0) = some (.agg #[.int .i64 (s.waitOf line[i]).x0, .int .i64 (s.waitOf line[i]).x1, .int .i64 (s.waitOf line[i]).x2, .int .i64 (s.waitOf line[i]).x3, .int .i64 (s.waitOf line[i]).x4, .int .i64 (s.waitOf line[i]).x5, .int .i64 (s.waitOf line[i]).x6]) := by
     rw [hgk, hwo]
     cases ys.find? (fun y => decide (y.i.d = line[i])) <;> rfl
    generalize (mget (kv ys) line[i]).getD cmd0 = z at *
    rw [hfl]
    cases hlv : leV (s.waitOf line[i]) s.have_ with
    | true =>
     have hle := leV_eta hlv
     rw [if_pos hlv] at hacc
     (repeat (first | ((with_reducible refine w1 ?_); intros) | ((with_reducible refine v5 ?_); refine ⟨_, rfl, ?_⟩) | simp -implicitDefEqProofs only [SE, SU, SV, hle]))
     refine ldV (A := DOT) line[i] (by first | assumption | exact St.tick (by assumption) | exact St.tick (St.tick (by assumption))) rfl (by decide) ?_
     refine bsA DOT [line[i]] (n := 1) (by first | assumption | exact St.tick (by assumption) | exact St.tick (St.tick (by assumption))) rfl rfl (by decide) (by decide) rfl fun a5 c5 W12 h => ?_
     refine appA (A := DOT) (a := ax) (l := acc) (m := [line[i]]) (by first | assumption | exact St.tick (by assumption) | exact St.tick (St.tick (by assumption))) rfl (by simp only [List.length_cons, List.length_nil]; omega) (by simp only [List.length_cons, List.length_nil, maxLen]; omega) fun a6 c6 W13 h => ?_
     unfold S.exec_Exec_Have.j4
     (repeat simp -implicitDefEqProofs only [SE, SU, SV, ew])
     exact hK (acc ++ [line[i]], a6, c6) _ hib ⟨⟨by rw [hacc]; simp, by simp; omega⟩, St.wk h⟩
    | false =>
     have hle := leV_eta hlv
     rw [if_neg (by rw [hlv]; simp), List.append_nil] at hacc
     (repeat (first | ((with_reducible refine w1 ?_); intros) | ((with_reducible refine v5 ?_); refine ⟨_, rfl, ?_⟩) | simp -implicitDefEqProofs only [SE, SU, SV, hle]))
     have h9 := St.wk (L' := arr DOT T_api_Dot ax cx acc :: cells p [.int .i64 s.have_.x0, .int .i64 s.have_.x1, .int .i64 s.have_.x2, .int .i64 s.have_.x3, .int .i64 s.have_.x4, .int .i64 s.have_.x5, .int .i64 s.have_.x6, .map (some r1), .slice la s.cs.length lc, .map (some r2), .slice da s.done.length dc] T_exec_Exec :: mp KD r1 (kv ys) :: mp KD r2 m :: arr INS T_order_Inst la lc s.ins :: arr DOT T_api_Dot da dc s.done :: many fch (ys.map (·.b)) :: L) (by first | assumption | exact St.tick (by assumption) | exact St.tick (St.tick (by assumption)))
     have h10 := exo_of (p := p) (L := arr DOT T_api_Dot ax cx acc :: L) (s := s) ⟨ys, r1, r2, m, la, lc, da, dc⟩ ⟨hy, hm⟩ (St.wk h9)
     have := hJ2 ax cx _ (by rw [hacc]; exact St.wk h10)
     rw [hacc] at this
     exact this
  ·have hil : i = line.length := by omega
   subst hil
   rw [List.drop_length, show nowF s [] = [] from rfl, List.append_nil] at hacc
   (repeat simp -implicitDefEqProofs only [SE, SU, SV, hlt])
   have h10 := exo_of (p := p) (L := arr DOT T_api_Dot ax cx acc :: L) (s := s) ⟨ys, r1, r2, m, la, lc, da, dc⟩ ⟨hy, hm⟩ (St.wk h)
   have := hJ2 ax cx _ (by rw [hacc]; exact St.wk h10)
   rw [hacc] at this
   exact this
 refine joinK_i ?_
 obtain ⟨ys, r1, r2, m, la, lc, da, dc, hy, hm, h, fin⟩ := exo_ok (St.wk (L' := exo p s :: cells vb [.int .i64 v.x0, .int .i64 v.x1, .int .i64 v.x2, .int .i64 v.x3, .int .i64 v.x4, .int .i64 v.x5, .int .i64 v.x6] T_vec_Vec :: L) h)
 (repeat (first | ((with_reducible refine w1 ?_); intros) | ((with_reducible refine v5 ?_); refine ⟨_, rfl, ?_⟩) | simp -implicitDefEqProofs only [SE, SU, SV]))
 cases hg : goodV v with
 | false =>
  have hg2 := goodV_eta hg
  have hms : s.merge v = s := by unfold XS.merge; rw [if_neg (by rw [hg]; simp)]
  (repeat simp -implicitDefEqProofs only [SE, SU, SV, hg2])
  exact key _ (by rw [hms]; exact St.wk (fin s _ rfl rfl (by first | assumption | exact St.tick (by assumption) | exact St.tick (St.tick (by assumption)))))
 | true =>
  have hg2 := goodV_eta hg
  have hms : s.merge v = ⟨vmerge s.have_ v, s.cs, s.done⟩ := by unfold XS.merge; rw [if_pos hg]
  (repeat (first | ((with_reducible refine v5 ?_); refine ⟨_, rfl, ?_⟩) | simp -implicitDefEqProofs only [SE, SU, SV, hg2]))
  refine vecMerge (a := s.have_) (b := v) (by first | assumption | exact St.tick (by assumption) | exact St.tick (St.tick (by assumption))) fun W5 h => ?_
  (repeat ((with_reducible refine v12 ?_ ?_); exact rfl; intros))
  rename_i W6 h
  (try simp only [BLS, SB, stL_a, stL_b, stL_c, List.append_nil, List.take_nil, List.drop_nil, Nat.reduceAdd] at h)
  refine key _ ?_
  rw [hms]
  have h10 := fin ⟨vmerge s.have_ v, s.cs, s.done⟩ W6 rfl rfl (St.wk h)
  exact St.wk h10
end
end Go.Proofs.YtkjhccpanedccaaGreat
namespace Go.Tar
set_option linter.unusedVariables false
set_option linter.unusedSimpArgs false
section
variable {on : List (List Int)} {n : Nat} {all gs : List (List Int)} {x y : Int}
def Same (on : List (List Int)) (x y : Int) : Prop := Rch on x y ∧ Rch on y x
theorem take_at {i : Nat} (h : x ∈ (gs.take i).flatten) : ∃ j, j < i ∧ x ∈ gs.getD j [] := by
 obtain ⟨l, hl, hx⟩ := List.mem_flatten.1 h
 obtain ⟨j, hj, rfl⟩ := List.getElem_of_mem hl
 have hj2 : j < i ∧ j < gs.length := by simp at hj; omega
 exact ⟨j, hj2.1, by rw [List.getD_eq_getElem?_getD, List.getElem?_eq_getElem hj2.2]; simpa using hx⟩
theorem Grp.down (h : Grp on n gs) {i j : Nat} (hr : Rch on x y) (hx : x ∈ gs.getD i []) (hy : y ∈ gs.getD j []) : j ≤ i := by
 have key : ∃ k, k ≤ i ∧ y ∈ gs.getD k [] := by
  refine Rch.stay (on := on) (x := x) (C := fun z => ∃ k, k ≤ i ∧ z ∈ gs.getD k []) (fun a ha b hb => ?_) hr ⟨i, Nat.le_refl _, hx⟩
  obtain ⟨k, hk, hak⟩ := ha
  obtain ⟨j, hj, hbj⟩ := take_at (h.cls k a hak b hb)
  exact ⟨j, by omega, hbj⟩
 obtain ⟨k, hk, hyk⟩ := key
 rw [flat_uniq gs h.nd j k y hy hyk]; exact hk
theorem Grp.same (h : Grp on n gs) {g : List Int} (hg : g ∈ gs) (hx : x ∈ g) (hy : Vx n y) : y ∈ g ↔ Same on x y := by
 obtain ⟨i, hi, rfl⟩ := List.getElem_of_mem hg
 have ei : gs.getD i [] = gs[i] := by rw [List.getD_eq_getElem?_getD, List.getElem?_eq_getElem hi]; rfl
 constructor
 ·exact fun hy => ⟨h.scc _ hg _ hx _ hy, h.scc _ hg _ hy _ hx⟩
 ·rintro ⟨h1, h2⟩
  obtain ⟨j, hj, hyj⟩ := flatAt ((h.all y).2 hy)
  have a1 := h.down h1 (by rw [ei]; exact hx) hyj
  have a2 := h.down h2 hyj (by rw [ei]; exact hx)
  have : i = j := by omega
  rw [← ei, this]; exact hyj
theorem lineF_eq (hO : OnOk on on.length) : lineF on = ((toldG (hngOf on) (allOf on).length (allOf on).length).map fun g => (allOf on).getD g []).flatten := (line_law hO _ (Nat.le_refl _)).2.1
theorem told_all (hO : OnOk on on.length) {g : Nat} (hg : g < (allOf on).length) : g ∈ toldG (hngOf on) (allOf on).length (allOf on).length := by
 have hT := (line_law hO _ (Nat.le_refl _)).2.2.2
 refine Classical.byContradiction fun hn => ?_
 have h1 : (g :: toldG (hngOf on) (allOf on).length (allOf on).length).Nodup := List.nodup_cons.2 ⟨hn, hT.nd⟩
 have h2 : (g :: toldG (hngOf on) (allOf on).length (allOf on).length) ⊆ List.range (allOf on).length := fun x hx => by
  rcases List.mem_cons.1 hx with rfl | hx
  ·exact List.mem_range.2 hg
  ·exact List.mem_range.2 (hT.shut x hx).1
 have := h1.length_le_of_subset h2
 rw [List.length_cons, hT.len, List.length_range] at this; omega
theorem lineF_mem (hO : OnOk on on.length) : x ∈ lineF on ↔ Vx on.length x := by
 have hp := allOf_prt hO
 rw [lineF_eq hO]
 constructor
 ·intro h
  obtain ⟨l, hl, hx⟩ := List.mem_flatten.1 h
  obtain ⟨g, _, rfl⟩ := List.mem_map.1 hl
  exact (hp.mem x).1 (memFlat hx)
 ·intro h
  obtain ⟨g, hg, hx⟩ := flatAt ((hp.mem x).2 h)
  exact List.mem_flatten.2 ⟨_, List.mem_map.2 ⟨g, told_all hO hg, rfl⟩, hx⟩
theorem allOf_mem {g : List Int} : g ∈ allOf on ↔ g ∈ groupsF on := (sortHd_perm _).mem_iff
theorem getD_nil_or (gs : List (List Int)) (g : Nat) : gs.getD g [] = [] ∨ gs.getD g [] ∈ gs := by
 by_cases h : g < gs.length
 ·right; rw [List.getD_eq_getElem?_getD, List.getElem?_eq_getElem h]; exact List.getElem_mem h
 ·left; exact getD_ge (by omega)
theorem lineF_nodup (hO : OnOk on on.length) : (lineF on).Nodup := by
 have hp := allOf_prt hO
 have hT := (line_law hO _ (Nat.le_refl _)).2.2.2
 rw [lineF_eq hO, List.nodup_iff_pairwise_ne, List.pairwise_flatten]
 refine ⟨fun l hl => ?_, ?_⟩
 ·obtain ⟨g, _, rfl⟩ := List.mem_map.1 hl
  rcases getD_nil_or (allOf on) g with e | hm
  ·rw [e]; exact List.Pairwise.nil
  ·exact List.nodup_iff_pairwise_ne.1 (hp.nd.sublist (List.sublist_flatten_of_mem hm))
 ·rw [List.pairwise_map]
  refine (List.nodup_iff_pairwise_ne.1 hT.nd).imp fun {g k} hgk x hx y hy e => ?_
  subst e
  exact hgk (flat_uniq _ hp.nd g k x hx hy)
end
end Go.Tar
namespace Go.Proofs.YtkjhccpanedccaaGreat
set_option linter.unusedVariables false
set_option linter.unusedSimpArgs false
open Go Go.Eng Go.Tar Go.Sort
inductive DR (K : List Ins) : Ins → Ins → Prop
 | refl (x : Ins) : DR K x x
 | step {x y z : Ins} : DR K x y → z ∈ K → z.d ∈ depsL y → DR K x z
def Mut (K : List Ins) (x y : Ins) : Prop := DR K x y ∧ DR K y x
section
variable {sl K M l : List Ins} {q : Dot → Bool} {x y z : Ins} {i j : Nat}
theorem DR.trans (h1 : DR K x y) (h2 : DR K y z) : DR K x z := by
 induction h2 with
 | refl => exact h1
 | step _ h3 h4 ih => exact .step ih h3 h4
theorem DR.one (h : y ∈ K) (hd : y.d ∈ depsL x) : DR K x y := .step (.refl x) h hd
theorem DR.mono (hs : ∀ x ∈ K, x ∈ M) (h : DR K x y) : DR M x y := by
 induction h with
 | refl => exact .refl _
 | step _ h3 h4 ih => exact .step ih (hs _ h3) h4
theorem DR.mem (h : DR K x y) (hx : x ∈ K) : y ∈ K := by
 cases h with
 | refl => exact hx
 | step _ h3 _ => exact h3
theorem Mut.symm (h : Mut K x y) : Mut K y x := ⟨h.2, h.1⟩
theorem edge_iff (hn : (sl.map (·.d)).Nodup) (hi : i < sl.length) (hj : j < sl.length) : (j : Int) ∈ rowOf (onL sl) (i : Int) ↔ sl[j].d ∈ depsL sl[i] := by
 rw [onRow_at sl hi, onRow_mem]
 constructor
 ·rintro ⟨d, hd, k, hk, e⟩
  obtain ⟨h1, h2⟩ := plcO_some hk
  have : k = j := by omega
  subst this; rw [h2]; exact hd
 ·exact fun h => ⟨_, h, j, plcO_at hn hj, rfl⟩
theorem at_inj (hn : (sl.map (·.d)).Nodup) (hi : i < sl.length) (hj : j < sl.length) (e : sl[i].d = sl[j].d) : i = j := by
 have h3 := List.getElem_inj (h₀ := by simpa using hi) (h₁ := by simpa using hj) (i := i) (j := j) hn
 exact h3.1 (by simpa using e)
theorem rch_dr (hn : (sl.map (·.d)).Nodup) (hi : i < sl.length) (hj : j < sl.length) : Rch (onL sl) (i : Int) (j : Int) ↔ DR sl sl[i] sl[j] := by
 constructor
 ·intro h
  have key : ∀ a b : Int, Rch (onL sl) a b → Vx sl.length a → ∀ (ha : a.toNat < sl.length) (hb : b.toNat < sl.length), DR sl sl[a.toNat] sl[b.toNat] := by
   intro a b hr
   induction hr with
   | refl => exact fun _ _ _ => .refl _
   | @step b c hr hc ih =>
    intro hax ha hcl
    have hb := rch_vx (onL_ok sl) hr hax
    have hcx := (onL_ok sl).rng b c hc
    have hbn : b.toNat < sl.length := by unfold Vx at hb; omega
    refine .step (ih hax ha hbn) (List.getElem_mem _) ((edge_iff hn hbn hcl).1 ?_)
    rw [show ((c.toNat : Nat) : Int) = c by unfold Vx at hcx; omega, show ((b.toNat : Nat) : Int) = b by unfold Vx at hb; omega]
    exact hc
  exact key i j h ⟨by omega, by omega⟩ (by simpa using hi) (by simpa using hj)
 ·intro h
  generalize hx : sl[i] = x at h
  generalize hy : sl[j] = y at h
  induction h generalizing j with
  | refl =>
   have := at_inj hn hi hj (by rw [hx, hy])
   subst this; exact .refl _
  | @step y z _ hz hd ih =>
   by_cases hym : y ∈ sl
   ·obtain ⟨k, hk, rfl⟩ := List.getElem_of_mem hym
    exact .step (ih hk rfl) ((edge_iff hn hk hj).2 (by rw [hy]; exact hd))
   ·rename_i h
    cases h with
    | refl => exact absurd (hx ▸ List.getElem_mem hi) hym
    | step _ h3 _ => exact absurd h3 hym
def lineS (sl : List Ins) : List Ins := (lineF (onL sl)).map fun v => sl.getD v.toNat default
theorem dots_lineS (sl : List Ins) : dotsO sl (lineF (onL sl)) = (lineS sl).map (·.d) := by
 unfold dotsO lineS; rw [List.map_map]; rfl
theorem onO (sl : List Ins) : OnOk (onL sl) (onL sl).length := by rw [(onL_ok sl).len]; exact onL_ok sl
theorem lineF_at (v : Int) : v ∈ lineF (onL sl) ↔ ∃ k : Nat, v = k ∧ k < sl.length := by
 rw [lineF_mem (onO sl), (onL_ok sl).len]
 exact ⟨fun h => ⟨v.toNat, by unfold Vx at h; omega, by unfold Vx at h; omega⟩, fun ⟨k, e, hk⟩ => by unfold Vx; omega⟩
theorem lineS_mem : x ∈ lineS sl ↔ x ∈ sl := by
 unfold lineS
 rw [List.mem_map]
 constructor
 ·rintro ⟨v, hv, rfl⟩
  obtain ⟨k, rfl, hk⟩ := (lineF_at v).1 hv
  rw [Int.toNat_natCast, ← getD_at hk]; exact List.getElem_mem hk
 ·intro h
  obtain ⟨k, hk, rfl⟩ := List.getElem_of_mem h
  exact ⟨k, (lineF_at _).2 ⟨k, rfl, hk⟩, by rw [Int.toNat_natCast, ← getD_at hk]⟩
theorem lineS_nodup (hn : (sl.map (·.d)).Nodup) : ((lineS sl).map (·.d)).Nodup := by
 unfold lineS
 rw [List.map_map, List.nodup_iff_pairwise_ne, List.pairwise_map]
 refine List.Pairwise.imp_of_mem (fun {a b} ha hb hab e => ?_) (List.nodup_iff_pairwise_ne.1 (lineF_nodup (onO sl)))
 obtain ⟨i, rfl, hi⟩ := (lineF_at a).1 ha
 obtain ⟨j, rfl, hj⟩ := (lineF_at b).1 hb
 simp only [Function.comp_def, Int.toNat_natCast] at e
 rw [← getD_at hi, ← getD_at hj] at e
 exact hab (by rw [at_inj hn hi hj e])
def lineK (K : List Ins) : List Ins := lineS (sortO K)
theorem sortO_mem : x ∈ sortO K ↔ x ∈ K := (sortO_perm K).mem_iff
theorem lineK_mem : x ∈ lineK K ↔ x ∈ K := lineS_mem.trans sortO_mem
theorem lineK_nodup (hn : (K.map (·.d)).Nodup) : ((lineK K).map (·.d)).Nodup := lineS_nodup (sortO_nodup hn)
theorem lineO_eq : lineO q l = (lineK (keptO q (l.filter fun x => !q x.d))).map (·.d) := by unfold lineO lineK; exact dots_lineS _
theorem kept_mem : x ∈ keptO q l ↔ x ∈ l ∧ ¬ Lk (sortO l) q x := by
 unfold keptO
 rw [List.mem_filter, sortO_mem]; simp
theorem kept_nodup (hn : (l.map (·.d)).Nodup) : ((keptO q l).map (·.d)).Nodup := (sortO_nodup hn).sublist (kept_sub.map _)
theorem kept_closed {d : Dot} (hx : x ∈ keptO q l) (hd : d ∈ depsL x) : q d = true ∨ ∃ y ∈ keptO q l, y.d = d := by
 obtain ⟨h1, h2⟩ := kept_mem.1 hx
 by_cases hy : ∃ y ∈ l, y.d = d
 ·obtain ⟨y, hy, rfl⟩ := hy
  exact .inr ⟨y, kept_mem.2 ⟨hy, fun hL => h2 (.next (sortO_mem.2 h1) (sortO_mem.2 hy) hd hL)⟩, rfl⟩
 ·left
  refine Classical.byContradiction fun hq => h2 (.miss (sortO_mem.2 h1) hd (fun y hy2 e => hy ⟨y, sortO_mem.1 hy2, e⟩) (by simpa using hq))
theorem kept_great {C : Ins → Prop} (hn : (l.map (·.d)).Nodup) (hq : ∀ y ∈ l, q y.d = false) (hs : ∀ x, C x → x ∈ l) (hc : ∀ x, C x → ∀ d ∈ depsL x, q d = true ∨ ∃ y, C y ∧ y.d = d) (hx : C x) : x ∈ keptO q l := by
 refine kept_mem.2 ⟨hs x hx, fun hL => ?_⟩
 induction hL with
 | @miss x d _ hd hno hqd =>
  rcases hc x hx d hd with h | ⟨y, hy, e⟩
  ·rw [hqd] at h; cases h
  ·exact hno y (sortO_mem.2 (hs y hy)) e
 | @next x y _ hy hd _ ih =>
  rcases hc x hx y.d hd with h | ⟨y', hy', e⟩
  ·rw [hq y (sortO_mem.1 hy)] at h; cases h
  ·exact ih (ins_inj hn (hs y' hy') (sortO_mem.1 hy) e ▸ hy')
end
end Go.Proofs.YtkjhccpanedccaaGreat
namespace Go.Proofs.YtkjhccpanedccaaGreat
set_option linter.unusedVariables false
set_option linter.unusedSimpArgs false
open Go Go.Eng Go.Tar Go.Sort
def stepK (q : Dot → Bool) (K : List Ins) : List Ins := K.filter fun x => (depsL x).all fun d => q d || K.any fun y => decide (y.d = d)
def iterK (q : Dot → Bool) : Nat → List Ins → List Ins
 | 0, K => K
 | n + 1, K => iterK q n (stepK q K)
def keptC (q : Dot → Bool) (l : List Ins) : List Ins := iterK q l.length (sortO l)
section
variable {q : Dot → Bool} {K l : List Ins} {x : Ins}
theorem iterK_sub : ∀ (n : Nat) (K : List Ins), (iterK q n K).Sublist K
 | 0, K => List.Sublist.refl _
 | n + 1, K => (iterK_sub n (stepK q K)).trans List.filter_sublist
theorem iterK_fix : ∀ (n : Nat) (K : List Ins), K.length ≤ n → stepK q (iterK q n K) = iterK q n K
 | 0, K, h => by
  have : K = [] := List.eq_nil_of_length_eq_zero (by omega)
  subst this; rfl
 | n + 1, K, h => by
  show stepK q (iterK q n (stepK q K)) = iterK q n (stepK q K)
  by_cases e : stepK q K = K
  ·rw [e]
   have : ∀ m, iterK q m K = K := fun m => by
    induction m with
    | zero => rfl
    | succ m ih => show iterK q m (stepK q K) = K; rw [e]; exact ih
   rw [this, e]
  ·refine iterK_fix n _ ?_
   have h1 : (stepK q K).length ≤ K.length := List.length_filter_le _ _
   have h2 : (stepK q K).length ≠ K.length := fun e2 => e ((List.filter_sublist (l := K)).eq_of_length e2)
   omega
theorem stepK_mem : x ∈ stepK q K ↔ x ∈ K ∧ ∀ d ∈ depsL x, q d = true ∨ ∃ y ∈ K, y.d = d := by
 unfold stepK
 rw [List.mem_filter, List.all_eq_true]
 simp only [Bool.or_eq_true, List.any_eq_true, decide_eq_true_eq]
theorem iterK_great {C : Ins → Prop} (hc : ∀ x, C x → ∀ d ∈ depsL x, q d = true ∨ ∃ y, C y ∧ y.d = d) : ∀ (n : Nat) (K : List Ins), (∀ x, C x → x ∈ K) → ∀ x, C x → x ∈ iterK q n K
 | 0, K, h => h
 | n + 1, K, h => iterK_great hc n _ fun x hx => stepK_mem.2 ⟨h x hx, fun d hd => (hc x hx d hd).imp_right fun ⟨y, hy, e⟩ => ⟨y, h y hy, e⟩⟩
open Classical in
theorem sub_filter {α : Type} {S L : List α} (h : S.Sublist L) (hn : L.Nodup) : S = L.filter fun x => decide (x ∈ S) := by
 induction h with
 | slnil => rfl
 | @cons S L a h ih =>
  rw [List.nodup_cons] at hn
  rw [List.filter_cons, if_neg (by simpa using fun ha => hn.1 (h.mem ha))]
  exact ih hn.2
 | @cons_cons S L a h ih =>
  rw [List.nodup_cons] at hn
  rw [List.filter_cons, if_pos (by simp)]
  congr 1
  refine (ih hn.2).trans (List.filter_congr fun x hx => ?_)
  have : x ≠ a := fun e => hn.1 (e ▸ hx)
  simp [this]
theorem nodup_of_map {α β : Type} {f : α → β} {l : List α} (h : (l.map f).Nodup) : l.Nodup := by
 rw [List.nodup_iff_pairwise_ne, List.pairwise_map] at h
 rw [List.nodup_iff_pairwise_ne]
 exact h.imp fun {a b} hab e => hab (by rw [e])
theorem kept_eq (hn : (l.map (·.d)).Nodup) (hq : ∀ y ∈ l, q y.d = false) : keptO q l = keptC q l := by
 have h1 : ∀ x, x ∈ keptO q l ↔ x ∈ keptC q l := fun x => by
  constructor
  ·exact fun h => iterK_great (C := fun x => x ∈ keptO q l) (fun x hx d hd => kept_closed hx hd) l.length (sortO l) (fun x hx => sortO_mem.2 (kept_mem.1 hx).1) x h
  ·intro h
   refine kept_great (C := fun x => x ∈ keptC q l) hn hq (fun x hx => sortO_mem.1 ((iterK_sub _ _).mem hx)) (fun x hx d hd => ?_) h
   have hf := iterK_fix (q := q) l.length (sortO l) (by rw [sortO_len]; exact Nat.le_refl _)
   have hx2 : x ∈ stepK q (keptC q l) := by unfold keptC; rw [hf]; exact hx
   exact (stepK_mem.1 hx2).2 d hd
 have hnd := nodup_of_map (sortO_nodup hn)
 have e1 := sub_filter (S := keptO q l) kept_sub hnd
 have e2 := sub_filter (S := keptC q l) (iterK_sub l.length (sortO l)) hnd
 exact e1.trans ((List.filter_congr fun x _ => by rw [decide_eq_decide]; exact h1 x).trans e2.symm)
def lineC (done : P7 Int) (also : List Dot) (l : List Ins) : List Dot :=
 if goodO l = true then dotsO (sortO (keptC (isO done also) (l.filter fun x => !isO done also x.d))) (lineF (onL (sortO (keptC (isO done also) (l.filter fun x => !isO done also x.d))))) else []
theorem lineTop_eq (done : P7 Int) (also : List Dot) (l : List Ins) : lineTop done also l = lineC done also l := by
 unfold lineTop lineC
 by_cases h : goodO l = true
 ·rw [if_pos h, if_pos h]
  have hn := (goodO_iff.1 h).2.1
  unfold lineO
  rw [kept_eq (hn.sublist (List.filter_sublist.map _)) fun y hy => by simpa using (List.mem_filter.1 hy).2]
 ·rw [if_neg h, if_neg h]
end
theorem line0_len (done : P7 Int) (also : List Dot) (l : List Ins) : (lineTop done also l).length ≤ l.length := by
 unfold lineTop
 split
 ·rw [lineO_eq, List.length_map]
  unfold lineK lineS
  rw [List.length_map]
  refine Nat.le_trans (lineF_len (onL_ok _)) ?_
  rw [sortO_len]
  have h1 := (kept_sub (q := isO done also) (l := l.filter fun x => !isO done also x.d)).length_le
  rw [sortO_len] at h1
  exact Nat.le_trans h1 (List.length_filter_le _ _)
 ·simp
end Go.Proofs.YtkjhccpanedccaaGreat
namespace Go.Eng
set_option linter.unusedVariables false
set_option linter.unusedSimpArgs false
open Go Go.RowKit Go.ChangeShapes Go.WideShapes Go.Deep
inductive Cl where
 | int (k : IntKind)
 | str
 | bool
 | sl (e : List Cl)
mutual
inductive GoodC (W : World) : Cl → Value → Prop where
 | int {k : IntKind} {n : Int} (h : (Lit.int k n).wf = true) : GoodC W (.int k) (.int k n)
 | str {s : ByteArray} (h : s.size ≤ maxLen) : GoodC W .str (.string s)
 | bool {b : Bool} : GoodC W .bool (.bool b)
 | sl {e : List Cl} {a : Option Addr} {n c : Nat} (rows : Nat → List Value) (hc : n ≤ c) (hm : c ≤ maxLen) (hn : a = none → c = 0)
   (hr : ∀ i, i < n → ∃ b o, a = some ⟨b, o, none⟩ ∧ ro W b (o + i * e.length) (rows i)) (hg : ∀ i, i < n → GoodL W e (rows i)) : GoodC W (.sl e) (.slice a n c)
inductive GoodL (W : World) : List Cl → List Value → Prop where
 | nil : GoodL W [] []
 | cons {c : Cl} {cs : List Cl} {v : Value} {vs : List Value} (h : GoodC W c v) (hs : GoodL W cs vs) : GoodL W (c :: cs) (v :: vs)
end
theorem GoodL.app {W : World} : ∀ {l : List Cl} {vs : List Value} {l' : List Cl} {vs' : List Value}, GoodL W l vs → GoodL W l' vs' → GoodL W (l ++ l') (vs ++ vs')
 | _, _, _, _, .nil, h => h
 | _, _, _, _, .cons h hs, h' => .cons h (hs.app h')
theorem GoodL.len {W : World} : ∀ {l : List Cl} {vs : List Value}, GoodL W l vs → vs.length = l.length
 | _, _, .nil => rfl
 | _, _, .cons h hs => by simp [hs.len]
def clF (P : Program) (g : TypeId → Option (List Cl)) : List Field → Nat → Option (List Cl)
 | [], _ => some []
 | f :: r, off => match Nat.beq f.offset off with
  | false => none
  | true => match g f.type with
   | some ks => match Nat.beq (P.cellsOf f.type) ks.length with
    | true => (match clF P g r (off + ks.length) with | some l => some (ks ++ l) | none => none)
    | false => none
   | none => none
def cls (P : Program) : Nat → TypeId → Option (List Cl)
 | 0, _ => none
 | d + 1, t => match P.underlying t with
  | some (.int k) => some [.int k]
  | some .string => some [.str]
  | some .bool => some [.bool]
  | some (.slice e) => (match cls P d e with | some l => (match Nat.beq (P.cellsOf e) l.length && !Nat.beq l.length 0 with | true => some [.sl l] | false => none) | none => none)
  | some (.struct fs) => (match clF P (cls P d) fs.toList 0 with | some l => (match Nat.beq (P.cellsOf t) l.length with | true => some l | false => none) | none => none)
  | some (.array n e) => (match cls P d e with | some l => (match Nat.beq (P.cellsOf e) l.length && Nat.beq (P.cellsOf t) (n * l.length) with | true => some (List.replicate n l).flatten | false => none) | none => none)
  | _ => none
section
variable {P : Program} {w : World} {H : Type} {enc : TypeId × Value → H}
theorem good_fields {g : TypeId → Option (List Cl)} {n : Nat} {cs : List Value}
  (hg : ∀ t l, g t = some l → ∀ cs x, DataW.trod enc P w 0 (fun _ => true) true n t cs = some x → GoodL w l cs) :
  ∀ (fs : List Field) (off : Nat) (l : List Cl), clF P g fs off = some l → (∀ f ∈ fs, ∃ x, DataW.trod enc P w 0 (fun _ => true) true n f.type ((cs.drop f.offset).take (P.cellsOf f.type)) = some x) →
   GoodL w l ((cs.drop off).take l.length)
 | [], off, l, h, _ => by simp only [clF, Option.some.injEq] at h; subst h; simpa using GoodL.nil
 | f :: fs, off, l, h, hx => by
  simp only [clF] at h
  split at h
  ·cases h
  ·rename_i ho
   have ho := Nat.eq_of_beq_eq_true ho
   split at h
   ·rename_i ks hks
    split at h
    ·rename_i hsz
     have hsz := Nat.eq_of_beq_eq_true hsz
     split at h
     ·rename_i l' hl'
      simp only [Option.some.injEq] at h
      subst h
      obtain ⟨x, hx0⟩ := hx f (by simp)
      rw [hsz, ho] at hx0
      have h1 := hg _ _ hks _ _ hx0
      have h2 := good_fields hg fs _ _ hl' (fun f' hf' => hx f' (List.mem_cons_of_mem _ hf'))
      have := h1.app h2
      rw [← List.drop_drop, ← List.take_add] at this
      simpa using this
     ·cases h
    ·cases h
   ·cases h
theorem open_cls : ∀ (m : Nat) (t : TypeId) (l : List Cl), cls P m t = some l → ∀ (fuel : Nat) (cs : List Value) (x : DataW H × List MemPlace), DataW.trod enc P w 0 (fun _ => true) true fuel t cs = some x → GoodL w l cs
 | 0, _, _, h => by simp [cls] at h
 | m + 1, t, l, h => by
  intro fuel cs x hx
  simp only [cls] at h
  cases ht : P.underlying t with
  | none => rw [ht] at h; cases h
  | some d =>
   rw [ht] at h
   cases d <;> simp only at h <;> try (cases h; done)
   case int k =>
    simp only [Option.some.injEq] at h
    subst h
    obtain ⟨n, rfl, _, hw⟩ := DataW.trod_int ht hx
    exact .cons (.int hw) .nil
   case string =>
    simp only [Option.some.injEq] at h
    subst h
    obtain ⟨n, rfl, _, hw⟩ := DataW.trod_string ht hx
    exact .cons (.str hw) .nil
   case bool =>
    simp only [Option.some.injEq] at h
    subst h
    obtain ⟨n, rfl, _⟩ := DataW.trod_bool ht hx
    exact .cons .bool .nil
   case slice e =>
    split at h
    ·rename_i le hle
     split at h
     ·rename_i hb
      simp only [Bool.and_eq_true, Bool.not_eq_true'] at hb
      have hsz := Nat.eq_of_beq_eq_true hb.1
      have hpos : 0 < le.length := Nat.pos_of_ne_zero fun e => by rw [e] at hb; simp at hb
      simp only [Option.some.injEq] at h
      subst h
      rcases open_slice ht hx with ⟨rfl, _⟩ | ⟨a, len, cap, mm, n, D, Pl, rfl, hb0, hl, hmx, hmm, rfl, hel⟩
      ·exact .cons (.sl (fun _ => []) (by omega) (by simp [maxLen]) (fun _ => rfl) (fun i hi => by omega) (fun i hi => by omega)) .nil
      ·simp only [if_true] at hmm
       subst hmm
       rw [hsz] at hel
       obtain ⟨rows, hrows⟩ := choose_lt (α := List Value) (p := fun i cs' => w.cells? 0 (a.add (i * le.length)) le.length = some cs' ∧ DataW.trod enc P w 0 (fun _ => true) true n e cs' = some (D i, Pl i)) hel
       refine .cons (.sl rows hl hmx (fun h => by cases h) (fun i hi => ?_) (fun i hi => open_cls m e le hle n _ _ (hrows i (by omega)).2)) .nil
       obtain ⟨_, hlen0, hcell0⟩ := World.cells?_some (hrows 0 (by omega)).1
       obtain ⟨_, hlen, hcell⟩ := World.cells?_some (hrows i (by omega)).1
       have h0 : ∃ v, w.cell? a = some v := by
        have := hcell0 0 hpos
        simp only [Nat.zero_mul, Addr.add, if_true] at this
        rw [this]
        exact ⟨(rows 0)[0]'(by omega), by simp⟩
       obtain ⟨v, hv⟩ := h0
       have hsp := World.cell?_spot hv
       obtain ⟨ab, ao, asp⟩ := a
       simp only at hsp
       subst hsp
       refine ⟨ab, ao, rfl, fun j hj => ?_⟩
       have := hcell j (by omega)
       rw [add_none, add_none] at this
       exact this
     ·cases h
    ·cases h
   case struct fs =>
    split at h
    ·rename_i l' hl'
     split at h
     ·rename_i hsz
      have hsz := Nat.eq_of_beq_eq_true hsz
      simp only [Option.some.injEq] at h
      subst h
      obtain ⟨xs, n, rfl, rfl, hlen, hxs, hf⟩ := DataW.trod_struct ht hx
      have := good_fields (cs := cs) (fun t l hl cs x hx => open_cls m t l hl n cs x hx) fs.toList 0 l' hl' (fun f hf' => by
       obtain ⟨i, hi, rfl⟩ := List.getElem_of_mem hf'
       have hi' : i < fs.size := by simpa using hi
       have := hf i fs[i] (by simp [hi'])
       rw [show fs.toList[i] = fs[i] by simp, this]
       exact ⟨xs[i]'(by omega), by simp⟩)
      rw [← hsz, ← hlen] at this
      simpa using this
     ·cases h
    ·cases h
   case array k e =>
    split at h
    ·rename_i le hle
     split at h
     ·rename_i hb
      simp only [Bool.and_eq_true] at hb
      have hsz := Nat.eq_of_beq_eq_true hb.1
      have hsz2 := Nat.eq_of_beq_eq_true hb.2
      simp only [Option.some.injEq] at h
      subst h
      obtain ⟨xs, n, rfl, rfl, hlen, hxs, hf⟩ := DataW.trod_array ht hx
      rw [hsz2] at hlen
      rw [hsz] at hf
      have key : ∀ j, j ≤ k → GoodL w (List.replicate j le).flatten (cs.take (j * le.length)) := by
       intro j
       induction j with
       | zero => intro _; simpa using GoodL.nil
       | succ j ih =>
        intro hj
        have h1 := hf j (by omega)
        have h2 : GoodL w le ((cs.drop (j * le.length)).take le.length) := by
         refine open_cls m e le hle n _ (xs[j]'(by omega)) ?_
         rw [h1]; simp
        have := (ih (by omega)).app h2
        rw [← List.take_add] at this
        rw [List.replicate_succ', List.flatten_append, Nat.succ_mul]
        simpa using this
      have := key k (Nat.le_refl _)
      rw [← hlen] at this
      simpa using this
     ·cases h
    ·cases h
def GoodA (w : World) (l : List Cl) (agg : Bool) (v : Value) : Prop := GoodL w l (vcells v) ∧ (agg = true → ∃ cs : List Value, v = .agg cs.toArray) ∧ (agg = false → vcells v = [v])
theorem open_arg {t : TypeId} {l : List Cl} {agg : Bool} {m : Nat} {v : Value} {d : DataW H} {ps : List MemPlace} {r : Reach} {b0 : Nat} (hl : cls P m t = some l) (ha : (P.underlying t).map aggB = some agg)
  (hval : Value.okWide P w r b0 t v) (h : DataW.Trod enc P w 0 (fun _ => true) true t v d ps) : GoodA w l agg v := by
 obtain ⟨fuel, hf⟩ := h
 obtain ⟨u, hu, hu'⟩ := Option.map_eq_some_iff.1 ha
 refine ⟨by have := open_cls m t l hl _ _ _ hf; rwa [vcells_eq] at this, fun hagg => ?_, fun hagg => ?_⟩
 ·subst hagg
  cases u <;> simp only [aggB] at hu' <;> try (cases hu'; done)
  case struct fs =>
   obtain ⟨cs, rfl, _⟩ := okWide_struct hu hval
   exact ⟨cs.toList, rfl⟩
  case array n e =>
   simp only [Value.okWide, hu] at hval
   cases v <;> simp_all
   exact ⟨_, (Array.toArray_toList).symm⟩
 ·subst hagg
  cases m with
  | zero => simp [cls] at hl
  | succ m =>
   simp only [cls, hu] at hl
   cases u <;> simp only [aggB] at hu' <;> simp only at hl <;> try (first | (cases hu'; done) | (cases hl; done))
   case int k => obtain ⟨n, rfl⟩ := okWide_int hu hval; rfl
   case string => obtain ⟨n, rfl⟩ := okWide_string hu hval; rfl
   case bool => obtain ⟨n, rfl⟩ := okWide_bool hu hval; rfl
   case slice e => obtain ⟨a, b, c, rfl⟩ := okWide_slice hu hval; rfl
theorem GoodL.cons' {c : Cl} {cs : List Cl} {vs : List Value} (h : GoodL w (c :: cs) vs) : ∃ v vs', vs = v :: vs' ∧ GoodC w c v ∧ GoodL w cs vs' := by
 cases h with | cons h1 h2 => exact ⟨_, _, rfl, h1, h2⟩
theorem GoodL.nil' {vs : List Value} (h : GoodL w [] vs) : vs = [] := by cases h; rfl
theorem GoodA.one {c : Cl} {v : Value} (h : GoodA w [c] false v) : GoodC w c v := by
 obtain ⟨h1, _, h2⟩ := h
 rw [h2 rfl] at h1
 cases h1 with | cons h _ => exact h
theorem GoodC.int' {k : IntKind} {v : Value} (h : GoodC w (.int k) v) : ∃ n, v = .int k n ∧ (Lit.int k n).wf = true := by
 cases h with | int h => exact ⟨_, rfl, h⟩
theorem GoodC.sl' {e : List Cl} {v : Value} {α : Type} [Inhabited α] {q : α → List Value → Prop} (h : GoodC w (.sl e) v) (hq : ∀ vs, GoodL w e vs → ∃ a, q a vs) :
  ∃ a n c, ∃ A : Nat → α, v = .slice a n c ∧ n ≤ c ∧ c ≤ maxLen ∧ (a = none → c = 0) ∧ ∀ i, i < n → ∃ b o vs, a = some ⟨b, o, none⟩ ∧ ro w b (o + i * e.length) vs ∧ q (A i) vs := by
 cases h with
 | sl rows hc hm hn hr hg =>
  obtain ⟨A, hA⟩ := choose_lt fun i hi => hq _ (hg i hi)
  exact ⟨_, _, _, A, rfl, hc, hm, hn, fun i hi => let ⟨b, o, h1, h2⟩ := hr i hi; ⟨b, o, rows i, h1, h2, hA i hi⟩⟩
theorem keep_all (hl : laidOutB P = true) : ∀ {ts : List TypeId} {vs : List Value} {ds : List (DataW H)} {ps : List MemPlace} {W W' : World}, ts.all (fun t => P.readableRec t && decide (t < P.types.size)) = true →
  DataW.TrodAll enc P W 0 (fun _ => true) true ts vs ds ps → Below W.heap.size W W' → DataW.TrodAll enc P W' 0 (fun b => decide (b < W.heap.size)) true ts vs ds ps
 | [], [], [], _, _, _, _, h, _ => h
 | [], [], _ :: _, _, _, _, _, h, _ => h.elim
 | [], _ :: _, _, _, _, _, _, h, _ => h.elim
 | _ :: _, [], _, _, _, _, _, h, _ => h.elim
 | _ :: _, _ :: _, [], _, _, _, _, h, _ => h.elim
 | t :: ts, v :: vs, d :: ds, ps, W, W', ha, h, hb => by
  obtain ⟨p, q, h1, h2, rfl⟩ := h
  simp only [List.all_cons, Bool.and_eq_true, decide_eq_true_eq] at ha
  have lt : ∀ x ∈ p, x.block < W.heap.size := by obtain ⟨m, hm⟩ := h1; exact DataW.trod_lt m _ _ _ hm
  exact ⟨p, q, Below.trod hl ha.1.1 ha.1.2 h1 hb lt, keep_all hl ha.2 h2 hb, rfl⟩
end
end Go.Eng
namespace Go.Eng
set_option linter.unusedVariables false
set_option linter.unusedSimpArgs false
open Go Go.RowKit
theorem wf8 {n : Int} (h : (Lit.int .u8 n).wf = true) : 0 ≤ n ∧ n ≤ 255 := by
 simp only [Lit.wf, Bool.and_eq_true, decide_eq_true_eq] at h
 exact h
theorem ro_rows {α : Type} {A : Ly α} {w : World} {b o : Nat} : ∀ (l : List α), (∀ i (hi : i < l.length), ro w b (o + i * A.sz) (A.row l[i])) → ro w b o (A.rows l) := by
 intro l h j hj
 rw [Ly.rows_len] at hj
 have hp := A.pos
 have hi : j / A.sz < l.length := Nat.div_lt_of_lt_mul (by rw [Nat.mul_comm]; exact hj)
 have hr : j % A.sz < A.sz := Nat.mod_lt _ hp
 have h1 := h _ hi (j % A.sz) (by rw [A.len]; exact hr)
 have e : o + j / A.sz * A.sz + j % A.sz = o + j := by rw [Nat.add_assoc, Nat.div_add_mod']
 rw [e] at h1
 rw [h1, ← Ly.rows_at hi, List.getElem?_take_of_lt hr, List.getElem?_drop, Nat.div_add_mod']
theorem openArr {α : Type} [Inhabited α] (A : Ly α) {e : List Cl} (p : α → Prop) {w : World} {v : Value} (h : GoodC w (.sl e) v) (he : e.length = A.sz) (hq : ∀ vs, GoodL w e vs → ∃ a, vs = A.row a ∧ p a) :
  ∃ (a : Option Addr) (c : Nat) (l : List α), v = .slice a l.length c ∧ l.length ≤ c ∧ c ≤ maxLen ∧ Rd w [] a A l ∧ ∀ x ∈ l, p x := by
 obtain ⟨a, n, c, F, rfl, hn, hc, ha, hr⟩ := h.sl' (q := fun x vs => vs = A.row x ∧ p x) hq
 refine ⟨a, c, (List.range n).map F, by simp, by simpa using hn, hc, Rd.base ?_, fun x hx => ?_⟩
 ·by_cases hn0 : n = 0
  ·subst hn0; exact .inl rfl
  ·right
   obtain ⟨b, o, vs, rfl, _⟩ := hr 0 (by omega)
   refine ⟨b, o, rfl, ro_rows _ fun i hi => ?_⟩
   obtain ⟨b', o', vs, h1, h2, h3, _⟩ := hr i (by simpa using hi)
   cases h1
   rw [he] at h2
   subst h3
   simpa using h2
 ·obtain ⟨i, hi, rfl⟩ := List.mem_map.1 hx
  obtain ⟨_, _, _, _, _, _, h⟩ := hr i (by simpa using hi)
  exact h
theorem openBytes {w : World} {v : Value} (h : GoodC w (.sl [.int .u8]) v) : ∃ (a : Option Addr) (c : Nat) (l : List UInt8), v = .slice a l.length c ∧ l.length ≤ c ∧ c ≤ maxLen ∧ Rd w [] a B8 l := by
 obtain ⟨a, c, l, h1, h2, h3, h4, _⟩ := openArr B8 (fun _ => True) h rfl fun vs hv => by
  obtain ⟨_, _, rfl, h1, h⟩ := hv.cons'
  obtain rfl := h.nil'
  obtain ⟨n, rfl, hn⟩ := h1.int'
  have := wf8 hn
  refine ⟨UInt8.ofNat n.toNat, ?_, trivial⟩
  have e : (UInt8.ofNat n.toNat).toNat = n.toNat := by simp [UInt8.toNat_ofNat']; omega
  show _ = [b8 _]
  simp only [b8, e]
  rw [Int.toNat_of_nonneg this.1]
 exact ⟨a, c, l, h1, h2, h3, h4⟩
end Go.Eng
namespace Go.Proofs.YtkjhccpanedccaaGreat
set_option linter.unusedVariables false
set_option linter.unusedSimpArgs false
open Go Go.Eng Go.RowKit
structure Lo (W W' : World) : Prop where
 below : Below W.heap.size W W'
theorem St.startz (W : World) : St { W with drawn := 0 } [] W := ⟨⟨⟨rfl, rfl, rfl, Nat.le_refl _, fun _ _ => rfl⟩, Nat.zero_le _⟩, fun _ => none, fun _ => rfl, fun b o h => by cases h⟩
theorem St.lo {W W' : World} {L : List Asn} (h : St { W with drawn := 0 } L W') : Lo W W' := ⟨⟨h.bel.os, h.bel.tape, h.bel.output, h.bel.size, h.bel.block⟩⟩
mutual
theorem goodCz {W : World} {c : Cl} {v : Value} : GoodC W c v → GoodC { W with drawn := 0 } c v
 | .int h => .int h
 | .str h => .str h
 | .bool => .bool
 | .sl rows hc hm hn hr hg => .sl rows hc hm hn hr fun i hi => goodLz (hg i hi)
theorem goodLz {W : World} {l : List Cl} {v : List Value} : GoodL W l v → GoodL { W with drawn := 0 } l v
 | .nil => .nil
 | .cons h hs => .cons (goodCz h) (goodLz hs)
end
theorem goodAz {W : World} {l : List Cl} {b : Bool} {v : Value} (h : GoodA W l b v) : GoodA { W with drawn := 0 } l b v := ⟨goodLz h.1, h.2⟩
end Go.Proofs.YtkjhccpanedccaaGreat
namespace Go.Proofs.YtkjhccpanedccaaGreat
set_option linter.unusedVariables false
set_option linter.unusedSimpArgs false
open Go.Eng
def S.rostrumref7_SameDots.l1 (R : Value → World → Prop) (K1 : List Value → World → Prop) (x0 x1 x5 : Value) (W : World) : Prop :=
 okF (lenP (.slice T_api_Dot) x0) fun v13 =>
 okF (binP .lss x5 v13) fun v14 =>
 ifK v14 (
 okF (idxS 2 x0 x5) fun v19 =>
 rdK PR (Instr.loadAt T_api_Dot v19) (fun v20 W =>
 okF (idxS 2 x1 x5) fun v23 =>
 rdK PR (Instr.loadAt T_api_Dot v23) (fun v24 W =>
 rdK PR (aggEq .neq T_api_Dot v20 v24) (fun v25 W =>
 ifK v25 (
 R (.bool false) W) (
 okF (binP .add x5 (.int .i64 1)) fun v16 =>
 K1 [x0, x1, v16] W)) W) W) (tick W)) (
 R (.bool true) W)
def S.rostrumref7_SameDots.body (R : Value → World → Prop) (v0 v1 : Value) (W : World) : Prop :=
 okF (lenP (.slice T_api_Dot) v0) fun v7 =>
 okF (lenP (.slice T_api_Dot) v1) fun v9 =>
 okF (binP .neq v7 v9) fun v10 =>
 ifK v10 (
 R (.bool false) W) (
 loopK (fun K1 s W => S.rostrumref7_SameDots.l1 R K1 (nthv s 0) (nthv s 1) (nthv s 2) W) [v0, v1, (.int .i64 0)] W)
def S.rostrumref7_SameDots.hint : Hint := (.two .nil (.two (.two .nil (.two (.two .nil .nil) .nil)) (.two (.two .nil (.at [0, 1, 5] (.two (.two .nil (.two .nil .nil)) (.two (.two .nil (.two (.two .nil .nil) .nil)) .nil)) .nil)) (.two .nil .nil))))
theorem S.rostrumref7_SameDots.ok (R : Value → World → Prop) (v0 v1 : Value) (W : World) : bodyK PR CB Tryz.f36 S.rostrumref7_SameDots.hint [v0, v1] R W = S.rostrumref7_SameDots.body R v0 v1 W := by kernel_rfl
theorem S.rostrumref7_SameDots.fn : PR.funcs[F_rostrumref7_SameDots]? = some Tryz.f36 := by kernel_rfl
theorem S.rostrumref7_SameDots.call {R : Value → World → Prop} {v0 v1 : Value} {W : World} (h : S.rostrumref7_SameDots.body R v0 v1 W) : callK PR F_rostrumref7_SameDots [v0, v1] R W :=
 callK_of_body (g := F_rostrumref7_SameDots) (fn := Tryz.f36) (args := [v0, v1]) (R := R) (w := W) mixed CBok S.rostrumref7_SameDots.fn S.rostrumref7_SameDots.hint (by rw [S.rostrumref7_SameDots.ok]; exact h)
end Go.Proofs.YtkjhccpanedccaaGreat
namespace Go.Proofs.YtkjhccpanedccaaGreat
set_option linter.unusedVariables false
set_option linter.unusedSimpArgs false
open Go Go.Eng Go.Tar Go.Sort Go.RowKit
theorem dot_eq (x y : Dot) : (decide (x.rep = y.rep) && decide (x.n = y.n)) = decide (x = y) := by
 cases x; cases y
 rw [Bool.eq_iff_iff]
 simp
theorem take_step {α : Type} {l m : List α} {i : Nat} (h : l.take i = m.take i) (hi : i < l.length) (hj : i < m.length) (he : l[i] = m[i]) : l.take (i + 1) = m.take (i + 1) := by
 rw [List.take_succ_eq_append_getElem hi, List.take_succ_eq_append_getElem hj, h, he]
section
variable {W0 W : World} {L L' : List Asn}
set_option maxRecDepth 100000 in
set_option maxHeartbeats 4000000 in
theorem refSameDots {a b : Option Addr} {c d : Nat} {l m : List Dot} {k : Value → World → Prop} (h : St W0 L W) [hr : Rd W0 L a DOT l] [hr2 : Rd W0 L b DOT m] (hl : l.length < 4611686018427387904)
  (hk : ∀ W', St W0 L W' → k (.bool (decide (l = m))) W') : callK PR F_rostrumref7_SameDots [.slice a l.length c, .slice b m.length d] k W := by
 apply S.rostrumref7_SameDots.call
 unfold S.rostrumref7_SameDots.body
 by_cases hn : l.length = m.length
 ·have f1 : decide ((l.length : Int) = (m.length : Int)) = true := decide_eq_true (by omega)
  (repeat simp -implicitDefEqProofs only [SE, SU, SV, f1])
  refine loop_c (σ := Unit) l.length (fun i _ => [.slice a l.length c, .slice b m.length d, .int .i64 i]) (fun i _ W1 => l.take i = m.take i ∧ St W0 L W1) () rfl ⟨rfl, h⟩ ?_
  clear h
  rintro K i _ W2 hi ⟨ht, h⟩ hK
  simp -implicitDefEqProofs only [SE, SU, SV]
  unfold S.rostrumref7_SameDots.l1
  by_cases hlt : (i : Int) < (l.length : Int)
  ·have hib : i < l.length := by omega
   have hjb : i < m.length := by omega
   have ew : IntKind.i64.wrap ((i : Int) + 1) = ((i + 1 : Nat) : Int) := by rw [i64w]; omega
   (repeat simp -implicitDefEqProofs only [SE, SU, SV, hlt])
   refine ixA (i := i) (a := a) (l := l) (A := DOT) h.tick rfl rfl hib fun g o ha => ?_
   cases ha
   refine ldA0 (i := i) (l := l) (A := DOT) h.tick rfl hib (v := .agg #[.int .i64 (l[i]).rep, .int .i64 (l[i]).n]) rfl (by simp) ?_
   refine ixA (i := i) (a := b) (l := m) (A := DOT) h.tick rfl rfl hjb fun g' o' ha => ?_
   cases ha
   refine ldA0 (i := i) (l := m) (A := DOT) h.tick rfl hjb (v := .agg #[.int .i64 (m[i]).rep, .int .i64 (m[i]).n]) rfl (by simp) ?_
   generalize hx : l[i] = x at *
   generalize hy : m[i] = y at *
   by_cases he : x = y
   ·have f2 : (decide (x.rep = y.rep) && decide (x.n = y.n)) = true := by rw [dot_eq]; exact decide_eq_true he
    (repeat (first | ((with_reducible refine vn ?_); refine ⟨_, rfl, ?_⟩) | simp -implicitDefEqProofs only [SE, SU, SV, f2, ew]))
    refine hK () _ hib ⟨take_step ht hib hjb (by rw [hx, hy, he]), h.tick⟩
   ·have f2 : (decide (x.rep = y.rep) && decide (x.n = y.n)) = false := by rw [dot_eq]; exact decide_eq_false he
    have hne : decide (l = m) = false := decide_eq_false fun e => he (by subst e; rw [← hx, ← hy])
    rw [hne] at hk
    (repeat (first | ((with_reducible refine vn ?_); refine ⟨_, rfl, ?_⟩) | simp -implicitDefEqProofs only [SE, SU, SV, f2]))
    exact hk _ h.tick
  ·(repeat simp -implicitDefEqProofs only [SE, SU, SV, hlt])
   have hall : l = m := by
    have := ht
    rw [List.take_of_length_le (by omega), List.take_of_length_le (by omega)] at this
    exact this
   rw [decide_eq_true hall] at hk
   exact hk _ h
 ·have f1 : decide ((l.length : Int) = (m.length : Int)) = false := decide_eq_false (by omega)
  have hne : decide (l = m) = false := decide_eq_false fun e => hn (by rw [e])
  rw [hne] at hk
  (repeat simp -implicitDefEqProofs only [SE, SU, SV, f1])
  exact hk _ h
end
end Go.Proofs.YtkjhccpanedccaaGreat
namespace Go.Eng
set_option linter.unusedVariables false
set_option linter.unusedSimpArgs false
open Go Go.RowKit
section
variable {P : Program} {W0 W : World} {L : List Asn} {e : TypeId}
theorem bl1 (l : List UInt8) {t : TypeId} {by' n : Nat} {z : Value} [ht : TyS P t e 1 by' z] {ps : List (Nat × Value)} {k : Value → World → Prop} (h : St W0 L W) (hln : l.length = n) (hn : n ≤ 16777216) (hn0 : n ≠ 0)
  (hc : fillL (fun i => some (i * 1, 1)) ((List.range (n * 1)).map fun i => ((vcells z)[i % (vcells z).length]?).getD undef) ps = some (B8.rows l))
  (hk : ∀ b W', St W0 (blk b (.cells (B8.rows l).toArray e) :: L) W' → k (.slice (some ⟨b, 0, none⟩) l.length l.length) W') : efK P (Instr.buildSlice t n ps.toArray) k W := by
 subst hln
 exact ⟨_, _, bs_run (P := P) (t := t) (e := e) (by omega) (by omega) hc, hk _ _ (h.alloc _)⟩
theorem bl2 (l : List UInt8) {b n c : Nat} {t : TypeId} [hb : BytesT P t e] {k : Value → World → Prop} (h : St W0 (blk b (.cells (B8.rows l).toArray e) :: L) W) (hl : l.length ≤ maxLen)
  (hk : ∀ W', St W0 (arr B8 e (some ⟨b, 0, none⟩) l.length l :: L) W' → k (.slice (some ⟨b, 0, none⟩) n c) W') : efK P (convert t t (.slice (some ⟨b, 0, none⟩) n c)) k W := by
 have hbl := h.blk.2
 have hsh : W.shape? b = some (e, (B8.rows l).toArray.size) := by
  unfold World.shape?; rw [hbl]
 have hfr : W.freeze ⟨b, (B8.rows l).toArray.size, none⟩ 1 = { W with heap := W.heap.setIfInBounds b (.cells (B8.rows l).toArray e ((B8.rows l).toArray.size, (B8.rows l).toArray.size + 1)) } := by
  unfold World.freeze
  rw [if_neg (by decide)]
  congr 1
  apply Array.ext_getElem?
  intro i
  rw [Array.getElem?_modify, Array.getElem?_setIfInBounds]
  by_cases hi : b = i
  ·subst hi
   rw [if_pos rfl, if_pos rfl, hbl]
   rw [if_pos (Array.getElem?_eq_some_iff.1 hbl).1]
   rfl
  ·rw [if_neg hi, if_neg hi]
 refine ⟨.slice (some ⟨b, 0, none⟩) n c, W.freeze ⟨b, (B8.rows l).toArray.size, none⟩ 1, ?_, hk _ ?_⟩
 ·simp [convert, run_underlying hb.ok.1, run_underlying hb.ok.2, markStringish, hsh]
 ·rw [hfr]
  refine (((h.setBlk _).weak (a' := cells b (B8.rows l) e) fun p hp => ⟨((B8.rows l).toArray.size, (B8.rows l).toArray.size + 1), ?_, hp⟩).ent (arr_full (A := B8) hl))
  intro i hi
  simp; omega
end
end Go.Eng
namespace Go.Proofs.YtkjhccpanedccaaGreat
set_option linter.unusedVariables false
set_option linter.unusedSimpArgs false
open Go.Eng
def S.rostrumlaw23_awake.body (R : Value → World → Prop) (W : World) : Prop :=
 callK PR F_exec_New [] (fun v7 W =>
 okF (eqP (.pointer T_exec_Exec) .eql v7 (.pointer none)) fun v9 =>
 ifK v9 (
 R (.bool false) W) (
 okF (bldP (fun i => ([(0, 1), (1, 1)] : List (Nat × Nat))[i]?) [.int .i64 0, .int .i64 0] [(1, (.int .i64 1))]) fun v11 =>
 okF (bldP (fun i => ([(0, 2), (2, 1), (3, 7)] : List (Nat × Nat))[i]?) [.int .i64 0, .int .i64 0, .int .i64 0, .int .i64 0, .int .i64 0, .int .i64 0, .int .i64 0, .int .i64 0, .int .i64 0, .int .i64 0] [(0, v11)]) fun v12 =>
 okF (bldP (fun i => some (i * 1, 1)) [.int .i64 0, .int .i64 0, .int .i64 0, .int .i64 0, .int .i64 0, .int .i64 0, .int .i64 0] [(0, (.int .i64 1))]) fun v13 =>
 efK PR (Instr.buildSlice T_s_uint8 1 #[(0, (.int .u8 98))]) (fun v14 W =>
 efK PR (convert T_s_uint8 T_s_uint8 v14) (fun v15 W =>
 callK PR F_exec_Exec_Commit [v7, v12, v13, v15] (fun v16 W =>
 okF (bldP (fun i => some (i * 1, 1)) [.int .i64 0, .int .i64 0, .int .i64 0, .int .i64 0, .int .i64 0, .int .i64 0, .int .i64 0] []) fun v18 =>
 callK PR F_exec_Exec_Have [v7, v18] (fun v19 W =>
 okF (bldP (fun i => some (i * 1, 1)) [.int .i64 0, .int .i64 0, .int .i64 0, .int .i64 0, .int .i64 0, .int .i64 0, .int .i64 0] [(0, (.int .i64 1))]) fun v21 =>
 callK PR F_exec_Exec_Have [v7, v21] (fun v22 W =>
 okF (bldP (fun i => ([(0, 1), (1, 1)] : List (Nat × Nat))[i]?) [.int .i64 0, .int .i64 0] [(1, (.int .i64 1))]) fun v25 =>
 callK PR F_exec_Exec_Body [v7, v25] (fun v26 W =>
 okF (extP 0 v26) fun v27 =>
 okF (extP 1 v26) fun v28 =>
 okF (binP .eql v16 (.int .i64 0)) fun v30 =>
 gdK (wantd v30 true) (fun k W => k v19 W) (fun v32 W =>
 gdK (wantd v30 true) (fun k W => okF (lenP (.slice T_api_Dot) v32) fun v => k v W) (fun v33 W =>
 gdK (wantd v30 true) (fun k W => okF (binP .eql v33 (.int .i64 0)) fun v => k v W) (fun v34 W =>
 okF (pickP v30 v34 (.bool false)) fun v35 =>
 gdK (wantd v35 true) (fun k W => k v22 W) (fun v37 W =>
 gdK (wantd v35 true) (fun k W => okF (bldP (fun i => ([(0, 1), (1, 1)] : List (Nat × Nat))[i]?) [.int .i64 0, .int .i64 0] [(1, (.int .i64 1))]) fun v => k v W) (fun v38 W =>
 gdK (wantd v35 true) (fun k W => efK PR (Instr.buildSlice T_s_api_Dot 1 #[(0, v38)]) k W) (fun v39 W =>
 gdK (wantd v35 true) (fun k W => callK PR F_rostrumlaw23_dots [v37, v39] k W) (fun v40 W =>
 okF (pickP v35 v40 (.bool false)) fun v41 =>
 gdK (wantd v41 true) (fun k W => k v28 W) (fun v43 W =>
 okF (pickP v41 v43 (.bool false)) fun v44 =>
 gdK (wantd v44 true) (fun k W => k v27 W) (fun v46 W =>
 gdK (wantd v44 true) (fun k W => rdK PR (convert T_s_uint8 T_string v46) k W) (fun v47 W =>
 gdK (wantd v44 true) (fun k W => okF (binP .eql v47 (.string ⟨#[98]⟩)) fun v => k v W) (fun v48 W =>
 okF (pickP v44 v48 (.bool false)) fun v49 =>
 gdK (wantd v49 true) (fun k W => k v7 W) (fun v51 W =>
 gdK (wantd v49 true) (fun k W => callK PR F_exec_Exec_Waits [v51] k W) (fun v52 W =>
 gdK (wantd v49 true) (fun k W => okF (binP .eql v52 (.int .i64 0)) fun v => k v W) (fun v53 W =>
 okF (pickP v49 v53 (.bool false)) fun v54 =>
 R v54 W) W) W) W) W) W) W) W) W) W) W) W) W) W) W) W) W) W) W) W) W)) W
def S.rostrumlaw23_awake.hint : Hint := (.two .nil (.two .nil (.two (.two .nil (.two (.two .nil .nil) .nil)) (.two .nil (.two .nil (.two .nil (.two .nil (.two .nil .nil))))))))
theorem S.rostrumlaw23_awake.ok (R : Value → World → Prop) (W : World) : bodyK PR CB Tryz.f13 S.rostrumlaw23_awake.hint [] R W = S.rostrumlaw23_awake.body R  W := by kernel_rfl
theorem S.rostrumlaw23_awake.fn : PR.funcs[F_rostrumlaw23_awake]? = some Tryz.f13 := by kernel_rfl
theorem S.rostrumlaw23_awake.call {R : Value → World → Prop} {W : World} (h : S.rostrumlaw23_awake.body R  W) : callK PR F_rostrumlaw23_awake [] R W :=
 callK_of_body (g := F_rostrumlaw23_awake) (fn := Tryz.f13) (args := []) (R := R) (w := W) mixed CBok S.rostrumlaw23_awake.fn S.rostrumlaw23_awake.hint (by rw [S.rostrumlaw23_awake.ok]; exact h)
def S.rostrumlaw23_dots.body (R : Value → World → Prop) (v0 v1 : Value) (W : World) : Prop :=
 callK PR F_rostrumref7_SameDots [v0, v1] (fun v7 W =>
 R v7 W) W
def S.rostrumlaw23_dots.hint : Hint := (.two .nil (.two .nil .nil))
theorem S.rostrumlaw23_dots.ok (R : Value → World → Prop) (v0 v1 : Value) (W : World) : bodyK PR CB Tryz.f17 S.rostrumlaw23_dots.hint [v0, v1] R W = S.rostrumlaw23_dots.body R v0 v1 W := by kernel_rfl
theorem S.rostrumlaw23_dots.fn : PR.funcs[F_rostrumlaw23_dots]? = some Tryz.f17 := by kernel_rfl
theorem S.rostrumlaw23_dots.call {R : Value → World → Prop} {v0 v1 : Value} {W : World} (h : S.rostrumlaw23_dots.body R v0 v1 W) : callK PR F_rostrumlaw23_dots [v0, v1] R W :=
 callK_of_body (g := F_rostrumlaw23_dots) (fn := Tryz.f17) (args := [v0, v1]) (R := R) (w := W) mixed CBok S.rostrumlaw23_dots.fn S.rostrumlaw23_dots.hint (by rw [S.rostrumlaw23_dots.ok]; exact h)
end Go.Proofs.YtkjhccpanedccaaGreat
namespace Go.Proofs.YtkjhccpanedccaaGreat
set_option linter.unusedVariables false
set_option linter.unusedSimpArgs false
open Go Go.Eng Go.Tar Go.Sort Go.RowKit
def z7 : P7 Int := ⟨0, 0, 0, 0, 0, 0, 0⟩
def inN (rep n : Int) (v : P7 Int) : Ins := ⟨⟨rep, n⟩, 0, v⟩
def XS.havesC (s : XS) (v : P7 Int) : XS × List Dot := ((nowF (s.merge v) (lineC (P7.all 0) [] (s.merge v).ins)).foldl XS.mark (s.merge v), nowF (s.merge v) (lineC (P7.all 0) [] (s.merge v).ins))
theorem haves_eq (s : XS) (v : P7 Int) : s.haves v = s.havesC v := by
 unfold XS.haves XS.havesC XS.now; rw [lineTop_eq]
def xa1 : XS := ⟨z7, [⟨inN 0 1 z7, ⟨1, 0, 0, 0, 0, 0, 0⟩, [98]⟩], []⟩
def xa2 : XS := ⟨⟨1, 0, 0, 0, 0, 0, 0⟩, [⟨inN 0 1 z7, ⟨1, 0, 0, 0, 0, 0, 0⟩, [98]⟩], [⟨0, 1⟩]⟩
theorem aw1 : XS.new.commit (inN 0 1 z7) ⟨1, 0, 0, 0, 0, 0, 0⟩ [98] = (xa1, 0) := by kernel_rfl
theorem aw2 : xa1.haves z7 = (xa1, []) := by rw [haves_eq]; kernel_rfl
theorem aw3 : xa1.haves ⟨1, 0, 0, 0, 0, 0, 0⟩ = (xa2, [⟨0, 1⟩]) := by rw [haves_eq]; kernel_rfl
theorem aw4 : xa2.bodyOf ⟨0, 1⟩ = [98] ∧ (xa2.find ⟨0, 1⟩).isSome = true := ⟨by kernel_rfl, by kernel_rfl⟩
section
variable {W0 W : World} {L L' : List Asn}
theorem lawDots23 {a b : Option Addr} {c d : Nat} {l m : List Dot} {k : Value → World → Prop} (h : St W0 L W) [hr : Rd W0 L a DOT l] [hr2 : Rd W0 L b DOT m] (hl : l.length < 4611686018427387904)
  (hk : ∀ W', St W0 L W' → k (.bool (decide (l = m))) W') : callK PR F_rostrumlaw23_dots [.slice a l.length c, .slice b m.length d] k W := by
 apply S.rostrumlaw23_dots.call
 unfold S.rostrumlaw23_dots.body
 refine refSameDots (a := a) (b := b) (l := l) (m := m) h hl fun W1 h => ?_
 skip
 exact hk _ h
set_option maxRecDepth 100000 in
set_option maxHeartbeats 8000000 in
theorem lawAwake23 (h00 : W0.drawn = 0) {k : Value → World → Prop} (h : St W0 L W) (hk : ∀ W', St W0 L W' → k (.bool true) W') : callK PR F_rostrumlaw23_awake [] k W := by
 apply S.rostrumlaw23_awake.call
 unfold S.rostrumlaw23_awake.body
 refine execNew h fun p W1 h => ?_
 (repeat (first | (refine okF_i (bldP_eq rfl) ?_; try simp only [BLS, SB, Nat.reduceAdd]) | simp -implicitDefEqProofs only [SE, SU, SV]))
 refine bl1 [98] (by first | assumption | exact St.tick (by assumption) | exact St.tick (St.tick (by assumption))) rfl (by decide) (by decide) rfl fun lb _ h => ?_
 refine bl2 [98] h (by decide) fun W2 h => ?_
 refine execCommit (s := XS.new) (i := inN 0 1 z7) (w := ⟨1, 0, 0, 0, 0, 0, 0⟩) (a := some ⟨lb, 0, none⟩) (bs := [98]) (St.wk (L' := exo p XS.new :: arr B8 T_uint8 (some ⟨lb, 0, none⟩) 1 [98] :: L) h) fun W3 h => ?_
 rw [aw1] at h ⊢
 (repeat (first | (refine okF_i (bldP_eq rfl) ?_; try simp only [BLS, SB, Nat.reduceAdd]) | simp -implicitDefEqProofs only [SE, SU, SV]))
 refine execHave (s := xa1) (v := z7) h00 h (by decide) (by decide) (line0_len _ _) fun a1 c1 W4 h => ?_
 rw [aw2] at h ⊢
 (repeat (first | (refine okF_i (bldP_eq rfl) ?_; try simp only [BLS, SB, Nat.reduceAdd]) | simp -implicitDefEqProofs only [SE, SU, SV]))
 refine execHave (s := xa1) (v := ⟨1, 0, 0, 0, 0, 0, 0⟩) h00 (St.wk (L' := exo p xa1 :: arr DOT T_api_Dot a1 c1 [] :: L) h) (by decide) (by decide) (line0_len _ _) fun a2 c2 W5 h => ?_
 rw [aw3] at h ⊢
 (repeat (refine okF_i (bldP_eq rfl) ?_; try simp only [BLS, SB, Nat.reduceAdd]))
 refine execBody (s := xa2) (d := ⟨0, 1⟩) (St.wk (L' := exo p xa2 :: arr DOT T_api_Dot a2 c2 [⟨0, 1⟩] :: L) h) (by decide) fun a3 c3 W6 h => ?_
 rw [aw4.1] at h ⊢
 rw [aw4.2]
 (repeat simp -implicitDefEqProofs only [SE, SU, SV])
 refine bsA DOT [(⟨0, 1⟩ : Dot)] (n := 1) (by first | assumption | exact St.tick (by assumption) | exact St.tick (St.tick (by assumption))) rfl rfl (by decide) (by decide) rfl fun a4 c4 W7 h => ?_
 refine lawDots23 (a := a2) (b := a4) (l := [⟨0, 1⟩]) (m := [⟨0, 1⟩]) h (by decide) fun W8 h => ?_
 (repeat simp -implicitDefEqProofs only [SE, SU, SV])
 refine b2s (a := a3) (l := [98]) (by first | assumption | exact St.tick (by assumption) | exact St.tick (St.tick (by assumption))) ?_
 (repeat simp -implicitDefEqProofs only [SE, SU, SV, eq_self])
 refine execWaits (s := xa2) (St.wk (L' := exo p xa2 :: L) (by first | assumption | exact St.tick (by assumption) | exact St.tick (St.tick (by assumption)))) (by decide) (by decide) fun W9 h => ?_
 have d0 : decide ((xa2.cs.length : Int) - (xa2.done.length : Int) = 0) = true := by decide
 (repeat simp -implicitDefEqProofs only [SE, SU, SV, d0])
 exact hk _ (St.wk (L' := L) h)
end
end Go.Proofs.YtkjhccpanedccaaGreat
namespace Go.Proofs.YtkjhccpanedccaaGreat
set_option linter.unusedVariables false
set_option linter.unusedSimpArgs false
open Go Go.Eng Go.Tar Go.Sort Go.RowKit
structure ActX where
 op : Int
 i : Ins
 v : P7 Int
 b : BSl
instance : Inhabited ActX := ⟨⟨0, default, P7.all 0, ⟨none, 0, []⟩⟩⟩
def AXL : Ly ActX := ⟨19, by omega, fun x => [.int .i64 x.op, .int .i64 x.i.d.rep, .int .i64 x.i.d.n, .int .i64 x.i.s, .int .i64 x.i.v.x0, .int .i64 x.i.v.x1, .int .i64 x.i.v.x2, .int .i64 x.i.v.x3, .int .i64 x.i.v.x4, .int .i64 x.i.v.x5, .int .i64 x.i.v.x6, .int .i64 x.v.x0, .int .i64 x.v.x1, .int .i64 x.v.x2, .int .i64 x.v.x3, .int .i64 x.v.x4, .int .i64 x.v.x5, .int .i64 x.v.x6, x.b.v], fun _ => rfl, fun _ => rfl⟩
noncomputable def XS.act (s : XS) (a : ActX) : XS := if a.op = 0 then (s.commit a.i a.v a.b.bs).1 else (s.haves a.v).1
noncomputable def runX (l : List ActX) : XS := l.foldl XS.act XS.new
theorem runX_succ (l : List ActX) {i : Nat} (hi : i < l.length) : runX (l.take (i + 1)) = (runX (l.take i)).act l[i] := by
 unfold runX; rw [List.take_succ_eq_append_getElem hi, List.foldl_append]; rfl
section
variable {s : XS} {d e : Dot} {v : P7 Int} {l : List ActX}
theorem find_some {c : Cmd} (h : s.find d = some c) : c ∈ s.cs ∧ c.i.d = d := by
 unfold XS.find at h
 exact ⟨List.mem_of_find?_eq_some h, by simpa using List.find?_some h⟩
theorem leV_merge (a b : P7 Int) : leV a (vmerge a b) = true := (leV_iff _ _).2 fun j hj => by
 rw [vmerge, P7.get_zip]; unfold imax; split <;> omega
theorem leV_trans {a b c : P7 Int} (h1 : leV a b = true) (h2 : leV b c = true) : leV a c = true := (leV_iff _ _).2 fun j hj => by
 have := (leV_iff _ _).1 h1 j hj; have := (leV_iff _ _).1 h2 j hj; omega
structure XOk (s : XS) : Prop where
 nd : s.done.Nodup
 fd : ∀ d ∈ s.done, ∃ c, s.find d = some c ∧ leV c.w s.have_ = true
theorem nowF_sub (s : XS) : ∀ l : List Dot, ∀ d ∈ nowF s l, d ∈ l ∧ d ∉ s.done ∧ leV (s.waitOf d) s.have_ = true
 | [], d, h => by cases h
 | e :: l, d, h => by
  rw [nowF_cons] at h
  by_cases h1 : e ∈ s.done
  ·rw [if_pos h1] at h
   have := nowF_sub s l d h
   exact ⟨by simp [this.1], this.2⟩
  ·rw [if_neg h1] at h
   by_cases h2 : leV (s.waitOf e) s.have_ = true
   ·rw [if_pos h2] at h
    rcases List.mem_cons.1 h with rfl | h
    ·exact ⟨by simp, h1, h2⟩
    ·have := nowF_sub s l d h
     exact ⟨by simp [this.1], this.2⟩
   ·rw [if_neg h2] at h; cases h
theorem mark_ok (h : XOk s) (hw : leV (s.waitOf d) s.have_ = true) : XOk (s.mark d) := by
 unfold XS.mark
 split
 ·rename_i hc
  rw [Bool.and_eq_true, Bool.not_eq_true', decide_eq_false_iff_not] at hc
  obtain ⟨hc, hn⟩ := hc
  obtain ⟨c, hc⟩ := Option.isSome_iff_exists.1 hc
  have hw2 : leV c.w s.have_ = true := by unfold XS.waitOf at hw; rw [hc] at hw; exact hw
  refine ⟨?_, fun e he => ?_⟩
  ·show (s.done ++ [d]).Nodup
   rw [List.nodup_append]
   exact ⟨h.nd, by simp, fun a ha b hb e => hn (by rw [List.mem_singleton] at hb; rw [← hb, ← e]; exact ha)⟩
  ·rcases List.mem_append.1 he with he | he
   ·exact h.fd e he
   ·rw [List.mem_singleton.1 he]; exact ⟨c, hc, hw2⟩
 ·exact h
theorem marks_ok : ∀ (now : List Dot) (s : XS), XOk s → (∀ d ∈ now, leV (s.waitOf d) s.have_ = true) → XOk (now.foldl XS.mark s)
 | [], s, h, _ => h
 | d :: now, s, h, hw => by
  refine marks_ok now _ (mark_ok h (hw d (by simp))) fun e he => ?_
  have hm := mark_cs s d
  have : (s.mark d).waitOf e = s.waitOf e := by unfold XS.waitOf XS.find; rw [hm.1]
  rw [this, hm.2]; exact hw e (by simp [he])
theorem marks_pre : ∀ (now : List Dot) (s : XS), ∃ r, (now.foldl XS.mark s).done = s.done ++ r ∧ (now.foldl XS.mark s).cs = s.cs ∧ (now.foldl XS.mark s).have_ = s.have_
 | [], s => ⟨[], by simp, rfl, rfl⟩
 | d :: now, s => by
  obtain ⟨r, h1, h2, h3⟩ := marks_pre now (s.mark d)
  have hm := mark_cs s d
  have hd : ∃ q, (s.mark d).done = s.done ++ q := by unfold XS.mark; split; exact ⟨[d], rfl⟩; exact ⟨[], by simp⟩
  obtain ⟨q, hq⟩ := hd
  refine ⟨q ++ r, ?_, h2.trans hm.1, h3.trans hm.2⟩
  rw [List.foldl_cons, h1, hq, List.append_assoc]
theorem merge_ok (h : XOk s) (v : P7 Int) : XOk (s.merge v) := by
 unfold XS.merge
 split
 ·refine ⟨h.nd, fun d hd => ?_⟩
  obtain ⟨c, h1, h2⟩ := h.fd d hd
  exact ⟨c, h1, leV_trans h2 (leV_merge _ _)⟩
 ·exact h
theorem haves_ok (h : XOk s) (v : P7 Int) : XOk (s.haves v).1 := marks_ok _ _ (merge_ok h v) fun d hd => (nowF_sub _ _ d hd).2.2
theorem haves_pre (s : XS) (v : P7 Int) : ∃ r, (s.haves v).1.done = s.done ++ r ∧ (s.haves v).1.cs = s.cs ∧ (s.haves v).1.have_ = (s.merge v).have_ := by
 obtain ⟨r, h1, h2, h3⟩ := marks_pre (s.merge v).now (s.merge v)
 have e1 : (s.merge v).done = s.done := by unfold XS.merge; split <;> rfl
 have e2 : (s.merge v).cs = s.cs := by unfold XS.merge; split <;> rfl
 exact ⟨r, by rw [← e1]; exact h1, h2.trans e2, h3⟩
theorem commit_cases (s : XS) (i : Ins) (w : P7 Int) (bs : List UInt8) : (s.commit i w bs).1 = s ∨ ((s.commit i w bs).1 = ⟨s.have_, s.cs ++ [⟨i, w, bs⟩], s.done⟩ ∧ goodO [i] = true ∧ goodV w = true ∧ bs.length ≤ 65536 ∧ s.find i.d = none ∧ s.cs.length < 1000) := by
 unfold XS.commit
 by_cases h1 : goodO [i] = false ∨ goodV w = false ∨ 65536 < bs.length
 ·rw [if_pos h1]; exact .inl rfl
 ·rw [if_neg h1]
  by_cases h2 : (s.find i.d).isSome = true
  ·rw [if_pos h2]; exact .inl rfl
  ·rw [if_neg h2]
   by_cases h3 : 1000 ≤ s.cs.length
   ·rw [if_pos h3]; exact .inl rfl
   ·rw [if_neg h3]
    simp only [not_or, Bool.not_eq_false] at h1
    exact .inr ⟨rfl, h1.1, h1.2.1, by omega, by simpa using h2, by omega⟩
theorem find_app {c : Cmd} (s : XS) (h : XS.find s d = some c) (y : Cmd) : XS.find ⟨s.have_, s.cs ++ [y], s.done⟩ d = some c := by
 unfold XS.find at h ⊢
 rw [List.find?_append, h]; rfl
theorem commit_ok (h : XOk s) (i : Ins) (w : P7 Int) (bs : List UInt8) : XOk (s.commit i w bs).1 := by
 rcases commit_cases s i w bs with e | ⟨e, _⟩ <;> rw [e]
 ·exact h
 ·refine ⟨h.nd, fun d hd => ?_⟩
  obtain ⟨c, h1, h2⟩ := h.fd d hd
  exact ⟨c, find_app s h1 _, h2⟩
theorem commit_len (s : XS) (i : Ins) (w : P7 Int) (bs : List UInt8) : (s.commit i w bs).1.cs.length ≤ s.cs.length + 1 ∧ (s.commit i w bs).1.done = s.done ∧ (s.commit i w bs).1.have_ = s.have_ := by
 rcases commit_cases s i w bs with e | ⟨e, _⟩ <;> rw [e]
 ·exact ⟨by omega, rfl, rfl⟩
 ·exact ⟨by simp, rfl, rfl⟩
def mat (d : Dot) (a : ActX) : Bool := decide (a.op = 0) && decide (a.i.d = d) && goodV a.v && decide (a.b.bs.length ≤ 65536)
def firstO (a : ActX) : Bool := depsO a.i && decide (0 ≤ a.i.s) && decide (a.i.s ≤ 1099511627776)
theorem good1 {i : Ins} : goodO [i] = true ↔ dotO i.d = true ∧ depsO i = true ∧ 0 ≤ i.s ∧ i.s ≤ 1099511627776 := by
 rw [goodO_iff]
 constructor
 ·rintro ⟨h, _, _⟩
  obtain ⟨h1, h2⟩ := h i (by simp)
  unfold insOne at h1
  simp only [Bool.and_eq_true, Bool.not_eq_true', decide_eq_false_iff_not] at h1
  exact ⟨h1.1.1, h2, by omega, by omega⟩
 ·rintro ⟨h1, h2, h3, h4⟩
  refine ⟨fun x hx => ?_, by simp, by simp⟩
  rw [List.mem_singleton.1 hx]
  refine ⟨?_, h2⟩
  unfold insOne
  simp only [Bool.and_eq_true, Bool.not_eq_true', decide_eq_false_iff_not]
  exact ⟨⟨h1, by omega⟩, by omega⟩
structure XW (l : List ActX) (s : XS) : Prop where
 ok : XOk s
 len : s.cs.length ≤ l.length
 fst : ∀ d c, s.find d = some c → ∃ a, l.find? (mat d) = some a ∧ (firstO a = true → c.w = a.v)
 all : ∀ a ∈ l, a.op = 0 → goodO [a.i] = true → goodV a.v = true → a.b.bs.length ≤ 65536 → (s.find a.i.d).isSome = true
 dot : ∀ c ∈ s.cs, goodO [c.i] = true ∧ c.bs.length ≤ 65536
theorem new_xw : XW [] XS.new := ⟨⟨List.nodup_nil, fun d h => by cases h⟩, by simp [XS.new], fun d c h => (by cases h), fun a h => (by cases h), fun c h => (by cases h)⟩
theorem find_none_app {y : Cmd} (h : s.find d = none) : XS.find ⟨s.have_, s.cs ++ [y], s.done⟩ d = if y.i.d = d then some y else none := by
 unfold XS.find at h ⊢
 rw [List.find?_append, h, Option.none_or, List.find?_singleton]
 by_cases e : y.i.d = d <;> simp [e]
theorem act_xw (h : XW l s) (a : ActX) (hl : l.length ≤ 100) : XW (l ++ [a]) (s.act a) := by
 have fapp : ∀ d x, l.find? (mat d) = some x → (l ++ [a]).find? (mat d) = some x := fun d x e => by rw [List.find?_append, e]; rfl
 unfold XS.act
 by_cases h0 : a.op = 0
 ·rw [if_pos h0]
  have hlen := commit_len s a.i a.v a.b.bs
  rcases commit_cases s a.i a.v a.b.bs with e | ⟨e, g1, g2, g3, g4, _⟩
  ·have hall : a.op = 0 → goodO [a.i] = true → goodV a.v = true → a.b.bs.length ≤ 65536 → (s.find a.i.d).isSome = true := fun _ g1 g2 g3 => by
    refine Classical.byContradiction fun hn => ?_
    have hll := h.len
    have : (s.commit a.i a.v a.b.bs).1 = ⟨s.have_, s.cs ++ [⟨a.i, a.v, a.b.bs⟩], s.done⟩ := by
     unfold XS.commit
     rw [if_neg (by rintro (x | x | x); rw [g1] at x; cases x; rw [g2] at x; cases x; omega), if_neg hn, if_neg (by omega)]
    rw [e] at this
    have := congrArg (fun x => x.cs.length) this
    simp at this
   rw [e]
   refine ⟨h.ok, by simp; have := h.len; omega, fun d c hf => ?_, fun b hb => ?_, h.dot⟩
   ·obtain ⟨x, h1, h2⟩ := h.fst d c hf
    exact ⟨x, fapp d x h1, h2⟩
   ·rcases List.mem_append.1 hb with hb | hb
    ·exact h.all b hb
    ·rw [List.mem_singleton.1 hb]; exact hall
  ·rw [e]
   have hok : XOk ⟨s.have_, s.cs ++ [⟨a.i, a.v, a.b.bs⟩], s.done⟩ := by rw [← e]; exact commit_ok h.ok _ _ _
   refine ⟨hok, by simp; exact h.len, fun d c hf => ?_, fun b hb b0 b1 b2 b3 => ?_, fun c hc => ?_⟩
   ·cases hfd : s.find d with
    | some c' =>
     rw [find_app s hfd] at hf
     obtain ⟨x, h1, h2⟩ := h.fst d c' hfd
     exact ⟨x, fapp d x h1, by cases hf; exact h2⟩
    | none =>
     rw [find_none_app hfd] at hf
     by_cases hd : a.i.d = d
     ·rw [if_pos hd] at hf
      cases hf
      have hma : mat d a = true := by unfold mat; simp [h0, hd, g2, g3]
      cases hq : l.find? (mat d) with
      | none => exact ⟨a, by rw [List.find?_append, hq, Option.none_or, List.find?_singleton, hma]; rfl, fun _ => rfl⟩
      | some x =>
       refine ⟨x, fapp d x hq, fun hfx => ?_⟩
       have hxm := List.mem_of_find?_eq_some hq
       have hxp := List.find?_some hq
       unfold mat at hxp
       simp only [Bool.and_eq_true, decide_eq_true_eq] at hxp
       obtain ⟨⟨⟨x0, x1⟩, x2⟩, x3⟩ := hxp
       unfold firstO at hfx
       simp only [Bool.and_eq_true, decide_eq_true_eq] at hfx
       have hgx : goodO [x.i] = true := good1.2 ⟨by rw [x1, ← hd]; exact (good1.1 g1).1, hfx.1.1, hfx.1.2, hfx.2⟩
       have := h.all x hxm x0 hgx x2 x3
       rw [x1, hfd] at this; cases this
     ·rw [if_neg hd] at hf; cases hf
   ·rcases List.mem_append.1 hb with hb | hb
    ·obtain ⟨c, hc⟩ := Option.isSome_iff_exists.1 (h.all b hb b0 b1 b2 b3)
     rw [find_app s hc]; rfl
    ·rw [List.mem_singleton.1 hb, find_none_app g4, if_pos rfl]; rfl
   ·rcases List.mem_append.1 hc with hc | hc
    ·exact h.dot c hc
    ·rw [List.mem_singleton.1 hc]; exact ⟨g1, g3⟩
 ·rw [if_neg h0]
  obtain ⟨r, h1, h2, h3⟩ := haves_pre s a.v
  have hf : ∀ d, (s.haves a.v).1.find d = s.find d := fun d => by unfold XS.find; rw [h2]
  refine ⟨haves_ok h.ok a.v, by rw [h2]; simp; have := h.len; omega, fun d c hfd => ?_, fun b hb b0 b1 b2 b3 => ?_, fun c hc => h.dot c (by rw [← h2]; exact hc)⟩
  ·rw [hf] at hfd
   obtain ⟨x, g1, g2⟩ := h.fst d c hfd
   exact ⟨x, fapp d x g1, g2⟩
  ·rw [hf]
   rcases List.mem_append.1 hb with hb | hb
   ·exact h.all b hb b0 b1 b2 b3
   ·rw [List.mem_singleton.1 hb] at b0; exact absurd b0 h0
theorem run_xw (l : List ActX) (hl : l.length ≤ 100) : ∀ i, i ≤ l.length → XW (l.take i) (runX (l.take i))
 | 0, _ => new_xw
 | i + 1, hi => by
  have ih := run_xw l hl i (by omega)
  rw [runX_succ l (by omega), List.take_succ_eq_append_getElem (by omega)]
  exact act_xw ih _ (by simp; omega)
theorem done_len (h : XW l s) (hl : l.length ≤ 100) : s.done.length ≤ 100000 := by
 have hn := h.ok.nd
 have hsub : s.done ⊆ s.cs.map (fun c => c.i.d) := fun d hd => by
  obtain ⟨c, h1, _⟩ := h.ok.fd d hd
  exact List.mem_map.2 ⟨c, (find_some h1).1, (find_some h1).2⟩
 have h1 := hn.length_le_of_subset hsub
 have h2 := h.len
 rw [List.length_map] at h1
 omega
end
end Go.Proofs.YtkjhccpanedccaaGreat
namespace Go.Proofs.YtkjhccpanedccaaGreat
set_option linter.unusedVariables false
set_option linter.unusedSimpArgs false
open Go Go.Eng Go.Tar Go.Sort Go.RowKit
abbrev ClA : List Cl := [.int .i64, .int .i64, .int .i64, .int .i64, .int .i64, .int .i64, .int .i64, .int .i64, .int .i64, .int .i64, .int .i64, .int .i64, .int .i64, .int .i64, .int .i64, .int .i64, .int .i64, .int .i64, .sl [.int .u8]]
def rgA (W : World) (x : ActX) : Prop := x.b.bs.length ≤ x.b.c ∧ x.b.c ≤ maxLen ∧ Rd W [] x.b.a B8 x.b.bs
theorem openActRow {W : World} (vs : List Value) (h : GoodL W ClA vs) : ∃ a : ActX, vs = AXL.row a ∧ rgA W a := by
 obtain ⟨_, _, rfl, h1, h⟩ := h.cons'
 obtain ⟨_, _, rfl, h2, h⟩ := h.cons'
 obtain ⟨_, _, rfl, h3, h⟩ := h.cons'
 obtain ⟨_, _, rfl, h4, h⟩ := h.cons'
 obtain ⟨_, _, rfl, h5, h⟩ := h.cons'
 obtain ⟨_, _, rfl, h6, h⟩ := h.cons'
 obtain ⟨_, _, rfl, h7, h⟩ := h.cons'
 obtain ⟨_, _, rfl, h8, h⟩ := h.cons'
 obtain ⟨_, _, rfl, h9, h⟩ := h.cons'
 obtain ⟨_, _, rfl, h10, h⟩ := h.cons'
 obtain ⟨_, _, rfl, h11, h⟩ := h.cons'
 obtain ⟨_, _, rfl, h12, h⟩ := h.cons'
 obtain ⟨_, _, rfl, h13, h⟩ := h.cons'
 obtain ⟨_, _, rfl, h14, h⟩ := h.cons'
 obtain ⟨_, _, rfl, h15, h⟩ := h.cons'
 obtain ⟨_, _, rfl, h16, h⟩ := h.cons'
 obtain ⟨_, _, rfl, h17, h⟩ := h.cons'
 obtain ⟨_, _, rfl, h18, h⟩ := h.cons'
 obtain ⟨_, _, rfl, h19, h⟩ := h.cons'
 obtain rfl := h.nil'
 obtain ⟨a1, rfl, _⟩ := h1.int'
 obtain ⟨a2, rfl, _⟩ := h2.int'
 obtain ⟨a3, rfl, _⟩ := h3.int'
 obtain ⟨a4, rfl, _⟩ := h4.int'
 obtain ⟨a5, rfl, _⟩ := h5.int'
 obtain ⟨a6, rfl, _⟩ := h6.int'
 obtain ⟨a7, rfl, _⟩ := h7.int'
 obtain ⟨a8, rfl, _⟩ := h8.int'
 obtain ⟨a9, rfl, _⟩ := h9.int'
 obtain ⟨a10, rfl, _⟩ := h10.int'
 obtain ⟨a11, rfl, _⟩ := h11.int'
 obtain ⟨a12, rfl, _⟩ := h12.int'
 obtain ⟨a13, rfl, _⟩ := h13.int'
 obtain ⟨a14, rfl, _⟩ := h14.int'
 obtain ⟨a15, rfl, _⟩ := h15.int'
 obtain ⟨a16, rfl, _⟩ := h16.int'
 obtain ⟨a17, rfl, _⟩ := h17.int'
 obtain ⟨a18, rfl, _⟩ := h18.int'
 obtain ⟨a, c, l, rfl, hl, hc, hr⟩ := openBytes h19
 exact ⟨⟨a1, ⟨⟨a2, a3⟩, a4, ⟨a5, a6, a7, a8, a9, a10, a11⟩⟩, ⟨a12, a13, a14, a15, a16, a17, a18⟩, ⟨a, c, l⟩⟩, rfl, hl, hc, hr⟩
theorem openActs {W : World} {v : Value} (h : GoodA W [.sl ClA] false v) : ∃ (a : Option Addr) (c : Nat) (l : List ActX), v = .slice a l.length c ∧ l.length ≤ c ∧ c ≤ maxLen ∧ Rd W [] a AXL l ∧ ∀ x ∈ l, rgA W x := openArr AXL (rgA W) h.one rfl openActRow
end Go.Proofs.YtkjhccpanedccaaGreat
namespace Go.Proofs.YtkjhccpanedccaaGreat
set_option linter.unusedVariables false
set_option linter.unusedSimpArgs false
open Go Go.Eng Go.Tar Go.Sort
def atI (sl : List Ins) (v : Int) : Ins := sl.getD v.toNat default
def gA (sl : List Ins) : List (List Ins) := (allOf (onL sl)).map fun g => g.map (atI sl)
def hdI (g : List Ins) : Ins := g.headD default
theorem insLt_irrefl (x : Ins) : ¬ insLt x x := by unfold insLt; omega
theorem insLt_trans {x y z : Ins} (h1 : insLt x y) (h2 : insLt y z) : insLt x z := by unfold insLt at *; omega
theorem insLt_asymm {x y : Ins} (h1 : insLt x y) (h2 : insLt y x) : False := insLt_irrefl _ (insLt_trans h1 h2)
structure Gs (K : List Ins) (B : List (List Ins)) : Prop where
 ne : ∀ G ∈ B, G ≠ []
 srt : ∀ G ∈ B, G.Pairwise insLt
 cls : ∀ G ∈ B, ∀ x ∈ G, ∀ y, y ∈ G ↔ y ∈ K ∧ Mut K x y
 cov : ∀ x ∈ K, ∃ G ∈ B, x ∈ G
 nd : B.Nodup
theorem hdI_mem {g : List Ins} (h : g ≠ []) : hdI g ∈ g := by
 cases g with
 | nil => exact absurd rfl h
 | cons a l => exact List.mem_cons_self
theorem srt_nodup {g : List Ins} (h : g.Pairwise insLt) : g.Nodup := List.nodup_iff_pairwise_ne.2 (h.imp fun {a b} (hab : insLt a b) (e : a = b) => insLt_irrefl b (by rw [e] at hab; exact hab))
theorem srt_eq {g k : List Ins} (h1 : g.Pairwise insLt) (h2 : k.Pairwise insLt) (h : ∀ x, x ∈ g ↔ x ∈ k) : g = k :=
 List.Perm.eq_of_pairwise (fun a b _ _ h3 h4 => absurd h4 (fun h4 => insLt_asymm h3 h4)) h1 h2 ((List.perm_ext_iff_of_nodup (srt_nodup h1) (srt_nodup h2)).2 h)
section
variable {sl K K' : List Ins} {B C : List (List Ins)} {x y : Ins}
theorem Gs.same (h : Gs K B) {G H : List Ins} (hG : G ∈ B) (hH : H ∈ B) (hx : x ∈ G) (hy : x ∈ H) : G = H :=
 srt_eq (h.srt G hG) (h.srt H hH) fun z => (h.cls G hG x hx z).trans (h.cls H hH x hy z).symm
theorem Gs.sub (h : Gs K B) (h2 : Gs K C) {G : List Ins} (hG : G ∈ B) : G ∈ C := by
 have hx := hdI_mem (h.ne G hG)
 have hxK := ((h.cls G hG _ hx _).1 hx).1
 obtain ⟨H, hH, hxH⟩ := h2.cov _ hxK
 have : G = H := srt_eq (h.srt G hG) (h2.srt H hH) fun z => (h.cls G hG _ hx z).trans (h2.cls H hH _ hxH z).symm
 rw [this]; exact hH
theorem Gs.mem_iff (h : Gs K B) (h2 : Gs K C) {G : List Ins} : G ∈ B ↔ G ∈ C := ⟨fun hG => h.sub h2 hG, fun hG => h2.sub h hG⟩
theorem Gs.len (h : Gs K B) (h2 : Gs K C) : B.length = C.length := ((List.perm_ext_iff_of_nodup h.nd h2.nd).2 fun _ => h.mem_iff h2).length_eq
theorem dr_perm (hp : ∀ x, x ∈ K ↔ x ∈ K') : DR K x y ↔ DR K' x y := ⟨DR.mono fun _ h => (hp _).1 h, DR.mono fun _ h => (hp _).2 h⟩
theorem Gs.to (h : Gs K B) (hp : ∀ x, x ∈ K ↔ x ∈ K') : Gs K' B := by
 refine ⟨h.ne, h.srt, fun G hG x hx y => ?_, fun x hx => h.cov x ((hp x).2 hx), h.nd⟩
 rw [h.cls G hG x hx y, hp]
 unfold Mut
 rw [dr_perm hp, dr_perm hp]
def F2 (K : List Ins) (B T : List (List Ins)) (G : List Ins) : Prop := ∀ H ∈ B, H = G ∨ H ∈ T ∨ ¬ DR K (hdI G) (hdI H)
def PkG (K : List Ins) (B T : List (List Ins)) (G : List Ins) : Prop := G ∈ B ∧ G ∉ T ∧ F2 K B T G ∧ ∀ H ∈ B, H ∉ T → F2 K B T H → H = G ∨ insLt (hdI G) (hdI H)
inductive Gr (K : List Ins) (B : List (List Ins)) : List (List Ins) → Prop
 | nil : Gr K B []
 | snoc {T : List (List Ins)} {G : List Ins} : Gr K B T → PkG K B T G → Gr K B (T ++ [G])
theorem PkG.uniq {T : List (List Ins)} {G H : List Ins} (h1 : PkG K B T G) (h2 : PkG K B T H) : G = H := by
 obtain ⟨a1, a2, a3, a4⟩ := h1
 obtain ⟨b1, b2, b3, b4⟩ := h2
 rcases a4 H b1 b2 b3 with e | e
 ·exact e.symm
 ·rcases b4 G a1 a2 a3 with e2 | e2
  ·exact e2
  ·exact absurd e2 fun e2 => insLt_asymm e e2
theorem PkG.to {T : List (List Ins)} {G : List Ins} (h : PkG K B T G) (hp : ∀ x, x ∈ K ↔ x ∈ K') (hB : ∀ G, G ∈ B ↔ G ∈ C) : PkG K' C T G := by
 have hF : ∀ G, F2 K B T G ↔ F2 K' C T G := fun G => by
  unfold F2
  constructor
  ·exact fun h H hH => by rw [← dr_perm hp]; exact h H ((hB H).2 hH)
  ·exact fun h H hH => by rw [dr_perm hp]; exact h H ((hB H).1 hH)
 obtain ⟨a1, a2, a3, a4⟩ := h
 exact ⟨(hB _).1 a1, a2, (hF _).1 a3, fun H hH h1 h2 => a4 H ((hB H).2 hH) h1 ((hF _).2 h2)⟩
theorem Gr.to {T : List (List Ins)} (h : Gr K B T) (hp : ∀ x, x ∈ K ↔ x ∈ K') (hB : ∀ G, G ∈ B ↔ G ∈ C) : Gr K' C T := by
 induction h with
 | nil => exact .nil
 | snoc _ h2 ih => exact .snoc ih (h2.to hp hB)
theorem Gr.uniq {T : List (List Ins)} (h : Gr K B T) : ∀ {T' : List (List Ins)}, Gr K B T' → T.length = T'.length → T = T' := by
 induction h with
 | nil => intro T' _ h2; exact (List.eq_nil_of_length_eq_zero (by simpa using h2.symm)).symm
 | @snoc T G h1 h2 ih =>
  intro T' h3 h4
  cases h3 with
  | nil => simp at h4
  | @snoc T2 G2 h5 h6 =>
   simp only [List.length_append, List.length_singleton] at h4
   have := ih h5 (by omega)
   subst this
   rw [h2.uniq h6]
theorem at_get {i : Nat} (hi : i < sl.length) : atI sl (i : Int) = sl[i] := by rw [atI, Int.toNat_natCast, ← getD_at hi]
theorem ins_lt (hn : (sl.map (·.d)).Nodup) (hs : insSorted sl) {i j : Nat} (hi : i < sl.length) (hj : j < sl.length) (h : i < j) : insLt sl[i] sl[j] := by
 have h3 := List.pairwise_iff_getElem.1 hs i j hi hj h
 refine Classical.byContradiction fun h4 => ?_
 have := at_inj hn hi hj (insLt_same h4 h3)
 omega
theorem all_vx {g : List Int} (hg : g ∈ allOf (onL sl)) {v : Int} (hv : v ∈ g) : ∃ k : Nat, v = k ∧ k < sl.length := by
 have h1 := ((allOf_prt (onO sl)).mem v).1 (List.mem_flatten.2 ⟨g, hg, hv⟩)
 rw [(onL_ok sl).len] at h1
 unfold Vx at h1
 exact ⟨v.toNat, by omega, by omega⟩
theorem nd_flat {α : Type} : ∀ {gs : List (List α)}, gs.flatten.Nodup → (∀ g ∈ gs, g.Nodup) ∧ gs.Pairwise fun a b => ∀ x ∈ a, x ∉ b
 | [], _ => ⟨(fun g hg => nomatch hg), List.Pairwise.nil⟩
 | g :: gs, h => by
  rw [List.flatten_cons, List.nodup_append] at h
  obtain ⟨h1, h2, h3⟩ := h
  obtain ⟨a1, a2⟩ := nd_flat h2
  exact ⟨fun k hk => (List.mem_cons.1 hk).elim (fun e => e ▸ h1) (a1 k), List.Pairwise.cons (fun k hk x hx hxk => h3 x hx x (List.mem_flatten.2 ⟨k, hk, hxk⟩) rfl) a2⟩
theorem at_eq (hn : (sl.map (·.d)).Nodup) {v w : Nat} (hv : v < sl.length) (hw : w < sl.length) (e : atI sl (v : Int) = atI sl (w : Int)) : v = w := by
 rw [at_get hv, at_get hw] at e
 exact at_inj hn hv hw (by rw [e])
theorem gA_cls (hn : (sl.map (·.d)).Nodup) {g : List Int} (hg : g ∈ allOf (onL sl)) {v : Nat} (hv : v < sl.length) (hvg : (v : Int) ∈ g) {w : Nat} (hw : w < sl.length) : (w : Int) ∈ g ↔ Mut sl sl[v] sl[w] := by
 have h1 := (groups_grp (onO sl)).same (allOf_mem.1 hg) hvg (y := (w : Int)) (by rw [(onL_ok sl).len]; unfold Vx; omega)
 rw [h1]
 exact and_congr (rch_dr hn hv hw) (rch_dr hn hw hv)
theorem gA_gs (hn : (sl.map (·.d)).Nodup) (hs : insSorted sl) : Gs sl (gA sl) := by
 have hp := allOf_prt (onO sl)
 have hgn : ∀ g ∈ allOf (onL sl), g.Nodup := fun g hg => (nd_flat hp.nd).1 g hg
 refine ⟨fun G hG => ?_, fun G hG => ?_, fun G hG x hx y => ?_, fun x hx => ?_, ?_⟩
 ·obtain ⟨g, hg, rfl⟩ := List.mem_map.1 hG
  intro e
  exact (hp.gok g hg).1 (List.map_eq_nil_iff.1 e)
 ·obtain ⟨g, hg, rfl⟩ := List.mem_map.1 hG
  rw [List.pairwise_map]
  refine List.Pairwise.imp_of_mem (fun {a b} ha hb hab => ?_) ((hp.gok g hg).2.and (hgn g hg))
  obtain ⟨i, rfl, hi⟩ := all_vx hg ha
  obtain ⟨j, rfl, hj⟩ := all_vx hg hb
  rw [at_get hi, at_get hj]
  exact ins_lt hn hs hi hj (by have := hab.1; have := hab.2; omega)
 ·obtain ⟨g, hg, rfl⟩ := List.mem_map.1 hG
  obtain ⟨v, hv, rfl⟩ := List.mem_map.1 hx
  obtain ⟨i, rfl, hi⟩ := all_vx hg hv
  rw [at_get hi]
  constructor
  ·intro hy
   obtain ⟨w, hw, rfl⟩ := List.mem_map.1 hy
   obtain ⟨j, rfl, hj⟩ := all_vx hg hw
   rw [at_get hj]
   exact ⟨List.getElem_mem hj, (gA_cls hn hg hi hv hj).1 hw⟩
  ·rintro ⟨hy, hm⟩
   obtain ⟨j, hj, rfl⟩ := List.getElem_of_mem hy
   exact List.mem_map.2 ⟨j, (gA_cls hn hg hi hv hj).2 hm, at_get hj⟩
 ·obtain ⟨i, hi, rfl⟩ := List.getElem_of_mem hx
  have h1 : (i : Int) ∈ (allOf (onL sl)).flatten := (hp.mem _).2 (by rw [(onL_ok sl).len]; unfold Vx; omega)
  obtain ⟨g, hg, hv⟩ := List.mem_flatten.1 h1
  exact ⟨_, List.mem_map.2 ⟨g, hg, rfl⟩, List.mem_map.2 ⟨i, hv, at_get hi⟩⟩
 ·unfold gA
  rw [List.nodup_iff_pairwise_ne, List.pairwise_map]
  refine List.Pairwise.imp_of_mem (fun {a b} ha hb hab e => ?_) (nd_flat hp.nd).2
  have hne := (hp.gok a ha).1
  cases a with
  | nil => exact absurd rfl hne
  | cons v a =>
   obtain ⟨i, rfl, hi⟩ := all_vx ha List.mem_cons_self
   have : atI sl (i : Int) ∈ b.map (atI sl) := by rw [← e]; simp
   obtain ⟨w, hw, e2⟩ := List.mem_map.1 this
   obtain ⟨j, rfl, hj⟩ := all_vx hb hw
   have := at_eq hn hj hi e2
   subst this
   exact hab (j : Int) List.mem_cons_self hw
theorem hd_at {g : List Int} (hg : g ∈ allOf (onL sl)) : ∃ k : Nat, hdZ g = k ∧ k < sl.length ∧ (k : Int) ∈ g ∧ hdI (g.map (atI sl)) = atI sl (k : Int) := by
 have hne := ((allOf_prt (onO sl)).gok g hg).1
 cases g with
 | nil => exact absurd rfl hne
 | cons v g =>
  obtain ⟨k, rfl, hk⟩ := all_vx hg List.mem_cons_self
  exact ⟨k, rfl, hk, List.mem_cons_self, rfl⟩
theorem gA_get (sl : List Ins) (g : Nat) : (gA sl).getD g [] = ((allOf (onL sl)).getD g []).map (atI sl) := by
 unfold gA
 rw [List.getD_eq_getElem?_getD, List.getD_eq_getElem?_getD, List.getElem?_map]
 cases (allOf (onL sl))[g]? <;> rfl
theorem gA_inj (hn : (sl.map (·.d)).Nodup) (hs : insSorted sl) {g k : Nat} (hg : g < (gA sl).length) (hk : k < (gA sl).length) (e : (gA sl).getD g [] = (gA sl).getD k []) : g = k := by
 have hnd := (gA_gs hn hs).nd
 rw [List.getD_eq_getElem?_getD, List.getD_eq_getElem?_getD, List.getElem?_eq_getElem hg, List.getElem?_eq_getElem hk] at e
 exact (List.getElem_inj hnd).1 e
theorem all_getmem {g : Nat} (hg : g < (allOf (onL sl)).length) : (allOf (onL sl)).getD g [] ∈ allOf (onL sl) := by
 rw [List.getD_eq_getElem?_getD, List.getElem?_eq_getElem hg]; exact List.getElem_mem hg
theorem grp_of {y : Nat} (hy : y < sl.length) : ∃ g, g < (allOf (onL sl)).length ∧ (y : Int) ∈ (allOf (onL sl)).getD g [] := by
 have h1 : (y : Int) ∈ (allOf (onL sl)).flatten := ((allOf_prt (onO sl)).mem _).2 (by rw [(onL_ok sl).len]; unfold Vx; omega)
 exact flatAt h1
theorem free_iff (hn : (sl.map (·.d)).Nodup) (hs : insSorted sl) {T : List Nat} (hT : shutT (hngOf (onL sl)) (allOf (onL sl)).length T) {g : Nat} (hg : g < (allOf (onL sl)).length) (hgT : g ∉ T) :
  freeG (hngOf (onL sl)) (allOf (onL sl)).length T g = true ↔ F2 sl (gA sl) (T.map fun k => (gA sl).getD k []) ((gA sl).getD g []) := by
 have hp := allOf_prt (onO sl)
 have hlen : (gA sl).length = (allOf (onL sl)).length := by simp [gA]
 have hh : ∀ {a b : Nat}, hngOf (onL sl) a b = true ↔ Edg (onL sl) (allOf (onL sl)) a b := hng_iff hp (onO sl)
 rw [freeG_iff]
 constructor
 ·rintro ⟨_, h2⟩ H hH
  obtain ⟨h, hh1, rfl⟩ := List.mem_map.1 hH
  obtain ⟨k, hk, rfl⟩ := List.getElem_of_mem hh1
  have ek : (allOf (onL sl)).getD k [] = (allOf (onL sl))[k] := by rw [List.getD_eq_getElem?_getD, List.getElem?_eq_getElem hk]; rfl
  have egk : (gA sl).getD k [] = (allOf (onL sl))[k].map (atI sl) := by rw [gA_get, ek]
  by_cases hkg : k = g
  ·left; rw [← hkg, egk]
  ·by_cases hkT : k ∈ T
   ·right; left; exact List.mem_map.2 ⟨k, hkT, egk⟩
   ·right; right
    intro hdr
    rw [gA_get] at hdr
    obtain ⟨u, _, hu1, hu2, hu3⟩ := hd_at (all_getmem hg)
    obtain ⟨w, _, hw1, hw2, hw3⟩ := hd_at hh1
    rw [hu3, hw3, at_get hu1, at_get hw1, ← rch_dr hn hu1 hw1] at hdr
    have key : ∃ c, (c = g ∨ c ∈ T) ∧ (w : Int) ∈ (allOf (onL sl)).getD c [] := by
     refine Rch.stay (on := onL sl) (x := (u : Int)) (C := fun z => ∃ c, (c = g ∨ c ∈ T) ∧ z ∈ (allOf (onL sl)).getD c []) (fun a ha b hb => ?_) hdr ⟨g, .inl rfl, hu2⟩
     obtain ⟨c, hc, hac⟩ := ha
     have hclt : c < (allOf (onL sl)).length := hc.elim (fun e => e ▸ hg) fun hc => (hT c hc).1
     have hbv := (onO sl).rng a b hb
     rw [(onL_ok sl).len] at hbv
     obtain ⟨e, he, hbe⟩ := grp_of (sl := sl) (y := b.toNat) (by unfold Vx at hbv; omega)
     rw [show ((b.toNat : Nat) : Int) = b by unfold Vx at hbv; omega] at hbe
     by_cases hec : e = c
     ·exact ⟨c, hc, hec ▸ hbe⟩
     ·have hedge : hngOf (onL sl) c e = true := hh.2 ⟨a, hac, b, hb, hbe⟩
      rcases hc with rfl | hc
      ·exact ⟨e, .inr (h2 e he hec hedge), hbe⟩
      ·exact ⟨e, .inr ((hT c hc).2 e he hec hedge), hbe⟩
    obtain ⟨c, hc, hwc⟩ := key
    have : k = c := flat_uniq _ hp.nd k c (w : Int) (by rw [ek]; exact hw2) hwc
    subst this
    exact hc.elim hkg hkT
 ·intro hF
  refine ⟨hgT, fun k hk hne hedge => ?_⟩
  obtain ⟨v, hv, u, hu, huk⟩ := hh.1 hedge
  rcases hF ((gA sl).getD k []) (by rw [gA_get]; exact List.mem_map.2 ⟨_, all_getmem hk, rfl⟩) with e | e | e
  ·exact absurd (gA_inj hn hs (by omega) (by omega) e) hne
  ·obtain ⟨j, hj, e2⟩ := List.mem_map.1 e
   have := gA_inj hn hs (by have := (hT j hj).1; omega) (by omega) e2
   rw [← this]; exact hj
  ·exfalso
   apply e
   obtain ⟨a, _, ha1, ha2, ha3⟩ := hd_at (all_getmem hg)
   obtain ⟨b, _, hb1, hb2, hb3⟩ := hd_at (all_getmem hk)
   obtain ⟨i, rfl, hi⟩ := all_vx (all_getmem hg) hv
   obtain ⟨j, rfl, hj⟩ := all_vx (all_getmem hk) huk
   rw [gA_get, gA_get, ha3, hb3, at_get ha1, at_get hb1]
   have m1 := (gA_cls hn (all_getmem hg) ha1 ha2 hi).1 hv
   have m2 := (gA_cls hn (all_getmem hk) hj huk hb1).1 hb2
   exact m1.1.trans ((DR.one (List.getElem_mem hj) ((edge_iff hn hi hj).1 hu)).trans m2.1)
theorem hd_mono (hn : (sl.map (·.d)).Nodup) (hs : insSorted sl) {g k : Nat} (hg : g < (allOf (onL sl)).length) (hk : k < (allOf (onL sl)).length) (h : g < k) : insLt (hdI ((gA sl).getD g [])) (hdI ((gA sl).getD k [])) := by
 obtain ⟨a, ha0, ha1, ha2, ha3⟩ := hd_at (all_getmem hg)
 obtain ⟨b, hb0, hb1, hb2, hb3⟩ := hd_at (all_getmem hk)
 rw [gA_get, gA_get, ha3, hb3, at_get ha1, at_get hb1]
 have h1 := List.pairwise_iff_getElem.1 (sortHd_sorted (groupsF (onL sl))) g k hg hk h
 have eg : (allOf (onL sl)).getD g [] = (allOf (onL sl))[g] := by rw [List.getD_eq_getElem?_getD, List.getElem?_eq_getElem hg]; rfl
 have ek : (allOf (onL sl)).getD k [] = (allOf (onL sl))[k] := by rw [List.getD_eq_getElem?_getD, List.getElem?_eq_getElem hk]; rfl
 rw [eg] at ha0 ha2
 rw [ek] at hb0 hb2
 have h1 : hdZ (allOf (onL sl))[g] ≤ hdZ (allOf (onL sl))[k] := h1
 have hne : a ≠ b := fun e => by
  subst e
  have := flat_uniq _ (allOf_prt (onO sl)).nd g k (a : Int) (by rw [eg]; exact ha2) (by rw [ek]; exact hb2)
  omega
 exact ins_lt hn hs ha1 hb1 (by omega)
theorem told_gr (hn : (sl.map (·.d)).Nodup) (hs : insSorted sl) : ∀ i, i ≤ (allOf (onL sl)).length → Gr sl (gA sl) ((toldG (hngOf (onL sl)) (allOf (onL sl)).length i).map fun k => (gA sl).getD k [])
 | 0, _ => .nil
 | i + 1, hi => by
  have hlen : (gA sl).length = (allOf (onL sl)).length := by simp [gA]
  obtain ⟨_, _, h3, hT⟩ := line_law (onO sl) i (by omega)
  have hlt := (h3 (by omega)).2
  have hp := allOf_prt (onO sl)
  have hr : ∀ g k, g < (allOf (onL sl)).length → k < (allOf (onL sl)).length → k ≠ g → hngOf (onL sl) g k = true → rankOf (onL sl) k < rankOf (onL sl) g := fun g k hg hk hne h => rank_lt (onO sl) hg hk hne ((hng_iff hp (onO sl)).1 h)
  obtain ⟨_, n2, n3⟩ := next_free (free_ex (rankOf (onL sl)) hr (short_ex (T := toldG (hngOf (onL sl)) (allOf (onL sl)).length i) (by rw [hT.len]; omega)))
  have hnT := (freeG_iff.1 n2).1
  rw [toldG, List.map_append]
  refine .snoc (told_gr hn hs i (by omega)) ⟨?_, fun hm => ?_, (free_iff hn hs hT.shut hlt hnT).1 n2, fun H hH h1 h2 => ?_⟩
  ·show (gA sl).getD _ [] ∈ gA sl
   rw [gA_get]; exact List.mem_map.2 ⟨_, all_getmem hlt, rfl⟩
  ·obtain ⟨j, hj, e⟩ := List.mem_map.1 hm
   have := gA_inj hn hs (by have := (hT.shut j hj).1; omega) (by omega) e
   exact hnT (this ▸ hj)
  ·obtain ⟨k, hk, rfl⟩ := List.getElem_of_mem hH
   have ek : (gA sl)[k] = (gA sl).getD k [] := by rw [List.getD_eq_getElem?_getD, List.getElem?_eq_getElem hk]; rfl
   rw [ek] at h1 h2 ⊢
   have hkT : k ∉ toldG (hngOf (onL sl)) (allOf (onL sl)).length i := fun hm => h1 (List.mem_map.2 ⟨k, hm, rfl⟩)
   have hf := (free_iff hn hs hT.shut (by omega) hkT).2 h2
   rcases Nat.lt_trichotomy k (nextG (hngOf (onL sl)) (allOf (onL sl)).length (toldG (hngOf (onL sl)) (allOf (onL sl)).length i)) with h | h | h
   ·rw [n3 k h] at hf; cases hf
   ·left; rw [h]
   ·right; exact hd_mono hn hs hlt (by omega) h
theorem lineS_gr (hn : (sl.map (·.d)).Nodup) (hs : insSorted sl) : ∃ T, Gr sl (gA sl) T ∧ T.length = (gA sl).length ∧ lineS sl = T.flatten := by
 refine ⟨_, told_gr hn hs _ (Nat.le_refl _), ?_, ?_⟩
 ·obtain ⟨_, _, _, hT⟩ := line_law (onO sl) _ (Nat.le_refl (allOf (onL sl)).length)
  rw [List.length_map, hT.len]; simp [gA]
 ·unfold lineS
  rw [lineF_eq (onO sl), List.map_flatten, List.map_map]
  congr 1
  refine List.map_congr_left fun g _ => ?_
  rw [gA_get]; rfl
theorem lineK_gr (hn : (K.map (·.d)).Nodup) (hB : Gs K B) {T : List (List Ins)} (hT : Gr K B T) (hl : T.length = B.length) : lineK K = T.flatten := by
 have hsn := sortO_nodup hn
 have hss := sortO_sorted K
 obtain ⟨T2, h1, h2, h3⟩ := lineS_gr hsn hss
 have hm : ∀ x, x ∈ K ↔ x ∈ sortO K := fun x => sortO_mem.symm
 have hB2 := hB.to hm
 have hg := gA_gs hsn hss
 have hT2 := hT.to hm (C := gA (sortO K)) fun G => hB2.mem_iff hg
 unfold lineK
 rw [h3, hT2.uniq h1 (by rw [hl, h2, hB2.len hg])]
end
end Go.Proofs.YtkjhccpanedccaaGreat
namespace Go.Proofs.YtkjhccpanedccaaGreat
set_option linter.unusedVariables false
set_option linter.unusedSimpArgs false
open Go Go.Eng Go.Tar Go.Sort Go.RowKit
section
variable {l m : List Ins} {x y : Ins} {d : Dot}
theorem depsL_mem : d ∈ depsL x ↔ (0 ≤ d.rep ∧ d.rep < 7) ∧ (1 ≤ d.n ∧ d.n ≤ x.v.get d.rep.toNat) ∧ d ≠ x.d := by
 unfold depsL depsR
 simp only [List.mem_flatMap, List.mem_range, List.mem_filter, List.mem_map, Bool.not_eq_true', decide_eq_false_iff_not]
 constructor
 ·rintro ⟨r, hr, ⟨k, hk, rfl⟩, hne⟩
  refine ⟨⟨by simp only; omega, by simp only; omega⟩, ⟨by simp only; omega, ?_⟩, hne⟩
  simp only [Int.toNat_natCast]; omega
 ·rintro ⟨⟨h1, h2⟩, ⟨h3, h4⟩, h5⟩
  obtain ⟨r, n⟩ := d
  simp only at h1 h2 h3 h4
  refine ⟨r.toNat, by omega, ⟨(n - 1).toNat, by omega, ?_⟩, h5⟩
  rw [Dot.mk.injEq]
  constructor <;> omega
theorem insOne_dot (h : insOne x = true) : (0 ≤ x.d.rep ∧ x.d.rep < 7) ∧ 1 ≤ x.d.n ∧ x.d.n ≤ 1000 := by
 unfold insOne dotO at h
 simp only [Bool.and_eq_true, decide_eq_true_eq] at h
 exact ⟨⟨h.1.1.1.1.1, h.1.1.1.1.2⟩, h.1.1.1.2, h.1.1.2⟩
def q0 : Dot → Bool := isO (P7.all 0) []
theorem q0_no (h : 1 ≤ d.n) : q0 d = false := by
 unfold q0 isO
 rw [P7.get_all, decide_eq_false (by omega)]; simp
theorem q0_deps (h : d ∈ depsL x) : q0 d = false := q0_no (depsL_mem.1 h).2.1.1
theorem q0_good (hg : goodO l = true) : ∀ y ∈ l, q0 y.d = false := fun y hy => q0_no (insOne_dot ((goodO_iff.1 hg).1 y hy).1).2.1
end
end Go.Proofs.YtkjhccpanedccaaGreat
namespace Go.Proofs.YtkjhccpanedccaaGreat
set_option linter.unusedVariables false
set_option linter.unusedSimpArgs false
open Go Go.Eng Go.Tar Go.Sort
def hgB (x : Ins) (d : Dot) : Bool := !decide (x.d = d) && decide (d.n ≤ x.v.get d.rep.toNat)
def t0 (K : List Ins) (i k : Nat) : Bool := hgB (K.getD i default) (K.getD k default).d
def wsh (K : List Ins) : Nat → Nat → Nat → Bool
 | 0, i, k => t0 K i k
 | m + 1, i, k => wsh K m i k || (wsh K m i m && wsh K m m k)
def tab (K : List Ins) (i k : Nat) : Bool := wsh K K.length i k
def Dk (K : List Ins) : Prop := (K.map (·.d)).Nodup ∧ ∀ x ∈ K, 0 ≤ x.d.rep ∧ x.d.rep < 7 ∧ 1 ≤ x.d.n
section
variable {K : List Ins} {B : List (List Ins)} {i j k n m : Nat} {x y z : Ins}
theorem gd_at (h : i < K.length) : K.getD i default = K[i] := by rw [List.getD_eq_getElem?_getD, List.getElem?_eq_getElem h]; rfl
theorem hg_deps (hK : Dk K) (hz : z ∈ K) : hgB y z.d = true ↔ z.d ∈ depsL y := by
 obtain ⟨h1, h2, h3⟩ := hK.2 z hz
 rw [depsL_mem]
 unfold hgB
 simp only [Bool.and_eq_true, Bool.not_eq_true', decide_eq_false_iff_not, decide_eq_true_eq]
 exact ⟨fun ⟨a, b⟩ => ⟨⟨h1, h2⟩, ⟨h3, b⟩, fun e => a e.symm⟩, fun ⟨_, b, c⟩ => ⟨fun e => c e.symm, b.2⟩⟩
theorem wsh_sound (hK : Dk K) (hi : i < K.length) (hk : k < K.length) : ∀ {m}, m ≤ K.length → wsh K m i k = true → DR K K[i] K[k] := by
 intro m
 induction m generalizing i k with
 | zero =>
  intro _ h
  unfold wsh t0 at h
  rw [gd_at hi, gd_at hk, hg_deps hK (List.getElem_mem hk)] at h
  exact DR.one (List.getElem_mem hk) h
 | succ m ih =>
  intro hm h
  unfold wsh at h
  rw [Bool.or_eq_true, Bool.and_eq_true] at h
  rcases h with h | ⟨h1, h2⟩
  ·exact ih hi hk (by omega) h
  ·exact (ih hi (k := m) (by omega) (by omega) h1).trans (ih (i := m) (by omega) hk (by omega) h2)
theorem wsh_up : ∀ {m}, t0 K i k = true → wsh K m i k = true
 | 0, h => h
 | m + 1, h => by unfold wsh; rw [wsh_up h]; rfl
theorem wsh_closed : ∀ {m i j k}, j < m → wsh K m i j = true → wsh K m j k = true → wsh K m i k = true
 | m + 1, i, j, k, hj, h1, h2 => by
  unfold wsh at h1 h2 ⊢
  rw [Bool.or_eq_true, Bool.and_eq_true] at *
  rcases Nat.lt_or_eq_of_le (Nat.le_of_lt_succ hj) with hj | rfl
  ·rcases h1 with h1 | ⟨h1, h3⟩
   ·rcases h2 with h2 | ⟨h2, h4⟩
    ·exact .inl (wsh_closed hj h1 h2)
    ·exact .inr ⟨wsh_closed hj h1 h2, h4⟩
   ·rcases h2 with h2 | ⟨_, h4⟩
    ·exact .inr ⟨h1, wsh_closed hj h3 h2⟩
    ·exact .inr ⟨h1, h4⟩
  ·have h1 : wsh K j i j = true := h1.elim id (·.1)
   exact .inr ⟨h1, h2.elim id (·.2)⟩
theorem tab_iff (hK : Dk K) (hi : i < K.length) (hk : k < K.length) (hne : i ≠ k) : tab K i k = true ↔ DR K K[i] K[k] := by
 refine ⟨wsh_sound hK hi hk (Nat.le_refl _), fun h => ?_⟩
 have key : ∀ {y}, DR K K[i] y → ∀ k (hk : k < K.length), y = K[k] → i = k ∨ tab K i k = true := by
  intro y h
  induction h with
  | refl => exact fun k hk e => .inl (at_inj hK.1 hi hk (by rw [e]))
  | @step y z h1 hz hd ih =>
   intro k hk e
   obtain ⟨j, hj, rfl⟩ := List.getElem_of_mem (h1.mem (List.getElem_mem hi))
   right
   have h2 : tab K j k = true := wsh_up (by unfold t0; rw [gd_at hj, gd_at hk, hg_deps hK (List.getElem_mem hk), ← e]; exact hd)
   rcases ih j hj rfl with rfl | h3
   ·exact h2
   ·exact wsh_closed hj h3 h2
 exact (key h k hk rfl).resolve_left hne
def insR (x : Ins) (g : List Ins) : List Ins := g.takeWhile (fun y => decide (insLt y x)) ++ x :: g.dropWhile (fun y => decide (insLt y x))
def memG (K : List Ins) (i k : Nat) : Bool := decide (k = i) || (tab K i k && tab K k i)
def grpR (K : List Ins) (i : Nat) : Nat → List Ins
 | 0 => []
 | k + 1 => if memG K i k = true then insR (K.getD k default) (grpR K i k) else grpR K i k
def doneR (K : List Ins) : Nat → Nat → Bool
 | 0, _ => false
 | i + 1, k => doneR K i k || (!doneR K i i && memG K i k)
def groupsR (K : List Ins) : Nat → List (List Ins)
 | 0 => []
 | i + 1 => if doneR K i i = true then groupsR K i else groupsR K i ++ [grpR K i K.length]
theorem insR_mem {g : List Ins} : y ∈ insR x g ↔ y = x ∨ y ∈ g := by
 unfold insR
 conv => rhs; rw [← List.takeWhile_append_dropWhile (p := fun y => decide (insLt y x)) (l := g)]
 simp only [List.mem_append, List.mem_cons]
 constructor
 ·rintro (h | h | h)
  ·exact .inr (.inl h)
  ·exact .inl h
  ·exact .inr (.inr h)
 ·rintro (h | h | h)
  ·exact .inr (.inl h)
  ·exact .inl h
  ·exact .inr (.inr h)
theorem insR_sorted {x : Ins} : ∀ {g : List Ins}, g.Pairwise insLt → (∀ y ∈ g, y.d ≠ x.d) → (insR x g).Pairwise insLt
 | [], _, _ => by simp [insR]
 | y :: g, h, hd => by
  obtain ⟨h1, h2⟩ := List.pairwise_cons.1 h
  by_cases hy : insLt y x
  ·have := insR_sorted h2 fun z hz => hd z (List.mem_cons_of_mem _ hz)
   have e : insR x (y :: g) = y :: insR x g := by simp [insR, hy]
   rw [e]
   exact List.Pairwise.cons (fun z hz => (insR_mem.1 hz).elim (fun e => e ▸ hy) (h1 z)) this
  ·have e : insR x (y :: g) = x :: y :: g := by simp [insR, hy]
   rw [e]
   have hxy : insLt x y := Classical.byContradiction fun h3 => hd y List.mem_cons_self (insLt_same hy h3)
   exact List.Pairwise.cons (fun z hz => (List.mem_cons.1 hz).elim (fun e => e ▸ hxy) fun hz => insLt_trans hxy (h1 z hz)) h
theorem memG_iff (hK : Dk K) (hi : i < K.length) (hk : k < K.length) : memG K i k = true ↔ Mut K K[i] K[k] := by
 unfold memG Mut
 rw [Bool.or_eq_true, Bool.and_eq_true, decide_eq_true_eq]
 by_cases e : k = i
 ·subst e; exact ⟨fun _ => ⟨.refl _, .refl _⟩, fun _ => .inl rfl⟩
 ·rw [tab_iff hK hi hk (fun h => e h.symm), tab_iff hK hk hi e]
  exact ⟨fun h => h.resolve_left e, .inr⟩
theorem grpR_mem (hK : Dk K) (hi : i < K.length) : ∀ {k}, k ≤ K.length → (x ∈ grpR K i k ↔ ∃ j, ∃ hj : j < K.length, j < k ∧ x = K[j] ∧ Mut K K[i] K[j]) := by
 intro k
 induction k with
 | zero => intro _; simp [grpR]
 | succ k ih =>
  intro hk
  have ih := ih (by omega)
  have hm := memG_iff hK hi (k := k) (by omega)
  unfold grpR
  split
  ·rename_i h
   rw [insR_mem, ih, gd_at (by omega)]
   constructor
   ·rintro (e | ⟨j, hj, h1, h2⟩)
    ·exact ⟨k, by omega, by omega, e, hm.1 h⟩
    ·exact ⟨j, hj, by omega, h2⟩
   ·rintro ⟨j, hj, h1, h2, h3⟩
    by_cases e : j = k
    ·subst e; exact .inl h2
    ·exact .inr ⟨j, hj, by omega, h2, h3⟩
  ·rename_i h
   rw [ih]
   constructor
   ·rintro ⟨j, hj, h1, h2⟩; exact ⟨j, hj, by omega, h2⟩
   ·rintro ⟨j, hj, h1, h2, h3⟩
    by_cases e : j = k
    ·subst e; exact absurd (hm.2 h3) h
    ·exact ⟨j, hj, by omega, h2, h3⟩
theorem grpR_sorted (hK : Dk K) (hi : i < K.length) : ∀ {k}, k ≤ K.length → (grpR K i k).Pairwise insLt
 | 0, _ => List.Pairwise.nil
 | k + 1, hk => by
  have ih := grpR_sorted hK hi (k := k) (by omega)
  unfold grpR
  split
  ·refine insR_sorted ih fun y hy e => ?_
   obtain ⟨j, hj, h1, rfl, _⟩ := (grpR_mem hK hi (by omega)).1 hy
   rw [gd_at (by omega)] at e
   have := at_inj hK.1 hj (by omega) e
   omega
  ·exact ih
theorem mut_trans (h1 : Mut K x y) (h2 : Mut K y z) : Mut K x z := ⟨h1.1.trans h2.1, h2.2.trans h1.2⟩
theorem doneR_iff (hK : Dk K) (hk : k < K.length) : ∀ {i}, i ≤ K.length → (doneR K i k = true ↔ ∃ j, ∃ hj : j < K.length, j < i ∧ Mut K K[j] K[k]) := by
 intro i
 induction i generalizing k with
 | zero => intro _; simp [doneR]
 | succ i ih =>
  intro hi
  unfold doneR
  rw [Bool.or_eq_true, Bool.and_eq_true, Bool.not_eq_true', ih hk (by omega), memG_iff hK (by omega) hk]
  constructor
  ·rintro (⟨j, hj, h1, h2⟩ | ⟨_, h⟩)
   ·exact ⟨j, hj, by omega, h2⟩
   ·exact ⟨i, by omega, by omega, h⟩
  ·rintro ⟨j, hj, h1, h2⟩
   by_cases e : j = i
   ·subst e
    by_cases hd : doneR K j j = true
    ·obtain ⟨u, hu, h3, h4⟩ := (ih hj (by omega)).1 hd
     exact .inl ⟨u, hu, h3, mut_trans h4 h2⟩
    ·exact .inr ⟨by simpa using hd, h2⟩
   ·exact .inl ⟨j, hj, by omega, h2⟩
theorem groupsR_inv (hK : Dk K) : ∀ {i}, i ≤ K.length → (∀ G ∈ groupsR K i, ∃ j, j < i ∧ G = grpR K j K.length) ∧ (groupsR K i).Nodup ∧ ∀ k, ∀ hk : k < K.length, k < i → ∃ G ∈ groupsR K i, K[k] ∈ G
 | 0, _ => ⟨fun _ h => absurd h (by simp [groupsR]), by simp [groupsR], fun _ _ h => absurd h (by omega)⟩
 | i + 1, hi => by
  obtain ⟨h1, h2, h3⟩ := groupsR_inv hK (i := i) (by omega)
  have hii : i < K.length := by omega
  have hself : K[i] ∈ grpR K i K.length := (grpR_mem hK hii (Nat.le_refl _)).2 ⟨i, hii, hii, rfl, .refl _, .refl _⟩
  have hd := doneR_iff hK hii (i := i) (by omega)
  unfold groupsR
  split
  ·rename_i h
   refine ⟨fun G hG => (h1 G hG).imp fun j ⟨a, b⟩ => ⟨by omega, b⟩, h2, fun k hk hki => ?_⟩
   by_cases e : k = i
   ·subst e
    obtain ⟨j, hj, h4, h5⟩ := hd.1 h
    obtain ⟨G, hG, hjG⟩ := h3 j hj h4
    refine ⟨G, hG, ?_⟩
    obtain ⟨u, hu, rfl⟩ := h1 G hG
    obtain ⟨v, hv, _, e, h6⟩ := (grpR_mem hK (by omega) (Nat.le_refl _)).1 hjG
    exact (grpR_mem hK (by omega) (Nat.le_refl _)).2 ⟨k, hk, hk, rfl, mut_trans (e ▸ h6) h5⟩
   ·exact h3 k hk (by omega)
  ·rename_i h
   refine ⟨fun G hG => ?_, ?_, fun k hk hki => ?_⟩
   ·rcases List.mem_append.1 hG with hG | hG
    ·exact (h1 G hG).imp fun j ⟨a, b⟩ => ⟨by omega, b⟩
    ·exact ⟨i, by omega, by simpa using hG⟩
   ·rw [List.nodup_append]
    refine ⟨h2, by simp, fun G hG H hH e => ?_⟩
    simp only [List.mem_singleton] at hH
    obtain ⟨u, hu, hGu⟩ := h1 G hG
    rw [e, hH] at hGu
    rw [hGu] at hself
    obtain ⟨v, hv, _, e2, h6⟩ := (grpR_mem hK (by omega) (Nat.le_refl _)).1 hself
    exact h (hd.2 ⟨u, by omega, hu, e2 ▸ h6⟩)
   ·by_cases e : k = i
    ·subst e; exact ⟨_, List.mem_append_right _ (by simp), hself⟩
    ·obtain ⟨G, hG, hk2⟩ := h3 k hk (by omega)
     exact ⟨G, List.mem_append_left _ hG, hk2⟩
theorem groupsR_gs (hK : Dk K) : Gs K (groupsR K K.length) := by
 obtain ⟨h1, h2, h3⟩ := groupsR_inv hK (Nat.le_refl _)
 refine ⟨fun G hG e => ?_, fun G hG => ?_, fun G hG x hx y => ?_, fun x hx => ?_, h2⟩
 ·obtain ⟨j, hj, rfl⟩ := h1 G hG
  have : K[j] ∈ grpR K j K.length := (grpR_mem hK hj (Nat.le_refl _)).2 ⟨j, hj, hj, rfl, .refl _, .refl _⟩
  rw [e] at this; cases this
 ·obtain ⟨j, hj, rfl⟩ := h1 G hG
  exact grpR_sorted hK hj (Nat.le_refl _)
 ·obtain ⟨j, hj, rfl⟩ := h1 G hG
  rw [grpR_mem hK hj (Nat.le_refl _)] at hx ⊢
  obtain ⟨u, hu, _, rfl, h4⟩ := hx
  constructor
  ·rintro ⟨v, hv, _, rfl, h5⟩
   exact ⟨List.getElem_mem hv, mut_trans h4.symm h5⟩
  ·rintro ⟨hy, h5⟩
   obtain ⟨v, hv, rfl⟩ := List.getElem_of_mem hy
   exact ⟨v, hv, hv, rfl, mut_trans h4 h5⟩
 ·obtain ⟨k, hk, rfl⟩ := List.getElem_of_mem hx
  exact h3 k hk hk
def hdB (B : List (List Ins)) (i : Nat) : Ins := hdI (B.getD i [])
def plN (K : List Ins) (x : Ins) : Nat := (plcO K x.d).getD 0
def hkB (K : List Ins) (B : List (List Ins)) (i k : Nat) : Bool := tab K (plN K (hdB B i)) (plN K (hdB B k))
def frB (K : List Ins) (B : List (List Ins)) (T : List Nat) (i : Nat) : Nat → Bool
 | 0 => true
 | k + 1 => frB K B T i k && (decide (k = i) || decide (k ∈ T) || !hkB K B i k)
def bsR (K : List Ins) (B : List (List Ins)) (T : List Nat) : Nat → Int
 | 0 => -1
 | i + 1 => if i ∈ T ∨ (0 ≤ bsR K B T i ∧ ¬ insLt (hdB B i) (hdB B (bsR K B T i).toNat)) then bsR K B T i else if frB K B T i B.length = true then i else bsR K B T i
def tdR (K : List Ins) (B : List (List Ins)) : Nat → List Nat
 | 0 => []
 | m + 1 => tdR K B m ++ [(bsR K B (tdR K B m) B.length).toNat]
def mpB (B : List (List Ins)) (T : List Nat) : List (List Ins) := T.map fun k => B.getD k []
theorem frB_iff {T : List Nat} : frB K B T i n = true ↔ ∀ k, k < n → k = i ∨ k ∈ T ∨ hkB K B i k = false := by
 induction n with
 | zero => simp [frB]
 | succ n ih =>
  unfold frB
  simp only [Bool.and_eq_true, Bool.or_eq_true, ih, decide_eq_true_eq, Bool.not_eq_true']
  constructor
  ·rintro ⟨h1, h2⟩ k hk
   by_cases e : k = n
   ·subst e; exact h2.elim (fun h => h.elim .inl fun h => .inr (.inl h)) fun h => .inr (.inr h)
   ·exact h1 k (by omega)
  ·exact fun h => ⟨fun k hk => h k (by omega), (h n (by omega)).elim (fun h => .inl (.inl h)) fun h => h.elim (fun h => .inl (.inr h)) .inr⟩
theorem gB_at (h : i < B.length) : B.getD i [] = B[i] := by rw [List.getD_eq_getElem?_getD, List.getElem?_eq_getElem h]; rfl
theorem gB_inj (hB : Gs K B) (hi : i < B.length) (hj : j < B.length) (e : B.getD i [] = B.getD j []) : i = j := by
 rw [gB_at hi, gB_at hj] at e
 exact (List.getElem_inj hB.nd).1 e
theorem hdB_mem (hB : Gs K B) (hi : i < B.length) : hdB B i ∈ K := by
 unfold hdB
 have hm : B.getD i [] ∈ B := by rw [gB_at hi]; exact List.getElem_mem hi
 have := hdI_mem (hB.ne _ hm)
 exact ((hB.cls _ hm _ this _).1 this).1
theorem plN_at (hK : Dk K) (hx : x ∈ K) : ∃ h : plN K x < K.length, K[plN K x] = x := by
 obtain ⟨k, hk, rfl⟩ := List.getElem_of_mem hx
 have := plcO_at hK.1 hk
 unfold plN
 rw [this]
 exact ⟨hk, rfl⟩
theorem hdB_inj (hK : Dk K) (hB : Gs K B) (hi : i < B.length) (hj : j < B.length) (e : hdB B i = hdB B j) : i = j := by
 have h1 : B.getD i [] ∈ B := by rw [gB_at hi]; exact List.getElem_mem hi
 have h2 : B.getD j [] ∈ B := by rw [gB_at hj]; exact List.getElem_mem hj
 refine gB_inj hB hi hj (hB.same h1 h2 (hdI_mem (hB.ne _ h1)) ?_)
 show hdB B i ∈ _
 rw [e]; exact hdI_mem (hB.ne _ h2)
theorem hkB_iff (hK : Dk K) (hB : Gs K B) (hi : i < B.length) (hj : j < B.length) (hne : i ≠ j) : hkB K B i j = true ↔ DR K (hdB B i) (hdB B j) := by
 obtain ⟨a1, a2⟩ := plN_at hK (hdB_mem hB hi)
 obtain ⟨b1, b2⟩ := plN_at hK (hdB_mem hB hj)
 unfold hkB
 rw [tab_iff hK a1 b1, a2, b2]
 intro e
 have : hdB B i = hdB B j := by rw [← a2, ← b2]; simp only [e]
 exact hne (hdB_inj hK hB hi hj this)
theorem mpB_mem (hB : Gs K B) {T : List Nat} (hT : ∀ k ∈ T, k < B.length) (hi : i < B.length) : B.getD i [] ∈ mpB B T ↔ i ∈ T := by
 constructor
 ·intro h
  obtain ⟨k, hk, e⟩ := List.mem_map.1 h
  rw [← gB_inj hB (hT k hk) hi e]; exact hk
 ·exact fun h => List.mem_map.2 ⟨i, h, rfl⟩
theorem fr_iff (hK : Dk K) (hB : Gs K B) {T : List Nat} (hT : ∀ k ∈ T, k < B.length) (hi : i < B.length) : frB K B T i B.length = true ↔ F2 K B (mpB B T) (B.getD i []) := by
 rw [frB_iff]
 constructor
 ·intro h H hH
  obtain ⟨k, hk, rfl⟩ := List.getElem_of_mem hH
  by_cases e : k = i
  ·subst e; left; rw [gB_at hk]
  ·rcases h k hk with h | h | h
   ·exact absurd h e
   ·right; left; rw [← gB_at hk]; exact (mpB_mem hB hT hk).2 h
   ·right; right
    intro hd
    have := (hkB_iff hK hB hi hk (fun h => e h.symm)).2 (by unfold hdB; rw [gB_at hk]; exact hd)
    rw [h] at this; cases this
 ·intro h k hk
  rcases h (B.getD k []) (by rw [gB_at hk]; exact List.getElem_mem hk) with h | h | h
  ·exact .inl (gB_inj hB hk hi h)
  ·exact .inr (.inl ((mpB_mem hB hT hk).1 h))
  ·by_cases e : k = i
   ·exact .inl e
   ·right; right
    cases hb : hkB K B i k with
    | false => rfl
    | true => exact absurd ((hkB_iff hK hB hi hk (fun h => e h.symm)).1 hb) h
def Bst (K : List Ins) (B : List (List Ins)) (T : List Nat) (i : Nat) (b : Int) : Prop :=
 (b = -1 ∧ ∀ j, j < i → j ∈ T ∨ frB K B T j B.length = false) ∨ ∃ u : Nat, b = u ∧ u < i ∧ u ∉ T ∧ frB K B T u B.length = true ∧ ∀ j, j < i → j ∉ T → frB K B T j B.length = true → j = u ∨ insLt (hdB B u) (hdB B j)
theorem hd_tot (hK : Dk K) (hB : Gs K B) (hi : i < B.length) (hj : j < B.length) (h : ¬ insLt (hdB B i) (hdB B j)) : i = j ∨ insLt (hdB B j) (hdB B i) := by
 by_cases h2 : insLt (hdB B j) (hdB B i)
 ·exact .inr h2
 ·exact .inl (hdB_inj hK hB hi hj (ins_inj hK.1 (hdB_mem hB hi) (hdB_mem hB hj) (insLt_same h h2)))
theorem bsR_inv (hK : Dk K) (hB : Gs K B) {T : List Nat} : ∀ {i}, i ≤ B.length → Bst K B T i (bsR K B T i)
 | 0, _ => .inl ⟨rfl, fun _ h => absurd h (by omega)⟩
 | i + 1, hi => by
  have ih := bsR_inv hK hB (T := T) (i := i) (by omega)
  unfold bsR
  split
  ·rename_i h
   rcases ih with ⟨e, h1⟩ | ⟨u, e, h1, h2, h3, h4⟩
   ·refine .inl ⟨e, fun j hj => ?_⟩
    by_cases ej : j = i
    ·subst ej; exact .inl (h.resolve_right (by omega))
    ·exact h1 j (by omega)
   ·refine .inr ⟨u, e, by omega, h2, h3, fun j hj hjT hf => ?_⟩
    by_cases ej : j = i
    ·subst ej
     have := (h.resolve_left hjT).2
     rw [e, Int.toNat_natCast] at this
     exact hd_tot hK hB (by omega) (by omega) this
    ·exact h4 j (by omega) hjT hf
  ·rename_i h
   have hiT : i ∉ T := fun hm => h (.inl hm)
   split
   ·rename_i hf
    refine .inr ⟨i, rfl, by omega, hiT, hf, fun j hj hjT hfj => ?_⟩
    by_cases ej : j = i
    ·exact .inl ej
    ·right
     rcases ih with ⟨e, h1⟩ | ⟨u, e, h1, h2, h3, h4⟩
     ·rcases h1 j (by omega) with h5 | h5
      ·exact absurd h5 hjT
      ·rw [hfj] at h5; cases h5
     ·have hlt : insLt (hdB B i) (hdB B u) := Classical.byContradiction fun hn => h (.inr ⟨by omega, by rw [e, Int.toNat_natCast]; exact hn⟩)
      rcases h4 j (by omega) hjT hfj with rfl | h5
      ·exact hlt
      ·exact insLt_trans hlt h5
   ·rename_i hf
    rcases ih with ⟨e, h1⟩ | ⟨u, e, h1, h2, h3, h4⟩
    ·refine .inl ⟨e, fun j hj => ?_⟩
     by_cases ej : j = i
     ·subst ej; exact .inr (by simpa using hf)
     ·exact h1 j (by omega)
    ·refine .inr ⟨u, e, by omega, h2, h3, fun j hj hjT hfj => ?_⟩
     by_cases ej : j = i
     ·subst ej; exact absurd hfj hf
     ·exact h4 j (by omega) hjT hfj
theorem pick_ex (hn : (K.map (·.d)).Nodup) (hB : Gs K B) {T : List (List Ins)} (hT : Gr K B T) (hl : T.length < B.length) : ∃ G, PkG K B T G := by
 have hsn := sortO_nodup hn
 have hss := sortO_sorted K
 have hm : ∀ x, x ∈ K ↔ x ∈ sortO K := fun x => sortO_mem.symm
 have hB2 := hB.to hm
 have hg := gA_gs hsn hss
 have e := hB2.len hg
 have e2 : (gA (sortO K)).length = (allOf (onL (sortO K))).length := by simp [gA]
 have h1 := told_gr hsn hss (T.length + 1) (by omega)
 have hT2 := hT.to hm (C := gA (sortO K)) fun G => hB2.mem_iff hg
 obtain ⟨_, _, _, hTl⟩ := line_law (onO (sortO K)) T.length (by omega)
 rw [toldG, List.map_append, List.map_singleton] at h1
 have key : ∀ {S : List (List Ins)} {G : List Ins}, Gr (sortO K) (gA (sortO K)) (S ++ [G]) → S.length = T.length → PkG K B T G := by
  intro S G h hlen
  generalize hX : S ++ [G] = X at h
  cases h with
  | nil => simp at hX
  | @snoc S2 G2 h5 h6 =>
   obtain ⟨rfl, e⟩ := List.append_inj' hX rfl
   have e : G = G2 := by simpa using e
   subst e
   have := h5.uniq hT2 hlen
   subst this
   exact h6.to (fun x => (hm x).symm) fun G => (hB2.mem_iff hg).symm
 exact ⟨_, key h1 (by rw [List.length_map, hTl.len])⟩
structure TdI (K : List Ins) (B : List (List Ins)) (m : Nat) : Prop where
 rng : ∀ k ∈ tdR K B m, k < B.length
 len : (tdR K B m).length = m
 gr : Gr K B (mpB B (tdR K B m))
theorem td_best (hK : Dk K) (hB : Gs K B) (h : TdI K B m) (hm : m < B.length) : ∃ u : Nat, bsR K B (tdR K B m) B.length = u ∧ u < B.length ∧ u ∉ tdR K B m ∧ PkG K B (mpB B (tdR K B m)) (B.getD u []) := by
 have hb := bsR_inv hK hB (T := tdR K B m) (Nat.le_refl B.length)
 obtain ⟨G, hG, hGT, hGF, _⟩ := pick_ex hK.1 hB h.gr (by unfold mpB; rw [List.length_map, h.len]; exact hm)
 obtain ⟨g, hg, rfl⟩ := List.getElem_of_mem hG
 rw [← gB_at hg] at hGT hGF
 have hgf := (fr_iff hK hB h.rng hg).2 hGF
 have hgT : g ∉ tdR K B m := fun hx => hGT ((mpB_mem hB h.rng hg).2 hx)
 rcases hb with ⟨_, h1⟩ | ⟨u, e, h1, h2, h3, h4⟩
 ·rcases h1 g hg with h | h
  ·exact absurd h hgT
  ·rw [hgf] at h; cases h
 ·refine ⟨u, e, h1, h2, by rw [gB_at h1]; exact List.getElem_mem h1, fun hx => h2 ((mpB_mem hB h.rng h1).1 hx), (fr_iff hK hB h.rng h1).1 h3, fun H hH hHT hHF => ?_⟩
  obtain ⟨j, hj, rfl⟩ := List.getElem_of_mem hH
  rw [← gB_at hj] at hHT hHF ⊢
  rcases h4 j hj (fun hx => hHT ((mpB_mem hB h.rng hj).2 hx)) ((fr_iff hK hB h.rng hj).2 hHF) with rfl | h5
  ·exact .inl rfl
  ·exact .inr h5
theorem td_inv (hK : Dk K) (hB : Gs K B) : ∀ {m}, m ≤ B.length → TdI K B m
 | 0, _ => ⟨fun _ h => absurd h (by simp [tdR]), rfl, .nil⟩
 | m + 1, hm => by
  have ih := td_inv hK hB (m := m) (by omega)
  obtain ⟨u, e, h1, h2, h3⟩ := td_best hK hB ih (by omega)
  have et : tdR K B (m + 1) = tdR K B m ++ [u] := by rw [tdR, e, Int.toNat_natCast]
  refine ⟨?_, ?_, ?_⟩
  ·rw [et]
   intro k hk
   rcases List.mem_append.1 hk with hk | hk
   ·exact ih.rng k hk
   ·rw [List.mem_singleton] at hk; omega
  ·rw [et, List.length_append, ih.len]; rfl
  ·rw [et, mpB, List.map_append]
   exact .snoc ih.gr h3
def lineR (K : List Ins) : List Ins := (mpB (groupsR K K.length) (tdR K (groupsR K K.length) (groupsR K K.length).length)).flatten
theorem lineR_eq (hK : Dk K) {K' : List Ins} (hn : (K'.map (·.d)).Nodup) (hp : ∀ x, x ∈ K ↔ x ∈ K') : lineR K = lineK K' := by
 have hB := groupsR_gs hK
 have h := td_inv hK hB (Nat.le_refl _)
 exact (lineK_gr hn (hB.to hp) (h.gr.to hp fun _ => Iff.rfl) (by unfold mpB; rw [List.length_map, h.len])).symm
def Shut (l : List Ins) : Prop := ∀ x ∈ l, ∀ d ∈ depsL x, ∃ y ∈ l, y.d = d
theorem lineR_top {l : List Ins} (hg : goodO l = true) (hs : K.Sublist l) (hk : ∀ x ∈ keptO (isO (P7.all 0) []) l, x ∈ K) (hc : Shut K) : (lineR K).map (·.d) = lineTop (P7.all 0) [] l := by
 obtain ⟨hg1, hg2, hg3⟩ := goodO_iff.1 hg
 have hdk : ∀ x ∈ l, 0 ≤ x.d.rep ∧ x.d.rep < 7 ∧ 1 ≤ x.d.n := fun x hx => by
  have h := insOne_dot (hg1 x hx).1
  exact ⟨h.1.1, h.1.2, h.2.1⟩
 have hq := q0_good hg
 unfold q0 at hq
 have hK : Dk K := ⟨hg2.sublist (hs.map _), fun x hx => hdk x (hs.subset hx)⟩
 have hf : l.filter (fun x => !isO (P7.all 0) [] x.d) = l := List.filter_eq_self.2 fun x hx => by rw [hq x hx]; rfl
 unfold lineTop
 rw [if_pos hg, lineO_eq, hf, lineR_eq hK (kept_nodup hg2) fun x => ⟨fun hx => kept_great (C := fun x => x ∈ K) hg2 hq (fun x hx => hs.subset hx) (fun x hx d hd => .inr (hc x hx d hd)) hx, hk x⟩]
theorem kept_lack {l : List Ins} (hx : x ∈ keptO (isO (P7.all 0) []) l) {d : Dot} (hd : d ∈ depsL x) (hk : ∀ x ∈ keptO (isO (P7.all 0) []) l, x ∈ K) : ∃ y ∈ K, y.d = d := by
 rcases kept_closed hx hd with h | ⟨y, hy, e⟩
 ·have := q0_deps hd
  unfold q0 at this
  rw [this] at h; cases h
 ·exact ⟨y, hk y hy, e⟩
end
end Go.Proofs.YtkjhccpanedccaaGreat
