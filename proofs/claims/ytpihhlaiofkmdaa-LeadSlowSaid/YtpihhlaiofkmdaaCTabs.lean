/- Seven tables in an array. -/
import Derived.Test.YtpihhlaiofkmdaaCLead8
namespace Go.Proofs.Ytpihhlaiofkmdaa
set_option linter.unusedVariables false
set_option linter.unusedSimpArgs false
open Go Go.Eng

abbrev tptr (p : Nat) : Value := .pointer (some ⟨p, 0, none⟩)
def tps (us : List Nat) : List Value := us.map tptr ++ List.replicate (7 - us.length) (.pointer none)
theorem tps_len {us : List Nat} (h : us.length ≤ 7) : (tps us).length = 7 := by simp [tps]; omega
theorem tps_set {us : List Nat} (h : us.length < 7) (p : Nat) : stL (tps us) us.length [tptr p] = tps (us ++ [p]) := by
  have e : List.replicate (7 - us.length) (Value.pointer none) = .pointer none :: List.replicate (7 - (us.length + 1)) (.pointer none) := by
    rw [show 7 - us.length = (7 - (us.length + 1)) + 1 by omega]; rfl
  rw [stL_eq _ _ _ (by rw [tps_len (by omega)]; simp; omega)]
  unfold tps
  rw [List.take_left' (by simp), e]
  simp [List.drop_append]
theorem tps_get {us : List Nat} {i p : Nat} (h : us[i]? = some p) : getL false (tps us) i 1 = some (tptr p) := by
  show lget (tps us) i = _
  rw [lget_eq]
  unfold tps
  have hi : i < us.length := (List.getElem?_eq_some_iff.1 h).1
  rw [List.getElem?_append_left (by simpa using hi), List.getElem?_map, h]
  rfl
theorem perm_erase {α : Type} {l : List α} {i : Nat} (h : i < l.length) : (l[i] :: l.eraseIdx i).Perm l := by
  have e : l = l.take i ++ l[i] :: l.drop (i + 1) := by rw [← List.drop_eq_getElem_cons h, List.take_append_drop]
  have e2 : l.eraseIdx i = l.take i ++ l.drop (i + 1) := List.eraseIdx_eq_take_drop_succ l i
  rw [e2]
  exact (List.perm_middle.symm).trans (List.Perm.of_eq e.symm)
def tbs (us : List (Nat × Tbl)) : Asn := many (fun e => tb e.1 e.2) us
section
variable {W0 W : World} {L L' : List Asn}
theorem tbs_nil : ent L (tbs [] :: L) := many_nil
theorem tbs_cons {p : Nat} {T : Tbl} {us : List (Nat × Tbl)} : ent (tb p T :: tbs us :: L) (tbs (us ++ [(p, T)]) :: L) :=
  (many_uncons (F := fun e : Nat × Tbl => tb e.1 e.2) (p, T) us).trans (many_perm (List.perm_append_singleton (p, T) us).symm)
theorem tbs_take {us : List (Nat × Tbl)} {i : Nat} {e : Nat × Tbl} (h : us[i]? = some e) : ent (tbs us :: L) (tb e.1 e.2 :: tbs (us.eraseIdx i) :: L) := by
  obtain ⟨hi, rfl⟩ := List.getElem?_eq_some_iff.1 h
  exact (many_perm (perm_erase hi).symm).trans (many_cons (F := fun e : Nat × Tbl => tb e.1 e.2) _ _)
theorem tbs_put {us : List (Nat × Tbl)} {i : Nat} {e : Nat × Tbl} (hi : i < us.length) : ent (tb e.1 e.2 :: tbs (us.eraseIdx i) :: L) (tbs (us.set i e) :: L) := by
  have h := tbs_take (L := L) (us := us.set i e) (i := i) (e := e) (by simp [hi])
  have h2 : ((us.set i e)[i]'(by simpa using hi) :: (us.set i e).eraseIdx i).Perm (us.set i e) := perm_erase _
  rw [List.getElem_set_self, List.eraseIdx_set_eq] at h2
  exact (many_uncons (F := fun e : Nat × Tbl => tb e.1 e.2) _ _).trans (many_perm h2)
theorem tabDo {us : List (Nat × Tbl)} {i : Nat} {e : Nat × Tbl} (he : us[i]? = some e) {m : Msg BSl} {k : Value → World → Prop} (h : St W0 L W) [ht : Tk tbs L us L'] [hr : Rd W0 L' m.cmd.a B8 m.cmd.bs] (hl : m.cmd.bs.length < 1099511627776)
    (hk : ∀ (x : Ans BSl) W', x.rc.cmd.bs.length < 1099511627776 → x.map BSl.bs = (tdo e.2 (m.map BSl.bs)).2.1 → St W0 (fch x.rc.cmd :: tbs (us.set i (e.1, (tdo e.2 (m.map BSl.bs)).1)) :: L') W' → k (.tuple #[.agg #[.bool x.ok, .int .i64 x.bal.1, .int .i64 x.bal.2, .int .i64 x.rc.st, x.rc.cmd.v, .int .i64 x.rc.seq, .int .i64 x.rc.deps.x0, .int .i64 x.rc.deps.x1, .int .i64 x.rc.deps.x2, .int .i64 x.rc.deps.x3, .int .i64 x.rc.deps.x4, .int .i64 x.rc.deps.x5, .int .i64 x.rc.deps.x6, .int .i64 x.rc.bal.1, .int .i64 x.rc.bal.2, .int .i64 x.rc.ab.1, .int .i64 x.rc.ab.2], .int .i64 (tdo e.2 (m.map BSl.bs)).2.2]) W') :
    callK PR F_inst_Table_Do [tptr e.1, .agg #[.int .i64 m.kind, .int .i64 m.dot.rep, .int .i64 m.dot.n, .int .i64 m.bal.1, .int .i64 m.bal.2, m.cmd.v, .int .i64 m.seq, .int .i64 m.deps.x0, .int .i64 m.deps.x1, .int .i64 m.deps.x2, .int .i64 m.deps.x3, .int .i64 m.deps.x4, .int .i64 m.deps.x5, .int .i64 m.deps.x6]] k W := by
  have h := (h.perm ht.perm).ent (tbs_take he)
  have hT := tb_tok (p := e.1) (T := e.2) (L' := tbs (us.eraseIdx i) :: L') (ht := ⟨List.Perm.refl _⟩) h
  haveI : Tk (tb e.1) (tb e.1 e.2 :: tbs (us.eraseIdx i) :: L') e.2 (tbs (us.eraseIdx i) :: L') := ⟨List.Perm.refl _⟩
  refine instDo (p := e.1) (T := e.2) (m := m) (L' := tbs (us.eraseIdx i) :: L') h hl fun x W' hx h => ?_
  refine hk x W' ?_ hx (h.ent (ent.cons _ (tbs_put (e := (e.1, _)) (List.getElem?_eq_some_iff.1 he).1)))
  have h1 : x.rc.cmd.bs.length = (tdo e.2 (m.map BSl.bs)).2.1.rc.cmd.length := congrArg (fun x : Ans Bs => x.rc.cmd.length) hx
  have h2 := tdo_len hT (m.map BSl.bs)
  omega
end
end Go.Proofs.Ytpihhlaiofkmdaa
