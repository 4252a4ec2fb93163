/- Own engine: more of rows. -/
import Derived.Test.YtmojfpaagokckaaSl
namespace Go.Eng
set_option linter.unusedVariables false
set_option linter.unusedSimpArgs false
open Go Go.RowKit
section
variable {P : Program} {W0 W W' : World} {L L' : List Asn}
theorem St.left {l rest : List Asn} (h : St W0 (l ++ rest) W) : St W0 l W := by
  obtain ⟨hb, p, hs, ho⟩ := h
  obtain ⟨h1, h2, hd, rfl, hl, hl'⟩ := sep_append.1 hs
  exact ⟨hb, h1, hl, fun b o hbo => ho b o (by simp [PH.join, hbo])⟩
theorem St.one {q : Nat} {cs : List Value} {T : TypeId} {L1 : List Asn} (h : St W0 L W) [h1 : Ck q L cs T L1] : St W0 [Eng.cells q cs T] W := St.left (l := [_]) (rest := L1) (h.perm h1.perm)
theorem St.two {q p : Nat} {cs ds : List Value} {T U : TypeId} {L1 L2 : List Asn} (h : St W0 L W) [h1 : Ck q L cs T L1] [h2 : Ck p L1 ds U L2] : St W0 [Eng.cells q cs T, Eng.cells p ds U] W :=
  St.left (l := [_, _]) (rest := L2) ((h.perm h1.perm).ent (ent.cons _ (ent.perm h2.perm)))
end
end Go.Eng
