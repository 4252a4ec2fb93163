/- Leaders whose table's place is named. -/
import Derived.Test.YtpihhlaiofkmdaaCTabs
namespace Go.Proofs.Ytpihhlaiofkmdaa
set_option linter.unusedVariables false
set_option linter.unusedSimpArgs false
open Go Go.Eng

section
variable {W0 W : World} {L L' : List Asn} {q t : Nat} {X : LX} {L1 : List Asn}
theorem leadGotT (e : X.t = t) {T : Tbl} {fr : Int} {a : Ans BSl} {k : Value → World → Prop} (h : St W0 L W) [ht : Tk (ldc q) L X L1] [ht2 : Tk (tb t) L1 T L'] [hr : Rd W0 (many fch X.B :: L1) a.rc.cmd.a B8 a.rc.cmd.bs] (hl : a.rc.cmd.bs.length < 1099511627776)
    (hk : ∀ (X' : LX) W', X'.t = t → X'.abs = (X.abs.got T fr (a.map BSl.bs)).1.1 → St W0 (ldc q X' :: tb t (X.abs.got T fr (a.map BSl.bs)).1.2 :: L') W' → k (.bool (X.abs.got T fr (a.map BSl.bs)).2) W') :
    callK PR F_lead_Lead_Got [.pointer (some ⟨q, 0, none⟩), .int .i64 fr, .agg #[.bool a.ok, .int .i64 a.bal.1, .int .i64 a.bal.2, .int .i64 a.rc.st, a.rc.cmd.v, .int .i64 a.rc.seq, .int .i64 a.rc.deps.x0, .int .i64 a.rc.deps.x1, .int .i64 a.rc.deps.x2, .int .i64 a.rc.deps.x3, .int .i64 a.rc.deps.x4, .int .i64 a.rc.deps.x5, .int .i64 a.rc.deps.x6, .int .i64 a.rc.bal.1, .int .i64 a.rc.bal.2, .int .i64 a.rc.ab.1, .int .i64 a.rc.ab.2]] k W := by
  subst e; exact leadGot h hl hk
theorem leadSlowT (e : X.t = t) {T : Tbl} {k : Value → World → Prop} (h : St W0 L W) [ht : Tk (ldc q) L X L1] [ht2 : Tk (tb t) L1 T L']
    (hk : ∀ (X' : LX) W', X'.t = t → X'.abs = (X.abs.slow T).1.1 → St W0 (ldc q X' :: tb t (X.abs.slow T).1.2 :: L') W' → k (.bool (X.abs.slow T).2) W') : callK PR F_lead_Lead_Slow [.pointer (some ⟨q, 0, none⟩)] k W := by
  subst e; exact leadSlow h hk
end
end Go.Proofs.Ytpihhlaiofkmdaa
