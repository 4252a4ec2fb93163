/-
  No cell of these rows narrows 'for every input' (looked for: loops, veiled, ifaces, maps, wideKeys, modest, calm, conditions, laid).
  DERIVED. THE GIVEN ROWS OF THIS SEAT. 5 by the template 'for every input the law returns true; each argument reads behind the call as it read before'; 0 by the template 'total and deterministic' (their statements: YtpihhlaiofkmdaaTotals.lean).
  GIVEN WITH THE SEED: the statements are not yours to turn. If you find one false, say at which input.
  Laid BY PROGRAM, IN A SANDBOX (cutbox-rows.mjs): the forced cells as the released guide's own fill.sh prints them over the translation 2045e4153e85f86f… (all of the seat's roots in one cut). By AI agents, Wed Nov 11 2026. No macro, syntax, notation, axiom, sorry.
-/
import Derived.Test.YtpihhlaiofkmdaaChecked
import GoSem.Claim
import GoSem.ClaimJoined
import GoSem.ClaimMapViews
import Derived.JoinedTies
import Derived.KernelRfl
namespace Go.Proofs.Ytpihhlaiofkmdaa
/- THE CELL 'sum', in the pinned program and in every row, IS THE sha256 OF THE DUMP (.gsa) THAT YtpihhlaiofkmdaaProg.lean LOADS. Nothing in Lean hashes anything: it is a label: what it is worth is what the hold of that sum in a sandbox is worth. -/
noncomputable def Try.pinned : Pinned := { name := "ytpihhlaiofkmdaa", sum := "2045e4153e85f86fb542b14e34c1f70fb7cc8ee59222fc8bdeedfca3a95ae498", checked := Try.checked }
namespace Rows
def none {H : Type} : Left H := { results := [], args := [] }

/-- 'rostrumlaw21.LeadSlow': WHATEVER THE INPUT: true; the input reads as it did. -/
def leadSlowSpec : ChangeSpec := { name := "leadSlow", fn := fun _ => fun
  | [d1, d2, d3] => { results := [.lit (.bool true)], args := [d1, d2, d3] }
  | _ => none }
def leadSlowRow : OpenClaim := { program := "ytpihhlaiofkmdaa", sum := "2045e4153e85f86fb542b14e34c1f70fb7cc8ee59222fc8bdeedfca3a95ae498", func := "rostrum/rostrumlaw21.LeadSlow", spec := "leadSlow", unfollowed := true, recurses := true, plainKeys := false, apart := false }
def LeadSlowSaid : Prop := leadSlowRow.holds Try.pinned (OpenSpec.ofChange leadSlowSpec)

/-- ITS FALSE NEIGHBOUR: 'it returns false'. Refute it at one input. -/
def leadSlowWrong : ChangeSpec := { name := "leadSlow", fn := fun _ => fun
  | [d1, d2, d3] => { results := [.lit (.bool false)], args := [d1, d2, d3] }
  | _ => none }
def LeadSlowWrongFalsely : Prop := leadSlowRow.holds Try.pinned (OpenSpec.ofChange leadSlowWrong)

/-- 'rostrumlaw21.LeadFast': WHATEVER THE INPUT: true; the input reads as it did. -/
def leadFastSpec : ChangeSpec := { name := "leadFast", fn := fun _ => fun
  | [d1, d2, d3, d4] => { results := [.lit (.bool true)], args := [d1, d2, d3, d4] }
  | _ => none }
def leadFastRow : OpenClaim := { program := "ytpihhlaiofkmdaa", sum := "2045e4153e85f86fb542b14e34c1f70fb7cc8ee59222fc8bdeedfca3a95ae498", func := "rostrum/rostrumlaw21.LeadFast", spec := "leadFast", unfollowed := true, recurses := true, plainKeys := false, apart := false }
def LeadFastSaid : Prop := leadFastRow.holds Try.pinned (OpenSpec.ofChange leadFastSpec)

/-- ITS FALSE NEIGHBOUR: 'it returns false'. Refute it at one input. -/
def leadFastWrong : ChangeSpec := { name := "leadFast", fn := fun _ => fun
  | [d1, d2, d3, d4] => { results := [.lit (.bool false)], args := [d1, d2, d3, d4] }
  | _ => none }
def LeadFastWrongFalsely : Prop := leadFastRow.holds Try.pinned (OpenSpec.ofChange leadFastWrong)

/-- 'rostrumlaw21.LeadNoop': WHATEVER THE INPUT: true; the input reads as it did. -/
def leadNoopSpec : ChangeSpec := { name := "leadNoop", fn := fun _ => fun
  | [d1, d2, d3] => { results := [.lit (.bool true)], args := [d1, d2, d3] }
  | _ => none }
def leadNoopRow : OpenClaim := { program := "ytpihhlaiofkmdaa", sum := "2045e4153e85f86fb542b14e34c1f70fb7cc8ee59222fc8bdeedfca3a95ae498", func := "rostrum/rostrumlaw21.LeadNoop", spec := "leadNoop", unfollowed := true, recurses := true, plainKeys := false, apart := false }
def LeadNoopSaid : Prop := leadNoopRow.holds Try.pinned (OpenSpec.ofChange leadNoopSpec)

/-- ITS FALSE NEIGHBOUR: 'it returns false'. Refute it at one input. -/
def leadNoopWrong : ChangeSpec := { name := "leadNoop", fn := fun _ => fun
  | [d1, d2, d3] => { results := [.lit (.bool false)], args := [d1, d2, d3] }
  | _ => none }
def LeadNoopWrongFalsely : Prop := leadNoopRow.holds Try.pinned (OpenSpec.ofChange leadNoopWrong)

/-- 'rostrumlaw21.LeadKnown': WHATEVER THE INPUT: true; the input reads as it did. -/
def leadKnownSpec : ChangeSpec := { name := "leadKnown", fn := fun _ => fun
  | [] => { results := [.lit (.bool true)], args := [] }
  | _ => none }
def leadKnownRow : OpenClaim := { program := "ytpihhlaiofkmdaa", sum := "2045e4153e85f86fb542b14e34c1f70fb7cc8ee59222fc8bdeedfca3a95ae498", func := "rostrum/rostrumlaw21.LeadKnown", spec := "leadKnown", unfollowed := true, recurses := true, plainKeys := false, apart := false }
def LeadKnownSaid : Prop := leadKnownRow.holds Try.pinned (OpenSpec.ofChange leadKnownSpec)

/-- ITS FALSE NEIGHBOUR: 'it returns false'. Refute it at one input. -/
def leadKnownWrong : ChangeSpec := { name := "leadKnown", fn := fun _ => fun
  | [] => { results := [.lit (.bool false)], args := [] }
  | _ => none }
def LeadKnownWrongFalsely : Prop := leadKnownRow.holds Try.pinned (OpenSpec.ofChange leadKnownWrong)

/-- 'rostrumlaw21.LeadTwo': WHATEVER THE INPUT: true; the input reads as it did. -/
def leadTwoSpec : ChangeSpec := { name := "leadTwo", fn := fun _ => fun
  | [d1, d2, d3, d4] => { results := [.lit (.bool true)], args := [d1, d2, d3, d4] }
  | _ => none }
def leadTwoRow : OpenClaim := { program := "ytpihhlaiofkmdaa", sum := "2045e4153e85f86fb542b14e34c1f70fb7cc8ee59222fc8bdeedfca3a95ae498", func := "rostrum/rostrumlaw21.LeadTwo", spec := "leadTwo", unfollowed := true, recurses := true, plainKeys := false, apart := false }
def LeadTwoSaid : Prop := leadTwoRow.holds Try.pinned (OpenSpec.ofChange leadTwoSpec)

/-- ITS FALSE NEIGHBOUR: 'it returns false'. Refute it at one input. -/
def leadTwoWrong : ChangeSpec := { name := "leadTwo", fn := fun _ => fun
  | [d1, d2, d3, d4] => { results := [.lit (.bool false)], args := [d1, d2, d3, d4] }
  | _ => none }
def LeadTwoWrongFalsely : Prop := leadTwoRow.holds Try.pinned (OpenSpec.ofChange leadTwoWrong)

/- THE SECOND FORM. 'bulk': how many values and letters a reading holds, each counted each time it is reached (what is shared counts as often as it is met; a slice's spare places count too). A statement '..UptoSaid' is the law's where the arguments, and the package variables that the reading takes, are together of bulk at most 1048576: NARROWER than '..Said'. Prove '..Said' where nothing that the law and all that it calls make is longer than what came in: it says more and counts as full. Else prove '..UptoSaid'. A law counts once. -/
mutual
def uptoBulk {H : Type} : DataW H → Nat
  | .lit (.string bytes) => bytes.length + 1
  | .lit _ => 1
  | .nil => 1
  | .ptr d => uptoBulk d + 1
  | .slice elems spare => uptoBulkAll elems + uptoBulkAll spare + 1
  | .agg parts => uptoBulkAll parts + 1
  | .iface _ d => uptoBulk d + 1
  | .map entries => uptoBulkEntries entries + 1
  | .held _ => 1
def uptoBulkAll {H : Type} : List (DataW H) → Nat
  | [] => 0
  | d :: r => uptoBulk d + uptoBulkAll r
def uptoBulkEntries {H : Type} : List (Lit × DataW H) → Nat
  | [] => 0
  | x :: r => uptoBulkEntry x + uptoBulkEntries r
def uptoBulkEntry {H : Type} : Lit × DataW H → Nat
  | (.string bytes, d) => bytes.length + uptoBulk d + 1
  | (_, d) => uptoBulk d + 1
 end
def uptoSmall : (H : Type) → List (DataW H) → Bool := fun _ ds => decide (uptoBulkAll ds ≤ 1048576)
def OpenSpec.upto (s : _root_.Go.ChangeSpec) : _root_.Go.OpenSpec := { _root_.Go.OpenSpec.ofChange s with cond := some uptoSmall }

/-- 'rostrumlaw21.LeadSlow', WHERE WHAT IT READS IS OF BULK AT MOST 1048576: true; the input reads as it did. -/
def leadSlowUptoRow : OpenClaim := { program := "ytpihhlaiofkmdaa", sum := "2045e4153e85f86fb542b14e34c1f70fb7cc8ee59222fc8bdeedfca3a95ae498", func := "rostrum/rostrumlaw21.LeadSlow", spec := "leadSlow", unfollowed := true, recurses := true, plainKeys := false, apart := false, narrowed := true }
def LeadSlowUptoSaid : Prop := leadSlowUptoRow.holds Try.pinned (OpenSpec.upto leadSlowSpec)

/-- 'rostrumlaw21.LeadFast', WHERE WHAT IT READS IS OF BULK AT MOST 1048576: true; the input reads as it did. -/
def leadFastUptoRow : OpenClaim := { program := "ytpihhlaiofkmdaa", sum := "2045e4153e85f86fb542b14e34c1f70fb7cc8ee59222fc8bdeedfca3a95ae498", func := "rostrum/rostrumlaw21.LeadFast", spec := "leadFast", unfollowed := true, recurses := true, plainKeys := false, apart := false, narrowed := true }
def LeadFastUptoSaid : Prop := leadFastUptoRow.holds Try.pinned (OpenSpec.upto leadFastSpec)

/-- 'rostrumlaw21.LeadNoop', WHERE WHAT IT READS IS OF BULK AT MOST 1048576: true; the input reads as it did. -/
def leadNoopUptoRow : OpenClaim := { program := "ytpihhlaiofkmdaa", sum := "2045e4153e85f86fb542b14e34c1f70fb7cc8ee59222fc8bdeedfca3a95ae498", func := "rostrum/rostrumlaw21.LeadNoop", spec := "leadNoop", unfollowed := true, recurses := true, plainKeys := false, apart := false, narrowed := true }
def LeadNoopUptoSaid : Prop := leadNoopUptoRow.holds Try.pinned (OpenSpec.upto leadNoopSpec)

/-- 'rostrumlaw21.LeadKnown', WHERE WHAT IT READS IS OF BULK AT MOST 1048576: true; the input reads as it did. -/
def leadKnownUptoRow : OpenClaim := { program := "ytpihhlaiofkmdaa", sum := "2045e4153e85f86fb542b14e34c1f70fb7cc8ee59222fc8bdeedfca3a95ae498", func := "rostrum/rostrumlaw21.LeadKnown", spec := "leadKnown", unfollowed := true, recurses := true, plainKeys := false, apart := false, narrowed := true }
def LeadKnownUptoSaid : Prop := leadKnownUptoRow.holds Try.pinned (OpenSpec.upto leadKnownSpec)

/-- 'rostrumlaw21.LeadTwo', WHERE WHAT IT READS IS OF BULK AT MOST 1048576: true; the input reads as it did. -/
def leadTwoUptoRow : OpenClaim := { program := "ytpihhlaiofkmdaa", sum := "2045e4153e85f86fb542b14e34c1f70fb7cc8ee59222fc8bdeedfca3a95ae498", func := "rostrum/rostrumlaw21.LeadTwo", spec := "leadTwo", unfollowed := true, recurses := true, plainKeys := false, apart := false, narrowed := true }
def LeadTwoUptoSaid : Prop := leadTwoUptoRow.holds Try.pinned (OpenSpec.upto leadTwoSpec)

end Rows
end Go.Proofs.Ytpihhlaiofkmdaa
