/-
  No cell of these rows narrows 'for every input' (looked for: loops, veiled, ifaces, maps, wideKeys, modest, calm, conditions, laid).
  DERIVED. THE GIVEN ROWS OF THIS SEAT. 4 by the template 'for every input the law returns true; each argument reads behind the call as it read before'; 0 by the template 'total and deterministic' (their statements: YtfhacbhgmnhmlaaGreatTotals.lean).
  GIVEN WITH THE SEED: the statements are not yours to turn. If you find one false, say at which input.
  Laid BY PROGRAM, IN A SANDBOX (cutbox-rows.mjs): the forced cells as the released guide's own fill.sh prints them over the translation a6b4c505d7eeff1f… (all of the seat's roots in one cut). By AI agents, Wed Nov 11 2026. No macro, syntax, notation, axiom, sorry.
-/
import Derived.Test.YtfhacbhgmnhmlaaGreatChecked
import GoSem.Claim
import GoSem.ClaimJoined
import GoSem.ClaimMapViews
import Derived.JoinedTies
import Derived.KernelRfl
namespace Go.Proofs.YtfhacbhgmnhmlaaGreat
/- THE CELL 'sum', in the pinned program and in every row, IS THE sha256 OF THE DUMP (.gsa) THAT YtfhacbhgmnhmlaaGreatProg.lean LOADS. Nothing in Lean hashes anything: it is a label: what it is worth is what the hold of that sum in a sandbox is worth. -/
noncomputable def Tryz.pinned : Pinned := { name := "ytfhacbhgmnhmlaagreat", sum := "a6b4c505d7eeff1fd7076d8af521769167ea6054b3636e26a11179d71169a42c", checked := Tryz.checked }
namespace Rows
def none {H : Type} : Left H := { results := [], args := [] }

/-- 'rostrumlaw22.PaxOne': WHATEVER THE INPUT: true; the input reads as it did. -/
def paxOneSpec : ChangeSpec := { name := "paxOne", fn := fun _ => fun
  | [d1, d2, d3] => { results := [.lit (.bool true)], args := [d1, d2, d3] }
  | _ => none }
def paxOneRow : OpenClaim := { program := "ytfhacbhgmnhmlaagreat", sum := "a6b4c505d7eeff1fd7076d8af521769167ea6054b3636e26a11179d71169a42c", func := "rostrum/rostrumlaw22.PaxOne", spec := "paxOne", unfollowed := true, recurses := true, plainKeys := false, apart := false }
def PaxOneSaid : Prop := paxOneRow.holds Tryz.pinned (OpenSpec.ofChange paxOneSpec)

/-- ITS FALSE NEIGHBOUR: 'it returns false'. Refute it at one input. -/
def paxOneWrong : ChangeSpec := { name := "paxOne", fn := fun _ => fun
  | [d1, d2, d3] => { results := [.lit (.bool false)], args := [d1, d2, d3] }
  | _ => none }
def PaxOneWrongFalsely : Prop := paxOneRow.holds Tryz.pinned (OpenSpec.ofChange paxOneWrong)

/-- 'rostrumlaw22.PaxStays': WHATEVER THE INPUT: true; the input reads as it did. -/
def paxStaysSpec : ChangeSpec := { name := "paxStays", fn := fun _ => fun
  | [d1, d2] => { results := [.lit (.bool true)], args := [d1, d2] }
  | _ => none }
def paxStaysRow : OpenClaim := { program := "ytfhacbhgmnhmlaagreat", sum := "a6b4c505d7eeff1fd7076d8af521769167ea6054b3636e26a11179d71169a42c", func := "rostrum/rostrumlaw22.PaxStays", spec := "paxStays", unfollowed := true, recurses := true, plainKeys := false, apart := false }
def PaxStaysSaid : Prop := paxStaysRow.holds Tryz.pinned (OpenSpec.ofChange paxStaysSpec)

/-- ITS FALSE NEIGHBOUR: 'it returns false'. Refute it at one input. -/
def paxStaysWrong : ChangeSpec := { name := "paxStays", fn := fun _ => fun
  | [d1, d2] => { results := [.lit (.bool false)], args := [d1, d2] }
  | _ => none }
def PaxStaysWrongFalsely : Prop := paxStaysRow.holds Tryz.pinned (OpenSpec.ofChange paxStaysWrong)

/-- 'rostrumlaw22.PaxKnown': WHATEVER THE INPUT: true; the input reads as it did. -/
def paxKnownSpec : ChangeSpec := { name := "paxKnown", fn := fun _ => fun
  | [] => { results := [.lit (.bool true)], args := [] }
  | _ => none }
def paxKnownRow : OpenClaim := { program := "ytfhacbhgmnhmlaagreat", sum := "a6b4c505d7eeff1fd7076d8af521769167ea6054b3636e26a11179d71169a42c", func := "rostrum/rostrumlaw22.PaxKnown", spec := "paxKnown", unfollowed := true, recurses := true, plainKeys := false, apart := false }
def PaxKnownSaid : Prop := paxKnownRow.holds Tryz.pinned (OpenSpec.ofChange paxKnownSpec)

/-- ITS FALSE NEIGHBOUR: 'it returns false'. Refute it at one input. -/
def paxKnownWrong : ChangeSpec := { name := "paxKnown", fn := fun _ => fun
  | [] => { results := [.lit (.bool false)], args := [] }
  | _ => none }
def PaxKnownWrongFalsely : Prop := paxKnownRow.holds Tryz.pinned (OpenSpec.ofChange paxKnownWrong)

/-- 'rostrumlaw22.PaxNone': WHATEVER THE INPUT: true; the input reads as it did. -/
def paxNoneSpec : ChangeSpec := { name := "paxNone", fn := fun _ => fun
  | [d1, d2, d3, d4] => { results := [.lit (.bool true)], args := [d1, d2, d3, d4] }
  | _ => none }
def paxNoneRow : OpenClaim := { program := "ytfhacbhgmnhmlaagreat", sum := "a6b4c505d7eeff1fd7076d8af521769167ea6054b3636e26a11179d71169a42c", func := "rostrum/rostrumlaw22.PaxNone", spec := "paxNone", unfollowed := true, recurses := true, plainKeys := false, apart := false }
def PaxNoneSaid : Prop := paxNoneRow.holds Tryz.pinned (OpenSpec.ofChange paxNoneSpec)

/-- ITS FALSE NEIGHBOUR: 'it returns false'. Refute it at one input. -/
def paxNoneWrong : ChangeSpec := { name := "paxNone", fn := fun _ => fun
  | [d1, d2, d3, d4] => { results := [.lit (.bool false)], args := [d1, d2, d3, d4] }
  | _ => none }
def PaxNoneWrongFalsely : Prop := paxNoneRow.holds Tryz.pinned (OpenSpec.ofChange paxNoneWrong)

/- THE SECOND FORM. 'bulk': how many values and letters a reading holds, each counted each time it is reached (what is shared counts as often as it is met; a slice's spare places count too). A statement '..UptoSaid' is the law's where the arguments, and the package variables that the reading takes, are together of bulk at most 1048576: NARROWER than '..Said'. Prove '..Said' where nothing that the law and all that it calls make is longer than what came in: it says more and counts as full. Else prove '..UptoSaid'. A law counts once. -/
mutual
def uptoBulk {H : Type} : DataW H → Nat
  | .lit (.string bytes) => bytes.length + 1
  | .lit _ => 1
  | .nil => 1
  | .ptr d => uptoBulk d + 1
  | .slice elems spare => uptoBulkAll elems + uptoBulkAll spare + 1
  | .agg parts => uptoBulkAll parts + 1
  | .iface _ d => uptoBulk d + 1
  | .map entries => uptoBulkEntries entries + 1
  | .held _ => 1
def uptoBulkAll {H : Type} : List (DataW H) → Nat
  | [] => 0
  | d :: r => uptoBulk d + uptoBulkAll r
def uptoBulkEntries {H : Type} : List (Lit × DataW H) → Nat
  | [] => 0
  | x :: r => uptoBulkEntry x + uptoBulkEntries r
def uptoBulkEntry {H : Type} : Lit × DataW H → Nat
  | (.string bytes, d) => bytes.length + uptoBulk d + 1
  | (_, d) => uptoBulk d + 1
 end
def uptoSmall : (H : Type) → List (DataW H) → Bool := fun _ ds => decide (uptoBulkAll ds ≤ 1048576)
def OpenSpec.upto (s : _root_.Go.ChangeSpec) : _root_.Go.OpenSpec := { _root_.Go.OpenSpec.ofChange s with cond := some uptoSmall }

/-- 'rostrumlaw22.PaxOne', WHERE WHAT IT READS IS OF BULK AT MOST 1048576: true; the input reads as it did. -/
def paxOneUptoRow : OpenClaim := { program := "ytfhacbhgmnhmlaagreat", sum := "a6b4c505d7eeff1fd7076d8af521769167ea6054b3636e26a11179d71169a42c", func := "rostrum/rostrumlaw22.PaxOne", spec := "paxOne", unfollowed := true, recurses := true, plainKeys := false, apart := false, narrowed := true }
def PaxOneUptoSaid : Prop := paxOneUptoRow.holds Tryz.pinned (OpenSpec.upto paxOneSpec)

/-- 'rostrumlaw22.PaxStays', WHERE WHAT IT READS IS OF BULK AT MOST 1048576: true; the input reads as it did. -/
def paxStaysUptoRow : OpenClaim := { program := "ytfhacbhgmnhmlaagreat", sum := "a6b4c505d7eeff1fd7076d8af521769167ea6054b3636e26a11179d71169a42c", func := "rostrum/rostrumlaw22.PaxStays", spec := "paxStays", unfollowed := true, recurses := true, plainKeys := false, apart := false, narrowed := true }
def PaxStaysUptoSaid : Prop := paxStaysUptoRow.holds Tryz.pinned (OpenSpec.upto paxStaysSpec)

/-- 'rostrumlaw22.PaxKnown', WHERE WHAT IT READS IS OF BULK AT MOST 1048576: true; the input reads as it did. -/
def paxKnownUptoRow : OpenClaim := { program := "ytfhacbhgmnhmlaagreat", sum := "a6b4c505d7eeff1fd7076d8af521769167ea6054b3636e26a11179d71169a42c", func := "rostrum/rostrumlaw22.PaxKnown", spec := "paxKnown", unfollowed := true, recurses := true, plainKeys := false, apart := false, narrowed := true }
def PaxKnownUptoSaid : Prop := paxKnownUptoRow.holds Tryz.pinned (OpenSpec.upto paxKnownSpec)

/-- 'rostrumlaw22.PaxNone', WHERE WHAT IT READS IS OF BULK AT MOST 1048576: true; the input reads as it did. -/
def paxNoneUptoRow : OpenClaim := { program := "ytfhacbhgmnhmlaagreat", sum := "a6b4c505d7eeff1fd7076d8af521769167ea6054b3636e26a11179d71169a42c", func := "rostrum/rostrumlaw22.PaxNone", spec := "paxNone", unfollowed := true, recurses := true, plainKeys := false, apart := false, narrowed := true }
def PaxNoneUptoSaid : Prop := paxNoneUptoRow.holds Tryz.pinned (OpenSpec.upto paxNoneSpec)

end Rows
end Go.Proofs.YtfhacbhgmnhmlaaGreat
