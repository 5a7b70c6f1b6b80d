/-
  No cell of these rows narrows 'for every input' (looked for: loops, veiled, ifaces, maps, wideKeys, modest, calm, conditions, laid).
  DERIVED. THE GIVEN ROWS OF THIS SEAT. 5 by the template 'for every input the law returns true; each argument reads behind the call as it read before'; 0 by the template 'total and deterministic' (their statements: YtceljebpcfojeaaTotals.lean).
  GIVEN WITH THE SEED: the statements are not yours to turn. If you find one false, say at which input.
  Laid BY PROGRAM, IN A SANDBOX (cutbox-rows.mjs): the forced cells as the released guide's own fill.sh prints them over the translation 7fad3fe03303ff18… (all of the seat's roots in one cut). By AI agents, Wed Nov 11 2026. No macro, syntax, notation, axiom, sorry.
-/
import Derived.Test.YtceljebpcfojeaaChecked
import GoSem.Claim
import GoSem.ClaimJoined
import GoSem.ClaimMapViews
import Derived.JoinedTies
import Derived.KernelRfl
namespace Go.Proofs.Ytceljebpcfojeaa
/- THE CELL 'sum', in the pinned program and in every row, IS THE sha256 OF THE DUMP (.gsa) THAT YtceljebpcfojeaaProg.lean LOADS. Nothing in Lean hashes anything: it is a label: what it is worth is what the hold of that sum in a sandbox is worth. -/
noncomputable def Try.pinned : Pinned := { name := "ytceljebpcfojeaa", sum := "7fad3fe03303ff181f8f2afa1e55dc0831f14b1f2369e6932dd2cfcf08f45c8f", checked := Try.checked }
namespace Rows
def none {H : Type} : Left H := { results := [], args := [] }

/-- 'escheatlaw08.PlaceTails': WHATEVER THE INPUT: true; the input reads as it did. -/
def placeTailsSpec : ChangeSpec := { name := "placeTails", fn := fun _ => fun
  | [d1, d2, d3] => { results := [.lit (.bool true)], args := [d1, d2, d3] }
  | _ => none }
def placeTailsRow : OpenClaim := { program := "ytceljebpcfojeaa", sum := "7fad3fe03303ff181f8f2afa1e55dc0831f14b1f2369e6932dd2cfcf08f45c8f", func := "escheat/escheatlaw08.PlaceTails", spec := "placeTails", plainKeys := false, apart := false }
def PlaceTailsSaid : Prop := placeTailsRow.holds Try.pinned (OpenSpec.ofChange placeTailsSpec)

/-- ITS FALSE NEIGHBOUR: 'it returns false'. Refute it at one input. -/
def placeTailsWrong : ChangeSpec := { name := "placeTails", fn := fun _ => fun
  | [d1, d2, d3] => { results := [.lit (.bool false)], args := [d1, d2, d3] }
  | _ => none }
def PlaceTailsWrongFalsely : Prop := placeTailsRow.holds Try.pinned (OpenSpec.ofChange placeTailsWrong)

/-- 'escheatlaw08.PlaceOnce': WHATEVER THE INPUT: true; the input reads as it did. -/
def placeOnceSpec : ChangeSpec := { name := "placeOnce", fn := fun _ => fun
  | [d1, d2, d3] => { results := [.lit (.bool true)], args := [d1, d2, d3] }
  | _ => none }
def placeOnceRow : OpenClaim := { program := "ytceljebpcfojeaa", sum := "7fad3fe03303ff181f8f2afa1e55dc0831f14b1f2369e6932dd2cfcf08f45c8f", func := "escheat/escheatlaw08.PlaceOnce", spec := "placeOnce", plainKeys := false, apart := false }
def PlaceOnceSaid : Prop := placeOnceRow.holds Try.pinned (OpenSpec.ofChange placeOnceSpec)

/-- ITS FALSE NEIGHBOUR: 'it returns false'. Refute it at one input. -/
def placeOnceWrong : ChangeSpec := { name := "placeOnce", fn := fun _ => fun
  | [d1, d2, d3] => { results := [.lit (.bool false)], args := [d1, d2, d3] }
  | _ => none }
def PlaceOnceWrongFalsely : Prop := placeOnceRow.holds Try.pinned (OpenSpec.ofChange placeOnceWrong)

/-- 'escheatlaw08.PlaceCounts': WHATEVER THE INPUT: true; the input reads as it did. -/
def placeCountsSpec : ChangeSpec := { name := "placeCounts", fn := fun _ => fun
  | [d1, d2] => { results := [.lit (.bool true)], args := [d1, d2] }
  | _ => none }
def placeCountsRow : OpenClaim := { program := "ytceljebpcfojeaa", sum := "7fad3fe03303ff181f8f2afa1e55dc0831f14b1f2369e6932dd2cfcf08f45c8f", func := "escheat/escheatlaw08.PlaceCounts", spec := "placeCounts", plainKeys := false, apart := false }
def PlaceCountsSaid : Prop := placeCountsRow.holds Try.pinned (OpenSpec.ofChange placeCountsSpec)

/-- ITS FALSE NEIGHBOUR: 'it returns false'. Refute it at one input. -/
def placeCountsWrong : ChangeSpec := { name := "placeCounts", fn := fun _ => fun
  | [d1, d2] => { results := [.lit (.bool false)], args := [d1, d2] }
  | _ => none }
def PlaceCountsWrongFalsely : Prop := placeCountsRow.holds Try.pinned (OpenSpec.ofChange placeCountsWrong)

/-- 'escheatlaw08.PlaceTells': WHATEVER THE INPUT: true; the input reads as it did. -/
def placeTellsSpec : ChangeSpec := { name := "placeTells", fn := fun _ => fun
  | [d1, d2, d3] => { results := [.lit (.bool true)], args := [d1, d2, d3] }
  | _ => none }
def placeTellsRow : OpenClaim := { program := "ytceljebpcfojeaa", sum := "7fad3fe03303ff181f8f2afa1e55dc0831f14b1f2369e6932dd2cfcf08f45c8f", func := "escheat/escheatlaw08.PlaceTells", spec := "placeTells", plainKeys := false, apart := false }
def PlaceTellsSaid : Prop := placeTellsRow.holds Try.pinned (OpenSpec.ofChange placeTellsSpec)

/-- ITS FALSE NEIGHBOUR: 'it returns false'. Refute it at one input. -/
def placeTellsWrong : ChangeSpec := { name := "placeTells", fn := fun _ => fun
  | [d1, d2, d3] => { results := [.lit (.bool false)], args := [d1, d2, d3] }
  | _ => none }
def PlaceTellsWrongFalsely : Prop := placeTellsRow.holds Try.pinned (OpenSpec.ofChange placeTellsWrong)

/-- 'escheatlaw08.PlaceRound': WHATEVER THE INPUT: true; the input reads as it did. -/
def placeRoundSpec : ChangeSpec := { name := "placeRound", fn := fun _ => fun
  | [d1, d2] => { results := [.lit (.bool true)], args := [d1, d2] }
  | _ => none }
def placeRoundRow : OpenClaim := { program := "ytceljebpcfojeaa", sum := "7fad3fe03303ff181f8f2afa1e55dc0831f14b1f2369e6932dd2cfcf08f45c8f", func := "escheat/escheatlaw08.PlaceRound", spec := "placeRound", plainKeys := false, apart := false }
def PlaceRoundSaid : Prop := placeRoundRow.holds Try.pinned (OpenSpec.ofChange placeRoundSpec)

/-- ITS FALSE NEIGHBOUR: 'it returns false'. Refute it at one input. -/
def placeRoundWrong : ChangeSpec := { name := "placeRound", fn := fun _ => fun
  | [d1, d2] => { results := [.lit (.bool false)], args := [d1, d2] }
  | _ => none }
def PlaceRoundWrongFalsely : Prop := placeRoundRow.holds Try.pinned (OpenSpec.ofChange placeRoundWrong)

/- THE SECOND FORM. 'bulk': how many values and letters a reading holds, each counted each time it is reached (what is shared counts as often as it is met; a slice's spare places count too). A statement '..UptoSaid' is the law's where the arguments, and the package variables that the reading takes, are together of bulk at most 1048576: NARROWER than '..Said'. Prove '..Said' where nothing that the law and all that it calls make is longer than what came in: it says more and counts as full. Else prove '..UptoSaid'. A law counts once. -/
mutual
def uptoBulk {H : Type} : DataW H → Nat
  | .lit (.string bytes) => bytes.length + 1
  | .lit _ => 1
  | .nil => 1
  | .ptr d => uptoBulk d + 1
  | .slice elems spare => uptoBulkAll elems + uptoBulkAll spare + 1
  | .agg parts => uptoBulkAll parts + 1
  | .iface _ d => uptoBulk d + 1
  | .map entries => uptoBulkEntries entries + 1
  | .held _ => 1
def uptoBulkAll {H : Type} : List (DataW H) → Nat
  | [] => 0
  | d :: r => uptoBulk d + uptoBulkAll r
def uptoBulkEntries {H : Type} : List (Lit × DataW H) → Nat
  | [] => 0
  | x :: r => uptoBulkEntry x + uptoBulkEntries r
def uptoBulkEntry {H : Type} : Lit × DataW H → Nat
  | (.string bytes, d) => bytes.length + uptoBulk d + 1
  | (_, d) => uptoBulk d + 1
 end
def uptoSmall : (H : Type) → List (DataW H) → Bool := fun _ ds => decide (uptoBulkAll ds ≤ 1048576)
def OpenSpec.upto (s : _root_.Go.ChangeSpec) : _root_.Go.OpenSpec := { _root_.Go.OpenSpec.ofChange s with cond := some uptoSmall }

/-- 'escheatlaw08.PlaceTails', WHERE WHAT IT READS IS OF BULK AT MOST 1048576: true; the input reads as it did. -/
def placeTailsUptoRow : OpenClaim := { program := "ytceljebpcfojeaa", sum := "7fad3fe03303ff181f8f2afa1e55dc0831f14b1f2369e6932dd2cfcf08f45c8f", func := "escheat/escheatlaw08.PlaceTails", spec := "placeTails", plainKeys := false, apart := false, narrowed := true }
def PlaceTailsUptoSaid : Prop := placeTailsUptoRow.holds Try.pinned (OpenSpec.upto placeTailsSpec)

/-- 'escheatlaw08.PlaceOnce', WHERE WHAT IT READS IS OF BULK AT MOST 1048576: true; the input reads as it did. -/
def placeOnceUptoRow : OpenClaim := { program := "ytceljebpcfojeaa", sum := "7fad3fe03303ff181f8f2afa1e55dc0831f14b1f2369e6932dd2cfcf08f45c8f", func := "escheat/escheatlaw08.PlaceOnce", spec := "placeOnce", plainKeys := false, apart := false, narrowed := true }
def PlaceOnceUptoSaid : Prop := placeOnceUptoRow.holds Try.pinned (OpenSpec.upto placeOnceSpec)

/-- 'escheatlaw08.PlaceCounts', WHERE WHAT IT READS IS OF BULK AT MOST 1048576: true; the input reads as it did. -/
def placeCountsUptoRow : OpenClaim := { program := "ytceljebpcfojeaa", sum := "7fad3fe03303ff181f8f2afa1e55dc0831f14b1f2369e6932dd2cfcf08f45c8f", func := "escheat/escheatlaw08.PlaceCounts", spec := "placeCounts", plainKeys := false, apart := false, narrowed := true }
def PlaceCountsUptoSaid : Prop := placeCountsUptoRow.holds Try.pinned (OpenSpec.upto placeCountsSpec)

/-- 'escheatlaw08.PlaceTells', WHERE WHAT IT READS IS OF BULK AT MOST 1048576: true; the input reads as it did. -/
def placeTellsUptoRow : OpenClaim := { program := "ytceljebpcfojeaa", sum := "7fad3fe03303ff181f8f2afa1e55dc0831f14b1f2369e6932dd2cfcf08f45c8f", func := "escheat/escheatlaw08.PlaceTells", spec := "placeTells", plainKeys := false, apart := false, narrowed := true }
def PlaceTellsUptoSaid : Prop := placeTellsUptoRow.holds Try.pinned (OpenSpec.upto placeTellsSpec)

/-- 'escheatlaw08.PlaceRound', WHERE WHAT IT READS IS OF BULK AT MOST 1048576: true; the input reads as it did. -/
def placeRoundUptoRow : OpenClaim := { program := "ytceljebpcfojeaa", sum := "7fad3fe03303ff181f8f2afa1e55dc0831f14b1f2369e6932dd2cfcf08f45c8f", func := "escheat/escheatlaw08.PlaceRound", spec := "placeRound", plainKeys := false, apart := false, narrowed := true }
def PlaceRoundUptoSaid : Prop := placeRoundUptoRow.holds Try.pinned (OpenSpec.upto placeRoundSpec)

end Rows
end Go.Proofs.Ytceljebpcfojeaa
