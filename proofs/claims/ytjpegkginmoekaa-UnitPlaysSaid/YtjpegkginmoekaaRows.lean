/-
  No cell of these rows narrows 'for every input' (looked for: loops, veiled, ifaces, maps, wideKeys, modest, calm, conditions, laid).
  DERIVED. THE GIVEN ROWS OF THIS SEAT. 8 by the template 'for every input the law returns true; each argument reads behind the call as it read before'; 0 by the template 'total and deterministic' (their statements: YtjpegkginmoekaaTotals.lean).
  GIVEN WITH THE SEED: the statements are not yours to turn. If you find one false, say at which input.
  Laid BY PROGRAM, IN A SANDBOX (cutbox-rows.mjs): the forced cells as the released guide's own fill.sh prints them over the translation b7fcfe0c381dce58… (all of the seat's roots in one cut). By AI agents, Wed Nov 11 2026. No macro, syntax, notation, axiom, sorry.
-/
import Derived.Test.YtjpegkginmoekaaChecked
import GoSem.Claim
import GoSem.ClaimJoined
import GoSem.ClaimMapViews
import Derived.JoinedTies
import Derived.KernelRfl
namespace Go.Proofs.Ytjpegkginmoekaa
/- THE CELL 'sum', in the pinned program and in every row, IS THE sha256 OF THE DUMP (.gsa) THAT YtjpegkginmoekaaProg.lean LOADS. Nothing in Lean hashes anything: it is a label: what it is worth is what the hold of that sum in a sandbox is worth. -/
noncomputable def Try.pinned : Pinned := { name := "ytjpegkginmoekaa", sum := "b7fcfe0c381dce5899441471a192b935e6594ab69fba68e8cb18480e1c2ccd02", checked := Try.checked }
namespace Rows
def none {H : Type} : Left H := { results := [], args := [] }

/-- 'escheatlaw10.UnitPlays': WHATEVER THE INPUT: true; the input reads as it did. -/
def unitPlaysSpec : ChangeSpec := { name := "unitPlays", fn := fun _ => fun
  | [d1, d2] => { results := [.lit (.bool true)], args := [d1, d2] }
  | _ => none }
def unitPlaysRow : OpenClaim := { program := "ytjpegkginmoekaa", sum := "b7fcfe0c381dce5899441471a192b935e6594ab69fba68e8cb18480e1c2ccd02", func := "escheat/escheatlaw10.UnitPlays", spec := "unitPlays", unfollowed := true, recurses := true, plainKeys := false, apart := false }
def UnitPlaysSaid : Prop := unitPlaysRow.holds Try.pinned (OpenSpec.ofChange unitPlaysSpec)

/-- ITS FALSE NEIGHBOUR: 'it returns false'. Refute it at one input. -/
def unitPlaysWrong : ChangeSpec := { name := "unitPlays", fn := fun _ => fun
  | [d1, d2] => { results := [.lit (.bool false)], args := [d1, d2] }
  | _ => none }
def UnitPlaysWrongFalsely : Prop := unitPlaysRow.holds Try.pinned (OpenSpec.ofChange unitPlaysWrong)

/-- 'escheatlaw10.UnitSeals': WHATEVER THE INPUT: true; the input reads as it did. -/
def unitSealsSpec : ChangeSpec := { name := "unitSeals", fn := fun _ => fun
  | [d1, d2] => { results := [.lit (.bool true)], args := [d1, d2] }
  | _ => none }
def unitSealsRow : OpenClaim := { program := "ytjpegkginmoekaa", sum := "b7fcfe0c381dce5899441471a192b935e6594ab69fba68e8cb18480e1c2ccd02", func := "escheat/escheatlaw10.UnitSeals", spec := "unitSeals", unfollowed := true, recurses := true, plainKeys := false, apart := false }
def UnitSealsSaid : Prop := unitSealsRow.holds Try.pinned (OpenSpec.ofChange unitSealsSpec)

/-- ITS FALSE NEIGHBOUR: 'it returns false'. Refute it at one input. -/
def unitSealsWrong : ChangeSpec := { name := "unitSeals", fn := fun _ => fun
  | [d1, d2] => { results := [.lit (.bool false)], args := [d1, d2] }
  | _ => none }
def UnitSealsWrongFalsely : Prop := unitSealsRow.holds Try.pinned (OpenSpec.ofChange unitSealsWrong)

/-- 'escheatlaw09.PageStays': WHATEVER THE INPUT: true; the input reads as it did. -/
def pageStaysSpec : ChangeSpec := { name := "pageStays", fn := fun _ => fun
  | [d1, d2, d3] => { results := [.lit (.bool true)], args := [d1, d2, d3] }
  | _ => none }
def pageStaysRow : OpenClaim := { program := "ytjpegkginmoekaa", sum := "b7fcfe0c381dce5899441471a192b935e6594ab69fba68e8cb18480e1c2ccd02", func := "escheat/escheatlaw09.PageStays", spec := "pageStays", plainKeys := false, apart := false }
def PageStaysSaid : Prop := pageStaysRow.holds Try.pinned (OpenSpec.ofChange pageStaysSpec)

/-- ITS FALSE NEIGHBOUR: 'it returns false'. Refute it at one input. -/
def pageStaysWrong : ChangeSpec := { name := "pageStays", fn := fun _ => fun
  | [d1, d2, d3] => { results := [.lit (.bool false)], args := [d1, d2, d3] }
  | _ => none }
def PageStaysWrongFalsely : Prop := pageStaysRow.holds Try.pinned (OpenSpec.ofChange pageStaysWrong)

/-- 'escheatlaw09.PageRoom': WHATEVER THE INPUT: true; the input reads as it did. -/
def pageRoomSpec : ChangeSpec := { name := "pageRoom", fn := fun _ => fun
  | [d1, d2] => { results := [.lit (.bool true)], args := [d1, d2] }
  | _ => none }
def pageRoomRow : OpenClaim := { program := "ytjpegkginmoekaa", sum := "b7fcfe0c381dce5899441471a192b935e6594ab69fba68e8cb18480e1c2ccd02", func := "escheat/escheatlaw09.PageRoom", spec := "pageRoom", plainKeys := false, apart := false }
def PageRoomSaid : Prop := pageRoomRow.holds Try.pinned (OpenSpec.ofChange pageRoomSpec)

/-- ITS FALSE NEIGHBOUR: 'it returns false'. Refute it at one input. -/
def pageRoomWrong : ChangeSpec := { name := "pageRoom", fn := fun _ => fun
  | [d1, d2] => { results := [.lit (.bool false)], args := [d1, d2] }
  | _ => none }
def PageRoomWrongFalsely : Prop := pageRoomRow.holds Try.pinned (OpenSpec.ofChange pageRoomWrong)

/-- 'escheatlaw09.PagePlays': WHATEVER THE INPUT: true; the input reads as it did. -/
def pagePlaysSpec : ChangeSpec := { name := "pagePlays", fn := fun _ => fun
  | [d1, d2] => { results := [.lit (.bool true)], args := [d1, d2] }
  | _ => none }
def pagePlaysRow : OpenClaim := { program := "ytjpegkginmoekaa", sum := "b7fcfe0c381dce5899441471a192b935e6594ab69fba68e8cb18480e1c2ccd02", func := "escheat/escheatlaw09.PagePlays", spec := "pagePlays", plainKeys := false, apart := false }
def PagePlaysSaid : Prop := pagePlaysRow.holds Try.pinned (OpenSpec.ofChange pagePlaysSpec)

/-- ITS FALSE NEIGHBOUR: 'it returns false'. Refute it at one input. -/
def pagePlaysWrong : ChangeSpec := { name := "pagePlays", fn := fun _ => fun
  | [d1, d2] => { results := [.lit (.bool false)], args := [d1, d2] }
  | _ => none }
def PagePlaysWrongFalsely : Prop := pagePlaysRow.holds Try.pinned (OpenSpec.ofChange pagePlaysWrong)

/-- 'escheatlaw09.PageNone': WHATEVER THE INPUT: true; the input reads as it did. -/
def pageNoneSpec : ChangeSpec := { name := "pageNone", fn := fun _ => fun
  | [d] => { results := [.lit (.bool true)], args := [d] }
  | _ => none }
def pageNoneRow : OpenClaim := { program := "ytjpegkginmoekaa", sum := "b7fcfe0c381dce5899441471a192b935e6594ab69fba68e8cb18480e1c2ccd02", func := "escheat/escheatlaw09.PageNone", spec := "pageNone", plainKeys := false, apart := false }
def PageNoneSaid : Prop := pageNoneRow.holds Try.pinned (OpenSpec.ofChange pageNoneSpec)

/-- ITS FALSE NEIGHBOUR: 'it returns false'. Refute it at one input. -/
def pageNoneWrong : ChangeSpec := { name := "pageNone", fn := fun _ => fun
  | [d] => { results := [.lit (.bool false)], args := [d] }
  | _ => none }
def PageNoneWrongFalsely : Prop := pageNoneRow.holds Try.pinned (OpenSpec.ofChange pageNoneWrong)

/-- 'escheatlaw10.UnitKeeps': WHATEVER THE INPUT: true; the input reads as it did. -/
def unitKeepsSpec : ChangeSpec := { name := "unitKeeps", fn := fun _ => fun
  | [d1, d2] => { results := [.lit (.bool true)], args := [d1, d2] }
  | _ => none }
def unitKeepsRow : OpenClaim := { program := "ytjpegkginmoekaa", sum := "b7fcfe0c381dce5899441471a192b935e6594ab69fba68e8cb18480e1c2ccd02", func := "escheat/escheatlaw10.UnitKeeps", spec := "unitKeeps", unfollowed := true, recurses := true, plainKeys := false, apart := false }
def UnitKeepsSaid : Prop := unitKeepsRow.holds Try.pinned (OpenSpec.ofChange unitKeepsSpec)

/-- ITS FALSE NEIGHBOUR: 'it returns false'. Refute it at one input. -/
def unitKeepsWrong : ChangeSpec := { name := "unitKeeps", fn := fun _ => fun
  | [d1, d2] => { results := [.lit (.bool false)], args := [d1, d2] }
  | _ => none }
def UnitKeepsWrongFalsely : Prop := unitKeepsRow.holds Try.pinned (OpenSpec.ofChange unitKeepsWrong)

/-- 'escheatlaw10.UnitNone': WHATEVER THE INPUT: true; the input reads as it did. -/
def unitNoneSpec : ChangeSpec := { name := "unitNone", fn := fun _ => fun
  | [d] => { results := [.lit (.bool true)], args := [d] }
  | _ => none }
def unitNoneRow : OpenClaim := { program := "ytjpegkginmoekaa", sum := "b7fcfe0c381dce5899441471a192b935e6594ab69fba68e8cb18480e1c2ccd02", func := "escheat/escheatlaw10.UnitNone", spec := "unitNone", unfollowed := true, recurses := true, plainKeys := false, apart := false }
def UnitNoneSaid : Prop := unitNoneRow.holds Try.pinned (OpenSpec.ofChange unitNoneSpec)

/-- ITS FALSE NEIGHBOUR: 'it returns false'. Refute it at one input. -/
def unitNoneWrong : ChangeSpec := { name := "unitNone", fn := fun _ => fun
  | [d] => { results := [.lit (.bool false)], args := [d] }
  | _ => none }
def UnitNoneWrongFalsely : Prop := unitNoneRow.holds Try.pinned (OpenSpec.ofChange unitNoneWrong)

/- THE SECOND FORM. 'bulk': how many values and letters a reading holds, each counted each time it is reached (what is shared counts as often as it is met; a slice's spare places count too). A statement '..UptoSaid' is the law's where the arguments, and the package variables that the reading takes, are together of bulk at most 1048576: NARROWER than '..Said'. Prove '..Said' where nothing that the law and all that it calls make is longer than what came in: it says more and counts as full. Else prove '..UptoSaid'. A law counts once. -/
mutual
def uptoBulk {H : Type} : DataW H → Nat
  | .lit (.string bytes) => bytes.length + 1
  | .lit _ => 1
  | .nil => 1
  | .ptr d => uptoBulk d + 1
  | .slice elems spare => uptoBulkAll elems + uptoBulkAll spare + 1
  | .agg parts => uptoBulkAll parts + 1
  | .iface _ d => uptoBulk d + 1
  | .map entries => uptoBulkEntries entries + 1
  | .held _ => 1
def uptoBulkAll {H : Type} : List (DataW H) → Nat
  | [] => 0
  | d :: r => uptoBulk d + uptoBulkAll r
def uptoBulkEntries {H : Type} : List (Lit × DataW H) → Nat
  | [] => 0
  | x :: r => uptoBulkEntry x + uptoBulkEntries r
def uptoBulkEntry {H : Type} : Lit × DataW H → Nat
  | (.string bytes, d) => bytes.length + uptoBulk d + 1
  | (_, d) => uptoBulk d + 1
 end
def uptoSmall : (H : Type) → List (DataW H) → Bool := fun _ ds => decide (uptoBulkAll ds ≤ 1048576)
def OpenSpec.upto (s : _root_.Go.ChangeSpec) : _root_.Go.OpenSpec := { _root_.Go.OpenSpec.ofChange s with cond := some uptoSmall }

/-- 'escheatlaw10.UnitPlays', WHERE WHAT IT READS IS OF BULK AT MOST 1048576: true; the input reads as it did. -/
def unitPlaysUptoRow : OpenClaim := { program := "ytjpegkginmoekaa", sum := "b7fcfe0c381dce5899441471a192b935e6594ab69fba68e8cb18480e1c2ccd02", func := "escheat/escheatlaw10.UnitPlays", spec := "unitPlays", unfollowed := true, recurses := true, plainKeys := false, apart := false, narrowed := true }
def UnitPlaysUptoSaid : Prop := unitPlaysUptoRow.holds Try.pinned (OpenSpec.upto unitPlaysSpec)

/-- 'escheatlaw10.UnitSeals', WHERE WHAT IT READS IS OF BULK AT MOST 1048576: true; the input reads as it did. -/
def unitSealsUptoRow : OpenClaim := { program := "ytjpegkginmoekaa", sum := "b7fcfe0c381dce5899441471a192b935e6594ab69fba68e8cb18480e1c2ccd02", func := "escheat/escheatlaw10.UnitSeals", spec := "unitSeals", unfollowed := true, recurses := true, plainKeys := false, apart := false, narrowed := true }
def UnitSealsUptoSaid : Prop := unitSealsUptoRow.holds Try.pinned (OpenSpec.upto unitSealsSpec)

/-- 'escheatlaw09.PageStays', WHERE WHAT IT READS IS OF BULK AT MOST 1048576: true; the input reads as it did. -/
def pageStaysUptoRow : OpenClaim := { program := "ytjpegkginmoekaa", sum := "b7fcfe0c381dce5899441471a192b935e6594ab69fba68e8cb18480e1c2ccd02", func := "escheat/escheatlaw09.PageStays", spec := "pageStays", plainKeys := false, apart := false, narrowed := true }
def PageStaysUptoSaid : Prop := pageStaysUptoRow.holds Try.pinned (OpenSpec.upto pageStaysSpec)

/-- 'escheatlaw09.PageRoom', WHERE WHAT IT READS IS OF BULK AT MOST 1048576: true; the input reads as it did. -/
def pageRoomUptoRow : OpenClaim := { program := "ytjpegkginmoekaa", sum := "b7fcfe0c381dce5899441471a192b935e6594ab69fba68e8cb18480e1c2ccd02", func := "escheat/escheatlaw09.PageRoom", spec := "pageRoom", plainKeys := false, apart := false, narrowed := true }
def PageRoomUptoSaid : Prop := pageRoomUptoRow.holds Try.pinned (OpenSpec.upto pageRoomSpec)

/-- 'escheatlaw09.PagePlays', WHERE WHAT IT READS IS OF BULK AT MOST 1048576: true; the input reads as it did. -/
def pagePlaysUptoRow : OpenClaim := { program := "ytjpegkginmoekaa", sum := "b7fcfe0c381dce5899441471a192b935e6594ab69fba68e8cb18480e1c2ccd02", func := "escheat/escheatlaw09.PagePlays", spec := "pagePlays", plainKeys := false, apart := false, narrowed := true }
def PagePlaysUptoSaid : Prop := pagePlaysUptoRow.holds Try.pinned (OpenSpec.upto pagePlaysSpec)

/-- 'escheatlaw09.PageNone', WHERE WHAT IT READS IS OF BULK AT MOST 1048576: true; the input reads as it did. -/
def pageNoneUptoRow : OpenClaim := { program := "ytjpegkginmoekaa", sum := "b7fcfe0c381dce5899441471a192b935e6594ab69fba68e8cb18480e1c2ccd02", func := "escheat/escheatlaw09.PageNone", spec := "pageNone", plainKeys := false, apart := false, narrowed := true }
def PageNoneUptoSaid : Prop := pageNoneUptoRow.holds Try.pinned (OpenSpec.upto pageNoneSpec)

/-- 'escheatlaw10.UnitKeeps', WHERE WHAT IT READS IS OF BULK AT MOST 1048576: true; the input reads as it did. -/
def unitKeepsUptoRow : OpenClaim := { program := "ytjpegkginmoekaa", sum := "b7fcfe0c381dce5899441471a192b935e6594ab69fba68e8cb18480e1c2ccd02", func := "escheat/escheatlaw10.UnitKeeps", spec := "unitKeeps", unfollowed := true, recurses := true, plainKeys := false, apart := false, narrowed := true }
def UnitKeepsUptoSaid : Prop := unitKeepsUptoRow.holds Try.pinned (OpenSpec.upto unitKeepsSpec)

/-- 'escheatlaw10.UnitNone', WHERE WHAT IT READS IS OF BULK AT MOST 1048576: true; the input reads as it did. -/
def unitNoneUptoRow : OpenClaim := { program := "ytjpegkginmoekaa", sum := "b7fcfe0c381dce5899441471a192b935e6594ab69fba68e8cb18480e1c2ccd02", func := "escheat/escheatlaw10.UnitNone", spec := "unitNone", unfollowed := true, recurses := true, plainKeys := false, apart := false, narrowed := true }
def UnitNoneUptoSaid : Prop := unitNoneUptoRow.holds Try.pinned (OpenSpec.upto unitNoneSpec)

end Rows
end Go.Proofs.Ytjpegkginmoekaa
