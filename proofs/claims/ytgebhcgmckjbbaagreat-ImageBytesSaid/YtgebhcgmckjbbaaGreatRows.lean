/-
  No cell of these rows narrows 'for every input' (looked for: loops, veiled, ifaces, maps, wideKeys, modest, calm, conditions, laid).
  DERIVED. THE GIVEN ROWS OF THIS SEAT. 7 by the template 'for every input the law returns true; each argument reads behind the call as it read before'; 0 by the template 'total and deterministic' (their statements: YtgebhcgmckjbbaaGreatTotals.lean).
  GIVEN WITH THE SEED: the statements are not yours to turn. If you find one false, say at which input.
  Laid BY PROGRAM, IN A SANDBOX (cutbox-rows.mjs): the forced cells as the released guide's own fill.sh prints them over the translation 5bb0546a64112673… (all of the seat's roots in one cut). By AI agents, Wed Nov 11 2026. No macro, syntax, notation, axiom, sorry.
-/
import Derived.Test.YtgebhcgmckjbbaaGreatChecked
import GoSem.Claim
import GoSem.ClaimJoined
import GoSem.ClaimMapViews
import Derived.JoinedTies
import Derived.KernelRfl
namespace Go.Proofs.YtgebhcgmckjbbaaGreat
/- THE CELL 'sum', in the pinned program and in every row, IS THE sha256 OF THE DUMP (.gsa) THAT YtgebhcgmckjbbaaGreatProg.lean LOADS. Nothing in Lean hashes anything: it is a label: what it is worth is what the hold of that sum in a sandbox is worth. -/
noncomputable def Tryz.pinned : Pinned := { name := "ytgebhcgmckjbbaagreat", sum := "5bb0546a641126736671172822067ce9d95d62ccca6b4c426dd9608f3efe0dd9", checked := Tryz.checked }
namespace Rows
def none {H : Type} : Left H := { results := [], args := [] }

/-- 'broadsidelaw16.VenueAgain': WHATEVER THE INPUT: true; the input reads as it did. -/
def venueAgainSpec : ChangeSpec := { name := "venueAgain", fn := fun _ => fun
  | [d1, d2] => { results := [.lit (.bool true)], args := [d1, d2] }
  | _ => none }
def venueAgainRow : OpenClaim := { program := "ytgebhcgmckjbbaagreat", sum := "5bb0546a641126736671172822067ce9d95d62ccca6b4c426dd9608f3efe0dd9", func := "broadside/broadsidelaw16.VenueAgain", spec := "venueAgain", inPlace := ["math/bits.Add64", "slices.overlaps[broadside/api.Contract]", "slices.overlaps[broadside/api.Order]"], unfollowed := true, recurses := true, named := ["math/bits.divideError", "math/bits.overflowError"], plainKeys := false, apart := false }
def VenueAgainSaid : Prop := venueAgainRow.holds Tryz.pinned (OpenSpec.ofChange venueAgainSpec)

/-- ITS FALSE NEIGHBOUR: 'it returns false'. Refute it at one input. -/
def venueAgainWrong : ChangeSpec := { name := "venueAgain", fn := fun _ => fun
  | [d1, d2] => { results := [.lit (.bool false)], args := [d1, d2] }
  | _ => none }
def VenueAgainWrongFalsely : Prop := venueAgainRow.holds Tryz.pinned (OpenSpec.ofChange venueAgainWrong)

/-- 'broadsidelaw17.ImageReads': WHATEVER THE INPUT: true; the input reads as it did. -/
def imageReadsSpec : ChangeSpec := { name := "imageReads", fn := fun _ => fun
  | [d] => { results := [.lit (.bool true)], args := [d] }
  | _ => none }
def imageReadsRow : OpenClaim := { program := "ytgebhcgmckjbbaagreat", sum := "5bb0546a641126736671172822067ce9d95d62ccca6b4c426dd9608f3efe0dd9", func := "broadside/broadsidelaw17.ImageReads", spec := "imageReads", inPlace := ["slices.overlaps[broadside/api.Order]", "math/bits.Add64", "slices.overlaps[broadside/api.Contract]"], unfollowed := true, recurses := true, named := ["math/bits.divideError", "math/bits.overflowError"], plainKeys := false, apart := false }
def ImageReadsSaid : Prop := imageReadsRow.holds Tryz.pinned (OpenSpec.ofChange imageReadsSpec)

/-- ITS FALSE NEIGHBOUR: 'it returns false'. Refute it at one input. -/
def imageReadsWrong : ChangeSpec := { name := "imageReads", fn := fun _ => fun
  | [d] => { results := [.lit (.bool false)], args := [d] }
  | _ => none }
def ImageReadsWrongFalsely : Prop := imageReadsRow.holds Tryz.pinned (OpenSpec.ofChange imageReadsWrong)

/-- 'broadsidelaw17.ImageAgain': WHATEVER THE INPUT: true; the input reads as it did. -/
def imageAgainSpec : ChangeSpec := { name := "imageAgain", fn := fun _ => fun
  | [d1, d2] => { results := [.lit (.bool true)], args := [d1, d2] }
  | _ => none }
def imageAgainRow : OpenClaim := { program := "ytgebhcgmckjbbaagreat", sum := "5bb0546a641126736671172822067ce9d95d62ccca6b4c426dd9608f3efe0dd9", func := "broadside/broadsidelaw17.ImageAgain", spec := "imageAgain", inPlace := ["slices.overlaps[broadside/api.Order]", "math/bits.Add64", "slices.overlaps[broadside/api.Contract]"], unfollowed := true, recurses := true, named := ["math/bits.divideError", "math/bits.overflowError"], plainKeys := false, apart := false }
def ImageAgainSaid : Prop := imageAgainRow.holds Tryz.pinned (OpenSpec.ofChange imageAgainSpec)

/-- ITS FALSE NEIGHBOUR: 'it returns false'. Refute it at one input. -/
def imageAgainWrong : ChangeSpec := { name := "imageAgain", fn := fun _ => fun
  | [d1, d2] => { results := [.lit (.bool false)], args := [d1, d2] }
  | _ => none }
def ImageAgainWrongFalsely : Prop := imageAgainRow.holds Tryz.pinned (OpenSpec.ofChange imageAgainWrong)

/-- 'broadsidelaw17.ImageNone': WHATEVER THE INPUT: true; the input reads as it did. -/
def imageNoneSpec : ChangeSpec := { name := "imageNone", fn := fun _ => fun
  | [d] => { results := [.lit (.bool true)], args := [d] }
  | _ => none }
def imageNoneRow : OpenClaim := { program := "ytgebhcgmckjbbaagreat", sum := "5bb0546a641126736671172822067ce9d95d62ccca6b4c426dd9608f3efe0dd9", func := "broadside/broadsidelaw17.ImageNone", spec := "imageNone", inPlace := ["slices.overlaps[broadside/api.Order]", "math/bits.Add64", "slices.overlaps[broadside/api.Contract]"], unfollowed := true, recurses := true, named := ["math/bits.divideError", "math/bits.overflowError"], plainKeys := false, apart := false }
def ImageNoneSaid : Prop := imageNoneRow.holds Tryz.pinned (OpenSpec.ofChange imageNoneSpec)

/-- ITS FALSE NEIGHBOUR: 'it returns false'. Refute it at one input. -/
def imageNoneWrong : ChangeSpec := { name := "imageNone", fn := fun _ => fun
  | [d] => { results := [.lit (.bool false)], args := [d] }
  | _ => none }
def ImageNoneWrongFalsely : Prop := imageNoneRow.holds Tryz.pinned (OpenSpec.ofChange imageNoneWrong)

/-- 'broadsidelaw17.ImageBytes': WHATEVER THE INPUT: true; the input reads as it did. -/
def imageBytesSpec : ChangeSpec := { name := "imageBytes", fn := fun _ => fun
  | [d] => { results := [.lit (.bool true)], args := [d] }
  | _ => none }
def imageBytesRow : OpenClaim := { program := "ytgebhcgmckjbbaagreat", sum := "5bb0546a641126736671172822067ce9d95d62ccca6b4c426dd9608f3efe0dd9", func := "broadside/broadsidelaw17.ImageBytes", spec := "imageBytes", inPlace := ["slices.overlaps[broadside/api.Order]", "math/bits.Add64", "slices.overlaps[broadside/api.Contract]"], unfollowed := true, recurses := true, named := ["math/bits.divideError", "math/bits.overflowError"], plainKeys := false, apart := false }
def ImageBytesSaid : Prop := imageBytesRow.holds Tryz.pinned (OpenSpec.ofChange imageBytesSpec)

/-- ITS FALSE NEIGHBOUR: 'it returns false'. Refute it at one input. -/
def imageBytesWrong : ChangeSpec := { name := "imageBytes", fn := fun _ => fun
  | [d] => { results := [.lit (.bool false)], args := [d] }
  | _ => none }
def ImageBytesWrongFalsely : Prop := imageBytesRow.holds Tryz.pinned (OpenSpec.ofChange imageBytesWrong)

/-- 'broadsidelaw17.ImageOnly': WHATEVER THE INPUT: true; the input reads as it did. -/
def imageOnlySpec : ChangeSpec := { name := "imageOnly", fn := fun _ => fun
  | [d1, d2] => { results := [.lit (.bool true)], args := [d1, d2] }
  | _ => none }
def imageOnlyRow : OpenClaim := { program := "ytgebhcgmckjbbaagreat", sum := "5bb0546a641126736671172822067ce9d95d62ccca6b4c426dd9608f3efe0dd9", func := "broadside/broadsidelaw17.ImageOnly", spec := "imageOnly", inPlace := ["slices.overlaps[broadside/api.Order]", "math/bits.Add64", "slices.overlaps[broadside/api.Contract]"], unfollowed := true, recurses := true, named := ["math/bits.divideError", "math/bits.overflowError"], plainKeys := false, apart := false }
def ImageOnlySaid : Prop := imageOnlyRow.holds Tryz.pinned (OpenSpec.ofChange imageOnlySpec)

/-- ITS FALSE NEIGHBOUR: 'it returns false'. Refute it at one input. -/
def imageOnlyWrong : ChangeSpec := { name := "imageOnly", fn := fun _ => fun
  | [d1, d2] => { results := [.lit (.bool false)], args := [d1, d2] }
  | _ => none }
def ImageOnlyWrongFalsely : Prop := imageOnlyRow.holds Tryz.pinned (OpenSpec.ofChange imageOnlyWrong)

/-- 'broadsidelaw26.SessionNone': WHATEVER THE INPUT: true; the input reads as it did. -/
def sessionNoneSpec : ChangeSpec := { name := "sessionNone", fn := fun _ => fun
  | [d1, d2, d3] => { results := [.lit (.bool true)], args := [d1, d2, d3] }
  | _ => none }
def sessionNoneRow : OpenClaim := { program := "ytgebhcgmckjbbaagreat", sum := "5bb0546a641126736671172822067ce9d95d62ccca6b4c426dd9608f3efe0dd9", func := "broadside/broadsidelaw26.SessionNone", spec := "sessionNone", inPlace := ["math/bits.Add64", "slices.overlaps[broadside/api.Contract]", "slices.overlaps[broadside/api.Order]"], unfollowed := true, recurses := true, named := ["math/bits.divideError", "math/bits.overflowError"], plainKeys := false, apart := false }
def SessionNoneSaid : Prop := sessionNoneRow.holds Tryz.pinned (OpenSpec.ofChange sessionNoneSpec)

/-- ITS FALSE NEIGHBOUR: 'it returns false'. Refute it at one input. -/
def sessionNoneWrong : ChangeSpec := { name := "sessionNone", fn := fun _ => fun
  | [d1, d2, d3] => { results := [.lit (.bool false)], args := [d1, d2, d3] }
  | _ => none }
def SessionNoneWrongFalsely : Prop := sessionNoneRow.holds Tryz.pinned (OpenSpec.ofChange sessionNoneWrong)

/- THE SECOND FORM. 'bulk': how many values and letters a reading holds, each counted each time it is reached (what is shared counts as often as it is met; a slice's spare places count too). A statement '..UptoSaid' is the law's where the arguments, and the package variables that the reading takes, are together of bulk at most 1048576: NARROWER than '..Said'. Prove '..Said' where nothing that the law and all that it calls make is longer than what came in: it says more and counts as full. Else prove '..UptoSaid'. A law counts once. -/
mutual
def uptoBulk {H : Type} : DataW H → Nat
  | .lit (.string bytes) => bytes.length + 1
  | .lit _ => 1
  | .nil => 1
  | .ptr d => uptoBulk d + 1
  | .slice elems spare => uptoBulkAll elems + uptoBulkAll spare + 1
  | .agg parts => uptoBulkAll parts + 1
  | .iface _ d => uptoBulk d + 1
  | .map entries => uptoBulkEntries entries + 1
  | .held _ => 1
def uptoBulkAll {H : Type} : List (DataW H) → Nat
  | [] => 0
  | d :: r => uptoBulk d + uptoBulkAll r
def uptoBulkEntries {H : Type} : List (Lit × DataW H) → Nat
  | [] => 0
  | x :: r => uptoBulkEntry x + uptoBulkEntries r
def uptoBulkEntry {H : Type} : Lit × DataW H → Nat
  | (.string bytes, d) => bytes.length + uptoBulk d + 1
  | (_, d) => uptoBulk d + 1
 end
def uptoSmall : (H : Type) → List (DataW H) → Bool := fun _ ds => decide (uptoBulkAll ds ≤ 1048576)
def OpenSpec.upto (s : _root_.Go.ChangeSpec) : _root_.Go.OpenSpec := { _root_.Go.OpenSpec.ofChange s with cond := some uptoSmall }

/-- 'broadsidelaw16.VenueAgain', WHERE WHAT IT READS IS OF BULK AT MOST 1048576: true; the input reads as it did. -/
def venueAgainUptoRow : OpenClaim := { program := "ytgebhcgmckjbbaagreat", sum := "5bb0546a641126736671172822067ce9d95d62ccca6b4c426dd9608f3efe0dd9", func := "broadside/broadsidelaw16.VenueAgain", spec := "venueAgain", inPlace := ["math/bits.Add64", "slices.overlaps[broadside/api.Contract]", "slices.overlaps[broadside/api.Order]"], unfollowed := true, recurses := true, named := ["math/bits.divideError", "math/bits.overflowError"], plainKeys := false, apart := false, narrowed := true }
def VenueAgainUptoSaid : Prop := venueAgainUptoRow.holds Tryz.pinned (OpenSpec.upto venueAgainSpec)

/-- 'broadsidelaw17.ImageReads', WHERE WHAT IT READS IS OF BULK AT MOST 1048576: true; the input reads as it did. -/
def imageReadsUptoRow : OpenClaim := { program := "ytgebhcgmckjbbaagreat", sum := "5bb0546a641126736671172822067ce9d95d62ccca6b4c426dd9608f3efe0dd9", func := "broadside/broadsidelaw17.ImageReads", spec := "imageReads", inPlace := ["slices.overlaps[broadside/api.Order]", "math/bits.Add64", "slices.overlaps[broadside/api.Contract]"], unfollowed := true, recurses := true, named := ["math/bits.divideError", "math/bits.overflowError"], plainKeys := false, apart := false, narrowed := true }
def ImageReadsUptoSaid : Prop := imageReadsUptoRow.holds Tryz.pinned (OpenSpec.upto imageReadsSpec)

/-- 'broadsidelaw17.ImageAgain', WHERE WHAT IT READS IS OF BULK AT MOST 1048576: true; the input reads as it did. -/
def imageAgainUptoRow : OpenClaim := { program := "ytgebhcgmckjbbaagreat", sum := "5bb0546a641126736671172822067ce9d95d62ccca6b4c426dd9608f3efe0dd9", func := "broadside/broadsidelaw17.ImageAgain", spec := "imageAgain", inPlace := ["slices.overlaps[broadside/api.Order]", "math/bits.Add64", "slices.overlaps[broadside/api.Contract]"], unfollowed := true, recurses := true, named := ["math/bits.divideError", "math/bits.overflowError"], plainKeys := false, apart := false, narrowed := true }
def ImageAgainUptoSaid : Prop := imageAgainUptoRow.holds Tryz.pinned (OpenSpec.upto imageAgainSpec)

/-- 'broadsidelaw17.ImageNone', WHERE WHAT IT READS IS OF BULK AT MOST 1048576: true; the input reads as it did. -/
def imageNoneUptoRow : OpenClaim := { program := "ytgebhcgmckjbbaagreat", sum := "5bb0546a641126736671172822067ce9d95d62ccca6b4c426dd9608f3efe0dd9", func := "broadside/broadsidelaw17.ImageNone", spec := "imageNone", inPlace := ["slices.overlaps[broadside/api.Order]", "math/bits.Add64", "slices.overlaps[broadside/api.Contract]"], unfollowed := true, recurses := true, named := ["math/bits.divideError", "math/bits.overflowError"], plainKeys := false, apart := false, narrowed := true }
def ImageNoneUptoSaid : Prop := imageNoneUptoRow.holds Tryz.pinned (OpenSpec.upto imageNoneSpec)

/-- 'broadsidelaw17.ImageBytes', WHERE WHAT IT READS IS OF BULK AT MOST 1048576: true; the input reads as it did. -/
def imageBytesUptoRow : OpenClaim := { program := "ytgebhcgmckjbbaagreat", sum := "5bb0546a641126736671172822067ce9d95d62ccca6b4c426dd9608f3efe0dd9", func := "broadside/broadsidelaw17.ImageBytes", spec := "imageBytes", inPlace := ["slices.overlaps[broadside/api.Order]", "math/bits.Add64", "slices.overlaps[broadside/api.Contract]"], unfollowed := true, recurses := true, named := ["math/bits.divideError", "math/bits.overflowError"], plainKeys := false, apart := false, narrowed := true }
def ImageBytesUptoSaid : Prop := imageBytesUptoRow.holds Tryz.pinned (OpenSpec.upto imageBytesSpec)

/-- 'broadsidelaw17.ImageOnly', WHERE WHAT IT READS IS OF BULK AT MOST 1048576: true; the input reads as it did. -/
def imageOnlyUptoRow : OpenClaim := { program := "ytgebhcgmckjbbaagreat", sum := "5bb0546a641126736671172822067ce9d95d62ccca6b4c426dd9608f3efe0dd9", func := "broadside/broadsidelaw17.ImageOnly", spec := "imageOnly", inPlace := ["slices.overlaps[broadside/api.Order]", "math/bits.Add64", "slices.overlaps[broadside/api.Contract]"], unfollowed := true, recurses := true, named := ["math/bits.divideError", "math/bits.overflowError"], plainKeys := false, apart := false, narrowed := true }
def ImageOnlyUptoSaid : Prop := imageOnlyUptoRow.holds Tryz.pinned (OpenSpec.upto imageOnlySpec)

/-- 'broadsidelaw26.SessionNone', WHERE WHAT IT READS IS OF BULK AT MOST 1048576: true; the input reads as it did. -/
def sessionNoneUptoRow : OpenClaim := { program := "ytgebhcgmckjbbaagreat", sum := "5bb0546a641126736671172822067ce9d95d62ccca6b4c426dd9608f3efe0dd9", func := "broadside/broadsidelaw26.SessionNone", spec := "sessionNone", inPlace := ["math/bits.Add64", "slices.overlaps[broadside/api.Contract]", "slices.overlaps[broadside/api.Order]"], unfollowed := true, recurses := true, named := ["math/bits.divideError", "math/bits.overflowError"], plainKeys := false, apart := false, narrowed := true }
def SessionNoneUptoSaid : Prop := sessionNoneUptoRow.holds Tryz.pinned (OpenSpec.upto sessionNoneSpec)

end Rows
end Go.Proofs.YtgebhcgmckjbbaaGreat
