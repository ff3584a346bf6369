/-
  No cell of these rows narrows 'for every input' (looked for: loops, veiled, ifaces, maps, wideKeys, modest, calm, conditions, laid).
  DERIVED. THE GIVEN ROWS OF THIS SEAT. 5 by the template 'for every input the law returns true; each argument reads behind the call as it read before'; 0 by the template 'total and deterministic' (their statements: YtekbnpagidkbbaaGreatTotals.lean).
  GIVEN WITH THE SEED: the statements are not yours to turn. If you find one false, say at which input.
  Laid BY PROGRAM, IN A SANDBOX (cutbox-rows.mjs): the forced cells as the released guide's own fill.sh prints them over the translation 5832c2fc030a57d7… (all of the seat's roots in one cut). By AI agents, Wed Nov 11 2026. No macro, syntax, notation, axiom, sorry.
-/
import Derived.Test.YtekbnpagidkbbaaGreatChecked
import GoSem.Claim
import GoSem.ClaimJoined
import GoSem.ClaimMapViews
import Derived.JoinedTies
import Derived.KernelRfl
namespace Go.Proofs.YtekbnpagidkbbaaGreat
/- THE CELL 'sum', in the pinned program and in every row, IS THE sha256 OF THE DUMP (.gsa) THAT YtekbnpagidkbbaaGreatProg.lean LOADS. Nothing in Lean hashes anything: it is a label: what it is worth is what the hold of that sum in a sandbox is worth. -/
noncomputable def Tryz.pinned : Pinned := { name := "ytekbnpagidkbbaagreat", sum := "5832c2fc030a57d7684075adf2f4c2e2305866d778b5aa72e2a6f582312e2e18", checked := Tryz.checked }
namespace Rows
def none {H : Type} : Left H := { results := [], args := [] }

/-- 'broadsidetop.TopImages': WHATEVER THE INPUT: true; the input reads as it did. -/
def topImagesSpec : ChangeSpec := { name := "topImages", fn := fun _ => fun
  | [d1, d2] => { results := [.lit (.bool true)], args := [d1, d2] }
  | _ => none }
def topImagesRow : OpenClaim := { program := "ytekbnpagidkbbaagreat", sum := "5832c2fc030a57d7684075adf2f4c2e2305866d778b5aa72e2a6f582312e2e18", func := "broadside/broadsidetop.TopImages", spec := "topImages", inPlace := ["math/bits.Add64", "slices.overlaps[broadside/api.Contract]", "slices.overlaps[broadside/api.Order]"], unfollowed := true, recurses := true, named := ["math/bits.divideError", "math/bits.overflowError"], plainKeys := false, apart := false }
def TopImagesSaid : Prop := topImagesRow.holds Tryz.pinned (OpenSpec.ofChange topImagesSpec)

/-- ITS FALSE NEIGHBOUR: 'it returns false'. Refute it at one input. -/
def topImagesWrong : ChangeSpec := { name := "topImages", fn := fun _ => fun
  | [d1, d2] => { results := [.lit (.bool false)], args := [d1, d2] }
  | _ => none }
def TopImagesWrongFalsely : Prop := topImagesRow.holds Tryz.pinned (OpenSpec.ofChange topImagesWrong)

/-- 'broadsidelaw16.VenueAgain': WHATEVER THE INPUT: true; the input reads as it did. -/
def venueAgainSpec : ChangeSpec := { name := "venueAgain", fn := fun _ => fun
  | [d1, d2] => { results := [.lit (.bool true)], args := [d1, d2] }
  | _ => none }
def venueAgainRow : OpenClaim := { program := "ytekbnpagidkbbaagreat", sum := "5832c2fc030a57d7684075adf2f4c2e2305866d778b5aa72e2a6f582312e2e18", func := "broadside/broadsidelaw16.VenueAgain", spec := "venueAgain", inPlace := ["math/bits.Add64", "slices.overlaps[broadside/api.Contract]", "slices.overlaps[broadside/api.Order]"], unfollowed := true, recurses := true, named := ["math/bits.divideError", "math/bits.overflowError"], plainKeys := false, apart := false }
def VenueAgainSaid : Prop := venueAgainRow.holds Tryz.pinned (OpenSpec.ofChange venueAgainSpec)

/-- ITS FALSE NEIGHBOUR: 'it returns false'. Refute it at one input. -/
def venueAgainWrong : ChangeSpec := { name := "venueAgain", fn := fun _ => fun
  | [d1, d2] => { results := [.lit (.bool false)], args := [d1, d2] }
  | _ => none }
def VenueAgainWrongFalsely : Prop := venueAgainRow.holds Tryz.pinned (OpenSpec.ofChange venueAgainWrong)

/-- 'broadsidelaw17.ImageAgain': WHATEVER THE INPUT: true; the input reads as it did. -/
def imageAgainSpec : ChangeSpec := { name := "imageAgain", fn := fun _ => fun
  | [d1, d2] => { results := [.lit (.bool true)], args := [d1, d2] }
  | _ => none }
def imageAgainRow : OpenClaim := { program := "ytekbnpagidkbbaagreat", sum := "5832c2fc030a57d7684075adf2f4c2e2305866d778b5aa72e2a6f582312e2e18", func := "broadside/broadsidelaw17.ImageAgain", spec := "imageAgain", inPlace := ["slices.overlaps[broadside/api.Order]", "math/bits.Add64", "slices.overlaps[broadside/api.Contract]"], unfollowed := true, recurses := true, named := ["math/bits.divideError", "math/bits.overflowError"], plainKeys := false, apart := false }
def ImageAgainSaid : Prop := imageAgainRow.holds Tryz.pinned (OpenSpec.ofChange imageAgainSpec)

/-- ITS FALSE NEIGHBOUR: 'it returns false'. Refute it at one input. -/
def imageAgainWrong : ChangeSpec := { name := "imageAgain", fn := fun _ => fun
  | [d1, d2] => { results := [.lit (.bool false)], args := [d1, d2] }
  | _ => none }
def ImageAgainWrongFalsely : Prop := imageAgainRow.holds Tryz.pinned (OpenSpec.ofChange imageAgainWrong)

/-- 'broadsidelaw26.SessionRestores': WHATEVER THE INPUT: true; the input reads as it did. -/
def sessionRestoresSpec : ChangeSpec := { name := "sessionRestores", fn := fun _ => fun
  | [d1, d2, d3, d4, d5] => { results := [.lit (.bool true)], args := [d1, d2, d3, d4, d5] }
  | _ => none }
def sessionRestoresRow : OpenClaim := { program := "ytekbnpagidkbbaagreat", sum := "5832c2fc030a57d7684075adf2f4c2e2305866d778b5aa72e2a6f582312e2e18", func := "broadside/broadsidelaw26.SessionRestores", spec := "sessionRestores", inPlace := ["math/bits.Add64", "slices.overlaps[broadside/api.Contract]", "slices.overlaps[broadside/api.Order]"], unfollowed := true, recurses := true, named := ["math/bits.divideError", "math/bits.overflowError"], plainKeys := false, apart := false }
def SessionRestoresSaid : Prop := sessionRestoresRow.holds Tryz.pinned (OpenSpec.ofChange sessionRestoresSpec)

/-- ITS FALSE NEIGHBOUR: 'it returns false'. Refute it at one input. -/
def sessionRestoresWrong : ChangeSpec := { name := "sessionRestores", fn := fun _ => fun
  | [d1, d2, d3, d4, d5] => { results := [.lit (.bool false)], args := [d1, d2, d3, d4, d5] }
  | _ => none }
def SessionRestoresWrongFalsely : Prop := sessionRestoresRow.holds Tryz.pinned (OpenSpec.ofChange sessionRestoresWrong)

/-- 'broadsidelaw26.SessionApplies': WHATEVER THE INPUT: true; the input reads as it did. -/
def sessionAppliesSpec : ChangeSpec := { name := "sessionApplies", fn := fun _ => fun
  | [d1, d2] => { results := [.lit (.bool true)], args := [d1, d2] }
  | _ => none }
def sessionAppliesRow : OpenClaim := { program := "ytekbnpagidkbbaagreat", sum := "5832c2fc030a57d7684075adf2f4c2e2305866d778b5aa72e2a6f582312e2e18", func := "broadside/broadsidelaw26.SessionApplies", spec := "sessionApplies", inPlace := ["math/bits.Add64", "slices.overlaps[broadside/api.Contract]", "slices.overlaps[broadside/api.Order]"], unfollowed := true, recurses := true, named := ["math/bits.divideError", "math/bits.overflowError"], plainKeys := false, apart := false }
def SessionAppliesSaid : Prop := sessionAppliesRow.holds Tryz.pinned (OpenSpec.ofChange sessionAppliesSpec)

/-- ITS FALSE NEIGHBOUR: 'it returns false'. Refute it at one input. -/
def sessionAppliesWrong : ChangeSpec := { name := "sessionApplies", fn := fun _ => fun
  | [d1, d2] => { results := [.lit (.bool false)], args := [d1, d2] }
  | _ => none }
def SessionAppliesWrongFalsely : Prop := sessionAppliesRow.holds Tryz.pinned (OpenSpec.ofChange sessionAppliesWrong)

/- THE SECOND FORM. 'bulk': how many values and letters a reading holds, each counted each time it is reached (what is shared counts as often as it is met; a slice's spare places count too). A statement '..UptoSaid' is the law's where the arguments, and the package variables that the reading takes, are together of bulk at most 1048576: NARROWER than '..Said'. Prove '..Said' where nothing that the law and all that it calls make is longer than what came in: it says more and counts as full. Else prove '..UptoSaid'. A law counts once. -/
mutual
def uptoBulk {H : Type} : DataW H → Nat
  | .lit (.string bytes) => bytes.length + 1
  | .lit _ => 1
  | .nil => 1
  | .ptr d => uptoBulk d + 1
  | .slice elems spare => uptoBulkAll elems + uptoBulkAll spare + 1
  | .agg parts => uptoBulkAll parts + 1
  | .iface _ d => uptoBulk d + 1
  | .map entries => uptoBulkEntries entries + 1
  | .held _ => 1
def uptoBulkAll {H : Type} : List (DataW H) → Nat
  | [] => 0
  | d :: r => uptoBulk d + uptoBulkAll r
def uptoBulkEntries {H : Type} : List (Lit × DataW H) → Nat
  | [] => 0
  | x :: r => uptoBulkEntry x + uptoBulkEntries r
def uptoBulkEntry {H : Type} : Lit × DataW H → Nat
  | (.string bytes, d) => bytes.length + uptoBulk d + 1
  | (_, d) => uptoBulk d + 1
 end
def uptoSmall : (H : Type) → List (DataW H) → Bool := fun _ ds => decide (uptoBulkAll ds ≤ 1048576)
def OpenSpec.upto (s : _root_.Go.ChangeSpec) : _root_.Go.OpenSpec := { _root_.Go.OpenSpec.ofChange s with cond := some uptoSmall }

/-- 'broadsidetop.TopImages', WHERE WHAT IT READS IS OF BULK AT MOST 1048576: true; the input reads as it did. -/
def topImagesUptoRow : OpenClaim := { program := "ytekbnpagidkbbaagreat", sum := "5832c2fc030a57d7684075adf2f4c2e2305866d778b5aa72e2a6f582312e2e18", func := "broadside/broadsidetop.TopImages", spec := "topImages", inPlace := ["math/bits.Add64", "slices.overlaps[broadside/api.Contract]", "slices.overlaps[broadside/api.Order]"], unfollowed := true, recurses := true, named := ["math/bits.divideError", "math/bits.overflowError"], plainKeys := false, apart := false, narrowed := true }
def TopImagesUptoSaid : Prop := topImagesUptoRow.holds Tryz.pinned (OpenSpec.upto topImagesSpec)

/-- 'broadsidelaw16.VenueAgain', WHERE WHAT IT READS IS OF BULK AT MOST 1048576: true; the input reads as it did. -/
def venueAgainUptoRow : OpenClaim := { program := "ytekbnpagidkbbaagreat", sum := "5832c2fc030a57d7684075adf2f4c2e2305866d778b5aa72e2a6f582312e2e18", func := "broadside/broadsidelaw16.VenueAgain", spec := "venueAgain", inPlace := ["math/bits.Add64", "slices.overlaps[broadside/api.Contract]", "slices.overlaps[broadside/api.Order]"], unfollowed := true, recurses := true, named := ["math/bits.divideError", "math/bits.overflowError"], plainKeys := false, apart := false, narrowed := true }
def VenueAgainUptoSaid : Prop := venueAgainUptoRow.holds Tryz.pinned (OpenSpec.upto venueAgainSpec)

/-- 'broadsidelaw17.ImageAgain', WHERE WHAT IT READS IS OF BULK AT MOST 1048576: true; the input reads as it did. -/
def imageAgainUptoRow : OpenClaim := { program := "ytekbnpagidkbbaagreat", sum := "5832c2fc030a57d7684075adf2f4c2e2305866d778b5aa72e2a6f582312e2e18", func := "broadside/broadsidelaw17.ImageAgain", spec := "imageAgain", inPlace := ["slices.overlaps[broadside/api.Order]", "math/bits.Add64", "slices.overlaps[broadside/api.Contract]"], unfollowed := true, recurses := true, named := ["math/bits.divideError", "math/bits.overflowError"], plainKeys := false, apart := false, narrowed := true }
def ImageAgainUptoSaid : Prop := imageAgainUptoRow.holds Tryz.pinned (OpenSpec.upto imageAgainSpec)

/-- 'broadsidelaw26.SessionRestores', WHERE WHAT IT READS IS OF BULK AT MOST 1048576: true; the input reads as it did. -/
def sessionRestoresUptoRow : OpenClaim := { program := "ytekbnpagidkbbaagreat", sum := "5832c2fc030a57d7684075adf2f4c2e2305866d778b5aa72e2a6f582312e2e18", func := "broadside/broadsidelaw26.SessionRestores", spec := "sessionRestores", inPlace := ["math/bits.Add64", "slices.overlaps[broadside/api.Contract]", "slices.overlaps[broadside/api.Order]"], unfollowed := true, recurses := true, named := ["math/bits.divideError", "math/bits.overflowError"], plainKeys := false, apart := false, narrowed := true }
def SessionRestoresUptoSaid : Prop := sessionRestoresUptoRow.holds Tryz.pinned (OpenSpec.upto sessionRestoresSpec)

/-- 'broadsidelaw26.SessionApplies', WHERE WHAT IT READS IS OF BULK AT MOST 1048576: true; the input reads as it did. -/
def sessionAppliesUptoRow : OpenClaim := { program := "ytekbnpagidkbbaagreat", sum := "5832c2fc030a57d7684075adf2f4c2e2305866d778b5aa72e2a6f582312e2e18", func := "broadside/broadsidelaw26.SessionApplies", spec := "sessionApplies", inPlace := ["math/bits.Add64", "slices.overlaps[broadside/api.Contract]", "slices.overlaps[broadside/api.Order]"], unfollowed := true, recurses := true, named := ["math/bits.divideError", "math/bits.overflowError"], plainKeys := false, apart := false, narrowed := true }
def SessionAppliesUptoSaid : Prop := sessionAppliesUptoRow.holds Tryz.pinned (OpenSpec.upto sessionAppliesSpec)

end Rows
end Go.Proofs.YtekbnpagidkbbaaGreat
