/-
  No cell of these rows narrows 'for every input' (looked for: loops, veiled, ifaces, maps, wideKeys, modest, calm, conditions, laid).
  DERIVED. THE GIVEN ROWS OF THIS SEAT. 10 by the template 'for every input the law returns true; each argument reads behind the call as it read before'; 0 by the template 'total and deterministic' (their statements: YtnfloameajanhaaGreatTotals.lean).
  GIVEN WITH THE SEED: the statements are not yours to turn. If you find one false, say at which input.
  Laid BY PROGRAM, IN A SANDBOX (cutbox-rows.mjs): the forced cells as the released guide's own fill.sh prints them over the translation b79ad9963bf40af0… (all of the seat's roots in one cut). By AI agents, Wed Nov 11 2026. No macro, syntax, notation, axiom, sorry.
-/
import Derived.Test.YtnfloameajanhaaGreatChecked
import GoSem.Claim
import GoSem.ClaimJoined
import GoSem.ClaimMapViews
import Derived.JoinedTies
import Derived.KernelRfl
namespace Go.Proofs.YtnfloameajanhaaGreat
/- THE CELL 'sum', in the pinned program and in every row, IS THE sha256 OF THE DUMP (.gsa) THAT YtnfloameajanhaaGreatProg.lean LOADS. Nothing in Lean hashes anything: it is a label: what it is worth is what the hold of that sum in a sandbox is worth. -/
noncomputable def Tryz.pinned : Pinned := { name := "ytnfloameajanhaagreat", sum := "b79ad9963bf40af02ec9ffc2e6b570ff92e72784b5643d71724f2f618d89ddb7", checked := Tryz.checked }
namespace Rows
def none {H : Type} : Left H := { results := [], args := [] }

/-- 'broadsidelaw16.VenueNone': WHATEVER THE INPUT: true; the input reads as it did. -/
def venueNoneSpec : ChangeSpec := { name := "venueNone", fn := fun _ => fun
  | [d1, d2] => { results := [.lit (.bool true)], args := [d1, d2] }
  | _ => none }
def venueNoneRow : OpenClaim := { program := "ytnfloameajanhaagreat", sum := "b79ad9963bf40af02ec9ffc2e6b570ff92e72784b5643d71724f2f618d89ddb7", func := "broadside/broadsidelaw16.VenueNone", spec := "venueNone", inPlace := ["math/bits.Add64", "slices.overlaps[broadside/api.Contract]", "slices.overlaps[broadside/api.Order]"], unfollowed := true, recurses := true, named := ["math/bits.divideError", "math/bits.overflowError"], plainKeys := false, apart := false }
def VenueNoneSaid : Prop := venueNoneRow.holds Tryz.pinned (OpenSpec.ofChange venueNoneSpec)

/-- ITS FALSE NEIGHBOUR: 'it returns false'. Refute it at one input. -/
def venueNoneWrong : ChangeSpec := { name := "venueNone", fn := fun _ => fun
  | [d1, d2] => { results := [.lit (.bool false)], args := [d1, d2] }
  | _ => none }
def VenueNoneWrongFalsely : Prop := venueNoneRow.holds Tryz.pinned (OpenSpec.ofChange venueNoneWrong)

/-- 'broadsidelaw16.VenueWhole': WHATEVER THE INPUT: true; the input reads as it did. -/
def venueWholeSpec : ChangeSpec := { name := "venueWhole", fn := fun _ => fun
  | [d] => { results := [.lit (.bool true)], args := [d] }
  | _ => none }
def venueWholeRow : OpenClaim := { program := "ytnfloameajanhaagreat", sum := "b79ad9963bf40af02ec9ffc2e6b570ff92e72784b5643d71724f2f618d89ddb7", func := "broadside/broadsidelaw16.VenueWhole", spec := "venueWhole", inPlace := ["math/bits.Add64", "slices.overlaps[broadside/api.Contract]", "slices.overlaps[broadside/api.Order]"], unfollowed := true, recurses := true, named := ["math/bits.divideError", "math/bits.overflowError"], plainKeys := false, apart := false }
def VenueWholeSaid : Prop := venueWholeRow.holds Tryz.pinned (OpenSpec.ofChange venueWholeSpec)

/-- ITS FALSE NEIGHBOUR: 'it returns false'. Refute it at one input. -/
def venueWholeWrong : ChangeSpec := { name := "venueWhole", fn := fun _ => fun
  | [d] => { results := [.lit (.bool false)], args := [d] }
  | _ => none }
def VenueWholeWrongFalsely : Prop := venueWholeRow.holds Tryz.pinned (OpenSpec.ofChange venueWholeWrong)

/-- 'broadsidelaw16.VenueBears': WHATEVER THE INPUT: true; the input reads as it did. -/
def venueBearsSpec : ChangeSpec := { name := "venueBears", fn := fun _ => fun
  | [d] => { results := [.lit (.bool true)], args := [d] }
  | _ => none }
def venueBearsRow : OpenClaim := { program := "ytnfloameajanhaagreat", sum := "b79ad9963bf40af02ec9ffc2e6b570ff92e72784b5643d71724f2f618d89ddb7", func := "broadside/broadsidelaw16.VenueBears", spec := "venueBears", inPlace := ["math/bits.Add64", "slices.overlaps[broadside/api.Contract]", "slices.overlaps[broadside/api.Order]"], unfollowed := true, recurses := true, named := ["math/bits.divideError", "math/bits.overflowError"], plainKeys := false, apart := false }
def VenueBearsSaid : Prop := venueBearsRow.holds Tryz.pinned (OpenSpec.ofChange venueBearsSpec)

/-- ITS FALSE NEIGHBOUR: 'it returns false'. Refute it at one input. -/
def venueBearsWrong : ChangeSpec := { name := "venueBears", fn := fun _ => fun
  | [d] => { results := [.lit (.bool false)], args := [d] }
  | _ => none }
def VenueBearsWrongFalsely : Prop := venueBearsRow.holds Tryz.pinned (OpenSpec.ofChange venueBearsWrong)

/-- 'broadsidelaw16.VenueNothing': WHATEVER THE INPUT: true; the input reads as it did. -/
def venueNothingSpec : ChangeSpec := { name := "venueNothing", fn := fun _ => fun
  | [d] => { results := [.lit (.bool true)], args := [d] }
  | _ => none }
def venueNothingRow : OpenClaim := { program := "ytnfloameajanhaagreat", sum := "b79ad9963bf40af02ec9ffc2e6b570ff92e72784b5643d71724f2f618d89ddb7", func := "broadside/broadsidelaw16.VenueNothing", spec := "venueNothing", inPlace := ["math/bits.Add64", "slices.overlaps[broadside/api.Contract]", "slices.overlaps[broadside/api.Order]"], unfollowed := true, recurses := true, named := ["math/bits.divideError", "math/bits.overflowError"], plainKeys := false, apart := false }
def VenueNothingSaid : Prop := venueNothingRow.holds Tryz.pinned (OpenSpec.ofChange venueNothingSpec)

/-- ITS FALSE NEIGHBOUR: 'it returns false'. Refute it at one input. -/
def venueNothingWrong : ChangeSpec := { name := "venueNothing", fn := fun _ => fun
  | [d] => { results := [.lit (.bool false)], args := [d] }
  | _ => none }
def VenueNothingWrongFalsely : Prop := venueNothingRow.holds Tryz.pinned (OpenSpec.ofChange venueNothingWrong)

/-- 'broadsidelaw16.VenueSettles': WHATEVER THE INPUT: true; the input reads as it did. -/
def venueSettlesSpec : ChangeSpec := { name := "venueSettles", fn := fun _ => fun
  | [d1, d2] => { results := [.lit (.bool true)], args := [d1, d2] }
  | _ => none }
def venueSettlesRow : OpenClaim := { program := "ytnfloameajanhaagreat", sum := "b79ad9963bf40af02ec9ffc2e6b570ff92e72784b5643d71724f2f618d89ddb7", func := "broadside/broadsidelaw16.VenueSettles", spec := "venueSettles", inPlace := ["math/bits.Add64", "slices.overlaps[broadside/api.Contract]", "slices.overlaps[broadside/api.Order]"], unfollowed := true, recurses := true, named := ["math/bits.divideError", "math/bits.overflowError"], plainKeys := false, apart := false }
def VenueSettlesSaid : Prop := venueSettlesRow.holds Tryz.pinned (OpenSpec.ofChange venueSettlesSpec)

/-- ITS FALSE NEIGHBOUR: 'it returns false'. Refute it at one input. -/
def venueSettlesWrong : ChangeSpec := { name := "venueSettles", fn := fun _ => fun
  | [d1, d2] => { results := [.lit (.bool false)], args := [d1, d2] }
  | _ => none }
def VenueSettlesWrongFalsely : Prop := venueSettlesRow.holds Tryz.pinned (OpenSpec.ofChange venueSettlesWrong)

/-- 'broadsidelaw16.VenueKill': WHATEVER THE INPUT: true; the input reads as it did. -/
def venueKillSpec : ChangeSpec := { name := "venueKill", fn := fun _ => fun
  | [d1, d2, d3] => { results := [.lit (.bool true)], args := [d1, d2, d3] }
  | _ => none }
def venueKillRow : OpenClaim := { program := "ytnfloameajanhaagreat", sum := "b79ad9963bf40af02ec9ffc2e6b570ff92e72784b5643d71724f2f618d89ddb7", func := "broadside/broadsidelaw16.VenueKill", spec := "venueKill", inPlace := ["math/bits.Add64", "slices.overlaps[broadside/api.Contract]", "slices.overlaps[broadside/api.Order]"], unfollowed := true, recurses := true, named := ["math/bits.divideError", "math/bits.overflowError"], plainKeys := false, apart := false }
def VenueKillSaid : Prop := venueKillRow.holds Tryz.pinned (OpenSpec.ofChange venueKillSpec)

/-- ITS FALSE NEIGHBOUR: 'it returns false'. Refute it at one input. -/
def venueKillWrong : ChangeSpec := { name := "venueKill", fn := fun _ => fun
  | [d1, d2, d3] => { results := [.lit (.bool false)], args := [d1, d2, d3] }
  | _ => none }
def VenueKillWrongFalsely : Prop := venueKillRow.holds Tryz.pinned (OpenSpec.ofChange venueKillWrong)

/-- 'broadsidelaw16.VenueCash': WHATEVER THE INPUT: true; the input reads as it did. -/
def venueCashSpec : ChangeSpec := { name := "venueCash", fn := fun _ => fun
  | [d] => { results := [.lit (.bool true)], args := [d] }
  | _ => none }
def venueCashRow : OpenClaim := { program := "ytnfloameajanhaagreat", sum := "b79ad9963bf40af02ec9ffc2e6b570ff92e72784b5643d71724f2f618d89ddb7", func := "broadside/broadsidelaw16.VenueCash", spec := "venueCash", inPlace := ["math/bits.Add64", "slices.overlaps[broadside/api.Contract]", "slices.overlaps[broadside/api.Order]"], unfollowed := true, recurses := true, named := ["math/bits.divideError", "math/bits.overflowError"], plainKeys := false, apart := false }
def VenueCashSaid : Prop := venueCashRow.holds Tryz.pinned (OpenSpec.ofChange venueCashSpec)

/-- ITS FALSE NEIGHBOUR: 'it returns false'. Refute it at one input. -/
def venueCashWrong : ChangeSpec := { name := "venueCash", fn := fun _ => fun
  | [d] => { results := [.lit (.bool false)], args := [d] }
  | _ => none }
def VenueCashWrongFalsely : Prop := venueCashRow.holds Tryz.pinned (OpenSpec.ofChange venueCashWrong)

/-- 'broadsidelaw16.VenueStill': WHATEVER THE INPUT: true; the input reads as it did. -/
def venueStillSpec : ChangeSpec := { name := "venueStill", fn := fun _ => fun
  | [d] => { results := [.lit (.bool true)], args := [d] }
  | _ => none }
def venueStillRow : OpenClaim := { program := "ytnfloameajanhaagreat", sum := "b79ad9963bf40af02ec9ffc2e6b570ff92e72784b5643d71724f2f618d89ddb7", func := "broadside/broadsidelaw16.VenueStill", spec := "venueStill", inPlace := ["math/bits.Add64", "slices.overlaps[broadside/api.Contract]", "slices.overlaps[broadside/api.Order]"], unfollowed := true, recurses := true, named := ["math/bits.divideError", "math/bits.overflowError"], plainKeys := false, apart := false }
def VenueStillSaid : Prop := venueStillRow.holds Tryz.pinned (OpenSpec.ofChange venueStillSpec)

/-- ITS FALSE NEIGHBOUR: 'it returns false'. Refute it at one input. -/
def venueStillWrong : ChangeSpec := { name := "venueStill", fn := fun _ => fun
  | [d] => { results := [.lit (.bool false)], args := [d] }
  | _ => none }
def VenueStillWrongFalsely : Prop := venueStillRow.holds Tryz.pinned (OpenSpec.ofChange venueStillWrong)

/-- 'broadsidelaw16.VenueTaken': WHATEVER THE INPUT: true; the input reads as it did. -/
def venueTakenSpec : ChangeSpec := { name := "venueTaken", fn := fun _ => fun
  | [d1, d2] => { results := [.lit (.bool true)], args := [d1, d2] }
  | _ => none }
def venueTakenRow : OpenClaim := { program := "ytnfloameajanhaagreat", sum := "b79ad9963bf40af02ec9ffc2e6b570ff92e72784b5643d71724f2f618d89ddb7", func := "broadside/broadsidelaw16.VenueTaken", spec := "venueTaken", inPlace := ["math/bits.Add64", "slices.overlaps[broadside/api.Contract]", "slices.overlaps[broadside/api.Order]"], unfollowed := true, recurses := true, named := ["math/bits.divideError", "math/bits.overflowError"], plainKeys := false, apart := false }
def VenueTakenSaid : Prop := venueTakenRow.holds Tryz.pinned (OpenSpec.ofChange venueTakenSpec)

/-- ITS FALSE NEIGHBOUR: 'it returns false'. Refute it at one input. -/
def venueTakenWrong : ChangeSpec := { name := "venueTaken", fn := fun _ => fun
  | [d1, d2] => { results := [.lit (.bool false)], args := [d1, d2] }
  | _ => none }
def VenueTakenWrongFalsely : Prop := venueTakenRow.holds Tryz.pinned (OpenSpec.ofChange venueTakenWrong)

/-- 'broadsidelaw16.VenueShut': WHATEVER THE INPUT: true; the input reads as it did. -/
def venueShutSpec : ChangeSpec := { name := "venueShut", fn := fun _ => fun
  | [d] => { results := [.lit (.bool true)], args := [d] }
  | _ => none }
def venueShutRow : OpenClaim := { program := "ytnfloameajanhaagreat", sum := "b79ad9963bf40af02ec9ffc2e6b570ff92e72784b5643d71724f2f618d89ddb7", func := "broadside/broadsidelaw16.VenueShut", spec := "venueShut", inPlace := ["math/bits.Add64", "slices.overlaps[broadside/api.Contract]", "slices.overlaps[broadside/api.Order]"], unfollowed := true, recurses := true, named := ["math/bits.divideError", "math/bits.overflowError"], plainKeys := false, apart := false }
def VenueShutSaid : Prop := venueShutRow.holds Tryz.pinned (OpenSpec.ofChange venueShutSpec)

/-- ITS FALSE NEIGHBOUR: 'it returns false'. Refute it at one input. -/
def venueShutWrong : ChangeSpec := { name := "venueShut", fn := fun _ => fun
  | [d] => { results := [.lit (.bool false)], args := [d] }
  | _ => none }
def VenueShutWrongFalsely : Prop := venueShutRow.holds Tryz.pinned (OpenSpec.ofChange venueShutWrong)

/- THE SECOND FORM. 'bulk': how many values and letters a reading holds, each counted each time it is reached (what is shared counts as often as it is met; a slice's spare places count too). A statement '..UptoSaid' is the law's where the arguments, and the package variables that the reading takes, are together of bulk at most 1048576: NARROWER than '..Said'. Prove '..Said' where nothing that the law and all that it calls make is longer than what came in: it says more and counts as full. Else prove '..UptoSaid'. A law counts once. -/
mutual
def uptoBulk {H : Type} : DataW H → Nat
  | .lit (.string bytes) => bytes.length + 1
  | .lit _ => 1
  | .nil => 1
  | .ptr d => uptoBulk d + 1
  | .slice elems spare => uptoBulkAll elems + uptoBulkAll spare + 1
  | .agg parts => uptoBulkAll parts + 1
  | .iface _ d => uptoBulk d + 1
  | .map entries => uptoBulkEntries entries + 1
  | .held _ => 1
def uptoBulkAll {H : Type} : List (DataW H) → Nat
  | [] => 0
  | d :: r => uptoBulk d + uptoBulkAll r
def uptoBulkEntries {H : Type} : List (Lit × DataW H) → Nat
  | [] => 0
  | x :: r => uptoBulkEntry x + uptoBulkEntries r
def uptoBulkEntry {H : Type} : Lit × DataW H → Nat
  | (.string bytes, d) => bytes.length + uptoBulk d + 1
  | (_, d) => uptoBulk d + 1
 end
def uptoSmall : (H : Type) → List (DataW H) → Bool := fun _ ds => decide (uptoBulkAll ds ≤ 1048576)
def OpenSpec.upto (s : _root_.Go.ChangeSpec) : _root_.Go.OpenSpec := { _root_.Go.OpenSpec.ofChange s with cond := some uptoSmall }

/-- 'broadsidelaw16.VenueNone', WHERE WHAT IT READS IS OF BULK AT MOST 1048576: true; the input reads as it did. -/
def venueNoneUptoRow : OpenClaim := { program := "ytnfloameajanhaagreat", sum := "b79ad9963bf40af02ec9ffc2e6b570ff92e72784b5643d71724f2f618d89ddb7", func := "broadside/broadsidelaw16.VenueNone", spec := "venueNone", inPlace := ["math/bits.Add64", "slices.overlaps[broadside/api.Contract]", "slices.overlaps[broadside/api.Order]"], unfollowed := true, recurses := true, named := ["math/bits.divideError", "math/bits.overflowError"], plainKeys := false, apart := false, narrowed := true }
def VenueNoneUptoSaid : Prop := venueNoneUptoRow.holds Tryz.pinned (OpenSpec.upto venueNoneSpec)

/-- 'broadsidelaw16.VenueWhole', WHERE WHAT IT READS IS OF BULK AT MOST 1048576: true; the input reads as it did. -/
def venueWholeUptoRow : OpenClaim := { program := "ytnfloameajanhaagreat", sum := "b79ad9963bf40af02ec9ffc2e6b570ff92e72784b5643d71724f2f618d89ddb7", func := "broadside/broadsidelaw16.VenueWhole", spec := "venueWhole", inPlace := ["math/bits.Add64", "slices.overlaps[broadside/api.Contract]", "slices.overlaps[broadside/api.Order]"], unfollowed := true, recurses := true, named := ["math/bits.divideError", "math/bits.overflowError"], plainKeys := false, apart := false, narrowed := true }
def VenueWholeUptoSaid : Prop := venueWholeUptoRow.holds Tryz.pinned (OpenSpec.upto venueWholeSpec)

/-- 'broadsidelaw16.VenueBears', WHERE WHAT IT READS IS OF BULK AT MOST 1048576: true; the input reads as it did. -/
def venueBearsUptoRow : OpenClaim := { program := "ytnfloameajanhaagreat", sum := "b79ad9963bf40af02ec9ffc2e6b570ff92e72784b5643d71724f2f618d89ddb7", func := "broadside/broadsidelaw16.VenueBears", spec := "venueBears", inPlace := ["math/bits.Add64", "slices.overlaps[broadside/api.Contract]", "slices.overlaps[broadside/api.Order]"], unfollowed := true, recurses := true, named := ["math/bits.divideError", "math/bits.overflowError"], plainKeys := false, apart := false, narrowed := true }
def VenueBearsUptoSaid : Prop := venueBearsUptoRow.holds Tryz.pinned (OpenSpec.upto venueBearsSpec)

/-- 'broadsidelaw16.VenueNothing', WHERE WHAT IT READS IS OF BULK AT MOST 1048576: true; the input reads as it did. -/
def venueNothingUptoRow : OpenClaim := { program := "ytnfloameajanhaagreat", sum := "b79ad9963bf40af02ec9ffc2e6b570ff92e72784b5643d71724f2f618d89ddb7", func := "broadside/broadsidelaw16.VenueNothing", spec := "venueNothing", inPlace := ["math/bits.Add64", "slices.overlaps[broadside/api.Contract]", "slices.overlaps[broadside/api.Order]"], unfollowed := true, recurses := true, named := ["math/bits.divideError", "math/bits.overflowError"], plainKeys := false, apart := false, narrowed := true }
def VenueNothingUptoSaid : Prop := venueNothingUptoRow.holds Tryz.pinned (OpenSpec.upto venueNothingSpec)

/-- 'broadsidelaw16.VenueSettles', WHERE WHAT IT READS IS OF BULK AT MOST 1048576: true; the input reads as it did. -/
def venueSettlesUptoRow : OpenClaim := { program := "ytnfloameajanhaagreat", sum := "b79ad9963bf40af02ec9ffc2e6b570ff92e72784b5643d71724f2f618d89ddb7", func := "broadside/broadsidelaw16.VenueSettles", spec := "venueSettles", inPlace := ["math/bits.Add64", "slices.overlaps[broadside/api.Contract]", "slices.overlaps[broadside/api.Order]"], unfollowed := true, recurses := true, named := ["math/bits.divideError", "math/bits.overflowError"], plainKeys := false, apart := false, narrowed := true }
def VenueSettlesUptoSaid : Prop := venueSettlesUptoRow.holds Tryz.pinned (OpenSpec.upto venueSettlesSpec)

/-- 'broadsidelaw16.VenueKill', WHERE WHAT IT READS IS OF BULK AT MOST 1048576: true; the input reads as it did. -/
def venueKillUptoRow : OpenClaim := { program := "ytnfloameajanhaagreat", sum := "b79ad9963bf40af02ec9ffc2e6b570ff92e72784b5643d71724f2f618d89ddb7", func := "broadside/broadsidelaw16.VenueKill", spec := "venueKill", inPlace := ["math/bits.Add64", "slices.overlaps[broadside/api.Contract]", "slices.overlaps[broadside/api.Order]"], unfollowed := true, recurses := true, named := ["math/bits.divideError", "math/bits.overflowError"], plainKeys := false, apart := false, narrowed := true }
def VenueKillUptoSaid : Prop := venueKillUptoRow.holds Tryz.pinned (OpenSpec.upto venueKillSpec)

/-- 'broadsidelaw16.VenueCash', WHERE WHAT IT READS IS OF BULK AT MOST 1048576: true; the input reads as it did. -/
def venueCashUptoRow : OpenClaim := { program := "ytnfloameajanhaagreat", sum := "b79ad9963bf40af02ec9ffc2e6b570ff92e72784b5643d71724f2f618d89ddb7", func := "broadside/broadsidelaw16.VenueCash", spec := "venueCash", inPlace := ["math/bits.Add64", "slices.overlaps[broadside/api.Contract]", "slices.overlaps[broadside/api.Order]"], unfollowed := true, recurses := true, named := ["math/bits.divideError", "math/bits.overflowError"], plainKeys := false, apart := false, narrowed := true }
def VenueCashUptoSaid : Prop := venueCashUptoRow.holds Tryz.pinned (OpenSpec.upto venueCashSpec)

/-- 'broadsidelaw16.VenueStill', WHERE WHAT IT READS IS OF BULK AT MOST 1048576: true; the input reads as it did. -/
def venueStillUptoRow : OpenClaim := { program := "ytnfloameajanhaagreat", sum := "b79ad9963bf40af02ec9ffc2e6b570ff92e72784b5643d71724f2f618d89ddb7", func := "broadside/broadsidelaw16.VenueStill", spec := "venueStill", inPlace := ["math/bits.Add64", "slices.overlaps[broadside/api.Contract]", "slices.overlaps[broadside/api.Order]"], unfollowed := true, recurses := true, named := ["math/bits.divideError", "math/bits.overflowError"], plainKeys := false, apart := false, narrowed := true }
def VenueStillUptoSaid : Prop := venueStillUptoRow.holds Tryz.pinned (OpenSpec.upto venueStillSpec)

/-- 'broadsidelaw16.VenueTaken', WHERE WHAT IT READS IS OF BULK AT MOST 1048576: true; the input reads as it did. -/
def venueTakenUptoRow : OpenClaim := { program := "ytnfloameajanhaagreat", sum := "b79ad9963bf40af02ec9ffc2e6b570ff92e72784b5643d71724f2f618d89ddb7", func := "broadside/broadsidelaw16.VenueTaken", spec := "venueTaken", inPlace := ["math/bits.Add64", "slices.overlaps[broadside/api.Contract]", "slices.overlaps[broadside/api.Order]"], unfollowed := true, recurses := true, named := ["math/bits.divideError", "math/bits.overflowError"], plainKeys := false, apart := false, narrowed := true }
def VenueTakenUptoSaid : Prop := venueTakenUptoRow.holds Tryz.pinned (OpenSpec.upto venueTakenSpec)

/-- 'broadsidelaw16.VenueShut', WHERE WHAT IT READS IS OF BULK AT MOST 1048576: true; the input reads as it did. -/
def venueShutUptoRow : OpenClaim := { program := "ytnfloameajanhaagreat", sum := "b79ad9963bf40af02ec9ffc2e6b570ff92e72784b5643d71724f2f618d89ddb7", func := "broadside/broadsidelaw16.VenueShut", spec := "venueShut", inPlace := ["math/bits.Add64", "slices.overlaps[broadside/api.Contract]", "slices.overlaps[broadside/api.Order]"], unfollowed := true, recurses := true, named := ["math/bits.divideError", "math/bits.overflowError"], plainKeys := false, apart := false, narrowed := true }
def VenueShutUptoSaid : Prop := venueShutUptoRow.holds Tryz.pinned (OpenSpec.upto venueShutSpec)

end Rows
end Go.Proofs.YtnfloameajanhaaGreat
