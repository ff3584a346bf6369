/-
  No cell of these rows narrows 'for every input' (looked for: loops, veiled, ifaces, maps, wideKeys, modest, calm, conditions, laid).
  DERIVED. THE GIVEN ROWS OF THIS SEAT. 11 by the template 'for every input the law returns true; each argument reads behind the call as it read before'; 0 by the template 'total and deterministic' (their statements: YteldcaeicgobfaaTotals.lean).
  GIVEN WITH THE SEED: the statements are not yours to turn. If you find one false, say at which input.
  Laid BY PROGRAM, IN A SANDBOX (cutbox-rows.mjs): the forced cells as the released guide's own fill.sh prints them over the translation e8d1cb8a3fd5a269… (all of the seat's roots in one cut). By AI agents, Wed Nov 11 2026. No macro, syntax, notation, axiom, sorry.
-/
import Derived.Test.YteldcaeicgobfaaChecked
import GoSem.Claim
import GoSem.ClaimJoined
import GoSem.ClaimMapViews
import Derived.JoinedTies
import Derived.KernelRfl
namespace Go.Proofs.Yteldcaeicgobfaa
/- THE CELL 'sum', in the pinned program and in every row, IS THE sha256 OF THE DUMP (.gsa) THAT YteldcaeicgobfaaProg.lean LOADS. Nothing in Lean hashes anything: it is a label: what it is worth is what the hold of that sum in a sandbox is worth. -/
noncomputable def Try.pinned : Pinned := { name := "yteldcaeicgobfaa", sum := "e8d1cb8a3fd5a269924f58afc70d5e2a967dffb0e509ddb0a49cf02251619e3f", checked := Try.checked }
namespace Rows
def none {H : Type} : Left H := { results := [], args := [] }

/-- 'broadsidelaw18.DiskTorn': WHATEVER THE INPUT: true; the input reads as it did. -/
def diskTornSpec : ChangeSpec := { name := "diskTorn", fn := fun _ => fun
  | [d1, d2, d3, d4] => { results := [.lit (.bool true)], args := [d1, d2, d3, d4] }
  | _ => none }
def diskTornRow : OpenClaim := { program := "yteldcaeicgobfaa", sum := "e8d1cb8a3fd5a269924f58afc70d5e2a967dffb0e509ddb0a49cf02251619e3f", func := "broadside/broadsidelaw18.DiskTorn", spec := "diskTorn", unfollowed := true, recurses := true, plainKeys := false, apart := false }
def DiskTornSaid : Prop := diskTornRow.holds Try.pinned (OpenSpec.ofChange diskTornSpec)

/-- ITS FALSE NEIGHBOUR: 'it returns false'. Refute it at one input. -/
def diskTornWrong : ChangeSpec := { name := "diskTorn", fn := fun _ => fun
  | [d1, d2, d3, d4] => { results := [.lit (.bool false)], args := [d1, d2, d3, d4] }
  | _ => none }
def DiskTornWrongFalsely : Prop := diskTornRow.holds Try.pinned (OpenSpec.ofChange diskTornWrong)

/-- 'broadsidelaw18.DiskSynced': WHATEVER THE INPUT: true; the input reads as it did. -/
def diskSyncedSpec : ChangeSpec := { name := "diskSynced", fn := fun _ => fun
  | [d1, d2, d3, d4] => { results := [.lit (.bool true)], args := [d1, d2, d3, d4] }
  | _ => none }
def diskSyncedRow : OpenClaim := { program := "yteldcaeicgobfaa", sum := "e8d1cb8a3fd5a269924f58afc70d5e2a967dffb0e509ddb0a49cf02251619e3f", func := "broadside/broadsidelaw18.DiskSynced", spec := "diskSynced", unfollowed := true, recurses := true, plainKeys := false, apart := false }
def DiskSyncedSaid : Prop := diskSyncedRow.holds Try.pinned (OpenSpec.ofChange diskSyncedSpec)

/-- ITS FALSE NEIGHBOUR: 'it returns false'. Refute it at one input. -/
def diskSyncedWrong : ChangeSpec := { name := "diskSynced", fn := fun _ => fun
  | [d1, d2, d3, d4] => { results := [.lit (.bool false)], args := [d1, d2, d3, d4] }
  | _ => none }
def DiskSyncedWrongFalsely : Prop := diskSyncedRow.holds Try.pinned (OpenSpec.ofChange diskSyncedWrong)

/-- 'broadsidelaw18.DiskPlays': WHATEVER THE INPUT: true; the input reads as it did. -/
def diskPlaysSpec : ChangeSpec := { name := "diskPlays", fn := fun _ => fun
  | [d] => { results := [.lit (.bool true)], args := [d] }
  | _ => none }
def diskPlaysRow : OpenClaim := { program := "yteldcaeicgobfaa", sum := "e8d1cb8a3fd5a269924f58afc70d5e2a967dffb0e509ddb0a49cf02251619e3f", func := "broadside/broadsidelaw18.DiskPlays", spec := "diskPlays", inPlace := ["maps.clone"], unfollowed := true, recurses := true, plainKeys := false, apart := false }
def DiskPlaysSaid : Prop := diskPlaysRow.holds Try.pinned (OpenSpec.ofChange diskPlaysSpec)

/-- ITS FALSE NEIGHBOUR: 'it returns false'. Refute it at one input. -/
def diskPlaysWrong : ChangeSpec := { name := "diskPlays", fn := fun _ => fun
  | [d] => { results := [.lit (.bool false)], args := [d] }
  | _ => none }
def DiskPlaysWrongFalsely : Prop := diskPlaysRow.holds Try.pinned (OpenSpec.ofChange diskPlaysWrong)

/-- 'broadsidelaw18.DiskNone': WHATEVER THE INPUT: true; the input reads as it did. -/
def diskNoneSpec : ChangeSpec := { name := "diskNone", fn := fun _ => fun
  | [d1, d2, d3] => { results := [.lit (.bool true)], args := [d1, d2, d3] }
  | _ => none }
def diskNoneRow : OpenClaim := { program := "yteldcaeicgobfaa", sum := "e8d1cb8a3fd5a269924f58afc70d5e2a967dffb0e509ddb0a49cf02251619e3f", func := "broadside/broadsidelaw18.DiskNone", spec := "diskNone", inPlace := ["maps.clone"], unfollowed := true, recurses := true, plainKeys := false, apart := false }
def DiskNoneSaid : Prop := diskNoneRow.holds Try.pinned (OpenSpec.ofChange diskNoneSpec)

/-- ITS FALSE NEIGHBOUR: 'it returns false'. Refute it at one input. -/
def diskNoneWrong : ChangeSpec := { name := "diskNone", fn := fun _ => fun
  | [d1, d2, d3] => { results := [.lit (.bool false)], args := [d1, d2, d3] }
  | _ => none }
def DiskNoneWrongFalsely : Prop := diskNoneRow.holds Try.pinned (OpenSpec.ofChange diskNoneWrong)

/-- 'broadsidelaw20.VoteNone': WHATEVER THE INPUT: true; the input reads as it did. -/
def voteNoneSpec : ChangeSpec := { name := "voteNone", fn := fun _ => fun
  | [d1, d2] => { results := [.lit (.bool true)], args := [d1, d2] }
  | _ => none }
def voteNoneRow : OpenClaim := { program := "yteldcaeicgobfaa", sum := "e8d1cb8a3fd5a269924f58afc70d5e2a967dffb0e509ddb0a49cf02251619e3f", func := "broadside/broadsidelaw20.VoteNone", spec := "voteNone", unfollowed := true, recurses := true, plainKeys := false, apart := false }
def VoteNoneSaid : Prop := voteNoneRow.holds Try.pinned (OpenSpec.ofChange voteNoneSpec)

/-- ITS FALSE NEIGHBOUR: 'it returns false'. Refute it at one input. -/
def voteNoneWrong : ChangeSpec := { name := "voteNone", fn := fun _ => fun
  | [d1, d2] => { results := [.lit (.bool false)], args := [d1, d2] }
  | _ => none }
def VoteNoneWrongFalsely : Prop := voteNoneRow.holds Try.pinned (OpenSpec.ofChange voteNoneWrong)

/-- 'broadsidelaw20.VotePlays': WHATEVER THE INPUT: true; the input reads as it did. -/
def votePlaysSpec : ChangeSpec := { name := "votePlays", fn := fun _ => fun
  | [d] => { results := [.lit (.bool true)], args := [d] }
  | _ => none }
def votePlaysRow : OpenClaim := { program := "yteldcaeicgobfaa", sum := "e8d1cb8a3fd5a269924f58afc70d5e2a967dffb0e509ddb0a49cf02251619e3f", func := "broadside/broadsidelaw20.VotePlays", spec := "votePlays", unfollowed := true, recurses := true, plainKeys := false, apart := false }
def VotePlaysSaid : Prop := votePlaysRow.holds Try.pinned (OpenSpec.ofChange votePlaysSpec)

/-- ITS FALSE NEIGHBOUR: 'it returns false'. Refute it at one input. -/
def votePlaysWrong : ChangeSpec := { name := "votePlays", fn := fun _ => fun
  | [d] => { results := [.lit (.bool false)], args := [d] }
  | _ => none }
def VotePlaysWrongFalsely : Prop := votePlaysRow.holds Try.pinned (OpenSpec.ofChange votePlaysWrong)

/-- 'broadsidelaw20.VoteReads': WHATEVER THE INPUT: true; the input reads as it did. -/
def voteReadsSpec : ChangeSpec := { name := "voteReads", fn := fun _ => fun
  | [d] => { results := [.lit (.bool true)], args := [d] }
  | _ => none }
def voteReadsRow : OpenClaim := { program := "yteldcaeicgobfaa", sum := "e8d1cb8a3fd5a269924f58afc70d5e2a967dffb0e509ddb0a49cf02251619e3f", func := "broadside/broadsidelaw20.VoteReads", spec := "voteReads", unfollowed := true, recurses := true, plainKeys := false, apart := false }
def VoteReadsSaid : Prop := voteReadsRow.holds Try.pinned (OpenSpec.ofChange voteReadsSpec)

/-- ITS FALSE NEIGHBOUR: 'it returns false'. Refute it at one input. -/
def voteReadsWrong : ChangeSpec := { name := "voteReads", fn := fun _ => fun
  | [d] => { results := [.lit (.bool false)], args := [d] }
  | _ => none }
def VoteReadsWrongFalsely : Prop := voteReadsRow.holds Try.pinned (OpenSpec.ofChange voteReadsWrong)

/-- 'broadsidelaw21.ShotsNone': WHATEVER THE INPUT: true; the input reads as it did. -/
def shotsNoneSpec : ChangeSpec := { name := "shotsNone", fn := fun _ => fun
  | [d1, d2, d3] => { results := [.lit (.bool true)], args := [d1, d2, d3] }
  | _ => none }
def shotsNoneRow : OpenClaim := { program := "yteldcaeicgobfaa", sum := "e8d1cb8a3fd5a269924f58afc70d5e2a967dffb0e509ddb0a49cf02251619e3f", func := "broadside/broadsidelaw21.ShotsNone", spec := "shotsNone", unfollowed := true, recurses := true, plainKeys := false, apart := false }
def ShotsNoneSaid : Prop := shotsNoneRow.holds Try.pinned (OpenSpec.ofChange shotsNoneSpec)

/-- ITS FALSE NEIGHBOUR: 'it returns false'. Refute it at one input. -/
def shotsNoneWrong : ChangeSpec := { name := "shotsNone", fn := fun _ => fun
  | [d1, d2, d3] => { results := [.lit (.bool false)], args := [d1, d2, d3] }
  | _ => none }
def ShotsNoneWrongFalsely : Prop := shotsNoneRow.holds Try.pinned (OpenSpec.ofChange shotsNoneWrong)

/-- 'broadsidelaw21.ShotsPlays': WHATEVER THE INPUT: true; the input reads as it did. -/
def shotsPlaysSpec : ChangeSpec := { name := "shotsPlays", fn := fun _ => fun
  | [d] => { results := [.lit (.bool true)], args := [d] }
  | _ => none }
def shotsPlaysRow : OpenClaim := { program := "yteldcaeicgobfaa", sum := "e8d1cb8a3fd5a269924f58afc70d5e2a967dffb0e509ddb0a49cf02251619e3f", func := "broadside/broadsidelaw21.ShotsPlays", spec := "shotsPlays", unfollowed := true, recurses := true, plainKeys := false, apart := false }
def ShotsPlaysSaid : Prop := shotsPlaysRow.holds Try.pinned (OpenSpec.ofChange shotsPlaysSpec)

/-- ITS FALSE NEIGHBOUR: 'it returns false'. Refute it at one input. -/
def shotsPlaysWrong : ChangeSpec := { name := "shotsPlays", fn := fun _ => fun
  | [d] => { results := [.lit (.bool false)], args := [d] }
  | _ => none }
def ShotsPlaysWrongFalsely : Prop := shotsPlaysRow.holds Try.pinned (OpenSpec.ofChange shotsPlaysWrong)

/-- 'broadsidelaw21.ShotsReads': WHATEVER THE INPUT: true; the input reads as it did. -/
def shotsReadsSpec : ChangeSpec := { name := "shotsReads", fn := fun _ => fun
  | [d1, d2] => { results := [.lit (.bool true)], args := [d1, d2] }
  | _ => none }
def shotsReadsRow : OpenClaim := { program := "yteldcaeicgobfaa", sum := "e8d1cb8a3fd5a269924f58afc70d5e2a967dffb0e509ddb0a49cf02251619e3f", func := "broadside/broadsidelaw21.ShotsReads", spec := "shotsReads", unfollowed := true, recurses := true, plainKeys := false, apart := false }
def ShotsReadsSaid : Prop := shotsReadsRow.holds Try.pinned (OpenSpec.ofChange shotsReadsSpec)

/-- ITS FALSE NEIGHBOUR: 'it returns false'. Refute it at one input. -/
def shotsReadsWrong : ChangeSpec := { name := "shotsReads", fn := fun _ => fun
  | [d1, d2] => { results := [.lit (.bool false)], args := [d1, d2] }
  | _ => none }
def ShotsReadsWrongFalsely : Prop := shotsReadsRow.holds Try.pinned (OpenSpec.ofChange shotsReadsWrong)

/-- 'broadsidelaw21.ShotsWrites': WHATEVER THE INPUT: true; the input reads as it did. -/
def shotsWritesSpec : ChangeSpec := { name := "shotsWrites", fn := fun _ => fun
  | [d1, d2, d3] => { results := [.lit (.bool true)], args := [d1, d2, d3] }
  | _ => none }
def shotsWritesRow : OpenClaim := { program := "yteldcaeicgobfaa", sum := "e8d1cb8a3fd5a269924f58afc70d5e2a967dffb0e509ddb0a49cf02251619e3f", func := "broadside/broadsidelaw21.ShotsWrites", spec := "shotsWrites", unfollowed := true, recurses := true, plainKeys := false, apart := false }
def ShotsWritesSaid : Prop := shotsWritesRow.holds Try.pinned (OpenSpec.ofChange shotsWritesSpec)

/-- ITS FALSE NEIGHBOUR: 'it returns false'. Refute it at one input. -/
def shotsWritesWrong : ChangeSpec := { name := "shotsWrites", fn := fun _ => fun
  | [d1, d2, d3] => { results := [.lit (.bool false)], args := [d1, d2, d3] }
  | _ => none }
def ShotsWritesWrongFalsely : Prop := shotsWritesRow.holds Try.pinned (OpenSpec.ofChange shotsWritesWrong)

/- THE SECOND FORM. 'bulk': how many values and letters a reading holds, each counted each time it is reached (what is shared counts as often as it is met; a slice's spare places count too). A statement '..UptoSaid' is the law's where the arguments, and the package variables that the reading takes, are together of bulk at most 1048576: NARROWER than '..Said'. Prove '..Said' where nothing that the law and all that it calls make is longer than what came in: it says more and counts as full. Else prove '..UptoSaid'. A law counts once. -/
mutual
def uptoBulk {H : Type} : DataW H → Nat
  | .lit (.string bytes) => bytes.length + 1
  | .lit _ => 1
  | .nil => 1
  | .ptr d => uptoBulk d + 1
  | .slice elems spare => uptoBulkAll elems + uptoBulkAll spare + 1
  | .agg parts => uptoBulkAll parts + 1
  | .iface _ d => uptoBulk d + 1
  | .map entries => uptoBulkEntries entries + 1
  | .held _ => 1
def uptoBulkAll {H : Type} : List (DataW H) → Nat
  | [] => 0
  | d :: r => uptoBulk d + uptoBulkAll r
def uptoBulkEntries {H : Type} : List (Lit × DataW H) → Nat
  | [] => 0
  | x :: r => uptoBulkEntry x + uptoBulkEntries r
def uptoBulkEntry {H : Type} : Lit × DataW H → Nat
  | (.string bytes, d) => bytes.length + uptoBulk d + 1
  | (_, d) => uptoBulk d + 1
 end
def uptoSmall : (H : Type) → List (DataW H) → Bool := fun _ ds => decide (uptoBulkAll ds ≤ 1048576)
def OpenSpec.upto (s : _root_.Go.ChangeSpec) : _root_.Go.OpenSpec := { _root_.Go.OpenSpec.ofChange s with cond := some uptoSmall }

/-- 'broadsidelaw18.DiskTorn', WHERE WHAT IT READS IS OF BULK AT MOST 1048576: true; the input reads as it did. -/
def diskTornUptoRow : OpenClaim := { program := "yteldcaeicgobfaa", sum := "e8d1cb8a3fd5a269924f58afc70d5e2a967dffb0e509ddb0a49cf02251619e3f", func := "broadside/broadsidelaw18.DiskTorn", spec := "diskTorn", unfollowed := true, recurses := true, plainKeys := false, apart := false, narrowed := true }
def DiskTornUptoSaid : Prop := diskTornUptoRow.holds Try.pinned (OpenSpec.upto diskTornSpec)

/-- 'broadsidelaw18.DiskSynced', WHERE WHAT IT READS IS OF BULK AT MOST 1048576: true; the input reads as it did. -/
def diskSyncedUptoRow : OpenClaim := { program := "yteldcaeicgobfaa", sum := "e8d1cb8a3fd5a269924f58afc70d5e2a967dffb0e509ddb0a49cf02251619e3f", func := "broadside/broadsidelaw18.DiskSynced", spec := "diskSynced", unfollowed := true, recurses := true, plainKeys := false, apart := false, narrowed := true }
def DiskSyncedUptoSaid : Prop := diskSyncedUptoRow.holds Try.pinned (OpenSpec.upto diskSyncedSpec)

/-- 'broadsidelaw18.DiskPlays', WHERE WHAT IT READS IS OF BULK AT MOST 1048576: true; the input reads as it did. -/
def diskPlaysUptoRow : OpenClaim := { program := "yteldcaeicgobfaa", sum := "e8d1cb8a3fd5a269924f58afc70d5e2a967dffb0e509ddb0a49cf02251619e3f", func := "broadside/broadsidelaw18.DiskPlays", spec := "diskPlays", inPlace := ["maps.clone"], unfollowed := true, recurses := true, plainKeys := false, apart := false, narrowed := true }
def DiskPlaysUptoSaid : Prop := diskPlaysUptoRow.holds Try.pinned (OpenSpec.upto diskPlaysSpec)

/-- 'broadsidelaw18.DiskNone', WHERE WHAT IT READS IS OF BULK AT MOST 1048576: true; the input reads as it did. -/
def diskNoneUptoRow : OpenClaim := { program := "yteldcaeicgobfaa", sum := "e8d1cb8a3fd5a269924f58afc70d5e2a967dffb0e509ddb0a49cf02251619e3f", func := "broadside/broadsidelaw18.DiskNone", spec := "diskNone", inPlace := ["maps.clone"], unfollowed := true, recurses := true, plainKeys := false, apart := false, narrowed := true }
def DiskNoneUptoSaid : Prop := diskNoneUptoRow.holds Try.pinned (OpenSpec.upto diskNoneSpec)

/-- 'broadsidelaw20.VoteNone', WHERE WHAT IT READS IS OF BULK AT MOST 1048576: true; the input reads as it did. -/
def voteNoneUptoRow : OpenClaim := { program := "yteldcaeicgobfaa", sum := "e8d1cb8a3fd5a269924f58afc70d5e2a967dffb0e509ddb0a49cf02251619e3f", func := "broadside/broadsidelaw20.VoteNone", spec := "voteNone", unfollowed := true, recurses := true, plainKeys := false, apart := false, narrowed := true }
def VoteNoneUptoSaid : Prop := voteNoneUptoRow.holds Try.pinned (OpenSpec.upto voteNoneSpec)

/-- 'broadsidelaw20.VotePlays', WHERE WHAT IT READS IS OF BULK AT MOST 1048576: true; the input reads as it did. -/
def votePlaysUptoRow : OpenClaim := { program := "yteldcaeicgobfaa", sum := "e8d1cb8a3fd5a269924f58afc70d5e2a967dffb0e509ddb0a49cf02251619e3f", func := "broadside/broadsidelaw20.VotePlays", spec := "votePlays", unfollowed := true, recurses := true, plainKeys := false, apart := false, narrowed := true }
def VotePlaysUptoSaid : Prop := votePlaysUptoRow.holds Try.pinned (OpenSpec.upto votePlaysSpec)

/-- 'broadsidelaw20.VoteReads', WHERE WHAT IT READS IS OF BULK AT MOST 1048576: true; the input reads as it did. -/
def voteReadsUptoRow : OpenClaim := { program := "yteldcaeicgobfaa", sum := "e8d1cb8a3fd5a269924f58afc70d5e2a967dffb0e509ddb0a49cf02251619e3f", func := "broadside/broadsidelaw20.VoteReads", spec := "voteReads", unfollowed := true, recurses := true, plainKeys := false, apart := false, narrowed := true }
def VoteReadsUptoSaid : Prop := voteReadsUptoRow.holds Try.pinned (OpenSpec.upto voteReadsSpec)

/-- 'broadsidelaw21.ShotsNone', WHERE WHAT IT READS IS OF BULK AT MOST 1048576: true; the input reads as it did. -/
def shotsNoneUptoRow : OpenClaim := { program := "yteldcaeicgobfaa", sum := "e8d1cb8a3fd5a269924f58afc70d5e2a967dffb0e509ddb0a49cf02251619e3f", func := "broadside/broadsidelaw21.ShotsNone", spec := "shotsNone", unfollowed := true, recurses := true, plainKeys := false, apart := false, narrowed := true }
def ShotsNoneUptoSaid : Prop := shotsNoneUptoRow.holds Try.pinned (OpenSpec.upto shotsNoneSpec)

/-- 'broadsidelaw21.ShotsPlays', WHERE WHAT IT READS IS OF BULK AT MOST 1048576: true; the input reads as it did. -/
def shotsPlaysUptoRow : OpenClaim := { program := "yteldcaeicgobfaa", sum := "e8d1cb8a3fd5a269924f58afc70d5e2a967dffb0e509ddb0a49cf02251619e3f", func := "broadside/broadsidelaw21.ShotsPlays", spec := "shotsPlays", unfollowed := true, recurses := true, plainKeys := false, apart := false, narrowed := true }
def ShotsPlaysUptoSaid : Prop := shotsPlaysUptoRow.holds Try.pinned (OpenSpec.upto shotsPlaysSpec)

/-- 'broadsidelaw21.ShotsReads', WHERE WHAT IT READS IS OF BULK AT MOST 1048576: true; the input reads as it did. -/
def shotsReadsUptoRow : OpenClaim := { program := "yteldcaeicgobfaa", sum := "e8d1cb8a3fd5a269924f58afc70d5e2a967dffb0e509ddb0a49cf02251619e3f", func := "broadside/broadsidelaw21.ShotsReads", spec := "shotsReads", unfollowed := true, recurses := true, plainKeys := false, apart := false, narrowed := true }
def ShotsReadsUptoSaid : Prop := shotsReadsUptoRow.holds Try.pinned (OpenSpec.upto shotsReadsSpec)

/-- 'broadsidelaw21.ShotsWrites', WHERE WHAT IT READS IS OF BULK AT MOST 1048576: true; the input reads as it did. -/
def shotsWritesUptoRow : OpenClaim := { program := "yteldcaeicgobfaa", sum := "e8d1cb8a3fd5a269924f58afc70d5e2a967dffb0e509ddb0a49cf02251619e3f", func := "broadside/broadsidelaw21.ShotsWrites", spec := "shotsWrites", unfollowed := true, recurses := true, plainKeys := false, apart := false, narrowed := true }
def ShotsWritesUptoSaid : Prop := shotsWritesUptoRow.holds Try.pinned (OpenSpec.upto shotsWritesSpec)

end Rows
end Go.Proofs.Yteldcaeicgobfaa
