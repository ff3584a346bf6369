/- Part of a proof. -/
import Derived.Test.YtgebhcgmckjbbaaGreatP4
set_option linter.all false
namespace Go.Proofs.YtgebhcgmckjbbaaGreat.imageReads
open Go Go.Vc Go.Proofs Go.ChangeShapes Go.WideShapes Go.ChangeAt Go.RowKit
abbrev zRw:=Rows.imageReadsRow
abbrev ke:=Rows.imageReadsSpec
noncomputable abbrev zVt:=Tryz.f4.params.toList++ke.plain.varTypes Tryz.prog
def k0:zRw.wf (OpenSpec.ofChange ke):=by kernel_rfl
def k1:laidOutB Tryz.prog:=by kernel_rfl
def k2:mapsRowed Tryz.prog:=by kernel_rfl
def k3:Tryz.f4.params.all (Tryz.prog.readableRec ·):=by kernel_rfl
def k4:namedTie Tryz.prog zRw.named ke.vars:=by kernel_rfl
def k5:zRw.stops== []:=by kernel_rfl
def k6:Tryz.prog.stops== []:=by kernel_rfl
def k7:zRw.knobs== []:=by kernel_rfl
def k8:Tryz.prog.stopKnobs== []:=by kernel_rfl
def k9:zRw.inPlace==Tryz.prog.inPlace 4:=by kernel_rfl
def k10:zRw.unfollowed==Tryz.prog.unfollowed 4:=by kernel_rfl
def k11:zRw.recurses==Tryz.prog.recurses 4:=by kernel_rfl
def k12:zRw.named==Tryz.prog.varsNamed 4:=by kernel_rfl
def k13:zRw.maps==zVt.any (Tryz.prog.mapsRec ·):=by kernel_rfl
def k14:zRw.ifaces==zVt.any (Tryz.prog.ifacesRec ·):=by kernel_rfl
def k15:zRw.mapsOut==Tryz.prog.mapsAmong Tryz.f4.resultTypes.toList:=by kernel_rfl
def k16:zRw.loops==zVt.any (Tryz.prog.loopsFrom ·):=by kernel_rfl
def k17:zRw.wideKeys==(zVt++Tryz.f4.resultTypes.toList).any (Tryz.prog.wideKeysFrom ·):=by kernel_rfl
def k18:ke.vars.all (Tryz.prog.varReadable ·):=by kernel_rfl
def k19:Tryz.f4.resultTypes.all (λt=>Tryz.prog.readableRec t&& decide (t<Tryz.prog.types.size)):=by kernel_rfl
def k20:zRw.ifacesOut==Tryz.f4.resultTypes.toList.any (Tryz.prog.ifacesRec ·):=by kernel_rfl
def k21:zRw.loopsOut==Tryz.f4.resultTypes.toList.any (Tryz.prog.loopsFrom ·):=by kernel_rfl
def k22:zRw.plainKeys==Tryz.prog.plainKeys:=by kernel_rfl
def k23:zRw.shortTexts.isNone:=by kernel_rfl
def k24:Tryz.prog.stopsHeard:=by kernel_rfl
def k25:Tryz.prog.mayEnter:=by kernel_rfl
def k26:zRw.lifted==Tryz.prog.liftsFinal:=by kernel_rfl
def k27:Tryz.prog.make==some zRw.make:=by kernel_rfl
def k28:zRw.kinds==(if zRw.domain.isEmpty then []else Tryz.f4.params.toList.map λt=>match Tryz.prog.underlying t with|some (.int k)=>some k|_=>none):=by kernel_rfl
def k29:zRw.pinned==zRw.pinnedBy:=by kernel_rfl
def k30:zRw.veiled==(zVt++Tryz.f4.resultTypes.toList).any (Tryz.prog.veiledRec ·):=by kernel_rfl
def k31:zRw.veiledFits Tryz.prog Tryz.f4.params.toList (zVt++Tryz.f4.resultTypes.toList):=by kernel_rfl
set_option maxRecDepth 100000 in
def closed:joinedFacts Tryz.prog 4 Tryz.f4 Rows.imageReadsSpec Rows.imageReadsRow=true:=by
 unfold joinedFacts;simp only[Bool.and_eq_true];exact⟨⟨⟨⟨⟨⟨⟨⟨⟨⟨⟨⟨⟨⟨⟨⟨⟨⟨⟨⟨⟨⟨⟨⟨⟨⟨⟨⟨⟨⟨⟨k0,k1⟩,k2⟩,k3⟩,k4⟩,k5⟩,k6⟩,k7⟩,k8⟩,k9⟩,k10⟩,k11⟩,k12⟩,k13⟩,k14⟩,k15⟩,k16⟩,k17⟩,k18⟩,k19⟩,k20⟩,k21⟩,k22⟩,k23⟩,k24⟩,k25⟩,k26⟩,k27⟩,k28⟩,k29⟩,k30⟩,k31⟩
end Go.Proofs.YtgebhcgmckjbbaaGreat.imageReads
