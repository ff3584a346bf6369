/- Part of a proof. -/
import Derived.Test.YtgebhcgmckjbbaaGreatS4
set_option linter.all false
namespace Go.Proofs.YtgebhcgmckjbbaaGreat.sessionNone
open Go Go.Vc Go.Proofs Go.ChangeShapes Go.WideShapes Go.ChangeAt Go.RowKit
abbrev zRw:=Rows.sessionNoneRow
abbrev zSp:=Rows.sessionNoneSpec
noncomputable abbrev zVt:=Tryz.f9.params.toList++zSp.plain.varTypes Tryz.prog
theorem k0:zRw.wf (OpenSpec.ofChange zSp):=by kernel_rfl
theorem k1:laidOutB Tryz.prog:=by kernel_rfl
theorem k2:mapsRowed Tryz.prog:=by kernel_rfl
theorem k3:Tryz.f9.params.all (Tryz.prog.readableRec ·):=by kernel_rfl
theorem k4:namedTie Tryz.prog zRw.named zSp.vars:=by kernel_rfl
theorem k5:zRw.stops== []:=by kernel_rfl
theorem k6:Tryz.prog.stops== []:=by kernel_rfl
theorem k7:zRw.knobs== []:=by kernel_rfl
theorem k8:Tryz.prog.stopKnobs== []:=by kernel_rfl
theorem k9:zRw.inPlace==Tryz.prog.inPlace 9:=by kernel_rfl
theorem k10:zRw.unfollowed==Tryz.prog.unfollowed 9:=by kernel_rfl
theorem k11:zRw.recurses==Tryz.prog.recurses 9:=by kernel_rfl
theorem k12:zRw.named==Tryz.prog.varsNamed 9:=by kernel_rfl
theorem k13:zRw.maps==zVt.any (Tryz.prog.mapsRec ·):=by kernel_rfl
theorem k14:zRw.ifaces==zVt.any (Tryz.prog.ifacesRec ·):=by kernel_rfl
theorem k15:zRw.mapsOut==Tryz.prog.mapsAmong Tryz.f9.resultTypes.toList:=by kernel_rfl
theorem k16:zRw.loops==zVt.any (Tryz.prog.loopsFrom ·):=by kernel_rfl
theorem k17:zRw.wideKeys==(zVt++Tryz.f9.resultTypes.toList).any (Tryz.prog.wideKeysFrom ·):=by kernel_rfl
theorem k18:zSp.vars.all (Tryz.prog.varReadable ·):=by kernel_rfl
theorem k19:Tryz.f9.resultTypes.all (λt=>Tryz.prog.readableRec t&& decide (t<Tryz.prog.types.size)):=by kernel_rfl
theorem k20:zRw.ifacesOut==Tryz.f9.resultTypes.toList.any (Tryz.prog.ifacesRec ·):=by kernel_rfl
theorem k21:zRw.loopsOut==Tryz.f9.resultTypes.toList.any (Tryz.prog.loopsFrom ·):=by kernel_rfl
theorem k22:zRw.plainKeys==Tryz.prog.plainKeys:=by kernel_rfl
theorem k23:zRw.shortTexts.isNone:=by kernel_rfl
theorem k24:Tryz.prog.stopsHeard:=by kernel_rfl
theorem k25:Tryz.prog.mayEnter:=by kernel_rfl
theorem k26:zRw.lifted==Tryz.prog.liftsFinal:=by kernel_rfl
theorem k27:Tryz.prog.make==some zRw.make:=by kernel_rfl
theorem k28:zRw.kinds==(if zRw.domain.isEmpty then []else Tryz.f9.params.toList.map λt=>match Tryz.prog.underlying t with|some (.int k)=>some k|_=>none):=by kernel_rfl
theorem k29:zRw.pinned==zRw.pinnedBy:=by kernel_rfl
theorem k30:zRw.veiled==(zVt++Tryz.f9.resultTypes.toList).any (Tryz.prog.veiledRec ·):=by kernel_rfl
theorem k31:zRw.veiledFits Tryz.prog Tryz.f9.params.toList (zVt++Tryz.f9.resultTypes.toList):=by kernel_rfl
set_option maxRecDepth 100000 in
theorem closed:joinedFacts Tryz.prog 9 Tryz.f9 Rows.sessionNoneSpec Rows.sessionNoneRow=true:=by
 unfold joinedFacts
 simp only[Bool.and_eq_true]
 exact⟨⟨⟨⟨⟨⟨⟨⟨⟨⟨⟨⟨⟨⟨⟨⟨⟨⟨⟨⟨⟨⟨⟨⟨⟨⟨⟨⟨⟨⟨⟨k0,k1⟩,k2⟩,k3⟩,k4⟩,k5⟩,k6⟩,k7⟩,k8⟩,k9⟩,k10⟩,k11⟩,k12⟩,k13⟩,k14⟩,k15⟩,k16⟩,k17⟩,k18⟩,k19⟩,k20⟩,k21⟩,k22⟩,k23⟩,k24⟩,k25⟩,k26⟩,k27⟩,k28⟩,k29⟩,k30⟩,k31⟩
end Go.Proofs.YtgebhcgmckjbbaaGreat.sessionNone
