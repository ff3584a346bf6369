/- The statement VenueAgain: for every input the law VenueAgain returns true, and its arguments read as they did. Conditions: none. -/
import Derived.Test.YtekbnpagidkbbaaGreatQ29
set_option linter.all false
namespace Go.Proofs.YtekbnpagidkbbaaGreat.venueAgain
open Go Go.Vc Go.Proofs Go.ChangeShapes Go.WideShapes Go.ChangeAt Go.RowKit
set_option maxRecDepth 100000 in
def lifted(os:Os)(b:os.Started)(H:Type)(enc:TypeId×Value->H):
  ReturnsInHanded {} Tryz.checked os 4 .any (Rows.venueAgainSpec.pre6 enc Tryz.prog Tryz.f4 Rows.venueAgainRow.domain false) (Rows.venueAgainSpec.post enc Tryz.prog Tryz.f4 false true false false):=by
 refine returnsInHanded_of_change_sized (C:=Tryz.checked) own b cy Tryz.func4
  (ChangeSpec.witness6 (enc:=enc) (C:=Tryz.checked) false ⟨#[],#[.slice none 0 0,.slice none 0 0],[]⟩ 8 cy cy cy cy) ?_
 intro W i a ds L o d A E l _;have c:∀(j:Nat) t v,Tryz.f4.params[j]? =some t->a[j]? =some v->Value.okWide Tryz.prog W .any i t v:=d;have g:(DataW.weightsEach Tryz.prog (Tryz.f4.params.toList++[]) (ds++L)).all (·<=reachBytes)=true:=l;have w:=A;obtain⟨p,q,k,R,rfl,Q,O⟩:=A;have D:DataW.TrodAll enc Tryz.prog W 0 (λ_=>true) true Tryz.f4.params.toList a.toList ds p:=k;rw[Tryz.params4]at D c g;obtain⟨v0,P,M,J,Y,S,u,rfl,rfl,I,r0⟩:=trodAll_cons D;obtain⟨B,G,d1,N,V,U,rfl,rfl,rfl,h1,F⟩:=trodAll_cons r0;obtain⟨rfl,rfl,rfl⟩:=trodAll_nil F;obtain rfl:a= #[v0,B]:=by cases a;simp_all
 obtain⟨rfl,rfl⟩:=trodVars_none R
 have x:Wt Tryz.prog reachBytes 36 M:=by
  intro m f;have:=List.all_eq_true.1 g m (by simp only[List.append_nil,List.cons_append,List.nil_append,DataW.weightsEach,List.mem_append];first|exact .inl f|exact .inl f);simpa using this
 have s:Wt Tryz.prog reachBytes 36 d1:=by
  intro m f;have:=List.all_eq_true.1 g m (by simp only[List.append_nil,List.cons_append,List.nil_append,DataW.weightsEach,List.mem_append];first|exact .inr (f)|exact .inr (.inl f));simpa using this
 obtain⟨X,r,h⟩:=open_cms (c 0 36 v0 rfl rfl) I x;obtain⟨Z,y,n⟩:=open_cms (c 1 36 B rfl rfl) h1 s;clear k d;refine Calls.mono (Fv (K:=λv z=>v=.bool true/\M0 W z) r h y n λz f=>⟨rfl,f⟩).out ?_;rintro e T ⟨v,rfl,rfl,f⟩;exact⟨_,rfl,Ha laidOut cy rfl w f cy Tryz.underlying4 rfl⟩
abbrev zRw:=Rows.venueAgainRow
abbrev BI:=Rows.venueAgainSpec
noncomputable abbrev zVt:=Tryz.f4.params.toList++BI.plain.varTypes pQ
def k0:zRw.wf (OpenSpec.ofChange BI):=cy
def k1:laidOutB pQ:=cy
def k2:mapsRowed pQ:=cy
def k3:Tryz.f4.params.all (pQ.readableRec ·):=cy
def k4:namedTie pQ zRw.named BI.vars:=cy
def k5:zRw.stops== []:=cy
def k6:pQ.stops== []:=cy
def k7:zRw.knobs== []:=cy
def k8:pQ.stopKnobs== []:=cy
def k9:zRw.inPlace==pQ.inPlace 4:=cy
def k10:zRw.unfollowed==pQ.unfollowed 4:=cy
def k11:zRw.recurses==pQ.recurses 4:=cy
def k12:zRw.named==pQ.varsNamed 4:=cy
def k13:zRw.maps==zVt.any (pQ.mapsRec ·):=cy
def k14:zRw.ifaces==zVt.any (pQ.ifacesRec ·):=cy
def k15:zRw.mapsOut==pQ.mapsAmong Tryz.f4.resultTypes.toList:=cy
def k16:zRw.loops==zVt.any (pQ.loopsFrom ·):=cy
def k17:zRw.wideKeys==(zVt++Tryz.f4.resultTypes.toList).any (pQ.wideKeysFrom ·):=cy
def k18:BI.vars.all (pQ.varReadable ·):=cy
def k19:Tryz.f4.resultTypes.all (λt=>pQ.readableRec t&& decide (t<pQ.types.size)):=cy
def k20:zRw.ifacesOut==Tryz.f4.resultTypes.toList.any (pQ.ifacesRec ·):=cy
def k21:zRw.loopsOut==Tryz.f4.resultTypes.toList.any (pQ.loopsFrom ·):=cy
def k22:zRw.plainKeys==pQ.plainKeys:=cy
def k23:zRw.shortTexts.isNone:=cy
def k24:pQ.stopsHeard:=cy
def k25:pQ.mayEnter:=cy
def k26:zRw.lifted==pQ.liftsFinal:=cy
def k27:pQ.make==some zRw.make:=cy
def k28:zRw.kinds==(if zRw.domain.isEmpty then []else Tryz.f4.params.toList.map λt=>match pQ.underlying t with|some (.int k)=>some k|_=>none):=cy
def k29:zRw.pinned==zRw.pinnedBy:=cy
def k30:zRw.veiled==(zVt++Tryz.f4.resultTypes.toList).any (pQ.veiledRec ·):=cy
def k31:zRw.veiledFits pQ Tryz.f4.params.toList (zVt++Tryz.f4.resultTypes.toList):=cy
set_option maxRecDepth 100000 in
def closed:joinedFacts Tryz.prog 4 Tryz.f4 Rows.venueAgainSpec Rows.venueAgainRow=true:=by
 unfold joinedFacts;simp only[Bool.and_eq_true];exact⟨⟨⟨⟨⟨⟨⟨⟨⟨⟨⟨⟨⟨⟨⟨⟨⟨⟨⟨⟨⟨⟨⟨⟨⟨⟨⟨⟨⟨⟨⟨k0,k1⟩,k2⟩,k3⟩,k4⟩,k5⟩,k6⟩,k7⟩,k8⟩,k9⟩,k10⟩,k11⟩,k12⟩,k13⟩,k14⟩,k15⟩,k16⟩,k17⟩,k18⟩,k19⟩,k20⟩,k21⟩,k22⟩,k23⟩,k24⟩,k25⟩,k26⟩,k27⟩,k28⟩,k29⟩,k30⟩,k31⟩
theorem holds:Rows.VenueAgainSaid:=
 OpenClaim.holds_of_wide 4 Tryz.f4 rfl rfl rfl rfl rfl rfl rfl ⟨rfl,rfl,rfl,rfl,rfl⟩ rfl rfl rfl rfl rfl cy Tryz.func4 closed
  (of_decide_eq_true cy) (by unfold Func.isWrapper;first|(rw[if_pos (by decide+kernel)];kernel_rfl)|(rw[if_neg (by decide+kernel)];exact⟨rfl,rfl⟩))
  (λos a H b _=>lifted os a H b)
end Go.Proofs.YtekbnpagidkbbaaGreat.venueAgain
