/- Part of a proof. -/
import Derived.Test.YtgebhcgmckjbbaaGreatP28
import Derived.Test.YtgebhcgmckjbbaaGreatP30
set_option linter.all false
namespace Go.Proofs.YtgebhcgmckjbbaaGreat.imageReads
open Go Go.Vc Go.Proofs Go.ChangeShapes Go.WideShapes Go.ChangeAt Go.RowKit
set_option maxRecDepth 100000 in
def lifted(os:Os)(b:os.Started)(H:Type)(enc:TypeId×Value->H):
  ReturnsInHanded {} Tryz.checked os 4 .any (Rows.imageReadsSpec.pre6 enc Tryz.prog Tryz.f4 Rows.imageReadsRow.domain false) (Rows.imageReadsSpec.post enc Tryz.prog Tryz.f4 false true false false):=by
 refine returnsInHanded_of_change_sized (C:=Tryz.checked) own b (by kernel_rfl) Tryz.func4
  (ChangeSpec.witness6 (enc:=enc) (C:=Tryz.checked) false ⟨#[],#[.slice none 0 0],[]⟩ 8 (by kernel_rfl) (by kernel_rfl) (by kernel_rfl) (by kernel_rfl)) ?_
 intro W f a ds gs i c s w h _;have d:∀(j:Nat) t v,Tryz.f4.params[j]? =some t->a[j]? =some v->Value.okWide Tryz.prog W .any f t v:=c;have m:(DataW.weightsEach Tryz.prog (Tryz.f4.params.toList++[]) (ds++gs)).all (·<=reachBytes)=true:=h;have n:=s;obtain⟨p,q,g,F,rfl,E,B⟩:=s;have u:DataW.TrodAll enc Tryz.prog W 0 (λ_=>true) true Tryz.f4.params.toList a.toList ds p:=g;rw[Tryz.params4]at u d m;obtain⟨x,D,J,z,L,G,k,rfl,rfl,y,A⟩:=trodAll_cons u;obtain⟨rfl,rfl,rfl⟩:=trodAll_nil A;obtain rfl:a= #[x]:=by cases a;simp_all
 obtain⟨rfl,rfl⟩:=trodVars_none F;obtain⟨I,l⟩:=Ji Tryz.underlying54 Tryz.underlying5 (by kernel_rfl) (d 0 54 x rfl rfl) y;clear g c;refine Calls.mono (vm (K:=λv r=>v=.bool true/\cl (λ_=>False) W r) l λr o=>⟨rfl,o⟩).out ?_;rintro e M ⟨v,rfl,rfl,o⟩;exact⟨_,rfl,zS laidOut (by kernel_rfl) rfl n o (by kernel_rfl) Tryz.underlying4 rfl⟩
theorem holds:Rows.ImageReadsSaid:=
 OpenClaim.holds_of_wide 4 Tryz.f4 rfl rfl rfl rfl rfl rfl rfl ⟨rfl,rfl,rfl,rfl,rfl⟩ rfl rfl rfl rfl rfl (by kernel_rfl) Tryz.func4 closed
  (of_decide_eq_true (by kernel_rfl)) (by unfold Func.isWrapper;first|(rw[if_pos (by decide+kernel)];kernel_rfl)|(rw[if_neg (by decide+kernel)];exact⟨rfl,rfl⟩))
  (λos a H b _=>lifted os a H b)
end Go.Proofs.YtgebhcgmckjbbaaGreat.imageReads
