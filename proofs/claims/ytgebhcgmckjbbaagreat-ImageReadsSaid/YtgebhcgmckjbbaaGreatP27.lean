/- Part of a proof. -/
import Derived.Test.YtgebhcgmckjbbaaGreatP26
set_option linter.all false
namespace Go.Proofs
open Go Go.Vc
attribute [local congr] cq
def L5(x y:Ac)(W:World):(nE .neq 92 false (ii x) (ii y)).run Tryz.prog W=.ok (.bool (!decide (x=y))) W:=by
 obtain⟨c,d,g,a⟩:=x;obtain⟨b,e,h,f⟩:=y
 have:(.ok (.bool (!decide ((⟨c,d,g,a⟩:Ac)=⟨b,e,h,f⟩))) W:Result Value)=.ok (.bool (!(decide (c=b)&& (decide (d=e)&& (decide (g=h)&& decide (a=f)))))) W:=by
  congr 3;rw[Bool.eq_iff_iff];simp
 rw[this];simp[go_sem,ii]
 (repeat' split)<;>simp_all
def MU(x y:Po)(W:World):(nE .neq 112 false (lK x) (lK y)).run Tryz.prog W=.ok (.bool (!decide (x=y))) W:=by
 obtain⟨c,d,g,a⟩:=x;obtain⟨b,e,h,f⟩:=y
 have:(.ok (.bool (!decide ((⟨c,d,g,a⟩:Po)=⟨b,e,h,f⟩))) W:Result Value)=.ok (.bool (!(decide (c=b)&& (decide (d=e)&& (decide (g=h)&& decide (a=f)))))) W:=by
  congr 3;rw[Bool.eq_iff_iff];simp
 rw[this];simp[go_sem,lK]
 (repeat' split)<;>simp_all
def PB(a b:Ct)(w:World):(Op.equalIn 10000 108 (.agg (dU a).toArray) (.agg (dU b).toArray)).run Tryz.prog w=.ok (decide (a=b)) w:=by
 have u:Tryz.prog.underlying 108=some (.struct (Tryz.prog.fieldsOf 108)):=by kernel_rfl
 have h:Tryz.prog.stoodInHeld 108=false:=by kernel_rfl
 rw[run_equalIn_struct w 9999 108 _ _ u h];unfold Program.fieldsOf;rw[Tryz.underlying108];have d:∀(t:TypeId) (q:IntKind) (x y:Int),Tryz.prog.underlying t=some (.int q)->(Op.equalIn 9999 t (.int q x) (.int q y)).run Tryz.prog w=.ok (x==y) w:=λt q x y i=>run_equalIn_int w 9998 t q q x y i
 have f:∀a:Ct,((dU a).drop 0).take 25=dl a.spec:=λa=>by
  show(dl a.spec++_).take 25=_;rw[<-cJ a.spec,List.take_left]
 have e:∀a:Ct,(dU a)[25]? =some (.int .u8 a.st):=λa=>by unfold dU;rw[List.getElem?_append_right (by rw[cJ];omega),cJ];rfl
 have g:∀a:Ct,(dU a)[26]? =some (.int .i64 a.price):=λa=>by unfold dU;rw[List.getElem?_append_right (by rw[cJ];omega),cJ];rfl
 have c:decide (a=b)=(decide (a.spec=b.spec)&& ((a.st==b.st)&& ((a.price==b.price)&& true))):=by
  obtain⟨o,r,l⟩:=a;obtain⟨j,m,k⟩:=b;rw[Bool.eq_iff_iff];simp[Ct.mk.injEq]
 rw[c];refine gH (by decide) (wq (n:=24) (by kernel_rfl) (by kernel_rfl) (f a)) (wq (n:=24) (by kernel_rfl) (by kernel_rfl) (f b)) (Lp a.spec b.spec 9996 w) ?_;refine gH (by decide) (er (by kernel_rfl) (e a)) (er (by kernel_rfl) (e b)) (d _ _ _ _ (by kernel_rfl)) ?_;refine gH (by decide) (er (by kernel_rfl) (g a)) (er (by kernel_rfl) (g b)) (d _ _ _ _ (by kernel_rfl)) ?_;exact E3
def Mt(a b:Ct)(w:World):(nE .neq 108 false (.agg (dU a).toArray) (.agg (dU b).toArray)).run Tryz.prog w=.ok (.bool (!decide (a=b))) w:=by
 have:=PB a b w;generalize(dU a).toArray=A at this;generalize(dU b).toArray=B at this;simp[go_sem,this,Result.andThen]
def FQ:Tryz.prog.underlying 46=some (.slice 112):=by kernel_rfl
def kF{α:Type}{l m:List α}(e:l=m){k:Nat}(h1:k<l.length)(a:k<m.length):l[k]=m[k]:=by subst e;rfl
section
variable{W:World}{s:Value}
def OE{L:List Ac}(h:Rd W 4 s L.length (L.flatMap cM)){i:Nat}(hi:i<L.length):
  ∃b a,(∀V,(Instr.indexAt 44 s (.int .i64 (i:Int))).run Tryz.prog V=.ok (.pointer (some ⟨b,a,none⟩)) V)/\(Instr.loadAt 92 (.pointer (some ⟨b,a,none⟩))).run Tryz.prog W=.ok (ii L[i]) W:=by
 obtain⟨b,a,e,c,d,f⟩:=h.item (show∀x,(cM x).length=4 from λ_=>rfl) hi rfl;have u:Tryz.prog.underlying 44=some (.slice 92):=by kernel_rfl
 exact⟨b,a+i*4,λV=>by rw[c];simp[go_sem,hi,cE,u],fw (P:=Tryz.prog) (t:=92) (by kernel_rfl) (show Tryz.prog.cellsOf 92=3+1 by kernel_rfl) rfl f⟩
def OM{L:List Po}(h:Rd W 4 s L.length (L.flatMap cL)){i:Nat}(hi:i<L.length):
  ∃b a,(∀V,(Instr.indexAt 46 s (.int .i64 (i:Int))).run Tryz.prog V=.ok (.pointer (some ⟨b,a,none⟩)) V)/\(Instr.loadAt 112 (.pointer (some ⟨b,a,none⟩))).run Tryz.prog W=.ok (lK L[i]) W:=by
 obtain⟨b,a,e,c,d,f⟩:=h.item (show∀x,(cL x).length=4 from λ_=>rfl) hi rfl;have u:Tryz.prog.underlying 46=some (.slice 112):=by kernel_rfl
 exact⟨b,a+i*4,λV=>by rw[c];simp[go_sem,hi,cE,u],fw (P:=Tryz.prog) (t:=112) (by kernel_rfl) (show Tryz.prog.cellsOf 112=3+1 by kernel_rfl) rfl f⟩
def O1{L:List Ct}(h:Rd W 27 s L.length (L.flatMap dU)){i:Nat}(hi:i<L.length):
  ∃b a,(∀V,(Instr.indexAt 45 s (.int .i64 (i:Int))).run Tryz.prog V=.ok (.pointer (some ⟨b,a,none⟩)) V)/\(dm ip (.pointer (some ⟨b,a,none⟩))).run Tryz.prog W=.ok (.agg (dU L[i]).toArray) W:=by
 obtain⟨b,a,e,c,d,f⟩:=h.item cX hi rfl;exact⟨b,a+i*27,λV=>by rw[c];simp[go_sem,hi,cE,vr],fw C4 zY (cX _) f⟩
end
set_option maxRecDepth 10000 in
def tT{w:World}{K:cm}{a b:Value}{c lb:List (Int×Od)}(C:Rd w 6 a c.length (c.flatMap dB))(y:Rd w 6 b lb.length (lb.flatMap dB))(R:c.length<=100000)(u:∀j,cl (λ_=>False) w j->K (.bool (decide (c=lb))) j):Ca Tryz.prog 58 #[a,b] w K:=by
 apply Sc;obtain⟨S,P,H⟩:=C.isSl;obtain⟨T,Q,G⟩:=y.isSl;have B:∀W,(builtin .len #[47] 3 #[false] #[a]).run Tryz.prog W=.ok (.value (.int .i64 (c.length:Int))) W:=λW=>by rw[H];simp[go_sem]
 refine fI (B _) ?_;refine fI (v:=.int .i64 (lb.length:Int)) (w' :=w) (by rw[G];simp[go_sem]) ?_;by_cases f:c.length=lb.length
 rotate_left
 ·refine ck (v:=.bool true) (w' :=w) (by simp[go_sem];omega) ?_;rw[ci,if_pos rfl];have i:c≠lb:=λe=>f (by rw[e]);have:=u w (cl.refl _ _);rw[decide_eq_false i]at this;exact this
 refine ck (v:=.bool false) (w' :=w) (by simp[go_sem];omega) ?_;rw[ci,if_neg Bool.false_ne_true]
 refine dp (λst W=>∃k:Nat,st=(.bool false,.int .i64 k,())/\k<=c.length/\c.take k=lb.take k/\cl (λ_=>False) w W)
  (λst _=>match st.2.1 with| .int _ k=>c.length - k.toNat|_=>0) ⟨0,rfl,by omega,rfl,cl.refl _ _⟩ ?_
 rintro _ W ⟨k,rfl,N,d,m⟩ L r;unfold KO;intro _;refine fI (B _) ?_;by_cases l:k<c.length
 ·have n:(k:Int)<(c.length:Int):=by omega
  refine ck (v:=.bool true) (by simp[go_sem,n]<;>first|exact⟨rfl,rfl⟩|exact rfl) ?_;rw[ci,if_pos rfl];have md:=m.drew;have x:=C.mod md λ_ _ h=>h;have A:=y.mod md λ_ _ h=>h;generalize W.drew=z at md x A|-;have g:k<lb.length:=by omega
  obtain⟨O,po,E,D⟩:=og x l;obtain⟨M,U,J,F⟩:=og A g;refine co (λW=>E W _) (cB (kL D) ?_);refine co (λW=>J W _) (cB (kL F) ?_);refine co (λW=>G4 _ _ W) ?_;by_cases o:c[k]=lb[k]
  ·rw[decide_eq_true o,show(!true)=false from rfl,ci,if_neg Bool.false_ne_true];refine ck (v:=.int .i64 ((k+1:Nat):Int)) (w' :=z) (by simp[go_sem];rw[cS (by omega) (by omega)]) ?_;refine r _ _ ⟨k+1,rfl,by omega,?_,md⟩ (by show c.length - (((k+1:Nat):Int)).toNat<c.length - ((k:Int)).toNat;omega);rw[cV l,cV g,d,o]
  ·rw[decide_eq_false o,show(!false)=true from rfl,ci,if_pos rfl];have i:c≠lb:=λe=>o (by subst e;rfl);have:=u z md;rw[decide_eq_false i]at this;exact this
 ·obtain rfl:k=c.length:=by omega
  refine ck (v:=.bool false) (by simp[go_sem]<;>first|exact⟨rfl,rfl⟩|exact rfl) ?_;rw[ci,if_neg Bool.false_ne_true]
  have I:c=lb:=by
   rw[List.take_length,f,List.take_length]at d;exact d
  have:=u W m;rw[decide_eq_true I]at this;exact this
section
variable{w w0:World}{K:cm}{s t:iN}{ss tt:Nat->Value}{p q:Nat}
set_option maxRecDepth 10000 in
def ME(o:cR w0 p s.day s.next s.fund ss)(b2:cR w0 q t.day t.next t.fund tt)(l:eW w0 ss s)(r:eW w0 tt t)(F:s.accts.length<=100000/\s.cts.length<=100000/\s.poss.length<=100000/\s.ords.length<=100000/\s.bids.length<=100000)(O:s.accts.length=t.accts.length/\s.cts.length=t.cts.length/\s.poss.length=t.poss.length)(m0:cl (λ_=>False) w0 w){x:Value}
  (D:∀(b:Bool) B,cl (λ_=>False) w0 B->(b=true↔s.poss=t.poss/\s.ords=t.ords/\s.bids=t.bids)->K (.bool b) B):cO (S:=Value×Value×Unit) (Ed (.pointer (some ⟨p,0,none⟩)) (.pointer (some ⟨q,0,none⟩)) K) (x,.int .i64 0,()) w:=by
 have y:=l.sl;have E:=r.sl;have n:s.poss.length=t.poss.length:=O.2.2;have R:s.poss.length<=100000:=F.2.2.1
 have T:∀W,(builtin .len #[46] 3 #[false] #[ss 5]).run Tryz.prog W=.ok (.value (.int .i64 (s.poss.length:Int))) W:=λW=>by
  obtain⟨a,c,e⟩:=(l.poss).isSl;rw[e];simp[go_sem]
 refine dp (λst W=>∃(x:Value) (k:Nat),st=(x,.int .i64 k,())/\k<=s.poss.length/\s.poss.take k=t.poss.take k/\cl (λ_=>False) w0 W)
  (λst _=>match st.2.1 with| .int _ k=>s.poss.length - k.toNat|_=>0) ⟨_,0,rfl,by omega,rfl,m0⟩ ?_
 rintro _ X ⟨x,k,rfl,hk,d,i⟩ U C;unfold Ed;intro _;refine ck (dX _ 5 (by omega)) (ck (dR (i.hpk o id) y 5 (by omega) (by omega)) (fI (T _) ?_));by_cases g:k<s.poss.length
 ·have m:(k:Int)<(s.poss.length:Int):=by omega
  refine ck (v:=.bool true) (by simp[go_sem,m]<;>first|exact⟨rfl,rfl⟩|exact rfl) ?_;rw[ci,if_pos rfl];have f:k<t.poss.length:=by omega
  have md:=i.drew;generalize X.drew=Y at md|-;have I:=(l.md0 md).poss;have N:=(r.md0 md).poss;refine co (λ_=>dX _ 5 (by omega)) (cB (dR (md.hpk o id) y 5 (by omega) (by omega)) ?_);obtain⟨pb,po,L,J⟩:=OM I g;refine co (λW=>L W) ?_;refine cB J ?_;refine co (λ_=>dX _ 5 (by omega)) (cB (dR (md.hpk b2 id) E 5 (by omega) (by omega)) ?_);obtain⟨Z,qo,Q,M⟩:=OM N f;refine co (λW=>Q W) ?_;refine cB M ?_;refine co (λW=>MU _ _ W) ?_;by_cases z:s.poss[k]=t.poss[k]
  ·rw[decide_eq_true z,show(!true)=false from rfl,ci,if_neg Bool.false_ne_true];refine ck (v:=.int .i64 ((k+1:Nat):Int)) (w' :=Y) (by simp[go_sem];rw[cS (by omega) (by omega)]) ?_;refine C _ _ ⟨_,k+1,rfl,by omega,?_,md⟩ (by show s.poss.length - (((k+1:Nat):Int)).toNat<s.poss.length - ((k:Int)).toNat;omega);rw[cV g,cV f,d,z]
  ·rw[decide_eq_false z,show(!false)=true from rfl,ci,if_pos rfl];have A:s.poss≠t.poss:=λe=>z (kF e g f);exact D _ _ md ⟨λh=>(by cases h),λh=>absurd (h.1) A⟩
 ·obtain rfl:k=s.poss.length:=by omega
  refine ck (v:=.bool false) (by simp[go_sem]<;>first|exact⟨rfl,rfl⟩|exact rfl) ?_;rw[ci,if_neg Bool.false_ne_true]
  have P:s.poss=t.poss:=by
   rw[List.take_length,n,List.take_length]at d;exact d
  obtain⟨_,_,e1⟩:=(l.ords).isSl;refine ck (dX _ 6 (by omega)) (ck (dR (i.hpk o id) y 6 (by omega) (by omega)) (ck (dX _ 6 (by omega)) (ck (dR (i.hpk b2 id) E 6 (by omega) (by omega)) ?_)));refine tT (l.md0 i).ords (r.md0 i).ords F.2.2.2.1 λw2 G=>?_;have j:=i.trans G;by_cases u:s.ords=t.ords
  ·rw[decide_eq_true u,ci,if_pos rfl];refine ck (dX _ 7 (by omega)) (ck (dR (j.hpk o id) y 7 (by omega) (by omega)) (ck (dX _ 7 (by omega)) (ck (dR (j.hpk b2 id) E 7 (by omega) (by omega)) ?_)));refine tT (l.md0 j).bids (r.md0 j).bids F.2.2.2.2 λV H=>?_;refine D _ _ (j.trans H) ⟨λh=>⟨P,u,of_decide_eq_true h⟩,λh=>decide_eq_true h.2.2⟩
  ·rw[decide_eq_false u,ci,if_neg Bool.false_ne_true];exact D _ _ j ⟨λh=>(by cases h),λh=>absurd h.2.1 u⟩
set_option maxRecDepth 10000 in
def Ns(r:cR w0 p s.day s.next s.fund ss)(b2:cR w0 q t.day t.next t.fund tt)(n:eW w0 ss s)(y:eW w0 tt t)(D:s.accts.length<=100000/\s.cts.length<=100000/\s.poss.length<=100000/\s.ords.length<=100000/\s.bids.length<=100000)(E:s.accts.length=t.accts.length/\s.cts.length=t.cts.length/\s.poss.length=t.poss.length)(m0:cl (λ_=>False) w0 w){x:Value}
  (B:∀(b:Bool) i,cl (λ_=>False) w0 i->(b=true↔s.cts=t.cts/\s.poss=t.poss/\s.ords=t.ords/\s.bids=t.bids)->K (.bool b) i):cO (S:=Value×Value×Unit) (EX (.pointer (some ⟨p,0,none⟩)) (.pointer (some ⟨q,0,none⟩)) K) (x,.int .i64 0,()) w:=by
 have C:=n.sl;have L:=y.sl;have l:s.cts.length=t.cts.length:=E.2.1;have P:s.cts.length<=100000:=D.2.1
 have Q:∀W,(builtin .len #[45] 3 #[false] #[ss 4]).run Tryz.prog W=.ok (.value (.int .i64 (s.cts.length:Int))) W:=λW=>by
  obtain⟨a,c,e⟩:=(n.cts).isSl;rw[e];simp[go_sem]
 refine dp (λst W=>∃(x:Value) (k:Nat),st=(x,.int .i64 k,())/\k<=s.cts.length/\s.cts.take k=t.cts.take k/\cl (λ_=>False) w0 W)
  (λst _=>match st.2.1 with| .int _ k=>s.cts.length - k.toNat|_=>0) ⟨_,0,rfl,by omega,rfl,m0⟩ ?_
 rintro _ X ⟨x,k,rfl,U,d,A⟩ R z;unfold EX;intro _;refine ck (dX _ 4 (by omega)) (ck (dR (A.hpk r id) C 4 (by omega) (by omega)) (fI (Q _) ?_));by_cases g:k<s.cts.length
 ·have j:(k:Int)<(s.cts.length:Int):=by omega
  refine ck (v:=.bool true) (by simp[go_sem,j]<;>first|exact⟨rfl,rfl⟩|exact rfl) ?_;rw[ci,if_pos rfl];have f:k<t.cts.length:=by omega
  have md:=A.drew;generalize X.drew=Y at md|-;have F:=(n.md0 md).cts;have M:=(y.md0 md).cts;refine co (λ_=>dX _ 4 (by omega)) (cB (dR (md.hpk r id) C 4 (by omega) (by omega)) ?_);obtain⟨V,po,I,H⟩:=O1 F g;refine co (λW=>I W) ?_;refine jk H ?_;refine co (λ_=>dX _ 4 (by omega)) (cB (dR (md.hpk b2 id) L 4 (by omega) (by omega)) ?_);obtain⟨T,Z,O,J⟩:=O1 M f;refine co (λW=>O W) ?_;refine jk J ?_;refine co (λW=>Mt _ _ W) ?_;by_cases o:s.cts[k]=t.cts[k]
  ·rw[decide_eq_true o,show(!true)=false from rfl,ci,if_neg Bool.false_ne_true];refine ck (v:=.int .i64 ((k+1:Nat):Int)) (w' :=Y) (by simp[go_sem];rw[cS (by omega) (by omega)]) ?_;refine z _ _ ⟨_,k+1,rfl,by omega,?_,md⟩ (by show s.cts.length - (((k+1:Nat):Int)).toNat<s.cts.length - ((k:Int)).toNat;omega);rw[cV g,cV f,d,o]
  ·rw[decide_eq_false o,show(!false)=true from rfl,ci,if_pos rfl];have u:s.cts≠t.cts:=λe=>o (kF e g f);exact B _ _ md ⟨λh=>(by cases h),λh=>absurd (h.1) u⟩
 ·obtain rfl:k=s.cts.length:=by omega
  refine ck (v:=.bool false) (by simp[go_sem]<;>first|exact⟨rfl,rfl⟩|exact rfl) ?_;rw[ci,if_neg Bool.false_ne_true]
  have N:s.cts=t.cts:=by
   rw[List.take_length,l,List.take_length]at d;exact d
  exact ME r b2 n y D E A λb i m G=>B b i m (G.trans ⟨λh=>⟨N,h⟩,λh=>h.2⟩)
set_option maxRecDepth 10000 in
def I7(r:cR w0 p s.day s.next s.fund ss)(b2:cR w0 q t.day t.next t.fund tt)(n:eW w0 ss s)(y:eW w0 tt t)(D:s.accts.length<=100000/\s.cts.length<=100000/\s.poss.length<=100000/\s.ords.length<=100000/\s.bids.length<=100000)(E:s.accts.length=t.accts.length/\s.cts.length=t.cts.length/\s.poss.length=t.poss.length)(m0:cl (λ_=>False) w0 w){x:Value}
  (B:∀(b:Bool) i,cl (λ_=>False) w0 i->(b=true↔s.accts=t.accts/\s.cts=t.cts/\s.poss=t.poss/\s.ords=t.ords/\s.bids=t.bids)->K (.bool b) i):cO (S:=Value×Value×Unit) (FI (.pointer (some ⟨p,0,none⟩)) (.pointer (some ⟨q,0,none⟩)) K) (x,.int .i64 0,()) w:=by
 have C:=n.sl;have L:=y.sl;have l:s.accts.length=t.accts.length:=E.1;have P:s.accts.length<=100000:=D.1
 have Q:∀W,(builtin .len #[44] 3 #[false] #[ss 3]).run Tryz.prog W=.ok (.value (.int .i64 (s.accts.length:Int))) W:=λW=>by
  obtain⟨a,c,e⟩:=(n.accts).isSl;rw[e];simp[go_sem]
 refine dp (λst W=>∃(x:Value) (k:Nat),st=(x,.int .i64 k,())/\k<=s.accts.length/\s.accts.take k=t.accts.take k/\cl (λ_=>False) w0 W)
  (λst _=>match st.2.1 with| .int _ k=>s.accts.length - k.toNat|_=>0) ⟨_,0,rfl,by omega,rfl,m0⟩ ?_
 rintro _ X ⟨x,k,rfl,U,d,A⟩ R z;unfold FI;intro _;refine ck (dX _ 3 (by omega)) (ck (dR (A.hpk r id) C 3 (by omega) (by omega)) (fI (Q _) ?_));by_cases g:k<s.accts.length
 ·have j:(k:Int)<(s.accts.length:Int):=by omega
  refine ck (v:=.bool true) (by simp[go_sem,j]<;>first|exact⟨rfl,rfl⟩|exact rfl) ?_;rw[ci,if_pos rfl];have f:k<t.accts.length:=by omega
  have md:=A.drew;generalize X.drew=Y at md|-;have F:=(n.md0 md).accts;have M:=(y.md0 md).accts;refine co (λ_=>dX _ 3 (by omega)) (cB (dR (md.hpk r id) C 3 (by omega) (by omega)) ?_);obtain⟨V,po,I,H⟩:=OE F g;refine co (λW=>I W) ?_;refine cB H ?_;refine co (λ_=>dX _ 3 (by omega)) (cB (dR (md.hpk b2 id) L 3 (by omega) (by omega)) ?_);obtain⟨T,Z,O,J⟩:=OE M f;refine co (λW=>O W) ?_;refine cB J ?_;refine co (λW=>L5 _ _ W) ?_;by_cases o:s.accts[k]=t.accts[k]
  ·rw[decide_eq_true o,show(!true)=false from rfl,ci,if_neg Bool.false_ne_true];refine ck (v:=.int .i64 ((k+1:Nat):Int)) (w' :=Y) (by simp[go_sem];rw[cS (by omega) (by omega)]) ?_;refine z _ _ ⟨_,k+1,rfl,by omega,?_,md⟩ (by show s.accts.length - (((k+1:Nat):Int)).toNat<s.accts.length - ((k:Int)).toNat;omega);rw[cV g,cV f,d,o]
  ·rw[decide_eq_false o,show(!false)=true from rfl,ci,if_pos rfl];have u:s.accts≠t.accts:=λe=>o (kF e g f);exact B _ _ md ⟨λh=>(by cases h),λh=>absurd (h.1) u⟩
 ·obtain rfl:k=s.accts.length:=by omega
  refine ck (v:=.bool false) (by simp[go_sem]<;>first|exact⟨rfl,rfl⟩|exact rfl) ?_;rw[ci,if_neg Bool.false_ne_true]
  have N:s.accts=t.accts:=by
   rw[List.take_length,l,List.take_length]at d;exact d
  exact Ns r b2 n y D E A λb i m G=>B b i m (G.trans ⟨λh=>⟨N,h⟩,λh=>h.2⟩)
def tk{s t:iN}:s=t↔s.day=t.day/\s.next=t.next/\s.fund=t.fund/\s.accts=t.accts/\s.cts=t.cts/\s.poss=t.poss/\s.ords=t.ords/\s.bids=t.bids:=by
 obtain⟨f,g,l,a,n,o,h,b⟩:=s;obtain⟨d,j,m,k,e,i,c,b8⟩:=t;simp
set_option maxRecDepth 10000 in
def uV(O:eW w ss s)(M:eW w tt t)(R:s.accts.length<=100000/\s.cts.length<=100000/\s.poss.length<=100000/\s.ords.length<=100000/\s.bids.length<=100000)
  (N:∀(b:Bool) j,cl (λ_=>False) w j->(b=true↔s=t)->K (.bool b) j):Ca Tryz.prog 16 #[pU s.day s.next s.fund ss,pU t.day t.next t.fund tt] w K:=by
 apply Rz;obtain⟨J,V,i,S⟩:=pC s.day s.next s.fund ss w;refine ck V ?_;generalize w.heap.size=p at i|-;obtain⟨g,Q,r,L⟩:=pC t.day t.next t.fund tt J;refine ck Q ?_;generalize J.heap.size=q at r|-;have i:cR g p s.day s.next s.fund ss:=L.hpk i id;have A:=S.trans L;have k:=O.md0 A;have l:=M.md0 A;have F:=O.sl;have E:=M.sl
 have d:∀{v:Value} {n:Nat} {T:TypeId},(∃a c,v=.slice a n c)->(∃e,Tryz.prog.underlying T=some (.slice e))->∀W,(builtin .len #[T] 3 #[false] #[v]).run Tryz.prog W=.ok (.value (.int .i64 (n:Int))) W:=λ{v n T} h G W=>by
  obtain⟨a,c,rfl⟩:=h;obtain⟨e,G⟩:=G;simp[go_sem,G]
 have f:∀(m n:Nat) W,(nE .neq 3 false (.int .i64 (m:Int)) (.int .i64 (n:Int))).run Tryz.prog W=.ok (.bool (!decide (m=n))) W:=λm n W=>by
  by_cases h:m=n
  ·simp[go_sem,h]
  ·simp[go_sem,h];omega
 have B:¬(s=t)->K (.bool false) g:=λC=>N _ _ A ⟨λh=>(by cases h),λh=>absurd h C⟩;refine cy.at (λst W=>∃b:Bool,st=(.bool b,())/\g=W/\(b=true->¬(s=t))/\(b=false->s.day=t.day/\s.next=t.next/\s.fund=t.fund/\s.accts.length=t.accts.length/\s.cts.length=t.cts.length/\s.poss.length=t.poss.length)) ?_ ?_
 ·have y:∀b:Bool,(b=true->¬(s=t))->(b=false->s.day=t.day/\s.next=t.next/\s.fund=t.fund/\s.accts.length=t.accts.length/\s.cts.length=t.cts.length/\s.poss.length=t.poss.length)->∃D:Bool,((Value.bool b,()):Value×Unit)=(.bool D,())/\g=g/\(D=true->¬(s=t))/\(D=false->s.day=t.day/\s.next=t.next/\s.fund=t.fund/\s.accts.length=t.accts.length/\s.cts.length=t.cts.length/\s.poss.length=t.poss.length):=λb h1 o=>⟨b,rfl,rfl,h1,o⟩
  refine ck (dX _ 0 (by omega)) (ck (gB i).1 (ck (dX _ 0 (by omega)) (ck (gB r).1 ?_)));by_cases h1:s.day=t.day
  rotate_left
  ·refine ck (v:=.bool true) (w' :=g) (by simp[go_sem,h1]) ?_;rw[ci,if_pos rfl];exact y true (λ_ e=>h1 (by rw[e])) λh=>(by cases h)
  refine ck (v:=.bool false) (w' :=g) (by simp[go_sem,h1]) ?_;rw[ci,if_neg Bool.false_ne_true];refine ck (dX _ 1 (by omega)) (ck (gB i).2.1 (ck (dX _ 1 (by omega)) (ck (gB r).2.1 ?_)));by_cases o:s.next=t.next
  rotate_left
  ·refine ck (v:=.bool true) (w' :=g) (by simp[go_sem,o]) ?_;rw[ci,if_pos rfl];exact y true (λ_ e=>o (by rw[e])) λh=>(by cases h)
  refine ck (v:=.bool false) (w' :=g) (by simp[go_sem,o]) ?_;rw[ci,if_neg Bool.false_ne_true];refine ck (dX _ 2 (by omega)) (ck (gB i).2.2 (ck (dX _ 2 (by omega)) (ck (gB r).2.2 ?_)));by_cases z:s.fund=t.fund
  rotate_left
  ·refine ck (v:=.bool true) (w' :=g) (by simp[go_sem,z]) ?_;rw[ci,if_pos rfl];exact y true (λ_ e=>z (by rw[e])) λh=>(by cases h)
  refine ck (v:=.bool false) (w' :=g) (by simp[go_sem,z]) ?_;rw[ci,if_neg Bool.false_ne_true];refine ck (dX _ 3 (by omega)) (ck (dR i F 3 (by omega) (by omega)) (fI (d k.accts.isSl ⟨_,Im⟩ _) (ck (dX _ 3 (by omega)) (ck (dR r E 3 (by omega) (by omega)) (fI (d l.accts.isSl ⟨_,Im⟩ _) (ck (f _ _ _) ?_))))));by_cases u:s.accts.length=t.accts.length
  rotate_left
  ·rw[decide_eq_false u,show(!false)=true from rfl,ci,if_pos rfl];exact y true (λ_ e=>u (by rw[e])) λh=>(by cases h)
  rw[decide_eq_true u,show(!true)=false from rfl,ci,if_neg Bool.false_ne_true];refine ck (dX _ 4 (by omega)) (ck (dR i F 4 (by omega) (by omega)) (fI (d k.cts.isSl ⟨_,vr⟩ _) (ck (dX _ 4 (by omega)) (ck (dR r E 4 (by omega) (by omega)) (fI (d l.cts.isSl ⟨_,vr⟩ _) (ck (f _ _ _) ?_))))));by_cases x:s.cts.length=t.cts.length
  rotate_left
  ·rw[decide_eq_false x,show(!false)=true from rfl,ci,if_pos rfl];exact y true (λ_ e=>x (by rw[e])) λh=>(by cases h)
  rw[decide_eq_true x,show(!true)=false from rfl,ci,if_neg Bool.false_ne_true];refine ck (dX _ 5 (by omega)) (ck (dR i F 5 (by omega) (by omega)) (fI (d k.poss.isSl ⟨_,FQ⟩ _) (ck (dX _ 5 (by omega)) (ck (dR r E 5 (by omega) (by omega)) (fI (d l.poss.isSl ⟨_,FQ⟩ _) (ck (f _ _ _) ?_))))));exact y _ (λh e=>by rw[e]at h;simp at h) λh=>⟨h1,o,z,u,x,by simpa using h⟩
 rintro _ W ⟨b,rfl,rfl,I,H⟩;unfold Kj;intro _;cases b with
 |true=>
  rw[ci,if_pos rfl];exact B (I rfl)
 |false=>
  rw[ci,if_neg Bool.false_ne_true];obtain⟨h1,o,z,u,x,U⟩:=H rfl;exact I7 i r k l R ⟨u,x,U⟩ (cl.refl _ _) λb j m P=>N b j (A.trans m) (P.trans ⟨λh=>tk.2 ⟨h1,o,z,h⟩,λe=>(tk.1 e).2.2.2⟩)
end
def pH{L:List Ct}{i:Nat}(h:i<L.length):jX L i=L[i].spec.num:=by unfold jX;simp[List.getD,h]
def vQ{L:List Ct}{g:Int->List (Int×Od)}:(List.range L.length).flatMap (λi=>g (jX L i))=(L.map (·.spec.num)).flatMap g:=by
 have:(List.range L.length).map (jX L)=L.map (·.spec.num):=by
  apply List.ext_getElem
  ·simp
  ·intro i h1 a;simp only[List.length_map,List.length_range]at h1;simp[pH h1]
 rw[<-this,List.flatMap_map]
def GM{s:iN}{B:Int->Bk}:ue s.cts (λi b=>B (jX s.cts i) b) s.cts.length=oy s B:=vQ (g:=λn=>(gZ true (B n true)++gZ false (B n false)).map λo=>(n,o))
def Hl{s:iN}{D:Int->List Od}:vq s.cts (λi=>D (jX s.cts i)) s.cts.length=kw s D:=vQ (g:=λn=>(D n).map λo=>(n,o))
def Cx{L:List Ct}(e:ob L){i j:Nat}(hi:i<L.length)(d:j<L.length)(h:jX L i=jX L j):i=j:=by
 rw[pH hi,pH d]at h;apply Classical.byContradiction;intro b;rcases Nat.lt_or_gt_of_ne b with a|a
 ·have:=List.pairwise_iff_getElem.1 e i j hi d a;omega
 ·have:=List.pairwise_iff_getElem.1 e j i d hi a;omega
def yI{buy:Bool}{l:List Od}{a:Nat}(h:ia buy l l.length=some a):a<l.length/\∀x∈l,du buy x.price (l.getD a fH).price=false:=by
 have d:=mJ h;refine⟨d,λx g=>?_⟩;obtain⟨f,hp⟩:=mL buy l
 have e:gZ buy l=l.getD a fH::lU buy (l.length - 1) (l.eraseIdx a):=by
  unfold gZ;obtain⟨n,i⟩:∃n,l.length=n+1:=⟨l.length - 1,by omega⟩
  rw[i,mM,h];rfl
 have b:=hp.mem_iff.2 g;rw[e]at b f;rcases List.mem_cons.1 b with rfl|b
 ·unfold du;cases buy<;>simp
 ·exact(List.pairwise_cons.1 f).1 x b
def Cu{buy:Bool}{l:List Od}(h:ia buy l l.length=none):l=[]:=by
 cases l with
 |nil=>rfl
 |cons x r=>
  obtain⟨a,b⟩:=rT (buy:=buy) (l:=x::r) (i:=(x::r).length) (by simp);rw[b]at h;cases h
def HC{B:Bk}:x5 B↔match ia true (B true) (B true).length,ia false (B false) (B false).length with
  |some a,some b=>((B true).getD a fH).price<((B false).getD b fH).price
  |_,_=>True:=by
 cases k:ia true (B true) (B true).length with
 |none=>
  simp only[iff_true];intro x e;rw[Cu k]at e;cases e
 |some a=>
  cases i:ia false (B false) (B false).length with
  |none=>
   simp only[iff_true];intro x _ y d;rw[Cu i]at d;cases d
  |some b=>
   simp only;obtain⟨j,p⟩:=yI k;obtain⟨f,n⟩:=yI i;constructor
   ·intro h;have o:(B true).getD a fH=(B true)[a]:=by simp[List.getD,j]
    have m:(B false).getD b fH=(B false)[b]:=by simp[List.getD,f]
    rw[o,m];exact h _ (List.getElem_mem j) _ (List.getElem_mem f)
   ·intro h x e y d;have h1:=p x e;have g:=n y d;unfold du at h1 g;simp only[if_true,Bool.false_eq_true,if_false,decide_eq_false_iff_not]at h1 g;omega
def L4(s:iN)(w:World)(K:cm):Prop:=(K6 s->∀x w',cl (λ_=>False) w w' ->K (.tuple #[x,.int .i64 0]) w')/\(¬K6 s->∀w',cl (λ_=>False) w w' ->K (.tuple #[.pointer none,.int .i64 2]) w')
structure NF(s:iN)(Bn:Int->Bk):Prop where
 from0:jW s
 len:s.ords.length<=3200/\s.bids.length<=800
 ords:∀x∈s.ords,(eR s).stnd true [] x=true
 bids:∀x∈s.bids,(eR s).stnd false [] x=true
 nums:((s.ords++s.bids).map (·.2.num)).Nodup
 addO:kH s.ords (λ_=>Bk.empty)=some Bn
def yh{S:dx}{a:Bool}{x:Int×Od}(h:S.stnd a [] x=true):∃k:Nat,Ck S.cal.l x.1=some k:=by
 have b:=(jJ h).alive;unfold dg at b;have hp:=xm S.cal.l x.1;cases d:Ck S.cal.l x.1 with
 |some k=>exact⟨k,rfl⟩
 |none=>
  rw[d]at hp;simp only at hp;rw[hp]at b;simp at b
structure GI(wF W:World)(bD n:Nat)(Dn:Nat->List Od)(dS:Nat->Value):Prop where
 md:cl (λy=>y=bD) wF W
 own:∀i,i<n->kV W (dS i) (Dn i)
 nw:∀i y,i<n->cv (dS i) y->wF.heap.size<=y
 dj:∀i j y,i<n->j<n->cv (dS i) y->cv (dS j) y->i=j
 arr:0<n->∃rest T,hp W bD=some (.cells (((List.range n).map dS)++rest).toArray T (0,0))
def IU{α:Type}{f:Nat->α}{n k:Nat}{x:α}(a:k<n):((List.range n).map f).set k x=(List.range n).map (dq f k x):=by
 apply List.ext_getElem
 ·simp
 ·intro i h1 b;simp only[List.length_set,List.length_map,List.length_range]at h1;rw[List.getElem_set];simp only[List.getElem_map,List.getElem_range,dq];by_cases h:k=i
  ·rw[if_pos h,if_pos h.symm]
  ·rw[if_neg h,if_neg (Ne.symm h)]
def xq{W:World}{b off:Nat}{x:Int×Od}(h:At W b off (dB x)):(Instr.loadAt 27 (.pointer (some ⟨b,off+1,none⟩))).run Tryz.prog W=.ok (.int .u64 x.2.num) W:=by
 obtain⟨C,e,f,h1,a⟩:=h.get;have d:=a 1 (.int .u64 x.2.num) rfl;simp[go_sem,h1,d]
def Kh{W:World}{b off:Nat}{x:Int×Od}(h:At W b off (dB x)):At W b (off+1) (da x.2):=by
 have:=h.sub 1 5 (by show 1+5<=6;omega);exact this
structure rE(s:iN)(sb:Nat)(ss:Nat->Value)(W:World):Prop where
 blk:cR W sb s.day s.next s.fund ss
 sta:eW W ss s
 fit:s.Fit
def rE.md0{s:iN}{sb:Nat}{ss:Nat->Value}{W a:World}(h:rE s sb ss W)(m:cl (λ_=>False) W a):rE s sb ss a:=⟨m.hpk h.blk id,h.sta.md0 m,h.fit⟩
structure Dk(w0:World)(bD v sb:Nat)(F F' G:Nat->Prop)(sB sD:Value)(ss:Nat->Value)(P:List Nat):Prop where
 v:v≠bD
 f:∀y,F y->y≠bD
 f' :∀y,F' y->y≠bD
 b:∀y,eh sB y->y≠bD
 g:0<P.length->∀y,G y->y≠bD
 sb:sb≠bD
 ss:∀i,3<=i->i<=7->∀y,eh (ss i) y->y≠bD
 p:∀i (h:i<P.length),P[i]≠bD/\∀d,pm P[i] d≠bD
 ge:w0.heap.size<=bD
 sl:0<P.length->∃cap,P.length<=cap/\sD=.slice (some ⟨bD,0,none⟩) P.length cap
section
variable{w0 W X:World}{K:cm}{s:iN}{sb:Nat}{ss:Nat->Value}{v c l:Nat}{sB sD:Value}{F F' G:Nat->Prop}{P:List Nat}{Bn:Int->Bk}{B:Nat->Bool->List Od}{Dn:Nat->List Od}{dS:Nat->Value}{bD:Nat}{S:dx}
def pi.bidsOn(h:pi W v c l sB sD F F' S P B (λ_=>[]) (λ_=>.slice none 0 0) G)(f:Dk w0 bD v sb F F' G sB sD ss P)(b:GI W X bD P.length Dn dS):pi X v c l sB sD F F' S P B Dn dS G:=by
 refine⟨b.md.hpk h.vn f.v,h.cal.mod b.md λy g e=>f.f y g e,h.led.mod b.md λy g e=>f.f' y g e,h.len,h.bks.mod b.md λy g e=>f.b y g e,?_,λi j=>b.md.hpk (h.bk i j) (f.p i j).1,λi j d=>(h.sd i j d).mod b.md ((f.p i j).2 d) λy g e=>f.g (by omega) y g e,λi j=>(b.own i j).rd⟩;by_cases r:0<P.length
 ·obtain⟨m,k,e⟩:=f.sl r;obtain⟨rest,T,o⟩:=b.arr r;rw[<-List.map_eq_flatMap];refine⟨by simp,.inr ⟨bD,0,m,e,k,_,_,_,o,by simp,by simp⟩⟩
 ·have q:P.length=0:=by omega
  rw[q];have p:=h.bds;rw[q]at p;obtain⟨a,n,e⟩:=p.isSl;exact⟨rfl,.inl ⟨rfl,a,n,e⟩⟩
def rE.bidsOn(h:rE s sb ss W)(b:Dk w0 bD v sb F F' G sB sD ss P)(m:cl (λy=>y=bD) W X):rE s sb ss X:=
 ⟨m.hpk h.blk b.sb,λi h1 a=>(h.sta i h1 a).mod m λy d e=>b.ss i h1 a y d e,h.fit⟩
def Bu(x:Int×Od)(l:List (Int×Od))(D:Int->List Od):lp (x::l) D=if 50<=(D x.1).length\/(0<(D x.1).length/\x.2.num<=((D x.1).getD ((D x.1).length - 1) fH).num)then none else lp l (fU D x.1 (D x.1++[x.2])):=rfl
set_option maxRecDepth 10000 in
set_option maxHeartbeats 4000000 in
def L0(hO:L4 s w0 K)(hd:NF s Bn)(hcr:∀n∈jQ s,x5 (Bn n))(hBl:∀n b,(Bn n b).length<=100)(hpo:s.poss.length<=100000)(hs:Dk w0 bD v sb F F' G sB sD ss P)
  (hE:rE s sb ss W)(h:pi W v c l sB sD F F' (eR s) P (λi b=>Bn (jX s.cts i) b) (λ_=>[]) (λ_=>.slice none 0 0) G)(h0:GI W W bD P.length (λ_=>[]) (λ_=>.slice none 0 0))
  (m0:cl (λ_=>False) w0 W){x y:Value}:
  cO (S:=Value×Value×Value×Unit) (G6 (pt sb) (pt c) (pt v) K) (x,y,.int .i64 0,()) W:=by
 have Q:=hE.sta.sl;have hr:=(jF hd.from0.cts).2;have hlc:P.length=s.cts.length:=h.len;have hc16:=hd.from0.len;have u:=gG h.bks;have w:=gG h.bds
 have hln:∀W,(builtin .len #[47] 3 #[false] #[ss 7]).run Tryz.prog W=.ok (.value (.int .i64 (s.bids.length:Int))) W:=λW=>by
  obtain⟨a,c,e⟩:=(hE.sta.bids).isSl;rw[e];simp[go_sem]
 have hbl:=hd.len.2
 refine dp (λst X=>∃(k:Nat) (x y:Value) (D:Int->List Od) (dS:Nat->Value),k<=s.bids.length/\st=(x,y,.int .i64 k,())/\lp (s.bids.drop k) D=lp s.bids (λ_=>[])/\(∀n,(D n).length<=50)/\GI W X bD P.length (λi=>D (jX s.cts i)) dS)
  (λst _=>match st.2.2.1 with| .int _ k=>s.bids.length - k.toNat|_=>0) ⟨0,x,y,λ_=>[],_,by omega,rfl,rfl,λ_=>Nat.zero_le _,h0⟩ ?_
 rintro _ X ⟨k,x,y,D,dS,hk,rfl,g,U,r⟩ KN hKN;have hX:=h.bidsOn hs r;have hEX:=hE.bidsOn hs r.md;have MX:cl (λ_=>False) w0 X:=m0.on r.md λy m=>.inr (by rw[m];exact hs.ge);unfold G6;intro _;refine ck (dZ sb 7 (by omega) _) (ck (dR hEX.blk Q 7 (by omega) (by omega)) (fI (hln _) ?_));by_cases hlt:k<s.bids.length
 ·have hlt' :(k:Int)<(s.bids.length:Int):=by omega
  refine ck (v:=.bool true) (by simp[go_sem,hlt']<;>first|exact⟨rfl,rfl⟩|exact rfl) ?_;rw[ci,if_pos rfl];obtain⟨d,hxx⟩:∃d,d=s.bids[k]:=⟨_,rfl⟩
  have hmem:d∈s.bids:=hxx▸List.getElem_mem hlt;obtain⟨j,hj⟩:=yh (hd.bids d hmem);have hj' :Ck s.cts d.1=some j:=hj;obtain⟨hjc,hjn⟩:=zC hj';have z:j<P.length:=by omega
  have hcj:jX s.cts j=d.1:=by rw[pH hjc];exact hjn
  have hpI:kT s.cts d.1=(j:Int):=by unfold kT;rw[hj']
  obtain⟨b1,o1,i1,A1⟩:=og hEX.sta.bids hlt;rw[<-hxx]at A1;refine ck (dZ sb 7 (by omega) _) (ck (dR hEX.blk Q 7 (by omega) (by omega)) (ck (i1 X _) ?_));refine ck (v:=.pointer (some ⟨b1,o1,none⟩)) (w' :=X) (by simp[go_sem,cE]) (ck (ER A1) ?_);refine oF hX.cal (by show s.cts.length<=_;omega) ?_;rw[show kT (eR s).cal.l d.1=(j:Int)from hpI];simp only[cr];obtain⟨b2,o2,i2,l2⟩:=hX.bids z;refine ck (rD v 3 (by omega) _) (ck (uZ hX.vn u w).2.2.2.1 (ck (i2 X) (ck l2 (fI (pM (hX.bd j z) _) ?_))));simp only[hcj];have hl50:=U d.1;rw[List.drop_eq_getElem_cons hlt,<-hxx,Bu]at g;have md:=(cl.refl (λ_=>False) X).drew;have J:=hX.md0 md;have M:=hEX.md0 md;have MD:=MX.trans md;obtain⟨bad,R⟩:∃bad:Prop,bad=(50<=(D d.1).length\/(0<(D d.1).length/\d.2.num<=((D d.1).getD ((D d.1).length - 1) fH).num)):=⟨_,rfl⟩
  have hadd1:bad->none=lp s.bids (λ_=>[]):=λr=>by
   rw[R]at r;rw[if_pos r]at g;exact g
  have hadd2:¬bad->lp (s.bids.drop (k+1)) (fU D d.1 (D d.1++[d.2]))=lp s.bids (λ_=>[]):=λr=>by
   rw[R]at r;rw[if_neg r]at g;exact g
  clear g;have hxn:(d.2).num=d.2.num:=rfl;refine cy.at (λst W' =>∃bb:Bool,st=(.bool bb,())/\X.drew=W' /\(bb=true↔bad)) ?_ ?_
  ·generalize X.drew=V at md J M MD|-;rw[R];by_cases h50:50<=(D d.1).length
   ·refine co (v:=.bool true) (λW=>by simp[go_sem];omega) ?_;rw[ci,if_pos rfl];exact⟨true,rfl,rfl,⟨λ_=>.inl h50,λ_=>rfl⟩⟩
   refine co (v:=.bool false) (λW=>by simp[go_sem];omega) ?_;rw[ci,if_neg Bool.false_ne_true];by_cases hpos:0<(D d.1).length
   ·refine co (v:=.bool true) (λW=>by simp[go_sem];omega) ?_;rw[ci,if_pos rfl];obtain⟨b3,o3,i3,l3⟩:=J.bids z;refine co (λW=>rD v 3 (by omega) W) (cB (uZ J.vn u w).2.2.2.1 (co (λW=>i3 W) (cB l3 ?_)));refine co (v:=.int .i64 (((D d.1).length - 1:Nat):Int)) (λW=>by simp[go_sem];rw[cS (by omega) (by omega)];omega) ?_;have hlast:(D d.1).length - 1<(D d.1).length:=by omega
    have hbd:=J.bd j z;simp only[hcj]at hbd;obtain⟨b4,o4,i4,A4⟩:=yn hbd hlast;refine co (λW=>i4 W _) (co (zw A4).2.2.1 (cB (zw A4).2.2.2 ?_));obtain⟨b5,o5,i5,A5⟩:=og M.sta.bids hlt;rw[<-hxx]at A5;refine co (λW=>dZ sb 7 (by omega) W) (cB (dR M.blk Q 7 (by omega) (by omega)) (co (λW=>i5 W _) ?_));refine co (v:=.pointer (some ⟨b5,o5+1,none⟩)) (λW=>by simp[go_sem,cE]) (co (v:=.pointer (some ⟨b5,o5+1,none⟩)) (λW=>by simp[go_sem,cE]) (cB (xq A5) ?_));have e:(D d.1).getD ((D d.1).length - 1) fH=(D d.1)[(D d.1).length - 1]:=by simp[List.getD,List.getElem?_eq_getElem hlast]
    rw[e];refine co (v:=.bool (decide (d.2.num<=((D d.1)[(D d.1).length - 1]).num))) (λW=>by simp[go_sem]) ?_;refine⟨_,rfl,rfl,⟨λh=>.inr ⟨hpos,of_decide_eq_true h⟩,λh=>decide_eq_true ?_⟩⟩;rcases h with h|h
    ·exact absurd h h50
    ·exact h.2
   ·have hz0:(D d.1).length=0:=by omega
    refine co (v:=.bool false) (λW=>by rw[hz0];simp[go_sem]) ?_;rw[ci,if_neg Bool.false_ne_true];refine⟨false,rfl,rfl,⟨λh=>(by cases h),λh=>?_⟩⟩;rcases h with h|h
    ·exact absurd h h50
    ·exact absurd h.1 hpos
  rintro _ W' ⟨bb,rfl,rfl,hbb⟩;unfold KY;intro _;cases bb with
  |true=>
   rw[ci,if_pos rfl];have g:=hadd1 (hbb.1 rfl);refine hO.2 (λhDok=>?_) _ MD;obtain⟨B',D',Z⟩:=hDok;rw[Z.addB]at g;cases g
  |false=>
  rw[ci,if_neg Bool.false_ne_true];have hnb:¬bad:=λh=>by cases hbb.2 h
  have g:=hadd2 hnb;rw[R]at hnb;simp only[cr];have md2:=(cl.refl (λ_=>False) X.drew).drew
  have A:GI W X.drew.drew bD P.length (λi=>D (jX s.cts i)) dS:=
   ⟨r.md.trans ((md.trans md2).mono λ_ _ h=>h.elim),λi I=>((r.own i I).mod md λ_ _ h=>h).mod md2 λ_ _ h=>h,r.nw,r.dj,λhn=>by obtain⟨rest,T,e⟩:=r.arr hn;exact⟨rest,T,(md.trans md2).hpk e id⟩⟩
  generalize X.drew.drew=V at A|-;have hV:=h.bidsOn hs A;have hEV:=hE.bidsOn hs A.md;have hn:0<P.length:=by omega
  obtain⟨cap,hcap,hse⟩:=hs.sl hn;obtain⟨rest,T,harr⟩:=A.arr hn;obtain⟨d1,d2,hdSj,-⟩:=(A.own j z).isSl
  have C:((List.range P.length).map dS++rest)[j]? =some (dS j):=by
   rw[List.getElem?_append_left (by simp;omega)];simp[z]
  have ix:∀Y,(Instr.indexAt 164 sD (.int .i64 (j:Int))).run Tryz.prog Y=.ok (.pointer (some ⟨bD,j,none⟩)) Y:=λY=>by rw[hse];simp[go_sem,z,cE,HH]
  have lj:∀{Y:World},hp Y bD=some (.cells ((List.range P.length).map dS++rest).toArray T (0,0))->(Instr.loadAt gO (.pointer (some ⟨bD,j,none⟩))).run Tryz.prog Y=.ok (dS j) Y:=λh=>by
   rw[hdSj]at C|-;simp[go_sem,h,C]
  refine co (λW=>rD v 3 (by omega) W) (cB (uZ hV.vn u w).2.2.2.1 ?_);refine co (λW=>rD v 3 (by omega) W) (cB (uZ hV.vn u w).2.2.2.1 (co (λW=>ix W) (cB (lj harr) ?_)));obtain⟨b5,o5,i5,A5⟩:=og hEV.sta.bids hlt;rw[<-hxx]at A5;refine co (λW=>dZ sb 7 (by omega) W) (cB (dR hEV.blk Q 7 (by omega) (by omega)) (co (λW=>i5 W _) ?_));refine co (v:=.pointer (some ⟨b5,o5+1,none⟩)) (λW=>by simp[go_sem,cE]) (cB (gL (o:=d.2) (Kh A5)) ?_);refine Jz λv8 w9 o9 m9 n9=>?_;have harr9:=m9.hpk harr id;refine⟨lj harr9,(uZ (m9.hpk hV.vn id) u w).2.2.2.1,(uZ (m9.hpk hV.vn id) u w).2.2.2.1,?_⟩
  have hoj:kV w9 (dS j) (D d.1):=by
   have:=(A.own j z).mod m9 λ_ _ h=>h;simpa only[hcj]using this
  have h50:(D d.1).length<50:=by
   have:=hnb;omega
  refine xb hoj o9.rd (by simp;omega) λq H o11 m11 n11=>?_;have hWV:=A.md.size;have hW9:=m9.size;have hnj:∀y,cv (dS j) y->W.heap.size<=y:=λy m=>r.nw j y z m;have ltW:∀{b:Nat} {o:Obj},hp W b=some o->¬cv (dS j) b:=λhb' m=>by have:=cn hb';have:=hnj _ m;omega
  have hbDlt:bD<W.heap.size:=by
   obtain⟨rest0,T0,e0⟩:=h0.arr hn;exact cn e0
  have hnbD:¬cv (dS j) bD:=λm=>by have:=hnj _ m;omega
  have N:=m11.hpk harr9 hnbD;have hvn11:AS H v c l sB sD (eR s).next:=m11.hpk (m9.hpk hV.vn id) (ltW h.vn);refine⟨(uZ hvn11 u w).2.2.2.1,co (λW=>ix W) ?_⟩;obtain⟨e1,e2,hs',-⟩:=o11.isSl
  have hst:(Instr.storeAt gO (.pointer (some ⟨bD,j,none⟩)) q).run Tryz.prog H=.ok () (H.setCell ⟨bD,j,none⟩ q):=by
   rw[hdSj]at C;rw[hs'];simp[go_sem,N,C]
  refine dt hst ?_;have m12:cl (λy=>y=bD) H (H.setCell ⟨bD,j,none⟩ q):=(cl.refl (λy=>y=bD) H).setCell (.inl rfl) _ _
  have O:hp (H.setCell ⟨bD,j,none⟩ q) bD=some (.cells ((List.range P.length).map (dq dS j q)++rest).toArray T (0,0)):=by
   have:(((List.range P.length).map dS++rest).set j q)=(List.range P.length).map (dq dS j q)++rest:=by
    rw[List.set_append_left _ _ (by simp;omega),IU z]
   rw[<-this];simp[go_sem,N]
  generalize H.setCell ⟨bD,j,none⟩ q=w12 at m12 O|-;refine ck (v:=.int .i64 ((k+1:Nat):Int)) (w' :=w12) (by simp[go_sem];rw[cS (by omega) (by omega)]) ?_;have s'ge:∀y,cv q y->W.heap.size<=y:=λy m=>(n11 y m).elim (hnj y) λh=>by omega
  have hu:∀i,i<P.length->i≠j->fU D d.1 (D d.1++[d.2]) (jX s.cts i)=D (jX s.cts i):=λi I p=>eE _ _ _ λe=>p (Cx hr (by omega) hjc (by rw[e,hcj]));have huj:fU D d.1 (D d.1++[d.2]) (jX s.cts j)=D d.1++[d.2]:=by rw[hcj];exact dI _ _ _
  refine hKN _ _ ⟨k+1,x,y,fU D d.1 (D d.1++[d.2]),dq dS j q,by omega,rfl,g,λn=>?_,⟨(A.md.on (m9.trans (cl.refl _ _)) λ_ h=>h.elim).on m11 (λy m=>.inr (hnj y m)) |>.trans m12,λi I=>?_,λi y I m=>?_,λi i' y I hi' m L=>?_,λ_=>⟨rest,T,O⟩⟩⟩ (by show s.bids.length - (((k+1:Nat):Int)).toNat<s.bids.length - ((k:Int)).toNat;omega)
  ·by_cases hnx:n=d.1
   ·subst hnx;rw[dI,List.length_append];simp;omega
   ·rw[eE _ _ _ hnx];exact U n
  ·by_cases p:i=j
   ·subst p;show kV w12 (dq dS i q i) (fU D d.1 (D d.1++[d.2]) (jX s.cts i));rw[huj,show dq dS i q i=q from if_pos rfl];exact o11.mod m12 λy m e=>by have:=s'ge y m;omega
   ·show kV w12 (dq dS j q i) (fU D d.1 (D d.1++[d.2]) (jX s.cts i));rw[hu i I p,show dq dS j q i=dS i from if_neg p];exact(((A.own i I).mod m9 λ_ _ h=>h).mod m11 λy m hc=>p (r.dj i j y I z m hc)).mod m12 λy m e=>by have:=r.nw i y I m;omega
  ·by_cases p:i=j
   ·subst p;rw[show dq dS i q i=q from if_pos rfl]at m;exact s'ge y m
   ·rw[show dq dS j q i=dS i from if_neg p]at m;exact r.nw i y I m
  ·have lt9:∀i,i<P.length->∀y,cv (dS i) y->y<w9.heap.size:=λi I y m=>((A.own i I).mod m9 λ_ _ h=>h).lt m;by_cases p:i=j
   ·by_cases E:i' =j
    ·rw[p,E]
    ·subst p;rw[show dq dS i q i=q from if_pos rfl]at m;rw[show dq dS i q i' =dS i' from if_neg E]at L;rcases n11 y m with h' |h'
     ·exact r.dj i i' y I hi' h' L
     ·have:=lt9 i' hi' y L;omega
   ·rw[show dq dS j q i=dS i from if_neg p]at m;by_cases E:i' =j
    ·subst E;rw[show dq dS i' q i' =q from if_pos rfl]at L;rcases n11 y L with h' |h'
     ·exact r.dj i i' y I hi' m h'
     ·have:=lt9 i I y m;omega
    ·rw[show dq dS j q i' =dS i' from if_neg E]at L;exact r.dj i i' y I hi' m L
 ·obtain rfl:k=s.bids.length:=by omega
  refine ck (v:=.bool false) (by simp[go_sem]<;>first|exact⟨rfl,rfl⟩|exact rfl) ?_;rw[ci,if_neg Bool.false_ne_true];rw[List.drop_length]at g;have haddB:lp s.bids (λ_=>[])=some D:=g.symm;have md:=(cl.refl (λ_=>False) X).drew;have J:=hX.md0 md;have M:=hEX.md0 md;have MD:=MX.trans md;generalize X.drew=V at md J M MD|-;refine cB (mz M.blk) ?_;refine Dg J (by show s.cts.length<=16;omega) (λi b _=>hBl _ b) (λi _=>U _) λw8 tt ht m8=>?_;have hE8:=M.md0 m8;refine⟨mz hE8.blk,?_⟩
  have et:R1 (eR s) (λi b=>Bn (jX s.cts i) b) (λi=>D (jX s.cts i))=⟨s.day,s.next,s.fund,s.accts,s.cts,s.poss,oy s Bn,kw s D⟩:=by
   unfold R1;have e1:=GM (s:=s) (B:=Bn);have e2:=Hl (s:=s) (D:=D);show iN.mk s.day s.next s.fund s.accts s.cts s.poss (ue s.cts _ s.cts.length) (vq s.cts _ s.cts.length)=_;rw[e1,e2]
  rw[et]at ht;have hn16:(jQ s).length<=16:=by unfold jQ;rw[List.length_map];exact hc16
  have hol:(oy s Bn).length<=3200:=by
   have:=gP (l:=jQ s) (k:=200) (f:=λn=>(gZ true (Bn n true)++gZ false (Bn n false)).map λo=>(n,o)) λn _=>by
    rw[List.length_map,List.length_append,iU,iU];have h1:=hBl n true;have h2:=hBl n false;omega
   unfold oy;omega
  have hbl' :(kw s D).length<=800:=by
   have:=gP (l:=jQ s) (k:=50) (f:=λn=>(D n).map λo=>(n,o)) λn _=>by rw[List.length_map];exact U n
   unfold kw;omega
  have hled:=hd.from0.led.len;refine uV (s:=⟨s.day,s.next,s.fund,s.accts,s.cts,s.poss,oy s Bn,kw s D⟩) (t:=s) ht hE8.sta ⟨by show s.accts.length<=_;omega,by show s.cts.length<=_;omega,hpo,by show(oy s Bn).length<=_;omega,by show(kw s D).length<=_;omega⟩ λb w9 m9 r=>?_;have M9:=(MD.trans m8).trans m9;refine co (v:=.bool (!b)) (λW=>by simp[go_sem]) ?_;cases b with
  |true=>
   rw[show(!true)=false from rfl,ci,if_neg Bool.false_ne_true];have e:=tk.1 (r.1 rfl);exact hO.1 ⟨Bn,D,hd.from0,hd.len,hd.ords,hd.bids,hd.nums,hd.addO,hcr,haddB,e.2.2.2.2.2.2.1,e.2.2.2.2.2.2.2⟩ _ _ M9
  |false=>
   rw[show(!false)=true from rfl,ci,if_pos rfl];refine hO.2 (λhDok=>?_) _ M9;obtain⟨B',D',Z⟩:=hDok;have h1:=Z.addO;rw[hd.addO]at h1;have h2:=Z.addB;rw[haddB]at h2;cases h1;cases h2;have:=r.2 (tk.2 ⟨rfl,rfl,rfl,rfl,rfl,rfl,Z.eqO,Z.eqB⟩);cases this
end
section
variable{w0 W X:World}{K:cm}{s:iN}{sb:Nat}{ss:Nat->Value}{v c l:Nat}{sB sD:Value}{F F' G:Nat->Prop}{P:List Nat}{Bn:Int->Bk}{bD:Nat}
def Sw(a:0<P.length->∃rest T,hp W bD=some (.cells (((List.range P.length).map λ_=>Value.slice none 0 0)++rest).toArray T (0,0))):GI W W bD P.length (λ_=>[]) (λ_=>.slice none 0 0):=
 ⟨cl.refl _ _,λi d=>d7.nil _ _ _,λi y d b=>(by cases b),λi j y d e b=>(by cases b),a⟩
set_option maxRecDepth 10000 in
set_option maxHeartbeats 4000000 in
def J2(hO:L4 s w0 K)(hd:NF s Bn)(r:∀n b,(Bn n b).length<=100)(hpo:s.poss.length<=100000)(hs:Dk w0 bD v sb F F' G sB sD ss P)
  (hE:rE s sb ss W)(h:pi W v c l sB sD F F' (eR s) P (λi b=>Bn (jX s.cts i) b) (λ_=>[]) (λ_=>.slice none 0 0) G)(A:0<P.length->∃rest T,hp W bD=some (.cells (((List.range P.length).map λ_=>Value.slice none 0 0)++rest).toArray T (0,0)))
  (m0:cl (λ_=>False) w0 W){x y:Value}:
  cO (S:=Value×Value×Value×Unit) (Fq (pt v) K (pt sb) (pt c)) (x,y,.int .i64 0,()) W:=by
 have g:=gG h.bks;have m:=gG h.bds;have hlc:P.length=s.cts.length:=h.len;have hc16:=hd.from0.len
 have Z:∀W,(builtin .len #[163] 3 #[false] #[sB]).run Tryz.prog W=.ok (.value (.int .i64 (P.length:Int))) W:=λW=>by
  obtain⟨x1,x2,ex⟩:=h.bks.isSl;rw[ex];simp[go_sem]
 refine dp (λst X=>∃(i:Nat) (x y:Value),i<=P.length/\st=(x,y,.int .i64 i,())/\(∀j,j<i->x5 (Bn (jX s.cts j)))/\cl (λ_=>False) W X)
  (λst _=>match st.2.2.1 with| .int _ k=>P.length - k.toNat|_=>0) ⟨0,x,y,by omega,rfl,λj R=>absurd R (Nat.not_lt_zero _),cl.refl _ _⟩ ?_
 rintro _ X ⟨i,x,y,hi,rfl,H,J⟩ KN hKN;have o:=h.md0 J;unfold Fq;intro _;simp only[cr];refine ck (rD v 2 (by omega) _) (ck (uZ o.vn g m).2.2.1 (fI (Z _) ?_));by_cases d:i<P.length
 ·have M:(i:Int)<(P.length:Int):=by omega
  refine ck (v:=.bool true) (by simp[go_sem,M]<;>first|exact⟨rfl,rfl⟩|exact rfl) ?_;rw[ci,if_pos rfl];have hBt:=r (jX s.cts i) true;have hBf:=r (jX s.cts i) false;obtain⟨b1,o1,i1,l1⟩:=o.book d;refine ck (rD v 2 (by omega) _) (ck (uZ o.vn g m).2.2.1 (ck (i1 X) (ck l1 ?_)));rw[cr];refine ck (C9 P[i] 0 (by omega) _) (ck (Dh (o.bk i d)).1 ?_);refine zO (o.sd i d true) (by omega) λU m3=>?_;obtain⟨w,z⟩:∃w,w=ia true (Bn (jX s.cts i) true) (Bn (jX s.cts i) true).length:=⟨_,rfl⟩
  rw[<-z];refine ck (v:=g9 ((w.map λa=>(Bn (jX s.cts i) true).getD a fH).getD fH)) (w' :=U) (by simp[go_sem]) (ck (v:=.bool w.isSome) (w' :=U) (by simp[go_sem]) ?_);obtain⟨w4,e4,b4,m4⟩:=iR U;obtain⟨p,hp0⟩:∃p,p=U.heap.size:=⟨_,rfl⟩
  rw[<-hp0]at e4 b4;refine ck e4 ?_;obtain⟨w5,e5,b5,m5⟩:=gA (o' :=(w.map λa=>(Bn (jX s.cts i) true).getD a fH).getD fH) b4;refine dt e5 ?_;have M5:cl (λ_=>False) X w5:=m3.trans (m4.on m5 λy hy=>.inr (by omega));have V:=o.md0 M5;obtain⟨b6,o6,i6,l6⟩:=V.book d;refine ck (rD v 2 (by omega) _) (ck (uZ V.vn g m).2.2.1 (ck (i6 w5) (ck l6 ?_)));rw[cr];refine ck (C9 P[i] 1 (by omega) _) (ck (Dh (V.bk i d)).2 ?_);refine zO (V.sd i d false) (by omega) λQ m7=>?_;obtain⟨u,L⟩:∃u,u=ia false (Bn (jX s.cts i) false) (Bn (jX s.cts i) false).length:=⟨_,rfl⟩
  rw[<-L];refine ck (v:=g9 ((u.map λa=>(Bn (jX s.cts i) false).getD a fH).getD fH)) (w' :=Q) (by simp[go_sem]) (ck (v:=.bool u.isSome) (w' :=Q) (by simp[go_sem]) ?_);obtain⟨w8,e8,b8,m8⟩:=iR Q;obtain⟨q,hq0⟩:∃q,q=Q.heap.size:=⟨_,rfl⟩
  rw[<-hq0]at e8 b8;refine ck e8 ?_;obtain⟨t,e9,b9,m9⟩:=gA (o' :=(u.map λa=>(Bn (jX s.cts i) false).getD a fH).getD fH) b8;refine dt e9 ?_;have hp5:=cn b5;have hm7:=m7.size;have D:cl (λ_=>False) w5 t:=m7.trans (m8.on m9 λy hy=>.inr (by omega));have b59:=D.hpk b5 id;have M9:=(J.trans M5).trans D;have I:=HC (B:=Bn (jX s.cts i));rw[<-z,<-L]at I;refine cy.at (λst W' =>∃Y:Bool,st=(.bool Y,())/\t=W' /\(Y=true↔¬x5 (Bn (jX s.cts i)))) ?_ ?_
  ·rw[I];cases w with
   |none=>
    rw[ci,if_neg (by simp)];exact⟨false,rfl,rfl,by simp⟩
   |some a=>
    rw[ci,if_pos (by simp)];cases u with
    |none=>
     rw[ci,if_neg (by simp)];exact⟨false,rfl,rfl,by simp⟩
    |some b=>
     rw[ci,if_pos (by simp)];refine ck (nQ 3 (by omega) p _) (ck (uJ (show Dr t p _ from b59)).2.2.1 (ck (nQ 3 (by omega) q _) (ck (uJ (show Dr t q _ from b9)).2.2.1 ?_)));simp only[Option.map_some,Option.getD_some];generalize((Bn (jX s.cts i) true).getD a fH).price=pa;generalize((Bn (jX s.cts i) false).getD b fH).price=pb;refine ck (v:=.bool (decide (pb<=pa))) (w' :=t) (by simp[go_sem]) ?_;exact⟨_,rfl,rfl,by rw[decide_eq_true_eq];omega⟩
  rintro _ W' ⟨Y,rfl,rfl,C⟩;unfold J83_0;intro _;cases Y with
  |true=>
   rw[ci,if_pos rfl];refine hO.2 (λN=>?_) _ (m0.trans M9);obtain⟨B',D',E⟩:=N;have h1:=E.addO;rw[hd.addO]at h1;cases h1;refine C.1 rfl (E.cross _ ?_);have O:i<s.cts.length:=by omega
   rw[pH O];exact List.mem_map_of_mem (f:=λk:Ct=>k.spec.num) (List.getElem_mem O)
  |false=>
   rw[ci,if_neg Bool.false_ne_true];refine ck (v:=.int .i64 ((i+1:Nat):Int)) (w' :=t) (by simp[go_sem];rw[cS (by omega) (by omega)]) ?_;refine hKN _ _ ⟨i+1,x,y,by omega,rfl,λj R=>?_,M9⟩ (by show P.length - (((i+1:Nat):Int)).toNat<P.length - ((i:Int)).toNat;omega);by_cases hji:j=i
   ·subst hji;apply Classical.byContradiction;intro hc;cases C.2 hc
   ·exact H j (by omega)
 ·obtain rfl:i=P.length:=by omega
  refine ck (v:=.bool false) (by simp[go_sem]<;>first|exact⟨rfl,rfl⟩|exact rfl) ?_;rw[ci,if_neg Bool.false_ne_true];refine L0 hO hd (λn hn=>?_) r hpo hs (hE.md0 J) o (Sw λhn=>by obtain⟨rest,T,e⟩:=A hn;exact⟨rest,T,J.hpk e id⟩) (m0.trans J);obtain⟨k,hk,rfl⟩:=List.mem_map.1 hn;obtain⟨j,R,rfl⟩:=List.getElem_of_mem hk;rw[<-pH R];exact H j (by omega)
structure Nt(v sb:Nat)(F F' G:Nat->Prop)(sB sD:Value)(ss:Nat->Value)(P:List Nat)(bD:Nat)(w0:World):Prop where
 at_:∀i (h:i<P.length) d,pm P[i] d≠v/\pm P[i] d≠sb/\¬F (pm P[i] d)/\¬F' (pm P[i] d)/\¬G (pm P[i] d)/\¬eh sB (pm P[i] d)/\¬eh sD (pm P[i] d)/\pm P[i] d≠bD/\w0.heap.size<=pm P[i] d/\(∀k,3<=k->k<=7->¬eh (ss k) (pm P[i] d))/\(∀j (h' :j<P.length),pm P[i] d≠P[j])/\∀j (h' :j<P.length) d',pm P[i] d=pm P[j] d' ->i=j/\d=d'
def AG(x:Int×Od)(l:List (Int×Od))(B:Int->Bk):kH (x::l) B=if(B x.1 x.2.buy).any (λy=>decide (y.num=x.2.num))=true\/100<=(B x.1 x.2.buy).length then none else kH l (fU B x.1 ((B x.1).set x.2.buy (B x.1 x.2.buy++[x.2]))):=rfl
structure RS(s:iN):Prop where
 from0:jW s
 len:s.ords.length<=3200/\s.bids.length<=800
 ords:∀x∈s.ords,(eR s).stnd true [] x=true
 bids:∀x∈s.bids,(eR s).stnd false [] x=true
 nums:((s.ords++s.bids).map (·.2.num)).Nodup
set_option maxRecDepth 10000 in
set_option maxHeartbeats 4000000 in
def LZ(hO:L4 s w0 K)(H:RS s)(hpo:s.poss.length<=100000)(hs:Dk w0 bD v sb F F' G sB sD ss P)(hS:Nt v sb F F' G sB sD ss P bD w0)(hG:∀y,W.heap.size<=y->G y)
  (hE:rE s sb ss W)(h:pi W v c l sB sD F F' (eR s) P (λ_ _=>[]) (λ_=>[]) (λ_=>.slice none 0 0) G)(U:0<P.length->∃rest T,hp W bD=some (.cells (((List.range P.length).map λ_=>Value.slice none 0 0)++rest).toArray T (0,0)))
  (m0:cl (λ_=>False) w0 W){x y:Value}:
  cO (S:=Value×Value×Value×Unit) (Ew (pt sb) (pt v) (pt c) K) (x,y,.int .i64 0,()) W:=by
 have w:=hE.sta.sl;have hr:=(jF H.from0.cts).2;have hlc:P.length=s.cts.length:=h.len;have hc16:=H.from0.len;have L:=gG h.bks;have M:=gG h.bds;have hol:=H.len.1
 have hln:∀W,(builtin .len #[47] 3 #[false] #[ss 6]).run Tryz.prog W=.ok (.value (.int .i64 (s.ords.length:Int))) W:=λW=>by
  obtain⟨a,c,e⟩:=(hE.sta.ords).isSl;rw[e];simp[go_sem]
 refine dp (λst X=>∃(k:Nat) (x y:Value) (B:Int->Bk),k<=s.ords.length/\st=(x,y,.int .i64 k,())/\kH (s.ords.drop k) B=kH s.ords (λ_=>Bk.empty)/\(∀n b,(B n b).length<=100)/\pi X v c l sB sD F F' (eR s) P (λi b=>B (jX s.cts i) b) (λ_=>[]) (λ_=>.slice none 0 0) G/\rE s sb ss X/\(0<P.length->∃rest T,hp X bD=some (.cells (((List.range P.length).map λ_=>Value.slice none 0 0)++rest).toArray T (0,0)))/\cl (λ_=>False) w0 X/\W.heap.size<=X.heap.size)
  (λst _=>match st.2.2.1 with| .int _ k=>s.ords.length - k.toNat|_=>0) ⟨0,x,y,λ_=>Bk.empty,by omega,rfl,rfl,λ_ _=>Nat.zero_le _,h,hE,U,m0,Nat.le_refl _⟩ ?_
 rintro _ X ⟨k,x,y,B,hk,rfl,g,hB,hX,t,haX,MX,hzX⟩ KN hKN;unfold Ew;intro _;refine ck (dZ sb 6 (by omega) _) (ck (dR t.blk w 6 (by omega) (by omega)) (fI (hln _) ?_));by_cases D:k<s.ords.length
 ·have hlt' :(k:Int)<(s.ords.length:Int):=by omega
  refine ck (v:=.bool true) (by simp[go_sem,hlt']<;>first|exact⟨rfl,rfl⟩|exact rfl) ?_;rw[ci,if_pos rfl];obtain⟨f,E⟩:∃f,f=s.ords[k]:=⟨_,rfl⟩
  have I:f∈s.ords:=E▸List.getElem_mem D;have V:=H.ords f I;have hxf:=(t.fit.ords f I).2;obtain⟨j,hj⟩:=yh V;have hj' :Ck s.cts f.1=some j:=hj;obtain⟨hjc,hjn⟩:=zC hj';have C:j<P.length:=by omega
  have N:jX s.cts j=f.1:=by rw[pH hjc];exact hjn
  have hpI:kT s.cts f.1=(j:Int):=by unfold kT;rw[hj']
  obtain⟨b1,o1,i1,A1⟩:=og t.sta.ords D;rw[<-E]at A1;refine ck (dZ sb 6 (by omega) _) (ck (dR t.blk w 6 (by omega) (by omega)) (ck (i1 X _) ?_));refine ck (v:=.pointer (some ⟨b1,o1+1,none⟩)) (w' :=X) (by simp[go_sem,cE]) (ck (gL (o:=f.2) (Kh A1)) ?_);obtain⟨w2,e2,b2,m2⟩:=iR X;obtain⟨p,hp0⟩:∃p,p=X.heap.size:=⟨_,rfl⟩
  rw[<-hp0]at e2 b2;refine ck e2 ?_;obtain⟨w3,e3,b3,m3⟩:=gA (o' :=f.2) b2;refine dt e3 ?_;simp only[cr];have M3:cl (λ_=>False) X w3:=m2.on m3 λy m=>.inr (by omega);have md:=(cl.refl (λ_=>False) w3).drew;have O:=M3.trans md;have b4:=md.hpk b3 id;generalize w3.drew=w4 at md O b4|-;have q:=hX.md0 O;have A:=t.md0 O;refine co (λW=>rD v 2 (by omega) W) (cB (uZ q.vn L M).2.2.1 ?_);obtain⟨b5,o5,i5,A5⟩:=og A.sta.ords D;rw[<-E]at A5;refine co (λW=>dZ sb 6 (by omega) W) (cB (dR A.blk w 6 (by omega) (by omega)) (co (λW=>i5 W _) ?_));refine co (v:=.pointer (some ⟨b5,o5,none⟩)) (λW=>by simp[go_sem,cE]) (cB (ER A5) ?_);refine oF q.cal (by show s.cts.length<=_;omega) ?_;rw[show kT (eR s).cal.l f.1=(j:Int)from hpI];refine⟨(uZ q.vn L M).2.2.1,?_⟩;obtain⟨b6,o6,i6,l6⟩:=q.book C;refine co (λW=>i6 W) (cB l6 ?_);rw[cr];refine ck (C9 P[j] 1 (by omega) _) (ck (Dh (q.bk j C)).2 ?_);refine cy.at (λst W' =>st=(pt (pm P[j] f.2.buy),())/\w4=W') ?_ ?_
  ·refine ck (nQ 2 (by omega) p _) (ck (v:=.bool f.2.buy) (w' :=w4) (by simp only[da]at b4;simp[go_sem,b4]) ?_);cases hbu:f.2.buy with
   |true=>
    rw[ci,if_pos rfl,cr];refine ck (C9 P[j] 0 (by omega) _) (ck (Dh (q.bk j C)).1 ?_);exact⟨rfl,rfl⟩
   |false=>
    rw[ci,if_neg Bool.false_ne_true];exact⟨rfl,rfl⟩
  rintro _ W' ⟨rfl,rfl⟩;unfold Lh;intro _;refine ck (gL (o:=f.2) (At.all b4)) ?_;obtain⟨q1,q2,q3,q4,q5,q6,q7,q8,q9,q10,q11,q12⟩:=hS.at_ j C f.2.buy;have hz4:=O.size;have Y:=q.sd j C f.2.buy;simp only[N]at Y;have hBx:=hB f.1 f.2.buy;rw[List.drop_eq_getElem_cons D,<-E,AG]at g;refine IM Y hxf (jJ V).may (by omega) (λb R e=>q5 (e▸R)) (λb R=>hG b (by omega)) (λhbad e he w5 r=>?_) λu w5 hsd5 r=>?_
  ·refine ck (v:=.bool true) (w' :=w5) (by simp[go_sem,he]) ?_;rw[ci,if_pos rfl];rw[if_pos hbad]at g;refine hO.2 (λhDok=>?_) _ ((MX.trans O).trans r);obtain⟨B',D',hdk⟩:=hDok;rw[hdk.addO]at g;cases g
  ·rw[if_neg u]at g;refine ck (v:=.bool false) (w' :=w5) (by simp[go_sem]) ?_;rw[ci,if_neg Bool.false_ne_true];refine ck (v:=.int .i64 ((k+1:Nat):Int)) (w' :=w5) (by simp[go_sem];rw[cS (by omega) (by omega)]) ?_
   have hl100:(B f.1 f.2.buy).length<100:=by
    apply Classical.byContradiction;intro hc;exact u (.inr (by omega))
   have hB' :∀i d,fU B f.1 ((B f.1).set f.2.buy (B f.1 f.2.buy++[f.2])) (jX s.cts i) d=if jX s.cts i=f.1/\d=f.2.buy then B f.1 f.2.buy++[f.2]else B (jX s.cts i) d:=λi d=>by
    by_cases h1:jX s.cts i=f.1
    ·rw[h1,dI];by_cases J:d=f.2.buy
     ·rw[if_pos ⟨rfl,J⟩,J];exact kK _ _ _
     ·rw[if_neg λh=>J h.2];exact jE _ _ J
    ·rw[eE _ _ _ h1,if_neg λh=>h1 h.1]
   have hm5:=r.size;refine hKN _ _ ⟨k+1,x,y,fU B f.1 ((B f.1).set f.2.buy (B f.1 f.2.buy++[f.2])),by omega,rfl,g,λn b=>?_,?_,?_,λhn=>?_,(MX.trans O).on r λy m=>.inr (by rw[m];exact q9),by omega⟩ (by show s.ords.length - (((k+1:Nat):Int)).toNat<s.ords.length - ((k:Int)).toNat;omega)
   ·by_cases Z:n=f.1
    ·subst Z;rw[dI];by_cases R:b=f.2.buy
     ·rw[R,kK,List.length_append];simp;omega
     ·rw[jE _ _ R];exact hB _ b
    ·rw[eE _ _ _ Z];exact hB n b
   ·refine⟨r.hpk q.vn (λe=>q1 e.symm),q.cal.mod r λy m e=>q3 (e▸m),q.led.mod r λy m e=>q4 (e▸m),q.len,q.bks.mod r λy m e=>q6 (e▸m),q.bds.mod r λy m e=>q7 (e▸m),λi Q=>r.hpk (q.bk i Q) λe=>q11 i Q e.symm,λi Q d=>?_,λi Q=>(q.bd i Q).mod r λy m=>by obtain⟨a,n,c,e,h1,J⟩:=m;cases e⟩;simp only[hB'];by_cases z:jX s.cts i=f.1/\d=f.2.buy
    ·rw[if_pos z];have hij:i=j:=Cx hr (by omega) hjc (by rw[z.1,N]);subst hij;rw[z.2];exact hsd5
    ·rw[if_neg z];refine(q.sd i Q d).mod r (λe=>?_) λy m e=>q5 (e▸m);obtain⟨e1,e2⟩:=q12 i Q d e.symm;exact z ⟨by rw[<-e1,N],e2.symm⟩
   ·exact⟨r.hpk A.blk (λe=>q2 e.symm),λi h1 J=>(A.sta i h1 J).mod r λy m e=>q10 i h1 J (e▸m),A.fit⟩
   ·obtain⟨rest,T,e⟩:=haX hn;exact⟨rest,T,r.hpk (O.hpk e id) λe=>q8 e.symm⟩
 ·obtain rfl:k=s.ords.length:=by omega
  refine ck (v:=.bool false) (by simp[go_sem]<;>first|exact⟨rfl,rfl⟩|exact rfl) ?_;rw[ci,if_neg Bool.false_ne_true];rw[List.drop_length]at g;exact J2 hO ⟨H.from0,H.len,H.ords,H.bids,H.nums,g.symm⟩ hB hpo hs t hX haX MX
end
end Go.Proofs
