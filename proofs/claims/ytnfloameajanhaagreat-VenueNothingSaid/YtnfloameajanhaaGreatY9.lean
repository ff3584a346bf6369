/- Part of a proof. -/
import Derived.Test.YtnfloameajanhaaGreatY8
set_option linter.all false
namespace Go.Proofs
open Go Go.Vc Go.Srt
attribute [local congr] cR
variable {l:List Int}{sl s:Vt_}{w:Wt_}{K:cG}
def LK:Tryz.prog.underlying 307=some (.slice 3):=cU
def an0:Tryz.prog.cellsOf 3=0+1:=cU
def Zr:lN pQ 3 1 8=true:=cU
abbrev Hh(w:Wt_)(sl:Vt_)(l:List Int):Prop:=jo w 3 1 sl l.length (l.flatMap wz)
def DI(l:List Int):l.flatMap wz=l.map λx=>gI x:=by
 induction l with
 |nil=>rfl
 |cons x l a=>rw[eu,a];rfl
def Hh.el(h:Hh w sl l){i:Nat}(hi:i<l.length):
  ∃p,(∀W,(iX 307 sl (gI (i:Int))).run pQ W=.ok p W)/\∀(W:Wt_) (l' :List Int),Hh W sl l' ->∀c:i<l'.length,
   (iL 3 p).run pQ W=.ok (gI l'[i]) W/\∀x:Int,∃g,(iS 3 p (gI x)).run pQ W=.ok () g/\Hh g sl (l'.set i x)/\de (cK sl) W g:=by
 obtain⟨b,d,rest,rfl,v,t,u⟩:=h.pos qZ;refine⟨.pointer (some ⟨b,i,none⟩),λW=>by simp[go_sem,hi,cS,LK,Program.elem,Go.Vc.oK an0],λW l' q c=>?_⟩;obtain⟨o,f,a,s,r,e,n,j⟩:=q.pos qZ;obtain⟨rfl,m,rfl⟩:b=o/\l.length=l'.length/\d=f:=by simpa using s
 have k:(l'.flatMap wz++a)[i]? =some (gI l'[i]):=by
  rw[DI,dC (by simpa using c),dO,cE c];rfl
 refine⟨by simp[go_sem,fy e,k],λx=>⟨W.setCell ⟨b,i,none⟩ (gI x),by simp[go_sem,fy e,k],⟨by rw[wT rT,ey],.inr ⟨b,d,a,by grind,by grind,?_,by grind,j⟩⟩,(de.refl _ W).setCell (.inl (show cK (.slice (some ⟨b,0,none⟩) l.length d) b from rfl)) _ _⟩⟩;rw[nL,bZ rfl,e,iK,ed,gZ _ _ (by rw[wT rT];omega),DI,DI,lY]
def qR.el{l:List Od}(h:qR w sl l){i:Nat}(hi:i<l.length):
  ∃p,(∀W,(iX 95 sl (gI (i:Int))).run pQ W=.ok p W)/\∀(W:Wt_) (l' :List Od),qR W sl l' ->∀d:i<l'.length,
   (iL pz p).run pQ W=.ok (oG l'[i]) W/\∀x:Od,∃j,(iS pz p (oG x)).run pQ W=.ok () j/\qR j sl (l'.set i x)/\de (cK sl) W j:=by
 obtain⟨b,c,rest,rfl,D,B,C⟩:=h.pos qZ;refine⟨.pointer (some ⟨b,i*5,none⟩),λW=>by simp[go_sem,hi,cS,mH],λW l' k d=>?_⟩;obtain⟨u,f,a,A,v,g,t,n⟩:=id (k.pos qZ);obtain⟨rfl,s,rfl⟩:b=u/\l.length=l'.length/\c=f:=by simpa using A
 obtain⟨z,zG,y,r,o⟩:=k.load d;have m:b=z/\c=zG:=by grind
 obtain⟨rfl,rfl⟩:=m;have q:=k.1;refine⟨o,λx=>⟨W.setRow b (mh (l'.flatMap fL++a) (i*5) (fL x)).toArray,ZU (fy g) (by grind),⟨by rw[wT gM,ey],.inr ⟨b,c,a,by grind,by grind,?_,by grind,n⟩⟩,(de.refl _ W).setRow (.inl (show cK (.slice (some ⟨b,0,none⟩) l.length c) b from rfl)) _⟩⟩;rw[ij,bZ rfl,g]
 have e:mh (l'.flatMap fL++a) (i*5) (fL x)=(l'.set i x).flatMap fL++a:=by
  unfold mh;rw[dh (by rw[q];omega),SN gM,gM,eZ (by rw[q];omega),show i*5+5=(i+1)*5 by omega,Vp gM,List.set_eq_take_append_cons_drop,bZ d];simp
 rw[e]
abbrev ltI(cf:Int->Int->Int):Int->Int->Bool:=sK cf
def aB3(w0:Wt_)(sl:Vt_)(fv:Vt_)(cf:Int->Int->Int)(l0:List Int):Prop:=
 ∃g cp,fv=.func (.func g) #[] cp/\∀x∈l0,∀y∈l0,∀W,de (cK sl) w0 W->∀K:cG,(∀W',M0 W W' ->K (gI (cf x y)) W')->Ca pQ g ⟨[.int .i64 x,gI y]++cp.toList⟩ W K
def Va:Gf HM Int:=⟨λx=>gI x,Hh,XR,λh _ hi=>h.el hi,λh m f=>jo.mod h m f⟩
def Qr{fv:Vt_}{cf:Int->Int->Int}(h:Hh w sl l)(j:l.length<=100000)(g:aB3 w sl fv cf l)
  (f:∀b,Hh b sl (Srt.stable (ltI cf) l)->de (cK sl) w b->K (.tuple #[]) b):Ca pQ 242 #[sl,fv] w K:=by
 apply ap9;unfold Fe;obtain⟨a,c,i,-⟩:=h.isSl;apply jm (gI (l.length:Int)) w (by rw[i];simp[go_sem]);have d:O8 Va w sl fv cf l:=g;refine HX (Q:=Va) d j ⟨h,fw _,lX⟩ λk e=>?_;exact f _ e.own e.md
abbrev TM(cf:Od->Od->Int):Od->Od->Bool:=sK cf
def ax7(w0:Wt_)(sl:Vt_)(fv:Vt_)(cf:Od->Od->Int)(l0:List Od):Prop:=
 ∃g cp,fv=.func (.func g) #[] cp/\∀x∈l0,∀y∈l0,∀W,de (cK sl) w0 W->∀K:cG,(∀W',M0 W W' ->K (gI (cf x y)) W')->Ca pQ g ⟨[oG x,oG y]++cp.toList⟩ W K
def Vj:Gf HV Od:=⟨oG,qR,YM,λh _ hi=>h.el hi,λh m f=>jo.mod h m f⟩
def RL{fv:Vt_}{cf:Od->Od->Int}{l:List Od}(h:qR w sl l)(j:l.length<=100000)(g:ax7 w sl fv cf l)
  (f:∀b,qR b sl (Srt.stable (TM cf) l)->de (cK sl) w b->K (.tuple #[]) b):Ca pQ 217 #[sl,fv] w K:=by
 apply am4;unfold Fe;obtain⟨a,c,i,-⟩:=h.isSl;apply jm (gI (l.length:Int)) w (by rw[i];simp[go_sem]);have d:O8 Vj w sl fv cf l:=g;refine HX (Q:=Vj) d j ⟨h,fw _,lX⟩ λk e=>?_;exact f _ e.own e.md
def Pe:Tryz.prog.cellsOf 2=0+1:=cU
def ai7:Tryz.prog.cellsOf 24=0+1:=cU
abbrev wC(w:Wt_)(sl:Vt_)(l:List Int):Prop:=jo w 2 1 sl l.length (l.flatMap wz)
abbrev vO(w:Wt_)(sl:Vt_)(l:List Int):Prop:=jo w 24 1 sl l.length (l.flatMap CB)
def GP(l:List Int):l.flatMap CB=l.map λx=>gQ x:=by
 induction l with
 |nil=>rfl
 |cons x l a=>rw[eu,a];rfl
def wC.el(h:wC w sl l){i:Nat}(hi:i<l.length):
  ∃p,(∀(k:IntKind) W,(iX 306 sl (.int k (i:Int))).run pQ W=.ok p W)/\∀(W:Wt_) (l' :List Int),wC W sl l' ->∀c:i<l'.length,
   (iL 2 p).run pQ W=.ok (gI l'[i]) W/\∀x:Int,∃g,(iS 2 p (gI x)).run pQ W=.ok () g/\wC g sl (l'.set i x)/\de (cK sl) W g:=by
 obtain⟨b,d,rest,rfl,y,u,v⟩:=h.pos qZ;refine⟨.pointer (some ⟨b,i,none⟩),λk W=>by simp[go_sem,hi,cS,zU,Program.elem,Go.Vc.oK Pe],λW l' r c=>?_⟩;obtain⟨q,f,a,t,s,e,o,j⟩:=r.pos qZ;obtain⟨rfl,n,rfl⟩:b=q/\l.length=l'.length/\d=f:=by simpa using t
 have m:(l'.flatMap wz++a)[i]? =some (gI l'[i]):=by
  rw[DI,dC (by simpa using c),dO,cE c];rfl
 refine⟨by simp[go_sem,fy e,m],λx=>⟨W.setCell ⟨b,i,none⟩ (gI x),by simp[go_sem,fy e,m],⟨by rw[wT rT,ey],.inr ⟨b,d,a,by grind,by grind,?_,by grind,j⟩⟩,(de.refl _ W).setCell (.inl (show cK (.slice (some ⟨b,0,none⟩) l.length d) b from rfl)) _ _⟩⟩;rw[nL,bZ rfl,e,iK,ed,gZ _ _ (by rw[wT rT];omega),DI,DI,lY]
def IE(x:Int):(CB x).length=1:=rfl
def vO.el(h:vO w sl l){i:Nat}(hi:i<l.length):
  ∃p,(∀(k:IntKind) W,(iX 49 sl (.int k (i:Int))).run pQ W=.ok p W)/\∀(W:Wt_) (l' :List Int),vO W sl l' ->∀c:i<l'.length,
   (iL 24 p).run pQ W=.ok (gQ l'[i]) W/\∀x:Int,∃g,(iS 24 p (gQ x)).run pQ W=.ok () g/\vO g sl (l'.set i x)/\de (cK sl) W g:=by
 obtain⟨b,d,rest,rfl,y,u,v⟩:=h.pos qZ;refine⟨.pointer (some ⟨b,i,none⟩),λk W=>by simp[go_sem,hi,cS,yu,Program.elem,Go.Vc.oK ai7],λW l' r c=>?_⟩;obtain⟨q,f,a,t,s,e,o,j⟩:=r.pos qZ;obtain⟨rfl,n,rfl⟩:b=q/\l.length=l'.length/\d=f:=by simpa using t
 have m:(l'.flatMap CB++a)[i]? =some (gQ l'[i]):=by
  rw[GP,dC (by simpa using c),dO,cE c];rfl
 refine⟨by simp[go_sem,fy e,m],λx=>⟨W.setCell ⟨b,i,none⟩ (gQ x),by simp[go_sem,fy e,m],⟨by rw[wT IE,ey],.inr ⟨b,d,a,by grind,by grind,?_,by grind,j⟩⟩,(de.refl _ W).setCell (.inl (show cK (.slice (some ⟨b,0,none⟩) l.length d) b from rfl)) _ _⟩⟩;rw[nL,bZ rfl,e,iK,ed,gZ _ _ (by rw[wT IE];omega),GP,GP,lY]
def mkZ{t e:TypeId}{by_:Nat}{z:Vt_}{n:Nat}(h:Tryz.prog.underlying t=some (.slice e))(l:lN pQ e 1 by_=true)(k:(Tryz.prog.info? e).bind (·.zero)=some z)(g:z.cells= #[z])(j:z.oneCell' =true)(f:by_<=1000)(m:n<=1000000)
  (i:∀a c,jo c e 1 a n (List.replicate n z)->M0 w c->(∀b,cK a b->w.heap.size<=b)->K a c):rx pQ (Ak t (gI (n:Int)) (gI (n:Int))) w K:=by
 have d:(by_:Int)*(n:Int)<=281474976710656:=by
  have:by_*n<=1000*1000000:=jE f m;omega
 apply Ll (z:=z) h (eO l) qZ qZ d k;rw[show(n:Int).toNat=n from rfl]
 have o:madeCells z.cells (n*1)=(List.replicate n z).toArray:=by
  apply nQ;rw[g,toList_madeCells_one,pX]
 rw[o];refine i _ _ ⟨by simp,.inr ⟨w.heap.size,n,[],rfl,cJ _,by rw[gy,bZ rfl,ew],by simp,rfl⟩⟩ lm λb d=>?_;have:b=w.heap.size:=by cases d;rfl
 omega
def Zn(n:Nat):(List.replicate n (gI 0):LV_)=(List.replicate n (0:Int)).flatMap wz:=by rw[DI,List.map_replicate]
def aC1(n:Nat):(List.replicate n (gQ 0):LV_)=(List.replicate n (0:Int)).flatMap CB:=by rw[GP,List.map_replicate]
def Nq{x:Int}(a:K (.bool (decide (x<0))) w):Ca pQ 239 #[.int .i64 x] w K:=by
 apply ah7;exact qSv0 (.bool (decide (x<0))) a
def Mw(h:Rd w 1 s l.length (l.flatMap wz))(G:l.length<=1000000)(g:K (.bool (l.any λx=>decide (x<0))) w):
  Ca pQ 238 #[s,.func (.func 239) #[] #[]] w K:=by
 apply ZW
 have m:Ca pQ 254 #[s,.func (.func 239) #[] #[]] w λv q=>rv pQ (qE .geq 3 true v (gI 0)) q λy r=>K y r:=by
  apply Zl;obtain⟨a,c,z⟩:=h.isSl;apply jm (gI (l.length:Int)) w (by rw[z];simp[go_sem])
  refine eS (λst W=>∃(i:Nat) (x:Vt_),i<=l.length/\st=(x,gI i,())/\W=w/\∀j:Nat,∀k:j<l.length,j<i->¬l[j]<0)
   (λst _=>match st.2.1 with| .int _ i=>l.length - i.toNat|_=>0) ⟨0,gI 0,qZ,rfl,rfl,λj _ h=>qZ⟩ ?_
  rintro⟨_,_⟩ W ⟨i,x,F,⟨⟩,rfl,n⟩ D o;unfold Pj;intro _;by_cases e:i<l.length
  ·have f:(i:Int)<(l.length:Int):=qZ;refine qSt1 f ?_;obtain⟨b,u,A,C,E,fz,hC,p⟩:=h.cell rT rfl zU Pe e rfl;apply cI (A .i64);refine qS2 hC p ?_;simp only[kE];apply Nq;by_cases d:l[i]<0
   ·rw[qo d];have:(l.any λx=>decide (x<0))=true:=gA.2 ⟨_,cC e,by simpa using d⟩;rw[this]at g;exact qSv0 (.bool true) g
   ·rw[DN d];apply cx (gI ((i+1:Nat):Int)) W (by simp[go_sem];rw[wI_]);refine o _ _ ⟨i+1,_,qZ,rfl,rfl,λj k t=>?_⟩ (by grind);by_cases B:j=i
    ·subst B;exact d
    ·grind
  ·obtain rfl:i=l.length:=qZ;refine qSf0 ?_
   have:(l.any λx=>decide (x<0))=false:=by
    rw[nH];intro x d;obtain⟨j,k,rfl⟩:=cX d;simpa using n j k k
   rw[this]at g;exact qSv0 (.bool false) g
 exact m
def pO(t s:Nat)(ws:List Nat):List Nat:=ws.map λx=>t*x / s
def qQ(t s:Nat)(ws:List Nat):List Nat:=ws.map λx=>t*x%s
def Lc(t s:Nat)(ws:List Nat):s*(pO t s ws).sum+(qQ t s ws).sum=t*ws.sum:=by
 induction ws with
 |nil=>simp[pO,qQ]
 |cons x ws a=>
  unfold pO qQ at*;simp only[cM,di];have:=ie (t*x) s;rw[Nat.mul_add,Nat.mul_add];omega
def S3{s:Nat}(a:0<s)(t:Nat)(ws:List Nat):(qQ t s ws).sum<=ws.length*s:=by
 induction ws with
 |nil=>simp[qQ]
 |cons x ws b=>
  unfold qQ at*;simp only[cM,di,dc];have:=gR (t*x) a;rw[je];omega
def Gl{s:Nat}(b:0<s)(t:Nat){ws:List Nat}(h:ws.sum<=s):(pO t s ws).sum<=t:=by
 have d:=Lc t s ws;have c:t*ws.sum<=t*s:=oN t h;have a:s*(pO t s ws).sum<=s*t:=by grind
 exact Nat.le_of_mul_le_mul_left a b
def IB{s:Nat}(a:0<s)(t:Nat){ws:List Nat}(h:ws.sum=s):t - (pO t s ws).sum<=ws.length:=by
 have b:=Lc t s ws;have d:=S3 a t ws;rw[h,fe t s]at b
 have c:s*(t - (pO t s ws).sum)<=s*ws.length:=by
  rw[Nat.mul_sub,fe s ws.length];omega
 exact Nat.le_of_mul_le_mul_left c a
def AF(r:List Nat)(i k:Int):Int:=if r.getD k.toNat 0<r.getD i.toNat 0 then -1 else if r.getD i.toNat 0<r.getD k.toNat 0 then 1 else 0
def sB(r:List Nat):List Int:=Srt.stable (ltI (AF r)) ((List.range r.length).map λi:Nat=>(i:Int))
def ot:List Int->List Int->List Int
 | [],p=>p
 |i::ix,p=>ot ix (p.set i.toNat (p.getD i.toNat 0+1))
def tP(t:Nat)(ws:List Nat):List Int:=
 ot ((sB (qQ t ws.sum ws)).take (t - (pO t ws.sum ws).sum)) ((pO t ws.sum ws).map λx:Nat=>(x:Int))
def ib(t:Int)(l:List Int):List Int×Int:=
 if 1000<l.length then([],3)
 else if t<0\/(l.any λx=>decide (x<0))=true then([],2)
 else if¬jl l.sum then([],6)
 else if t=0 then(List.replicate l.length 0,0)
 else if l.sum=0 then([],10)
 else(tP t.toNat (l.map Int.toNat),0)
def NN{rp:Nat}{T:TypeId}{r:List Nat}{i k:Nat}(j:hC w rp #[s] T)(g:vO w s (r.map λx:Nat=>(x:Int)))(hi:i<r.length)(n:k<r.length)
  (e:∀t,M0 w t->K (gI (AF r (i:Int) (k:Int))) t):Ca pQ 243 #[.int .i64 (i:Int),gI (k:Int),.pointer (some ⟨rp,0,none⟩)] w K:=by
 apply as1;obtain⟨a,c,z,-⟩:=g.isSl;obtain⟨p,v,y⟩:=g.el (i:=i) (by simpa using hi);obtain⟨q,u,A⟩:=g.el (i:=k) (by simpa using n);have d:∀W,M0 w W->(iL 49 (pt rp 0)).run pQ W=.ok s W:=λW m=>by have:=m.hpk j id;rw[z]at this|-;simp[go_sem,this]
 have h:∀W,M0 w W->(iL 24 p).run pQ W=.ok (gQ ((r[i]:Nat):Int)) W:=λW m=>by
  have:=(y W _ (g.mod m eQ) (by simpa using hi)).1;simpa using this
 have f:∀W,M0 w W->(iL 24 q).run pQ W=.ok (gQ ((r[k]:Nat):Int)) W:=λW m=>by
  have:=(A W _ (g.mod m eQ) (by simpa using n)).1;simpa using this
 have md:M0 w w.drew:=mP;have b:M0 w w.drew.drew:=md.drew
 have B:AF r (i:Int) (k:Int)=if r[k]<r[i]then -1 else if r[i]<r[k]then 1 else 0:=by
  unfold AF;rw[kO,kO,iH,iH,cE hi,cE n,fT,fT]
 rw[B]at e;refine dp (d _ md) (dw (λW=>v .i64 W) (dp (h _ md) (dp (d _ md) (dw (λW=>u .i64 W) (dp (f _ md) ?_)))));refine qP0 ?_;by_cases o:r[k]<r[i]
 ·rw[qo o];rw[bZ o]at e;exact e _ md
 ·rw[cy,aZ (by grind)];rw[aZ o]at e;refine dp (d _ b) (dw (λW=>v .i64 W) (dp (h _ b) (dp (d _ b) (dw (λW=>u .i64 W) (dp (f _ b) ?_)))));refine qP0 ?_;by_cases l:r[i]<r[k]
  ·rw[qo l];rw[bZ l]at e;exact e _ b
  ·rw[cy,aZ (by grind)];rw[aZ l]at e;exact e _ b
def Cg{α:Type}{A:List α}{z:α}{n i:Nat}(c:A.length=n)(hi:i<n):(A.take i++List.replicate (n - i) z).set i (A[i]'qZ)=A.take (i+1)++List.replicate (n - (i+1)) z:=by
 have b:(A.take i).length=i:=by grind
 obtain⟨k,a⟩:∃k,n - i=k+1:=⟨n - i - 1,qZ⟩
 rw[gh _ _ qZ,b,mg,a,List.replicate_succ,List.set_cons_zero,show n - (i+1)=k by omega];have e:=eA (l:=A) (i:=i) qZ;rw[e,df];rfl
def Cq:∀{p:List Int} {k:Nat} (b:k<p.length) (x:Int),(p.set k x).sum=p.sum - p[k]+x
 |a::p,0,_,x=>by simp;omega
 |a::p,k+1,b,x=>by
  have:=Cq (p:=p) (k:=k) (by simpa using b) x;simp only[List.set_cons_succ,di,fA];omega
def Ka{p:List Int}(h:∀x∈p,0<=x):0<=p.sum:=by
 induction p with
 |nil=>simp
 |cons a p b=>
  have e:=b λx c=>h x (by simp[c]);have d:=h a (by simp);rw[di];omega
def zz:∀{p:List Int},(∀x∈p,0<=x)->∀x∈p,x<=p.sum
 |a::p,h,x,b=>by
  have e:=h a (by simp);have c:∀y∈p,0<=y:=λy d=>h y (by simp[d]);have f:0<=p.sum:=Ka c;rw[di];rcases cH.1 b with rfl|b
  ·omega
  ·have:=zz c x b;omega
def KK:∀{p:List Nat} {x:Nat},x∈p->x<=p.sum
 |a::p,x,b=>by
  rw[di];rcases cH.1 b with rfl|b
  ·omega
  ·have:=KK b;omega
def ti:∀(ws:List Nat),(ws.map λx:Nat=>(x:Int)).sum=(ws.sum:Int)
 | []=>rfl
 |x::ws=>by rw[cM,di,di,ti ws,iT]
def HF{t:Int}(h:Rd w 1 s l.length (l.flatMap wz))(hl:∀x∈l,jl x)(ht:jl t)(hn:l.length<=100000)
  (hK:∀s' w',wC w' s' (ib t l).1->M0 w w' ->(∀b,cK s' b->w.heap.size<=b)->K (.tuple #[s',gI (ib t l).2]) w'):Ca pQ 200 #[.int .i64 t,s] w K:=by
 apply ac9;obtain⟨a,c,hs⟩:=h.isSl;have A:∀{W:Wt_},(builtin .len #[306] 3 #[false] #[s]).run pQ W=.ok (.value (gI (l.length:Int))) W:=λ{W}=>by rw[hs];simp[go_sem]
 have Z:∀e,ib t l=([],e)->K (.tuple #[.slice none 0 0,gI e]) w:=λe he=>by
  have hk:=hK (.slice none 0 0) w (by rw[he];exact jo.nil _ _ _) lX λb d=>by cases d
  rw[he]at hk;exact hk
 apply mB A;by_cases o:1000<l.length
 ·have B:(1000:Int)<(l.length:Int):=qZ;refine qSt1 B ?_;exact Z 3 (by unfold ib;rw[bZ o])
 have B:¬(1000:Int)<(l.length:Int):=qZ;refine qSf1 B ?_;refine dK.at (λst W=>st=(.bool (decide (t<0\/(l.any λx=>decide (x<0))=true)),())/\W=w) ?_ ?_
 ·by_cases v:t<0
  ·refine qSt1 v ?_;exact⟨by simp[v],rfl⟩
  ·refine qSf1 v ?_;apply Mw h qZ;refine⟨?_,rfl⟩
   have e:decide (t<0\/(l.any λx=>decide (x<0))=true)=l.any λx=>decide (x<0):=by
    rw[iC,decide_eq_true_iff];exact⟨λh=>h.resolve_left v,.inr⟩
   rw[e]
 rintro _ W ⟨rfl,rfl⟩;unfold Sb;intro _;by_cases j:t<0\/(l.any λx=>decide (x<0))=true
 ·rw[qo j];exact Z 2 (by unfold ib;rw[aZ o,bZ j])
 rw[DN j];apply E6 h qZ hl;by_cases hR:jl l.sum
 case neg=>
  have hs6:tN l=(0,6):=by unfold tN;rw[aZ hR]
  rw[hs6];refine qS0 ?_;refine qS0 ?_;refine qSt0 ?_;exact Z 6 (by unfold ib;rw[aZ o,aZ j,bZ hR])
 have hs0:tN l=(l.sum,0):=by unfold tN;rw[bZ hR]
 rw[hs0];refine qS0 ?_;refine qS0 ?_;refine qSf0 ?_;apply mB A;refine mkZ zU Uy (z:=gI 0) cU rfl rfl qZ qZ λE w1 o1 m1 n1=>?_;rw[Zn]at o1
 have o1:wC w1 E (List.replicate l.length 0):=by
  unfold wC;rw[fG];exact o1
 by_cases v:t=0
 ·refine qSt1 v ?_;have e:ib t l=(List.replicate l.length 0,0):=by unfold ib;rw[aZ o,aZ j,aZ (by simpa using hR),bZ v]
  rw[e]at hK;exact hK E w1 o1 m1 n1
 refine qSf1 v ?_;by_cases L:l.sum=0
 ·refine qSt1 L ?_;have e:ib t l=([],10):=by unfold ib;rw[aZ o,aZ j,aZ (by simpa using hR),aZ v,bZ L]
  rw[e]at hK;exact hK (.slice none 0 0) w1 (jo.nil _ _ _) m1 λb d=>by cases d
 refine qSf1 L ?_;have e:ib t l=(tP t.toNat (l.map Int.toNat),0):=by unfold ib;rw[aZ o,aZ j,aZ (by simpa using hR),aZ v,aZ L]
 rw[e]at hK
 have hnn:∀x∈l,0<=x:=λx D=>by
  apply dU;intro hc;exact j (.inr (gA.2 ⟨x,D,by simp;omega⟩))
 obtain⟨f,hws⟩:=dW (l.map Int.toNat)
 have hlw:l=f.map λx:Nat=>(x:Int):=by
  rw[hws,dQ]
  conv=>lhs;rw[<-iP l]
  exact dt λx D=>by show x=((x.toNat:Nat):Int);have:=hnn x D;omega
 obtain⟨T,hT⟩:=dW (t.toNat:Nat)
 have htT:t=(T:Int):=by
  have:¬t<0:=λh=>j (.inl h);omega
 have hsw:l.sum=(f.sum:Int):=by rw[hlw,ti]
 obtain⟨S,hS⟩:=dW f.sum;obtain⟨n,hnd⟩:=dW l.length;have hwl:f.length=n:=by rw[hws,cz,hnd]
 rw[<-hws,<-hT]at hK;rw[<-hnd]at A o1;have hSp:0<S:=qZ
 have hn0:0<n:=by
  apply dU;intro hc;have:f=[]:=jF qZ;rw[this]at hS;simp at hS;omega
 clear j Z;apply mB A;refine mkZ yu Ry (z:=gQ 0) cU rfl rfl qZ qZ λN w2 o2 m2 n2=>?_;rw[aC1]at o2;have o2:vO w2 N (List.replicate n 0):=by unfold vO;rw[fG];exact o2
 obtain⟨ra,rc,hrs,-⟩:=o2.isSl;obtain⟨M,hvp⟩:=dW w2.heap.size;have m3:M0 w2 (w2.alloc (.cells #[.slice none 0 0] 49)):=lm;have b3:hC (w2.alloc (.cells #[.slice none 0 0] 49)) M #[.slice none 0 0] 49:=by rw[hvp];simp[go_sem]
 apply cx (pt M 0) (w2.alloc (.cells #[.slice none 0 0] 49)) (by rw[hvp];simp[go_sem]);generalize w2.alloc (.cells #[.slice none 0 0] 49)=w3 at m3 b3|-;apply pH (w3.setCell ⟨M,0,none⟩ N) (by rw[hrs];simp[go_sem,b3]);have m4:de (λx=>x=M) w3 (w3.setCell ⟨M,0,none⟩ N):=(de.refl (λx=>x=M) w3).sc;have b4:hC (w3.setCell ⟨M,0,none⟩ N) M #[N] 49:=by simp[go_sem,b3]
 generalize w3.setCell ⟨M,0,none⟩ N=w4 at m4 b4|-;have M24:M0 w2 w4:=m3.on m4 λx D=>gz;rw[htT];apply cx (gQ (T:Int)) w4 (by simp[go_sem];rw[wU_]);apply mB A;refine mkZ LK Zr (z:=gI 0) cU rfl rfl qZ qZ λos w5 o5 m5 n5=>?_;rw[Zn]at o5;have o5:Hh w5 os (List.replicate n 0):=by unfold Hh;rw[fG];exact o5
 apply mB A;have J:∀b,cK E b->b<w1.heap.size:=λb d=>o1.lt d;have I:∀b,cK N b->w1.heap.size<=b/\b<M:=λb d=>⟨n2 b d,by rw[hvp];exact o2.lt d⟩
 have hz4:=cB b4;have u:∀b,cK os b->M<b:=λb d=>by have:=n5 b d;omega
 have hs1:=m1.size;have hs2:=m2.size;have hq:=Gl hSp T (ws:=f) qZ;have ql:(pO T S f).length=n:=by unfold pO;rw[cz,hwl]
 have rl:(qQ T S f).length=n:=by unfold qQ;rw[cz,hwl]
 have M15:M0 W w5:=((m1.trans m2).trans M24).trans m5;let m:Nat->Int:=λx=>(x:Int)
 refine eS (λst U=>∃(i left:Nat),st=(gQ (left:Int),gI i,())/\i<=n/\left+(pO T S (f.take i)).sum=T/\wC U E (((pO T S f).map m).take i++List.replicate (n - i) 0)/\vO U N (((qQ T S f).map m).take i++List.replicate (n - i) 0)/\
   Hh U os (((List.range n).map m).take i++List.replicate (n - i) 0)/\hC U M #[N] 49/\M0 W U)
  (λst _=>match st.2.1 with| .int _ i=>n - i.toNat|_=>0) ⟨0,T,rfl,qZ,by simp[pO],?_,?_,?_,m5.hpk b4 id,M15⟩ ?_
 ·rw[kw,jO,lz];exact o1.mod ((m2.trans M24).trans m5) eQ
 ·rw[kw,jO,lz];exact o2.mod (M24.trans m5) eQ
 ·rw[kw,jO,lz];exact o5
 rintro⟨_,_,_⟩ W6 ⟨i,left,⟨⟩,hi,hleft,j1,j2,j3,j4,j5⟩ KN hKN;unfold OI;intro _;have hcl:((pO T S f).map m).length=n:=by rw[cz,ql]
 have hcl2:((qQ T S f).map m).length=n:=by rw[cz,rl]
 have hcl3:((List.range n).map m).length=n:=by rw[cz,List.length_range]
 by_cases G:i<n
 ·have hlt' :(i:Int)<(n:Int):=qZ;have hil:i<l.length:=qZ;have hiw:i<f.length:=qZ;rw[<-hnd]at h;refine qSt1 G ?_;obtain⟨b,off,e1,C,e',fz,hC,hCx⟩:=(h.mod j5 eQ).cell rT hnd zU Pe hil rfl;apply cI (e1 .i64);have hli:l[i]=((f[i]:Nat):Int):=by simp only[hlw,eL]
  obtain⟨x,D⟩:=dW (f[i]);rw[<-D]at hli;have hxS:x<=S:=by rw[D,hS];exact KK (cC hiw)
  apply cx (gI (x:Int)) W6 (by rw[hli]at hCx;simp[go_sem,hC,hCx]);apply cx (gQ (T:Int)) W6 (by simp[go_sem];rw[wU_]);apply cx (gQ (x:Int)) W6 (by simp[go_sem];rw[wU_]);apply OM qZ qZ;refine qS0 ?_;refine qS0 ?_;rw[hsw,<-hS];apply cx (gQ (S:Int)) W6 (by simp[go_sem];rw[wU_])
  have hp1:T*x<S*18446744073709551616:=by
   have h1:T*x<=T*S:=oN T hxS;have h2:T*S<18446744073709551616*S:=Nat.mul_lt_mul_of_pos_right qZ hSp;rw[fe S];omega
  refine PO ((iR (show 0<18446744073709551616 by omega)).2 hp1) qZ (gR _ qZ) λR m7=>?_;rw[qK (T*x) 18446744073709551616];obtain⟨q,hqd⟩:=dW (T*x / S);obtain⟨r,hrd⟩:=dW (T*x%S);rw[<-hqd,<-hrd]
  have hqT:q<=T:=by
   rw[hqd];have:T*x<=S*T:=by rw[fe S];exact oN T hxS
   exact Nat.div_le_of_le_mul this
  refine qS0 ?_;refine qS0 ?_;have md:M0 W6 R.drew:=m7.drew;have k1:wC R.drew E _:=j1.mod md eQ;have k2:vO R.drew N _:=j2.mod md eQ;have k3:Hh R.drew os _:=j3.mod md eQ;have k4:=md.hpk j4 id;have k5:=j5.trans md
  dsimp only
  generalize R.drew=W8 at md k1 k2 k3 k4 k5|-;apply oy N (by rw[hrs]at k4|-;simp[go_sem,k4]);apply oy (gI (q:Int)) (by simp[go_sem];rw[wI_]);obtain⟨p1,f1,g1⟩:=k1.el (i:=i) (by rw[cD,cZ,fG];omega);obtain⟨p2,f2,g2⟩:=k2.el (i:=i) (by rw[cD,cZ,fG];omega);obtain⟨p3,f3,g3⟩:=k3.el (i:=i) (by rw[cD,cZ,fG];omega);apply dw (λW=>f1 .i64 W);obtain⟨W9,s1,q1,H⟩:=(g1 _ _ k1 (by rw[cD,cZ,fG];omega)).2 (q:Int);apply ir s1;have c4:=H.hpk k4 λd=>by have:=J _ d;omega
  refine⟨by rw[hrs]at c4|-;simp[go_sem,c4],?_⟩;apply dw (λW=>f2 .i64 W);have c2:vO W9 N _:=k2.mod H λb d g=>by have:=J _ g;have:=I _ d;omega
  obtain⟨W10,s2,q2,X⟩:=(g2 _ _ c2 (by rw[cD,cZ,fG];omega)).2 (r:Int);apply ir s2;apply dw (λW=>f3 W);have c3:Hh W10 os _:=(k3.mod H λb d g=>by have:=J _ g;have:=u _ d;omega).mod X λb d g=>by have:=I _ g;have:=u _ d;omega
  obtain⟨W11,s3,q3,Y⟩:=(g3 _ _ c3 (by rw[cD,cZ,fG];omega)).2 (i:Int);apply ir s3
  have hqs:(pO T S (f.take (i+1))).sum=(pO T S (f.take i)).sum+q:=by
   rw[eA hiw];unfold pO;rw[dy,g9,hqd,D];simp
  have hqs2:(pO T S (f.take (i+1))).sum<=T:=Gl hSp T (by
   rw[hS]
   conv=>rhs;rw[<-fP (i+1) f]
   rw[g9];omega)
  apply cx (gQ ((left - q:Nat):Int)) W11 (by simp[go_sem];rw[wU_];omega);apply cx (gI ((i+1:Nat):Int)) W11 (by simp[go_sem];rw[wI_]);refine hKN _ _ ⟨i+1,left - q,rfl,qZ,qZ,?_,?_,?_,?_,?_⟩ (by show n - (((i+1:Nat):Int)).toNat<n - ((i:Int)).toNat;omega)
  ·have e1:((pO T S f).map m)[i]'qZ=(q:Int):=by
    rw[eL];show((_:Nat):Int)=_;unfold pO;rw[eL,hqd,D]
   rw[<-Cg hcl G,e1];exact(q1.mod X λb d g=>by have:=J _ d;have:=I _ g;omega).mod Y λb d g=>by have:=J _ d;have:=u _ g;have:=hz4;omega
  ·have e1:((qQ T S f).map m)[i]'qZ=(r:Int):=by
    rw[eL];show((_:Nat):Int)=_;unfold qQ;rw[eL,hrd,D]
   rw[<-Cg hcl2 G,e1];exact q2.mod Y λb d g=>by have:=I _ d;have:=u _ g;omega
  ·have e1:((List.range n).map m)[i]'qZ=(i:Int):=by
    rw[eL];show((_:Nat):Int)=_;rw[List.getElem_range]
   rw[<-Cg hcl3 G,e1];exact q3
  ·exact Y.hpk (X.hpk c4 λd=>by have:=I _ d;omega) λd=>by have:=u _ d;omega
  ·refine((k5.on H λb d=>.inr (n1 b d)).on X λb d=>.inr ?_).on Y λb d=>.inr ?_
   ·have:=I b d;omega
   ·have:=u b d;omega
 have hin:i=n:=qZ;subst hin;have hlt' :¬(i:Int)<(i:Int):=qZ;refine qSf1 hlt' ?_;rw[cT qZ,mg,List.replicate_zero,ew]at j1 j2 j3;rw[cT qZ]at hleft;have P:((List.range i).map m).length=i:=hcl3;refine Qr (cf:=AF (qQ T S f)) j3 (by rw[P];omega) ⟨_,_,rfl,λx D y hy U mW K' hK' =>?_⟩ λR o7 m7=>?_
 ·obtain⟨xi,hxi,rfl⟩:=cF.1 D;obtain⟨yi,hyi,rfl⟩:=cF.1 hy;exact NN (mW.hpk j4 λd=>by have:=u _ d;omega) (j2.mod mW λb d g=>by have:=I _ d;have:=u _ g;omega) (by rw[rl];exact iQ.1 hxi) (by rw[rl];exact iQ.1 hyi) hK'
 have hord:sB (qQ T S f)=Srt.stable (ltI (AF (qQ T S f))) ((List.range i).map m):=by unfold sB;rw[rl]
 rw[<-hord]at o7;have hop:(sB (qQ T S f)).Perm ((List.range i).map m):=by rw[hord];exact stable_perm _ _
 have V:(sB (qQ T S f)).length=i:=by rw[hop.length_eq,P]
 obtain⟨O,hO⟩:=dW (sB (qQ T S f));rw[<-hO]at o7 hop V;have hll:=IB hSp T (ws:=f) hS.symm;have hleft2:left=T - (pO T S f).sum:=qZ;rw[hwl]at hll;obtain⟨ob,F,orest,rfl,oc,oh,orl,or1⟩:=o7.pos qZ;have hk1:wC R E ((pO T S f).map m):=j1.mod m7 λb d g=>by have:=J _ d;have:=u _ g;omega
 have M7:M0 W R:=j5.on m7 λb d=>.inr (by have:=u _ d;omega);apply cI (IU LK an0 (show left<=F by omega) qZ R)
 have hov:Hh R (.slice (some ⟨ob,0,none⟩) left F) (O.take left):=by
  have G:(O.take left).length=left:=by rw[cZ,V];omega
  refine⟨by rw[wT rT],.inr ⟨ob,F,(O.drop left).flatMap wz++orest,by rw[G],by rw[G];omega,?_,?_,?_⟩⟩
  ·rw[oh,<-df,<-eJ,fP]
  ·rw[cD,wT rT,dV,orl,G,V];omega
  ·rw[gj,MH xy,or1];rfl
 have hob:cK (.slice (some ⟨ob,0,none⟩) O.length F) ob:=rfl;have hobv:=u ob hob;obtain⟨v83,Q⟩:=dW (.slice (some ⟨ob,0,none⟩) left F:Vt_);rw[<-Q]at hov|-;have hOt:(O.take left).length=left:=by rw[cZ,V];omega
 have hvb:∀b,cK v83 b->M<b:=λb d=>by rw[Q]at d;have:b=ob:=(by cases d;rfl);omega
 apply jm (gI (left:Int)) R (by rw[Q];simp[go_sem])
 refine eS (λst U=>∃(k:Nat) (p:List Int),st=(gI k,())/\k<=left/\wC U E p/\ot ((O.take left).drop k) p=tP T f/\p.length=i/\(∀x∈p,0<=x)/\p.sum+left=T+k/\Hh U v83 (O.take left)/\M0 W U)
  (λst _=>match st.1 with| .int _ k=>left - k.toNat|_=>0) ⟨0,_,rfl,qZ,hk1,?_,hcl,λx D=>?_,?_,hov,M7⟩ ?_
 ·unfold tP;rw[<-hS,<-hO,<-hleft2,iw]
 ·obtain⟨y,-,rfl⟩:=cF.1 D;exact Int.natCast_nonneg y
 ·have:((pO T S f).map m).sum=((pO T S f).sum:Int):=ti _;rw[this];omega
 rintro⟨_,_⟩ W8 ⟨k,p,⟨⟩,hk,p1,p2,p3,p4,p5,p6,p7⟩ KN hKN;unfold Pc;intro _;by_cases hkl:k<left
 ·have hkl' :(k:Int)<(left:Int):=qZ;refine qSt1 hkl ?_;obtain⟨a1,f1,g1⟩:=p6.el (i:=k) qZ;apply cI (f1 W8);apply cI (g1 _ _ p6 qZ).1;have hmem:(O.take left)[k]'qZ∈(List.range i).map m:=hop.mem_iff.1 (ek (cC _));obtain⟨y,hy,hye⟩:=cF.1 hmem;have hyi:=iQ.1 hy;rw[<-hye];obtain⟨a2,f2,g2⟩:=p1.el (i:=y) qZ;apply cI (f2 .i64 W8);apply cI (g2 _ _ p1 qZ).1;have hpy:=p4 _ (cC (show y<p.length by omega));have hpy2:=zz p4 _ (cC (show y<p.length by omega));apply cx (gI (p[y]'qZ+1)) W8 (by simp[go_sem];rw[wI_]);apply cI (f2 .i64 W8);obtain⟨W9,s1,q1,H⟩:=(g2 _ _ p1 qZ).2 (p[y]'qZ+1);apply ir s1;apply cx (gI ((k+1:Nat):Int)) W9 (by simp[go_sem];rw[wI_]);refine hKN _ _ ⟨k+1,_,rfl,qZ,q1,?_,by rw[ey];exact p3,λx D=>?_,?_,p6.mod H λb d g=>by have:=hvb _ d;have:=J _ g;omega,p7.on H λb d=>.inr (n1 b d)⟩ (by show left - (((k+1:Nat):Int)).toNat<left - ((k:Int)).toNat;omega)
  ·rw[<-p2];have hd:(O.take left).drop k=(O.take left)[k]'qZ::(O.take left).drop (k+1):=(gK qZ).symm;rw[hd,ot,<-hye];congr 1;show p.set y _=p.set ((y:Nat):Int).toNat (p.getD ((y:Nat):Int).toNat 0+1);rw[kO,iH,cE qZ,fT]
  ·rcases gG D with D|rfl
   ·exact p4 x D
   ·omega
  ·rw[Cq qZ];omega
 ·have hkl' :k=left:=qZ;have hnl:¬(k:Int)<(left:Int):=qZ;refine qSf1 hkl ?_;rw[hkl',fg qZ,ot]at p2;subst p2;exact hK E W8 p1 p7 n1
end Go.Proofs
namespace Go.Proofs
open Go Go.Vc
attribute [local congr] cR
variable {sells:Bool}{n q:Int}{s:Vt_}{w:Wt_}{K:cG}
section
variable{α:Type}{f:α->List Value}{S:Nat}
def _root_.Go.Vc.jo.itemG{w:Wt_}{e:TypeId}{sl:Vt_}{l:List α}(k:∀x,(f x).length=S)(h:jo w e S sl l.length (l.flatMap f)){i:Nat}(hi:i<l.length):
  ∃b a rest,sl=.slice (some ⟨b,0,none⟩) l.length a/\hC w b (l.flatMap f++rest).toArray e/\At w b (i*S) (f l[i])/\∀j,j<S->(l.flatMap f++rest)[i*S+j]? =(f l[i])[j]? :=by
 obtain⟨b,a,rest,rfl,s,d,r⟩:=h.pos qZ;have m:=h.1;have p:(i+1)*S<=l.length*S:=dM S hi;rw[im,Nat.one_mul]at p;have c:At w b 0 (l.flatMap f++rest):=At.all (fy d);have g:=c.sub (i*S) S (by grind);rw[eZ (by rw[m];omega),dh (by grind),oB f S l i (λx _=>k x) hi,eU]at g;refine⟨b,a,rest,rfl,fy d,g,λj q=>?_⟩;rw[dC (by rw[m];omega)];have o:=oB f S l i (λx _=>k x) hi;have n:(((l.flatMap f).drop (i*S)).take S)[j]? =(f l[i])[j]? :=by rw[o]
 rw[iE,bZ q,iY]at n;exact n
def _root_.Go.Vc.jo.set1G{w:Wt_}{e:TypeId}{b cap:Nat}{l:List α}(o:∀x,(f x).length=S)(h:jo w e S (.slice (some ⟨b,0,none⟩) l.length cap) l.length (l.flatMap f)){i:Nat}(hi:i<l.length){j:Nat}(u:j<S){v:Vt_}{a:α}(d:(f l[i]).set j v=f a):
  jo (w.setCell ⟨b,i*S+j,none⟩ v) e S (.slice (some ⟨b,0,none⟩) (l.set i a).length cap) (l.set i a).length ((l.set i a).flatMap f):=by
 obtain⟨m,c,rest,s,y,n,q,k⟩:=h.pos qZ;obtain⟨rfl,rfl⟩:b=m/\cap=c:=by simpa using s
 have p:=h.1;have r:(i+1)*S<=l.length*S:=dM S hi;rw[im,Nat.one_mul]at r
 have g:∀(l:List α) (i:Nat) (hi:i<l.length),(f l[i]).set j v=f a->(l.flatMap f).set (i*S+j) v=(l.set i a).flatMap f:=by
  intro l;induction l with
  |nil=>intro i hi;simp at hi
  |cons x l t=>
   intro i hi d;cases i with
   |zero=>
    simp only[iN]at d;rw[eu,nv,eU,gZ _ _ (by rw[o];omega),d];rfl
   |succ i=>
    have e:(i+1)*S+j=(f x).length+(i*S+j):=by grind
    rw[eu,e,gh _ _ qZ,jN,t i (by simpa using hi) (by simpa using d)];rfl
 refine⟨by grind,.inr ⟨b,cap,rest,by grind,by grind,?_,by grind,k⟩⟩;rw[nL,bZ rfl,n,iK,ed,gZ _ _ (by rw[p];omega),g l i hi d]
end
structure Du where
 acct:Int
 cash:Int
 v:Int
variable {l:List Du}
structure Sd where
 acct:Int
 cash:Int
 dfl:Bool
 cut:Int
def IH(d:Du):List Value:=[.int .u32 d.acct,gI d.cash,gI d.v]
def zp(d:Sd):List Value:=[.int .u32 d.acct,gI d.cash,.bool d.dfl,gI d.cut]
def LH(d:Du):(IH d).length=3:=rfl
def rf(d:Sd):(zp d).length=4:=rfl
def S6(d:Sd):(zp d).all (·.oneCell')=true:=rfl
def Th(d:Du):(IH d).all (·.oneCell')=true:=rfl
def Y9(d:Du):Value:=.agg (IH d).toArray
def aj5:Tryz.prog.underlying 257=some (.slice 259):=cU
def ai8:Tryz.prog.underlying 260=some (.slice 264):=cU
def nSd:Tryz.prog.cellsOf 264=3+1:=cU
def xb(n:Int):Bool:=amongB n 0 1000000000000000
def Eo(a:K (.bool (xb n)) w):Ca pQ 237 #[.int .i64 n] w K:=by
 apply ap3;unfold xb amongB at a;by_cases h:0<=n
 ·simp[go_sem,h]at a|-;exact a
 ·simp[go_sem,h]at a|-;exact a
def Du.Fit(d:Du):Prop:=pL d.acct/\jl d.cash/\jl d.v
def Du.ok(d:Du):Bool:=xb d.cash&& amongB d.v (-100000000000000000) 100000000000000000
def B3:Int->List Du->Bool
 |_,[]=>true
 |last,d::l=>decide (last<d.acct)&& d.ok&& B3 d.acct l
def pJ(fund:Int)(l:List Du):Bool:=B3 0 l&& xb fund
def ak3(h:Rd w 3 s l.length (l.flatMap IH)){i:Nat}(hi:i<l.length):
  ∃p,(iX 257 s (gI (i:Int))).run pQ w=.ok p w/\(iL 259 p).run pQ w=.ok (Y9 l[i]) w:=by
 obtain⟨b,d,k,a,j,m⟩:=h.item LH hi rfl;obtain⟨C,e,fz,hC,c⟩:=m.get;have g0:=c 0 (gU l[i].acct) rfl;have g1:=c 1 (gI l[i].cash) rfl;have g:=c 2 (gI l[i].v) rfl;simp only[jU,dS]at g0 g1 g;exact⟨.pointer (some ⟨b,d+i*3,none⟩),by rw[a];simp[go_sem,hi,cS,aj5],by simp[go_sem,fy hC,g0,g1,g,Y9,IH]⟩
def UU(d:Du)(w:Wt_):∃a c,(iA 259 true (.tuple #[])).run pQ w=.ok (pt w.heap.size 0) a/\(iS 259 (pt w.heap.size 0) (Y9 d)).run pQ a=.ok () c/\hC c w.heap.size (IH d).toArray 259/\M0 w c:=by
 obtain⟨a,b⟩:=dW (w.alloc (.cells #[.int .u32 0,gI 0,gI 0] 259));have g:M0 w a:=by rw[b];exact(de.refl _ w).alloc _
 have e:hC a w.heap.size #[.int .u32 0,gI 0,gI 0] 259:=by rw[b];simp[go_sem]
 refine⟨a,((a.setCell ⟨w.heap.size,0,none⟩ (gU d.acct)).setCell ⟨w.heap.size,1,none⟩ (gI d.cash)).setCell ⟨w.heap.size,2,none⟩ (gI d.v),by rw[b];simp[go_sem],by simp[go_sem,e,Y9,IH],by simp[go_sem,e,IH],?_⟩;exact g.on ((((de.refl (λx=>x=w.heap.size) a).sc).sc).sc) λx h=>gz
def JF{fund:Int}(h:Rd w 3 s l.length (l.flatMap IH))(R:l.length<=1000000)(I:∀d∈l,d.Fit)
  (C:∀y,M0 w y->K (.bool (pJ fund l)) y):Ca pQ 199 #[.int .i64 fund,s] w K:=by
 apply ad9;obtain⟨a,c,L⟩:=h.isSl;apply jm (gI (l.length:Int)) w (by rw[L];simp[go_sem])
 refine eS (λst W=>∃(i:Nat) (last:Int) (x:Vt_),i<=l.length/\st=(x,gU last,gI i,())/\M0 w W/\B3 0 l=B3 last (l.drop i))
  (λst _=>match st.2.2.1 with| .int _ i=>l.length - i.toNat|_=>0) ⟨0,0,_,qZ,rfl,lX,rfl⟩ ?_
 rintro⟨_,_,_,_⟩ W ⟨i,last,x,Q,⟨⟩,n,e⟩ P o;unfold RA;intro _;by_cases k:i<l.length
 ·have m:(i:Int)<(l.length:Int):=qZ;refine qSt1 m ?_;obtain⟨p,M,H⟩:=ak3 (h.mod n eQ) k;refine cI M (cI H ?_);obtain⟨O,N,D,E,b,J⟩:=UU l[i] W;obtain⟨q,G⟩:=dW W.heap.size;rw[<-G]at D E b;refine cI D (ir E ?_);obtain⟨d,v⟩:=dW (l[i]);rw[<-v]at b;have r:=I d (by grind);have g:l.drop i=d::l.drop (i+1):=by rw[v];exact(gK k).symm
  rw[g,B3]at e;unfold IH at b;have F:=n.trans J;refine dK.at (λst u=>st=(.bool (!(decide (last<d.acct)&& d.ok)),())/\u=N) ?_ ?_
  ·refine qS0 ?_;refine qS1 b ?_;by_cases B:d.acct<=last
   ·refine qSt1 B ?_
    exact⟨by
      have:¬last<d.acct:=qZ;simp[this],rfl⟩
   ·refine qSf1 B ?_;have t:last<d.acct:=qZ;refine qS0 ?_;refine qS1 b ?_;simp only[kE];apply Eo;refine qS0 ?_;cases z:xb d.cash with
    |false=>
     rw[cy,bZ (show(!false)=true from rfl)];exact⟨by simp[Du.ok,z],rfl⟩
    |true=>
     rw[cy,aZ (by simp)];refine qS0 ?_;refine qS1 b ?_;apply lH r.2.2 qZ;refine qS0 ?_;exact⟨by simp[Du.ok,z,t],rfl⟩
  rintro _ u ⟨rfl,rfl⟩;unfold PB;intro _;cases A:(decide (last<d.acct)&& d.ok)with
  |false=>
   rw[cy,bZ (show(!false)=true from rfl)];rw[A,jp]at e;have j:=C _ F;unfold pJ at j;rw[e,jp]at j;exact j
  |true=>
   rw[cy,aZ (by simp)];rw[A,oo]at e;refine qS0 ?_;refine qS1 b ?_;apply cx (gI ((i+1:Nat):Int)) u (by simp[go_sem];rw[wI_]);exact o _ _ ⟨i+1,_,_,qZ,rfl,F,e⟩ (by grind)
 ·obtain rfl:i=l.length:=qZ;refine qSf0 ?_;simp only[kE];apply Eo;rw[fg (cJ _),B3]at e;have j:=C _ n;unfold pJ at j;rw[e,oo]at j;exact j
def yp(d:Du):Sd:=if d.cash+d.v<0 then⟨d.acct,0,true,0⟩else⟨d.acct,d.cash+d.v,false,0⟩
def iO(d:Du):Int:=if d.cash+d.v<0 then -(d.cash+d.v)else 0
def gH(l:List Du):List Int:=(l.filter λd=>decide (0<d.v)).map (·.v)
def mU:Nat->List Du->List Nat
 |_,[]=>[]
 |i,d::l=>if 0<d.v then i::mU (i+1) l else mU (i+1) l
def kS:List Nat->List Int->List Sd->List Sd
 |i::ix,p::ps,o=>kS ix ps (match o[i]? with|some x=>o.set i {x with cut:=p,cash:=IntKind.i64.wrap (x.cash - p)}|none=>o)
 |_,_,o=>o
def lP(fund:Int)(l:List Du):List Sd×Int×Int:=
 if 64<l.length then([],0,3)
 else if pJ fund l=false then([],0,2)
 else if(tN (l.map (·.v))).2≠0\/(tN (l.map (·.v))).1≠0 then([],0,130)
 else if(ib ((l.map iO).sum - min fund (l.map iO).sum) (gH l)).2≠0 then([],0,(ib ((l.map iO).sum - min fund (l.map iO).sum) (gH l)).2)
 else(kS (mU 0 l) (ib ((l.map iO).sum - min fund (l.map iO).sum) (gH l)).1 (l.map yp),fund - min fund (l.map iO).sum,0)
def Cu:∀(l:List Du) (i:Nat) (d:Du),mU i (l++[d])=mU i l++(if 0<d.v then [i+l.length]else [])
 | [],i,d=>by simp[mU]
 |x::l,i,d=>by
  rw[List.cons_append,mU,mU,Cu l (i+1) d,dc];have e:i+1+l.length=i+(l.length+1):=qZ;rw[e];split<;>simp
def ES(l:List Du)(d:Du):gH (l++[d])=gH l++(if 0<d.v then [d.v]else []):=by
 unfold gH;rw[dJ,dy];congr 1;by_cases h:0<d.v<;>simp[h]
def vZ:∀(l:List Du) (i:Nat),(mU i l).length=(gH l).length
 | [],i=>rfl
 |d::l,i=>by
  unfold gH;rw[mU];have:=vZ l (i+1);unfold gH at this;by_cases h:0<d.v
  ·grind
  ·grind
def zv:∀(l:List Du) (i:Nat),∀x∈mU i l,i<=x/\x<i+l.length
 | [],i,x,a=>by simp[mU]at a
 |d::l,i,x,a=>by
  rw[mU]at a;rw[dc];by_cases h:0<d.v
  ·rw[bZ h]at a;rcases cH.1 a with rfl|a
   ·omega
   ·have:=zv l (i+1) x a;omega
  ·rw[aZ h]at a;have:=zv l (i+1) x a;omega
abbrev JW(w:Wt_)(sl:Vt_)(l:List Sd):Prop:=jo w 264 4 sl l.length (l.flatMap zp)
def SG(d:Sd):Value:=.agg (zp d).toArray
def JS:Sd:=⟨0,0,false,0⟩
def JW.el{sl:Vt_}{l:List Sd}(h:JW w sl l){i:Nat}(hi:i<l.length):
  ∃b,cK sl b/\(∀W,(iX 260 sl (gI (i:Int))).run pQ W=.ok (pt b (i*4)) W)/\∀(W:Wt_) (l' :List Sd),JW W sl l' ->∀f:i<l'.length,
   (iL 2 (pt b (i*4+1))).run pQ W=.ok (gI l'[i].cash) W/\
   (∀x:Int,∃d,(iS 2 (pt b (i*4+1)) (gI x)).run pQ W=.ok () d/\JW d sl (l'.set i {l'[i]with cash:=x})/\de (cK sl) W d)/\
   (∀x:Bool,∃d,(iS 4 (pt b (i*4+2)) (.bool x)).run pQ W=.ok () d/\JW d sl (l'.set i {l'[i]with dfl:=x})/\de (cK sl) W d)/\
   (∀x:Int,∃d,(iS 2 (pt b (i*4+3)) (gI x)).run pQ W=.ok () d/\JW d sl (l'.set i {l'[i]with cut:=x})/\de (cK sl) W d)/\
   (∀x:Sd,∃d,(iS 264 (pt b (i*4)) (SG x)).run pQ W=.ok () d/\JW d sl (l'.set i x)/\de (cK sl) W d):=by
 obtain⟨b,c,rest,rfl,Q,S,R⟩:=h.itemG rf hi;have q:cK (.slice (some ⟨b,0,none⟩) l.length c) b:=rfl;refine⟨b,q,λW=>by simp[go_sem,hi,cS,ai8],λW l' G f=>?_⟩
 have A:l'.length=l.length:=by
  obtain⟨F,p,a,K,-⟩:=G.pos qZ;have:l.length=l'.length:=by grind
  exact this.symm
 have r:jo W 264 4 (.slice (some ⟨b,0,none⟩) l'.length c) l'.length (l'.flatMap zp):=by
  have J:jo W 264 4 (.slice (some ⟨b,0,none⟩) l.length c) l'.length (l'.flatMap zp):=G;rw[<-A]at J;exact J
 obtain⟨F,p,a,K,g,-,m⟩:=r.itemG rf f;obtain⟨rfl,rfl⟩:b=F/\c=p:=by simpa using K
 have g0:=m 0 qZ;have g1:=m 1 qZ;have O:=m 2 qZ;have L:=m 3 qZ;simp only[dS]at g0;have md:∀j v,de (cK (.slice (some ⟨b,0,none⟩) l.length c)) W (W.setCell ⟨b,j,none⟩ v):=λj v=>(de.refl _ W).setCell (.inl q) _ _;have z:∀{W:Wt_} {o:List Sd},o.length=l.length->jo W 264 4 (.slice (some ⟨b,0,none⟩) o.length c) o.length (o.flatMap zp)->JW W (.slice (some ⟨b,0,none⟩) l.length c) o:=λe h=>by grind
 refine⟨by simp[go_sem,g,g1,zp],λx=>⟨_,by simp[go_sem,g,g1,zp],z (by grind) (r.set1G rf f (j:=1) qZ rfl),md _ _⟩,λx=>⟨_,by simp[go_sem,g,O,zp],z (by grind) (r.set1G rf f (j:=2) qZ rfl),md _ _⟩,
  λx=>⟨_,by simp[go_sem,g,L,zp],z (by grind) (r.set1G rf f (j:=3) qZ rfl),md _ _⟩,λx=>?_⟩
 have C:i*4+4<=(l'.flatMap zp++a).toArray.size:=by
  have:=(cP.1 (L.trans rfl)).1;rw[eT];omega
 have B:=xw (P:=pQ) (t:=264) (w:=W) (b:=b) (off:=i*4) (cs:=zp x) (n:=3) nSd rfl g (by rw[rf];exact C) (S6 x);refine⟨_,B,?_,(de.refl _ W).setRow (.inl q) _⟩;obtain⟨N,u,k,D,M,y,H,E⟩:=r.pos qZ;obtain⟨rfl,rfl⟩:b=N/\c=u:=by simpa using D
 have I:=r.1
 have s:a=k:=by
  have e:hp W b=some (.cells (l'.flatMap zp++k).toArray 264 (0,0)):=y;rw[g]at e;simpa using e
 subst s;refine z (by grind) ⟨by rw[wT rf,ey],.inr ⟨b,c,a,by grind,by grind,?_,by grind,E⟩⟩;rw[ij,bZ rfl,y]
 have e:mh (l'.flatMap zp++a) (i*4) (zp x)=(l'.set i x).flatMap zp++a:=by
  unfold mh;rw[dh (by rw[I];omega),SN rf,rf,eZ (by rw[I];omega),show i*4+4=(i+1)*4 by omega,Vp rf,List.set_eq_take_append_cons_drop,bZ f];simp
 rw[<-e]
def Fz:∀{l:List Du} {last:Int},B3 last l=true->∀d∈l,d.ok=true
 |d::l,last,h,x,a=>by
  rw[B3,cL,cL]at h;rcases cH.1 a with rfl|a
  ·exact h.1.2
  ·exact Fz h.2 x a
def Du.rng{d:Du}(h:d.ok=true):0<=d.cash/\d.cash<=1000000000000000/\ -100000000000000000<=d.v/\d.v<=100000000000000000:=by
 unfold Du.ok xb amongB at h;simp only[cL,dN]at h;omega
def LR(h:∀d∈l,d.ok=true):0<=(l.map iO).sum/\(l.map iO).sum<=l.length*100000000000000000:=by
 have:=vu (l:=l.map iO) (B:=100000000000000000) λx b=>by
  obtain⟨d,a,rfl⟩:=cF.1 b;have:=Du.rng (h d a);unfold iO;split<;>omega
 rwa[cz]at this
def eSd:lN pQ 264 4 32=true:=cU
def ao3(h:∀d∈l,d.ok=true):(∀x∈gH l,jl x)/\(gH l).length<=l.length:=by
 refine⟨λx b=>?_,by unfold gH;rw[cz];exact dm _ _⟩;obtain⟨d,a,rfl⟩:=cF.1 b;have:=Du.rng (h d (cO.1 a).1);constructor<;>omega
def ag5(n:Nat):(madeCells (zp JS).toArray (n*4)).toList=(List.replicate n JS).flatMap zp:=by
 unfold madeCells;rw[Array.toList_map,Array.toList_range];induction n with
 |zero=>rfl
 |succ n a=>
  have e:(n+1)*4=n*4+1+1+1+1:=qZ;rw[e,oR,oR,oR,oR,dy,dy,dy,dy,a,List.replicate_succ',eJ];have d:(n*4)%4=0:=qZ;have c:(n*4+1)%4=1:=qZ;have b:(n*4+1+1)%4=2:=qZ;have f:(n*4+1+1+1)%4=3:=qZ;simp[zp,JS,d,c,b,f,df]
def ay9{n:Nat}(g:n<=1000000)(e:∀a c,JW c a (List.replicate n JS)->M0 w c->(∀b,cK a b->w.heap.size<=b)->K a c):
  rx pQ (Ak 260 (gI (n:Int)) (gI (n:Int))) w K:=by
 apply Ll (z:=SG JS) ai8 (eO eSd) qZ qZ qZ cU;rw[show(n:Int).toNat=n from rfl]
 have d:madeCells (SG JS).cells (n*4)=((List.replicate n JS).flatMap zp).toArray:=by
  apply nQ;rw[show(SG JS).cells=(zp JS).toArray from rfl];exact ag5 n
 rw[d];refine e _ _ ?_ lm λb f=>?_
 ·unfold JW;rw[fG];exact⟨by rw[wT rf,fG],.inr ⟨w.heap.size,n,[],rfl,cJ _,by rw[gy,bZ rfl,ew],by simp,rfl⟩⟩
 ·have:b=w.heap.size:=by cases f;rfl
  omega
def DD{x y:Int}{W:Wt_}(h:jl (x - y)):(qE .sub 2 false (gI x) (gI y)).run pQ W=.ok (gI (x - y)) W:=by
 simp[go_sem];rw[uP h.1 h.2]
def zd:∀ix p,(ot ix p).length=p.length
 | [],p=>rfl
 |i::ix,p=>by rw[ot,zd ix,ey]
def yH{t:Int}{l:List Int}(h:(ib t l).2=0):(ib t l).1.length=l.length:=by
 unfold ib at h|-;split at h
 ·cases h
 split at h
 ·cases h
 split at h
 ·cases h
 split at h
 ·grind
 split at h
 ·cases h
 ·rename_i c a e b d
  rw[aZ c,aZ a,aZ e,aZ b,aZ d];unfold tP;rw[zd,cz];unfold pO;rw[cz,cz]
structure StI(w0 W:Wt_)(l:List Du)(i:Nat)(v10 sA sW sP:Vt_):Prop where
 out:JW W v10 ((l.take i).map yp++List.replicate (l.length - i) JS)
 a:wC W sA ((l.take i).map (·.v))
 wn:wC W sW (gH (l.take i))
 ix:Hh W sP ((mU 0 (l.take i)).map λx:Nat=>(x:Int))
 md:M0 w0 W
 nw:∀b,cK v10 b\/cK sA b\/cK sW b\/cK sP b->w0.heap.size<=b
 d1:∀b,cK v10 b->¬cK sA b/\¬cK sW b/\¬cK sP b
 d2:∀b,cK sA b->¬cK sW b/\¬cK sP b
 d3:∀b,cK sW b->¬cK sP b
def NL{fund:Int}(h:Rd w 3 s l.length (l.flatMap IH))(hn:l.length<=100000)(hl:∀d∈l,d.Fit)(hf:jl fund)
  (hK:∀s' w',JW w' s' (lP fund l).1->M0 w w' ->(∀b,cK s' b->w.heap.size<=b)->K (.tuple #[s',gI (lP fund l).2.1,gI (lP fund l).2.2]) w'):Ca pQ 164 #[.int .i64 fund,s] w K:=by
 apply ae5;obtain⟨a,c,hs⟩:=h.isSl;have S:∀{W:Wt_},(builtin .len #[257] 3 #[false] #[s]).run pQ W=.ok (.value (gI (l.length:Int))) W:=λ{W}=>by rw[hs];simp[go_sem]
 have bad:∀e W,lP fund l=([],0,e)->M0 w W->K (.tuple #[.slice none 0 0,gI 0,gI e]) W:=λe W he m=>by
  have hk:=hK (.slice none 0 0) W (by rw[he];exact jo.nil _ _ _) m λb g=>by cases g
  rw[he]at hk;exact hk
 apply mB S;by_cases h64:64<l.length
 ·have T:(64:Int)<(l.length:Int):=qZ;refine qSt1 T ?_;exact bad 3 w (by unfold lP;rw[bZ h64]) lX
 have T:¬(64:Int)<(l.length:Int):=qZ;refine qSf1 T ?_;refine JF h qZ hl λw1 m1=>?_;cases I:pJ fund l with
 |false=>
  refine qSt0 ?_;exact bad 2 w1 (by unfold lP;rw[aZ h64,bZ I]) m1
 |true=>
 refine qSf0 ?_;have E:=I;unfold pJ at E;rw[cL]at E;have hok:=Fz E.1;have hfr:=dR E.2;apply mB S;refine ay9 qZ λF w2 o2 m2 n2=>?_;apply mB S;obtain⟨n,hnd⟩:=dW l.length;have hs1:=m1.size
 refine eS (λst W=>∃(i:Nat) (sA sW sP:Vt_),st=(sA,sW,sP,gI (((l.take i).map iO).sum),gI i,())/\i<=l.length/\StI w W l i F sA sW sP)
  (λst _=>match st.2.2.2.2.1 with| .int _ i=>l.length - i.toNat|_=>0) ⟨0,.slice none 0 0,.slice none 0 0,.slice none 0 0,by simp,qZ,?_⟩ ?_
 ·refine⟨by simpa using o2,jo.nil _ _ _,jo.nil _ _ _,jo.nil _ _ _,m1.trans m2,λb g=>?_,λb g=>⟨λh=>(by cases h),λh=>(by cases h),λh=>(by cases h)⟩,λb g=>(by cases g),λb g=>(by cases g)⟩;rcases g with g|g|g|g
  ·have:=n2 b g;omega
  ·cases g
  ·cases g
  ·cases g
 rintro⟨sA,sW,sP,_,_,_⟩ W ⟨i,sA0,sW0,sP0,⟨⟩,hi,t⟩ KN hKN;unfold OY;intro _;have hokT:∀d∈l.take i,d.ok=true:=λd hd=>hok d (ek hd);have hmb:=LR hokT;have htl:(l.take i).length<=64:=by rw[cZ];omega
 by_cases hlt:i<l.length
 ·have hlt' :(i:Int)<(l.length:Int):=qZ;refine qSt1 hlt' ?_;obtain⟨p,e1,e2⟩:=ak3 (h.mod t.md eQ) hlt;refine cI e1 (cI e2 ?_);obtain⟨wv,w3,v1,v2,v3,v4⟩:=UU l[i] W;obtain⟨q,hq⟩:=dW W.heap.size;rw[<-hq]at v1 v2 v3;refine cI v1 (ir v2 ?_);obtain⟨d,hd⟩:=dW (l[i]);rw[<-hd]at v3;have hdl:d∈l:=by rw[hd];exact cC hlt
  have hdr:=Du.rng (hok d hdl);have O:l.take (i+1)=l.take i++[d]:=by rw[hd];exact eA hlt
  unfold IH at v3
  have u:∀b,cK F b\/cK sA b\/cK sW b\/cK sP b->b<q:=λb g=>by
   rw[hq];rcases g with g|g|g|g
   ·exact t.out.lt g
   ·exact t.a.lt g
   ·exact t.wn.lt g
   ·exact t.ix.lt g
  have hq3:=cB v3;refine qS0 ?_;refine qS1 v3 ?_;have own3:=t.a.mod v4 eQ;refine vK (x:=d.v) (f:=wz) zU (eO Uy) (λ_=>rfl) xy rfl own3 (by rw[cz];omega) qZ λY w4 o4 m4 n4=>?_;have c4:=m4.hpk v3 λg=>by have:=u _ (.inr (.inl g));omega
  have out4:JW w4 F _:=(t.out.mod v4 eQ).mod m4 λb g j=>(t.d1 b g).1 j;have wn4:wC w4 sW _:=(t.wn.mod v4 eQ).mod m4 λb g j=>(t.d2 b j).1 g;have ix4:Hh w4 sP _:=(t.ix.mod v4 eQ).mod m4 λb g j=>(t.d2 b j).2 g;have v:∀b,cK Y b->cK sA b\/q<b:=λb g=>(n4 b g).imp id λ_=>by omega
  refine qS0 ?_;refine qS1 c4 ?_;refine qS0 ?_;refine qS1 c4 ?_;refine qS0 ?_;refine qS1 c4 ?_;apply cx (gI (d.cash+d.v)) w4 (by simp[go_sem];rw[wI_]);apply cx (SG ⟨d.acct,d.cash+d.v,false,0⟩) w4 (by simp[go_sem,SG,zp]);have hol:((l.take i).map yp++List.replicate (l.length - i) JS).length=l.length:=by rw[cD,cz,cZ,fG];omega
  obtain⟨b,hbin,f1,g1⟩:=out4.el (i:=i) qZ;apply cI (f1 _);obtain⟨-,-,-,-,t1⟩:=g1 _ _ out4 qZ;obtain⟨w5,s5,o5,m5⟩:=t1 ⟨d.acct,d.cash+d.v,false,0⟩;apply ir s5
  have U:((l.take i).map yp++List.replicate (l.length - i) JS).set i (yp d)=(l.take (i+1)).map yp++List.replicate (l.length - (i+1)) JS:=by
   have e1:=Cg (A:=l.map yp) (z:=JS) (n:=l.length) (by simp) hlt;rw[eL,<-hd,<-List.map_take,<-List.map_take]at e1;exact e1
  refine dK.at (λst W' =>st=(gI (((l.take (i+1)).map iO).sum),())/\JW W' F ((l.take (i+1)).map yp++List.replicate (l.length - (i+1)) JS)/\de (cK F) w4 W') ?_ ?_
  ·obtain⟨g2,t2,t3,-,-⟩:=g1 _ _ o5 (by rw[ey];omega);rw[gV]at g2;replace g2:(iL 2 (pt b (i*4+1))).run pQ w5=.ok (gI (d.cash+d.v)) w5:=g2;apply cI (f1 _);refine qS1 cS ?_;apply cI g2;have hms:((l.take (i+1)).map iO).sum=((l.take i).map iO).sum+iO d:=by rw[O];simp
   by_cases C:d.cash+d.v<0
   ·refine qSt1 C ?_;apply cI (f1 _);refine qS1 cS ?_;apply cI g2;have hdm:iO d= -(d.cash+d.v):=by unfold iO;rw[bZ C]
    apply cI (DD (W:=w5) ⟨qZ,qZ⟩);apply cI (f1 _);refine qS1 cS ?_;obtain⟨w6,s6,o6,Q⟩:=t2 0;apply ir s6;obtain⟨-,-,t4,-,-⟩:=g1 _ _ o6 (by rw[ey,ey];omega);apply cI (f1 _);refine qS1 cS ?_;obtain⟨w7,s7,o7,m7⟩:=t4 true;apply ir s7;refine⟨by rw[hms,hdm];congr 2,?_,(m5.trans Q).trans m7⟩;have e:yp d=⟨d.acct,0,true,0⟩:=by unfold yp;rw[bZ C]
    rw[<-U,e];simp only[gV,nt]at o7;exact o7
   ·refine qSf1 C ?_;have hdm:iO d=0:=by unfold iO;rw[aZ C]
    refine⟨by rw[hms,hdm,ft],?_,m5⟩;have e:yp d=⟨d.acct,d.cash+d.v,false,0⟩:=by unfold yp;rw[aZ C]
    rw[<-U,e];exact o5
  rintro _ W5 ⟨rfl,o6,Q⟩;unfold QC;intro _;have c6:=Q.hpk c4 λg=>by have:=u _ (.inl g);omega
  have wn6:=wn4.mod Q λb g j=>(t.d1 b j).2.1 g;have ix6:=ix4.mod Q λb g j=>(t.d1 b j).2.2 g
  have a6:=o4.mod Q λb g j=>by
   rcases v b g with r|r
   ·exact(t.d1 b j).1 r
   ·have:=u _ (.inl j);omega
  have hA1:(l.take (i+1)).map (·.v)=(l.take i).map (·.v)++[d.v]:=by rw[O];simp
  rw[<-hA1]at a6;have M6:=((t.md.trans v4).on m4 λb g=>.inr (t.nw b (.inr (.inl g)))).on Q λb g=>.inr (t.nw b (.inl g));have hs46:=Q.size;have hs34:=m4.size;have hqn:w.heap.size<=q:=by rw[hq];exact t.md.size
  refine qS0 ?_;refine qS1 c6 ?_;by_cases D:0<d.v
  ·refine qSt1 D ?_;have hwl:(gH (l.take i)).length<=64:=by have:=(ao3 hokT).2;omega
   have hil:((mU 0 (l.take i)).map λx:Nat=>(x:Int)).length<=64:=by rw[cz,vZ];exact hwl
   refine vK (x:=(i:Int)) (f:=wz) LK (eO Zr) (λ_=>rfl) xy rfl ix6 qZ qZ λsP' w8 o8 Z n8=>?_;have X:∀b,cK sP' b->cK sP b\/w4.heap.size<=b:=λb g=>(n8 b g).imp id λ_=>by omega
   have c8:=Z.hpk c6 λg=>by have:=u _ (.inr (.inr (.inr g)));omega
   refine qS0 ?_;refine qS1 c8 ?_;have wn8:=wn6.mod Z λb g j=>t.d3 b g j;refine vK (x:=d.v) (f:=wz) zU (eO Uy) (λ_=>rfl) xy rfl wn8 qZ qZ λsW' w9 o9 m9 n9=>?_;apply qSj i;have hs8:=Z.size;have hW' :=n9;have hA4:∀b,cK Y b->b<w4.heap.size:=λb g=>o4.lt g;have hP8:∀b,cK sP' b->b<w8.heap.size:=λb g=>o8.lt g;refine hKN _ _ ⟨i+1,Y,sW',sP',rfl,qZ,?_,?_,?_,?_,?_,?_,?_,?_,?_⟩ (by show l.length - (((i+1:Nat):Int)).toNat<l.length - ((i:Int)).toNat;omega)
   ·exact(o6.mod Z λb g j=>(t.d1 b g).2.2 j).mod m9 λb g j=>(t.d1 b g).2.1 j
   ·refine(a6.mod Z λb g j=>?_).mod m9 λb g j=>?_
    ·rcases v b g with r|r
     ·exact(t.d2 b r).2 j
     ·have:=u _ (.inr (.inr (.inr j)));omega
    ·rcases v b g with r|r
     ·exact(t.d2 b r).1 j
     ·have:=u _ (.inr (.inr (.inl j)));omega
   ·have e:gH (l.take (i+1))=gH (l.take i)++[d.v]:=by rw[O,ES,bZ D]
    rw[e];exact o9
   ·have e:(mU 0 (l.take (i+1))).map (λx:Nat=>(x:Int))=(mU 0 (l.take i)).map (λx:Nat=>(x:Int))++[(i:Int)]:=by
     rw[O,Cu,bZ D,dy,cZ,eU,fS hi];rfl
    rw[e];refine o8.mod m9 λb g j=>?_;rcases X b g with r|r
    ·exact t.d3 b j r
    ·have:=u _ (.inr (.inr (.inl j)));omega
   ·exact(M6.on Z λb g=>.inr (t.nw b (.inr (.inr (.inr g))))).on m9 λb g=>.inr (t.nw b (.inr (.inr (.inl g))))
   ·intro b g;rcases g with g|g|g|g
    ·exact t.nw b (.inl g)
    ·rcases v b g with r|r
     ·exact t.nw b (.inr (.inl r))
     ·omega
    ·rcases hW' b g with r|r
     ·exact t.nw b (.inr (.inr (.inl r)))
     ·omega
    ·rcases X b g with r|r
     ·exact t.nw b (.inr (.inr (.inr r)))
     ·omega
   ·intro b g;have hbq:=u b (.inl g);refine⟨λB=>?_,λB=>?_,λB=>?_⟩
    ·rcases v b B with r|r
     ·exact(t.d1 b g).1 r
     ·omega
    ·rcases hW' b B with r|r
     ·exact(t.d1 b g).2.1 r
     ·omega
    ·rcases X b B with r|r
     ·exact(t.d1 b g).2.2 r
     ·omega
   ·intro b g;have hb4:=hA4 b g;refine⟨λB=>?_,λB=>?_⟩
    ·rcases hW' b B with r|r
     ·rcases v b g with J|J
      ·exact(t.d2 b J).1 r
      ·have:=u _ (.inr (.inr (.inl r)));omega
     ·omega
    ·rcases X b B with r|r
     ·rcases v b g with J|J
      ·exact(t.d2 b J).2 r
      ·have:=u _ (.inr (.inr (.inr r)));omega
     ·omega
   ·intro b g B;have h8:=hP8 b B;rcases hW' b g with r|r
    ·rcases X b B with J|J
     ·exact t.d3 b r J
     ·have:=u _ (.inr (.inr (.inl r)));omega
    ·omega
  ·refine qSf1 D ?_;apply qSj i;have hA4:∀b,cK Y b->b<w4.heap.size:=λb g=>o4.lt g;refine hKN _ _ ⟨i+1,Y,sW,sP,rfl,qZ,o6,a6,?_,?_,M6,?_,?_,?_,t.d3⟩ (by show l.length - (((i+1:Nat):Int)).toNat<l.length - ((i:Int)).toNat;omega)
   ·have e:gH (l.take (i+1))=gH (l.take i):=by rw[O,ES,aZ D,ew]
    rw[e];exact wn6
   ·have e:mU 0 (l.take (i+1))=mU 0 (l.take i):=by rw[O,Cu,aZ D,ew]
    rw[e];exact ix6
   ·intro b g;rcases g with g|g|g|g
    ·exact t.nw b (.inl g)
    ·rcases v b g with r|r
     ·exact t.nw b (.inr (.inl r))
     ·omega
    ·exact t.nw b (.inr (.inr (.inl g)))
    ·exact t.nw b (.inr (.inr (.inr g)))
   ·intro b g;have hbq:=u b (.inl g);refine⟨λB=>?_,(t.d1 b g).2⟩;rcases v b B with r|r
    ·exact(t.d1 b g).1 r
    ·omega
   ·intro b g;refine⟨λB=>?_,λB=>?_⟩
    ·rcases v b g with J|J
     ·exact(t.d2 b J).1 B
     ·have:=u _ (.inr (.inr (.inl B)));omega
    ·rcases v b g with J|J
     ·exact(t.d2 b J).2 B
     ·have:=u _ (.inr (.inr (.inr B)));omega
 ·obtain rfl:i=l.length:=qZ;refine qSf0 ?_;obtain⟨j1,j2,j3,j4,j5,j6,j7,j8,j9⟩:=t;rw[cN]at j1 j2 j3 j4 hmb;rw[mg,List.replicate_zero,ew]at j1;rw[cN];apply E6 j2.rd (by rw[cz];omega) (λx B=>by obtain⟨d,hd,rfl⟩:=cF.1 B;exact(hl d hd).2.2);refine qS0 ?_;refine qS0 ?_;refine dK.at (λst W' =>st=(.bool (decide ((tN (l.map (·.v))).2≠0\/(tN (l.map (·.v))).1≠0)),())/\W' =W) ?_ ?_
  ·by_cases hc:(tN (l.map (·.v))).2=0
   ·refine qSf1 hc ?_;by_cases hc2:(tN (l.map (·.v))).1=0
    ·refine qS1 hc2 ?_;exact⟨by rw[ej (λh=>h.elim (λh=>h hc) (λh=>h hc2))],rfl⟩
    ·refine qSv1 (.bool true) hc2 ?_;exact⟨by rw[db (.inr hc2)],rfl⟩
   ·refine qSt1 hc ?_;exact⟨by rw[db (.inl hc)],rfl⟩
  rintro _ W' ⟨rfl,rfl⟩;unfold Qb;intro _;by_cases L:(tN (l.map (·.v))).2≠0\/(tN (l.map (·.v))).1≠0
  ·rw[qo L];exact bad 130 W' (by unfold lP;rw[aZ h64,aZ (by rw[I];simp),bZ L]) j5
  rw[DN L];obtain⟨M,hM⟩:=dW ((l.map iO).sum)
  have G:lP fund l=if(ib (M - min fund M) (gH l)).2≠0 then([],0,(ib (M - min fund M) (gH l)).2)else(kS (mU 0 l) (ib (M - min fund M) (gH l)).1 (l.map yp),fund - min fund M,0):=by
   unfold lP;rw[aZ h64,aZ (by rw[I];simp),aZ L,hM]
  rw[<-hM]at hmb|-;refine qN0 ?_;have hmin:0<=min fund M/\min fund M<=fund/\min fund M<=M:=qZ;apply cI (DD (W:=W') ⟨qZ,qZ⟩);have hwr:=ao3 hok;refine HF j3.rd hwr.1 ⟨qZ,qZ⟩ qZ λH w6 o6 Q n6=>?_;have M6:=j5.trans Q;obtain⟨R,hR⟩:=dW (ib (M - min fund M) (gH l));rw[<-hR]at o6 G|-;obtain⟨va,vc,hva,-⟩:=o6.isSl;apply cx H w6 (by rw[hva];simp[go_sem]);refine qS0 ?_;by_cases N:R.2=0
  case neg=>
   refine qSt1 N ?_;exact bad R.2 w6 (by rw[G,bZ N]) M6
  refine qSf1 N ?_;rw[aZ (by simpa using N)]at G;have hRl:R.1.length=(gH l).length:=by rw[hR]at N|-;exact yH N
  have hal:=vZ l 0;obtain⟨pa,pc,hpa,-⟩:=j4.isSl;apply jm (gI ((mU 0 l).length:Int)) w6 (by rw[hpa];simp[go_sem]);have hn6:∀b,cK H b->¬cK F b:=λb g j=>by have:=n6 b g;have:=j1.lt j;omega
  refine eS (λst W2=>∃(k:Nat) (o:List Sd),st=(gI k,())/\k<=(mU 0 l).length/\JW W2 F o/\kS ((mU 0 l).drop k) (R.1.drop k) o=kS (mU 0 l) R.1 (l.map yp)/\o.length=l.length/\Hh W2 sP ((mU 0 l).map λx:Nat=>(x:Int))/\wC W2 H R.1/\M0 w W2)
   (λst _=>match st.1 with| .int _ k=>(mU 0 l).length - k.toNat|_=>0) ⟨0,_,rfl,qZ,j1.mod Q eQ,rfl,by rw[cz],j4.mod Q eQ,o6,M6⟩ ?_
  rintro⟨_,_⟩ W7 ⟨k,o,⟨⟩,hk,q1,q2,q3,q4,q5,q6⟩ KM hKM;unfold Su;intro _;by_cases V:k<(mU 0 l).length
  ·refine qSt1 V ?_;obtain⟨y,hy⟩:=dW ((mU 0 l)[k])
   have hyb:y<o.length:=by
    have:=zv l 0 y (by rw[hy];exact cC _);omega
   obtain⟨p1,f1,g1⟩:=q4.el (i:=k) (by rw[cz];exact V);apply cI (f1 W7);have hly:=(g1 _ _ q4 (by rw[cz];exact V)).1;rw[eL,<-hy]at hly;apply cI hly;obtain⟨p2,f2,g2⟩:=q5.el (i:=k) qZ;have hkR:k<R.1.length:=qZ;obtain⟨P,hP⟩:=dW (R.1[k]);have hlp:=λ(W:Wt_) (h:wC W H R.1)=>(g2 W _ h hkR).1;rw[<-hP]at hlp;refine cI (f2 .i64 W7) (cI (hlp _ q5) ?_);obtain⟨b,hbin,f3,g3⟩:=q1.el (i:=y) hyb;apply cI (f3 _);refine qS1 cS ?_;obtain⟨-,-,-,t3,-⟩:=g3 _ _ q1 hyb;obtain⟨w8,s8,o8,Z⟩:=t3 P;apply ir s8;have r8:=q5.mod Z λb g j=>hn6 b g j;have md:M0 w8 w8.drew:=mP;have o9:=o8.mod md eQ;have r9:=r8.mod md eQ;have i9:=(q4.mod Z λb g j=>(j7 b j).2.2 g).mod md eQ;have M9:=(q6.on Z λb g=>.inr (j6 b (.inl g))).trans md;generalize w8.drew=w9 at md o9 r9 i9 M9|-;refine dw f3 (qPv1 (pt b (y*4+1)) cS ?_);obtain⟨c1,t1,-,-,-⟩:=g3 _ _ o9 (by rw[ey];exact hyb);rw[gV]at c1;replace c1:(iL 2 (pt b (y*4+1))).run pQ w9=.ok (gI o[y].cash) w9:=c1;refine dp c1 (dw (λW=>f2 .i64 W) (dp (hlp _ r9) ?_));refine qP0 ?_;refine dw f3 (qPv1 (pt b (y*4+1)) cS ?_);obtain⟨wa,sa,oa,ma⟩:=t1 (IntKind.i64.wrap (o[y].cash - P));apply ir sa;apply qSj k;refine hKM _ _ ⟨k+1,_,rfl,qZ,oa,?_,by rw[ey,ey];exact q3,i9.mod ma λb g j=>(j7 b j).2.2 g,r9.mod ma λb g j=>hn6 b g j,M9.on ma λb g=>.inr (j6 b (.inl g))⟩ (by show(mU 0 l).length - (((k+1:Nat):Int)).toNat<(mU 0 l).length - ((k:Int)).toNat;omega);rw[<-q2];have d1:(mU 0 l).drop k=y::(mU 0 l).drop (k+1):=by rw[hy];exact(gK V).symm
   have d2:R.1.drop k=P::R.1.drop (k+1):=by rw[hP];exact(gK hkR).symm
   rw[d1,d2,kS,cE hyb];simp only[gV,nt]
  ·have hkl' :k=(mU 0 l).length:=qZ;refine qSf1 V ?_;apply cI (DD (W:=W7) ⟨qZ,qZ⟩)
   have hfin:o=kS (mU 0 l) R.1 (l.map yp):=by
    rw[<-q2,hkl',fg (cJ _),kS];intro _ _ _ _ h;cases h
   rw[G,<-hfin]at hK;exact hK F W7 q1 q6 λb g=>j6 b (.inl g)
structure Hd where
 acct:Int
 q:Int
def EH(d:Hd):List Value:=[.int .u32 d.acct,gI d.q]
def UC(d:Hd):Value:=.agg (EH d).toArray
def E9(d:Hd):(EH d).length=2:=rfl
def LS(d:Hd):(EH d).all (·.oneCell')=true:=rfl
def XV:Tryz.prog.underlying 288=some (.slice 290):=cU
def eHd:lN pQ 290 2 16=true:=cU
abbrev HdS(w:Wt_)(sl:Vt_)(l:List Hd):Prop:=jo w 290 2 sl l.length (l.flatMap EH)
def Hd.Fit(d:Hd):Prop:=pL d.acct/\jl d.q
def zW:Int->List Hd->Bool
 |_,[]=>true
 |last,d::l=>decide (last<d.acct)&& amongB d.q (-10000000) 10000000&& zW d.acct l
def zt(n:Int):Int:=max n (-n)
def rQ(q n:Int):Int:=if decide (0<n)=decide (0<q)then 0 else zt n
def vU(l:List (Hd×Int)):List Hd:=(l.filter λx=>decide (0<x.2)).map λx=>⟨x.1.acct,x.2⟩
def qT(q:Int)(l:List Hd):List Hd×Int:=
 if 64<l.length then([],3)
 else if q=0\/amongB q (-10000000) 10000000=false\/zW 0 l=false then([],2)
 else if(l.map λd=>rQ q d.q).sum<zt q then([],7)
 else if(ib (zt q) (l.map λd=>rQ q d.q)).2≠0 then([],(ib (zt q) (l.map λd=>rQ q d.q)).2)
 else(vU (l.zip (ib (zt q) (l.map λd=>rQ q d.q)).1),0)
def Ti{l:List Hd}(h:Rd w 2 s l.length (l.flatMap EH)){i:Nat}(hi:i<l.length):
  ∃b a,(∀W,(iX 288 s (gI (i:Int))).run pQ W=.ok (pt b a) W)/\(iL 290 (pt b a)).run pQ w=.ok (UC l[i]) w/\(iL 23 (pt b a)).run pQ w=.ok (gU l[i].acct) w:=by
 obtain⟨b,a,g,c,f,j⟩:=h.item E9 hi rfl;obtain⟨C,e,fz,hC,d⟩:=j.get;have g0:=d 0 (gU l[i].acct) rfl;have g1:=d 1 (gI l[i].q) rfl;simp only[jU,dS]at g0 g1;exact⟨b,a+i*2,λW=>by rw[c];simp[go_sem,hi,cS,XV],by simp[go_sem,fy hC,g0,g1,UC,EH],by simp[go_sem,fy hC,g0]⟩
def O0(d:Hd)(w:Wt_):∃a c,(iA 290 true (.tuple #[])).run pQ w=.ok (pt w.heap.size 0) a/\(iS 290 (pt w.heap.size 0) (UC d)).run pQ a=.ok () c/\hC c w.heap.size (EH d).toArray 290/\M0 w c:=by
 obtain⟨a,b⟩:=dW (w.alloc (.cells #[.int .u32 0,gI 0] 290));have f:M0 w a:=by rw[b];exact(de.refl _ w).alloc _
 have e:hC a w.heap.size #[.int .u32 0,gI 0] 290:=by rw[b];simp[go_sem]
 refine⟨a,(a.setCell ⟨w.heap.size,0,none⟩ (gU d.acct)).setCell ⟨w.heap.size,1,none⟩ (gI d.q),by rw[b];simp[go_sem],by simp[go_sem,e,UC,EH],by simp[go_sem,e,EH],?_⟩;exact f.on (((de.refl (λx=>x=w.heap.size) a).sc).sc) λx g=>gz
def Um{l:List Hd}(h:Rd w 2 s l.length (l.flatMap EH))(Q:l.length<=1000000)(H:∀d∈l,d.Fit)
  (A:∀v,M0 w v->K (.bool (zW 0 l)) v):Ca pQ 219 #[s] w K:=by
 apply aj2;obtain⟨a,c,J⟩:=h.isSl;apply jm (gI (l.length:Int)) w (by rw[J];simp[go_sem])
 refine eS (λst W=>∃(i:Nat) (last:Int) (x:Vt_),i<=l.length/\st=(x,gU last,gI i,())/\M0 w W/\zW 0 l=zW last (l.drop i))
  (λst _=>match st.2.2.1 with| .int _ i=>l.length - i.toNat|_=>0) ⟨0,0,_,qZ,rfl,lX,rfl⟩ ?_
 rintro⟨_,_,_,_⟩ W ⟨i,last,x,P,⟨⟩,n,e⟩ O o;unfold QB;intro _;by_cases j:i<l.length
 ·have k:(i:Int)<(l.length:Int):=qZ;refine qSt1 k ?_;obtain⟨b,G,L,F,-⟩:=Ti (h.mod n eQ) j;refine cI (L _) (cI F ?_);obtain⟨N,M,B,C,g,I⟩:=O0 l[i] W;obtain⟨q,E⟩:=dW W.heap.size;rw[<-E]at B C g;refine cI B (ir C ?_);obtain⟨d,u⟩:=dW (l[i]);rw[<-u]at g;have p:=H d (by grind);have f:l.drop i=d::l.drop (i+1):=by rw[u];exact(gK j).symm
  rw[f,zW]at e;unfold EH at g;have D:=n.trans I;refine dK.at (λst t=>st=(.bool (!(decide (last<d.acct)&& amongB d.q (-10000000) 10000000)),())/\t=M) ?_ ?_
  ·refine qS0 ?_;refine qS1 g ?_;by_cases z:d.acct<=last
   ·refine qSt1 z ?_
    exact⟨by
      have:¬last<d.acct:=qZ;simp[this],rfl⟩
   ·refine qSf1 z ?_;have r:last<d.acct:=qZ;refine qS0 ?_;refine qS1 g ?_;apply lH p.2 qZ;refine qS0 ?_;exact⟨by simp[r],rfl⟩
  rintro _ t ⟨rfl,rfl⟩;unfold PX;intro _;cases y:(decide (last<d.acct)&& amongB d.q (-10000000) 10000000)with
  |false=>
   rw[cy,bZ (show(!false)=true from rfl)];rw[y,jp]at e;have m:=A _ D;rw[e]at m;exact m
  |true=>
   rw[cy,aZ (by simp)];rw[y,oo]at e;refine qS0 ?_;refine qS1 g ?_;apply cx (gI ((i+1:Nat):Int)) t (by simp[go_sem];rw[wI_]);exact o _ _ ⟨i+1,_,_,qZ,rfl,D,e⟩ (by grind)
 ·obtain rfl:i=l.length:=qZ;refine qSf0 ?_;rw[fg (cJ _),zW]at e;have m:=A _ n;rw[e]at m;exact m
def CU(h: -9223372036854775808<n/\n<9223372036854775808)(a:K (gI (zt n)) w):Ca pQ 220 #[.int .i64 n] w K:=by
 apply ak8;apply cx (gI (-n)) w (by simp[go_sem];rw[wI_]);exact jm (gI (zt n)) w (by simp[go_sem,zt]) a
def If{p f:Nat}{T:TypeId}(h: -9223372036854775808<n/\n<9223372036854775808)(b:hC w p #[.int .i64 q] T)(d:hC w f #[.func (.func 220) #[] #[]] 198)
  (a:K (gI (rQ q n)) w):Ca pQ 221 #[.int .i64 n,.pointer (some ⟨p,0,none⟩),.pointer (some ⟨f,0,none⟩)] w K:=by
 apply ZY;refine qS0 ?_;refine qS1 b ?_;refine qS0 ?_;apply cx (.bool (decide (decide (0<n)=decide (0<q)))) w (by by_cases g:0<n<;>by_cases e:0<q<;>simp[go_sem,g,e]);unfold rQ at a;by_cases c:decide (0<n)=decide (0<q)
 ·rw[qo c];rw[bZ c]at a;exact a
 ·rw[cy,aZ (by grind)];rw[aZ c]at a;refine qS1 d ?_;simp only[kE];exact CU h a
def HA:∀{l:List Hd} {last:Int},zW last l=true->∀d∈l,-10000000<=d.q/\d.q<=10000000
 |d::l,last,h,x,a=>by
  rw[zW,cL,cL]at h;rcases cH.1 a with rfl|a
  ·exact dR h.1.2
  ·exact HA h.2 x a
def KH(h: -10000000<=n/\n<=10000000):0<=rQ q n/\rQ q n<=10000000:=by
 unfold rQ zt;split<;>omega
def Mv{l:List Hd}(h:Rd w 2 s l.length (l.flatMap EH))(hn:l.length<=100000)(hl:∀d∈l,d.Fit)(Y:jl q)
  (hK:∀s' w',HdS w' s' (qT q l).1->M0 w w' ->(∀b,cK s' b->w.heap.size<=b)->K (.tuple #[s',gI (qT q l).2]) w'):Ca pQ 183 #[.int .i64 q,s] w K:=by
 apply ag6;obtain⟨a,c,hs⟩:=h.isSl;obtain⟨n0,Z⟩:=dW w.heap.size;have m1:M0 w (w.alloc (.cells #[.int .i64 q] 2)):=lm;have b1:hC (w.alloc (.cells #[.int .i64 q] 2)) n0 #[.int .i64 q] 2:=by rw[Z];simp[go_sem]
 apply cx (pt n0 0) (w.alloc (.cells #[.int .i64 q] 2)) (by rw[Z];simp[go_sem]);generalize w.alloc (.cells #[.int .i64 q] 2)=w1 at m1 b1|-;have F:∀{W:Wt_},(builtin .len #[288] 3 #[false] #[s]).run pQ W=.ok (.value (gI (l.length:Int))) W:=λ{W}=>by rw[hs];simp[go_sem]
 have C:∀e W,qT q l=([],e)->M0 w W->K (.tuple #[.slice none 0 0,gI e]) W:=λe W he m=>by
  have hk:=hK (.slice none 0 0) W (by rw[he];exact jo.nil _ _ _) m λb g=>by cases g
  rw[he]at hk;exact hk
 apply mB F;by_cases J:64<l.length
 ·have u:(64:Int)<(l.length:Int):=qZ;refine qSt1 u ?_;exact C 3 w1 (by unfold qT;rw[bZ J]) m1
 have u:¬(64:Int)<(l.length:Int):=qZ;refine qSf1 u ?_;have hd1:=h.mod m1 eQ;refine dK.at (λst W=>st=(.bool (decide (q=0\/amongB q (-10000000) 10000000=false\/zW 0 l=false)),())/\M0 w1 W) ?_ ?_
 ·refine qS1 b1 ?_;by_cases I:q=0
  ·refine qSt1 I ?_;exact⟨by grind,lX⟩
  ·refine qSf1 I ?_;refine qS1 b1 ?_;apply lH Y qZ;cases P:amongB q (-10000000) 10000000 with
   |false=>
    refine qSt1 P ?_;exact⟨by simp,lX⟩
   |true=>
    refine qSf1 P ?_;refine Um hd1 qZ hl λE m2=>?_;refine qS0 ?_;exact⟨by cases zW 0 l<;>simp[I],m2⟩
 rintro _ E ⟨rfl,m2⟩;unfold Sz;intro _;by_cases n:q=0\/amongB q (-10000000) 10000000=false\/zW 0 l=false
 ·rw[qo n];exact C 2 E (by unfold qT;rw[aZ J,bZ n]) (m1.trans m2)
 rw[cy,aZ (by grind)]
 have hqr: -10000000<=q/\q<=10000000:=by
  have:amongB q (-10000000) 10000000=true:=by
   cases P:amongB q (-10000000) 10000000 with
   |true=>rfl
   |false=>exact absurd (.inr (.inl P)) n
  exact dR this
 have hds:zW 0 l=true:=by
  cases P:zW 0 l with
  |true=>rfl
  |false=>exact absurd (.inr (.inr P)) n
 have v:=HA hds;obtain⟨D,hf0⟩:=dW E.heap.size;have m3:M0 E (E.alloc (.cells #[.nilFunc] 198)):=lm;have b3:hC (E.alloc (.cells #[.nilFunc] 198)) D #[.nilFunc] 198:=by rw[hf0];simp[go_sem]
 apply cx (pt D 0) (E.alloc (.cells #[.nilFunc] 198)) (by rw[hf0];simp[go_sem]);generalize E.alloc (.cells #[.nilFunc] 198)=L at m3 b3|-;apply pH (L.setCell ⟨D,0,none⟩ (.func (.func 220) #[] #[])) (by simp[go_sem];rw[run_store _ _ _ _ _ rfl];simp[go_sem,b3]);have m4:de (λx=>x=D) L (L.setCell ⟨D,0,none⟩ (.func (.func 220) #[] #[])):=(de.refl (λx=>x=D) L).sc;have b4:hC (L.setCell ⟨D,0,none⟩ (.func (.func 220) #[] #[])) D #[.func (.func 220) #[] #[]] 198:=by simp[go_sem,b3]
 generalize L.setCell ⟨D,0,none⟩ (.func (.func 220) #[] #[])=w4 at m4 b4|-;have M24:M0 E w4:=m3.on m4 λx hx=>gz;have M4:=(m1.trans m2).trans M24;have c4:=(m2.trans M24).hpk b1 id;apply mB F
 refine eS (λst W=>∃(i:Nat) (O:Vt_),st=(O,gI (((l.take i).map λd=>rQ q d.q).sum),gI i,())/\i<=l.length/\wC W O ((l.take i).map λd=>rQ q d.q)/\M0 w4 W/\∀b,cK O b->w4.heap.size<=b)
  (λst _=>match st.2.2.1 with| .int _ i=>l.length - i.toNat|_=>0) ⟨0,.slice none 0 0,by simp,qZ,jo.nil _ _ _,lX,λb g=>(by cases g)⟩ ?_
 rintro⟨O,_,_,_⟩ W ⟨i,sA0,⟨⟩,hi,j1,j2,j3⟩ KN hKN;unfold Rc;intro _
 have H:∀i,0<=((l.take i).map λd=>rQ q d.q).sum/\((l.take i).map λd=>rQ q d.q).sum<=64*10000000:=λi=>by
  have:=vu (l:=(l.take i).map λd=>rQ q d.q) (B:=10000000) λx hx=>by
   obtain⟨d,S,rfl⟩:=cF.1 hx;exact KH (v d (ek S))
  rw[cz,cZ]at this;omega
 by_cases U:i<l.length
 ·have hlt' :(i:Int)<(l.length:Int):=qZ;refine qSt1 hlt' ?_;obtain⟨b,off,e1,e2,-⟩:=Ti ((h.mod M4 eQ).mod j2 eQ) U;refine cI (e1 _) (cI e2 ?_);obtain⟨wv,w5,v1,v2,V,v4⟩:=O0 l[i] W;obtain⟨p,hp0⟩:=dW W.heap.size;rw[<-hp0]at v1 v2 V;refine cI v1 (ir v2 ?_);obtain⟨d,S⟩:=dW (l[i]);rw[<-S]at V;have hdr:=v d (by grind);have htk:l.take (i+1)=l.take i++[d]:=by rw[S];exact eA U
  unfold EH at V;refine qS0 ?_;refine qS1 V ?_;simp only[kE];have J2:=j2.trans v4;apply If ⟨qZ,qZ⟩ (J2.hpk c4 id) (J2.hpk b4 id);have own5:wC w5 O ((l.take i).map λd=>rQ q d.q):=j1.mod v4 eQ;refine vK (x:=rQ q d.q) (f:=wz) zU (eO Uy) (λ_=>rfl) xy rfl own5 (by grind) qZ λsA' G N m6 n6=>?_;have hpA:∀b,cK O b->b<p:=λb g=>by rw[hp0];exact j1.lt g
  have c6:=m6.hpk V λg=>by grind
  have J6:=J2.on m6 λb g=>.inr (j3 b g);refine qS0 ?_;refine qS1 c6 ?_;apply If ⟨qZ,qZ⟩ (J6.hpk c4 id) (J6.hpk b4 id);have X:((l.take (i+1)).map λd=>rQ q d.q).sum=((l.take i).map λd=>rQ q d.q).sum+rQ q d.q:=by rw[htk];simp
  have hb1:=H i;have hb2:=H (i+1);obtain⟨S0,z⟩:=dW (((l.take i).map λd=>rQ q d.q).sum);rw[<-z]at hb1 X|-;apply cx (gI (S0+rQ q d.q)) G (by simp[go_sem];rw[wI_]);apply cx (gI ((i+1:Nat):Int)) G (by simp[go_sem];rw[wI_]);have hs5:=J2.size;refine hKN _ _ ⟨i+1,sA',by rw[X],qZ,?_,J6,λb g=>(n6 b g).elim (j3 b) λh' =>qZ⟩ (by grind);have e:((l.take (i+1)).map λd=>rQ q d.q)=((l.take i).map λd=>rQ q d.q)++[rQ q d.q]:=by rw[htk];simp
  rw[e];exact N
 ·obtain rfl:i=l.length:=qZ;refine qSf0 ?_;have hb0:=H l.length;rw[cN]at j1 hb0|-;have d4:=j2.hpk c4 id;have e4:=j2.hpk b4 id;refine qS1 e4 ?_;refine qS1 d4 ?_;simp only[kE];apply CU ⟨qZ,qZ⟩;obtain⟨S0,z⟩:=dW ((l.map λd=>rQ q d.q).sum);obtain⟨A,hA⟩:=dW (zt q);have hAb:0<=A/\A<=10000000:=by rw[hA];unfold zt;omega
  have MW:=M4.trans j2
  have y:qT q l=if S0<A then([],7)else if(ib A (l.map λd=>rQ q d.q)).2≠0 then([],(ib A (l.map λd=>rQ q d.q)).2)else(vU (l.zip (ib A (l.map λd=>rQ q d.q)).1),0):=by
   unfold qT;rw[aZ J,aZ n,<-z,<-hA]
  rw[<-z,<-hA];by_cases r:S0<A
  ·refine qSt1 r ?_;exact C 7 W (by grind) MW
  refine qSf1 r ?_;rw[aZ r]at y;refine qS1 e4 ?_;refine qS1 d4 ?_;simp only[kE];apply CU ⟨qZ,qZ⟩;rw[<-hA]
  refine HF j1.rd (λx hx=>by
   obtain⟨d,S,rfl⟩:=cF.1 hx;have:=KH (q:=q) (v d S);constructor<;>omega) ⟨qZ,qZ⟩ (by grind) λv76 G N m6 n6=>?_
  obtain⟨R,hR⟩:=dW (ib A (l.map λd=>rQ q d.q));rw[<-hR]at N y|-;obtain⟨va,vc,hva,-⟩:=N.isSl;have M6:=MW.trans m6;apply cx v76 G (by rw[hva];simp[go_sem]);refine qS0 ?_;by_cases t:R.2=0
  case neg=>
   refine qSt1 t ?_;exact C R.2 G (by grind) M6
  refine qSf1 t ?_;rw[aZ (by simpa using t)]at y
  have hRl:R.1.length=l.length:=by
   rw[hR]at t|-;rw[yH t,cz]
  apply jm (gI (R.1.length:Int)) G (by rw[hva];simp[go_sem]);have hzl:(l.zip R.1).length=l.length:=by grind
  have hs6:=M6.size
  refine eS (λst W2=>∃(k:Nat) (M:Vt_),st=(M,gI k,())/\k<=l.length/\HdS W2 M (vU ((l.zip R.1).take k))/\M0 G W2/\∀b,cK M b->G.heap.size<=b)
   (λst _=>match st.2.1 with| .int _ k=>l.length - k.toNat|_=>0) ⟨0,.slice none 0 0,rfl,qZ,jo.nil _ _ _,lX,λb g=>(by cases g)⟩ ?_
  rintro⟨M,_,_⟩ W7 ⟨k,sO0,⟨⟩,hk,q1,Q,q3⟩ KM hKM;unfold Pu;intro _
  have hpl:(vU ((l.zip R.1).take k)).length<=64:=by
   unfold vU;rw[cz];apply dD (dm _ _);rw[cZ];omega
  by_cases hkl:k<l.length
  ·have j:k<R.1.length:=qZ;refine qSt1 j ?_;obtain⟨p2,f2,g2⟩:=N.el (i:=k) j;have r7:wC W7 v76 R.1:=N.mod Q eQ;refine cI (f2 .i64 W7) (cI (g2 _ _ r7 j).1 ?_)
   have T:(l.zip R.1).take (k+1)=(l.zip R.1).take k++[(l[k],R.1[k])]:=by
    rw[eA qZ,List.getElem_zip]
   by_cases o:0<R.1[k]
   ·refine qSt1 o ?_;obtain⟨b,off,e1,-,e3⟩:=Ti ((h.mod M6 eQ).mod Q eQ) hkl;apply cI (e1 _);refine qS1 cS ?_;apply cI e3;apply cx (UC ⟨l[k].acct,R.1[k]⟩) W7 (by simp[go_sem,UC,EH]);refine vK (x:=(⟨l[k].acct,R.1[k]⟩:Hd)) (f:=EH) XV (eO eHd) E9 LS rfl q1 qZ qZ λsO' w8 o8 m8 n8=>?_;apply cx (gI ((k+1:Nat):Int)) w8 (by simp[go_sem];rw[wI_]);have hs7:=Q.size;refine hKM _ _ ⟨k+1,sO',rfl,qZ,?_,Q.on m8 λb g=>.inr (q3 b g),λb g=>(n8 b g).elim (q3 b) λh' =>qZ⟩ (by grind)
    have e:vU ((l.zip R.1).take (k+1))=vU ((l.zip R.1).take k)++[⟨l[k].acct,R.1[k]⟩]:=by
     rw[T];unfold vU;rw[dJ,dy,dI (by simpa using o)];rfl
    rw[e];exact o8
   ·refine qSf1 o ?_;apply cx (gI ((k+1:Nat):Int)) W7 (by simp[go_sem];rw[wI_]);refine hKM _ _ ⟨k+1,M,rfl,qZ,?_,Q,q3⟩ (by grind)
    have e:vU ((l.zip R.1).take (k+1))=vU ((l.zip R.1).take k):=by
     rw[T];unfold vU;rw[dJ,dy,cY (by simpa using o),iz,List.map_nil,ew]
    rw[e];exact q1
  ·have hkn:k=l.length:=qZ;have j:¬k<R.1.length:=qZ;refine qSf1 j ?_;rw[cT qZ]at q1;rw[y]at hK;exact hK M W7 q1 (M6.trans Q) λb g=>by grind
def oQ(l:List Int)(q:Int):Int:=l.foldl (λm s=>max m (-q*s)) 0
def GH(l:List Int)(x q:Int):oQ (l++[x]) q=max (oQ l q) (-q*x):=by
 unfold oQ;rw[kH];rfl
def E3{a b A B:Int}(h: -A<=a/\a<=A)(f: -B<=b/\b<=B): -(A*B)<=a*b/\a*b<=A*B:=by
 have e:0<=A:=qZ;have c:0<=B:=qZ;have d:a.natAbs*b.natAbs<=A.natAbs*B.natAbs:=jE qZ qZ;rw[<-Int.natAbs_mul,<-Int.natAbs_mul]at d;have g:0<=A*B:=lU e c;omega
def Im{s:Vector Int 16}(u:∀x∈s.toList,-10000000<=x/\x<=10000000)(C: -1000000000<=q/\q<=1000000000)
  (t:∀k,M0 w k->K (gI (oQ s.toList q)) k):Ca pQ 111 #[.agg (xD s).toArray,gI q] w K:=by
 apply am8;have m:M0 w (w.alloc (.cells (xD s).toArray 25)):=lm;apply cx (pt w.heap.size 0) (w.alloc (.cells (xD s).toArray 25)) rfl;have j:hC (w.alloc (.cells (xD s).toArray 25)) w.heap.size (xD s).toArray 25:=by simp[go_sem]
 generalize w.alloc (.cells (xD s).toArray 25)=o at m j|-;apply jq (xD s) 15 Y2 Y4 (rh _) (At.all j);have D:s.toList.length=16:=by simp
 refine eS (λst W=>∃i:Nat,i<=16/\st=(gI (oQ (s.toList.take i) q),gI i,())/\W=o)
  (λst _=>match st.2.1 with| .int _ i=>16 - i.toNat|_=>0) ⟨0,qZ,rfl,rfl⟩ ?_
 rintro⟨_,_,_⟩ W ⟨i,E,⟨⟩,rfl⟩ v g;unfold P0;intro _;by_cases d:i<16
 ·have f:(i:Int)<16:=qZ;have c:i<s.toList.length:=qZ;refine qSt1 f ?_;apply cx (gI s.toList[i]!) W (vD uSh Ys Xm Yt d (Fa _ i d));rw[jP s.toList i c];have n:=u _ (cC c);obtain⟨y,l⟩:=dW (s.toList[i]);rw[<-l]at n|-;have p:=E3 (a:= -q) (b:=y) (A:=1000000000) (B:=10000000) qZ n;apply cx (gI (-q)) W (by simp[go_sem];rw[wI_]);obtain⟨z,h⟩:=dW (-q*y);rw[<-h]at p;apply cx (gI z) W (by simp only[go_sem];simp;rw[<-h,wI_]);refine qN0 ?_;apply cx (gI ((i+1:Nat):Int)) W (by simp[go_sem];rw[wI_]);refine g _ _ ⟨i+1,qZ,?_,rfl⟩ (by grind);have e:=eA c;rw[e,GH,<-l,<-h]
 ·obtain rfl:i=16:=qZ;refine qSf0 ?_;have r:=t _ m;have e:s.toList.take 16=s.toList:=cT qZ;rw[e];exact r
def yx(s:Vector Int 16)(q:Int):Int×Int:=
 if s.toList.all (λx=>amongB x (-10000000) 10000000)=false\/amongB q (-1000000000) 1000000000=false then(0,2)else(oQ s.toList q,0)
def Uj{s:Vector Int 16}(z:∀x∈s.toList,jl x)(u:jl q)
  (n:∀p,M0 w p->K (.tuple #[.int .i64 (yx s q).1,gI (yx s q).2]) p):Ca pQ 113 #[.agg (xD s).toArray,gI q] w K:=by
 apply Zp;have l:M0 w (w.alloc (.cells (xD s).toArray 25)):=lm;apply cx (pt w.heap.size 0) (w.alloc (.cells (xD s).toArray 25)) rfl;have j:hC (w.alloc (.cells (xD s).toArray 25)) w.heap.size (xD s).toArray 25:=by simp[go_sem]
 obtain⟨C,o⟩:=dW w.heap.size;rw[<-o]at j|-;generalize w.alloc (.cells (xD s).toArray 25)=r at l j|-;apply jq (xD s) 15 Y2 Y4 (rh _) (At.all j);have D:s.toList.length=16:=by simp
 refine eS (λst W=>∃(i:Nat) (x y:Vt_),i<=16/\st=(x,y,gI i,())/\W=r/\(s.toList.take i).all (λx=>amongB x (-10000000) 10000000)=true)
  (λst _=>match st.2.2.1 with| .int _ i=>16 - i.toNat|_=>0) ⟨0,_,_,qZ,rfl,rfl,rfl⟩ ?_
 rintro⟨_,_,_,_⟩ W ⟨i,x,y,E,⟨⟩,rfl,a⟩ B m;unfold RR;intro _;by_cases f:i<16
 ·have g:(i:Int)<16:=qZ;have c:i<s.toList.length:=qZ;refine qSt1 g ?_;apply cx (gI s.toList[i]!) W (vD uSh Ys Xm Yt f (Fa _ i f));rw[jP s.toList i c];apply lH (z _ (cC c)) qZ;cases k:amongB s.toList[i] (-10000000) 10000000 with
  |false=>
   refine qSt1 k ?_;have d:=n _ l
   have e:yx s q=(0,2):=by
    unfold yx;exact bZ (.inl (nI.2 ⟨_,cC c,by rw[k];simp⟩))
   rw[e]at d;exact d
  |true=>
   refine qSf1 k ?_;apply cx (gI ((i+1:Nat):Int)) W (by simp[go_sem];rw[wI_]);refine m _ _ ⟨i+1,_,_,qZ,rfl,rfl,?_⟩ (by grind);have e:=eA c;rw[e,gj,a,qq,k];rfl
 ·obtain rfl:i=16:=qZ;refine qSf0 ?_;have v:s.toList.take 16=s.toList:=cT qZ;rw[v]at a;apply lH u qZ;cases b:amongB q (-1000000000) 1000000000 with
  |false=>
   refine qSt1 b ?_;have d:=n _ l;have e:yx s q=(0,2):=by unfold yx;rw[bZ (.inr b)]
   rw[e]at d;exact d
  |true=>
   refine qSf1 b ?_;apply jq (xD s) 15 Y2 Y4 (rh _) (At.all j)
   have e:yx s q=(oQ s.toList q,0):=by
    unfold yx;rw[aZ];rintro(h|h)
    ·rw[a]at h;cases h
    ·rw[b]at h;cases h
   refine Im (λx A=>dR (dF.1 a x A)) (dR b) λF t=>?_;have d:=n _ (l.trans t);rw[e]at d;exact d
def Mz(n:Int):Value:=gQ n
def Gq(n:Int):Value:=gI n
def ai3:Tryz.prog.underlying 24=some (.int .u64):=cU
def XT:vB pQ 24 Mz:=vB.int ai3
def Pb:Tryz.prog.underlying 347=some (.map 24 3):=cU
def TK:qw pQ 3=some (gI 0):=cU
def vw(sells:Bool):List Int->List Od->Bool
 |_,[]=>true
 |seen,o::l=>o.may&& (o.buy==sells)&& !seen.contains o.num&& vw sells (o.num::seen) l
def JL{l:List Od}(h:Rd w 5 s l.length (l.flatMap fL))(hn:l.length<=1000000)(hl:∀o∈l,o.Fit)
  (V:∀T,M0 w T->K (.bool (vw sells [] l)) T):Ca pQ 216 #[.bool sells,s] w K:=by
 apply an7;obtain⟨m,u⟩:=dW w.heap.size;have S:M0 w (w.alloc (.map #[] 0)):=lm;have U:fB Mz Gq (w.alloc (.map #[] 0)) m ([]:List (Int×Int)):=by rw[u];exact fB.new w
 apply cx (.map (some m)) (w.alloc (.map #[] 0)) (by rw[u];simp[go_sem]);generalize w.alloc (.map #[] 0)=w1 at S U|-;obtain⟨a,c,hs⟩:=h.isSl;apply jm (gI (l.length:Int)) w1 (by rw[hs];simp[go_sem])
 refine eS (λst W=>∃(i:Nat) (x:Vt_) (L:List (Int×Int)) (seen:List Int),i<=l.length/\st=(x,gI i,())/\M0 w W/\fB Mz Gq W m L/\(∀n,lk L n=if n∈seen then some 1 else none)/\vw sells [] l=vw sells seen (l.drop i))
  (λst _=>match st.2.1 with| .int _ i=>l.length - i.toNat|_=>0) ⟨0,_,[],[],qZ,rfl,S,U,λn=>by simp[lk],rfl⟩ ?_
 rintro⟨_,_,_⟩ W ⟨i,x,L,seen,hi,⟨⟩,F,R,G,j⟩ KN C;unfold Qz;intro _;by_cases k:i<l.length
 ·have z:(i:Int)<(l.length:Int):=qZ;refine qSt1 z ?_;obtain⟨b,D,cap,H,M,hA⟩:=(h.mod F eQ).item gM k rfl;apply cx (pt b (D+i*5)) W (by rw[H];simp[go_sem,k,cS,mH]);apply cI (lM (o:=l[i]) hA);obtain⟨w2,e2,X,m2⟩:=kD W;apply cI e2;obtain⟨q,hq⟩:=dW W.heap.size;rw[<-hq]at X|-;obtain⟨O,e3,A,m3⟩:=jK (o' :=l[i]) X;apply ir e3;obtain⟨o,N⟩:=dW (l[i]);rw[<-N]at A;have p:l.drop i=o::l.drop (i+1):=by rw[N];exact(gK k).symm
  rw[p,vw]at j;have I:M0 W O:=m2.on m3 λb d=>gz;refine dK.at (λst W' =>st=(.bool (!(o.may&& (o.buy==sells)&& !seen.contains o.num)),())/\M0 O W') ?_ ?_
  ·apply cI (lM (o:=o) (At.all A));refine Ab λy e=>?_;have r:=e.hpk A id;unfold fL at r;cases P:o.may with
   |false=>
    refine qSt0 ?_;exact⟨by simp,e⟩
   |true=>
    refine qSf0 ?_;refine qS0 ?_;refine qS1 r ?_;by_cases d:o.buy=sells
    ·apply cx (.bool false) y (by rw[d];cases sells<;>simp[go_sem]);rw[gP];refine qS0 ?_;refine qS1 r ?_;have f:=(R.mod I id).mod e id;apply vr (enc:=Mz) (ev:=Gq) (x:=o.num) (gI 0) Pb XT TK (.inr ⟨m,rfl,f⟩);rw[G];by_cases g:o.num∈seen
     ·rw[bZ g];apply cx (.bool true) y (by simp[go_sem,Gq]);exact⟨by simp[d,g],e⟩
     ·rw[aZ g];refine qS0 ?_;exact⟨by simp[d,g],e⟩
    ·apply cx (.bool true) y (by cases ho2:o.buy<;>cases sells<;>simp_all[go_sem]);rw[kx];exact⟨by simp[d],e⟩
  rintro _ y ⟨rfl,e⟩;unfold QR;intro _;have Q:=(F.trans I).trans e;cases d:(o.may&& (o.buy==sells)&& !seen.contains o.num)with
  |false=>
   rw[cy,bZ (show(!false)=true from rfl)];rw[d,jp]at j;have t:=V _ Q;rw[j]at t;exact t
  |true=>
   rw[cy,aZ (by simp)];rw[d,oo]at j
   have J:o.num ∉ seen:=by
    simp only[cL,Bool.not_eq_true',List.contains_eq_mem,jh]at d;exact d.2
   have r:=e.hpk A id;unfold fL at r;refine qS0 ?_;refine qS1 r ?_;have f:=(R.mod I id).mod e id;apply vr (enc:=Mz) (ev:=Gq) (x:=o.num) (gI 0) Pb XT TK (.inr ⟨m,rfl,f⟩);rw[G,aZ J];apply cx (Gq 1) y (by simp[go_sem,Gq];decide);refine kV (enc:=Mz) (ev:=Gq) (x:=o.num) (v:=1) Pb XT f λw5 E Y Z=>?_;apply cx (gI ((i+1:Nat):Int)) w5 (by simp[go_sem];rw[wI_]);refine C _ _ ⟨i+1,_,_,o.num::seen,qZ,rfl,Q.on Y λb d=>gz,E,λn=>?_,j⟩ (by grind);rw[sn,G];by_cases B:o.num=n
   ·subst B;simp
   ·grind
 ·obtain rfl:i=l.length:=qZ;refine qSf0 ?_;rw[fg (cJ _),vw]at j;have t:=V _ F;rw[j]at t;exact t
structure Fl where
 num:Int
 acct:Int
 qty:Int
def E5(x:Fl):List Value:=[.int .u64 x.num,gU x.acct,gI x.qty]
def LY(x:Fl):(E5 x).length=3:=rfl
def SU(x:Fl):(E5 x).all (·.oneCell')=true:=rfl
def aE9:Tryz.prog.underlying 282=some (.slice 286):=cU
def eFl:lN pQ 286 3 24=true:=cU
abbrev FlS(w:Wt_)(sl:Vt_)(l:List Fl):Prop:=jo w 286 3 sl l.length (l.flatMap E5)
def sC(sells:Bool)(a b:Od):Int:=if sells then b.price - a.price else a.price - b.price
def pB:Int->List Od->Int->List Fl×Int
 |_,[],pr=>([],pr)
 |qty,b::l,pr=>if min qty b.left=0 then([],pr)else(⟨b.num,b.acct,min qty b.left⟩::(pB (qty - min qty b.left) l b.price).1,(pB (qty - min qty b.left) l b.price).2)
def pG(sells:Bool)(qty:Int)(l:List Od):Int×List Fl×Int:=
 if 50<l.length then(0,[],3)
 else if qty<1\/10000000<qty\/vw sells [] l=false then(0,[],2)
 else((pB qty (Srt.stable (TM (sC sells)) l) 0).2,(pB qty (Srt.stable (TM (sC sells)) l) 0).1,0)
def EK:∀{l:List Od} {sells:Bool} {seen:List Int},vw sells seen l=true->∀o∈l,o.may=true
 |o::l,sells,seen,h,x,a=>by
  rw[vw,cL,cL,cL]at h;rcases cH.1 a with rfl|a
  ·exact h.1.1.1
  ·exact EK h.2 x a
def Od.price_bd{o:Od}(h:o.may=true):1<=o.price/\o.price<=10000000:=by
 unfold Od.may amongB MP at h;simp only[cL,dN]at h;omega
def Jy{p:Nat}{T:TypeId}{x y:Od}(c:hC w p #[.bool sells] T)(t:1<=x.price/\x.price<=10000000)(s:1<=y.price/\y.price<=10000000)
  (k:∀h,M0 w h->K (gI (sC sells x y)) h):Ca pQ 218 #[oG x,oG y,.pointer (some ⟨p,0,none⟩)] w K:=by
 apply ao8;obtain⟨e,o,f,n⟩:=vt x w;apply cI o;obtain⟨q,j⟩:=dW w.heap.size;rw[<-j]at f|-;obtain⟨u,l,b,g⟩:=vt y e;apply cI l;obtain⟨r,m⟩:=dW e.heap.size;rw[<-m]at b|-;have d:=g.hpk f id;have M:=n.trans g;have i:=M.hpk c id;unfold fL at d b;have a:=k _ M;unfold sC at a;refine qS1 i ?_;cases sells with
 |true=>
  rw[kx];rw[bZ rfl]at a;refine qS0 ?_;refine qS1 b ?_;refine qS0 ?_;refine qS1 d ?_;exact qSi (y.price - x.price) a
 |false=>
  rw[gP];rw[aZ gL]at a;refine qS0 ?_;refine qS1 d ?_;refine qS0 ?_;refine qS1 b ?_;exact qSi (x.price - y.price) a
def RB{l:List Od}{qty:Int}(h:Rd w 5 s l.length (l.flatMap fL))(hn:l.length<=1000000)(hl:∀o∈l,o.Fit)(hq64:jl qty)
  (hK:∀u w',FlS w' u (pG sells qty l).2.1->M0 w w' ->(∀b,cK u b->w.heap.size<=b)->K (.tuple #[.int .i64 (pG sells qty l).1,u,gI (pG sells qty l).2.2]) w'):Ca pQ 180 #[.bool sells,gI qty,s] w K:=by
 apply ab0;obtain⟨a,c,hs⟩:=h.isSl;obtain⟨p,M⟩:=dW w.heap.size;have Q:M0 w (w.alloc (.cells #[.bool sells] 4)):=lm;have X:hC (w.alloc (.cells #[.bool sells] 4)) p #[.bool sells] 4:=by rw[M];simp[go_sem]
 apply cx (pt p 0) (w.alloc (.cells #[.bool sells] 4)) (by rw[M];simp[go_sem]);generalize w.alloc (.cells #[.bool sells] 4)=w1 at Q X|-
 have J:∀e W,pG sells qty l=(0,[],e)->M0 w W->K (.tuple #[.int .i64 0,.slice none 0 0,gI e]) W:=λe W he m=>by
  have hk:=hK (.slice none 0 0) W (by rw[he];exact jo.nil _ _ _) m λb k=>by cases k
  rw[he]at hk;exact hk
 apply jm (gI (l.length:Int)) w1 (by rw[hs];simp[go_sem]);by_cases A:50<l.length
 ·have j:(50:Int)<(l.length:Int):=qZ;refine qSt1 j ?_;exact J 3 w1 (by unfold pG;rw[bZ A]) Q
 have j:¬(50:Int)<(l.length:Int):=qZ;refine qSf1 j ?_;refine dK.at (λst W=>st=(.bool (decide (qty<1\/10000000<qty\/vw sells [] l=false)),())/\M0 w1 W) ?_ ?_
 ·by_cases h1:qty<1
  ·refine qSt1 h1 ?_;exact⟨by grind,lX⟩
  ·refine qSf1 h1 ?_;by_cases h2:10000000<qty
   ·refine qSt1 h2 ?_;exact⟨by grind,lX⟩
   ·refine qSf1 h2 ?_;refine qS1 X ?_;refine JL (h.mod Q eQ) qZ hl λw2 R=>?_;refine qS0 ?_;exact⟨by cases vw sells [] l<;>simp[h1,h2],R⟩
 rintro _ w2 ⟨rfl,R⟩;unfold Rn;intro _;have M2:=Q.trans R;by_cases g:qty<1\/10000000<qty\/vw sells [] l=false
 ·rw[qo g];exact J 2 w2 (by unfold pG;rw[aZ A,bZ g]) M2
 rw[cy,aZ (by grind)]
 have U:vw sells [] l=true:=by
  cases hw:vw sells [] l with
  |true=>rfl
  |false=>exact absurd (.inr (.inr hw)) g
 have n:=EK U;have b2:=R.hpk X id;have hpl:=cB b2;refine ww (h.mod M2 eQ) qZ λsl w3 o3 m3 n3=>?_;have b3:=m3.hpk b2 id;refine RL (cf:=sC sells) o3 qZ ⟨_,_,rfl,λx hx y hy W mW K' hK' =>?_⟩ λD o4 m4=>?_
 ·exact Jy (mW.hpk b3 λk=>by grind) (Od.price_bd (n x hx)) (Od.price_bd (n y hy)) hK'
 have M4:M0 w D:=(M2.trans m3).on m4 λb k=>.inr (by grind);have d:=Srt.stable_perm (TM (sC sells)) l;obtain⟨S,hS⟩:=dW (Srt.stable (TM (sC sells)) l);have Z:pG sells qty l=((pB qty S 0).2,(pB qty S 0).1,0):=by unfold pG;rw[aZ A,aZ g,hS]
 rw[<-hS]at o4 d;have hSl:=d.length_eq;have hs4:=M4.size;refine dK.at (λst W=>∃x u,st=(x,gI (pB qty S 0).2,u,())/\FlS W u (pB qty S 0).1/\M0 D W/\∀b,cK u b->D.heap.size<=b) ?_ ?_
 ·obtain⟨sa,sc,hsl,-⟩:=o4.isSl;apply jm (gI (S.length:Int)) D (by rw[hsl];simp[go_sem])
  refine eS (λst W=>∃(i:Nat) (q P:Int) (H:Vt_) (F:List Fl),st=(gI q,gI P,H,gI i,())/\i<=S.length/\FlS W H F/\F.length=i/\M0 D W/\(∀b,cK H b->D.heap.size<=b)/\0<=q/\q<=10000000/\F++(pB q (S.drop i) P).1=(pB qty S 0).1/\(pB q (S.drop i) P).2=(pB qty S 0).2)
   (λst _=>match st.2.2.2.1 with| .int _ i=>S.length - i.toNat|_=>0) ⟨0,qty,0,.slice none 0 0,[],rfl,qZ,jo.nil _ _ _,rfl,lX,λb k=>(by cases k),qZ,qZ,rfl,rfl⟩ ?_
  rintro⟨_,_,H,_,_⟩ W ⟨i,q,P,sF0,F,⟨⟩,hi,j1,j2,G,N,j5,j6,v,t⟩ KN Y;unfold Sj;intro _;by_cases I:i<S.length
  ·have L:(i:Int)<(S.length:Int):=qZ;refine qSt1 L ?_;have oW:qR W sl S:=o4.mod G eQ;obtain⟨b,cap,hse,T,V⟩:=oW.load I;refine cI (T .i64) (cI V ?_);obtain⟨w5,e5,b5,m5⟩:=kD W;apply cI e5;obtain⟨r,hr⟩:=dW W.heap.size;rw[<-hr]at b5|-;obtain⟨C,e6,B,m6⟩:=jK (o' :=S[i]) b5;apply ir e6;obtain⟨o,ho⟩:=dW (S[i]);rw[<-ho]at B;have hol:=Od.left_bd (n o (d.mem_iff.1 (by grind)));have O:M0 W C:=m5.on m6 λb k=>gz;have z:S.drop i=o::S.drop (i+1):=by rw[ho];exact(gK I).symm
   rw[z,pB]at v t;unfold fL at B;refine qS0 ?_;refine qS1 B ?_;refine qN0 ?_;have f6:FlS C H F:=j1.mod O eQ;by_cases hz:min q o.left=0
   ·apply cx (.bool true) C (by simp only[go_sem];simp;omega);rw[kx];rw[bZ hz]at v t;simp only[ew]at v t;exact⟨_,_,by rw[<-t],by grind,G.trans O,N⟩
   ·apply cx (.bool false) C (by simp only[go_sem];simp;omega);rw[gP];rw[aZ hz]at v t;obtain⟨E,hmn⟩:=dW (min q o.left);have hmb:0<=E/\E<=q:=qZ;rw[<-hmn]at v t|-;refine qS0 ?_;refine qS1 B ?_;apply cx (gI (q - E)) C (by simp[go_sem];rw[wI_]);refine qS0 ?_;refine qS1 B ?_;refine qS0 ?_;refine qS1 B ?_;apply cx (.agg (E5 ⟨o.num,o.acct,E⟩).toArray) C (by simp[go_sem,E5]);refine vK (x:=(⟨o.num,o.acct,E⟩:Fl)) (f:=E5) aE9 (eO eFl) LY SU rfl f6 qZ qZ λsF' w7 o7 m7 n7=>?_;apply cx (gI ((i+1:Nat):Int)) w7 (by simp[go_sem];rw[wI_]);have hs6:=(G.trans O).size;refine Y _ _ ⟨i+1,q - E,o.price,sF',_,rfl,qZ,o7,by grind,(G.trans O).on m7 λb k=>.inr (N b k),λb k=>(n7 b k).elim (N b) λh' =>qZ,qZ,qZ,?_,t⟩ (by grind);rw[<-v,df];rfl
  ·obtain rfl:i=S.length:=qZ;refine qSf0 ?_;rw[fg (cJ _),pB]at v t;simp only[ew]at v t;exact⟨_,_,by rw[<-t],by grind,G,N⟩
 rintro _ W ⟨x,u,rfl,f1,f2,f3⟩;unfold Qu;intro _;rw[Z]at hK;exact hK u W f1 (M4.trans f2) λb k=>by grind
end Go.Proofs
