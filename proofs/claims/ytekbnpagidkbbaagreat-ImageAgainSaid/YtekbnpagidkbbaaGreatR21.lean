/- Part of a proof. -/
import Derived.Test.YtekbnpagidkbbaaGreatRows
import Derived.WalkKit
import Derived.ProofKit
import Derived.OpenShut
import Derived.Test.YtekbnpagidkbbaaGreatR20
set_option linter.all false
set_option maxRecDepth 100000
set_option maxHeartbeats 4000000
namespace Go.Proofs
open Go Go.Vc
attribute [local congr] bj
variable {P:Program}{w:Wt_}
def zO{P:Program}{w:Wt_}{e:TypeId}(g:P.underlying e=some (.int .i64))(d:Nat)(x y:List Int)(o:x.length=y.length):∀(k i:Nat),i+k=x.length->
  (Op.eqItems (d+1) e 1 (x.map λn=>Value.int .i64 n).toArray (y.map λn=>Value.int .i64 n).toArray (List.range' i k)).run P w=.ok (decide (x.drop i=y.drop i)) w
 |0,i,h=>by
  have h1:x.drop i=[]:=cn qZ;have c:y.drop i=[]:=cn qZ;simp[Op.eqItems,h1,c]
 |k+1,i,h=>by
  have m:i<x.length:=qZ;have l:i<y.length:=qZ
  have a:∀(z:List Int) (j:i<z.length),(part e (z.map λn=>Value.int .i64 n).toArray (i*1)).run P w=.ok (gI z[i]) w:=by
   intro z j
   have h1:(z.map λn=>Value.int .i64 n).toArray[i]? =some (gI z[i]):=by
    rw[cR,cz,av j];rfl
   have c:(isAgg e).run P w=.ok false w:=by
    unfold isAgg;simp[aT g,Result.andThen]
   simp[part,c,Result.andThen,h1]
  rw[List.range'_succ];unfold Op.eqItems;simp only[dw,a x m,a y l,Result.andThen];rw[run_equalIn_int w d e .i64 .i64 _ _ g];rw[cD m,cD l];by_cases b:x[i]=y[i]
  ·have f:(x[i]==y[i])=true:=by simp[b]
   simp only[f,b,lH,true_and];have:=zO (w:=w) g d x y o k (i+1) qZ;simpa using this
  ·have f:(x[i]==y[i])=false:=by simpa using b
   simp only[f,lH,b,false_and,decide_false];simp
def Zj(x y:Vector Int 16)(d:Nat)(w:Wt_):(Op.equalIn (d+2) 46 (.agg (vD x).toArray) (.agg (vD y).toArray)).run pQ w=.ok (decide (x=y)) w:=by
 obtain⟨g,b,-⟩:=qB (P:=pQ) (t:=2) (n:=0) cV;have c:Tryz.prog.underlying 46=some (.array 16 2):=cV;have f:Tryz.prog.cellsOf 2=1:=cV;rw[run_equalIn_array w (d+1) _ _ c b,f];have:=zO (P:=pQ) (w:=w) (e:=2) cV d x.toList y.toList (by simp) 16 0 (by simp);rw[List.range_eq_range'];show(Op.eqItems (d+1) _ 1 (x.toList.map λn=>Value.int .i64 n).toArray (y.toList.map λn=>Value.int .i64 n).toArray (List.range' 0 16)).run pQ w=_;rw[this];congr 1
 have a:(x.toList=y.toList)↔x=y:=by
  constructor
  ·intro h;exact Vector.toList_inj.1 h
  ·rintro rfl;rfl
 simp only[dW];exact kU.2 a
def nZ{d:Nat}{xs c:Array Value}{f:Field}{e:List Field}{a b:Vt_}{r r' :Bool}(i:f.name≠ "_")(h1:(part f.type xs f.offset).run P w=.ok a w)(g:(part f.type c f.offset).run P w=.ok b w)
  (j:(Op.equalIn d f.type a b).run P w=.ok r w)(h:(Op.eqFields d xs c e).run P w=.ok r' w):(Op.eqFields d xs c (f::e)).run P w=.ok (r&& r') w:=by
 simp only[Op.eqFields,i,ne_eq,not_false_eq_true,df,dw,h1,g,j,Result.andThen_ok];cases r
 ·simp
 ·simpa using h
def VX{b:Nat}{xs a:Array Value}:(Op.eqFields b xs a []).run P w=.ok true w:=by simp[Op.eqFields]
def ip{e:TypeId}{l:LV_}{off:Nat}{v:Vt_}(a:P.plainKey e=true)(h:l[off]? =some v):(part e l.toArray off).run P w=.ok v w:=run_part_plain w a (by simpa using h)
def LK{e:TypeId}{l m:LV_}{off n:Nat}(a:mh P e=true)(b:P.cellsOf e=n+1)(h:(l.drop off).take (n+1)=m):(part e l.toArray off).run P w=.ok (.agg m.toArray) w:=by
 have c:l.toArray.extract off (off+(n+1))=m.toArray:=by
  apply kM;rw[Array.toList_extract];simp[List.extract,h]
 simp[part,yY a,Go.Vc.lI b,Result.andThen,h]
def eqB(x y:Bool)(d:Nat)(w:Wt_):(Op.equalIn (d+1) 4 (.bool x) (.bool y)).run pQ w=.ok (x==y) w:=by
 have a:Tryz.prog.underlying 4=some .bool:=cV;simp[Op.equalIn,aT a,Result.andThen]
def ae0(a b:Sp)(d:Nat)(w:Wt_):(Op.equalIn (d+3) 48 (.agg (eV a).toArray) (.agg (eV b).toArray)).run pQ w=.ok (decide (a=b)) w:=by
 have u:Tryz.prog.underlying 48=some (.struct (Tryz.prog.fieldsOf 48)):=cV;have h:Tryz.prog.stoodInHeld 48=false:=cV;rw[run_equalIn_struct w (d+2) 48 _ _ u h];unfold Program.fieldsOf;rw[Tryz.underlying48];have g:∀s:Sp,((eV s).drop 6).take 16=vD s.shifts:=ti
 have c:∀s:Sp,(eV s)[22]? =some (gI s.credit)/\(eV s)[23]? =some (gU s.last)/\(eV s)[24]? =some (gI s.first):=λs=>by
  have key:∀i,(eV s)[22+i]? =([.int .i64 s.credit,gU s.last,gI s.first]:LV_)[i]? :=λi=>by
   unfold eV;rw[bp (by show 6<=22+i;omega),bp (by grind),nt];congr 1;show 22+i - 6 - 16=i;omega
  exact⟨key 0,key 1,key 2⟩
 have e:∀(t:TypeId) (q:IntKind) (x y:Int),Tryz.prog.underlying t=some (.int q)->(Op.equalIn (d+2) t (.int q x) (.int q y)).run pQ w=.ok (x==y) w:=λt q x y l=>run_equalIn_int w (d+1) t q q x y l
 have f:decide (a=b)=((a.num==b.num)&& ((a.route==b.route)&& ((a.tick==b.tick)&& ((a.lot==b.lot)&& ((a.band==b.band)&& ((a.limit==b.limit)&& (decide (a.shifts=b.shifts)&& ((a.credit==b.credit)&& ((a.last==b.last)&& ((a.first==b.first)&& true)))))))))):=by
  obtain⟨J,K,A,D,B,I,r,m,F,k⟩:=a;obtain⟨o,G,z,H,p,v,E,b8,C,j⟩:=b;rw[dh];simp[Sp.mk.injEq]
 rw[f];apply nZ (by decide) (ip cV rfl) (ip cV rfl) (e _ _ _ _ cV);apply nZ (by decide) (ip cV rfl) (ip cV rfl) (e _ _ _ _ cV);apply nZ (by decide) (ip cV rfl) (ip cV rfl) (e _ _ _ _ cV);apply nZ (by decide) (ip cV rfl) (ip cV rfl) (e _ _ _ _ cV);apply nZ (by decide) (ip cV rfl) (ip cV rfl) (e _ _ _ _ cV);apply nZ (by decide) (ip cV rfl) (ip cV rfl) (e _ _ _ _ cV);apply nZ (by decide) (LK (n:=15) cV cV (g a)) (LK (n:=15) cV cV (g b)) (Zj a.shifts b.shifts d w);apply nZ (by decide) (ip cV (c a).1) (ip cV (c b).1) (e _ _ _ _ cV);apply nZ (by decide) (ip cV (c a).2.1) (ip cV (c b).2.1) (e _ _ _ _ cV);apply nZ (by decide) (ip cV (c a).2.2) (ip cV (c b).2.2) (e _ _ _ _ cV);exact VX
def Y5(c:Cm):((ny c).drop 5).take 25=eV c.spec:=by
 show(eV c.spec++_).take 25=_;rw[<-br c.spec,dU]
def ZI(a b:Cm)(w:Wt_):(Op.equalIn 10000 tA (zF a) (zF b)).run pQ w=.ok (decide (a=b)) w:=by
 have u:Tryz.prog.underlying tA=some (.struct (Tryz.prog.fieldsOf tA)):=cV;have h:Tryz.prog.stoodInHeld tA=false:=cV;unfold zF;rw[run_equalIn_struct w 9999 tA _ _ u h];unfold Program.fieldsOf;rw[Tryz.underlying51];have c:∀(t:TypeId) (q:IntKind) (x y:Int),Tryz.prog.underlying t=some (.int q)->(Op.equalIn 9999 t (.int q x) (.int q y)).run pQ w=.ok (x==y) w:=λt q x y j=>run_equalIn_int w 9998 t q q x y j
 have d:decide (a=b)=((a.kind==b.kind)&& ((a.acct==b.acct)&& ((a.ct==b.ct)&& ((a.num==b.num)&& ((a.amt==b.amt)&& (decide (a.spec=b.spec)&& ((a.on==b.on)&& ((a.buy==b.buy)&& ((a.ty==b.ty)&& ((a.price==b.price)&& ((a.qty==b.qty)&& true))))))))))):=by
  obtain⟨G,H,s,A,v,F,o,k,C,g,i⟩:=a;obtain⟨l,D,r,E,m,p,B,b8,z,f,e⟩:=b;rw[dh];simp[Cm.mk.injEq]
 rw[d];apply nZ (by decide) (ip cV (cm0 a)) (ip cV (cm0 b)) (c _ _ _ _ cV);apply nZ (by decide) (ip cV (ZQ a)) (ip cV (ZQ b)) (c _ _ _ _ cV);apply nZ (by decide) (ip cV (cm2 a)) (ip cV (cm2 b)) (c _ _ _ _ cV);apply nZ (by decide) (ip cV (YK a)) (ip cV (YK b)) (c _ _ _ _ cV);apply nZ (by decide) (ip cV (Z1 a)) (ip cV (Z1 b)) (c _ _ _ _ cV);refine nZ (by decide) (LK (n:=24) cV cV (Y5 a)) (LK (n:=24) cV cV (Y5 b)) (ae0 a.spec b.spec 9996 w) ?_;refine nZ (by decide) (ip cV (O6 a)) (ip cV (O6 b)) (eqB _ _ 9998 w) ?_;refine nZ (by decide) (ip cV (Tu a)) (ip cV (Tu b)) (eqB _ _ 9998 w) ?_;apply nZ (by decide) (ip cV (Vo a)) (ip cV (Vo b)) (c _ _ _ _ cV);apply nZ (by decide) (ip cV (UM a)) (ip cV (UM b)) (c _ _ _ _ cV);apply nZ (by decide) (ip cV (Uv a)) (ip cV (Uv b)) (c _ _ _ _ cV);exact VX
def WS(a b:Cm)(w:Wt_):(io .eql tA false (zF a) (zF b)).run pQ w=.ok (.bool (decide (a=b))) w:=by
 have:=ZI a b w;unfold zF at this|-;generalize(ny a).toArray=A at this;generalize(ny b).toArray=B at this;simp[go_sem,this,Result.andThen]
def UG{x:Cm}{K:aZ}(u:x.Fit)(b:∀o,M0 w o->K (.bool x.may) o):Ca pQ 47 #[zF x] w K:=by
 refine cN Tryz.func47 ?_;obtain⟨d,v,n,t⟩:=ZT x w;apply bo v;obtain⟨p,m⟩:=di w.heap.size;rw[<-m]at n|-;have a:M0 d d.drew:=vz;have c:CN d.drew p x:=a.hpk n id;have f:=t.trans a
 try dsimp only
 generalize d.drew=r at a c f|-;unfold Cm.may at b;refine cx XU (cK (Yj c) ?_);by_cases h1:1<=x.kind
 ·apply du (.bool true) (λ_=>by simp[go_sem];omega);rw[kJ];refine cx XU (cK (Yj c) ?_);by_cases g:x.kind<=14
  ·apply du (.bool true) (λ_=>by simp[go_sem];omega);rw[kJ];refine sk (Xc c) (sk (Xc c) ?_);refine U8 λi q=>?_;have l:CN i p x:=q.hpk c id;refine⟨Xc l,?_⟩;have j:=f.trans q;apply cx (WS x x.bare);by_cases e:x=x.bare
   ·rw[oB e];refine cx XU (cK (Yj l) ?_);apply du (.bool (decide (x.kind≠3))) (λ_=>by simp[go_sem];rfl);by_cases k:x.kind≠3
    ·rw[oB k];have:=b i j;rw[aW ⟨h1,g⟩,aW e,aW k]at this;exact this
    ·rw[ay,aa (by grind)];apply cx aj1;apply kA (eV x.spec) 24 zi we (br _) (Rx l);refine qF u.2.2.2.2.2.1 λs y=>?_;have:=b s (j.trans y);rw[aW ⟨h1,g⟩,aW e,bD k]at this;simpa using this
   ·rw[ay,aa (by grind)];have:=b i j;rw[bD e,pw,fE]at this;exact this
  ·apply du (.bool false) (λ_=>by simp[go_sem];omega);rw[jO];have:=b r f;rw[bD (λh=>g h.2),fE,fE]at this;exact this
 ·apply du (.bool false) (λ_=>by simp[go_sem];omega);rw[jO];have:=b r f;rw[bD (λh=>h1 h.1),fE,fE]at this;exact this
end Go.Proofs
namespace Go.Proofs
open Go Go.Vc
attribute [local congr] bj
def MH{C:oR}{s:Sp}(h:(fM C s).1=0):cj C.l s.num=none/\∀m,cj (fM C s).2.l m=if s.num=m then some (mK s)else cj C.l m:=by
 unfold fM at h|-;split at h
 ·cases h
 ·split at h
  ·cases h
  ·split at h
   ·cases h
   ·split at h
    ·cases h
    ·rename_i h1 a d c
     have b:cj C.l s.num=none:=by
      cases e:cj C.l s.num with
      |none=>rfl
      |some k=>rw[e]at a;exact absurd rfl a
     refine⟨b,λm=>?_⟩;rw[aa h1,aa a,aa d,aa c];exact wK (k:=mK s) b _ m
def NY{C:oR}{s:Sp}(h:(fM C s).1≠0):(fM C s).2=C:=by
 unfold fM at h|-;split
 ·rfl
 ·split
  ·rfl
  ·split
   ·rfl
   ·split
    ·rfl
    ·grind
def RV(C:oR)(n:Int)(on:Bool)(m:Int):(cj (jS C n on).2.l m).isSome=(cj C.l m).isSome:=by
 unfold jS;split
 ·rfl
 ·rw[qq (f:=λk=>{k with st:=if on then 2 else 1}) λ_ _=>rfl,mO]
def He(C:oR)(n p:Int)(m:Int):(cj (fS C n p).2.l m).isSome=(cj C.l m).isSome:=by
 unfold fS;split
 ·rfl
 ·split
  ·rfl
  ·split
   ·rfl
   ·rw[qq (f:=λk=>{k with price:=p}) λ_ _=>rfl,mO]
end Go.Proofs
namespace Go.Proofs
open Go Go.Vc
attribute [local congr] bj
end Go.Proofs
namespace Go.Proofs
open Go Go.Vc
attribute [local congr] bj
variable {d nx:Int}{b lo:Nat}{cs:Nat->List Value}{n:Nat->Nat}{ss:Nat->Value}{w:Wt_}
def ag5:Tryz.prog.underlying 53=some (.slice 100):=cV
def aj9:fY pQ 100 4 24=true:=cV
def uu{K:aZ}{O:Vt_}{L:List Ac}(ht:pE O (L.map λa=>[jX a]) w)(hl:L.length<=100000)
  (hK:∀c C,ic C 100 4 c L.length (L.flatMap cY)->M0 w C->(∀y,aF c y->w.heap.size<=y)->K c C):Ca pQ 58 #[O] w K:=by
 refine cN Tryz.func58 ?_;refine cN Tryz.func157 ?_;obtain⟨p,s⟩:=di w.heap.size;have G:M0 w (w.alloc (.cells #[gm] 53)):=mG;have z:hC (w.alloc (.cells #[gm] 53)) p #[gm] 53:=by rw[s];simp[go_sem]
 apply ao (bO p 0) (w.alloc (.cells #[gm] 53)) (by rw[s];simp[go_sem,gm]);generalize w.alloc (.cells #[gm] 53)=w1 at G z|-;have Z:=aB z;let I:(Nat->Prop)->Nat->World->Prop:=λX i W=>∃sl,hC W p #[sl] 53/\ic W 100 4 sl (L.take i).length ((L.take i).flatMap cY)/\(∀y,X y↔y=p\/aF sl y)/\∀y,aF sl y->p<y;refine V7 ?_;refine Ek (X0:=λx=>x=p) (T:=tAc) (fc:=cY) (ht.mod G) oH.ac I (λ_ _ _=>False) ?_ (λ_ _ _ _ _ h=>h.elim) (λx hx=>qZ) ⟨gm,z,ic.nil _ _ _,λy=>⟨.inl,λb=>b.elim id λb=>by cases b⟩,λy b=>(by cases b)⟩ ?_ ?_ (λ_ _ _ _ _ h=>h.elim)
 ·rintro X i W W' H ⟨sl,k,g,j,q⟩ S o;exact⟨sl,S.hpk k (o _ ((j _).2 (.inl rfl))),g.mod S λy b=>o y ((j y).2 (.inr b)),j,q⟩
 ·rintro X i hi W r ⟨sl,k,g,j,q⟩ N o hdq hqW zgq KN KJ E Y;obtain⟨sa,sc,l,-⟩:=g.isSl;have D:=bR hi;apply ao sl W (by rw[l]at k|-;simp[go_sem,k]);apply bo (ah2 zgq);have R:(L.take i).length<=100000:=by grind
  refine JI (x:=L[i]) (f:=cY) ag5 (dB aj9) (λ_=>rfl) rfl rfl g qZ qZ λc n F A U=>?_;obtain⟨ta,tc,B,-⟩:=F.isSl;have P:=A.hpk k λhc=>by grind
  apply nE (n.setCell ⟨p,0,none⟩ c) (by rw[B];simp[go_sem,P]);have u:aR (λy=>y=p) n (n.setCell ⟨p,0,none⟩ c):=(aR.refl (λy=>y=p) n).sc;have V:hC (n.setCell ⟨p,0,none⟩ c) p #[c] 53:=by simp[go_sem,P]
  generalize n.setCell ⟨p,0,none⟩ c=J at u V|-;have hsW:=A.size;have Q:=u.size
  have v:∀y,aF c y->p<y:=λy b=>by
   rcases U y b with m|m
   ·exact q y m
   ·omega
  refine E (λy=>y=p\/aF c y) J ⟨c,V,?_,λy=>aG,v⟩ ((A.mono λy _ b=>(j y).2 (.inr b)).trans (u.mono λy _ b=>(j y).2 (.inl b))) λy b=>?_
  ·rw[D];exact F.mod u λy b e=>by grind
  ·rcases b with rfl|b
   ·grind
   ·refine⟨(U y b).imp (λm=>(j y).2 (.inr m)) id,?_⟩;have:=F.lt b;omega
 ·rintro X W d hd ⟨sl,k,g,j,q⟩ N t o;replace g:ic W 100 4 sl (L.take L.length).length ((L.take L.length).flatMap cY):=g;rw[aK]at g;obtain⟨sa,sc,l,-⟩:=g.isSl;refine OT ?_;simp only[jR];apply ao sl W (by rw[l]at k|-;simp[go_sem,k]);refine zQ t λJ M=>?_;refine hK sl J (g.mod M λy b e=>?_) (((G.on N λy b=>gr)).on M λy b=>gr) λy b=>by grind
  rcases(o y ((j y).2 (.inr b))).2 with m|m
  ·have:=q y b;omega
  ·omega
abbrev yu:TypeId:=58
def Tr:Nat->TypeId
 |3=>100
 |4=>120
 |5=>124
 |_=>132
def FI:Nat->TypeId
 |3=>53
 |4=>54
 |5=>55
 |_=>56
def Qo:Nat->Nat
 |3=>4
 |4=>27
 |5=>4
 |_=>6
def stB:Nat->Nat
 |3=>24
 |4=>208
 |5=>24
 |_=>40
def stU(i:Nat):Tryz.prog.underlying (FI i)=some (.slice (Tr i)):=by
 unfold FI Tr;split<;>kernel_rfl
def ZV(i:Nat):fY pQ (Tr i) (Qo i) (stB i)=true:=by
 unfold Tr Qo stB;split<;>kernel_rfl
def ah3(i:Nat):Qo i<=27/\stB i<=208:=by
 unfold Qo stB;split<;>exact⟨qZ,qZ⟩
def z9(d n f:Int)(ss:Nat->Value):List Value:=[.int .u32 d,gQ n,gI f,ss 3,ss 4,ss 5,ss 6,ss 7]
def Fb(d n f:Int)(ss:Nat->Value):Value:=.agg (z9 d n f ss).toArray
def sD{α:Type}(f:Nat->α)(i:Nat)(x:α):Nat->α:=λj=>if j=i then x else f j
structure VZ(w:Wt_)(b:Nat)(d nx fu:Int)(ss:Nat->Value)(n:Nat->Nat)(cs:Nat->List Value)(lo:Nat):Prop where
 at_:hC w b (z9 d nx fu ss).toArray yu
 own:∀i,3<=i->i<=7->ic w (Tr i) (Qo i) (ss i) (n i) (cs i)
 dj:∀i j y,3<=i->i<=7->3<=j->j<=7->aF (ss i) y->aF (ss j) y->i=j
 nw:∀i y,3<=i->i<=7->aF (ss i) y->lo<=y/\y≠b
def VZ.mod{F:NP_}{w' :Wt_}{a:Int}(h:VZ w b d nx a ss n cs lo)(e:aR F w w')(h1:¬F b)(g:∀i y,3<=i->i<=7->aF (ss i) y->¬F y):VZ w' b d nx a ss n cs lo:=
 ⟨e.hpk h.at_ h1,λi c f=>(h.own i c f).mod e λy j=>g i y c f j,h.dj,h.nw⟩
def Gy(W:Wt_){b:Nat}(i:Nat)(hi:i<8):(iF yu (bO b 0) i).run pQ W=.ok (bO b i) W:=by
 have:i=0\/i=1\/i=2\/i=3\/i=4\/i=5\/i=6\/i=7:=qZ;rcases this with rfl|rfl|rfl|rfl|rfl|rfl|rfl|rfl<;>simp[go_sem]
def VZ.ld{j:Int}(h:VZ w b d nx j ss n cs lo)(i:Nat)(hi:3<=i)(g:i<=7):(iL (FI i) (bO b i)).run pQ w=.ok (ss i) w:=by
 obtain⟨a,c,f,-⟩:=(h.own i hi g).isSl;have e:=h.at_;have:i=3\/i=4\/i=5\/i=6\/i=7:=qZ;rcases this with rfl|rfl|rfl|rfl|rfl<;>(simp only[FI];rw[f];simp only[z9]at e;rw[f]at e;simp[go_sem,e])
def Yk{H:Int}(h:VZ w b d nx H ss n cs lo)(i:Nat)(hi:3<=i)(u:i<=7){xv:Vt_}{c:LV_}{K:World->Prop}(N:xv.cells.toList=c)(x:c.length=Qo i)(B:c.all (·.oneCell')=true)(hn:n i<=1000000)(W:lo<=w.heap.size)
  (hK:∀o k,VZ k b d nx H (sD ss i o) (sD n i (n i+1)) (sD cs i (cs i++c)) lo->aR (λy=>y=b\/aF (ss i) y) w k->(∀y,aF o y->aF (ss i) y\/w.heap.size<=y)->K k):
  rx pQ (rg (FI i) 1 [(0,xv)]) w λv w1=>rx pQ (fb #[FI i,FI i] (FI i) [ss i,v]) w1 λv2 w2=>rv pQ (iF yu (bO b 0) i) w2 λv3 w3=>ru pQ (iS (FI i) v3 v2) w3 K:=by
 have J:xv.cells.size=Qo i:=by rw[<-Array.length_toList,N,x]
 have I:=ah3 i;refine nI [xv] (stU i) (dB (ZV i)) rfl rfl (by intro v hv;rw[cm.1 hv];exact J) qZ ?_;have U:(([xv]:LV_).flatMap (·.cells.toList)).toArray=c.toArray:=by simp[N]
 rw[U];have R:M0 w (w.alloc (.cells c.toArray (Tr i))):=mG
 have r1:Rd (w.alloc (.cells c.toArray (Tr i))) (Qo i) (.slice (some ⟨w.heap.size,0,none⟩) 1 1) 1 c:=
  ⟨by rw[x];omega,.inr ⟨_,0,1,rfl,aD _,At.all (bT (by rw[er,ae rfl]))⟩⟩
 have s:=h.own i hi u;have hbl:b<w.heap.size:=aB h.at_;refine kg (stU i) (stU i) (dB (ZV i)) (s.mod R d9) r1 B (ck (fT (show n i+1<=1000001 by omega) I.2) (by decide)) λo k O m' X=>?_;apply bo (Gy k i qZ);have V:(w.alloc (.cells c.toArray (Tr i))).heap.size=w.heap.size+1:=cw ..;have F:aR (aF (ss i)) w k:=(R.mono (G:=aF (ss i)) λ_ _ h=>h.elim).trans m'
 have q:∀y,aF o y->aF (ss i) y\/w.heap.size<=y:=λy f=>by
  rcases X y f with m|m
  ·exact .inl m
  ·exact gr
 have r:=F.hpk h.at_ λx=>(h.nw i b hi u x).2 rfl;obtain⟨a,cc,E,-⟩:=O.isSl
 have D:(iS (FI i) (bO b i) o).run pQ k=.ok () (k.setCell ⟨b,i,none⟩ o)/\hC (k.setCell ⟨b,i,none⟩ o) b (z9 d nx H (sD ss i o)).toArray yu:=by
  obtain⟨a0,c0,L,-⟩:=s.isSl;have:i=3\/i=4\/i=5\/i=6\/i=7:=qZ;rcases this with rfl|rfl|rfl|rfl|rfl<;>(simp only[z9]at r;rw[L]at r;refine⟨by simp only[FI];rw[E];simp[go_sem,r],by rw[E];simp[go_sem,r,z9,sD]⟩)
 apply iE D.1;have M:aR (λy=>y=b) k (k.setCell ⟨b,i,none⟩ o):=(aR.refl (λy=>y=b) k).sc
 have C:∀y,aF o y->lo<=y/\y≠b:=λy f=>by
  rcases q y f with m|m
  ·exact h.nw i y hi u m
  ·grind
 refine hK o _ ⟨D.2,λj l p=>?_,λj1 j2 y P S T Q z t=>?_,λj y l p f=>?_⟩ ((F.mono λy _ f=>.inr f).trans (M.mono λy _ f=>.inl f)) q
 ·unfold sD;by_cases g:j=i
  ·subst g;rw[ae rfl,ae rfl,ae rfl];exact O.mod M λy f e=>(C y f).2 e
  ·rw[aa g,aa g,aa g];exact((h.own j l p).mod F λy f x=>g (h.dj j i y l p hi u f x)).mod M λy f e=>(h.nw j y l p f).2 e
 ·unfold sD at z t;have Y:∀j,3<=j->j<=7->aF (ss j) y->y<w.heap.size:=λj Z b2 f=>(h.own j Z b2).lt f;by_cases h1:j1=i
  ·by_cases A:j2=i
   ·rw[h1,A]
   ·rw[ae h1]at z;rw[aa A]at t;rcases q y z with m|m
    ·rw[h1];exact h.dj i j2 y hi u T Q m t
    ·grind
  ·rw[aa h1]at z;by_cases A:j2=i
   ·rw[ae A]at t;rcases q y t with m|m
    ·rw[A];exact h.dj j1 i y P S hi u z m
    ·grind
   ·rw[aa A]at t;exact h.dj j1 j2 y P S T Q z t
 ·unfold sD at f;by_cases g:j=i
  ·grind
  ·rw[aa g]at f;exact h.nw j y l p f
end Go.Proofs
namespace Go.Proofs
open Go Go.Vc
attribute [local congr] bj
def kC(x:Int×Od):List Value:=gU x.1::dF x.2
def LN(A:List Ac)(C:List Ct)(P:List Po)(O B:List (Int×Od)):Nat->Nat
 |3=>A.length
 |4=>C.length
 |5=>P.length
 |6=>O.length
 |7=>B.length
 |_=>0
def LC(A:List Ac)(C:List Ct)(P:List Po)(O B:List (Int×Od)):Nat->List Value
 |3=>A.flatMap cY
 |4=>C.flatMap dA
 |5=>P.flatMap dy
 |6=>O.flatMap kC
 |7=>B.flatMap kC
 |_=>[]
abbrev SB(w:Wt_)(b:Nat)(d nx fu:Int)(ss:Nat->Value)(A:List Ac)(C:List Ct)(P:List Po)(O B:List (Int×Od))(lo:Nat):Prop:=VZ w b d nx fu ss (LN A C P O B) (LC A C P O B) lo
def XS(ss:Nat->Value)(b:Nat):Nat->Prop:=λy=>y=b\/∃i,3<=i/\i<=7/\aF (ss i) y
section
variable{w:Wt_}{b lo:Nat}{d nx fu:Int}{ss:Nat->Value}{A:List Ac}{C:List Ct}{P:List Po}{O B:List (Int×Od)}
def SB.modX{H:NP_}{w' :Wt_}(h:SB w b d nx fu ss A C P O B lo)(c:aR H w w')(a:∀y,XS ss b y->¬H y):SB w' b d nx fu ss A C P O B lo:=
 h.mod c (a b (.inl rfl)) λi y g e f=>a y (.inr ⟨i,g,e,f⟩)
def SB.ltX(h:SB w b d nx fu ss A C P O B lo){y:Nat}(a:XS ss b y):y<w.heap.size:=by
 rcases a with rfl|⟨i,e,c,a⟩
 ·exact aB h.at_
 ·exact(h.own i e c).lt a
def KI{i:Nat}(hi:3<=i)(q:i<=7){xv:Vt_}{c:LV_}{o:List Ac}{C' :List Ct}{p:List Po}{n l:List (Int×Od)}{K:World->Prop}(h:SB w b d nx fu ss A C P O B lo)(I:xv.cells.toList=c)(F:c.length=Qo i)(k:c.all (·.oneCell')=true)(J:LN A C P O B i<=1000000)(r:lo<=w.heap.size)
  (Q:sD (LN A C P O B) i (LN A C P O B i+1)=LN o C' p n l)(N:sD (LC A C P O B) i (LC A C P O B i++c)=LC o C' p n l)
  (E:∀f e,SB e b d nx fu f o C' p n l lo->aR (XS ss b) w e->(∀y,XS f b y->XS ss b y\/w.heap.size<=y)->K e):
  rx pQ (rg (FI i) 1 [(0,xv)]) w λv t=>rx pQ (fb #[FI i,FI i] (FI i) [ss i,v]) t λG L=>rv pQ (iF yu (bO b 0) i) L λz D=>ru pQ (iS (FI i) z G) D K:=by
 refine Yk h i hi q I F k J r λu e M H x=>E (sD ss i u) e ?_ (H.mono λy _ a=>a.imp id λa=>⟨i,hi,q,a⟩) λy a=>?_
 ·grind
 ·rcases a with a|⟨j,m,s,a⟩
  ·exact .inl (.inl a)
  ·unfold sD at a;by_cases g:j=i
   ·rw[ae g]at a;exact(x y a).imp (λh=>.inr ⟨i,hi,q,h⟩) id
   ·rw[aa g]at a;exact .inl (.inr ⟨j,m,s,a⟩)
end
def qG{α:Type}{f g:Nat->α}{i:Nat}{x:α}(h1:g i=x)(a:∀j,j≠i->g j=f j):sD f i x=g:=by
 funext j;unfold sD;by_cases h:j=i
 ·rw[ae h,h,h1]
 ·rw[aa h,a j h]
def LN4(A:List Ac)(C:List Ct)(P:List Po)(O B:List (Int×Od))(k:Ct):sD (LN A C P O B) 4 (LN A C P O B 4+1)=LN A (C++[k]) P O B:=
 qG (by simp[LN]) λj a=>by unfold LN;split<;>first|rfl|exact absurd rfl a
def LC4(A:List Ac)(C:List Ct)(P:List Po)(O B:List (Int×Od))(k:Ct):sD (LC A C P O B) 4 (LC A C P O B 4++dA k)=LC A (C++[k]) P O B:=
 qG (by simp[LC]) λj a=>by unfold LC;split<;>first|rfl|exact absurd rfl a
def LN5(A:List Ac)(C:List Ct)(P:List Po)(O B:List (Int×Od))(k:Po):sD (LN A C P O B) 5 (LN A C P O B 5+1)=LN A C (P++[k]) O B:=
 qG (by simp[LN]) λj a=>by unfold LN;split<;>first|rfl|exact absurd rfl a
def LC5(A:List Ac)(C:List Ct)(P:List Po)(O B:List (Int×Od))(k:Po):sD (LC A C P O B) 5 (LC A C P O B 5++dy k)=LC A C (P++[k]) O B:=
 qG (by simp[LC]) λj a=>by unfold LC;split<;>first|rfl|exact absurd rfl a
def LN6(A:List Ac)(C:List Ct)(P:List Po)(O B:List (Int×Od))(k:Int×Od):sD (LN A C P O B) 6 (LN A C P O B 6+1)=LN A C P (O++[k]) B:=
 qG (by simp[LN]) λj a=>by unfold LN;split<;>first|rfl|exact absurd rfl a
def LC6(A:List Ac)(C:List Ct)(P:List Po)(O B:List (Int×Od))(k:Int×Od):sD (LC A C P O B) 6 (LC A C P O B 6++kC k)=LC A C P (O++[k]) B:=
 qG (by simp[LC]) λj a=>by unfold LC;split<;>first|rfl|exact absurd rfl a
def LN7(A:List Ac)(C:List Ct)(P:List Po)(O B:List (Int×Od))(k:Int×Od):sD (LN A C P O B) 7 (LN A C P O B 7+1)=LN A C P O (B++[k]):=
 qG (by simp[LN]) λj a=>by unfold LN;split<;>first|rfl|exact absurd rfl a
def LC7(A:List Ac)(C:List Ct)(P:List Po)(O B:List (Int×Od))(k:Int×Od):sD (LC A C P O B) 7 (LC A C P O B 7++kC k)=LC A C P O (B++[k]):=
 qG (by simp[LC]) λj a=>by unfold LC;split<;>first|rfl|exact absurd rfl a
def We(n:Int)(o:Od)(W:Wt_):(Instr.build 132 #[(0,gU n),(1,kx o)]).run pQ W=.ok (.agg (kC (n,o)).toArray) W:=by
 simp[go_sem,kx,dF,kC]
def Z9{W:Wt_}{p:Nat}{d n f:Int}{ss:Nat->Value}(h:hC W p (z9 d n f ss).toArray yu):(iL yu (bO p 0)).run pQ W=.ok (Fb d n f ss) W:=
 jh (P:=pQ) (t:=yu) (n:=7) cV cV rfl (At.all h)
def YD{W:Wt_}{p:Nat}{cs:Array Value}{d n f:Int}{ss:Nat->Value}(h:hC W p cs yu)(q:cs.size=8)(hs:∀i,3<=i->i<=7->∃a n c,ss i=.slice a n c):
  ∃j,(iS yu (bO p 0) (Fb d n f ss)).run pQ W=.ok () j/\hp j p=some (.cells (z9 d n f ss).toArray yu (0,0))/\aR (λb=>b=p) W j:=by
 have o:cs.toList.length=8:=by simpa using q
 have r:Tryz.prog.cellsOf yu=7+1:=cV
 have g:(z9 d n f ss).all (·.oneCell')=true:=by
  obtain⟨_,_,_,s⟩:=hs 3 qZ qZ;obtain⟨_,_,_,u⟩:=hs 4 qZ qZ;obtain⟨_,_,_,k⟩:=hs 5 qZ qZ;obtain⟨_,_,_,m⟩:=hs 6 qZ qZ;obtain⟨_,_,_,l⟩:=hs 7 qZ qZ;unfold z9;rw[s,u,k,m,l];rfl
 have e:=vu (P:=pQ) (t:=yu) (b:=p) (off:=0) (cs:=z9 d n f ss) r rfl h (by show 0+8<=cs.size;omega) g;refine⟨W.setRow p (jp cs.toList 0 (z9 d n f ss)).toArray,?_,?_,(aR.refl (λb=>b=p) W).setRow (.inl rfl) _⟩
 ·have:(rS yu (bO p 0) (Fb d n f ss)).run pQ W=_:=e;unfold rS at this;exact this
 ·rw[DI,ae rfl,h,lF (by rw[o];rfl)]
def GF(s:Vt_):Nat->Value:=λi=>if i=3 then s else gm
def Ds(W:Wt_):∃a,(iA yu true (.tuple #[])).run pQ W=.ok (bO W.heap.size 0) a/\hC a W.heap.size (z9 0 0 0 (GF gm)).toArray yu/\M0 W a:=
 ⟨W.alloc (.cells (z9 0 0 0 (GF gm)).toArray yu),by simp[go_sem,z9,GF,gm],by simp[go_sem],(aR.refl _ W).alloc _⟩
def KF(d n f:Int)(s:Vt_)(W:Wt_)(hs:∃a n c,s=.slice a n c):(Instr.build yu #[(0,gU d),(1,gQ n),(2,gI f),(3,s)]).run pQ W=.ok (Fb d n f (GF s)) W:=by
 obtain⟨_,_,_,rfl⟩:=hs;simp[go_sem,Fb,z9,GF,gm]
end Go.Proofs
namespace Go.Proofs
open Go Go.Vc
attribute [local congr] bj
variable {S:bt}
def zf(S:bt)(i:Nat):List Po:=(S.nums.take i).flatMap S.led.holders
def wY(S:bt)(i:Nat):List (Int×Od):=(S.nums.take i).flatMap λn=>(S.bk n).all.map λo=>(n,o)
def wP(S:bt)(i:Nat):List (Int×Od):=(S.nums.take i).flatMap λn=>(S.bd n).map λo=>(n,o)
def ak6{i:Nat}(hi:i<S.cal.l.length):S.nums.take (i+1)=S.nums.take i++[S.cal.l[i].spec.num]:=by
 have a:i<S.nums.length:=by unfold bt.nums;rw[ah];exact hi
 rw[bR a];simp[bt.nums]
def Qf(h:S.led.Ok)(i:Nat):(zf S i).length<=64*i:=by
 unfold zf;induction i with
 |zero=>simp
 |succ i a=>
  by_cases b:i<S.nums.length
  ·rw[bR b,cE,af];have:=qP h S.nums[i];simp only[bm,cC,aN];omega
  ·rw[aC qZ];rw[aC qZ]at a;omega
def Cx(h:sy S)(i:Nat):(wY S i).length<=200*i:=by
 unfold wY;induction i with
 |zero=>simp
 |succ i a=>
  by_cases b:i<S.nums.length
  ·rw[bR b,cE,af];have h1:=(h.side S.nums[i] true).1;have d:=(h.side S.nums[i] false).1
   have e:((S.bk S.nums[i]).all.map λo=>(S.nums[i],o)).length<=200:=by
    rw[ah];unfold Bk.all;rw[af];omega
   simp only[bm,cC,aN];omega
  ·rw[aC qZ];rw[aC qZ]at a;omega
def BO(h:sy S)(i:Nat):(wP S i).length<=50*i:=by
 unfold wP;induction i with
 |zero=>simp
 |succ i a=>
  by_cases b:i<S.nums.length
  ·rw[bR b,cE,af];have h1:=h.bdl S.nums[i];simp only[bm,cC,aN,ah];omega
  ·rw[aC qZ];rw[aC qZ]at a;omega
section
variable{w:Wt_}{K:aZ}{v c l mb md:Nat}{A:List (Int×Nat)}{D:List (Int×Value)}{fp:Pt->Nat->Prop}{S:bt}
def C3(h:qs w v c l mb md A D fp S)(hok:S.Ok)
  (hK:∀G b L w',SB w' b S.cal.day S.next S.led.fund G S.led.all S.cal.l (S.nums.flatMap S.led.holders) (S.nums.flatMap λn=>(S.bk n).all.map λo=>(n,o)) (S.nums.flatMap λn=>(S.bd n).map λo=>(n,o)) L->w.heap.size<=L->M0 w w' ->w.heap.size<=b->K (Fb S.cal.day S.next S.led.fund G) w'):
  Ca pQ 17 #[ec v] w K:=by
 unfold ec;refine cN Tryz.func17 ?_;obtain⟨n0,hn0⟩:=di w.heap.size
 have hlay:∃w1,w.alloc (.cells #[ec v] 24)=w1/\w1.heap.size=n0+1/\M0 w w1/\hC w1 n0 #[ec v] 24:=by
  refine⟨_,rfl,by simp[go_sem,hn0],(aR.refl _ w).alloc _,?_⟩;simp[go_sem,hn0]
 obtain⟨w1,hw1,hsz1,V,b1⟩:=hlay;apply ao (bO n0 0) w1 (by rw[<-hw1,hn0];rfl);clear hw1;obtain⟨w2,e2,b2,m2⟩:=Ds w1;apply bo e2;obtain⟨p2,hp2⟩:=di (n0+1);rw[hsz1,<-hp2]at b2|-;have M2:=V.trans m2;have h2:=h.md0 M2;have g0:=m2.hpk b1 id;have lv0:∀{W},hC W n0 #[ec v] 24->(iL 24 (bO n0 0)).run pQ W=.ok (ec v) W:=λhW=>by simp[go_sem,hW,ec]
 apply bo (lv0 g0);apply Nx h2.blk;refine eU ?_;apply bo (lv0 g0);simp only[ec,bU];refine bo (uY 1 qZ _) (bo (ld1 _ h2.blk) ?_);refine EG h2.led λw3 m3=>?_;have hg0:S.led.getV 0=(⟨0,S.led.fund,false,false⟩,0):=rfl;rw[hg0];refine dI ?_;refine dI ?_;obtain⟨w4,w5,e4,e5,b5,m5⟩:=Qp ⟨0,S.led.fund,false,false⟩ w3;obtain⟨ra,hra⟩:=di w3.heap.size;refine bo e4 (iE e5 ?_);rw[<-hra]at b5|-;have M5:=(M2.trans m3).trans m5;have h5:=h.md0 M5;have g5:=m5.hpk (m3.hpk g0 id) id;have p5:=m5.hpk (m3.hpk b2 id) id;obtain⟨L,hlo⟩:=di w5.heap.size;have hp25:p2<L:=by rw[hlo];exact aB p5
 have R:S.led.Ok:=hok.led.led;have hal:=R.len;refine cT.at (λst W=>∃p s,st=(.pointer (some ⟨p,0,none⟩),())/\SB W p S.cal.day S.next S.led.fund (GF s) S.led.all [] [] [] [] L/\L<=p/\M0 w5 W) ?_ ?_
 ·have U:M0 w5 w5.drew:=vz;have hsu:w5.drew.heap.size=w5.heap.size:=rfl;have hu:=h5.md0 U;have gu:=U.hpk g5 id;have bu:=U.hpk b5 id
  try dsimp only
  generalize w5.drew=u at U hsu hu gu bu|-
  have fx:∀W,M0 u W->(iL 2 (bO ra 1)).run pQ W=.ok (gI S.led.fund) W/\(iL 37 (bO v 4)).run pQ W=.ok (gQ S.next) W/\(iL 24 (bO n0 0)).run pQ W=.ok (ec v) W/\(iL 88 (bO v 1)).run pQ W=.ok (eP l) W/\(iL 86 (bO v 0)).run pQ W=.ok (fO c) W:=λW m=>by
   have hW:=hu.md0 m;have bW:=m.hpk bu id;exact⟨by simp[go_sem,bW,cY],ld4 _ hW.blk,lv0 (m.hpk gu id),ld1 _ hW.blk,ld0 _ hW.blk⟩
  have fin:∀(W:Wt_) (p:Nat) (s:Vt_) (K2:World->Prop),M0 u W->hC W p (z9 0 0 0 (GF gm)).toArray yu->L<=p->ic W 100 4 s S.led.all.length (S.led.all.flatMap cY)->(∀y,aF s y->L<=y/\y≠p)->
    (∀z,SB z p S.cal.day S.next S.led.fund (GF s) S.led.all [] [] [] [] L->M0 w5 z->K2 z)->ru pQ (iS yu (bO p 0) (Fb S.cal.day S.next S.led.fund (GF s))) W K2:=by
   intro W p s K2 m hb hsb ho hs hk;obtain⟨sa,sc,T,-⟩:=ho.isSl
   obtain⟨z,e',b',m'⟩:=YD (d:=S.cal.day) (n:=S.next) (f:=S.led.fund) (ss:=GF s) hb rfl λi _ _=>by
    unfold GF;split
    ·exact⟨_,_,_,T⟩
    ·exact⟨none,0,0,rfl⟩
   refine iE e' (hk z ⟨b',λi hi hj=>?_,λi j y hi1 hi2 hj1 hj2 h1 h2=>?_,λi y hi hj g=>?_⟩ ((U.trans m).on m' λy g=>gr))
   ·have hi' :i=3\/i=4\/i=5\/i=6\/i=7:=qZ;rcases hi' with rfl|rfl|rfl|rfl|rfl
    ·exact ho.mod m' λy g e=>(hs y g).2 e
    ·exact ic.nil _ _ _
    ·exact ic.nil _ _ _
    ·exact ic.nil _ _ _
    ·exact ic.nil _ _ _
   ·unfold GF at h1 h2;by_cases hi:i=3
    ·by_cases hj:j=3
     ·rw[hi,hj]
     ·rw[aa hj]at h2;cases h2
    ·rw[aa hi]at h1;cases h1
   ·unfold GF at g;by_cases hi3:i=3
    ·rw[ae hi3]at g;exact hs y g
    ·rw[aa hi3]at g;cases g
  have rU:=fx u rZ;apply cK rU.2.2.1;simp only[ec,bU];refine cx (uY 0 qZ) (cK rU.2.2.2.2 ?_);apply cK rU.2.2.1;simp only[ec,bU];refine cx (uY 4 qZ) (cK rU.2.1 ?_);refine NT (bO ra 1) (cK rU.1 ?_);apply cK rU.2.2.1;simp only[ec,bU];refine cx (uY 1 qZ) (cK rU.2.2.2.1 ?_);refine⟨?_,?_⟩
  ·apply LI hu.cal;refine⟨rU.2.2.2.1,rU.2.2.1,rU.1,rU.2.1,rU.2.2.1,?_,?_⟩
   ·refine sQ hu.led λgv u1 ht V=>?_;have r1:=fx u1 V;refine⟨r1.1,r1.2.1,r1.2.2.1,?_,?_⟩
    ·refine uu ht.m qZ λs u2 o2 m2 n2=>?_;have M:=V.trans m2;have J:=fx u2 M;refine⟨J.1,J.2.1,J.2.2.1,?_⟩;obtain⟨sa,sc,T,-⟩:=o2.isSl;apply cx (λW=>KF _ _ _ _ W ⟨_,_,_,T⟩);obtain⟨u3,e3,b3,F⟩:=Ds u2;apply bo e3;have r3:=fx u3 (M.trans F);refine⟨r3.1,r3.2.1,r3.2.2.1,?_⟩;have hs2:=V.size;have hs3:=m2.size;exact fin u3 _ s _ (M.trans F) b3 qZ (o2.mod F d9) (λy g=>⟨by have:=n2 y g;omega,by have:=o2.lt g;omega⟩) λz hW' mW' =>⟨_,s,rfl,hW',qZ,mW'⟩
    ·obtain⟨u2,e2',Q,t⟩:=Ds u1;apply bo e2';have J:=fx u2 (V.trans t);refine⟨J.1,J.2.1,J.2.2.1,?_⟩;refine uu (ht.m.mod t) qZ λs u3 o3 F n3=>?_;have M:=(V.trans t).trans F;have r3:=fx u3 M;refine⟨r3.1,r3.2.1,r3.2.2.1,?_⟩;obtain⟨sa,sc,T,-⟩:=o3.isSl;apply cx (λW=>KF _ _ _ _ W ⟨_,_,_,T⟩);have hs1:=V.size;have hs2:=aB Q;exact fin u3 _ s _ M (F.hpk Q id) qZ o3 (λy g=>⟨by have:=n3 y g;omega,by have:=n3 y g;omega⟩) λz hW' mW' =>⟨_,s,rfl,hW',qZ,mW'⟩
   ·obtain⟨u2,e2',Q,t⟩:=Ds u;apply bo e2';have J:=fx u2 t;refine⟨J.2.2.2.1,J.2.2.1,J.1,J.2.1,J.2.2.1,?_⟩;refine sQ (hu.md0 t).led λgv u1 ht V=>?_;have r1:=fx u1 (t.trans V);refine⟨r1.1,r1.2.1,r1.2.2.1,?_⟩;refine uu ht.m qZ λs u3 o3 F n3=>?_;have M:=(t.trans V).trans F;have r3:=fx u3 M;refine⟨r3.1,r3.2.1,r3.2.2.1,?_⟩;obtain⟨sa,sc,T,-⟩:=o3.isSl;apply cx (λW=>KF _ _ _ _ W ⟨_,_,_,T⟩);have hs1:=V.size;have hs2:=aB Q;exact fin u3 _ s _ M (F.hpk (V.hpk Q id) id) qZ o3 (λy g=>⟨by have:=n3 y g;omega,by have:=n3 y g;omega⟩) λz hW' mW' =>⟨_,s,rfl,hW',qZ,mW'⟩
  ·obtain⟨u2,e2',Q,t⟩:=Ds u;apply bo e2';have J:=fx u2 t;refine⟨J.2.2.2.1,J.2.2.1,J.1,J.2.1,J.2.2.1,J.2.2.2.2,J.2.2.1,?_⟩;apply LI (hu.md0 t).cal;refine⟨J.2.2.2.1,J.2.2.1,J.1,J.2.1,J.2.2.1,?_⟩;refine sQ (hu.md0 t).led λgv u1 ht V=>?_;have r1:=fx u1 (t.trans V);refine⟨r1.1,r1.2.1,r1.2.2.1,?_⟩;refine uu ht.m qZ λs u3 o3 F n3=>?_;have M:=(t.trans V).trans F;have r3:=fx u3 M;refine⟨r3.1,r3.2.1,r3.2.2.1,?_⟩;obtain⟨sa,sc,T,-⟩:=o3.isSl;apply cx (λW=>KF _ _ _ _ W ⟨_,_,_,T⟩);have hs1:=V.size;have hs2:=aB Q;exact fin u3 _ s _ M (F.hpk (V.hpk Q id) id) qZ o3 (λy g=>⟨by have:=n3 y g;omega,by have:=n3 y g;omega⟩) λz hW' mW' =>⟨_,s,rfl,hW',qZ,mW'⟩
 rintro _ w6 ⟨p,s,rfl,q6,hsb,m6⟩;refine kR ?_;intro _;have hs6:=m6.size;have h6:=h5.md0 m6;have g6:=m6.hpk g5 id;have p6:=m6.hpk p5 id;have M6:=M5.trans m6;apply bo (lv0 g6);simp only[ec,bU];refine bo (uY 0 qZ _) (bo (ld0 _ h6.blk) ?_);refine Ez h6.cal λgv w7 ht m7=>?_;have h7:=h6.md0 m7;have g7:=m7.hpk g6 id;have p7:=m7.hpk p6 id;have q7:=SB.modX q6 m7 d9;have M7:=M6.trans m7;have hfl:∀pt y,fp pt y->y<n0:=λpt y g=>by rw[hn0];exact h.lt g
 have hXlo:∀{G:Nat->Value} {W:Wt_} {C:List Ct} {P:List Po} {O B:List (Int×Od)},SB W p S.cal.day S.next S.led.fund G S.led.all C P O B L->∀y,XS G p y->L<=y:=λhh y g=>by
  rcases g with rfl|⟨i,hi,hj,g⟩
  ·exact hsb
  ·exact(hh.nw i y hi hj g).1
 have hs7:=m7.size;have hcl:S.cal.l.length<=16:=hok.cal.len;let I:(Nat->Prop)->Nat->World->Prop:=λX i W=>∃G,SB W p S.cal.day S.next S.led.fund G S.led.all (S.cal.l.take i) (zf S i) (wY S i) (wP S i) L/\∀y,X y↔XS G p y;refine V7 ?_;refine Qm (X0:=XS (GF s) p) (fv:=λk:Ct=>.agg (dA k).toArray) (asg:=λx W K=>rx pQ (uK jW) W λv w1=>yS pQ (rS jW v x) w1 λw2=>K v w2) (Pv:=HC jW dA) (xs:=S.cal.l) ht Mg Fv I (λ_ _ _=>False) ?_ (λ_ _ _ _ _ h=>h.elim) (λy g=>q7.ltX g) ⟨GF s,q7,λ_=>aG⟩ ?_ ?_ (λ_ _ _ _ _ h=>h.elim)
 ·rintro X i W z H ⟨G,i1,i2⟩ hm hX;exact⟨G,i1.modX hm λy g=>hX y ((i2 y).2 g),i2⟩
 ·rintro X i hi W q vv ⟨G,i1,i2⟩ mW hX hdq hqW ⟨rfl,zgq⟩ ⟨rec0,hrec⟩ KN KJ hKN hKJ;obtain⟨k,hk⟩:=di (S.cal.l[i]);have hk' :k=S.cal.l[i]'hi:=hk;rw[<-hk']at zgq;obtain⟨n,hn⟩:=di k.spec.num;have hi16:i<16:=by have:i<S.cal.l.length:=hi;omega
  have hct:=bR (l:=S.cal.l) hi;rw[<-hk']at hct;have hnt:=ak6 (S:=S) hi;have hnk:S.cal.l[i].spec.num=n:=by rw[hn,hk']
  rw[hnk]at hnt;have N:∀y,XS (GF s) p y->L<=y:=hXlo q7;have hW:=h7.mod mW λpt y g Y=>by have:=hfl pt y g;have:=N y Y;omega
  have gW:=mW.hpk g7 λY=>by have:=N _ Y;omega
  have hlX:∀y,XS G p y->y<q/\y≠w7.heap.size+1/\L<=y:=λy g=>by
   have h1:=hX y ((i2 y).2 g);refine⟨h1.1,?_,hXlo i1 y g⟩;rcases h1.2 with Z|Z
   ·have:=q7.ltX Z;omega
   ·omega
  refine ao (bO q 0) W (by simp[go_sem]) (ao (bO q 0) W (by simp[go_sem]) ?_);refine XE (gU n) zgq P3 hn ?_
  have hlay:∃W2,(W.alloc (.cells #[.int .u32 0] 45)).setCell ⟨W.heap.size,0,none⟩ (gU n)=W2/\M0 W W2/\hC W2 W.heap.size #[.int .u32 n] 45:=
   ⟨_,rfl,mG.setCell (.inr (aD _)) _ _,by simp[go_sem]⟩
  obtain⟨W2,hW2,mW2,bn⟩:=hlay;apply ao (bO W.heap.size 0) (W.alloc (.cells #[.int .u32 0] 45)) (by simp[go_sem]);apply nE W2 (by rw[<-hW2];simp[go_sem]);clear hW2;obtain⟨pn,hpn⟩:=di W.heap.size;rw[<-hpn]at bn|-;have hpnl:=aB bn;have i3:=i1.modX mW2 d9;have gq2:=mW2.hpk zgq id;have hV2:=hW.md0 mW2;have g2:=mW2.hpk gW id;have rc2:=mW2.keep (hrec:hp W _=_) id;have hsW2:=mW2.size;have hn0W:n0<W.heap.size:=aB gW;have hlW:w7.heap.size+1<W.heap.size:=qZ;have ln:∀{z},hC z pn #[.int .u32 n] 45->(iL 45 (bO pn 0)).run pQ z=.ok (gU n) z:=λhh=>by simp[go_sem,hh]
  have hnX:∀y,XS G p y->y≠n0/\y≠pn/\y≠w7.heap.size+1/\∀pt,¬fp pt y:=λy g=>by
   have h1:=hlX y g;have h2:=i1.ltX g;exact⟨qZ,qZ,h1.2.1,λpt Y=>by have:=hfl pt y Y;omega⟩
  let ST:World->Prop:=λz=>aR (XS G p) W2 z;have keep:∀{z},ST z->qs z v c l mb md A D fp S/\hC z n0 #[ec v] 24/\hC z pn #[.int .u32 n] 45/\(∃r,hp z (w7.heap.size+1)=some (.loop r)):=λm=>⟨hV2.mod m λpt y g Y=>(hnX y Y).2.2.2 pt g,m.hpk g2 λY=>(hnX _ Y).1 rfl,m.hpk bn λY=>(hnX _ Y).2.1 rfl,rec0,m.keep rc2 λY=>(hnX _ Y).2.2.1 rfl⟩
  have sub:∀{E:Nat->Value} {z W'' :Wt_},W2.heap.size<=z.heap.size->(∀y,XS E p y->XS G p y\/W2.heap.size<=y)->aR (XS E p) z W'' ->ST z->ST W'' :=by
   intro E z W'' hle hs m hst;exact aR.on (hst:aR (XS G p) W2 z) m λy g=>hs y g
  refine bo (Gy W2 4 qZ) (bo (i3.ld 4 qZ qZ) ?_);apply fH (dA k) 26 CP sI (bM k) (At.all gq2);refine KI (i:=4) qZ qZ (c:=dA k) i3 rfl (bM k) (kH k) (by show(S.cal.l.take i).length<=_;rw[az];omega) qZ (LN4 _ _ _ _ _ k) (LC4 _ _ _ _ _ k) λss1 W3 q3 m3 n3=>?_;have st3:ST W3:=m3;have U:M0 W3 W3.drew:=vz;have q4:=q3.modX U d9;have st4:ST W3.drew:=st3.trans (U.to);have hs4:W3.drew.heap.size=W3.heap.size:=rfl
  try dsimp only
  generalize W3.drew=W4 at U q4 st4 hs4|-;have hs23:=st4.size;obtain⟨hV4,g4,n4,-⟩:=keep st4;apply cK (lv0 g4);simp only[ec,bU];refine cx (uY 1 qZ) (cK (ld1 _ hV4.blk) ?_);apply cK (ln n4);refine wQ hV4.led (by have:=tJ hok.cal hok.led;omega) λgv5 W5 ht5 m5=>?_;have q5:=q4.modX m5 d9;have st5:ST W5:=st4.trans (m5.to);obtain⟨-,-,-,hrc5⟩:=keep st5;have hs5:=st5.size;obtain⟨H,hH⟩:=di (S.led.holders n);rw[<-hH]at ht5;have hHl:H.length<=64:=by rw[hH];exact qP R n
  have hpl:=Qf R i;refine V7 ?_
  refine Lj (l0:=w7.heap.size+1) (X0:=XS ss1 p) (fv:=nh) (asg:=λx W K=>rv pQ (iA 124 true (.tuple #[])) W λv w1=>ru pQ (iS 124 v x) w1 λw2=>K v w2) (Pv:=HC 124 dy) (xs:=H) hrc5 ht5.m (Bz oH.po) Fv
   (λX j z=>∃E,SB z p S.cal.day S.next S.led.fund E S.led.all (S.cal.l.take i++[k]) (zf S i++H.take j) (wY S i) (wP S i) L/\∀y,X y↔XS E p y) (λ_ _ _=>False) ?_ (λ_ _ _ _ _ h=>h.elim) (λy g=>q5.ltX g) ⟨ss1,by rw[cU,aN];exact q5,λ_=>aG⟩ ?_ ?_ (λ_ _ _ h=>h.elim)
  ·rintro X j z W'' H' ⟨E,j1,j2⟩ hm hX';exact⟨E,j1.modX hm λy g=>hX' y ((j2 y).2 g),j2⟩
  ·rintro X j hj W6 qv vv ⟨E,j1,j2⟩ mW6 hX6 hdq6 hqW6 ⟨rfl,gv6⟩ KN2 KJ2 hKN2 hKJ2;have htk:=bR (l:=H) hj;have lo6:L<=W6.heap.size:=by have:=mW6.size;omega
   refine bo (Gy W6 5 qZ) (bo (j1.ld 5 qZ qZ) ?_);have gv6' :=gv6;unfold dy at gv6';apply ao (nh H[j]) W6 (by simp[go_sem,gv6',nh]);refine KI (i:=5) qZ qZ (c:=dy H[j]) j1 rfl rfl rfl (by show(zf S i++H.take j).length<=_;rw[af,az];omega) lo6 (LN5 _ _ _ _ _ H[j]) (LC5 _ _ _ _ _ H[j]) λss2 W7 q7' m7' n7' =>?_;refine hKN2 (XS ss2 p) W7 ⟨ss2,by rw[htk,<-ar];exact q7',λ_=>aG⟩ (m7'.mono λy _ g=>(j2 y).2 g) λy g=>⟨(n7' y g).imp (j2 y).2 id,q7'.ltX g⟩
  ·rintro X W6 ⟨ss2,j1,j2⟩ mW6 hX6;rw[show H.take H.length=H from aK]at j1;have s12:∀y,XS ss1 p y->XS G p y\/W2.heap.size<=y:=n3
   have s2:∀y,XS ss2 p y->XS G p y\/W2.heap.size<=y:=λy g=>by
    rcases(hX6 y ((j2 y).2 g)).2 with Z|Z
    ·exact s12 y Z
    ·exact gr
   have st6:ST W6:=sub hs5 s12 mW6 st5;refine OT ?_;simp only[jR];have mdr6:M0 W6 W6.drew:=vz;have q6' :=j1.modX mdr6 d9;have st7:ST W6.drew:=st6.trans (mdr6.to)
   try dsimp only
   generalize W6.drew=W7 at mdr6 q6' st7|-;obtain⟨hV7,g7',n7',-⟩:=keep st7;apply cK (lv0 g7');simp only[ec,bU];have hsome:(cj S.cal.l n).isSome=true:=so.1 (by rw[hn];exact aX (by rw[hk];exact aq hi));obtain⟨b,hb,hB⟩:=lkB hV7 (n:=n) hsome;refine cx (uY 2 qZ) (cK (ld2 _ hV7.blk) ?_);apply cK (ln n7');apply sk (Ft hV7.mbk hb);refine AF hB λgv8 W8 ht8 m8=>?_;have q8:=q6'.modX m8 d9;have st8:ST W8:=st7.trans (m8.to);obtain⟨-,-,-,hrc8⟩:=keep st8;have hs8:=st8.size;obtain⟨Al,hAl⟩:=di ((S.bk n).all);have ht8' :pE gv8 (Al.map λo=>[kx o]) W8:=by rw[hAl];exact ht8
   have hAll:Al.length<=200:=by rw[hAl];exact hB.all.1
   have hol:=Cx hok.ord i;refine V7 ?_
   refine Lj (l0:=w7.heap.size+1) (X0:=XS ss2 p) (fv:=kx) (asg:=λx W K=>rv pQ (iA jG true (.tuple #[])) W λv w1=>ru pQ (iS jG v x) w1 λw2=>K v w2) (Pv:=HC jG dF) (xs:=Al) hrc8 ht8' (Bz oH.od) Fv
    (λX j z=>∃E,SB z p S.cal.day S.next S.led.fund E S.led.all (S.cal.l.take i++[k]) (zf S i++H) (wY S i++(Al.take j).map λo=>(n,o)) (wP S i) L/\(∀y,X y↔XS E p y)) (λ_ _ _=>False) ?_ (λ_ _ _ _ _ h=>h.elim) (λy g=>q8.ltX g) ⟨ss2,by simpa using q8,λ_=>aG⟩ ?_ ?_ (λ_ _ _ h=>h.elim)
   ·rintro X j z W'' H' ⟨E,j1,j2⟩ hm hX';exact⟨E,j1.modX hm λy g=>hX' y ((j2 y).2 g),j2⟩
   ·rintro X j hj W9 qv vv ⟨E,j1',j2'⟩ mW9 hX9 hdq9 hqW9 ⟨rfl,gv9⟩ KN2 KJ2 hKN2 hKJ2;have htk:=bR (l:=Al) hj;have lo9:L<=W9.heap.size:=by have:=mW9.size;omega
    have n9:=(keep (sub hs8 s2 mW9 st8)).2.2.1;refine bo (Gy W9 6 qZ) (bo (j1'.ld 6 qZ qZ) ?_);apply bo (ln n9);apply bo (lE (o:=Al[j]) (At.all gv9));apply bo (We n Al[j] W9);refine KI (i:=6) qZ qZ (c:=kC (n,Al[j])) j1' rfl rfl rfl (by show(wY S i++(Al.take j).map _).length<=_;rw[af,ah,az];omega) lo9 (LN6 _ _ _ _ _ (n,Al[j])) (LC6 _ _ _ _ _ (n,Al[j])) λss3 W10 q10 m10 n10=>?_;refine hKN2 (XS ss3 p) W10 ⟨ss3,by rw[htk,aM,<-ar];exact q10,λ_=>aG⟩ (m10.mono λy _ g=>(j2' y).2 g) λy g=>⟨(n10 y g).imp (j2' y).2 id,q10.ltX g⟩
   ·rintro X9 W9 ⟨ss3,j1',j2'⟩ mW9 hX9;rw[show Al.take Al.length=Al from aK]at j1'
    have s3:∀y,XS ss3 p y->XS G p y\/W2.heap.size<=y:=λy g=>by
     rcases(hX9 y ((j2' y).2 g)).2 with Z|Z
     ·exact s2 y Z
     ·exact gr
    have st9:ST W9:=sub hs8 s2 mW9 st8;refine OT ?_;simp only[jR];have mdr9:M0 W9 W9.drew:=vz;have q10:=j1'.modX mdr9 d9;have st10:ST W9.drew:=st9.trans (mdr9.to)
    try dsimp only
    generalize W9.drew=W10 at mdr9 q10 st10|-;obtain⟨hV10,g10,n10,-⟩:=keep st10;apply cK (lv0 g10);simp only[ec,bU];refine cx (uY 3 qZ) (cK (Xq _ hV10.blk) ?_);apply cK (ln n10);apply sk (Bc hV10.mbd n);obtain⟨Bd,hBd⟩:=di (S.bd n);have hBdl:Bd.length<=50:=by rw[hBd];exact hok.ord.bdl n
    have hbd10:qT W10 (lx D n) Bd:=by rw[hBd];exact hV10.bd n
    obtain⟨ba,bc,hbs,-⟩:=hbd10.isSl;apply lN (gI (Bd.length:Int)) (by rw[hbs];simp[go_sem]);have hbl:=BO hok.ord i;have hs10:=st10.size
    refine d8 (λst z=>∃(j:Nat) (E:Nat->Value),j<=Bd.length/\st=(gI j,())/\SB z p S.cal.day S.next S.led.fund E S.led.all (S.cal.l.take i++[k]) (zf S i++H) (wY S i++Al.map λo=>(n,o)) (wP S i++(Bd.take j).map λo=>(n,o)) L/\(∀y,XS E p y->XS G p y\/W2.heap.size<=y)/\ST z)
     (λst _=>match st.1 with| .int _ i=>Bd.length - i.toNat|_=>0) ⟨0,ss3,qZ,rfl,by simpa using q10,s3,st10⟩ ?_
    rintro _ W11 ⟨j,ss4,hj,rfl,t1,t2,t3⟩ KM hKM;refine lV ?_;intro _;obtain⟨hV11,g11,n11,-⟩:=keep t3;have hbd11:qT W11 (lx D n) Bd:=by rw[hBd];exact hV11.bd n
    have hs11:=t3.size;by_cases hlt:j<Bd.length
    ·have hlt' :(j:Int)<(Bd.length:Int):=qZ;refine dY hlt' ?_;obtain⟨pj,p1,p2'⟩:=Yr hbd11.rd hlt;refine bo p1 (bo p2' ?_);obtain⟨wa,ea,ba',ma⟩:=jY W11;apply bo ea;obtain⟨q9,hq9⟩:=di W11.heap.size;rw[<-hq9]at ba' |-;obtain⟨wb,eb,bb,mb'⟩:=jE (o' :=Bd[j]) ba';apply iE eb;have Mb:M0 W11 wb:=ma.on mb' λb hb=>gr;have tb:=t1.modX Mb d9;have stb:ST wb:=t3.trans (Mb.to);have nb:=(keep stb).2.2.1;have hsb' :=stb.size;refine bo (Gy wb 7 qZ) (bo (tb.ld 7 qZ qZ) ?_);apply bo (ln nb);apply bo (lE (o:=Bd[j]) (At.all bb));apply bo (We n Bd[j] wb);refine KI (i:=7) qZ qZ (c:=kC (n,Bd[j])) tb rfl rfl rfl (by show(wP S i++(Bd.take j).map _).length<=_;rw[af,ah,az];omega) qZ (LN7 _ _ _ _ _ (n,Bd[j])) (LC7 _ _ _ _ _ (n,Bd[j])) λss5 wc qc mc nc=>?_;apply ao (gI ((j+1:Nat):Int)) wc (by simp[go_sem];rw[mR]);refine hKM _ _ ⟨j+1,ss5,qZ,rfl,by rw[bR hlt,aM,<-ar];exact qc,λy g=>?_,sub hsb' t2 mc stb⟩ (by show Bd.length - (((j+1:Nat):Int)).toNat<Bd.length - ((j:Int)).toNat;omega);rcases nc y g with Z|Z
     ·exact t2 y Z
     ·exact gr
    ·obtain rfl:j=Bd.length:=qZ;refine eU ?_;rw[aK]at t1;refine hKN (XS ss4 p) W11 ⟨ss4,?_,λ_=>aG⟩ ((mW2.to).trans (t3.mono λy _ g=>(i2 y).2 g)) λy g=>⟨?_,t1.ltX g⟩
     ·have e1:zf S (i+1)=zf S i++H:=by unfold zf;rw[hnt,cE,hH];simp
      have e2:wY S (i+1)=wY S i++Al.map λo=>(n,o):=by unfold wY;rw[hnt,cE,hAl];simp
      have e3:wP S (i+1)=wP S i++Bd.map λo=>(n,o):=by unfold wP;rw[hnt,cE,hBd];simp
      rw[hct,e1,e2,e3];exact t1
     ·rcases t2 y g with Z|Z
      ·exact .inl ((i2 y).2 Z)
      ·exact gr
 ·rintro X W d hd ⟨G,i1,i2⟩ mW hdef hX
  have i1' :SB W p S.cal.day S.next S.led.fund G S.led.all S.cal.l (S.nums.flatMap S.led.holders) (S.nums.flatMap λn=>(S.bk n).all.map λo=>(n,o)) (S.nums.flatMap λn=>(S.bd n).map λo=>(n,o)) L:=by
   have e0:S.cal.l.length=S.nums.length:=by unfold bt.nums;rw[ah]
   have e1:zf S S.cal.l.length=S.nums.flatMap S.led.holders:=by unfold zf;rw[e0,aK]
   have e2:wY S S.cal.l.length=S.nums.flatMap λn=>(S.bk n).all.map λo=>(n,o):=by unfold wY;rw[e0,aK]
   have e3:wP S S.cal.l.length=S.nums.flatMap λn=>(S.bd n).map λo=>(n,o):=by unfold wP;rw[e0,aK]
   have i1'' :SB W p S.cal.day S.next S.led.fund G S.led.all (S.cal.l.take S.cal.l.length) (zf S S.cal.l.length) (wY S S.cal.l.length) (wP S S.cal.l.length) L:=i1;rw[aK,e1,e2,e3]at i1'';exact i1''
  have N:∀y,XS (GF s) p y->L<=y:=hXlo q7;have pW:=mW.hpk p7 λY=>by have:=N _ Y;omega
  refine OT ?_;simp only[jR];apply bo (Z9 i1'.at_)
  obtain⟨W2,e2',Q,t⟩:=YD (d:=S.cal.day) (n:=S.next) (f:=S.led.fund) (ss:=G) pW rfl λi hi hj=>by
   obtain⟨a,c,hs,-⟩:=(i1'.own i hi hj).isSl;exact⟨_,_,_,hs⟩
  apply iE e2'
  have hdX:¬XS G p d:=λY=>by
   rcases(hX d ((i2 d).2 Y)).2 with Z|Z
   ·have:=q7.ltX Z;omega
   ·omega
  refine zQ (t.hpk hdef qZ) λW3 F=>?_;apply cK (Z9 (F.hpk Q qZ));have hlo5:=M5.size;refine hK G p L W3 ((i1'.modX t λy g e=>by have:=hXlo i1' y g;omega).modX F λy g e=>hdX (e▸g)) qZ ?_ qZ;exact((M7.on mW λy g=>.inr (by have:=N y g;omega)).on t λy g=>gr).on F λy g=>gr
end
end Go.Proofs
namespace Go.Proofs
open Go Go.Vc
def kC1:Cm:={LG with kind:=1,acct:=1,amt:=1000}
end Go.Proofs
namespace Go.Proofs
open Go Go.Vc
attribute [local congr] bj
abbrev Zq:TypeId:=36
def UR:Tryz.prog.underlying Zq=some (.slice tA):=cV
def ZH{w:Wt_}{s:Vt_}{L:List Cm}(h:Rd w 35 s L.length (L.flatMap ny)){i:Nat}(hi:i<L.length):
  ∃b a,(∀W,(iX Zq s (gI (i:Int))).run pQ W=.ok (bO b a) W)/\At w b a (ny L[i]):=by
 obtain⟨b,a,e,c,d,f⟩:=h.item fL hi rfl;exact⟨b,a+i*35,λW=>by rw[c];simp[go_sem,hi,bK],f⟩
def LH{w:Wt_}{b off:Nat}{c:Cm}(h:At w b off (ny c)):(qE tA (bO b off)).run pQ w=.ok (zF c) w:=jh LS H9 (fL c) h
def bk1:Tryz.prog.built tA [(0,gB 1),(1,gU 1),(4,gI 1000)]=some (ny kC1).toArray:=cV
end Go.Proofs
namespace Go.Proofs.YtekbnpagidkbbaaGreat
open Go Go.Vc Go.Proofs Go.ChangeShapes Go.WideShapes Go.ChangeAt Go.RowKit
variable {n:Int}{c:List Value}{H:Type}{w:World}
def own:ownKnob Tryz.prog.godebug=none:=cV
def laidOut:laidOutB Tryz.prog=true:=cV
def list_choose{α β:Type}{f:β->α}{Q:β->Prop}:∀{L:List α},(∀c∈L,∃o,c=f o/\Q o)->∃l:List β,L=l.map f/\∀o∈l,Q o
 | [],_=>⟨[],rfl,by simp⟩
 |c::L,h=>by
  obtain⟨o,rfl,b⟩:=h c List.mem_cons_self;obtain⟨l,rfl,d⟩:=list_choose λc e=>h c (List.mem_cons_of_mem _ e);exact⟨o::l,rfl,λx a=>by rcases List.mem_cons.1 a with rfl|a;exact b;exact d x a⟩
def wfR(h:(Lit.int .i64 n).wf=true):ed n:=by
 simp[Lit.wf,IntKind.min,IntKind.max,IntKind.signed,IntKind.bits]at h;exact⟨qZ,qZ⟩
def wfU(h:(Lit.int .u32 n).wf=true):iU n:=by
 simp[Lit.wf,IntKind.min,IntKind.max,IntKind.signed,IntKind.bits]at h;exact⟨qZ,qZ⟩
def wfQ(h:(Lit.int .u64 n).wf=true):Np n:=by
 simp[Lit.wf,IntKind.min,IntKind.max,IntKind.signed,IntKind.bits]at h;exact⟨qZ,qZ⟩
def wf8(h:(Lit.int .u8 n).wf=true):0<=n/\n<256:=by
 simp[Lit.wf,IntKind.min,IntKind.max,IntKind.signed,IntKind.bits]at h;exact⟨qZ,qZ⟩
section
variable{H:Type}{enc:TypeId×Value->H}{w:World}{c:List Value}{fs:Array Field}
def Flds(enc:TypeId×Value->H)(w:World)(c:List Value)(fs:Array Field):Prop:=
 ∀f∈fs.toList,∃f' y,DataW.trod enc Tryz.prog w 0 (λ_=>true) true f' f.type ((c.drop f.offset).take (Tryz.prog.cellsOf f.type))=some y/\Wt Tryz.prog reachBytes f.type y.1
def Flds.int(h:Flds enc w c fs)(i:Nat){f:Field}(b:fs.toList[i]? =some f){k:IntKind}(d:Tryz.prog.underlying f.type=some (.int k))(g:Tryz.prog.cellsOf f.type=1):∃n,c.drop f.offset=.int k n::c.drop (f.offset+1)/\(Lit.int k n).wf=true:=by
 obtain⟨j,y,h1,-⟩:=h f (List.mem_of_getElem? b);rw[g]at h1;obtain⟨n,e,-,a⟩:=DataW.trod_int d h1;refine⟨n,?_,a⟩;rw[<-List.take_append_drop 1 (c.drop f.offset),e,List.drop_drop];rfl
def Flds.bool(h:Flds enc w c fs)(i:Nat){f:Field}(a:fs.toList[i]? =some f)(b:Tryz.prog.underlying f.type=some .bool)(d:Tryz.prog.cellsOf f.type=1):∃n,c.drop f.offset=.bool n::c.drop (f.offset+1):=by
 obtain⟨g,y,h1,-⟩:=h f (List.mem_of_getElem? a);rw[d]at h1;obtain⟨n,e,-⟩:=DataW.trod_bool b h1;refine⟨n,?_⟩;rw[<-List.take_append_drop 1 (c.drop f.offset),e,List.drop_drop];rfl
end
def drop_at{o n:Nat}{x:List Value}(h:(c.drop o).take n=x):c.drop o=x++c.drop (o+n):=by
 rw[<-h,<-List.drop_drop,List.take_append_drop]
def open_sp{enc:TypeId×Value->H}{f:Nat}{y:DataW H×List MemPlace}(hl:c.length=25)(h:DataW.trod enc Tryz.prog w 0 (λ_=>true) true f 48 c=some y)(hB:Wt Tryz.prog reachBytes 48 y.1):
  ∃o:Sp,c=eV o/\o.Fit:=by
 have a:Flds enc w c _:=DZ Tryz.underlying48 h hB;obtain⟨X,v,w0⟩:=a.int 0 rfl (k:=.u32) cV cV;obtain⟨n1,F,K⟩:=a.int 1 rfl (k:=.u8) cV cV;obtain⟨n2,D,w2⟩:=a.int 2 rfl (k:=.i64) cV cV;obtain⟨P,G,O⟩:=a.int 3 rfl (k:=.i64) cV cV;obtain⟨S,I,J⟩:=a.int 4 rfl (k:=.i64) cV cV;obtain⟨N,z,V⟩:=a.int 5 rfl (k:=.i64) cV cV;obtain⟨f6,y6,u,-⟩:=a _ (List.mem_of_getElem? (i:=6) rfl);obtain⟨n7,A,T⟩:=a.int 7 rfl (k:=.i64) cV cV;obtain⟨n8,E,w8⟩:=a.int 8 rfl (k:=.u32) cV cV;obtain⟨W,B,w9⟩:=a.int 9 rfl (k:=.i64) cV cV;simp only at v F D G I z A E B u;have b:Tryz.prog.cellsOf 46=16:=cV;have Y:Tryz.prog.cellsOf 2=1:=cV;rw[b]at u;obtain⟨xs,m,-,-,g,M,j⟩:=DataW.trod_array Tryz.underlying46 u;rw[b]at g;rw[Y]at j
 obtain⟨L,C,R⟩:=list_choose (L:=(c.drop 6).take 16) (f:=λn:Int=>Value.int .i64 n) (Q:=ed) λx t=>by
  obtain⟨i,s⟩:=List.getElem?_of_mem t;have d:=(List.getElem?_eq_some_iff.1 s).1;have h1:=j i qZ;rw[Nat.mul_one,List.getElem?_eq_getElem (l:=xs) qZ]at h1;obtain⟨n,e,-,Z⟩:=DataW.trod_int Tryz.underlying2 h1;refine⟨n,?_,wfR Z⟩;rw[List.drop_eq_getElem_cons d,List.take_succ_cons,List.take_zero]at e;rw[List.getElem?_eq_getElem d]at s;exact(Option.some.inj s).symm.trans (List.cons.inj e).1
 have p:L.length=16:=by have:=congrArg List.length C;rw[g,List.length_map]at this;omega
 refine⟨⟨X,n1,n2,P,S,N,⟨L.toArray,by simpa using p⟩,n7,n8,W⟩,?_,wfU w0,wf8 K,wfR w2,wfR O,wfR J,wfR V,λx j=>R x (by simpa using j),wfR T,wfU w8,wfR w9⟩;have U:=drop_at C;have r:c.drop 25=[]:=List.drop_eq_nil_of_le qZ;have q:c=c.drop 0:=rfl;rw[q,v,F,D,G,I,z,U,A,E,B,r];rfl
def open_cm{enc:TypeId×Value->H}{f:Nat}{y:DataW H×List MemPlace}(W:c.length=35)(h:DataW.trod enc Tryz.prog w 0 (λ_=>true) true f 51 c=some y)(S:Wt Tryz.prog reachBytes 51 y.1):
  ∃o:Cm,c=ny o/\o.Fit:=by
 have a:Flds enc w c _:=DZ Tryz.underlying51 h S;obtain⟨J,p,M⟩:=a.int 0 rfl (k:=.u8) cV cV;obtain⟨Q,x,C⟩:=a.int 1 rfl (k:=.u32) cV cV;obtain⟨U,u,T⟩:=a.int 2 rfl (k:=.u32) cV cV;obtain⟨F,z,E⟩:=a.int 3 rfl (k:=.u64) cV cV;obtain⟨G,A,B⟩:=a.int 4 rfl (k:=.i64) cV cV;obtain⟨X,V,j,q⟩:=a _ (List.mem_of_getElem? (i:=5) rfl);obtain⟨K,t⟩:=a.bool 6 rfl cV cV;obtain⟨L,r⟩:=a.bool 7 rfl cV cV;obtain⟨O,v,P⟩:=a.int 8 rfl (k:=.u8) cV cV;obtain⟨I,s,R⟩:=a.int 9 rfl (k:=.i64) cV cV;obtain⟨g,b,n⟩:=a.int 10 rfl (k:=.i64) cV cV;simp only at p x u z A t r v s b j q;have m:Tryz.prog.cellsOf 48=25:=cV;rw[m]at j;obtain⟨sp,N,d⟩:=open_sp (by rw[List.length_take,List.length_drop];omega) j q;refine⟨⟨J,Q,U,F,G,sp,K,L,O,I,g⟩,?_,wf8 M,wfU C,wfU T,wfQ E,wfR B,d,wf8 P,wfR R,wfR n⟩;have D:=drop_at N;have e:c.drop 35=[]:=List.drop_eq_nil_of_le qZ;have l:c=c.drop 0:=rfl;rw[l,p,x,u,z,A,D,t,r,v,s,b,e];rfl
def open_cms{enc:TypeId×Value->H}{v0:Value}{j:DataW H}{p:List MemPlace}{d:Nat}(a:Value.okWide Tryz.prog w .any d 36 v0)(g:∃b,DataW.trod enc Tryz.prog w 0 (λ_=>true) true b 36 v0.cells.toList=some (j,p))
  (q:Wt Tryz.prog reachBytes 36 j):∃l:List Cm,Rd w 35 v0 l.length (l.flatMap ny)/\∀x∈l,x.Fit:=by
 have h:v0.cells.toList=[v0]:=by
  unfold Value.okWide at a;rw[Tryz.underlying36]at a;simp only[Cell.okWide,Tryz.underlying36]at a;unfold Cell.ok at a;rw[Tryz.underlying36]at a;cases v0<;>first|rfl|exact a.elim
 obtain⟨b,g⟩:=g;rw[h]at g;obtain⟨v,e,L,k,-,n⟩:=U6 (sz:=35) Tryz.underlying36 cV qZ g q;cases e
 obtain⟨l,rfl,i⟩:=list_choose (f:=ny) (Q:=Cm.Fit) λc r=>by
  obtain⟨h1,s,y,m,o⟩:=n c r;exact open_cm h1 m o
 rw[List.length_map,<-List.flatMap_def]at k;exact⟨l,k,i⟩
end Go.Proofs.YtekbnpagidkbbaaGreat
