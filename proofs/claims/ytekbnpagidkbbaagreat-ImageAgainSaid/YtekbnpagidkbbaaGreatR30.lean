/- The statement ImageAgain: for every input the law ImageAgain returns true, and its arguments read as they did. Conditions: none. -/
import Derived.Test.YtekbnpagidkbbaaGreatR29
set_option linter.all false
set_option maxRecDepth 100000
set_option maxHeartbeats 4000000
namespace Go.Proofs
open Go Go.Vc
def DK{α:Type}(f:List UInt8->Rs->α×Rs)(x:α)(b:List UInt8):Prop:=∀L a r,L=a++(b++r)->f L ⟨a.length,0⟩=(x,⟨(a++b).length,0⟩)
def sR{n most:Nat}(h:n<=most)(c:n<18446744073709551616):DK (λl=>fd l most) n (iM n):=λL a r b=>by
 show fd L most ⟨a.length,0⟩=_;unfold fd;rw[aa (by simp)];simp only;have e:L.drop a.length=iM n++r:=by rw[b,da]
 rw[e,O4 r c];simp only;rw[aa qZ,af]
def ni{x:Int}{most:Nat}(b:0<=x)(h:x<=most)(d:most<18446744073709551616):DK (λl=>eH l most) x (dJ x):=λL a r c=>by
 have:=sR (n:=x.toNat) (most:=most) qZ qZ L a r c;simp only at this;show eH L most ⟨a.length,0⟩=_;unfold eH;rw[this];simp only;rw[Int.toNat_of_nonneg b];rfl
def Ed{x:Int}(h:ed x):DK kB x (lS x):=λL a r b=>by
 have:=sR (n:=PC x) (most:=18446744073709551615) (by have:=EI h;omega) (EI h) L a r b;simp only at this;unfold kB;rw[this];simp only;rw[VK];rfl
def Kj(f:Bool):DK rQ f (qO f):=λL a r b=>by
 unfold rQ;rw[aa (by simp)];have d:L.length=a.length+(1+r.length):=by rw[b];simp[qO];omega
 rw[aa (by simp only;omega)]
 have c:L.getD a.length 0=if f then 1 else 0:=by
  rw[b];simp[List.getD,qO]
 simp only;rw[c];cases f
 ·grind
 ·grind
def ra{a b c r:List UInt8}:a++(b++c++r)=(a++b)++(c++r):=by simp
def Ch:∀v:List Int,(∀x∈v,ed x)->DK (λl=>ii l v.length) v (v.flatMap lS)
 | [],h=>λL a r b=>by simp[ii]
 |x::v,h=>λL a r b=>by
  have h1:=Ed (h x (by simp)) L a (v.flatMap lS++r) (by rw[b];simp);have c:=Ch v (λy d=>h y (by simp[d])) L (a++lS x) r (by rw[b];simp);simp only at c;show((kB L ⟨a.length,0⟩).1::(ii L v.length (kB L ⟨a.length,0⟩).2).1,(ii L v.length (kB L ⟨a.length,0⟩).2).2)=_;rw[h1];simp only;rw[c];simp
def ZD(x:Sp)(h:x.shifts.toList.toArray.size=16):(⟨x.num,x.route,x.tick,x.lot,x.band,x.limit,⟨x.shifts.toList.toArray,h⟩,x.credit,x.last,x.first⟩:Sp)=x:=by
 obtain⟨_,_,_,_,_,_,⟨⟨b⟩,a⟩,_,_,_⟩:=x;rfl
def PE{x:Sp}(A:x.Fit)(f:x.may=true):DK CM x (Jh x):=λL a r b=>by
 obtain⟨k,E,G,F,B,D,z,v,t,h⟩:=A;have c:=f;unfold Sp.may wz aY at c;simp only[ai,aS]at c;have H:0<=x.credit:=qZ;have i:0<=x.first:=qZ;unfold Jh at b|-;rw[ae f]at b|-;unfold ed at G F B D v h;have y:x.tick<=(oP:Nat):=by unfold oP;omega
 have C:x.lot<=(oP:Nat):=by unfold oP;omega
 have u:x.band<=(oP:Nat):=by unfold oP;omega
 have w:x.limit<=(oP:Nat):=by unfold oP;omega
 have b8:x.credit<=(oP:Nat):=by unfold oP;omega
 have g:x.first<=(oP:Nat):=by unfold oP;omega
 have h1:=ni (x:=x.num) (most:=FN) k.1 (by have:=k.2;unfold FN;omega) (by decide) L a (dJ x.route++(dJ x.tick++(dJ x.lot++(dJ x.band++(dJ x.limit++(x.shifts.toList.flatMap lS++(dJ x.credit++(dJ x.last++(dJ x.first++r))))))))) (by rw[b];simp);have j:=ni (x:=x.route) (most:=255) E.1 qZ (by decide) L (a++dJ x.num) (dJ x.tick++(dJ x.lot++(dJ x.band++(dJ x.limit++(x.shifts.toList.flatMap lS++(dJ x.credit++(dJ x.last++(dJ x.first++r)))))))) (by rw[b];simp);have p:=ni (x:=x.tick) (most:=oP) qZ y (by decide) L (a++dJ x.num++dJ x.route) (dJ x.lot++(dJ x.band++(dJ x.limit++(x.shifts.toList.flatMap lS++(dJ x.credit++(dJ x.last++(dJ x.first++r))))))) (by rw[b];simp);have l:=ni (x:=x.lot) (most:=oP) qZ C (by decide) L (a++dJ x.num++dJ x.route++dJ x.tick) (dJ x.band++(dJ x.limit++(x.shifts.toList.flatMap lS++(dJ x.credit++(dJ x.last++(dJ x.first++r)))))) (by rw[b];simp);have n:=ni (x:=x.band) (most:=oP) qZ u (by decide) L (a++dJ x.num++dJ x.route++dJ x.tick++dJ x.lot) (dJ x.limit++(x.shifts.toList.flatMap lS++(dJ x.credit++(dJ x.last++(dJ x.first++r))))) (by rw[b];simp);have q:=ni (x:=x.limit) (most:=oP) qZ w (by decide) L (a++dJ x.num++dJ x.route++dJ x.tick++dJ x.lot++dJ x.band) (x.shifts.toList.flatMap lS++(dJ x.credit++(dJ x.last++(dJ x.first++r)))) (by rw[b];simp);have m:=Ch x.shifts.toList z L (a++dJ x.num++dJ x.route++dJ x.tick++dJ x.lot++dJ x.band++dJ x.limit) (dJ x.credit++(dJ x.last++(dJ x.first++r))) (by rw[b];simp);have o:=ni (x:=x.credit) (most:=oP) H b8 (by decide) L (a++dJ x.num++dJ x.route++dJ x.tick++dJ x.lot++dJ x.band++dJ x.limit++x.shifts.toList.flatMap lS) (dJ x.last++(dJ x.first++r)) (by rw[b];simp);have s:=ni (x:=x.last) (most:=FN) t.1 (by have:=t.2;unfold FN;omega) (by decide) L (a++dJ x.num++dJ x.route++dJ x.tick++dJ x.lot++dJ x.band++dJ x.limit++x.shifts.toList.flatMap lS++dJ x.credit) (dJ x.first++r) (by rw[b];simp);have d:=ni (x:=x.first) (most:=oP) i g (by decide) L (a++dJ x.num++dJ x.route++dJ x.tick++dJ x.lot++dJ x.band++dJ x.limit++x.shifts.toList.flatMap lS++dJ x.credit++dJ x.last) r (by rw[b];simp);simp only[Vector.length_toList]at h1 j p l n q m o s d
 have e:tI L ⟨a.length,0⟩=(x,⟨(a++Jh x).length,0⟩):=by
  unfold tI;simp only[h1,j,p,l,n,q,m,o,s,d];unfold Jh;rw[ae f];simp;exact ZD x _
 unfold CM;rw[e];simp only;rw[ae f];unfold Jh;rw[ae f]
end Go.Proofs
namespace Go.Proofs
open Go Go.Vc
def MN{s:uR}(h:wu s):∀k∈s.cts,k.spec.may=true:=λk b=>by
 obtain⟨c,d,e,a⟩:=(sr h.cts).1 k b;unfold Sp.isPrice at a;exact(ai _ _▸a).1
def N3{s:uR}{S:bt}(h:tn s=some S):s.accts.length<=64/\s.cts.length<=16/\∀k∈s.cts,k.spec.may=true:=by
 obtain⟨a,-,-,-⟩:=UI h;exact⟨a.led.len,a.len,MN a⟩
end Go.Proofs
namespace Go.Proofs
open Go Go.Vc
def qR(r:Nat)(s:Vt_)(l t:List UInt8):As:=⟨λw F=>jF w s l/\(∃a,l=a++t/\gJ w r s l ⟨a.length,0⟩)/\¬aF s r/\∀b,F b↔b=r\/aF s b,
 λ⟨h,⟨a,_,h2⟩,_,h3⟩ hb=>((h3 _).1 hb).elim (λe=>e▸h2.lt) h.lt,
 λ⟨h,⟨a,e,h2⟩,hn,h3⟩ m hg=>⟨h.mod m λb hb=>hg b ((h3 b).2 (.inr hb)),⟨a,e,h2.mod m (hg _ ((h3 _).2 (.inl rfl))) λb hb=>hg b ((h3 b).2 (.inr hb.sl))⟩,hn,h3⟩⟩
abbrev wU(c r:Nat):As:=pt c [iW r] 199
section
variable{L L0 M:List As}{K:Value->WP}{r c n most:Nat}{s val:Vt_}{l t b:List UInt8}{f:FuncId}{args:Array Value}{x m:Int}{g:Bool}
def xj(z:∀w a,gJ w r s (a++(b++t)) ⟨a.length,0⟩->∀K:aZ,(∀d,gJ d r s (a++(b++t)) ⟨(a++b).length,0⟩->aR (λy=>y=r) w d->K val d)->Ca pQ f args w K)
  (q:Gs (qR r s l t::M) (K val))(p:eG L (qR r s l (b++t)::M)):Gs L (Cw pQ f args K):=
 Gs.call (val:=λ_:Unit=>val) (p:=λ_=>True) (B:=λ_=>qR r s l t) p (λw F ⟨h,⟨a,e,o⟩,k,j⟩ K v=>by
  subst e;exact z w a o K λd u m=>v () d F trivial ⟨h.mod m λy i e=>k (e▸i),⟨a++b,by simp,u⟩,k,j⟩ (m.mono λy _ e=>(j y).2 (.inl e)) λy i=>.inl i) λ_ _=>q
def rK(i:m=most)(h:n<=most)(q:most<18446744073709551616)(j:Gs (qR r s l t::M) (K (gQ (n:Int))))(p:eG L (qR r s l (iM n++t)::M):=by exact fR):Gs L (Cw pQ 67 #[iW r,gQ m] K):=by
 subst i;refine xj (λw a o K u=>qD o q λk d m=>?_) j p;have e:=sR h qZ _ a t rfl;simp only at e;rw[e]at d|-;exact u k d m
def Ud(h:n<18446744073709551616)(i:Gs (qR r s l t::M) (K (gQ (n:Int))))(p:eG L (qR r s l (iM n++t)::M):=by exact fR):Gs L (Cw pQ 68 #[iW r] K):=by
 refine xj (λw a k K o=>K9 k λj d m=>?_) i p;have e:=sR (most:=18446744073709551615) qZ h _ a t rfl;simp only at e;rw[e]at d|-;exact o j d m
def L5(h:Np x)(a:Gs (qR r s l t::M) (K (gQ x)))(p:eG L (qR r s l (dJ x++t)::M):=by exact fR):Gs L (Cw pQ 68 #[iW r] K):=by
 unfold dJ at p;refine Ud (n:=x.toNat) (by have:=h.2;omega) ?_ p;rw[Int.toNat_of_nonneg h.1];exact a
def tV(h:ed x)(i:Gs (qR r s l t::M) (K (gI x)))(p:eG L (qR r s l (lS x++t)::M):=by exact fR):Gs L (Cw pQ 107 #[iW r] K):=by
 refine xj (λw a k K o=>Lp k λj d m=>?_) i p;have e:=Ed h _ a t rfl;rw[e]at d|-;exact o j d m
def Cq(h:Gs (qR r s l t::M) (K (.bool g)))(p:eG L (qR r s l (qO g++t)::M):=by exact fR):Gs L (Cw pQ 110 #[iW r] K):=by
 refine xj (λw a j K k=>Pi j λi d m=>?_) h p;have e:=Kj g _ a t rfl;rw[e]at d|-;exact k i d m
def yd(i:Gs L (K (gI (t.length:Int))))(p:eG L (qR r s l t::M):=by exact fR):Gs L (Cw pQ 193 #[iW r] K):=⟨λw y=>(iK p y).elim λF ⟨_,⟨a,e,h⟩,_⟩=>Qr h λd m=>by
 have:l.length - a.length=t.length:=by rw[e,af];omega
 show K (gI ((l.length - a.length:Nat):Int)) d;rw[this];exact i.go d (y.md0 m)⟩
def vE(d:Gs L (K (gI 0)))(p:eG L (qR r s l []::M):=by exact fR):Gs L (Cw pQ 70 #[iW r] K):=⟨λw y=>(iK p y).elim λF ⟨_,⟨a,e,h⟩,_⟩=>Uq h λi m=>by
 have:zr l ⟨a.length,0⟩=0:=by unfold zr;rw[aa (by rw[e];simp)]
 rw[this];exact d.go i (y.md0 m)⟩
def U4(o:l.length<=1000000000)(d:∀r,Gs (qR r s l l::M) (K (iW r)))(p:eG L (ow s 5 1 l.length (bv l)::M):=by exact fR):Gs L (Cw pQ 65 #[s] K):=
 Gs.call (val:=λr=>iW r) (p:=λ_=>True) (B:=λr=>qR r s l l) p (λw F ⟨h,u⟩ K q=>ER h.rd o λj i m=>q w.heap.size j (λy=>y=w.heap.size\/aF s y) trivial ⟨h.mod m d9,⟨[],rfl,i⟩,λa=>Nat.lt_irrefl _ (h.lt a),λ_=>aG⟩ (m.to) λy k=>k.elim (λe=>.inr qZ) λa=>.inl ((u y).2 a)) λr _=>d r
def Gs.rdo{φ:WP}(h:Gs (ow s 5 1 l.length (bv l)::M) φ)(p:eG L (qR r s l t::M):=by exact fR):Gs L φ:=Gs.pk ⟨λw y=>by
 obtain⟨k,a,⟨h1,_,_,e⟩,d,i⟩:=Ss.cons.1 y;exact h.go w (Ss.cons.2 ⟨_,a,⟨h1,λ_=>aG⟩,d,λb j=>i b ((e b).2 (.inr j))⟩)⟩ p
def vW(h:iU x)(a:Gs (qR r s l t::M) (K (gU x)))(p:eG L (qR r s l (dJ x++t)::M):=by exact fR):Gs L (Cw pQ 106 #[.agg #[iW r]] K):=by
 unfold dJ at p;refine Gs.pk ?_ p;refine sN Tryz.func106 ?_;refine au ?_;intro c;refine au ?_;refine rK (n:=x.toNat) (most:=4294967295) rfl (by have:=h.2;omega) (by decide) ?_;rw[Int.toNat_of_nonneg h.1];refine Gs.V (v:=gU x) (λw _=>by simp[go_sem];rw[IntKind.wrap_u32];exact Int.emod_eq_of_lt h.1 h.2) ?_;exact a.fin
end
end Go.Proofs
namespace Go.Proofs
open Go Go.Vc
section
variable{L L0 M:List As}{K:Value->WP}{r c n most:Nat}{s fv:Vt_}{l t b:List UInt8}{m:Int}
def UW{x:Ac}(h:iU x.num/\ed x.cash)(a:Gs (qR r s l t::wU c r::M) (K (jX x)))(p:eG L (qR r s l (Gr x++t)::wU c r::M):=by exact iP):Gs L (Cw pQ 109 #[.pointer (some ⟨c,0,none⟩)] K):=by
 unfold Gr at p;simp only[ar]at p;refine Gs.pk ?_ p;refine sN Tryz.func109 ?_;refine au ?_;intro b;refine au ?_;refine vW h.1 ?_;refine au ?_;refine tV h.2 ?_;refine au ?_;refine Cq ?_;refine au ?_;refine Cq ?_;refine au ?_;exact a.fin
def UL{x:Po}(h:(iU x.c/\iU x.a)/\ed x.q/\ed x.b)(a:Gs (qR r s l t::wU c r::M) (K (nh x)))(p:eG L (qR r s l (GK x++t)::wU c r::M):=by exact iP):Gs L (Cw pQ 115 #[.pointer (some ⟨c,0,none⟩)] K):=by
 unfold GK at p;simp only[ar]at p;refine Gs.pk ?_ p;refine sN Tryz.func115 ?_;refine au ?_;intro b;refine au ?_;refine vW h.1.1 ?_;refine au ?_;refine vW h.1.2 ?_;refine au ?_;refine tV h.2.1 ?_;refine au ?_;refine tV h.2.2 ?_;refine au ?_;exact a.fin
def Lx{x:Int×Od}(h:iU x.1/\x.2.Fit)(d:Gs (qR r s l t::M) (K (.agg (kC x).toArray)))(p:eG L (qR r s l (Cs x++t)::M):=by exact iP):Gs L (Cw pQ 117 #[.agg #[iW r]] K):=by
 unfold Cs at p;simp only[ar]at p;refine Gs.pk ?_ p;refine sN Tryz.func117 ?_;obtain⟨h1,e,i,f,g⟩:=h;refine au ?_;intro a;refine au ?_;intro b;refine au ?_;refine vW h1 ?_;refine au ?_;refine L5 e ?_;refine au ?_;refine vW i ?_;refine au ?_;refine Cq ?_;refine au ?_;refine tV f ?_;refine au ?_;refine tV g ?_;refine au ?_;exact d.fin
def JT{xs:List Ac}(G:m=most)(F:xs.length<=most)(I:most<100000)
  (C:∀x∈xs,∀t K L,Gs (qR r s l t::wU c r::L) (K (jX x))->Gs (qR r s l (Gr x++t)::wU c r::L) (Fw pQ fv [] K))
  (B:∀a k,Gs (ow (.slice a xs.length k) 100 4 xs.length (xs.flatMap cY)::qR r s l t::wU c r::M) (K (.slice a xs.length k)))(p:eG L (qR r s l (xf Gr xs++t)::wU c r::M):=by exact iP):
  Gs L (Cw pQ 108 #[.agg #[iW r],gQ m,fv] K):=by
 unfold xf at p;rw[ar]at p;refine Gs.pk ?_ p;refine sN Tryz.func108 ?_;refine au ?_;intro d;refine au ?_;refine rK G F qZ ?_;refine Gs.nilF 100 4 cY ?_;refine Gs.l (λy:Nat×(Option Addr×Nat)=>(.slice y.2.1 (xs.take y.1).length y.2.2,gQ y.1,())) (xs.length - ·.1) (λy=>ow (.slice y.2.1 (xs.take y.1).length y.2.2) 100 4 (xs.take y.1).length ((xs.take y.1).flatMap cY)::qR r s l ((xs.drop y.1).flatMap Gr++t)::wU c r::wU d r::M) (λy=>y.1<=xs.length) (0,none,0) rfl (aH _) ?_ (by simp only[cU,dW,List.length_nil,cC];exact iP);rintro⟨i,a,k⟩ E H g
 dsimp only at E|-
 refine Gs.z (au ?_);refine Gs.I (λh=>?_) λh=>?_
 ·have j:i<xs.length:=qZ;rw[cD j,bm,ar];have w:=aq j;have z:xs.take i++[xs[i]]=xs.take (i+1):=List.take_append_getElem j;have D:(xs.take i).length<=100000:=by rw[az];omega
  have g:=λo u=>g (i+1,o,u) j (by dsimp only;omega)
  dsimp only at g
  generalize xs[i]=x at w z|-;generalize(xs.drop (i+1)).flatMap Gr++t=T at g|-;refine Gs.pk (C _ w _ _ _ ?_) iP;refine au ?_;intro e;refine au ?_;refine Gs.j1 (.bool false,()) (λJ v=>?_) ?_
  ·refine au ?_;refine yd ?_;refine au ?_;refine Gs.I (λA=>?_) λ_=>v;have q:T=[]:=by simpa using A
   rw[q]at v|-;refine au ?_;refine vE ?_;refine au ?_;exact v
  refine Gs.z (au ?_);refine Gs.push (l:=xs.take i) (x:=x) (f:=cY) cV (show fY pQ 100 4 24=true by kernel_rfl) (λ_=>rfl) rfl rfl qZ qZ (λo u=>?_) iP;rw[z];refine au ?_;exact(g o u).fin
 ·obtain rfl:i=xs.length:=qZ;rw[eE,aK,cC,dL];exact(B a k).fin
def Jf{xs:List Po}(G:m=most)(F:xs.length<=most)(I:most<100000)
  (C:∀x∈xs,∀t K L,Gs (qR r s l t::wU c r::L) (K (nh x))->Gs (qR r s l (GK x++t)::wU c r::L) (Fw pQ fv [] K))
  (B:∀a k,Gs (ow (.slice a xs.length k) 124 4 xs.length (xs.flatMap dy)::qR r s l t::wU c r::M) (K (.slice a xs.length k)))(p:eG L (qR r s l (xf GK xs++t)::wU c r::M):=by exact iP):
  Gs L (Cw pQ 114 #[.agg #[iW r],gQ m,fv] K):=by
 unfold xf at p;rw[ar]at p;refine Gs.pk ?_ p;refine sN Tryz.func114 ?_;refine au ?_;intro d;refine au ?_;refine rK G F qZ ?_;refine Gs.nilF 124 4 dy ?_;refine Gs.l (λy:Nat×(Option Addr×Nat)=>(.slice y.2.1 (xs.take y.1).length y.2.2,gQ y.1,())) (xs.length - ·.1) (λy=>ow (.slice y.2.1 (xs.take y.1).length y.2.2) 124 4 (xs.take y.1).length ((xs.take y.1).flatMap dy)::qR r s l ((xs.drop y.1).flatMap GK++t)::wU c r::wU d r::M) (λy=>y.1<=xs.length) (0,none,0) rfl (aH _) ?_ (by simp only[cU,dW,List.length_nil,cC];exact iP);rintro⟨i,a,k⟩ E H g
 dsimp only at E|-
 refine Gs.z (au ?_);refine Gs.I (λh=>?_) λh=>?_
 ·have j:i<xs.length:=qZ;rw[cD j,bm,ar];have w:=aq j;have z:xs.take i++[xs[i]]=xs.take (i+1):=List.take_append_getElem j;have D:(xs.take i).length<=100000:=by rw[az];omega
  have g:=λo u=>g (i+1,o,u) j (by dsimp only;omega)
  dsimp only at g
  generalize xs[i]=x at w z|-;generalize(xs.drop (i+1)).flatMap GK++t=T at g|-;refine Gs.pk (C _ w _ _ _ ?_) iP;refine au ?_;intro e;refine au ?_;refine Gs.j1 (.bool false,()) (λJ v=>?_) ?_
  ·refine au ?_;refine yd ?_;refine au ?_;refine Gs.I (λA=>?_) λ_=>v;have q:T=[]:=by simpa using A
   rw[q]at v|-;refine au ?_;refine vE ?_;refine au ?_;exact v
  refine Gs.z (au ?_);refine Gs.push (l:=xs.take i) (x:=x) (f:=dy) cV (show fY pQ 124 4 24=true by kernel_rfl) (λ_=>rfl) rfl rfl qZ qZ (λo u=>?_) iP;rw[z];refine au ?_;exact(g o u).fin
 ·obtain rfl:i=xs.length:=qZ;rw[eE,aK,cC,dL];exact(B a k).fin
def CB{xs:List (Int×Od)}(G:m=most)(F:xs.length<=most)(I:most<100000)
  (C:∀x∈xs,∀t K L,Gs (qR r s l t::wU c r::L) (K (.agg #[.int .u32 x.1,gQ x.2.num,gU x.2.acct,.bool x.2.buy,gI x.2.price,gI x.2.left]))->Gs (qR r s l (Cs x++t)::wU c r::L) (Fw pQ fv [] K))
  (B:∀a k,Gs (ow (.slice a xs.length k) 132 6 xs.length (xs.flatMap kC)::qR r s l t::wU c r::M) (K (.slice a xs.length k)))(p:eG L (qR r s l (xf Cs xs++t)::wU c r::M):=by exact iP):
  Gs L (Cw pQ 116 #[.agg #[iW r],gQ m,fv] K):=by
 unfold xf at p;rw[ar]at p;refine Gs.pk ?_ p;refine sN Tryz.func116 ?_;refine au ?_;intro d;refine au ?_;refine rK G F qZ ?_;refine Gs.nilF 132 6 kC ?_;refine Gs.l (λy:Nat×(Option Addr×Nat)=>(.slice y.2.1 (xs.take y.1).length y.2.2,gQ y.1,())) (xs.length - ·.1) (λy=>ow (.slice y.2.1 (xs.take y.1).length y.2.2) 132 6 (xs.take y.1).length ((xs.take y.1).flatMap kC)::qR r s l ((xs.drop y.1).flatMap Cs++t)::wU c r::wU d r::M) (λy=>y.1<=xs.length) (0,none,0) rfl (aH _) ?_ (by simp only[cU,dW,List.length_nil,cC];exact iP);rintro⟨i,a,k⟩ E H g
 dsimp only at E|-
 refine Gs.z (au ?_);refine Gs.I (λh=>?_) λh=>?_
 ·have j:i<xs.length:=qZ;rw[cD j,bm,ar];have w:=aq j;have z:xs.take i++[xs[i]]=xs.take (i+1):=List.take_append_getElem j;have D:(xs.take i).length<=100000:=by rw[az];omega
  have g:=λo u=>g (i+1,o,u) j (by dsimp only;omega)
  dsimp only at g
  generalize xs[i]=x at w z|-;generalize(xs.drop (i+1)).flatMap Cs++t=T at g|-;refine Gs.pk (C _ w _ _ _ ?_) iP;refine au ?_;intro e;refine au ?_;refine Gs.j1 (.bool false,()) (λJ v=>?_) ?_
  ·refine au ?_;refine yd ?_;refine au ?_;refine Gs.I (λA=>?_) λ_=>v;have q:T=[]:=by simpa using A
   rw[q]at v|-;refine au ?_;refine vE ?_;refine au ?_;exact v
  refine Gs.z (au ?_);refine Gs.push (l:=xs.take i) (x:=x) (f:=kC) cV (show fY pQ 132 6 40=true by kernel_rfl) (λ_=>rfl) rfl rfl qZ qZ (λo u=>?_) iP;rw[z];refine au ?_;exact(g o u).fin
 ·obtain rfl:i=xs.length:=qZ;rw[eE,aK,cC,dL];exact(B a k).fin
end
end Go.Proofs
namespace Go.Proofs
open Go Go.Vc
def Yh:jf pQ jW=dA ⟨uv,0,0⟩:=cV
def ae6(k:Ct):(dA k)[25]? =some (gB k.st)/\(dA k)[26]? =some (gI k.price):=by
 unfold dA;constructor<;>(rw[bp (by rw[br];omega),br];rfl)
def Z0(k:Ct)(x:Int):(dA k).set 25 (gB x)=dA {k with st:=x}/\(dA k).set 26 (gI x)=dA {k with price:=x}:=by
 unfold dA;constructor<;>(rw[cI _ _ (by rw[br];omega),br];rfl)
def ad4(k:Ct)(s:Sp):jp (dA k) 0 (eV s)=dA {k with spec:=s}:=by
 unfold dA;simp[jp,br,List.drop_left']
section
variable{L L0 M:List As}{K:Value->WP}{r c n most:Nat}{s fv:Vt_}{l t b:List UInt8}{m:Int}
def TN{x:Sp}(g:x.Fit)(f:x.may=true)(h:Gs (qR r s l t::M) (K (.agg (eV x).toArray)))(p:eG L (qR r s l (Jh x++t)::M):=by exact fR):Gs L (Cw pQ 113 #[iW r] K):=by
 refine xj (λw a j K k=>Up j λi d m=>?_) h p;have e:=PE g f _ a t rfl;rw[e]at d|-;exact k i d m
def UB{x:Ct}(d:x.Fit)(a:x.spec.may=true)(e:Gs (qR r s l t::wU c r::M) (K (.agg (dA x).toArray)))(p:eG L (qR r s l (HL x++t)::wU c r::M):=by exact iP):Gs L (Cw pQ 112 #[.pointer (some ⟨c,0,none⟩)] K):=by
 unfold HL dJ at p;simp only[ar]at p;refine Gs.pk ?_ p;obtain⟨h1,g,f⟩:=d;refine sN Tryz.func112 ?_;refine Gs.bA Zy λb=>?_;rw[Yh];refine au ?_;refine TN h1 a ?_;refine au ?_;refine Gs.stY (cs' :=dA ⟨x.spec,0,0⟩) (n:=24) iP (br _) we (by rw[br,bM];omega) (qw _) (ad4 _ _) ?_;refine au ?_;refine rK (n:=x.st.toNat) (most:=255) rfl qZ (by decide) ?_;rw[Int.toNat_of_nonneg qZ];refine Gs.V (v:=gB x.st) (λw _=>by simp[go_sem];rw[IntKind.wrap_u8'];omega) ?_;refine Gs.V (v:=bO b 25) (λw _=>by simp[go_sem]) ?_;refine Gs.st (cs' :=dA ⟨x.spec,x.st,0⟩) iP (λw h=>by simp[go_sem,h,ae6]) (Z0 _ _).1 ?_;refine au ?_;refine tV f ?_;refine Gs.V (v:=bO b 26) (λw _=>by simp[go_sem]) ?_;refine Gs.st (cs' :=dA x) iP (λw h=>by simp[go_sem,h,ae6]) (Z0 ⟨x.spec,x.st,0⟩ _).2 ?_;refine Gs.X (iH (cs:=dA x) iP CP sI (bM _)) ?_;refine Gs.stY (cs' :=dA x) (n:=26) iP (bM _) sI (by rw[bM];decide) (kH _) (lF rfl) ?_;refine Gs.WX (iH (cs:=dA x) iP CP sI (bM _)) ?_;exact e.fin
def J8{xs:List Ct}(G:m=most)(F:xs.length<=most)(I:most<100000)
  (C:∀x∈xs,∀t K L,Gs (qR r s l t::wU c r::L) (K (.agg (dA x).toArray))->Gs (qR r s l (HL x++t)::wU c r::L) (Fw pQ fv [] K))
  (B:∀a k,Gs (ow (.slice a xs.length k) jW 27 xs.length (xs.flatMap dA)::qR r s l t::wU c r::M) (K (.slice a xs.length k)))(p:eG L (qR r s l (xf HL xs++t)::wU c r::M):=by exact iP):
  Gs L (Cw pQ 111 #[.agg #[iW r],gQ m,fv] K):=by
 unfold xf at p;rw[ar]at p;refine Gs.pk ?_ p;refine sN Tryz.func111 ?_;refine au ?_;intro d;refine au ?_;refine rK G F qZ ?_;refine Gs.nilF jW 27 dA ?_;refine Gs.l (λy:Nat×(Option Addr×Nat)=>(.slice y.2.1 (xs.take y.1).length y.2.2,gQ y.1,())) (xs.length - ·.1) (λy=>ow (.slice y.2.1 (xs.take y.1).length y.2.2) jW 27 (xs.take y.1).length ((xs.take y.1).flatMap dA)::qR r s l ((xs.drop y.1).flatMap HL++t)::wU c r::wU d r::M) (λy=>y.1<=xs.length) (0,none,0) rfl (aH _) ?_ (by simp only[cU,dW,List.length_nil,cC];exact iP);rintro⟨i,a,k⟩ E H g
 dsimp only at E|-
 refine Gs.z (au ?_);refine Gs.I (λh=>?_) λh=>?_
 ·have j:i<xs.length:=qZ;rw[cD j,bm,ar];have w:=aq j;have z:xs.take i++[xs[i]]=xs.take (i+1):=List.take_append_getElem j;have D:(xs.take i).length<=100000:=by rw[az];omega
  have g:=λo u=>g (i+1,o,u) j (by dsimp only;omega)
  dsimp only at g
  generalize xs[i]=x at w z|-;generalize(xs.drop (i+1)).flatMap HL++t=T at g|-;refine Gs.pk (C _ w _ _ _ ?_) iP;refine Gs.bvar Zy sI (bM x) ad0 (kH x) (λe=>?_);refine Gs.j1 (.bool false,()) (λJ v=>?_) ?_
  ·refine au ?_;refine yd ?_;refine au ?_;refine Gs.I (λA=>?_) λ_=>v;have q:T=[]:=by simpa using A
   rw[q]at v|-;refine au ?_;refine vE ?_;refine au ?_;exact v
  refine Gs.z (Gs.Ib (λh=>(by cases h)) λ_=>?_);refine Gs.X (iH (cs:=dA x) iP CP sI (bM _)) ?_;refine Gs.push (l:=xs.take i) (x:=x) (f:=dA) qM (show fY pQ jW 27 208=true by kernel_rfl) bM (kH x) rfl qZ qZ (λo u=>?_) iP;rw[z];refine au ?_;exact(g o u).fin
 ·obtain rfl:i=xs.length:=qZ;rw[eE,aK,cC,dL];exact(B a k).fin
def sS(a b c d e:Vt_):Nat->Value
 |3=>a
 |4=>b
 |5=>c
 |6=>d
 |_=>e
abbrev sT(x:uR)(a b c d e:Option Addr×Nat):Nat->Value:=sS (.slice a.1 x.accts.length a.2) (.slice b.1 x.cts.length b.2) (.slice c.1 x.poss.length c.2) (.slice d.1 x.ords.length d.2) (.slice e.1 x.bids.length e.2)
def Gs.st5{φ:WP}{x:uR}{a b c d e:Vt_}(h:Gs (Yz (sS a b c d e) x::M) φ)(p:eG L (ow a 100 4 x.accts.length (x.accts.flatMap cY)::ow b jW 27 x.cts.length (x.cts.flatMap dA)::ow c 124 4 x.poss.length (x.poss.flatMap dy)::ow d 132 6 x.ords.length (x.ords.flatMap kC)::ow e 132 6 x.bids.length (x.bids.flatMap kC)::M)):Gs L φ:=Gs.pk ⟨λw y=>by
 obtain⟨F,W,Y,⟨E,O⟩,⟨R,X,⟨C,D⟩,⟨F3,U,⟨G,P⟩,⟨T,S,⟨J,Q⟩,⟨F5,H,⟨A,v⟩,B,I,j⟩,N,o⟩,d3,u⟩,d2,z⟩,d1,V⟩:=y;have q:∀i,3<=i->i<=7->i=3\/i=4\/i=5\/i=6\/i=7:=λi _ _=>by omega
 refine h.go w (Ss.cons.2 ⟨λy=>∃i,3<=i/\i<=7/\aF (sS a b c d e i) y,H,⟨λi h1 k=>?_,λ_=>aG⟩,B,?_⟩)
 ·rcases q i h1 k with rfl|rfl|rfl|rfl|rfl
  ·exact E
  ·exact C
  ·exact G
  ·exact J
  ·exact A
 ·rintro y ⟨i,h1,k,f⟩ g;rcases q i h1 k with rfl|rfl|rfl|rfl|rfl
  ·exact d1 y ((O y).2 f) ((z y).2 (.inr ((u y).2 (.inr ((o y).2 (.inr ((j y).2 (.inr g))))))))
  ·exact d2 y ((D y).2 f) ((u y).2 (.inr ((o y).2 (.inr ((j y).2 (.inr g))))))
  ·exact d3 y ((P y).2 f) ((o y).2 (.inr ((j y).2 (.inr g))))
  ·exact N y ((Q y).2 f) ((j y).2 (.inr g))
  ·exact I y ((v y).2 f) g⟩ p
def Gs.rdt{φ:WP}{a:List UInt8}(e:t=a)(h:Gs (qR r s l a::M) φ)(p:eG L (qR r s l t::M)):Gs L φ:=by
 subst e;exact h.pk p
def Gs.rvr{φ:WP}(h:Gs (wU c r::M) φ)(p:eG L (pt c [.pointer (some ⟨r,0,none⟩)] 199::M):=by exact iP):Gs L φ:=h.pk p
def Gs.fw{f:FuncId}{a b:Array Value}{xs:LV_}(h:Gs L (Cw pQ f ⟨a.toList++(xs++b.toList)⟩ K)):Gs L (Fw pQ (.func (.func f) a b) xs K):=⟨λw y=>kf.2 (h.go w y)⟩
def DL{x:uR}{S:bt}{ss:Nat->Value}(u:x.Fit)(v:x.accts.length<=100000/\x.cts.length<=100000/\x.poss.length<=1024/\x.ords.length<=100000/\x.bids.length<=100000)(d:tn x=some S)(o:∀a,Gs (uM a S::L) (K (.tuple #[ec a,gI 0])))(p:eG L (Yz ss x::M)):Gs L (Cw pQ 16 #[Fb x.day x.next x.fund ss] K):=
 Gs.nw (φ:=λk=>Cw pQ _ _ k) (val:=λa=>.tuple #[ec a,gI 0]) (p:=λ_=>True) (B:=λa=>uM a S) (λw y K h=>Sc ((iK p y).elim λF h i h1 j=>(h.1 i h1 j).rd) u v λy e g m f=>by
  rw[d]at f;obtain⟨rfl,a,F,rfl,q,n⟩:=f;exact h a g F trivial q m n) (λa _=>o a)
def Pf{x:uR}{S:bt}(g:x.Fit)(D:x.accts.length<=64/\x.cts.length<=16/\x.poss.length<=1024/\x.ords.length<=3200/\x.bids.length<=800)(F:∀k∈x.cts,k.spec.may=true)(j:tn x=some S)(i:(tz x).length<=1000000000)
  (o:∀a b c d e,Gs (Yz (sT x a b c d e) x::ow s 5 1 (tz x).length (bv (tz x))::M) (K (.tuple #[Fb x.day x.next x.fund (sT x a b c d e),gI 0])))(p:eG L (ow s 5 1 (tz x).length (bv (tz x))::M):=by exact iP):Gs L (Cw pQ 40 #[s] K):=by
 have e:tz x=dJ x.day++(dJ x.next++(lS x.fund++(xf Gr x.accts++(xf HL x.cts++(xf GK x.poss++(xf Cs x.ords++(xf Cs x.bids++[]))))))):=by unfold tz;rw[aN]
 generalize tz x=l at i o p e;obtain⟨G,H,A,C,v⟩:=D;refine Gs.pk ?_ p;refine sN Tryz.func40 ?_;refine au ?_;intro q;refine au ?_;refine U4 i (λr=>?_) iP;unfold iW;refine au ?_;intro c;refine au ?_;intro b;refine Gs.rvr ?_;refine Gs.rdt e ?_ iP;refine au ?_;refine vW g.day ?_;refine au ?_;refine L5 g.next ?_;refine au ?_;refine tV g.fund ?_;refine au ?_;refine JT (most:=64) rfl G (by decide) (λy f t K L h=>Gs.fw (UW (g.accts y f) h)) (λw k3=>?_) iP;refine au ?_;refine J8 (most:=16) rfl H (by decide) (λy f t K L h=>Gs.fw (UB (g.cts y f) (F y f) h)) (λB k4=>?_) iP;refine au ?_;refine Jf (most:=1024) rfl A (by decide) (λy f t K L h=>Gs.fw (UL (g.poss y f) h)) (λz k5=>?_) iP;refine au ?_;refine CB (most:=3200) rfl C (by decide) (λy f t K L h=>Gs.fw (Lx (g.ords y f) h)) (λE k6=>?_) iP;refine au ?_;refine CB (most:=800) rfl v (by decide) (λy f t K L h=>Gs.fw (Lx (g.bids y f) h)) (λu k7=>?_) iP;refine au ?_;refine vE ?_;refine au ?_;refine Gs.st5 (x:=x) ?_ iP;refine DL g ⟨qZ,qZ,qZ,qZ,qZ⟩ j (λI=>?_) iP;refine au ?_;refine Gs.rdo ?_ iP;exact(o (w,k3) (B,k4) (z,k5) (E,k6) (u,k7)).fin
end
end Go.Proofs
namespace Go.Proofs
open Go Go.Vc
abbrev Y1(s:Vt_)(l:List UInt8):As:=ow s 5 1 l.length (bv l)
def GQ{S:bt}(h:S.Ok):S.state.accts.length<=3200/\S.state.cts.length<=3200/\S.state.poss.length<=3200/\S.state.ords.length<=3200/\S.state.bids.length<=3200:=by
 obtain⟨⟨b,c,e⟩,a,d⟩:=C0 h;exact⟨qZ,qZ,qZ,qZ,qZ⟩
def PN{s:uR}(b:s.Fit)(d:s.accts.length<=3200/\s.cts.length<=3200/\s.poss.length<=3200/\s.ords.length<=3200/\s.bids.length<=3200):(tz s).length<=1000000000:=by
 obtain⟨h,hC,c,f,e⟩:=d;have m:=jz s.day (by have:=b.day.2;omega);have k:=jz s.next (by have:=b.next.2;omega);have o:=qf b.fund;have q:=tY (g:=Gr) (λx a=>PL (b.accts x a)) h;have n:=tY (g:=HL) (λx a=>RZ (b.cts x a)) hC;have i:=tY (g:=GK) (λx a=>Px (b.poss x a)) c;have j:=tY (g:=Cs) (λx a=>Ej (b.ords x a)) f;have p:=tY (g:=Cs) (λx a=>Ej (b.bids x a)) e;unfold tz;simp only[af];omega
def Zs:tz bt.empty.state=b8:=by
 show tz Y2=b8;unfold tz xf Y2 dJ b8;rw[ZX];show iM 0++(iM 1++([0]++(iM 0++[]++(iM 0++[]++(iM 0++[]++(iM 0++[]++(iM 0++[])))))))=_;rw[V8,ae9];rfl
def RP:(bt.empty.apply Vg).1.err=0:=cV
section
variable{L L0 M:List As}{K:Value->WP}{v:Nat}{S:bt}{ss:Nat->Value}{s:Vt_}{l:List UInt8}
def Uu(a:S.Ok)(c:∀s,Gs (Y1 s (tz S.state)::L) (K s))(p:eG L (Yz ss S.state::M):=by exact fR):Gs L (Cw pQ 39 #[Fb S.state.day S.state.next S.state.fund ss] K):=
 Gs.nw (φ:=λk=>Cw pQ _ _ k) (val:=λs=>s) (p:=λ_=>True) (B:=λs=>Y1 s (tz S.state)) (λw y K h=>RC (Yq p w y) (vP a) (GQ a) λb d o m n=>h b d _ trivial ⟨o,λ_=>aG⟩ m n) λs _=>c s
def xN(a:S.Ok)(e:∀s,Gs (Y1 s (tz S.state)::uM v S::L) (K (.tuple #[s,gI 0])))(p:eG L0 (uM v S::L):=by exact fR):Gs L0 (Cw pQ 11 #[ec v] K):=by
 refine Gs.pk ?_ p;refine GM λc l mb md A D b=>?_;refine sN Tryz.func11 ?_;refine HH b a (λh i m g f j k d=>?_);refine Gs.fin (M:=vs v c l mb md A D S L) ?_;refine vV (C:=S.cal) b ?_;refine Gs.V (v:=.bool false) (λw _=>by simp[go_sem,ec]) (Gs.If ?_);refine Oi a λss=>?_;refine Uu a λs=>?_;exact(e s).fin
def KR(f:S.Ok)(n:wh S)(h:∀x,Gs (uM x S::L) (K (.tuple #[ec x,gI 0])))(p:eG L (Y1 s (tz S.state)::M):=by exact fR):Gs L (Cw pQ 12 #[s] K):=by
 obtain⟨⟨k,r,o⟩,i,m⟩:=C0 f;have g:=Jt f n;have h:=λx=>Gs.pk (h x) (eG.cons p.symm);refine Gs.pk ?_ p;refine sN Tryz.func12 ?_;refine Pf (vP f) ⟨k,qZ,o,i,m⟩ (N3 g).2.2 g (PN (vP f) (GQ f)) (λa b c d e=>?_) iP;unfold Fb z9;simp only[sS];refine au ?_;intro q;refine au ?_;refine DL (x:=S.state) (ss:=sT S.state a b c d e) (vP f) ⟨qZ,qZ,qZ,qZ,qZ⟩ g (λj=>?_) iP;refine au ?_;exact(h j).fin
def Gs.str(a:Gs L (K (.string (sm l))))(p:eG L (Y1 s l::M):=by exact fR):Gs L (Xw pQ (xA 28 9 s) K):=
 ⟨λw y=>(iK p y).elim λF o=>Qv Q5 cV cV o.1.rd (a.go w y)⟩
def Ba(a:Gs L (K (.bool true))):Gs L (Cw pQ 20 #[] K):=by
 refine sN Tryz.func20 ?_;refine Rn λv=>?_;refine xN x8 λs=>?_;refine au ?_;refine KR x8 Kz λx=>?_;refine au ?_;refine Gs.str ?_;rw[Zs];refine Gs.V (v:=.bool true) (λw _=>by simp[go_sem,b8,sm]) (Gs.It ?_);refine au ?_;refine Gs.Ib (λ_=>?_) λh=>(by cases h)
 refine⟨λw y=>Yx (Gs.go ?_ w y)⟩;refine En x8 Rk λt g u _=>?_;refine Gs.V (λw _=>Xi _ _ _ _ w) ?_;rw[RP];refine au ?_;exact a.fin
end
section
variable{K:Value->WP}{s t:Vt_}{w0:Wt_}{A B:List Cm}
def GA(p:Rd w0 35 s A.length (A.flatMap ny))(q:Rd w0 35 t B.length (B.flatMap ny))(C:∀c∈A,c.Fit)(G:∀c∈B,c.Fit)(u:Gs [Hi w0 λ_=>False] (K (.bool true))):
  Gs [Hi w0 λ_=>False] (Cw pQ 5 #[s,t] K):=by
 refine sN Tryz.func5 ?_;refine Rn λv=>?_;refine Gs.j1 (.bool (decide (60<A.length)||decide (30<B.length)),()) (λJ k=>?_) ?_
 ·refine au ?_;refine Gs.len UR (λw y=>p.mod (x9 fR w y) d9) ?_;refine au ?_;refine Gs.I (λh=>?_) λh=>?_
  ·have:(decide (60<A.length)||decide (30<B.length))=true:=by simp;omega
   rw[this]at k;exact k
  refine Gs.len UR (λw y=>q.mod (x9 fR w y) d9) ?_;refine au ?_;have:decide (60<A.length)=false:=by simp;omega
  rw[this,fP]at k;rw[show decide ((30:Int)<(B.length:Int))=decide (30<B.length)from kU.2 qZ];exact k
 refine Gs.z ?_;refine Gs.Ib (λh=>?_) λh=>?_
 ·refine au ?_;refine Ba ?_;exact u.drop
 refine Gs.len UR (λw y=>p.mod (x9 fR w y) d9) ?_;have O:A.length<=60/\B.length<=30:=by simp at h;omega
 clear h;refine Gs.l (λx:Nat×bt=>(gI x.1,())) (A.length - ·.1) (λx=>[uM v x.2,Hi w0 λ_=>False]) (λx=>x.1<=A.length/\x.2.Ok/\wh x.2) (0,bt.empty) rfl ⟨aH _,x8,Kz⟩ ?_ .refl;rintro⟨i,S⟩ ⟨n,d,m⟩ z j
 dsimp only at n d m|-
 refine Gs.z (au ?_);refine Gs.I (λh=>?_) λh=>?_
 ·have f:i<A.length:=qZ;obtain⟨D,F,o,g⟩:=ZH p f;refine Gs.V (λw _=>o w) ?_;refine Gs.X (λw y=>LH (g.mod (x9 fR w y) id)) ?_;have e:=C _ (aq f);refine En d e λa b c _=>?_;refine au ?_;exact(j (i+1,(S.apply A[i]).2) ⟨f,H1 d e,Kt d m _⟩ (by dsimp only;omega)).fin
 clear j;refine xN d λs1=>?_;refine au ?_;refine KR d m λr=>?_;refine au ?_;refine Gs.j1 (.bool false,()) (λJ k=>?_) ?_
 ·refine au ?_;exact k
 refine Gs.z (au ?_);refine xN d λP=>?_;refine au ?_;refine Gs.j1 (.bool false,()) (λJ k=>?_) ?_
 ·refine au ?_;refine Gs.str ?_;refine Gs.str ?_;refine Gs.V (v:=.bool false) (λw _=>by simp[go_sem]) ?_;exact k
 refine Gs.z (au ?_);refine Gs.len UR (λw y=>q.mod (x9 fR w y) d9) ?_;refine Gs.fin (M:=[uM r S,uM v S,Hi w0 λ_=>False]) ?_;refine Gs.l (λx:Nat×bt=>(.bool false,gI x.1,())) (B.length - ·.1) (λx=>[uM r x.2,uM v x.2,Hi w0 λ_=>False]) (λx=>x.1<=B.length/\x.2.Ok/\wh x.2) (0,S) rfl ⟨aH _,d,m⟩ ?_ .refl;clear d m n h i S;rintro⟨i,S⟩ ⟨n,d,m⟩ z j
 dsimp only at n d m|-
 refine Gs.z (au ?_);refine Gs.I (λh=>?_) λh=>?_
 ·have f:i<B.length:=qZ;obtain⟨D,F,o,g⟩:=ZH q f;have e:=G _ (aq f);refine Gs.D (Gs.Pu o ?_);refine Gs.WX (λw y=>LH (g.mod (x9 fR w y) id)) ?_;refine Gs.Pu o ?_;refine Gs.WX (λw y=>LH (g.mod (x9 fR w y) id)) ?_;refine En d e λa b c E=>?_;refine Gs.E (λw y=>LH (g.mod (x9 fR w y) id)) ?_;refine En d e λQ N I _=>?_;refine OK E ?_;refine au ?_;exact(j (i+1,(S.apply B[i]).2) ⟨f,H1 d e,Kt d m _⟩ (by dsimp only;omega)).fin
 refine xN d λR=>?_;refine au ?_;refine xN d λH=>?_;refine au ?_;refine Gs.str ?_;refine Gs.str ?_;refine Gs.V (v:=.bool true) (λw _=>by simp[go_sem]) (Gs.It ?_);refine Ba ?_;exact u.fin
def HI{w:Wt_}{K:aZ}(i:Rd w 35 s A.length (A.flatMap ny))(e:∀c∈A,c.Fit)(f:Rd w 35 t B.length (B.flatMap ny))(d:∀c∈B,c.Fit)(g:∀a,M0 w a->K (.bool true) a):Ca pQ 5 #[s,t] w K:=
 (GA (K:=K) i f e d ⟨λa y=>g a (x9 fR a y)⟩).go w ⟨_,_,λ_=>False,⟨λ_=>aG,aR.refl _ _⟩,λ_ h=>h,d9,λb=>(or_iff_left id).symm⟩
end
end Go.Proofs
namespace Go.Proofs.YtekbnpagidkbbaaGreat.imageAgain
open Go Go.Vc Go.Proofs Go.ChangeShapes Go.WideShapes Go.ChangeAt Go.RowKit
def lifted(os:Os)(b:os.Started)(H:Type)(enc:TypeId×Value->H):
  ReturnsInHanded {} Tryz.checked os 5 .any (Rows.imageAgainSpec.pre6 enc pQ Tryz.f5 Rows.imageAgainRow.domain false) (Rows.imageAgainSpec.post enc pQ Tryz.f5 false true false false):=by
 refine returnsInHanded_of_change_sized (C:=Tryz.checked) own b cV Tryz.func5
  (ChangeSpec.witness6 (enc:=enc) (C:=Tryz.checked) false ⟨#[],#[.slice none 0 0,.slice none 0 0],[]⟩ 8 cV cV cV cV) ?_
 intro W i a ds L o d A E l _;have c:∀(j:Nat) t v,Tryz.f5.params[j]? =some t->a[j]? =some v->Value.okWide pQ W .any i t v:=d;have g:(DataW.weightsEach pQ (Tryz.f5.params.toList++[]) (ds++L)).all (·<=reachBytes)=true:=l;have w:=A;obtain⟨p,q,k,R,rfl,Q,O⟩:=A;have D:DataW.TrodAll enc pQ W 0 (λ_=>true) true Tryz.f5.params.toList a.toList ds p:=k;rw[Tryz.params5]at D c g;obtain⟨v0,P,M,J,Y,S,u,rfl,rfl,I,r0⟩:=trodAll_cons D;obtain⟨B,G,d1,N,V,U,rfl,rfl,rfl,h1,F⟩:=trodAll_cons r0;obtain⟨rfl,rfl,rfl⟩:=trodAll_nil F;obtain rfl:a= #[v0,B]:=by cases a;simp_all
 obtain⟨rfl,rfl⟩:=trodVars_none R
 have x:Wt pQ reachBytes 36 M:=by
  intro m f;have:=bg.1 g m (by simp only[aN,eF,dL,DataW.weightsEach,bf];first|exact .inl f|exact .inl f);simpa using this
 have s:Wt pQ reachBytes 36 d1:=by
  intro m f;have:=bg.1 g m (by simp only[aN,eF,dL,DataW.weightsEach,bf];first|exact .inr (f)|exact .inr (.inl f));simpa using this
 obtain⟨X,r,h⟩:=open_cms (c 0 36 v0 rfl rfl) I x;obtain⟨Z,y,n⟩:=open_cms (c 1 36 B rfl rfl) h1 s;clear k d;refine jI (HI (K:=λv z=>v=.bool true/\M0 W z) r h y n λz f=>⟨rfl,f⟩).out ?_;rintro e T ⟨v,rfl,rfl,f⟩;exact⟨_,rfl,Iv laidOut cV rfl w f cV Tryz.underlying4 rfl⟩
abbrev zRw:=Rows.imageAgainRow
abbrev uv:=Rows.imageAgainSpec
noncomputable abbrev zVt:=Tryz.f5.params.toList++uv.plain.varTypes pQ
def k0:zRw.wf (OpenSpec.ofChange uv):=cV
def k1:laidOutB pQ:=cV
def k2:mapsRowed pQ:=cV
def k3:Tryz.f5.params.all (Tryz.prog.readableRec ·):=cV
def k4:namedTie pQ zRw.named uv.vars:=cV
def k5:zRw.stops== []:=cV
def k6:Tryz.prog.stops== []:=cV
def k7:zRw.knobs== []:=cV
def k8:Tryz.prog.stopKnobs== []:=cV
def k9:zRw.inPlace==Tryz.prog.inPlace 5:=cV
def k10:zRw.unfollowed==Tryz.prog.unfollowed 5:=cV
def k11:zRw.recurses==Tryz.prog.recurses 5:=cV
def k12:zRw.named==Tryz.prog.varsNamed 5:=cV
def k13:zRw.maps==zVt.any (Tryz.prog.mapsRec ·):=cV
def k14:zRw.ifaces==zVt.any (Tryz.prog.ifacesRec ·):=cV
def k15:zRw.mapsOut==Tryz.prog.mapsAmong Tryz.f5.resultTypes.toList:=cV
def k16:zRw.loops==zVt.any (Tryz.prog.loopsFrom ·):=cV
def k17:zRw.wideKeys==(zVt++Tryz.f5.resultTypes.toList).any (Tryz.prog.wideKeysFrom ·):=cV
def k18:uv.vars.all (Tryz.prog.varReadable ·):=cV
def k19:Tryz.f5.resultTypes.all (λt=>Tryz.prog.readableRec t&& decide (t<Tryz.prog.types.size)):=cV
def k20:zRw.ifacesOut==Tryz.f5.resultTypes.toList.any (Tryz.prog.ifacesRec ·):=cV
def k21:zRw.loopsOut==Tryz.f5.resultTypes.toList.any (Tryz.prog.loopsFrom ·):=cV
def k22:zRw.plainKeys==Tryz.prog.plainKeys:=cV
def k23:zRw.shortTexts.isNone:=cV
def k24:Tryz.prog.stopsHeard:=cV
def k25:Tryz.prog.mayEnter:=cV
def k26:zRw.lifted==Tryz.prog.liftsFinal:=cV
def k27:Tryz.prog.make==some zRw.make:=cV
def k28:zRw.kinds==(if zRw.domain.isEmpty then []else Tryz.f5.params.toList.map λt=>match Tryz.prog.underlying t with|some (.int k)=>some k|_=>none):=cV
def k29:zRw.pinned==zRw.pinnedBy:=cV
def k30:zRw.veiled==(zVt++Tryz.f5.resultTypes.toList).any (Tryz.prog.veiledRec ·):=cV
def k31:zRw.veiledFits pQ Tryz.f5.params.toList (zVt++Tryz.f5.resultTypes.toList):=cV
def closed:joinedFacts pQ 5 Tryz.f5 Rows.imageAgainSpec Rows.imageAgainRow=true:=by
 unfold joinedFacts;simp only[ai];exact⟨⟨⟨⟨⟨⟨⟨⟨⟨⟨⟨⟨⟨⟨⟨⟨⟨⟨⟨⟨⟨⟨⟨⟨⟨⟨⟨⟨⟨⟨⟨k0,k1⟩,k2⟩,k3⟩,k4⟩,k5⟩,k6⟩,k7⟩,k8⟩,k9⟩,k10⟩,k11⟩,k12⟩,k13⟩,k14⟩,k15⟩,k16⟩,k17⟩,k18⟩,k19⟩,k20⟩,k21⟩,k22⟩,k23⟩,k24⟩,k25⟩,k26⟩,k27⟩,k28⟩,k29⟩,k30⟩,k31⟩
theorem holds:Rows.ImageAgainSaid:=
 OpenClaim.holds_of_wide 5 Tryz.f5 rfl rfl rfl rfl rfl rfl rfl ⟨rfl,rfl,rfl,rfl,rfl⟩ rfl rfl rfl rfl rfl cV Tryz.func5 closed
  (bE cV) (by unfold Func.isWrapper;first|(rw[ae (by decide+kernel)];kernel_rfl)|(rw[aa (by decide+kernel)];exact⟨rfl,rfl⟩))
  (λos a H b _=>lifted os a H b)
end Go.Proofs.YtekbnpagidkbbaaGreat.imageAgain
