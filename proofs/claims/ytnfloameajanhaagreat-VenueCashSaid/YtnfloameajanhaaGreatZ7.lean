/- Part of a proof. -/
import Derived.Test.YtnfloameajanhaaGreatZ6
set_option linter.all false
namespace Go.Proofs
open Go Go.Vc
attribute [local congr] cR
variable {B:Bk}{x:Cm}{n a k:Int}{won:Int->Int}{L:List Od}{F Z:NP_}{v i p lo:Nat}{o:Od}{r:Rp}{S:Ven}{s s1 sl sT sG sA:Vt_}{w w' W:Wt_}{K:cG}{C:sE}
def ZP(f:∀a b,b=w.heap.size->qR a (.slice (some ⟨b,0,none⟩) 1 1) [o]->M0 w a->K (.slice (some ⟨b,0,none⟩) 1 1) a):rx pQ (jQ Av 1 [(0,oG o)]) w K:=by
 refine oJ [oG o] mH (eO Oh) rfl rfl (by intro v e;rw[eK.1 e];rfl) qZ ?_;have d:(([oG o]:LV_).flatMap (·.cells.toList)).toArray=(fL o).toArray:=rfl;rw[d];exact f _ _ rfl ⟨rfl,.inr ⟨_,1,[],rfl,cJ _,by rw[gy,bZ rfl];simp,by simp,by simp⟩⟩ lm
def ai1(h:qR w s L)(g:qR w s1 [o])(k:L.length<=100000)
  (i:∀a d,qR d a (L++[o])->de (cK s) w d->(∀b,cK a b->cK s b\/w.heap.size<=b)->K a d):rx pQ (eg #[Av,Av] Av [s,s1]) w K:=by
 refine jR mH mH (eO Oh) h g.rd (by rw[MH pD]) (by grind) λa d e j f=>i a d ?_ j f;rw[<-eJ]at e;show jo d pz 5 a (L++[o]).length _;rw[cD];exact e
def rp0(w:Wt_)(n l:Int):vG w dv dv dv ⟨0,n,0,l,[],[],[]⟩:=⟨jo.nil _ _ _,jo.nil _ _ _,jo.nil _ _ _,λx a=>(by cases a),λx a=>(by cases a),λx a=>(by cases a)⟩
def NI(h:S.Ok){c:Cm}(f:c.Fit)(a:c.acct≠0)(d:(S.order c).1=0)(j:¬50<=(S.bd c.ct).length):({S with bd:=upd S.bd c.ct (S.bd c.ct++[c.od S.next]),next:=S.next+1}:Ven).Ok:=by
 obtain⟨hp,g,i⟩:=order_ok a d;have b:=h.next
 have e:=h.ord.addBd (n:=c.ct) (x:=c.od S.next) (nx:=S.next+1) hp.alive (od_may a qZ hp.price hp.qty) (od_fit f ⟨qZ,by unfold maxNum at g;omega⟩)
  (by show S.next<_;omega) hp.stands (fresh_next h.ord) qZ qZ
 exact⟨h.cal,h.led,e,⟨by grind,by grind⟩,h.fnd⟩
def TI(h:lw w v F S)(Q:S.Ok)(hx:x.Fit)(ha:x.acct≠0)(hK:AK w v F (S.bid x) K):Ca pQ 93 #[eY v,vI x] w K:=by
 obtain⟨c,l,mb,md,A,D,fp,hr,hF⟩:=h;apply aA6;obtain⟨w1,e1,b1,m1⟩:=uT x w;apply cI e1;obtain⟨p,hp0⟩:=dW w.heap.size;rw[<-hp0]at b1|-;obtain⟨w2,e2,b2,m2⟩:=qy w1;apply cI e2;obtain⟨q,hq0⟩:=dW w1.heap.size;rw[<-hq0]at b2|-;have hpq:p<q:=by have:=cB b1;omega
 have M2:=m1.trans m2;have c2:iy w2 p x:=m2.hpk b1 id;have hFl:∀y,F y->y<p:=λy d=>by obtain⟨pt,hp⟩:=(hF y).1 d;have:=hr.lt hp;omega
 have j:∀pt y,fp pt y->F y:=λpt y d=>(hF y).2 ⟨_,d⟩;apply iW (vm c2);refine EI (hr.md0 M2) Q hx λw3 h3 m3=>?_;obtain⟨O,hO⟩:=dW (S.order x);have M3:de F w w3:=(M2.to).on m3 λy d=>.inl (j _ y d);have c3:iy w3 p x:=m3.hpk c2 λhc=>by grind
 have b3:=m3.hpk b2 λhc=>by grind
 rw[<-hO]at h3|-;refine qS0 ?_;refine qS0 ?_;obtain⟨w4,e4,b4,m4⟩:=kD w3;apply cI e4;obtain⟨q2,hq2⟩:∃q,q=w3.heap.size:=⟨_,rfl⟩
 rw[<-hq2]at b4|-;obtain⟨J,e5,b5,m5⟩:=jK (o' :=O.2.1) b4;apply ir e5;have hq2q:q<q2:=by have:=cB b3;omega
 have B:M0 w3 J:=m4.on m5 λb hb=>gz;have M5:=M3.trans (B.to (G:=F));have h5:=h3.md0 B;have c5:iy J p x:=B.hpk c3 id;have r5:=B.hpk b3 id;obtain⟨L,hL⟩:=dW (O.2.2.bd x.ct)
 have i:S.bid x=if O.1≠0 then(O.1,zRp,O.2.2)else
   (if 50<=L.length then(9,zRp,O.2.2)
    else(({O.2.2 with bd:=upd O.2.2.bd x.ct (L++[O.2.1])}:Ven).bears x.acct,⟨0,O.2.1.num,0,O.2.1.left,[],[],[]⟩,{O.2.2 with bd:=upd O.2.2.bd x.ct (L++[O.2.1])})):=by
  unfold Ven.bid;rw[<-hO,hL]
 have I:∀(e:Int) (W:Wt_),S.bid x=(e,zRp,O.2.2)->ik W v c l mb md A D fp O.2.2->hC W q (mC zRp dv dv dv).toArray lx->de F w W->
   rv pQ (iL lx (pt q 0)) W λv17 w18=>ru pQ (iS lx (pt q 0) v17) w18 λw19=>uc pQ (iL lx (pt q 0)) w19 λv20=>K (.tuple #[v20,gI e]) w19:=λe W he a b m=>by
  apply cI (lB b);obtain⟨w9,e9,b9,m9⟩:=pl (r:=zRp) b rfl ⟨gJ,gJ,gJ⟩;refine ir e9 (dp (lB b9) ?_);refine hK.nil he (a.mod m9 λpt y d e=>by grind).q (m.on m9 λy d=>.inr (by grind)) λy ⟨pt,d⟩=>.inl (j _ _ d)
 by_cases he:O.1≠0
 ·rw[bZ he]at i;refine qSt1 he ?_;exact I O.1 J i h5 r5 M5
 rw[aZ he]at i;have he0:O.1=0:=by simpa using he
 refine qSf1 he0 ?_;have P:(S.order x).1=0:=by grind
 obtain⟨V,hnx,hord⟩:=order_ok ha P;obtain⟨o,hoo⟩:=dW (x.od S.next);obtain⟨S1,hS1⟩:=dW ({S with next:=S.next+1}:Ven);have hO' :O=(0,o,S1):=by grind
 have U:S1.bd=S.bd:=by rw[hS1]
 have hcal:S1.cal=S.cal:=by rw[hS1]
 rw[hO']at i h5 b5 hL I;simp only at i h5 b5 hL I;have hLb:L=S.bd x.ct:=by rw[hL,U]
 have hLl:L.length<=50:=by rw[hLb];exact Q.ord.bdl _
 have t:M0 J J.drew:=mP;have h6:=h5.md0 t;have c6:iy J.drew p x:=t.hpk c5 id;have r6:=t.hpk r5 id;have o6:=t.hpk b5 id;have M6:=M5.trans (t.to (G:=F));have hs6:J.heap.size<=J.drew.heap.size:=t.size
 try dsimp only
 generalize J.drew=R at t h6 c6 r6 o6 M6 hs6|-;simp only[eY,dr];have M:=h6.bd x.ct;rw[<-hL]at M;obtain⟨sa,sc,hsl,-⟩:=M.isSl;refine dw (jk 3 qZ) (dp (AJ _ h6.blk) ?_);refine dw tZ (dp (sD c6) ?_);apply li (uF h6.mbd x.ct);apply oy (gI (L.length:Int)) (by rw[hsl];simp[go_sem]);by_cases h50:50<=L.length
 ·rw[bZ h50]at i;apply dX (.bool true) (λ_=>by simp[go_sem];omega);rw[kx];exact I 9 R i h6 r6 M6
 rw[aZ h50]at i;apply dX (.bool false) (λ_=>by simp[go_sem];omega);rw[gP];have g:M0 R R.drew:=mP;have h7:=h6.md0 g;have c7:iy R.drew p x:=g.hpk c6 id;have r7:=g.hpk r6 id;have o7:=g.hpk o6 id;have M7:=M6.trans (g.to (G:=F));have hs7:R.heap.size<=R.drew.heap.size:=g.size
 try dsimp only
 generalize R.drew=w7 at g h7 c7 r7 o7 M7 hs7|-;refine dw (jk 3 qZ) (dp (AJ _ h7.blk) ?_);refine dw tZ (dp (sD c7) ?_);refine dw (jk 3 qZ) (dp (AJ _ h7.blk) ?_);refine dw tZ (dp (sD c7) ?_);apply li (uF h7.mbd x.ct);apply dp (lM (o:=o) (At.all o7));refine ZP λw8 b8 hb8 l8 m8=>?_;have k:=h7.md0 m8;have c8:iy w8 p x:=m8.hpk c7 id;refine⟨uF k.mbd x.ct,sD c8,AJ _ k.blk,sD c8,AJ _ k.blk,?_⟩;have N:=k.bd x.ct;rw[<-hL]at N;refine ai1 N l8 qZ λs' w9 o9 m9 n9=>?_;have u:de (fp (.bd x.ct)) w8 w9:=m9.mono λy _ d=>(k.fbd x.ct y).2 d;have hnF:∀{y},p<=y->¬fp (.bd x.ct) y:=λd hc=>by grind
 have c9:iy w9 p x:=u.hpk c8 (hnF qZ);have blk9:=u.hpk k.blk (k.ap (by simp) _ k.self);refine⟨sD c9,AJ _ blk9,?_⟩;have mbd9:=k.mbd.mod u (k.ap (by simp) _ ((k.fmd md).2 rfl));refine kV (enc:=iI) (ev:=yh) (x:=x.ct) (v:=s') xn rP mbd9 λs a10 m10 hs10=>?_;have hmdF:F md:=j _ _ ((k.fmd md).2 rfl);have Y:(eR S1.cal.l x.ct).isSome=true:=by rw[hcal];exact yO V.alive
 have E:=k.setBd (n:=x.ct) Y u o9 (λy d=>(n9 y d).imp (λX=>(k.fbd x.ct y).2 X) id) a10 m10;have kp:∀{y T cs},p<=y->hC w7 y cs T->hC s y cs T:=λd a=>m10.hpk (u.hpk (m8.hpk a id) (hnF d)) λe=>by grind
 have c10:iy s p x:=kp (cJ _) c7;have r10:=kp qZ r7;have o10:=kp qZ o7;have M10:de F w s:=((M7.trans (m8.to (G:=F))).trans (u.mono λy _ d=>j _ y d)).on m10 λy d=>.inl (by rw[d];exact hmdF)
 have z:∀pt y,mj fp (.bd x.ct) (cK s') pt y->(F y\/w8.heap.size<=y):=λpt y d=>by
  by_cases hpt:pt=.bd x.ct
  ·subst hpt;rw[ip]at d;exact(n9 y d).imp (λX=>j _ _ ((k.fbd x.ct y).2 X)) id
  ·rw[eH hpt]at d;exact .inl (j _ _ d)
 have hM8:=m8.size;have hq7:q<w7.heap.size:=cB r7;obtain⟨fp',hfp'⟩:=dW (mj fp (.bd x.ct) (cK s'));obtain⟨D',hD'⟩:=dW (put D x.ct s');rw[<-hfp']at E z;rw[<-hD']at E;obtain⟨S2,hS2⟩:=dW ({S1 with bd:=upd S1.bd x.ct (L++[o])}:Ven);rw[<-hS2]at E i
 have hok2:S2.Ok:=by
  have:=NI Q hx ha P (by grind);rw[hS2,hS1,hLb,hoo];exact this
 have f:M0 s s.drew:=mP;have Z:=E.md0 f;have c11:iy s.drew p x:=f.hpk c10 id;have r11:=f.hpk r10 id;have H:=f.hpk o10 id;have M11:=M10.trans (f.to (G:=F))
 try dsimp only
 generalize s.drew=w11 at f Z c11 r11 H M11|-;refine qPv0 (pt q2 0) (oy (gQ o.num) (by simp[go_sem,H,fL]) ?_);refine qPv0 (pt q2 4) (oy (gI o.left) (by simp[go_sem,H,fL]) ?_);apply dX (ud ⟨0,o.num,0,o.left,[],[],[]⟩ dv dv dv) (λ_=>by simp[go_sem,ud,dv]);refine dw pM (dp (rk c11) ?_);refine Au Z hok2 λw12 C=>?_;have o12:=C.hpk H id;refine⟨by simp[go_sem,o12,fL],by simp[go_sem,o12,fL],?_⟩;obtain⟨w13,e13,b13,m13⟩:=pl (r:=⟨0,o.num,0,o.left,[],[],[]⟩) (C.hpk r11 id) rfl ⟨gJ,gJ,gJ⟩;refine ir e13 (dp (lB b13) ?_);refine hK.tell i ((Z.md0 C).mod m13 λpt y d e=>?_).q (rp0 _ _ _) (((M11.trans (C.to (G:=F)))).on m13 λy d=>.inr (by grind)) (λy ⟨pt,d⟩=>(z pt y d).imp id λX=>qZ) λy d=>by rcases d with d|d|d<;>cases d
 rcases z pt y d with X|X
 ·have:=hFl y X;omega
 ·omega
def vj:n∈S.nums↔(eR S.cal.l n).isSome=true:=by
 unfold Ven.nums eR;rw[cF,List.find?_isSome];constructor
 ·grind
 ·grind
def MR(h:vg S){a num n:Int}{o:Od}(u:n∈S.nums)(b:findIn S.bk a num n=some (o,n)):S.find a num=some (o,n):=by
 have s:(S.find a num).isSome=true:=by
  unfold Ven.find;rw[List.findSome?_isSome_iff];exact⟨n,u,by rw[b];rfl⟩
 obtain⟨⟨t,g⟩,k⟩:=kY.1 s;obtain⟨z,y,r,d,p,q⟩:=find_spec k
 have e:∃j,(S.bk n).find num=some (o,j):=by
  unfold findIn at b;cases i:(S.bk n).find num with
  |none=>rw[i]at b;cases b
  |some x=>
   rw[i]at b;simp only at b;split at b
   ·grind
   ·cases b
 obtain⟨j,e⟩:=e;have m:=find_mem e;have f:n=g:=h.apart n g o t (rC m.1) (rC p) (by rw[m.2,r]);subst f;rw[q]at e;simp only[jr,ou]at e;rw[k,e.1]
def wy{α:Type}{R:List α}{p x:α}(h:R[i]? =some p)(b:x∈R):x=p\/x∈R.eraseIdx i:=by
 have:=(oY h).mem_iff (a:=x);rw[this]at b;exact cH.1 b
section
variable{w:Wt_}{K:cG}{v c l mb md:Nat}{A:List (Int×Nat)}{D:List (Int×Value)}{fp:Pt->Nat->Prop}{S:Ven}
def bkO(B:Option (Od×Bool)):Od:=match B with|none=>pC|some (o,_)=>o
def bkE(B:Option (Od×Bool)):Int:=match B with|none=>7|some _=>0
def fiB(a n:Int)(B:Option (Od×Bool)):Option (Od×Int):=match B with|some (o,_)=>if o.acct=a then some (o,n)else none|none=>none
def N4{w:Wt_}{K:cG}{b:Nat}{F:NP_}{B:Bk}{n:Int}(h:kK w b F B)
  (d:∀a,M0 w a->K (.tuple #[oG (bkO (B.find n)),gI (bkE (B.find n))]) a):Ca pQ 168 #[jY b,gQ n] w K:=MY h d
def TY(x:Option (Od×Int)):Od:=match x with|some y=>y.1|none=>pC
def Nb(x:Option (Od×Int)):Int:=match x with|some y=>y.2|none=>0
def HO{a num:Int}(h:ik w v c l mb md A D fp S)(L:vg S)
  (hK:∀w',M0 w w' ->K (.tuple #[oG (TY (S.find a num)),gU (Nb (S.find a num))]) w'):Ca pQ 136 #[eY v,gU a,gQ num] w K:=by
 apply Z3;obtain⟨w1,e1,O,E⟩:=kD w;apply cI e1;obtain⟨q,X⟩:=dW w.heap.size;rw[<-X]at O|-;simp only[eY,dr];have h1:=h.md0 E;refine cI (jk 2 qZ _) (cI (IL _ h1.blk) ?_);refine sw Dc h1.mbk λw2 x m2=>?_;obtain⟨Y,U⟩:=dW w1.heap.size;rw[<-U]at x|-;have M2:=E.trans m2;have b2:=m2.hpk O id;have hqit:q<Y:=by have:=cB O;omega
 have hA:=h.mbk.1
 refine eS (λst W=>∃R:List (Int×Nat),st=(gU 0,())/\nD iI jY W Y mb R/\M0 w W/\hC W q (fL pC).toArray pz/\(∀p∈R,p∈A)/\∀p∈A,p∈R\/findIn S.bk a num p.1=none)
  (λ_ W=>rm Y mb W) ⟨A,rfl,x,M2,b2,λ_ h=>h,λ_ h=>.inl h⟩ ?_
 rintro _ W ⟨R,rfl,r1,r2,Z,r4,r5⟩ KN Q;unfold PK;intro _;have hitW:=r1.lt;have hqW:=cB Z;refine uv r1 ?_ ?_
 ·intro hz W1 E hh;subst hz;refine qS0 ?_;rw[gP];apply cx (oG pC) W1 (by simp[go_sem,oG,fL,pC]);obtain⟨w6,T,H,N⟩:=jK (o' :=pC) (E.hpk Z id);refine ir T (dp (lM (o:=pC) (At.all H)) ?_)
  have k:S.find a num=none:=by
   unfold Ven.find;rw[List.findSome?_eq_none_iff];intro n hn;have:=h.dom n;rw[vj.1 hn]at this;obtain⟨b,I⟩:=kY.1 this;rcases r5 _ (AC I)with g|g
   ·cases g
   ·exact g
  have:=hK w6 ((r2.trans E).on N λy z=>gz);rw[k]at this;exact this
 ·intro i p m W3 i3 V m3 hs3;refine qS0 ?_;rw[kx];apply sg V;refine qS0 ?_;refine qS0 ?_;have P:=dL m;have M:=r4 p P;have t:lk A p.1=some p.2:=mem_lk hA M;have M3:M0 w W3:=r2.on m3 λb I=>gz;have b3:=m3.hpk Z qZ;have hB:=(h.bk p.1 p.2 t).mod M3 eQ;refine N4 (n:=num) hB λW4 m4=>?_;obtain⟨B,s⟩:=dW ((S.bk p.1).find num);rw[<-s];have e:findIn S.bk a num p.1=fiB a p.1 B:=by rw[s];rfl
  obtain⟨G,J⟩:=dW (bkO B:Od);rw[<-J];refine qS0 ?_;refine qS0 ?_;obtain⟨W5,e5,b5,m5⟩:=kD W4;apply cI e5;obtain⟨q5,hq5⟩:∃q,q=W4.heap.size:=⟨_,rfl⟩
  rw[<-hq5]at b5|-;obtain⟨r,T,H,N⟩:=jK (o' :=G) b5;apply ir T;have f:M0 W3 r:=(m4.trans m5).on N λb I=>.inr (by have:=m4.size;omega);have C:=f.hpk b3 id;have F:p.1∈S.nums:=vj.2 (by rw[<-h.dom p.1,t];rfl)
  have u:findIn S.bk a num p.1=none->KN (gU 0,()) r:=λhf=>by
   have il:=i3.mod f id id;refine Q _ _ ⟨R.eraseIdx i,rfl,il,M3.trans f,C,λy z=>r4 y ((jB _ _).mem z),λy z=>?_⟩ ?_
   ·rcases r5 y z with g|g
    ·rcases wy m g with rfl|g
     ·exact .inr hf
     ·exact .inl g
    ·exact .inr g
   ·rw[il.left,r1.left];have hil:=(cP.1 m).1;rw[kt hil];omega
  cases B with
  |none=>
   apply dK.on;apply cx (.bool false) r (by simp[go_sem,bkE]);rw[gP];unfold FD;intro _;rw[gP];exact u e
  |some y=>
   obtain⟨o,d⟩:=y;simp only[bkO,fiB]at J e;subst J;apply dK.on;apply cx (.bool true) r (by simp[go_sem,bkE]);rw[kx];refine cx (pt q5 1) r (by simp[go_sem]) (cx (gU G.acct) r (by simp[go_sem,H,fL]) ?_);by_cases j:G.acct=a
   ·refine qS1 j ?_;unfold FD;intro _;rw[kx];apply cI (lM (o:=G) (At.all H));obtain⟨W7,e7,b7,m7⟩:=jK (o' :=G) C;refine ir e7 (dp (lM (o:=G) (At.all b7)) ?_);rw[bZ j]at e;have:=hK W7 ((M3.trans f).on m7 λy z=>gz);rw[MR L F e]at this;exact this
   ·refine qSv1 (.bool false) j ?_;unfold FD;intro _;rw[gP];rw[aZ j]at e;exact u e
end
def KX(h:S.Ok){n:Int}(d:n∈S.nums):n≠0/\pL n:=by
 obtain⟨k,b,rfl⟩:=cF.1 d;obtain⟨c,a,-⟩:=h.cal.ok k b;constructor
 ·unfold Sp.may at a;simp only[cL,dN]at a;omega
 ·exact c.1.1
def RN(h:vg S){a num n:Int}{i:Nat}(p:n∈S.nums)(f:(S.bd n).findIdx? (isBid a num)=some i):S.nums.findSome? (bidIn S.bd a num)=some (i,n):=by
 have o:(S.nums.findSome? (bidIn S.bd a num)).isSome=true:=by
  rw[List.findSome?_isSome_iff];exact⟨n,p,by unfold bidIn;rw[f];rfl⟩
 obtain⟨⟨s,q⟩,g⟩:=kY.1 o;obtain⟨m,r,b⟩:=List.exists_of_findSome?_eq_some g;unfold bidIn at b;cases c:(S.bd m).findIdx? (isBid a num)with
 |none=>rw[c]at b;cases b
 |some j=>
  rw[c]at b;simp only[iD,jr,ou]at b;obtain⟨rfl,rfl⟩:=b;obtain⟨k,d,-⟩:=eB.1 f;obtain⟨l,e,-⟩:=eB.1 c;unfold isBid at d e;simp only[cL,dN]at d e;have:=h.apart n m _ _ (vk (cC k)) (vk (cC l)) (by rw[d.1,e.1]);subst this;rw[f]at c;cases c;exact g
def Iz{α:Type}(l:List α)(i:Nat):l.take i++l.drop (i+1)=l.eraseIdx i:=(List.eraseIdx_eq_take_drop_succ l i).symm
def XL(h:iy w p x)(l:List Od):Jb w (.func (.func 139) #[] #[.pointer (some ⟨p,0,none⟩)]) (isBid x.acct x.num) l:=by
 refine⟨_,_,rfl,λo k W i K j=>?_⟩;show Ca pQ _ [oG o,.pointer (some ⟨p,0,none⟩)].toArray W K;apply ad8;obtain⟨a,g,d,e⟩:=vt o W;apply cI g;have f:iy a p x:=e.hpk (i.hpk h id) id;refine cx (pt W.heap.size 0) a (by simp[go_sem]) (cx (gQ o.num) a (by simp[go_sem,d,fL]) ?_);refine cI (B7 _) (cI (BV f) ?_);apply cx (.bool (decide (o.num=x.num))) a (by simp[go_sem];rfl);have b:=j a e;unfold isBid at b;by_cases c:o.num=x.num
 ·rw[qo c];refine cx (pt W.heap.size 1) a (by simp[go_sem]) (cx (gU o.acct) a (by simp[go_sem,d,fL]) ?_);refine cI (pM _) (cI (rk f) ?_);apply cx (.bool (decide (o.acct=x.acct))) a (by simp[go_sem];rfl);rw[db c,oo]at b;exact b
 ·rw[DN c];rw[ej c,jp]at b;exact b
def qR.at{l:List Od}(h:qR w sl l){i:Nat}(hi:i<l.length):∃b a,sl=.slice (some ⟨b,0,none⟩) l.length a/\At w b (i*5) (fL l[i]):=by
 obtain⟨b,a,rest,rfl,j,f,g⟩:=h.pos qZ;have c:At w b 0 (l.flatMap fL++rest):=At.all (fy f);have e:=h.1;have d:=c.sub (i*5) 5 (by grind);rw[eZ (by rw[e];omega),dh (by grind),oB fL 5 l i (λx _=>gM x) hi,eU]at d;exact⟨b,a,rfl,d⟩
def J3(h:lw w v F S)(P:S.Ok)(hx:x.Fit)(hK:AK w v F (S.cancel x) K):Ca pQ 90 #[eY v,vI x] w K:=by
 obtain⟨c,l,mb,md,A,D,fp,V,hF⟩:=h;apply av7;obtain⟨w1,e1,b1,m1⟩:=uT x w;apply cI e1;obtain⟨p,hp0⟩:=dW w.heap.size;rw[<-hp0]at b1|-;obtain⟨w2,e2,b2,m2⟩:=qy w1;apply cI e2;obtain⟨q,hq0⟩:=dW w1.heap.size;rw[<-hq0]at b2|-;have hpq:p<q:=by have:=cB b1;omega
 have M2:=m1.trans m2;have c2:iy w2 p x:=m2.hpk b1 id;have hFl:∀y,F y->y<p:=λy a=>by obtain⟨pt,hp⟩:=(hF y).1 a;have:=V.lt hp;omega
 have m:∀pt y,fp pt y->F y:=λpt y a=>(hF y).2 ⟨_,a⟩;refine cI (pM _) (cI (rk c2) ?_);refine cI (B7 _) (cI (BV c2) ?_);refine HO (V.md0 M2) P.ord λw3 m3=>?_;have M3:=M2.trans m3;have c3:iy w3 p x:=m3.hpk c2 id;have b3:=m3.hpk b2 id;obtain⟨f,hf⟩:=dW (S.find x.acct x.num);rw[<-hf];refine qS0 ?_;refine qS0 ?_;obtain⟨w4,e4,b4,m4⟩:=kD w3;apply cI e4;obtain⟨q2,hq2⟩:∃q,q=w3.heap.size:=⟨_,rfl⟩
 rw[<-hq2]at b4|-;obtain⟨X,e5,b5,m5⟩:=jK (o' :=TY f) b4;apply ir e5;have hq2q:q<q2:=by have:=cB b3;omega
 have M35:M0 w3 X:=m4.on m5 λb Y=>gz;have M5:=M3.trans M35;have h5:=V.md0 M5;have c5:iy X p x:=M35.hpk c3 id;have r5:=M35.hpk b3 id;have hM5:=M5.size;cases f with
 |some y=>
  obtain⟨o,n⟩:=y;obtain⟨hnm,hoa,hon,d,hod,hfd⟩:=find_spec hf.symm;have hn0:=(KX P hnm).1
  have u:S.cancel x=((jX (S.bk n) x.num).1,{zRp with num:=x.num,left:=o.left},{S with bk:=upd S.bk n (jX (S.bk n) x.num).2.1}):=by
   unfold Ven.cancel;rw[<-hf]
  apply cx (.bool true) X (by simp[go_sem,Nb,hn0]);rw[kx];have t:M0 X X.drew:=mP;have h6:=h5.md0 t;have c6:iy X.drew p x:=t.hpk c5 id;have r6:=t.hpk r5 id;have o6:=t.hpk b5 id;have M6:=M5.trans t
  try dsimp only
  generalize X.drew=w6 at t h6 c6 r6 o6 M6|-;simp only[eY,dr];obtain⟨b,Y,hB⟩:=Wm h6 (n:=n) (vj.1 hnm);refine dw (jk 2 qZ) (dp (IL _ h6.blk) ?_);apply li (xz h6.mbk Y);refine dw B7 (dp (BV c6) ?_);refine zu hB λG w7 q7 m7 n7=>?_;refine qP0 ?_;refine qP0 ?_;have h7:=h6.setBk Y m7 q7 n7;have hnF:∀{y},p<=y->¬fp (.bk n) y:=λa hc=>by grind
  have c7:iy w7 p x:=m7.hpk c6 (hnF (cJ _));have r7:=m7.hpk r6 (hnF qZ);have o7:=m7.hpk o6 (hnF qZ);refine cI (B7 _) (cI (BV c7) ?_);refine cx (pt q2 4) w7 (by simp[go_sem]) (cx (gI o.left) w7 (by simp[go_sem,o7,fL,TY]) ?_);apply cx (ud ⟨0,x.num,0,o.left,[],[],[]⟩ dv dv dv) w7 (by simp[go_sem,ud,dv]);obtain⟨w8,e8,b8,m8⟩:=pl (r:=⟨0,x.num,0,o.left,[],[],[]⟩) r7 rfl ⟨gJ,gJ,gJ⟩;refine ir e8 (dp (lB b8) ?_);have hM6:=M6.size
  have U:∀pt y,mj fp (.bk n) G pt y->(F y\/w6.heap.size<=y):=λpt y a=>by
   by_cases I:pt=.bk n
   ·subst I;rw[ip]at a;exact(n7 y a).imp (m _ _) id
   ·rw[eH I]at a;exact .inl (m _ _ a)
  have hql:=cB r6;refine hK.tell u (h7.mod m8 λpt y a e=>?_).q (rp0 _ _ _) (((M6.to (G:=F)).on m7 λy a=>.inl (m _ y a)).on m8 λy a=>.inr (by grind)) (λy ⟨pt,a⟩=>(U pt y a).imp id λE=>qZ) λy a=>by rcases a with a|a|a<;>cases a
  rcases U pt y a with E|E
  ·have:=hFl y E;omega
  ·omega
 |none=>
  apply cx (.bool false) X (by simp[go_sem,Nb]);rw[gP];simp only[eY,dr]
  have u:S.cancel x=match S.nums.findSome? (bidIn S.bd x.acct x.num)with
    |some (i,n)=>(0,{zRp with num:=x.num,left:=((S.bd n).getD i pC).left},{S with bd:=upd S.bd n ((S.bd n).eraseIdx i)})
    |none=>(7,zRp,S):=by
   unfold Ven.cancel;rw[<-hf];rfl
  refine cI (jk 3 qZ _) (cI (AJ _ h5.blk) ?_);refine sw xn h5.mbd λw6 it6 m6=>?_;obtain⟨it,hit⟩:=dW X.heap.size;rw[<-hit]at it6|-;have hD:=V.mbd.1;have hqit:q<it:=by have:=cB r5;omega
  refine eS (λst W=>∃R:List (Int×Value),st=(gI 0,())/\nD iI yh W it md R/\M0 w W/\iy W p x/\hC W q (mC zRp dv dv dv).toArray lx/\(∀p∈R,p∈D)/\∀p∈D,p∈R\/bidIn S.bd x.acct x.num p.1=none)
   (λ_ W=>rm it md W) ⟨D,rfl,it6,M5.trans m6,m6.hpk c5 id,m6.hpk r5 id,λ_ h=>h,λ_ h=>.inl h⟩ ?_
  rintro _ W ⟨R,rfl,t1,t2,t3,t4,t5,t6⟩ KN hKN;unfold UX;intro _;have hitW:=t1.lt;have hqW:=cB t4;have hMW:=t2.size;refine uv t1 ?_ ?_
  ·intro hz W1 m1' hh;subst hz;refine qS0 ?_;rw[gP]
   have hnone:S.nums.findSome? (bidIn S.bd x.acct x.num)=none:=by
    rw[List.findSome?_eq_none_iff];intro n hn;cases hl:lk D n with
    |some s=>
     rcases t6 _ (AC hl)with E|E
     ·cases E
     ·exact E
    |none=>
     have Y:=V.bd n;unfold rz at Y;rw[hl]at Y;obtain⟨hlen,⟨-,h0⟩|⟨b,cap,rest,he,-⟩⟩:=Y
     ·unfold bidIn;rw[jF h0];rfl
     ·cases he
   rw[hnone]at u;have r1:=m1'.hpk t4 id;apply cI (lB r1);obtain⟨w9,e9,b9,m9⟩:=pl (r:=zRp) r1 rfl ⟨gJ,gJ,gJ⟩;refine ir e9 (dp (lB b9) ?_);have hM1' :=m1.size;refine hK.nil u ((V.md0 (t2.trans m1')).mod m9 λpt y a e=>by grind).q ((t2.trans m1').mono (G:=F) (λ_ _ h=>h.elim) |>.on m9 λy a=>gz) λy ⟨pt,a⟩=>.inl (m _ _ a)
  ·intro i g J W3 i3 cu3 m3' hs3;refine qS0 ?_;rw[kx];apply sg cu3;refine qS0 ?_;refine qS0 ?_;have hpR:=dL J;have hpD:=t5 g hpR;have hlk:lk D g.1=some g.2:=mem_lk hD hpD;have M3' :M0 w W3:=t2.on m3' λb Y=>gz;have c3' :iy W3 p x:=m3'.hpk t3 qZ;have r3' :=m3'.hpk t4 qZ;have h3' :=V.md0 M3';have hbd:=h3'.bd g.1;have B:rz D g.1=g.2:=by unfold rz;rw[hlk];rfl
   have hbl:=P.ord.bdl g.1;have hsm:(eR S.cal.l g.1).isSome=true:=V.dod _ (by rw[hlk];rfl);show Ca pQ _ #[g.2,_] W3 _;refine wE (l:=S.bd g.1) (by rw[<-B];exact hbd.rd) qZ (XL c3' _) λW4 T=>?_;have M4:=M3'.trans T;have c4' :iy W4 p x:=T.hpk c3' id;have r4' :=T.hpk r3' id;cases H:(S.bd g.1).findIdx? (isBid x.acct x.num)with
   |none=>
    have hi:uK (S.bd g.1) (isBid x.acct x.num)= -1:=by unfold uK;rw[H]
    rw[hi];refine qSf0 ?_;have il:=i3.mod T id id;refine hKN _ _ ⟨R.eraseIdx i,rfl,il,M4,c4',r4',λy a=>t5 y ((jB _ _).mem a),λy a=>?_⟩ ?_
    ·rcases t6 y a with E|E
     ·rcases wy J E with rfl|E
      ·exact .inr (by unfold bidIn;rw[H];rfl)
      ·exact .inl E
     ·exact .inr E
    ·rw[il.left,t1.left];have hil:=(cP.1 J).1;rw[kt hil];omega
   |some j=>
    obtain⟨O,hjp,-⟩:=eB.1 H;have hi:uK (S.bd g.1) (isBid x.acct x.num)=(j:Int):=by unfold uK;rw[H]
    rw[hi];refine qSt0 ?_;have hbs:=RN P.ord (vj.2 hsm) H;rw[hbs]at u;simp only at u;have hgd:(S.bd g.1).getD j pC=(S.bd g.1)[j]:=by simp[O]
    rw[hgd]at u;have t:M0 W4 W4.drew:=mP;have c5' :iy W4.drew p x:=t.hpk c4' id;have r5' :=t.hpk r4' id;have N:=M4.trans t
    try dsimp only
    generalize W4.drew=W5 at t c5' r5' N|-;have h5' :=V.md0 N;have Z:=h5'.bd g.1;rw[B]at Z;obtain⟨sb,scap,hse,hat⟩:=Z.at O;obtain⟨C,eC,fz,hC,hg⟩:=hat.get;have hg4:=hg 4 _ rfl;refine dw B7 (dp (BV c5') ?_);show wS pQ (iX Av g.2 (gI (j:Int))) _;apply dX (pt sb (j*5)) (λW=>by rw[hse];simp[go_sem,O,cS,mH]);refine qPv1 (pt sb (j*5+4)) cS (qWv2 (gI (S.bd g.1)[j].left) hC hg4 ?_);apply dX (ud ⟨0,x.num,0,(S.bd g.1)[j].left,[],[],[]⟩ dv dv dv) (λ_=>by simp[go_sem,ud,dv]);obtain⟨Q,e6',b6',m6'⟩:=pl (r:=⟨0,x.num,0,(S.bd g.1)[j].left,[],[],[]⟩) r5' rfl ⟨gJ,gJ,gJ⟩;apply ir e6';have hM5' :=N.size;have h6' :=h5'.mod m6' λpt y a e=>by grind
    have M6' :de (λy=>y=q) w Q:=(N.to).trans m6';have z:M0 Q Q.drew:=mP;have k:=h6'.md0 z;have b7' :=z.hpk b6' id;have M7' :=M6'.trans (z.to (G:=λy=>y=q));generalize Q.drew=w7' at z k b7' M7' |-;refine dw (jk 3 qZ) (dp (AJ _ k.blk) ?_);apply dX (gI ((j+1:Nat):Int)) (λ_=>by simp[go_sem];rw[wI_]);have hbd7:=k.bd g.1;have M:=hbd7;rw[B]at M;refine vq (l:=S.bd g.1) M (qH j) O qZ λs' w8 o8 m8 n8=>?_;rw[Iz]at o8;have L:de (fp (.bd g.1)) w7' w8:=m8.mono λy _ a=>(k.fbd g.1 y).2 (by rw[B];exact a);have blk8:=L.hpk k.blk (k.ap (by simp) _ k.self);refine⟨AJ _ blk8,?_⟩;have mbd8:=k.mbd.mod L (k.ap (by simp) _ ((k.fmd md).2 rfl));refine kV (enc:=iI) (ev:=yh) (x:=g.1) (v:=s') xn rP mbd8 λw9 a9 m9 hs9=>?_;have hmdF:F md:=m _ _ ((k.fmd md).2 rfl);have h9:=k.setBd (n:=g.1) hsm L o8 (λy a=>.inl ((k.fbd g.1 y).2 (by rw[B];exact n8 y a))) a9 m9;have b9:=m9.hpk (L.hpk b7' λhc=>by grind) λe=>by grind
    have M9:de (λy=>F y\/y=q) w w9:=((M7'.mono λy _ a=>.inr a).trans (L.mono λy _ a=>.inl (m _ y a))).trans (m9.mono λy _ a=>.inl (by rw[a];exact hmdF));apply cI (lB b9);obtain⟨w10,e10,b10,m10⟩:=pl (r:=⟨0,x.num,0,(S.bd g.1)[j].left,[],[],[]⟩) b9 rfl ⟨gJ,gJ,gJ⟩;refine ir e10 (dp (lB b10) ?_)
    have U:∀pt y,mj fp (.bd g.1) (cK s') pt y->F y:=λpt y a=>by
     by_cases I:pt=.bd g.1
     ·subst I;rw[ip]at a;exact m _ _ ((k.fbd g.1 y).2 (by rw[B];exact n8 y a))
     ·rw[eH I]at a;exact m _ _ a
    refine hK.tell u (h9.mod m10 λpt y a e=>by grind).q (rp0 _ _ _) ?_ (λy ⟨pt,a⟩=>.inl (U pt y a)) λy a=>by rcases a with a|a|a<;>cases a
    have:=(de.refl F w).on (M9.trans (m10.mono (G:=λy=>F y\/y=q) λy _ a=>.inr a)) λy a=>?_
    ·exact this
    ·rcases a with a|a
     ·exact .inl a
     ·grind
def Qj{r:Bool}(c:∀d,(B d).length<=100):(ko B o r).2.trades.length<=100:=by
 have a:∀(L:List Od) (left:Int),(iV o left L).2.2.1.length<=L.length:=by
  intro L;induction L with
  |nil=>intro left;simp[iV]
  |cons b r e=>
   intro left;unfold iV;split
   ·simp
   ·split
    ·grind
    ·split
     ·simp
     ·grind
 have g:=a (B !o.buy) o.left;have f:=c !o.buy;unfold ko;simp only;split<;>(simp only;omega)
def HZ{p l:Int}(a:∀d,(B d).length<=100):(fX B n p l).2.2.trades.length<=100:=by
 unfold fX;split
 ·simp
 ·split
  ·simp
  ·split
   ·simp
   ·refine Qj λe=>?_
    rename_i d _ _ _
    by_cases h:e=d
    ·subst h;rw[Bk.set_self];unfold tD;exact dD (List.eraseP_sublist).length_le (a _)
    ·rw[Bk.set_ne _ _ h];exact a _
def In(h:lw w v F S)(I:S.Ok)(hx:x.Fit)(ha:x.acct≠0)(hK:AK w v F (S.replace x) K):Ca pQ 91 #[eY v,vI x] w K:=by
 obtain⟨c,l,mb,md,A,D,fp,hr,hF⟩:=h;apply aB2;obtain⟨w1,e1,b1,m1⟩:=uT x w;apply cI e1;obtain⟨p,hp0⟩:=dW w.heap.size;rw[<-hp0]at b1|-;obtain⟨w2,e2,b2,m2⟩:=qy w1;apply cI e2;obtain⟨q,hq0⟩:=dW w1.heap.size;rw[<-hq0]at b2|-;have hpq:p<q:=by have:=cB b1;omega
 have M2:=m1.trans m2;have c2:iy w2 p x:=m2.hpk b1 id;have hFl:∀y,F y->y<p:=λy g=>by obtain⟨pt,hp⟩:=(hF y).1 g;have:=hr.lt hp;omega
 have s:∀pt y,fp pt y->F y:=λpt y g=>(hF y).2 ⟨_,g⟩;refine cI (pM _) (cI (rk c2) ?_);refine cI (B7 _) (cI (BV c2) ?_);refine HO (hr.md0 M2) I.ord λw3 m3=>?_;have M3:de F w w3:=(M2.trans m3).to;have c3:iy w3 p x:=m3.hpk c2 id;have b3:=m3.hpk b2 id;have h3:=(hr.md0 M2).md0 m3;obtain⟨f,hf⟩:=dW (S.find x.acct x.num);rw[<-hf];refine qS0 ?_;refine qS0 ?_;obtain⟨w4,e4,b4,m4⟩:=kD w3;apply cI e4;obtain⟨q2,hq2⟩:∃q,q=w3.heap.size:=⟨_,rfl⟩
 rw[<-hq2]at b4|-;obtain⟨k,e5,b5,m5⟩:=jK (o' :=TY f) b4;apply ir e5;have hq2q:q<q2:=by have:=cB b3;omega
 have O:M0 w3 k:=m4.on m5 λb hb=>gz;have M5:=M3.trans (O.to (G:=F));have V:=h3.md0 O;have c5:iy k p x:=O.hpk c3 id;have r5:=O.hpk b3 id
 have bad:∀(e:Int) (T:Ven) (fp' :Pt->Nat->Prop) (A' :List (Int×Nat)) (W:Wt_),S.replace x=(e,zRp,T)->ik W v c l mb md A' D fp' T->hC W q (mC zRp dv dv dv).toArray lx->de F w W->(∀pt y,fp' pt y->(F y\/w.heap.size<=y)/\y≠q)->
   rv pQ (iL lx (pt q 0)) W λv17 w18=>ru pQ (iS lx (pt q 0) v17) w18 λw19=>uc pQ (iL lx (pt q 0)) w19 λv20=>K (.tuple #[v20,gI e]) w19:=λe T fp' A' W he a b m hn=>by
  apply cI (lB b);obtain⟨w9,e9,b9,t⟩:=pl (r:=zRp) b rfl ⟨gJ,gJ,gJ⟩;refine ir e9 (dp (lB b9) ?_);refine hK.nil he (a.mod t λpt y g e=>(hn pt y g).2 e).q (m.on t λy g=>.inr (by grind)) λy ⟨pt,g⟩=>(hn pt y g).1
 have U:∀pt y,fp pt y->(F y\/w.heap.size<=y)/\y≠q:=λpt y g=>⟨.inl (s _ _ g),by grind⟩
 cases f with
 |none=>
  have j:S.replace x=(7,zRp,S):=by unfold Ven.replace;rw[<-hf]
  apply cx (.bool true) k (by simp[go_sem,Nb]);rw[kx];exact bad 7 S fp A k j V r5 M5 U
 |some y=>
 obtain⟨o,n⟩:=y;obtain⟨hnm,hoa,hon,d,hod,hfd⟩:=find_spec hf.symm;have hn0:=(KX I hnm).1;have hstd:=I.ord.std n o (rC hod);have hol:=may_left hstd.may;apply cx (.bool false) k (by simp[go_sem,Nb,hn0]);rw[gP];rw[show Nb (some (o,n))=n from rfl];have H:hC k q2 (fL o).toArray pz:=b5;refine cI (pM _) (cI (rk c5) ?_);refine cx (pt q2 2) k (by simp[go_sem]) (cx (.bool o.buy) k (by simp[go_sem,H,fL]) ?_);refine cI (DK _) (cI (yG c5) ?_);refine cI (yy _) (cI (um c5) ?_);apply cI (lM (o:=o) (At.all H));have hxf:=hx;obtain⟨f1,f2,f3,f4,f5,f6,f7,f8,f9⟩:=hxf;refine Ix V I f8 f9 ⟨qZ,hol.2⟩ λw5a J=>?_;obtain⟨E,hE⟩:=dW (S.pass x.acct n o.buy x.price x.qty o);rw[<-hE];replace V:=V.md0 J;replace c5:iy w5a p x:=J.hpk c5 id;replace r5:=J.hpk r5 id;replace H:=J.hpk H id;replace M5:=M5.trans (J.to (G:=F))
 have j:S.replace x=if E≠0 then(E,zRp,S)else
   (if(fX (S.bk n) x.num x.price x.qty).1≠0 then((fX (S.bk n) x.num x.price x.qty).1,zRp,{S with bk:=upd S.bk n (fX (S.bk n) x.num x.price x.qty).2.1})
    else({S with bk:=upd S.bk n (fX (S.bk n) x.num x.price x.qty).2.1}:Ven).traded n o (fX (S.bk n) x.num x.price x.qty).2.2):=by
  unfold Ven.replace;rw[<-hf,hE]
 by_cases he:E≠0
 ·rw[bZ he]at j;refine qSt1 he ?_;exact bad E S fp A w5a j V r5 M5 U
 rw[aZ he]at j;have he0:E=0:=by simpa using he
 refine qSf1 he0 ?_;have hpass:=pass_ok ha (hE.symm.trans he0);clear b5;have b5:=H;clear H;clear m5 e5 O e4 m4 b4 J;clear k
 revert V c5 r5 b5 M5
 generalize w5a=k;intro V c5 r5 M5 b5;obtain⟨X,hX⟩:=dW (fX (S.bk n) x.num x.price x.qty);have hXl:X.2.2.trades.length<=100:=by rw[hX];exact HZ λd=>(I.ord.side _ d).1
 rw[<-hX]at j
 refine dK.at (λst W=>∃r M N G,st=(.pointer (some ⟨r,0,none⟩),gI X.1,())/\hC W r (uy M N X.2.2.filled X.2.2.left) 230/\ik W v c l mb md A D (mj fp (.bk n) G) {S with bk:=upd S.bk n X.2.1}/\Ji W M N X.2.2.trades X.2.2.gone/\
   de F w W/\(∀y,G y->(F y\/k.heap.size<=y))/\(∀y,cK M y\/cK N y->k.heap.size<=y/\¬G y)/\iy W p x/\hC W q (mC zRp dv dv dv).toArray lx/\hC W q2 (fL o).toArray pz/\k.heap.size<=r) ?_ ?_
 ·have L:M0 k k.drew:=mP;have hszd:k.drew.heap.size=k.heap.size:=rfl;have h6:=V.md0 L;have c6:iy k.drew p x:=L.hpk c5 id;have r6:=L.hpk r5 id;have o6:=L.hpk b5 id;have M6:=M5.trans (L.to (G:=F));rw[<-hszd]
  try dsimp only
  generalize k.drew=w6 at L h6 c6 r6 o6 M6|-;simp only[eY,dr];obtain⟨b,hb,hB⟩:=Wm h6 (n:=n) (vj.1 hnm);have u:∀y,fp (.bk n) y->F y:=λy g=>s _ y g;refine dw (jk 2 qZ) (dp (IL _ h6.blk) ?_);apply li (xz h6.mbk hb);refine dw B7 (dp (BV c6) ?_);refine dw DK (dp (yG c6) ?_);refine dw yy (dp (um c6) ?_);have hpl6:p<w6.heap.size:=cB c6;have hql6:q<w6.heap.size:=cB r6;have hq2l6:q2<w6.heap.size:=cB o6;refine⟨?_,?_⟩
  ·refine BC hB f8 f9 λG M N w7 q7 p7 B n7 s7=>?_;rw[<-hX]at q7 p7|-;refine qP0 ?_;refine qP0 ?_;obtain⟨w8,e8,b8,Q⟩:=Cl w7;apply cI e8;obtain⟨r,hr0⟩:=dW w7.heap.size;rw[<-hr0]at b8|-;obtain⟨ta,tc,hsT,-⟩:=p7.tr.isSl;obtain⟨ga,gc,hsG,-⟩:=p7.go.isSl;obtain⟨w9,e9,b9,t⟩:=Cr M N X.2.2.filled X.2.2.left b8 ⟨_,_,_,hsT⟩ ⟨_,_,_,hsG⟩;apply ir e9;have C:M0 w7 w9:=Q.on t λb hb=>gz;have h7:=h6.setBk hb B q7 n7;have hs7:=B.size;refine⟨r,M,N,G,rfl,b9,h7.md0 C,p7.mod C eQ eQ,(M6.on B λy g=>.inl (u y g)).trans (C.to),λy g=>(n7 y g).imp (u y) id,s7,?_,?_,?_,qZ⟩
   ·exact C.hpk (B.hpk c6 λhc=>by grind) id
   ·exact C.hpk (B.hpk r6 λhc=>by grind) id
   ·exact C.hpk (B.hpk o6 λhc=>by grind) id
  ·obtain⟨w7,e7,b7,B⟩:=Cl w6;apply cI e7;obtain⟨r,hr0⟩:=dW w6.heap.size;rw[<-hr0]at b7|-;have h7:=h6.md0 B;have c7:iy w7 p x:=B.hpk c6 id;have o7:=B.hpk o6 id;have r7:=B.hpk r6 id;refine⟨um c7,yG c7,BV c7,xz h7.mbk hb,IL _ h7.blk,?_⟩;have hs67:=B.size;refine BC (h7.bk n b hb) f8 f9 λG M N w8 q8 Z Q n8 s8=>?_;rw[<-hX]at q8 Z|-;refine qP0 ?_;refine qP0 ?_;obtain⟨ta,tc,hsT,-⟩:=Z.tr.isSl;obtain⟨ga,gc,hsG,-⟩:=Z.go.isSl;have hrF:¬fp (.bk n) r:=λhc=>by grind
   obtain⟨w9,e9,b9,t⟩:=Cr M N X.2.2.filled X.2.2.left (Q.hpk b7 hrF) ⟨_,_,_,hsT⟩ ⟨_,_,_,hsG⟩;apply ir e9;have h8:=h7.setBk hb Q q8 n8;have hrl:r<w7.heap.size:=cB b7;have hsr:∀y,cK M y\/cK N y->y≠r:=λy g=>by grind
   have hGr:∀pt y,mj fp (.bk n) G pt y->y≠r:=λpt y g=>by
    by_cases i:pt=.bk n
    ·subst i;rw[ip]at g;rcases n8 y g with h' |h'
     ·grind
     ·omega
    ·rw[eH i]at g;have:=hFl y (s _ _ g);omega
   refine⟨r,M,N,G,rfl,b9,h8.mod t λpt y g e=>hGr pt y g e,Z.mod t (λy g e=>hsr y (.inl g) e) λy g e=>hsr y (.inr g) e,((M6.trans (B.to (G:=F))).on Q λy g=>.inl (u y g)).on t λy g=>.inr (by grind),λy g=>(n8 y g).imp (u y) (λh' =>qZ),λy g=>⟨by grind,(s8 y g).2⟩,?_,?_,?_,qZ⟩
   ·exact t.hpk (Q.hpk c7 λhc=>by grind) qZ
   ·exact t.hpk (Q.hpk r7 λhc=>by grind) qZ
   ·exact t.hpk (Q.hpk o7 λhc=>by grind) qZ
 rintro _ W ⟨r,M,N,G,rfl,i1,i2,i3,i4,i5,i6,i7,i8,i9,i10⟩;unfold VV;intro _;have hM5s:=M5.size;have hq5:q2<k.heap.size:=cB b5
 have hup:∀pt y,mj fp (.bk n) G pt y->(F y\/k.heap.size<=y):=λpt y g=>by
  by_cases i:pt=.bk n
  ·subst i;rw[ip]at g;exact i5 y g
  ·rw[eH i]at g;exact .inl (s _ _ g)
 have z:∀pt y,mj fp (.bk n) G pt y->(F y\/w.heap.size<=y)/\y≠q:=λpt y g=>by
  rcases hup pt y g with h' |h'
  ·grind
  ·grind
 by_cases R:X.1≠0
 ·rw[bZ R]at j;refine qSt1 R ?_;exact bad X.1 _ _ A W j i2 i8 i4 z
 rw[aZ R]at j;have hX0:X.1=0:=by simpa using R
 refine qSf1 hX0 ?_;apply cI (lM (o:=o) (At.all i9));apply cI (QG i1);obtain⟨S2,hS2⟩:=dW ({S with bk:=upd S.bk n X.2.1}:Ven);rw[<-hS2]at i2 j
 have hok2:S2.Ok:=by
  have:=replaced_ok I hx ha hf.symm (hE.symm.trans he0) (by grind);rw[hS2,hX];exact this
 have hal2:ex S2.cal.l n=0:=by rw[hS2];exact hpass.alive
 have P:∀y,cK M y\/cK N y->¬dY (mj fp (.bk n) G) y:=λy g ⟨pt,i⟩=>by
  have h6' :=i6 y g;by_cases hp:pt=.bk n
  ·subst hp;rw[ip]at i;exact h6'.2 i
  ·rw[eH hp]at i;have:=hFl y (s _ _ i);omega
 refine Df (F:=dY (mj fp (.bk n) G)) i2.q hok2 hal2 i3 P qZ λsT' sG' w8 v8 Z Q n8=>?_;obtain⟨Y,hY⟩:=dW (S2.traded n o X.2.2);rw[<-hY]at v8 Z j|-;have hqn:¬dY (mj fp (.bk n) G) q:=λ⟨pt,i⟩=>(z pt q i).2 rfl;have k8:=Q.hpk i8 hqn;refine qS0 ?_;refine qS0 ?_;obtain⟨s1,s2,s3⟩:=Z.isSl;obtain⟨w9,e9,b9,t⟩:=pl (r:=Y.2.1) k8 rfl ⟨s1,s2,s3⟩;refine ir e9 (dp (lB b9) ?_);have hnew:∀y,cK sT' y\/cK sG' y->k.heap.size<=y/\¬dY (mj fp (.bk n) G) y:=λy g=>⟨(i6 y (n8 y g)).1,P y (n8 y g)⟩
 refine hK.tell (F' :=dY (mj fp (.bk n) G)) (T:=Y.2.2) (r:=Y.2.1) (e:=Y.1) j (v8.mod t λy g e=>hqn (e▸g)) (Z.mod t λy g e=>?_) ((i4.on Q λy ⟨pt,g⟩=>(z pt y g).1).on t λy g=>.inr (by grind)) (λy ⟨pt,g⟩=>(z pt y g).1) λy g=>?_
 ·rcases g with g|g|g
  ·grind
  ·grind
  ·cases g
 ·rcases g with g|g|g
  ·grind
  ·grind
  ·cases g
section
variable{w:Wt_}{K:cG}{v c l mb md:Nat}{A:List (Int×Nat)}{D:List (Int×Value)}{fp:Pt->Nat->Prop}{S:Ven}
def Gh{x:Cm}(h:ik w v c l mb md A D fp S)(M:S.Ok)(hx:x.Fit)
  (b:∀t,ik t v c l mb md A D fp (S.done {x with kind:=2}).2.2->de (fp .led) w t->K (gI (S.done {x with kind:=2}).1) t):Ca pQ 83 #[eY v,vI x] w K:=by
 apply aw7;obtain⟨j,e1,P,Z⟩:=uT x w;apply cI e1;obtain⟨p,L⟩:=dW w.heap.size;rw[<-L]at P|-;have hu:=hx.2.1;obtain⟨X,E⟩:=dW (S.led.withdraw x.acct x.amt)
 have hd:S.done {x with kind:=2}=(if X.1≠0 then X.1 else if(({S with led:=X.2}:Ven).acc x.acct).dfl=true then 120 else({S with led:=X.2}:Ven).bears x.acct,zRp,{S with led:=X.2}):=by
  unfold Ven.done;rw[aZ (by simp),bZ rfl,E]
 rw[hd]at b;simp only at b;have a:M0 j j.drew:=mP;have m:=(h.md0 Z).md0 a;have o:iy j.drew p x:=a.hpk P id;have M2:=Z.trans a
 try dsimp only
 generalize j.drew=w2 at a m o M2|-;simp only[eY,dr];refine dw (jk 1 qZ) (dp (ld1 _ m.blk) ?_);refine dw pM (dp (rk o) ?_);refine dw JB (dp (Nx o) ?_);refine GF m.led hu λf U u=>?_;rw[<-E]at U|-;have hFp:∀{pt y},fp pt y->y<p:=λJ=>by have:=h.lt J;omega
 have q:=m.setLed u U;have Q:=(M2.to (G:=fp .led)).trans u;have Y:iy f p x:=u.hpk o λhc=>by grind
 have e:({S with led:=X.2}:Ven).Ok:=by rw[E];exact Bc M
 by_cases s:X.1≠0
 ·rw[bZ s]at b;refine qSt1 s ?_;exact b f q Q
 rw[aZ s]at b;have z:X.1=0:=by simpa using s
 refine qSf1 z ?_;obtain⟨T,hT⟩:=dW ({S with led:=X.2}:Ven);rw[<-hT]at q e b;refine dK.at (λst W=>∃r,st=(.pointer (some ⟨r,0,none⟩),())/\hC W r (dH (T.acc x.acct)).toArray 70/\M0 f W) ?_ ?_
 ·have a:M0 f f.drew:=mP;have n:=q.md0 a;have H:iy f.drew p x:=a.hpk Y id;have hs:=a.size
  try dsimp only
  generalize f.drew=w4 at a n H hs|-;refine dw (jk 1 qZ) (dp (ld1 _ n.blk) ?_);refine dw pM (dp (rk H) ?_);refine⟨?_,?_⟩
  ·refine ug n.led λO i=>?_;refine qP1 oV ?_;rw[oV];refine qP0 ?_;obtain⟨w6,e6,b6,k⟩:=zi O;apply cI e6;obtain⟨F,C,I,g⟩:=zR (T.acc x.acct) b6;apply ir C;exact⟨_,rfl,I,((a.trans i).trans k).on g λy J=>.inr (by have:=(a.trans i).size;omega)⟩
  ·obtain⟨O,e5,b5,i⟩:=zi w4;apply cI e5;have R:=n.md0 i;have c5:iy O p x:=i.hpk H id;refine⟨rk c5,ld1 _ R.blk,?_⟩;refine ug R.led λw6 k=>?_;refine qP1 oV ?_;rw[oV];refine qP0 ?_;obtain⟨F,C,I,g⟩:=zR (T.acc x.acct) (k.hpk b5 id);apply ir C;exact⟨_,rfl,I,((a.trans i).trans k).on g λy J=>.inr (by grind)⟩
 rintro _ W ⟨r,rfl,i1,B⟩;unfold Vg;intro _;have N:=q.md0 B;have c6:iy W p x:=B.hpk Y id;have V:=Q.trans (B.to (G:=fp .led));refine cx (pt r 3) W (by simp[go_sem]) (cx (.bool (T.acc x.acct).dfl) W (by simp[go_sem,i1,dH]) ?_);by_cases d:(T.acc x.acct).dfl=true
 ·rw[bZ d]at b;rw[cy,bZ d];exact b W N V
 ·rw[aZ d]at b;rw[cy,aZ d];refine cI (pM _) (cI (rk c6) ?_);refine Au N e λF g=>?_;exact b F (N.md0 g) (V.trans (g.to))
def GM{k:Ct}{f t price qty:Int}{long:Bool}(h:ik w v c l mb md A D fp S)(s:pL k.spec.num)
  (j:∀e,ik e v c l mb md A D fp {S with led:=(swapL S.led k.spec.num f t long price qty).2}->de (fp .led) w e->K (gI (swapL S.led k.spec.num f t long price qty).1) e):
  Ca pQ 181 #[eY v,.agg (fI k).toArray,gU f,gU t,.bool long,gI price,gI qty] w K:=by
 apply Zv;obtain⟨b,u,p,n⟩:=GT k w;apply cI u;have g:swapL S.led k.spec.num f t long price qty=S.led.trade k.spec.num (if long then t else f) (if long then f else t) price qty:=by unfold swapL;cases long<;>rfl
 rw[g]at j;refine dK.at (λst W=>st=(gU (if long then f else t),gU (if long then t else f),())/\b=W) ?_ ?_
 ·cases long with
  |true=>rw[kx];exact sI
  |false=>rw[gP];exact sI
 rintro _ _ ⟨rfl,rfl⟩;unfold QK;intro _;have a:M0 b b.drew:=mP;have d:=(h.md0 n).md0 a;have m:=a.hpk p id;have o:=n.trans a
 try dsimp only
 generalize b.drew=x at a d m o|-;simp only[eY,dr];refine dw (jk 1 qZ) (dp (ld1 _ d.blk) ?_);refine qP0 ?_;refine qP0 ?_;apply oy (gU k.spec.num) (by simp[go_sem,m,fI,jA]);refine IF d.led s λq r i=>?_;exact j q (d.setLed i r) ((o.to).trans i)
end
structure rF(w:Wt_)(p:Nat)(sl:Vt_)(ids:List Int):Prop where
 at_:hC w p #[sl] 49
 own:vO w sl ids
 ne:∀y,cK sl y->y≠p
def rF.mod{a:List Int}(h:rF w p sl a)(b:de F w w')(e:¬F p)(d:∀y,cK sl y->¬F y):rF w' p sl a:=⟨b.hpk h.at_ e,h.own.mod b d,h.ne⟩
def rF.ld{b:List Int}(h:rF w p sl b):(iL 49 (pt p 0)).run pQ w=.ok sl w:=by
 obtain⟨a,c,d,-⟩:=h.own.isSl;have:=h.at_;subst d;simp[go_sem,this]
def LI{b:List Int}{x:Int}{K:World->Prop}(h:rF w p sl b)(G:b.length<=100000)
  (z:∀i d,rF d p i (b++[x])->de (λy=>y=p\/cK sl y) w d->(∀y,cK i y->cK sl y\/w.heap.size<=y)->K d):
  rx pQ (jQ 49 1 [(0,gQ x)]) w λv t=>rx pQ (eg #[49,49] 49 [sl,v]) t λB C=>ru pQ (iS 49 (pt p 0) B) C K:=by
 refine yM (x:=x) (f:=CB) yu (eO Ry) (λ_=>rfl) (CC x) rfl h.own qZ qZ λF d q r m=>?_;obtain⟨a,j,rfl,-⟩:=q.isSl;have u:=cB h.at_;have n:=r.hpk h.at_ λE=>h.ne _ E rfl;apply pH (d.setCell ⟨p,0,none⟩ (.slice a (b++[x]).length j)) (by simp[go_sem,n])
 have g:∀y,cK (.slice a (b++[x]).length j) y->y≠p:=λy k e=>by
  rcases m y k with o|o
  ·exact h.ne y o e
  ·omega
 have s:de (λy=>y=p) d (d.setCell ⟨p,0,none⟩ (.slice a (b++[x]).length j)):=(de.refl (λy=>y=p) d).sc;exact z _ _ ⟨by simp[go_sem,n],q.mod s λy k e=>g y k e,g⟩ ((r.mono λ_ _ h=>.inr h).trans (s.mono λ_ _ h=>.inl h)) m
def C7(a:Int)(ids:List Int)(o:Od):List Int:=if ofA a o then ids++[o.num]else ids
def GC{f:Nat}{e:List Int}(F:hC w p #[.int .u32 a] 23)(z:rF w f sl e)(Q:e.length<=100000)(B:p≠f)(H:¬cK sl p)
  (I:∀b i,rF i f b (C7 a e o)->de (λy=>y=f\/cK sl y) w i->(∀y,cK b y->cK sl y\/w.heap.size<=y)->(ofA a o=false->M0 w i/\b=sl)->K (.bool (ofA a o)) i):
  Ca pQ 147 #[oG o,.pointer (some ⟨p,0,none⟩),.pointer (some ⟨f,0,none⟩)] w K:=by
 apply al3;obtain⟨g,T,n,k⟩:=vt o w;apply cI T;obtain⟨q,G⟩:=dW w.heap.size;rw[<-G]at n|-;have j:=k.hpk F id;have h:=z.mod k id eQ;have N:=cB z.at_;have J:=k.size;refine dK.at (λst W=>∃b,rF W f b (C7 a e o)/\de (λy=>y=f\/cK sl y) g W/\(∀y,cK b y->cK sl y\/g.heap.size<=y)/\(ofA a o=false->g=W/\b=sl)) ?_ ?_
 ·refine cx (pt q 1) g (by simp[go_sem]) (cx (gU o.acct) g (by simp[go_sem,n,fL]) ?_);refine qS1 j ?_;by_cases d:o.acct=a
  ·have u:ofA a o=true:=by unfold ofA;simp[d]
   refine qSt1 d ?_;apply cI h.ld;refine cx (pt q 0) g (by simp[go_sem]) (cx (gQ o.num) g (by simp[go_sem,n,fL]) ?_);refine LI h Q λb i U P E=>?_;refine⟨b,?_,P,E,λC=>by grind⟩;unfold C7;rw[u];exact U
  ·have u:ofA a o=false:=by unfold ofA;simp[d]
   refine qSf1 d ?_;refine⟨sl,?_,lX,λy x=>.inl x,λ_=>⟨rfl,rfl⟩⟩;unfold C7;rw[u];exact h
 rintro _ W ⟨b,R,t,L,M⟩;unfold RC;intro _
 have r:¬(q=f\/cK sl q):=λm=>by
  rcases m with m|m
  ·omega
  ·have:=z.own.lt m;omega
 have O:=t.hpk n r;have s:=t.hpk j λm=>by grind
 refine cx (pt q 1) W (by simp[go_sem]) (cx (gU o.acct) W (by simp[go_sem,O,fL]) ?_);refine qS1 s ?_;apply cx (.bool (ofA a o)) W (by simp[go_sem,ofA];rfl);refine I b W R ((k.to).trans t) (λy x=>(L y x).imp id λV=>qZ) λC=>?_;obtain⟨rfl,rfl⟩:=M C;exact⟨k,rfl⟩
def J7(h:Rd w 5 s L.length (L.flatMap fL)){i:Nat}(hi:i<L.length):
  ∃p,(iX 95 s (gI (i:Int))).run pQ w=.ok p w/\(iL pz p).run pQ w=.ok (oG L[i]) w:=by
 obtain⟨b,f,n,d,j,o⟩:=h.item gM hi rfl;obtain⟨C,e,fz,hC,a⟩:=o.get;have g0:=a 0 (gQ L[i].num) rfl;have g1:=a 1 (gU L[i].acct) rfl;have g:=a 2 (.bool L[i].buy) rfl;have m:=a 3 (gI L[i].price) rfl;have k:=a 4 (gI L[i].left) rfl;simp only[jU,dS]at g0 g1 g m k;exact⟨.pointer (some ⟨b,f+i*5,none⟩),by rw[d];simp[go_sem,hi,cS],by simp[go_sem,fy hC,g0,g1,g,m,k,fL,oG]⟩
def Ni{t n:Nat}{f:List Int}(h:Rd w 5 s L.length (L.flatMap fL))(Z:L.length<=100000)(F:hC w t #[.int .u32 a] 23)(T:rF w n sl f)
  (B:f.length<=100000)(p:t≠n)(z:¬cK sl t)
  (G:L.findIdx? (ofA a)=none->∀g,M0 w g->K (gI (-1)) g)
  (J:∀i (hi:i<L.length),(∀j (r:j<L.length),j<i->ofA a L[j]=false)->ofA a L[i]=true->∀d g,rF g n d (f++[L[i].num])->de (λy=>y=n\/cK sl y) w g->(∀y,cK d y->cK sl y\/w.heap.size<=y)->K (gI (i:Int)) g):
  Ca pQ 138 #[s,.func (.func 147) #[] #[.pointer (some ⟨t,0,none⟩),.pointer (some ⟨n,0,none⟩)]] w K:=by
 apply WG;obtain⟨sa,sc,P⟩:=h.isSl;apply jm (gI (L.length:Int)) w (by rw[P];simp[go_sem])
 refine eS (λst W=>∃(i:Nat) (x:Vt_),i<=L.length/\st=(x,gI i,())/\M0 w W/\∀j,∀r,j<i->ofA a L[j]=false)
  (λst _=>match st.2.1 with| .int _ i=>L.length - i.toNat|_=>0) ⟨0,gI 0,qZ,rfl,lX,λj _ h=>qZ⟩ ?_
 rintro⟨_,_⟩ W ⟨i,x,hi,⟨⟩,e,k⟩ X u;unfold JD;intro _;by_cases m:i<L.length
 ·have b:(i:Int)<(L.length:Int):=qZ;refine qSt1 b ?_;obtain⟨q,H,R⟩:=J7 (h.mod e eQ) m;apply cI H;apply cI R;simp only[kE];refine GC (e.hpk F id) (T.mod e id eQ) B p z λd V C Q E O=>?_;cases hp:ofA a L[i]with
  |true=>
   rw[kx];refine J i m k hp d V ?_ ((e.to).trans Q) λy N=>(E y N).imp id λY=>by have:=e.size;omega
   unfold C7 at C;rw[hp]at C;exact C
  |false=>
   rw[gP];apply qSj i;refine u _ _ ⟨i+1,_,qZ,rfl,e.trans (O hp).1,λj r I=>?_⟩ (by grind);by_cases U:j=i
   ·subst U;exact hp
   ·grind
 ·obtain rfl:i=L.length:=qZ;have b:¬(L.length:Int)<(L.length:Int):=qZ;refine qSf1 b ?_;refine G ?_ W e;rw[fR];intro o M;obtain⟨j,r,rfl⟩:=cX M;exact k j r r
def GR(hi:i<L.length)(d:∀j (e:j<L.length),j<i->ofA a L[j]=false):(L.take i).filter (ofA a)=[]/\(L.take i).filter (λo=> !ofA a o)=L.take i:=by
 have key:∀o∈L.take i,ofA a o=false:=λo b=>by
  obtain⟨j,e,rfl⟩:=cX b;rw[List.getElem_take];rw[cZ]at e;exact d j qZ qZ
 exact⟨ii.2 λo b=>by rw[key o b];simp,fi.2 λo b=>by rw[key o b];rfl⟩
def L7{U x:Nat}{p:List Int}(h:qR w s L)(hn:L.length<=1000)(h2:hC w U #[.int .u32 a] 23)(h6:rF w x sl p)
  (hni:p.length<=50000)(C:U≠x)(O:¬cK sl U)(hd:∀y,cK s y->y≠U/\y≠x/\¬cK sl y)
  (hK:∀s' g w',qR w' s' (L.filter λo=> !ofA a o)->rF w' x g (p++(L.filter (ofA a)).map (·.num))->de (λy=>cK s y\/y=x\/cK sl y) w w' ->(∀y,cK s' y->cK s y)->(∀y,cK g y->cK sl y\/w.heap.size<=y)->K s' w'):
  Ca pQ 146 #[s,.func (.func 147) #[] #[.pointer (some ⟨U,0,none⟩),.pointer (some ⟨x,0,none⟩)]] w K:=by
 apply ZG;refine Ni h.rd qZ h2 h6 qZ C O (λJ w1 Q=>?_) λi0 F hno I sl1 w1 ids1 Q n1=>?_
 ·refine qSt0 ?_;rw[fR]at J;have e1:L.filter (ofA a)=[]:=ii.2 λo N=>by grind
  have e2:(L.filter λo=> !ofA a o)=L:=fi.2 λo N=>by grind
  rw[e1,e2]at hK;exact hK s sl w1 (h.mod Q eQ) (by simpa using h6.mod Q id eQ) (Q.to) (λ_ h=>h) λ_ h=>.inl h
 ·obtain⟨b,r,rest,rfl,f,hb,hrl,hr1⟩:=h.pos qZ;have hbs:=cB hb;have u:∀y,cK (.slice (some ⟨b,0,none⟩) L.length r) y↔y=b:=λy=>⟨λd=>(by cases d;rfl),λd=>by subst d;exact rfl⟩
  have m:=hd b ((u b).2 rfl);refine qSf0 ?_;apply qSj i0;have hs1:=Q.size
  have h1:=h.mod Q λy d f=>by
   rw[u]at d;subst d;rcases f with f|f
   ·exact m.2.1 f
   ·exact m.2.2 f
  obtain⟨t1,t2⟩:=GR F hno
  refine eS (λst W=>∃(i j:Nat) (M:List Od) (g:Vt_),st=(gI i,gI j,())/\i<j/\j<=L.length/\qR W (.slice (some ⟨b,0,none⟩) L.length r) M/\M.length=L.length/\M.take i=(L.take j).filter (λo=> !ofA a o)/\M.drop j=L.drop j/\
    rF W x g (p++((L.take j).filter (ofA a)).map (·.num))/\de (λy=>y=b\/y=x\/cK sl y) w W/\∀y,cK g y->cK sl y\/w.heap.size<=y)
   (λst _=>match st.2.1 with| .int _ j=>L.length - j.toNat|_=>0) ⟨i0,i0+1,L,sl1,rfl,qZ,F,h1,rfl,?_,rfl,?_,Q.mono λ_ _ h=>.inr h,n1⟩ ?_
  ·rw[eA F,dJ,t2,cY (by rw[I];simp)];simp
  ·rw[eA F,dJ,t1,dI I];exact ids1
  rintro _ W ⟨i,j,M,g,rfl,hij,hjL,r1,r2,r3,r4,r5,r6,r7⟩ KN hKN;unfold Qy;intro _;refine qN0 ?_;have hMW:=r6.size
  have Y:¬cK g U:=λf=>by
   rcases r7 _ f with t|t
   ·exact O t
   ·have:=cB h2;omega
  have H:¬cK g b:=λf=>by
   rcases r7 _ f with t|t
   ·exact m.2.2 t
   ·omega
  have h2W:=r6.hpk h2 λf=>by
   rcases f with f|f|f
   ·exact m.1 f.symm
   ·exact C f
   ·exact O f
  by_cases B:j<L.length
  ·apply cx (.bool true) W (by simp[go_sem];omega);rw[kx]
   have hMj:M[j]'qZ=L[j]:=by
    have e:=fC (λl=>l[0]?) r4;simp only[iY,dS]at e;rw[cE qZ,cE B]at e;exact dB e
   have hrd:=r1.rd;obtain⟨pj,f1,f2⟩:=J7 (i:=j) hrd qZ;rw[hMj]at f2
   have E:(p++((L.take j).filter (ofA a)).map (·.num)).length<=100000:=by
    have h1:=dm (ofA a) (L.take j);rw[cD,cz];rw[cZ]at h1;omega
   refine dK.at (λst W' =>∃(i' :Nat) (V:List Od) (n:Vt_),st=(gI i',())/\i' <j+1/\qR W' (.slice (some ⟨b,0,none⟩) L.length r) V/\V.length=L.length/\V.take i' =(L.take (j+1)).filter (λo=> !ofA a o)/\V.drop (j+1)=L.drop (j+1)/\
    rF W' x n (p++((L.take (j+1)).filter (ofA a)).map (·.num))/\de (λy=>y=b\/y=x\/cK sl y) w W' /\∀y,cK n y->cK sl y\/w.heap.size<=y) ?_ ?_
   ·refine cI f1 (cI f2 ?_);obtain⟨W1,e1,b1,m1'⟩:=kD W;apply cI e1;obtain⟨q,hq⟩:=dW W.heap.size;rw[<-hq]at b1|-;obtain⟨W2,e2,b2,m2'⟩:=jK (o' :=L[j]) b1;apply ir e2;have M2:=m1'.on m2' λy d=>gz;apply cI (lM (o:=L[j]) (At.all b2));simp only[kE];have i2:=r5.mod M2 id eQ
    have hqsl:¬(q=x\/cK g q):=λf=>by
     rcases f with f|f
     ·have:=cB r5.at_;omega
     ·have:=r5.own.lt f;omega
    refine GC (M2.hpk h2W id) i2 E C Y λn W3 i3 m3 n3 f3=>?_;refine qS0 ?_
    have M3:de (λy=>y=b\/y=x\/cK sl y) w W3:=by
     refine(r6.trans (M2.to (G:=λy=>y=b\/y=x\/cK sl y))).on m3 λy d=>?_;rcases d with d|d
     ·grind
     ·rcases r7 y d with t|t
      ·grind
      ·exact .inr t
    have o3:=(r1.mod M2 eQ).mod m3 λy d f=>by
     rw[u]at d;subst d;rcases f with f|f
     ·exact m.2.1 f
     ·exact H f
    have b3:=m3.hpk b2 hqsl
    have R:∀y,cK n y->cK sl y\/w.heap.size<=y:=λy d=>by
     rcases n3 y d with t|t
     ·exact r7 y t
     ·exact .inr (by have:=M2.size;omega)
    have X:C7 a (p++((L.take j).filter (ofA a)).map (·.num)) L[j]=p++((L.take (j+1)).filter (ofA a)).map (·.num):=by
     unfold C7;rw[eA B,dJ];cases N:ofA a L[j]with
     |true=>rw[dI N];simp
     |false=>rw[cY (by rw[N];simp)];simp
    rw[X]at i3
    have hdr:M.drop (j+1)=L.drop (j+1):=by
     have:=fC (List.drop 1) r4
     rwa[eN,eN]at this
    cases N:ofA a L[j]with
    |false=>
     rw[show(!false)=true from rfl,cy,bZ rfl];apply cI (lM (o:=L[j]) (At.all b3));obtain⟨pi,g1,g2⟩:=qR.el (l:=M) o3 (i:=i) qZ (sl:=.slice (some ⟨b,0,none⟩) L.length r) (w:=W3);obtain⟨-,g4⟩:=g2 W3 M o3 qZ;obtain⟨W4,s4,o4,m4⟩:=g4 L[j];refine cI (g1 W3) (ir s4 ?_);apply qSj i;have m4' :=m4.mono λy _ d=>(u y).1 d;refine⟨i+1,M.set i L[j],n,rfl,qZ,o4,by grind,?_,?_,i3.mod m4' (λe=>m.2.1 e.symm) λy d e=>?_,M3.trans (m4'.mono λy _ d=>.inl d),R⟩
     ·rw[eA (by grind),gV,List.take_set_of_le (cJ _),r3,eA B,dJ,dI (by rw[N];rfl)];rfl
     ·rw[List.drop_set_of_lt qZ];exact hdr
     ·subst e;rcases R y d with t|t
      ·exact m.2.2 t
      ·omega
    |true=>
     rw[show(!true)=false from rfl,cy,aZ gL];refine⟨i,M,n,rfl,qZ,o3,r2,?_,hdr,i3,M3,R⟩;rw[r3,eA B,dJ,cY (by rw[N];simp)];simp
   rintro _ W' ⟨i',V,n,rfl,u1,u2,u3,u4,u5,u6,u7,u8⟩;unfold RD;intro _;apply qSj j;exact hKN _ _ ⟨i',j+1,V,n,rfl,u1,B,u2,u3,u4,u5,u6,u7,u8⟩ (by grind)
  ·obtain rfl:j=L.length:=qZ;refine qSf0 ?_;rw[cN]at r3 r5;apply cI (yI mH B9 (show i<=L.length by omega) f qZ W);obtain⟨b',Z,k,he',hc',hb',hrl',hr1'⟩:=r1.pos qZ;obtain⟨rfl,-,rfl⟩:b=b' /\L.length=M.length/\r=Z:=by simpa using he'
   have hMl:(M.flatMap fL).length=M.length*5:=by rw[wT gM]
   refine Ek mH (eO Oh) hb' (by grind) λz hz hz1=>?_;have T:(M.take i).length=i:=by grind
   have hA:((M.take i).flatMap fL).length=i*5:=by rw[wT gM,T]
   have P:mh (M.flatMap fL++k) (i*5) z=(M.take i).flatMap fL++(z++k):=by
    unfold mh;rw[hz,dh (by rw[hMl];omega),SN gM,df,show i*5+(L.length - i)*(4+1)=(M.flatMap fL).length by rw[hMl];omega,fj]
   apply cI (IU mH B9 (show i<=r by omega) qZ _);have m9:de (λy=>y=b) W (W.setRow b (mh (M.flatMap fL++k).toArray.toList (i*(4+1)) z).toArray):=(de.refl (λy=>y=b) W).setRow (.inl rfl) _;refine hK _ g _ (?_ :qR _ _ _) (r5.mod m9 (λe=>m.2.1 e.symm) λy d e=>H (e▸d)) ((r6.mono λy _ d=>?_).trans (m9.mono λy _ d=>.inl ((u y).2 d))) (λy d=>(u y).2 (by cases d;rfl)) r7
   ·rw[<-r3];refine⟨by rw[hA,T],.inr ⟨b,r,z++k,by rw[T],qZ,?_,?_,?_⟩⟩
    ·rw[ij,bZ rfl,hb'];rw[P]
    ·grind
    ·grind
   ·rcases d with d|d
    ·grind
    ·exact .inr d
def wg(a k:Int)(S:Ven)(i:Nat):List Int×Ven:=((S.nums.take i).filter λn=>decide (k=0\/k=n)).foldl (clr1 a) ([],S)
def Mj(hi:i<S.cal.l.length):wg a k S (i+1)=if k=0\/k=S.cal.l[i].spec.num then clr1 a (wg a k S i) S.cal.l[i].spec.num else wg a k S i:=by
 unfold wg;have b:i<S.nums.length:=by unfold Ven.nums;rw[cz];exact hi
 have c:S.nums[i]=S.cal.l[i].spec.num:=by simp[Ven.nums]
 rw[eA b,dJ,kH,c];by_cases h:k=0\/k=S.cal.l[i].spec.num
 ·grind
 ·grind
def GA:wg a k S S.cal.l.length=S.clear a k:=by
 unfold wg Ven.clear;rw[cT (by unfold Ven.nums;rw[cz];exact cJ _)]
def PD:(wg a k S i).2.cal=S.cal:=C9 _ _ _
def HL(h:B.all.length<=200):(qi B a).2.length<=200:=dD (dm _ _) h
def Ax{c l mb md:Nat}{A:List (Int×Nat)}{D:List (Int×Value)}{fp:Pt->Nat->Prop}(h:ik w v c l mb md A D fp S)(hcal:S.cal.Ok)(hbl:∀n,(S.bd n).length<=50)
  (hK:∀sl Z u w',ik w' v c l mb md A Z u (S.clear a k).2->vO w' sl (S.clear a k).1->de (dY fp) w w' ->(∀y,dY u y->dY fp y\/w.heap.size<=y)->(∀y,cK sl y->w.heap.size<=y/\¬dY u y)->(S.clear a k).1.length<=4000->K sl w'):
  Ca pQ 95 #[eY v,gU a,gU k] w K:=by
 apply ay5;obtain⟨t,Q⟩:=dW w.heap.size
 have hlay:∃w4,(((w.alloc (.cells #[eY v] 39)).alloc (.cells #[.int .u32 a] 23) |>.alloc (.cells #[.int .u32 k] 23)).alloc (.cells #[dv] 49))=w4/\w4.heap.size=t+4/\M0 w w4/\
   hC w4 t #[eY v] 39/\hC w4 (t+1) #[.int .u32 a] 23/\hC w4 (t+2) #[.int .u32 k] 23/\hC w4 (t+3) #[dv] 49:=by
  refine⟨_,rfl,by simp[go_sem,Q],((lm.alloc _).alloc _).alloc _,?_,?_,?_,?_⟩<;>simp[go_sem,Q]
 obtain⟨w4,hw4,hsz4,m4,b0,b1,b2,b3⟩:=hlay;apply cx (pt t 0) (w.alloc (.cells #[eY v] 39)) (by rw[Q];rfl);apply cx (pt (t+1) 0) ((w.alloc (.cells #[eY v] 39)).alloc (.cells #[.int .u32 a] 23)) (by simp[go_sem,Q]);apply cx (pt (t+2) 0) (((w.alloc (.cells #[eY v] 39)).alloc (.cells #[.int .u32 a] 23)).alloc (.cells #[.int .u32 k] 23)) (by simp[go_sem,Q]);apply cx (pt (t+3) 0) w4 (by rw[<-hw4];simp[go_sem,Q,dv]);clear hw4;have h4:=h.md0 m4;have lv0:∀W,hC W t #[eY v] 39->(iL 39 (pt t 0)).run pQ W=.ok (eY v) W:=λW hW=>by simp[go_sem,hW,eY]
 have lv1:∀W,hC W (t+1) #[.int .u32 a] 23->(iL 23 (pt (t+1) 0)).run pQ W=.ok (gU a) W:=λW hW=>by simp[go_sem,hW]
 have lv2:∀W,hC W (t+2) #[.int .u32 k] 23->(iL 23 (pt (t+2) 0)).run pQ W=.ok (gU k) W:=λW hW=>by simp[go_sem,hW]
 apply cI (lv0 _ b0);simp only[eY,dr];refine cI (jk 0 qZ _) (cI (EQ _ h4.blk) ?_);refine zq h4.cal λgv w5 ht m5=>?_;have M5:=m4.trans m5;have h5:=h4.md0 m5;have g0:=m5.hpk b0 id;have g1:=m5.hpk b1 id;have g2:=m5.hpk b2 id;have g3:=m5.hpk b3 id;have hs5:=m5.size;have hfl:∀pt x,fp pt x->x<t:=λpt x C=>by rw[Q];exact h.lt C
 have E:∀x,dY fp x->x<t:=λx ⟨pt,C⟩=>hfl pt x C
 let I:(Nat->Prop)->Nat->World->Prop:=λX i W=>∃(Z:List (Int×Value)) (u:Pt->Nat->Prop) (sl:Vt_),ik W v c l mb md A Z u (wg a k S i).2/\rF W (t+3) sl (wg a k S i).1/\(∀y,X y↔dY u y\/y=t+3\/cK sl y)/\
  (∀y,dY u y->(dY fp y\/t+3<y))/\(∀y,cK sl y->t+3<y/\¬dY u y)/\(wg a k S i).1.length<=250*i/\∀n,((wg a k S i).2.bd n).length<=50
 have hT0:wg a k S 0=([],S):=rfl
 delta UK
 refine CX (X0:=λx=>dY fp x\/x=t+3) (fv:=λk:Ct=>.agg (fI k).toArray) (asg:=λx W K=>rx pQ (nE oT) W λv w1=>nj pQ (jH oT v x) w1 λw2=>K v w2) (Pv:=AR oT fI) ht Ar wQ I (λ_ _ _=>False) ?_ (λ_ _ _ _ _ h=>h.elim) (λx C=>?_) ⟨D,fp,dv,by rw[hT0];exact h5,by rw[hT0];exact⟨g3,jo.nil _ _ _,λy f=>(by cases f)⟩,λy=>?_,λy f=>.inl f,λy f=>(by cases f),by rw[hT0];simp,by rw[hT0];exact hbl⟩ ?_ ?_ (λ_ _ _ _ _ h=>h.elim)
 ·rintro X i W W' H ⟨Z,u,sl,i1,Y,P,i4,i5,i6,i7⟩ hm hX;exact⟨Z,u,sl,i1.mod hm λpt y f=>hX y ((P y).2 (.inl ⟨pt,f⟩)),Y.mod hm (hX _ ((P _).2 (.inr (.inl rfl)))) λy f=>hX y ((P y).2 (.inr (.inr f))),P,i4,i5,i6,i7⟩
 ·rcases C with C|C
  ·have:=E x C;omega
  ·omega
 ·constructor
  ·rintro(C|C)
   ·exact .inl C
   ·exact .inr (.inl C)
  ·rintro(C|C|C)
   ·exact .inl C
   ·exact .inr C
   ·cases C
 ·rintro X i hi W q vv ⟨Z,u,sl,i1,Y,P,i4,i5,i6,i7⟩ mW hX hdq hqW ⟨rfl,zgq⟩ ⟨rec0,hrec⟩ KN KJ hKN hKJ
  have f0:=mW.hpk g0 λr=>by
    rcases r with r|r;·have:=E _ r;omega
    ·omega
  have f1:=mW.hpk g1 λr=>by
    rcases r with r|r;·have:=E _ r;omega
    ·omega
  have f2:=mW.hpk g2 λr=>by
    rcases r with r|r;·have:=E _ r;omega
    ·omega
  obtain⟨n,hn⟩:=dW ((S.cal.l[i]).spec.num);have F:=Mj (a:=a) (k:=k) hi;rw[<-hn]at F;have hXs:∀b,X b->b<W.heap.size:=λb hb=>by grind
  have hsome:(eR (wg a k S i).2.cal.l n).isSome=true:=by
   rw[PD];exact vj.1 (by rw[hn];exact dn (cC hi))
  obtain⟨T,hT⟩:=dW ((wg a k S i).2);obtain⟨g,hg⟩:=dW ((wg a k S i).1);have hTg:wg a k S i=(g,T):=by rw[hg,hT]
  rw[<-hT]at i1 i7 hsome;rw[<-hg]at Y i6;apply qSv0 (pt q 0);apply qSv0 (pt q 0);apply qSv3 (gU n) zgq G9 hn;refine dK.at (λst W' =>st=(.bool (decide (¬(k=0\/k=n))),())/\W=W') ?_ ?_
  ·apply cI (lv2 _ f2);by_cases hk0:k=0
   ·apply qSv1 (.bool false) hk0;rw[gP];exact⟨by simp[hk0],rfl⟩
   ·apply qSv1 (.bool true) hk0;rw[kx];apply cI (lv2 _ f2);by_cases L:k=n
    ·apply qSv1 (.bool false) L;exact⟨by simp[L],rfl⟩
    ·apply qSv1 (.bool true) L;exact⟨by simp[hk0,L],rfl⟩
  rintro _ _ ⟨rfl,rfl⟩;unfold Vr;intro _;by_cases L:k=0\/k=n
  case neg=>
   rw[aZ L,hTg]at F;rw[qo L];exact hKN X W ⟨Z,u,sl,by grind,by grind,P,i4,i5,by grind,by grind⟩ lX λb hb=>⟨.inl hb,hXs b hb⟩
  rw[bZ L,hTg]at F;rw[cy,aZ (by grind)];have z:M0 W W.drew:=mP;have h6:=i1.md0 z;have d6:=Y.mod z id eQ;have c0:=z.hpk f0 id;have c1:=z.hpk f1 id;have hs6:W.drew.heap.size=W.heap.size:=rfl
  try dsimp only
  generalize W.drew=W1 at z h6 d6 c0 c1 hs6|-;apply dp (lv0 _ c0);simp only[eY,dr];obtain⟨b,hb,hB⟩:=Wm h6 (n:=n) hsome;refine dw (jk 2 qZ) (dp (IL _ h6.blk) ?_);apply li (xz h6.mbk hb);apply dp (lv1 _ c1);have hBl:=hB.all;refine KV hB λG so W2 q2 o2 m2 n2 s2=>?_;have h7:=h6.setBk hb m2 q2 n2;obtain⟨O,hO⟩:=dW ((qi (T.bk n) a).2);have hOl:O.length<=200:=by rw[hO];exact HL hBl.1
  rw[<-hO]at o2;obtain⟨oa,oc,hso,-⟩:=o2.isSl;apply oy (gI (O.length:Int)) (by rw[hso];simp[go_sem]);obtain⟨B,hfp2⟩:=dW (mj u (.bk n) G);obtain⟨T2,hT2⟩:=dW ({T with bk:=upd T.bk n (qi (T.bk n) a).1}:Ven);rw[<-hfp2,<-hT2]at h7
  have hp3:¬dY u (t+3):=λr=>by
    rcases i4 _ r with s|s;·have:=E _ s;omega
    ·omega
  have hfB:∀y,u (.bk n) y->dY u y:=λy f=>⟨_,f⟩
  have M:∀y,dY B y->dY u y\/W1.heap.size<=y:=by rw[hfp2];exact zX n2
  have hp32:¬dY B (t+3):=λr=>by
    rcases M _ r with s|s;·exact hp3 s
    ·omega
  have hsl2:∀y,cK sl y->¬dY B y:=λy f r=>by
   rcases M y r with s|s
   ·exact(i5 y f).2 s
   ·have:=Y.own.lt f;omega
  have d7:rF W2 (t+3) sl g:=d6.mod m2 (λr=>hp3 (hfB _ r)) λy f r=>(i5 y f).2 (hfB _ r)
  have hnotB:∀{y},t<=y->y<=t+3->¬u (.bk n) y:=λh1 h2 r=>by
   rcases i4 _ (hfB _ r)with s|s
   ·have:=E _ s;omega
   ·omega
  have e0:=m2.hpk c0 (hnotB qZ qZ);have e1:=m2.hpk c1 (hnotB qZ qZ);have hgl:g.length<=4000:=by have:=hcal.len;omega
  have hs62:=m2.size;have hMW2:de X W W2:=(z.to).trans (m2.mono λy _ f=>(P y).2 (.inl (hfB y f)))
  refine eS (λst V=>∃(j:Nat) (R:Vt_),j<=O.length/\st=(gI j,())/\rF V (t+3) R (g++(O.take j).map (·.num))/\de (λy=>y=t+3\/cK sl y) W2 V/\∀y,cK R y->cK sl y\/W2.heap.size<=y)
   (λst _=>match st.1 with| .int _ i=>O.length - i.toNat|_=>0) ⟨0,sl,qZ,rfl,by simpa using d7,lX,λy f=>.inl f⟩ ?_
  rintro⟨_,_⟩ V ⟨j,R,hj,⟨⟩,t1,t2,t3⟩ KM hKM;unfold VC;intro _;have hs25:=t2.size;have hslW2:∀y,cK sl y->y<W2.heap.size:=λy f=>d7.own.lt f
  have o5:qR V so O:=o2.mod t2 λy f r=>by
   have h1:=(s2 y f).1;rcases r with r|r
   ·omega
   ·have:=d6.own.lt r;omega
  have hil:(g++(O.take j).map (·.num)).length<=5000:=by grind
  by_cases hlt:j<O.length
  ·have hlt' :(j:Int)<(O.length:Int):=qZ;apply qSv1 (.bool true) hlt';rw[kx];obtain⟨pj,p1,p2⟩:=J7 o5.rd hlt;refine cI p1 (cI p2 ?_);obtain⟨w7,e7,b7,m7⟩:=kD V;apply cI e7;obtain⟨q5,hq5⟩:=dW V.heap.size;rw[<-hq5]at b7|-;obtain⟨w8,e8,b8,m8⟩:=jK (o' :=O[j]) b7;apply ir e8;have M8:M0 V w8:=m7.on m8 λb hb=>gz;have t8:=t1.mod M8 id eQ;apply cI t8.ld;refine cx (pt q5 0) w8 (by simp[go_sem]) (cx (gQ O[j].num) w8 (by simp[go_sem,b8,fL]) ?_);refine LI t8 qZ λsl9 w9 i9 m9 n9=>?_;apply cx (gI ((j+1:Nat):Int)) w9 (by simp[go_sem];rw[wI_]);have hs8:=M8.size;refine hKM _ _ ⟨j+1,sl9,qZ,rfl,?_,(t2.trans (M8.to)).on m9 λy f=>?_,λy f=>?_⟩ (by grind)
   ·rw[eA hlt,dy,<-df];exact i9
   ·rcases f with f|f
    ·exact .inl (.inl f)
    ·exact(t3 y f).imp .inr id
   ·rcases n9 y f with s|s
    ·exact t3 y s
    ·exact gz
  ·obtain rfl:j=O.length:=qZ;apply qSv0 (.bool false);rw[gP];rw[cN]at t1 hil
   have h8:=h7.mod t2 λpt y f r=>by
    rcases r with r|r
    ·subst r;exact hp32 ⟨pt,f⟩
    ·exact hsl2 y r ⟨pt,f⟩
   have hns:∀{y},t<=y->y<t+3->¬(y=t+3\/cK sl y):=λh1 h2 r=>by
    rcases r with r|r
    ·omega
    ·have:=(i5 _ r).1;omega
   have k0:=t2.hpk e0 (hns qZ qZ);have k1:=t2.hpk e1 (hns qZ qZ);have z:M0 V V.drew:=mP;have J:=h8.md0 z;have t9:=t1.mod z id eQ;have l0:=z.hpk k0 id;have l1:=z.hpk k1 id;have hs9:V.drew.heap.size=V.heap.size:=rfl
   try dsimp only
   generalize V.drew=W6 at z J t9 l0 l1 hs9|-;apply dp (lv0 _ l0);simp only[eY,dr];refine dw (jk 3 qZ) (dp (AJ _ J.blk) ?_);apply dp (lv0 _ l0);simp only[eY,dr];refine dw (jk 3 qZ) (dp (AJ _ J.blk) ?_);apply li (uF J.mbd n);have hbd:=J.bd n;have hbdl:(T2.bd n).length<=50:=by rw[hT2];exact i7 n
   have N:∀y,cK R y->t+3<y/\¬dY B y:=λy f=>by
    rcases t3 y f with s|s
    ·exact⟨(i5 y s).1,hsl2 y s⟩
    ·exact⟨qZ,λ⟨pt,r⟩=>by have:=h7.lt r;omega⟩
   have hfd:∀y,cK (rz Z n) y->dY B y:=λy f=>⟨.bd n,(J.fbd n y).2 f⟩
   have hlow:∀y,dY B y->y<t\/t+3<y:=λy f=>by
    rcases M y f with s|s
    ·rcases i4 y s with h'' |h''
     ·exact .inl (E y h'')
     ·exact .inr h''
    ·exact gz
   refine L7 hbd qZ l1 t9 qZ qZ (λr=>by grind) (λy f=>?_) λs' sl6 W7 o7 i7' m7 n7 n7' =>?_
   ·have:=hlow y (hfd y f);exact⟨qZ,qZ,λr=>(N y r).2 (hfd y f)⟩
   have hsp:∀y,cK R y->∀pt,¬B pt y:=λy f pt r=>(N y f).2 ⟨pt,r⟩
   have hE:∀p x,p≠ .bd n->B p x->¬(cK (rz Z n) x\/x=t+3\/cK R x):=λp x hp C r=>by
    rcases r with r|r|r
    ·exact J.ap hp x C ((J.fbd n x).2 r)
    ·subst r;exact hp32 ⟨p,C⟩
    ·exact hsp x r p C
   have blk7:=m7.hpk J.blk (hE .v _ (by simp) J.self);have mbd7:=J.mbd.mod m7 (hE .md _ (by simp) ((J.fmd md).2 rfl))
   have z0:=m7.hpk l0 λr=>by
    rcases r with r|r|r
    ·have:=hlow _ (hfd _ r);omega
    ·omega
    ·have:=(N _ r).1;omega
   refine⟨AJ _ blk7,lv0 _ z0,?_⟩;refine kV (enc:=iI) (ev:=yh) (x:=n) (v:=s') xn rP mbd7 λW8 a8 m8 hs8=>?_;have hsome2:(eR T2.cal.l n).isSome=true:=by grind
   have h10:=J.setBdG (n:=n) hsome2 m7 hE o7 (λy f=>.inl ((J.fbd n y).2 (n7 y f))) a8 m8;have hmdA:dY B md:=⟨.md,(J.fmd md).2 rfl⟩
   have hs7:=m7.size
   have i10:=i7'.mod m8 (λe=>hp32 (by rw[e];exact hmdA)) λy f e=>by
    subst e;rcases n7' y f with s|s
    ·exact hsp y s .md ((J.fmd y).2 rfl)
    ·have:=J.lt ((J.fmd y).2 rfl);omega
   obtain⟨fp3,hfp3⟩:=dW (mj B (.bd n) (cK s'));rw[<-hfp3]at h10
   have U:∀y,dY fp3 y->dY B y:=λy ⟨pt,f⟩=>by
    rw[hfp3]at f;by_cases hpt:pt=.bd n
    ·subst hpt;rw[ip]at f;exact hfd y (n7 y f)
    ·rw[eH hpt]at f;exact⟨pt,f⟩
   have hclr:wg a k S (i+1)=(g++O.map (·.num)++((T2.bd n).filter (ofA a)).map (·.num),{T2 with bd:=upd T2.bd n ((T2.bd n).filter λo=> !ofA a o)}):=by
    rw[F,hT2,hO];rfl
   have hXW:∀y,dY B y->X y\/W.heap.size<=y:=λy f=>(M y f).imp (λs=>(P y).2 (.inl s)) λs=>by omega
   have hXs5:∀y,cK R y->X y\/W.heap.size<=y:=λy f=>(t3 y f).imp (λs=>(P y).2 (.inr (.inr s))) λs=>by omega
   refine hKN (λy=>dY fp3 y\/y=t+3\/cK sl6 y) W8 ⟨put Z n s',fp3,sl6,by grind,by grind,λy=>fd,λy f=>?_,λy f=>?_,?_,λm=>?_⟩ ?_ λy f=>?_
   ·rcases M y (U y f)with s|s
    ·exact i4 y s
    ·exact gz
   ·rcases n7' y f with s|s
    ·exact⟨(N y s).1,λr=>(N y s).2 (U y r)⟩
    ·exact⟨qZ,λr=>by obtain⟨pt,hp⟩:=U y r;have:=J.lt hp;omega⟩
   ·rw[hclr];have h1:=dm (ofA a) (T2.bd n);simp only[cD,cz];omega
   ·rw[hclr];show(upd T2.bd n _ m).length<=50;by_cases hmn:m=n
    ·subst hmn;rw[upd_self];exact dD (dm _ _) hbdl
    ·rw[upd_ne _ _ _ hmn,hT2];exact i7 m
   ·have m25:de X W V:=hMW2.on t2 λy f=>by
     rcases f with f|f
     ·exact .inl ((P y).2 (.inr (.inl f)))
     ·exact .inl ((P y).2 (.inr (.inr f)))
    refine((m25.trans (z.to)).on m7 λy f=>?_).on m8 λy f=>?_
    ·rcases f with f|f|f
     ·exact hXW y (hfd y f)
     ·exact .inl ((P y).2 (.inr (.inl f)))
     ·exact hXs5 y f
    ·exact hXW y (by rw[f];exact hmdA)
   ·rcases f with f|f|f
    ·refine⟨hXW y (U y f),?_⟩;obtain⟨pt,hp⟩:=f;exact h10.lt hp
    ·exact⟨.inl ((P y).2 (.inr (.inl f))),by grind⟩
    ·refine⟨?_,i10.own.lt f⟩;rcases n7' y f with s|s
     ·exact hXs5 y s
     ·exact gz
 ·rintro X W d hd ⟨Z,u,sl,i1,Y,P,i4,i5,i6,i7⟩ mW hdef hX;replace i1:ik W v c l mb md A Z u (wg a k S S.cal.l.length).2:=i1;replace Y:rF W (t+3) sl (wg a k S S.cal.l.length).1:=Y;rw[GA]at i1 Y
  have hlen:(S.clear a k).1.length<=4000:=by
   have:=hcal.len;rw[<-GA];have i6' :(wg a k S S.cal.l.length).1.length<=250*S.cal.l.length:=i6;omega
  unfold VU;simp only[iJ];apply cI Y.ld;obtain⟨sa,sc,hsl,-⟩:=Y.own.isSl;have hat:=Y.at_;apply pH (W.setCell ⟨t+3,0,none⟩ sl) (by rw[hsl]at hat|-;simp[go_sem,hat]);have mS:de (λy=>y=t+3) W (W.setCell ⟨t+3,0,none⟩ sl):=(de.refl (λy=>y=t+3) W).sc;have bS:hC (W.setCell ⟨t+3,0,none⟩ sl) (t+3) #[sl] 49:=by simp[go_sem,hat]
  generalize W.setCell ⟨t+3,0,none⟩ sl=W2 at mS bS|-
  have hp3:¬dY u (t+3):=λr=>by
    rcases i4 _ r with s|s;·have:=E _ s;omega
    ·omega
  have hdX:¬X d:=λr=>by
   rcases(hX d r).2 with s|s
   ·rcases s with s|s
    ·have:=E _ s;omega
    ·omega
   ·omega
  have hdef2:=mS.hpk hdef qZ;refine Bz hdef2 λW3 mr=>?_;have b3' :=mr.hpk bS qZ;have j1:=(i1.mod mS λpt y f e=>hp3 (e▸⟨pt,f⟩)).mod mr λpt y f e=>hdX ((P d).2 (.inl (e▸⟨pt,f⟩)));have j2:=(Y.own.mod mS λy f e=>by grind).mod mr λy f e=>hdX ((P d).2 (.inr (.inr (e▸f))));apply oy sl (by rw[hsl]at b3' |-;simp[go_sem,b3']);refine hK sl Z u W3 j1 j2 ?_ (λy f=>(i4 y f).imp id λs=>qZ) (λy f=>⟨by grind,(i5 y f).2⟩) hlen;refine(((M5.to (G:=dY fp)).on mW λy f=>?_).on mS λy f=>gz).on mr λy f=>gz;rcases f with f|f
  ·exact .inl f
  ·exact gz
def Ox(n:Int):Value:=gI n
def Vw:Tryz.prog.underlying 217=some (.map 23 2):=cU
def aD6:qw pQ 2=some (gI 0):=cU
def vJ(w:Wt_)(mw:Nat)(won:Int->Int):Prop:=∃L:List (Int×Int),fB iI Ox w mw L/\∀n,(lk L n).getD 0=won n
def vJ.mod{a:Nat}(h:vJ w a won)(b:de F w w')(d:¬F a):vJ w' a won:=by
 obtain⟨L,c,e⟩:=h;exact⟨L,c.mod b d,e⟩
def vJ.look{a:Nat}(h:vJ w a won)(n:Int):(ji 217 (.map (some a)) (gU n) false).run pQ w=.ok (gI (won n)) w:=by
 obtain⟨L,c,d⟩:=h;have:=rA (ok:=false) (x:=n) Vw rP aD6 (.inr ⟨a,rfl,c⟩:DR iI Ox w (.map (some a)) L);rw[<-d n];cases b:lk L n with
 |none=>rw[b]at this;exact this
 |some x=>rw[b]at this;exact this
abbrev Gv:TypeId:=70
def YX{r:Nat}{a:Ac}(x:Int)(h:hC W r (dH a).toArray Gv):
  ∃c,(iS 2 (pt r 1) (gI x)).run pQ W=.ok () c/\hC c r (dH {a with cash:=x}).toArray Gv/\de (λb=>b=r) W c:=by
 unfold dH at h;exact⟨W.setCell ⟨r,1,none⟩ (gI x),by simp[go_sem,h],by simp[go_sem,h,dH],(de.refl (λb=>b=r) W).sc⟩
def VW{r:Nat}{a:Ac}(x:Bool)(h:hC W r (dH a).toArray Gv):
  ∃c,(iS 4 (pt r 3) (.bool x)).run pQ W=.ok () c/\hC c r (dH {a with dfl:=x}).toArray Gv/\de (λb=>b=r) W c:=by
 unfold dH at h;exact⟨W.setCell ⟨r,3,none⟩ (.bool x),by simp[go_sem,h],by simp[go_sem,h,dH],(de.refl (λb=>b=r) W).sc⟩
def O6{r:Nat}{a:Ac}(h:hC W r (dH a).toArray Gv):(iL Gv (pt r 0)).run pQ W=.ok (oz a) W:=by
 unfold dH at h;simp[go_sem,h,oz]
def eDu:lN pQ 259 3 24=true:=cU
def De:Tryz.prog.underlying 50=some (.slice 23):=cU
def ac6:lN pQ 23 1 4=true:=cU
def Yd{q:Nat}{d:Vt_}{L:List Int}(h:hC W q (mC r sT sG sA).toArray lx)(g:∃a n c,d=.slice a n c)(f:∃a n c,sA=.slice a n c):
  ∃e,(iS 50 (pt q 6) d).run pQ W=.ok () e/\hC e q (mC {r with accts:=L} sT sG d).toArray lx/\de (λb=>b=q) W e:=by
 obtain⟨_,_,_,rfl⟩:=f;obtain⟨a,n,c,rfl⟩:=g;unfold mC at h;exact⟨W.setCell ⟨q,6,none⟩ (.slice a n c),by simp[go_sem,h],by simp[go_sem,h,mC],(de.refl (λb=>b=q) W).sc⟩
def E7{q:Nat}{d:Vt_}{L:List Int}(h:hC W q (mC r sT sG sA).toArray lx)(g:∃a n c,d=.slice a n c)(f:∃a n c,sG=.slice a n c):
  ∃e,(iS 49 (pt q 5) d).run pQ W=.ok () e/\hC e q (mC {r with gone:=L} sT d sA).toArray lx/\de (λb=>b=q) W e:=by
 obtain⟨_,_,_,rfl⟩:=f;obtain⟨a,n,c,rfl⟩:=g;unfold mC at h;exact⟨W.setCell ⟨q,5,none⟩ (.slice a n c),by simp[go_sem,h],by simp[go_sem,h,mC],(de.refl (λb=>b=q) W).sc⟩
def WU{q:Nat}(h:hC W q (mC r sT sG sA).toArray lx)(b:∃a n c,sA=.slice a n c):(iL 50 (pt q 6)).run pQ W=.ok sA W:=by
 obtain⟨_,_,_,rfl⟩:=b;simp[go_sem,h,mC]
def Lp{q:Nat}(h:hC W q (mC r sT sG sA).toArray lx)(b:∃a n c,sG=.slice a n c):(iL 49 (pt q 5)).run pQ W=.ok sG W:=by
 obtain⟨_,_,_,rfl⟩:=b;simp[go_sem,h,mC]
def X6{L d:List Int}(h:vO w s L)(g:vO w s1 d)(l:L.length+d.length<=1000000)
  (i:∀a c,vO c a (L++d)->de (cK s) w c->(∀b,cK a b->cK s b\/w.heap.size<=b)->K a c):rx pQ (eg #[49,49] 49 [s,s1]) w K:=by
 refine jR yu yu (eO Ry) h g.rd (dF.2 λx e=>?_) qZ λa c k j f=>i a c ?_ j f
 ·rw[GP]at e;obtain⟨y,-,rfl⟩:=cF.1 e;rfl
 ·grind
structure BN(w:Wt_)(q:Nat)(sG sA:Vt_)(r:Rp)(lo:Nat)(Z:NP_):Prop where
 at_:hC w q (mC r dv sG sA).toArray lx
 rp:vG w dv sG sA r
 nw:∀y,cK sG y\/cK sA y->lo<=y/\y≠q/\¬Z y
def BN.mod{q:Nat}(h:BN w q sG sA r lo Z)(b:de F w w')(d:¬F q)(c:∀y,cK sG y\/cK sA y->¬F y):BN w' q sG sA r lo Z:=
 ⟨b.hpk h.at_ d,h.rp.mod b λx a=>by
   rcases a with a|a;·cases a
   ·exact c x a,h.nw⟩
def BN.z{b:NP_}{q:Nat}(h:BN w q sG sA r lo Z)(c:∀y,cK sG y\/cK sA y->¬b y):BN w q sG sA r lo b:=⟨h.at_,h.rp,λy a=>⟨(h.nw y a).1,(h.nw y a).2.1,c y a⟩⟩
def aD7{L:List Sd}(h:Rd w 4 s L.length (L.flatMap zp)){i:Nat}(hi:i<L.length):
  ∃p,(iX 260 s (gI (i:Int))).run pQ w=.ok p w/\(iL 264 p).run pQ w=.ok (SG L[i]) w:=by
 obtain⟨b,d,k,c,g,l⟩:=h.item rf hi rfl;obtain⟨C,e,fz,hC,a⟩:=l.get;have g0:=a 0 (gU L[i].acct) rfl;have g1:=a 1 (gI L[i].cash) rfl;have f:=a 2 (.bool L[i].dfl) rfl;have j:=a 3 (gI L[i].cut) rfl;simp only[jU,dS]at g0 g1 f j;exact⟨.pointer (some ⟨b,d+i*4,none⟩),by rw[c];simp[go_sem,hi,cS],by simp[go_sem,fy hC,g0,g1,f,j,zp,SG]⟩
def Zt(d:Sd)(w:Wt_):∃b a,(iA 264 true (.tuple #[])).run pQ w=.ok (pt w.heap.size 0) b/\(iS 264 (pt w.heap.size 0) (SG d)).run pQ b=.ok () a/\hC a w.heap.size (zp d).toArray 264/\M0 w a:=by
 refine⟨w.alloc (.cells #[.int .u32 0,gI 0,.bool false,gI 0] 264),_,by simp[go_sem],by simp[go_sem,SG,zp];rfl,by simp[go_sem,zp],(de.refl _ w).alloc _⟩
def LZ(h:S.led.Ok)(a:Int):0<=(S.acc a).num/\(S.acc a).num<4294967296:=by
 unfold Ven.acc Led.getO;by_cases b:a=0
 ·rw[bZ b];exact⟨by show(0:Int)<=0;omega,by show(0:Int)<_;omega⟩
 ·rw[aZ b];cases c:S.led.find a with
  |none=>exact⟨by grind,by grind⟩
  |some x=>
   have:=h.acc x (fl c);exact⟨by grind,this.2.1⟩
def Qw(a:Int)(x:List Int×Ven)(n m:Int):((clr1 a x n).2.bd m).length<=(x.2.bd m).length:=by
 show(upd x.2.bd n _ m).length<=_;by_cases h:m=n
 ·subst h;rw[upd_self];exact dm _ _
 ·rw[upd_ne _ _ _ h];exact cJ _
def Ei(S:Ven)(a k:Int)(m:Int):((S.clear a k).2.bd m).length<=(S.bd m).length:=by
 have:∀(b:List Int) (x:List Int×Ven),((b.foldl (clr1 a) x).2.bd m).length<=(x.2.bd m).length:=by
  intro b;induction b with
  |nil=>intro x;exact cJ _
  |cons n b c=>intro x;exact dD (c _) (Qw a x n m)
 exact this _ _
def LJ{c l mb md mw:Nat}{A:List (Int×Nat)}{D:List (Int×Value)}{fp:Pt->Nat->Prop}(h:ik w v c l mb md A D fp S)(hcal:S.cal.Ok)(hbl:∀n,(S.bd n).length<=50)
  (hw:vJ w mw won)(hw64:∀n,jl (won n))
  (hK:∀D' z J Y w',ik w' v c l mb md A D' z (S.pay won).2.2->vG w' dv J Y (S.pay won).2.1->de (dY fp) w w' ->(∀y,dY z y->dY fp y\/w.heap.size<=y)->(∀y,cK J y\/cK Y y->w.heap.size<=y/\¬dY z y)->
   (S.pay won).2.1.gone.length<=256000->(S.pay won).2.1.accts.length<=64->K (.tuple #[ud (S.pay won).2.1 dv J Y,gI (S.pay won).1]) w'):
  Ca pQ 131 #[eY v,.map (some mw)] w K:=by
 apply Z2;obtain⟨n0,hn0⟩:=dW w.heap.size
 have hlay:∃w1,w.alloc (.cells #[.map (some mw)] 217)=w1/\w1.heap.size=n0+1/\M0 w w1/\hC w1 n0 #[.map (some mw)] 217:=by
  refine⟨_,rfl,by simp[go_sem,hn0],(de.refl _ w).alloc _,?_⟩;simp[go_sem,hn0]
 obtain⟨w1,hw1,hsz1,m1,b1⟩:=hlay;apply cx (pt n0 0) w1 (by rw[<-hw1,hn0];simp[go_sem]);clear hw1;obtain⟨w2,e2,b2,m2⟩:=qy w1;apply cI e2;obtain⟨q,hq⟩:=dW (n0+1);rw[hsz1,<-hq]at b2|-;have hsz2:q<w2.heap.size:=cB b2;obtain⟨p4,hp4⟩:∃p,p=w2.heap.size:=⟨_,rfl⟩
 have m3:M0 w2 (w2.alloc (.cells #[dv] 257)):=lm;have b3:hC (w2.alloc (.cells #[dv] 257)) p4 #[dv] 257:=by rw[hp4];simp[go_sem]
 apply cx (pt p4 0) (w2.alloc (.cells #[dv] 257)) (by rw[hp4];simp[go_sem,dv]);generalize w2.alloc (.cells #[dv] 257)=w3 at m3 b3|-;have M3:=(m1.trans m2).trans m3;have h3:=h.md0 M3;simp only[eY,dr];refine cI (jk 1 qZ _) (cI (ld1 _ h3.blk) ?_);refine tU h3.led λgv w5 ht m5=>?_;have M5:=M3.trans m5;have h5:=h3.md0 m5;have g1:=m5.hpk (m3.hpk (m2.hpk b1 id) id) id;have g2:=m5.hpk (m3.hpk b2 id) id;have g3:=m5.hpk b3 id;have hw5:=hw.mod M5 id;have hfl:∀pt x,fp pt x->x<n0:=λpt x hx=>by rw[hn0];exact h.lt hx
 have haf:∀x,dY fp x->x<n0:=λx ⟨pt,hx⟩=>hfl pt x hx;have hmw:mw<n0:=by rw[hn0];obtain⟨L,h2,-⟩:=hw;exact h2.lt
 have E:S.led.Ok:=by obtain⟨-,hok⟩:=h.led;exact hok
 have hal64:=E.len;have hs5:p4<w5.heap.size:=cB g3;obtain⟨du,hdu⟩:=dW (λa=>⟨a.num,a.cash,won a.num⟩:Ac->Du);let I:(Nat->Prop)->Nat->World->Prop:=λX i W=>∃sl,hC W p4 #[sl] 257/\jo W 259 3 sl ((S.led.all.take i).map du).length (((S.led.all.take i).map du).flatMap IH)/\(∀y,X y↔y=p4\/cK sl y)/\∀y,cK sl y->p4<y
 delta Pn
 refine zj (X0:=λx=>x=p4) (T:=Gv) (fc:=dH) ht.m rS.ac I (λ_ _ _=>False) ?_ (λ_ _ _ _ _ h=>h.elim) (λx hx=>qZ) ⟨dv,g3,jo.nil _ _ _,λy=>⟨.inl,λg=>g.elim id λg=>by cases g⟩,λy g=>(by cases g)⟩ ?_ ?_ (λ_ _ _ _ _ h=>h.elim)
 ·rintro X i W W' H ⟨sl,i1,i2,i3,i4⟩ hm hX;exact⟨sl,hm.hpk i1 (hX _ ((i3 _).2 (.inl rfl))),i2.mod hm λy g=>hX y ((i3 y).2 (.inr g)),i3,i4⟩
 ·rintro X i hi W r ⟨sl,i1,i2,i3,i4⟩ mW hX hdq hqW zgq KN KJ hKN hKJ;obtain⟨a,ha⟩:=dW (S.led.all[i]);rw[<-ha]at zgq;unfold dH at zgq;obtain⟨sa,sc,hsl,-⟩:=i2.isSl;have f1:=mW.hpk g1 qZ;have hwW:=hw5.mod mW qZ;have htk:=eA hi;rw[<-ha]at htk;apply cx sl W (by rw[hsl]at i1|-;simp[go_sem,i1]);refine cx (pt r 0) W (by simp[go_sem]) (cx (gU a.num) W (by simp[go_sem,zgq]) ?_);refine cx (pt r 1) W (by simp[go_sem]) (cx (gI a.cash) W (by simp[go_sem,zgq]) ?_);refine qS1 f1 ?_;refine cx (pt r 0) W (by simp[go_sem]) (cx (gU a.num) W (by simp[go_sem,zgq]) ?_);apply iW (hwW.look a.num);apply cx (Y9 (du a)) W (by rw[hdu];simp[go_sem,Y9,IH]);have hl64:((S.led.all.take i).map du).length<=64:=by grind
  refine yM (x:=du a) (f:=IH) aj5 (eO eDu) LH (Th _) rfl i2 qZ qZ λs' W1 o1 mo n1=>?_;obtain⟨ta,tc,hs',-⟩:=o1.isSl;have hpW:=cB i1;have z1:=mo.hpk i1 λj=>by grind
  apply pH (W1.setCell ⟨p4,0,none⟩ s') (by rw[hs'];simp[go_sem,z1]);have mS:de (λy=>y=p4) W1 (W1.setCell ⟨p4,0,none⟩ s'):=(de.refl (λy=>y=p4) W1).sc;have bS:hC (W1.setCell ⟨p4,0,none⟩ s') p4 #[s'] 257:=by simp[go_sem,z1]
  generalize W1.setCell ⟨p4,0,none⟩ s' =W2 at mS bS|-;have hsW:=mo.size;have hs2W:=mS.size
  have hn4:∀y,cK s' y->p4<y:=λy g=>by
   rcases n1 y g with o|o
   ·exact i4 y o
   ·omega
  refine hKN (λy=>y=p4\/cK s' y) W2 ⟨s',bS,?_,λy=>fd,hn4⟩ ((mo.mono λy _ g=>(i3 y).2 (.inr g)).trans (mS.mono λy _ g=>(i3 y).2 (.inl g))) λy g=>?_
  ·rw[htk,dy];exact o1.mod mS λy g e=>by have:=hn4 y g;omega
  ·rcases g with rfl|g
   ·exact⟨.inl ((i3 _).2 (.inl rfl)),qZ⟩
   ·refine⟨(n1 y g).imp (λo=>(i3 y).2 (.inr o)) id,?_⟩;have:=o1.lt g;omega
 ·rintro X W d hd ⟨sl,i1,i2,i3,i4⟩ mW hdef hX;have i2' :jo W 259 3 sl ((S.led.all.take S.led.all.length).map du).length (((S.led.all.take S.led.all.length).map du).flatMap IH):=i2;have hdus:(S.led.all.take S.led.all.length).map du=S.dues won:=by rw[cN,hdu];rfl
  rw[hdus]at i2';clear i2;obtain⟨sa,sc,hsl,-⟩:=i2'.isSl;unfold R7;simp only[iJ];have h6:=h5.mod mW λpt y g e=>by grind
  have q6:=mW.hpk g2 qZ;have mW' :M0 w W:=M5.on mW λy g=>gz;simp only[dr];refine cI (jk 1 qZ _) (cI (ld1 _ h6.blk) ?_);refine ug h6.led λw7 m7=>?_;have hg0:S.led.getV 0=(⟨0,S.led.fund,false,false⟩,0):=rfl;rw[hg0];refine qS0 ?_;refine qS0 ?_;obtain⟨w8,w9,e8,e9,b9,m9⟩:=C0 ⟨0,S.led.fund,false,false⟩ w7;obtain⟨V,hra⟩:=dW w7.heap.size;refine cI e8 (ir e9 ?_);rw[<-hra]at b9|-;unfold dH at b9;have M79:=m7.trans m9;have z9:=M79.hpk i1 id;refine cx (pt V 1) w9 (by simp[go_sem]) (cx (gI S.led.fund) w9 (by simp[go_sem,b9]) ?_);apply cx sl w9 (by rw[hsl]at z9|-;simp[go_sem,z9]);have hdl:(S.dues won).length<=64:=by grind
  have hMF:MF=1000000000000000:=rfl;refine NL (l:=S.dues won) (fund:=S.led.fund) (i2'.mod M79 eQ).rd qZ (λx hx=>?_) (by have:=E.fund;constructor<;>omega) λs' t o10 m10 n10=>?_
  ·unfold Ven.dues at hx;obtain⟨a,ha,rfl⟩:=cF.1 hx;have:=E.acc a ha;exact⟨⟨by grind,this.2.1⟩,⟨by grind,by grind⟩,hw64 _⟩
  obtain⟨X0,hX0⟩:=dW (lP S.led.fund (S.dues won));rw[<-hX0]at o10|-;refine qS0 ?_;refine qS0 ?_;refine qS0 ?_;have M10:=(mW'.trans M79).trans m10;have h10:=(h6.md0 M79).md0 m10;have q10:=m10.hpk (M79.hpk q6 id) id;have d10:=m10.hpk (M79.hpk hdef id) id
  have M:S.pay won=if X0.2.2≠0 then(X0.2.2,zRp,S)else
    (if(payL X0.1 zRp S).1≠0 then payL X0.1 zRp S else(((payL X0.1 zRp S).2.2.led.set ⟨0,X0.2.1,false,false⟩).1,(payL X0.1 zRp S).2.1,{(payL X0.1 zRp S).2.2 with led:=((payL X0.1 zRp S).2.2.led.set ⟨0,X0.2.1,false,false⟩).2})):=by
   unfold Ven.pay;rw[<-hX0]
  have hdn:d<t.heap.size:=cB d10;have hdd:n0<d/\q≠d:=qZ
  have tell:∀(e:Int) (r:Rp) (T:Ven) (D' :List (Int×Value)) (z:Pt->Nat->Prop) (J Y:Vt_) (W:Wt_),S.pay won=(e,r,T)->ik W v c l mb md A D' z T->BN W q J Y r (n0+2) (dY z)->de (dY fp) w W->(∀y,dY z y->dY fp y\/d<y)->(∀y,cK J y\/cK Y y->d<y)->hp W d=some (.deferred (some []))->r.gone.length<=256000->r.accts.length<=64->
    ru pQ (iS lx (pt q 0) (ud r dv J Y)) W λw82=>lj ([d]++[]) w82 λw83=>uc pQ (iL lx (pt q 0)) w83 λv84=>K (.tuple #[v84,gI e]) w83:=by
   intro e r T D' z J Y W he a b m hup hds hdW hl1 hl2;obtain⟨t1,t2,t3⟩:=b.rp.isSl;obtain⟨w11,e11,b11,m11⟩:=pl (r:=r) b.at_ rfl ⟨t1,t2,t3⟩;apply ir e11
   have hqn:∀y,dY z y->y≠q:=λy g=>by
    rcases hup y g with o|o
    ·have:=haf y o;omega
    ·omega
   refine Bz (m11.hpk hdW qZ) λw12 m12=>?_;apply dp (lB (m12.hpk b11 qZ));have hk:=hK D' z J Y w12;rw[he]at hk;refine hk ((a.mod m11 λpt y g e=>hqn y ⟨pt,g⟩ e).mod m12 λpt y g e=>?_) ((b.rp.mod m11 λy g e=>?_).mod m12 λy g e=>?_) ((m.on m11 λy g=>gz).on m12 λy g=>gz) (λy g=>(hup y g).imp id λo=>qZ) (λy g=>⟨by grind,(b.nw y g).2.2⟩) hl1 hl2
   ·rcases hup y ⟨pt,g⟩with o|o
    ·have:=haf y o;omega
    ·omega
   ·rcases g with g|g
    ·cases g
    ·exact(b.nw y g).2.1 e
   ·rcases g with g|g
    ·cases g
    ·have:=hds y g;omega
  have rp0' :BN t q dv dv zRp (n0+2) (dY fp):=⟨q10,vG.nil _ 0,λy g=>by rcases g with g|g<;>cases g⟩
  by_cases hXe:X0.2.2≠0
  ·rw[bZ hXe]at M;refine qSt1 hXe ?_;apply cI (lB q10);exact tell X0.2.2 zRp S D fp dv dv t M h10 rp0' (M10.to) (λy g=>.inl g) (λy g=>by rcases g with g|g<;>cases g) d10 (by show 0<=_;omega) (by show 0<=_;omega)
  rw[aZ hXe]at M;have hX0e:X0.2.2=0:=by simpa using hXe
  refine qSf1 hX0e ?_;obtain⟨out,hout⟩:=dW X0.1;rw[<-hout]at o10 M;have hso:=setl_ok (hX0▸hX0e:(lP S.led.fund (S.dues won)).2.2=0);rw[<-hX0,<-hout]at hso
  have hol:out.length<=64:=by
   have:=fC List.length hso.acct;rw[cz,cz]at this;omega
  have hoa:∀s∈out,pL s.acct:=λs hs=>by
   have h1:s.acct∈(S.dues won).map (·.acct):=by rw[<-hso.acct];exact dn hs
   unfold Ven.dues at h1;rw[dQ]at h1;obtain⟨a,ha,he⟩:=cF.1 h1;have:=E.acc a ha;rw[<-he];exact⟨by grind,this.2.1⟩
  obtain⟨oa,oc,hos,-⟩:=o10.isSl;have hnew:∀y,cK s' y->d<y/\y<t.heap.size:=λy g=>⟨by have:=n10 y g;have:=M79.hpk hdef id;have:=cB this;omega,o10.lt g⟩
  apply jm (gI (out.length:Int)) t (by rw[hos];simp[go_sem]);rw[hX0e]
  refine eS (λst W=>∃(i:Nat) (r:Rp) (T:Ven) (D' :List (Int×Value)) (z:Pt->Nat->Prop) (J Y:Vt_),i<=out.length/\st=(gI 0,gI i,())/\payL (out.drop i) r T=payL out zRp S/\ik W v c l mb md A D' z T/\BN W q J Y r (n0+2) (dY z)/\de (λy=>dY fp y\/y=q) t W/\
    (∀y,dY z y->dY fp y\/t.heap.size<=y)/\(∀y,cK J y\/cK Y y->t.heap.size<=y)/\T.cal=S.cal/\(∀n,(T.bd n).length<=50)/\r.gone.length<=4000*i/\r.accts.length<=i)
   (λst _=>match st.2.1 with| .int _ i=>out.length - i.toNat|_=>0) ⟨0,zRp,S,D,fp,dv,dv,qZ,rfl,rfl,h10,rp0',lX,λy g=>.inl g,λy g=>(by rcases g with g|g<;>cases g),rfl,hbl,by show 0<=_;omega,by show 0<=_;omega⟩ ?_
  rintro _ W1 ⟨i,r,T,D',z,J,Y,hi,rfl,j1,j2,j3,j4,j5,j6,j7,j8,j9,j10⟩ KM hKM;unfold I9;intro _;have hsW1:=j4.size
  have Q:∀y,dY z y->y≠q/\y≠d:=λy g=>by
   rcases j5 y g with o|o
   ·have:=haf y o;omega
   ·omega
  have hkeep:∀{y},n0<=y->y≠q->¬(dY fp y\/y=q):=λh1 h2 j=>by
   rcases j with j|j
   ·have:=haf _ j;omega
   ·exact h2 j
  have d1:=j4.hpk d10 (hkeep qZ qZ);have so1:=o10.mod j4 λy g=>hkeep (by grind) (by grind);by_cases hlt:i<out.length
  ·have hlt' :(i:Int)<(out.length:Int):=qZ;apply cx (.bool true) W1 (by simp[go_sem];omega);rw[kx];obtain⟨s,hs⟩:=dW (out[i]);have hdrop:out.drop i=s::out.drop (i+1):=by rw[hs];exact fF hlt
   rw[hdrop]at j1;obtain⟨pi,f1,f2⟩:=aD7 so1.rd hlt;rw[<-hs]at f2;refine cI f1 (cI f2 ?_);obtain⟨wa,wb,ea,eb,bb,mb'⟩:=Zt s W1;refine cI ea (ir eb ?_);obtain⟨qs,hqs⟩:=dW W1.heap.size;rw[<-hqs]at bb|-;unfold zp at bb;have k2:=j2.md0 mb';have hqsb:=cB bb;refine dK.at (λst W=>∃V,st=(.pointer (some ⟨V,0,none⟩),())/\hC W V (dH (T.acc s.acct)).toArray Gv/\qs<V/\M0 wb W) ?_ ?_
   ·have k:M0 wb wb.drew:=mP;have h4:=k2.md0 k;have c4:=k.hpk bb id;have hsd:=k.size
    try dsimp only
    generalize wb.drew=u at k h4 c4 hsd|-;have lds:∀{W},hC W qs #[.int .u32 s.acct,gI s.cash,.bool s.dfl,gI s.cut] 264->(iL 23 (pt qs 0)).run pQ W=.ok (gU s.acct) W:=λhW=>by simp[go_sem,hW]
    refine dw (jk 1 qZ) (dp (ld1 _ h4.blk) ?_);refine qPv0 (pt qs 0) (dp (lds c4) ?_);refine⟨?_,?_⟩
    ·refine ug h4.led λu2 mu2=>?_;rw[oV];refine qP0 ?_;refine qP0 ?_;obtain⟨u3,u4,x1,x2,x3,x4⟩:=C0 (T.acc s.acct) u2;refine cI x1 (ir x2 ?_);exact⟨_,rfl,x3,by have:=mu2.size;omega,(k.trans mu2).trans x4⟩
    ·obtain⟨u2,x1,x2,mu2⟩:=zi u;apply cI x1;have h5' :=h4.md0 mu2;refine⟨lds (mu2.hpk c4 id),ld1 _ h5'.blk,?_⟩;refine ug h5'.led λu3 mu3=>?_;rw[oV];refine qP0 ?_;refine qP0 ?_;obtain⟨u4,y1,y2,y3⟩:=zR (T.acc s.acct) (mu3.hpk x2 id);apply ir y1;exact⟨_,rfl,y2,qZ,((k.trans mu2).trans mu3).on y3 λb hb=>gz⟩
   rintro _ W2 ⟨V,rfl,z1,z2,z3⟩;unfold RH;intro _;have bs:=z3.hpk bb id;refine cx (pt qs 1) W2 (by simp[go_sem]) (cx (gI s.cash) W2 (by simp[go_sem,bs]) ?_);refine qS0 ?_;obtain⟨W3,e3,r3,m3'⟩:=YX s.cash z1;apply ir e3;have M13:M0 W1 W3:=(mb'.trans z3).on m3' λy g=>gz;have k23:=j2.md0 M13;have k33:=j3.mod M13 id eQ;have bs3:=m3'.hpk bs qZ;obtain⟨ac,hac⟩:=dW ({T.acc s.acct with cash:=s.cash,dfl:=(T.acc s.acct).dfl||s.dfl}:Ac);obtain⟨T1,hT1⟩:=dW (if s.dfl then(T.clear s.acct 0).2 else T:Ven);obtain⟨r1,hr1⟩:=dW (if s.dfl then{r with accts:=r.accts++[s.acct],gone:=r.gone++(T.clear s.acct 0).1}else r:Rp)
   have hpl:payL (s::out.drop (i+1)) r T=if(T1.led.set ac).1≠0 then((T1.led.set ac).1,r1,{T1 with led:=(T1.led.set ac).2})else payL (out.drop (i+1)) r1 {T1 with led:=(T1.led.set ac).2}:=by
    rw[hac,hT1,hr1];rfl
   rw[hpl]at j1;have hacn:ac.num=(T.acc s.acct).num:=by rw[hac]
   have hTl:T1.led=T.led:=by
    rw[hT1];split
    ·exact clear_led _ _
    ·rfl
   have hTc:T1.cal=S.cal:=by
    rw[hT1];split
    ·rw[rE];exact j7
    ·exact j7
   have hraW3:V<W3.heap.size:=cB r3
   refine dK.at (λst W=>∃(D'' :List (Int×Value)) (N:Pt->Nat->Prop) (sG' O:Vt_),st=()/\ik W v c l mb md A D'' N T1/\BN W q sG' O r1 (n0+2) (dY N)/\hC W V (dH ac).toArray Gv/\de (λy=>dY fp y\/y=q) t W/\
    (∀y,dY N y->(dY fp y\/t.heap.size<=y)/\y≠V)/\(∀y,cK sG' y\/cK O y->t.heap.size<=y/\y≠V)/\(∀n,(T1.bd n).length<=50)/\r1.gone.length<=4000*(i+1)/\r1.accts.length<=i+1/\hp W d=some (.deferred (some []))) ?_ ?_
   ·refine cx (pt qs 2) W3 (by simp[go_sem]) (cx (.bool s.dfl) W3 (by simp[go_sem,bs3]) ?_);have raFp:∀y,dY z y->y≠V:=λy ⟨pt,g⟩=>by have:=j2.lt g;omega
    have R:∀y,cK J y\/cK Y y->y≠V:=λy g=>by
     rcases g with g|g
     ·have:=j3.rp.go.lt g;omega
     ·have:=j3.rp.ac.lt g;omega
    have j43:de (λy=>dY fp y\/y=q) t W3:=j4.trans (M13.to);cases hdf:s.dfl with
    |false=>
     rw[gP];have e1:T1=T:=by rw[hT1,hdf];rfl
     have e2:r1=r:=by rw[hr1,hdf];rfl
     have e3:ac={T.acc s.acct with cash:=s.cash}:=by grind
     rw[e1,e2,e3];exact⟨D',z,J,Y,rfl,k23,k33,r3,j43,λy g=>⟨j5 y g,raFp y g⟩,λy g=>⟨j6 y g,R y g⟩,j8,qZ,qZ,M13.hpk d1 id⟩
    |true=>
     rw[kx];have e1:T1=(T.clear s.acct 0).2:=by rw[hT1,hdf];rfl
     have e2:r1={r with accts:=r.accts++[s.acct],gone:=r.gone++(T.clear s.acct 0).1}:=by rw[hr1,hdf];rfl
     have e3' :ac={{T.acc s.acct with cash:=s.cash}with dfl:=true}:=by grind
     refine qS0 ?_;obtain⟨W4,e4,r4,m4'⟩:=VW true r3;rw[<-e3']at r4;apply ir e4;have M34:de (λy=>y=V) W3 W4:=m4';have k24:=k23.mod m4' λpt y g e=>raFp y ⟨pt,g⟩ e;have hqW3:=cB k33.at_;have hqW1:=cB j3.at_;have B:=k33.mod m4' qZ λy g=>R y g;have bs4:=m4'.hpk bs3 qZ;have d4:=m4'.hpk (M13.hpk d1 id) (by grind);obtain⟨u1,u2,u3⟩:=B.rp.isSl;have hs4:=m4'.size;have j44:de (λy=>dY fp y\/y=q) t W4:=j43.on m4' λy g=>gz;refine qS0 ?_;apply cI (WU B.at_ u3);refine cx (pt qs 0) W4 (by simp[go_sem]) (cx (gU s.acct) W4 (by simp[go_sem,bs4]) ?_);refine yM (x:=s.acct) (f:=BH) De (eO ac6) (λ_=>rfl) rfl rfl B.rp.ac qZ qZ λO W5 o5 m5' n5=>?_;have hs5' :=m5'.size;have dG:∀y,cK J y->¬cK Y y:=B.rp.d3;have k25:=k24.mod m5' λpt y g j=>(B.nw y (.inr j)).2.2 ⟨pt,g⟩;have at5:=m5'.hpk B.at_ λj=>(B.nw q (.inr j)).2.1 rfl;have g5' :vO W5 J r.gone:=B.rp.go.mod m5' λy g j=>dG y g j;have ra5:=m5'.hpk r4 λj=>R V (.inr j) rfl;have hAlo:∀y,cK Y y->t.heap.size<=y:=λy g=>j6 y (.inr g);have qs10:t.heap.size<=qs:=qZ;have qsA:¬cK Y qs:=λj=>by have:=j3.rp.ac.lt j;omega
     have bs5:=m5'.hpk bs4 qsA;have d5:=m5'.hpk d4 λj=>by grind
     refine qS0 ?_;obtain⟨oa',oc',hsA',-⟩:=o5.isSl;obtain⟨W6,e6,at6,Z⟩:=Yd (L:=r.accts++[s.acct]) at5 ⟨_,_,_,hsA'⟩ u3;apply ir e6
     have C:∀y,cK O y->y≠q/\t.heap.size<=y/\y≠V/\y<W5.heap.size/\¬cK J y/\¬dY z y:=λy g=>by
      have hlt5:=o5.lt g;rcases n5 y g with o|o
      ·exact⟨(B.nw y (.inr o)).2.1,hAlo y o,R y (.inr o),hlt5,λj=>dG y j o,(B.nw y (.inr o)).2.2⟩
      ·refine⟨qZ,qZ,qZ,hlt5,λj=>?_,λ⟨pt,j⟩=>?_⟩
       ·have:=j3.rp.go.lt j;omega
       ·have:=j2.lt j;omega
     have k26:=k25.mod Z λpt y g e=>(Q y ⟨pt,g⟩).1 e;have g6:vO W6 J r.gone:=g5'.mod Z λy g e=>(B.nw y (.inl g)).2.1 e;have a6:jo W6 23 1 O (r.accts++[s.acct]).length ((r.accts++[s.acct]).flatMap BH):=o5.mod Z λy g e=>(C y g).1 e;have ra6:=Z.hpk ra5 qZ;have bs6:=Z.hpk bs5 qZ;have d6:=Z.hpk d5 qZ;have hs6:=Z.size;have k:M0 W6 W6.drew:=mP;have k27:=k26.md0 k;have g7:vO W6.drew J r.gone:=g6.mod k eQ;have a7:=a6.mod k eQ;have at7:=k.hpk at6 id;have ra7:=k.hpk ra6 id;have bs7:=k.hpk bs6 id;have d7:=k.hpk d6 id;have hs7:W6.drew.heap.size=W6.heap.size:=rfl;have j47:de (λy=>dY fp y\/y=q) t W6.drew:=(((j44.on m5' λy g=>.inr (hAlo y g)).on Z λy g=>.inl (.inr g))).trans (k.to)
     try dsimp only
     generalize W6.drew=W7 at k k27 g7 a7 at7 ra7 bs7 d7 hs7 j47|-;refine qPv0 (pt q 5) (dp (Lp at7 u2) ?_);refine qPv0 (pt qs 0) (qWv1 (gU s.acct) bs7 ?_);refine Ax k27 (by rw[j7];exact hcal) j8 λsi D8 fp8 W8 v8 i8 m8 n8 s8 l8=>?_;have hqf:¬dY z q:=λj=>(Q q j).1 rfl;have at8:=m8.hpk at7 hqf;refine⟨Lp at8 u2,?_⟩;have g8:vO W8 J r.gone:=g7.mod m8 λy g j=>(B.nw y (.inl g)).2.2 j;have hs8:=m8.size;refine X6 g8 i8 qZ λsG' W9 o9 m9 n9=>?_;refine qP0 ?_;obtain⟨pa,pc,hsG',-⟩:=o9.isSl;have hs9:=m9.size;have hGlt:∀y,cK J y->y<W1.heap.size:=λy g=>j3.rp.go.lt g
     have hf8:∀y,dY fp8 y->¬cK J y:=λy g j=>by
      rcases n8 y g with o|o
      ·exact(B.nw y (.inl j)).2.2 o
      ·have:=hGlt y j;omega
     have v9:=v8.mod m9 λpt y g j=>hf8 y ⟨pt,g⟩ j;have at9:=m9.hpk at8 λj=>(B.nw q (.inl j)).2.1 rfl;have a9:jo W9 23 1 O (r.accts++[s.acct]).length ((r.accts++[s.acct]).flatMap BH):=(a7.mod m8 λy g j=>(C y g).2.2.2.2.2 j).mod m9 λy g j=>(C y g).2.2.2.2.1 j;have ra9:=m9.hpk (m8.hpk ra7 λj=>raFp V j rfl) λj=>R V (.inl j) rfl;have d9:=m9.hpk (m8.hpk d7 λj=>(Q d j).2 rfl) λj=>by have:=j6 d (.inl j);omega
     obtain⟨W10,e10,at10,U⟩:=E7 (L:=r.gone++(T.clear s.acct 0).1) at9 ⟨_,_,_,hsG'⟩ u2;apply ir e10
     have hf8b:∀y,dY fp8 y->(dY fp y\/t.heap.size<=y)/\y≠V/\y≠q:=λy g=>by
      rcases n8 y g with o|o
      ·exact⟨j5 y o,raFp y o,(Q y o).1⟩
      ·exact⟨gz,qZ,qZ⟩
     have hG'b:∀y,cK sG' y->t.heap.size<=y/\y≠V/\y≠q/\¬dY fp8 y/\¬cK O y:=λy g=>by
      rcases n9 y g with o|o
      ·exact⟨j6 y (.inl o),R y (.inl o),(B.nw y (.inl o)).2.1,λj=>hf8 y j o,λj=>(C y j).2.2.2.2.1 o⟩
      ·refine⟨qZ,qZ,qZ,λ⟨pt,j⟩=>?_,λj=>?_⟩
       ·have:=v8.lt j;omega
       ·have:=(C y j).2.2.2.1;omega
     rw[e1,e2];refine⟨D8,fp8,sG',O,rfl,v9.mod U λpt y g e=>(hf8b y ⟨pt,g⟩).2.2 e,⟨at10,⟨?_,?_,?_,?_,?_,?_⟩,λy g=>?_⟩,U.hpk ra9 qZ,?_,λy g=>⟨(hf8b y g).1,(hf8b y g).2.1⟩,λy g=>?_,λn=>?_,?_,?_,U.hpk d9 qZ⟩
     ·exact(B.rp.tr.mod (F:=λ_=>False) lX eQ).keep λb hb=>(by cases hb)
     ·exact o9.mod U λy g e=>(hG'b y g).2.2.1 e
     ·exact a9.mod U λy g e=>(C y g).1 e
     ·intro y g;cases g
     ·intro y g;cases g
     ·exact λy g=>(hG'b y g).2.2.2.2
     ·rcases g with g|g
      ·have:=hG'b y g;exact⟨qZ,this.2.2.1,this.2.2.2.1⟩
      ·have:=C y g;refine⟨qZ,this.1,λj=>?_⟩;rcases n8 y j with o|o
       ·exact this.2.2.2.2.2 o
       ·omega
     ·refine((j47.on m8 λy g=>?_).on m9 λy g=>.inr (j6 y (.inl g))).on U λy g=>.inl (.inr g);rcases j5 y g with o|o
      ·exact .inl (.inl o)
      ·exact .inr o
     ·rcases g with g|g
      ·have:=hG'b y g;exact⟨this.1,this.2.1⟩
      ·have:=C y g;exact⟨this.2.1,this.2.2.1⟩
     ·exact dD (Ei T s.acct 0 n) (j8 n)
     ·show(r.gone++(T.clear s.acct 0).1).length<=_;rw[cD];omega
     ·show(r.accts++[s.acct]).length<=_;rw[cD];show _+1<=_;omega
   rintro _ W4 ⟨D'',N,sG',O,rfl,y1,y2,y3,y4,y5,y6,y7,y8,y9,y10⟩;unfold RW;intro _;have k:M0 W4 W4.drew:=mP;have h9:=y1.md0 k;have q9:=y2.mod k id eQ;have ra9:=k.hpk y3 id;have d9:=k.hpk y10 id;have y49:de (λy=>dY fp y\/y=q) t W4.drew:=y4.trans (k.to)
   try dsimp only
   generalize W4.drew=W5 at k h9 q9 ra9 d9 y49|-;simp only[dr];refine dw (jk 1 qZ) (dp (ld1 _ h9.blk) ?_);apply dp (O6 ra9);refine FL h9.led (by rw[hacn];exact LZ (by obtain⟨-,hok⟩:=j2.led;exact hok) _) λW6 q6' Z=>?_;have h10' :=h9.setLed Z q6'
   have hy5:∀y,dY N y->y≠q/\y≠d:=λy g=>by
    rcases(y5 y g).1 with o|o
    ·have:=haf y o;omega
    ·omega
   have P:=q9.mod Z (λj=>(hy5 q ⟨_,j⟩).1 rfl) λy g j=>(q9.nw y g).2.2 ⟨_,j⟩;have d10' :=Z.hpk d9 λj=>(hy5 d ⟨_,j⟩).2 rfl
   have y410:de (λy=>dY fp y\/y=q) t W6:=y49.on Z λy g=>by
    rcases(y5 y ⟨_,g⟩).1 with o|o
    ·exact .inl (.inl o)
    ·exact .inr o
   obtain⟨u1,u2,u3⟩:=P.rp.isSl;by_cases he:(T1.led.set ac).1≠0
   ·rw[bZ he]at j1;refine qSt1 he ?_;apply cI (lB P.at_)
    have hpe:S.pay won=((T1.led.set ac).1,r1,{T1 with led:=(T1.led.set ac).2}):=by
     rw[M,<-j1,bZ he]
    exact tell _ r1 _ D'' N sG' O W6 hpe h10' P ((M10.to (G:=dY fp)).on y410 λy g=>g.imp id λo=>qZ) (λy g=>(y5 y g).1.imp id λo=>qZ) (λy g=>by grind) d10' qZ qZ
   ·rw[aZ he]at j1;have he0:(T1.led.set ac).1=0:=by simpa using he
    refine qS1 he0 ?_;rw[cy,aZ gL,he0];apply cx (gI ((i+1:Nat):Int)) W6 (by simp[go_sem];rw[wI_]);exact hKM _ _ ⟨i+1,r1,_,D'',N,sG',O,qZ,rfl,j1,h10',P,y410,λy g=>(y5 y g).1,λy g=>(y6 y g).1,hTc,y7,y8,y9⟩ (by grind)
  ·obtain rfl:i=out.length:=qZ;refine qSf0 ?_;rw[lv]at j1;have j1' :payL out zRp S=(0,r,T):=j1.symm;rw[j1',aZ (by simp)]at M;have k:M0 W1 W1.drew:=mP;have h9:=j2.md0 k;have q9:=j3.mod k id eQ;have d9:=k.hpk d1 id;have y49:de (λy=>dY fp y\/y=q) t W1.drew:=j4.trans (k.to)
   try dsimp only
   generalize W1.drew=W5 at k h9 q9 d9 y49|-;apply dp (lB q9.at_);simp only[dr];refine dw (jk 1 qZ) (dp (ld1 _ h9.blk) ?_);apply dX (oz ⟨0,X0.2.1,false,false⟩) (λ_=>by simp[go_sem,oz]);refine FL h9.led (by grind) λW6 q6' Z=>?_;have h10' :=h9.setLed Z q6';have P:=q9.mod Z (λj=>(Q q ⟨_,j⟩).1 rfl) λy g j=>(q9.nw y g).2.2 ⟨_,j⟩;have d10' :=Z.hpk d9 λj=>(Q d ⟨_,j⟩).2 rfl;refine⟨lB P.at_,?_⟩
   have y410:de (λy=>dY fp y\/y=q) t W6:=y49.on Z λy g=>by
    rcases j5 y ⟨_,g⟩with o|o
    ·exact .inl (.inl o)
    ·exact .inr o
   exact tell _ r _ D' z J Y W6 M h10' P ((M10.to (G:=dY fp)).on y410 λy g=>g.imp id λo=>qZ) (λy g=>(j5 y g).imp id λo=>qZ) (λy g=>by grind) d10' qZ qZ
def NZ:∀{l m:List Int},l.Nodup->(∀x∈l,x∈m)->l.length<=m.length:=by
 intro l;induction l with
 |nil=>intro m _ _;exact nY _
 |cons a l j=>
  intro m d g;rw[dA]at d;have f:=g a (cw ..)
  have:=j (m:=m.erase a) d.2 λx i=>by
   have b:x≠a:=λe=>d.1 (e▸i);exact(List.mem_erase_of_ne b).2 (g x (cu _ i))
  rw[List.length_erase_of_mem f]at this;have h:0<m.length:=List.length_pos_of_mem f;rw[dc];omega
def tV{L:Led}(h:L.Ok)(c:Int):(L.holders c).length<=64:=by
 have k:((L.holders c).map (·.a)).Nodup:=by
  have f:=(h.sp.nodup).sublist ((jv (p:=λp:Po=>decide (p.c=c))).map Po.key);show((L.held.filter λp=>decide (p.c=c)).map (·.a)).Nodup
  have e:(L.held.filter λp=>decide (p.c=c)).map Po.key=((L.held.filter λp=>decide (p.c=c)).map (·.a)).map λa=>(c,a):=by
   rw[dQ];refine dt λp hp=>?_;have:=(cO.1 hp).2;rw[dN]at this;show(p.c,p.a)=(c,p.a)
   rw[this]
  rw[e]at f;exact List.Pairwise.of_map (λa=>(c,a)) (λa b d e=>d (by rw[e])) f
 have:=NZ (m:=L.all.map (·.num)) k λx j=>by
  obtain⟨p,hp,rfl⟩:=cF.1 j;obtain⟨a,i,g⟩:=(h.pos p (cO.1 hp).1).2.2.2.2.2.2.2;exact cF.2 ⟨a,i,g⟩
 rw[cz,cz]at this;exact dD this h.len
def S5(p:Po->Bool):∀l:List Po,(l.filter p).length+(l.filter λx=> !p x).length=l.length:=by
 intro l;induction l with
 |nil=>rfl
 |cons a l b=>cases hp:p a<;>simp[hp]<;>omega
def Up{L:Led}:∀(a:List Int) (H:List Po),(∀p∈H,p.c∈a)->H.length<=(a.map λn=>(H.filter λp=>decide (p.c=n)).length).sum:=by
 intro a;induction a with
 |nil=>intro H h;cases H with|nil=>simp|cons p H=>exact absurd (h p (cw ..)) (by simp)
 |cons n a b=>
  intro H h
  have d:=b (H.filter λp=> !decide (p.c=n)) λp hp=>by
   obtain⟨f,j⟩:=cO.1 hp;rcases cH.1 (h p f)with e|e
   ·grind
   ·exact e
  have g:(H.filter λp=>decide (p.c=n)).length+(H.filter λp=> !decide (p.c=n)).length=H.length:=by
   exact S5 _ H
  have i:(a.map λm=>((H.filter λp=> !decide (p.c=n)).filter λp=>decide (p.c=m)).length).sum<=(a.map λm=>(H.filter λp=>decide (p.c=m)).length).sum:=by
   clear b h d;induction a with
   |nil=>simp
   |cons m a b=>
    simp only[cM,di]
    have:((H.filter λp=> !decide (p.c=n)).filter λp=>decide (p.c=m)).length<=(H.filter λp=>decide (p.c=m)).length:=
     (jv.filter _).length_le
    omega
  simp only[cM,di];omega
def xo{L:Led}(hC:C.Ok)(h:Cb C L):L.held.length<=1024:=by
 have j:=Up (L:=L) (C.l.map (·.spec.num)) L.held λp hp=>by
  obtain⟨k,g,-,e,f⟩:=alive_get (h.held p hp);exact cF.2 ⟨k,f,e⟩
 have b:∀a:List Int,(a.map λn=>(L.held.filter λp=>decide (p.c=n)).length).sum<=64*a.length:=by
  intro a;induction a with
  |nil=>simp
  |cons n a m=>
   have:=tV h.led n;unfold Led.holders at this;simp only[cM,di,dc];omega
 have d:=b (C.l.map (·.spec.num));have i:=hC.len;rw[cz]at d;omega
def Xz(B:Int)(won:Int->Int):Prop:=∀n,-B<=won n/\won n<=B
def A0{V:Int}(k:0<=V):∀(l:List (Int×Int)) {won:Int->Int} {B:Int},Xz B won->(∀x∈l,-V<=x.2/\x.2<=V)->Xz (B+V*l.length) (wonAdd won l):=by
 intro l;induction l with
 |nil=>intro won B h _ n;have:=h n;simpa [wonAdd]using this
 |cons x l i=>
  intro won B h a;have j:=a x (cw ..)
  have f:Xz (B+V) (upd won x.1 (won x.1+x.2)):=λn=>by
   by_cases b:n=x.1
   ·subst b;rw[upd_self];have:=h x.1;omega
   ·rw[upd_ne _ _ _ b];have:=h n;omega
  have d:=i f λy g=>a y (cu _ g);intro n;have:=d n
  have e:B+V*((x::l).length:Int)=B+V+V*l.length:=by
   rw[dc];push_cast;rw[Int.mul_add];omega
  rw[e];exact this
def AD{L:Led}(h:L.Ok)(c price:Int)(cl:Bool):(L.mark c price cl).2.1.length<=64/\∀x∈(L.mark c price cl).2.1,(-1100000000000000<=x.2/\x.2<=1100000000000000)/\pL x.1:=by
 unfold Led.mark;split
 ·grind
 ·rename_i g
  have hp:amongB price 1 MP=true:=by
   cases d:amongB price 1 MP with
   |true=>rfl
   |false=>exact absurd (.inr d) g
  have i:=amongB_iff.1 hp;have e:MP=10000000:=rfl;have k:MF=1000000000000000:=rfl;refine⟨by show((L.holders c).map _).length<=64;rw[cz];exact tV h c,λx j=>?_⟩;obtain⟨p,b,rfl⟩:=cF.1 j;obtain⟨q,z,r,t,s,o,n,a,d,y⟩:=h.pos p (cO.1 b).1;have:=h.acc a d
  have m:p.q*price<=10000000*10000000:=by
   have f:p.q*price<=10000000*price:=fU qZ qZ;omega
  have u: -(10000000*10000000)<=p.q*price:=by
   have f:(-10000000)*price<=p.q*price:=fU qZ qZ;omega
  refine⟨⟨?_,?_⟩,⟨?_,?_⟩⟩
  ·grind
  ·grind
  ·show 0<=p.a;omega
  ·show p.a<_;omega
def av0{L:List (Int×Int)}(h:Rd w 2 s L.length (L.flatMap pE)){i:Nat}(hi:i<L.length):
  ∃p,(iX 252 s (gI (i:Int))).run pQ w=.ok p w/\(iL 256 p).run pQ w=.ok (.agg (pE L[i]).toArray) w:=by
 obtain⟨b,d,j,a,g,k⟩:=h.item (show∀x,(pE x).length=2 from λ_=>rfl) hi rfl;obtain⟨C,e,fz,hC,f⟩:=k.get;have g0:=f 0 (gU L[i].1) rfl;have g1:=f 1 (gI L[i].2) rfl;simp only[jU,dS]at g0 g1;exact⟨.pointer (some ⟨b,d+i*2,none⟩),by rw[a];simp[go_sem,hi,cS],by simp[go_sem,fy hC,g0,g1,pE]⟩
def aj0(x:Int×Int)(w:Wt_):∃b a,(iA 256 true (.tuple #[])).run pQ w=.ok (pt w.heap.size 0) b/\(iS 256 (pt w.heap.size 0) (.agg (pE x).toArray)).run pQ b=.ok () a/\hC a w.heap.size (pE x).toArray 256/\M0 w a:=
 ⟨w.alloc (.cells #[.int .u32 0,gI 0] 256),_,by simp[go_sem],by simp[go_sem,pE];rfl,by simp[go_sem,pE],(de.refl _ w).alloc _⟩
section
variable{w:Wt_}{K:cG}{v c l mb md:Nat}{A:List (Int×Nat)}{D:List (Int×Value)}{fp:Pt->Nat->Prop}{S:Ven}
def Ie{k:Ct}{cl:Bool}{b:Nat}{won:Int->Int}{B:Int}(h:ik w v c l mb md A D fp S)(hw:vJ w b won)(r:¬dY fp b)(hl:S.led.held.length<4294967295)(hB:Xz B won)(hBb:0<=B/\B<=2000000000000000000)
  (hK:∀G,ik G v c l mb md A D fp {S with led:=(S.led.mark k.spec.num k.price cl).2.2}->vJ G b (wonAdd won (S.led.mark k.spec.num k.price cl).2.1)->de (λy=>fp .led y\/y=b) w G->K (gI (S.led.mark k.spec.num k.price cl).1) G):
  Ca pQ 130 #[eY v,.agg (fI k).toArray,.bool cl,.map (some b)] w K:=by
 apply ak9;obtain⟨U,e1,b1,m1⟩:=GT k w;apply cI e1;obtain⟨p,hp0⟩:=dW w.heap.size;rw[<-hp0]at b1|-;have d:S.led.Ok:=by obtain⟨-,d⟩:=h.led;exact d
 have m:M0 U U.drew:=mP;have z:=m1.trans m;have g:=h.md0 z;have I:=m.hpk b1 id;have o:=hw.mod z id
 try dsimp only
 generalize U.drew=w2 at m z g I o|-;simp only[eY,dr];refine dw (jk 1 qZ) (dp (ld1 _ g.blk) ?_);refine qP0 ?_;refine qP0 ?_;refine qW2 I G9 ?_;refine qP0 ?_;refine qW2 I Hs ?_;refine Ux g.led hl λw3 vs q3 J Q n3=>?_;have t:¬fp .led b:=λhc=>r ⟨_,hc⟩;obtain⟨X,hX⟩:=dW (S.led.mark k.spec.num k.price cl);obtain⟨Z,j⟩:=AD d k.spec.num k.price cl;rw[<-hX]at q3 J Z j hK|-;have h3:=g.setLed Q q3;have R:=o.mod Q t;refine qP0 ?_;refine qP0 ?_;obtain⟨va,vc,M,-⟩:=J.isSl;apply jm (gI (X.2.1.length:Int)) w3 (by rw[M];simp[go_sem]);have hmwlt:b<w.heap.size:=by obtain⟨L,g,-⟩:=hw;exact g.lt
 have hs2:=z.size;have N:∀y,cK vs y->y≠b:=λy a=>by grind
 refine eS (λst W=>∃i:Nat,i<=X.2.1.length/\st=(gI i,())/\vJ W b (wonAdd won (X.2.1.take i))/\de (λy=>y=b) w3 W)
  (λst _=>match st.1 with| .int _ i=>X.2.1.length - i.toNat|_=>0) ⟨0,qZ,rfl,R,lX⟩ ?_
 rintro⟨_,_⟩ W ⟨i,hi,⟨⟩,T,F⟩ KN O;unfold Pl;intro _;have o4:=J.mod F λy a=>N y a;by_cases s:i<X.2.1.length
 ·have C:(i:Int)<(X.2.1.length:Int):=qZ;refine qSt1 C ?_;obtain⟨x,hx⟩:=dW (X.2.1[i]);obtain⟨pi,f1,f2⟩:=av0 o4.rd s;rw[<-hx]at f2;have hxb:=j x (by grind);refine cI f1 (cI f2 ?_);obtain⟨wa,u,ea,eb,H,E⟩:=aj0 x W;refine cI ea (ir eb ?_);obtain⟨q,hq⟩:=dW W.heap.size;rw[<-hq]at H|-;unfold pE at H;have Y:=T.mod E id;refine cx (pt q 0) u (by simp[go_sem]) (cx (gU x.1) u (by simp[go_sem,H]) ?_);apply iW (Y.look x.1);refine cx (pt q 1) u (by simp[go_sem]) (cx (gI x.2) u (by simp[go_sem,H]) ?_);obtain⟨wn,f⟩:=dW (wonAdd won (X.2.1.take i))
  have P:Xz (B+1100000000000000*64) wn:=by
   have h1:=A0 (V:=1100000000000000) qZ (X.2.1.take i) hB λy a=>(j y (ek a)).1;rw[<-f]at h1;intro n;have g:=h1 n;have h3:((X.2.1.take i).length:Int)<=64:=by grind
   omega
  rw[<-f]at Y|-;have h64:=P x.1;apply cx (gI (wn x.1+x.2)) u (by simp[go_sem];rw[wI_]);obtain⟨Lw,g1,g2⟩:=Y;refine kV (enc:=iI) (ev:=Ox) (x:=x.1) (v:=wn x.1+x.2) Vw rP g1 λW2 a2 m2 hs2' =>?_;apply cx (gI ((i+1:Nat):Int)) W2 (by simp[go_sem];rw[wI_]);refine O _ _ ⟨i+1,qZ,rfl,⟨_,a2,λn=>?_⟩,(F.trans (E.to)).trans m2⟩ (by grind);rw[sn,eA s,<-hx];unfold wonAdd;rw[kH];show _=upd (wonAdd won (X.2.1.take i)) x.1 (wonAdd won (X.2.1.take i) x.1+x.2) n;rw[<-f];by_cases hn:n=x.1
  ·subst hn;rw[upd_self,bZ rfl];rfl
  ·rw[upd_ne _ _ _ hn,aZ λe=>hn e.symm,g2]
 ·obtain rfl:i=X.2.1.length:=qZ;refine qSf0 ?_;rw[cN]at T;exact hK W (h3.mod F λpt y a e=>r (e▸⟨pt,a⟩)) T ((((z.to).trans (Q.mono λy _ a=>.inl a))).trans (F.mono λy _ a=>.inr a))
end
def aT{L:List Int}(h:Rd w 1 s L.length (L.flatMap BH))(M:L.length<=100000)(m:∀u,M0 w u->K (.bool (L.contains a)) u):
  Ca pQ 133 #[s,gU a] w K:=by
 apply as2;apply Zi;obtain⟨sa,sc,G⟩:=h.isSl;apply jm (gI (L.length:Int)) w (by rw[G];simp[go_sem])
 refine eS (λst W=>∃(i:Nat) (x:Vt_),i<=L.length/\st=(x,gI i,())/\M0 w W/\∀j:Nat,∀n:j<L.length,j<i->L[j]≠a)
  (λst _=>match st.2.1 with| .int _ i=>L.length - i.toNat|_=>0) ⟨0,gI 0,qZ,rfl,lX,λj _ h=>qZ⟩ ?_
 rintro⟨_,_⟩ W ⟨i,x,J,⟨⟩,k,o⟩ I q;unfold QE;intro _;by_cases f:i<L.length
 ·have g:(i:Int)<(L.length:Int):=qZ;refine qSt1 g ?_;obtain⟨b,r,E,p,y,F⟩:=(h.mod k eQ).item (show∀x,(BH x).length=1 from λ_=>rfl) f rfl;obtain⟨C,e,fz,hC,z⟩:=F.get;have g0:=z 0 (gU L[i]) rfl;simp only[dS]at g0;apply cx (pt b (r+i*1)) W (by rw[p];simp[go_sem,f,cS]);apply cx (gU L[i]) W (by simp only[pX]at g0|-;simp[go_sem,fy hC,g0]);by_cases d:L[i]=a
  ·refine qSt1 d ?_;refine qS0 ?_;have:L.contains a=true:=by grind
   rw[this]at m;exact m W k
  ·apply cx (.bool false) W (by simp[go_sem];exact λe=>d e.symm);rw[gP];apply cx (gI ((i+1:Nat):Int)) W (by simp[go_sem];rw[wI_]);refine q _ _ ⟨i+1,_,qZ,rfl,k,λj n B=>?_⟩ (by grind);by_cases t:j=i
   ·subst t;exact d
   ·grind
 ·obtain rfl:i=L.length:=qZ;refine qSf0 ?_;refine qS0 ?_
  have:L.contains a=false:=by
   rw[kI,Ne,List.contains_iff_mem];intro H;obtain⟨j,n,t⟩:=cX H;exact o j n n t
  rw[this]at m;exact m W k
def xO(fp:Pt->Nat->Prop)(p:Pt):mj fp p (fp p)=fp:=by
 funext q;unfold mj;split
 ·rename_i h;rw[h]
 ·rfl
abbrev yE(W:Wt_)(p:Nat)(e:Int):Prop:=hC W p #[.int .i64 e] 43
def Hb{e:Int}(x:Int)(h:yE W p e):∃a,(iS 43 (pt p 0) (gI x)).run pQ W=.ok () a/\yE a p x/\de (λb=>b=p) W a:=
 ⟨W.setCell ⟨p,0,none⟩ (gI x),by simp[go_sem,h],by show hp _ _=_;simp[go_sem,h],(de.refl (λb=>b=p) W).sc⟩
def B4{e:Int}(h:yE W p e):(iL 43 (pt p 0)).run pQ W=.ok (gI e) W:=by simp[go_sem,h]
def U1(W:Wt_):∃a,(iA 43 true (.tuple #[])).run pQ W=.ok (pt W.heap.size 0) a/\yE a W.heap.size 0/\M0 W a:=
 ⟨W.alloc (.cells #[.int .i64 0] 43),by simp[go_sem],by show hp _ _=_;simp[go_sem],(de.refl _ W).alloc _⟩
def MQ{L:Led}(k:Ct):markL [k] L won=if k.st=3 then(0,L,won)else((L.mark k.spec.num k.price false).1,(L.mark k.spec.num k.price false).2.2,wonAdd won (L.mark k.spec.num k.price false).2.1):=by
 unfold markL;split
 ·rfl
 ·simp only;split
  ·rfl
  ·rename_i h
   simp only[markL];have:(L.mark k.spec.num k.price false).1=0:=by simpa using h
   rw[this]
def IM(h:lw w v F S)(hok:S.Ok)(hK:AK w v F S.settle K):Ca pQ 88 #[eY v] w K:=by
 obtain⟨c,l,mb,md,A,D,fp,hr,hF⟩:=h;apply au7;obtain⟨n0,hn0⟩:=dW w.heap.size
 have hlay:∃w1,w.alloc (.cells #[eY v] 39)=w1/\w1.heap.size=n0+1/\M0 w w1/\hp w1 n0=some (.cells #[eY v] 39 (0,0)):=by
  refine⟨_,rfl,by simp[go_sem,hn0],(de.refl _ w).alloc _,?_⟩;simp[go_sem,hn0]
 obtain⟨w1,hw1,hsz1,m1,b1⟩:=hlay;apply cx (pt n0 0) w1 (by rw[<-hw1,hn0];rfl);clear hw1;obtain⟨w2,e2,b2,m2⟩:=qy w1;apply cI e2;obtain⟨q,hq⟩:=dW (n0+1);rw[hsz1,<-hq]at b2|-;obtain⟨w3,e3,b3,m3⟩:=U1 w2;apply cI e3;obtain⟨E,he4⟩:=dW w2.heap.size;rw[<-he4]at b3|-;have hqe:q<E:=by have:=cB b2;omega
 have M3:=(m1.trans m2).trans m3;have h3:=hr.md0 M3;have g0:=m3.hpk (m2.hpk b1 id) id;have g1:=m3.hpk b2 id;have hfl:∀pt x,fp pt x->x<n0:=λpt x B=>by rw[hn0];exact hr.lt B
 have haf:∀x,dY fp x->x<n0:=λx ⟨pt,B⟩=>hfl pt x B;have hFa:∀x,dY fp x↔F x:=λx=>(hF x).symm;have lv0:∀{W},hp W n0=some (.cells #[eY v] 39 (0,0))->(iL 39 (pt n0 0)).run pQ W=.ok (eY v) W:=λhW=>by simp[go_sem,hW,eY]
 apply cI (lv0 g0);simp only[eY,dr];refine cI (jk 0 qZ _) (cI (EQ _ h3.blk) ?_);obtain⟨C,hC⟩:=dW (eD S.cal);refine OA h3.cal λw4 q4 m4=>?_;rw[<-hC]at q4|-;have hCl:C.2.l=S.cal.l:=by rw[hC];exact Ds _
 have h4:=h3.setCal m4 q4 (λx B=>.inl B) (λn=>by rw[hCl]);rw[xO]at h4;obtain⟨u,hS0⟩:=dW ({S with cal:=C.2}:Ven);rw[<-hS0]at h4;have hok0:u.Ok:=by rw[hS0,hC];exact hok.day
 have hnc:∀{y},n0<=y->¬fp .cal y:=λf o=>by have:=hfl _ _ o;omega
 have k0:=m4.hpk g0 (hnc qZ);have k1:=m4.hpk g1 (hnc qZ);have k3:=m4.hpk b3 (hnc qZ);obtain⟨w5,e5,b5,m5⟩:=Hb C.1 k3;refine ir e5 (cI (B4 b5) ?_);have hne:∀pt y,fp pt y->y≠E:=λpt y f e=>by have:=hfl pt y f;omega
 have h5:=h4.mod m5 λpt y f e=>hne pt y f e;have l0:=m5.hpk k0 qZ;have l1:=m5.hpk k1 qZ;have M5:de (dY fp) w w5:=((M3.to (G:=dY fp)).trans (m4.mono λy _ f=>⟨_,f⟩)).on m5 λy f=>gz;have hse4:E<w5.heap.size:=cB b5
 have tellR:∀(e:Int) (r:Rp) (T:Ven) (D' :List (Int×Value)) (s:Pt->Nat->Prop) (sG sA:Vt_) (W:Wt_) (ds:List Nat),S.settle=(e,r,T)->ik W v c l mb md A D' s T->BN W q sG sA r (n0+2) (dY s)->yE W E e->de (dY fp) w W->(∀y,dY s y->(dY fp y\/E<y)/\y ∉ ds)->(∀y,cK sG y\/cK sA y->E<y/\y ∉ ds)->ds.Nodup->(∀d∈ds,hp W d=some (.deferred (some []))/\E<d)->
   lj ds W λw83=>uc pQ (iL lx (pt q 0)) w83 λv84=>uc pQ (iL 43 (pt E 0)) w83 λv85=>K (.tuple #[v84,v85]) w83:=by
  intro e r T D' s sG sA W ds he a b er m hup hds hnd hdW;refine Nk hnd (λd hd=>(hdW d hd).1) λW' m' =>?_;have hdq:∀d∈ds,E<d:=λd hd=>(hdW d hd).2;refine dp (lB (m'.hpk b.at_ λo=>by have:=hdq q o;omega)) (dp (B4 (m'.hpk er λo=>by have:=hdq E o;omega)) ?_);refine hK.tell (F' :=dY s) he (a.mod m' λpt y f o=>(hup y ⟨pt,f⟩).2 o).q (b.rp.mod m' λy f o=>?_) ((m.mono λy _ f=>(hFa y).1 f).on m' λy f=>.inr (by have:=hdq y f;omega)) (λy f=>(hup y f).1.imp (hFa y).1 λh' =>qZ) λy f=>?_
  ·rcases f with f|f
   ·cases f
   ·exact(hds y f).2 o
  ·rcases f with f|f
   ·cases f
   ·exact⟨by have:=(hds y f).1;omega,(b.nw y f).2.2⟩
 have tellS:∀(e:Int) (r:Rp) (T:Ven) (D' :List (Int×Value)) (s:Pt->Nat->Prop) (sG sA:Vt_) (W:Wt_) (ds:List Nat),S.settle=(e,r,T)->ik W v c l mb md A D' s T->BN W q sG sA r (n0+2) (dY s)->yE W E e->de (dY fp) w W->(∀y,dY s y->(dY fp y\/E<y)/\y ∉ ds)->(∀y,cK sG y\/cK sA y->E<y/\y ∉ ds)->ds.Nodup->(∀d∈ds,hp W d=some (.deferred (some []))/\E<d)->
   uc pQ (iL lx (pt q 0)) W λv80=>uc pQ (iL 43 (pt E 0)) W λv81=>ru pQ (iS lx (pt q 0) v80) W λw81=>Sem.run pQ (iL 43 (pt E 0)) w81=.ok v81 w81/\
    (ru pQ (iS 43 (pt E 0) v81) w81 λw82=>lj ds w82 λw83=>uc pQ (iL lx (pt q 0)) w83 λv84=>uc pQ (iL 43 (pt E 0)) w83 λv85=>K (.tuple #[v84,v85]) w83):=by
  intro e r T D' s sG sA W ds he a b er m hup hds hnd hdW;refine dp (lB b.at_) (dp (B4 er) ?_);obtain⟨t1,t2,t3⟩:=b.rp.isSl;obtain⟨W1,f1,x1,y1⟩:=pl (r:=r) b.at_ rfl ⟨t1,t2,t3⟩;refine ir f1 ⟨B4 (y1.hpk er qZ),?_⟩;obtain⟨W2,f2,x2,y2⟩:=Hb e (y1.hpk er qZ);apply ir f2
  have hup' :∀y,dY s y->y≠q/\y≠E:=λy f=>by
   rcases(hup y f).1 with h' |h'
   ·have:=haf y h';omega
   ·omega
  have b2' :BN W2 q sG sA r (n0+2) (dY s):=⟨y2.hpk x1 qZ,(b.rp.mod y1 λy f e=>by
   rcases f with f|f
   ·cases f
   ·exact(b.nw y f).2.1 e).mod y2 λy f e=>by
   rcases f with f|f
   ·cases f
   ·have:=(hds y f).1;omega,b.nw⟩
  exact tellR e r T D' s sG sA W2 ds he ((a.mod y1 λpt y f e=>(hup' y ⟨pt,f⟩).1 e).mod y2 λpt y f e=>(hup' y ⟨pt,f⟩).2 e) b2' x2 ((m.on y1 λy f=>gz).on y2 λy f=>gz) hup hds hnd
   λd hd=>⟨y2.hpk (y1.hpk (hdW d hd).1 (by have:=(hdW d hd).2;omega)) (by have:=(hdW d hd).2;omega),(hdW d hd).2⟩
 have rp0' :∀{W},hp W q=some (.cells (mC zRp dv dv dv).toArray lx (0,0))->BN W q dv dv zRp (n0+2) (dY fp):=λhW=>⟨hW,vG.nil _ 0,λy f=>by rcases f with f|f<;>cases f⟩
 have nilH:∀{ds:List Nat} y,cK dv y\/cK dv y->E<y/\y ∉ ds:=λy f=>by rcases f with f|f<;>cases f
 obtain⟨M,hM⟩:=dW (markL u.cal.l u.led noWon)
 have t:S.settle=if C.1≠0 then(C.1,zRp,u)else if M.1≠0 then(M.1,zRp,{u with led:=M.2.1})else
   if(({u with led:=M.2.1}:Ven).pay M.2.2).1≠0 then({u with led:=M.2.1}:Ven).pay M.2.2 else
    ((freeL (({u with led:=M.2.1}:Ven).pay M.2.2).2.1.accts (({u with led:=M.2.1}:Ven).pay M.2.2).2.2.led.all 0 (({u with led:=M.2.1}:Ven).pay M.2.2).2.2.led).1,(({u with led:=M.2.1}:Ven).pay M.2.2).2.1,
     {(({u with led:=M.2.1}:Ven).pay M.2.2).2.2 with led:=(freeL (({u with led:=M.2.1}:Ven).pay M.2.2).2.1.accts (({u with led:=M.2.1}:Ven).pay M.2.2).2.2.led.all 0 (({u with led:=M.2.1}:Ven).pay M.2.2).2.2.led).2}):=by
  rw[hM,hS0,hC];rfl
 by_cases hCe:C.1≠0
 ·rw[bZ hCe]at t;apply qSv1 (.bool true) hCe;rw[kx];have g:M0 w5 w5.drew:=mP;exact tellS C.1 zRp u D fp dv dv w5.drew [] t (h5.md0 g) (rp0' (g.hpk l1 id)) (g.hpk b5 id) (M5.trans (g.to)) (λy f=>⟨.inl f,by simp⟩) (λy f=>nilH y f) (by simp) (by simp)
 rw[aZ hCe]at t;have hC0:C.1=0:=by simpa using hCe
 apply qSv1 (.bool false) hC0;rw[gP];rw[hC0]at b5;obtain⟨Z,hmw⟩:=dW w5.heap.size;have m6:M0 w5 (w5.alloc (.map #[] 0)):=lm;have aw:fB iI Ox (w5.alloc (.map #[] 0)) Z ([]:List (Int×Int)):=by rw[hmw];exact fB.new w5
 apply cx (.map (some Z)) (w5.alloc (.map #[] 0)) (by rw[hmw];simp[go_sem]);have hs6:(w5.alloc (.map #[] 0)).heap.size=Z+1:=by rw[hmw];simp[go_sem]
 generalize w5.alloc (.map #[] 0)=w6 at m6 aw hs6|-
 have hlay2:∃w7,(w6.alloc (.cells #[.map none] 217)).setCell ⟨Z+1,0,none⟩ (.map (some Z))=w7/\M0 w6 w7/\hp w7 (Z+1)=some (.cells #[.map (some Z)] 217 (0,0)):=by
  refine⟨_,rfl,lm.setCell (.inr (by show w6.heap.size<=Z+1;omega)) _ _,?_⟩;rw[<-hs6];simp[go_sem]
 obtain⟨w7,hw7,m7,b7⟩:=hlay2;apply cx (pt (Z+1) 0) (w6.alloc (.cells #[.map none] 217)) (by rw[<-hs6];simp[go_sem]);apply pH w7 (by rw[<-hw7,<-hs6];simp[go_sem]);clear hw7;have M67:=m6.trans m7;have h7:=h5.md0 M67;have p0:=M67.hpk l0 id;have p1:=M67.hpk l1 id;have p3:=M67.hpk b5 id;have pw:vJ w7 Z noWon:=⟨[],aw.mod m7 id,λn=>rfl⟩
 have M7:=M5.trans (M67.to (G:=dY fp));have hs7:Z+1<w7.heap.size:=cB b7;apply cI (lv0 p0);simp only[eY,dr];refine cI (jk 0 qZ _) (cI (EQ _ h7.blk) ?_);refine zq h7.cal λgv w8 ht m8=>?_;have h8:=h7.md0 m8;have t0:=m8.hpk p0 id;have t1:=m8.hpk p1 id;have t3:=m8.hpk p3 id;have t7:=m8.hpk b7 id;have tw:=pw.mod m8 id;have M8:=M7.trans (m8.to (G:=dY fp));have hs8:=m8.size;obtain⟨X0,hX0⟩:=dW (λy=>dY fp y\/y=Z\/y=E\/y=q:NP_)
 have hX0lt:∀y,X0 y->y<Z+1:=λy f=>by
  rw[hX0]at f;rcases f with f|f|f|f
  ·have:=haf y f;omega
  ·omega
  ·omega
  ·omega
 have hX0n:¬X0 n0/\¬X0 (Z+1):=by
  rw[hX0];constructor
  ·rintro(f|f|f|f)
   ·have:=haf _ f;omega
   ·omega
   ·omega
   ·omega
  ·rintro(f|f|f|f)
   ·have:=haf _ f;omega
   ·omega
   ·omega
   ·omega
 let I:(Nat->Prop)->Nat->World->Prop:=λX i W=>(∀y,X y↔X0 y)/\∃(L:Led) (won:Int->Int),ik W v c l mb md A D fp {u with led:=L}/\vJ W Z won/\yE W E 0/\hp W q=some (.cells (mC zRp dv dv dv).toArray lx (0,0))/\markL (u.cal.l.drop i) L won=M/\Cb u.cal L/\Xz (1100000000000000*64*i) won;let Ex:Code->(Nat->Prop)->World->Prop:=λcc X W=>(∀y,X y↔X0 y)/\cc=.ret/\ik W v c l mb md A D fp {u with led:=M.2.1}/\yE W E M.1/\hp W q=some (.cells (mC zRp dv dv dv).toArray lx (0,0))/\M.1≠0;have hcl:u.cal.l.length<=16:=hok0.cal.len;have hXfp:∀{pt y},fp pt y->X0 y:=λf=>by rw[hX0];exact .inl ⟨_,f⟩
 have hXw:X0 Z:=by rw[hX0];exact .inr (.inl rfl)
 have hXe:X0 E:=by rw[hX0];exact .inr (.inr (.inl rfl))
 have hXq:X0 q:=by rw[hX0];exact .inr (.inr (.inr rfl))
 have hmwfp:¬dY fp Z:=λo=>by have:=haf _ o;omega
 delta OW
 refine CX (X0:=X0) (fv:=λk:Ct=>.agg (fI k).toArray) (asg:=λx W K=>rx pQ (nE oT) W λv w1=>nj pQ (jH oT v x) w1 λw2=>K v w2) (Pv:=AR oT fI) (xs:=u.cal.l) ht Ar wQ I Ex ?_ ?_ (λx B=>by have:=hX0lt x B;omega) ⟨λ_=>fd,u.led,noWon,h8,tw,t3,t1,by rw[iw,hM],hok0.led,λn=>by show _<=(0:Int)/\(0:Int)<=_;omega⟩ ?_ ?_ ?_
 ·rintro X i W W' H ⟨j,L,won,i1,i2,i3,i4,i5,i6,i7⟩ hm hX;have B:∀{b},X0 b->¬H b:=λhb=>hX _ ((j _).2 hb);exact⟨j,L,won,i1.mod hm λpt y f=>B (hXfp f),i2.mod hm (B hXw),hm.hpk i3 (B hXe),hm.hpk i4 (B hXq),i5,i6,i7⟩
 ·rintro cc X W W' H ⟨j,i0,i1,i2,i3,i4⟩ hm hX;have B:∀{b},X0 b->¬H b:=λhb=>hX _ ((j _).2 hb);exact⟨j,i0,i1.mod hm λpt y f=>B (hXfp f),hm.hpk i2 (B hXe),hm.hpk i3 (B hXq),i4⟩
 ·rintro X i hi W qk vv ⟨j,L,won,i1,i2,i3,i4,i5,i6,i7⟩ mW hX hdq hqW ⟨rfl,zgq⟩ ⟨rec0,hrec⟩ KN KJ hKN hKJ;have f0:=mW.hpk t0 hX0n.1;have f7:=mW.hpk t7 hX0n.2;obtain⟨k,hk⟩:=dW (u.cal.l[i]);have hk' :k=u.cal.l[i]'hi:=hk;rw[<-hk']at zgq;have hdrop:u.cal.l.drop i=k::u.cal.l.drop (i+1):=by rw[hk];exact fF hi
  rw[hdrop]at i5;have hXs:∀b,X b->b<W.heap.size:=λb hb=>by have:=(hX b hb).1;omega
  have z:∀{W' :Wt_},W.heap.size<=W'.heap.size->∀b,X b->(X b\/W.heap.size<=b)/\b<W'.heap.size:=λhle b hb=>⟨.inl hb,by have:=hXs b hb;omega⟩
  have hi16:i<16:=by have:i<u.cal.l.length:=hi;omega
  apply qSv0 (pt qk 25);apply qSv2 (gB k.st) zgq D5;by_cases hst:k.st=3
  ·apply qSv1 (.bool false) hst;rw[gP];have e5:markL (k::u.cal.l.drop (i+1)) L won=markL (u.cal.l.drop (i+1)) L won:=by rw[markL,bZ hst]
   rw[e5]at i5;exact hKN X W ⟨j,L,won,i1,i2,i3,i4,i5,i6,λn=>by have:=i7 n;push_cast;omega⟩ lX (z (cJ _))
  ·apply qSv1 (.bool true) hst;rw[kx];apply cI (lv0 f0);apply jq (fI k) 26 ME yV (eE k) (At.all zgq);apply qSv1 (.map (some Z)) f7;have hlh:L.held.length<4294967295:=by have:=xo hok0.cal i6;omega
   refine Ie (S:={u with led:=L}) i1 i2 hmwfp hlh i7 qZ λW1 v1 w1' m1' =>?_;obtain⟨Y,hY⟩:=dW (L.mark k.spec.num k.price false);replace v1:ik W1 v c l mb md A D fp {u with led:=(L.mark k.spec.num k.price false).2.2}:=v1;replace w1' :vJ W1 Z (wonAdd won (L.mark k.spec.num k.price false).2.1):=w1';show ru pQ (iS 43 (pt E 0) (gI (L.mark k.spec.num k.price false).1)) W1 _;obtain⟨hvl,hvb⟩:=AD i6.led k.spec.num k.price false;have hone:=MQ (L:=L) (won:=won) k;rw[aZ hst]at hone
   have O:Cb u.cal (L.mark k.spec.num k.price false).2.2:=by
    have:=(qS hok0.cal [k] L won i6).1;rw[hone]at this;exact this
   have e5:markL (k::u.cal.l.drop (i+1)) L won=if(L.mark k.spec.num k.price false).1≠0 then((L.mark k.spec.num k.price false).1,(L.mark k.spec.num k.price false).2.2,wonAdd won (L.mark k.spec.num k.price false).2.1)else markL (u.cal.l.drop (i+1)) (L.mark k.spec.num k.price false).2.2 (wonAdd won (L.mark k.spec.num k.price false).2.1):=by rw[markL,aZ hst]
   rw[e5]at i5;rw[<-hY]at v1 w1' hvl hvb O i5|-
   have m1x:de X W W1:=m1'.mono λy _ f=>(j y).2 (by
     rcases f with f|f;·exact hXfp f
     ·rw[f];exact hXw)
   have hne4:¬(fp .led E\/E=Z):=λo=>by
     rcases o with o|o;·have:=hfl _ _ o;omega
     ·omega
   have hnq:¬(fp .led q\/q=Z):=λo=>by
     rcases o with o|o;·have:=hfl _ _ o;omega
     ·omega
   obtain⟨W2,f2,x2,R⟩:=Hb Y.1 (m1'.hpk i3 hne4);refine ir f2 (cI (B4 x2) ?_);have v2:=v1.mod R λpt y f e=>hne pt y f e;have w2' :=w1'.mod R qZ;have r2:=R.hpk (m1'.hpk i4 hnq) qZ;have m2x:de X W W2:=m1x.trans (R.mono λy _ f=>(j y).2 (by rw[f];exact hXe));have hs2:=m2x.size;by_cases hye:Y.1≠0
   ·rw[bZ hye]at i5;apply qSv1 (.bool true) hye;rw[kx];have g:M0 W2 W2.drew:=mP;have v3:=v2.md0 g;have r3:=g.hpk r2 id;have x3:=g.hpk x2 id;have m3x:=m2x.trans (g.to (G:=X))
    try dsimp only
    generalize W2.drew=W3 at g v3 r3 x3 m3x|-;refine dp (lB r3) (dp (B4 x3) ?_);obtain⟨W4,f4,r4,U⟩:=pl (r:=zRp) r3 rfl ⟨gJ,gJ,gJ⟩;refine ir f4 ⟨B4 (U.hpk x3 qZ),?_⟩;obtain⟨W5,f5,x5,m5'⟩:=Hb Y.1 (U.hpk x3 qZ);apply ir f5;have hnqf:∀pt y,fp pt y->y≠q:=λpt y f e=>by have:=hfl pt y f;omega
    have m5x:de X W W5:=(m3x.trans (U.mono λy _ f=>(j y).2 (by rw[f];exact hXq))).trans (m5'.mono λy _ f=>(j y).2 (by rw[f];exact hXe));refine hKJ _ X W5 ⟨j,rfl,?_,?_,m5'.hpk r4 qZ,?_⟩ m5x (z m5x.size)
    ·rw[<-i5];exact(v3.mod U λpt y f e=>hnqf pt y f e).mod m5' λpt y f e=>hne pt y f e
    ·rw[<-i5];exact x5
    ·rw[<-i5];exact hye
   ·rw[aZ hye]at i5;have hy0:Y.1=0:=by simpa using hye
    apply qSv1 (.bool false) hy0;rw[gP];rw[hy0]at x2;refine hKN X W2 ⟨j,Y.2.2,wonAdd won Y.2.1,v2,w2',x2,r2,i5,O,λn=>?_⟩ m2x (z hs2);have:=A0 (V:=1100000000000000) qZ Y.2.1 i7 (λx B=>(hvb x B).1) n
    push_cast
    omega
 ·rintro X W d hd ⟨j,L,won,i1,i2,i3,i4,i5,i6,i7⟩ mW hdef hX
  have i5' :M=(0,L,won):=by
   have e:markL (u.cal.l.drop u.cal.l.length) L won=M:=i5;rw[lv]at e;rw[<-e];rfl
  have i7' :Xz (1100000000000000*64*u.cal.l.length) won:=i7;rw[i5',aZ (by simp)]at t;simp only at t;obtain⟨S1,hS1⟩:=dW ({u with led:=L}:Ven);rw[<-hS1]at t i1;have hS1c:S1.cal=u.cal:=by rw[hS1]
  have hS1b:S1.bd=u.bd:=by rw[hS1]
  have O:S1.Ok:=by
   have:=nC hok;rw[<-hC]at this
   have e:(markL C.2.l S.led noWon).2.1=L:=by
    have:M.2.1=L:=by rw[i5']
    rw[<-this,hM,hS0]
   rw[e]at this;rw[hS1,hS0];exact this
  have M9:de (dY fp) w W:=M8.on mW λy f=>by
   rw[hX0]at f;rcases f with f|f|f|f
   ·exact .inl f
   ·exact gz
   ·exact gz
   ·exact gz
  have f0:=mW.hpk t0 hX0n.1;have f7:=mW.hpk t7 hX0n.2;unfold Jp;simp only[iJ];apply cI (lv0 f0);apply qSv1 (.map (some Z)) f7;show Ca pQ _ #[eY v,_] W _;refine LJ i1 O.cal (λn=>O.ord.bdl n) i2 (λn=>by have:=i7' n;constructor<;>omega) λD' s sG sA W1 v1 r1 mp1 up1 sl1 gl1 al1=>?_;obtain⟨P,hP⟩:=dW (S1.pay won);rw[<-hP]at v1 r1 gl1 al1 t|-;apply cI (by simp[-Int.natCast_add,go_sem]<;>first|exact sI|exact rfl);apply cI (by simp[-Int.natCast_add,go_sem]<;>first|exact sI|exact rfl);have hnf:∀{y},n0<=y->¬dY fp y:=λf o=>by have:=haf _ o;omega
  have q1:=mp1.hpk i4 (hnf qZ);have e1:=mp1.hpk i3 (hnf qZ);have d1:=mp1.hpk hdef (hnf qZ);have z0:=mp1.hpk f0 (hnf qZ);obtain⟨u1,u2,u3⟩:=r1.isSl;have hsW:E<W.heap.size:=cB i3;have hdW:d<W.heap.size:=cB hdef;obtain⟨W2,f2,x2,R⟩:=pl (r:=P.2.1) q1 rfl ⟨u1,u2,u3⟩;apply ir f2
  have J:∀y,dY s y->(dY fp y\/d<y)/\y≠q/\y≠E/\y≠d:=λy f=>by
   rcases up1 y f with h' |h'
   ·have:=haf y h';exact⟨.inl h',qZ,qZ,qZ⟩
   ·exact⟨gz,qZ,qZ,qZ⟩
  obtain⟨W3,f3,x3,m3'⟩:=Hb P.1 (R.hpk e1 qZ);refine ir f3 (cI (B4 x3) ?_);have v3:=(v1.mod R λpt y f e=>(J y ⟨pt,f⟩).2.1 e).mod m3' λpt y f e=>(J y ⟨pt,f⟩).2.2.1 e
  have r3:BN W3 q sG sA P.2.1 (n0+2) (dY s):=⟨m3'.hpk x2 qZ,(r1.mod R λy f e=>by
   rcases f with f|f
   ·cases f
   ·have:=(sl1 y f).1;omega).mod m3' λy f e=>by
   rcases f with f|f
   ·cases f
   ·have:=(sl1 y f).1;omega,λy f=>⟨by have:=(sl1 y f).1;omega,by have:=(sl1 y f).1;omega,(sl1 y f).2⟩⟩
  have d3:=m3'.hpk (R.hpk d1 qZ) qZ;have y0:=m3'.hpk (R.hpk z0 qZ) qZ;have M3' :de (dY fp) w W3:=((M9.trans mp1).on R λy f=>gz).on m3' λy f=>gz;have hslb:∀y,cK sG y\/cK sA y->d<y:=λy f=>by have:=(sl1 y f).1;omega
  by_cases hPe:P.1≠0
  ·rw[bZ hPe]at t;apply qSv1 (.bool true) hPe;rw[kx];have g:M0 W3 W3.drew:=mP;exact tellS P.1 P.2.1 P.2.2 D' s sG sA W3.drew [d] t (v3.md0 g) (r3.mod g id eQ) (g.hpk x3 id) (M3'.trans (g.to)) (λy f=>⟨(J y f).1.imp id λh' =>qZ,by simpa using(J y f).2.2.2⟩) (λy f=>⟨by have:=hslb y f;omega,by have:=hslb y f;simp;omega⟩) (by simp) (λx B=>by rw[eK.1 B];exact⟨g.hpk d3 id,qZ⟩)
  rw[aZ hPe]at t;have hP0:P.1=0:=by simpa using hPe
  apply qSv1 (.bool false) hP0;rw[gP];rw[hP0]at x3;obtain⟨hpo,-⟩:=vA O.led O.ord (won:=won) (by rw[<-hP];exact hP0);rw[<-hP]at hpo;obtain⟨T,hT⟩:=dW P.2.2;rw[<-hT]at t v3 hpo;apply cI (lv0 y0);simp only[eY,dr];refine cI (jk 1 qZ _) (cI (ld1 _ v3.blk) ?_);refine tU v3.led λgv2 W4 ht2 U=>?_;have v4:=v3.md0 U;have r4:=r3.mod U id eQ;have d4:=U.hpk d3 id;have s0:=U.hpk y0 id;have x4:=U.hpk x3 id;have M4' :=M3'.trans (U.to (G:=dY fp));have hheld:T.led.held.length<4294967295:=by have:=xo (by rw[hpo.cal];exact O.cal) hpo.led;omega
  have hW4:∀y,dY s y->y<W4.heap.size:=λy ⟨pt,f⟩=>v4.lt f;have hdW4:d<W4.heap.size:=cB d4;have hqW4:q<W4.heap.size:=cB r4.at_;have hn0W4:n0<W4.heap.size:=cB s0;obtain⟨Y0,hY0⟩:=dW (λy=>dY s y\/y=E:NP_)
  have hYlt:∀y,Y0 y->y<W4.heap.size:=λy f=>by
   rw[hY0]at f;rcases f with f|f
   ·exact hW4 y f
   ·omega
  have hYn:∀{y},y=n0\/y=q\/y=d->¬Y0 y:=λf o=>by
   rw[hY0]at o;rcases o with o|o
   ·rcases(J _ o).1 with h' |h'
    ·have:=haf _ h';omega
    ·omega
   ·omega
  have hYfp:∀{pt y},s pt y->Y0 y:=λf=>by rw[hY0];exact .inl ⟨_,f⟩
  have hYe:Y0 E:=by rw[hY0];exact .inr rfl
  let I2:(Nat->Prop)->Nat->World->Prop:=λX i W=>(∀y,X y↔Y0 y)/\∃(e:Int) (L:Led),ik W v c l mb md A D' s {T with led:=L}/\yE W E e/\freeL P.2.1.accts (T.led.all.drop i) e L=freeL P.2.1.accts T.led.all 0 T.led/\L.held=T.led.held
  delta VJ
  refine Kw (X0:=Y0) (fv:=oz) (asg:=λx W K=>rv pQ (iA Gv true (.tuple #[])) W λv w1=>ru pQ (iS Gv v x) w1 λw2=>K v w2) (Pv:=AR Gv dH) (xs:=T.led.all) ht2.m (wF rS.ac) wQ I2 (λ_ _ _=>False) ?_ (λ_ _ _ _ _ h=>h.elim) (λx B=>hYlt x B) ⟨λ_=>fd,0,T.led,v4,x4,rfl,rfl⟩ ?_ ?_ (λ_ _ _ _ _ h=>h.elim)
  ·rintro X i W W' H ⟨j,e,L,i1,i2,i3,i4⟩ hm hX;have B:∀{b},Y0 b->¬H b:=λhb=>hX _ ((j _).2 hb);exact⟨j,e,L,i1.mod hm λpt y f=>B (hYfp f),hm.hpk i2 (B hYe),i3,i4⟩
  ·rintro X i hi W6 qa vv ⟨j,e,L,j1,j2,j3,j4⟩ mW6 hX6 hdq6 hqW6 ⟨rfl,zgq⟩ ⟨rec0,hrec⟩ KN KJ hKN hKJ;have f0' :=mW6.hpk s0 (hYn (.inl rfl))
   have r6:=r4.mod mW6 (hYn (.inr (.inl rfl))) λy f o=>by
    rw[hY0]at o;rcases o with o|o
    ·exact(r4.nw y f).2.2 o
    ·have:=hslb y f;omega
   obtain⟨a,ha⟩:=dW (T.led.all[i]);have ha' :a=T.led.all[i]'hi:=ha;rw[<-ha']at zgq;have ham:a∈T.led.all:=by rw[ha];exact cC hi
   have hdrop:T.led.all.drop i=a::T.led.all.drop (i+1):=by rw[ha];exact fF hi
   rw[hdrop]at j3;have hXs:∀b,X b->b<W6.heap.size:=λb hb=>by have:=(hX6 b hb).1;omega
   have z:∀{W' :Wt_},W6.heap.size<=W'.heap.size->∀b,X b->(X b\/W6.heap.size<=b)/\b<W'.heap.size:=λhle b hb=>⟨.inl hb,by have:=hXs b hb;omega⟩
   have hXqa:∀{y},Y0 y->y≠qa:=λf e=>by have:=(hX6 _ ((j _).2 f)).1;omega
   obtain⟨pb,hpb⟩:=dW W6.heap.size;have mb1:M0 W6 (W6.alloc (.cells #[.bool false] 4)):=lm;have bb1:hp (W6.alloc (.cells #[.bool false] 4)) pb=some (.cells #[.bool false] 4 (0,0)):=by rw[hpb];simp[go_sem]
   apply cx (pt pb 0) (W6.alloc (.cells #[.bool false] 4)) (by rw[hpb];simp[go_sem]);generalize W6.alloc (.cells #[.bool false] 4)=W7 at mb1 bb1|-
   have hlay3:∃W8,(iS 4 (pt pb 0) (.bool false)).run pQ W7=.ok () W8/\hp W8 pb=some (.cells #[.bool false] 4 (0,0))/\de (λy=>y=pb) W7 W8:=
    ⟨W7.setCell ⟨pb,0,none⟩ (.bool false),by simp[go_sem,bb1],by simp[go_sem,bb1],(de.refl (λy=>y=pb) W7).sc⟩
   obtain⟨W8,f8,bb8,m8'⟩:=hlay3;apply ir f8;have M68:M0 W6 W8:=mb1.on m8' λy f=>gz;have g:M0 W8 W8.drew:=mP;have M69:=M68.trans g;have k1:=j1.md0 M69;have k2:=M69.hpk j2 id;have kq:=M69.hpk zgq id;have k0:=M69.hpk f0' id;have kr:=r6.mod M69 id eQ;have kb:=g.hpk bb8 id;have krec:=M69.keep (hrec:hp W6 _=_) id;have hs9:W6.heap.size<W8.drew.heap.size:=by have:=cB kb;omega
   try dsimp only
   generalize W8.drew=W9 at g M69 k1 k2 kq k0 kr kb krec hs9|-;unfold dH at kq;apply dp (lv0 k0);simp only[eY,dr];refine dw (jk 1 qZ) (dp (ld1 _ k1.blk) ?_);refine qPv0 (pt qa 0) (qWv1 (gU a.num) kq ?_);have hlh:L.held.length<4294967295:=by rw[j4];exact hheld
   refine SZ k1.led hlh λgv3 W10 ht3 m10=>?_;have hrec10:=m10.keep (krec:hp W9 _=_) id;have nb10:=m10.hpk kb id;have hs10:=m10.size
   delta WE
   refine Lh (l0:=W4.heap.size+1) (X0:=λy=>y=pb) (fv:=tn) (asg:=λx W K=>K x W) (body:=λ_ _ w1 KN2 _=>ru pQ (iS 4 (pt pb 0) (.bool true)) w1 λw2=>KN2 w2) (Pv:=λ_ _ _ _=>True) (xs:=L.ofA a.num) ⟨_,hrec10⟩ ht3.m (λp hp W K hk=>hk W _ trivial lX) (λ_ _ _ _ _ _ _ _ _=>trivial)
    (λX i W=>(∀y,X y↔y=pb)/\hp W pb=some (.cells #[.bool (decide (0<i))] 4 (0,0))) (λ_ _ _=>False) ?_ (λ_ _ _ _ _ h=>h.elim) (λx B=>qZ) ⟨λ_=>fd,by simpa using nb10⟩ ?_ ?_ (λ_ _ _ h=>h.elim)
   ·rintro X i W W' H ⟨z1,z2⟩ hm hX;exact⟨z1,hm.hpk z2 (hX _ ((z1 _).2 rfl))⟩
   ·rintro X i hi N qz vz ⟨z1,z2⟩ mW11 hX11 hdq11 hqW11 - KN2 KJ2 hKN2 hKJ2;apply pH (N.setCell ⟨pb,0,none⟩ (.bool true)) (by simp[go_sem,z2]);refine hKN2 X _ ⟨z1,by simp[go_sem,z2]⟩ ((de.refl X N).setCell (.inl ((z1 pb).2 rfl)) _ _) λb hb=>⟨.inl hb,?_⟩
    have:=(hX11 b hb).1;have e:(N.setCell ⟨pb,0,none⟩ (.bool true)).heap.size=N.heap.size:=by simp[go_sem]
    omega
   ·rintro X2 N ⟨z1,z2⟩ mW11 hX11;replace z2:hp N pb=some (.cells #[.bool (decide (0<(L.ofA a.num).length))] 4 (0,0)):=z2;have M911:de (λy=>y=pb) W9 N:=(m10.to).trans mW11;have M611:M0 W6 N:=M69.on M911 λy f=>gz;have n1:=j1.md0 M611;have n2:=M611.hpk j2 id;have nq:=M611.hpk zgq id;have n0' :=M611.hpk f0' id;have nr:=r6.mod M611 id eQ;obtain⟨w1',w2',w3'⟩:=nr.rp.isSl;have nq' :=nq;unfold dH at nq';unfold Rf;simp only[iJ];obtain⟨cd,hcd⟩:=dW (decide (a.dfl=true/\(L.ofA a.num).isEmpty=true/\P.2.1.accts.contains a.num=false):Bool);refine dK.at (λst W=>st=(.bool cd,())/\M0 N W) ?_ ?_
    ·refine cx (pt qa 3) N (by simp[go_sem]) (cx (.bool a.dfl) N (by simp[go_sem,nq']) ?_);by_cases hdf:a.dfl=true
     ·rw[cy,bZ hdf];apply cx (.bool (decide (0<(L.ofA a.num).length))) N (by simp[go_sem,z2]);apply qSv0 (.bool (!decide (0<(L.ofA a.num).length)));by_cases hem:(L.ofA a.num).isEmpty=true
      ·have hl0:(L.ofA a.num).length=0:=by rw[List.isEmpty_iff]at hem;rw[hem];rfl
       rw[cy,bZ (by rw[hl0];rfl)];refine cx (pt q 6) N (by simp[go_sem]) (cI (WU nr.at_ w3') ?_);refine cx (pt qa 0) N (by simp[go_sem]) (cx (gU a.num) N (by simp[go_sem,nq']) ?_);refine aT nr.rp.ac.rd qZ λW12 m12=>?_;apply cx (.bool (!P.2.1.accts.contains a.num)) W12 (by simp[go_sem]);refine⟨?_,m12⟩;rw[hcd];cases hct:P.2.1.accts.contains a.num<;>simp[hdf,hem]
      ·have hl0:0<(L.ofA a.num).length:=by
        rcases Nat.eq_zero_or_pos (L.ofA a.num).length with h' |h'
        ·exact absurd (List.isEmpty_iff.2 (jF h')) hem
        ·exact h'
       rw[cy,aZ (by rw[db hl0];simp)];exact⟨by rw[hcd,ej λh=>hem h.2.1],lX⟩
     ·rw[cy,aZ hdf];exact⟨by rw[hcd,ej λh=>hdf h.1],lX⟩
    rintro _ W12 ⟨rfl,m12⟩;unfold PT;intro _;have Q:=M611.trans m12;have hfree:freeL P.2.1.accts (a::T.led.all.drop (i+1)) e L=if a.dfl=true/\(L.ofA a.num).isEmpty=true/\P.2.1.accts.contains a.num=false then freeL P.2.1.accts (T.led.all.drop (i+1)) (L.set {a with dfl:=false}).1 (L.set {a with dfl:=false}).2 else freeL P.2.1.accts (T.led.all.drop (i+1)) e L:=by rw[freeL]
    rw[hfree]at j3;have o1:=j1.md0 Q;have o2:=Q.hpk j2 id;have oq:=Q.hpk zgq id;have o0:=Q.hpk f0' id;by_cases o:a.dfl=true/\(L.ofA a.num).isEmpty=true/\P.2.1.accts.contains a.num=false
    ·rw[bZ o]at j3;rw[cy,bZ (by rw[hcd,db o])];apply qSv0 (pt qa 3);obtain⟨W13,f13,x13,m13⟩:=VW false oq;apply ir f13;have p1' :=o1.mod m13 λpt y f e=>hXqa (hYfp f) e;have p2' :=m13.hpk o2 λe=>hXqa hYe e;have hn0qa:n0≠qa:=qZ;have p0' :=m13.hpk o0 hn0qa;have g:M0 W13 W13.drew:=mP;have p1:=p1'.md0 g;have p2:=g.hpk p2' id;have p0:=g.hpk p0' id;have px:=g.hpk x13 id;have M6d:de (λy=>y=qa) W6 W13.drew:=(Q.to).trans (m13.trans (g.to))
     try dsimp only
     generalize W13.drew=W14 at g p1 p2 p0 px M6d|-;apply dp (lv0 p0);simp only[eY,dr];refine dw (jk 1 qZ) (dp (ld1 _ p1.blk) ?_);apply dp (O6 px);have haU:=hpo.led.led.acc a ham;refine FL p1.led (by show 0<=a.num/\a.num<_;omega) λW15 q15 m15=>?_;have v15:=p1.setLed m15 q15;obtain⟨W16,f16,x16,m16⟩:=Hb (L.set {a with dfl:=false}).1 (m15.hpk p2 λo=>by have:=(J _ ⟨_,o⟩).2.2.1;exact this rfl);apply ir f16
     have hXm:de (λb=>X b\/qa<=b) W6 W16:=by
      refine(de.refl _ W6).on (((M6d.mono (G:=λy=>y=qa\/Y0 y) λy _ f=>.inl f).trans (m15.mono λy _ f=>.inr (hYfp f))).trans (m16.mono λy _ f=>.inr (by rw[f];exact hYe))) λy f=>?_;rcases f with f|f
      ·exact .inl gz
      ·exact .inl (.inl ((j y).2 f))
     exact hKN X W16 ⟨j,_,_,v15.mod m16 λpt y f e=>(J y ⟨pt,f⟩).2.2.1 e,x16,j3,by rw[rZ];exact j4⟩ hXm (z hXm.size)
    ·rw[aZ o]at j3;rw[cy,aZ (by rw[hcd,dN];exact o)];exact hKN X W12 ⟨j,e,L,o1,o2,j3,j4⟩ (Q.to) (z Q.size)
  ·rintro X W6 d2 hd2 ⟨j,e,L,j1,j2,j3,j4⟩ mW6 hdef2 hX6
   have j3' :freeL P.2.1.accts T.led.all 0 T.led=(e,L):=by
    have ee:freeL P.2.1.accts (T.led.all.drop T.led.all.length) e L=freeL P.2.1.accts T.led.all 0 T.led:=j3;rw[lv]at ee;rw[<-ee];rfl
   rw[j3']at t;unfold OE;simp only[iJ]
   have r6:=r4.mod mW6 (hYn (.inr (.inl rfl))) λy f o=>by
    rw[hY0]at o;rcases o with o|o
    ·exact(r4.nw y f).2.2 o
    ·have:=hslb y f;omega
   have d6:=mW6.hpk d4 (hYn (.inr (.inr rfl)))
   have M6:de (dY fp) w W6:=M4'.on mW6 λy f=>by
    rw[hY0]at f;rcases f with f|f
    ·exact(J y f).1.imp id λh' =>by omega
    ·exact gz
   have g:M0 W6 W6.drew:=mP;have hYd2:∀y,dY s y->y<d2:=λy f=>by have:=hW4 y f;omega
   have hsld2:∀y,cK sG y\/cK sA y->y<d2:=λy f=>by
    rcases f with f|f
    ·have:=r4.rp.go.lt f;omega
    ·have:=r4.rp.ac.lt f;omega
   exact tellS e P.2.1 {T with led:=L} D' s sG sA W6.drew [d2,d] t (j1.md0 g) (r6.mod g id eQ) (g.hpk j2 id) (M6.trans (g.to)) (λy f=>⟨(J y f).1.imp id λh' =>qZ,by have:=hYd2 y f;have:=(J y f).2.2.2;simp;omega⟩) (λy f=>⟨by have:=hslb y f;omega,by have:=hslb y f;have:=hsld2 y f;simp;omega⟩) (by simp;omega) (λx B=>by
    rcases cH.1 B with rfl|B
    ·exact⟨g.hpk hdef2 id,qZ⟩
    ·rw[eK.1 B];exact⟨g.hpk d6 id,qZ⟩)
 ·rintro cc X W d hd ⟨j,rfl,i1,i2,i3,i4⟩ mW hdef hX;have hs:S.settle=(M.1,zRp,{u with led:=M.2.1}):=by rw[t,bZ i4]
  unfold Jp;simp only[iJ]
  have M9:de (dY fp) w W:=M8.on mW λy f=>by
   rw[hX0]at f;rcases f with f|f|f|f
   ·exact .inl f
   ·exact gz
   ·exact gz
   ·exact gz
  exact tellR M.1 zRp _ D fp dv dv W [d] hs i1 (rp0' i3) i2 M9 (λy f=>⟨.inl f,by have:=haf y f;simp;omega⟩) (λy f=>nilH y f) (by simp) (λx B=>by rw[eK.1 B];exact⟨hdef,qZ⟩)
def Ge(h:C.Ok)(n:Int):(jy C n).2.Ok:=by
 unfold jy;split
 ·exact h
 ·obtain⟨i,g,j⟩:=sM (l:=C.l) (n:=n) (f:=λk=>{k with st:=3}) (λk e _=>⟨by
   obtain⟨a,b,c,d⟩:=h.ok k e;exact⟨⟨a.1,⟨by grind,by grind⟩,a.2.2⟩,b,c,by grind,by grind⟩,rfl⟩) h.ok h.srt
  exact⟨by show(lr _ _ _).length<=16;rw[j];exact h.len,h.day,i,g⟩
def yw(n m:Int):(eR (jy C n).2.l m).isSome=(eR C.l m).isSome:=by
 unfold jy;split
 ·rfl
 ·show(eR (lr C.l n λk=>{k with st:=3}) m).isSome=_;rw[vf (f:=λk=>{k with st:=3}) λ_ _=>rfl,qe]
def Hw{x:Int}{K:World->Prop}(h:BN W p sG sA r lo Z)(Q:r.gone.length<=1000000)(H:lo<=W.heap.size)(P:∀y,Z y->y<W.heap.size)
  (B:∀j m,BN m p j sA {r with gone:=r.gone++[x]} lo Z->de (λy=>y=p\/cK sG y) W m->(∀y,cK j y->cK sG y\/W.heap.size<=y)->K m):
  rx pQ (jQ 49 1 [(0,gQ x)]) W λv t=>rx pQ (eg #[49,49] 49 [sG,v]) t λD I=>rv pQ (iF lx (pt p 0) 5) I λu w=>ru pQ (iS 49 u D) w K:=by
 obtain⟨N,A,O⟩:=h.rp.isSl;have E:=cB h.at_;refine yM (x:=x) (f:=CB) yu (eO Ry) (λ_=>rfl) (CC x) rfl h.rp.go qZ qZ λo J s n q=>?_;refine qS0 ?_;obtain⟨a,M,l,-⟩:=s.isSl;obtain⟨F,C,G,k⟩:=E7 (L:=r.gone++[x]) (n.hpk h.at_ λg=>(h.nw p (.inl g)).2.1 rfl) ⟨_,_,_,l⟩ A;apply ir C
 have d:∀y,cK o y->lo<=y/\y≠p/\¬Z y/\¬cK sA y:=λy c=>by
  rcases q y c with i|i
  ·exact⟨(h.nw y (.inl i)).1,(h.nw y (.inl i)).2.1,(h.nw y (.inl i)).2.2,h.rp.d3 y i⟩
  ·exact⟨qZ,qZ,λg=>by grind,λg=>by have:=h.rp.ac.lt g;omega⟩
 refine B o F ⟨G,⟨(h.rp.tr.keep λb z=>(by cases z)),s.mod k λy c e=>(d y c).2.1 e,(h.rp.ac.mod n λy c g=>h.rp.d3 y g c).mod k λy c e=>(h.nw y (.inr c)).2.1 e,λy c=>(by cases c),λy c=>(by cases c),λy c=>(d y c).2.2.2⟩,λy c=>?_⟩ ((n.mono λy _ c=>.inr c).trans (k.mono λy _ c=>.inl c)) q;rcases c with c|c
 ·grind
 ·exact h.nw y (.inr c)
def xQ:∀(l:List Sd) (r:Rp) (S:Ven),(payL l r S).2.2.cal=S.cal/\∀m,((payL l r S).2.2.bd m).length<=(S.bd m).length
 | [],r,S=>⟨rfl,λ_=>cJ _⟩
 |s::l,r,S=>by
  have b:(if s.dfl then(S.clear s.acct 0).2 else S).cal=S.cal/\∀m,((if s.dfl then(S.clear s.acct 0).2 else S).bd m).length<=(S.bd m).length:=by
   split
   ·exact⟨rE _ _ _,λm=>Ei _ _ _ m⟩
   ·grind
  obtain⟨c,a⟩:=dW (if s.dfl then(S.clear s.acct 0).2 else S:Ven);rw[<-a]at b;unfold payL;simp only;rw[<-a];split
  ·exact b
  ·exact⟨(xQ l _ _).1.trans b.1,λm=>dD ((xQ l _ _).2 m) (b.2 m)⟩
def Iq(S:Ven)(won:Int->Int):(S.pay won).2.2.cal=S.cal/\∀m,((S.pay won).2.2.bd m).length<=(S.bd m).length:=by
 unfold Ven.pay;simp only;split
 ·grind
 ·split
  ·exact xQ _ _ _
  ·exact xQ (lP S.led.fund (S.dues won)).1 zRp S
def PF(S:Ven)(won:Int->Int):(S.pay won).2.2.cal=S.cal:=(Iq S won).1
def Ur(S:Ven)(won:Int->Int)(m:Int):((S.pay won).2.2.bd m).length<=(S.bd m).length:=(Iq S won).2 m
def Jw(h:lw w v F S)(J:S.Ok)(hK:AK w v F (S.expire n) K):Ca pQ 89 #[eY v,gU n] w K:=by
 obtain⟨c,l,mb,md,A,D,fp,hr,hF⟩:=h;apply aw5;obtain⟨w1,e1,b1,m1⟩:=qy w;apply cI e1;obtain⟨q,hq⟩:=dW w.heap.size;rw[<-hq]at b1|-;have h1:=hr.md0 m1;have hqW1:=cB b1;have hfl:∀pt x,fp pt x->x<q:=λpt x hx=>by rw[hq];exact hr.lt hx
 have haf:∀x,dY fp x->x<q:=λx ⟨pt,hx⟩=>hfl pt x hx;have hFa:∀x,dY fp x↔F x:=λx=>(hF x).symm;have Q:∀{y},q<=y->¬dY fp y:=λd f=>by grind
 simp only[eY,dr];refine cI (jk 0 qZ _) (cI (EQ _ h1.blk) ?_);obtain⟨k,hk⟩:=dW ((iU S.cal.l n).1);refine Cp h1.cal λw2 m2=>?_;rw[<-hk];refine qS0 ?_;refine qS0 ?_;refine Ep λw3 b3 m3=>?_;obtain⟨qk,hqk⟩:=dW w2.heap.size;rw[<-hqk]at b3|-;have M3:=(m1.trans m2).trans m3;have h3:=hr.md0 M3;have r3:=m3.hpk (m2.hpk b1 id) id;have hqqk:q<qk:=by have:=m2.size;omega
 refine cI (jk 0 qZ _) (cI (EQ _ h3.blk) ?_);obtain⟨C,hC⟩:=dW (jy S.cal n);refine Km h3.cal λw4 q4 m4=>?_;rw[<-hC]at q4|-;have h4:=h3.setCal m4 q4 (λx hx=>.inl hx) (λm=>by rw[hC];exact yw n m);rw[xO]at h4;obtain⟨S0,E⟩:=dW ({S with cal:=C.2}:Ven);rw[<-E]at h4;have hcal0:S0.cal.Ok:=by rw[E,hC];exact Ge J.cal n
 have r4:=m4.hpk r3 λf=>Q (cJ _) ⟨_,f⟩;have b4:=m4.hpk b3 λf=>Q qZ ⟨_,f⟩;have M4:de (dY fp) w w4:=(M3.to).trans (m4.mono λy _ d=>⟨_,d⟩);obtain⟨M,hM⟩:=dW (S0.led.mark k.spec.num k.price true);obtain⟨S1,hS1⟩:=dW ({S0 with led:=M.2.2}:Ven);obtain⟨P,hP⟩:=dW (S1.pay (wonAdd noWon M.2.1))
 have g:S.expire n=if C.1≠0 then(C.1,zRp,S0)else if M.1≠0 then(M.1,zRp,S1)else if P.1≠0 then P else
   (0,{P.2.1 with gone:=(P.2.1.gone++(qi (P.2.2.bk n) 0).2.map (·.num))++(P.2.2.bd n).map (·.num)},{P.2.2 with bk:=upd P.2.2.bk n (qi (P.2.2.bk n) 0).1,bd:=upd P.2.2.bd n []}):=by
  rw[hP,hS1,hM,E,hC,hk];rfl
 have tell:∀(e:Int) (r:Rp) (T:Ven) (D' :List (Int×Value)) (p:Pt->Nat->Prop) (sG Y:Vt_) (W:Wt_),S.expire n=(e,r,T)->ik W v c l mb md A D' p T->BN W q sG Y r (q+1) (dY p)->de (dY fp) w W->(∀y,dY p y->dY fp y\/q<y)->
   rv pQ (iL lx (pt q 0)) W λv37 w38=>ru pQ (iS lx (pt q 0) v37) w38 λw39=>uc pQ (iL lx (pt q 0)) w39 λv40=>K (.tuple #[v40,gI e]) w39:=by
  intro e r T D' p sG Y W he a b m hup;obtain⟨t1,t2,t3⟩:=b.rp.isSl;apply cI (lB b.at_);obtain⟨W1,f1,x1,y1⟩:=pl (r:=r) b.at_ rfl ⟨t1,t2,t3⟩;refine ir f1 (dp (lB x1) ?_)
  have hqf:∀y,dY p y->y≠q:=λy d=>by
   rcases hup y d with o|o
   ·have:=haf y o;omega
   ·omega
  refine hK.tell (F' :=dY p) he (a.mod y1 λpt y d e=>hqf y ⟨pt,d⟩ e).q (b.rp.mod y1 λy d e=>?_) ((m.mono λy _ d=>(hFa y).1 d).on y1 λy d=>gz) (λy d=>(hup y d).imp (hFa y).1 λo=>qZ) λy d=>?_
  ·rcases d with d|d
   ·cases d
   ·exact(b.nw y d).2.1 e
  ·rcases d with d|d
   ·cases d
   ·have:=b.nw y d;exact⟨qZ,this.2.2⟩
 have rp0' :∀{W},hp W q=some (.cells (mC zRp dv dv dv).toArray lx (0,0))->BN W q dv dv zRp (q+1) (dY fp):=λhW=>⟨hW,vG.nil _ 0,λy d=>by rcases d with d|d<;>cases d⟩
 by_cases L:C.1≠0
 ·rw[bZ L]at g;refine qSt1 L ?_;exact tell C.1 zRp S0 D fp dv dv w4 g h4 (rp0' r4) M4 λy d=>.inl d
 rw[aZ L]at g;have hC0:C.1=0:=by simpa using L
 refine qSf1 hC0 ?_;obtain⟨mw,hmw⟩:=dW w4.heap.size;have m5:M0 w4 (w4.alloc (.map #[] 0)):=lm;have aw:fB iI Ox (w4.alloc (.map #[] 0)) mw ([]:List (Int×Int)):=by rw[hmw];exact fB.new w4
 apply cx (.map (some mw)) (w4.alloc (.map #[] 0)) (by rw[hmw];simp[go_sem]);generalize w4.alloc (.map #[] 0)=w5 at m5 aw|-;have h5:=h4.md0 m5;have r5:=m5.hpk r4 id;have b5:=m5.hpk b4 id;have pw:vJ w5 mw noWon:=⟨[],aw,λn=>rfl⟩
 have M5:=M4.trans (m5.to (G:=dY fp));have hq4:=cB r4;apply jq (fI k) 26 ME yV (eE k) (At.all b5);have hmwfp:¬dY fp mw:=Q qZ;have hS0l:S0.led=S.led:=by rw[E]
 have hlh:S0.led.held.length<4294967295:=by rw[hS0l];have:=xo J.cal J.led;omega
 show Ca pQ _ #[eY v,_,_,_] w5 _;refine Ie h5 pw hmwfp hlh (B:=0) (λn=>by show(-0:Int)<=0/\(0:Int)<=0;omega) qZ λw6 v6 w6' m6=>?_;rw[<-hM]at v6 w6' |-;rw[<-hS1]at v6
 have m6' :de (dY fp) w w6:=M5.on m6 λy d=>by
  rcases d with d|d
  ·exact .inl ⟨_,d⟩
  ·exact gz
 have hm6q:∀{y},q<=y->y≠mw->¬(fp .led y\/y=mw):=λh1 h2 f=>by
  rcases f with f|f
  ·exact Q h1 ⟨_,f⟩
  ·exact h2 f
 have r6:=m6.hpk r5 (hm6q (cJ _) qZ);by_cases hMe:M.1≠0
 ·rw[bZ hMe]at g;refine qSt1 hMe ?_;exact tell M.1 zRp S1 D fp dv dv w6 g v6 (rp0' r6) m6' λy d=>.inl d
 rw[aZ hMe]at g;have hM0:M.1=0:=by simpa using hMe
 refine qSf1 hM0 ?_;have hS1c:S1.cal=S0.cal:=by rw[hS1]
 have hS1b:S1.bd=S.bd:=by rw[hS1,E]
 have hbl1:∀m,(S1.bd m).length<=50:=λm=>by rw[hS1b];exact J.ord.bdl m
 obtain⟨hvl,hvb⟩:=AD (hS0l▸J.led.led:S0.led.Ok) k.spec.num k.price true;rw[<-hM]at hvl hvb;have hwb:=A0 (V:=1100000000000000) qZ M.2.1 (won:=noWon) (B:=0) (λn=>by show(-0:Int)<=0/\(0:Int)<=0;omega) λx hx=>(hvb x hx).1;show Ca pQ _ #[eY v,_] w6 _;refine LJ v6 (by grind) hbl1 w6' (λn=>by have:=hwb n;constructor<;>omega) λD' p sG Y w7 v7 r7 mp7 up7 sl7 gl7 al7=>?_;rw[<-hP]at v7 r7 gl7 al7|-;refine qS0 ?_;refine qS0 ?_;have q7:=mp7.hpk r6 (Q (cJ _));obtain⟨u1,u2,u3⟩:=r7.isSl;have hq6:q<w6.heap.size:=cB r6;obtain⟨w8,f8,x8,m8⟩:=pl (r:=P.2.1) q7 rfl ⟨u1,u2,u3⟩;apply ir f8
 have u:∀y,dY p y->(dY fp y\/q<y)/\y≠q:=λy d=>by
  rcases up7 y d with o|o
  ·have:=haf y o;exact⟨.inl o,qZ⟩
  ·exact⟨gz,qZ⟩
 have v8:=v7.mod m8 λpt y d e=>(u y ⟨pt,d⟩).2 e
 have r8:BN w8 q sG Y P.2.1 (q+1) (dY p):=⟨x8,r7.mod m8 λy d e=>by
  rcases d with d|d
  ·cases d
  ·have:=(sl7 y d).1;omega,λy d=>⟨by grind,by grind,(sl7 y d).2⟩⟩
 have M8:de (dY fp) w w8:=(m6'.trans mp7).on m8 λy d=>gz;by_cases hPe:P.1≠0
 ·rw[bZ hPe]at g;refine qSt1 hPe ?_;exact tell P.1 P.2.1 P.2.2 D' p sG Y w8 g v8 r8 M8 λy d=>(u y d).1
 rw[aZ hPe]at g;have hP0:P.1=0:=by simpa using hPe
 refine qSf1 hP0 ?_;obtain⟨T,hT⟩:=dW P.2.2;rw[<-hT]at v8 g
 have hTc:T.cal=S0.cal:=by
  rw[hT,hP]
  have:(S1.pay (wonAdd noWon M.2.1)).2.2.cal=S1.cal:=by
   have hpc:=PF S1 (wonAdd noWon M.2.1);exact hpc
  rw[this,hS1c]
 have hdue:qI S.cal n=0:=by
  apply dU;intro f;apply L;rw[hC];unfold jy;rw[bZ f];exact f
 obtain⟨k0,hk0,-⟩:=alive_get (zK hdue)
 have hsome:(eR T.cal.l n).isSome=true:=by
  rw[hTc,E];show(eR C.2.l n).isSome=true;rw[hC,yw,hk0];rfl
 have hTb:∀m,(T.bd m).length<=50:=λm=>by
  have:=Ur S1 (wonAdd noWon M.2.1) m;rw[<-hP,<-hT]at this;exact dD this (hbl1 m)
 obtain⟨b,hb,hB⟩:=Wm v8 hsome;refine cI (jk 2 qZ _) (cI (IL _ v8.blk) ?_);apply iW (xz v8.mbk hb);have hBl:=hB.all;refine KV hB λG so w9 q9 o9 m9 n9 s9=>?_;obtain⟨O,hO⟩:=dW ((qi (T.bk n) 0).2);have hOl:O.length<=200:=by rw[hO];exact HL hBl.1
 have v9:=v8.setBk hb m9 q9 n9;rw[<-hO]at o9 g;obtain⟨oa,oc,hso,-⟩:=o9.isSl;apply jm (gI (O.length:Int)) w9 (by rw[hso];simp[go_sem]);obtain⟨t,hfp2⟩:=dW (mj p (.bk n) G);obtain⟨T2,hT2⟩:=dW ({T with bk:=upd T.bk n (qi (T.bk n) 0).1}:Ven);rw[<-hfp2,<-hT2]at v9;have hw8q:q<w8.heap.size:=cB x8;have hup2:∀y,dY t y->dY p y\/w8.heap.size<=y:=by rw[hfp2];exact zX n9
 have hfB:∀y,p (.bk n) y->dY p y:=λy d=>⟨_,d⟩
 have s:∀y,dY t y->(dY fp y\/q<y)/\y≠q:=λy d=>by
  rcases hup2 y d with o|o
  ·exact u y o
  ·exact⟨gz,qZ⟩
 have hsl8:∀y,cK sG y\/cK Y y->y<w8.heap.size:=λy d=>by
  rcases d with d|d
  ·exact r8.rp.go.lt d
  ·exact r8.rp.ac.lt d
 have r9:BN w9 q sG Y P.2.1 (q+1) (dY t):=(r8.mod m9 (λf=>(u q (hfB _ f)).2 rfl) λy d f=>(r8.nw y d).2.2 (hfB _ f)).z λy d f=>by
  rcases hup2 y f with o|o
  ·exact(r8.nw y d).2.2 o
  ·have:=hsl8 y d;omega
 have M9:de (dY fp) w w9:=M8.on m9 λy d=>by
  rcases(u y (hfB _ d)).1 with o|o
  ·exact .inl o
  ·exact gz
 have hsoN:∀y,cK so y->w8.heap.size<=y/\¬dY t y/\y<w9.heap.size:=λy d=>⟨(s9 y d).1,λ⟨pt,f⟩=>by
  rw[hfp2]at f;by_cases U:pt=.bk n
  ·subst U;rw[ip]at f;exact(s9 y d).2 f
  ·rw[eH U]at f;have:=v8.lt f;have:=(s9 y d).1;omega,o9.lt d⟩
 have hs89:=m9.size
 refine eS (λst W=>∃(j:Nat) (I:Vt_),j<=O.length/\st=(gI j,())/\BN W q I Y {P.2.1 with gone:=P.2.1.gone++(O.take j).map (·.num)} (q+1) (dY t)/\de (λy=>y=q\/cK sG y) w9 W/\∀y,cK I y->cK sG y\/w9.heap.size<=y)
  (λst _=>match st.1 with| .int _ i=>O.length - i.toNat|_=>0) ⟨0,sG,qZ,rfl,by simpa using r9,lX,λy d=>.inl d⟩ ?_
 rintro⟨_,_⟩ W ⟨j,I,hj,⟨⟩,t1,t2,t3⟩ KM hKM;unfold Wg;intro _;have hsW:=t2.size
 have oW:qR W so O:=o9.mod t2 λy d f=>by
  have h1:=(hsoN y d).1;rcases f with f|f
  ·omega
  ·have:=hsl8 y (.inl f);omega
 have vW:=v9.mod t2 λpt y d f=>by
  rcases f with f|f
  ·exact(s y ⟨pt,d⟩).2 f
  ·exact(r9.nw y (.inl f)).2.2 ⟨pt,d⟩
 have MW:de (dY fp) w W:=M9.on t2 λy d=>by
  rcases d with d|d
  ·exact gz
  ·exact .inr (by grind)
 have hgl:(P.2.1.gone++(O.take j).map (·.num)).length<=300000:=by grind
 by_cases N:j<O.length
 ·have Z:(j:Int)<(O.length:Int):=qZ;refine qSt1 Z ?_;obtain⟨pj,p1,p2⟩:=J7 oW.rd N;refine cI p1 (cI p2 ?_);obtain⟨wa,ea,ba,ma⟩:=kD W;apply cI ea;obtain⟨q5,hq5⟩:=dW W.heap.size;rw[<-hq5]at ba|-;obtain⟨wb,eb,bb,mb'⟩:=jK (o' :=O[j]) ba;apply ir eb;have Mb:M0 W wb:=ma.on mb' λb hb=>gz;have tb:=t1.mod Mb id eQ;obtain⟨y1,y2,y3⟩:=tb.rp.isSl;refine qSv0 (pt q 5) (cI (Lp tb.at_ y2) ?_);refine cx (pt q5 0) wb (by simp[go_sem]) (cx (gQ O[j].num) wb (by simp[go_sem,bb,fL]) ?_);have hsb:=Mb.size;refine Hw tb (by grind) qZ (λy ⟨pt,d⟩=>by have:=vW.lt d;omega) λz wc rc mc nc=>?_;apply cx (gI ((j+1:Nat):Int)) wc (by simp[go_sem];rw[wI_]);refine hKM _ _ ⟨j+1,z,qZ,rfl,?_,(t2.trans (Mb.to)).on mc λy d=>?_,λy d=>?_⟩ (by show O.length - (((j+1:Nat):Int)).toNat<O.length - ((j:Int)).toNat;omega)
  ·rw[eA N,dy,<-df];exact rc
  ·rcases d with d|d
   ·exact .inl (.inl d)
   ·exact(t3 y d).imp .inr id
  ·rcases nc y d with o|o
   ·exact t3 y o
   ·exact gz
 ·obtain rfl:j=O.length:=qZ;refine qSf0 ?_;rw[cN]at t1 hgl;refine cI (jk 3 qZ _) (cI (AJ _ vW.blk) ?_);apply iW (uF vW.mbd n);have hbd:=vW.bd n;have hT2b:T2.bd=T.bd:=by rw[hT2]
  rw[hT2b]at hbd;obtain⟨Bd,hBd⟩:=dW (T.bd n);have hBdl:Bd.length<=50:=by grind
  rw[<-hBd]at hbd g;obtain⟨ba,bc,hbs,-⟩:=hbd.isSl;apply jm (gI (Bd.length:Int)) W (by rw[hbs];simp[go_sem]);obtain⟨r2,hr2⟩:=dW ({P.2.1 with gone:=P.2.1.gone++O.map (·.num)}:Rp);rw[<-hr2]at t1;have hr2g:r2.gone=P.2.1.gone++O.map (·.num):=by rw[hr2]
  rw[<-hr2g]at hgl
  refine eS (λst W2=>∃(j:Nat) (z:Vt_),j<=Bd.length/\st=(gI j,())/\BN W2 q z Y {r2 with gone:=r2.gone++(Bd.take j).map (·.num)} (q+1) (dY t)/\de (λy=>y=q\/cK I y) W W2/\∀y,cK z y->cK I y\/W.heap.size<=y)
   (λst _=>match st.1 with| .int _ i=>Bd.length - i.toNat|_=>0) ⟨0,I,qZ,rfl,by simpa using t1,lX,λy d=>.inl d⟩ ?_
  rintro⟨_,_⟩ W2 ⟨j,z,hj,⟨⟩,z1,z2,z3⟩ KN hKN;unfold WI;intro _;have hsW2:=z2.size
  have H:=vW.mod z2 λpt y d f=>by
   rcases f with f|f
   ·exact(s y ⟨pt,d⟩).2 f
   ·exact(t1.nw y (.inl f)).2.2 ⟨pt,d⟩
  have oW2:qR W2 (rz D' n) Bd:=by have:=H.bd n;rw[hT2b,<-hBd]at this;exact this
  have MW2:de (dY fp) w W2:=MW.on z2 λy d=>by
   rcases d with d|d
   ·exact gz
   ·exact .inr (by grind)
  have hgl2:(r2.gone++(Bd.take j).map (·.num)).length<=400000:=by grind
  by_cases N:j<Bd.length
  ·have Z:(j:Int)<(Bd.length:Int):=qZ;refine qSt1 Z ?_;obtain⟨pj,p1,p2⟩:=J7 oW2.rd N;refine cI p1 (cI p2 ?_);obtain⟨wa,ea,ba',ma⟩:=kD W2;apply cI ea;obtain⟨q5,hq5⟩:=dW W2.heap.size;rw[<-hq5]at ba' |-;obtain⟨wb,eb,bb,mb'⟩:=jK (o' :=Bd[j]) ba';apply ir eb;have Mb:M0 W2 wb:=ma.on mb' λb hb=>gz;have tb:=z1.mod Mb id eQ;obtain⟨y1,y2,y3⟩:=tb.rp.isSl;refine qSv0 (pt q 5) (cI (Lp tb.at_ y2) ?_);refine cx (pt q5 0) wb (by simp[go_sem]) (cx (gQ Bd[j].num) wb (by simp[go_sem,bb,fL]) ?_);have hsb:=Mb.size;refine Hw tb (by show(r2.gone++(Bd.take j).map (·.num)).length<=_;omega) qZ (λy ⟨pt,d⟩=>by have:=H.lt d;omega) λsG3 wc rc mc nc=>?_;apply cx (gI ((j+1:Nat):Int)) wc (by simp[go_sem];rw[wI_]);refine hKN _ _ ⟨j+1,sG3,qZ,rfl,?_,(z2.trans (Mb.to)).on mc λy d=>?_,λy d=>?_⟩ (by grind)
   ·rw[eA N,dy,<-df];exact rc
   ·rcases d with d|d
    ·exact .inl (.inl d)
    ·exact(z3 y d).imp .inr id
   ·rcases nc y d with o|o
    ·exact z3 y o
    ·exact gz
  ·obtain rfl:j=Bd.length:=qZ;refine qSf0 ?_;rw[cN]at z1;refine cI (jk 3 qZ _) (cI (AJ _ H.blk) ?_);refine Em (enc:=iI) (ev:=yh) (x:=n) xn rP (.inr ⟨md,rfl,H.mbd⟩) λW3 a3 m3' hs3=>?_;have X:de (λy=>y=md) W2 W3:=m3'.mono λy _ d=>by cases d;rfl
   have a3' :fB iI yh W3 md (DF D' n):=by
    rcases a3 with⟨o,-⟩|⟨b',o,h''⟩
    ·cases o
    ·cases o;exact h''
   have v10:=H.delBd a3' X;have R:dY t md:=⟨.md,(H.fmd md).2 rfl⟩
   have z10:BN W3 q z Y {r2 with gone:=r2.gone++Bd.map (·.num)} (q+1) (dY t):=z1.mod X (λe=>(s md R).2 e.symm) λy d e=>(z1.nw y d).2.2 (by rw[e];exact R)
   have hres:S.expire n=(0,{r2 with gone:=r2.gone++Bd.map (·.num)},{T2 with bd:=upd T2.bd n []}):=by
    rw[g,hr2,hT2,hBd]
   have hsub:∀y,dY (mj t (.bd n) λ_=>False) y->dY t y:=λy ⟨pt,d⟩=>by
    by_cases U:pt=.bd n
    ·subst U;rw[ip]at d;exact d.elim
    ·rw[eH U]at d;exact⟨pt,d⟩
   exact tell 0 _ _ (DF D' n) _ z Y W3 hres v10 (z10.z λy d f=>(z10.nw y d).2.2 (hsub y f)) (MW2.on X λy d=>by
    rw[d];rcases(s md R).1 with o|o
    ·exact .inl o
    ·exact gz) λy d=>(s y (hsub y d)).1
abbrev V1(w:Wt_)(s:Vt_)(l:List Td):Prop:=jo w Vy 4 s l.length (l.flatMap Fg)
def UD{t:Td}(f:∀a b,b=w.heap.size->V1 a (.slice (some ⟨b,0,none⟩) 1 1) [t]->M0 w a->K (.slice (some ⟨b,0,none⟩) 1 1) a):rx pQ (jQ 48 1 [(0,PS t)]) w K:=by
 refine oJ [PS t] JA (eO eTd) rfl rfl (by intro v e;rw[eK.1 e];rfl) qZ ?_;have d:(([PS t]:LV_).flatMap (·.cells.toList)).toArray=(Fg t).toArray:=rfl;rw[d];exact f _ _ rfl ⟨rfl,.inr ⟨_,1,[],rfl,cJ _,by rw[gy,bZ rfl];simp,by simp,by simp⟩⟩ lm
def U4{L:List Td}{t:Td}(h:V1 w s L)(g:V1 w s1 [t])(k:L.length<=100000)
  (i:∀a d,V1 d a (L++[t])->de (cK s) w d->(∀b,cK a b->cK s b\/w.heap.size<=b)->K a d):rx pQ (eg #[48,48] 48 [s,s1]) w K:=by
 refine jR JA JA (eO eTd) h g.rd (by show(Fg t++[]).all _=true;rw[ew];exact LV t) (by grind) λa d e j f=>i a d ?_ j f;rw[<-eJ]at e;show jo d Vy 4 a (L++[t]).length _;rw[cD];exact e
structure B5(w:Wt_)(p:Nat)(sT:Vt_)(r:Rp)(lo:Nat)(Z:NP_):Prop where
 at_:hC w p (mC r sT dv dv).toArray lx
 own:V1 w sT r.trades
 g0:r.gone=[]
 a0:r.accts=[]
 nw:∀y,cK sT y->lo<=y/\y≠p/\¬Z y
def B5.mod(h:B5 w p sT r lo Z)(a:de F w w')(d:¬F p)(b:∀y,cK sT y->¬F y):B5 w' p sT r lo Z:=
 ⟨a.hpk h.at_ d,h.own.mod a b,h.g0,h.a0,h.nw⟩
def B5.z{b:NP_}(h:B5 w p sT r lo Z)(d:∀y,cK sT y->¬b y):B5 w p sT r lo b:=⟨h.at_,h.own,h.g0,h.a0,λy a=>⟨(h.nw y a).1,(h.nw y a).2.1,d y a⟩⟩
def B5.q(h:B5 w p sT r lo Z):vG w sT dv dv r:=by
 refine⟨h.own,?_,?_,λx _ a=>(by cases a),λx _ a=>(by cases a),λx a=>(by cases a)⟩
 ·rw[h.g0];exact jo.nil _ _ _
 ·rw[h.a0];exact jo.nil _ _ _
section
variable{W:Wt_}{q:Nat}{r:Rp}{sT:Vt_}
def L4(h:hC W q (mC r sT dv dv).toArray lx)(b:∃a n c,sT=.slice a n c):(iL 48 (pt q 4)).run pQ W=.ok sT W:=by
 obtain⟨_,_,_,rfl⟩:=b;simp[go_sem,h,mC]
def Z1(h:hC W q (mC r sT dv dv).toArray lx):(iL 2 (pt q 2)).run pQ W=.ok (gI r.filled) W:=by simp[go_sem,h,mC]
def ZR(h:hC W q (mC r sT dv dv).toArray lx):(iL 2 (pt q 3)).run pQ W=.ok (gI r.left) W:=by simp[go_sem,h,mC]
def Sv{d:Vt_}{L:List Td}(h:hC W q (mC r sT dv dv).toArray lx)(f:∃a n c,d=.slice a n c)(g:∃a n c,sT=.slice a n c):
  ∃e,(iS 48 (pt q 4) d).run pQ W=.ok () e/\hC e q (mC {r with trades:=L} d dv dv).toArray lx/\de (λb=>b=q) W e:=by
 obtain⟨_,_,_,rfl⟩:=g;obtain⟨a,n,c,rfl⟩:=f;unfold mC at h;exact⟨W.setCell ⟨q,4,none⟩ (.slice a n c),by simp[go_sem,h],by simp[go_sem,h,mC],(de.refl (λb=>b=q) W).sc⟩
def Yh(x:Int)(h:hC W q (mC r sT dv dv).toArray lx):
  ∃a,(iS 2 (pt q 2) (gI x)).run pQ W=.ok () a/\hC a q (mC {r with filled:=x} sT dv dv).toArray lx/\de (λb=>b=q) W a:=by
 unfold mC at h;exact⟨W.setCell ⟨q,2,none⟩ (gI x),by simp[go_sem,h],by simp[go_sem,h,mC],(de.refl (λb=>b=q) W).sc⟩
def Xs(x:Int)(h:hC W q (mC r sT dv dv).toArray lx):
  ∃a,(iS 2 (pt q 3) (gI x)).run pQ W=.ok () a/\hC a q (mC {r with left:=x} sT dv dv).toArray lx/\de (λb=>b=q) W a:=by
 unfold mC at h;exact⟨W.setCell ⟨q,3,none⟩ (gI x),by simp[go_sem,h],by simp[go_sem,h,mC],(de.refl (λb=>b=q) W).sc⟩
end
def OD:∀{l:List Int},(∀x∈l,0<=x)->0<=l.sum/\∀x∈l,x<=l.sum
 | [],_=>⟨by simp,by simp⟩
 |a::l,h=>by
  have d:=h a (cw ..);have⟨h2,h3⟩:=OD (l:=l) λx b=>h x (cu _ b);rw[di];refine⟨qZ,λx b=>?_⟩;rcases cH.1 b with rfl|b
  ·omega
  ·have:=h3 x b;omega
def IQ(q:Int)(l:List Hd):(qT q l).1.length<=64/\∀h∈(qT q l).1,(0<=h.q/\h.q<=10000000)/\∃d∈l,d.acct=h.acct:=by
 unfold qT;split
 ·simp
 ·split
  ·simp
  ·split
   ·simp
   ·split
    ·simp
    ·rename_i y k z p
     have e:=splitR_sum (t:=zt q) (l:=l.map λd=>rQ q d.q) (by simpa using p)
     have o:amongB q (-10000000) 10000000=true:=by
      cases m:amongB q (-10000000) 10000000 with
      |true=>rfl
      |false=>exact absurd (.inr (.inl m)) k
     have n:=amongB_iff.1 o;have g:zt q<=10000000:=by unfold zt;omega
     have f:=OD e.2.2.1;refine⟨?_,λh i=>?_⟩
     ·unfold vU;rw[cz];exact dD (dm _ _) (by grind)
     ·unfold vU at i;obtain⟨x,u,rfl⟩:=cF.1 i;have a:=(cO.1 u).1;have b:=List.of_mem_zip a;have j:=e.2.2.1 _ b.2;have s:=f.2 _ b.2;rw[e.2.1]at s;exact⟨⟨j,by grind⟩,x.1,b.1,rfl⟩
section
variable{w:Wt_}{K:cG}{v c l mb md:Nat}{A:List (Int×Nat)}{D:List (Int×Value)}{fp:Pt->Nat->Prop}{S:Ven}
def J5{k:Ct}{a q' :Int}{long:Bool}{p pk pa lo:Nat}{sT:Vt_}{r:Rp}{x1:Vt_}{x2:Value×Unit}(h:ik w v c l mb md A D fp S)(hlen:S.led.held.length<4294967295)(hn:pL k.spec.num)(hq64:jl q')
  (bk:hC w pk (fI k).toArray oT)(ba:hC w pa #[.int .u32 a] 23)(hr:B5 w p sT r lo (dY fp))(hpk:¬dY fp pk/\pk≠p/\¬cK sT pk)(hpa:¬dY fp pa/\pa≠p/\¬cK sT pa)(hpf:¬dY fp p)(hlo:lo<=w.heap.size)
  (hb:(0<=r.left/\r.left<=1000000000000)/\r.trades.length<=10000)
  (hK:∀J w' Y,Y=(if(qT q' (((S.led.holders k.spec.num).filter λp=>decide (p.a≠a)).map λp=>⟨p.a,p.q⟩)).2≠0 then((qT q' (((S.led.holders k.spec.num).filter λp=>decide (p.a≠a)).map λp=>⟨p.a,p.q⟩)).2,r,S)else partsL k.spec.num a long k.price (qT q' (((S.led.holders k.spec.num).filter λp=>decide (p.a≠a)).map λp=>⟨p.a,p.q⟩)).1 r S)->
   ik w' v c l mb md A D fp Y.2.2->B5 w' p J Y.2.1 lo (dY fp)->de (λy=>fp .led y\/y=p\/cK sT y) w w' ->(∀y,cK J y->cK sT y\/w.heap.size<=y)->(0<=Y.2.1.left/\Y.2.1.left<=r.left+640000000)/\Y.2.1.trades.length<=r.trades.length+64/\Y.2.1.filled=r.filled->K (gI Y.1) w'):
  JU (eY v) (gU k.spec.num) (pt pa 0) K (pt pk 0) (.bool long) (pt p 0) (gI 0,x1,x2) (gI q',()) w:=by
 unfold JU;intro _;obtain⟨X,hX⟩:=dW (qT q' (((S.led.holders k.spec.num).filter λp=>decide (p.a≠a)).map λp=>(⟨p.a,p.q⟩:Hd)));rw[<-hX]at hK;obtain⟨hXl,hXb⟩:=IQ q' (((S.led.holders k.spec.num).filter λp=>decide (p.a≠a)).map λp=>(⟨p.a,p.q⟩:Hd));rw[<-hX]at hXl hXb;have u:S.led.Ok:=by obtain⟨-,hok⟩:=h.led;exact hok
 obtain⟨F,hph⟩:=dW w.heap.size;have m1:M0 w (w.alloc (.cells #[dv] 288)):=lm;have b1:hC (w.alloc (.cells #[dv] 288)) F #[dv] 288:=by rw[hph];simp[go_sem]
 apply cx (pt F 0) (w.alloc (.cells #[dv] 288)) (by rw[hph];simp[go_sem,dv]);generalize w.alloc (.cells #[dv] 288)=w1 at m1 b1|-;have h1:=h.md0 m1;simp only[eY,dr];refine cI (jk 1 qZ _) (cI (ld1 _ h1.blk) ?_);refine yJ h1.led hlen λgv w2 ht m2=>?_;have M2:=m1.trans m2;have a2:=M2.hpk ba id;have b2:=m2.hpk b1 id;have hph2:=cB b2;have hpkw:=cB bk;have hpaw:=cB ba;have hpw:=cB hr.at_;obtain⟨H,hH⟩:=dW (S.led.holders k.spec.num);have hHl:H.length<=64:=by rw[hH];exact tV u _
 have hHm:∀p∈H,p∈S.led.held:=λp hp=>by rw[hH]at hp;exact(cO.1 hp).1
 rw[<-hH]at ht hX;let hd:Po->Hd:=λp=>⟨p.a,p.q⟩
 let s:List Po->List Hd:=λl=>(l.filter λp=>decide (p.a≠a)).map hd;let I:(Nat->Prop)->Nat->World->Prop:=λQ i W=>∃sl,hC W F #[sl] 288/\jo W 290 2 sl (s (H.take i)).length ((s (H.take i)).flatMap EH)/\(∀y,Q y↔y=F\/cK sl y)/\∀y,cK sl y->F<y
 delta Ra
 refine zj (X0:=λx=>x=F) (T:=79) (fc:=ec) ht.m rS.po I (λ_ _ _=>False) ?_ (λ_ _ _ _ _ h=>h.elim) (λx hx=>qZ) ⟨dv,b2,jo.nil _ _ _,λy=>⟨.inl,λg=>g.elim id λg=>by cases g⟩,λy g=>(by cases g)⟩ ?_ ?_ (λ_ _ _ _ _ h=>h.elim)
 ·rintro Q i W W' G ⟨sl,i1,U,i3,i4⟩ hm hQ;exact⟨sl,hm.hpk i1 (hQ _ ((i3 _).2 (.inl rfl))),U.mod hm λy g=>hQ y ((i3 y).2 (.inr g)),i3,i4⟩
 ·rintro Q i hi W rr ⟨sl,i1,U,i3,i4⟩ mW hQ hdq hqW zgq KN KJ hKN hKJ;obtain⟨po,hpo⟩:=dW (H[i]);rw[<-hpo]at zgq;unfold ec at zgq;obtain⟨sa,sc,hsl,-⟩:=U.isSl;have aW:=mW.hpk a2 qZ;have htk:=eA hi;rw[<-hpo]at htk;have hQs:∀b,Q b->b<W.heap.size:=λb hb=>by grind
  refine cx (pt rr 1) W (by simp[go_sem]) (cx (gU po.a) W (by simp[go_sem,zgq]) ?_);refine qS1 aW ?_;by_cases O:po.a≠a
  ·refine qSt1 O ?_;apply cx sl W (by rw[hsl]at i1|-;simp[go_sem,i1]);refine cx (pt rr 1) W (by simp[go_sem]) (cx (gU po.a) W (by simp[go_sem,zgq]) ?_);refine cx (pt rr 2) W (by simp[go_sem]) (cx (gI po.q) W (by simp[go_sem,zgq]) ?_);apply cx (UC (hd po)) W (by simp[go_sem,UC,EH,hd])
   have hl64:(s (H.take i)).length<=64:=by
    show(((H.take i).filter _).map hd).length<=_;rw[cz];exact dD (dm _ _) (by grind)
   refine yM (x:=hd po) (f:=EH) XV (eO eHd) E9 (LS _) rfl U qZ qZ λs' B o1 mo n1=>?_;obtain⟨ta,tc,hs',-⟩:=o1.isSl;have hpW:=cB i1;have z1:=mo.hpk i1 λm=>by have:=i4 _ m;omega
   apply pH (B.setCell ⟨F,0,none⟩ s') (by rw[hs'];simp[go_sem,z1]);have mS:de (λy=>y=F) B (B.setCell ⟨F,0,none⟩ s'):=(de.refl (λy=>y=F) B).sc;have bS:hC (B.setCell ⟨F,0,none⟩ s') F #[s'] 288:=by simp[go_sem,z1]
   generalize B.setCell ⟨F,0,none⟩ s' =W2 at mS bS|-;have hsW:=mo.size;have hs2W:=mS.size
   have hn4:∀y,cK s' y->F<y:=λy g=>by
    rcases n1 y g with z|z
    ·exact i4 y z
    ·omega
   refine hKN (λy=>y=F\/cK s' y) W2 ⟨s',bS,?_,λy=>fd,hn4⟩ ((mo.mono λy _ g=>(i3 y).2 (.inr g)).trans (mS.mono λy _ g=>(i3 y).2 (.inl g))) λy g=>?_
   ·have e:s (H.take (i+1))=s (H.take i)++[hd po]:=by
     show((H.take (i+1)).filter _).map hd=_;rw[htk,dJ,dI (by simpa using O),iz,dy];rfl
    rw[e];exact o1.mod mS λy g e=>by have:=hn4 y g;omega
   ·rcases g with rfl|g
    ·grind
    ·refine⟨(n1 y g).imp (λz=>(i3 y).2 (.inr z)) id,?_⟩;have:=o1.lt g;omega
  ·have hpa0:po.a=a:=by simpa using O
   refine qSf1 hpa0 ?_;refine hKN Q W ⟨sl,i1,?_,i3,i4⟩ lX λb hb=>⟨.inl hb,hQs b hb⟩
   have e:s (H.take (i+1))=s (H.take i):=by
    show((H.take (i+1)).filter _).map hd=_;rw[htk,dJ,cY (by simpa using O),iz,ew]
   rw[e];exact U
 ·rintro Q W d hd' ⟨sl,i1,U,i3,i4⟩ mW hdef hQ;replace U:jo W 290 2 sl (s (H.take H.length)).length ((s (H.take H.length)).flatMap EH):=U;rw[cN]at U;obtain⟨sa,sc,hsl,-⟩:=U.isSl;have MW:M0 w W:=M2.on mW λy g=>gz;have h3:=h.md0 MW;have k3:=MW.hpk bk id;have a3:=MW.hpk ba id;have r3:=hr.mod MW id eQ;have hdw:w.heap.size<d:=qZ;unfold OJ;simp only[iJ];apply cx sl W (by rw[hsl]at i1|-;simp[go_sem,i1])
  have hsel64:(s H).length<=64:=by
   show((H.filter _).map hd).length<=_;rw[cz];exact dD (dm _ _) hHl
  refine Mv (l:=s H) (q:=q') U.rd qZ (λx hx=>?_) hq64 λs' w4 o4 m4 n4=>?_
  ·obtain⟨po,hpo,rfl⟩:=cF.1 hx;obtain⟨g1,g2,g3,g4,g5,g6,g7,ac,hac,hae⟩:=u.pos po (hHm po (cO.1 hpo).1);have:=u.acc ac hac;have hMP:MP=10000000:=rfl;exact⟨⟨by grind,by grind⟩,⟨by grind,by grind⟩⟩
  have hXs:X=qT q' (s H):=hX;rw[<-hXs]at o4|-;refine qS0 ?_;refine qS0 ?_;have M4:=MW.trans m4;have h4:=h3.md0 m4;have k4:=m4.hpk k3 id;have a4:=m4.hpk a3 id;have r4:=r3.mod m4 id eQ;have d4:=m4.hpk hdef id;have hs4:=M4.size;have hdlt4:=cB d4
  have tell:∀(Y:Int×Rp×Ven) (J:Vt_) (W' :Wt_),Y=(if X.2≠0 then(X.2,r,S)else partsL k.spec.num a long k.price X.1 r S)->ik W' v c l mb md A D fp Y.2.2->B5 W' p J Y.2.1 lo (dY fp)->de (λy=>fp .led y\/y=p\/cK sT y) w W' ->(∀y,cK J y->(cK sT y\/w.heap.size<=y)/\y≠d)->
    (0<=Y.2.1.left/\Y.2.1.left<=r.left+640000000)/\Y.2.1.trades.length<=r.trades.length+64/\Y.2.1.filled=r.filled->hp W' d=some (.deferred (some []))->lj ([d]++[]) W' λw307=>K (gI Y.1) w307:=by
   intro Y J W' hY a1 b1 m1 n1 hb1 hd1;refine Bz hd1 λW3 mr=>?_;refine hK J W3 Y hY (a1.mod mr λpt y g e=>?_) (b1.mod mr qZ λy g e=>(n1 y g).2 e) (m1.on mr λy g=>gz) (λy g=>(n1 y g).1) hb1;have:=h.lt g;omega
  by_cases hXe:X.2≠0
  ·refine qSt1 hXe ?_;have:=tell (X.2,r,S) sT w4 (by rw[bZ hXe]) h4 r4 (M4.to) (λy g=>⟨.inl g,by have:=hr.own.lt g;omega⟩) ⟨⟨hb.1.1,by grind⟩,by grind,rfl⟩ d4;exact this
  have hX0:X.2=0:=by simpa using hXe
  refine qSf1 hX0 ?_;obtain⟨pa',pc',hps,-⟩:=o4.isSl;apply jm (gI (X.1.length:Int)) w4 (by rw[hps];simp[go_sem]);have hs'b:∀y,cK s' y->d<y/\y<w4.heap.size:=λy g=>⟨by have:=n4 y g;have:=cB hdef;omega,o4.lt g⟩
  refine eS (λst B=>∃(j:Nat) (t:Rp) (P:Led) (C:Vt_),j<=X.1.length/\st=(gI 0,gI j,())/\partsL k.spec.num a long k.price (X.1.drop j) t {S with led:=P}=partsL k.spec.num a long k.price X.1 r S/\ik B v c l mb md A D fp {S with led:=P}/\B5 B p C t lo (dY fp)/\de (λy=>fp .led y\/y=p\/cK sT y) w4 B/\(∀y,cK C y->cK sT y\/w4.heap.size<=y)/\
    (0<=t.left/\t.left<=r.left+10000000*j)/\t.trades.length<=r.trades.length+j/\t.filled=r.filled)
   (λst _=>match st.2.1 with| .int _ i=>X.1.length - i.toNat|_=>0) ⟨0,r,S.led,sT,qZ,rfl,rfl,h4,r4,lX,λy g=>.inl g,⟨hb.1.1,qZ⟩,qZ,rfl⟩ ?_
  rintro _ B ⟨j,t,P,C,hj,rfl,j1,j2,j3,j4,j5,j6,j7,j8⟩ KM hKM;unfold Kc;intro _;have hsTw:∀y,cK sT y->y<w.heap.size:=λy g=>hr.own.lt g;have hlw:∀{y},fp .led y->y<w.heap.size:=λg=>h.lt g
  have hkp:∀{y},w.heap.size<=y->¬(fp .led y\/y=p\/cK sT y):=λg m=>by
   rcases m with m|m|m
   ·have:=hlw m;omega
   ·omega
   ·grind
  have d1:=j4.hpk d4 (hkp qZ)
  have k1:=j4.hpk k4 λm=>by
    rcases m with m|m|m;·exact hpk.1 ⟨_,m⟩
    ·exact hpk.2.1 m
    ·exact hpk.2.2 m
  have a1:=j4.hpk a4 λm=>by
    rcases m with m|m|m;·exact hpa.1 ⟨_,m⟩
    ·exact hpa.2.1 m
    ·exact hpa.2.2 m
  have o1:=o4.mod j4 λy g=>hkp (by grind);have hsW1:=j4.size;have MwW1:de (λy=>fp .led y\/y=p\/cK sT y) w B:=(M4.to).trans j4;by_cases hlt:j<X.1.length
  ·have hlt' :(j:Int)<(X.1.length:Int):=qZ;apply cx (.bool true) B (by simp[go_sem];omega);rw[kx];obtain⟨n,hhh⟩:=dW (X.1[j]);have hdrop:X.1.drop j=n::X.1.drop (j+1):=by rw[hhh];exact fF hlt
   rw[hdrop]at j1;have hhb:=(hXb n (by grind)).1;obtain⟨b0,off0,f1,f2,-⟩:=Ti o1.rd hlt;rw[<-hhh]at f2;refine cI (f1 B) (cI f2 ?_);obtain⟨wa,wb,ea,eb,bb,M⟩:=O0 n B;refine cI ea (ir eb ?_);obtain⟨qs,hqs⟩:=dW B.heap.size;rw[<-hqs]at bb|-;unfold EH at bb;have k5:=M.hpk k1 id;have a5:=M.hpk a1 id;have h5:=j2.md0 M;have r5:=j3.mod M id eQ;have d5:=M.hpk d1 id;have hsb:=M.size;apply jq (fI k) 26 ME yV (eE k) (At.all k5);refine qS1 a5 ?_;refine cx (pt qs 0) wb (by simp[go_sem]) (cx (gU n.acct) wb (by simp[go_sem,bb]) ?_);refine cx (pt pk 26) wb (by simp[go_sem]) (cx (gI k.price) wb (by simp[go_sem,k5,Hs]) ?_);refine cx (pt qs 1) wb (by simp[go_sem]) (cx (gI n.q) wb (by simp[go_sem,bb]) ?_);show Ca pQ _ #[eY v,_,_,_,_,_,_] wb _;refine GM (k:=k) h5 hn λw6 v6 m6=>?_;obtain⟨Y,hY⟩:=dW (swapL P k.spec.num a n.acct long k.price n.q);replace v6:ik w6 v c l mb md A D fp {S with led:=(swapL P k.spec.num a n.acct long k.price n.q).2}:=v6;show rv pQ (qE .neq 43 true (gI (swapL P k.spec.num a n.acct long k.price n.q).1) (gI 0)) w6 _;have hpl:partsL k.spec.num a long k.price (n::X.1.drop (j+1)) t {S with led:=P}=if(swapL P k.spec.num a n.acct long k.price n.q).1≠0 then((swapL P k.spec.num a n.acct long k.price n.q).1,t,{S with led:=(swapL P k.spec.num a n.acct long k.price n.q).2})else partsL k.spec.num a long k.price (X.1.drop (j+1)) {t with left:=t.left+n.q,trades:=t.trades++[⟨k.price,n.q,0,n.acct⟩]} {S with led:=(swapL P k.spec.num a n.acct long k.price n.q).2}:=rfl
   rw[hpl]at j1;rw[<-hY]at v6 j1|-;have R:∀{y},w.heap.size<=y->¬fp .led y:=λg m=>by grind
   have r6:=r5.mod m6 (λm=>hpf ⟨_,m⟩) λy g m=>(j3.nw y g).2.2 ⟨_,m⟩;have d6:=m6.hpk d5 (R qZ);have k6:=m6.hpk k5 λm=>hpk.1 ⟨_,m⟩;have bb6:=m6.hpk bb (R qZ);have hs6:=m6.size;have M16:de (λy=>fp .led y\/y=p\/cK sT y) w4 w6:=(j4.trans (M.to)).trans (m6.mono λy _ g=>.inl g);by_cases hye:Y.1≠0
   ·rw[bZ hye]at j1;refine qSt1 hye ?_;refine tell (Y.1,t,{S with led:=Y.2}) C w6 (by grind) v6 r6 ((M4.to).trans M16) (λy g=>⟨(j5 y g).imp id λz=>qZ,?_⟩) ⟨⟨j6.1,by grind⟩,by grind,j8⟩ d6;rcases j5 y g with z|z
    ·grind
    ·omega
   rw[aZ hye]at j1;have hy0:Y.1=0:=by simpa using hye
   refine qSf1 hy0 ?_;simp only[dr];have o:M0 w6 w6.drew:=mP;have v7:=v6.md0 o;have r7:=r6.mod o id eQ;have d7:=o.hpk d6 id;have k7:=o.hpk k6 id;have bb7:=o.hpk bb6 id;have hs7:w6.drew.heap.size=w6.heap.size:=rfl;have M17:=M16.trans (o.to (G:=λy=>fp .led y\/y=p\/cK sT y))
   try dsimp only
   generalize w6.drew=w7 at o v7 r7 d7 k7 bb7 hs7 M17|-;refine qPv0 (pt p 3) (dp (ZR r7.at_) ?_);refine qPv0 (pt qs 1) (qWv1 (gI n.q) bb7 ?_);apply dX (gI (t.left+n.q)) (λ_=>by simp[go_sem];rw[wI_]);refine qP0 ?_;obtain⟨w8,e8,at8,m8⟩:=Xs (t.left+n.q) r7.at_;apply ir e8;have hpfp:∀pt y,fp pt y->y≠p:=λpt y g e=>hpf (e▸⟨pt,g⟩);have v8:=v7.mod m8 λpt y g e=>hpfp pt y g e;have own8:=r7.own.mod m8 λy g e=>(r7.nw y g).2.1 e;have d8:=m8.hpk d7 qZ;have k8:=m8.hpk k7 hpk.2.1;have bb8:=m8.hpk bb7 qZ;have hs8:=m8.size;have M18:=M17.trans (m8.mono (G:=λy=>fp .led y\/y=p\/cK sT y) λy _ g=>.inr (.inl g));have o:M0 w8 w8.drew:=mP;have v9:=v8.md0 o;have at9:=o.hpk at8 id;have N:V1 w8.drew C t.trades:=own8.mod o eQ;have d9:=o.hpk d8 id;have k9:=o.hpk k8 id;have bb9:=o.hpk bb8 id;have hs9:w8.drew.heap.size=w8.heap.size:=rfl;have M19:=M18.trans (o.to (G:=λy=>fp .led y\/y=p\/cK sT y))
   try dsimp only
   generalize w8.drew=w9 at o v9 at9 N d9 k9 bb9 hs9 M19|-;obtain⟨sa1,sc1,V,-⟩:=N.isSl;refine qPv0 (pt p 4) (dp (L4 at9 ⟨_,_,_,V⟩) ?_);refine qPv0 (pt pk 26) (qWv2 (gI k.price) k9 Hs ?_);refine qPv0 (pt qs 1) (qWv1 (gI n.q) bb9 ?_);refine qPv0 (pt qs 0) (qWv1 (gU n.acct) bb9 ?_);apply dX (PS ⟨k.price,n.q,0,n.acct⟩) (λ_=>by simp[go_sem,PS,Fg]);refine UD λw10 b10 hb10 l10 Z=>?_;have at10:=Z.hpk at9 id;refine⟨L4 at10 ⟨_,_,_,V⟩,?_⟩;have own10:=N.mod Z eQ;refine U4 own10 l10 qZ λsT2 w11 o11 m11 n11=>?_;have hs11:=m11.size;have hs10:=Z.size;have at11:=m11.hpk at10 λm=>(j3.nw p m).2.1 rfl;refine qP0 ?_;obtain⟨sa2,sc2,hsT2,-⟩:=o11.isSl;obtain⟨w12,e12,at12,m12⟩:=Sv (L:=t.trades++[⟨k.price,n.q,0,n.acct⟩]) at11 ⟨_,_,_,hsT2⟩ ⟨_,_,_,V⟩;apply ir e12;apply cx (gI ((j+1:Nat):Int)) w12 (by simp[go_sem];rw[wI_]);have v11:=(v9.md0 Z).mod m11 λpt y g m=>(j3.nw y m).2.2 ⟨pt,g⟩;have hT1b:∀y,cK C y->y<w9.heap.size:=λy g=>N.lt g
   have E:∀y,cK sT2 y->(cK sT y\/w4.heap.size<=y)/\lo<=y/\y≠p/\¬dY fp y:=λy g=>by
    rcases n11 y g with z|z
    ·exact⟨j5 y z,(j3.nw y z).1,(j3.nw y z).2.1,(j3.nw y z).2.2⟩
    ·exact⟨gz,qZ,qZ,λ⟨pt,m⟩=>by have:=h.lt m;omega⟩
   refine hKM _ _ ⟨j+1,_,Y.2,sT2,qZ,rfl,j1,v11.mod m12 λpt y g e=>hpfp pt y g e,⟨at12,o11.mod m12 λy g e=>(E y g).2.2.1 e,j3.g0,j3.a0,λy g=>(E y g).2⟩,((M19.trans (Z.to)).on m11 λy g=>(j5 y g).imp (λz=>.inr (.inr z)) id).trans (m12.mono λy _ g=>.inr (.inl g)),λy g=>(E y g).1,⟨by show 0<=t.left+n.q;omega,by grind⟩,by grind,j8⟩ (by show X.1.length - (((j+1:Nat):Int)).toNat<X.1.length - ((j:Int)).toNat;omega)
  ·obtain rfl:j=X.1.length:=qZ;refine qSf0 ?_;rw[lv]at j1;have j1' :partsL k.spec.num a long k.price X.1 r S=(0,t,{S with led:=P}):=j1.symm;refine tell (0,t,{S with led:=P}) C B (by grind) j2 j3 MwW1 (λy g=>⟨(j5 y g).imp id λz=>qZ,?_⟩) ⟨⟨j6.1,by grind⟩,by grind,j8⟩ d1;rcases j5 y g with z|z
   ·grind
   ·omega
end
def aD9{L:List Fl}(h:Rd w 3 s L.length (L.flatMap E5)){i:Nat}(hi:i<L.length):
  ∃p,(iX 282 s (gI (i:Int))).run pQ w=.ok p w/\(iL 286 p).run pQ w=.ok (.agg (E5 L[i]).toArray) w:=by
 obtain⟨b,f,k,a,j,m⟩:=h.item LY hi rfl;obtain⟨C,e,fz,hC,d⟩:=m.get;have g0:=d 0 (gQ L[i].num) rfl;have g1:=d 1 (gU L[i].acct) rfl;have g:=d 2 (gI L[i].qty) rfl;simp only[jU,dS]at g0 g1 g;exact⟨.pointer (some ⟨b,f+i*3,none⟩),by rw[a];simp[go_sem,hi,cS],by simp[go_sem,fy hC,g0,g1,g,E5]⟩
def ad1(d:Fl)(w:Wt_):∃b a,(iA 286 true (.tuple #[])).run pQ w=.ok (pt w.heap.size 0) b/\(iS 286 (pt w.heap.size 0) (.agg (E5 d).toArray)).run pQ b=.ok () a/\hC a w.heap.size (E5 d).toArray 286/\M0 w a:=
 ⟨w.alloc (.cells #[.int .u64 0,gU 0,gI 0] 286),_,by simp[go_sem],by simp[go_sem,E5];rfl,by simp[go_sem,E5],(de.refl _ w).alloc _⟩
def Yx{f:Fl}(h:hC w p (E5 f).toArray 286)(l:List Od):Jb w (.func (.func 182) #[] #[.pointer (some ⟨p,0,none⟩)]) (λo=>decide (o.num=f.num)) l:=by
 refine⟨_,_,rfl,λo k W g K j=>?_⟩;apply ar4;obtain⟨a,e,i,b⟩:=vt o W;apply cI e;have d:=b.hpk (g.hpk h id) id;unfold E5 at d;refine cx (pt W.heap.size 0) a (by simp[go_sem]) (cx (gQ o.num) a (by simp[go_sem,i,fL]) ?_);refine cx (pt p 0) a (by simp[go_sem]) (cx (gQ f.num) a (by simp[go_sem,d]) ?_);apply cx (.bool (decide (o.num=f.num))) a (by simp[go_sem];rfl);exact j a b
def E8{l:List Od}{num qty:Int}(b:o∈l)(g:o.num≠num):o∈bidFill l num qty:=by
 unfold bidFill;cases k:l.findIdx? λo=>decide (o.num=num)with
 |none=>exact b
 |some i=>
  obtain⟨d,a,-⟩:=eB.1 k;rw[dN]at a;obtain⟨j,m,rfl⟩:=cX b;have f:j≠i:=λe=>g (by subst e;exact a);simp only;split
  ·rcases wy (cE d) b with h|h
   ·grind
   ·exact h
  ·refine List.mem_iff_getElem.2 ⟨j,by grind,?_⟩;rw[List.getElem_set_ne (λe=>f e.symm)]
def R3(sells:Bool)(qty:Int)(l:List Od):(pG sells qty l).2.1.length<=50:=by
 have key:∀l q p,(pB q l p).1.length<=l.length:=by
  intro l;induction l with
  |nil=>intro q p;simp[pB]
  |cons o l a=>
   intro q p;unfold pB;split
   ·simp
   ·grind
 unfold pG;split
 ·simp
 ·split
  ·simp
  ·rename_i e b
   have f:=key (Srt.stable (TM (sC sells)) l) qty 0;have d:=(Srt.stable_perm (TM (sC sells)) l).length_eq;simp only;omega
section
variable{w:Wt_}{K:cG}{v c l mb md:Nat}{A:List (Int×Nat)}{D:List (Int×Value)}{fp:Pt->Nat->Prop}{S:Ven}
def Et(k:Ct)(a:Int)(long:Bool)(price left:Int)(Fs:List Fl)(r:Rp)(S:Ven):Int×Rp×Ven:=
 let f:=fillsL k.spec.num a long price Fs left r S
 if f.1≠0 then(f.1,f.2.2.1,f.2.2.2)
 else if f.2.1=0 then(0,f.2.2.1,f.2.2.2)
 else
  let p:=qT (if long then f.2.1 else -f.2.1) (((f.2.2.2.led.holders k.spec.num).filter λp=>decide (p.a≠a)).map λp=>⟨p.a,p.q⟩)
  if p.2≠0 then(p.2,f.2.2.1,f.2.2.2)else partsL k.spec.num a long k.price p.1 f.2.2.1 f.2.2.2
def T5(S:Ven)(k:Ct)(a q:Int)(r:Rp):S.sell k a q r=if(pG (decide (0<q)) (max q (-q)) ((S.bd k.spec.num).filter λo=>o.buy==decide (0<q))).2.2≠0 then((pG (decide (0<q)) (max q (-q)) ((S.bd k.spec.num).filter λo=>o.buy==decide (0<q))).2.2,r,S)else
  Et k a (decide (0<q)) (pG (decide (0<q)) (max q (-q)) ((S.bd k.spec.num).filter λo=>o.buy==decide (0<q))).1 (max q (-q)) (pG (decide (0<q)) (max q (-q)) ((S.bd k.spec.num).filter λo=>o.buy==decide (0<q))).2.1 r S:=rfl
def IR{k:Ct}{a s price:Int}{long:Bool}{p pk pa lo:Nat}{sT sf:Vt_}{r:Rp}{B:List Fl}(h:ik w v c l mb md A D fp S)(hok:S.Ok)(hal:ex S.cal.l k.spec.num=0)(hn:pL k.spec.num)
  (bk:hC w pk (fI k).toArray oT)(ba:hC w pa #[.int .u32 a] 23)(hr:B5 w p sT r lo (dY fp))(hpk:¬dY fp pk/\pk≠p/\¬cK sT pk)(U:¬dY fp pa/\pa≠p/\¬cK sT pa)(hpf:¬dY fp p)(hlo:lo<=w.heap.size)
  (hf:FlS w sf B)(hfs:∀y,cK sf y->¬dY fp y/\y≠p/\¬cK sT y)(hl0:0<=s/\s<=10000000)(hFl:B.length<=50)(hFn:(B.map (·.num)).Nodup)(hFb:∀f∈B,1<=f.qty/\∃b∈S.bd k.spec.num,b.num=f.num/\f.qty<=b.left)
  (hb:((0<=r.left/\r.left<=100000000000)/\0<=r.filled/\r.filled<=100000000000)/\r.trades.length<=5000)
  (hK:∀D' fp' sT' w' Y,Y=Et k a long price s B r S->ik w' v c l mb md A D' fp' Y.2.2->B5 w' p sT' Y.2.1 lo (dY fp')->de (λy=>dY fp y\/y=p\/cK sT y) w w' ->(∀y,dY fp' y->dY fp y\/w.heap.size<=y)->(∀y,cK sT' y->cK sT y\/w.heap.size<=y)->
   ((0<=Y.2.1.left/\Y.2.1.left<=r.left+640000000)/\0<=Y.2.1.filled/\Y.2.1.filled<=r.filled+50000000)/\Y.2.1.trades.length<=r.trades.length+114->K (gI Y.1) w'):
  lG (JN (gI (B.length:Int)) sf (pt pk 0) (pt pa 0) (eY v) (.bool long) (gI price) K (pt p 0) (gU k.spec.num)) (gI 0,gI s,gI 0,()) w:=by
 have hpkw:=cB bk;have hpaw:=cB ba;have hpw:=cB hr.at_
 refine eS (λst W1=>∃(j:Nat) (left:Int) (u:Rp) (z:Ven) (D1:List (Int×Value)) (t:Pt->Nat->Prop) (J:Vt_),j<=B.length/\st=(gI 0,gI left,gI j,())/\fillsL k.spec.num a long price (B.drop j) left u z=fillsL k.spec.num a long price B s r S/\z.Ok/\z.cal=S.cal/\
   ik W1 v c l mb md A D1 t z/\B5 W1 p J u lo (dY t)/\de (λy=>dY fp y\/y=p\/cK sT y) w W1/\(∀y,dY t y->dY fp y\/w.heap.size<=y)/\(∀y,cK J y->cK sT y\/w.heap.size<=y)/\
   (∀f∈B.drop j,∃b∈z.bd k.spec.num,b.num=f.num/\f.qty<=b.left)/\(s - 1000000*j<=left/\left<=s)/\(u.left=r.left/\0<=u.filled/\u.filled<=r.filled+1000000*j)/\u.trades.length<=r.trades.length+j)
  (λst _=>match st.2.2.1 with| .int _ i=>B.length - i.toNat|_=>0) ⟨0,s,r,S,D,fp,sT,qZ,rfl,rfl,hok,rfl,h,hr,lX,λy d=>.inl d,λy d=>.inl d,λf hf' =>(hFb f hf').2,qZ,⟨rfl,hb.1.2.1,qZ⟩,qZ⟩ ?_
 rintro _ W1 ⟨j,left,u,z,D1,t,J,hj,rfl,j1,j2,j3,j4,j5,j6,j7,j8,j9,j10,j11,j12⟩ KM hKM;unfold JN;intro _;have hsW1:=j6.size;have hal1:ex z.cal.l k.spec.num=0:=by rw[j3];exact hal
 have hfpw:∀{y},dY fp y->y<w.heap.size:=λ⟨pt,d⟩=>h.lt d
 have k1:=j6.hpk bk λm=>by
   rcases m with m|m|m;·exact hpk.1 m
   ·exact hpk.2.1 m
   ·exact hpk.2.2 m
 have a1:=j6.hpk ba λm=>by
   rcases m with m|m|m;·exact U.1 m
   ·exact U.2.1 m
   ·exact U.2.2 m
 have f1:=hf.mod j6 λy d m=>by
  have:=hfs y d;rcases m with m|m|m
  ·exact this.1 m
  ·exact this.2.1 m
  ·exact this.2.2 m
 have hn1:∀{y},y<w.heap.size->¬dY fp y->¬dY t y:=λh1 h2 m=>by
  rcases j7 _ m with I|I
  ·exact h2 I
  ·omega
 have pk1:=hn1 hpkw hpk.1;have pa1:=hn1 hpaw U.1;have pf1:=hn1 hpw hpf
 have H:Et k a long price s B r S=(let f:=fillsL k.spec.num a long price (B.drop j) left u z
   if f.1≠0 then(f.1,f.2.2.1,f.2.2.2)else if f.2.1=0 then(0,f.2.2.1,f.2.2.2)else
    if(qT (if long then f.2.1 else -f.2.1) (((f.2.2.2.led.holders k.spec.num).filter λp=>decide (p.a≠a)).map λp=>(⟨p.a,p.q⟩:Hd))).2≠0 then((qT (if long then f.2.1 else -f.2.1) (((f.2.2.2.led.holders k.spec.num).filter λp=>decide (p.a≠a)).map λp=>(⟨p.a,p.q⟩:Hd))).2,f.2.2.1,f.2.2.2)else
     partsL k.spec.num a long k.price (qT (if long then f.2.1 else -f.2.1) (((f.2.2.2.led.holders k.spec.num).filter λp=>decide (p.a≠a)).map λp=>(⟨p.a,p.q⟩:Hd))).1 f.2.2.1 f.2.2.2):=by
  unfold Et;rw[j1]
 by_cases hlt:j<B.length
 ·have hlt' :(j:Int)<(B.length:Int):=qZ;apply cx (.bool true) W1 (by simp[go_sem];omega);rw[kx];obtain⟨f,hff⟩:=dW (B[j]);have M:B.drop j=f::B.drop (j+1):=by rw[hff];exact fF hlt
  have hfm:f∈B:=by rw[hff];exact cC hlt
  have hfb:=(hFb f hfm).1;obtain⟨b0,hb0,hb0n,hb0q⟩:=j9 f (by rw[M];exact cw ..);have hb0l:=may_left (j2.ord.bdMay _ b0 hb0);rw[M]at j1 H;obtain⟨pi,e1,e2⟩:=aD9 f1.rd hlt;rw[<-hff]at e2;refine cI e1 (cI e2 ?_);obtain⟨wa,wb,ea,eb,bb,mb'⟩:=ad1 f W1;refine cI ea (ir eb ?_);obtain⟨qs,hqs⟩:=dW W1.heap.size;rw[<-hqs]at bb|-;have bb' :=bb;unfold E5 at bb';have k5:=mb'.hpk k1 id;have a5:=mb'.hpk a1 id;have h5:=j4.md0 mb';have r5:=j5.mod mb' id eQ;have hsb:=mb'.size;apply jq (fI k) 26 ME yV (eE k) (At.all k5);refine qS1 a5 ?_;refine cx (pt qs 1) wb (by simp[go_sem]) (cx (gU f.acct) wb (by simp[go_sem,bb']) ?_);refine cx (pt qs 2) wb (by simp[go_sem]) (cx (gI f.qty) wb (by simp[go_sem,bb']) ?_);refine GM (k:=k) h5 hn λw6 v6 m6=>?_;obtain⟨Y,hY⟩:=dW (swapL z.led k.spec.num a f.acct long price f.qty)
  have hpl:fillsL k.spec.num a long price (f::B.drop (j+1)) left u z=if Y.1≠0 then(Y.1,left,u,{z with led:=Y.2})else
    fillsL k.spec.num a long price (B.drop (j+1)) (left - f.qty) {u with filled:=u.filled+f.qty,trades:=u.trades++[⟨price,f.qty,f.num,f.acct⟩]} {z with led:=Y.2,bd:=upd z.bd k.spec.num (bidFill (z.bd k.spec.num) f.num f.qty)}:=by rw[hY];rfl
  have hokY:({z with led:=Y.2}:Ven).Ok:=by rw[hY];exact FK j2 hal1
  rw[<-hY]at v6|-;have r6:=r5.mod m6 (λm=>pf1 ⟨_,m⟩) λy d m=>(j5.nw y d).2.2 ⟨_,m⟩;have hledlt:∀{y},dY t y->y<W1.heap.size:=λ⟨pt,d⟩=>j4.lt d;have k6:=m6.hpk k5 λm=>pk1 ⟨_,m⟩;have a6:=m6.hpk a5 λm=>pa1 ⟨_,m⟩;have bb6:=m6.hpk bb λm=>by have:=hledlt ⟨_,m⟩;omega
  have hs6:=m6.size;have M6:de (λy=>dY fp y\/y=p\/cK sT y) w w6:=(j6.trans (mb'.to)).on m6 λy d=>(j7 y ⟨_,d⟩).imp .inl id;by_cases hye:Y.1≠0
  ·rw[hpl,bZ hye]at H;refine qSt1 hye ?_;have he:Et k a long price s B r S=(Y.1,u,{z with led:=Y.2}):=by rw[H];simp only;rw[bZ hye]
   exact hK D1 t J w6 (Y.1,u,{z with led:=Y.2}) he.symm v6 r6 M6 j7 j8 ⟨⟨⟨by show 0<=u.left;omega,by show u.left<=_;omega⟩,j11.2.1,by show u.filled<=_;omega⟩,by show u.trades.length<=_;omega⟩
  have hy0:Y.1=0:=by simpa using hye
  rw[hpl,aZ hye]at j1;refine qSf1 hy0 ?_;have bb6' :=bb6;unfold E5 at bb6';refine cx (pt qs 2) w6 (by simp[go_sem]) (cx (gI f.qty) w6 (by simp[go_sem,bb6']) ?_);apply cx (gI (left - f.qty)) w6 (by simp[go_sem];rw[wI_]);simp only[eY,dr];have hpfp:∀pt y,t pt y->y≠p:=λpt y d e=>pf1 (e▸⟨pt,d⟩);have q:M0 w6 w6.drew:=mP;have v7:=v6.md0 q;have r7:=r6.mod q id eQ;have k7:=q.hpk k6 id;have a7:=q.hpk a6 id;have bb7:=q.hpk bb6 id;have hs7:w6.drew.heap.size=w6.heap.size:=rfl;have M7:=M6.trans (q.to (G:=λy=>dY fp y\/y=p\/cK sT y))
  try dsimp only
  generalize w6.drew=w7 at q v7 r7 k7 a7 bb7 hs7 M7|-;have bb7' :=bb7;unfold E5 at bb7';refine qPv0 (pt p 2) (dp (Z1 r7.at_) ?_);refine qPv0 (pt qs 2) (qWv1 (gI f.qty) bb7' ?_);apply dX (gI (u.filled+f.qty)) (λ_=>by simp[go_sem];rw[wI_]);refine qP0 ?_;obtain⟨w8,e8,at8,m8⟩:=Yh (u.filled+f.qty) r7.at_;apply ir e8;have v8:=v7.mod m8 λpt y d e=>hpfp pt y d e;have own8:=r7.own.mod m8 λy d e=>(r7.nw y d).2.1 e;have k8:=m8.hpk k7 hpk.2.1;have a8:=m8.hpk a7 U.2.1;have bb8:=m8.hpk bb7 qZ;have hs8:=m8.size;have M8:=M7.trans (m8.mono (G:=λy=>dY fp y\/y=p\/cK sT y) λy _ d=>.inr (.inl d));have q:M0 w8 w8.drew:=mP;have v9:=v8.md0 q;have at9:=q.hpk at8 id;have own9:V1 w8.drew J u.trades:=own8.mod q eQ;have k9:=q.hpk k8 id;have a9:=q.hpk a8 id;have bb9:=q.hpk bb8 id;have hs9:w8.drew.heap.size=w8.heap.size:=rfl;have M9:=M8.trans (q.to (G:=λy=>dY fp y\/y=p\/cK sT y))
  try dsimp only
  generalize w8.drew=w9 at q v9 at9 own9 k9 a9 bb9 hs9 M9|-;have bb9' :=bb9;unfold E5 at bb9';obtain⟨sa1,sc1,hsT1,-⟩:=own9.isSl;refine qPv0 (pt p 4) (dp (L4 at9 ⟨_,_,_,hsT1⟩) ?_);refine qPv0 (pt qs 2) (qWv1 (gI f.qty) bb9' ?_);refine qPv0 (pt qs 0) (qWv1 (gQ f.num) bb9' ?_);refine qPv0 (pt qs 1) (qWv1 (gU f.acct) bb9' ?_);apply dX (PS ⟨price,f.qty,f.num,f.acct⟩) (λ_=>by simp[go_sem,PS,Fg]);refine UD λw10 b10 hb10 l10 m10=>?_;have at10:=m10.hpk at9 id;refine⟨L4 at10 ⟨_,_,_,hsT1⟩,?_⟩;have own10:=own9.mod m10 eQ;refine U4 own10 l10 qZ λsT2 w11 o11 m11 n11=>?_;have hs11:=m11.size;have hs10:=m10.size;have at11:=m11.hpk at10 λm=>(j5.nw p m).2.1 rfl;refine qP0 ?_;obtain⟨sa2,sc2,hsT2,-⟩:=o11.isSl;obtain⟨w12,e12,at12,m12⟩:=Sv (L:=u.trades++[⟨price,f.qty,f.num,f.acct⟩]) at11 ⟨_,_,_,hsT2⟩ ⟨_,_,_,hsT1⟩;apply ir e12;have hsT1W:∀y,cK J y->y<W1.heap.size:=λy d=>j5.own.lt d;have v12:=((v9.md0 m10).mod m11 λpt y d m=>(j5.nw y m).2.2 ⟨pt,d⟩).mod m12 λpt y d e=>hpfp pt y d e
  have N:∀y,cK sT2 y->(cK sT y\/w.heap.size<=y)/\lo<=y/\y≠p/\¬dY t y:=λy d=>by
   rcases n11 y d with I|I
   ·exact⟨j8 y I,(j5.nw y I).1,(j5.nw y I).2.1,(j5.nw y I).2.2⟩
   ·exact⟨gz,qZ,qZ,λm=>by have:=hledlt m;omega⟩
  have own12:V1 w12 sT2 (u.trades++[⟨price,f.qty,f.num,f.acct⟩]):=o11.mod m12 λy d e=>(N y d).2.2.1 e;have bb12:=m12.hpk (m11.hpk (m10.hpk bb9 id) λm=>by have:=hsT1W _ m;omega) qZ;have M12:de (λy=>dY fp y\/y=p\/cK sT y) w w12:=((M9.trans (m10.to)).on m11 λy d=>(j8 y d).imp (λI=>.inr (.inr I)) id).trans (m12.mono λy _ d=>.inr (.inl d));have hs12:=m12.size;obtain⟨r2,hr2⟩:=dW ({u with filled:=u.filled+f.qty,trades:=u.trades++[⟨price,f.qty,f.num,f.acct⟩]}:Rp)
  have rt12:B5 w12 p sT2 r2 lo (dY t):=by
   rw[hr2];exact⟨at12,own12,j5.g0,j5.a0,λy d=>(N y d).2⟩
  obtain⟨Bd,O⟩:=dW (z.bd k.spec.num);have hBdl:Bd.length<=50:=by rw[O];exact j2.ord.bdl _
  have hsm:(eR ({z with led:=Y.2}:Ven).cal.l k.spec.num).isSome=true:=yO hal1;refine cI (jk 3 qZ _) (cI (AJ _ v12.blk) ?_);apply iW (uF v12.mbd k.spec.num);have hbd12:qR w12 (rz D1 k.spec.num) Bd:=by rw[O];exact v12.bd k.spec.num
  refine wE (l:=Bd) hbd12.rd qZ (Yx bb12 _) λw13 m13=>?_
  have hib:∃i,Bd.findIdx? (λo=>decide (o.num=f.num))=some i:=by
   cases hix:Bd.findIdx? (λo=>decide (o.num=f.num))with
   |some i=>exact⟨i,rfl⟩
   |none=>
    rw[fR]at hix;have:=hix b0 (by rw[O];exact hb0);rw[jh]at this;exact absurd hb0n this
  obtain⟨i,hix⟩:=hib;obtain⟨hil,hip,-⟩:=eB.1 hix;rw[dN]at hip
  have hib0:Bd[i]=b0:=by
   have h1:=sdGet_some (by rw[O];exact j2.ord.bdNd _:(Bd.map (·.num)).Nodup) (cC hil);have h2:=sdGet_some (by rw[O];exact j2.ord.bdNd _:(Bd.map (·.num)).Nodup) (by rw[O];exact hb0:b0∈Bd);rw[hip,<-hb0n,h2]at h1;exact(dB h1).symm
  have hi:uK Bd (λo=>decide (o.num=f.num))=(i:Int):=by unfold uK;rw[hix]
  rw[hi];have v13:=v12.md0 m13;have bb13:=m13.hpk bb12 id;have rt13:=rt12.mod m13 id eQ;have M13:=M12.trans (m13.to (G:=λy=>dY fp y\/y=p\/cK sT y));have q:M0 w13 w13.drew:=mP;have v14:=v13.md0 q;have bb14:=q.hpk bb13 id;have rt14:=rt13.mod q id eQ;have M14:=M13.trans (q.to (G:=λy=>dY fp y\/y=p\/cK sT y));have hs14:w13.drew.heap.size=w13.heap.size:=rfl;have hs13:=m13.size
  try dsimp only
  generalize w13.drew=w14 at q v14 bb14 rt14 M14 hs14|-;have bb14' :=bb14;unfold E5 at bb14';have hbd14:qR w14 (rz D1 k.spec.num) Bd:=by rw[O];exact v14.bd k.spec.num
  obtain⟨sb,scap,E,hse,hixp,hfld,hld,hst,o15,m15⟩:=hbd14.setLeft hil (Bd[i].left - f.qty);refine dw (jk 3 qZ) (dp (AJ _ v14.blk) ?_);apply li (uF v14.mbd k.spec.num);apply dX (pt sb (i*5)) (λW=>by rw[hse];simp[go_sem,hil,cS,mH]);refine qPv1 (pt sb (i*5+4)) cS (dp hld ?_);refine qPv0 (pt qs 2) (qWv1 (gI f.qty) bb14' ?_);have hbl:=may_left (j2.ord.bdMay _ Bd[i] (by rw[<-O];exact cC hil));apply dX (gI (Bd[i].left - f.qty)) (λ_=>by simp[go_sem];rw[wI_]);apply dX (pt sb (i*5)) (λW=>by rw[hse];simp[go_sem,hil,cS,mH]);refine qP1 cS ?_;apply ir hst;have V:∀y,cK (rz D1 k.spec.num) y->t (.bd k.spec.num) y:=λy d=>(v14.fbd k.spec.num y).2 d;have m15' :de (t (.bd k.spec.num)) w14 E:=m15.mono λy _ d=>V y d;obtain⟨R,P⟩:=dW (Bd.set i {Bd[i]with left:=Bd[i].left - f.qty});rw[<-P]at o15;have hBd2l:R.length=Bd.length:=by rw[P,ey]
  have v15:=v14.bdIn (n:=k.spec.num) m15' o15;have rt15:=rt14.mod m15' (λm=>pf1 ⟨_,m⟩) λy d m=>(rt14.nw y d).2.2 ⟨_,m⟩;have M15:de (λy=>dY fp y\/y=p\/cK sT y) w E:=M14.on m15' λy d=>(j7 y ⟨_,d⟩).imp .inl id;have hs15:=m15.size;refine cI (jk 3 qZ _) (cI (AJ _ v15.blk) ?_);apply iW (uF v15.mbd k.spec.num);have hil2:i<R.length:=qZ;obtain⟨sb2,scap2,hse2,hat2⟩:=o15.at hil2;obtain⟨C2,eC2,fz2,hC2,hg2⟩:=hat2.get;have hg24:=hg2 4 _ rfl;have hB2i:R[i]={Bd[i]with left:=Bd[i].left - f.qty}:=by simp[P]
  apply cx (pt sb2 (i*5)) E (by rw[hse2];simp[go_sem,hil2,cS,mH]);refine cx (pt sb2 (i*5+4)) E (by simp[go_sem,cS]) (cx (gI (Bd[i].left - f.qty)) E (by rw[hB2i]at hg24;simp[go_sem,hC2,hg24]) ?_)
  have F:bidFill (z.bd k.spec.num) f.num f.qty=if Bd[i].left - f.qty=0 then Bd.eraseIdx i else R:=by
   unfold bidFill;rw[<-O,hix];simp only;have hgd:Bd.getD i pC=Bd[i]:=by simp[hil]
   rw[hgd,P]
  have hqb:∀o∈z.bd k.spec.num,o.num=f.num->f.qty<=o.left:=λo ho he=>by
   have h1:=sdGet_some (j2.ord.bdNd k.spec.num) ho;have h2:=sdGet_some (j2.ord.bdNd k.spec.num) hb0;rw[he,<-hb0n,h2]at h1;have:=dB h1;rw[<-this];exact hb0q
  have hfit:=CM (l:=z.bd k.spec.num) (λo ho=>j2.ord.bdMay _ o ho) hfb hqb;obtain⟨S2,T⟩:=dW ({z with led:=Y.2,bd:=upd z.bd k.spec.num (bidFill (z.bd k.spec.num) f.num f.qty)}:Ven);have hok2:S2.Ok:=by rw[T];exact Ven.Ok.setBd hokY hfit.1
  rw[<-T,<-hr2]at j1
  have hrest:∀g∈B.drop (j+1),∃b∈S2.bd k.spec.num,b.num=g.num/\g.qty<=b.left:=λg hg=>by
   obtain⟨b,hb1,hb2,hb3⟩:=j9 g (by rw[M];exact cu _ hg);refine⟨b,?_,hb2,hb3⟩;rw[T];show b∈upd z.bd k.spec.num _ k.spec.num;rw[upd_self];refine E8 hb1 λe=>?_;have hnd:=hFn.sublist ((List.drop_sublist j B).map (·.num));rw[M,cM,dA]at hnd;exact hnd.1 (by rw[<-e,hb2];exact dn hg)
  have X:(r2.left=r.left/\0<=r2.filled/\r2.filled<=r.filled+1000000*((j+1:Nat):Int))/\r2.trades.length<=r.trades.length+(j+1):=by
   rw[hr2];refine⟨⟨j11.1,by show 0<=u.filled+f.qty;omega,by show u.filled+f.qty<=_;push_cast;omega⟩,by show(u.trades++[_]).length<=_;rw[cD];show _+1<=_;omega⟩
  have hmeas:B.length - (((j+1:Nat):Int)).toNat<B.length - ((j:Int)).toNat:=qZ;by_cases hz:Bd[i].left - f.qty=0
  ·rw[bZ hz]at F;refine qSt1 hz ?_;have q:M0 E E.drew:=mP;have C:=v15.md0 q;have Z:=rt15.mod q id eQ;have o16:qR E.drew (rz D1 k.spec.num) R:=o15.mod q eQ;have M16:=M15.trans (q.to (G:=λy=>dY fp y\/y=p\/cK sT y));have hs16:E.drew.heap.size=E.heap.size:=rfl
   try dsimp only
   generalize E.drew=w16 at q C Z o16 M16 hs16|-;refine dw (jk 3 qZ) (dp (AJ _ C.blk) ?_);refine dw (jk 3 qZ) (dp (AJ _ C.blk) ?_);apply li (uF C.mbd k.spec.num);apply dX (gI ((i+1:Nat):Int)) (λ_=>by simp[go_sem];rw[wI_]);refine vq o16 (qH i) hil2 qZ λs' w17 o17 m17 n17=>?_;rw[Iz]at o17;have hBe:R.eraseIdx i=Bd.eraseIdx i:=by rw[P,List.eraseIdx_set_eq]
   rw[hBe]at o17;have Q:de (t (.bd k.spec.num)) w16 w17:=m17.mono λy _ d=>V y d;have blk17:=Q.hpk C.blk (C.ap (by simp) _ C.self);refine⟨AJ _ blk17,?_⟩;have mbd17:=C.mbd.mod Q (C.ap (by simp) _ ((C.fmd md).2 rfl));refine kV (enc:=iI) (ev:=yh) (x:=k.spec.num) (v:=s') xn rP mbd17 λw18 a18 m18 hs18=>?_;have v18:=C.setBd (n:=k.spec.num) hsm Q o17 (λy d=>.inl (V y (n17 y d))) a18 m18;have hmdf:dY t md:=⟨.md,(C.fmd md).2 rfl⟩
   have rt18:=(Z.mod Q (λm=>pf1 ⟨_,m⟩) λy d m=>(Z.nw y d).2.2 ⟨_,m⟩).mod m18 (λe=>pf1 (e▸hmdf)) λy d e=>(Z.nw y d).2.2 (e▸hmdf)
   have hsub:∀y,dY (mj t (.bd k.spec.num) (cK s')) y->dY t y:=λy ⟨pt,d⟩=>by
    by_cases hpt:pt=.bd k.spec.num
    ·subst hpt;rw[ip]at d;exact⟨_,V y (n17 y d)⟩
    ·rw[eH hpt]at d;exact⟨pt,d⟩
   apply cx (gI ((j+1:Nat):Int)) w18 (by simp[go_sem];rw[wI_]);refine hKM _ _ ⟨j+1,left - f.qty,r2,S2,put D1 k.spec.num s',mj t (.bd k.spec.num) (cK s'),sT2,qZ,rfl,j1,hok2,by rw[T];exact j3,?_,rt18.z λy d m=>(rt18.nw y d).2.2 (hsub y m),(M16.on Q λy d=>(j7 y ⟨_,d⟩).imp .inl id).on m18 λy d=>(j7 y (d▸hmdf)).imp .inl id,λy d=>j7 y (hsub y d),λy d=>(N y d).1,hrest,⟨by push_cast;omega,qZ⟩,X.1,X.2⟩ hmeas
   have e:S2={({({z with led:=Y.2}:Ven)with bd:=upd z.bd k.spec.num R}:Ven)with bd:=upd (upd z.bd k.spec.num R) k.spec.num (Bd.eraseIdx i)}:=by
    rw[T,F,upd_upd]
   rw[e];exact v18
  ·rw[aZ hz]at F;refine qSf1 hz ?_;apply cx (gI ((j+1:Nat):Int)) E (by simp[go_sem];rw[wI_]);refine hKM _ _ ⟨j+1,left - f.qty,r2,S2,D1,t,sT2,qZ,rfl,j1,hok2,by rw[T];exact j3,?_,rt15,M15,j7,λy d=>(N y d).1,hrest,⟨by push_cast;omega,qZ⟩,X.1,X.2⟩ hmeas;rw[T,F];exact v15
 ·obtain rfl:j=B.length:=qZ;refine qSf0 ?_;rw[lv]at H;have hfl:fillsL k.spec.num a long price [] left u z=(0,left,u,z):=rfl;rw[hfl]at H;simp only[ne_eq,not_true_eq_false,eW]at H;by_cases hl:left=0
  ·rw[bZ hl]at H;refine qSt1 hl ?_;exact hK D1 t J W1 (0,u,z) H.symm j4 j5 j6 j7 j8 ⟨⟨⟨by show 0<=u.left;omega,by show u.left<=_;omega⟩,j11.2.1,by show u.filled<=_;omega⟩,by show u.trades.length<=_;omega⟩
  rw[aZ hl]at H;refine qSf1 hl ?_;obtain⟨q',hq'⟩:=dW (if long then left else -left:Int);rw[<-hq']at H;have hq64:jl q' :=by rw[hq'];constructor<;>split<;>omega
  refine dK.at (λst W=>st=(gI q',())/\W1=W) ?_ ?_
  ·refine qS0 ?_;cases long with
   |true=>rw[show(!true)=false from rfl,cy,aZ gL];exact⟨by rw[hq'];rfl,rfl⟩
   |false=>
    rw[show(!false)=true from rfl,cy,bZ rfl];apply cx (gI (-left)) W1 (by simp[go_sem];rw[wI_]);exact⟨by rw[hq'];rfl,rfl⟩
  rintro _ _ ⟨rfl,rfl⟩
  have hpk1:¬cK J pk:=λm=>by
    rcases j8 _ m with I|I;·exact hpk.2.2 I
    ·omega
  have hpa1:¬cK J pa:=λm=>by
    rcases j8 _ m with I|I;·exact U.2.2 I
    ·omega
  have hheld:z.led.held.length<4294967295:=by have:=xo j2.cal j2.led;omega
  refine J5 j4 hheld hn hq64 k1 a1 j5 ⟨pk1,hpk.2.1,hpk1⟩ ⟨pa1,U.2.1,hpa1⟩ pf1 qZ ⟨⟨qZ,qZ⟩,qZ⟩ λsT' w' Y hY a2 b2 m2 n2 c2=>?_;refine hK D1 t sT' w' Y (by rw[H,hY]) a2 b2 (j6.on m2 λy d=>?_) j7 (λy d=>?_) ⟨⟨⟨c2.1.1,qZ⟩,by rw[c2.2.2];exact j11.2.1,by rw[c2.2.2];omega⟩,qZ⟩
  ·rcases d with d|d|d
   ·exact(j7 y ⟨_,d⟩).imp .inl id
   ·exact .inl (.inr (.inl d))
   ·exact(j8 y d).imp (λI=>.inr (.inr I)) id
  ·rcases n2 y d with I|I
   ·exact j8 y I
   ·exact gz
end
end Go.Proofs
