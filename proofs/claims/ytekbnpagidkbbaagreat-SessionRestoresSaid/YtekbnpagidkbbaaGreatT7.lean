/- Part of a proof. -/
import Derived.Lib.Overlaps
import Derived.Test.YtekbnpagidkbbaaGreatT6
set_option linter.all false
set_option maxRecDepth 100000
set_option maxHeartbeats 4000000
namespace Go.Proofs
open Go Go.Vc
section
variable{κ ν:Type} [DecidableEq κ]
def JQ{A B:List (κ×ν)}(c:(A.map (·.1)).Nodup)(b:(B.map (·.1)).Nodup)(h:∀k,lk A k=lk B k):A.Perm B:=by
 have nd:∀L:List (κ×ν),(L.map (·.1)).Nodup->L.Nodup:=λL d=>by
  rw[List.Nodup,dA]at d;exact d.imp λa e=>a (by rw[e])
 refine(List.perm_ext_iff_of_nodup (nd A c) (nd B b)).2 λ⟨k,v⟩=>?_;rw[<-SO c,<-SO b,h]
def HL{R:List (κ×ν)}(b:(R.map (·.1)).Nodup){i:Nat}{p:κ×ν}(h:R[i]? =some p):((R.eraseIdx i).map (·.1)).Nodup/\lk R p.1=some p.2/\lk (R.eraseIdx i) p.1=none/\∀k,k≠p.1->lk (R.eraseIdx i) k=lk R k:=by
 have hp:=nv h;have a:((p::R.eraseIdx i).map (·.1)).Nodup:=(hp.map _).nodup_iff.1 b;simp only[aH,bO]at a;refine⟨a.2,by rw[AM b hp];simp[lk],ox a.1,λk c=>?_⟩;rw[AM b hp];simp[lk,jW c]
def td(A R C:List (κ×ν)):Prop:=(R.map (·.1)).Nodup/\∀k,(lk R k).or (lk C k)=lk A k
def td.step{A R C:List (κ×ν)}(h:td A R C){i:Nat}{p:κ×ν}(hi:R[i]? =some p):td A (R.eraseIdx i) (put C p.1 p.2):=by
 obtain⟨b,c⟩:=h;obtain⟨a,d,g,f⟩:=HL b hi;refine⟨a,λk=>?_⟩;rw[lL];by_cases e:k=p.1
 ·grind
 ·grind
def td.done{A C:List (κ×ν)}(h:td A [] C)(a:(A.map (·.1)).Nodup)(hC:(C.map (·.1)).Nodup):C.Perm A:=
 JQ hC a λk=>by have:=h.2 k;simpa [lk]using this
end
def bq.empty:bq:=⟨0,[],[]⟩
def bq.empty_ok:bq.empty.Ok where
 fund:=by simp[bq.empty,MF]
 sa:=List.Pairwise.nil
 sp:=List.Pairwise.nil
 len:=by simp[bq.empty]
 acc:=by simp[bq.empty]
 pos:=by simp[bq.empty]
def PJ{w:Wt_}{K:be}(j:∀d l F,iw d l F bq.empty->M0 w d->(∀b,F b->w.heap.size<=b)->K (eK l) d):Ca pQ 34 #[] w K:=by
 refine cN Tryz.func34 ?_;simp[go_sem];have o:=fI.new (enc:=eS) (ev:=jG) w;refine kM (enc:=eS) (ev:=jG) (x:=0) (v:=⟨0,0,false,false⟩) oQ kL o λa k h e=>?_;have n:M0 w a:=nl.on h λb i=>gT;have m:a.heap.size=w.heap.size+1:=by rw[e,ci]
 (try simp[go_sem])
 generalize c:(a.alloc (.map #[] 0)).alloc _=g;have f:M0 a g:=by subst c;exact nl.alloc _
 refine j g (a.heap.size+1) (λb=>b=a.heap.size+1\/b=w.heap.size\/b=a.heap.size) ⟨⟨w.heap.size,a.heap.size,_,[],?_,k.mod f id,?_,?_,db _,λ_=>aI,qZ,qZ,qZ⟩,bq.empty_ok⟩ (n.trans f) λb i=>by omega
 ·subst c;simp[go_sem,m]
 ·subst c;exact(fI.new (enc:=gr) (ev:=mK) a).mod ((bn.refl (λ_=>False) _).alloc _) id
 ·exact db _
def T7{w:Wt_}{l:Nat}{F:NP_}{S:bq}{K:be}(h:iw w l F S)(hK:∀q e F',iw q e F' S->M0 w q->(∀b,F' b->w.heap.size<=b)->K (eK e) q):Ca pQ 92 #[eK l] w K:=by
 have h0:=h;obtain⟨⟨m1,m2,A,B,h1,Q,X,h4,h5,h6,h7⟩,hok⟩:=h;unfold eK;refine cN Tryz.func92 ?_;apply lZ h0;simp[go_sem];refine PJ λw1 e F' q1 n1 Z=>?_;obtain⟨⟨k1,k2,A',B',c1,c2,c3,c4,c5,Y,c7⟩,-⟩:=q1;have hk1:w.heap.size<=k1:=Z k1 ((Y k1).2 (.inr (.inl rfl)));have hk2:w.heap.size<=k2:=Z k2 ((Y k2).2 (.inr (.inr rfl)));have hl' :w.heap.size<=e:=Z e ((Y e).2 (.inl rfl));have e1:=n1.keep h1 id;have hlm1:=Q.lt;have hlm2:=X.lt;simp[go_sem,eK,cO e1];refine sQ oQ (Q.mod n1 id) λw2 P n2=>?_;generalize hg:w1.heap.size=it at P;have hitl:=aJ c1;have hc2l:=c2.lt;have hc3l:=c3.lt
 refine zA (λs W=>∃(R C:List (Int×Ac)),s=()/\kR eS jG W it m1 R/\fI eS jG W k1 C/\td A R C/\bn (λb=>b=it\/b=k1) w1 W)
  (λs W=>ri it m1 W) ⟨A,A',rfl,P,c2.mod n2 id,⟨Q.1,λk=>?_⟩,n2.to⟩ ?_
 ·have hA' :∀k,lk A' k=bq.empty.getO k:=λk=>iw.lkA c2 c4 k;rw[hA' k,iw.lkA Q h4];unfold bq.getO;by_cases L:k=0
  ·simp[L]
  ·simp only[aa L];cases S.find k<;>simp[bq.find,bq.empty]
 rintro _ W ⟨R,C,rfl,itW,cW,O,mW⟩ KN hKN;refine rT ?_;intro _;refine vq itW ?_ ?_
 ·intro L q I hh;subst L;have j:bn (λb=>b=it\/b=k1) w1 q:=mW.trans (I.to);have e1' :=j.keep e1 (by have:=aJ h1;omega);simp[go_sem,cO e1'];have mF:M0 w q:=n1.on j λb a=>.inr (by grind);refine sQ AR (X.mod mF id) λw4 U n4=>?_;generalize hg4:q.heap.size=o at U;have cA:=((O.done Q.1 cW.1).trans h4)
  have cW4:=(cW.mod I id).mod n4 id
  have hjt:it<o/\k1<o/\k2<o/\e<o:=by
   have:=j.size;have:=itW.lt.2;have:=I.size;omega
  have m:hC w4 e #[.map (some k1),.map (some k2)] 176:=n4.keep (j.keep c1 qZ) id
  refine zA (λs W=>∃(R C:List ((Int×Int)×Po)),s=()/\kR gr mK W o m2 R/\fI gr mK W k2 C/\td B R C/\bn (λb=>b=o\/b=k2) w4 W)
   (λs W=>ri o m2 W) ⟨B,B',rfl,U,(c3.mod j qZ).mod n4 id,⟨X.1,λk=>?_⟩,rC⟩ ?_
  ·have hB' :∀k,lk B' k=bq.empty.pos? k:=λk=>iw.lkP c3 c5 k;rw[hB' k];cases lk B k<;>simp[bq.pos?,bq.empty]
  rintro _ W5 ⟨R5,C5,rfl,u,E,t,H⟩ KN5 N;refine rT ?_;intro _;refine vq u ?_ ?_
  ·intro L d c hh'';subst L;simp[go_sem];have g:bn (λb=>b=o\/b=k2) w4 d:=H.trans (c.to);refine hK d e F' ⟨⟨k1,k2,C,C5,g.keep m qZ,cW4.mod g qZ,E.mod c id,cA,(t.done X.1 E.1).trans h5,Y,c7⟩,hok⟩ (mF.on ((n4.to (G:=λb=>b=o\/b=k2)).trans g) λb a=>.inr (by grind)) Z
  ·intro i p T d J f c hsz;simp[go_sem];apply so f;have r:=(H.on c λb a=>.inl (.inl a)).keep m (by grind);have hlt:=aJ r;have y:e≠d.heap.size:=qZ;have V:e≠d.heap.size+1:=qZ;simp[go_sem,mK,gr,eK,cO r,y,V];generalize z:World.drew _=w6;have D:M0 d w6:=by subst z;exact(nl.alloc _).drew
   refine kM (enc:=gr) (ev:=mK) (x:=p.1) (v:=p.2) AR Pg ((E.mod c (by grind)).mod D id) λw7 hA M hs7=>?_;have n:kR gr mK w7 o m2 (R5.eraseIdx i):=(J.mod D id id).mod M qZ qZ;apply N _ _ ⟨_,_,rfl,n,hA,t.step T,((H.on c λb a=>.inl (.inl a)).on D λ_ h=>h.elim).on M λb a=>.inl (.inr a)⟩;rw[n.left,u.left,gH];have:i<R5.length:=(aF.1 T).1;rw[ab this];omega
 ·intro i p T q J f I hsz;simp[go_sem];apply so f;have m:=(mW.on I λb a=>.inl (.inl a)).keep c1 (by grind);have hlt:=aJ m;have y:e≠q.heap.size:=qZ;simp[go_sem,jG,eS,eK,cO m,y];generalize z:World.drew _=w6;have D:M0 q w6:=by subst z;exact nl.drew
  refine kM (enc:=eS) (ev:=jG) (x:=p.1) (v:=p.2) oQ kL ((cW.mod I (by grind)).mod D id) λw7 hA M hs7=>?_;have n:kR eS jG w7 it m1 (R.eraseIdx i):=(J.mod D id id).mod M qZ qZ;apply hKN _ _ ⟨_,_,rfl,n,hA,O.step T,((mW.on I λb a=>.inl (.inl a)).on D λ_ h=>h.elim).on M λb a=>.inl (.inr a)⟩;rw[n.left,itW.left,gH];have:i<R.length:=(aF.1 T).1;rw[ab this];omega
end Go.Proofs
namespace Go.Proofs
open Go Go.Vc
attribute [local congr] bj
variable {i:Nat}{w:Wt_}{K:be}
abbrev dM(n:Int):Prop:= -9223372036854775808<=n/\n<9223372036854775808
abbrev gM(n:Int):Prop:=0<=n/\n<4294967296
abbrev sB(n:Int):Prop:=0<=n/\n<18446744073709551616
structure Sp where
 num:Int
 route:Int
 tick:Int
 lot:Int
 band:Int
 limit:Int
 shifts:Vector Int 16
 credit:Int
 last:Int
 first:Int
 deriving DecidableEq
def Sp.Fit(s:Sp):Prop:=gM s.num/\(0<=s.route/\s.route<256)/\dM s.tick/\dM s.lot/\dM s.band/\dM s.limit/\(∀x∈s.shifts.toList,dM x)/\dM s.credit/\gM s.last/\dM s.first
def vl(s:Vector Int 16):List Value:=s.toList.map λn=>gI n
def fk(s:Sp):List Value:=[.int .u32 s.num,gB s.route,gI s.tick,gI s.lot,gI s.band,gI s.limit]++(vl s.shifts++[.int .i64 s.credit,gU s.last,gI s.first])
def mX(s:Vector Int 16):(vl s).length=16:=by simp[vl]
def bb(s:Sp):(fk s).length=25:=by simp[fk,mX]
def oI(s:Sp):(fk s).all (·.oneCell')=true:=by simp[fk,vl,Value.oneCell']
def rZ(s:Sp):((fk s).drop 6).take 16=vl s.shifts:=by
 simp only[fk];rw[cT (by simp)];simp only[List.drop_succ_cons,List.drop_nil,dO,cX];rw[aP (by rw[mX];omega),ay (by rw[mX];omega)]
def spG{s:Sp}{a:LV_}(hi:i<3):(fk s++a)[22+i]? =([.int .i64 s.credit,gU s.last,gI s.first]:LV_)[i]? :=by
 rw[bP (by rw[bb];omega)];simp only[fk];rw[bf (by simp;omega)];rw[bf (by rw[mX];simp;omega)];congr 1;rw[mX];simp;omega
def aj5(s:Sp)(a:LV_):(fk s++a)[0]? =some (gU s.num):=rfl
def aq3(s:Sp)(a:LV_):(fk s++a)[1]? =some (gB s.route):=rfl
def am1(s:Sp)(a:LV_):(fk s++a)[2]? =some (gI s.tick):=rfl
def am6(s:Sp)(a:LV_):(fk s++a)[3]? =some (gI s.lot):=rfl
def al4(s:Sp)(a:LV_):(fk s++a)[4]? =some (gI s.band):=rfl
def ak3(s:Sp)(a:LV_):(fk s++a)[5]? =some (gI s.limit):=rfl
def Sr(s:Sp)(a:LV_):(fk s++a)[22]? =some (gI s.credit):=spG (i:=0) qZ
def WT(s:Sp)(a:LV_):(fk s++a)[23]? =some (gU s.last):=spG (i:=1) qZ
def Tj(s:Sp)(a:LV_):(fk s++a)[24]? =some (gI s.first):=spG (i:=2) qZ
def vL(tick n:Int):Bool:=aY n 1 MP&& decide (n.tmod tick=0)
def uU(l:List Int):Bool:=l.all λx=>aY x (-MP) MP
def Sp.may(s:Sp):Bool:=
 uU s.shifts.toList&& s.shifts.toList.any (λx=>decide (0<x))&& s.shifts.toList.any (λx=>decide (x<0))&& decide (s.num≠0)&& aY s.route 1 8&& aY s.tick 1 MP&& aY s.lot 1 1000000&& aY s.band 0 MP&& aY s.limit 1 MP&& aY s.credit 0 MP&& vL s.tick s.first
def Sp.isPrice(s:Sp)(n:Int):Bool:=s.may&& vL s.tick n
def Sp.isQty(s:Sp)(n:Int):Bool:=s.may&& (aY n 1 1000000&& decide (n.tmod s.lot=0))
def Sp.inBand(s:Sp)(at_ n:Int):Bool:=s.may&& (decide (dM (n - at_))&& aY (n - at_) (-s.band) s.band)
def lY{n lo hi:Int}(a:K (.bool (aY n lo hi)) w):Ca pQ 195 #[.int .i64 n,gI lo,gI hi] w K:=by
 refine cN Tryz.func195 ?_;unfold aY at a;by_cases h:lo<=n
 ·simp[go_sem,h]at a|-;exact a
 ·simp[go_sem,h]at a|-;exact a
def Dj{tick n:Int}(d:0<tick)(a:K (.bool (vL tick n)) w):Ca pQ 196 #[.int .i64 tick,gI n] w K:=by
 refine cN Tryz.func196 ?_;apply lY;unfold vL MP at a;have b:¬tick=0:=qZ;cases h:aY n 1 10000000 with
 |false=>
  rw[h]at a;simpa using a
 |true=>
  rw[h]at a;have k:=bz h;simp[go_sem,b]at a|-
  have e:IntKind.i64.wrap (n.tmod tick)=n.tmod tick:=by
   have j:=Int.emod_nonneg n b;have g:=Int.emod_lt_of_pos n d;have f:n.tmod tick=n%tick:=gi qZ
   have i:n%tick<=n:=by
    by_cases c:n<tick
    ·rw[Int.emod_eq_of_lt qZ c];omega
    ·omega
   rw[f,mL]
  first
   |exact a
   |(rw[e];exact a)
   |(simpa [e]using a)
def uSh:Tryz.prog.underlying 46=some (.array 16 2):=cH
def Xv:lI pQ 46=true:=cH
def XV:Tryz.prog.cellsOf 46=15+1:=cH
def Vp:lI pQ 2=false:=cH
def TD:(Tryz.prog.underlying 2).isSome=true:=cH
def RT:Tryz.prog.cellsOf 2=0+1:=cH
def yf:lI pQ 48=true:=cH
def ud:Tryz.prog.cellsOf 48=24+1:=cH
def Ar(s:Vector Int 16)(i:Nat)(h:i<16):(vl s).toArray[i]? =some (gI s.toList[i]!):=by
 have a:s.toList.length=16:=by simp
 simp[vl,ao,a,h]
def RH{l:List Int}{p:Int->Bool}(h:i<l.length):(l.take (i+1)).all p=((l.take i).all p&& p l[i]!):=by
 rw[fN,ao h,ez];simp[h]
def FW{l:List Int}{p:Int->Bool}(h:i<l.length):(l.take (i+1)).any p=((l.take i).any p||p l[i]!):=by
 rw[fN,ao h,List.any_append];simp[h]
def pY{s:Sp}(hf:s.Fit)(Y:∀G,M0 w G->K (.bool s.may) G):Ca pQ 131 #[.agg (fk s).toArray] w K:=by
 refine cN Tryz.func131 ?_;obtain⟨p,o⟩:=dW w.heap.size;have P:M0 w (w.alloc (.cells (fk s).toArray 48)):=nl;apply az (cU p 0) (w.alloc (.cells (fk s).toArray 48)) (by rw[o];rfl);have d:hC (w.alloc (.cells (fk s).toArray 48)) p (fk s).toArray 48:=by rw[o];simp[go_sem]
 generalize w.alloc (.cells (fk s).toArray 48)=B at P d|-;refine dF ?_
 have Z:At B p 6 (vl s.shifts):=by
  have E:At B p 0 (fk s):=⟨_,_,_,d,by simp,by simp⟩
  have:=E.sub 6 16 (by rw[bb];omega);rw[rZ]at this;simpa using this
 apply iu (vl s.shifts) 15 Xv XV (mX _) Z;have hl:s.shifts.toList.length=16:=by simp
 obtain⟨f1,f2,f3,f4,f5,f6,X,f8,f9,V⟩:=hf;have a:∀i:Nat,(fk s)[i]? =(fk s++[])[i]? :=λi=>by grind
 refine iz (λst W=>∃(i:Nat) (x:Vt_),i<=16/\st=(x,.bool ((s.shifts.toList.take i).any λx=>decide (0<x)),.bool ((s.shifts.toList.take i).any λx=>decide (x<0)),gI i,())/\W=B/\uU (s.shifts.toList.take i)=true)
  (λst _=>match st.2.2.2.1 with| .int _ i=>16 - i.toNat|_=>0) ⟨0,.bool false,qZ,rfl,rfl,rfl⟩ ?_
 rintro⟨_,_⟩ W ⟨i,x,hi,⟨⟩,rfl,g⟩ U D;refine rT ?_;intro _;by_cases k:i<16
 ·have l:(i:Int)<16:=qZ;have f:i<s.shifts.toList.length:=qZ
  have hx:dM s.shifts.toList[i]! :=by
   rw[eW s.shifts.toList i f];exact X _ (ar f)
  refine ee l ?_;apply az (gI s.shifts.toList[i]!) W (pS uSh Vp TD RT k (Ar _ i k));generalize O:s.shifts.toList[i]! =y at*;apply ib hx qZ;have hw:IntKind.i64.wrap ((i:Int)+1)=((i+1:Nat):Int):=by rw[mL];omega
  refine dF ?_;cases H:aY y (-10000000) 10000000 with
  |false=>
   rw[bG,ab (show(!false)=true from rfl)]
   have:s.may=false:=by
    have u:uU s.shifts.toList=false:=by
     rw[fM];intro hc;have:=(aW.1 hc) y (by grind);unfold MP at this;rw[H]at this;cases this
    unfold Sp.may;rw[u];simp
   have e:=Y _ P;rw[this]at e;exact e
  |true=>
   rw[bG,aa (by simp)]
   have j:uU (s.shifts.toList.take (i+1))=true:=by
    unfold uU;rw[RH f,O];show(uU _&& _)=true;rw[g];simpa [MP]using H
   have nxt:∀(z:Vt_),U (z,.bool ((s.shifts.toList.take (i+1)).any λx=>decide (0<x)),.bool ((s.shifts.toList.take (i+1)).any λx=>decide (x<0)),gI ((i+1:Nat):Int),()) W:=λz=>
    D _ _ ⟨i+1,z,qZ,rfl,rfl,j⟩ (by grind)
   rw[FW f,FW f,O]at nxt;cases v:(s.shifts.toList.take i).any λx=>decide (0<x)<;>cases r:(s.shifts.toList.take i).any λx=>decide (x<0)
   all_goals
    rw[v,r]at nxt;simp only[bG,bE,dB,de];simp[-Int.natCast_add,go_sem,hw];simpa using nxt _
 ·obtain rfl:i=16:=qZ;rw[ay qZ]at g;rw[ay qZ];refine fh ?_;have c:∀b:Bool,b=s.may->K (.bool b) W:=λb h=>by grind
  unfold Sp.may at c;rw[g]at c;cases v:s.shifts.toList.any λx=>decide (0<x)with
  |false=>
   rw[lW];apply c _;rw[v];simp
  |true=>
   rw[v]at c;rw[nO];cases r:s.shifts.toList.any λx=>decide (x<0)with
   |false=>
    rw[lW];apply c _;rw[r];simp
   |true=>
    rw[r]at c;rw[nO];have J:(fk s).toArray[0]? =some (gU s.num):=by rw[cG,a];exact aj5 s []
    have N:(fk s).toArray[1]? =some (gB s.route):=by rw[cG,a];exact aq3 s []
    have t:(fk s).toArray[2]? =some (gI s.tick):=by rw[cG,a];exact am1 s []
    have T:(fk s).toArray[3]? =some (gI s.lot):=by rw[cG,a];exact am6 s []
    have M:(fk s).toArray[4]? =some (gI s.band):=by rw[cG,a];exact al4 s []
    have S:(fk s).toArray[5]? =some (gI s.limit):=by rw[cG,a];exact ak3 s []
    have q:(fk s).toArray[22]? =some (gI s.credit):=by rw[cG,a];exact Sr s []
    have m:(fk s).toArray[24]? =some (gI s.first):=by rw[cG,a];exact Tj s []
    refine nm d J ?_;refine nm d J ?_;by_cases A:s.num=0
    ·refine fH A ?_;refine c _ (by simp[A])
    have F:decide (s.num≠0)=true:=by simpa using A
    rw[F]at c;refine ee A ?_;refine nm d N ?_;refine nm d N ?_;refine dD (ie (n:=s.route) qZ qZ) ?_;apply lY;cases u:aY s.route 1 8 with
    |false=>rw[lW];exact c _ (by rw[u];simp)
    |true=>
    rw[u]at c;rw[nO];refine nm d t ?_;refine nm d t ?_;apply lY;unfold MP at c;cases C:aY s.tick 1 10000000 with
    |false=>rw[lW];exact c _ (by rw[C];simp)
    |true=>
    rw[C]at c;rw[nO];refine nm d T ?_;refine nm d T ?_;apply lY;cases Q:aY s.lot 1 1000000 with
    |false=>rw[lW];exact c _ (by rw[Q];simp)
    |true=>
    rw[Q]at c;rw[nO];refine nm d M ?_;refine nm d M ?_;apply lY;cases I:aY s.band 0 10000000 with
    |false=>rw[lW];exact c _ (by rw[I];simp)
    |true=>
    rw[I]at c;rw[nO];refine nm d S ?_;refine nm d S ?_;apply lY;cases L:aY s.limit 1 10000000 with
    |false=>rw[lW];exact c _ (by rw[L];simp)
    |true=>
    rw[L]at c;rw[nO];refine nm d q ?_;refine nm d q ?_;apply lY;cases R:aY s.credit 0 10000000 with
    |false=>rw[lW];exact c _ (by rw[R];simp)
    |true=>
    rw[R]at c;rw[nO];refine nm d t ?_;refine nm d t ?_;refine nm d m ?_;refine nm d m ?_;have ht:=bz C;apply Dj qZ;exact c _ (by simp)
end Go.Proofs
namespace Go.Proofs
open Go Go.Vc
attribute [local congr] bj
variable {n:Int}{s:Sp}{w:Wt_}{K:be}
def QM(s:Sp):(fk s)[0]? =some (gU s.num):=rfl
def ak5(s:Sp):(fk s)[2]? =some (gI s.tick):=rfl
def ao8(s:Sp):(fk s)[3]? =some (gI s.lot):=rfl
def al7(s:Sp):(fk s)[4]? =some (gI s.band):=rfl
def DX(s:Sp)(w:Wt_):∃a,(Instr.box 48 (.agg (fk s).toArray)).run pQ w=.ok (cU w.heap.size 0) a/\hC a w.heap.size (fk s).toArray 48/\M0 w a:=
 ⟨w.alloc (.cells (fk s).toArray 48),rfl,by simp[go_sem],(bn.refl _ w).alloc _⟩
def At.all{b:Nat}{l:LV_}{T:TypeId}{a:Nat×Nat}(h:hp w b=some (.cells l.toArray T a)):At w b 0 l:=⟨_,_,_,h,by simp,by simp⟩
def Sp.may_tick(h:s.may=true):1<=s.tick/\1<=s.lot/\0<=s.band/\1<=s.limit/\s.limit<=10000000/\s.band<=10000000/\s.lot<=1000000/\s.tick<=10000000:=by
 unfold Sp.may aY MP at h;simp only[ah,ax]at h;omega
def pC(h:s.Fit)(a:∀e,M0 w e->K (.bool (s.isPrice n)) e):Ca pQ 147 #[.agg (fk s).toArray,gI n] w K:=by
 refine cN Tryz.func147 ?_;obtain⟨j,i,d,g⟩:=DX s w;apply dy i;apply iu (fk s) 24 yf ud (bb s) (At.all d);refine pY h λk c=>?_;have f:=c.hpk d id;unfold Sp.isPrice at a;cases b:s.may with
 |false=>
  rw[b]at a;rw[lW];exact a _ (g.trans c)
 |true=>
  rw[b]at a;rw[nO];refine dD f ?_;refine nm f ak5 ?_;apply Dj (by have:=Sp.may_tick b;omega);exact a _ (g.trans c)
def HY(l:s.Fit)(a:∀i,M0 w i->K (.bool (s.isQty n)) i):Ca pQ 226 #[.agg (fk s).toArray,gI n] w K:=by
 refine cN Tryz.func226 ?_;obtain⟨r,o,g,c⟩:=DX s w;apply dy o;apply iu (fk s) 24 yf ud (bb s) (At.all g);refine pY l λq b=>?_;have k:=b.hpk g id;unfold Sp.isQty at a;cases f:s.may with
 |false=>
  rw[f]at a;rw[lW];exact a _ (c.trans b)
 |true=>
  rw[f]at a;rw[nO];apply lY;have h:=Sp.may_tick f;have j:¬s.lot=0:=qZ;cases d:aY n 1 1000000 with
  |false=>
   rw[d]at a;rw[lW];exact a _ (c.trans b)
  |true=>
   rw[d]at a;have p:=bz d;rw[nO];refine dD k ?_;refine nm k ao8 ?_
   have e:IntKind.i64.wrap (n.tmod s.lot)=n.tmod s.lot:=by
    have u:=Int.emod_nonneg n j;have t:=Int.emod_lt_of_pos n (show 0<s.lot by omega);have m:n.tmod s.lot=n%s.lot:=gi qZ;rw[m,mL]
   refine nm j e ?_;apply az (.bool (decide (n.tmod s.lot=0))) q (by simp[go_sem];rw[bT];simp);have:=a _ (c.trans b);simpa using this
def Yu{a b:Int}(m:dM a)(l:dM b)(h:K (.tuple #[.int .i64 (if dM (a - b)then a - b else 0),gI (if dM (a - b)then 0 else 6)]) w):Ca pQ 360 #[.int .i64 a,gI b] w K:=by
 refine cN Tryz.func360 ?_;obtain⟨c,i⟩:=dW (IntKind.i64.wrap (a - b));apply az (gI c) w (by rw[i];simp[go_sem]);rw[cy]at i;refine dU.at (λst W=>st=(.bool (decide (¬dM (a - b))),())/\W=w) ?_ ?_
 ·by_cases j:0<=a
  ·refine ee j ?_;have d:¬a<0:=qZ;by_cases f:b<0
   ·refine ee f ?_;by_cases k:c<0
    ·refine ee k ?_;refine⟨?_,rfl⟩;rw[aA (by unfold dM;omega)]
    ·refine fH k ?_;refine fH d ?_;refine⟨?_,rfl⟩;rw[aG (by unfold dM;omega)]
   ·refine fH f ?_;refine fH d ?_;refine⟨?_,rfl⟩;rw[aG (by unfold dM;omega)]
  ·refine fH j ?_;have d:a<0:=qZ;refine ee d ?_;by_cases f:0<=b
   ·refine ee f ?_;refine dF ?_;refine⟨?_,rfl⟩;have e:decide (0<=c)=decide (¬dM (a - b)):=by grind
    rw[e]
   ·refine fH f ?_;refine⟨?_,rfl⟩;rw[aG (by unfold dM;omega)]
 rintro _ w ⟨rfl,rfl⟩;refine qk ?_;intro _;by_cases g:dM (a - b)
 ·rw[ab g,ab g]at h;rw[bG,aa (by simpa using g)];rw[i,show(a - b+9223372036854775808)%18446744073709551616 - 9223372036854775808=a - b by grind];exact h
 ·rw[aa g,aa g]at h;rw[bG,ab (by grind)];exact h
def N1{at_:Int}(i:s.Fit)(l:dM at_)(j:dM n)(a:∀g,M0 w g->K (.bool (s.inBand at_ n)) g):Ca pQ 313 #[.agg (fk s).toArray,gI at_,gI n] w K:=by
 refine cN Tryz.func313 ?_;obtain⟨m,k,f,d⟩:=DX s w;apply dy k;apply Yu j l;refine dF ?_;refine dF ?_;apply iu (fk s) 24 yf ud (bb s) (At.all f);refine pY i λp c=>?_;have h:=c.hpk f id;unfold Sp.inBand at a;cases e:s.may with
 |false=>
  rw[e]at a;rw[lW];exact a _ (d.trans c)
 |true=>
  rw[e]at a;rw[nO];have o:=Sp.may_tick e;by_cases b:dM (n - at_)
  ·rw[aA b]at a;rw[ab b,ab b];refine lV ?_;refine dD h ?_;refine nm h al7 ?_;apply ib b qZ;exact a _ (d.trans c)
  ·rw[aG b]at a;rw[aa b,aa b];refine fh ?_;exact a _ (d.trans c)
structure Ct where
 spec:Sp
 st:Int
 price:Int
 deriving DecidableEq
def Ct.Fit(k:Ct):Prop:=k.spec.Fit/\(0<=k.st/\k.st<256)/\dM k.price
def dh(k:Ct):List Value:=fk k.spec++[.int .u8 k.st,gI k.price]
def bC(k:Ct):(dh k).length=27:=by simp[dh,bb]
def g9(k:Ct):(dh k).all (·.oneCell')=true:=by
 rw[dh,ez,oI];rfl
def WW(k:Ct)(a:LV_):(dh k++a)[25]? =some (gB k.st):=by
 rw[bP (by rw[bC];omega),dh,bf (by rw[bb];omega),bb];rfl
def WC(k:Ct)(a:LV_):(dh k++a)[26]? =some (gI k.price):=by
 rw[bP (by rw[bC];omega),dh,bf (by rw[bb];omega),bb];rfl
structure Gt where
 k:Ct
 a:Ac
 q:Int
 buys:Int
 sells:Int
 buy:Bool
 price:Int
 qty:Int
def yT(g:Gt):List Value:=dh g.k++(dr g.a++[.int .i64 g.q,gI g.buys,gI g.sells,.bool g.buy,gI g.price,gI g.qty])
def xz(g:Gt):(yT g).length=37:=by simp[yT,bC,dr]
def Wm(g:Gt)(i:Nat)(h:i<10):(yT g)[27+i]? =(dr g.a++[.int .i64 g.q,gI g.buys,gI g.sells,.bool g.buy,gI g.price,gI g.qty])[i]? :=by
 rw[yT,bf (by rw[bC];omega),bC,fb]
def gt5(g:Gt):(yT g)[5]? =some (gI g.k.spec.limit):=rfl
def Ze(g:Gt):(yT g)[25]? =some (gB g.k.st):=WW _ _
def ae6(g:Gt):(yT g)[26]? =some (gI g.k.price):=WC _ _
def aq2(g:Gt):(yT g)[29]? =some (.bool g.a.kil):=Wm g 2 qZ
def al6(g:Gt):(yT g)[30]? =some (.bool g.a.dfl):=Wm g 3 qZ
def Yt(g:Gt):(yT g)[31]? =some (gI g.q):=Wm g 4 qZ
def ZU(g:Gt):(yT g)[32]? =some (gI g.buys):=Wm g 5 qZ
def ae8(g:Gt):(yT g)[33]? =some (gI g.sells):=Wm g 6 qZ
def ao4(g:Gt):(yT g)[34]? =some (.bool g.buy):=Wm g 7 qZ
def ac0(g:Gt):(yT g)[35]? =some (gI g.price):=Wm g 8 qZ
def YE(g:Gt):(yT g)[36]? =some (gI g.qty):=Wm g 9 qZ
def Gt.far(g:Gt):Bool:=if g.buy then decide (g.k.spec.limit<g.q+g.buys+g.qty)else decide (g.q - g.sells - g.qty< -g.k.spec.limit)
def Gt.check(g:Gt):Int:=
 if g.a.dfl then 120 else if g.a.kil then 121 else if g.k.st=3 then 50 else if g.k.st=2 then 122
 else if g.k.st≠1\/¬g.k.spec.isPrice g.k.price\/¬aY g.buys 0 1000000000\/¬aY g.sells 0 1000000000\/¬aY g.q (-MP) MP then 2
 else if¬g.k.spec.isQty g.qty then 123 else if¬g.k.spec.isPrice g.price then 52 else if¬g.k.spec.inBand g.k.price g.price then 124 else if g.far then 125 else 0
def Gt.Fit(g:Gt):Prop:=g.k.Fit/\dM g.q/\dM g.buys/\dM g.sells/\dM g.price/\dM g.qty
def aGt:lI pQ 380=true:=cH
def nGt:Tryz.prog.cellsOf 380=36+1:=cH
def WJ(g:Gt)(w:Wt_):∃a,(Instr.box 380 (.agg (yT g).toArray)).run pQ w=.ok (cU w.heap.size 0) a/\hC a w.heap.size (yT g).toArray 380/\M0 w a:=
 ⟨w.alloc (.cells (yT g).toArray 380),rfl,by simp[go_sem],(bn.refl _ w).alloc _⟩
def Ix(a:K (.bool (aY n 0 1000000000)) w):Ca pQ 312 #[.int .i64 n] w K:=by
 refine cN Tryz.func312 ?_;unfold aY at a;by_cases h:0<=n
 ·simp[go_sem,h]at a|-;exact a
 ·simp[go_sem,h]at a|-;exact a
def TJ{g:Gt}(c:aY g.q (-MP) MP=true)(e:aY g.buys 0 1000000000=true)(h:aY g.sells 0 1000000000=true)(f:aY g.qty 1 1000000=true)(m:1<=g.k.spec.limit/\g.k.spec.limit<=10000000)
  (b:∀d,M0 w d->K (.bool g.far) d):Ca pQ 314 #[.agg (yT g).toArray] w K:=by
 refine cN Tryz.func314 ?_;have c:=bz c;have e:=bz e;have h:=bz h;have f:=bz f;unfold MP at c;obtain⟨l,j,a,k⟩:=WJ g w;have b:=b _ k;unfold Gt.far at b;apply dy j;refine dD a ?_;refine nm a ao4 ?_;cases i:g.buy with
 |true=>
  rw[i,ab rfl]at b;rw[nO];refine dD a ?_;refine nm a Yt ?_;refine dD a ?_;refine nm a ZU ?_;refine dD (ie (n:=g.q+g.buys) qZ qZ) ?_;refine dD a ?_;refine nm a YE ?_;refine dD (ie (n:=g.q+g.buys+g.qty) qZ qZ) ?_;refine dD a ?_;refine dD a ?_;refine dD a ?_;refine nm a gt5 ?_;refine dF ?_;exact b
 |false=>
  rw[i,aa fG]at b;rw[lW];refine dD a ?_;refine nm a Yt ?_;refine dD a ?_;refine nm a ae8 ?_;refine dD (ie (n:=g.q - g.sells) qZ qZ) ?_;refine dD a ?_;refine nm a YE ?_;refine dD (ie (n:=g.q - g.sells - g.qty) qZ qZ) ?_;refine dD a ?_;refine dD a ?_;refine dD a ?_;refine nm a gt5 ?_;refine dD (ie (n:= -g.k.spec.limit) qZ qZ) ?_;refine dF ?_;exact b
end Go.Proofs
namespace Go.Proofs
open Go Go.Vc
attribute [local congr] bj
def Rh{α:Type}{P:Program}{t e:TypeId}{k by_:Nat}{w:Wt_}{K:be}{s xv:Vt_}{l:List α}{x:α}{f:α->List Value}(d:P.underlying t=some (.slice e))(j:vG P e k by_)(y:∀x,(f x).length=k)(i:(f x).all (·.oneCell')=true)
  (B:xv.cells.toList=f x)(hs:il w e k s l.length (l.flatMap f))(r:(l.length+1)*by_<=140737488355328)(C:k<=1000)
  (u:∀a c,il c e k a (l++[x]).length ((l++[x]).flatMap f)->bn (aQ s) w c->(∀b,aQ a b->aQ s b\/w.heap.size<=b)->K a c):
  rx P (qL t 1 [(0,xv)]) w λv n=>rx P (ff #[t,t] t [s,v]) n K:=by
 have D:xv.cells.size=k:=by grind
 refine oE [xv] d j rfl rfl (by grind) qZ ?_;have p:(([xv]:LV_).flatMap (·.cells.toList)).toArray=(f x).toArray:=by simp[B]
 rw[p];have m:M0 w (w.alloc (.cells (f x).toArray e)):=nl
 have q:Rd (w.alloc (.cells (f x).toArray e)) k (.slice (some ⟨w.heap.size,0,none⟩) 1 1) 1 (f x):=
  ⟨by rw[y];omega,.inr ⟨_,0,1,rfl,aB _,At.all (cO (by rw[dZ,ab rfl]))⟩⟩
 refine lA d d j (hs.mod m eI) q i r λa c z A o=>?_;refine u a c ?_ ((m.to (G:=aQ s)).trans A) λb g=>?_
 ·rw[bD,ad];simpa using z
 ·rcases o b g with h|h
  ·exact .inl h
  ·rw[ci]at h;exact gT
end Go.Proofs
namespace Go.Vc
open Go Go.Proofs
section
variable{P:Program}{A A' C:As}{L M:List As}{k:Value->WP}{k0:WP}{w w' :Wt_}
def Gs.old{α:Type}{φ:(Value->WP)->WP}{val:α->Value}{p:α->Prop}{B:α->As}(c:∀w F,Ss w L->A.P w F->∀K:be,(∀x w' d,p x->(B x).P w' d->bn F w w' ->(∀y,d y->F y\/w.heap.size<=y)->K (val x) w')->φ K w)
  (j:∀x,p x->Gs (B x::M) (k (val x)))(f:bL L (A::M)):Gs L (φ k):=⟨λw y=>by
 obtain⟨F,z⟩:=y;obtain⟨o,i,l,g,h⟩:=Ss.cons.1 (⟨F,(f.out w F).1 z⟩:Ss w (A::M));refine c w o ⟨F,z⟩ l k λx w' d hp r m q=>(j x hp).go w' (Ss.cons.2 ⟨d,i,r,g.md m λb a c=>h b c a,λb a c=>?_⟩);rcases q b a with a|a
 ·exact h b a c
 ·have:=g.lt c;omega⟩
def Gs.ro{α:Type}{φ:(Value->WP)->WP}{val:α->Value}{p:α->Prop}(c:∀w,Ss w L->∀K:be,(∀x w',p x->M0 w w' ->K (val x) w')->φ K w)(a:∀x,p x->Gs L (k (val x))):Gs L (φ k):=
 ⟨λw y=>c w y k λx w' hp m=>(a x hp).go w' (y.md0 m)⟩
def Gs.nw{α:Type}{φ:(Value->WP)->WP}{val:α->Value}{p:α->Prop}{B:α->As}(f:∀w,Ss w L->∀K:be,(∀x w' a,p x->(B x).P w' a->M0 w w' ->(∀y,a y->w.heap.size<=y)->K (val x) w')->φ K w)(c:∀x,p x->Gs (B x::L) (k (val x))):Gs L (φ k):=
 ⟨λw y=>f w y k λx w' a hp d m g=>(c x hp).go w' (y.new m d g)⟩
def As.mul(A B:As):As:=⟨λw F=>∃F1 F2,A.P w F1/\B.P w F2/\(∀b,F1 b->¬F2 b)/\∀b,F b↔F1 b\/F2 b,
 λ⟨F1,F2,h1,h2,_,h4⟩ hb=>((h4 _).1 hb).elim (A.lt h1) (B.lt h2),λ⟨F1,F2,h1,h2,h3,h4⟩ m hg=>⟨F1,F2,A.md h1 m λb hb=>hg b ((h4 b).2 (.inl hb)),B.md h2 m λb hb=>hg b ((h4 b).2 (.inr hb)),h3,h4⟩⟩
def My:bL (A.mul C::L) (A::C::L):=⟨λw F=>⟨λ⟨q,j,⟨F3,g,p,o,i,d⟩,l,h,f⟩=>⟨F3,λb=>g b\/j b,p,⟨g,j,o,l,λb a c=>h b ((d b).2 (.inr a)) c,λ_=>aI⟩,λb a c=>by
 rcases c with c|c
 ·exact i b a c
 ·exact h b ((d b).2 (.inl a)) c,λb=>by rw[f,d,or_assoc]⟩,
 λ⟨F3,F5,p,⟨g,j,o,l,h,f⟩,i,d⟩=>⟨λb=>F3 b\/g b,j,⟨F3,g,p,o,λb a c=>i b a ((f b).2 (.inl c)),λ_=>aI⟩,l,λb a c=>by
 rcases a with a|a
 ·exact i b a ((f b).2 (.inr c))
 ·exact h b a c,λb=>by rw[d,f,or_assoc]⟩⟩⟩
def Gs.fact{p:Prop}{φ:WP}(a:∀w F,A.P w F->p)(h:p->Gs (A::L) φ):Gs (A::L) φ:=⟨λw y=>by
 obtain⟨c,i,d,f,g⟩:=Ss.cons.1 y;exact(h (a w c d)).go w y⟩
def Gs.turn{φ:WP}(c:∀w F,A.P w F->A'.P w F)(h:Gs (A' ::L) φ):Gs (A::L) φ:=⟨λw y=>by
 obtain⟨a,i,f,d,g⟩:=Ss.cons.1 y;exact h.go w (Ss.cons.2 ⟨a,i,c w a f,d,g⟩)⟩
def uu(w0:Wt_)(X:NP_):As:=⟨λw F=>(∀b,F b↔b<w0.heap.size/\¬X b)/\bn X w0 w,λh hb=>by have:=h.2.size;have:=(h.1 _).1 hb;omega,λh m hg=>⟨h.1,bK h.2.size m.size,m.out.trans h.2.out,m.os.trans h.2.os,λb hb hx=>(m.blk b (br hb h.2.size) (hg b ((h.1 b).2 ⟨hb,hx⟩))).trans (h.2.blk b hb hx)⟩⟩
def Gs.from{F:NP_}{φ:WP}(h:A.P w F)(g:Gs (A::uu w F::[]) φ):φ w:=
 g.go w (Ss.cons.2 ⟨F,_,h,⟨λb=>b<w.heap.size/\¬F b,λ_=>False,⟨λ_=>aI,bn.refl _ _⟩,λ_ h=>h,eI,λb=>⟨.inl,λh=>h.elim id False.elim⟩⟩,λb c a=>a.2 c⟩)
def Ss.frz{F:NP_}(h:Ss w' (A::uu w F::L)):∃a,A.P w' a/\bn F w w' /\∀y,a y->F y\/w.heap.size<=y:=by
 obtain⟨o,q,g,⟨F3,r,⟨p,f⟩,z,E,i⟩,d⟩:=Ss.cons.1 h;refine⟨o,g,f,λy l=>aS λc=>?_⟩;have:F3 y:=(p y).2 ⟨aS λB=>c (.inr qZ),λj=>c (.inl j)⟩;exact d y l ((i y).2 (.inl this))
def Gs.jon{S:Type}{a:(S->WP)->WP}{b:S->WP}(h:Gs L (a b)):Gs L (Jw a b):=⟨λw x=>dU.on (A:=λJ=>a J w) (B:=b) (h.go w x)⟩
def Gs.j{S α:Type}{a:(S->WP)->WP}{b:S->WP}(st:α->S)(c:α->List As)(p:α->Prop)(f:∀J:S->WP,(∀x,p x->Gs (c x) (J (st x)))->Gs L (a J))(g:∀x,p x->Gs (c x) (b (st x))):Gs L (Jw a b):=⟨λw y=>
 dU.at (A:=λJ=>a J w) (B:=b) (λs w=>∃x,p x/\s=st x/\Ss w (c x)) ((f (λs w=>∃x,p x/\s=st x/\Ss w (c x)) λx d=>⟨λw z=>⟨x,d,rfl,z⟩⟩).go w y) λs w ⟨x,d,e,z⟩=>by rw[e];exact(g x d).go w z⟩
def Gs.j1{S:Type}{a:(S->WP)->WP}{b:S->WP}(st:S)(c:∀J:S->WP,Gs L (J st)->Gs L (a J))(f:Gs L (b st)):Gs L (Jw a b):=
 Gs.j (λ_:Unit=>st) (λ_=>L) (λ_=>True) (λJ d=>c J (d () trivial)) λ_ _=>f
def Gs.z(h:Gs L k0):Gs L (Zw k0):=⟨λw x _=>h.go w x⟩
def IA{p:NP_}(h:∃n,p n):∃n,p n/\∀m,p m->n<=m:=by
 obtain⟨n,d⟩:=h;induction n using Nat.strongRecOn with
 |_ n c=>
  by_cases a:∃m,m<n/\p m
  ·grind
  ·grind
def Gs.l{S α:Type}{body:S->(S->WP)->WP}{s:S}(st:α->S)(m:α->Nat)(d:α->List As)(p:α->Prop)(c:α)(e:s=st c)(r:p c)
  (h:∀x,p x->∀K:S->WP,(∀y,p y->m y<m x->Gs (d y) (K (st y)))->Gs (d x) (body (st x) K))(i:bL L (d c)):Gs L (Lw body s):=⟨λw z=>by
 classical
 let I:S->World->Nat->Prop:=λs w n=>∃x,p x/\s=st x/\m x=n/\Ss w (d x);let f:S->World->Nat:=λs w=>if h:∃n,I s w n then Classical.choose (IA h)else 0
 refine Z4 (λs w=>∃n,I s w n) f ⟨m c,c,r,e,rfl,z.out.elim λF y=>⟨F,(i.out w F).1 y⟩⟩ λs w o=>?_;obtain⟨x,G,e,H,E⟩:=(Classical.choose_spec (IA o)).1;rw[e];refine(h x G (λj w' =>(∃n,I j w' n)/\f j w' <f (st x) w) λy q g=>⟨λw' l=>?_⟩).go w E;have a:∃n,I (st y) w' n:=⟨m y,y,q,rfl,rfl,l⟩
 have B:f (st x) w=m x:=by
  have:∃n,I (st x) w n:=e▸o;show(if h:∃n,I (st x) w n then Classical.choose (IA h)else 0)=_;rw[kU this,H];congr 1;rw[e]
 refine⟨a,?_⟩;rw[B];show(if h:∃n,I (st y) w' n then Classical.choose (IA h)else 0)<_;rw[kU a];exact eD ((Classical.choose_spec (IA a)).2 _ ⟨y,q,rfl,rfl,l⟩) g⟩
def ow(s:Vt_)(T:TypeId)(sz n:Nat)(cs:LV_):As:=⟨λw F=>il w T sz s n cs/\∀b,F b↔aQ s b,λh hb=>h.1.lt ((h.2 _).1 hb),λh m hg=>⟨h.1.mod m λb hb=>hg b ((h.2 b).2 hb),h.2⟩⟩
def rd(s:Vt_)(sz n:Nat)(cs:LV_):As:=⟨λw F=>Rd w sz s n cs/\∀b,F b↔vP s b,λh hb=>h.1.lt ((h.2 _).1 hb),λh m hg=>⟨h.1.mod m λb hb=>hg b ((h.2 b).2 hb),h.2⟩⟩
def fg(h:bL L (A::M))(x:Ss w L):∃F,A.P w F:=by
 obtain⟨F,z⟩:=x;obtain⟨a,d,c,-⟩:=(h.out w F).1 z;exact⟨a,c⟩
section
variable{s x:Vt_}{e T t u ty e' :TypeId}{sz by_ n m:Nat}{cs news:LV_}
def Rf(h:bL L (ow s T sz n cs::M)):∀w,Ss w L->il w T sz s n cs:=λw x=>(fg h x).elim λ_ h=>h.1
def mZ(h:bL L (ow s T sz n cs::M)):∀w,Ss w L->Rd w sz s n cs:=λw x=>(Rf h w x).rd
def Gs.nil{φ:WP}(T:TypeId)(sz:Nat)(h:Gs (ow (.slice none 0 0) T sz 0 []::L) φ):Gs L φ:=⟨λw y=>h.go w (y.new (bn.refl _ w) (F' :=λ_=>False) ⟨il.nil w T sz,λb=>⟨False.elim,λh=>by cases h⟩⟩ λ_ h=>h.elim)⟩
def Gs.nilF{φ:WP}{α:Type}(T:TypeId)(sz:Nat)(f:α->List Value)(h:Gs (ow (.slice none ([]:List α).length 0) T sz ([]:List α).length (([]:List α).flatMap f)::L) φ):Gs L φ:=Gs.nil T sz h
def Gs.isSl{φ:WP}(h:∀a c,s=.slice a n c->Gs L φ)(d:bL L (ow s T sz n cs::M)):Gs L φ:=⟨λw y=>by
 obtain⟨a,c,e,-⟩:=(Rf d w y).isSl;exact(h a c e).go w y⟩
def Gs.isRd{φ:WP}(d:∀w,Ss w L->Rd w sz s n cs)(h:∀a c,s=.slice a n c->Gs L φ):Gs L φ:=⟨λw y=>by
 obtain⟨a,c,e⟩:=(d w y).isSl;exact(h a c e).go w y⟩
def Gs.app(g:P.underlying t=some (.slice e))(G:P.underlying u=some (.slice e'))(z:fj P e sz by_=true)(H:∀w,Ss w L->Rd w sz x m news)(q:news.all (·.oneCell')=true)(i:(n+m)*by_<=140737488355328)
  (j:∀a c,Gs (ow (.slice a (n+m) c) e sz (n+m) (cs++news)::M) (k (.slice a (n+m) c)))(f:bL L (ow s e sz n cs::M)):Gs L (Xw P (ff #[t,u] ty [s,x]) k):=
 Gs.old (A:=ow s e sz n cs) (φ:=λk=>Xw P (ff #[t,u] ty [s,x]) k) (val:=λy:Option Addr×Nat=>.slice y.1 (n+m) y.2) (p:=λ_=>True) (B:=λy=>ow (.slice y.1 (n+m) y.2) e sz (n+m) (cs++news))
  (λw F r d K l=>lA g G (dG z) d.1 (H w r) q i λI w' o md nw=>by
   obtain⟨a,c,rfl,-⟩:=o.isSl;exact l (a,c) w' (aQ _) trivial ⟨o,λ_=>aI⟩ (md.mono λb _ h=>(d.2 b).2 h) λy E=>(nw y E).imp (d.2 y).2 id) (λy _=>j y.1 y.2) f
def Gs.push{α:Type}{l:List α}{xv:Vt_}{x:α}{f:α->List Value}(j:P.underlying t=some (.slice e))(G:fj P e sz by_=true)(H:∀x,(f x).length=sz)(i:(f x).all (·.oneCell')=true)(J:xv.cells.toList=f x)(q:(l.length+1)*by_<=140737488355328)(E:sz<=1000)
  (r:∀a c,Gs (ow (.slice a (l++[x]).length c) e sz (l++[x]).length ((l++[x]).flatMap f)::M) (k (.slice a (l++[x]).length c)))(g:bL L (ow s e sz l.length (l.flatMap f)::M)):Gs L (Xw P (qL t 1 [(0,xv)]) λv=>Xw P (ff #[t,t] t [s,v]) k):=
 Gs.old (A:=ow s e sz l.length (l.flatMap f)) (φ:=λk=>Xw P (qL t 1 [(0,xv)]) λv=>Xw P (ff #[t,t] t [s,v]) k) (val:=λy:Option Addr×Nat=>.slice y.1 (l++[x]).length y.2) (p:=λ_=>True) (B:=λy=>ow (.slice y.1 (l++[x]).length y.2) e sz (l++[x]).length ((l++[x]).flatMap f))
  (λw F O d K z=>Rh j (dG G) H i J d.1 q E λN w' o md nw=>by
   obtain⟨a,c,rfl,-⟩:=o.isSl;exact z (a,c) w' (aQ _) trivial ⟨o,λ_=>aI⟩ (md.mono λb _ h=>(d.2 b).2 h) λy I=>(nw y I).imp (d.2 y).2 id) (λy _=>r y.1 y.2) g
end
section
variable{κ ν:Type} [DecidableEq κ]{enc:κ->Value}{ev:ν->Value}{t kt e:TypeId}{b:Nat}{D:List (κ×ν)}{x:κ}{v:ν}
def mp(enc:κ->Value)(ev:ν->Value)(b:Nat)(D:List (κ×ν)):As:=⟨λw F=>fI enc ev w b D/\∀x,F x↔x=b,λh hb=>by rw[(h.2 _).1 hb];exact h.1.lt,λh m hg=>⟨h.1.mod m (hg b ((h.2 b).2 rfl)),h.2⟩⟩
def SG(h:bL L (mp enc ev b D::M)):∀w,Ss w L->Ad enc ev w (.map (some b)) D:=λw x=>(fg h x).elim λ_ h=>.inr ⟨b,rfl,h.1⟩
def Gs.look(z:Vt_)(f:P.underlying t=some (.map kt e))(a:qb P kt enc)(g:jS P e=some z)(d:Gs L (k ((lk D x).elim z ev)))(c:bL L (mp enc ev b D::M)):Gs L (Xw P (jF t (.map (some b)) (enc x) false) k):=
 ⟨λw y=>wW z f a g (SG c w y) (d.go w y)⟩
def Gs.lookD(z:Vt_)(f:P.underlying t=some (.map kt e))(a:qb P kt enc)(g:jS P e=some z)(d:Gs L (k ((lk D x).elim z ev)))(c:bL L (mp enc ev b D::M)):Gs L (VI P (jF t (.map (some b)) (enc x) false) k):=
 ⟨λw y=>Pn z f a g (SG c w y) (d.go w y)⟩
def Gs.mup(h:P.underlying t=some (.map kt e))(c:qb P kt enc)(j:Gs (mp enc ev b (put D x v)::M) k0)(d:bL L (mp enc ev b D::M)):Gs L (Yw P (rP t (.map (some b)) (enc x) (ev v)) k0):=⟨λw y=>by
 obtain⟨F,z⟩:=y;obtain⟨p,i,a,g,f⟩:=Ss.cons.1 (⟨F,(d.out w F).1 z⟩:Ss w (mp enc ev b D::M));refine kM h c a.1 λw' o m _=>j.go w' (Ss.cons.2 ⟨p,i,⟨o,a.2⟩,g.md m λy l q=>f y ((a.2 y).2 q) l,f⟩)⟩
end
section
variable{b n:Nat}{cs xs:LV_}{t T:TypeId}{x:Vt_}{parts:Array (Nat×Value)}{cells:Array Value}
def Gs.bvar{k:Value->WP}(o:mR P t=true)(l:P.cellsOf t=n+1)(hl:xs.length=n+1)(a:(iK P t).length=n+1)(h:xs.all (·.oneCell')=true)(d:∀b,Gs (pt b xs t::L) (k (cU b 0))):
  Gs L (Xw P (vR t) λv=>Yw P (ur t v (.agg xs.toArray)) (k v)):=⟨λw y=>by
 refine uZ o ⟨?_⟩;have c:hp (w.alloc (.cells (iK P t).toArray t)) w.heap.size=some (.cells (iK P t).toArray t (0,0)):=by rw[uS,ab rfl]
 obtain⟨w',f,j,g⟩:=Cl (P:=P) (t:=t) (i:=0) (cs' :=xs) hl l (by rw[hl,a];omega) h (kv (by rw[hl,a])) c;refine lO f ((d _).go w' (y.new (F' :=λy=>y=w.heap.size) (((bn.refl (λ_=>False) w).alloc _).on g λb c=>.inr qZ) ⟨j,λ_=>aI⟩ λb c=>qZ))⟩
def eG(a:bL L (pt b cs T::M))(c:lI P t=true)(d:P.cellsOf t=n+1)(hl:cs.length=n+1):∀w,Ss w L->(pp t (cU b 0)).run P w=.ok (.agg cs.toArray) w:=λw y=>
 ft c d hl (At.all (nW a y))
def Gs.bB{k:Value->WP}(h:P.built t parts.toList=some cells)(a:Gs L (k (.agg cells))):Gs L (Xw P (CV t parts) k):=⟨λw y=>Lt h (a.go w y)⟩
def Gs.bBP{k:Value->WP}(h:P.built t parts.toList=some cells)(a:Gs L (k (.agg cells))):Gs L (PXw P (CV t parts) k):=⟨λw y=>DM h (a.go w y)⟩
end
end
end Go.Vc
namespace Go.Proofs
open Go Go.Vc
attribute [local congr] bj
variable {s:Vt_}{w:Wt_}{K:be}
structure Od where
 num:Int
 acct:Int
 buy:Bool
 price:Int
 left:Int
 deriving DecidableEq
variable {l:List Od}
def dp(o:Od):List Value:=[.int .u64 o.num,gU o.acct,.bool o.buy,gI o.price,gI o.left]
def dH(o:Od):(dp o).length=5:=rfl
def lR(o:Od):(dp o).all (·.oneCell')=true:=rfl
def Od.Fit(o:Od):Prop:=sB o.num/\gM o.acct/\dM o.price/\dM o.left
abbrev kQ:TypeId:=130
abbrev tZ:TypeId:=146
def gR:Tryz.prog.underlying tZ=some (.slice kQ):=cH
def Av:Tryz.prog.cellsOf kQ=4+1:=cH
def Ny:fj pQ kQ 5 32=true:=cH
abbrev sZ(w:Wt_)(s:Vt_)(l:List Od):Prop:=il w kQ 5 s l.length (l.flatMap dp)
def tn(h:Rd w 5 s l.length (l.flatMap dp))(q:l.length<=1000000)
  (i:∀d e,sZ e d l->M0 w e->(∀b,aQ d b->w.heap.size<=b)->K d e):Ca pQ 94 #[s] w K:=by
 refine cN Tryz.func94 ?_;obtain⟨a,c,f⟩:=h.isSl;by_cases g:a=none
 ·subst g;apply az (.bool true) w (by rw[f];simp[go_sem]);rw[nO]
  have o:l=[]:=by
   obtain⟨-,⟨p,_⟩|⟨b,n,m,j,_⟩⟩:=h
   ·grind
   ·rw[f]at j;cases j
  subst o;exact i _ _ (il.nil _ _ _) rC λb k=>by cases k
 ·apply az (.bool false) w (by rw[f];cases a;exact absurd rfl g;simp[go_sem]);rw[lW];exact ac3 gR (dG Ny) h (O8 lR l) qZ i
def un{i j:Nat}(h:sZ w s l)(G:i<j)(E:j<=l.length)(T:l.length<=1000000)
  (I:∀p r,sZ r p (l.take i++l.drop j)->bn (aQ s) w r->(∀b,aQ p b->aQ s b)->K p r):Ca pQ 215 #[s,gI (i:Int),gI (j:Int)] w K:=by
 obtain⟨b,c,rest,rfl,C,F,N,O⟩:=h.pos qZ;have D:=h.1;refine cN Tryz.func215 ?_;refine II ?_;obtain⟨S,u⟩:=X3 (P:=pQ) (t:=tZ) (a:=some ⟨b,0,none⟩) (n:=l.length) (cap:=c) (lo:=i) (hi:=j) (mx:=l.length) (kl:=.i64) (kh:=.i64) (km:=.i64) gR Av qZ E C w;apply dy u;have q:¬(i:Int)=(j:Int):=qZ;refine fH q ?_;refine II ?_;apply gP (λW=>IT gR Av (show i<=c by omega) qZ W);have A:Rd w 5 (.slice (some ⟨b,0,none⟩) l.length c) l.length (l.flatMap dp):=h.rd;obtain⟨R,v,e,-⟩:=Rd.from_ (P:=pQ) (kl:=.i64) (lo:=j) gR Av A E;apply gP (λW=>v W);simp only[Nat.reduceAdd]at e;rw[Wx dH]at e;have H:((l.drop j).flatMap dp).length=(l.length - j)*5:=by rw[tU dH,bi]
 have o:w.drew.heap[b]? =some (.cells (l.flatMap dp++rest).toArray kQ (0,0)):=F;have L:(l.flatMap dp++rest).length=c*5:=by grind
 apply Fy (m:=l.length - j) gR gR Av o qZ (e.keep λ_ _=>rfl) (O8 lR _) (by grind);have B:bn (aQ (.slice (some ⟨b,0,none⟩) l.length c)) w (w.drew.setRow b (ji (l.flatMap dp++rest) (0+i*5) ((l.drop j).flatMap dp)).toArray):=wl.setRow (.inl (show aQ (.slice (some ⟨b,0,none⟩) l.length c) b from rfl)) _
 have k:ji (l.flatMap dp++rest) (0+i*5) ((l.drop j).flatMap dp)=(l.take i++l.drop j).flatMap dp++(l.flatMap dp++rest).drop ((i+(l.length - j))*5):=by
  unfold ji;rw[H,cI,aP (by rw[D];omega),Tu dH,bD,ag,ag,<-dY]
 have g:(w.drew.setRow b (ji (l.flatMap dp++rest) (0+i*5) ((l.drop j).flatMap dp)).toArray).heap[b]? =some (.cells ((l.take i++l.drop j).flatMap dp++(l.flatMap dp++rest).drop ((i+(l.length - j))*5)).toArray kQ (0,0)):=by
  rw[eU,ab rfl,o,k]
 rw[show(l.flatMap dp++rest).toArray.toList=l.flatMap dp++rest from rfl];generalize w.drew.setRow b (ji (l.flatMap dp++rest) (0+i*5) ((l.drop j).flatMap dp)).toArray=W at B g|-;refine II ?_;apply dy (Y6 gR Av (show i+(l.length - j)<=l.length by omega) C qZ W)
 have x:((l.take i++l.drop j).flatMap dp).length=(i+(l.length - j))*5:=by
  rw[tU dH,ad,av,bi,cV qZ]
 refine Dn gR (dG Ny) g (by grind) λz M J=>?_
 have f:ji ((l.take i++l.drop j).flatMap dp++(l.flatMap dp++rest).drop ((i+(l.length - j))*5)) ((i+(l.length - j))*5) z=(l.take i++l.drop j).flatMap dp++(z++rest):=by
  unfold ji;rw[M,aP (by grind),ay (by grind),<-cw,<-x,ck,ag,cw,x];congr 2;rw[show(i+(l.length - j))*5+(l.length - (i+(l.length - j)))*5=(l.flatMap dp).length by rw[D];omega,ck]
 have d:(l.take i++l.drop j).length=i+(l.length - j):=by grind
 refine I _ _ ⟨by rw[x,d],.inr ⟨b,c,z++rest,by rw[d],qZ,?_,?_,?_⟩⟩ (B.setRow (.inl (show aQ (.slice (some ⟨b,0,none⟩) l.length c) b from rfl)) _) λQ y=>y
 ·show(W.setRow b (ji ((l.take i++l.drop j).flatMap dp++(l.flatMap dp++rest).drop ((i+(l.length - j))*5)) ((i+(l.length - j))*5) z).toArray).heap[b]? =_;rw[eU,ab rfl,g,f]
 ·grind
 ·grind
def shp{b:Nat}{C:Array Value}{T:TypeId}{a:Nat×Nat}(h:w.heap[b]? =some (.cells C T a)):w.shape? b=some (T,C.size):=by simp[World.shape?,h]
def KK{b:Nat}{C:Array Value}{T:TypeId}(h:w.heap[b]? =some (.cells C T (0,0)))(i:Nat):w.frozen? ⟨b,i,none⟩=false:=by simp[go_sem,cO h]
def sOd(w:Wt_):(Go.sizeOf kQ).run pQ w=.ok 5 w:=Go.Vc.kY Av w
def XH:Extern.find Tryz.f363=some (Extern.SlicesOverlaps.overlaps #[tZ,tZ] #[4]):=cH
def Gj{v:Vt_}{o:Od}{i:Nat}(h:sZ w s l)(hv:sZ w v [o])(hd:∀b,aQ s b->¬aQ v b)(hi:i<=l.length)(hn:l.length<=1000000)
  (hK:∀s' w',sZ w' s' (l.take i++o::l.drop i)->bn (aQ s) w w' ->(∀b,aQ s' b->aQ s b\/w.heap.size<=b)->K s' w'):Ca pQ 323 #[s,gI (i:Int),v] w K:=by
 obtain⟨M,g,vrest,rfl,hvc,L,hvl,hv1⟩:=hv.pos (by simp);simp only[dq]at hvc hvl
 have n:(l.take i++o::l.drop i).length=l.length+1:=by
  rw[ad,av,aR,bi,cV hi];omega
 have T:([o].flatMap dp)=dp o:=by simp
 refine cN Tryz.func323 ?_;obtain⟨v0,hv0,-,-⟩:=Rd.from_ (P:=pQ) (kl:=.i64) (lo:=i) gR Av (h.rd:Rd w (4+1) s l.length (l.flatMap dp)) hi;apply dy (hv0 w);refine II ?_;refine fh ?_;obtain⟨sa,sc,hs,-⟩:=h.isSl;apply ke (gI l.length) w (by rw[hs];simp[go_sem]);by_cases hil:i=l.length
 ·have r:(i:Int)=(l.length:Int):=qZ;refine ee r ?_;refine lA gR gR (dG Ny) h hv.rd (O8 lR _) (by grind) λs3 A o3 C n3=>?_;refine hK _ _ ?_ C n3;have:l.take i++o::l.drop i=l++[o]:=by grind
  rw[this];unfold sZ;rw[bD,ad];exact o3
 have r:¬(i:Int)=(l.length:Int):=qZ;refine fH r ?_;obtain⟨b,c,rest,hse,hc,N,hrl,O⟩:=h.pos qZ;clear hs;subst hse;have hne:M≠b:=λe=>hd b rfl (by rw[<-e];rfl);have Y:=h.1;apply az (gI ((l.length+1:Nat):Int)) w (by simp[go_sem];rw[mL]);refine qN1 gR ?_;have B:(l.flatMap dp++rest).length=c*5:=by grind
 by_cases hroom:c<l.length+1
 ·have f:(c:Int)<(l.length:Int)+1:=qZ;refine ee f ?_;apply dy (IT gR Av (show i<=c by omega) qZ w);apply az (gI ((l.length+1:Nat):Int)) w (by simp[go_sem];rw[mL]);apply az (gI ((l.length+1 - i:Nat):Int)) w (by simp only[go_sem];simp;rw[mL];omega)
  have hOi:il w kQ (4+1) (.slice (some ⟨b,0,none⟩) i c) i ((l.take i).flatMap dp):=by
   refine⟨by rw[tU dH,av,cV hi],.inr ⟨b,c,(l.flatMap dp++rest).drop (i*5),rfl,qZ,?_,?_,?_⟩⟩
   ·rw[N];congr 2
    have:(l.take i).flatMap dp=(l.flatMap dp++rest).take (i*5):=by
     rw[aP (by rw[Y];omega),Tu dH]
    rw[this,ce]
   ·grind
   ·refine aW.2 λx E=>?_;have E:=gJ E;rcases aN.1 E with y|y
    ·exact aW.1 (O8 lR l) x y
    ·grind
  refine zz gR Tryz.underlying3 (dG Ny) hOi qZ λs2 D z hz hz1 o2 m2 n2 Z=>?_;obtain⟨mF,nF⟩:=Z _ _ rfl qZ;rw[show i+(l.length+1 - i)=l.length+1 by omega]at o2;obtain⟨m,wZ,a,rfl,H,V,X,S⟩:=o2.pos qZ;have U:w.heap.size<=m:=nF m rfl;have hbb:b≠m:=by grind
  apply dy (vY gR Av qZ H qZ D);have hA:((l.take i).flatMap dp).length=i*5:=by rw[tU dH,av,cV hi]
  have hsz2:((l.take i).flatMap dp++z++a).length=wZ*5:=by grind
  have hv2:Rd D 5 (.slice (some ⟨M,0,none⟩) 1 g) 1 (dp o):=by
   have:=hv.rd.mod mF eI;rw[T]at this;exact this
  apply pZ (sz:=4) (k:=1) gR Av V hv2 (by grind) (by grind) (lR o);have C:bn (λb=>b=m) D (D.setRow m (ji ((l.take i).flatMap dp++z++a) (i*5) ((dp o).take 5)).toArray):=(bn.refl (λb=>b=m) D).setRow (.inl rfl) _;have e5:(dp o).take 5=dp o:=rfl
  have I:ji ((l.take i).flatMap dp++z++a) (i*5) (dp o)=(l.take i).flatMap dp++dp o++(z++a).drop 5:=by
   unfold ji;rw[ag ((l.take i).flatMap dp) z a,<-hA,df,dH,<-cw,ck]
  have j:(D.setRow m (ji ((l.take i).flatMap dp++z++a) (i*5) ((dp o).take 5)).toArray).heap[m]? =some (.cells ((l.take i).flatMap dp++dp o++(z++a).drop 5).toArray kQ (0,0)):=by
   rw[eU,ab rfl,V,e5,I]
  show qM _ _ _;rw[show((l.take i).flatMap dp++z++a).toArray.toList=(l.take i).flatMap dp++z++a from rfl,show 1*(4+1)=5 from rfl];generalize D.setRow m (ji ((l.take i).flatMap dp++z++a) (i*5) ((dp o).take 5)).toArray=A at C j|-;apply eQ (gI ((i+1:Nat):Int)) (λW=>by simp[go_sem];rw[mL]);apply gP (λW=>vY gR Av (show i+1<=l.length+1 by omega) H qZ W);apply gP (λW=>vY gR Av (show i<=l.length by omega) hc qZ W);have mD:bn (λb=>b=m) D A.drew:=C.drew;have q:A.drew.heap[m]? =some (.cells ((l.take i).flatMap dp++dp o++(z++a).drop 5).toArray kQ (0,0)):=j
  have t:Rd A.drew (4+1) (.slice (some ⟨b,i*(4+1),none⟩) (l.length - i) (c - i)) (l.length - i) ((l.drop i).flatMap dp):=by
   have G:At w b 0 (l.flatMap dp):=⟨_,_,_,N,by grind,by simp⟩
   have y:=G.sub (i*5) ((l.length - i)*5) (by rw[Y];omega);rw[Wx dH,ay (by rw[tU dH,bi];exact aB _),cI]at y;refine⟨by rw[tU dH,bi],.inr ⟨b,i*(4+1),c - i,rfl,qZ,?_⟩⟩;exact(y.mod mF id).mod mD λe=>hbb e
  have hsz3:((l.take i).flatMap dp++dp o++(z++a).drop 5).length=wZ*5:=by
   rw[ad,ad,hA,dH,bi,ad,hz,X];omega
  apply pZ (sz:=4) (k:=l.length - i) gR Av q t (by grind) (by grind) (O8 lR _);have u:((l.drop i).flatMap dp).length=(l.length - i)*5:=by rw[tU dH,bi]
  have J:ji ((l.take i).flatMap dp++dp o++(z++a).drop 5) ((i+1)*(4+1)) (((l.drop i).flatMap dp).take ((l.length - i)*(4+1)))=(l.take i++o::l.drop i).flatMap dp++a:=by
   have hAo:((l.take i).flatMap dp++dp o).length=(i+1)*(4+1):=by grind
   have e2:((l.drop i).flatMap dp).take ((l.length - i)*(4+1))=(l.drop i).flatMap dp:=ay (by grind);rw[e2];unfold ji;rw[<-hAo,df,u,<-cw,ck,cw];rw[show 5+(l.length - i)*5=z.length by rw[hz];omega,ck];simp[ag]
  refine hK _ _ ⟨by grind,.inr ⟨m,wZ,a,by rw[n],by rw[n];exact H,?_,by grind,S⟩⟩ ?_ λb' p=>?_
  ·rw[eU,ab rfl,q];show some (Obj.cells (ji ((l.take i).flatMap dp++dp o++(z++a).drop 5) ((i+1)*(4+1)) (((l.drop i).flatMap dp).take ((l.length - i)*(4+1)))).toArray kQ (0,0))=_;rw[J]
  ·exact((mF.to).on mD λb' p=>.inr (by grind)).setRow (.inr U) _
  ·grind
 ·have f:¬(c:Int)<(l.length:Int)+1:=qZ;refine fH f ?_;apply az (gI ((l.length+1:Nat):Int)) w (by simp[go_sem];rw[mL]);apply dy (IT gR Av (show l.length+1<=c by omega) qZ w);apply az (gI ((i+1:Nat):Int)) w (by simp[go_sem];rw[mL]);apply dy (vY gR Av (show i+1<=l.length+1 by omega) qZ qZ w)
  have hov:(callFunc 363 #[.slice (some ⟨M,0,none⟩) 1 g,.slice (some ⟨b,(i+1)*(4+1),none⟩) (l.length+1 - (i+1)) (c - (i+1))]).run pQ w=.ok (.value (.bool false)) w:=by
   rw[run_callFunc_extern Tryz.func363 cH cH cH XH];rw[Lib.run_overlaps_apart w tZ 4 kQ gR 5 sOd ⟨M,0,none⟩ ⟨b,(i+1)*(4+1),none⟩ 1 g _ _ hne kQ kQ _ _ (shp L) (shp N) (by grind) (KK L _) (KK L _)];rfl
  refine⟨?_⟩;show rn pQ (callFunc 363 #[.slice (some ⟨M,0,none⟩) 1 g,.slice (some ⟨b,(i+1)*(4+1),none⟩) (l.length+1 - (i+1)) (c - (i+1))]) w _;apply zw hov;refine lV ?_;apply eQ (gI ((i+1:Nat):Int)) (λW=>by simp[go_sem];rw[mL]);apply gP (λW=>vY gR Av (show i+1<=l.length+1 by omega) qZ qZ W);apply gP (λW=>vY gR Av (show i<=l.length+1 by omega) qZ qZ W);have q:w.drew.heap[b]? =some (.cells (l.flatMap dp++rest).toArray kQ (0,0)):=N;have Q:5<=rest.length:=by rw[hrl];omega
  have t:Rd w.drew (4+1) (.slice (some ⟨b,i*(4+1),none⟩) (l.length+1 - i) (c - i)) (l.length+1 - i) ((l.drop i).flatMap dp++rest.take 5):=by
   have G:At w b 0 (l.flatMap dp++rest):=At.all (cO N);have y:=G.sub (i*5) ((l.length+1 - i)*5) (by rw[B];omega);rw[cT (by rw[Y];omega),Wx dH,cI]at y
   have e1:((l.drop i).flatMap dp++rest).take ((l.length+1 - i)*5)=(l.drop i).flatMap dp++rest.take 5:=by
    have hd:((l.drop i).flatMap dp).length=(l.length - i)*5:=by rw[tU dH,bi]
    rw[show(l.length+1 - i)*5=((l.drop i).flatMap dp).length+5 by rw[hd];omega,iH]
   rw[e1]at y;refine⟨by rw[ad,tU dH,bi,av,cV Q];omega,.inr ⟨b,i*(4+1),c - i,rfl,qZ,y.keep rfl⟩⟩
  have u:((l.drop i).flatMap dp).length=(l.length - i)*5:=by rw[tU dH,bi]
  apply pZ (sz:=4) (k:=l.length - i) gR Av q t (by grind) (by rw[dC,B];omega) (by rw[ez,O8 lR];exact aW.2 λx E=>aW.1 O x (bm E));have hA:((l.take i).flatMap dp).length=i*5:=by rw[tU dH,av,cV hi]
  obtain⟨d,R,F⟩:∃d:List Value,l.flatMap dp++rest=(l.take i).flatMap dp++(d++((l.flatMap dp++rest).drop ((i+1)*5)))/\d.length=5:=by
   refine⟨((l.flatMap dp++rest).drop (i*5)).take 5,?_,by grind⟩;have e1:(l.take i).flatMap dp=(l.flatMap dp++rest).take (i*5):=by rw[aP (by rw[Y];omega),Tu dH]
   rw[e1,show(i+1)*5=i*5+5 by omega,<-cw,ce,ce]
  have I:ji (l.flatMap dp++rest) ((i+1)*(4+1)) (((l.drop i).flatMap dp++rest.take 5).take ((l.length - i)*(4+1)))=(l.take i).flatMap dp++d++((l.drop i).flatMap dp++rest.drop 5):=by
   have e2:((l.drop i).flatMap dp++rest.take 5).take ((l.length - i)*(4+1))=(l.drop i).flatMap dp:=by
    rw[show(l.length - i)*(4+1)=((l.drop i).flatMap dp).length by rw[u],df]
   have e3:(l.flatMap dp++rest).take ((i+1)*(4+1))=(l.take i).flatMap dp++d:=by
    rw[R,<-ag,show(i+1)*(4+1)=((l.take i).flatMap dp++d).length by grind,df]
   have e4:(l.flatMap dp++rest).drop ((i+1)*(4+1)+(l.length - i)*5)=rest.drop 5:=by
    rw[show(i+1)*(4+1)+(l.length - i)*5=(l.flatMap dp).length+5 by rw[Y];omega,<-cw,ck]
   unfold ji;rw[e2,u,e3,e4];simp[ag]
  have C:bn (aQ (.slice (some ⟨b,0,none⟩) l.length c)) w (w.drew.setRow b (ji (l.flatMap dp++rest) ((i+1)*(4+1)) (((l.drop i).flatMap dp++rest.take 5).take ((l.length - i)*(4+1)))).toArray):=wl.setRow (.inl (show aQ (.slice (some ⟨b,0,none⟩) l.length c) b from rfl)) _
  have j:(w.drew.setRow b (ji (l.flatMap dp++rest) ((i+1)*(4+1)) (((l.drop i).flatMap dp++rest.take 5).take ((l.length - i)*(4+1)))).toArray).heap[b]? =some (.cells ((l.take i).flatMap dp++d++((l.drop i).flatMap dp++rest.drop 5)).toArray kQ (0,0)):=by
   rw[eU,ab rfl,q,I]
  rw[show(l.flatMap dp++rest).toArray.toList=l.flatMap dp++rest from rfl];generalize w.drew.setRow b (ji (l.flatMap dp++rest) ((i+1)*(4+1)) (((l.drop i).flatMap dp++rest.take 5).take ((l.length - i)*(4+1)))).toArray=A at C j|-;apply dy (vY gR Av (show i<=l.length+1 by omega) qZ qZ A)
  have hv3:Rd A 5 (.slice (some ⟨M,0,none⟩) 1 g) 1 (dp o):=by
   have:=hv.rd.mod C λb' p hs' =>hd b' hs' p.sl;rw[T]at this;exact this
  apply pZ (sz:=4) (k:=1) gR Av j hv3 (by grind) (by grind) (lR o)
  have J:ji ((l.take i).flatMap dp++d++((l.drop i).flatMap dp++rest.drop 5)) (i*(4+1)) ((dp o).take (1*(4+1)))=(l.take i++o::l.drop i).flatMap dp++rest.drop 5:=by
   have e5:(dp o).take (1*(4+1))=dp o:=rfl;rw[e5];unfold ji;rw[dH,show i*(4+1)=((l.take i).flatMap dp).length by rw[hA],ag ((l.take i).flatMap dp) d,df,<-cw,ck,<-F,ck];simp[ag]
  refine hK _ _ ⟨by rw[tU dH,n],.inr ⟨b,c,rest.drop 5,by rw[n],by rw[n];omega,?_,by grind,aW.2 λx E=>aW.1 O x (gJ E)⟩⟩ (C.setRow (.inl (show aQ (.slice (some ⟨b,0,none⟩) l.length c) b from rfl)) _) λb' p=>.inl p;show(A.setRow b (ji ((l.take i).flatMap dp++d++((l.drop i).flatMap dp++rest.drop 5)) (i*(4+1)) ((dp o).take (1*(4+1)))).toArray).heap[b]? =_;rw[eU,ab rfl,j,J]
def Ez(w:Wt_)(fv:Vt_)(p:Od->Bool)(l:List Od):Prop:=
 ∃g cp,fv=.func (.func g) #[] cp/\∀x∈l,∀W,M0 w W->∀K:be,(∀W',M0 W W' ->K (.bool (p x)) W')->Ca pQ g ⟨[.agg (dp x).toArray]++cp.toList⟩ W K
def qE{α:Type}(l:List α)(p:α->Bool):Int:=match l.findIdx? p with|some i=>(i:Int)|none=> -1
def vO{fv:Vt_}{p:Od->Bool}(h:Rd w 5 s l.length (l.flatMap dp))(U:l.length<=1000000)(L:Ez w fv p l)
  (D:∀z,M0 w z->K (gI (qE l p)) z):Ca pQ 213 #[s,fv] w K:=by
 obtain⟨g,V,rfl,y⟩:=L;refine cN Tryz.func213 ?_;obtain⟨a,c,N⟩:=h.isSl;apply ke (gI (l.length:Int)) w (by rw[N];simp[go_sem])
 refine iz (λst W=>∃(i:Nat) (x:Vt_),i<=l.length/\st=(x,gI i,())/\M0 w W/\∀j:Nat,∀f:j<l.length,j<i->p l[j]=false)
  (λst _=>match st.2.1 with| .int _ i=>l.length - i.toNat|_=>0) ⟨0,gI 0,qZ,rfl,rC,λj _ h=>qZ⟩ ?_
 rintro⟨_,_⟩ W ⟨i,x,T,⟨⟩,m,k⟩ R u;refine rT ?_;intro _;by_cases d:i<l.length
 ·have o:(i:Int)<(l.length:Int):=qZ;refine ee o ?_;obtain⟨b,v,J,t,E,M⟩:=(h.mod m eI).item dH d rfl;obtain⟨C,e,S,hC,n⟩:=M.get;have B:=n 0 (gQ l[i].num) rfl;have G:=n 1 (gU l[i].acct) rfl;have A:=n 2 (.bool l[i].buy) rfl;have H:=n 3 (gI l[i].price) rfl;have F:=n 4 (gI l[i].left) rfl;simp only[fd,bM]at B G A H F;apply az (cU b (v+i*5)) W (by rw[t];simp[go_sem,d,bQ]);apply az (.agg (dp l[i]).toArray) W (by simp[go_sem,cO hC,B,G,A,H,F,dp]);simp only[iI];refine y l[i] (ar d) W m _ λQ r=>?_;cases hp:p l[i]with
  |true=>
   rw[nO]
   have:qE l p=(i:Int):=by
    unfold qE
    have:l.findIdx? p=some i:=by
     rw[bg];refine⟨d,hp,λj f=>?_⟩;rw[k j qZ f];simp
    rw[this]
   have q:=D _ (m.trans r);rw[this]at q;exact q
  |false=>
   rw[lW];apply az (gI ((i+1:Nat):Int)) Q (by simp[go_sem];rw[mL]);refine u _ _ ⟨i+1,_,qZ,rfl,m.trans r,λj f I=>?_⟩ (by grind);by_cases P:j=i
   ·subst P;exact hp
   ·grind
 ·obtain rfl:i=l.length:=qZ;refine fh ?_
  have:qE l p= -1:=by
   unfold qE
   have:l.findIdx? p=none:=by
    rw[du];intro x O;obtain⟨j,f,rfl⟩:=bI O;exact k j f f
   rw[this]
  have q:=D _ m;rw[this]at q;exact q
end Go.Proofs
