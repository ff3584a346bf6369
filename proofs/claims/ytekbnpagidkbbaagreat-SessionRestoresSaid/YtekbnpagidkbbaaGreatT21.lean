/- Part of a proof. -/
import Derived.Test.YtekbnpagidkbbaaGreatT20
set_option linter.all false
set_option maxRecDepth 100000
set_option maxHeartbeats 4000000
namespace Go.Proofs
open Go Go.Vc
attribute [local congr] bj
def Mz{S:ba}(h:S.led.Ok)(a:Int):0<=(S.acc a).num/\(S.acc a).num<4294967296:=by
 unfold ba.acc bq.getO;by_cases b:a=0
 ·rw[ab b];exact⟨by show(0:Int)<=0;omega,by show(0:Int)<_;omega⟩
 ·rw[aa b];cases c:S.led.find a with
  |none=>exact⟨by grind,by grind⟩
  |some x=>
   have:=h.acc x (dt c);exact⟨by grind,this.2.1⟩
def Rc(a:Int)(x:List Int×ba)(n m:Int):((rQ a x n).2.bd m).length<=(x.2.bd m).length:=by
 show(eR x.2.bd n _ m).length<=_;by_cases h:m=n
 ·subst h;rw[cQ];exact aX _ _
 ·rw[eT _ _ _ h];exact aB _
def Dm(S:ba)(a k:Int)(m:Int):((S.clear a k).2.bd m).length<=(S.bd m).length:=by
 have:∀(b:List Int) (x:List Int×ba),((b.foldl (rQ a) x).2.bd m).length<=(x.2.bd m).length:=by
  intro b;induction b with
  |nil=>intro x;exact aB _
  |cons n b c=>intro x;exact bK (c _) (Rc a x n m)
 exact this _ _
end Go.Proofs
namespace Go.Proofs
open Go Go.Vc
attribute [local congr] bj
variable {L:bq}
def OU:∀{l m:List Int},l.Nodup->(∀x∈l,x∈m)->l.length<=m.length:=by
 intro l;induction l with
 |nil=>intro m _ _;exact aw _
 |cons a l j=>
  intro m d g;rw[bO]at d;have f:=g a (ai ..)
  have:=j (m:=m.erase a) d.2 λx i=>by
   have b:x≠a:=λe=>d.1 (e▸i);exact(List.mem_erase_of_ne b).2 (g x (ae _ i))
  rw[List.length_erase_of_mem f]at this;have h:0<m.length:=List.length_pos_of_mem f;rw[aR];omega
def qh(h:L.Ok)(c:Int):(L.holders c).length<=64:=by
 have k:((L.holders c).map (·.a)).Nodup:=by
  have f:=(h.sp.nodup).sublist ((ep (p:=λp:Po=>decide (p.c=c))).map Po.key);show((L.held.filter λp=>decide (p.c=c)).map (·.a)).Nodup
  have e:(L.held.filter λp=>decide (p.c=c)).map Po.key=((L.held.filter λp=>decide (p.c=c)).map (·.a)).map λa=>(c,a):=by
   rw[da];refine dN λp hp=>?_;have:=(aM.1 hp).2;rw[ax]at this;show(p.c,p.a)=(c,p.a)
   rw[this]
  rw[e]at f;exact List.Pairwise.of_map (λa=>(c,a)) (λa b d e=>d (by rw[e])) f
 have:=OU (m:=L.all.map (·.num)) k λx j=>by
  obtain⟨p,hp,rfl⟩:=aD.1 j;obtain⟨a,i,g⟩:=(h.pos p (aM.1 hp).1).2.2.2.2.2.2.2;exact aD.2 ⟨a,i,g⟩
 rw[af,af]at this;exact bK this h.len
def TR(p:Po->Bool):∀l:List Po,(l.filter p).length+(l.filter λx=> !p x).length=l.length:=by
 intro l;induction l with
 |nil=>rfl
 |cons a l b=>cases hp:p a<;>simp[hp]<;>omega
def VY{L:bq}:∀(a:List Int) (H:List Po),(∀p∈H,p.c∈a)->H.length<=(a.map λn=>(H.filter λp=>decide (p.c=n)).length).sum:=by
 intro a;induction a with
 |nil=>intro H h;cases H with|nil=>simp|cons p H=>exact absurd (h p (ai ..)) (by simp)
 |cons n a b=>
  intro H h
  have d:=b (H.filter λp=> !decide (p.c=n)) λp hp=>by
   obtain⟨f,j⟩:=aM.1 hp;rcases aq.1 (h p f)with e|e
   ·grind
   ·exact e
  have g:(H.filter λp=>decide (p.c=n)).length+(H.filter λp=> !decide (p.c=n)).length=H.length:=by
   exact TR _ H
  have i:(a.map λm=>((H.filter λp=> !decide (p.c=n)).filter λp=>decide (p.c=m)).length).sum<=(a.map λm=>(H.filter λp=>decide (p.c=m)).length).sum:=by
   clear b h d;induction a with
   |nil=>simp
   |cons m a b=>
    simp only[aH,bp]
    have:((H.filter λp=> !decide (p.c=n)).filter λp=>decide (p.c=m)).length<=(H.filter λp=>decide (p.c=m)).length:=
     (ep.filter _).length_le
    omega
  simp only[aH,bp];omega
def sL{C:oq}(hC:C.Ok)(h:I9 C L):L.held.length<=1024:=by
 have j:=VY (L:=L) (C.l.map (·.spec.num)) L.held λp hp=>by
  obtain⟨k,g,-,e,f⟩:=pl (h.held p hp);exact aD.2 ⟨k,f,e⟩
 have b:∀a:List Int,(a.map λn=>(L.held.filter λp=>decide (p.c=n)).length).sum<=64*a.length:=by
  intro a;induction a with
  |nil=>simp
  |cons n a m=>
   have:=qh h.led n;unfold bq.holders at this;simp only[aH,bp,aR];omega
 have d:=b (C.l.map (·.spec.num));have i:=hC.len;rw[af]at d;omega
def XA(B:Int)(won:Int->Int):Prop:=∀n,-B<=won n/\won n<=B
def yX{V:Int}(k:0<=V):∀(l:List (Int×Int)) {won:Int->Int} {B:Int},XA B won->(∀x∈l,-V<=x.2/\x.2<=V)->XA (B+V*l.length) (im won l):=by
 intro l;induction l with
 |nil=>intro won B h _ n;have:=h n;simpa [im]using this
 |cons x l i=>
  intro won B h a;have j:=a x (ai ..)
  have f:XA (B+V) (eR won x.1 (won x.1+x.2)):=λn=>by
   by_cases b:n=x.1
   ·subst b;rw[cQ];have:=h x.1;omega
   ·rw[eT _ _ _ b];have:=h n;omega
  have d:=i f λy g=>a y (ae _ g);intro n;have:=d n
  have e:B+V*((x::l).length:Int)=B+V+V*l.length:=by
   rw[aR];push_cast;rw[Int.mul_add];omega
  rw[e];exact this
def yA(h:L.Ok)(c price:Int)(cl:Bool):(L.mark c price cl).2.1.length<=64/\∀x∈(L.mark c price cl).2.1,(-1100000000000000<=x.2/\x.2<=1100000000000000)/\gM x.1:=by
 unfold bq.mark;split
 ·grind
 ·rename_i g
  have hp:aY price 1 MP=true:=by
   cases d:aY price 1 MP with
   |true=>rfl
   |false=>exact absurd (.inr d) g
  have i:=eL.1 hp;have e:MP=10000000:=rfl;have k:MF=1000000000000000:=rfl;refine⟨by show((L.holders c).map _).length<=64;rw[af];exact qh h c,λx j=>?_⟩;obtain⟨p,b,rfl⟩:=aD.1 j;obtain⟨q,z,r,t,s,o,n,a,d,y⟩:=h.pos p (aM.1 b).1;have:=h.acc a d
  have m:p.q*price<=10000000*10000000:=by
   have f:p.q*price<=10000000*price:=gN qZ qZ;omega
  have u: -(10000000*10000000)<=p.q*price:=by
   have f:(-10000000)*price<=p.q*price:=gN qZ qZ;omega
  refine⟨⟨?_,?_⟩,⟨?_,?_⟩⟩
  ·grind
  ·grind
  ·show 0<=p.a;omega
  ·show p.a<_;omega
section
variable{w:Wt_}{K:be}{v c l mb md:Nat}{A:List (Int×Nat)}{D:List (Int×Value)}{fp:Pt->Nat->Prop}{S:ba}
end
def E8{w:Wt_}{K:be}{s:Vt_}{L:List Int}{a:Int}(h:Rd w 1 s L.length (L.flatMap Ic))(O:L.length<=100000)(m:∀y,M0 w y->K (.bool (L.contains a)) y):
  Ca pQ 208 #[s,gU a] w K:=by
 refine cN Tryz.func208 ?_;refine cN Tryz.func266 ?_;obtain⟨sa,sc,H⟩:=h.isSl;apply ke (gI (L.length:Int)) w (by rw[H];simp[go_sem])
 refine iz (λst W=>∃(i:Nat) (x:Vt_),i<=L.length/\st=(x,gI i,())/\M0 w W/\∀j:Nat,∀n:j<L.length,j<i->L[j]≠a)
  (λst _=>match st.2.1 with| .int _ i=>L.length - i.toNat|_=>0) ⟨0,gI 0,qZ,rfl,rC,λj _ h=>qZ⟩ ?_
 rintro⟨_,_⟩ W ⟨i,x,N,⟨⟩,k,o⟩ J q;refine rT ?_;intro _;by_cases f:i<L.length
 ·have g:(i:Int)<(L.length:Int):=qZ;refine ee g ?_;obtain⟨b,t,F,p,z,G⟩:=(h.mod k eI).item (show∀x,(Ic x).length=1 from λ_=>rfl) f rfl;obtain⟨C,e,M,hC,B⟩:=G.get;have r:=B 0 (gU L[i]) rfl;simp only[bM]at r;apply az (cU b (t+i*1)) W (by rw[p];simp[go_sem,f,bQ]);apply az (gU L[i]) W (by simp only[mq]at r|-;simp[go_sem,cO hC,r]);by_cases d:L[i]=a
  ·refine ee d ?_;refine dF ?_;have:L.contains a=true:=by grind
   rw[this]at m;exact m W k
  ·apply az (.bool false) W (by simp[go_sem];exact λe=>d e.symm);rw[lW];apply az (gI ((i+1:Nat):Int)) W (by simp[go_sem];rw[mL]);refine q _ _ ⟨i+1,_,qZ,rfl,k,λj n E=>?_⟩ (by grind);by_cases u:j=i
   ·subst u;exact d
   ·grind
 ·obtain rfl:i=L.length:=qZ;refine fh ?_;refine dF ?_
  have:L.contains a=false:=by
   rw[fM,Ne,List.contains_iff_mem];intro I;obtain⟨j,n,u⟩:=bI I;exact o j n n u
  rw[this]at m;exact m W k
end Go.Proofs
namespace Go.Proofs
open Go Go.Vc
def t0(mw:Nat)(won:Int->Int):As:=⟨λw F=>C7 w mw won/\∀x,F x↔x=mw,λh hb=>by
  obtain⟨⟨L,h1,-⟩,h2⟩:=h;rw[(h2 _).1 hb];exact h1.lt,λh m hg=>⟨h.1.mod m (hg mw ((h.2 mw).2 rfl)),h.2⟩⟩
abbrev vaA(s:Vt_)(l:List (Int×Int)):As:=ow s 366 2 l.length (l.flatMap oH)
def am0:Tryz.prog.cellsOf 366=1+1:=cH
def ZE(x:Int×Int)(w:Wt_)(b off:Nat)(h:At w b off (oH x)):(iL 366 (cU b off)).run pQ w=.ok (.agg (oH x).toArray) w:=by
 obtain⟨C,e,i,hC,g⟩:=h.get;have f:=g 0 (gU x.1) rfl;have d:=g 1 (gI x.2) rfl;simp only[bM]at f d;simp[go_sem,cO hC,f,d,oH]
section
variable{L L0 M:List As}{φ:WP}{K:Value->WP}{k0:WP}{v c l mb md b mw:Nat}{A:List (Int×Nat)}{D:List (Int×Value)}{S:ba}{n a:Int}{X:bq}{won:Int->Int}
def Gs.wonL(d:Gs L (K (gI (won n))))(q:bL L (t0 mw won::M):=by exact gy):Gs L (Xw pQ (jF 309 (.map (some mw)) (gU n) false) K):=⟨λw y=>(fg q y).elim λF h=>kI (h.1.look n) (d.go w y)⟩
def Gs.wonU{x:Int}(r:Gs (t0 mw (eR won n x)::M) k0)(q:bL L (t0 mw won::M):=by exact gy):Gs L (Yw pQ (rP 309 (.map (some mw)) (gU n) (gI x)) k0):=⟨λw ⟨F,z⟩=>by
 obtain⟨u,j,⟨⟨Lw,s,p⟩,f⟩,i,g⟩:=Ss.cons.1 (⟨F,(q.out w F).1 z⟩:Ss w (t0 mw won::M));refine kM (enc:=eS) (ev:=vr) (x:=n) (v:=x) WA kL s λh o m _=>r.go h (Ss.cons.2 ⟨u,j,⟨⟨_,o,λk=>?_⟩,f⟩,i.md m λy t B=>g y ((f y).2 B) t,g⟩);rw[lL];by_cases d:k=n
 ·subst d;rw[cQ,ab rfl];rfl
 ·rw[eT _ _ _ d,aa λe=>d e.symm,p]⟩
def TH{ct price:Int}{cl:Bool}(hl:X.held.length<4294967295)(f:∀y,Gs (jV l (X.mark ct price cl).2.2::vaA (eM y (X.mark ct price cl).2.1.length) (X.mark ct price cl).2.1::M) (K (.tuple #[eM y (X.mark ct price cl).2.1.length,gI (X.mark ct price cl).1])))(p:bL L (jV l X::M):=by exact gy):
  Gs L (Cw pQ 263 #[eK l,gU ct,gI price,.bool cl] K):=
 Gs.old (A:=jV l X) (val:=λy:Option Addr×Nat=>.tuple #[eM y (X.mark ct price cl).2.1.length,gI (X.mark ct price cl).1]) (p:=λ_=>True) (B:=λy=>(jV l (X.mark ct price cl).2.2).mul (vaA (eM y (X.mark ct price cl).2.1.length) (X.mark ct price cl).2.1)) (λw F _ q K h=>Wa q hl λe sl i o g nn=>by
  obtain⟨x,y,rfl,-⟩:=o.isSl;exact h (x,y) e (λy=>F y\/aQ _ y) trivial ⟨F,aQ _,i,⟨o,λ_=>aI⟩,λy d j=>by have:=nn y j;have:=q.lt d;omega,λ_=>aI⟩ g λy d=>d.elim .inl λh=>.inr (nn y h)) (λx _=>(f x).pk My) p
def HE(h:X.Ok->Gs L φ)(p:bL L (jV l X::M):=by exact gy):Gs L φ:=⟨λw y=>(fg p y).elim λF q=>(h q.ok).go w y⟩
def Gz{k:Ct}{cl:Bool}{B:Int}(hl:S.led.held.length<4294967295)(G:XA B won)(C:0<=B/\B<=2000000000000000000)
  (t:Gs (t0 mw (im won (S.led.mark k.spec.num k.price cl).2.1)::vs v c l mb md A D {S with led:=(S.led.mark k.spec.num k.price cl).2.2} L) (K (gI (S.led.mark k.spec.num k.price cl).1)))(pk:bL L0 (t0 mw won::vs v c l mb md A D S L):=by exact kz):
  Gs L0 (Cw pQ 205 #[eE v,.agg (dh k).toArray,.bool cl,.map (some mw)] K):=by
 refine Gs.pk ?_ pk;refine sN Tryz.func205 ?_;unfold eE;refine HE (X:=S.led) (λz=>?_);obtain⟨m,d⟩:=yA z k.spec.num k.price cl;refine au ?_;intro r;refine au ?_;refine TH hl (λy=>?_);generalize S.led.mark k.spec.num k.price cl=X at m d t|-;obtain⟨e,V,Y⟩:=X
 dsimp only at m d t|-
 refine au ?_;refine Gs.l (λi:Nat=>(gI i,())) (V.length - ·) (λi=>t0 mw (im won (V.take i))::vaA (eM y V.length) V::pt r (dh k) lN::vs v c l mb md A D {S with led:=Y} L) (·<=V.length) 0 rfl (aw _) ?_ (show bL _ (t0 mw won::vaA (eM y V.length) V::pt r (dh k) lN::vs v c l mb md A D {S with led:=Y} L)from kz);intro i O I s
 dsimp only
 refine Gs.z (au ?_);refine Gs.I (λh=>?_) λh=>?_
 ·have j:i<V.length:=qZ;have p:=bV j;have u:=d _ (ar j);have g:=s (i+1) qZ qZ
  have o:XA (B+1100000000000000*64) (im won (V.take i)):=by
   have E:=yX (V:=1100000000000000) qZ (V.take i) G λy F=>(d y (bm F)).1;intro n;have J:=E n;have N:((V.take i).length:Int)<=64:=by rw[av];omega
   omega
  rw[p,show im won (V.take i++[V[i]])=eR (im won (V.take i)) V[i].1 (im won (V.take i) V[i].1+V[i].2) by unfold im;rw[iP];rfl]at g;refine Gs.it (T:=366) (f:=oH) cH am0 (λ_=>rfl) ZE (λw y=>mZ gy w y) rfl j ?_;generalize im won (V.take i)=wn at o g|-;generalize V[i]=x at u g|-;have H:=o x.1;unfold oH;refine au ?_;intro q;refine au ?_;refine Gs.wonL ?_;refine au ?_;refine Gs.wonU ?_;refine au ?_;exact g.fin
 ·obtain rfl:i=V.length:=qZ;rw[aL];exact t.fin
end
end Go.Proofs
namespace Go.Proofs
open Go Go.Vc
abbrev duA(s:Vt_)(l:List Du):As:=ow s 369 3 l.length (l.flatMap Kz)
abbrev sdA(s:Vt_)(l:List Sd):As:=ow s 374 4 l.length (l.flatMap wH)
abbrev sdX(d:Sd):List Value:=[.int .u32 d.acct,gI d.cash,.bool d.dfl,gI d.cut]
structure al8 where
 i:Nat
 g:Option Addr×Nat
 u:Option Addr×Nat
 D:List (Int×Value)
 gn:List Int
 ac:List Int
 T:ba
def OP(s:Sd)(l:List Sd)(gn ac:List Int)(S:ba):mf (s::l) ⟨0,0,0,0,[],gn,ac⟩ S=
  if((if s.dfl then(S.clear s.acct 0).2 else S).led.set {S.acc s.acct with cash:=s.cash,dfl:=(S.acc s.acct).dfl||s.dfl}).1≠0 then
   (((if s.dfl then(S.clear s.acct 0).2 else S).led.set {S.acc s.acct with cash:=s.cash,dfl:=(S.acc s.acct).dfl||s.dfl}).1,⟨0,0,0,0,[],if s.dfl then gn++(S.clear s.acct 0).1 else gn,if s.dfl then ac++[s.acct]else ac⟩,{(if s.dfl then(S.clear s.acct 0).2 else S)with led:=((if s.dfl then(S.clear s.acct 0).2 else S).led.set {S.acc s.acct with cash:=s.cash,dfl:=(S.acc s.acct).dfl||s.dfl}).2})
  else mf l ⟨0,0,0,0,[],if s.dfl then gn++(S.clear s.acct 0).1 else gn,if s.dfl then ac++[s.acct]else ac⟩ {(if s.dfl then(S.clear s.acct 0).2 else S)with led:=((if s.dfl then(S.clear s.acct 0).2 else S).led.set {S.acc s.acct with cash:=s.cash,dfl:=(S.acc s.acct).dfl||s.dfl}).2}:=by
 cases h:s.dfl<;>simp only[mf,h,de,dB,bE]<;>rfl
def Cx(won:Int->Int)(a:Ac):Du:=⟨a.num,a.cash,won a.num⟩
def ZG(x:Sd)(w:Wt_)(b off:Nat)(h:At w b off (wH x)):(iL 374 (cU b off)).run pQ w=.ok (Tp x) w:=by
 obtain⟨C,e,m,hC,d⟩:=h.get;have i:=d 0 (gU x.acct) rfl;have g:=d 1 (gI x.cash) rfl;have f:=d 2 (.bool x.dfl) rfl;have j:=d 3 (gI x.cut) rfl;simp only[bM]at i g f j;simp[go_sem,cO hC,i,g,f,j,wH,Tp]
attribute [go_sem] Tp wH
section
variable{L L0 M:List As}{φ:WP}{K:Value->WP}{k0:WP}{v c l mb md b mw:Nat}{A:List (Int×Nat)}{D:List (Int×Value)}{S:ba}{n a:Int}{X:bq}{won:Int->Int}
def OE{s:Vt_}{ds:List Du}{fund:Int}(j:ds.length<=100000)(hl:∀d∈ds,d.Fit)(i:dM fund)(g:∀y,Gs (sdA (eM y (gK fund ds).1.length) (gK fund ds).1::L) (K (.tuple #[eM y (gK fund ds).1.length,gI (gK fund ds).2.1,gI (gK fund ds).2.2])))(p:bL L (duA s ds::M):=by exact gy):
  Gs L (Cw pQ 264 #[.int .i64 fund,s] K):=
 Gs.nw (φ:=λk=>Cw pQ _ _ k) (val:=λy:Option Addr×Nat=>.tuple #[eM y (gK fund ds).1.length,gI (gK fund ds).2.1,gI (gK fund ds).2.2]) (p:=λ_=>True) (B:=λy=>sdA (eM y (gK fund ds).1.length) (gK fund ds).1) (λw y K h=>Oz (mZ p w y) j hl i λq f o m nn=>by
  obtain⟨x,y,rfl,-⟩:=o.isSl;exact h (x,y) f (aQ _) trivial ⟨o,λ_=>aI⟩ m nn) (λy _=>g y)
section
variable{P:Program}{k:Value->WP}{s s1:Vt_}{e t:TypeId}{sz by_:Nat}
def Gs.cat{α:Type}{l l1:List α}{f:α->List Value}(d:P.underlying t=some (.slice e))(g:fj P e sz by_=true)(j:∀x,(f x).all (·.oneCell')=true)(h:(l.length+l1.length)*by_<=140737488355328)
  (i:∀a c,Gs (ow (.slice a (l++l1).length c) e sz (l++l1).length ((l++l1).flatMap f)::ow s1 e sz l1.length (l1.flatMap f)::M) (k (.slice a (l++l1).length c)))(p:bL L (ow s e sz l.length (l.flatMap f)::ow s1 e sz l1.length (l1.flatMap f)::M):=by exact kz):Gs L (Xw P (ff #[t,t] t [s,s1]) k):=by
 refine Gs.pk (Gs.app d d g (λw y=>mZ (M:=ow s e sz l.length (l.flatMap f)::M) .swap w y) ?_ h (λa c=>?_) .refl) p
 ·grind
 ·grind
end
def L9(hv:nQ A D S.cal.l S.bk)(hcal:S.cal.Ok)(hbl:∀n,(S.bd n).length<=50)(hw64:∀n,dM (won n))
  (hK:∀g u D',nQ A D' S.cal.l (S.pay won).2.2.bk->(S.pay won).2.2.cal=S.cal->(S.pay won).2.1.gone.length<=256000->(S.pay won).2.1.accts.length<=64->(S.pay won).2.1.trades=[]->
   Gs (vs v c l mb md A D' (S.pay won).2.2 (tX (eM g (S.pay won).2.1.gone.length) (S.pay won).2.1.gone::CM (eM u (S.pay won).2.1.accts.length) (S.pay won).2.1.accts::t0 mw won::L)) (K (.tuple #[Ka (S.pay won).2.1 (.slice none 0 0) (eM g (S.pay won).2.1.gone.length) (eM u (S.pay won).2.1.accts.length),gI (S.pay won).1])))
  (pk:bL L0 (t0 mw won::vs v c l mb md A D S L):=by exact kz):Gs L0 (Cw pQ 206 #[eE v,.map (some mw)] K):=by
 refine Gs.pk ?_ pk;refine sN Tryz.func206 ?_;unfold eE;refine HE (X:=S.led) (λV=>?_);have hal:=V.len;refine au ?_;intro p0;refine au ?_;intro q;refine au ?_;intro p4;refine au ?_;refine Gs.nilF 369 3 Kz (zg λgv=>?_);refine Gg.rf (L:=pt q O6 xj::vs v c l mb md A D S L) (λ_ _ _ _=>rfl) (IJ oC.ac) (I:=λi (b:Option Addr×Nat) M=>pt p4 [eM b ((S.led.all.take i).map (Cx won)).length] 367::duA (eM b ((S.led.all.take i).map (Cx won)).length) ((S.led.all.take i).map (Cx won))::pt p0 [.map (some mw)] 309::t0 mw won::M) (E:=λ(_:Unit) M=>M) (λ_ _ _=>rfl) (λ_ _=>rfl) (λi b=>True) (λ_ _=>False) (none,0) trivial ?_ ?_ (λ_ _ _ (h:False)=>h.elim) ?_
 ·rintro i hi x - l1 r1 q1 M kn kj N -;have htk:=bV hi;have C:((S.led.all.take i).map (Cx won)).length<=64:=by rw[af,av];omega
  rw[htk,aK,aH,ed]at N;generalize S.led.all[i]=a at N|-;generalize(S.led.all.take i).map (Cx won)=I at C N|-;unfold dr;refine au ?_;refine Gs.wonL ?_;refine au ?_;refine Gs.push (x:=Cx won a) (f:=Kz) (l:=I) ad9 eDu (λ_=>rfl) rfl rfl qZ qZ (λz1 z2=>?_) gy;refine au ?_;exact(N (z1,z2) _ trivial).fin
 ·rintro x0 d -;have C:(S.dues won).length<=64:=by unfold ba.dues;rw[af];omega
  have hdu:∀x∈S.dues won,x.Fit:=λx hx=>by
   obtain⟨a,ha,rfl⟩:=aD.1 hx;have:=V.acc a ha;unfold MF at this;exact⟨⟨by show 0<=a.num;omega,this.2.1⟩,⟨by show _<=a.cash;omega,by show a.cash<_;omega⟩,hw64 _⟩
  have hf:dM S.led.fund:=by have:=V.fund;unfold MF at this;constructor<;>omega
  rw[aL,show S.led.all.map (Cx won)=S.dues won from rfl]
  have j:S.pay won=if(gK S.led.fund (S.dues won)).2.2≠0 then((gK S.led.fund (S.dues won)).2.2,jo,S)else
    if(mf (gK S.led.fund (S.dues won)).1 jo S).1≠0 then mf (gK S.led.fund (S.dues won)).1 jo S else
     (((mf (gK S.led.fund (S.dues won)).1 jo S).2.2.led.set ⟨0,(gK S.led.fund (S.dues won)).2.1,false,false⟩).1,(mf (gK S.led.fund (S.dues won)).1 jo S).2.1,{(mf (gK S.led.fund (S.dues won)).1 jo S).2.2 with led:=((mf (gK S.led.fund (S.dues won)).1 jo S).2.2.led.set ⟨0,(gK S.led.fund (S.dues won)).2.1,false,false⟩).2}):=rfl
  have Q:=LO (fund:=S.led.fund) (l:=S.dues won);have hdl:∀s∈S.dues won,gM s.acct:=λs hs=>(hdu s hs).1;generalize S.dues won=ds at C hdu j Q hdl|-;refine Gs.ak (au ?_);refine pK ?_;rw[show S.led.getV 0=(⟨0,S.led.fund,false,false⟩,0)from rfl];refine au ?_;intro r0;refine au ?_;refine OE (ds:=ds) qZ hdu hf (λy=>?_);generalize gK S.led.fund ds=X at j Q|-;obtain⟨out,left,e⟩:=X
  dsimp only at j Q|-
  refine au ?_;refine Gs.Ib (λU=>?_) λU=>?_
  ·rw[ab (by simpa using U)]at j;rw[j]at hK;refine au ?_;refine Gs.tw ?_;refine au ?_;refine Gs.idn (Gs.uin ?_);have:=hK (none,0) (none,0) D hv rfl (aw _) (aw _) rfl
   dsimp only[jo,List.length_nil]at this
   exact this.fin
  obtain rfl:e=0:=by simpa using U
  rw[aa (by simp)]at j;obtain⟨hsa,-⟩:=Q rfl;have hol:out.length<=64:=by have:=dP List.length hsa;rw[af,af]at this;omega
  have hoa:∀s∈out,gM s.acct:=λs hs=>by
   have h1:s.acct∈ds.map (·.acct):=by rw[<-hsa];exact aV hs
   obtain⟨x,hx,p⟩:=aD.1 h1;rw[<-p];exact hdl x hx
  refine au ?_;refine Gs.idn (Gs.uin ?_);refine Gs.fin (M:=sdA (eM y out.length) out::pt q O6 xj::tX (eM (none,0) 0) []::CM (eM (none,0) 0) []::HA d::t0 mw won::vs v c l mb md A D S L) ?_
  refine Gs.l (λx:al8=>(gI 0,gI x.i,())) (λx=>out.length - x.i) (λx=>sdA (eM y out.length) out::pt q (IF 0 0 0 0 (.slice none 0 0) (eM x.g x.gn.length) (eM x.u x.ac.length)) xj::tX (eM x.g x.gn.length) x.gn::CM (eM x.u x.ac.length) x.ac::HA d::t0 mw won::vs v c l mb md A x.D x.T L)
   (λx=>x.i<=out.length/\mf out jo S=mf (out.drop x.i) ⟨0,0,0,0,[],x.gn,x.ac⟩ x.T/\nQ A x.D S.cal.l x.T.bk/\x.T.cal=S.cal/\(∀n,(x.T.bd n).length<=50)/\x.gn.length<=4000*x.i/\x.ac.length<=x.i) ⟨0,(none,0),(none,0),D,[],[],S⟩ rfl ⟨aw _,rfl,hv,rfl,hbl,aw _,aw _⟩ ?_ .refl
  rintro⟨i,g,u,D1,gn,ac,T⟩ ⟨h1,p,h3,Y,h5,h6,h7⟩ KN hKN
  dsimp only at h1 p h3 Y h5 h6 h7 hKN|-
  refine Gs.z (au ?_);refine Gs.I (λh=>?_) λh=>?_
  ·have O:i<out.length:=qZ;have hsm:=hoa _ (ar O);rw[<-bR O]at p;refine Gs.it (f:=wH) Ys nSd (λ_=>rfl) ZG (λw y=>mZ gy w y) rfl O ?_;generalize out[i]=s at hsm p|-;rw[OP]at p;refine HE (X:=T.led) (λhTk=>?_);have hau:=Mz hTk s.acct;refine au ?_;intro r1;unfold Tp wH;refine au ?_;refine Gs.jv (λr=>(.pointer (some ⟨r,0,none⟩),())) (Zs (T.acc s.acct)) 100 (λJ hJ=>au ?_) λr=>?_
   ·refine Gs.An ?_ (au ?_)
    ·refine pK ?_;rw[nE T];refine au ?_;intro r;refine au ?_;exact(hJ r).fin
    ·intro r;refine au ?_;refine pK ?_;rw[nE T];refine au ?_;exact(hJ r).fin
   dsimp only
   refine Gs.z (au ?_);obtain⟨H,o⟩:∃x,x=if s.dfl then gn++(T.clear s.acct 0).1 else gn:=⟨_,rfl⟩
   obtain⟨F,B⟩:∃x,x=if s.dfl then ac++[s.acct]else ac:=⟨_,rfl⟩
   obtain⟨T1,m⟩:∃x,x=if s.dfl then(T.clear s.acct 0).2 else T:=⟨_,rfl⟩
   have hcl:=rB T s.acct 0;have R:=Dm T s.acct 0;rw[<-o,<-B,<-m]at p
   refine Gs.j (λ_:(Option Addr×Nat)×(Option Addr×Nat)×List (Int×Value)=>()) (λz=>pt r [.int .u32 (T.acc s.acct).num,gI s.cash,.bool (T.acc s.acct).kil,.bool ((T.acc s.acct).dfl||s.dfl)] 100::pt r1 (sdX s) 374::sdA (eM y out.length) out::pt q (IF 0 0 0 0 (.slice none 0 0) (eM z.1 H.length) (eM z.2.1 F.length)) xj::tX (eM z.1 H.length) H::CM (eM z.2.1 F.length) F::HA d::t0 mw won::vs v c l mb md A z.2.2 T1 L)
    (λz=>nQ A z.2.2 S.cal.l T1.bk/\H.length<=4000*(i+1)/\F.length<=i+1) (λJ hJ=>?_) λz hz=>?_
   ·refine au ?_;refine Gs.Ib (λhd=>?_) λhd=>?_
    ·rw[ab hd]at o B m;refine au ?_;refine Gs.push (x:=s.acct) (f:=Ic) (l:=ac) Yo aa6 (λ_=>rfl) rfl rfl qZ qZ (λz1 z2=>?_) gy;refine au ?_;refine y9 (S:=T) (by rw[Y];exact h3) (by rw[Y];exact hcal) h5 (λy' D' w1 w2=>?_);rw[Y]at w1;rw[<-m]at w1|-;have hl:(ac++[s.acct]).length<=i+1:=by rw[ad];exact Nat.add_le_add_right h7 1
     rw[<-B]at hl|-;have hg:(gn++(T.clear s.acct 0).1).length<=4000*(i+1):=by rw[ad];omega
     generalize(T.clear s.acct 0).1=G at o w2 hg|-;refine au ?_;refine Gs.cat (l:=gn) (l1:=G) (f:=oy) Ce Oq (λ_=>rfl) qZ (λx1 x2=>?_);rw[<-o]at hg|-;refine au ?_;have:=hJ ((x1,x2),(z1,z2),D') ⟨w1,hg,hl⟩;rw[hd,Bool.or_true]at this;exact this.fin
    ·rw[hd]at o B m;simp only[bE,dB]at o B m;subst o B m;have:=hJ (g,u,D1) ⟨h3,qZ,qZ⟩;rw[hd,Bool.or_false]at this;exact this.fin
   obtain⟨⟨z1,z2,z3⟩,hz1,Z,hz3⟩:∃y,y=z/\_:=⟨z,rfl,hz⟩
   subst hz1
   dsimp only at Z|-
   have hc1:T1.cal=S.cal:=by rw[m];split;exact hcl.trans Y;exact Y
   have hb1:∀n,(T1.bd n).length<=50:=λn=>by rw[m];split;exact bK (R n) (h5 n);exact h5 n
   clear hcl R o B m hbl h3 h5 h6 h7;refine Gs.z (au ?_);refine EF (a:={T.acc s.acct with cash:=s.cash,dfl:=(T.acc s.acct).dfl||s.dfl}) hau ?_;generalize T1.led.set {T.acc s.acct with cash:=s.cash,dfl:=(T.acc s.acct).dfl||s.dfl}=W at p|-;obtain⟨e,W⟩:=W
   dsimp only at p|-
   refine au ?_;refine Gs.Ib (λU=>?_) λU=>?_
   ·rw[ab (by simpa using U)]at p;rw[p]at j;rw[ab (by simpa using U)]at j;rw[j]at hK;refine au ?_;refine Gs.tw ?_;refine au ?_;exact(hK z1 z2 z3 Z hc1 (by dsimp only;omega) (by dsimp only;omega) rfl).fin
   ·obtain rfl:e=0:=by simpa using U
    rw[aa (by simp)]at p;refine au ?_;exact(hKN ⟨i+1,z1,z2,z3,H,F,{T1 with led:=W}⟩ ⟨O,p,Z,hc1,hb1,hz3.1,hz3.2⟩ (by dsimp only;omega)).fin
  ·obtain rfl:i=out.length:=qZ;rw[cg (aB _)]at p;rw[p]at j;rw[show mf [] (⟨0,0,0,0,[],gn,ac⟩:Rp) T=(0,⟨0,0,0,0,[],gn,ac⟩,T)from rfl,aa (by simp)]at j
   dsimp only at j
   rw[j]at hK;refine au ?_;refine EF (a:=⟨0,left,false,false⟩) ⟨by show(0:Int)<=0;omega,by show(0:Int)<_;omega⟩ ?_;refine au ?_;refine Gs.tw ?_;refine au ?_;exact(hK g u D1 h3 Y (by dsimp only;omega) (by dsimp only;omega) rfl).fin
 ·simp only[duA,bS,ed,List.length_nil,bo];exact kz
end
end Go.Proofs
namespace Go.Proofs
open Go Go.Vc
attribute [local congr] bj
def NE{L:bq}{won:Int->Int}(k:Ct):js [k] L won=if k.st=3 then(0,L,won)else((L.mark k.spec.num k.price false).1,(L.mark k.spec.num k.price false).2.2,im won (L.mark k.spec.num k.price false).2.1):=by
 unfold js;split
 ·rfl
 ·simp only;split
  ·rfl
  ·rename_i h
   simp only[js];have:(L.mark k.spec.num k.price false).1=0:=by simpa using h
   rw[this]
end Go.Proofs
namespace Go.Proofs
open Go Go.Vc
abbrev Wn(p:Nat)(e:Int):As:=pt p [.int .i64 e] 29
abbrev Zv(p v:Nat):As:=pt p [.pointer (some ⟨v,0,none⟩)] 24
section
variable{L L0 M:List As}{φ:WP}{K:Value->WP}{k0:WP}{v c l mb md b mw:Nat}{A:List (Int×Nat)}{D:List (Int×Value)}{S:ba}{n a:Int}{X:bq}{won:Int->Int}
def Gs.mkW(d:∀mw,Gs (t0 mw jy::L) (K (.map (some mw)))):Gs L (Vw pQ (Instr.makeMap 309 none) K):=⟨λw y=>by
 refine dy (AU _) ((d _).go _ (y.new ((bn.refl _ w).alloc _) (F' :=λx=>x=w.heap.size) ⟨⟨[],fI.new w,λ_=>rfl⟩,λ_=>aI⟩ λx e=>qZ))⟩
def Ht{s:Vt_}{l:List Int}(f:l.length<=100000)(d:Gs L (K (.bool (l.contains a))))(p:bL L (CM s l::M):=by exact gy):Gs L (Cw pQ 208 #[s,gU a] K):=⟨λw y=>E8 (mZ p w y) f λe m=>d.go e (y.md0 m)⟩
def J1(accts:List Int)(a:Ac)(l:List Ac)(e:Int)(L:bq):qc accts (a::l) e L=if a.dfl=true/\(L.ofA a.num).isEmpty=true/\accts.contains a.num=false then qc accts l (L.set {a with dfl:=false}).1 (L.set {a with dfl:=false}).2 else qc accts l e L:=by rw[qc]
def Ku(k:Ct)(l:List Ct)(L:bq)(won:Int->Int)(h:¬k.st=3):js (k::l) L won=if(L.mark k.spec.num k.price false).1≠0 then((L.mark k.spec.num k.price false).1,(L.mark k.spec.num k.price false).2.2,im won (L.mark k.spec.num k.price false).2.1)else js l (L.mark k.spec.num k.price false).2.2 (im won (L.mark k.spec.num k.price false).2.1):=by rw[js,aa h]
def IU(hv:nQ A D S.cal.l S.bk)(Z:S.Ok)(hK:SD v c l mb md A S.settle L K)(pk:bL L0 (vs v c l mb md A D S L):=by exact kz):Gs L0 (Cw pQ 137 #[eE v] K):=by
 refine Gs.pk ?_ pk;refine sN Tryz.func137 ?_;unfold eE;obtain⟨C,hC⟩:=dW (eJ S.cal);obtain⟨O,hM⟩:∃m,m=js C.2.l S.led jy:=⟨_,rfl⟩
 obtain⟨P,hP⟩:=dW (({S with cal:=C.2,led:=O.2.1}:ba).pay O.2.2)
 have f:S.settle=if C.1≠0 then(C.1,jo,{S with cal:=C.2})else if O.1≠0 then(O.1,jo,{S with cal:=C.2,led:=O.2.1})else
   if P.1≠0 then P else((qc P.2.1.accts P.2.2.led.all 0 P.2.2.led).1,P.2.1,{P.2.2 with led:=(qc P.2.1.accts P.2.2.led.all 0 P.2.2.led).2}):=by rw[hP,hM,hC];rfl
 have p:=Z.day;have F:=wQ Z;have hCl:=JY S.cal;have H:=hv;rw[<-hCl]at H;refine au ?_;intro p0;refine au ?_;intro q;refine au ?_;intro p4;refine au ?_;refine To ?_;rw[<-hC]at p F hCl H|-;rw[<-hM]at F;obtain⟨e,C⟩:=C
 dsimp only at f hM hP p F hCl H|-
 refine au ?_;refine Gs.Ib (λy=>?_) λy=>?_
 ·rw[ab (by simpa using y)]at f;refine au ?_;exact hK.fail f (D:=D) H
 rw[aa (by simpa using y)]at f;obtain rfl:e=0:=by simpa using y
 refine Gs.mkW (λmw=>?_);refine au ?_;intro p8;refine au ?_;refine uW (C:=C) (λgv=>?_);have hcl:C.l.length<=16:=p.cal.len;refine Gg.rf (L:=L) (λ_ _ _ _=>rfl) (Ec _) (I:=λi (b:bq×(Int->Int)) M=>Wn p4 0::pt q O6 xj::pt p8 [.map (some mw)] 309::Zv p0 v::t0 mw b.2::vs v c l mb md A D {S with cal:=C,led:=b.1} M) (E:=λ(_:Unit) M=>Wn p4 O.1::pt q O6 xj::vs v c l mb md A D {S with cal:=C,led:=O.2.1} M) (λ_ _ _=>rfl) (λ_ _=>rfl) (λi b=>js (C.l.drop i) b.1 b.2=O/\I9 C b.1/\XA (1100000000000000*64*i) b.2) (λcd _=>cd=.ret/\O.1≠0) (S.led,jy) ⟨hM.symm,p.led,λn=>by show _<=(0:Int)/\(0:Int)<=_;omega⟩ ?_ ?_ ?_ kz
 ·rintro i hi ⟨X,won⟩ ⟨o,G,W⟩ l1 r1 q1 M kn kj s hkj
  dsimp only at o G W s|-
  rw[<-bR hi]at o;generalize C.l[i]=k at o|-;refine au ?_;refine Gs.Ib (λhs=>?_) λhs=>?_
  ·have Q:¬k.st=3:=by simpa using hs
   rw[Ku k _ _ _ Q]at o;have R:=NE (L:=X) (won:=won) k;rw[aa Q]at R
   have N:I9 C (X.mark k.spec.num k.price false).2.2:=by
    have:=(up p.cal [k] X won G).1;rw[R]at this;exact this
   obtain⟨hvl,hvb⟩:=yA G.led k.spec.num k.price false;refine au ?_;refine Gs.X (λw z=>eG gy Dq qp (bC _) w z) ?_;refine au ?_;refine Gz (S:={S with cal:=C,led:=X}) (by have:=sL p.cal G;show X.held.length<_;omega) W qZ ?_
   have hwb:XA (1100000000000000*64*((i+1:Nat):Int)) (im won (X.mark k.spec.num k.price false).2.1):=λn=>by
    have:=yX (V:=1100000000000000) qZ _ W (λx hx=>(hvb x hx).1) n
    push_cast
    omega
   generalize X.mark k.spec.num k.price false=Y at o N hwb|-;obtain⟨e,V,Y⟩:=Y
   dsimp only at o N hwb|-
   refine au ?_;refine Gs.Ib (λy=>?_) λy=>?_
   ·rw[ab (by simpa using y)]at o;subst o;refine au ?_;exact(hkj .ret () _ ⟨rfl,by simpa using y⟩).fin
   ·obtain rfl:e=0:=by simpa using y
    rw[aa (by simp)]at o;exact(s (Y,im won V) _ ⟨o,N,hwb⟩).fin
  ·have Q:k.st=3:=by simpa using hs
   rw[js,ab Q]at o;exact(s (X,won) _ ⟨o,G,λn=>by have:=W n;push_cast;omega⟩).fin
 ·rintro⟨X,won⟩ d ⟨o,G,W⟩
  dsimp only at o G W|-
  rw[eg]at o;subst o;have hw64:∀n,dM (won n):=λn=>by have:=W n;constructor<;>omega
  rw[aa (by simp[js])]at f
  dsimp only[js]at f hP F
  refine Gs.ak (au ?_);refine L9 (S:={S with cal:=C,led:=X}) H p.cal (λn=>Z.ord.bdl n) hw64 (λg u D' w1 w2 w3 w4 w5=>?_);have t:=λh=>(Jb F.led F.ord (won:=won) h).1;rw[<-hP]at w1 w2 w3 w4 w5 t|-;obtain⟨e,r,T⟩:=P;obtain⟨r1,r2,r3,r4,r5,U,B⟩:=r
  dsimp only at w1 w2 w3 w4 w5 t f|-
  subst w5;refine au ?_;refine Gs.Ib (λy=>?_) λy=>?_
  ·rw[ab (by simpa using y)]at f;rw[f]at hK;refine au ?_;refine Gs.tw ?_;refine au ?_;refine Gs.tdn ?_;have:=hK (none,0) g u D' (by dsimp only;rw[w2];exact w1) ⟨aw _,by dsimp only;omega,by dsimp only;omega⟩
   dsimp only[List.length_nil]at this
   exact this.fin
  obtain rfl:e=0:=by simpa using y
  rw[aa (by simp)]at f;have t:=t rfl;have hheld:T.led.held.length<4294967295:=by have:=sL (by rw[t.cal];exact p.cal) t.led;omega
  refine au ?_;refine zg (λgv2=>?_);refine Gg.rf (L:=tX (eM g U.length) U::HA d::t0 mw won::pt p8 [.map (some mw)] 309::L) (λ_ _ _ _=>rfl) (IJ oC.ac) (I:=λi (b:Int×bq) M=>Wn p4 b.1::pt q (IF r1 r2 r3 r4 (.slice none 0 0) (eM g U.length) (eM u B.length)) xj::Zv p0 v::CM (eM u B.length) B::vs v c l mb md A D' {T with led:=b.2} M) (E:=λ(_:Unit) M=>M) (λ_ _ _=>rfl) (λ_ _=>rfl) (λi b=>qc B (T.led.all.drop i) b.1 b.2=qc B T.led.all 0 T.led/\b.2.held=T.led.held) (λ_ _=>False) (0,T.led) ⟨rfl,rfl⟩ ?_ ?_ (λ_ _ _ (h:False)=>h.elim) ?_
  ·rintro i hi ⟨e,X⟩ ⟨o,G⟩ l1 r1' q1 M kn kj s -
   dsimp only at o G s|-
   rw[<-bR hi]at o;have hal:=t.led.led.acc _ (ar hi);generalize T.led.all[i]=a at o hal|-;rw[J1]at o;unfold dr;refine au ?_;intro pb;refine au ?_;refine TV (X:=X) (by rw[G];exact hheld) (λgv3=>?_);refine Gg.r0 (L:=M) (λ_ _ _ _=>rfl) (I:=λi (h:Bool) M=>pt pb [.bool h] 4::pt q1 [.int .u32 a.num,gI a.cash,.bool a.kil,.bool a.dfl] 100::Wn p4 e::pt q (IF r1 r2 r3 r4 (.slice none 0 0) (eM g U.length) (eM u B.length)) xj::Zv p0 v::CM (eM u B.length) B::vs v c l mb md A D' {T with led:=X} M) (λ_ _ _=>rfl) (λi h=>h=decide (0<i)) false rfl ?_ ?_ kz
   ·rintro j hj h - l2 M2 kn2 kj2 hkn2;refine au ?_;exact(hkn2 true (aA (lz j)).symm).fin
   ·rintro h rfl;rw[show(decide (0<(X.ofA a.num).length))= !(X.ofA a.num).isEmpty by cases X.ofA a.num<;>rfl];refine Gs.ak ?_;refine Gs.j1 (.bool (decide (a.dfl=true/\(X.ofA a.num).isEmpty=true/\B.contains a.num=false)),()) (λJ hJ=>?_) ?_
    ·refine au ?_;refine Gs.Ib (λhd=>?_) λhd=>?_
     ·refine au ?_;refine Gs.Ib (λhh=>?_) λhh=>?_
      ·refine au ?_;refine Ht (l:=B) qZ ?_;refine au ?_;simpa [hd,hh]using hJ
      ·simpa [hd,hh]using hJ
     ·simpa [hd]using hJ
    refine Gs.z (Gs.I (λhc=>?_) λhc=>?_)
    ·rw[ab hc]at o;refine au ?_;refine EF (a:={a with dfl:=false}) ⟨by show 0<=a.num;omega,hal.2.1⟩ ?_;have hs:(X.set {a with dfl:=false}).2.held=T.led.held:=by rw[oG];exact G
     generalize X.set {a with dfl:=false}=Y at o hs|-;refine au ?_;exact(s (Y.1,Y.2) _ ⟨o,hs⟩).fin
    ·rw[aa hc]at o;exact(s (e,X) _ ⟨o,G⟩).fin
  ·rintro⟨e,X⟩ d2 ⟨o,G⟩
   dsimp only at o|-
   rw[eg]at o;rw[<-o]at f
   dsimp only[qc]at f
   rw[f]at hK;refine Gs.ak (au ?_);refine Gs.twc ?_;refine Gs.tw ?_;refine au ?_;refine Gs.tdn ?_;have:=hK (none,0) g u D' (by dsimp only;rw[w2];exact w1) ⟨aw _,by dsimp only;omega,by dsimp only;omega⟩
   dsimp only[List.length_nil]at this
   exact this.fin
  ·show bL _ (Wn p4 0::pt q (IF r1 r2 r3 r4 (.slice none 0 0) (eM g U.length) (eM u B.length)) xj::Zv p0 v::CM (eM u B.length) B::vs v c l mb md A D' T (tX (eM g U.length) U::HA d::t0 mw won::pt p8 [.map (some mw)] 309::L));exact kz
 ·rintro cd _ d ⟨rfl,y⟩;rw[ab y]at f;refine Gs.akr ?_;refine Gs.tw ?_;refine au ?_;exact hK.fail f (D:=D) H
end
end Go.Proofs
namespace Go.Proofs
open Go Go.Vc
attribute [local congr] bj
def Ft{C:oq}(h:C.Ok)(n:Int):(eX C n).2.Ok:=by
 unfold eX;split
 ·exact h
 ·obtain⟨i,g,j⟩:=pg (l:=C.l) (n:=n) (f:=λk=>{k with st:=3}) (λk e _=>⟨by
   obtain⟨a,b,c,d⟩:=h.ok k e;exact⟨⟨a.1,⟨by grind,by grind⟩,a.2.2⟩,b,c,by grind,by grind⟩,rfl⟩) h.ok h.srt
  exact⟨by show(ik _ _ _).length<=16;rw[j];exact h.len,h.day,i,g⟩
def CW{C:oq}(n m:Int):(bU (eX C n).2.l m).isSome=(bU C.l m).isSome:=by
 unfold eX;split
 ·rfl
 ·show(bU (ik C.l n λk=>{k with st:=3}) m).isSome=_;rw[pL (f:=λk=>{k with st:=3}) λ_ _=>rfl,my]
def u0:∀(l:List Sd) (r:Rp) (S:ba),(mf l r S).2.2.cal=S.cal/\∀m,((mf l r S).2.2.bd m).length<=(S.bd m).length
 | [],r,S=>⟨rfl,λ_=>aB _⟩
 |s::l,r,S=>by
  have b:(if s.dfl then(S.clear s.acct 0).2 else S).cal=S.cal/\∀m,((if s.dfl then(S.clear s.acct 0).2 else S).bd m).length<=(S.bd m).length:=by
   split
   ·exact⟨rB _ _ _,λm=>Dm _ _ _ m⟩
   ·grind
  obtain⟨c,a⟩:=dW (if s.dfl then(S.clear s.acct 0).2 else S:ba);rw[<-a]at b;unfold mf;simp only;rw[<-a];split
  ·exact b
  ·exact⟨(u0 l _ _).1.trans b.1,λm=>bK ((u0 l _ _).2 m) (b.2 m)⟩
def SI(S:ba)(won:Int->Int):(S.pay won).2.2.cal=S.cal/\∀m,((S.pay won).2.2.bd m).length<=(S.bd m).length:=by
 unfold ba.pay;simp only;split
 ·grind
 ·split
  ·exact u0 _ _ _
  ·exact u0 (gK S.led.fund (S.dues won)).1 jo S
def VZ(S:ba)(won:Int->Int)(m:Int):((S.pay won).2.2.bd m).length<=(S.bd m).length:=(SI S won).2 m
end Go.Proofs
namespace Go.Proofs
open Go Go.Vc
def nQ.cal{A:List (Int×Nat)}{D:List (Int×Value)}{C C' :List Ct}{bk:Int->Bk}(h:nQ A D C bk)(d:∀n,(bU C' n).isSome=(bU C n).isSome):nQ A D C' bk:=⟨λn=>by rw[d];exact h.dom n,λn e=>by rw[d];exact h.dod n e,h.nbk⟩
section
variable{L L0 M:List As}{φ:WP}{K:Value->WP}{k0:WP}{v c l mb md b mw:Nat}{A:List (Int×Nat)}{D:List (Int×Value)}{S:ba}{n a:Int}{X:bq}{won:Int->Int}{bd:Int->List Od}
def Gs.mdel{P:Program}{κ ν:Type} [DecidableEq κ]{enc:κ->Value}{ev:ν->Value}{t u g e H:TypeId}{E:List (κ×ν)}{x:κ}{k:Value->WP}(r:P.underlying t=some (.map g e))(f:qb P g enc)(B:Gs (mp enc ev b (Aq E x)::M) (k (.tuple #[])))(p:bL L (mp enc ev b E::M)):Gs L (Xw P (te #[t,u] H [.map (some b),enc x]) k):=⟨λw ⟨F,z⟩=>by
 obtain⟨G,s,d,q,i⟩:=Ss.cons.1 (⟨F,(p.out w F).1 z⟩:Ss w (mp enc ev b E::M));refine Dr r f (.inr ⟨b,rfl,d.1⟩) λj o m _=>B.go j (Ss.cons.2 ⟨G,s,⟨?_,d.2⟩,q.md m λy C I=>?_,i⟩)
 ·rcases o with⟨h,-⟩|⟨J,h,o⟩
  ·cases h
  ·cases h;exact o
 ·cases I;exact i b ((d.2 b).2 rfl) C⟩
def Hs(d:(D.map (·.1)).Nodup)(m:Int):ly (Aq D n) m=if m=n then jq else ly D m:=by
 unfold ly;rw[PB d];by_cases h:m=n
 ·grind
 ·grind
def V7(f:(D.map (·.1)).Nodup)(j:Gs (tq (Aq D n) (eR bd n [])::M) φ)(p:bL L (tq D bd::M):=by exact kz):Gs L φ:=⟨λw ⟨F,z⟩=>by
 obtain⟨s,i,q,g,o,-⟩:=(p.out w F).1 z
 have e:∀{m x},aQ (ly (Aq D n) m) x->m≠n/\aQ (ly D m) x:=λ{m x} h=>by
  rw[Hs f]at h;by_cases d:m=n
  ·rw[ab d]at h;cases h
  ·grind
 refine j.go w (Ss.cons.2 ⟨λx=>∃m,True/\aQ (ly (Aq D n) m) x,i,⟨λm _=>?_,λm k x _ _ a b=>q.dj m k x trivial trivial (e a).2 (e b).2,λ_=>aI⟩,g,λx ⟨m,_,r⟩=>o x ((q.f x).2 ⟨m,trivial,(e r).2⟩)⟩);rw[Hs f];by_cases d:m=n
 ·rw[ab d,d,cQ];exact il.nil _ _ _
 ·rw[aa d,eT _ _ _ d];exact q.q m trivial⟩
def nQ.del{C:List Ct}{bk:Int->Bk}(h:nQ A D C bk)(e:(D.map (·.1)).Nodup):nQ A (Aq D n) C bk:=⟨h.dom,λm d=>h.dod m (by
 rw[PB e]at d;split at d
 ·cases d
 ·exact d),h.nbk⟩
def mdN(h:(D.map (·.1)).Nodup->Gs L φ)(p:bL L (Lm md D::M):=by exact gy):Gs L φ:=Gs.mpN h p
def C8{s t u:Vt_}{os:List Od}{I:List Int}{q j:Nat}{m B i y:Int}{g:Option Addr×Nat}(d:j<os.length)(T:I.length<=300000)(Q:∀w,Ss w L->Rd w 5 s os.length (os.flatMap dp))
  (h:∀z,Gs (pt q (IF m B i y t (eM z (I++[os[j].num]).length) u) xj::tX (eM z (I++[os[j].num]).length) (I++[os[j].num])::M) k0)(p:bL L (pt q (IF m B i y t (eM g I.length) u) xj::tX (eM g I.length) I::M):=by exact kz):
  Gs L (Vw pQ (iX tZ s (gI (j:Int))) λJ=>Vw pQ (iL kQ J) λO=>Vw pQ (iA kQ true (.tuple #[])) λk=>Uw pQ (iS kQ k O) <| Vw pQ (iF xj (cU q 0) 5) λP=>Vw pQ (iL 39 P) λE=>
   Vw pQ (iF kQ k 0) λC=>Vw pQ (iL 37 C) λN=>Xw pQ (qL 39 1 [(0,N)]) λR=>Xw pQ (ff #[39,39] 39 [E,R]) λF=>Vw pQ (iF xj (cU q 0) 5) λe=>Uw pQ (iS 39 e F) k0):=by
 refine Gs.it gR Nt dH OA Q rfl d ?_;refine Gs.pk ?_ p;generalize os[j]=o at h|-;refine au ?_;intro r;refine au ?_;refine Gs.push (x:=o.num) (f:=oy) (l:=I) Ce Oq (λ_=>rfl) rfl rfl qZ qZ (λH G=>?_) gy;refine au ?_;exact(h (H,G)).fin
def IZ(hv:nQ A D S.cal.l S.bk)(p:S.Ok)(Z:SD v c l mb md A (S.expire n) L K)(pk:bL L0 (vs v c l mb md A D S L):=by exact kz):Gs L0 (Cw pQ 138 #[eE v,gU n] K):=by
 refine Gs.pk ?_ pk;refine sN Tryz.func138 ?_;unfold eE;obtain⟨C,hC⟩:=dW (eX S.cal n);obtain⟨G,hG⟩:=dW (dw S.cal.l n);obtain⟨R,hM⟩:∃m,m=S.led.mark G.1.spec.num G.1.price true:=⟨_,rfl⟩
 obtain⟨P,hP⟩:=dW (({S with cal:=C.2,led:=R.2.2}:ba).pay (im jy R.2.1))
 have d:S.expire n=if C.1≠0 then(C.1,jo,{S with cal:=C.2})else if R.1≠0 then(R.1,jo,{S with cal:=C.2,led:=R.2.2})else if P.1≠0 then P else
   (0,{P.2.1 with gone:=(P.2.1.gone++(iU (P.2.2.bk n) 0).2.map (·.num))++(P.2.2.bd n).map (·.num)},{P.2.2 with bk:=eR P.2.2.bk n (iU (P.2.2.bk n) 0).1,bd:=eR P.2.2.bd n []}):=by rw[hP,hM,hG,hC];rfl
 obtain⟨hvl,W⟩:=yA p.led.led G.1.spec.num G.1.price true;rw[<-hM]at hvl W;have hwb:=yX (V:=1100000000000000) qZ R.2.1 (won:=jy) (B:=0) (λn=>by show(-0:Int)<=0/\(0:Int)<=0;omega) λx hx=>(W x hx).1;have U:∀m,dM (im jy R.2.1 m):=λm=>by have:=hwb m;constructor<;>omega
 have hlh:S.led.held.length<4294967295:=by have:=sL p.cal p.led;omega
 have H:C.2.Ok:=by rw[hC];exact Ft p.cal n
 have J:∀m,(bU C.2.l m).isSome=(bU S.cal.l m).isSome:=λm=>by rw[hC];exact CW n m
 have Q:=hv.cal J
 have i:C.1=0->(bU S.cal.l n).isSome=true:=λh=>by
  have hdue:qn S.cal n=0:=by
   apply aS;intro hc;rw[hC]at h;unfold eX at h;rw[ab hc]at h;exact hc h
  obtain⟨k0,hk0,-⟩:=pl (BF hdue);rw[hk0];rfl
 refine au ?_;intro q;refine au ?_;refine wS ?_;rw[<-hG];refine au ?_;refine Gs.bvar cH qp (bC _) cH (g9 _) λr=>?_;refine au ?_;refine Kv ?_;rw[<-hC];obtain⟨e,C⟩:=C
 dsimp only at d hP H J Q i|-
 refine au ?_;refine Gs.Ib (λE=>?_) λE=>?_
 ·rw[ab (by simpa using E)]at d;refine au ?_;exact Z.fail d (D:=D) Q
 rw[aa (by simpa using E)]at d;have i:=i (by simpa using E);refine Gs.mkW (λmw=>?_);refine Gs.X (λw z=>eG (cs:=dh G.1) gy Dq qp (bC _) w z) ?_;refine Gz (S:={S with cal:=C}) (B:=0) (won:=jy) hlh (λn=>by show(-0:Int)<=0/\(0:Int)<=0;omega) qZ ?_;rw[<-hM];obtain⟨e,V,Y⟩:=R
 dsimp only at d hP hvl W hwb U|-
 refine au ?_;refine Gs.Ib (λE=>?_) λE=>?_
 ·rw[ab (by simpa using E)]at d;refine au ?_;exact Z.fail d (D:=D) Q
 rw[aa (by simpa using E)]at d;refine L9 (S:={S with cal:=C,led:=Y}) Q H (λn=>p.ord.bdl n) U (λg u D' w1 w2 w3 w4 w5=>?_);have hTb:=VZ ({S with cal:=C,led:=Y}:ba) (im jy V) n;have hbl:=p.ord.bdl n;rw[<-hP]at w1 w2 w3 w4 w5 hTb|-;obtain⟨e,r,T⟩:=P;obtain⟨r1,r2,r3,r4,r5,o,t⟩:=r
 dsimp only at w1 w2 w3 w4 w5 d hTb|-
 subst w5;refine au ?_;refine Gs.Ib (λE=>?_) λE=>?_
 ·rw[ab (by simpa using E)]at d;rw[d]at Z;refine au ?_;refine Gs.tdn ?_;have:=Z (none,0) g u D' (by dsimp only;rw[w2];exact w1) ⟨aw _,by dsimp only;omega,by dsimp only;omega⟩
  dsimp only[List.length_nil]at this
  exact this.fin
 rw[aa (by simpa using E)]at d;obtain⟨b,hb⟩:=xp w1 (by rw[J];exact i);refine au ?_;refine Gs.look (enc:=eS) (ev:=fe) (D:=A) (x:=n) (.pointer none) xw kL Uy ?_ gy;rw[hb];refine qH hb ?_;refine Gs.fact (λw F q=>(gW.all q).1) λhal=>?_;have hml:=Hq (a:=0) hal;refine Mt (a:=0) (λy1 y2=>?_);refine tC hb ?_;generalize(iU (T.bk n) 0).2=O at d hml|-;generalize(iU (T.bk n) 0).1=B' at d|-;refine au ?_;refine Gs.fin (M:=pt q (IF r1 r2 r3 r4 (.slice none 0 0) (eM g o.length) (eM u t.length)) xj::tX (eM g o.length) o::lX (.slice y1 O.length y2) O::vs v c l mb md A D' {T with bk:=eR T.bk n B' } (CM (eM u t.length) t::L)) ?_;refine Gs.l (λy:Nat×(Option Addr×Nat)=>(gI y.1,())) (λy=>O.length - y.1) (λy=>pt q (IF r1 r2 r3 r4 (.slice none 0 0) (eM y.2 (o++(O.take y.1).map (·.num)).length) (eM u t.length)) xj::tX (eM y.2 (o++(O.take y.1).map (·.num)).length) (o++(O.take y.1).map (·.num))::lX (.slice y1 O.length y2) O::vs v c l mb md A D' {T with bk:=eR T.bk n B' } (CM (eM u t.length) t::L)) (λy=>y.1<=O.length) (0,g) rfl (aw _) ?_ ?_
 rotate_left
 ·show bL _ (pt q (IF r1 r2 r3 r4 (.slice none 0 0) (eM g (o++[]).length) (eM u t.length)) xj::tX (eM g (o++[]).length) (o++[])::_);rw[aC];exact .refl
 rintro⟨j,x⟩ hj KN s
 dsimp only at hj s|-
 refine Gs.z ?_;refine au ?_;refine Gs.I (λh=>?_) λh=>?_
 ·have N:j<O.length:=qZ;have f:=λz=>s (j+1,z) (by dsimp only;omega) (by dsimp only;omega)
  dsimp only at f
  rw[bV N,aK,<-ag,aH,ed]at f;have k:(o++(O.take j).map (·.num)).length<=300000:=by rw[ad,af,av];omega
  generalize o++(O.take j).map (·.num)=I at k f|-;refine C8 (os:=O) (I:=I) (g:=x) N k (λw y=>mZ gy w y) (λz=>?_);refine au ?_;exact(f z).fin
 obtain rfl:j=O.length:=qZ;rw[aL];have k:(o++O.map (·.num)).length<=299000:=by rw[ad,af];omega
 generalize o++O.map (·.num)=I0 at k d|-;clear s;refine au ?_;refine Gs.look (enc:=eS) (ev:=AP) (D:=D') (x:=n) jq qw kL Ba ?_ gy;rw[Nz];refine Gs.len gR (ni n) ?_;refine Gs.l (λy:Nat×(Option Addr×Nat)=>(gI y.1,())) (λy=>(T.bd n).length - y.1) (λy=>pt q (IF r1 r2 r3 r4 (.slice none 0 0) (eM y.2 (I0++((T.bd n).take y.1).map (·.num)).length) (eM u t.length)) xj::tX (eM y.2 (I0++((T.bd n).take y.1).map (·.num)).length) (I0++((T.bd n).take y.1).map (·.num))::lX (.slice y1 O.length y2) O::vs v c l mb md A D' {T with bk:=eR T.bk n B' } (CM (eM u t.length) t::L)) (λy=>y.1<=(T.bd n).length) (0,x) rfl (aw _) ?_ ?_
 rotate_left
 ·show bL _ (pt q (IF r1 r2 r3 r4 (.slice none 0 0) (eM x (I0++[]).length) (eM u t.length)) xj::tX (eM x (I0++[]).length) (I0++[])::lX (.slice y1 O.length y2) O::vs v c l mb md A D' {T with bk:=eR T.bk n B' } (CM (eM u t.length) t::L));rw[aC];exact kz
 rintro⟨j,x⟩ hj KN s
 dsimp only at hj s|-
 refine Gs.z ?_;refine au ?_;refine Gs.I (λh=>?_) λh=>?_
 ·have N:j<(T.bd n).length:=qZ;have f:=λz=>s (j+1,z) (by dsimp only;omega) (by dsimp only;omega)
  dsimp only at f
  rw[bV N,aK,<-ag,aH,ed]at f;have k:(I0++((T.bd n).take j).map (·.num)).length<=300000:=by rw[ad,af,av];omega
  generalize I0++((T.bd n).take j).map (·.num)=I at k f|-;refine C8 (os:=T.bd n) (I:=I) (g:=x) N k (ni n) (λz=>?_);refine au ?_;exact(f z).fin
 obtain rfl:j=(T.bd n).length:=qZ;rw[aL];rw[d]at Z;have hIl:(I0++(T.bd n).map (·.num)).length<=300000:=by rw[ad,af];omega
 generalize I0++(T.bd n).map (·.num)=I at hIl Z|-;refine mdN (λhN=>?_);refine au ?_;refine Gs.mdel (enc:=eS) (ev:=AP) (x:=n) qw kL ?_ gy;refine V7 (n:=n) hN ?_;refine au ?_;refine Gs.tdn ?_;have:=Z (none,0) x u (Aq D' n) ?_ ⟨aw _,by dsimp only;omega,by dsimp only;omega⟩
 ·dsimp only[List.length_nil]at this
  exact this.fin
 ·dsimp only
  rw[w2];exact(w1.upb hb).del hN
end
end Go.Proofs
namespace Go.Proofs
open Go Go.Vc
attribute [local congr] bj
section
variable{W:Wt_}{q:Nat}{r:Rp}{sT:Vt_}
end
def Px:∀{l:List Int},(∀x∈l,0<=x)->0<=l.sum/\∀x∈l,x<=l.sum
 | [],_=>⟨by simp,by simp⟩
 |a::l,h=>by
  have d:=h a (ai ..);have⟨h2,h3⟩:=Px (l:=l) λx b=>h x (ae _ b);rw[bp];refine⟨qZ,λx b=>?_⟩;rcases aq.1 b with rfl|b
  ·omega
  ·have:=h3 x b;omega
def IQ(q:Int)(l:List Hd):(jE q l).1.length<=64/\∀h∈(jE q l).1,(0<=h.q/\h.q<=10000000)/\∃d∈l,d.acct=h.acct:=by
 unfold jE;split
 ·simp
 ·split
  ·simp
  ·split
   ·simp
   ·split
    ·simp
    ·rename_i y k z p
     have e:=BP (t:=wL q) (l:=l.map λd=>ot q d.q) (by simpa using p)
     have o:aY q (-10000000) 10000000=true:=by
      cases m:aY q (-10000000) 10000000 with
      |true=>rfl
      |false=>exact absurd (.inr (.inl m)) k
     have n:=eL.1 o;have g:wL q<=10000000:=by unfold wL;omega
     have f:=Px e.2.2.1;refine⟨?_,λh i=>?_⟩
     ·unfold sE;rw[af];exact bK (aX _ _) (by grind)
     ·unfold sE at i;obtain⟨x,u,rfl⟩:=aD.1 i;have a:=(aM.1 u).1;have b:=List.of_mem_zip a;have j:=e.2.2.1 _ b.2;have s:=f.2 _ b.2;rw[e.2.1]at s;exact⟨⟨j,by grind⟩,x.1,b.1,rfl⟩
section
variable{w:Wt_}{K:be}{v c l mb md:Nat}{A:List (Int×Nat)}{D:List (Int×Value)}{fp:Pt->Nat->Prop}{S:ba}
end
end Go.Proofs
namespace Go.Proofs
open Go Go.Vc
abbrev YO(s:Vt_)(l:List Hd):As:=ow s 394 2 l.length (l.flatMap BR)
def nHd:Tryz.prog.cellsOf 394=1+1:=cH
def ab0(x:Hd)(w:Wt_)(b off:Nat)(h:At w b off (BR x)):(iL 394 (cU b off)).run pQ w=.ok (.agg (BR x).toArray) w:=by
 obtain⟨C,e,i,hC,g⟩:=h.get;have f:=g 0 (gU x.acct) rfl;have d:=g 1 (gI x.q) rfl;simp only[bM]at f d;simp[go_sem,cO hC,f,d,BR]
abbrev qm(f l:Int)(tr:List Td):Rp:=⟨0,0,f,l,tr,[],[]⟩
abbrev Ow(p:Nat)(t:Option Addr×Nat)(f l:Int)(tr:List Td)(L:List As):List As:=pt p (IF 0 0 f l (eM t tr.length) (.slice none 0 0) (.slice none 0 0)) xj::Ey (eM t tr.length) tr::L
def tK(a:Int)(l:List Po):List Hd:=(l.filter λp=>decide (p.a≠a)).map λp=>⟨p.a,p.q⟩
def HZ(n a:Int)(long:Bool)(price:Int)(h:Hd)(l:List Hd)(f lf:Int)(tr:List Td)(S:ba):lE n a long price (h::l) (qm f lf tr) S=if(lQ S.led n a h.acct long price h.q).1≠0 then((lQ S.led n a h.acct long price h.q).1,qm f lf tr,{S with led:=(lQ S.led n a h.acct long price h.q).2})else
 lE n a long price l (qm f (lf+h.q) (tr++[⟨price,h.q,0,h.acct⟩])) {S with led:=(lQ S.led n a h.acct long price h.q).2}:=rfl
structure aj8 where
 i:Nat
 t:Option Addr×Nat
 lf:Int
 tr:List Td
 X:bq
section
variable{L L0 M:List As}{φ:WP}{K:Value->WP}{k0:WP}{v c l mb md b mw:Nat}{A:List (Int×Nat)}{D:List (Int×Value)}{S:ba}{n a:Int}{X:bq}{bd:Int->List Od}
def NJ{s:Vt_}{hs:List Hd}{q:Int}(i:hs.length<=100000)(hl:∀d∈hs,d.Fit)(g:dM q)(f:∀y,Gs (YO (eM y (jE q hs).1.length) (jE q hs).1::L) (K (.tuple #[eM y (jE q hs).1.length,gI (jE q hs).2])))(p:bL L (YO s hs::M):=by exact gy):
  Gs L (Cw pQ 278 #[.int .i64 q,s] K):=
 Gs.nw (φ:=λk=>Cw pQ _ _ k) (val:=λy:Option Addr×Nat=>.tuple #[eM y (jE q hs).1.length,gI (jE q hs).2]) (p:=λ_=>True) (B:=λy=>YO (eM y (jE q hs).1.length) (jE q hs).1) (λw y K h=>Nl (mZ p w y) i hl g λj e o m nn=>by
  obtain⟨x,y,rfl,-⟩:=o.isSl;exact h (x,y) e (aQ _) trivial ⟨o,λ_=>aI⟩ m nn) (λy _=>f y)
def P5{k:Ct}{J:Int}{long:Bool}{p pk pa:Nat}{t:Option Addr×Nat}{f lf:Int}{tr:List Td}{x1:Vt_}{x2:Value×Unit}(U:S.led.held.length<4294967295)(hn:gM k.spec.num)(hq64:dM J)(hb:(0<=lf/\lf<=1000000000000)/\tr.length<=10000)
  (C:∀t' e F T X,(if(jE J (tK a (S.led.holders k.spec.num))).2≠0 then((jE J (tK a (S.led.holders k.spec.num))).2,qm f lf tr,S)else lE k.spec.num a long k.price (jE J (tK a (S.led.holders k.spec.num))).1 (qm f lf tr) S)=(e,qm f F T,{S with led:=X})->
   (0<=F/\F<=lf+640000000)->T.length<=tr.length+64->Gs (Ow p t' f F T (vs v c l mb md A D {S with led:=X} L)) (K (gI e)))
  (pk_:bL L0 (Ow p t f lf tr (pt pk (dh k) lN::pt pa [.int .u32 a] 45::vs v c l mb md A D S L)):=by exact kz):
  Gs L0 (Mc (eE v) (gU k.spec.num) (cU pa 0) K (cU pk 0) (.bool long) (cU p 0) (gI 0,x1,x2) (gI J,())):=by
 refine Gs.pk ?_ pk_
 skip;unfold eE
 refine HE (X:=S.led) (λG=>?_);have V:∀p∈S.led.holders k.spec.num,p∈S.led.held:=λp hp=>(aM.1 hp).1;have hHl:=qh G k.spec.num;obtain⟨u,q⟩:=IQ J (tK a (S.led.holders k.spec.num));have W:∀l:List Po,(tK a l).length<=l.length:=λl=>by unfold tK;rw[af];exact aX _ _
 have Q:∀x∈tK a (S.led.holders k.spec.num),x.Fit:=λx hx=>by
  obtain⟨po,hpo,rfl⟩:=aD.1 hx;obtain⟨g1,g2,g3,g4,g5,g6,g7,ac,hac,hae⟩:=G.pos po (V po (aM.1 hpo).1);have:=G.acc ac hac;have hMP:MP=10000000:=rfl;exact⟨⟨by show 0<=po.a;omega,by show po.a<_;omega⟩,⟨by show _<=po.q;omega,by show po.q<_;omega⟩⟩
 refine Gs.z ?_;refine au ?_;intro ph;refine au ?_;refine Gs.nilF 394 2 BR (AT U λgv=>?_);generalize S.led.holders k.spec.num=H at C V hHl u q Q|-;refine Gg.rf (L:=Ow p t f lf tr (pt pk (dh k) lN::vs v c l mb md A D S L)) (λ_ _ _ _=>rfl) (IJ oC.po) (I:=λi (b:Option Addr×Nat) M=>pt ph [eM b (tK a (H.take i)).length] 392::YO (eM b (tK a (H.take i)).length) (tK a (H.take i))::pt pa [.int .u32 a] 45::M) (E:=λ(_:Unit) M=>M) (λ_ _ _=>rfl) (λ_ _=>rfl) (λi b=>True) (λ_ _=>False) (none,0) trivial ?_ ?_ (λ_ _ _ (h:False)=>h.elim) ?_
 ·rintro i hi x - l1 r1 q1 M kn kj o -;have g:=W (H.take i);rw[av]at g
  have hs:tK a (H.take (i+1))=tK a (H.take i)++if H[i].a=a then []else [⟨H[i].a,H[i].q⟩]:=by
   unfold tK;rw[bV hi,cj,aK];by_cases h:H[i].a=a<;>simp[h]
  rw[hs]at o;generalize H[i]=po at o|-;generalize tK a (H.take i)=I at g o|-;unfold dR;refine au ?_;refine Gs.Ib (λh=>?_) λh=>?_
  ·rw[aa (by simpa using h)]at o;refine au ?_;refine Gs.push (x:=(⟨po.a,po.q⟩:Hd)) (f:=BR) (l:=I) UK eHd (λ_=>rfl) rfl rfl qZ qZ (λz1 z2=>?_) gy;refine au ?_;exact(o (z1,z2) _ trivial).fin
  ·grind
 ·rintro x0 d -;rw[aL];have g:=W H;generalize tK a H=O at g C u q Q|-
  skip
  refine Gs.ak (au ?_);refine NJ (hs:=O) qZ Q hq64 (λy=>?_);generalize jE J O=X at u q C|-;obtain⟨P,e⟩:=X
  dsimp only at u q C|-
  refine au ?_;refine Gs.Ib (λR=>?_) λR=>?_
  ·rw[ab (by simpa using R)]at C;refine Gs.tw ?_;exact(C t e lf tr S.led rfl qZ qZ).fin
  rw[aa (by simpa using R)]at C;refine au ?_;refine Gs.fin (M:=YO (eM y P.length) P::pt pk (dh k) lN::pt pa [.int .u32 a] 45::HA d::Ow p t f lf tr (vs v c l mb md A D S L)) ?_
  refine Gs.l (λx:aj8=>(gI 0,gI x.i,())) (λx=>P.length - x.i) (λx=>YO (eM y P.length) P::pt pk (dh k) lN::pt pa [.int .u32 a] 45::HA d::Ow p x.t f x.lf x.tr (vs v c l mb md A D {S with led:=x.X} L))
   (λx=>x.i<=P.length/\lE k.spec.num a long k.price P (qm f lf tr) S=lE k.spec.num a long k.price (P.drop x.i) (qm f x.lf x.tr) {S with led:=x.X}/\(0<=x.lf/\x.lf<=lf+10000000*x.i)/\x.tr.length<=tr.length+x.i) ⟨0,t,lf,tr,S.led⟩ rfl ⟨aw _,rfl,by dsimp only;omega,by dsimp only;omega⟩ ?_ .refl
  rintro⟨j,t,N,r,X⟩ ⟨h1,m,h3,h4⟩ KN Z
  skip
  dsimp only at h1 m h3 h4 Z|-
  refine Gs.z (au ?_);refine Gs.I (λh=>?_) λh=>?_
  ·have s:j<P.length:=qZ;have hhb:=(q _ (ar s)).1;rw[<-bR s]at m;refine Gs.it (f:=BR) UK nHd (λ_=>rfl) ab0 (λw y=>mZ gy w y) rfl s ?_;generalize P[j]=B at hhb m|-;rw[HZ]at m;unfold BR;refine au ?_;intro r1;refine au ?_;refine Gs.X (λw z=>eG gy Dq qp (bC _) w z) ?_;refine au ?_;refine GC (S:={S with led:=X}) hn ?_
   dsimp only at m|-
   generalize lQ X k.spec.num a B.acct long k.price B.q=Y at m|-;obtain⟨e,Y⟩:=Y
   dsimp only at m|-
   refine au ?_;refine Gs.Ib (λR=>?_) λR=>?_
   ·rw[ab (by simpa using R)]at m;refine Gs.tw ?_;exact(C t e N r Y m qZ qZ).fin
   rw[aa (by simpa using R)]at m;refine au ?_;refine Gs.lit1 JL eTd (cs:=Gv ⟨k.price,B.q,0,B.acct⟩) rfl rfl qZ λb=>?_;refine au ?_;refine Gs.snd (l:=r) (x:=(⟨k.price,B.q,0,B.acct⟩:Td)) (f:=Gv) JL eTd rfl qZ (λz1 z2=>?_);refine au ?_;exact(Z ⟨j+1,(z1,z2),N+B.q,r++[⟨k.price,B.q,0,B.acct⟩],Y⟩ ⟨s,m,by dsimp only;omega,by dsimp only;rw[ad];simp only[aR,List.length_nil];omega⟩ (by dsimp only;omega)).fin
  ·obtain rfl:j=P.length:=qZ;rw[cg (aB _)]at m;refine Gs.tw ?_;exact(C t 0 N r X m qZ qZ).fin
 ·simp only[YO,bS,tK,ey,ed,List.length_nil,bo];exact kz
end
end Go.Proofs
namespace Go.Proofs
open Go Go.Vc
attribute [local congr] bj
def YK{w:Wt_}{p:Nat}{f:Fl}(h:hC w p (Mw f).toArray 390)(l:List Od):Ez w (.func (.func 277) #[] #[.pointer (some ⟨p,0,none⟩)]) (λo=>decide (o.num=f.num)) l:=by
 refine⟨_,_,rfl,λo k W g K j=>?_⟩;refine cN Tryz.func277 ?_;obtain⟨a,e,i,b⟩:=tQ o W;apply dy e;have d:=b.hpk (g.hpk h id) id;unfold Mw at d;refine az (cU W.heap.size 0) a (by simp[go_sem]) (az (gQ o.num) a (by simp[go_sem,i,dp]) ?_);refine az (cU p 0) a (by simp[go_sem]) (az (gQ f.num) a (by simp[go_sem,d]) ?_);apply az (.bool (decide (o.num=f.num))) a (by simp[go_sem];rfl);exact j a b
def Ej{l:List Od}{num qty:Int}{o:Od}(b:o∈l)(g:o.num≠num):o∈kB l num qty:=by
 unfold kB;cases k:l.findIdx? λo=>decide (o.num=num)with
 |none=>exact b
 |some i=>
  obtain⟨d,a,-⟩:=bg.1 k;rw[ax]at a;obtain⟨j,m,rfl⟩:=bI b;have f:j≠i:=λe=>g (by subst e;exact a);simp only;split
  ·rcases EA (ao d) b with h|h
   ·grind
   ·exact h
  ·refine List.mem_iff_getElem.2 ⟨j,by grind,?_⟩;rw[List.getElem_set_ne (λe=>f e.symm)]
def SP(sells:Bool)(qty:Int)(l:List Od):(ij sells qty l).2.1.length<=50:=by
 have key:∀l q p,(kE q l p).1.length<=l.length:=by
  intro l;induction l with
  |nil=>intro q p;simp[kE]
  |cons o l a=>
   intro q p;unfold kE;split
   ·simp
   ·grind
 unfold ij;split
 ·simp
 ·split
  ·simp
  ·rename_i e b
   have f:=key (Srt.stable (qv (nN sells)) l) qty 0;have d:=(Srt.stable_perm (qv (nN sells)) l).length_eq;simp only;omega
section
variable{w:Wt_}{K:be}{v c l mb md:Nat}{A:List (Int×Nat)}{D:List (Int×Value)}{fp:Pt->Nat->Prop}{S:ba}
def GQ(k:Ct)(a:Int)(long:Bool)(price left:Int)(Fs:List Fl)(r:Rp)(S:ba):Int×Rp×ba:=
 let f:=lq k.spec.num a long price Fs left r S
 if f.1≠0 then(f.1,f.2.2.1,f.2.2.2)
 else if f.2.1=0 then(0,f.2.2.1,f.2.2.2)
 else
  let p:=jE (if long then f.2.1 else -f.2.1) (((f.2.2.2.led.holders k.spec.num).filter λp=>decide (p.a≠a)).map λp=>⟨p.a,p.q⟩)
  if p.2≠0 then(p.2,f.2.2.1,f.2.2.2)else lE k.spec.num a long k.price p.1 f.2.2.1 f.2.2.2
def Vh(S:ba)(k:Ct)(a q:Int)(r:Rp):S.sell k a q r=if(ij (decide (0<q)) (max q (-q)) ((S.bd k.spec.num).filter λo=>o.buy==decide (0<q))).2.2≠0 then((ij (decide (0<q)) (max q (-q)) ((S.bd k.spec.num).filter λo=>o.buy==decide (0<q))).2.2,r,S)else
  GQ k a (decide (0<q)) (ij (decide (0<q)) (max q (-q)) ((S.bd k.spec.num).filter λo=>o.buy==decide (0<q))).1 (max q (-q)) (ij (decide (0<q)) (max q (-q)) ((S.bd k.spec.num).filter λo=>o.buy==decide (0<q))).2.1 r S:=rfl
end
end Go.Proofs
