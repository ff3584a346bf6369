/- Part of a proof. -/
import Derived.Test.YtekbnpagidkbbaaGreatT21
set_option linter.all false
set_option maxRecDepth 100000
set_option maxHeartbeats 4000000
namespace Go.Proofs
open Go Go.Vc
abbrev flA(s:Vt_)(l:List Fl):As:=ow s 390 3 l.length (l.flatMap Mw)
def nFl:Tryz.prog.cellsOf 390=2+1:=cH
def ZX(x:Fl)(w:Wt_)(b off:Nat)(h:At w b off (Mw x)):(iL 390 (cU b off)).run pQ w=.ok (.agg (Mw x).toArray) w:=by
 obtain⟨C,e,j,hC,d⟩:=h.get;have i:=d 0 (gQ x.num) rfl;have g:=d 1 (gU x.acct) rfl;have f:=d 2 (gI x.qty) rfl;simp only[bM]at i g f;simp[go_sem,cO hC,i,g,f,Mw]
def Hu(n a:Int)(long:Bool)(price:Int)(x:Fl)(l:List Fl)(left f lf:Int)(tr:List Td)(S:ba):lq n a long price (x::l) left (qm f lf tr) S=if(lQ S.led n a x.acct long price x.qty).1≠0 then((lQ S.led n a x.acct long price x.qty).1,left,qm f lf tr,{S with led:=(lQ S.led n a x.acct long price x.qty).2})else
 lq n a long price l (left - x.qty) (qm (f+x.qty) lf (tr++[⟨price,x.qty,x.num,x.acct⟩])) {S with led:=(lQ S.led n a x.acct long price x.qty).2,bd:=eR S.bd n (kB (S.bd n) x.num x.qty)}:=rfl
structure an9 where
 i:Nat
 t:Option Addr×Nat
 D:List (Int×Value)
 left:Int
 f:Int
 tr:List Td
 S:ba
attribute [go_sem] Mw
section
variable{L L0 M:List As}{φ:WP}{K:Value->WP}{k0:WP}{v c l mb md b mw:Nat}{A:List (Int×Nat)}{D:List (Int×Value)}{S:ba}{n a:Int}{X:bq}{bd:Int->List Od}{s:Vt_}{os:List Od}
def Gs.itW{i:Nat}{x:Int}(hi:i<os.length)(B:Gs (lX s (os.set i {os[i]with left:=x})::M) k0)(p:bL L (lX s os::M):=by exact gy):
  Gs L (Pw pQ (iX tZ s (gI (i:Int))) λp=>Pw pQ (iF kQ p 4) λq=>Uw pQ (iS 2 q (gI x)) k0):=⟨λw ⟨F,z⟩=>by
 obtain⟨G,u,⟨C,d⟩,t,j⟩:=Ss.cons.1 (⟨F,(p.out w F).1 z⟩:Ss w (lX s os::M));obtain⟨r,k,I,e,h,g,H,f,o,m⟩:=sZ.setLeft C hi x;refine eQ (cU r (i*5)) (λW=>by rw[e];simp[go_sem,hi,bQ,gR]) ?_;refine eQ (cU r (i*5+4)) (λ_=>by simp[go_sem,bQ]) ?_;refine lO f (B.go I (Ss.cons.2 ⟨G,u,⟨o,d⟩,t.md m λy E J=>j y ((d y).2 J) E,j⟩))⟩
def Gs.itLV{k:Value->WP}{i n:Nat}(t:∀w,Ss w L->Rd w 5 s n (os.flatMap dp))(h:n=os.length)(hi:i<os.length)(m:Gs L (k (gI os[i].left))):Gs L (Vw pQ (iX tZ s (gI (i:Int))) λp=>Vw pQ (iF kQ p 4) λq=>Vw pQ (iL 2 q) k):=⟨λw y=>by
 obtain⟨b,e,o,f,g,r⟩:=(t w y).item dH hi h;obtain⟨C,x,u,hC,j⟩:=r.get;have d:=j 4 _ rfl;rw[fd]at d;refine az (cU b (e+i*5)) w (by rw[f];subst h;simp[go_sem,hi,bQ,gR]) ?_;refine az (cU b (e+i*5+4)) w (by simp[go_sem,bQ]) (az (gI os[i].left) w (by simp[go_sem,hC,d]) (m.go w y))⟩
def TP(o:Gs (tq D (eR bd n os)::M) φ)(p:bL L (lX (ly D n) os::T0 (·≠n) D bd::M):=by exact kz):Gs L φ:=⟨λw ⟨F,z⟩=>by
 obtain⟨y,E,⟨t,i⟩,⟨j,F3,q,B,r,u⟩,C,G⟩:=(p.out w F).1 z;have no:∀{m x},m≠n->aQ (ly D m) x->¬aQ (ly D n) x:=λd e g=>C _ ((i _).2 g) ((u _).2 (.inl ((q.f _).2 ⟨_,d,e⟩)));refine o.go w (Ss.cons.2 ⟨λx=>y x\/j x,F3,⟨λm _=>?_,λm k x _ _=>?_,λx=>?_⟩,B,λx e g=>?_⟩)
 ·by_cases d:m=n
  ·subst d;simpa [cQ]using t
  ·rw[eT _ _ _ d];exact q.q m d
 ·by_cases d:m=n<;>by_cases f:k=n
  ·simp[d,f]
  ·grind
  ·grind
  ·exact q.dj m k x d f
 ·rw[q.f,i];constructor
  ·rintro(h|⟨m,d,e⟩)
   ·grind
   ·grind
  ·rintro⟨m,-,e⟩;by_cases d:m=n
   ·subst d;exact .inl e
   ·grind
 ·rcases e with e|e
  ·grind
  ·exact r x e g⟩
def ab7{l:List Od}{x:Od}{m:Int}(e:(l.map (·.num)).Nodup)(p:x∈l)(j:x.num=m):∃i,∃h:i<l.length,l.findIdx? (λo=>decide (o.num=m))=some i/\l[i]=x:=by
 cases d:l.findIdx? (λo=>decide (o.num=m))with
 |none=>
  rw[du]at d;have:=d x p;rw[fQ]at this;exact absurd j this
 |some i=>
  obtain⟨f,g,-⟩:=bg.1 d;rw[ax]at g;refine⟨i,f,rfl,?_⟩;have k:=jZ e (ar f);have q:=jZ e p;rw[g,<-j,q]at k;exact(cM k).symm
def PW{k:Ct}{d price:Int}{long:Bool}{p pk pa:Nat}{t:Option Addr×Nat}{f lf:Int}{tr:List Td}{sf:Vt_}{r:List Fl}(hv:nQ A D S.cal.l S.bk)(hok:S.Ok)(hal:bt S.cal.l k.spec.num=0)(hn:gM k.spec.num)
  (hl0:0<=d/\d<=10000000)(hFl:r.length<=50)(hFn:(r.map (·.num)).Nodup)(hFb:∀f∈r,1<=f.qty/\∃b∈S.bd k.spec.num,b.num=f.num/\f.qty<=b.left)
  (hb:((0<=lf/\lf<=100000000000)/\0<=f/\f<=100000000000)/\tr.length<=5000)
  (hK:∀t' D' e f' G Q T,GQ k a long price d r (qm f lf tr) S=(e,qm f' G Q,T)->nQ A D' T.cal.l T.bk->((0<=G/\G<=lf+640000000)/\0<=f' /\f' <=f+50000000)/\Q.length<=tr.length+114->Gs (Ow p t' f' G Q (vs v c l mb md A D' T L)) (K (gI e)))
  (pk_:bL L0 (flA sf r::Ow p t f lf tr (pt pk (dh k) lN::pt pa [.int .u32 a] 45::vs v c l mb md A D S L)):=by exact kz):
  Gs L0 (Lw (TA (gI (r.length:Int)) sf (cU pk 0) (cU pa 0) (eE v) (.bool long) (gI price) K (cU p 0) (gU k.spec.num)) (gI 0,gI d,gI 0,())):=by
 refine Gs.pk ?_ pk_
 refine Gs.l (λx:an9=>(gI 0,gI x.left,gI x.i,())) (λx=>r.length - x.i) (λx=>flA sf r::Ow p x.t x.f lf x.tr (pt pk (dh k) lN::pt pa [.int .u32 a] 45::vs v c l mb md A x.D x.S L))
  (λx=>x.i<=r.length/\lq k.spec.num a long price (r.drop x.i) x.left (qm x.f lf x.tr) x.S=lq k.spec.num a long price r d (qm f lf tr) S/\nQ A x.D S.cal.l x.S.bk/\x.S.Ok/\x.S.cal=S.cal/\(∀f∈r.drop x.i,∃b∈x.S.bd k.spec.num,b.num=f.num/\f.qty<=b.left)/\(d - 1000000*x.i<=x.left/\x.left<=d)/\(0<=x.f/\x.f<=f+1000000*x.i)/\x.tr.length<=tr.length+x.i)
  ⟨0,t,D,d,f,tr,S⟩ rfl ⟨aw _,rfl,hv,hok,rfl,λf hf=>(hFb f hf).2,by dsimp only;omega,by dsimp only;omega,by dsimp only;omega⟩ ?_ .refl
 rintro⟨j,t,D,left,f1,q,m⟩ ⟨h1,C,h3,R,h5,h6,h7,h8,h9⟩ KN hKN
 skip;unfold eE
 dsimp only at h1 C h3 R h5 h6 h7 h8 h9 hKN|-
 have hal1:bt m.cal.l k.spec.num=0:=by rw[h5];exact hal
 refine Gs.z (au ?_);refine Gs.I (λh=>?_) λh=>?_
 ·have U:j<r.length:=qZ;have hdrop:=(bR U).symm;have hfb:=(hFb _ (ar U)).1;have V:=hFn.sublist ((List.drop_sublist j r).map (·.num));rw[hdrop]at C h6 V;obtain⟨u,hb0,O,hb0q⟩:=h6 _ ai;refine Gs.it (f:=Mw) ai9 nFl (λ_=>rfl) ZX (λw y=>mZ gy w y) rfl U ?_;generalize r[j]=x at hfb C h6 V O hb0q|-;rw[aH,bO]at V;have hb0l:=jm (R.ord.bdMay _ u hb0);rw[Hu]at C;refine au ?_;intro r1;refine au ?_;refine Gs.X (λw z=>eG gy Dq qp (bC _) w z) ?_;refine au ?_;refine GC (S:=m) hn ?_;have E:({m with led:=(lQ m.led k.spec.num a x.acct long price x.qty).2}:ba).Ok:=EV R hal1;generalize lQ m.led k.spec.num a x.acct long price x.qty=Y at C E|-;obtain⟨e,Y⟩:=Y
  dsimp only at C E|-
  refine au ?_;refine Gs.Ib (λhe=>?_) λhe=>?_
  ·rw[ab (by simpa using he)]at C;refine(hK t D e f1 lf q {m with led:=Y} ?_ (by rw[h5];exact h3) ⟨⟨qZ,qZ,qZ⟩,qZ⟩).fin;unfold GQ;rw[<-C]
   dsimp only
   rw[ab (by simpa using he)]
  rw[aa (by simpa using he)]at C;refine au ?_;refine Gs.lit1 JL eTd (cs:=Gv ⟨price,x.qty,x.num,x.acct⟩) rfl rfl qZ λb=>?_;refine au ?_;refine Gs.snd (l:=q) (x:=(⟨price,x.qty,x.num,x.acct⟩:Td)) (f:=Gv) JL eTd rfl qZ (λz1 z2=>?_);refine au ?_;refine Gs.look (enc:=eS) (ev:=AP) (D:=D) (x:=k.spec.num) jq qw kL Ba ?_ gy;rw[Nz];obtain⟨i,W,hix,hib⟩:=ab7 (R.ord.bdNd k.spec.num) hb0 O;have hbl:=R.ord.bdl k.spec.num;refine Ip (os:=m.bd k.spec.num) (f:=λo=>decide (o.num=x.num)) (ni k.spec.num) (λw y=>YK (nW gy y) _) qZ ?_;rw[show qE (m.bd k.spec.num) (λo=>decide (o.num=x.num))=(i:Int) by unfold qE;rw[hix]]
  have F:kB (m.bd k.spec.num) x.num x.qty=if u.left - x.qty=0 then(m.bd k.spec.num).eraseIdx i else(m.bd k.spec.num).set i {u with left:=u.left - x.qty}:=by
   unfold kB;rw[hix]
   dsimp only
   rw[show(m.bd k.spec.num).getD i ou=u by rw[<-hib];simp[W]]
  have hqb:∀o∈m.bd k.spec.num,o.num=x.num->x.qty<=o.left:=λo ho he=>by
   have h1:=jZ (R.ord.bdNd k.spec.num) ho;have C:=jZ (R.ord.bdNd k.spec.num) hb0;rw[he,<-O,C]at h1;rw[<-cM h1];exact hb0q
  have Z:=ba.Ok.setBd E (Bc (l:=m.bd k.spec.num) (λo ho=>R.ord.bdMay _ o ho) hfb hqb).1
  have I:∀g∈r.drop (j+1),∃b∈eR m.bd k.spec.num (kB (m.bd k.spec.num) x.num x.qty) k.spec.num,b.num=g.num/\g.qty<=b.left:=λg hg=>by
   obtain⟨b,hb1,hb2,hb3⟩:=h6 g (ae _ hg);refine⟨b,?_,hb2,hb3⟩;rw[cQ];refine Ej hb1 λe=>V.1 (by rw[<-e,hb2];exact aV hg)
  have N:=λD' hv' =>hKN ⟨j+1,(z1,z2),D',left - x.qty,f1+x.qty,q++[⟨price,x.qty,x.num,x.acct⟩],{m with led:=Y,bd:=eR m.bd k.spec.num (kB (m.bd k.spec.num) x.num x.qty)}⟩
   ⟨U,C,hv',Z,h5,I,by dsimp only;omega,by dsimp only;omega,by dsimp only;rw[ad];simp only[aR,List.length_nil];omega⟩ (by dsimp only;omega)
  have hsm:=pD hal1;rw[h5]at hsm
  dsimp only at N
  generalize kB (m.bd k.spec.num) x.num x.qty=B at F N;generalize q++[(⟨price,x.qty,x.num,x.acct⟩:Td)]=tr2 at N|-;clear I Z hKN E C hqb
  dsimp only
  refine au ?_;refine Gs.WX CI ?_;refine vg (n:=k.spec.num) ?_;refine Gs.itL (os:=m.bd k.spec.num) (λw y=>mZ gy w y) rfl W ?_;rw[hib];refine au ?_;refine Gs.itW (os:=m.bd k.spec.num) W ?_;rw[hib];have H:i<((m.bd k.spec.num).set i {u with left:=u.left - x.qty}).length:=by rw[aZ];exact W
  have hi2:((m.bd k.spec.num).set i {u with left:=u.left - x.qty})[i]={u with left:=u.left - x.qty}:=by simp
  have hl2:((m.bd k.spec.num).set i {u with left:=u.left - x.qty}).length<=50:=by rw[aZ];exact hbl
  have he2:((m.bd k.spec.num).set i {u with left:=u.left - x.qty}).eraseIdx i=(m.bd k.spec.num).eraseIdx i:=List.eraseIdx_set_eq;generalize(m.bd k.spec.num).set i {u with left:=u.left - x.qty}=B2 at F H hi2 hl2 he2|-;refine au ?_;refine Gs.look (enc:=eS) (ev:=AP) (D:=D) (x:=k.spec.num) jq qw kL Ba ?_ gy;rw[Nz];refine Gs.itLV (os:=B2) (λw y=>mZ gy w y) rfl H ?_;rw[hi2]
  dsimp only
  refine au ?_;refine Gs.Ib (λhz=>?_) λhz=>?_
  ·rw[ab (by simpa using hz)]at F;refine au ?_;refine Gs.WX CI ?_;refine au ?_;rw[show(i:Int)+1=((i+1:Nat):Int) by omega];refine C2 (os:=B2) (dv i) H qZ (λs' =>?_);rw[Is,he2,<-F];refine au ?_;refine Gs.mup (enc:=eS) (ev:=AP) (x:=k.spec.num) (v:=s') qw kL ?_ gy;refine yO (n:=k.spec.num) ?_;refine au ?_;exact(N _ (h3.put (s:=s') hsm)).fin
  ·rw[aa (by simpa using hz)]at F;rw[<-F];refine TP (n:=k.spec.num) ?_;refine au ?_;exact(N D h3).fin
 ·obtain rfl:j=r.length:=qZ;rw[cg (aB _)]at C
  have P:GQ k a long price d r (qm f lf tr) S=if left=0 then(0,qm f1 lf q,m)else
    if(jE (if long then left else -left) (tK a (m.led.holders k.spec.num))).2≠0 then((jE (if long then left else -left) (tK a (m.led.holders k.spec.num))).2,qm f1 lf q,m)else lE k.spec.num a long k.price (jE (if long then left else -left) (tK a (m.led.holders k.spec.num))).1 (qm f1 lf q) m:=by
   unfold GQ;rw[<-C];rfl
  refine au ?_;refine Gs.Ib (λh=>?_) λh=>?_
  ·rw[ab (by simpa using h)]at P;exact(hK t D 0 f1 lf q m P (by rw[h5];exact h3) ⟨⟨qZ,qZ,qZ⟩,qZ⟩).fin
  rw[aa (by simpa using h)]at P;refine Gs.j1 (gI (if long then left else -left),()) (λJ hJ=>?_) ?_
  ·cases long
   all_goals
    refine au ?_;exact hJ
  have hheld:m.led.held.length<4294967295:=by have:=sL R.cal R.led;omega
  refine P5 (t:=t) (f:=f1) (lf:=lf) (tr:=q) (S:=m) hheld hn (by constructor<;>split<;>omega) ⟨qZ,qZ⟩ (λt' e G Q X he w1 w2=>?_);rw[he]at P;exact(hK t' D e f1 G Q _ P (by rw[h5];exact h3) ⟨⟨qZ,qZ,qZ⟩,qZ⟩).fin
end
end Go.Proofs
namespace Go.Proofs
open Go Go.Vc
attribute [local congr] bj
def GO{L:bq}(h:L.Ok)(c a:Int): -10000000<=(L.position c a).q/\(L.position c a).q<=10000000:=by
 unfold bq.position;cases d:L.pos? (c,a)with
 |none=>exact⟨by grind,by grind⟩
 |some p=>
  have b:=dt d;have:=h.pos p b;have e:MP=10000000:=rfl;exact⟨by grind,by grind⟩
section
variable{w:Wt_}{K:be}{v c l mb md:Nat}{A:List (Int×Nat)}{D:List (Int×Value)}{fp:Pt->Nat->Prop}{S:ba}
end
end Go.Proofs
namespace Go.Proofs
open Go Go.Vc
structure LqI where
 t:Option Addr×Nat
 D:List (Int×Value)
 e:Int
 f:Int
 lf:Int
 tr:List Td
 S:ba
def Jl(a:Int)(k:Ct)(l:List Ct)(r:Rp)(S:ba):og a (k::l) r S=if(S.led.position k.spec.num a).q=0 then og a l r S else if(S.sell k a (S.led.position k.spec.num a).q r).1≠0 then S.sell k a (S.led.position k.spec.num a).q r else og a l (S.sell k a (S.led.position k.spec.num a).q r).2.1 (S.sell k a (S.led.position k.spec.num a).q r).2.2:=rfl
section
variable{L L0 M:List As}{φ:WP}{K:Value->WP}{k0:WP}{v c l mb md b mw:Nat}{A:List (Int×Nat)}{D:List (Int×Value)}{S:ba}{n a:Int}{X:bq}{bd:Int->List Od}{s:Vt_}{os:List Od}
def OH{sells:Bool}{qty:Int}(g:os.length<=1000000)(hl:∀o∈os,o.Fit)(f:dM qty)(e:∀y,Gs (flA (eM y (ij sells qty os).2.1.length) (ij sells qty os).2.1::L) (K (.tuple #[.int .i64 (ij sells qty os).1,eM y (ij sells qty os).2.1.length,gI (ij sells qty os).2.2])))(p:bL L (lX s os::M):=by exact gy):
  Gs L (Cw pQ 275 #[.bool sells,gI qty,s] K):=
 Gs.nw (φ:=λk=>Cw pQ _ _ k) (val:=λy:Option Addr×Nat=>.tuple #[.int .i64 (ij sells qty os).1,eM y (ij sells qty os).2.1.length,gI (ij sells qty os).2.2]) (p:=λ_=>True) (B:=λy=>flA (eM y (ij sells qty os).2.1.length) (ij sells qty os).2.1) (λw y K h=>Se (mZ p w y) g hl f λi d o m nn=>by
  obtain⟨x,y,rfl,-⟩:=o.isSl;exact h (x,y) d (aQ _) trivial ⟨o,λ_=>aI⟩ m nn) (λy _=>e y)
def QZ{k:Ct}{q:Int}{p:Nat}{t:Option Addr×Nat}{f lf:Int}{tr:List Td}(hv:nQ A D S.cal.l S.bk)(w:S.Ok)(U:bt S.cal.l k.spec.num=0)(hq: -10000000<=q/\q<=10000000)
  (J:((0<=lf/\lf<=100000000000)/\0<=f/\f<=100000000000)/\tr.length<=5000)
  (hK:∀W V e F u z T,S.sell k a q (qm f lf tr)=(e,qm F u z,T)->nQ A V T.cal.l T.bk->((0<=u/\u<=lf+640000000)/\0<=F/\F<=f+50000000)/\z.length<=tr.length+114->Gs (Ow p W F u z (vs v c l mb md A V T L)) (K (gI e)))
  (Z:bL L0 (Ow p t f lf tr (vs v c l mb md A D S L)):=by exact kz):Gs L0 (Cw pQ 223 #[eE v,.agg (dh k).toArray,gU a,gI q,.pointer (some ⟨p,0,none⟩)] K):=by
 refine Gs.pk ?_ Z;refine sN Tryz.func223 ?_;unfold eE;have hbl:=w.ord.bdl k.spec.num;have hn:gM k.spec.num:=mN w.cal U;have Q:0<=max q (-q)/\max q (-q)<=10000000:=qZ;have d:=Vh S k a q (qm f lf tr);refine au ?_;intro pk;refine au ?_;intro pa;refine au ?_;generalize decide (0<q)=i at d|-;generalize max q (-q)=qty at Q d|-;refine Gs.look (enc:=eS) (ev:=AP) (D:=D) (x:=k.spec.num) jq qw kL Ba ?_ gy;rw[Nz];refine Gs.len gR (ni k.spec.num) ?_;refine Gs.nil kQ 5 ?_;obtain⟨g,G⟩:=dW (λl=>l.filter λo=>o.buy==i:List Od->List Od);have O:g []=[]:=by rw[G];rfl
 have P:∀l,(g l).length<=l.length:=λl=>by rw[G];exact aX _ _
 refine Gs.l (λx:Nat×Option Addr×Nat=>(eM x.2 (g ((S.bd k.spec.num).take x.1)).length,gI x.1,())) (λx=>(S.bd k.spec.num).length - x.1) (λx=>lX (eM x.2 (g ((S.bd k.spec.num).take x.1)).length) (g ((S.bd k.spec.num).take x.1))::pt pa [.int .u32 a] 45::pt pk (dh k) lN::Ow p t f lf tr (vs v c l mb md A D S L)) (λx=>x.1<=(S.bd k.spec.num).length) (0,none,0) (by rw[bS,O];rfl) (aw _) ?_ (by rw[bS,O];exact .refl);rintro⟨j,x⟩ hj KN N
 dsimp only at hj N|-
 refine Gs.z (au ?_);refine Gs.I (λh=>?_) λh=>?_
 ·have H:j<(S.bd k.spec.num).length:=qZ
  have Y:g ((S.bd k.spec.num).take (j+1))=g ((S.bd k.spec.num).take j)++if(S.bd k.spec.num)[j].buy==i then [(S.bd k.spec.num)[j]]else []:=by
   rw[bV H,G]
   dsimp only
   rw[cj,List.filter_cons,ey]
  have m:=λy=>N (j+1,y) (by dsimp only;omega) (by dsimp only;omega);have r:=P ((S.bd k.spec.num).take j);rw[av]at r
  dsimp only at m
  rw[Y]at m;refine Gs.it gR Nt dH OA (ni k.spec.num) rfl H ?_;generalize(S.bd k.spec.num)[j]=o at m|-;generalize g ((S.bd k.spec.num).take j)=I at r m|-;refine au ?_;intro r1;refine au ?_;refine Gs.Ib (λJ=>?_) λJ=>?_
  ·rw[ab J]at m;refine au ?_;refine Gs.push (x:=o) (f:=dp) (l:=I) gR Ny dH (lR o) rfl qZ qZ (λz1 z2=>?_) gy;refine au ?_;exact(m (z1,z2)).fin
  ·rw[aa (by rw[J];decide),aC]at m;refine au ?_;exact(m x).fin
 obtain rfl:j=(S.bd k.spec.num).length:=qZ;rw[aL];have B:∀o∈g (S.bd k.spec.num),o∈S.bd k.spec.num:=λo E=>by rw[G]at E;exact(aM.1 E).1
 have R:((g (S.bd k.spec.num)).map (·.num)).Nodup:=(w.ord.bdNd k.spec.num).sublist (by rw[G];exact ep.map _);have r:=P (S.bd k.spec.num);rw[show((S.bd k.spec.num).filter λo=>o.buy==i)=g (S.bd k.spec.num) by rw[G]]at d;generalize g (S.bd k.spec.num)=I at B R r d|-;refine au ?_;refine OH (os:=I) qZ (λo E=>(w.ord.std _ o (iV (B o E))).fit) (by constructor<;>omega) (λy=>?_);obtain⟨f1,f2,-⟩:=B4 (sells:=i) (qty:=qty) (l:=I) (λo E=>w.ord.bdMay _ o (B o E)) qZ;have C:=SP i qty I;generalize ij i qty I=X at d f1 f2 C|-;obtain⟨pr,Fs,e⟩:=X
 dsimp only at d f1 f2 C|-
 refine au ?_;refine Gs.Ib (λhe=>?_) λhe=>?_
 ·rw[ab (by simpa using he)]at d;exact(hK t D e f lf tr S d hv ⟨⟨qZ,qZ,qZ⟩,qZ⟩).fin
 rw[aa (by simpa using he)]at d;refine au ?_;refine PW (S:=S) (t:=t) (f:=f) (lf:=lf) (tr:=tr) hv w U hn Q C (f2 R) (λx hx=>⟨(f1 x hx).1,?_⟩) J (λW V e' F u z T h1 h2 h3=>?_)
 ·grind
 ·rw[h1]at d;exact(hK W V e' F u z T d h2 h3).fin
def CJ{ac:Ac}(hv:nQ A D S.cal.l S.bk)(N:S.Ok)(F:SD v c l mb md A (S.liquidate ac) L K)(pk:bL L0 (vs v c l mb md A D S L):=by exact kz):Gs L0 (Cw pQ 146 #[eE v,jG ac] K):=by
 refine Gs.pk ?_ pk;refine sN Tryz.func146 ?_;unfold eE;have j:S.liquidate ac=if ac.dfl=false then(162,jo,S)else og ac.num S.cal.l jo S:=rfl
 refine au ?_;intro p0;refine au ?_;intro p2;refine au ?_;intro V;refine au ?_;intro W;refine au ?_;refine Gs.Ib (λh=>?_) λh=>?_
 ·rw[ab (by simpa using h)]at j;refine au ?_;exact F.fail j (D:=D) hv
 rw[aa (by simpa using h)]at j;refine au ?_;refine Gs.tdn (uW (λgv=>?_));have hcl:=N.cal.len
 refine Gg.rf (L:=L) (λ_ _ _ _=>rfl) (Ec _) (I:=λi (b:LqI) M=>Wn W 0::pt p2 (Zs ac) 100::Zv p0 v::Ow V b.t b.f b.lf b.tr (vs v c l mb md A b.D b.S M)) (E:=λ(b:LqI) M=>Wn W b.e::Ow V b.t b.f b.lf b.tr (vs v c l mb md A b.D b.S M)) (λ_ _ _=>rfl) (λ_ _=>rfl)
  (λi b=>og ac.num (S.cal.l.drop i) (qm b.f b.lf b.tr) b.S=S.liquidate ac/\nQ A b.D S.cal.l b.S.bk/\b.S.Ok/\b.S.cal=S.cal/\((0<=b.lf/\b.lf<=640000000*i)/\0<=b.f/\b.f<=50000000*i)/\b.tr.length<=114*i) (λcd b=>cd=.ret/\S.liquidate ac=(b.e,qm b.f b.lf b.tr,b.S)/\nQ A b.D S.cal.l b.S.bk/\b.S.cal=S.cal/\b.tr.length<=10000) ⟨(none,0),D,0,0,0,[],S⟩ ⟨j.symm,hv,N,rfl,by dsimp only;omega,aw _⟩ ?_ ?_ ?_ ?_
 ·rintro i hi ⟨t,C,e1,f,lf,tr,y⟩ ⟨g,p,x,m,R,Z⟩ l1 r1 q1 M kn kj u J
  dsimp only at g p x m R Z u J|-
  rw[<-bR hi,Jl]at g;generalize S.cal.l[i]=k at g|-;refine au ?_;refine rJ ?_;have B:=GO x.led.led k.spec.num ac.num;have o:=λh:(y.led.position k.spec.num ac.num).q≠0=>D4 x h;generalize y.led.position k.spec.num ac.num=Q at g B o|-;refine au ?_;refine Gs.Ib (λP=>?_) λP=>?_
  ·rw[aa (by simpa using P)]at g;have o:=o (by simpa using P);refine au ?_;refine Gs.X (λw z=>eG gy Dq qp (bC _) w z) ?_;refine au ?_;refine QZ (S:=y) (t:=t) (f:=f) (lf:=lf) (tr:=tr) (by rw[m];exact p) x o B ⟨⟨qZ,qZ,qZ⟩,qZ⟩ (λt' D' e f' G O T k1 k2 k3=>?_);obtain⟨Y,H,-⟩:=L6 x (a:=ac.num) (q:=Q.q) (r:=qm f lf tr) o;rw[k1]at g Y H
   dsimp only at g Y H
   rw[H,m]at k2;refine au ?_;refine Gs.Ib (λU=>?_) λU=>?_
   ·rw[ab (by simpa using U)]at g;refine au ?_;exact(J .ret ⟨t',D',e,f',G,O,T⟩ _ ⟨rfl,g.symm,k2,H.trans m,by dsimp only;omega⟩).fin
   ·rw[aa (by simpa using U)]at g;obtain rfl:e=0:=by simpa using U
    exact(u ⟨t',D',0,f',G,O,T⟩ _ ⟨g,k2,Y,H.trans m,by dsimp only;push_cast;omega,by dsimp only;omega⟩).fin
  ·rw[ab (by simpa using P)]at g;exact(u ⟨t,C,e1,f,lf,tr,y⟩ _ ⟨g,p,x,m,by dsimp only;push_cast;omega,by dsimp only;omega⟩).fin
 ·rintro⟨t,C,e1,f,lf,tr,y⟩ d ⟨g,p,x,m,R,Z⟩
  dsimp only at g p m Z|-
  rw[eg]at g;rw[<-g]at F;refine Gs.ak (au ?_);refine Gs.tw ?_;refine au ?_;refine Gs.idn (Gs.uin ?_);have:=F t (none,0) (none,0) C (by dsimp only[og];rw[m];exact p) ⟨by dsimp only[og];omega,aw _,aw _⟩
  dsimp only[og,List.length_nil]at this
  exact this.fin
 ·rintro cd ⟨t,C,e1,f,lf,tr,y⟩ d ⟨rfl,g,p,m,R⟩
  dsimp only at g p m R|-
  rw[g]at F;refine Gs.akr ?_;refine Gs.tw ?_;refine au ?_;refine Gs.idn (Gs.uin ?_);have:=F t (none,0) (none,0) C (by dsimp only;rw[m];exact p) ⟨by dsimp only;omega,aw _,aw _⟩
  dsimp only[List.length_nil]at this
  exact this.fin
 ·show bL _ (Wn W 0::pt p2 (Zs ac) 100::Zv p0 v::pt V O6 xj::Ey (eM (none,0) 0) []::vs v c l mb md A D S L);exact kz
end
end Go.Proofs
namespace Go.Proofs
open Go Go.Vc
variable {p:Nat}
def Ep:iK pQ rF=jI Fj:=cH
def VT:mR pQ rF=true:=cH
def YD(W:Wt_):(iF rF (cU p 0) 0).run pQ W=.ok (cU p 0) W:=by simp[go_sem]
def am8(W:Wt_):(iF rF (cU p 0) 5).run pQ W=.ok (cU p 5) W:=by simp[go_sem]
def YU{W:Wt_}{c:Cm}(h:CK W p c):(iL 44 (cU p 0)).run pQ W=.ok (gB c.kind) W:=by simp[go_sem,h,cm0]
def RL{W:Wt_}{c:Cm}(h:CK W p c):At W p 5 (fk c.spec):=by
 have:=(At.all h).sub 5 25 (by rw[dV];omega)
 have e:((jI c).drop 5).take 25=fk c.spec:=by
  show(fk c.spec++_).take 25=_;rw[<-bb c.spec,df]
 rw[e]at this;exact this
def KU(k:Int):Tryz.prog.built rF [(0,gB k)]=some (jI {Fj with kind:=k}).toArray:=by
 have h:Tryz.prog.built rF [(0,gB k)]=some (((List.range 35).map λi=>if i=0 then gB k else(jI Fj).getD i undef)).toArray:=cH;rw[h];rfl
def S4:Tryz.prog.built 48 []=some (fk Ay).toArray:=cH
attribute [local go_sem] Zn Zu Wz Zp IL MS Sj N4 Q1
def QD(c:Cm)(s:Sp):ji (jI c) 5 (fk s)=jI {c with spec:=s}:=by
 unfold jI;simp[ji,bb,List.drop_left']
def an3(c:Cm)(f:Bool):(jI c).set 30 (.bool f)=jI {c with on:=f}:=by
 unfold jI;rw[cm _ _ (by show 5<=30;omega),cm _ _ (by rw[bb];show 25<=30 - 5;omega),bb];rfl
section
variable{L M:List As}{K:Value->WP}{k0:WP}{b:Nat}{c:Cm}
def Gs.cq{c' :Cm}{cs:LV_}(e:cs=jI c')(h:Gs (pt b (jI c') rF::M) k0):Gs (pt b cs rF::M) k0:=e▸h
def Gs.bZ{k:Value->WP}(a:∀b,Gs (pt b (jI Fj) rF::L) (k (cU b 0))):Gs L (Xw pQ (vR rF) k):=⟨λw y=>by
 refine uZ VT ((a _).go _ (y.new ((bn.refl _ w).alloc _) (F' :=λx=>x=w.heap.size) ⟨?_,λ_=>aI⟩ λx d=>qZ));rw[uS,ab rfl,Ep]⟩
def UF{x:Cm}(d:Gs L (K (Aa x.bare))):Gs L (Cw pQ 130 #[Aa x] K):=by
 refine sN Tryz.func130 ?_;refine Gs.bx (T:=rF) (cs:=jI x) (λw=>by simp[go_sem,Aa]) λp=>?_;refine Gs.bZ λz=>?_;refine au ?_;refine Gs.bB (KU x.kind) ?_;refine Gs.bvar (xs:=jI {Fj with kind:=x.kind}) VT Am (dV _) (by rw[Ep];exact dV _) (tj _) (λq=>?_);rw[show jI {Fj with kind:=x.kind}=[.int .u8 x.kind,gU 0,gU 0,gQ 0,gI 0,gU 0,gB 0,gI 0,gI 0,gI 0,gI 0,gI 0,gI 0,gI 0,gI 0,gI 0,gI 0,gI 0,gI 0,gI 0,gI 0,gI 0,gI 0,gI 0,gI 0,gI 0,gI 0,gI 0,gU 0,gI 0,.bool false,.bool false,gB 0,gI 0,gI 0]from rfl];refine au ?_
 have tail:Gs (pt q (jI x.bare) rF::pt z (jI Fj) rF::pt p (jI x) rF::L) (Xw pQ (pp rF (cU q 0)) λv=>Yw pQ (ur rF (cU z 0) v) (VI pQ (pp rF (cU z 0)) λv=>K v)):=by
  refine Gs.X (eG (cs:=jI x.bare) kz FN Am (dV _)) ?_;refine Gs.stY (cs' :=jI x.bare) (n:=34) kz (dV _) Am (by rw[dV,dV];decide) (tj _) (kv (by rw[dV,dV])) ?_;refine Gs.WX (eG (cs:=jI x.bare) kz FN Am (dV _)) ?_;exact d.fin
 refine Gs.j1 (.bool (decide (x.kind=1\/x.kind=2)),()) (λJ a=>?_) ?_
 ·refine au ?_;refine Gs.Ib (λh=>?_) λh=>?_
  ·rw[aA (.inl (by simpa using h))]at a;rw[h];exact a
  ·refine au ?_
   have e:decide (x.kind=1\/x.kind=2)=(x.kind==2):=by
    have:¬x.kind=1:=by simpa using h
    rw[bT];simp[this]
   rw[e]at a;exact a
 refine Gs.z ?_;refine Gs.I (λh=>?_) λh=>?_
 ·refine au ?_;exact Gs.cq (c' :=x.bare) (by rw[Cm.bare,ab h];rfl) tail.fin
 refine au ?_;refine Gs.Ib (λh=>?_) λi=>?_
 ·refine au ?_;refine Gs.X (λw y=>ft yf ud (bb _) (RL (nW kz y))) ?_;refine au ?_;refine Gs.cq (c' :={Fj with kind:=x.kind}) rfl ?_;refine Gs.stY (cs' :=jI {Fj with kind:=x.kind,spec:=x.spec}) (n:=24) kz (bb _) ud (by rw[bb,dV];decide) (oI _) (QD {Fj with kind:=x.kind} _) ?_;exact Gs.cq (c' :=x.bare) (by simp[Cm.bare,eq_of_beq h]) tail.fin
 refine au ?_;refine Gs.Ib (λh=>?_) λf=>?_
 ·refine au ?_;exact Gs.cq (c' :=x.bare) (by simp[Cm.bare,eq_of_beq h];rfl) tail.fin
 refine au ?_;refine Gs.Ib (λh=>?_) λg=>?_
 ·refine Gs.cq (c' :={Fj with kind:=x.kind}) rfl ?_;refine Gs.X (eG (cs:=jI x) kz FN Am (dV _)) ?_;refine Gs.stY (cs' :=jI x) (n:=34) kz (dV _) Am (by rw[dV,dV];decide) (tj _) (kv (by rw[dV,dV])) ?_;refine Gs.bB S4 ?_;refine au ?_;refine Gs.st (cs' :=jI {x with num:=0}) kz (λw h=>by simp[go_sem,h,Wz]) rfl ?_;refine au ?_;refine Gs.st (cs' :=jI {x with num:=0,amt:=0}) kz (λw h=>by simp[go_sem,h,Zp]) rfl ?_;refine au ?_;refine Gs.stY (cs' :=jI {x with num:=0,amt:=0,spec:=Ay}) (n:=24) kz (bb _) ud (by simp[bb,dV]) (oI _) (QD {x with num:=0,amt:=0} _) ?_;refine au ?_;refine Gs.st kz (λw h=>by simp[go_sem,h,IL]) (an3 _ _) ?_;exact Gs.cq (c' :=x.bare) (by simp[Cm.bare,eq_of_beq h]) tail.fin
 iterate 8
  refine au ?_;refine Gs.Ib (λh=>?_) λ_=>?_
  ·refine au ?_;exact Gs.cq (c' :=x.bare) (by simp[Cm.bare,eq_of_beq h];rfl) tail.fin
 simp only[beq_eq_false_iff_ne]at*;exact Gs.cq (c' :=x.bare) (by simp_all[Cm.bare];rfl) tail.fin
end
def Vu{x:Cm}{w:Wt_}{K:be}(d:∀a,M0 w a->K (Aa x.bare) a):Ca pQ 130 #[Aa x] w K:=
 (UF (L:=[uu w λ_=>False]) (K:=K) ⟨λa y=>(fg cF y).elim λF h=>d a h.2⟩).go w ⟨_,_,λ_=>False,⟨λ_=>aI,bn.refl _ _⟩,λ_ h=>h,eI,λb=>(or_iff_left id).symm⟩
end Go.Proofs
namespace Go.Proofs
open Go Go.Vc
attribute [local congr] bj
variable {P:Program}{w:Wt_}
def zD{P:Program}{w:Wt_}{e:TypeId}(j:P.underlying e=some (.int .i64))(d:Nat)(x y:List Int)(hl:x.length=y.length):∀(k i:Nat),i+k=x.length->
  (Op.eqItems (d+1) e 1 (x.map λn=>Value.int .i64 n).toArray (y.map λn=>Value.int .i64 n).toArray (List.range' i k)).run P w=.ok (decide (x.drop i=y.drop i)) w
 |0,i,h=>by
  have f:x.drop i=[]:=cg qZ;have c:y.drop i=[]:=cg qZ;simp[Op.eqItems,f,c]
 |k+1,i,h=>by
  have o:i<x.length:=qZ;have m:i<y.length:=qZ
  have a:∀(z:List Int) (l:i<z.length),(part e (z.map λn=>Value.int .i64 n).toArray (i*1)).run P w=.ok (gI z[i]) w:=by
   intro z l
   have f:(z.map λn=>Value.int .i64 n).toArray[i]? =some (gI z[i]):=by
    rw[cG,bY,ao l];rfl
   have c:(isAgg e).run P w=.ok false w:=by
    unfold isAgg;simp[aO j,Result.andThen]
   simp[part,c,Result.andThen,f]
  rw[List.range'_succ];unfold Op.eqItems;simp only[cY,a x o,a y m,Result.andThen];rw[run_equalIn_int w d e .i64 .i64 _ _ j];rw[bN o,bN m];by_cases b:x[i]=y[i]
  ·have g:(x[i]==y[i])=true:=by simp[b]
   simp only[g,b,kX,oe];have:=zD (w:=w) j d x y hl k (i+1) qZ;simpa using this
  ·have g:(x[i]==y[i])=false:=by simpa using b
   simp only[g,kX,b,false_and,nG];simp
def Z2(x y:Vector Int 16)(d:Nat)(w:Wt_):(Op.equalIn (d+2) 46 (.agg (vl x).toArray) (.agg (vl y).toArray)).run pQ w=.ok (decide (x=y)) w:=by
 obtain⟨g,b,-⟩:=pV (P:=pQ) (t:=2) (n:=0) cH;have c:Tryz.prog.underlying 46=some (.array 16 2):=cH;have f:Tryz.prog.cellsOf 2=1:=cH;rw[run_equalIn_array w (d+1) _ _ c b,f];have:=zD (P:=pQ) (w:=w) (e:=2) cH d x.toList y.toList (by simp) 16 0 (by simp);rw[List.range_eq_range'];show(Op.eqItems (d+1) _ 1 (x.toList.map λn=>Value.int .i64 n).toArray (y.toList.map λn=>Value.int .i64 n).toArray (List.range' 0 16)).run pQ w=_;rw[this];congr 1
 have a:(x.toList=y.toList)↔x=y:=by
  constructor
  ·intro h;exact Vector.toList_inj.1 h
  ·rintro rfl;rfl
 simp only[dO];exact kC.2 a
def nu{d:Nat}{xs c:Array Value}{f:Field}{e:List Field}{a b:Vt_}{r r' :Bool}(i:f.name≠ "_")(j:(part f.type xs f.offset).run P w=.ok a w)(g:(part f.type c f.offset).run P w=.ok b w)
  (k:(Op.equalIn d f.type a b).run P w=.ok r w)(h:(Op.eqFields d xs c e).run P w=.ok r' w):(Op.eqFields d xs c (f::e)).run P w=.ok (r&& r') w:=by
 simp only[Op.eqFields,i,ne_eq,not_false_eq_true,de,cY,j,g,k,Result.andThen_ok];cases r
 ·simp
 ·simpa using h
def Wj{b:Nat}{xs a:Array Value}:(Op.eqFields b xs a []).run P w=.ok true w:=by simp[Op.eqFields]
def ic{e:TypeId}{l:LV_}{off:Nat}{v:Vt_}(a:P.plainKey e=true)(h:l[off]? =some v):(part e l.toArray off).run P w=.ok v w:=run_part_plain w a (by simpa using h)
def L7{e:TypeId}{l m:LV_}{off n:Nat}(a:lI P e=true)(b:P.cellsOf e=n+1)(h:(l.drop off).take (n+1)=m):(part e l.toArray off).run P w=.ok (.agg m.toArray) w:=by
 have c:l.toArray.extract off (off+(n+1))=m.toArray:=by
  apply jU;rw[Array.toList_extract];simp[List.extract,h]
 simp[part,yL a,Go.Vc.kY b,Result.andThen,h]
def eqB(x y:Bool)(d:Nat)(w:Wt_):(Op.equalIn (d+1) 4 (.bool x) (.bool y)).run pQ w=.ok (x==y) w:=by
 have a:Tryz.prog.underlying 4=some .bool:=cH;simp[Op.equalIn,aO a,Result.andThen]
def ah6(a b:Sp)(d:Nat)(w:Wt_):(Op.equalIn (d+3) 48 (.agg (fk a).toArray) (.agg (fk b).toArray)).run pQ w=.ok (decide (a=b)) w:=by
 have u:Tryz.prog.underlying 48=some (.struct (Tryz.prog.fieldsOf 48)):=cH;have h:Tryz.prog.stoodInHeld 48=false:=cH;rw[run_equalIn_struct w (d+2) 48 _ _ u h];unfold Program.fieldsOf;rw[Tryz.underlying48];have g:∀s:Sp,((fk s).drop 6).take 16=vl s.shifts:=rZ
 have c:∀s:Sp,(fk s)[22]? =some (gI s.credit)/\(fk s)[23]? =some (gU s.last)/\(fk s)[24]? =some (gI s.first):=λs=>by
  have key:∀i,(fk s)[22+i]? =([.int .i64 s.credit,gU s.last,gI s.first]:LV_)[i]? :=λi=>by
   unfold fk;rw[bf (by show 6<=22+i;omega),bf (by grind),mX];congr 1;show 22+i - 6 - 16=i;omega
  exact⟨key 0,key 1,key 2⟩
 have e:∀(t:TypeId) (q:IntKind) (x y:Int),Tryz.prog.underlying t=some (.int q)->(Op.equalIn (d+2) t (.int q x) (.int q y)).run pQ w=.ok (x==y) w:=λt q x y l=>run_equalIn_int w (d+1) t q q x y l
 have f:decide (a=b)=((a.num==b.num)&& ((a.route==b.route)&& ((a.tick==b.tick)&& ((a.lot==b.lot)&& ((a.band==b.band)&& ((a.limit==b.limit)&& (decide (a.shifts=b.shifts)&& ((a.credit==b.credit)&& ((a.last==b.last)&& ((a.first==b.first)&& true)))))))))):=by
  obtain⟨J,K,A,D,B,I,r,m,F,k⟩:=a;obtain⟨o,G,z,H,p,v,E,L,C,j⟩:=b;rw[bT];simp[Sp.mk.injEq]
 rw[f];apply nu (by decide) (ic cH rfl) (ic cH rfl) (e _ _ _ _ cH);apply nu (by decide) (ic cH rfl) (ic cH rfl) (e _ _ _ _ cH);apply nu (by decide) (ic cH rfl) (ic cH rfl) (e _ _ _ _ cH);apply nu (by decide) (ic cH rfl) (ic cH rfl) (e _ _ _ _ cH);apply nu (by decide) (ic cH rfl) (ic cH rfl) (e _ _ _ _ cH);apply nu (by decide) (ic cH rfl) (ic cH rfl) (e _ _ _ _ cH);apply nu (by decide) (L7 (n:=15) cH cH (g a)) (L7 (n:=15) cH cH (g b)) (Z2 a.shifts b.shifts d w);apply nu (by decide) (ic cH (c a).1) (ic cH (c b).1) (e _ _ _ _ cH);apply nu (by decide) (ic cH (c a).2.1) (ic cH (c b).2.1) (e _ _ _ _ cH);apply nu (by decide) (ic cH (c a).2.2) (ic cH (c b).2.2) (e _ _ _ _ cH);exact Wj
def ZO(c:Cm):((jI c).drop 5).take 25=fk c.spec:=by
 show(fk c.spec++_).take 25=_;rw[<-bb c.spec,df]
def ab1(a b:Cm)(w:Wt_):(Op.equalIn 10000 rF (Aa a) (Aa b)).run pQ w=.ok (decide (a=b)) w:=by
 have u:Tryz.prog.underlying rF=some (.struct (Tryz.prog.fieldsOf rF)):=cH;have h:Tryz.prog.stoodInHeld rF=false:=cH;unfold Aa;rw[run_equalIn_struct w 9999 rF _ _ u h];unfold Program.fieldsOf;rw[Tryz.underlying51];have c:∀(t:TypeId) (q:IntKind) (x y:Int),Tryz.prog.underlying t=some (.int q)->(Op.equalIn 9999 t (.int q x) (.int q y)).run pQ w=.ok (x==y) w:=λt q x y j=>run_equalIn_int w 9998 t q q x y j
 have d:decide (a=b)=((a.kind==b.kind)&& ((a.acct==b.acct)&& ((a.ct==b.ct)&& ((a.num==b.num)&& ((a.amt==b.amt)&& (decide (a.spec=b.spec)&& ((a.on==b.on)&& ((a.buy==b.buy)&& ((a.ty==b.ty)&& ((a.price==b.price)&& ((a.qty==b.qty)&& true))))))))))):=by
  obtain⟨G,H,s,A,v,F,o,k,C,g,i⟩:=a;obtain⟨l,D,r,E,m,p,B,I,z,f,e⟩:=b;rw[bT];simp[Cm.mk.injEq]
 rw[d];apply nu (by decide) (ic cH (cm0 a)) (ic cH (cm0 b)) (c _ _ _ _ cH);apply nu (by decide) (ic cH (Zn a)) (ic cH (Zn b)) (c _ _ _ _ cH);apply nu (by decide) (ic cH (Zu a)) (ic cH (Zu b)) (c _ _ _ _ cH);apply nu (by decide) (ic cH (Wz a)) (ic cH (Wz b)) (c _ _ _ _ cH);apply nu (by decide) (ic cH (Zp a)) (ic cH (Zp b)) (c _ _ _ _ cH);refine nu (by decide) (L7 (n:=24) cH cH (ZO a)) (L7 (n:=24) cH cH (ZO b)) (ah6 a.spec b.spec 9996 w) ?_;refine nu (by decide) (ic cH (IL a)) (ic cH (IL b)) (eqB _ _ 9998 w) ?_;refine nu (by decide) (ic cH (MS a)) (ic cH (MS b)) (eqB _ _ 9998 w) ?_;apply nu (by decide) (ic cH (Sj a)) (ic cH (Sj b)) (c _ _ _ _ cH);apply nu (by decide) (ic cH (N4 a)) (ic cH (N4 b)) (c _ _ _ _ cH);apply nu (by decide) (ic cH (Q1 a)) (ic cH (Q1 b)) (c _ _ _ _ cH);exact Wj
def XC(a b:Cm)(w:Wt_):(nV .eql rF false (Aa a) (Aa b)).run pQ w=.ok (.bool (decide (a=b))) w:=by
 have:=ab1 a b w;unfold Aa at this|-;generalize(jI a).toArray=A at this;generalize(jI b).toArray=B at this;simp[go_sem,this,Result.andThen]
def UZ{x:Cm}{K:be}(v:x.Fit)(b:∀q,M0 w q->K (.bool x.may) q):Ca pQ 47 #[Aa x] w K:=by
 refine cN Tryz.func47 ?_;obtain⟨d,y,o,u⟩:=ac2 x w;apply dy y;obtain⟨p,n⟩:=dW w.heap.size;rw[<-n]at o|-;have a:M0 d d.drew:=wl;have c:CK d.drew p x:=a.hpk o id;have f:=u.trans a
 try dsimp only
 generalize d.drew=s at a c f|-;unfold Cm.may at b;refine gP YD (gC (YU c) ?_);by_cases l:1<=x.kind
 ·apply eQ (.bool true) (λ_=>by simp[go_sem];omega);rw[nO];refine gP YD (gC (YU c) ?_);by_cases g:x.kind<=14
  ·apply eQ (.bool true) (λ_=>by simp[go_sem];omega);rw[nO];refine yW (XN c) (yW (XN c) ?_);refine Vu λi r=>?_;have m:CK i p x:=r.hpk c id;refine⟨XN m,?_⟩;have j:=f.trans r;apply gP (XC x x.bare);by_cases e:x=x.bare
   ·rw[zZ e];refine gP YD (gC (YU m) ?_);apply eQ (.bool (decide (x.kind≠3))) (λ_=>by simp[go_sem];rfl);by_cases k:x.kind≠3
    ·rw[zZ k];have:=b i j;rw[aA ⟨l,g⟩,aA e,aA k]at this;exact this
    ·rw[bG,aa (by grind)];apply gP am8;apply rj (fk x.spec) 24 yf ud (bb _) (RL m);refine pY v.2.2.2.2.2.1 λt z=>?_;have:=b t (j.trans z);rw[aA ⟨l,g⟩,aA e,aG k]at this;simpa using this
   ·rw[bG,aa (by grind)];have:=b i j;rw[aG e,oL,bh]at this;exact this
  ·apply eQ (.bool false) (λ_=>by simp[go_sem];omega);rw[lW];have:=b s f;rw[aG (λh=>g h.2),bh,bh]at this;exact this
 ·apply eQ (.bool false) (λ_=>by simp[go_sem];omega);rw[lW];have:=b s f;rw[aG (λh=>l h.1),bh,bh]at this;exact this
end Go.Proofs
namespace Go.Proofs
open Go Go.Vc
attribute [local congr] bj
def Nj{C:oq}{s:Sp}(h:(fy C s).1=0):bU C.l s.num=none/\∀m,bU (fy C s).2.l m=if s.num=m then some (l9 s)else bU C.l m:=by
 unfold fy at h|-;split at h
 ·cases h
 ·split at h
  ·cases h
  ·split at h
   ·cases h
   ·split at h
    ·cases h
    ·rename_i d a e c
     have b:bU C.l s.num=none:=by
      cases f:bU C.l s.num with
      |none=>rfl
      |some k=>rw[f]at a;exact absurd rfl a
     refine⟨b,λm=>?_⟩;rw[aa d,aa a,aa e,aa c];exact vW (k:=l9 s) b _ m
def Oe{C:oq}{s:Sp}(h:(fy C s).1≠0):(fy C s).2=C:=by
 unfold fy at h|-;split
 ·rfl
 ·split
  ·rfl
  ·split
   ·rfl
   ·split
    ·rfl
    ·grind
def Si(C:oq)(n:Int)(on:Bool)(m:Int):(bU (jB C n on).2.l m).isSome=(bU C.l m).isSome:=by
 unfold jB;split
 ·rfl
 ·rw[pL (f:=λk=>{k with st:=if on then 2 else 1}) λ_ _=>rfl,my]
def Hb(C:oq)(n p:Int)(m:Int):(bU (fF C n p).2.l m).isSome=(bU C.l m).isSome:=by
 unfold fF;split
 ·rfl
 ·split
  ·rfl
  ·split
   ·rfl
   ·rw[pL (f:=λk=>{k with price:=p}) λ_ _=>rfl,my]
end Go.Proofs
namespace Go.Proofs
open Go Go.Vc
attribute [go_sem] cm0 Zu
section
variable{L L0 M:List As}{φ:WP}{K:Value->WP}{k0:WP}{v c l mb md b mw:Nat}{A:List (Int×Nat)}{D:List (Int×Value)}{S:ba}{n a:Int}{X:bq}{bk:Int->Bk}{bd:Int->List Od}{s:Vt_}{os:List Od}{C:oq}{B:Bk}
def Qt{s:Sp}(e:s.Fit)(i:Gs (lT c (fy C s).2::M) (K (gI (fy C s).1)))(p:bL L (lT c C::M):=by exact gy):Gs L (Cw pQ 134 #[gk c,.agg (fk s).toArray] K):=
 Gs.old (A:=lT c C) (val:=λ_:Unit=>_) (p:=λ_=>True) (B:=λ_=>lT c (fy C s).2) (λw F _ q K h=>Rj q e λf g j k d=>h () g f trivial j k d) (λ_ _=>i) p
def GE(d:∀b,Gs (Cp b Bk.empty::L) (K (fe b))):Gs L (Cw pQ 52 #[] K):=
 Gs.nw (φ:=λk=>Cw pQ _ _ k) (val:=fe) (p:=λ_=>True) (B:=λb=>Cp b Bk.empty) (λw y K h=>QI λb F e q m nn=>h b e F trivial q m nn) (λb _=>d b)
def Fx(Q:lk A n=none)(E:Gs (qG (put A n b) (eR bk n B)::M) φ)(p:bL L (Cp b B::qG A bk::M):=by exact kz):Gs L φ:=⟨λw ⟨F,z⟩=>by
 obtain⟨i,O,H,⟨u,F3,⟨r,q⟩,J,G,I⟩,N,P⟩:=(p.out w F).1 z;have no:∀{m x},(lk A m).isSome=true->r m x->¬i x:=λj d o=>N _ o ((I _).2 (.inl ((q.f _).2 ⟨_,trivial,j,d⟩)));have e:∀m,lk (put A n b) m=if n=m then some b else lk A m:=λm=>lL ..
 refine E.go w (Ss.cons.2 ⟨λx=>i x\/u x,F3,⟨λm x=>if m=n then i x else(lk A m).isSome=true/\r m x,λm t _ h=>?_,λm k x _ _=>?_,λx=>?_⟩,J,λx d o=>?_⟩)
 ·rw[e]at h;by_cases f:m=n
  ·subst f;rw[ab rfl]at h;cases h;simp only[cQ,de];exact H
  ·rw[aa λe=>f e.symm]at h;rw[eT _ _ _ f];simpa [f,h]using q.q m t trivial h
 ·by_cases f:m=n<;>by_cases g:k=n<;>simp only[f,g,de,dB]
  ·simp
  ·grind
  ·grind
  ·exact λh y=>q.dj m k x trivial trivial h.2 y.2
 ·rw[q.f];constructor
  ·rintro(h|⟨m,-,j,d⟩)
   ·grind
   ·grind
  ·rintro⟨m,-,j,d⟩;by_cases f:m=n
   ·grind
   ·grind
 ·rcases d with d|d
  ·grind
  ·exact G x d o⟩
def Gs.bA{P:Program}{t:TypeId}{k:Value->WP}(e:mR P t=true)(d:∀b,Gs (pt b (iK P t) t::L) (k (cU b 0))):Gs L (Xw P (vR t) k):=⟨λw y=>by
 refine uZ e ((d _).go _ (y.new ((bn.refl _ w).alloc _) (F' :=λx=>x=w.heap.size) ⟨?_,λ_=>aI⟩ λx f=>qZ));rw[uS,ab rfl]⟩
def ao0(v c l mb md:Nat)(x:Int×Rp×ba)(L:List As)(K:Value->WP):Prop:=∀A,SD v c l mb md A x L K
def nQ.list{C C' :List Ct}(h:nQ A D C bk)(i:bU C n=none)(hC:∀m,(bU C' m).isSome=(decide (n=m)||(bU C m).isSome)):nQ (Go.Vc.put A n b) D C' (eR bk n Bk.empty)/\lk A n=none:=by
 have g:lk A n=none:=by
  have:=h.dom n;rw[i]at this;cases f:lk A n with
  |none=>rfl
  |some x=>rw[f]at this;cases this
 refine⟨⟨λm=>?_,λm d=>?_,λm d=>?_⟩,g⟩
 ·rw[lL,hC];by_cases e:n=m
  ·rw[ab e];simp[e]
  ·rw[aa e,h.dom m];simp[e]
 ·rw[hC,h.dod m d,Bool.or_true]
 ·rw[lL]at d;by_cases e:n=m
  ·grind
  ·rw[aa e]at d;rw[eT _ _ _ λh=>e h.symm];exact h.nbk m d
def MG{x:Cm}(k:nQ A D S.cal.l S.bk)(i:S.Ok)(hx:x.Fit)(hK:ao0 v c l mb md (S.done x) L K)(pk:bL L0 (vs v c l mb md A D S L):=by exact kz):Gs L0 (Cw pQ 48 #[eE v,Aa x] K):=by
 refine Gs.pk ?_ pk;refine sN Tryz.func48 ?_;unfold eE;have hxf:=hx;obtain⟨f1,f2,f3,f4,f5,f6,f7,f8,f9⟩:=hxf;have d:=hK A;refine au ?_;intro p;refine au ?_;intro q;refine au ?_;refine Gs.Ib (λh=>?_) λh=>?_
 ·have F:S.done x=((S.led.deposit x.acct x.amt).1,jo,{S with led:=(S.led.deposit x.acct x.amt).2}):=by unfold ba.done;rw[ab (by simpa using h)]
  refine au ?_;refine J0 f2 ?_;refine au ?_;exact d.fail F (D:=D) k
 have Q:¬x.kind=1:=by simpa using h
 refine au ?_;refine Gs.Ib (λh=>?_) λh=>?_
 ·have F:S.done x=((if(S.led.withdraw x.acct x.amt).1≠0 then(S.led.withdraw x.acct x.amt).1 else if(({S with led:=(S.led.withdraw x.acct x.amt).2}:ba).acc x.acct).dfl=true then 120 else({S with led:=(S.led.withdraw x.acct x.amt).2}:ba).bears x.acct),jo,{S with led:=(S.led.withdraw x.acct x.amt).2}):=by unfold ba.done;rw[aa Q,ab (by simpa using h)]
  refine au ?_;refine Gs.WX (λw z=>eG gy FN Am (dV x) w z) ?_;refine Fq k i hx ?_;refine au ?_;exact d.fail F (D:=D) k
 have W:¬x.kind=2:=by simpa using h
 refine au ?_;refine Gs.Ib (λh=>?_) λh=>?_
 ·have F:S.done x=((fy S.cal x.spec).1,jo,if(fy S.cal x.spec).1=0 then{S with cal:=(fy S.cal x.spec).2,bk:=eR S.bk x.spec.num Bk.empty}else{S with cal:=(fy S.cal x.spec).2}):=by unfold ba.done;rw[aa Q,aa W,ab (by simpa using h)]
  have R:=λh=>Nj (C:=S.cal) (s:=x.spec) h;have V:=λh=>Oe (C:=S.cal) (s:=x.spec) h;obtain⟨Y,hY⟩:=dW (fy S.cal x.spec);rw[<-hY]at F R V;obtain⟨e,C⟩:=Y
  dsimp only at F R V
  refine Gs.j (λ_:List (Int×Nat)=>(gI e,())) (λA' =>pt q O6 xj::vs v c l mb md A' D (S.done x).2.2 L) (λA' =>nQ A' D (S.done x).2.2.cal.l (S.done x).2.2.bk) (λJ H=>?_) λA' Z=>?_
  ·refine au ?_;refine Gs.WX (λw z=>ft yf ud (bb _) (RL (nW gy z))) ?_;refine Qt f6 ?_;rw[<-hY];rw[F]at H
   dsimp only at H|-
   refine au ?_;refine Gs.Ib (λN=>?_) λN=>?_
   ·obtain rfl:e=0:=by simpa using N
    rw[ab rfl]at H;obtain⟨l1,l2⟩:=R rfl;refine au ?_;refine GE (λnb=>?_);refine au ?_;obtain⟨h1,h2⟩:=k.list (C' :=C.l) (b:=nb) l1 (λm=>by rw[l2];by_cases e:x.spec.num=m<;>simp[e]);refine Gs.mup (enc:=eS) (ev:=fe) (x:=x.spec.num) (v:=nb) xw kL ?_ gy;refine Fx (n:=x.spec.num) h2 ?_;exact(H _ h1).fin
   ·have N:¬e=0:=by simpa using N
    rw[aa N]at H;exact(H A (by dsimp only;rw[V N];exact k)).fin
  refine Gs.z ?_;rw[F]at Z|-
  dsimp only at Z|-
  refine au ?_;exact(hK A').fail (D:=D) F Z
 have n3:¬x.kind=3:=by simpa using h
 refine au ?_;refine Gs.Ib (λh=>?_) λh=>?_
 ·have F:S.done x=((jB S.cal x.ct x.on).1,jo,{S with cal:=(jB S.cal x.ct x.on).2}):=by unfold ba.done;rw[aa Q,aa W,aa n3,ab (by simpa using h)]
  refine au ?_;refine QS ?_;refine au ?_;exact d.fail F (D:=D) (k.cal λm=>Si ..)
 have n4:¬x.kind=4:=by simpa using h
 refine au ?_;refine Gs.Ib (λh=>?_) λh=>?_
 ·have F:S.done x=((fF S.cal x.ct x.price).1,jo,{S with cal:=(fF S.cal x.ct x.price).2}):=by unfold ba.done;rw[aa Q,aa W,aa n3,aa n4,ab (by simpa using h)]
  refine au ?_;refine GW ?_;refine au ?_;exact d.fail F (D:=D) (k.cal λm=>Hb ..)
 have O:¬x.kind=11:=by simpa using h
 refine au ?_;refine Gs.Ib (λh=>?_) λh=>?_
 ·have F:S.done x=S.settle:=by unfold ba.done;rw[aa Q,aa W,aa n3,aa n4,aa O,ab (by simpa using h)]
  rw[F]at d;refine IU k i (λt g u o j E=>?_);generalize S.settle=Y at d j E|-;refine au ?_;exact(d t g u o j E).fin
 have U:¬x.kind=12:=by simpa using h
 refine au ?_;refine Gs.Ib (λh=>?_) λh=>?_
 ·have F:S.done x=S.expire x.ct:=by unfold ba.done;rw[aa Q,aa W,aa n3,aa n4,aa O,aa U,ab (by simpa using h)]
  rw[F]at d;refine au ?_;refine IZ k i (λt g u o j E=>?_);generalize S.expire x.ct=Y at d j E|-;refine au ?_;exact(d t g u o j E).fin
 have n14:¬x.kind=14:=by simpa using h
 have f:S.done x=if x.acct=0 then(2,jo,S)else if x.kind=6 then S.cancel x else if x.kind=7 then S.replace x else if S.led.getO x.acct=none then(7,jo,S)else if x.kind=5 then S.place x else if x.kind=9 then S.bid x else
   if x.kind=8 then(if x.ct≠0/\(dw S.cal.l x.ct).2≠0 then((dw S.cal.l x.ct).2,jo,S)else(0,{jo with gone:=(S.clear x.acct x.ct).1},(S.clear x.acct x.ct).2))else
   if x.kind=10 then(((if x.on then(S.clear x.acct 0).2 else S).led.set {S.acc x.acct with kil:=x.on}).1,(if x.on then{jo with gone:=(S.clear x.acct 0).1}else jo),{(if x.on then(S.clear x.acct 0).2 else S)with led:=((if x.on then(S.clear x.acct 0).2 else S).led.set {S.acc x.acct with kil:=x.on}).2})else
   if x.kind=13 then S.liquidate (S.acc x.acct)else(0,jo,S):=by unfold ba.done;rw[aa Q,aa W,aa n3,aa n4,aa O,aa U,aa n14]
 clear Q W n3 n4 O U n14;refine au ?_;refine Gs.Ib (λh=>?_) λh=>?_
 ·rw[ab (by simpa using h)]at f;refine au ?_;exact d.fail f (D:=D) k
 have ha:x.acct≠0:=by simpa using h
 rw[aa ha]at f;refine au ?_;refine Gs.Ib (λh=>?_) λh=>?_
 ·rw[ab (by simpa using h)]at f;rw[f]at d;refine Gs.X (λw z=>eG gy FN Am (dV x) w z) ?_;refine JR k i hx (λt g u o j E=>?_);generalize S.cancel x=Y at d j E|-;refine au ?_;exact(d t g u o j E).fin
 rw[aa (by simpa using h)]at f;refine au ?_;refine Gs.Ib (λh=>?_) λh=>?_
 ·rw[ab (by simpa using h)]at f;rw[f]at d;refine Gs.X (λw z=>eG gy FN Am (dV x) w z) ?_;refine GH k i hx ha (λt g u o j E=>?_);generalize S.replace x=Y at d j E|-;refine au ?_;exact(d t g u o j E).fin
 rw[aa (by simpa using h)]at f;refine Gs.j (λr:Nat=>(.pointer (some ⟨r,0,none⟩),gI (if S.led.getO x.acct=none then 7 else 0),())) (λr=>pt r (Zs (S.acc x.acct)) 100::pt q O6 xj::pt p (jI x) rF::vs v c l mb md A D S L) (λ_=>True) (λJ H=>?_) λr _=>?_
 ·refine au ?_;refine Gs.An ?_ (au ?_)
  ·refine pK ?_;rw[nE S];refine au ?_;intro r;refine au ?_;exact(H r trivial).fin
  ·intro r;refine au ?_;refine pK ?_;rw[nE S];refine au ?_;exact(H r trivial).fin
 dsimp only
 refine Gs.z (au ?_);refine Gs.Ib (λh=>?_) λh=>?_
 ·have h:S.led.getO x.acct=none:=by simpa using h
  rw[ab h]at f|-;refine au ?_;exact d.fail f (D:=D) k
 have hg:¬S.led.getO x.acct=none:=by simpa using h
 rw[aa hg]at f|-;refine Gs.j (λ_:(Option Addr×Nat)×List (Int×Value)=>(gI 0,())) (λz=>pt q (IF 0 0 0 0 (.slice none 0 0) (eM z.1 (S.done x).2.1.gone.length) (.slice none 0 0)) xj::tX (eM z.1 (S.done x).2.1.gone.length) (S.done x).2.1.gone::vs v c l mb md A z.2 (S.done x).2.2 L) (λz=>S.done x=(0,{jo with gone:=(S.done x).2.1.gone},(S.done x).2.2)/\nQ A z.2 (S.done x).2.2.cal.l (S.done x).2.2.bk/\(S.done x).2.1.gone.length<=1000000) (λJ H=>?_) λz hz=>?_
 ·refine au ?_;refine Gs.Ib (λh=>?_) λh=>?_
  ·rw[ab (by simpa using h)]at f;rw[f]at d;refine Gs.X (λw z=>eG gy FN Am (dV x) w z) ?_;refine NW k i hx ha (λt g u o j E=>?_);generalize S.place x=Y at d j E|-;refine au ?_;exact(d t g u o j E).fin
  rw[aa (by simpa using h)]at f;refine au ?_;refine Gs.Ib (λh=>?_) λh=>?_
  ·rw[ab (by simpa using h)]at f;rw[f]at d;refine Gs.X (λw z=>eG gy FN Am (dV x) w z) ?_;refine Ts k i hx ha (λt g u o j E=>?_);generalize S.bid x=Y at d j E|-;refine au ?_;exact(d t g u o j E).fin
  rw[aa (by simpa using h)]at f;refine au ?_;refine Gs.Ib (λh=>?_) λh=>?_
  ·rw[ab (by simpa using h)]at f;refine Gs.j (λ_:Unit=>(gI 0,())) (λ_=>pt q O6 xj::pt p (jI x) rF::vs v c l mb md A D S L) (λ_=>¬(x.ct≠0/\(dw S.cal.l x.ct).2≠0)) (λJ2 I=>?_) λ_ hm=>?_
   ·refine au ?_;refine Gs.Ib (λhc=>?_) λhc=>?_
    ·refine Gs.j1 (gI (dw S.cal.l x.ct).2,()) (λJ3 hJ3=>?_) ?_
     ·refine au ?_;refine Gs.An ?_ ?_
      ·refine wS ?_;refine au ?_;refine Gs.bvar cH qp (bC _) cH (g9 _) λr=>?_;exact hJ3.fin
      ·refine Gs.bA cH (λb=>?_);refine au ?_;refine wS ?_;refine au ?_;refine Gs.stY (cs' :=dh (dw S.cal.l x.ct).1) gy (bC _) qp (by rw[bC];exact Nat.le_of_ble_eq_true cH) (g9 _) (kv (by rw[bC];kernel_rfl)) ?_;exact hJ3.fin
     refine Gs.z (au ?_);refine Gs.Ib (λN=>?_) λN=>?_
     ·rw[ab ⟨by simpa using hc,by simpa using N⟩]at f;refine au ?_;exact d.fail f (D:=D) k
     ·exact(I () λh=>h.2 (by simpa using N)).fin
    ·exact(I () λh=>h.1 (by simpa using hc)).fin
   rw[aa hm]at f;refine Gs.z (au ?_);refine y9 k i.cal (λn=>i.ord.bdl n) (λy o j w2=>?_);have P:=rB S x.acct x.ct;rw[f]at H
   dsimp only at H
   have w3:(S.clear x.acct x.ct).1.length<=1000000:=qZ;generalize S.clear x.acct x.ct=Y at H j w3 P|-;refine au ?_;exact(H (y,o) ⟨rfl,by rw[P];exact j,w3⟩).fin
  rw[aa (by simpa using h)]at f;refine au ?_;refine Gs.Ib (λh=>?_) λh=>?_
  ·rw[ab (by simpa using h)]at f;refine au ?_;obtain⟨G,hG⟩:=dW (if x.on then(S.clear x.acct 0).1 else []);obtain⟨T,hT⟩:=dW (if x.on then(S.clear x.acct 0).2 else S);have P:=rB S x.acct 0;have hgo:(if x.on then{jo with gone:=(S.clear x.acct 0).1}else jo)={jo with gone:=G}:=by rw[hG];split<;>rfl
   rw[hgo,<-hT]at f;refine Gs.j (λ_:(Option Addr×Nat)×List (Int×Value)=>()) (λz=>pt r (Zs {S.acc x.acct with kil:=x.on}) 100::pt q (IF 0 0 0 0 (.slice none 0 0) (eM z.1 G.length) (.slice none 0 0)) xj::tX (eM z.1 G.length) G::vs v c l mb md A z.2 T L) (λz=>nQ A z.2 T.cal.l T.bk/\G.length<=1000000) (λJ2 I=>?_) λz hz=>?_
   ·refine au ?_;refine Gs.Ib (λho=>?_) λho=>?_
    ·rw[ab ho]at hG hT;refine au ?_;refine y9 k i.cal (λn=>i.ord.bdl n) (λy o j w2=>?_);rw[<-P,<-hT]at j;rw[<-hG]at w2|-;rw[<-hT];refine au ?_;exact(I (y,o) ⟨j,qZ⟩).fin
    ·rw[aa (by rw[ho];decide)]at hG hT;subst hG hT;refine Gs.idn ?_;have:=I ((none,0),D) ⟨k,aw _⟩
     dsimp only[List.length_nil]at this
     exact this.fin
   obtain⟨y,o⟩:=z;obtain⟨hz,hGl⟩:=hz
   dsimp only at hz|-
   refine Gs.z ?_;refine HE (X:=T.led) (λhTk=>?_);refine au ?_;refine EF (a:={S.acc x.acct with kil:=x.on}) (Mz i.led.led x.acct) ?_;rw[f]at d;generalize T.led.set {S.acc x.acct with kil:=x.on}=Y at d|-;refine au ?_;refine Gs.tdn (Gs.uin ?_);have:=d (none,0) y (none,0) o hz ⟨aw _,hGl,aw _⟩
   dsimp only[jo,List.length_nil]at this
   exact this.fin
  rw[aa (by simpa using h)]at f;refine au ?_;refine Gs.Ib (λh=>?_) λh=>?_
  ·rw[ab (by simpa using h)]at f;rw[f]at d;refine au ?_;refine CJ (ac:=S.acc x.acct) k i (λt g u o j E=>?_);generalize S.liquidate (S.acc x.acct)=Y at d j E|-;refine au ?_;exact(d t g u o j E).fin
  rw[aa (by simpa using h)]at f;rw[f]at H;refine Gs.idn ?_;have:=H ((none,0),D) ⟨rfl,k,aw _⟩
  dsimp only[jo,List.length_nil]at this
  exact this.fin
 obtain⟨y,o⟩:=z;obtain⟨h1,h2,h3⟩:=hz
 dsimp only at h1 h2 h3|-
 rw[h1]at d;generalize(S.done x).2.1.gone=G at d h3|-;generalize(S.done x).2.2=T at d h2|-;refine Gs.z (au ?_);refine Gs.tdn (Gs.uin ?_);have:=d (none,0) y (none,0) o h2 ⟨aw _,h3,aw _⟩
 dsimp only[jo,List.length_nil]at this
 exact this.fin
end
end Go.Proofs
namespace Go.Proofs
open Go Go.Vc
attribute [local go_sem] gk eK
abbrev TO(v c l mb md:Nat)(n:Int):As:=pt v [.pointer (some ⟨c,0,none⟩),.pointer (some ⟨l,0,none⟩),.map (some mb),.map (some md),gQ n] TL
section
variable{L L0 M:List As}{φ:WP}{K:Value->WP}{k0:WP}{v c l mb md b mw:Nat}{A:List (Int×Nat)}{D:List (Int×Value)}{S:ba}{n a:Int}{X:bq}{bk:Int->Bk}{bd:Int->List Od}{s:Vt_}{os:List Od}{C:oq}{B:Bk}
def Ry(d:∀c',Gs (lT c' C::L) (K (gk c')))(p:bL L (lT c C::M):=by exact gy):Gs L (Cw pQ 91 #[gk c] K):=
 Gs.nw (φ:=λk=>Cw pQ _ _ k) (val:=gk) (p:=λ_=>True) (B:=λc' =>lT c' C) (λw y K h=>(fg p y).elim λF q=>RS q λc' e f g m nn=>h c' f e trivial g m nn) (λb _=>d b)
def QL(e:∀d,Gs (jV d X::L) (K (eK d)))(p:bL L (jV l X::M):=by exact gy):Gs L (Cw pQ 92 #[eK l] K):=
 Gs.nw (φ:=λk=>Cw pQ _ _ k) (val:=eK) (p:=λ_=>True) (B:=λd=>jV d X) (λw y K h=>(fg p y).elim λF q=>T7 q λg d f i m nn=>h d g f trivial i m nn) (λb _=>e b)
def NB(f:lk A n=some b)(g:∀d,Gs (Cp d (bk n)::L) (K (fe d)))(p:bL L (qG A bk::M):=by exact gy):Gs L (Cw pQ 93 #[fe b] K):=
 Gs.nw (φ:=λk=>Cw pQ _ _ k) (val:=fe) (p:=λ_=>True) (B:=λd=>Cp d (bk n)) (λw y K h=>(fg p y).elim λF ⟨o,q⟩=>D6 (q.q n b trivial f) λd i e j m nn=>h d e i trivial j m nn) (λb _=>g b)
def Qj(g:∀w,Ss w L->Rd w 5 s os.length (os.flatMap dp))(i:os.length<=1000000)(e:∀d,Gs (lX d os::L) (K d)):Gs L (Cw pQ 94 #[s] K):=
 Gs.nw (φ:=λk=>Cw pQ _ _ k) (val:=id) (p:=λ_=>True) (B:=λd=>lX d os) (λw y K h=>tn (g w y) i λd f o m nn=>h d f (aQ d) trivial ⟨o,λ_=>aI⟩ m nn) (λd _=>e d)
def OC(d:∀c,Gs (lT c ⟨0,[]⟩::L) (K (gk c))):Gs L (Cw pQ 33 #[] K):=
 Gs.nw (φ:=λk=>Cw pQ _ _ k) (val:=gk) (p:=λ_=>True) (B:=λc=>lT c ⟨0,[]⟩) (λw y K h=>N8 λc F e q m nn=>h c e F trivial q m nn) (λb _=>d b)
def NO(d:∀l,Gs (jV l bq.empty::L) (K (eK l))):Gs L (Cw pQ 34 #[] K):=
 Gs.nw (φ:=λk=>Cw pQ _ _ k) (val:=eK) (p:=λ_=>True) (B:=λl=>jV l bq.empty) (λw y K h=>PJ λe l F q m nn=>h l e F trivial q m nn) (λb _=>d b)
def Gs.mkM{P:Program}{κ ν:Type} [DecidableEq κ]{enc:κ->Value}{ev:ν->Value}{t:TypeId}{k:Value->WP}(d:∀m,Gs (mp enc ev m ([]:List (κ×ν))::L) (k (.map (some m)))):Gs L (Vw P (Instr.makeMap t none) k):=⟨λw y=>by
 refine dy (AU _) ((d _).go _ (y.new ((bn.refl _ w).alloc _) (F' :=λx=>x=w.heap.size) ⟨fI.new w,λ_=>aI⟩ λx e=>qZ))⟩
def Gs.mkB(d:∀m,Gs (Ld m []::L) (K (.map (some m)))):Gs L (Vw pQ (Instr.makeMap 90 none) K):=Gs.mkM d
def Gs.mkD(d:∀m,Gs (Lm m []::L) (K (.map (some m)))):Gs L (Vw pQ (Instr.makeMap 91 none) K):=Gs.mkM d
def RR(h:Gs (qG [] bk::L) φ):Gs L φ:=⟨λw y=>h.go w (y.new (bn.refl _ w) (F' :=λ_=>False) ⟨λ_ _=>False,⟨λn b _ e=>(by cases e),λn m x _ _ h=>h.elim,λx=>⟨False.elim,λ⟨n,_,h,_⟩=>(by cases h)⟩⟩⟩ λ_ h=>h.elim)⟩
def PM(h:Gs (tq [] (λ_=>[])::L) φ):Gs L φ:=⟨λw y=>h.go w (y.new (bn.refl _ w) (F' :=λ_=>False) ⟨λn _=>il.nil _ _ _,λn m x _ _ h=>(by cases h),λx=>⟨False.elim,λ⟨n,_,h⟩=>(by cases h)⟩⟩ λ_ h=>h.elim)⟩
def Vm(d:∀v c l mb md,Gs (vs v c l mb md [] [] ba.empty L) (K (eE v))):Gs L (Cw pQ 8 #[] K):=by
 refine sN Tryz.func8 ?_;refine OC (λc=>?_);refine NO (λl=>?_);refine Gs.mkB (λmb=>?_);refine Gs.mkD (λmd=>?_);refine au ?_;intro v;refine RR (bk:=λ_=>Bk.empty) (PM ?_);have h:Gs (TO v c l mb md 1::lT c ⟨0,[]⟩::jV l bq.empty::Ld mb []::Lm md []::qG [] (λ_=>Bk.empty)::tq [] (λ_=>[])::L) (K (eE v)):=d v c l mb md;exact h.fin
def nQ.nil:nQ [] [] ba.empty.cal.l ba.empty.bk:=⟨λ_=>rfl,λ_ h=>(by cases h),λ_ _=>rfl⟩
structure aq1 where
 v:Nat
 c:Nat
 l:Nat
 mb:Nat
 md:Nat
structure an1 where
 R:List (Int×Nat)
 p:Option (Int×Nat)
 A:List (Int×Nat)
structure al9 where
 R:List (Int×Value)
 p:Option (Int×Value)
 D:List (Int×Value)
def Z7{α:Type}{R:List (Int×α)}{i:Nat}{p:Int×α}(h:(R.map (·.1)).Nodup)(hi:R[i]? =some p):((R.eraseIdx i).map (·.1)).Nodup/\∀q∈R.eraseIdx i,q.1≠p.1:=by
 obtain⟨g,rfl⟩:=aF.1 hi;have f:=h;rw[<-ce i R,<-bR g,aK,aH,dg,bO]at f;obtain⟨m,⟨k,o⟩,j⟩:=f;refine⟨h.sublist ((eO _ _).map _),λq d e=>?_⟩;rw[List.eraseIdx_eq_take_drop_succ,aN]at d;rcases d with d|d
 ·exact j q.1 (aV d) _ ai e
 ·grind
def XJ(S:ba)(A:List (Int×Nat)):Int->Bk:=λn=>if(lk A n).isSome then S.bk n else Bk.empty
def Zl(S:ba)(D:List (Int×Value)):Int->List Od:=λn=>if(lk D n).isSome then S.bd n else []
def Uv(S:ba)(A:List (Int×Nat))(n:Int)(b:Nat):eR (XJ S A) n (S.bk n)=XJ S (put A n b):=by
 funext m;unfold XJ;rw[lL];by_cases h:m=n
 ·subst h;rw[cQ,ab rfl];rfl
 ·rw[eT _ _ _ h,aa (c:=n=m) λe=>h e.symm]
def V6(S:ba)(D:List (Int×Value))(n:Int)(s:Vt_):eR (Zl S D) n (S.bd n)=Zl S (put D n s):=by
 funext m;unfold Zl;rw[lL];by_cases h:m=n
 ·subst h;rw[cQ,ab rfl];rfl
 ·rw[eT _ _ _ h,aa (c:=n=m) λe=>h e.symm]
structure Xc{α:Type}(A A' R:List (Int×α)):Prop where
 r:∀q∈R,q∈A
 nd:(R.map (·.1)).Nodup
 no:∀q∈R,lk A' q.1=none
 sub:∀n,(lk A' n).isSome=true->(lk A n).isSome=true
 all:∀q∈A,q∈R\/(lk A' q.1).isSome=true
def Xc.step{α:Type}{A A' R:List (Int×α)}{i:Nat}{p:Int×α}{x:α}(h:Xc A A' R)(hi:R[i]? =some p)(j:lk A p.1=some p.2):Xc A (put A' p.1 x) (R.eraseIdx i):=by
 obtain⟨o,k⟩:=Z7 h.nd hi;have g:∀q∈R.eraseIdx i,q∈R:=λq d=>(eO _ _).mem d;refine⟨λq d=>h.r q (g q d),o,λq d=>?_,λn f=>?_,λq d=>?_⟩
 ·rw[lL,aa λe=>k q d e.symm];exact h.no q (g q d)
 ·rw[lL]at f;by_cases e:p.1=n
  ·rw[<-e,j];rfl
  ·rw[aa e]at f;exact h.sub n f
 ·rw[lL];by_cases e:p.1=q.1
  ·grind
  ·rw[aa e];exact(h.all q d).imp (λm=>(Cy hi m).resolve_left λh=>e (h▸rfl)) id
def Xc.fin{α:Type}{A A' :List (Int×α)}(h:Xc A A' [])(n:Int):(lk A' n).isSome=(lk A n).isSome:=by
 cases e:(lk A' n).isSome with
 |true=>rw[h.sub n e]
 |false=>
  cases f:lk A n with
  |none=>rfl
  |some x=>
   rcases h.all _ (yy f)with d|d
   ·cases d
   ·rw[e]at d;cases d
def HK(E:nQ A D S.cal.l S.bk)(N:S.Ok)(W:∀t o r e d g q,nQ g q S.cal.l S.bk->Gs (vs t o r e d g q S (vs v c l mb md A D S L)) (K (eE t)))(pk:bL L0 (vs v c l mb md A D S L):=by exact kz):Gs L0 (Cw pQ 38 #[eE v] K):=by
 refine Gs.pk ?_ pk;refine sN Tryz.func38 ?_;unfold eE;refine sK ?_;refine au ?_;refine Gs.j (λy:aq1=>(.pointer (some ⟨y.v,0,none⟩),())) (λy=>TO y.v y.c y.l y.mb y.md S.next::lT y.c S.cal::jV y.l S.led::Ld y.mb []::Lm y.md []::vs v c l mb md A D S L) (λ_=>True) (λJ Z=>?_) λy _=>?_
 ·refine au ?_
  repeat' (first|(intro t;exact(Z ⟨t,_,_,_,_⟩ trivial).fin)|(refine Gs.An ?_ ?_ <;>refine au ?_)|(refine Ry (λo=>?_);refine au ?_)|(refine QL (λr=>?_);refine au ?_)|((with_reducible refine Gs.mkB (λe=>?_));refine au ?_)|((with_reducible refine Gs.mkD (λd=>?_));refine au ?_))
 show Gs (O9 y.v y.c y.l y.mb y.md S.next::_) _;obtain⟨t,o,r,e,d⟩:=y
 dsimp only
 refine Gs.z (au ?_);refine KA (λO=>?_);refine Gs.mpN (enc:=eS) (ev:=fe) (D:=A) (λU=>?_) gy;refine Gs.mpN (enc:=eS) (ev:=AP) (D:=D) (λT=>?_) gy;refine Gs.rng xw (λit=>?_) gy;refine RR (bk:=XJ S []) ?_;refine Gs.l (λ_:an1=>()) (·.R.length) (λx=>ME eS fe mb A it x.R x.p::O9 t o r e d S.next::lT o S.cal::jV r S.led::Ld e x.A::Lm d []::qG x.A (XJ S x.A)::O9 v c l mb md S.next::lT c S.cal::jV l S.led::Lm md D::qG A S.bk::tq D S.bd::L) (λx=>Xc A x.A x.R) ⟨A,none,[]⟩ rfl ⟨λ_ h=>h,U,λ_ _=>rfl,λ_ h=>(by cases h),λ_ h=>.inl h⟩ ?_ kz;rintro⟨R,Y,g⟩ j V f
 dsimp only at j f|-
 refine Gs.z ?_;refine Gs.nxt (λF=>?_) (λi p u=>?_) gy
 ·subst F;have k:=j.fin
  have I:XJ S g=S.bk:=by
   funext n;unfold XJ;rw[k];by_cases h:(lk A n).isSome=true
   ·rw[ab h]
   ·rw[aa h,E.nbk n (by simpa using h)]
  rw[I];clear f j;refine au ?_;refine Gs.rng qw (λQ=>?_) gy;refine PM ?_;refine Gs.l (λ_:al9=>()) (·.R.length) (λx=>ME eS AP md D Q x.R x.p::O9 t o r e d S.next::lT o S.cal::jV r S.led::Ld e g::Lm d x.D::qG g S.bk::tq x.D (Zl S x.D)::O9 v c l mb md S.next::lT c S.cal::jV l S.led::Ld mb A::qG A S.bk::tq D S.bd::L) (λx=>Xc D x.D x.R) ⟨D,none,[]⟩ rfl ⟨λ_ h=>h,T,λ_ _=>rfl,λ_ h=>(by cases h),λ_ h=>.inl h⟩ ?_ ?_
  rotate_left
  ·show bL _ (ME eS AP md D Q D none::O9 t o r e d S.next::lT o S.cal::jV r S.led::Ld e g::Lm d []::qG g S.bk::tq [] (λ_=>[])::O9 v c l mb md S.next::lT c S.cal::jV l S.led::Ld mb A::qG A S.bk::tq D S.bd::L);exact kz
  rintro⟨R,Y,q⟩ j V f
  dsimp only at j f|-
  refine Gs.z ?_;refine Gs.nxt (λF=>?_) (λi p u=>?_) gy
  ·subst F
   have P:Zl S q=S.bd:=by
    funext n;unfold Zl;rw[j.fin];by_cases h:(lk D n).isSome=true
    ·rw[ab h]
    ·rw[aa h,O n (by simpa using h)]
   rw[P];refine au ?_;exact(W t o r e d g q ⟨λn=>by rw[k];exact E.dom n,λn h=>E.dod n (j.sub n h),λn h=>E.nbk n (by have:=k n;rw[h]at this;simpa using this.symm)⟩).fin
  ·obtain⟨n,s⟩:=p;have m:lk D n=some s:=rN T (j.r _ (cP u));have H:ly D n=s:=by unfold ly;rw[m];rfl
   refine au ?_;refine Gs.ent ?_ gy;refine au ?_;refine Qj (os:=S.bd n) (s:=s) (H▸ni n) (by have:=N.ord.bdl n;omega) (λw=>?_);refine au ?_;refine Gs.mup (enc:=eS) (ev:=AP) (D:=q) (x:=n) (v:=w) qw kL ?_ gy;refine vg (D:=q) (n:=n) ?_;refine yO (D:=q) (n:=n) (s:=w) (os:=S.bd n) ?_;rw[V6 S q n w];have G:=j.step (x:=w) u m;exact(f ⟨R.eraseIdx i,some (n,s),put q n w⟩ G (by have:=(aF.1 u).1;show(R.eraseIdx i).length<_;rw[gh this];omega)).fin
 ·obtain⟨n,b⟩:=p;have m:lk A n=some b:=rN U (j.r _ (cP u));refine au ?_;refine Gs.ent ?_ gy;refine au ?_;refine NB (n:=n) m (λz=>?_);refine au ?_;refine Gs.mup (enc:=eS) (ev:=fe) (D:=g) (x:=n) (v:=z) xw kL ?_ gy;refine Fx (A:=g) (n:=n) (j.no _ (cP u)) ?_;rw[Uv S g n z];have G:=j.step (x:=z) u m;exact(f ⟨R.eraseIdx i,some (n,b),put g n z⟩ G (by have:=(aF.1 u).1;show(R.eraseIdx i).length<_;rw[gh this];omega)).fin
end
end Go.Proofs
