/- The statement VenueSettles: for every input the law returns true; arguments stay. Conditions: none. -/
import Derived.Test.YtnfloameajanhaaGreatZ8
set_option linter.all false
namespace Go.Vc
open Go Go.ChangeShapes Go.WideShapes Go.ChangeAt Go.RowKit
section
variable{H:Type}{enc:TypeId×Value->H}{P:Program}{w:World}{base:Nat}{spare:Nat->Bool}{held:Bool}
def ff{e:TypeId}:∀{l:List (DataW H)} {d:DataW H},d∈l->∀m∈d.weights P e,m∈DataW.weightsAll P e l
 |a::l,d,b,m,c=>by
  simp only[DataW.weightsAll,dg];rcases cH.1 b with rfl|b
  ·exact .inl c
  ·exact .inr (ff b m c)
def Wt.slice{t e:TypeId}{B:Nat}{l r:List (DataW H)}(c:P.underlying t=some (.slice e))(h:Wt P B t (.slice l r)):(l.length+r.length)*P.bytesOf e<=B/\∀d∈l,Wt P B e d:=by
 unfold Wt at h;simp only[DataW.weights,c,cH,dg]at h;exact⟨h _ (.inl rfl),λd a m b=>h m (.inr (.inl (ff a m b)))⟩
def nJ{t e:TypeId}{sz:Nat}{o:Nat}{cs:List Value}{x:DataW H×List MemPlace}(I:P.underlying t=some (.slice e))(hc:P.cellsOf e=sz)(E:0<sz)
  {B:Nat}(O:DataW.trod enc P w base spare held o t cs=some x)(hB:Wt P B t x.1):
  ∃v,cs=[v]/\∃L:List (List Value),Rd w sz v L.length L.flatten/\L.length*P.bytesOf e<=B/\∀c∈L,c.length=sz/\∃X y,DataW.trod enc P w base spare held X e c=some y/\Wt P B e y.1:=by
 rcases DataW.trod_slice I O with⟨rfl,-⟩|⟨a,len,Q,A,rest,n,hf,rfl,rfl,hb,V,hm,N,C,Z,T⟩
 ·exact⟨_,rfl,[],⟨by simp,.inl ⟨rfl,_,_,rfl⟩⟩,by simp,by simp⟩
 ·obtain⟨z,F⟩:=hB.slice I
  have m:∀i,i<len->∃c,w.cells? base (a.add (i*sz)) sz=some c/\∃y,DataW.trod enc P w base spare held n e c=some y/\Wt P B e y.1:=by
   intro i b;have j:=C i b;rw[cE (by omega),hc,Option.bind_eq_some_iff]at j;obtain⟨c,g,r⟩:=j;exact⟨c,g,_,r,F _ (cF.2 ⟨_,cC _,rfl⟩)⟩
  have R:∀k,k<=len->∃L:List (List Value),L.length=k/\∀i (b:i<L.length),w.cells? base (a.add (i*sz)) sz=some L[i]/\∃y,DataW.trod enc P w base spare held n e L[i]=some y/\Wt P B e y.1:=by
   intro k;induction k with
   |zero=>exact λ_=>⟨[],rfl,λi b=>by simp at b⟩
   |succ k p=>
    intro hk;obtain⟨L,j,g⟩:=p (by omega);obtain⟨c,r,J⟩:=m k (by omega);refine⟨L++[c],by simp[j],λi b=>?_⟩;by_cases S:i<L.length
    ·grind
    ·grind
  obtain⟨L,j,g⟩:=R len (cJ _)
  have d:∀c∈L,c.length=sz:=by
   intro c f;obtain⟨i,b,rfl⟩:=cX f;exact(World.cells?_some (g i b).1).2.1
  have W:∀(M:List (List Value)),(∀c∈M,c.length=sz)->M.flatten.length=M.length*sz:=by
   intro M;induction M with
   |nil=>intro _;simp
   |cons c M p=>
    intro l;rw[List.flatten_cons,cD,p λc h=>l c (cu _ h),l c cw,dc,je,jf]
  have q:∀(M:List (List Value)),(∀c∈M,c.length=sz)->∀i v,M.flatten[i]? =some v->∃h:i / sz<M.length,M[i / sz][i%sz]? =some v:=by
   intro M;induction M with
   |nil=>intro _ i v h;simp at h
   |cons c M p=>
    intro l i v h;have G:=l c cw;rw[List.flatten_cons]at h;by_cases b:i<sz
    ·rw[dC (by omega)]at h;rw[Nat.div_eq_of_lt b,iM b];exact⟨by simp,by simpa using h⟩
    ·rw[cQ (by omega),G]at h;obtain⟨j,g⟩:=p (λc h=>l c (cu _ h)) (i - sz) v h
     have s:i / sz=(i - sz) / sz+1:=by
      rw[Nat.div_eq_sub_div E (by omega)]
     have D:i%sz=(i - sz)%sz:=by
      rw[Nat.mod_eq_sub_mod (by omega)]
     refine⟨by grind,?_⟩;simp only[s,D,fA];exact g
  refine⟨_,rfl,L,?_,dD (dM _ (by simp;omega)) z,λc f=>⟨d c f,?_⟩⟩
  ·rw[j];refine mJ V (by grind) (λi v b=>?_) E;obtain⟨r,J⟩:=q L d i v b;obtain⟨h5,Y⟩:=World.cells?_some (g _ r).1 |>.2
   have u:=gR i E;have K:=Y (i%sz) u
   have e:((a.add (i / sz*sz)).add (i%sz))=a.add i:=by
    have U:i / sz*sz+i%sz=i:=by rw[fe];exact ie i sz
    conv=>rhs;rw[<-U]
    simp only[Addr.add];by_cases s:i / sz*sz=0
    ·simp[s]
    ·by_cases D:i%sz=0
     ·simp[D,s]
     ·grind
   rw[e]at K;rw[K];exact J
  ·obtain⟨i,b,rfl⟩:=cX f;exact⟨n,(g i b).2⟩
end
end Go.Vc
namespace Go.Proofs
open Go Go.Vc
def Led.Zero.won{S:Led}(h:S.Zero)(c price:Int):(((S.holders c).map λp=>(p.a,p.q*price - p.b)).map (·.2)).sum=0:=by
 obtain⟨a,b⟩:=h.holders c
 have:(((S.holders c).map λp=>(p.a,p.q*price - p.b)).map (·.2)).sum=kB (λp=>p.q*price - p.b) (S.holders c):=by
  simp[kB,Function.comp_def]
 rw[this,zN (f:=λp=>p.q*price) (g:=λp=>p.b),CV (f:=λp=>p.q),a,b];simp
end Go.Proofs
namespace Go.Proofs
open Go Go.Vc
def sL(l:List Sd)(a:Ac):(setAc l a).num=a.num/\(setAc l a).kil=a.kil:=by unfold setAc;split<;>exact⟨rfl,rfl⟩
def fM:∀(l:List Sd) (r:Rp) (S:Ven),r.err=0->(payL l r S).2.1.err=0
 | [],r,S,h=>h
 |s::l,r,S,h=>by
  unfold payL;simp only;cases s.dfl with
  |true=>
   simp only[fh];split
   ·exact h
   ·exact fM l _ _ h
  |false=>
   simp only[dE,eW];split
   ·exact h
   ·exact fM l _ _ h
def gX(S:Ven)(won:Int->Int):(S.pay won).2.1.err=0:=by
 unfold Ven.pay;simp only;split
 ·rfl
 ·split
  ·exact fM _ _ _ rfl
  ·exact fM _ _ _ rfl
def jM(S:Ven):S.settle.2.1.err=0:=by
 unfold Ven.settle;simp only;split
 ·rfl
 ·split
  ·rfl
  ·split
   ·exact gX _ _
   ·exact gX _ _
def expire_err(S:Ven)(n:Int):(S.expire n).2.1.err=0:=by
 unfold Ven.expire;simp only;split
 ·rfl
 ·split
  ·rfl
  ·split
   ·exact gX _ _
   ·exact gX _ _
def gN(accts:List Int)(L:Led)(a:Ac):Ac:=if a.dfl=true/\(L.ofA a.num).isEmpty=true/\accts.contains a.num=false then {a with dfl:=false}else a
def rD(accts:List Int)(L:Led)(a:Ac):(gN accts L a).num=a.num/\(gN accts L a).kil=a.kil/\(gN accts L a).cash=a.cash:=by unfold gN;split<;>exact⟨rfl,rfl,rfl⟩
def nu{accts:List Int}:∀(l:List Ac) (e:Int) (L:Led),L.Ok->(∀a∈l,L.find a.num=some a)->(l.map (·.num)).Nodup->
  (freeL accts l e L).2.all=L.all.map (λa=>if l.any (λb=>decide (b.num=a.num))then gN accts L a else a)/\(freeL accts l e L).2.held=L.held/\(freeL accts l e L).2.fund=L.fund/\(e=0->(freeL accts l e L).1=0)
 | [],e,L,h,_,_=>⟨by
   have:L.all.map (λa=>if([]:List Ac).any (λb=>decide (b.num=a.num))then gN accts L a else a)=L.all.map id:=dt λa _=>rfl;rw[this,iP];rfl,rfl,rfl,λh=>h⟩
 |a::l,e,L,h,B,J=>by
  obtain⟨w,o⟩:=dA.1 J;have i:=B a cw;obtain⟨n,-,g⟩:=Led.find_ok h i;have s:=h.acc a n;have K:∀x∈l,x.num≠a.num:=λx p M=>w (by grind);unfold freeL;by_cases r:a.dfl=true/\(L.ofA a.num).isEmpty=true/\accts.contains a.num=false
  ·rw[bZ r];obtain⟨b,A⟩:=dW ({a with dfl:=false}:Ac);rw[<-A];have d:b.num=a.num:=by rw[A]
   have k:L.set b=(0,L.putA b):=by
    rcases Led.set_cases L b with⟨-,H⟩|⟨I,-⟩
    ·refine absurd ?_ H;unfold Led.set;rw[aZ,aZ]
     ·rw[d,jV g,i];simp
     ·rw[d];have:amongB b.cash 0 MF=true:=amongB_iff.2 (by grind);rw[this];simp[g]
    ·exact I
   rw[k];simp only
   have q:(L.putA b).all=L.all.map λy=>if y.num=b.num then b else y:=by
    unfold Led.putA;rw[aZ (by rw[d];exact g)];exact uO h.sa ⟨a,n,d.symm⟩
   have f:(L.putA b).held=L.held:=Led.putA_held _ _
   have t:(L.putA b).Ok:=by
    have:=Led.set_Ok h (a:=b) (by grind)
    rwa[k]at this
   obtain⟨F,v,D,E⟩:=nu l 0 (L.putA b) t (λx p=>by
    rw[Led.find_putA h.sa (by rw[d];exact g),aZ (by grind)];exact B x (cu _ p)) o
   refine⟨?_,v.trans f,D.trans ?_,λ_=>E rfl⟩
   ·rw[F,q,dQ];refine dt λy C=>?_
    have G:∀z,gN accts (L.putA b) z=gN accts L z:=λz=>by
     unfold gN Led.ofA;rw[f]
    show(if l.any (λc=>decide (c.num=(if y.num=b.num then b else y).num))then gN accts (L.putA b) (if y.num=b.num then b else y)else(if y.num=b.num then b else y))=_;by_cases j:y.num=b.num
    ·have m:y=a:=by
      have:=Led.mem_find h C;rw[j,d,i]at this;exact(dB this).symm
     rw[bZ j]
     have u:l.any (λc=>decide (c.num=b.num))=false:=by
      rw[nH];exact λx p=>by grind
     rw[u,m,kQ];simp only[qb,Bool.true_or,fh];unfold gN;rw[bZ r,A];simp
    ·grind
   ·unfold Led.putA;rw[aZ (by rw[d];exact g)]
  ·rw[aZ r];obtain⟨F,v,D,E⟩:=nu l e L h (λx p=>B x (cu _ p)) o;refine⟨?_,v,D,E⟩;rw[F];refine dt λy C=>?_;rw[kQ];by_cases j:a.num=y.num
   ·have m:y=a:=by
     have:=Led.mem_find h C;rw[<-j,i]at this;exact(dB this).symm
    rw[m];have:gN accts L a=a:=by unfold gN;rw[aZ r]
    simp[this]
   ·grind
def oH{accts:List Int}{L:Led}(h:L.Ok):(freeL accts L.all 0 L).2.all=L.all.map (gN accts L)/\(freeL accts L.all 0 L).1=0:=by
 obtain⟨d,-,-,c⟩:=nu (accts:=accts) L.all 0 L h (λa b=>Led.mem_find h b) h.sa.nodup;refine⟨?_,c rfl⟩;rw[d];refine dt λa b=>?_;rw[bZ (gA.2 ⟨a,b,by simp⟩)]
end Go.Proofs
set_option maxRecDepth 100000
namespace Go.Proofs
open Go Go.Vc
section
variable{a b c:Vt_}{W:Wt_}{Z:cG}
def J24_0(a:cG)(b:T2)(c:T2->Wp)(d:T1)(e:Wt_):=NV->cV d.1 (a bF e) (g1 b.2.1 e λf g=>c (b.1,f,()) g)
def ai2(a b c:Vt_)(d:T2)(e:Vt_)(f:cG)(g:T2->Wp)(h:T2)(i:Wt_)(j:T2->Wp):=gc h.2.1 a i λk l=>cV k (cV h.1 (g1 h.2.1 l.drew λm n=>j (bT,m,()) n) (gY 52 b 6 50 l.drew λo=>mf 50 o h.2.1 λp=>eP 23 p l.drew λq=>gY 61 c 3 56 l.drew λr=>mf 56 r d.2.1 λs=>gY 70 s 0 23 l.drew λt=>my .eql 23 false q t λu=>g1 h.2.1 l.drew λv w=>j (u,v,()) w)) (jW (λx=>cV h.1 (dz 61 c 3 56 l λy z=>gi 56 y d.2.1 z λA B=>dz 70 A 1 2 B λC D=>gb .neq 2 true C (gI 0) D λE F=>cV E (x (bT,()) F) (dz 61 c 3 56 F λG H=>gi 56 G d.2.1 H λI J=>dz 70 I 3 4 J λK L=>gt K L λM N=>cV M (x (bT,()) N) (gt h.1 N λO P=>cV O (dz 61 c 3 56 P λQ R=>gi 56 Q d.2.1 R λS T=>dz 70 S 3 4 T λU V=>cV U (dz 61 e 3 56 V λX Y=>gi 56 X d.2.1 Y λaa ab=>dz 70 aa 3 4 ab λac ad=>gt ac ad λae af=>x (ae,()) af) (x (bF,()) V)) (x (bF,()) P)))) (gt h.1 l λag ah=>cV ag (dz 61 c 3 56 ah λai aj=>gi 56 ai d.2.1 aj λak al=>dz 70 ak 3 4 al λam an=>cV am (dz 61 e 3 56 an λao ap=>gi 56 ao d.2.1 ap λaq ar=>dz 70 aq 3 4 ar λau av=>gt au av λaw ax=>x (aw,()) ax) (x (bF,()) an)) (x (bF,()) ah))) (J24_0 f d g))
def ab5(a b c d:Vt_)(e:cG)(f:T2)(g:Wt_)(h:T2->Wp):=gc f.2.1 a g λi j=>cV i (dz 52 b 6 50 j λk l=>gn 50 false k l λm n=>qB (ai2 m b c f d e h) (bF,(gI 0),()) n) (dz 61 c 0 23 j λo p=>dz 61 d 0 23 p λq r=>gb .add 23 true q (gU 1) r λs t=>gb .eql 23 false o s t λu v=>cV u (Ca pQ 13 #[] v e) (e bF v))
def ab9(a:cG)(b:Vt_)(c:T1)(d:Wt_):=NV->cV c.1 (a bF d) (Ca pQ 20 #[b] d λe f=>gv 61 e f λg h=>gx (rB 30 #[(0,(gB 12))]) h λi j=>Ca pQ 18 #[b,i] j λk l=>gv 52 k l λm n=>dz 52 m 0 43 n λo p=>gE o p λq r=>cV q (a bF r) (Ca pQ 20 #[b] r λs t=>gv 61 s t λu v=>dz 61 u 3 56 v λw x=>gn 56 false w x λy z=>qB (ab5 y m u g a) (bF,(gI 0),()) z))
def Z6(a b c d:Vt_)(e:cG)(f:T1)(g:Wt_)(h:T1->Wp):=gc f.1 a g λi j=>cV i (gi 65 b f.1 j λk l=>gx (fH 30 k) l λm n=>Ca pQ 18 #[c,m] n λo p=>g1 f.1 p λq r=>h (q,()) r) (Ca pQ 21 #[c] j λs t=>gx (rB 30 #[(0,(gB 14)),(2,d)]) t λu v=>Ca pQ 18 #[s,u] v λw x=>gr (Instr.field 52 w 0) x λy z=>jW (λA=>gE y z λB C=>cV B (gb .neq 43 true y (gI 7) C λD E=>cV D (gb .neq 43 true y (gI 50) E λF G=>cV F (gb .neq 43 true y (gI 51) G λH I=>A (H,()) I) (A (bF,()) G)) (A (bF,()) E)) (A (bF,()) C)) (ab9 e c))
def ae7(a:Vt_)(b:cG)(c d:Vt_)(e:T1)(f:Wt_):=NV->cV e.1 (gb .neq 39 true a (.pointer none) f λg h=>cV g (Ca pQ 13 #[] h b) (b bF h)) (gn 65 false c f λi j=>qA (Z6 i c a d b) ((gI 0),()) j)
def ca7(l:Ca pQ 22 #[] W λc d=>jW (λe=>gb .eql 39 true c (.pointer none) d λf g=>cV f (e (bT,()) g) (gn 65 false a g λh i=>gb .gtr 3 true h (gI 100) i λj k=>e (j,()) k)) (ae7 c Z a b)):Ca pQ 7 #[a,b] W Z:=cj Tryz.func7 l
end
end Go.Proofs
namespace Go.Proofs
open Go Go.Vc
attribute [local congr] cR
section
variable{w:Wt_}{b lo:Nat}{d nx fu:Int}{ss:Nat->Value}{A:List Ac}{C:List Ct}{P:List Po}{O B:List (Int×Od)}
def SB.md0{w' :Wt_}(h:SB w b d nx fu ss A C P O B lo)(a:M0 w w'):SB w' b d nx fu ss A C P O B lo:=SB.modX h a eQ
def SB.len(h:SB w b d nx fu ss A C P O B lo)(i:Nat)(hi:3<=i)(e:i<=7):∃a c,ss i=.slice a (LN A C P O B i) c:=by
 obtain⟨a,c,f,_⟩:=(h.own i hi e).isSl;exact⟨a,c,f⟩
end
end Go.Proofs
namespace Go.Proofs.YtnfloameajanhaaGreat
open Go Go.Vc Go.Proofs Go.ChangeShapes Go.WideShapes Go.ChangeAt Go.RowKit
set_option maxRecDepth 100000 in
def open_cms{H:Type}{enc:TypeId×Value->H}{w:World}{v0:Value}{j:DataW H}{q:List MemPlace}{d:Nat}(a:Value.okWide Tryz.prog w .any d 65 v0)(g:∃b,DataW.trod enc Tryz.prog w 0 (λ_=>true) true b 65 v0.cells.toList=some (j,q))
  (r:Wt Tryz.prog reachBytes 65 j):∃l:List Cm,Rd w 35 v0 l.length (l.flatMap cmC)/\∀x∈l,x.Fit:=by
 have h:v0.cells.toList=[v0]:=by
  unfold Value.okWide at a;rw[Tryz.underlying65]at a;simp only[Cell.okWide,Tryz.underlying65]at a;unfold Cell.ok at a;rw[Tryz.underlying65]at a;cases v0<;>first|rfl|exact a.elim
 obtain⟨b,g⟩:=g;rw[h]at g;obtain⟨v,e,L,k,-,o⟩:=nJ (sz:=35) Tryz.underlying65 cU qZ g r;cases e
 obtain⟨l,rfl,i⟩:=list_choose (f:=cmC) (Q:=Cm.Fit) λc s=>by
  obtain⟨n,t,y,m,p⟩:=o c s;exact open_cm n m p
 rw[List.length_map,<-List.flatMap_def]at k;exact⟨l,k,i⟩
end Go.Proofs.YtnfloameajanhaaGreat
namespace Go.Proofs
open Go Go.Vc
attribute [local congr] cR
def Ven.oL(S:Ven):List (Int×Od):=S.nums.flatMap λn=>(S.bk n).all.map λo=>(n,o)
def Ven.bL(S:Ven):List (Int×Od):=S.nums.flatMap λn=>(S.bd n).map λo=>(n,o)
end Go.Proofs
namespace Go.Proofs
open Go Go.Vc
attribute [local congr] cR
def tQ{W:Wt_}{p:Nat}{r:Rp}{sT sG sA:Vt_}(h:hC W p (mC r sT sG sA).toArray lx):(iL 43 (pt p 0)).run pQ W=.ok (gI r.err) W:=by
 simp[go_sem,h,mC]
def ye(W:Wt_){p:Nat}:(iF lx (pt p 0) 0).run pQ W=.ok (pt p 0) W:=by simp[go_sem]
section
variable{w:Wt_}{b off:Nat}{a:Ac}{k:Ct}
def EO(h:At w b off (dH a)):(iL 23 (pt b off)).run pQ w=.ok (gU a.num) w:=by
 obtain⟨C,e,fz,g,f⟩:=h.get;have c:=f 0 _ rfl;rw[dS]at c;simp[go_sem,g,c]
def EU(h:At w b off (dH a)):(iL 4 (pt b (off+3))).run pQ w=.ok (.bool a.dfl) w:=by
 obtain⟨C,e,fz,f,c⟩:=h.get;have g:=c 3 _ rfl;simp[go_sem,f,g]
end
def yc(t:TypeId)(q:IntKind)(x y:Int)(c:Bool)(f:Tryz.prog.underlying t=some (.int q))(W:Wt_):(qE .eql t c (.int q x) (.int q y)).run pQ W=.ok (.bool (decide (x=y))) W:=by
 have e:(x==y)=decide (x=y):=rfl;simp[go_sem,e]
end Go.Proofs
namespace Go.Proofs
open Go Go.Vc
variable {L:Led}{S:Ven}
def holders_c{n:Int}{p:Po}(h:p∈L.holders n):p.c=n:=by simpa using(cO.1 h).2
def vd:∀l won a,(l.map (·.1)).Nodup->wonAdd won l a=won a\/∃x∈l,x.1=a/\wonAdd won l a=won a+x.2
 | [],won,a,_=>.inl rfl
 |x::l,won,a,h=>by
  obtain⟨i,f⟩:=dA.1 h;have e:wonAdd won (x::l) a=wonAdd (upd won x.1 (won x.1+x.2)) l a:=rfl;rcases vd l (upd won x.1 (won x.1+x.2)) a f with d|⟨y,g,c,d⟩
  ·rw[e,d];by_cases b:x.1=a
   ·subst b;exact .inr ⟨x,cw,rfl,by rw[upd_self]⟩
   ·exact .inl (upd_ne _ _ _ (kG b))
  ·rw[e,d];have b:x.1≠a:=λe=>i (by grind);exact .inr ⟨y,cu _ g,c,by rw[upd_ne _ _ _ (kG b)]⟩
def Ag:∀(A:List Int) (f:Int->Int) (n x:Int),A.Nodup->n∈A->(A.map (upd f n x)).sum=(A.map f).sum - f n+x
 | [],f,n,x,_,h=>by cases h
 |a::A,f,n,x,c,h=>by
  obtain⟨g,d⟩:=dA.1 c;rw[cM,di,cM,di];by_cases e:a=n
  ·subst e;have:A.map (upd f a x)=A.map f:=dt λb i=>upd_ne _ _ _ λe=>g (e▸i);rw[this,upd_self];omega
  ·rw[Ag A f n x d ((cH.1 h).resolve_left (kG e)),upd_ne _ _ _ e];omega
def uJ{A:List Int}(a:A.Nodup):∀(l:List (Int×Int)) (won:Int->Int),(∀x∈l,x.1∈A)->(A.map (wonAdd won l)).sum=(A.map won).sum+(l.map (·.2)).sum
 | [],won,_=>by simp[wonAdd]
 |x::l,won,h=>by
  have e:wonAdd won (x::l)=wonAdd (upd won x.1 (won x.1+x.2)) l:=rfl;rw[e,uJ a l _ λy b=>h y (cu _ b),Ag A _ _ _ a (h x cw),cM,di];omega
def qp{k:Ct}(h:k.Ok):1<=k.price/\k.price<=10000000:=tS h.2.2.1
def AL{k:Ct}(h:k.Ok):k.spec.num≠0:=by
 have:=h.2.1;unfold Sp.may at this;simp only[cL,dN]at this;exact this.1.1.1.1.1.1.1.2
def yR(h:SortP L.held)(c:Int):((L.holders c).map (·.a)).Nodup:=by
 rw[List.Nodup,fD];refine(ur h c).imp_of_mem λ{x y} g d a b=>?_;have f:=holders_c g;have e:=holders_c d;apply vC a;unfold Po.key;rw[f,e,b]
def xI{c price:Int}{cl:Bool}(a:c≠0)(hp:1<=price/\price<=10000000):
  L.mark c price cl=(0,(L.holders c).map λp=>(p.a,p.q*price - p.b),L.marked (L.holders c) price cl):=by
 unfold Led.mark;have:amongB price 1 MP=true:=amongB_iff.2 hp;rw[aZ (by grind)]
structure uX(L:Led)(B:Int)(won:Int->Int):Prop where
 bd:∀a,-B<=won a/\won a<=B
 sum:(L.all.map λa=>won a.num).sum=0
def zx(h:L.Ok)(g:L.Zero){c price B:Int}{won:Int->Int}(hp:1<=price/\price<=10000000)(f:uX L B won):
  uX L (B+2000000000000000) (wonAdd won ((L.holders c).map λp=>(p.a,p.q*price - p.b))):=by
 have i:=yR h.sp c;refine⟨λa=>?_,?_⟩
 ·have m:=f.bd a;rcases vd ((L.holders c).map λp=>(p.a,p.q*price - p.b)) won a (by grind)with e|⟨x,d,-,e⟩
  ·rw[e];omega
  ·rw[e];obtain⟨p,b,rfl⟩:=cF.1 d;have:=h.pos p (cO.1 b).1;unfold MP MF at this;have n:p.q*price<=10000000*price:=fU qZ qZ;have l: -10000000*price<=p.q*price:=fU qZ qZ;omega
 ·have e:(L.all.map λa=>wonAdd won ((L.holders c).map λp=>(p.a,p.q*price - p.b)) a.num)=(L.all.map (·.num)).map (wonAdd won ((L.holders c).map λp=>(p.a,p.q*price - p.b))):=by rw[dQ];rfl
  rw[e,uJ h.sa.nodup,g.won c price,ft,dQ]
  ·exact f.sum
  ·intro x d;obtain⟨p,b,rfl⟩:=cF.1 d;obtain⟨-,-,-,-,-,-,-,a,k,j⟩:=h.pos p (cO.1 b).1;exact cF.2 ⟨a,k,j⟩
def su{C:sE}(hC:C.Ok):∀l L won B,(∀k∈l,k∈C.l)->Cb C L->uX L B won->
  (markL l L won).1=0/\uX L (B+2000000000000000*l.length) (markL l L won).2.2
 | [],L,won,B,_,h,e=>⟨rfl,by simpa [markL]using e⟩
 |k::l,L,won,B,i,h,e=>by
  unfold markL;have j:∀x∈l,x∈C.l:=λx b=>i x (cu _ b);split
  ·obtain⟨f,d⟩:=su hC l L won B j h e;refine⟨f,λa=>?_,d.sum⟩;have:=d.bd a;rw[dc];omega
  ·simp only;have c:=hC.ok k (i k cw);have n:=xI (L:=L) (cl:=false) (AL c) (qp c);obtain⟨x,b⟩:=dW (L.mark k.spec.num k.price false)
   have f:Cb C x.2.2:=by
    rw[b];refine⟨Led.mark_Ok h.led,λp hp=>?_,sX h.led h.zero _ _ _⟩;obtain⟨q,o,t⟩:=rI hp;rw[<-t];exact h.held q o
   have d:x.2.2.all=L.all:=by rw[b];exact Led.mark_all.1
   have m:uX L (B+2000000000000000) (wonAdd won x.2.1):=by rw[b,n];exact zx h.led h.zero (qp c) e
   have r:x.1=0:=by rw[b,n]
   rw[<-b,aZ (by simp[r])];obtain⟨s,g⟩:=su hC l x.2.2 (wonAdd won x.2.1) (B+2000000000000000) j f ⟨m.bd,by rw[d];exact m.sum⟩;refine⟨s,λa=>?_,by have:=g.sum;rwa[d]at this⟩;have:=g.bd a;rw[dc];omega
def tg:∀ix p,ix.Nodup->(∀i∈ix,0<=i)->∀(k:Nat) (x y:Int),(ot ix p)[k]? =some x->p[k]? =some y->x<=y+1/\((k:Int) ∉ ix->x=y)
 | [],p,_,_,k,x,y,a,d=>by
  have:x=y:=by
   have e:ot [] p=p:=rfl;rw[e,d]at a;exact(dB a).symm
  exact⟨qZ,λ_=>this⟩
 |i::ix,p,r,h,k,x,y,a,d=>by
  obtain⟨g,c⟩:=dA.1 r;have u:=h i cw;have e:ot (i::ix) p=ot ix (p.set i.toNat (p.getD i.toNat 0+1)):=rfl;rw[e]at a;by_cases n:i.toNat=k
  ·have f:=(cP.1 d).1;have q:p.getD i.toNat 0=y:=by grind
   have hp:(p.set i.toNat (p.getD i.toNat 0+1))[k]? =some (y+1):=by
    rw[q,n,List.getElem?_set_self f]
   have b:(k:Int)=i:=qZ;have:=(tg ix _ c (λj l=>h j (cu _ l)) k x _ a hp).2 (by rw[b];exact g);refine⟨qZ,λm=>absurd ?_ m⟩;rw[b];exact cw
  ·have hp:(p.set i.toNat (p.getD i.toNat 0+1))[k]? =some y:=by rw[List.getElem?_set_ne n];exact d
   obtain⟨s,o⟩:=tg ix _ c (λj l=>h j (cu _ l)) k x _ a hp;exact⟨s,λm=>o λt=>m (cu _ t)⟩
def A7{s:Nat}(a:0<s)(ws:List Nat):pO s s ws=ws:=by
 unfold pO;have:ws.map (λx=>s*x / s)=ws.map id:=dt λx _=>Nat.mul_div_cancel_left x a;rw[this,iP]
def AO{t:Int}{l:List Int}(h:(ib t l).2=0)(C:t<=l.sum)(hp:∀x∈l,0<x)(k:Nat)(x y:Int)(c:(ib t l).1[k]? =some x)(q:l[k]? =some y):x<=y:=by
 have D:=hp y (dL q);unfold ib at h c;by_cases s:1000<l.length
 ·grind
 rw[aZ s]at h c;by_cases u:t<0\/(l.any λx=>decide (x<0))=true
 ·grind
 rw[aZ u]at h c;by_cases w:¬jl l.sum
 ·grind
 rw[aZ w]at h c;by_cases B:t=0
 ·grind
 rw[aZ B]at h c;by_cases z:l.sum=0
 ·grind
 rw[aZ z]at c;simp only at c;obtain⟨a,f⟩:=dW (l.map Int.toNat);rw[<-f]at c
 have o:(a.sum:Int)=l.sum:=by
  rw[<-ti,f,dQ];congr 1;have:l.map ((λx:Nat=>(x:Int))∘Int.toNat)=l.map id:=dt λx E=>by grind
  rw[this,iP]
 have d:0<a.sum:=qZ;have v:a[k]? =some y.toNat:=by grind
 unfold tP at c;have b:(sB (qQ t.toNat a.sum a)).Perm ((List.range (qQ t.toNat a.sum a).length).map λi:Nat=>(i:Int)):=Srt.stable_perm _ _
 have g:(sB (qQ t.toNat a.sum a)).Nodup:=by
  rw[b.nodup_iff,List.Nodup,fD];exact List.nodup_range.imp λh e=>h qZ
 have n:∀i∈sB (qQ t.toNat a.sum a),0<=i:=λi m=>by
  obtain⟨j,-,rfl⟩:=cF.1 (b.mem_iff.1 m);omega
 have r:((pO t.toNat a.sum a).map λx:Nat=>(x:Int))[k]? =some ((t.toNat*y.toNat / a.sum:Nat):Int):=by
  unfold pO;rw[dO,dO,v];rfl
 obtain⟨F,p⟩:=tg _ _ (g.sublist (List.take_sublist _ _)) (λi m=>n i (ek m)) k x _ c r;by_cases A:t.toNat=a.sum
 ·rw[A]at p;have e:=p (by rw[A7 d,mg,kw];simp);rw[Nat.mul_div_cancel_left _ d]at e;omega
 ·have:t.toNat*y.toNat / a.sum<y.toNat:=by
   rw[iR d,fe];exact Nat.mul_lt_mul_of_pos_left qZ qZ
  omega
def A8{t:Int}{l:List Int}(b:l.length<=1000)(hp:∀x∈l,0<x)(a:jl l.sum)(c:0<=t/\t<=l.sum):(ib t l).2=0:=by
 unfold ib;rw[aZ qZ,aZ,aZ (by simpa using a)]
 ·split
  ·rfl
  ·rw[aZ qZ]
 ·rintro(h|h)
  ·omega
  ·grind
def uY:∀ix a o,ix.Nodup->
  (∀(k i:Nat) (p:Int) (x:Sd),ix[k]? =some i->a[k]? =some p->o[i]? =some x->0<=p/\p<=x.cash/\x.dfl=false)->
  (∀s∈o,0<=s.cash/\s.cash<=1000000000000000000/\(s.dfl=true->s.cash=0))->
  ∀s∈kS ix a o,0<=s.cash/\s.cash<=1000000000000000000/\(s.dfl=true->s.cash=0)
 | [],a,o,_,_,b=>by cases a<;>exact b
 |i::ix,[],o,_,_,b=>b
 |i::ix,p::a,o,r,m,b=>by
  obtain⟨l,c⟩:=dA.1 r;cases g:o[i]? with
  |none=>
   have e:kS (i::ix) (p::a) o=kS ix a o:=by
    conv=>lhs;unfold kS
    rw[g]
   rw[e];exact uY ix a o c (λk j q y d h f=>m (k+1) j q y (by simpa using d) (by simpa using h) f) b
  |some x=>
   have hp:=m 0 i p x rfl rfl g;have t:=b x (dL g)
   have e:kS (i::ix) (p::a) o=kS ix a (o.set i {x with cut:=p,cash:=x.cash - p}):=by
    conv=>lhs;unfold kS
    rw[g];simp only;rw[show IntKind.i64.wrap (x.cash - p)=x.cash - p by rw[eF];omega]
   rw[e];refine uY ix a _ c (λk j q y d h f=>?_) λs n=>?_
   ·have u:i≠j:=λe=>l (e▸dL d);rw[List.getElem?_set_ne u]at f;exact m (k+1) j q y (by simpa using d) (by simpa using h) f
   ·rcases gG n with n|rfl
    ·exact b s n
    ·grind
def uZ:∀(l:List Du) (b k i:Nat) (v:Int),(mU b l)[k]? =some i->(gH l)[k]? =some v->∃d,b<=i/\l[i - b]? =some d/\d.v=v/\0<v
 | [],b,k,i,v,a,_=>by simp[mU]at a
 |d::l,b,k,i,v,a,c=>by
  rw[mU]at a;by_cases f:0<d.v
  ·rw[bZ f]at a;have e:gH (d::l)=d.v::gH l:=by unfold gH;rw[dI (by simpa using f)];rfl
   rw[e]at c;cases k with
   |zero=>
    simp only[List.getElem?_cons_zero,jr]at a c;subst a c;exact⟨d,cJ _,by simp,rfl,f⟩
   |succ k=>
    obtain⟨j,m,g,h⟩:=uZ l (b+1) k i v (by simpa using a) (by simpa using c);refine⟨j,qZ,?_,h⟩;have:i - b=(i - (b+1))+1:=qZ;rw[this];simpa using g
  ·rw[aZ f]at a;have e:gH (d::l)=gH l:=by unfold gH;rw[cY (by simpa using f)]
   rw[e]at c;obtain⟨j,m,g,h⟩:=uZ l (b+1) k i v a c;refine⟨j,qZ,?_,h⟩;have:i - b=(i - (b+1))+1:=qZ;rw[this];simpa using g
def xk:∀l,(∀d∈l,0<=d.cash)->0<=(l.map iO).sum/\(l.map iO).sum+(l.map (·.v)).sum<=(gH l).sum
 | [],_=>by simp[gH]
 |d::l,h=>by
  have i:=h d cw;obtain⟨c,g⟩:=xk l λx b=>h x (cu _ b);rw[cM,di,cM,di];have f:0<=iO d/\iO d+d.v<=max 0 d.v:=by unfold iO;split<;>omega
  by_cases a:0<d.v
  ·have e:gH (d::l)=d.v::gH l:=by unfold gH;rw[dI (by simpa using a)];rfl
   rw[e,di];omega
  ·have e:gH (d::l)=gH l:=by unfold gH;rw[cY (by simpa using a)]
   rw[e];omega
def zF:∀(l:List Int) (B:Int),(∀x∈l,x<=B)->l.sum<=l.length*B
 | [],B,_=>by simp
 |a::l,B,h=>by
  have d:=h a cw;have c:=zF l B λx b=>h x (cu _ b);rw[di,dc,iT,Int.add_mul];omega
structure Dv(fund:Int)(l:List Du):Prop where
 len:l.length<=64
 rise:l.Pairwise λx y=>x.acct<y.acct
 pos:∀d∈l,0<d.acct
 cash:∀d∈l,0<=d.cash/\d.cash<=1000000000000000
 v:∀d∈l,-100000000000000000<=d.v/\d.v<=100000000000000000
 fund:0<=fund/\fund<=1000000000000000
 sum:(l.map (·.v)).sum=0
def zB:∀l last,(l.Pairwise λx y=>x.acct<y.acct)->(∀d∈l,last<d.acct/\d.ok=true)->B3 last l=true
 | [],_,_,_=>rfl
 |d::l,last,h,a=>by
  rw[fO]at h;have c:=a d cw;unfold B3;rw[db c.1,c.2,zB l d.acct h.2 λe b=>⟨h.1 e b,(a e (cu _ b)).2⟩];rfl
def Cf{fund:Int}{l:List Du}(h:Dv fund l):(lP fund l).2.2=0/\∀s∈(lP fund l).1,0<=s.cash/\(s.dfl=true->s.cash=0):=by
 have n:pJ fund l=true:=by
  unfold pJ;rw[zB l 0 h.rise λd a=>⟨h.pos d a,?_⟩]
  ·exact amongB_iff.2 h.fund
  ·have e:=h.cash d a;have c:=h.v d a;unfold Du.ok xb;rw[amongB_iff.2 e,amongB_iff.2 c];rfl
 have w:(gH l).length<=64:=by
  unfold gH;rw[cz];exact dD (dm _ _) h.len
 have g:∀x∈gH l,0<x/\x<=100000000000000000:=λx b=>by
  unfold gH at b;obtain⟨d,a,rfl⟩:=cF.1 b;obtain⟨e,c⟩:=cO.1 a;exact⟨by simpa using c,(h.v d e).2⟩
 obtain⟨z,B⟩:=xk l λd a=>(h.cash d a).1;rw[h.sum,ft]at B;have v:=zF (gH l) 100000000000000000 λx b=>(g x b).2;have D:=h.fund;obtain⟨t,y⟩:=dW ((l.map iO).sum - min fund (l.map iO).sum);have m:0<=t/\t<=(gH l).sum:=qZ;have f:=A8 (by grind) (λx b=>(g x b).1) (by unfold jl;omega) m;have j:tN (l.map (·.v))=(0,0):=by unfold tN;rw[h.sum];rfl
 unfold lP;rw[aZ (by have:=h.len;omega),aZ (by rw[n];simp),aZ (by rw[j];simp),<-y,aZ (by rw[f];simp)];refine⟨rfl,λs o=>?_⟩;have:=uY (mU 0 l) (ib t (gH l)).1 (l.map yp) (uU l 0) (λk i p x e c u=>?_) (λs o=>?_) s o
 ·grind
 ·have r:k<(gH l).length:=by
   rw[<-vZ l 0];exact(cP.1 e).1
  obtain⟨d,-,a,E,A⟩:=uZ l 0 k i _ e (cE r);have C:=AO f m.2 (λx b=>(g x b).1) k p _ c (cE r);obtain⟨-,-,q,-⟩:=splitR_sum f;rw[lz]at a;rw[dO,a]at u;have F:=(h.cash d (dL a)).1
  have b:x=⟨d.acct,d.cash+d.v,false,0⟩:=by
   rw[<-dB u];unfold yp;rw[aZ qZ]
  rw[b];exact⟨q p (dL c),by grind,rfl⟩
 ·obtain⟨d,a,rfl⟩:=cF.1 o;have e:=h.cash d a;have c:=h.v d a;unfold yp;split
  ·grind
  ·grind
def zT:∀l r S,SortA S.led.all->(∀s∈l,s.acct≠0/\S.led.find s.acct≠none/\0<=s.cash/\s.cash<=MF)->(payL l r S).1=0
 | [],_,_,_,_=>rfl
 |s::l,r,S,k,h=>by
  obtain⟨c,j,v⟩:=h s cw
  obtain⟨x,m⟩:∃x,S.led.find s.acct=some x:=by
   cases p:S.led.find s.acct with
   |none=>exact absurd p j
   |some x=>exact⟨x,rfl⟩
  have g:x.num=s.acct:=by simpa using jw m
  have e:S.acc s.acct=x:=by unfold Ven.acc;rw[jV c,m];rfl
  obtain⟨a,i⟩:=dW ({x with cash:=s.cash,dfl:=x.dfl||s.dfl});have b:a.num=s.acct:=by rw[i];exact g
  have f:S.led.set a=(0,S.led.putA a):=by
   unfold Led.set;rw[aZ,aZ]
   ·rw[b,jV c];exact j
   ·have:amongB a.cash 0 MF=true:=amongB_iff.2 (by rw[i];exact v);rw[this,b];simp[c]
  have d:(if s.dfl=true then(S.clear s.acct 0).2 else S).led=S.led:=by
   split
   ·exact clear_led _ _
   ·rfl
  unfold payL;simp only;rw[e,<-i,d,f];rw[aZ λh=>h rfl];refine zT l _ _ ?_ λt n=>?_
  ·show SortA (S.led.putA a).all;unfold Led.putA;rw[aZ (by rw[b];exact c)];exact insA_sort k a
  ·obtain⟨q,u,o⟩:=h t (cu _ n);refine⟨q,?_,o⟩;rw[Led.find_putA k (by rw[b];exact c)];split
   ·simp
   ·exact u
def AZ(m:Cb S.cal S.led)(B:S.led.funds<=MF){won:Int->Int}(k:uX S.led 100000000000000000 won):
  (S.pay won).1=0/\∀s∈(lP S.led.fund (S.dues won)).1,s.dfl=true->s.cash=0:=by
 obtain⟨d1,d2,d3⟩:=wk S won;have b:=m.led
 have h:Dv S.led.fund (S.dues won):=by
  refine⟨by unfold Ven.dues;rw[cz];exact b.len,by unfold Ven.dues;rw[fD];exact b.sa,λd e=>?_,λd e=>?_,λd e=>?_,b.fund,by rw[d3];exact k.sum⟩
  ·unfold Ven.dues at e;obtain⟨a,f,rfl⟩:=cF.1 e;exact(b.acc a f).1
  ·unfold Ven.dues at e;obtain⟨a,f,rfl⟩:=cF.1 e;exact(b.acc a f).2.2
  ·unfold Ven.dues at e;obtain⟨a,f,rfl⟩:=cF.1 e;exact k.bd a.num
 obtain⟨g1,i⟩:=Cf h;have j:=setl_ok g1;unfold Ven.pay;simp only;obtain⟨x,q⟩:=dW (lP S.led.fund (S.dues won));rw[<-q]at g1 i j|-;rw[aZ (by simp[g1])];have l:x.1.map (·.acct)=S.led.all.map (·.num):=j.acct.trans d1;have g:=j.sum;rw[d2]at g;have w:S.led.funds=S.led.fund+(S.led.all.map (·.cash)).sum:=rfl;have v:=j.left
 have hp:(payL x.1 zRp S).1=0:=zT _ _ _ b.sa λs c=>by
  have:s.acct∈S.led.all.map (·.num):=by grind
  obtain⟨a,f,t⟩:=cF.1 this;have A:=b.acc a f
  have z:=zz (p:=x.1.map (·.cash)) (λy n=>by
   obtain⟨u,o,rfl⟩:=cF.1 n;exact(i u o).1) s.cash (dn c)
  refine⟨qZ,?_,(i s c).1,qZ⟩;rw[<-t,Led.mem_find b f];simp
 rw[aZ (by simp[hp])];refine⟨?_,λs c=>(i s c).2⟩;unfold Led.set;have r:=b.fund;have:amongB x.2.1 0 MF=true:=amongB_iff.2 qZ;rw[aZ (by rw[this];simp),aZ (by unfold Led.getO;simp)]
def uR(L:Led):uX L 0 noWon:=by
 refine⟨λa=>by unfold noWon;omega,?_⟩
 have:∀l:List Ac,(l.map λa=>noWon a.num).sum=0:=λl=>by
  induction l with
  |nil=>rfl
  |cons a l b=>rw[cM,di,b];rfl
 exact this _
def A9(h:S.Ok)(i:S.cal.day≠4294967295):S.settle.1=0:=by
 have k:(eD S.cal).1=0:=by unfold eD;rw[aZ i]
 have c:=h.day;have d:=nC h;obtain⟨j,f⟩:=su c.cal (eD S.cal).2.l S.led noWon 0 (λ_ h=>h) c.led (uR _);have g:(eD S.cal).2.l.length<=16:=c.cal.len;have b:=(qS c.cal (eD S.cal).2.l S.led noWon c.led).2.1;have hp:=AZ d.led d.fnd (won:=(markL (eD S.cal).2.l S.led noWon).2.2) ⟨λa=>by have:=f.bd a;omega,by have:=f.sum;rw[<-b.1]at this;exact this⟩;obtain⟨e,-⟩:=vA d.led d.ord hp.1;unfold Ven.settle;simp only;rw[aZ (by simp[k]),aZ (by simp[j]),aZ (by simp[hp.1])];exact(oH e.led.led).2
def N7(h:S.Ok){n:Int}(u:qI S.cal n=0):(S.expire n).1=0:=by
 have j:jy S.cal n=(0,⟨S.cal.day,lr S.cal.l n λk=>{k with st:=3}⟩):=by unfold jy;rw[aZ (by simp[u])]
 obtain⟨k,w,z,g,l⟩:=alive_get (zK u);have v:(iU S.cal.l n).1=k:=by unfold iU;rw[w]
 have e:=h.cal.ok k l;have t:=xI (L:=S.led) (c:=n) (cl:=true) (by rw[<-g];exact AL e) (qp e);obtain⟨m,b⟩:=dW (S.led.mark n k.price true);have d:m.2.2.all=S.led.all/\m.2.2.fund=S.led.fund:=by rw[b];exact Led.mark_all
 have i:=h.setLed (by rw[b];exact Led.mark_Ok h.led.led) (by rw[b];exact sX h.led.led h.led.zero _ _ _) (λk o _ y=>(sQ d.1 _).2 y) (λp hp=>by
  rw[b]at hp;obtain⟨q,x,r⟩:=rI hp;rw[<-r];exact h.led.held q x) (by rw[Led.funds_of d];exact h.fnd)
 have hwon:=zx h.led.led h.led.zero (c:=n) (qp e) (uR S.led)
 have hp:=AZ i.led i.fnd (won:=wonAdd noWon m.2.1) ⟨λa=>by
  have:=hwon.bd a;rw[b,t];exact⟨Int.le_trans (by decide) this.1,Int.le_trans this.2 (by decide)⟩,by
  rw[d.1,b,t];exact hwon.sum⟩
 unfold Ven.expire;simp only;rw[j,aZ (by simp),v,g,<-b,aZ (by rw[b,t];simp)];have s:=Kp (S:={S with led:=m.2.2}) (C:=⟨S.cal.day,lr S.cal.l n λk=>{k with st:=3}⟩) (wonAdd noWon m.2.1) (Bh (f:=λk=>{k with st:=3}) λ_ _=>rfl);rw[s,aZ (by simp[hp.1])]
def un(h:S.settle.1=0):S.apply {zCm with kind:=12}=(S.settle.2.1,S.settle.2.2):=by
 unfold Ven.apply;rw[aZ (by decide)];simp only;have e:S.done {zCm with kind:=12}=S.settle:=rfl;rw[e,aZ (by simp[h])]
def may_of{c:Cm}(h:1<=c.kind/\c.kind<=14)(a:c.kind≠3)(b:c=c.bare):c.may=true:=by
 unfold Cm.may;rw[db h,db b,db a];rfl
def Jf(n:Int):({zCm with kind:=14,ct:=n}:Cm).may=true:=
 may_of ⟨by grind,by grind⟩ (by grind) rfl
def FI(h:S.Ok)(n:Int):let e:=(S.apply {zCm with kind:=14,ct:=n}).1.err;e=0\/e=7\/e=50\/e=51:=by
 unfold Ven.apply;rw[aZ (by rw[Jf];simp)];simp only;have e:S.done {zCm with kind:=14,ct:=n}=S.expire n:=rfl;rw[e];by_cases a:qI S.cal n=0
 ·rw[aZ (by simp[N7 h a])];left;exact expire_err S n
 ·have b:(S.expire n).1=qI S.cal n:=by
   unfold Ven.expire jy;simp only;rw[bZ a,bZ a]
  rw[bZ (by rw[b];exact a)];show(S.expire n).1=0\/(S.expire n).1=7\/(S.expire n).1=50\/(S.expire n).1=51;rw[b];unfold qI;split
  ·simp
  ·split
   ·simp
   ·split<;>simp
def fK(h:S.Ok)(c:S.settle.1=0):S.settle.2.2.cal.day=S.cal.day+1:=by
 have a:=wj c;have b:=nC h;obtain⟨hp,-⟩:=vA b.led b.ord a.pay;rw[a.fin];show(Ven.pay _ _).2.2.cal.day=_;rw[hp.cal];have:=a.day;show(eD S.cal).2.day=_;unfold eD at this|-;split at this
 ·cases this
 ·rename_i d;rw[aZ d]
def tF(h:S.Ok)(R:S.settle.1=0):S.settle.2.2.cal.day=S.cal.day+1/\S.settle.2.1.accts.length<=64/\∃g,S.settle.2.2.led.all=S.led.all.map g/\
  ∀a∈S.led.all,(g a).num=a.num/\(a.num∈S.settle.2.1.accts->(g a).cash=0/\(g a).dfl=true)/\(a.num ∉ S.settle.2.1.accts->(g a).dfl=true->a.dfl=true):=by
 have m:=wj R;have w:=nC h;have o:=h.day;obtain⟨U,E⟩:=su o.cal (eD S.cal).2.l S.led noWon 0 (λ_ h=>h) o.led (uR _);have H:(eD S.cal).2.l.length<=16:=o.cal.len;have x:=(qS o.cal (eD S.cal).2.l S.led noWon o.led).2.1;have p:=AZ w.led w.fnd (won:=(markL (eD S.cal).2.l S.led noWon).2.2) ⟨λa=>by have:=E.bd a;omega,by have:=E.sum;rw[<-x.1]at this;exact this⟩;obtain⟨f,r⟩:=dW ({S with cal:=(eD S.cal).2,led:=(markL (eD S.cal).2.l S.led noWon).2.1});rw[<-r]at m w p;obtain⟨hp,z⟩:=vA w.led w.ord m.pay;obtain⟨out,y⟩:=dW ((lP f.led.fund (f.dues (markL (eD S.cal).2.l S.led noWon).2.2)).1);rw[<-y]at hp z p;have J:S.settle.2.1.accts=(out.filter (·.dfl)).map (·.acct):=by rw[m.res];exact z
 have c:f.led.all=S.led.all:=by grind
 have b:out.map (·.acct)=S.led.all.map (·.num):=by rw[<-c];exact hp.set.acct.trans (wk f _).1
 have e:=h.led.led.sa.nodup;refine⟨?_,?_,λa=>gN S.settle.2.1.accts (f.pay (markL (eD S.cal).2.l S.led noWon).2.2).2.2.led (setAc out a),?_,λa T=>?_⟩
 ·rw[m.fin];rw[hp.cal,r];have:=m.day;unfold eD at this|-;split at this
  ·cases this
  ·grind
 ·rw[J,cz];apply dD (dm _ _);have G:=fC List.length b;rw[cz,cz]at G;rw[G];exact h.led.led.len
 ·rw[m.fin];rw[(oH hp.led.led).1,hp.all,c,dQ];rfl
 ·obtain⟨s,O,q⟩:∃s∈out,s.acct=a.num:=by
   have:a.num∈out.map (·.acct):=by grind
   exact cF.1 this
  obtain⟨i,K,rfl⟩:=cX O
  have v:setAc out a={a with cash:=out[i].cash,dfl:=a.dfl||out[i].dfl}:=by
   unfold setAc;have:=tj (l:=out) (by rw[b];exact e) K;rw[q]at this;rw[this]
  have t:a.num∈S.settle.2.1.accts↔out[i].dfl=true:=by
   rw[J,cF];constructor
   ·rintro⟨u,N,C⟩;obtain⟨A,B⟩:=cO.1 N;obtain⟨j,D,rfl⟩:=cX A;have P:=tj (l:=out) (by rw[b];exact e) K;have I:=tj (l:=out) (by rw[b];exact e) D;have D:=C.trans q.symm;rw[D,P]at I;rw[dB I];exact B
   ·grind
  obtain⟨M,-,Q⟩:=rD S.settle.2.1.accts (f.pay (markL (eD S.cal).2.l S.led noWon).2.2).2.2.led (setAc out a);refine⟨M.trans (sL out a).1,λd=>?_,λd k=>?_⟩
  ·have L:=t.1 d;refine⟨Q.trans ?_,?_⟩
   ·grind
   ·show(gN _ _ (setAc out a)).dfl=true;unfold gN;rw[aZ]
    ·grind
    ·grind
  ·have:(setAc out a).dfl=true:=by
    have k:(gN S.settle.2.1.accts (f.pay (markL (eD S.cal).2.l S.led noWon).2.2).2.2.led (setAc out a)).dfl=true:=k;unfold gN at k;split at k
    ·cases k
    ·exact k
   rw[v]at this;have F:=this;cases n:out[i].dfl with
   |true=>exact absurd (t.2 n) d
   |false=>rw[n,Bool.or_false]at F;exact F
def CI(h:S.Ok){c:Cm}(i:c.Fit)(b:(S.done c).1=0):(S.done c).2.2.cal.day=S.cal.day\/(S.done c).2.2.cal.day=S.cal.day+1:=by
 have e:∀(T:Ven) (m:Int) (o:Od) (p:Pm),(T.traded m o p).2.2.cal=T.cal:=λT m o p=>by rw[qg]
 unfold Ven.done at b|-;by_cases k1:c.kind=1
 ·grind
 rw[aZ k1]at b|-;by_cases k2:c.kind=2
 ·grind
 rw[aZ k2]at b|-;by_cases k3:c.kind=3
 ·rw[bZ k3];left
  have:(kC S.cal c.spec).2.day=S.cal.day:=by
   unfold kC;split
   ·rfl
   ·split
    ·rfl
    ·split
     ·rfl
     ·split<;>rfl
  simp only;split<;>exact this
 rw[aZ k3]at b|-;by_cases k4:c.kind=4
 ·rw[bZ k4];left;unfold nz;split<;>rfl
 rw[aZ k4]at b|-;by_cases k11:c.kind=11
 ·rw[bZ k11];left;unfold jJ;split
  ·rfl
  ·split
   ·rfl
   ·split<;>rfl
 rw[aZ k11]at b|-;by_cases k12:c.kind=12
 ·rw[bZ k12]at b|-;exact .inr (fK h b)
 rw[aZ k12]at b|-;by_cases k14:c.kind=14
 ·rw[bZ k14]at b|-;left;rw[(uw h.cal b).fin,(uw h.cal b).cal]
 rw[aZ k14]at b|-;by_cases g:c.acct=0
 ·grind
 rw[aZ g]at b|-;left;by_cases k6:c.kind=6
 ·rw[bZ k6];unfold Ven.cancel;split
  ·rfl
  ·split<;>rfl
 rw[aZ k6]at b|-;by_cases k7:c.kind=7
 ·rw[bZ k7];unfold Ven.replace;split
  ·rfl
  ·simp only;split
   ·rfl
   ·split
    ·rfl
    ·rw[e]
 rw[aZ k7]at b|-;by_cases f:S.led.getO c.acct=none
 ·rw[bZ f]
 rw[aZ f]at b|-;have d:(S.order c).2.2.cal=S.cal:=by unfold Ven.order;simp only;split;rfl;split<;>rfl
 by_cases k5:c.kind=5
 ·rw[bZ k5];unfold Ven.place;simp only;split
  ·rw[d]
  ·split
   ·grind
   ·grind
 rw[aZ k5]at b|-;by_cases k9:c.kind=9
 ·rw[bZ k9];unfold Ven.bid;simp only;split
  ·rw[d]
  ·split
   ·rw[d]
   ·grind
 rw[aZ k9]at b|-;by_cases k8:c.kind=8
 ·rw[bZ k8];split
  ·rfl
  ·rw[rE]
 rw[aZ k8]at b|-;by_cases k10:c.kind=10
 ·rw[bZ k10];simp only;split
  ·rw[rE]
  ·rfl
 rw[aZ k10]at b|-;by_cases k13:c.kind=13
 ·rw[bZ k13];unfold Ven.liquidate;split
  ·rfl
  ·rw[(xf (a:=(S.acc c.acct).num) S.cal.l zRp S h).2.1]
 rw[aZ k13]
def Az(h:S.Ok){c:Cm}(b:c.Fit):(S.apply c).2.cal.day<=S.cal.day+1:=by
 unfold Ven.apply;split
 ·grind
 ·simp only;split
  ·grind
  ·rename_i a
   have:=CI h b (by simpa using a);show(S.done c).2.2.cal.day<=_;omega
end Go.Proofs
namespace Go.Proofs
open Go Go.Vc
attribute [local congr] cR
variable {F:NP_}{v:Nat}{S:Ven}{w:Wt_}
def Ff:Cm:={zCm with kind:=12}
def LL:Tryz.prog.built om [(0,gB 12)]=some (cmC Ff).toArray:=cU
def zM:Ff.Fit:=⟨⟨by show(0:Int)<=12;omega,by show(12:Int)<256;omega⟩,ls.2⟩
def tR{r:Rp}{sT sG sA:Vt_}{K:Value->World->Prop}(h:vG w sT sG sA r)
  (i:∀p w',hC w' p (mC r sT sG sA).toArray lx->vG w' sT sG sA r->M0 w w' ->w.heap.size<=p->K (pt p 0) w'):
  rv pQ (iA lx true (.tuple #[])) w λe c=>ru pQ (iS lx e (ud r sT sG sA)) c λa=>K e a:=by
 obtain⟨c,m,f,l⟩:=qy w;apply cI m;obtain⟨a,j,k,g⟩:=pl (r:=r) (sT:=sT) (sG:=sG) (sA:=sA) f rfl h.isSl;apply ir j;have M:=l.on g λy n=>gz;exact i _ a k (h.mod M eQ) M (cJ _)
def K4{W:Wt_}{p:Nat}{r:Rp}{sT sG sA:Vt_}(h:hC W p (mC r sT sG sA).toArray lx)(q:vG W sT sG sA r):(iL 50 (pt p 6)).run pQ W=.ok sA W:=by
 obtain⟨a,n,c,rfl⟩:=q.isSl.2.2;simp[go_sem,h,mC]
def Uq(W:Wt_){p:Nat}:(iF lx (pt p 0) 6).run pQ W=.ok (pt p 6) W:=by simp[go_sem]
structure vn(w0 w:Wt_)(v:Nat)(F:NP_)(S:Ven):Prop where
 q:lw w v F S
 ok:S.Ok
 m:M0 w0 w
 n:∀y,F y->w0.heap.size<=y
def vn.md0{a w' :Wt_}(h:vn a w v F S)(m:M0 w w'):vn a w' v F S:=⟨h.q.md0 m,h.ok,h.m.trans m,h.n⟩
def vn.apply{i:Wt_}{x:Cm}{K:cG}(h:vn i w v F S)(j:x.Fit)
  (k:∀a e c F' w',vn i w' v F' (S.apply x).2->vG w' a e c (S.apply x).1->de F w w' ->(∀y,F' y->F y\/w.heap.size<=y)->K (ud (S.apply x).1 a e c) w'):Ca pQ 18 #[eY v,vI x] w K:=
 kW h.q h.ok j λa e c F' w' q r m n _=>k a e c F' w' ⟨q,mV h.ok j,h.m.on m λy f=>.inr (h.n y f),λy f=>by
  rcases n y f with g|g
  ·exact h.n y g
  ·have:=h.m.size;omega⟩ r m n
structure KS(w:Wt_)(F:NP_)(b:Nat)(d nx fu:Int)(ss:Nat->Value)(A:List Ac)(C:List Ct)(P:List Po)(O B:List (Int×Od))(lo:Nat):Prop where
 sb:SB w b d nx fu ss A C P O B lo
 ap:∀y,XS ss b y->¬F y
section
variable{w w' :Wt_}{F F' :NP_}{b lo:Nat}{d nx fu:Int}{ss:Nat->Value}{A:List Ac}{C:List Ct}{P:List Po}{O B:List (Int×Od)}
def KS.on(h:KS w F b d nx fu ss A C P O B lo)(m:de F w w')(n:∀y,F' y->F y\/w.heap.size<=y):KS w' F' b d nx fu ss A C P O B lo:=
 ⟨SB.modX h.sb m h.ap,λy a e=>by
  rcases n y e with c|c
  ·exact h.ap y a c
  ·have:=h.sb.ltX a;omega⟩
def KS.md0(h:KS w F b d nx fu ss A C P O B lo)(m:M0 w w'):KS w' F b d nx fu ss A C P O B lo:=⟨SB.md0 h.sb m,h.ap⟩
end
def vn.state{j:Wt_}{K:Value->World->Prop}(h:vn j w v F S)
  (n:∀ss b lo w',KS w' F b S.cal.day S.next S.led.fund ss S.led.all S.cal.l (S.nums.flatMap S.led.holders) S.oL S.bL lo->vn j w' v F S->M0 w w' ->w.heap.size<=b->K (pt b 0) w'):
  Ca pQ 20 #[eY v] w λv0 a=>rv pQ (iA sV true (.tuple #[])) a λg a=>ru pQ (iS sV g v0) a λz=>K g z:=by
 obtain⟨c,l,mb,md,A,D,fp,q,J⟩:=h.q;refine mK q h.ok λss b lo G s t m H=>pZ s λp k f x hp=>?_;have M:=m.trans x;have E:=m.size;refine n ss p lo k ⟨f,λy e o=>?_⟩ (h.md0 M) M qZ;have I:=h.q.lt o;rcases e with rfl|⟨i,r,u,e⟩
 ·omega
 ·have:=(f.nw i y r u e).1;omega
def AX{x:Int}(h:0<=x/\x<9223372036854775808)(W:Wt_):(qE .add 24 true (gQ x) (gQ 1)).run pQ W=.ok (gQ (x+1)) W:=by
 simp[go_sem];rw[wU_]
def GJ(n:Int):Cm:={zCm with kind:=14,ct:=n}
def al8(n:Int):Tryz.prog.built om [(0,gB 14),(2,gU n)]=some (cmC (GJ n)).toArray:=cU
def Ri{n:Int}(h:pL n):(GJ n).Fit:=⟨⟨by show(0:Int)<=14;omega,by show(14:Int)<256;omega⟩,ls.2.1,h,ls.2.2.2.1,ls.2.2.2.2.1,ls.2.2.2.2.2.1,ls.2.2.2.2.2.2.1,ls.2.2.2.2.2.2.2.1,ls.2.2.2.2.2.2.2.2⟩
def U8{b lo:Nat}{d nx a:Int}{ss:Nat->Value}{A:List Ac}{C:List Ct}{P:List Po}{O B:List (Int×Od)}(h:SB w b d nx a ss A C P O B lo):(iL 23 (pt b 0)).run pQ w=.ok (gU d) w:=by
 have:=h.at_;simp only[rN]at this;simp[go_sem,this]
def rdU{s:Vt_}{L:List Int}(h:Rd w 1 s L.length (L.flatMap BH)){i:Nat}(hi:i<L.length):
  ∃b a,(∀W,(iX 50 s (gI (i:Int))).run pQ W=.ok (pt b a) W)/\(iL 23 (pt b a)).run pQ w=.ok (gU L[i]) w:=by
 obtain⟨b,a,l,c,d,m⟩:=h.item (f:=BH) (λ_=>rfl) hi rfl;obtain⟨C,e,fz,k,j⟩:=m.get;have g:=j 0 (gU L[i]) rfl;rw[dS,pX]at g;exact⟨b,a+i,λW=>by rw[c];simp[go_sem,hi,cS],by simp[go_sem,k,g]⟩
def GK(b:Bool)(W:Wt_):(Op.unary .not (.bool b)).run pQ W=.ok (.bool (!b)) W:=by simp[go_sem]
set_option maxRecDepth 10000 in
def ca_lawSettles{K:cG}{s:Vt_}{L:List Cm}{n:Int}(h:Rd w 35 s L.length (L.flatMap cmC))(hf:∀c∈L,c.Fit)(hn:pL n)(hK:∀w',M0 w w' ->K (.bool true) w'):Ca pQ 7 #[s,gU n] w K:=by
 apply ca7;refine tB λv F0 w1 q1 m1 n1=>?_;obtain⟨sa,sc,hs⟩:=h.isSl;have t:∀W,(builtin .len #[65] 3 #[false] #[s]).run pQ W=.ok (.value (gI (L.length:Int))) W:=λW=>by rw[hs];exact lenV BU _ _ _ _
 refine dK.at (λst W=>st=(.bool (decide (100<L.length)),())/\W=w1) ?_ ?_
 ·apply cx (.bool false) w1 (by simp[eY,go_sem]);rw[gP];apply mB (t _);apply cx (.bool (decide (100<L.length))) w1 (by simp[go_sem];omega);exact sI
 rintro _ W ⟨rfl,rfl⟩;unfold ae7;intro _;by_cases hb:100<L.length
 ·rw[qo hb];apply cx (.bool true) W (by simp[eY,go_sem]);rw[kx];exact kf λw2 m2=>hK _ (m1.trans m2)
 rw[cy,aZ (by grind)];apply mB (t _)
 refine eS (λst W2=>∃(i:Nat) (F:NP_) (S:Ven),st=(gI i,())/\i<=L.length/\vn w W2 v F S/\S.cal.day<=i)
  (λst _=>match st.1 with| .int _ i=>L.length - i.toNat|_=>0) ⟨0,F0,Ven.empty,rfl,qZ,⟨q1,qX,m1,n1⟩,by show(0:Int)<=_;omega⟩ ?_
 rintro⟨_,_⟩ W2 ⟨i,F,S,⟨⟩,hi,b,hd2⟩ KN hKN;unfold Z6;intro _;apply cI (ltV _ _ _);by_cases B:i<L.length
 ·rw[qo B];obtain⟨cb,co,he,hat⟩:=zH (h.mod b.m eQ) B;refine cI (he W2) (iW (vx hat) ?_);have u:=hf _ (cC B);refine b.apply u λsT sG sA F5 w5 Z _ _ _=>?_;apply cI (addV qZ _);have hd:=Az b.ok u;exact hKN _ w5 ⟨i+1,F5,_,rfl,qZ,Z,by grind⟩ (by grind)
 rw[cy,aZ (by grind)];have V2' :=b;obtain⟨⟨c,l,mb,md,A,D,fp,hr,hF⟩,-,-,-⟩:=V2';refine He hr b.ok λv' F' w3 q3 m3 U=>?_;have V3:=b.md0 m3;apply lL (al8 n);refine kW q3 b.ok (Ri hn) λsT sG sA F4 w4 q4 r4 m4 n4 _=>?_;have V4:vn w w4 v F S:=⟨V3.q.mod m4 λx hx hc=>by have:=b.q.lt hx;have:=U x hc;omega,b.ok,V3.m.on m4 λy hy=>.inr (by have:=U y hy;have:=b.m.size;omega),b.n⟩
 have Q:(S.apply (GJ n)).1.err=0\/(S.apply (GJ n)).1.err=7\/(S.apply (GJ n)).1.err=50\/(S.apply (GJ n)).1.err=51:=FI b.ok n;apply cI (BG (S.apply (GJ n)).1 sT sG sA w4);generalize(S.apply (GJ n)).1.err=e at Q|-;refine dK.at (λst W=>st=(.bool false,())/\W=w4) ?_ ?_
 ·rcases Q with rfl|rfl|rfl|rfl<;>simp[go_sem]
 rintro _ W4 ⟨rfl,rfl⟩;unfold ab9;intro _;rw[gP];have H:=A9 b.ok qZ;have X:S.apply Ff=(S.settle.2.1,S.settle.2.2):=un H;have I:S.settle.2.1.err=0:=jM S;obtain⟨P,hln,g,O,hg⟩:=tF b.ok H;refine V4.state λss p lo w5 s5 Z M5 _=>?_;apply lL LL;refine Z.apply zM λtT tG tA F6 w6 V6 Y m6 n6=>?_;rw[X]at V6 Y|-;generalize S.settle.2.1=R at Y I hln hg|-;generalize S.settle.2.2=T at V6 P O|-;have s6:=s5.on m6 n6;refine tR Y λrp w7 b7 r7 m7 _=>?_;have V7:=V6.md0 m7;have s7:=s6.md0 m7;refine cI (ye _) (cI (tQ b7) ?_);refine qSf1 I ?_;refine V7.state λtt q lo8 w9 k9 V9 z _=>?_;have C:=k9.sb;have t9:=(s7.md0 z).sb;have b9:=z.hpk b7 id;have V:=r7.mod z eQ;rw[O]at C;have h64:=b.ok.led.led.len
 have U:∀W,(builtin .len #[56] 3 #[false] #[tt 3]).run pQ W=.ok (.value (gI (S.led.all.length:Int))) W:=λW=>by
  obtain⟨a,c,e⟩:=C.len 3 qZ qZ;have e:tt 3=.slice a (S.led.all.map g).length c:=e;rw[e,cz];exact lenV ya _ _ _ _
 have nA:∀W,(builtin .len #[50] 3 #[false] #[tA]).run pQ W=.ok (.value (gI (R.accts.length:Int))) W:=λW=>by
  obtain⟨a,c,e,-⟩:=V.ac.isSl;rw[e];exact lenV De _ _ _ _
 refine cI (dZ _ 3 qZ) (cI (C.ld 3 qZ qZ) (mB (U _) ?_))
 refine eS (λst W=>∃(x:Vt_) (k:Nat),st=(x,gI k,())/\k<=S.led.all.length/\M0 w9 W)
  (λst _=>match st.2.1 with| .int _ k=>S.led.all.length - k.toNat|_=>0) ⟨_,0,rfl,qZ,lX⟩ ?_
 rintro⟨_,_⟩ Wa ⟨x,k,⟨⟩,hk,G⟩ KA hKA;unfold ab5;intro _;apply cI (ltV _ _ _);by_cases m:k<S.led.all.length
 ·rw[qo m];obtain⟨g1,g2,g3⟩:=hg _ (cC m);refine cI (Uq _) (cI (K4 (G.hpk b9 id) (V.mod G eQ)) (mB (nA _) ?_))
  refine eS (λst W=>∃(j:Nat),st=(.bool (decide (S.led.all[k].num∈R.accts.take j)),gI j,())/\j<=R.accts.length/\M0 w9 W)
   (λst _=>match st.2.1 with| .int _ j=>R.accts.length - j.toNat|_=>0) ⟨0,by simp,qZ,G⟩ ?_
  rintro⟨_,_⟩ Wb ⟨j,⟨⟩,hj,r⟩ KB hKB;unfold ai2;intro _;apply cI (ltV _ _ _);by_cases o:j<R.accts.length
  ·rw[qo o];have E:=r.trans mP
   try dsimp only
   generalize Wb.drew=Wc at E|-
   have htk:decide (S.led.all[k].num∈R.accts.take (j+1))=(decide (S.led.all[k].num∈R.accts.take j)||decide (R.accts[j]=S.led.all[k].num)):=by
    rw[eA o,<-Bool.decide_or];congr 1;rw[dg,eK];exact propext (or_congr fd eq_comm)
   have next:∀bb,bb=decide (S.led.all[k].num∈R.accts.take (j+1))->KB (.bool bb,gI ((j+1:Nat):Int),()) Wc:=λbb e=>hKB _ _ ⟨j+1,by rw[e],qZ,E⟩ (by grind)
   by_cases f:S.led.all[k].num∈R.accts.take j
   ·rw[qo f];apply cI (addV qZ _);exact next _ (by grind)
   rw[cy,aZ (by grind)];obtain⟨ub,uo,ui,ul⟩:=rdU (V.mod E eQ).ac.rd o;have sc:=SB.md0 C E;obtain⟨J,M,N,d,-⟩:=uj sc (i:=k) (by grind);rw[eL]at d;refine dw (λW=>Uq W) (dp (K4 (E.hpk b9 id) (V.mod E eQ)) (dw ui (dp ul ?_)));refine dw (λ_=>dZ _ 3 qZ) (dp (sc.ld 3 qZ qZ) (dw N ?_));refine qPv1 (pt J M) cS (dp (EO d) ?_);apply dw (λW=>yc 23 .u32 _ _ _ Tryz.underlying23 W);apply cI (addV qZ _);exact next _ (by grind)
  rw[cy,aZ (by grind)];have hje:j=R.accts.length:=qZ;subst hje;rw[cN];have sb:=SB.md0 C r;have tb:=SB.md0 t9 r;obtain⟨J,M,N,d,-⟩:=uj sb (i:=k) (by grind);rw[eL]at d;obtain⟨b2,o2,i2,at2,-⟩:=uj tb (i:=k) m;refine dK.at (λst W=>st=(.bool false,())/\W=Wb) ?_ ?_
  ·by_cases f:S.led.all[k].num∈R.accts
   ·obtain⟨h1,h2⟩:=g2 f;rw[db f,cy,bZ rfl];refine cI (dZ _ 3 qZ) (cI (sb.ld 3 qZ qZ) (cI (N _) ?_));refine qSv0 (pt J (M+1)) (cI (qV d) ?_);refine qSf1 h1 ?_;refine cI (dZ _ 3 qZ) (cI (sb.ld 3 qZ qZ) (cI (N _) ?_));refine qSv0 (pt J (M+3)) (cI (EU d) (cI (GK _ _) ?_));rw[h2,cy,aZ (by simp)];apply cI (GK _ _);rw[cy,aZ (by simp)];exact sI
   ·rw[ej f,cy,aZ gL];apply cI (GK _ _);rw[cy,bZ (by simp)];refine cI (dZ _ 3 qZ) (cI (sb.ld 3 qZ qZ) (cI (N _) ?_));refine qSv0 (pt J (M+3)) (cI (EU d) ?_);cases hd:(g S.led.all[k]).dfl with
    |false=>rw[gP];exact sI
    |true=>
     rw[kx];refine cI (dZ _ 3 qZ) (cI (tb.ld 3 qZ qZ) (cI (i2 _) ?_));refine qSv0 (pt b2 (o2+3)) (cI (EU at2) (cI (GK _ _) ?_));rw[g3 f hd];exact sI
  rintro _ Wd ⟨rfl,rfl⟩;unfold J24_0;intro _;rw[gP];apply cI (addV qZ _);exact hKA _ _ ⟨_,k+1,rfl,qZ,r⟩ (by grind)
 rw[cy,aZ (by grind)];have sa' :=SB.md0 C G;have ta' :=SB.md0 t9 G;have hd0:=b.ok.cal.day;refine cI (dZ _ 0 qZ) (cI (U8 sa') (cI (dZ _ 0 qZ) (cI (U8 ta') ?_)));apply cx (gU (S.cal.day+1)) Wa (by simp[go_sem];rw[IntKind.wrap_u32];omega);rw[P];apply cI (yc 23 .u32 _ _ _ Tryz.underlying23 _);rw[cy,bZ (by simp)];exact kf λw3 m3=>hK _ ((V9.m.trans G).trans m3)
end Go.Proofs
namespace Go.Proofs.YtnfloameajanhaaGreat.venueSettles
open Go Go.Vc Go.Proofs Go.ChangeShapes Go.WideShapes Go.ChangeAt Go.RowKit
set_option maxRecDepth 100000 in
def lifted(os:Os)(b:os.Started)(H:Type)(enc:TypeId×Value->H):
  ReturnsInHanded {} Tryz.checked os 7 .any (Rows.venueSettlesSpec.pre6 enc Tryz.prog Tryz.f7 Rows.venueSettlesRow.domain false) (Rows.venueSettlesSpec.post enc Tryz.prog Tryz.f7 false true false false):=by
 refine returnsInHanded_of_change_sized (C:=Tryz.checked) own b cU Tryz.func7
  (ChangeSpec.witness6 (enc:=enc) (C:=Tryz.checked) false ⟨#[],#[.slice none 0 0,.int .u32 0],[]⟩ 8 cU cU cU cU) ?_
 intro W h a ds gs n d x A l _;have c:∀(j:Nat) t v,Tryz.f7.params[j]? =some t->a[j]? =some v->Value.okWide Tryz.prog W .any h t v:=d;have k:(DataW.weightsEach Tryz.prog (Tryz.f7.params.toList++[]) (ds++gs)).all (·<=reachBytes)=true:=l;have s:=x;obtain⟨p,q,i,Q,rfl,P,N⟩:=x;have z:DataW.TrodAll enc Tryz.prog W 0 (λ_=>true) true Tryz.f7.params.toList a.toList ds p:=i;rw[Tryz.params7]at z c k;obtain⟨v0,O,L,G,V,R,r,rfl,rfl,F,I⟩:=trodAll_cons z;obtain⟨y,E,d1,M,T,S,rfl,rfl,rfl,J,D⟩:=trodAll_cons I;obtain⟨rfl,rfl,rfl⟩:=trodAll_nil D;obtain rfl:a= #[v0,y]:=by cases a;simp_all
 obtain⟨rfl,rfl⟩:=trodVars_none Q
 have u:Wt Tryz.prog reachBytes 65 L:=by
  intro m f;have:=List.all_eq_true.1 k m (by simp only[List.append_nil,List.cons_append,List.nil_append,DataW.weightsEach,List.mem_append];first|exact .inl f|exact .inl f);simpa using this
 obtain⟨U,o,g⟩:=open_cms (c 0 65 v0 rfl rfl) F u;obtain⟨X,rfl,rfl,rfl,B⟩:=open_int Tryz.underlying23 (c 1 23 y rfl rfl) J;clear i d;refine Calls.mono (ca_lawSettles (K:=λv w=>v=.bool true/\M0 W w) o g (wfU B) λw f=>⟨rfl,f⟩).out ?_;rintro e Y ⟨v,rfl,rfl,f⟩;exact⟨_,rfl,post_of_mod laidOut cU rfl s f cU Tryz.underlying4 rfl⟩
abbrev zRw:=Rows.venueSettlesRow
abbrev II:=Rows.venueSettlesSpec
noncomputable abbrev zVt:=Tryz.f7.params.toList++II.plain.varTypes pQ
def k0:zRw.wf (OpenSpec.ofChange II):=cU
def k1:laidOutB pQ:=cU
def k2:mapsRowed pQ:=cU
def k3:Tryz.f7.params.all (pQ.readableRec ·):=cU
def k4:namedTie pQ zRw.named II.vars:=cU
def k5:zRw.stops== []:=cU
def k6:pQ.stops== []:=cU
def k7:zRw.knobs== []:=cU
def k8:pQ.stopKnobs== []:=cU
def k9:zRw.inPlace==pQ.inPlace 7:=cU
def k10:zRw.unfollowed==pQ.unfollowed 7:=cU
def k11:zRw.recurses==pQ.recurses 7:=cU
def k12:zRw.named==pQ.varsNamed 7:=cU
def k13:zRw.maps==zVt.any (pQ.mapsRec ·):=cU
def k14:zRw.ifaces==zVt.any (pQ.ifacesRec ·):=cU
def k15:zRw.mapsOut==pQ.mapsAmong Tryz.f7.resultTypes.toList:=cU
def k16:zRw.loops==zVt.any (pQ.loopsFrom ·):=cU
def k17:zRw.wideKeys==(zVt++Tryz.f7.resultTypes.toList).any (pQ.wideKeysFrom ·):=cU
def k18:II.vars.all (pQ.varReadable ·):=cU
def k19:Tryz.f7.resultTypes.all (λt=>pQ.readableRec t&& decide (t<pQ.types.size)):=cU
def k20:zRw.ifacesOut==Tryz.f7.resultTypes.toList.any (pQ.ifacesRec ·):=cU
def k21:zRw.loopsOut==Tryz.f7.resultTypes.toList.any (pQ.loopsFrom ·):=cU
def k22:zRw.plainKeys==pQ.plainKeys:=cU
def k23:zRw.shortTexts.isNone:=cU
def k24:pQ.stopsHeard:=cU
def k25:pQ.mayEnter:=cU
def k26:zRw.lifted==pQ.liftsFinal:=cU
def k27:pQ.make==some zRw.make:=cU
def k28:zRw.kinds==(if zRw.domain.isEmpty then []else Tryz.f7.params.toList.map λt=>match pQ.underlying t with|some (.int k)=>some k|_=>none):=cU
def k29:zRw.pinned==zRw.pinnedBy:=cU
def k30:zRw.veiled==(zVt++Tryz.f7.resultTypes.toList).any (pQ.veiledRec ·):=cU
def k31:zRw.veiledFits pQ Tryz.f7.params.toList (zVt++Tryz.f7.resultTypes.toList):=cU
set_option maxRecDepth 100000 in
def closed:joinedFacts Tryz.prog 7 Tryz.f7 Rows.venueSettlesSpec Rows.venueSettlesRow=true:=by
 unfold joinedFacts;simp only[Bool.and_eq_true];exact⟨⟨⟨⟨⟨⟨⟨⟨⟨⟨⟨⟨⟨⟨⟨⟨⟨⟨⟨⟨⟨⟨⟨⟨⟨⟨⟨⟨⟨⟨⟨k0,k1⟩,k2⟩,k3⟩,k4⟩,k5⟩,k6⟩,k7⟩,k8⟩,k9⟩,k10⟩,k11⟩,k12⟩,k13⟩,k14⟩,k15⟩,k16⟩,k17⟩,k18⟩,k19⟩,k20⟩,k21⟩,k22⟩,k23⟩,k24⟩,k25⟩,k26⟩,k27⟩,k28⟩,k29⟩,k30⟩,k31⟩
theorem holds:Rows.VenueSettlesSaid:=
 OpenClaim.holds_of_wide 7 Tryz.f7 rfl rfl rfl rfl rfl rfl rfl ⟨rfl,rfl,rfl,rfl,rfl⟩ rfl rfl rfl rfl rfl cU Tryz.func7 closed
  (of_decide_eq_true cU) (by unfold Func.isWrapper;first|(rw[if_pos (by decide+kernel)];kernel_rfl)|(rw[if_neg (by decide+kernel)];exact⟨rfl,rfl⟩))
  (λos a H b _=>lifted os a H b)
end Go.Proofs.YtnfloameajanhaaGreat.venueSettles
