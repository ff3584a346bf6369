/- Part of a proof. -/
import Derived.Test.YtnfloameajanhaaGreatZ2
set_option linter.all false
namespace Go.Proofs
open Go Go.Vc Go.Sort
variable {cl:Bool}{price:Int}{S:Led}{w:Wt_}
def KT{d:Nat}{ds:List Nat}{K:World->Prop}:lj (d::ds) w K↔hp w d=some (.deferred (some []))/\lj ds (w.putObj d (.deferred none)) K:=fd
def Hu{K:World->Prop}:lj [] w K↔K w:=fd
def pE(x:Int×Int):List Value:=[.int .u32 x.1,gI x.2]
def Po.won(price:Int)(p:Po):Int×Int:=(p.a,p.q*price - p.b)
def vaE:lN pQ 256 2 16=true:=cU
def aD5:Tryz.prog.underlying 252=some (.slice 256):=cU
def GU{l:List Po}{i:Nat}{p:Po}(h:l[i]? =some p):S.marked (l.take (i+1)) price cl=(S.marked (l.take i) price cl).putP (p.mark price cl):=by
 unfold Led.marked;rw[kL,h];simp
def Cs{l:List Po}:∀{S:Led},(S.marked l price cl).all=S.all/\(S.marked l price cl).fund=S.fund:=by
 induction l with
 |nil=>intro S;exact sI
 |cons p l a=>intro S;exact a (S:=S.putP (p.mark price cl))
def OV(p:Po)(price:Int)(cl:Bool):(p.mark price cl).key=p.key:=by
 unfold Po.mark Po.key;cases cl<;>rfl
def KU{S' :Led}(h:S.Ok)(e:S'.Ok)(i:S'.all=S.all){p:Po}(hp:p∈S.held){price:Int}(a:1<=price/\price<=MP)(cl:Bool):(S'.putP (p.mark price cl)).Ok:=by
 obtain⟨g,d,j,c,b,k,o,f⟩:=h.pos p hp;have l:=mul_bd (x:=p.q) (y:=price) (m:=MP) (n:=MP) ⟨c,b⟩ ⟨qZ,a.2⟩;unfold Po.mark;cases cl with
 |true=>exact e.putP ⟨g,d⟩ ⟨by simp[MP],by simp[MP]⟩ ⟨by simp[MF],by simp[MF]⟩ (by rw[i];exact f)
 |false=>exact e.putP ⟨g,d⟩ ⟨c,b⟩ ⟨by simp only[MP,MF,dE,eW]at*;omega,by simp only[MP,MF,dE,eW]at*;omega⟩ (by rw[i];exact f)
def Nv(h:S.Ok){price:Int}(b:1<=price/\price<=MP)(cl:Bool):∀(l:List Po) (S' :Led),(∀p∈l,p∈S.held)->S'.Ok->S'.all=S.all->(S'.marked l price cl).Ok:=by
 intro l;induction l with
 |nil=>intro S' _ a _;exact a
 |cons p l f=>
  intro S' c a d;exact f (S'.putP (p.mark price cl)) (λx e=>c x (cu _ e)) (KU h a d (c p cw) b cl) d
def Ux{l:Nat}{F:NP_}{K:cG}{c:Int}(h:lA w l F S)(hl:S.held.length<4294967295)
  (hK:∀w' v,lA w' l F (S.mark c price cl).2.2->jo w' 256 2 v (S.mark c price cl).2.1.length ((S.mark c price cl).2.1.flatMap pE)->de F w w' ->(∀b,cK v b->w.heap.size<=b)->K (.tuple #[v,gI (S.mark c price cl).1]) w'):
  Ca pQ 163 #[iG l,gU c,gI price,.bool cl] w K:=by
 have h0:=h;obtain⟨⟨m1,m2,A,B,h1,h2,h3,h4,h5,h6,h7⟩,hok⟩:=h;apply ZD;simp[go_sem,iG];generalize hn0:w.heap.size=u;generalize X:World.alloc _ _=w1;have mw1:M0 w w1:=by subst X;exact(lm.alloc _).alloc _
 have g0:hC w1 u #[iG l] 34:=by subst X hn0;simp[go_sem,iG]
 have g2:hC w1 (u+1) #[.int .i64 price] 2:=by subst X hn0;simp[go_sem]
 have g4:hC w1 (u+2) #[.bool cl] 4:=by subst X hn0;simp[go_sem]
 have q1:=h0.mod mw1 eQ;apply pU q1;simp[go_sem];unfold Led.mark at hK;have hMp:amongB price 1 10000000=amongB price 1 MP:=rfl;refine dK.at (λs W=>s=(.bool (decide (c=0\/amongB price 1 MP=false)),())/\W=w1) ?_ ?_
 ·by_cases hc0:c=0
  ·simp[hc0]
  ·simp[hc0,go_sem,fy g2];apply uA;rw[hMp];simp[go_sem]
 rintro _ W ⟨rfl,rfl⟩;unfold Se;intro _;by_cases hc:c=0\/amongB price 1 MP=false
 ·rw[bZ hc]at hK;simp only[db hc,cy,fh];exact hK _ _ q1 (jo.nil ..) (mw1.to) λb f=>by cases f
 ·rw[aZ hc]at hK;simp only[ej hc,cy,dE,eW];have hpr:1<=price/\price<=MP:=amongB_iff.1 (by cases h:amongB price 1 MP with|true=>rfl|false=>exact absurd (.inr h) hc);have hne0:u≠W.heap.size:=by have:=cB g0;omega
  simp[go_sem,fy g0,hne0];generalize hvo:W.heap.size=C;generalize hw2:World.alloc _ _=w2;have P:M0 W w2:=by subst hw2;exact(de.refl _ W).alloc _
  have gv:hC w2 C #[.slice none 0 0] 252:=by subst hw2 hvo;simp[go_sem]
  refine yJ (q1.mod P eQ) hl λgvv D tl m3=>?_;have m13:=(mw1.trans P).trans m3;have q3:=h0.mod m13 eQ;have hvo3:C<D.heap.size:=by have:=cB gv;have:=m3.size;omega
  have hn0v:u+2<C:=by have:=cB g4;omega
  obtain⟨Ok,hit,hOk⟩:=tl.out;have hH:∀p∈S.holders c,p∈S.held:=λp hp=>(cO.1 hp).1;generalize hHd:S.holders c=H at*
  let J:(Nat->Prop)->Nat->World->Prop:=λQ i W=>∃v,lA W l F (S.marked (H.take i) price cl)/\hC W C #[v] 252/\jo W 256 2 v i (((H.take i).map (Po.won price)).flatMap pE)/\
   (∀b,cK v b->D.heap.size+1<b)/\hC W u #[iG l] 34/\hC W (u+1) #[.int .i64 price] 2/\hC W (u+2) #[.bool cl] 4/\
   hp W D.heap.size=some (.deferred (some []))/\de F w W/\∀b,Q b->D.heap.size+1<b/\b<W.heap.size/\¬cK v b
  have z:∀b,F b->b<u:=λb f=>by have:=h0.lt f;omega
  have e3:∀o,M0 D ((D.alloc (.deferred (some []))).alloc (.loop o)):=λo=>lm.alloc _;refine Is hit (by simp) J (λ_ _=>False) (λo=>hOk _ (e3 o)) ?_ ?_ ?_ ?_ (λ_ _ _ h=>h.elim)
  ·intro o Q g mo hQ;have R:=(e3 o).trans mo;have m11:=m13.trans R;have hd:hp ((D.alloc (.deferred (some []))).alloc (.loop o)) D.heap.size=some (.deferred (some [])):=by simp[go_sem]
   refine⟨.slice none 0 0,h0.mod m11 eQ,(m3.trans R).keep gv id,(show jo g _ 2 (.slice none 0 0) 0 []from jo.nil ..),λb f=>(by cases f),((P.trans m3).trans R).keep g0 id,((P.trans m3).trans R).keep g2 id,((P.trans m3).trans R).keep g4 id,mo.keep hd id,m11.to,λb f=>⟨(hQ b f).1,(hQ b f).2,λh=>by cases h⟩⟩
  ·rintro Q i g W2 ⟨v,j1,j2,j3,j4,j5,j6,j7,j8,j9,E⟩ M;refine⟨v,j1.mod M λb f e=>by have:=z b f;omega,M.keep j2 qZ,j3.mod M λb f e=>by have:=j4 b f;omega,j4,M.keep j5 qZ,M.keep j6 qZ,M.keep j7 qZ,M.keep j8 qZ,j9.on M λb f=>.inr (by have:=m13.size;omega),λb f=>⟨(E b f).1,ep (E b f).2.1 M.size,(E b f).2.2⟩⟩
  ·rintro Q i x g r hx ⟨v,j1,j2,j3,j4,j5,j6,j7,j8,j9,E⟩ j Y KN KJ hKN hKJ
   obtain⟨p,L,rfl⟩:∃p,H[i]? =some p/\x=[tn p]:=by
    simp only[dO]at hx;cases hh:H[i]? with
    |none=>rw[hh]at hx;cases hx
    |some p=>rw[hh]at hx;exact⟨p,rfl,(dB hx).symm⟩
   have hpm:=hH p (dL L);obtain⟨p1,p2,p3,p4,p5,p6,p7,p8⟩:=hok.pos p hpm;have f:=mul_bd (x:=p.q) (y:=price) (m:=MP) (n:=MP) ⟨p4,p5⟩ ⟨qZ,hpr.2⟩;simp only[MP,MF]at f p4 p5 p6 p7;have wr1:IntKind.i64.wrap (p.q*price)=p.q*price:=by rw[eF];omega
   have wr2:IntKind.i64.wrap (p.q*price - p.b)=p.q*price - p.b:=by rw[eF];omega
   obtain⟨G,hrc⟩:=dW (D.heap.size+1);rw[<-hrc]at j hKN E|-;simp only[<-hrc]at j4;unfold QP;simp[go_sem,tn];refine ux (r:=r) ?_ Y ?_
   ·rw[gy,aZ (by have:=cB j;omega)];exact j
   have T:C≠g.heap.size:=by have:=cB j2;omega
   have hne2:C≠G:=qZ;have hne3:u+1≠G:=qZ;have hne4:u+1≠g.heap.size:=by have:=cB j6;omega
   have O:g.heap.size≠G:=by have:=cB j;omega
   simp[go_sem,fy j2,fy j6,T,hne2,hne3,hne4,O,wr1,wr2];generalize U:World.putObj _ _ _=w4;have m4:de (λb=>b=G) g w4:=by subst U;exact((de.refl (λb=>b=G) g).alloc _).putObj (b:=G) (.inl rfl) _
   have hloc:hC w4 g.heap.size #[.int .u32 p.c,gU p.a,gI p.q,gI p.b] 79:=by subst U;simp[go_sem,O]
   have hrec4:hp w4 G=some (.loop {r with state:=.busy}):=by subst U;simp[go_sem,fy j,kG O]
   have hsz4:w4.heap.size=g.heap.size+1:=by subst U;simp[go_sem]
   have hHl:(H.take i).length=i:=by
    rw[cZ];have:=(cP.1 L).1;omega
   have hHle:H.length<=S.held.length:=by rw[<-hHd];exact dm ..
   have j3' :jo w4 256 2 v ((H.take i).map (Po.won price)).length (((H.take i).map (Po.won price)).flatMap pE):=by
    rw[cz,hHl];exact j3.mod m4 λb f e=>by have:=j4 b f;omega
   refine Pf (d:=(H.take i).map (Po.won price)) (enc:=pE) (x:=p.won price) (k:=1) aD5 vaE rfl rfl qZ qZ j3' (by rw[cz,hHl];have:=(cP.1 L).1;omega) λv' w5 o5 m5 n5=>?_;obtain⟨va,vc,hv',-⟩:=o5.isSl
   have htk:(H.take i).map (Po.won price)++[p.won price]=(H.take (i+1)).map (Po.won price):=by
    rw[kL,L];simp
   have hHl1:(H.take (i+1)).length=i+1:=by
    rw[cZ];have:=(cP.1 L).1;omega
   rw[htk,cz,hHl1]at o5;rw[htk,cz,hHl1]at hv';have hvl:∀b,cK v b->b<g.heap.size:=λb f=>j3.lt f;have V:∀b,b<=G->¬cK v b:=λb f h=>by have:=j4 b h;omega
   have Z:de (λb=>b=G\/cK v b) g w5:=(m4.mono λ_ _ h=>.inl h).on m5 λb f=>.inl (.inr f);have k2:hC w5 C #[v] 252:=Z.keep j2 (λh=>by rcases h with h|h;omega;exact V _ qZ h);have k6:hC w5 (u+1) #[.int .i64 price] 2:=Z.keep j6 (λh=>by rcases h with h|h;omega;exact V _ qZ h);have kloc:hC w5 g.heap.size #[.int .u32 p.c,gU p.a,gI p.q,gI p.b] 79:=m5.keep hloc (λh=>by have:=hvl _ h;omega);have N:g.heap.size≠C:=qZ;have hne7:u+1≠C:=qZ;have k7' :hC w5 (u+2) #[.bool cl] 4:=Z.keep j7 (λh=>by rcases h with h|h;omega;exact V _ qZ h);have hne8:u+2≠C:=qZ;have hne9:u+2≠g.heap.size:=by have:=cB j7;omega
   subst hv';simp[go_sem,fy k2,fy kloc,fy k6,fy k7',N,hne7,hne8,hne9,wr1];generalize hw6:(w5.setCell ⟨C,0,none⟩ (.slice va (i+1) vc)).setCell ⟨g.heap.size,3,none⟩ (gI (p.q*price))=I;have m6:de (λb=>b=C\/b=g.heap.size) w5 I:=by subst hw6;exact((de.refl (λb=>b=C\/b=g.heap.size) w5).setCell (b:=C) (.inl (.inl rfl)) _ _).setCell (b:=g.heap.size) (.inl (.inr rfl)) _ _
   have l2:hC I C #[.slice va (i+1) vc] 252:=by subst hw6;simp[go_sem,k2,kG N]
   have lloc:hC I g.heap.size #[.int .u32 p.c,gU p.a,gI p.q,gI (p.q*price)] 79:=by subst hw6;simp[go_sem,kloc,N]
   have hvo5:∀b,cK (.slice va (i+1) vc) b->G<b/\b≠g.heap.size:=λb f=>by
    rcases n5 b f with h|h
    ·grind
    ·grind
   have t:de (λb=>b=G\/cK v b\/b=C) g I:=(Z.mono λ_ _ h=>h.elim .inl λh=>.inr (.inl h)).on m6 λb f=>by
    rcases f with h|h
    ·grind
    ·exact gz
   have q:∀b,b<G->b≠C->¬(b=G\/cK v b\/b=C):=λb h1 h2 h=>by
    rcases h with h|h|h
    ·omega
    ·grind
    ·exact h2 h
   have k7:hC I (u+2) #[.bool cl] 4:=t.keep j7 (q _ qZ qZ);have k5:hC I u #[iG l] 34:=t.keep j5 (q _ qZ qZ);have k6' :hC I (u+1) #[.int .i64 price] 2:=t.keep j6 (q _ qZ qZ);have k8:hp I D.heap.size=some (.deferred (some [])):=t.keep j8 (q _ qZ qZ)
   have krec:hp I G=some (.loop {r with state:=.busy}):=by
    apply m6.keep (m5.keep hrec4 (V _ (cJ _)));rintro(h|h)
    ·omega
    ·omega
   have q6:lA I l F (S.marked (H.take i) price cl):=j1.mod t λb f h=>q b (by have:=z b f;omega) (by have:=z b f;omega) h;let p' :=p.mark price cl;refine dK.at (λ_ W=>∃m:de (λb=>b=g.heap.size) I W,hC W g.heap.size (ec p').toArray 79) ?_ ?_
   ·cases cl with
    |true=>
     simp[go_sem,fy lloc];exact⟨((de.refl _ I).setCell (by simp) _ _).setCell (by simp) _ _,by simp[p',Po.mark,ec]⟩
    |false=>
     simp[go_sem];exact⟨lX,by simp[lloc,p',Po.mark,ec]⟩
   rintro _ W7 ⟨m7,lloc7⟩;unfold P5;intro _;have kk:∀{b o},hp I b=some o->b<g.heap.size->hp W7 b=some o:=λh f=>m7.keep h qZ;have hb5:=kk k5 (by have:=cB j5;omega);simp[go_sem,fy hb5,fy lloc7,ec];have q7:=q6.mod m7 λb f e=>by have:=z b f;have:=cB j;omega
   have hall:=(Cs (S:=S) (l:=H.take i) (price:=price) (cl:=cl)).1;have hok' :((S.marked (H.take i) price cl).putP p').Ok:=KU hok q7.ok hall hpm hpr cl;refine Kh (p:=p') q7 hok' λW8 q8 m8=>?_;have kF:∀{b o},hp W7 b=some o->u<=b->hp W8 b=some o:=λh f=>m8.keep h (λhf=>by have:=z _ hf;omega);refine hKN W8 ⟨.slice va (i+1) vc,?_,kF (kk l2 (by have:=cB j2;omega)) qZ,?_,λb f=>(by have:=(hvo5 b f).1;omega),kF hb5 (cJ _),kF (kk k6' (by have:=cB j6;omega)) qZ,kF (kk k7 (by have:=cB j7;omega)) qZ,kF (kk k8 (by have:=cB j;omega)) qZ,?_,?_⟩ (kF (kk krec (cB j)) qZ) ?_
   ·rw[GU L];exact q8
   ·refine((o5.mod m6 λb f h=>?_).mod m7 λb f h=>(hvo5 b f).2 h).mod m8 λb f h=>?_
    ·grind
    ·grind
   ·refine((j9.on t λb f=>?_).on m7 λb f=>?_).trans m8
    ·rcases f with h|h|h
     ·grind
     ·grind
     ·exact gz
    ·grind
   ·intro b f;obtain⟨q1,q2,q3⟩:=E b f;have hsz8:g.heap.size<=W8.heap.size:=by have:=t.size;have:=m7.size;have:=m8.size;omega
    refine⟨qZ,qZ,λh=>?_⟩;rcases n5 b h with h|h
    ·exact q3 h
    ·rw[hsz4]at h;omega
   ·intro b f;obtain⟨q1,q2,q3⟩:=E b f;have e1:=t.blk b q2 (λh=>by rcases h with h|h|h;omega;exact q3 h;omega);have e2:=m7.blk b (by have:=t.size;omega) (by show¬b=_;omega);have e3:=m8.blk b (by have:=t.size;have:=m7.size;omega) (λh=>by have:=z b h;omega);rw[e3,e2,e1]
  ·rintro Q g o ⟨v,j1,j2,j3,j4,j5,j6,j7,j8,j9,E⟩;have hHl:((H.map λa=>[tn a]):List (List Value)).length=H.length:=by simp
   rw[hHl,cT (cJ _)]at j1 j3;have T:C≠D.heap.size+1:=qZ;have hne2:D.heap.size≠D.heap.size+1:=qZ;unfold Ps;obtain⟨va,vc,hv,-⟩:=j3.isSl;simp[go_sem,iJ,fy j2,T];simp[go_sem,KT,Hu,j8];have M:de (λb=>b=D.heap.size+1\/b=D.heap.size) g ((g.putObj (D.heap.size+1) (.loop o)).putObj D.heap.size (.deferred none)):=((de.refl _ g).putObj (.inl (.inl rfl)) _).putObj (.inl (.inr rfl)) _;refine hK _ v (j1.mod M λb f h=>?_) ?_ (j9.on M λb f=>.inr ?_) λb f=>?_
   ·grind
   ·have:=j3.mod M λb f h=>by have:=j4 b f;omega
    show jo _ _ 2 v (H.map (Po.won price)).length ((H.map (Po.won price)).flatMap pE);simpa using this
   ·have:=m13.size;omega
   ·grind
end Go.Proofs
namespace Go.Proofs
open Go Go.Vc
attribute [local congr] cR
variable {buy:Bool}{l:List Od}{s:Nat}
def Nk{W:Wt_}{K:World->Prop}:∀{ds:List Nat},ds.Nodup->(∀d∈ds,hp W d=some (.deferred (some [])))->(∀a,de (λb=>b∈ds) W a->K a)->lj ds W K:=by
 intro ds;induction ds generalizing W with
 |nil=>intro _ _ c;exact Hu.2 (c W lX)
 |cons d ds l=>
  intro k f c;obtain⟨j,h⟩:=dA.1 k;refine KT.2 ⟨f d cw,l h (λx g=>?_) λa m=>c a ?_⟩
  ·rw[MU,aZ (λe:x=d=>j (e▸g))];exact f x (cu _ g)
  ·exact((de.refl (λb=>b∈d::ds) W).putObj (b:=d) (.inl cw) _).trans (m.mono λb _ i=>cu _ i)
def TX{b:Nat}{T:TypeId}:CW pQ (.func (.func 106) #[] #[.pointer (some ⟨b,0,none⟩)]) (l.map λo=>[oG o]) (λW=>hC W b #[fQ s] T/\∃F,lp W s F buy l):=by
 refine⟨⟨_,_,_,rfl,?_⟩⟩;rintro y J Js W K ⟨e,F,D⟩ P j c g x;show Ca pQ _ #[y,.pointer (some ⟨b,0,none⟩)] W K;apply aq4;refine qS1 e ?_;apply sR D;refine qSf0 ?_;obtain⟨⟨sl,G,R,c3,c4⟩,c5,c6⟩:=id D;refine qS1 e ?_;simp only[fQ,dr];refine qS1 G ?_;refine qS1 G ?_;refine ww (l:=l) R.rd qZ λk L u N Y=>?_;obtain⟨sa,sc,w,-⟩:=u.isSl;apply jm (gI (l.length:Int)) L (by rw[w];simp[go_sem]);have v:J (cK k) 0 L:=P _ _ N λb e=>⟨Y b e,u.lt e⟩
 refine eS (λst d=>∃i:Nat,i<=l.length/\st=(gI i,())/\J (cK k) i d/\qR d k l)
  (λst _=>match st.1 with| .int _ i=>l.length - i.toNat|_=>0) ⟨0,qZ,rfl,v,u⟩ ?_
 rintro⟨_,_⟩ d ⟨i,hi,⟨⟩,H,E⟩ Z p;unfold OC;intro _;by_cases f:i<l.length
 ·have h:(i:Int)<(l.length:Int):=qZ;refine qSt1 h ?_;obtain⟨b',B,Q,m,z⟩:=E.load f;refine cI (m .i64) (cI z ?_);obtain⟨w3,U,C,O⟩:=kD d;apply cI U;obtain⟨q,t⟩:=dW d.heap.size;rw[<-t]at C|-;obtain⟨A,V,S,X⟩:=jK (o' :=l[i]) C;apply ir V;have M:M0 d A:=O.on X λb e=>gz;apply cI (lM (o:=l[i]) (At.all S));have n:=E.mod M eQ;refine c (cK k) i [oG l[i]] A (by simp[f]) (j _ _ _ _ H M) _ (λI a r=>?_) λI a=>?_
  ·refine qSf0 ?_;apply cx (gI ((i+1:Nat):Int)) I (by simp[go_sem];rw[wI_]);exact p _ _ ⟨i+1,qZ,rfl,a,n.keep r⟩ (by show l.length - (((i+1:Nat):Int)).toNat<l.length - ((i:Int)).toNat;omega)
  ·refine qSt0 ?_;exact x _ a
 ·obtain rfl:i=l.length:=qZ;refine qSf0 ?_;exact g _ d (by simpa using H)
def K7{w:Wt_}{K:cG}{F:NP_}(h:lp w s F buy l)
  (e:∀gv a,Eg gv (l.map λo=>[oG o]) a->M0 w a->K gv a):Ca pQ 58 #[fQ s] w K:=by
 apply aA5;have c:M0 w (w.alloc (.cells #[fQ s] 142)):=lm;apply cx (pt w.heap.size 0) (w.alloc (.cells #[fQ s] 142)) (by simp[go_sem,fQ]);have d:hC (w.alloc (.cells #[fQ s] 142)) w.heap.size #[fQ s] 142:=by simp[go_sem]
 exact e _ _ ⟨⟨_,TX (s:=s) (b:=w.heap.size) (buy:=buy) (l:=l) (T:=142),λW m=>⟨m.hpk d id,F,h.mod (c.trans m) eQ⟩⟩,_,_,rfl⟩ c
def vu{l:List Int}{B:Int}(h:∀x∈l,0<=x/\x<=B):0<=l.sum/\l.sum<=l.length*B:=by
 induction l with
 |nil=>simp
 |cons x l a=>
  have d:=h x (by simp);have c:=a λy b=>h y (by simp[b]);rw[di,dc];have e:((l.length+1:Nat):Int)*B=l.length*B+B:=by rw[iT,Int.add_mul];omega
  rw[e];omega
def xF(l:List Od)(acct:Int):Int:=((l.filter λo=>decide (o.acct≠acct)).map (·.left)).sum
def EZ(l:List Od)(o:Od)(acct:Int):xF (l++[o]) acct=xF l acct+(if o.acct≠acct then o.left else 0):=by
 unfold xF;rw[dJ,dy,g9];congr 1;by_cases h:o.acct=acct<;>simp[h]
def T7{acct:Int}(h:∀o∈l,1<=o.left/\o.left<=1000000):0<=xF l acct/\xF l acct<=l.length*1000000:=by
 have b:=vu (l:=(l.filter λo=>decide (o.acct≠acct)).map (·.left)) (B:=1000000) λx c=>by
  obtain⟨o,a,rfl⟩:=cF.1 c;have:=h o (cO.1 a).1;omega
 rw[cz]at b;have d:=dm (λo:Od=>decide (o.acct≠acct)) l;unfold xF;omega
def Od.left_bd{o:Od}(h:o.may=true):1<=o.left/\o.left<=1000000:=by
 unfold Od.may at h;simp only[cL]at h;exact dR h.2
def Tg{p:Od->Bool}{j:Nat}(b:j<l.length)(h:∀o∈l.take j,p o=true)(a:p l[j]=false):l.takeWhile p=l.take j:=by
 induction l generalizing j with
 |nil=>simp at b
 |cons x l d=>
  cases j with
  |zero=>
   simp only[iN]at a;rw[oO,a];simp
  |succ j=>
   have e:=h x (by simp);rw[oO,e];simp only[fh,lq];rw[d (by simpa using b) (λo c=>h o (by simp[c])) (by simpa using a)]
def Xf{p:Od->Bool}(h:∀o∈l,p o=true):l.takeWhile p=l:=by
 induction l with
 |nil=>rfl
 |cons x l b=>
  rw[oO,h x (by simp)];simp only[fh];rw[b λo a=>h o (by simp[a])]
def No{w:Wt_}{K:cG}{F:NP_}{price acct:Int}(h:lp w s F buy l)
  (hK:∀w',M0 w w' ->K (gI (lR buy l price acct)) w'):Ca pQ 178 #[fQ s,gI price,gU acct] w K:=by
 apply ag8;obtain⟨a,n⟩:=dW w.heap.size
 have hlay:∃B,((w.alloc (.cells #[fQ s] 142)).alloc (.cells #[.int .i64 price] 2) |>.alloc (.cells #[.int .u32 acct] 23) |>.alloc (.cells #[.int .i64 0] 2))=B/\B.heap.size=a+4/\M0 w B/\
   hC B a #[fQ s] 142/\hC B (a+1) #[.int .i64 price] 2/\hC B (a+2) #[.int .u32 acct] 23/\hC B (a+3) #[.int .i64 0] 2:=by
  refine⟨_,rfl,by simp[go_sem,n],((lm.alloc _).alloc _).alloc _,?_,?_,?_,?_⟩<;>simp[go_sem,n]
 obtain⟨B,Y,hsz4,m4,b0,b1,b2,b3⟩:=hlay;apply cx (pt a 0) (w.alloc (.cells #[fQ s] 142)) (by simp[go_sem,fQ,n]);apply cx (pt (a+1) 0) ((w.alloc (.cells #[fQ s] 142)).alloc (.cells #[.int .i64 price] 2)) (by simp[go_sem,n]);apply cx (pt (a+2) 0) (((w.alloc (.cells #[fQ s] 142)).alloc (.cells #[.int .i64 price] 2)).alloc (.cells #[.int .u32 acct] 23)) (by simp[go_sem,n]);apply cx (pt (a+3) 0) B (by rw[<-Y];simp[go_sem,n]);clear Y;apply qSv1 (fQ s) b0;refine K7 (h.mod m4 eQ) λgv k ht T=>?_;obtain⟨⟨Ok,hit,hOk⟩,f,cap,rfl⟩:=ht;have M5:=m4.trans T;have q5:=h.mod M5 eQ;have d0:=T.hpk b0 id;have d1:=T.hpk b1 id;have d2:=T.hpk b2 id;have d3:=T.hpk b3 id;have hs5:=T.size;have N:∀b,F b->b<a:=λb g=>by rw[n];exact h.lt g
 let p:Od->Bool:=λo=> !sx buy price o.price
 let J:(Nat->Prop)->Nat->World->Prop:=λQ j W=>lp W s F buy l/\hC W a #[fQ s] 142/\hC W (a+1) #[.int .i64 price] 2/\hC W (a+2) #[.int .u32 acct] 23/\
  hC W (a+3) #[.int .i64 (xF (l.take j) acct)] 2/\(∀o∈l.take j,p o=true)/\hp W k.heap.size=some (.deferred (some []))/\de (λb=>b=a+3) k W/\∀b,Q b->k.heap.size+1<b/\b<W.heap.size
 let Jx:Code->World->Prop:=λc W=>c=.exit 0/\hC W (a+3) #[.int .i64 (lR buy l price acct)] 2/\hp W k.heap.size=some (.deferred (some []))/\de (λb=>b=a+3) k W;have e5:∀o,M0 k ((k.alloc (.deferred (some []))).alloc (.loop o)):=λo=>lm.alloc _
 have fin:∀W o,hC W (a+3) #[.int .i64 (lR buy l price acct)] 2->hp W k.heap.size=some (.deferred (some []))->de (λb=>b=a+3) k W->
   rv pQ (iL 2 (pt (a+3) 0)) (W.putObj (k.heap.size+1) (.loop o)) λv52 w53=>
    ru pQ (iS 2 (pt (a+3) 0) v52) w53 λw54=>
    lj ([k.heap.size]++[]) w54 λw55=>
    uc pQ (iL 2 (pt (a+3) 0)) w55 λv56=>K v56 w55:=by
  intro W o k1 k2 k3;have mp:de (λb=>b=k.heap.size+1) W (W.putObj (k.heap.size+1) (.loop o)):=(de.refl (λb=>b=k.heap.size+1) W).putObj (.inl rfl) _;have C:=mp.hpk k1 qZ;have k2' :=mp.hpk k2 qZ;generalize W.putObj (k.heap.size+1) (.loop o)=X at mp C k2' |-;apply qSv1 (gI (lR buy l price acct)) C;apply pH (X.setCell ⟨a+3,0,none⟩ (gI (lR buy l price acct))) (by simp[go_sem,C]);have ms:de (λb=>b=a+3) X (X.setCell ⟨a+3,0,none⟩ (gI (lR buy l price acct))):=(de.refl (λb=>b=a+3) X).sc;have k3' :hC (X.setCell ⟨a+3,0,none⟩ (gI (lR buy l price acct))) (a+3) #[.int .i64 (lR buy l price acct)] 2:=by simp[go_sem,C]
  have k4' :=ms.hpk k2' qZ;generalize X.setCell ⟨a+3,0,none⟩ (gI (lR buy l price acct))=W2 at ms k3' k4' |-;refine Nk (by simp) (λd hd=>by rw[eK.1 hd];exact k4') λW3 m3=>?_;have k5:=m3.hpk k3' (by simp;omega);apply qWv1 (gI (lR buy l price acct)) k5;refine hK _ ((((M5.on k3 λb g=>gz).on mp λb g=>gz).on ms λb g=>gz).on m3 λb g=>.inr ?_);have hb' :b=k.heap.size:=by simpa using g
  omega
 refine Is (xs:=l.map λo=>[oG o]) hit (by simp) J Jx (λo=>hOk _ (e5 o)) ?_ ?_ ?_ ?_ ?_
 ·intro o Q W mo hQ;have V:=(e5 o).trans mo;have hd:hp ((k.alloc (.deferred (some []))).alloc (.loop o)) k.heap.size=some (.deferred (some [])):=by simp[go_sem]
  exact⟨q5.mod V eQ,V.hpk d0 id,V.hpk d1 id,V.hpk d2 id,V.hpk d3 id,by simp,mo.hpk hd id,V.to,hQ⟩
 ·rintro Q j W W' ⟨P,j1,j2,j3,R,H,Z,L,t⟩ E;exact⟨P.mod E λb g e=>by have:=N b g;omega,E.hpk j1 qZ,E.hpk j2 qZ,E.hpk j3 qZ,E.hpk R qZ,H,E.hpk Z qZ,L.on E λb g=>gz,λb g=>⟨(t b g).1,ep (t b g).2 E.size⟩⟩
 ·rintro Q j x W r hx ⟨P,j1,j2,j3,R,H,Z,L,t⟩ v A KN KJ M hKJ
  obtain⟨U,hxo⟩:∃U:j<l.length,x=[oG l[j]]:=by
   rw[dO]at hx;cases hh:l[j]? with
   |none=>rw[hh]at hx;cases hx
   |some o=>
    obtain⟨U,he⟩:=cP.1 hh;rw[hh]at hx;exact⟨U,by rw[he];exact(dB hx).symm⟩
  subst hxo;obtain⟨D,hrc⟩:=dW (k.heap.size+1);rw[<-hrc]at v M hKJ t|-;have hrl:=cB v;unfold Re;obtain⟨w6,e6,b6,m6⟩:=kD W;apply cI e6;obtain⟨q,hq0⟩:=dW W.heap.size;rw[<-hq0]at b6|-;obtain⟨I,e7,b7,m7⟩:=jK (o' :=l[j]) b6;show ru pQ (iS pz (pt q 0) (oG l[j])) w6 _;apply ir e7;have M7:M0 W I:=m6.on m7 λb g=>gz;have y:I.heap[D]? =some (.loop r):=M7.keep v id;apply ux (r:=r) y A;have m8:de (λb=>b=D) I (I.putObj D (.loop {r with state:=.busy})):=(de.refl (λb=>b=D) I).putObj (.inl rfl) _;have i:(I.putObj D (.loop {r with state:=.busy})).heap[D]? =some (.loop {r with state:=.busy}):=by rw[fY,bZ rfl,y];rfl
  generalize I.putObj D (.loop {r with state:=.busy})=G at m8 i|-;have u:de (λb=>b=D) W G:=(M7.to).trans m8;have g0:=u.hpk j1 qZ;have g1:=u.hpk j2 qZ;have g2:=u.hpk j3 qZ;have g3:=u.hpk R qZ;have gd:=u.hpk Z qZ;have zgq:=m8.hpk b7 qZ;have gS:=P.mod u λb g e=>by have:=N b g;omega
  have m:=zgq;unfold fL at m;apply qSv1 (fQ s) g0;apply cI (by simp[-Int.natCast_add,go_sem,g1]<;>first|exact sI|exact rfl);apply cI (by simp[-Int.natCast_add,go_sem,m]<;>first|exact sI|exact rfl);apply cI (by simp[-Int.natCast_add,go_sem,m]<;>first|exact sI|exact rfl);apply DE gS;cases hbt:sx buy price l[j].price with
  |true=>
   rw[kx];refine hKJ _ _ ⟨rfl,?_,gd,L.on u λb g=>gz⟩ i
   have:lR buy l price acct=xF (l.take j) acct:=by
    unfold lR xF;rw[Tg (p:=p) U H (by simp[p,hbt])]
   rw[this];exact g3
  |false=>
   rw[gP]
   have O:l.take (j+1)=l.take j++[l[j]]:=by
    rw[kL,cE U];rfl
   have hp1:∀o∈l.take (j+1),p o=true:=by
    rw[O];intro o S;rcases dg.1 S with S|S
    ·exact H o S
    ·grind
   apply cI (by simp[-Int.natCast_add,go_sem,m]<;>first|exact sI|exact rfl);apply cI (by simp[-Int.natCast_add,go_sem,m]<;>first|exact sI|exact rfl);apply cI (by simp[-Int.natCast_add,go_sem,g2]<;>first|exact sI|exact rfl);by_cases ha:l[j].acct=acct
   ·apply qSv1 (.bool false) ha;rw[gP];refine M _ ⟨gS,g0,g1,g2,?_,hp1,gd,L.on u λb g=>gz,λb g=>⟨by have:=(t b g).1;omega,ep (t b g).2 u.size⟩⟩ i λb g=>?_
    ·rw[O,EZ,aZ (by simp[ha]),ft];exact g3
    ·exact u.blk b (t b g).2 (by have:=(t b g).1;omega)
   ·apply qSv1 (.bool true) ha;rw[kx];apply cI (by simp[-Int.natCast_add,go_sem,g3]<;>first|exact sI|exact rfl);apply cI (by simp[-Int.natCast_add,go_sem,m]<;>first|exact sI|exact rfl);apply cI (by simp[-Int.natCast_add,go_sem,m]<;>first|exact sI|exact rfl);have hbd1:=T7 (l:=l.take j) (acct:=acct) λo S=>Od.left_bd (P.may o (ek S)).1;have hbd2:=Od.left_bd (P.may l[j] (cC U)).1;have hlen:=P.len;have hlt:(l.take j).length<=100:=by rw[cZ];omega
    refine cx (gI (xF (l.take (j+1)) acct)) G (by
     rw[O,EZ,bZ ha];simp[go_sem];rw[wI_]) ?_
    apply pH (G.setCell ⟨a+3,0,none⟩ (gI (xF (l.take (j+1)) acct))) (by simp[go_sem,g3]);have z:de (λb=>b=a+3) G (G.setCell ⟨a+3,0,none⟩ (gI (xF (l.take (j+1)) acct))):=(de.refl (λb=>b=a+3) G).sc;have k3:hC (G.setCell ⟨a+3,0,none⟩ (gI (xF (l.take (j+1)) acct))) (a+3) #[.int .i64 (xF (l.take (j+1)) acct)] 2:=by simp[go_sem,g3]
    generalize G.setCell ⟨a+3,0,none⟩ (gI (xF (l.take (j+1)) acct))=w9 at z k3|-;refine M _ ⟨gS.mod z λb g e=>by have:=N b g;omega,z.hpk g0 qZ,z.hpk g1 qZ,z.hpk g2 qZ,k3,hp1,z.hpk gd qZ,(L.on u λb g=>gz).trans z,λb g=>⟨by have:=(t b g).1;omega,ep (t b g).2 (dD u.size z.size)⟩⟩ (z.keep i qZ) λb g=>?_;rw[z.blk b (ep (t b g).2 u.size) (by have:=(t b g).1;omega)];exact u.blk b (t b g).2 (by have:=(t b g).1;omega)
 ·rintro Q W o ⟨P,j1,j2,j3,R,H,Z,L,t⟩;have hend:(l.map λo=>[oG o]).length=l.length:=by simp
  rw[hend,cN]at R H;unfold Jo;simp only[iJ];refine fin W o ?_ Z L
  have:lR buy l price acct=xF l acct:=by
   unfold lR xF;rw[Xf (p:=p) H]
  rw[this];exact R
 ·rintro c W o ⟨rfl,k1,k2,k3⟩;unfold Jo;simp only[iJ];exact fin W o k1 k2 k3
end Go.Proofs
set_option maxRecDepth 100000
namespace Go.Proofs
open Go Go.Vc
section
variable{a b c d:Vt_}{W:Wt_}{Z:cG}
def ax2(h:Ca pQ 127 #[bT] W λa b=>Ca pQ 127 #[bF] b λc d=>gr (Instr.build 144 #[(0,a),(1,c)]) d λe f=>gq 144 e f Z):Ca pQ 85 #[] W Z:=cj Tryz.func85 h
def ay0(h:gb .neq 100 true a (.pointer none) W λb c=>cV b (ez a λd=>dz 144 d 0 142 c λe f=>gb .neq 142 true e (.pointer none) f Z) (Z bF c)):Ca pQ 57 #[a] W Z:=cj Tryz.func57 h
def ZI(m:cV b (ez a λc=>gY 144 c 0 142 W.drew λd=>ez a λe=>kg 144 e 1 λf=>eP 142 f W.drew λg=>Sem.run pQ (iL 142 f) W.drew=.ok g W.drew/\(Z (gT d g) W.drew)) (ez a λh=>gY 144 h 1 142 W.drew λi=>ez a λj=>kg 144 j 0 λk=>eP 142 k W.drew λl=>Sem.run pQ (iL 142 k) W.drew=.ok l W.drew/\(Z (gT i l) W.drew))):Ca pQ 177 #[a,b] W Z:=cj Tryz.func177 m
def QT(a b c d:Vt_)(e:cG)(f:T2)(g:Wt_)(h:T2->Wp):=gc f.2.1 a g λi j=>cV i (uB 145 b f.2.1 142 j λk l=>Ca pQ 204 #[k,c] l λm n=>nR m n λo p q=>gv 74 o q λr s=>gb .eql 43 true p (gI 0) s λt u=>cV t (gl 74 r u λv w=>gs 74 d v w λx=>eP 74 d x λy=>e (gT y k) x) (g1 f.2.1 u λz A=>h (f.1,z,()) A)) (gr (Instr.build 74 #[]) j λB C=>gs 74 d B C λD=>eP 74 d D λE=>e (gT E (.pointer none)) D)
def as4(l:ga 74 W λc d=>ez a λe=>gY 144 e 0 142 d.drew λf=>ez a λg=>gY 144 g 1 142 d.drew λh=>gx (jQ 145 2 [(0,f),(1,h)]) d.drew λi j=>gw (Builtin.len_ #[145] 3 #[i]) j λk=>qB (QT k i b c Z) ((.pointer none),(gI 0),()) j):Ca pQ 169 #[a,b] W Z:=cj Tryz.func169 l
def ab7(k:gq 74 a W λc d=>dz 74 c 2 4 d λe f=>cV e (dz 74 c 3 2 f λg h=>gb .leq 2 false b g h Z) (dz 74 c 3 2 f λi j=>gb .geq 2 false b i j Z)):Ca pQ 212 #[a,b] W Z:=cj Tryz.func212 k
def Sg(a:Vt_)(b:cG)(c d:Vt_)(e f:T1)(g:Wt_):=NV->cV f.1 (gr (Instr.build 230 #[]) g λh i=>gs 230 a h i λj=>eP 230 a j λk=>b (gT k (gI 9)) j) (gl 74 c g λl m=>Ca pQ 174 #[d,l,e.1] m λn o=>gs 230 a n o λp=>eP 230 a p λq=>b (gT q (gI 0)) p)
def QI(a:Vt_)(b:cG)(c:T1)(d e f g:Vt_)(h:T1)(i:Wt_):=NV->cV h.1 (gr (Instr.build 230 #[]) i λj k=>gs 230 a j k λl=>eP 230 a l λm=>b (gT m (gI 71)) l) (jW (λn=>cV c.1 (dz 74 d 4 2 i λo p=>gb .lss 2 false e o p λq r=>cV q (Ca pQ 179 #[f] r λs t=>gb .geq 3 true s (gI 100) t λu v=>n (u,()) v) (n (bF,()) r)) (n (bF,()) i)) (Sg a b d g c))
def QQ(a:Vt_)(b:cG)(c d:Vt_)(e:T1)(f g h:Vt_)(i:T1)(j:Wt_):=NV->cV i.1 (gr (Instr.build 230 #[]) j λk l=>gs 230 a k l λm=>eP 230 a m λn=>b (gT n (gI 70)) m) (jW (λo=>gb .eql 28 true c (gB 4) j λp q=>cV p (gb .gtr 2 true d (gI 0) q λr s=>o (r,()) s) (o (bF,()) q)) (QI a b e f d g h))
def SC(a b c d:Vt_)(e:cG)(f g:Vt_)(h:T1)(i:Wt_):=NV->jW (λj=>gb .eql 28 true a (gB 3) i λk l=>cV k (dz 74 b 4 2 l λm n=>gb .lss 2 false c m n λo p=>j (o,()) p) (j (bF,()) l)) (QQ d e a c h b f g)
def Qe(a:Vt_)(b:cG)(c d e:Vt_)(f:T1)(g:Wt_):=NV->cV f.1 (gr (Instr.build 230 #[]) g λh i=>gs 230 a h i λj=>eP 230 a j λk=>b (gT k (gI 2)) j) (dz 74 c 0 24 g λl m=>Ca pQ 169 #[d,l] m λn o=>nR n o λp q r=>gv 74 p r λs t=>gb .neq 142 true q (.pointer none) t λu v=>cV u (gr (Instr.build 230 #[]) v λw x=>gs 230 a w x λy=>eP 230 a y λz=>b (gT z (gI 8)) y) (dz 74 c 2 4 v λA B=>Ca pQ 177 #[d,A] B λC D=>nR C D λE F G=>dz 74 c 3 2 G λH I=>dz 74 c 1 23 I λJ K=>Ca pQ 178 #[F,H,J] K λL M=>jW (λN=>gb .eql 28 true e (gB 1) M λO P=>cV O (N (bT,()) P) (gb .eql 28 true e (gB 4) P λQ R=>N (Q,()) R)) (SC e c L a b E d)))
def ap2(A:gq 74 b W λd e=>ga 230 e λf g=>Ca pQ 57 #[a] g λh i=>gt h i λj k=>cV j (gr (Instr.build 230 #[]) k λl m=>gs 230 f l m λn=>eP 230 f n λo=>Z (gT o (gI 1)) n) (jW (λp=>gl 74 d k λq r=>Ca pQ 110 #[q] r λs t=>gt s t λu v=>cV u (p (bT,()) v) (gb .lss 28 true c (gB 1) v λw x=>cV w (p (bT,()) x) (gb .gtr 28 true c (gB 4) x λy z=>p (y,()) z))) (Qe f Z d a c))):Ca pQ 145 #[a,b,c] W Z:=cj Tryz.func145 A
def Sk(a:Unit->Wp)(b c d e:Vt_)(f:Unit->Wp)(g:T1)(h:Wt_):=NV->cV g.1 (a (()) h) (dz 74 b 1 23 h λi j=>dz 74 c 1 23 j λk l=>gb .eql 23 false i k l λm n=>cV m (dz 74 b 0 24 n λo p=>Ca pQ 170 #[d,o] p λq r=>dz 230 e 1 49 r λs t=>dz 74 b 0 24 t λu v=>gx (jQ 49 1 [(0,u)]) v λw x=>gx (eg #[49,49] 49 [s,w]) x λy z=>qM 230 e 1 49 y z λA=>f (()) A) (dz 74 c 4 2 n λB C=>dz 74 b 4 2 C λD E=>rn pQ (builtin .min #[2,2] 2 #[false,false] #[B,D]) E λF G=>Ca pQ 213 #[d,F] G λH I=>dz 74 c 4 2 I λJ K=>gb .sub 2 false J F K λL M=>qM 74 c 4 2 L M λN=>dz 230 e 2 2 N λO P=>gb .add 2 false O F P λQ R=>qM 230 e 2 2 Q R λS=>dz 230 e 0 48 S λT U=>dz 74 b 3 2 U λV X=>dz 74 b 0 24 X λY aa=>dz 74 b 1 23 aa λab ac=>gr (Instr.build 111 #[(0,V),(1,F),(2,Y),(3,ab)]) ac λad ae=>gx (jQ 48 1 [(0,ad)]) ae λaf ag=>gx (eg #[48,48] 48 [T,af]) ag λah ai=>qM 230 e 0 48 ah ai λaj=>f (()) aj))
def O2(a b:Vt_)(c:Unit->Wp)(d:Vt_)(e:Unit)(f:Wt_)(g:Unit->Wp):=NV->dz 74 a 4 2 f λh i=>gb .gtr 2 true h (gI 0) i λj k=>cV j (Ca pQ 211 #[b] k λl m=>nR l m λn o p=>gv 74 n p λq r=>jW (λs=>gt o r λt u=>cV t (s (bT,()) u) (gl 74 a u λv w=>dz 74 q 3 2 w λx y=>Ca pQ 212 #[v,x] y λz A=>gt z A λB C=>s (B,()) C)) (Sk c q a b d g)) (c (()) k)
def Si(a b c:Vt_)(d:cG)(e:T1)(f:Wt_):=NV->cV e.1 (gl 74 a f λg h=>Ca pQ 214 #[b,g] h λi j=>dz 74 a 4 2 j λk l=>qM 230 c 3 2 k l λm=>gl 230 c m λn o=>gs 230 c n o λp=>eP 230 c p λq=>d q p) (gl 230 c f λr s=>gs 230 c r s λt=>eP 230 c t λu=>d u t)
def RJ(a b c d:Vt_)(e:cG)(f:Unit)(g:Wt_):=NV->jW (λh=>cV a (dz 74 b 4 2 g λi j=>gb .gtr 2 true i (gI 0) j λk l=>h (k,()) l) (h (bF,()) g)) (Si b c d e)
def ap0(p:gq 74 b W λd e=>ga 230 e λf g=>dz 74 d 2 4 g λh i=>Ca pQ 177 #[a,h] i λj k=>nR j k λl m n=>dK (S:=Unit) (λo=>lG (S:=Unit) (O2 d m o f) (()) n) (RJ c d l f Z)):Ca pQ 174 #[a,b,c] W Z:=cj Tryz.func174 p
def Sm(a b c d:Vt_)(e:cG)(f g:Vt_)(h:T1)(i:Wt_):=NV->cV h.1 (gr (Instr.build 230 #[(3,a)]) i λj k=>Ca pQ 173 #[b,c,a] k λl m=>gs 230 d j m λn=>eP 230 d n λo=>e (gT o l) n) (Ca pQ 170 #[b,c] i λp q=>gl 74 f q λr s=>Ca pQ 174 #[g,r,bT] s λt u=>gs 230 d t u λv=>eP 230 d v λw=>e (gT w (gI 0)) v)
def ac3(h0:ga 230 W λe f=>Ca pQ 57 #[a] f λg h=>gt g h λi j=>cV i (gr (Instr.build 230 #[]) j λk l=>gs 230 e k l λm=>eP 230 e m λn=>Z (gT n (gI 1)) m) (Ca pQ 169 #[a,b] j λo p=>nR o p λq r s=>gv 74 q s λt u=>gb .eql 142 true r (.pointer none) u λv w=>cV v (gr (Instr.build 230 #[]) w λx y=>gs 230 e x y λz=>eP 230 e z λA=>Z (gT A (gI 7)) z) (gl 74 t w λB C=>gv 74 B C λD E=>qM 74 t 3 2 c E λF=>qM 74 t 4 2 d F λG=>gl 74 t G λH I=>Ca pQ 110 #[H] I λJ K=>gt J K λL M=>cV L (gr (Instr.build 230 #[]) M λN O=>gs 230 e N O λP=>eP 230 e P λQ=>Z (gT Q (gI 2)) P) (jW (λR=>dz 74 D 3 2 M λS T=>gb .eql 2 false c S T λU V=>cV U (dz 74 D 4 2 V λX Y=>gb .leq 2 false d X Y λaa ab=>R (aa,()) ab) (R (bF,()) V)) (Sm d r b e Z t a))))):Ca pQ 142 #[a,b,c,d] W Z:=cj Tryz.func142 h0
def ae9(G:ga 74 W λc d=>Ca pQ 57 #[a] d λe f=>gt e f λg h=>cV g (gr (Instr.build 74 #[]) h λi j=>gs 74 c i j λk=>eP 74 c k λl=>Z (gT l (gI 1)) k) (Ca pQ 169 #[a,b] h λm n=>nR m n λo p q=>gv 74 o q λr s=>gb .eql 142 true p (.pointer none) s λt u=>cV t (gr (Instr.build 74 #[]) u λv w=>gs 74 c v w λx=>eP 74 c x λy=>Z (gT y (gI 7)) x) (Ca pQ 170 #[p,b] u λz A=>nR z A λB C D=>gs 74 c B D λE=>eP 74 c E λF=>Z (gT F C) E))):Ca pQ 137 #[a,b] W Z:=cj Tryz.func137 G
def Sw(a b c:Vt_)(d:Wp)(e:T1)(f:Wt_):=NV->cV e.1 (gl 100 a f λg h=>dz 74 b 0 24 h λi j=>Ca pQ 137 #[g,i] j λk l=>gl 95 c l λm n=>gl 74 b n λo p=>gx (jQ 95 1 [(0,o)]) p λq r=>gx (eg #[95,95] 95 [m,q]) r λs t=>gs 95 c s t d) (d f)
def Pa(a b c:Vt_)(d:Nat)(e:LV_)(f:Wt_)(g:Wp)(h:Code->Wp):=gv 74 (e.getD 0 undef) f λi j=>lC d j λk=>jW (λl=>gl 23 a k λm n=>gb .eql 23 true m (gU 0) n λo p=>cV o (l (bT,()) p) (dz 74 i 1 23 p λq r=>gl 23 a r λs t=>gb .eql 23 false q s t λu v=>l (u,()) v)) (Sw b i c g)
def Qv(a:Vt_)(b:cG)(c:List Nat)(d:Option Code)(e:Wt_):=iJ (λf=>gl 95 a f λg h=>gs 95 a g h λi=>lj (c++[]) i λj=>eP 95 a j λk=>b k j) (λl=>lj (c++[]) l λm=>eP 95 a m λn=>b n m) (λo p=>bc (Nat.beq o 0) (gl 95 a p λq r=>gs 95 a q r λs=>lj (c++[]) s λt=>eP 95 a t λu=>b u t) (False)) d e
def Zo(m:gq 100 a W λc d=>gq 23 b d λe f=>ga 95 f λg h=>gl 100 c h λi j=>Ca pQ 31 #[i] j λk l=>yP pQ none k l 1 (Pa e c g) (Qv g Z)):Ca pQ 135 #[a,b] W Z:=cj Tryz.func135 m
def Z4(D:ga 74 W λc d=>Ca pQ 57 #[a] d λe f=>gt e f λg h=>cV g (gr (Instr.build 74 #[]) h λi j=>gs 74 c i j λk=>eP 74 c k λl=>Z (gT l (gI 1)) k) (Ca pQ 169 #[a,b] h λm n=>nR m n λo p q=>gv 74 o q λr s=>gb .eql 142 true p (.pointer none) s λt u=>cV t (gr (Instr.build 74 #[]) u λv w=>gs 74 c v w λx=>eP 74 c x λy=>Z (gT y (gI 7)) x) (gl 74 r u λz A=>gs 74 c z A λB=>eP 74 c B λC=>Z (gT C (gI 0)) B))):Ca pQ 168 #[a,b] W Z:=cj Tryz.func168 D
def OX(a b c:Vt_)(d:Nat)(e:LV_)(f:Wt_)(g:Wp)(h:Code->Wp):=gv 74 (e.getD 0 undef) f λi j=>lC d j λk=>dz 74 i 1 23 k λl m=>gl 23 a m λn o=>gb .neq 23 false l n o λp q=>cV p (g q) (dz 74 i 2 4 q λr s=>cV r (gl 2 b s λt u=>dz 74 i 4 2 u λv w=>gb .add 2 false t v w λx y=>gs 2 b x y g) (gl 2 c s λz A=>dz 74 i 4 2 A λB C=>gb .add 2 false z B C λD E=>gs 2 c D E g))
def PW(a b:Vt_)(c:cG)(d:List Nat)(e:Option Code)(f:Wt_):=iJ (λg=>eP 2 a g.drew λh=>eP 2 b g.drew λi=>gs 2 a h g.drew λj=>gk 2 b i j/\(gs 2 b i j λk=>lj (d++[]) k λl=>eP 2 a l λm=>eP 2 b l λn=>c (gT m n) l)) (λo=>lj (d++[]) o λp=>eP 2 a p λq=>eP 2 b p λr=>c (gT q r) p) (λs t=>bc (Nat.beq s 0) (eP 2 a t.drew λu=>eP 2 b t.drew λv=>gs 2 a u t.drew λw=>gk 2 b v w/\(gs 2 b v w λx=>lj (d++[]) x λy=>eP 2 a y λz=>eP 2 b y λA=>c (gT z A) y)) (False)) e f
def am9(k:gq 23 b W λc d=>ga 2 d λe f=>ga 2 f λg h=>Ca pQ 31 #[a] h λi j=>yP pQ none i j 1 (OX c e g) (PW e g Z)):Ca pQ 206 #[a,b] W Z:=cj Tryz.func206 k
def aE8(h:gq 100 a W λb c=>Z (.func (.func 56) #[] #[b]) c):Ca pQ 31 #[a] W Z:=cj Tryz.func31 h
def Vb(a:Vt_)(b:Nat)(c:LV_)(d:Wt_)(e:Wp)(f:Code->Wp):=gv 74 (c.getD 0 undef) d λg h=>lC b h λi=>gl 141 a i λj k=>gl 74 g k λl m=>iv pQ j [l] m λn o=>gt n o λp q=>cV p (f .ret q) (e q)
def Rx(a:(T1)×List Nat)(b:(T1)×List Nat->Wp)(c:cG)(d:List Nat)(e:Option Code)(f:Wt_):=iJ (λg=>g1 a.1.1 g λh i=>b ((h,()),(d++a.2)) i) (λj=>lj (d++a.2) j λk=>c (.tuple #[]) k) (λl m=>bc (Nat.beq l 2) (g1 a.1.1 m λn o=>b ((n,()),(d++a.2)) o) (bc (Nat.beq l 1) (g1 a.1.1 m λp q=>b ((p,()),(d++a.2)) q) (bc (Nat.beq l 0) (lj (d++a.2) m λr=>c (.tuple #[]) r) (False)))) e f
def UR(a b c:Vt_)(d:cG)(e:(T1)×List Nat)(f:Wt_)(g:(T1)×List Nat->Wp):=gc e.1.1 a f λh i=>cV h (uB 145 b e.1.1 142 i λj k=>Ca pQ 58 #[j] k λl m=>yP pQ none l m 1 (Vb c) (Rx e g d)) (lj e.2 i λn=>d (.tuple #[]) n)
def at4(v:gq 141 a W λc d=>gl 100 b d λe f=>Ca pQ 57 #[e] f λg h=>gt g h λi j=>cV i (Z (.tuple #[]) j) (gl 100 b j λk l=>Ca pQ 47 #[k] l λm n=>ez m λo=>gY 144 o 0 142 n.drew λp=>ez m λq=>gY 144 q 1 142 n.drew λr=>gx (jQ 145 2 [(0,p),(1,r)]) n.drew λs t=>gw (Builtin.len_ #[145] 3 #[s]) t λu=>lG (S:=(T1)×List Nat) (UR u s c Z) (((gI 0),()),[]) t)):Ca pQ 56 #[a,b] W Z:=cj Tryz.func56 v
def au0(p:Ca pQ 57 #[a] W λb c=>gt b c λd e=>cV d (Z (.pointer none) e) (ez a λf=>gY 144 f 0 142 e.drew λg=>ez a λh=>kg 144 h 1 λi=>eP 142 i e.drew λj=>Ca pQ 105 #[g] e.drew λk l=>gk 142 i j l/\(Ca pQ 105 #[j] l λm n=>gp (Instr.build 144 #[(0,k),(1,m)]) λo=>gq 144 o n Z))):Ca pQ 47 #[a] W Z:=cj Tryz.func47 p
def aC5(h:gr (Instr.build 137 #[(0,bT)]) W λa b=>gq 137 a b Z):Ca pQ 49 #[] W Z:=cj Tryz.func49 h
def aC8(h:gb .neq 33 true a (.pointer none) W λb c=>cV b (ez a λd=>dz 137 d 0 4 c Z) (Z bF c)):Ca pQ 54 #[a] W Z:=cj Tryz.func54 h
def aj7(k:ez a λc=>dz 137 c 2 57 W λd e=>Ca pQ 159 #[d,b,(.func (.func 160) #[] #[])] e λf g=>nR f g λh i j=>Z (gT h i) j):Ca pQ 125 #[a,b] W Z:=cj Tryz.func125 k
def aa9(q:gq 83 a W λc d=>gf 83 c 0 d λe f=>dz 27 e 0 23 f λg h=>gb .lss 23 false g b h λi j=>cV i (Z (gI (-1)) j) (gf 83 c 0 j λk l=>dz 27 k 0 23 l λm n=>gb .gtr 23 false m b n λo p=>cV o (Z (gI 1) p) (Z (gI 0) p))):Ca pQ 160 #[a,b] W Z:=cj Tryz.func160 q
def ac7(B:Ca pQ 54 #[a] W λc d=>gt c d λe f=>cV e (Z (gT (.pointer none) (gI 1)) f) (Ca pQ 125 #[a,b] f λg h=>nR g h λi j k=>gt j k λl m=>cV l (Z (gT (.pointer none) (gI 7)) m) (ez a λn=>dz 137 n 2 57 m λo p=>gi 57 o i p λq r=>dz 83 q 1 81 r λs t=>gb .eql 81 true s (gB 3) t λu v=>cV u (Z (gT (.pointer none) (gI 50)) v) (ez a λw=>dz 137 w 2 57 v λx y=>gi 57 x i y λz A=>Z (gT z (gI 0)) A)))):Ca pQ 128 #[a,b] W Z:=cj Tryz.func128 B
def aC4(h:Ca pQ 54 #[a] W λb c=>gt b c λd e=>cV d (Z (gU 0) e) (ez a λf=>dz 137 f 1 23 e Z)):Ca pQ 41 #[a] W Z:=cj Tryz.func41 h
def aq6(r:Ca pQ 54 #[a] W λb c=>gt b c λd e=>cV d (Z (gI 1) e) (ez a λf=>dz 137 f 1 23 e λg h=>gb .eql 23 true g (gU 4294967295) h λi j=>cV i (Z (gI 6) j) (ez a λk=>dz 137 k 1 23 j λl m=>gb .add 23 true l (gU 1) m λn o=>ez a λp=>qM 137 p 1 23 n o λq=>Z (gI 0) q))):Ca pQ 129 #[a] W Z:=cj Tryz.func129 r
def aD8(V:gq 27 b W λc d=>Ca pQ 54 #[a] d λe f=>gt e f λg h=>cV g (Z (gI 1) h) (gx (fH 27 c) h λi j=>Ca pQ 81 #[i] j λk l=>gt k l λm n=>cV m (Z (gI 2) n) (dz 27 c 0 23 n λo p=>Ca pQ 125 #[a,o] p λq r=>nR q r λs t u=>cV t (Z (gI 8) u) (gY 27 c 8 23 u.drew λv=>ez a λw=>gY 137 w 1 23 u.drew λx=>my .lss 23 false v x λy=>cV y (Z (gI 51) u.drew) (ez a λz=>gf 137 z 2 u.drew λA B=>gl 57 A B λC D=>gn 57 false C D λE F=>gb .geq 3 true E (gI 16) F λG H=>cV G (Z (gI 9) H) (ez a λI=>kg 137 I 2 λJ=>eP 57 J H.drew λK=>pS pQ (fH 27 c) H.drew λL=>gY 27 c 9 2 H.drew λM=>DS pQ (rB 83 #[(0,L),(1,(gB 1)),(2,M)]) λN=>gx (jQ 57 1 [(0,N)]) H.drew λO P=>gk 57 J K P/\(Ca pQ 126 #[K,s,O] P λQ R=>ez a λS=>kg 137 S 2 λT=>gs 57 T Q R λU=>Z (gI 0) U))))))):Ca pQ 84 #[a,b] W Z:=cj Tryz.func84 V
def aB5(o:Ca pQ 128 #[a,b] W λd e=>nR d e λf g h=>gE g h λi j=>cV i (Z g j) (ez f λk=>qM 83 k 1 81 (gB 1) j λl=>cV c (ez f λm=>qM 83 m 1 81 (gB 2) l λn=>Z (gI 0) n) (Z (gI 0) l))):Ca pQ 86 #[a,b,c] W Z:=cj Tryz.func86 o
def au6(v:Ca pQ 128 #[a,b] W λd e=>nR d e λf g h=>gE g h λi j=>cV i (Z g j) (ez f λk=>gf 83 k 0 j λl m=>gx (fH 27 l) m λn o=>Ca pQ 109 #[n,c] o λp q=>gt p q λr s=>cV r (Z (gI 52) s) (ez f λt=>qM 83 t 2 2 c s λu=>Z (gI 0) u))):Ca pQ 87 #[a,b,c] W Z:=cj Tryz.func87 v
def aa8(w:gq 27 a W λc d=>gq 27 b d λe f=>dz 27 c 8 23 f λg h=>dz 27 e 8 23 h λi j=>gb .lss 23 false g i j λk l=>cV k (Z bT l) (dz 27 c 8 23 l λm n=>dz 27 e 8 23 n λo p=>gb .eql 23 false m o p λq r=>cV q (dz 27 c 0 23 r λs t=>dz 27 e 0 23 t λu v=>gb .lss 23 false s u v Z) (Z bF r))):Ca pQ 203 #[a,b] W Z:=cj Tryz.func203 w
def PP(a:cG)(b:T1)(c:Wt_):=NV->cV b.1 (a (gI 51) c) (a (gI 0) c)
def ak4(x:Ca pQ 128 #[a,b] W λc d=>nR c d λe f g=>gv 214 e g λh i=>gE f i λj k=>cV j (Z f k) (jW (λl=>ez a λm=>gY 137 m 1 23 k.drew λn=>eP 214 h k.drew λo=>ez o λp=>kg 83 p 0 λq=>gY 27 q 8 23 k.drew λr=>my .lss 23 false n r λs=>cV s (l (bT,()) k.drew) (ez a λt=>gY 137 t 2 57 k.drew λu=>Ca pQ 201 #[u,(.func (.func 202) #[] #[h])] k.drew λv w=>l (v,()) w)) (PP Z))):Ca pQ 167 #[a,b] W Z:=cj Tryz.func167 x
def aa7(m:gq 83 a W λc d=>gY 83 c 1 81 d.drew λe=>my .neq 81 true e (gB 3) λf=>cV f (kg 83 c 0 λg=>pS pQ (fH 27 g) d.drew λh=>eP 214 b d.drew λi=>ez i λj=>kg 83 j 0 λk=>pS pQ (fH 27 k) d.drew λl=>Ca pQ 203 #[h,l] d.drew Z) (Z bF d.drew)):Ca pQ 202 #[a,b] W Z:=cj Tryz.func202 m
def an1(p:Ca pQ 167 #[a,b] W λc d=>gE c d λe f=>cV e (Z c f) (Ca pQ 128 #[a,b] f λg h=>nR g h λi j k=>gb .eql 43 true j (gI 0) k λl m=>cV l (ez i λn=>qM 83 n 1 81 (gB 3) m λo=>Z j o) (Z j m))):Ca pQ 134 #[a,b] W Z:=cj Tryz.func134 p
def ay1(G:gx (nE 83) W λc d=>Ca pQ 54 #[a] d λe f=>gt e f λg h=>cV g (gx (rB 83 #[]) h λi j=>nj pQ (jH 83 c i) j λk=>pS pQ (fH 83 c) k λl=>Z (gT l (gI 1)) k) (Ca pQ 125 #[a,b] h λm n=>nR m n λo p q=>gt p q λr s=>cV r (gx (rB 83 #[]) s λt u=>nj pQ (jH 83 c t) u λv=>pS pQ (fH 83 c) v λw=>Z (gT w (gI 7)) v) (ez a λx=>dz 137 x 2 57 s λy z=>gi 57 y o z λA B=>gx (fH 83 A) B λC D=>nj pQ (jH 83 c C) D λE=>pS pQ (fH 83 c) E λF=>Z (gT F (gI 0)) E))):Ca pQ 94 #[a,b] W Z:=cj Tryz.func94 G
def aC7(h:gq 33 a W λb c=>Z (.func (.func 53) #[] #[b]) c):Ca pQ 29 #[a] W Z:=cj Tryz.func29 h
def WY(a b c:Vt_)(d:cG)(e:T1)(f:Wt_)(g:T1->Wp):=gc e.1 a f λh i=>cV h (gi 57 b e.1 i λj k=>gx (fH 83 j) k λl m=>gx (nE 83) m λn o=>nj pQ (jH 83 n l) o λp=>gx (fH 83 n) p λq r=>iv pQ c [q] r λs t=>gt s t λu v=>cV u (d (.tuple #[]) v) (g1 e.1 v λw x=>g (w,()) x)) (d (.tuple #[]) i)
def av1(r:gl 33 b W λc d=>Ca pQ 54 #[c] d λe f=>gt e f λg h=>cV g (Z (.tuple #[]) h) (gl 33 b h λi j=>ez i λk=>dz 137 k 2 57 j λl m=>Ca pQ 55 #[l] m λn o=>gn 57 false n o λp q=>qA (WY p n a Z) ((gI 0),()) q)):Ca pQ 53 #[a,b] W Z:=cj Tryz.func53 r
def ay7(q:Ca pQ 54 #[a] W λb c=>gt b c λd e=>cV d (Z (.pointer none) e) (ez a λf=>gl 137 f e λg h=>gv 137 g h λi j=>ez a λk=>dz 137 k 2 57 j λl m=>Ca pQ 55 #[l] m λn o=>qM 137 i 2 57 n o λp=>Z i p)):Ca pQ 45 #[a] W Z:=cj Tryz.func45 q
def ax0(h:gb .eql 57 true a (.slice none 0 0) W λb c=>cV b (Z (.slice none 0 0) c) (gx (jQ 57 0 []) c λd e=>gx (eg #[57,57] 57 [d,a]) e Z)):Ca pQ 55 #[a] W Z:=cj Tryz.func55 h
def aa3(h0:gr (Instr.sliceAt 57 a (some b) none none) W λd e=>gn 57 false c e λf g=>gb .eql 3 true f (gI 0) g λh i=>cV h (Z a i) (gn 57 false a i λj k=>gb .eql 3 false b j k λl m=>cV l (gx (eg #[57,57] 57 [a,c]) m Z) (gb .add 3 false j f m λn o=>rn pQ (builtin .cap #[57] 3 #[false] #[a]) o λp q=>gb .gtr 3 false n p q λr s=>cV r (gr (Instr.sliceAt 57 a none (some b) none) s λt u=>gb .add 3 false j f u λv w=>gb .sub 3 false v b w λx y=>gx (eg #[57,3] 57 [t,x]) y λz A=>gr (Instr.sliceAt 57 z (some b) none none) A λB C=>gx (vY #[57,57] 3 [B,c]) C λD E=>my .add 3 false b f λF=>gp (Instr.sliceAt 57 z (some F) none none) λG=>gp (Instr.sliceAt 57 a (some b) none none) λH=>gx (vY #[57,57] 3 [G,H]) E.drew λI J=>Z z J) (gb .add 3 false j f s λK L=>gr (Instr.sliceAt 57 a none (some K) none) L λM N=>gb .add 3 false b f N λO P=>gr (Instr.sliceAt 57 M (some O) none none) P λQ R=>rnx pQ 161 [c,Q] R λS T=>gt S T λU V=>cV U (my .add 3 false b f λX=>gp (Instr.sliceAt 57 M (some X) none none) λY=>gp (Instr.sliceAt 57 M (some b) none none) λaa=>gx (vY #[57,57] 3 [Y,aa]) V.drew λab ac=>gr (Instr.sliceAt 57 M (some b) none none) ac λad ae=>gx (vY #[57,57] 3 [ad,c]) ae λaf ag=>Z M ag) (gr (Instr.sliceAt 57 M (some j) none none) V λah ai=>gx (vY #[57,57] 3 [ah,c]) ai λaj ak=>gr (Instr.sliceAt 57 M (some b) none none) ak λal am=>Ca pQ 162 #[al,f] am λan ao=>Z M ao))))):Ca pQ 126 #[a,b,c] W Z:=cj Tryz.func126 h0
def OR(a b c d:Vt_)(e:cG)(f:T2)(g:Wt_)(h:T2->Wp):=gc f.1 f.2.1 g λi j=>cV i (gb .add 3 false f.1 f.2.1 j λk l=>gr (convert 3 203 k) l λm n=>gb .shr 203 true m (gQ 1) n λo p=>gr (convert 203 3 o) p λq r=>gi 57 a q r λs t=>gx (fH 83 s) t λu v=>iv pQ b [u,c] v λw x=>gb .lss 3 true w (gI 0) x λy z=>cV y (g1 q z λA B=>h (A,f.2.1,()) B) (h (f.1,q,()) z)) (gb .lss 3 false f.1 d j λC D=>cV C (gi 57 a f.1 D λE F=>gx (fH 83 E) F λG H=>iv pQ b [G,c] H λI J=>gb .eql 3 true I (gI 0) J λK L=>e (gT f.1 K) L) (e (gT f.1 bF) D))
def ad2(h:gn 57 false a W λd e=>qB (OR a c b d Z) ((gI 0),d,()) e):Ca pQ 159 #[a,b,c] W Z:=cj Tryz.func159 h
def aq3(h:Ca pQ 244 #[a,b] W λc d=>gb .geq 3 true c (gI 0) d Z):Ca pQ 201 #[a,b] W Z:=cj Tryz.func201 h
def Oy(a b c:Vt_)(d:cG)(e:T2)(f:Wt_)(g:T2->Wp):=gc e.2.1 a f λh i=>cV h (gi 57 b e.2.1 i λj k=>gx (fH 83 j) k λl m=>iv pQ c [l] m λn o=>cV n (d e.2.1 o) (g1 e.2.1 o λp q=>g (e.1,p,()) q)) (d (gI (-1)) i)
def ah6(h:gn 57 false a W λc d=>qB (Oy c a b Z) ((gI 0),(gI 0),()) d):Ca pQ 244 #[a,b] W Z:=cj Tryz.func244 h
end
end Go.Proofs
namespace Go.Proofs
open Go Go.Vc
attribute [local congr] cR
variable {s:Bool->Nat}{G:Bool->Nat->Prop}{k:Ct}{price n left f a:Int}{xs:List (List Value)}{l:List Ct}{g:List Int}{F:NP_}{b p c i:Nat}{o:Od}{T:TypeId}{sT sG gv:Vt_}{w w' W:Wt_}{K:cG}
abbrev Bk:=Bool->List Od
variable {B:Bk}
def Bk.empty:Bk:=λ_=>[]
def Bk.set(B:Bk)(d:Bool)(l:List Od):Bk:=λx=>if x=d then l else B x
def Bk.set_self(B:Bk)(d:Bool)(l:List Od):B.set d l d=l:=by simp[Bk.set]
def Bk.set_other(B:Bk)(d:Bool)(l:List Od):B.set d l (!d)=B (!d):=by cases d<;>simp[Bk.set]
def Bk.set_same(B:Bk)(d:Bool):B.set d (B d)=B:=by
 funext x;unfold Bk.set;by_cases h:x=d<;>simp[h]
def Bk.find(B:Bk)(n:Int):Option (Od×Bool):=
 match pI (B true) n with
 |some o=>some (o,true)
 |none=>match pI (B false) n with
  |some o=>some (o,false)
  |none=>none
structure kK(w:Wt_)(b:Nat)(F:NP_)(B:Bk):Prop where
 out:∃(s:Bool->Nat) (G:Bool->Nat->Prop),hC w b #[fQ (s true),fQ (s false)] 144/\(∀d,lp w (s d) (G d) d (B d))/\(∀x,F x↔x=b\/G true x\/G false x)/\(∀d,¬G d b)/\∀x,G true x->¬G false x
def kK.mod{H:NP_}(h:kK w b F B)(f:de H w w')(c:∀x,F x->¬H x):kK w' b F B:=by
 obtain⟨s,G,j,g,a,i,k⟩:=h.out;exact⟨s,G,f.hpk j (c b ((a b).2 (.inl rfl))),λd=>(g d).mod f λx e=>c x ((a x).2 (.inr (by cases d;exact .inr e;exact .inl e))),a,i,k⟩
def kK.lt(h:kK w b F B){x:Nat}(a:F x):x<w.heap.size:=by
 obtain⟨s,G,d,c,e,f,g⟩:=h.out;rcases(e x).1 a with rfl|a|a
 ·exact cB d
 ·exact(c true).lt a
 ·exact(c false).lt a
def kK.self(h:kK w b F B):F b:=by
 obtain⟨s,G,e,c,a,d,f⟩:=h.out;exact(a b).2 (.inl rfl)
def jY(b:Nat):Value:=pt b 0
def P7(r:∀b F g,kK g b F Bk.empty->M0 w g->(∀x,F x->w.heap.size<=x)->K (jY b) g):Ca pQ 85 #[] w K:=by
 apply ax2;refine G6 λs1 l v j m u=>?_;refine G6 λe k a o f n=>?_;apply cx (.agg #[fQ s1,fQ e]) a (by simp[go_sem,fQ]);have i:M0 a (a.alloc (.cells #[fQ s1,fQ e] 144)):=lm;apply cx (jY a.heap.size) (a.alloc (.cells #[fQ s1,fQ e] 144)) rfl;have s:=m.size;have t:=f.size;refine r a.heap.size (λx=>x=a.heap.size\/l x\/k x) _ ⟨λd=>if d then s1 else e,λd=>if d then l else k,by simp[go_sem],λd=>?_,λx=>fd,λd=>?_,λx q p=>?_⟩ ((m.trans f).trans i) λx c=>?_
 ·cases d
  ·exact o.mod i eQ
  ·exact(j.mod f eQ).mod i eQ
 ·cases d
  ·intro h;have:=o.lt h;omega
  ·intro h;have:=j.lt h;omega
 ·have y:=j.lt q;have z:=n x p;omega
 ·rcases c with rfl|c|c
  ·omega
  ·exact u x c
  ·have:=n x c;omega
def sY(h:kK w b F B)(c:K (.bool true) w):Ca pQ 57 #[jY b] w K:=by
 obtain⟨s,G,a,d,g,e,f⟩:=h.out;apply ay0;unfold jY;refine qSt0 ?_;simp only[dr];refine qS1 a ?_;refine qS1 a ?_;apply cx (.bool true) w (by simp[go_sem,fQ]);exact c
def DJ{d:Bool}(e:hC w b #[fQ (s true),fQ (s false)] 144)
  (c:K (.tuple #[fQ (s d),fQ (s !d)]) w.drew):Ca pQ 177 #[jY b,.bool d] w K:=by
 apply ZI;unfold jY;have a:hC w.drew b #[fQ (s true),fQ (s false)] 144:=e;simp only[dr];cases d with
 |true=>
  rw[kx];refine qP0 ?_;refine qW1 a ?_;refine qP0 ?_;refine qW1 a ?_;exact⟨by simp[go_sem,a],c⟩
 |false=>
  rw[gP];refine qP0 ?_;refine qW1 a ?_;refine qP0 ?_;refine qW1 a ?_;exact⟨by simp[go_sem,a],c⟩
def nf(o:Od)(price:Int):Bool:=if o.buy then decide (price<=o.price)else decide (o.price<=price)
def JY(b:∀c,M0 w c->K (.bool (nf o price)) c):Ca pQ 212 #[oG o,gI price] w K:=by
 apply ab7;obtain⟨g,e,a,f⟩:=vt o w;have b:=b _ f;unfold nf at b;apply cI e;unfold fL at a;refine qS1 a ?_;refine qS1 a ?_;cases d:o.buy with
 |true=>
  rw[d]at b;rw[kx];refine qS1 a ?_;refine qS1 a ?_;refine qS0 ?_;simpa using b
 |false=>
  rw[d]at b;rw[gP];refine qS1 a ?_;refine qS1 a ?_;refine qS0 ?_;simpa using b
def psU:Tryz.prog.underlying 145=some (.slice 142):=cU
def psE:lN pQ 142 1 8=true:=cU
def xU(h1:hC w b #[fQ (s true),fQ (s false)] 144)(h2:∀d,lp w (s d) (G d) d (B d))
  (hN:B.find n=none->∀k,M0 w k->K (.tuple #[oG pC,.pointer none]) k)
  (hS:∀o d,B.find n=some (o,d)->pI (B d) n=some o->∀k,M0 w k->K (.tuple #[oG o,fQ (s d)]) k):Ca pQ 169 #[jY b,gQ n] w K:=by
 apply as4;obtain⟨j,e1,z,m1⟩:=kD w;apply cI e1;obtain⟨p,L⟩:=dW w.heap.size;rw[<-L]at z|-;have md:=m1.drew;have R:=md.hpk h1 id;simp only[jY,dr];refine qP0 ?_;refine qW1 R ?_;refine qP0 ?_;refine qW1 R ?_;refine oJ [fQ (s true),fQ (s false)] psU (eO psE) rfl rfl (by intro v S;simp only[cH,mi,or_false]at S;rcases S with rfl|rfl<;>rfl) qZ ?_;have Y:(([fQ (s true),fQ (s false)]:LV_).flatMap (·.cells.toList)).toArray= #[fQ (s true),fQ (s false)]:=rfl;rw[Y];obtain⟨q,a⟩:=dW j.drew.heap.size;have hpq:p<q:=by rw[a,Ed];exact cB z
 have T:M0 w (j.drew.alloc (.cells #[fQ (s true),fQ (s false)] 142)):=md.alloc _;have U:hC (j.drew.alloc (.cells #[fQ (s true),fQ (s false)] 142)) q #[fQ (s true),fQ (s false)] 142:=by rw[a];simp[go_sem]
 have N:hp (j.drew.alloc (.cells #[fQ (s true),fQ (s false)] 142)) p=some (.cells (fL pC).toArray pz (0,0)):=by
  rw[SD,aZ (by rw[<-a];omega)];exact z
 rw[<-a];generalize j.drew.alloc (.cells #[fQ (s true),fQ (s false)] 142)=w2 at T U N|-;refine qW0 ?_
 refine eS (λst W=>∃(i:Nat) (x:Vt_),i<=2/\st=(x,gI i,())/\M0 w2 W/\(1<=i->pI (B true) n=none)/\(2<=i->pI (B false) n=none))
  (λst _=>match st.2.1 with| .int _ i=>2 - i.toNat|_=>0) ⟨0,.pointer none,qZ,rfl,lX,λh=>qZ,λh=>qZ⟩ ?_
 rintro⟨_,_⟩ W ⟨i,x,hi,⟨⟩,t,e,M⟩ KN D;unfold QT;intro _;have J:=T.trans t;have bW:=t.hpk U id;have P:=t.hpk N id;by_cases y:i<2
 ·have l:(i:Int)<2:=qZ;refine qSt1 l ?_
  obtain⟨d,g⟩:∃d:Bool,(i=0/\d=true)\/(i=1/\d=false):=by
   by_cases h0:i=0
   ·exact⟨true,.inl ⟨h0,rfl⟩⟩
   ·exact⟨false,.inr ⟨qZ,rfl⟩⟩
  have F:(#[fQ (s true),fQ (s false)]:Array Value)[i]? =some (fQ (s d)):=by
   rcases g with⟨rfl,rfl⟩|⟨rfl,rfl⟩<;>rfl
  have m:¬(2:Int)<=(i:Int):=qZ;apply cx (pt q i) W (by simp[go_sem,y,m,cS]);apply cx (fQ (s d)) W (by rcases g with⟨rfl,rfl⟩|⟨rfl,rfl⟩<;>simp[go_sem,bW]);refine SV ((h2 d).mod J eQ) λA H=>?_;have M3:=J.trans H;refine qS0 ?_;refine qS0 ?_;obtain⟨w4,e4,V,m4⟩:=kD A;apply cI e4;obtain⟨r,I⟩:=dW A.heap.size;rw[<-I]at V|-;obtain⟨X,e5,Q,Z⟩:=jK (o' :=(pI (B d) n).getD pC) V;apply ir e5;have c:M0 A X:=m4.on Z λb O=>gz;have M5:=M3.trans c;have p5:=c.hpk (H.hpk P id) id;cases f:pI (B d) n with
  |some o=>
   rw[f]at Q
   have hf:B.find n=some (o,d):=by
    unfold Bk.find;rcases g with⟨rfl,rfl⟩|⟨rfl,rfl⟩
    ·rw[f]
    ·grind
   refine qSt0 ?_;apply cI (lM (o:=o) (At.all Q));obtain⟨w6,E,C,u⟩:=jK (o' :=o) p5;apply ir E;apply dp (lM (o:=o) (At.all C));exact hS o d hf f _ (M5.on u λb O=>gz)
  |none=>
   refine qSf0 ?_;apply cx (gI ((i+1:Nat):Int)) X (by simp[go_sem];rw[wI_]);refine D _ _ ⟨i+1,_,qZ,rfl,(t.trans H).trans c,λh=>?_,λh=>?_⟩ (by grind)
   ·rcases g with⟨rfl,rfl⟩|⟨rfl,rfl⟩
    ·exact f
    ·exact e qZ
   ·rcases g with⟨rfl,rfl⟩|⟨rfl,rfl⟩
    ·omega
    ·exact f
 ·obtain rfl:i=2:=qZ;refine qSf0 ?_;apply cx (oG pC) W (by simp[go_sem,oG,fL,pC]);obtain⟨w6,E,C,u⟩:=jK (o' :=pC) P;apply ir E;apply dp (lM (o:=pC) (At.all C));refine hN ?_ _ (J.on u λb O=>gz);unfold Bk.find;rw[e qZ];simp only;rw[M qZ]
structure nZ(w:Wt_)(b:Nat)(s:Bool->Nat)(G:Bool->Nat->Prop)(B:Bk):Prop where
 blk:hC w b #[fQ (s true),fQ (s false)] 144
 sd:∀d,lp w (s d) (G d) d (B d)
 nb:∀d,¬G d b
 dj:∀x,G true x->¬G false x
def kK.r(h:kK w b F B):∃s G,nZ w b s G B/\∀x,F x↔x=b\/G true x\/G false x:=by
 obtain⟨s,G,d,a,f,c,e⟩:=h.out;exact⟨s,G,⟨d,a,c,e⟩,f⟩
def nZ.q(h:nZ w b s G B):kK w b (λx=>x=b\/G true x\/G false x) B:=
 ⟨s,G,h.blk,h.sd,λ_=>fd,h.nb,h.dj⟩
def nZ.mod{H:NP_}(h:nZ w b s G B)(a:de H w w')(e:¬H b)(c:∀d x,G d x->¬H x):nZ w' b s G B:=
 ⟨a.hpk h.blk e,λd=>(h.sd d).mod a (c d),h.nb,h.dj⟩
def nZ.lt(h:nZ w b s G B){d:Bool}{x:Nat}(a:G d x):x<w.heap.size:=(h.sd d).lt a
def nZ.dj' {w:Wt_}{b:Nat}{s:Bool->Nat}{G:Bool->Nat->Prop}{B:Bk}(h:nZ w b s G B){d:Bool}{x:Nat}(a:G d x):¬G (!d) x:=by
 cases d
 ·exact λc=>h.dj x c a
 ·exact h.dj x a
def l7(G:Bool->Nat->Prop)(d:Bool)(G' :NP_):Bool->Nat->Prop:=λx=>if x=d then G' else G x
def jT(G:Bool->Nat->Prop)(d:Bool)(a:NP_):l7 G d a d=a:=by simp[l7]
def wq(G:Bool->Nat->Prop)(d:Bool)(a:NP_):l7 G d a (!d)=G (!d):=by cases d<;>simp[l7]
def nZ.upd(h:nZ w b s G B){d:Bool}{f:NP_}{l:List Od}(n:de (G d) w w')(p:lp w' (s d) f d l)(m:∀x,f x->G d x\/w.heap.size<=x):
  nZ w' b s (l7 G d f) (B.set d l):=by
 have o:=cB h.blk
 have k:∀x,G (!d) x->¬f x:=λx c a=>by
  rcases m x a with j|j
  ·exact h.dj' j c
  ·have:=h.lt c;omega
 refine⟨n.hpk h.blk (h.nb d),λe=>?_,λe=>?_,λx c a=>?_⟩
 ·by_cases i:e=d
  ·subst i;rw[jT,Bk.set_self];exact p
  ·obtain rfl:e= !d:=by cases e<;>cases d<;>simp_all
   rw[wq,Bk.set_other];exact(h.sd _).mod n λx c a=>h.dj' a c
 ·by_cases i:e=d
  ·subst i;rw[jT];intro c;rcases m b c with a|a
   ·exact h.nb _ a
   ·omega
  ·obtain rfl:e= !d:=by cases e<;>cases d<;>simp_all
   rw[wq];exact h.nb _
 ·cases d
  ·have g:l7 G false f true=G true:=wq G false f;rw[g]at c;rw[jT]at a;exact k x c a
  ·have g:l7 G true f false=G false:=wq G true f;rw[g]at a;rw[jT]at c;exact k x a c
structure Td where
 price:Int
 qty:Int
 num:Int
 acct:Int
 deriving DecidableEq
variable {t:List Td}
def Fg(t:Td):List Value:=[.int .i64 t.price,gI t.qty,gQ t.num,gU t.acct]
structure Pm where
 trades:List Td
 gone:List Int
 filled:Int
 left:Int
def CB(n:Int):List Value:=[.int .u64 n]
def iV(o:Od):Int->List Od->Int×List Od×List Td×List Int×Int
 |left,[]=>(left,[],[],[],0)
 |left,b::r=>
  if left<=0\/nf o b.price=false then(left,b::r,[],[],0)
  else if b.acct=o.acct then let x:=iV o left r;(x.1,x.2.1,x.2.2.1,b.num::x.2.2.2.1,x.2.2.2.2)
  else if left<b.left then(0,{b with left:=b.left - left}::r,[⟨b.price,left,b.num,b.acct⟩],[],left)
  else let x:=iV o (left - b.left) r;(x.1,x.2.1,⟨b.price,b.left,b.num,b.acct⟩::x.2.2.1,x.2.2.2.1,b.left+x.2.2.2.2)
def BW(t:List Td)(g:List Int)(f:Int)(x:Int×List Od×List Td×List Int×Int):Int×List Od×List Td×List Int×Int:=
 (x.1,x.2.1,t++x.2.2.1,g++x.2.2.2.1,f+x.2.2.2.2)
def ko(B:Bk)(o:Od)(rests:Bool):Bk×Pm:=
 let x:=iV o o.left (B (!o.buy));let B1:=B.set (!o.buy) x.2.1
 if rests=true/\0<x.1 then(B1.set o.buy (rX o.buy (B1 o.buy) {o with left:=x.1}).2,⟨x.2.2.1,x.2.2.2.1,x.2.2.2.2,x.1⟩)
 else(B1,⟨x.2.2.1,x.2.2.2.1,x.2.2.2.2,0⟩)
def yX{l:List Od}(h:left<=0\/l=[]\/∃b r,l=b::r/\nf o b.price=false):iV o left l=(left,l,[],[],0):=by
 cases l with
 |nil=>rfl
 |cons b r=>
  unfold iV;rw[bZ];rcases h with h|h|⟨c,a,e,h⟩
  ·exact .inl h
  ·cases h
  ·cases e;exact .inr h
def HJ(o:Od)(x p:Int):nf {o with left:=x} p=nf o p:=rfl
structure Ji(w:Wt_)(sT sG:Vt_)(t:List Td)(g:List Int):Prop where
 tr:jo w 111 4 sT t.length (t.flatMap Fg)
 go:jo w 24 1 sG g.length (g.flatMap CB)
 dj:∀x,cK sT x->¬cK sG x
def Ji.mod(h:Ji w sT sG t g)(a:de F w w')(c:∀x,cK sT x->¬F x)(b:∀x,cK sG x->¬F x):Ji w' sT sG t g:=
 ⟨h.tr.mod a c,h.go.mod a b,h.dj⟩
def JA:Tryz.prog.underlying 48=some (.slice 111):=cU
def eTd:lN pQ 111 4 32=true:=cU
def yu:Tryz.prog.underlying 49=some (.slice 24):=cU
def Ry:lN pQ 24 1 8=true:=cU
def LV(t:Td):(Fg t).all (·.oneCell')=true:=rfl
def CC(n:Int):(CB n).all (·.oneCell')=true:=rfl
def vK{α:Type}{P:Program}{t e:TypeId}{k by_:Nat}{s d:Vt_}{l:List α}{x:α}{f:α->List Value}(g:P.underlying t=some (.slice e))(m:wd P e k by_)(z:∀x,(f x).length=k)(j:∀x,(f x).all (·.oneCell')=true)
  (D:d.cells.toList=f x)(A:jo w e k s l.length (l.flatMap f))(u:(l.length+1)*by_<=140737488355328)(E:k<=1000)
  (y:∀a c,jo c e k a (l++[x]).length ((l++[x]).flatMap f)->de (cK s) w c->(∀b,cK a b->cK s b\/w.heap.size<=b)->K a c):
  rx P (jQ t 1 [(0,d)]) w λv o=>rx P (eg #[t,t] t [s,v]) o K:=by
 have F:d.cells.size=k:=by grind
 refine oJ [d] g m rfl rfl (by grind) qZ ?_;have q:(([d]:LV_).flatMap (·.cells.toList)).toArray=(f x).toArray:=by simp[D]
 rw[q];have n:M0 w (w.alloc (.cells (f x).toArray e)):=lm
 have r:Rd (w.alloc (.cells (f x).toArray e)) k (.slice (some ⟨w.heap.size,0,none⟩) 1 1) 1 (f x):=
  ⟨by rw[z];omega,.inr ⟨_,0,1,rfl,cJ _,At.all (fy (by rw[gy,bZ rfl]))⟩⟩
 refine jR g g m (A.mod n eQ) r (j x) u λa c B C p=>?_;refine y a c ?_ ((n.to (G:=cK s)).trans C) λb i=>?_
 ·rw[eJ,cD];simpa using B
 ·rcases p b i with h|h
  ·exact .inl h
  ·rw[eG]at h;exact gz
def uy(sT sG:Vt_)(f l:Int):Array Value:=#[sT,sG,gI f,gI l]
def LW{a c e d:Vt_}{v:Vt_}(h:hC W p #[a,c,e,d] 230)(hi:i<4):
  hC (W.setCell ⟨p,i,none⟩ v) p ((#[a,c,e,d]:Array Value).setIfInBounds i v) 230/\de (λb=>b=p) W (W.setCell ⟨p,i,none⟩ v):=
 ⟨by simp[go_sem,h],(de.refl (λb=>b=p) W).sc⟩
structure XY(w0:Wt_)(b:Nat)(s:Bool->Nat)(G:Bool->Nat->Prop)(B:Bk)(o:Od)(p q:Nat)(W:Wt_)(left:Int)(L:List Od)(t:List Td)(g:List Int)(f:Int):Prop where
 od:hC W p (fL {o with left:=left}).toArray pz
 mem:∃G' sT sG,nZ W b s (l7 G (!o.buy) G') (B.set (!o.buy) L)/\(∀x,G' x->G (!o.buy) x\/(w0.heap.size<=x/\x≠p/\x≠q))/\
  hC W q #[sT,sG,gI f,gI 0] 230/\Ji W sT sG t g/\(∀x,cK sT x\/cK sG x->w0.heap.size<=x/\x≠p/\x≠q/\¬G' x)
 md:de (G (!o.buy)) w0 W
 eq:iV o o.left (B (!o.buy))=BW t g f (iV o left L)
 lf:0<=left/\left<=1000000/\f+left=o.left/\0<=f
 len:t.length+g.length<=101/\(0<left->t.length+g.length+L.length<=100)
def Jz(b:Od)(r:List Od):tD (b::r) b.num=r:=by
 unfold tD;rw[List.eraseP_cons_of_pos (by simp)]
def N1{b:Od}{r:List Od}(d:0<left)(c:nf o b.price=true)(a:b.acct=o.acct):
  BW t g f (iV o left (b::r))=BW t (g++[b.num]) f (iV o left r):=by
 conv=>lhs;unfold iV
 rw[aZ (by grind),bZ a];simp[BW]
def Np{b:Od}{r:List Od}(e:0<left)(d:nf o b.price=true)(c:b.acct≠o.acct)(a:left<b.left):
  BW t g f (iV o left (b::r))=BW (t++[⟨b.price,left,b.num,b.acct⟩]) g (f+left) (iV o 0 ({b with left:=b.left - left}::r)):=by
 conv=>lhs;unfold iV
 rw[aZ (by grind),aZ c,bZ a,yX (.inl (io 0))];simp[BW]
def Nl{b:Od}{r:List Od}(e:0<left)(d:nf o b.price=true)(c:b.acct≠o.acct)(a:¬left<b.left):
  BW t g f (iV o left (b::r))=BW (t++[⟨b.price,b.left,b.num,b.acct⟩]) g (f+b.left) (iV o (left - b.left) r):=by
 conv=>lhs;unfold iV
 rw[aZ (by grind),aZ c,aZ a];simp[BW,oD]
def Q2(W:Wt_)(p:Nat):Int:=match hp W p with|some (.cells c _ _)=>(match (c[4]? :Option Value)with|some (.int _ x)=>x|_=>0)|_=>0
def Vx(W:Wt_)(p:Nat):Nat:=match hp W p with|some (.cells c _ _)=>(match (c[2]? :Option Value)with|some (.slice _ n _)=>n|_=>0)|_=>0
def cmM(W:Wt_)(p sd:Nat):Nat:=2*Vx W sd+(if 0<Q2 W p then 1 else 0)
def XY.m{l:Wt_}{q:Nat}{L:List Od}(h:XY l b s G B o p q W left L t g f):
  cmM W p (s (!o.buy))=2*L.length+(if 0<left then 1 else 0):=by
 obtain⟨m,n,r,j,-⟩:=h.mem;have e:=j.sd (!o.buy);rw[Bk.set_self]at e;obtain⟨⟨sl,k,i,-⟩,-⟩:=e;obtain⟨a,c,d,-⟩:=i.isSl;unfold cmM Vx Q2;rw[k,h.od,d];rfl
def LF{rests:Bool}(h:nZ w b s G B)(hof:o.Fit)(hmay:o.may=true)
  (hK:∀D A C w',nZ w' b s D (ko B o rests).1->Ji w' A C (ko B o rests).2.trades (ko B o rests).2.gone->de (λx=>G true x\/G false x) w w' ->(∀d x,D d x->G d x\/w.heap.size<=x)->
   (∀x,cK A x\/cK C x->w.heap.size<=x/\∀d,¬D d x)->K (.agg (uy A C (ko B o rests).2.filled (ko B o rests).2.left)) w'):Ca pQ 174 #[jY b,oG o,.bool rests] w K:=by
 have hol:=Od.left_bd hmay;apply ap0;obtain⟨w1,e1,b1,m1⟩:=vt o w;apply cI e1;obtain⟨p,hp0⟩:=dW w.heap.size;rw[<-hp0]at b1|-;obtain⟨q,hq0⟩:=dW w1.heap.size;have hpq:p<q:=by have:=cB b1;omega
 have m2:M0 w1 (w1.alloc (.cells #[.slice none 0 0,.slice none 0 0,gI 0,gI 0] 230)):=lm;apply cx (pt q 0) (w1.alloc (.cells #[.slice none 0 0,.slice none 0 0,gI 0,gI 0] 230)) (by rw[hq0];simp[go_sem]);have b2:hC (w1.alloc (.cells #[.slice none 0 0,.slice none 0 0,gI 0,gI 0] 230)) q #[.slice none 0 0,.slice none 0 0,gI 0,gI 0] 230:=by rw[hq0];simp[go_sem]
 generalize w1.alloc (.cells #[.slice none 0 0,.slice none 0 0,gI 0,gI 0] 230)=w2 at m2 b2|-;have c1:=m2.hpk b1 id;have M2:=m1.trans m2;have c1' :=c1;unfold fL at c1';refine qS1 c1' ?_;refine qS1 c1' ?_;have h2:=h.mod M2 id λ_ _ _ h=>h;apply DJ (s:=s) h2.blk;have md:M0 w2 w2.drew:=mP;have M3:=M2.trans md;have h3:=h2.mod md id λ_ _ _ h=>h;have d1:=md.hpk c1 id;have d2:=md.hpk b2 id;generalize w2.drew=w3 at M3 h3 d1 d2|-;refine qS0 ?_;refine qS0 ?_;have hlen:=(h.sd (!o.buy)).len;have m:∀d x,G d x->x<p:=λd x c=>by rw[hp0];exact h.lt c
 have hbp:b<p:=by rw[hp0];exact cB h.blk
 have hspl:∀d,s d<p:=λd=>m d _ ((h.sd d).self);have hu:l7 G (!o.buy) (G !o.buy)=G:=by funext x;unfold l7;by_cases h:x= !o.buy<;>simp[h]
 have I0:XY w b s G B o p q w3 o.left (B !o.buy) [] [] 0:=by
  refine⟨d1,⟨G !o.buy,.slice none 0 0,.slice none 0 0,?_,λx c=>.inl c,d2,⟨jo.nil _ _ _,jo.nil _ _ _,λx c=>by cases c⟩,λx c=>by rcases c with c|c<;>cases c⟩,M3.to,?_,qZ,by simp,λ_=>by simpa using hlen⟩
  ·rw[hu,Bk.set_same];exact h3
  ·unfold BW;simp
 refine dK.at (λ_ W=>∃left L t g f,XY w b s G B o p q W left L t g f/\iV o left L=(left,L,[],[],0)) ?_ ?_
 ·apply eS (λ_ W=>∃left L t g f,XY w b s G B o p q W left L t g f) (λ_ W=>cmM W p (s !o.buy)) ⟨_,_,_,_,_,I0⟩;rintro _ W ⟨left,L,t,g,f,hI⟩ KN hKN;have hm:=hI.m;obtain⟨i1,⟨D,A,C,i2,i3,i4,i5,l⟩,i7,i8,i9,i10⟩:=id hI;have hs:=i2.sd (!o.buy);rw[Bk.set_self,jT]at hs
  have hGx:∀d x,l7 G (!o.buy) D d x->x≠p/\x≠q:=λd x c=>by
   by_cases M:d= !o.buy
   ·subst M;rw[jT]at c;rcases i3 x c with j|j
    ·have:=m _ x j;omega
    ·exact j.2
   ·unfold l7 at c;rw[aZ M]at c;have:=m _ x c;omega
  have hG'x:∀x,D x->x≠p/\x≠q:=λx c=>hGx (!o.buy) x (by rw[jT];exact c);unfold O2;intro _;have O:=i1;unfold fL at O;refine qS1 O ?_;refine qS1 O ?_;by_cases z:0<left
  ·refine qSt1 z ?_;refine QL hs λw4 m4=>?_;have i4a:=m4.hpk i1 id;have i4b:=m4.hpk i4 id;refine qS0 ?_;refine qS0 ?_;obtain⟨w5,e5,b5,m5⟩:=kD w4;apply cI e5;obtain⟨r0,hr0⟩:=dW w4.heap.size;rw[<-hr0]at b5|-;obtain⟨w6,e6,b6,m6⟩:=jK (o' :=L.head?.getD pC) b5;apply ir e6;have M46:M0 w4 w6:=m5.on m6 λb k=>gz;have M6:M0 W w6:=m4.trans M46;have i6a:=M46.hpk i4a id;have i6b:=M46.hpk i4b id;have hWr:W.heap.size<=r0:=by have:=m4.size;omega
   refine dK.at (λst S=>st=(.bool (decide (L.head? =none\/nf o (L.head?.getD pC).price=false)),())/\M0 w6 S) ?_ ?_
   ·cases L with
    |nil=>
     refine qSt0 ?_;exact⟨by simp,lX⟩
    |cons x r=>
     refine qSf0 ?_;apply cI (lM (o:={o with left:=left}) (At.all i6a));have b6' :=b6;unfold fL at b6';refine qS1 b6' ?_;refine qS1 b6' ?_;refine JY (o:={o with left:=left}) (price:=x.price) λw7 m7=>?_;rw[HJ];refine qS0 ?_;refine⟨?_,m7⟩;simp only[List.head?_cons,fT];rcases Bool.eq_false_or_eq_true (nf o x.price)with hc|hc<;>simp[hc]
   rintro _ w7 ⟨rfl,m7⟩;unfold Sk;intro _;have M7:=M6.trans m7;have k1:=m7.hpk i6a id;have k2:=m7.hpk i6b id;have k3:=m7.hpk b6 id;by_cases H:L.head? =none\/nf o (L.head?.getD pC).price=false
   ·rw[qo H];refine⟨left,L,t,g,f,⟨k1,⟨D,A,C,i2.mod M7 id λ_ _ _ h=>h,i3,k2,i5.mod M7 eQ eQ,l⟩,i7.trans (M7.to),i8,i9,i10⟩,?_⟩;refine yX (.inr ?_);cases L with
    |nil=>exact .inl rfl
    |cons x r=>
     refine .inr ⟨x,r,rfl,?_⟩;rcases H with j|j
     ·cases j
     ·exact j
   rw[DN H];cases L with
   |nil=>exact absurd (.inl rfl) H
   |cons x r=>
   have hcr:nf o x.price=true:=by
    cases hc:nf o x.price with
    |true=>rfl
    |false=>exact absurd (.inr hc) H
   have hxb:=hs.may x (by simp);have hxl:=Od.left_bd hxb.1;replace i10:=i10.2 z;simp only[dc]at i10;simp only[List.head?_cons,fT]at k3;have J:=k3;unfold fL at J;have Y:=k1;unfold fL at Y;have hs7:=hs.mod M7 eQ;have i27:=i2.mod M7 id λ_ _ _ h=>h;have p7:=i5.mod M7 eQ eQ;have MW:de (G (!o.buy)) w w7:=i7.trans (M7.to);have hsz:=i7.size;have hqW:q<W.heap.size:=cB i4;have hsz7:=M7.size
   have U:∀x,cK A x\/cK C x->x<W.heap.size:=λx c=>by
    rcases c with c|c
    ·exact i5.tr.lt c
    ·exact i5.go.lt c
   refine qS1 J ?_;refine qS1 J ?_;refine qS1 Y ?_;refine qS1 Y ?_;by_cases hac:x.acct=o.acct
   ·refine qSt1 hac ?_;refine qS1 J ?_;refine qS1 J ?_;refine Dz hs7 λN w8 q8 T n8=>?_;rw[Jz]at q8;have u8:=nZ.upd (d:= !o.buy) i27 (by rw[jT];exact T) q8 (by rw[jT];exact n8)
    have R:∀y,y=p\/y=q\/y=r0->¬D y:=λy a u=>by
     have Q:=hG'x y u;rcases a with rfl|rfl|rfl
     ·exact Q.1 rfl
     ·exact Q.2 rfl
     ·have:=hs.lt u;omega
    have j1:=T.hpk k1 (R p (.inl rfl));have j2:=T.hpk k2 (R q (.inr (.inl rfl)));have j3:=T.hpk J (R r0 (.inr (.inr rfl)));have p8:=p7.mod T (λy a=>(l y (.inl a)).2.2.2) λy a=>(l y (.inr a)).2.2.2;refine qS1 j2 ?_;refine qS1 j2 ?_;refine qS1 j3 ?_;refine qS1 j3 ?_;refine vK (x:=x.num) (f:=CB) yu (eO Ry) (λ_=>rfl) CC rfl p8.go qZ qZ λX w9 o9 m9 n9=>?_;have hq9:¬cK C q:=λk=>(l q (.inr k)).2.2.1 rfl;have hp9:¬cK C p:=λk=>(l p (.inr k)).2.1 rfl;have j1' :=m9.hpk j1 hp9;have j2' :=m9.hpk j2 hq9;obtain⟨ga,gc,hsG',-⟩:=o9.isSl;refine qS1 j2' ?_;obtain⟨j4,m10⟩:=LW (i:=1) (v:=X) j2' qZ;apply pH (w9.setCell ⟨q,1,none⟩ X) (by rw[hsG'];simp[go_sem,j2']);have hw8:=T.size;have hw9:=m9.size
    have hnew9:∀y,cK X y->w.heap.size<=y/\y≠p/\y≠q:=λy a=>by
     rcases n9 y a with j|j
     ·have:=l y (.inr j);exact⟨this.1,this.2.1,this.2.2.1⟩
     ·exact⟨qZ,qZ,qZ⟩
    have V:∀y,N y->G (!o.buy) y\/(w.heap.size<=y/\y≠p/\y≠q):=λy a=>by
     rcases n8 y a with j|j
     ·exact i3 y j
     ·exact .inr ⟨qZ,qZ,qZ⟩
    have E:∀y,cK A y\/cK C y->¬N y:=λy a u=>by
     rcases n8 y u with j|j
     ·exact(l y a).2.2.2 j
     ·have:=U y a;omega
    have F:∀d y,l7 (l7 G (!o.buy) D) (!o.buy) N d y->y≠q/\¬cK C y:=λd y a=>by
     by_cases M:d= !o.buy
     ·subst M;rw[jT]at a;refine⟨?_,λk=>E y (.inr k) a⟩;rcases V y a with j|j
      ·have:=m _ y j;omega
      ·exact j.2.2
     ·unfold l7 at a;rw[aZ M,aZ M]at a;have:=m _ y a;exact⟨qZ,λk=>by have:=(l y (.inr k)).1;omega⟩
    have e2:l7 (l7 G (!o.buy) D) (!o.buy) N=l7 G (!o.buy) N:=by funext x;unfold l7;by_cases h:x= !o.buy<;>simp[h]
    have e3:(B.set (!o.buy) (x::r)).set (!o.buy) r=B.set (!o.buy) r:=by funext x;unfold Bk.set;by_cases h:x= !o.buy<;>simp[h]
    have u9:=(u8.mod m9 (λk=>by have:=(l b (.inr k)).1;omega) λd y a=>(F d y a).2).mod m10 qZ λd y a=>(F d y a).1;rw[e2,e3]at u9
    have MW10:de (G (!o.buy)) w (w9.setCell ⟨q,1,none⟩ X):=
     ((MW.on T λy a=>(i3 y a).elim .inl λj=>.inr j.1).on m9 λy a=>.inr (l y (.inr a)).1).on m10 λy a=>gz
    have hI' :XY w b s G B o p q (w9.setCell ⟨q,1,none⟩ X) left r t (g++[x.num]) f:=by
     refine⟨m10.hpk j1' qZ,⟨N,A,X,u9,V,by simpa using j4,⟨(p8.tr.mod m9 λy a P=>p8.dj y a P).mod m10 λy a e=>(l y (.inl a)).2.2.1 e,o9.mod m10 λy a e=>(hnew9 y a).2.2 e,λy a P=>?_⟩,λy a=>?_⟩,MW10,?_,i9,by simp;omega,λ_=>by simp;omega⟩
     ·rcases n9 y P with j|j
      ·exact p8.dj y a j
      ·have:=U y (.inl a);omega
     ·rcases a with a|a
      ·have:=l y (.inl a);exact⟨this.1,this.2.1,this.2.2.1,E y (.inl a)⟩
      ·have Q:=hnew9 y a;refine⟨Q.1,Q.2.1,Q.2.2,λu=>?_⟩;rcases n9 y a with j|j
       ·exact E y (.inr j) u
       ·have:=q8.lt u;omega
     ·rw[i8,N1 z hcr hac]
    apply hKN _ _ ⟨_,_,_,_,_,hI'⟩;rw[hI'.m,hm];simp only[dc];split<;>omega
   ·refine qSf1 hac ?_;obtain⟨n,hn⟩:=dW (if left<x.left then left else x.left:Int);have hn1:1<=n/\n<=x.left/\n<=left:=by rw[hn];split<;>omega
    refine qS1 Y ?_;refine qS1 Y ?_;refine qS1 J ?_;refine qS1 J ?_;apply jm (gI n) w7 (by rw[hn];simp[go_sem];split<;>omega);refine QD hs7 hn1.1 hn1.2.1 λN w8 q8 T n8=>?_;have u8:=nZ.upd (d:= !o.buy) i27 (by rw[jT];exact T) q8 (by rw[jT];exact n8)
    have R:∀y,y=p\/y=q\/y=r0->¬D y:=λy a u=>by
     have Q:=hG'x y u;rcases a with rfl|rfl|rfl
     ·exact Q.1 rfl
     ·exact Q.2 rfl
     ·have:=hs.lt u;omega
    have j1:=T.hpk Y (R p (.inl rfl));have j2:=T.hpk k2 (R q (.inr (.inl rfl)));have j3:=T.hpk J (R r0 (.inr (.inr rfl)));have p8:=p7.mod T (λy a=>(l y (.inl a)).2.2.2) λy a=>(l y (.inr a)).2.2.2;have hw8:=T.size;refine qS1 j1 ?_;refine qS1 j1 ?_;apply cx (gI (left - n)) w8 (by simp[go_sem];rw[wI_]);refine qS1 j1 ?_;refine qU1 j1 ?_;have ma:de (λb=>b=p) w8 (w8.setCell ⟨p,4,none⟩ (gI (left - n))):=(de.refl (λb=>b=p) w8).sc;have ja:hC (w8.setCell ⟨p,4,none⟩ (gI (left - n))) p (fL {o with left:=left - n}).toArray pz:=by simp[go_sem,j1,fL]
    have jb:=ma.hpk j2 qZ;have jc:=ma.hpk j3 qZ;generalize w8.setCell ⟨p,4,none⟩ (gI (left - n))=wa at ma ja jb jc|-;refine qS1 jb ?_;refine qS1 jb ?_;apply cx (gI (f+n)) wa (by simp[go_sem];rw[wI_]);refine qS1 jb ?_;refine qU1 jb ?_;obtain⟨kb,mb⟩:=LW (i:=2) (v:=gI (f+n)) jb qZ;have kb' :hC (wa.setCell ⟨q,2,none⟩ (gI (f+n))) q #[A,C,gI (f+n),gI 0] 230:=by simpa using kb
    have ka:=mb.hpk ja qZ;have kc:=mb.hpk jc qZ;generalize wa.setCell ⟨q,2,none⟩ (gI (f+n))=wb at mb kb' ka kc|-;have mab:de (λy=>y=p\/y=q) w8 wb:=(ma.mono λy _ h=>.inl h).trans (mb.mono λy _ h=>.inr h)
    have hpl:∀y,cK A y\/cK C y->¬(y=p\/y=q):=λy a e=>by
     have:=l y a;rcases e with e|e
     ·exact this.2.1 e
     ·exact this.2.2.1 e
    have pb:=p8.mod mab (λy a=>hpl y (.inl a)) λy a=>hpl y (.inr a);have hsb:=mab.size;refine qS1 kb' ?_;refine qS1 kb' ?_;refine qS1 kc ?_;refine qS1 kc ?_;refine qS1 kc ?_;refine qS1 kc ?_;refine qS1 kc ?_;refine qS1 kc ?_;apply cx (.agg (Fg ⟨x.price,n,x.num,x.acct⟩).toArray) wb (by simp[go_sem,Fg]);refine vK (x:=(⟨x.price,n,x.num,x.acct⟩:Td)) (f:=Fg) JA (eO eTd) (λ_=>rfl) LV rfl pb.tr qZ qZ λZ wc oc mc nc=>?_;have hqc:¬cK A q:=λk=>(l q (.inl k)).2.2.1 rfl;have hpc:¬cK A p:=λk=>(l p (.inl k)).2.1 rfl;have la:=mc.hpk ka hpc;have lb:=mc.hpk kb' hqc;have hsc:=mc.size;obtain⟨ga,gc,hsT',-⟩:=oc.isSl;refine qS1 lb ?_;obtain⟨ld,mdd⟩:=LW (i:=0) (v:=Z) lb qZ;apply pH (wc.setCell ⟨q,0,none⟩ Z) (by rw[hsT'];simp[go_sem,lb])
    have hnewc:∀y,cK Z y->w.heap.size<=y/\y≠p/\y≠q:=λy a=>by
     rcases nc y a with j|j
     ·have:=l y (.inl j);exact⟨this.1,this.2.1,this.2.2.1⟩
     ·exact⟨qZ,qZ,qZ⟩
    have V:∀y,N y->G (!o.buy) y\/(w.heap.size<=y/\y≠p/\y≠q):=λy a=>by
     rcases n8 y a with j|j
     ·exact i3 y j
     ·exact .inr ⟨qZ,qZ,qZ⟩
    have E:∀y,cK A y\/cK C y->¬N y:=λy a u=>by
     rcases n8 y u with j|j
     ·exact(l y a).2.2.2 j
     ·have:=U y a;omega
    have F:∀d y,l7 (l7 G (!o.buy) D) (!o.buy) N d y->y≠p/\y≠q/\¬cK A y:=λd y a=>by
     by_cases M:d= !o.buy
     ·subst M;rw[jT]at a;refine⟨?_,?_,λk=>E y (.inl k) a⟩
      ·rcases V y a with j|j
       ·have:=m _ y j;omega
       ·exact j.2.1
      ·rcases V y a with j|j
       ·have:=m _ y j;omega
       ·exact j.2.2
     ·unfold l7 at a;rw[aZ M,aZ M]at a;have:=m _ y a;exact⟨qZ,qZ,λk=>by have:=(l y (.inl k)).1;omega⟩
    have e2:l7 (l7 G (!o.buy) D) (!o.buy) N=l7 G (!o.buy) N:=by funext x;unfold l7;by_cases h:x= !o.buy<;>simp[h]
    have e3:(B.set (!o.buy) (x::r)).set (!o.buy) (og (x::r) n)=B.set (!o.buy) (og (x::r) n):=by funext x;unfold Bk.set;by_cases h:x= !o.buy<;>simp[h]
    have u9:=((u8.mod mab (λk=>by rcases k with k|k<;>omega) λd y a k=>by rcases k with k|k;exact(F d y a).1 k;exact(F d y a).2.1 k).mod mc (λk=>by have:=(l b (.inl k)).1;omega) λd y a=>(F d y a).2.2).mod mdd qZ λd y a=>(F d y a).2.1;rw[e2,e3]at u9
    have MW10:de (G (!o.buy)) w (wc.setCell ⟨q,0,none⟩ Z):=
     (((MW.on T λy a=>(i3 y a).elim .inl λj=>.inr j.1).on mab λy a=>.inr (by rcases a with a|a<;>omega)).on mc λy a=>.inr (l y (.inl a)).1).on mdd λy a=>gz
    have hfl:(og (x::r) n).length<=r.length+1:=by unfold og;simp only;split<;>simp
    have hI' :XY w b s G B o p q (wc.setCell ⟨q,0,none⟩ Z) (left - n) (og (x::r) n) (t++[⟨x.price,n,x.num,x.acct⟩]) g (f+n):=by
     refine⟨mdd.hpk la qZ,⟨N,Z,C,u9,V,by simpa using ld,⟨oc.mod mdd λy a e=>(hnewc y a).2.2 e,(pb.go.mod mc λy a P=>pb.dj y P a).mod mdd λy a e=>(l y (.inr a)).2.2.1 e,λy a P=>?_⟩,λy a=>?_⟩,MW10,?_,qZ,?_⟩
     ·rcases nc y a with j|j
      ·exact pb.dj y j P
      ·have:=U y (.inr P);omega
     ·rcases a with a|a
      ·have Q:=hnewc y a;refine⟨Q.1,Q.2.1,Q.2.2,λu=>?_⟩;rcases nc y a with j|j
       ·exact E y (.inl j) u
       ·have:=q8.lt u;omega
      ·have:=l y (.inr a);exact⟨this.1,this.2.1,this.2.2.1,E y (.inr a)⟩
     ·rw[i8];by_cases I:left<x.left
      ·rw[bZ I]at hn;subst hn;rw[Np z hcr hac I];have e1:og (x::r) n={x with left:=x.left - n}::r:=by unfold og;simp only;rw[aZ qZ]
       rw[e1,Int.sub_self]
      ·rw[aZ I]at hn;subst hn;rw[Nl z hcr hac I];have e1:og (x::r) x.left=r:=by unfold og;simp
       rw[e1]
     ·rw[cD,nP];refine⟨qZ,λhl' =>?_⟩;by_cases I:left<x.left
      ·rw[bZ I]at hn;omega
      ·rw[aZ I]at hn;have e1:og (x::r) n=r:=by unfold og;rw[hn];simp
       rw[e1];omega
    apply hKN _ _ ⟨_,_,_,_,_,hI'⟩;rw[hI'.m,hm];simp only[dc];by_cases I:left<x.left
    ·rw[bZ I]at hn;have:¬0<left - n:=qZ;rw[aZ this,bZ z];omega
    ·rw[aZ I]at hn;have e1:og (x::r) n=r:=by unfold og;rw[hn];simp
     rw[e1];split<;>omega
  ·refine qSf1 z ?_;exact⟨left,L,t,g,f,hI,yX (.inl qZ)⟩
 rintro⟨⟩ W ⟨left,L,t,g,f,hI,hdone⟩;obtain⟨i1,⟨D,A,C,i2,i3,i4,i5,l⟩,i7,i8,i9,i10⟩:=id hI;rw[hdone]at i8;have c:iV o o.left (B !o.buy)=(left,L,t,g,f):=by rw[i8];simp[BW]
 unfold RJ;intro _;have O:=i1;unfold fL at O
 have fin:∀(S:Wt_) (N:Bool->Nat->Prop) (B' :Bk) (lf:Int),hC S q (uy A C f lf) 230->nZ S b s N B' ->Ji S A C t g->de (λx=>G true x\/G false x) w S->(∀d x,N d x->x≠q/\(G d x\/w.heap.size<=x))->
   (∀x,cK A x\/cK C x->∀d,¬N d x)->(ko B o rests)=(B',⟨t,g,f,lf⟩)->
   rv pQ (iL 230 (pt q 0)) S λv156 w157=>
    ru pQ (iS 230 (pt q 0) v156) w157 λw158=>
    uc pQ (iL 230 (pt q 0)) w158 λv159=>K v159 w158:=by
  intro S N B' lf k1 k2 k3 k4 k5 k6 k7;obtain⟨ta,tc,hsT,-⟩:=k3.tr.isSl;obtain⟨ga,gc,hsG,-⟩:=k3.go.isSl;unfold uy at k1;apply cx (.agg (uy A C f lf)) S (by simp[go_sem,k1,uy])
  obtain⟨W2,hst,hW2,m2⟩:∃W2,(iS 230 (pt q 0) (.agg (uy A C f lf))).run pQ S=.ok () W2/\hC W2 q (uy A C f lf) 230/\de (λb=>b=q) S W2:=by
   refine⟨(((S.setCell ⟨q,0,none⟩ A).setCell ⟨q,1,none⟩ C).setCell ⟨q,2,none⟩ (gI f)).setCell ⟨q,3,none⟩ (gI lf),?_,?_,((((de.refl (λb=>b=q) S).sc).sc).sc).sc⟩
   ·rw[hsT,hsG]at k1|-;simp[go_sem,k1,uy]
   ·simp[go_sem,k1,uy]
  apply ir hst;unfold uy at hW2;apply oy (.agg (uy A C f lf)) (by simp[go_sem,hW2,uy]);have hk:=hK N A C W2;rw[k7]at hk;refine hk (k2.mod m2 qZ λd x c=>(k5 d x c).1) (k3.mod m2 (λx c=>(l x (.inl c)).2.2.1) λx c=>(l x (.inr c)).2.2.1) (k4.on m2 λx c=>gz) (λd x c=>(k5 d x c).2) λx c=>⟨(l x c).1,k6 x c⟩
 have mfull:de (λx=>G true x\/G false x) w W:=i7.mono λx _ c=>by
  cases k:o.buy<;>rw[k]at c
  ·exact .inl c
  ·exact .inr c
 have hG1:∀d x,l7 G (!o.buy) D d x->x≠p/\x≠q/\(G d x\/w.heap.size<=x):=λd x c=>by
  by_cases M:d= !o.buy
  ·subst M;rw[jT]at c;rcases i3 x c with j|j
   ·have:=m _ x j;exact⟨qZ,qZ,.inl j⟩
   ·exact⟨j.2.1,j.2.2,.inr j.1⟩
  ·unfold l7 at c;rw[aZ M]at c;have:=m _ x c;exact⟨qZ,qZ,.inl c⟩
 have hS1:∀x,cK A x\/cK C x->∀d,¬l7 G (!o.buy) D d x:=λx c d u=>by
  by_cases M:d= !o.buy
  ·subst M;rw[jT]at u;exact(l x c).2.2.2 u
  ·unfold l7 at u;rw[aZ M]at u;have:=m _ x u;have:=(l x c).1;omega
 refine dK.at (λst S=>st=(.bool (decide (rests=true/\0<left)),())/\S=W) ?_ ?_
 ·cases rests with
  |true=>
   rw[kx];refine qS1 O ?_;refine qS1 O ?_;refine qS0 ?_;exact⟨by simp,rfl⟩
  |false=>
   rw[gP];exact⟨by simp,rfl⟩
 rintro _ W ⟨rfl,rfl⟩;unfold Si;intro _;by_cases hr:rests=true/\0<left
 ·rw[qo hr];apply cI (lM (o:={o with left:=left}) (At.all i1));have hown:=i2.sd o.buy;have hbn:(o.buy= !o.buy)=False:=by cases o.buy<;>simp
  have e1:B.set (!o.buy) L o.buy=B o.buy:=by unfold Bk.set;rw[aZ (by rw[hbn];exact id)]
  have e2:l7 G (!o.buy) D o.buy=G o.buy:=by unfold l7;rw[aZ (by rw[hbn];exact id)]
  rw[e1,e2]at hown;have hf' :Od.Fit {o with left:=left}:=⟨hof.1,hof.2.1,hof.2.2.1,by unfold jl;simp only;omega⟩
  refine Ue hown hf' λG3 w4 q4 m4 n4=>?_;have u4:=nZ.upd (d:=o.buy) i2 (by rw[e2];exact m4) q4 (by rw[e2];exact n4);have hp4:¬G o.buy p:=λu=>by have:=m _ p u;omega
  have hq4:¬G o.buy q:=λu=>by have:=m _ q u;omega
  have j1:=m4.hpk O hp4;have j2:=m4.hpk i4 hq4;refine qS1 j1 ?_;refine qS1 j1 ?_;refine qS1 j2 ?_;refine qU1 j2 ?_;obtain⟨j3,m5⟩:=LW (i:=3) (v:=gI left) j2 qZ;have hsW:=i7.size;have hqW:q<W.heap.size:=cB i4
  have h2G:∀d x,l7 (l7 G (!o.buy) D) o.buy G3 d x->x≠q/\(G d x\/w.heap.size<=x)/\¬cK A x/\¬cK C x:=λd x c=>by
   by_cases M:d=o.buy
   ·subst M;rw[jT]at c;rcases n4 x c with j|j
    ·have:=m _ x j;exact⟨qZ,.inl j,λk=>by have:=(l x (.inl k)).1;omega,λk=>by have:=(l x (.inr k)).1;omega⟩
    ·exact⟨qZ,gz,λk=>by have:=i5.tr.lt k;omega,λk=>by have:=i5.go.lt k;omega⟩
   ·have hx' :l7 G (!o.buy) D d x:=by
     have:l7 (l7 G (!o.buy) D) o.buy G3 d=l7 G (!o.buy) D d:=by
      conv=>lhs;unfold l7
      rw[aZ M];rfl
     rw[this]at c;exact c
    have Q:=hG1 d x hx';exact⟨Q.2.1,Q.2.2,λk=>hS1 x (.inl k) d hx',λk=>hS1 x (.inr k) d hx'⟩
  refine fin _ (l7 (l7 G (!o.buy) D) o.buy G3) _ left (by simpa [uy]using j3) (u4.mod m5 qZ λd x c=>(h2G d x c).1)
   ((i5.mod m4 (λx c u=>by have:=m _ x u;have:=(l x (.inl c)).1;omega) λx c u=>by have:=m _ x u;have:=(l x (.inr c)).1;omega).mod m5 (λx c=>(l x (.inl c)).2.2.1) λx c=>(l x (.inr c)).2.2.1)
   ((mfull.on m4 λx c=>.inl (by cases k:o.buy<;>rw[k]at c;exact .inr c;exact .inl c)).on m5 λx c=>gz) (λd x c=>⟨(h2G d x c).1,(h2G d x c).2.1⟩) (λx c d u=>by rcases c with c|c;exact(h2G d x u).2.2.1 c;exact(h2G d x u).2.2.2 c) ?_
  unfold ko;rw[c];simp only;rw[bZ hr,e1]
 ·rw[DN hr];apply fin W (l7 G (!o.buy) D) _ 0 i4 i2 i5 mfull (λd x c=>⟨(hG1 d x c).2.1,(hG1 d x c).2.2⟩) hS1;unfold ko;rw[c];simp only;rw[aZ hr]
def dv:Value:=.slice none 0 0
def X3{q:Nat}{e t m g:Vt_}{l:Int}(h:hC W q #[e,t,m,g] 230)(i:∃a n c,sT=.slice a n c)(o:∃a n c,sG=.slice a n c):
  ∃d,(iS 230 (pt q 0) (.agg (uy sT sG f l))).run pQ W=.ok () d/\hC d q #[sT,sG,gI f,gI l] 230/\de (λb=>b=q) W d:=by
 obtain⟨p,s,j,rfl⟩:=i;obtain⟨r,u,k,rfl⟩:=o;refine⟨(((W.setCell ⟨q,0,none⟩ (.slice p s j)).setCell ⟨q,1,none⟩ (.slice r u k)).setCell ⟨q,2,none⟩ (gI f)).setCell ⟨q,3,none⟩ (gI l),by simp[go_sem,h,uy],by simp[go_sem,h],((((de.refl (λb=>b=q) W).sc).sc).sc).sc⟩
def Xu{q:Nat}{l:Int}(h:hC W q #[sT,sG,gI f,gI l] 230):(iL 230 (pt q 0)).run pQ W=.ok (.agg (uy sT sG f l)) W:=by
 simp[go_sem,h,uy]
def VE(W:Wt_):(Instr.build 230 #[]).run pQ W=.ok (.agg (uy dv dv 0 0)) W:=by
 simp[go_sem,uy,dv]
def WQ(w:Wt_):∃a,(iA 230 true (.tuple #[])).run pQ w=.ok (pt w.heap.size 0) a/\hC a w.heap.size #[dv,dv,gI 0,gI 0] 230/\M0 w a:=
 ⟨w.alloc (.cells #[dv,dv,gI 0,gI 0] 230),by simp[go_sem,dv],by simp[go_sem],(de.refl _ w).alloc _⟩
def Jq(w:Wt_):Ji w dv dv [] []:=⟨jo.nil _ _ _,jo.nil _ _ _,λx a=>by cases a⟩
def gD(B:Bk)(o:Od)(k:Int):Int×Bk×Pm:=
 if¬o.may\/k<1\/4<k then(2,B,⟨[],[],0,0⟩)
 else if(B.find o.num).isSome then(8,B,⟨[],[],0,0⟩)
 else if k=3/\lR (!o.buy) (B !o.buy) o.price o.acct<o.left then(70,B,⟨[],[],0,0⟩)
 else if k=4/\0<lR (!o.buy) (B !o.buy) o.price o.acct then(71,B,⟨[],[],0,0⟩)
 else if(k=1\/k=4)/\lR (!o.buy) (B !o.buy) o.price o.acct<o.left/\100<=(B o.buy).length then(9,B,⟨[],[],0,0⟩)
 else(0,ko B o (decide (k=1\/k=4)))
def Q6{k:Int}(h:nZ w b s G B)(hof:o.Fit)(hk:0<=k/\k<256)
  (hK:∀Q z C w',nZ w' b s Q (gD B o k).2.1->Ji w' z C (gD B o k).2.2.trades (gD B o k).2.2.gone->de (λx=>G true x\/G false x) w w' ->(∀d x,Q d x->G d x\/w.heap.size<=x)->
   (∀x,cK z x\/cK C x->w.heap.size<=x/\∀d,¬Q d x)->K (.tuple #[.agg (uy z C (gD B o k).2.2.filled (gD B o k).2.2.left),gI (gD B o k).1]) w'):Ca pQ 145 #[jY b,oG o,gB k] w K:=by
 apply ap2;obtain⟨w1,e1,b1,m1⟩:=vt o w;apply cI e1;obtain⟨p,N⟩:=dW w.heap.size;rw[<-N]at b1|-;obtain⟨w2,e2,b2,m2⟩:=WQ w1;apply cI e2;obtain⟨q,hq0⟩:=dW w1.heap.size;rw[<-hq0]at b2|-;have hpq:p<q:=by have:=cB b1;omega
 have c1:=m2.hpk b1 id;have Z:=m1.trans m2;have S:∀{W W' :Wt_},M0 W W' ->de (λx=>G true x\/G false x) W W' :=λm=>m.to;have hGlt:∀d x,G d x->x<p:=λd x c=>by rw[N];exact h.lt c
 have hbp:b<p:=by rw[N];exact cB h.blk
 have r:∀e W,gD B o k=(e,B,⟨[],[],0,0⟩)->M0 w2 W->
   rv pQ (Instr.build 230 #[]) W λv25 w26=>ru pQ (iS 230 (pt q 0) v25) w26 λR=>
    uc pQ (iL 230 (pt q 0)) R λv28=>K (.tuple #[v28,gI e]) R:=by
  intro e W P mW;apply cI (VE W);obtain⟨W2,E,hW2,g⟩:=X3 (sT:=dv) (sG:=dv) (f:=0) (l:=0) (mW.hpk b2 id) ⟨_,_,_,rfl⟩ ⟨_,_,_,rfl⟩;apply ir E;apply dp (Xu hW2);have j:=hK G dv dv W2;rw[P]at j;have M:=Z.trans mW;exact j ((h.mod M id λ_ _ _ h=>h).mod g qZ λd x c=>by grind) (Jq _) ((S M).on g λx c=>gz) (λd x c=>.inl c) λx c=>by rcases c with c|c<;>cases c
 have h2:=h.mod Z id λ_ _ _ h=>h;apply sY h2.q;refine qSf0 ?_;refine dK.at (λst W=>st=(.bool (decide (¬o.may\/k<1\/4<k)),())/\M0 w2 W) ?_ ?_
 ·apply cI (lM (o:=o) (At.all c1));refine Ab λw3 g=>?_;refine qS0 ?_;cases hm:o.may with
  |false=>
   rw[cy,bZ (show(!false)=true from rfl)];exact⟨by simp,g⟩
  |true=>
   rw[cy,aZ (by simp)];by_cases h1:k<1
   ·refine qSt1 h1 ?_;exact⟨by simp[h1],g⟩
   ·refine qSf1 h1 ?_;refine qS0 ?_;exact⟨by simp[h1],g⟩
 rintro _ w3 ⟨rfl,g⟩;unfold Qe;intro _;by_cases a:¬o.may\/k<1\/4<k
 ·rw[qo a];exact r 2 w3 (by unfold gD;rw[bZ a]) g
 rw[DN a]
 have T:o.may=true:=by
  apply dU;intro A;exact a (.inl A)
 have d1:=g.hpk c1 id;have t:=d1;unfold fL at t;refine qS1 t ?_;refine qS1 t ?_;have h3:=h2.mod g id λ_ _ _ h=>h;refine xU h3.blk h3.sd (λhnf w4 m4=>?_) λfo d hfo _ w4 m4=>?_
 ·refine qS0 ?_;refine qS0 ?_;obtain⟨w5,e5,b5,m5⟩:=kD w4;apply cI e5;obtain⟨O,e6,b6,m6⟩:=jK (o' :=pC) b5;apply ir e6;have J:=m5.on m6 λb hb=>gz;have H:=m4.trans J;have M6:=g.trans H;have f1:=H.hpk t id;have hs6:=M6.size;refine qSf0 ?_;refine qS1 f1 ?_;refine qS1 f1 ?_;have h6:=h3.mod H id λ_ _ _ h=>h;apply DJ (s:=s) h6.blk;have md:M0 O O.drew:=mP;have h7:=h6.mod md id λ_ _ _ h=>h;have D:=md.hpk f1 id;have f2o:=D;have M7:=M6.trans md;generalize O.drew=w7 at h7 D f2o M7|-;refine qS0 ?_;refine qS0 ?_;refine qS1 D ?_;refine qS1 D ?_;refine qS1 D ?_;refine qS1 D ?_;refine No (h7.sd (!o.buy)) λi m8=>?_;have h8:=h7.mod m8 id λ_ _ _ h=>h;have V:=m8.hpk D id;have f3o:=V;have L:=M7.trans m8;obtain⟨n,U⟩:=dW (lR (!o.buy) (B !o.buy) o.price o.acct);rw[<-U]
  have I:gD B o k=if k=3/\n<o.left then(70,B,⟨[],[],0,0⟩)else if k=4/\0<n then(71,B,⟨[],[],0,0⟩)else if(k=1\/k=4)/\n<o.left/\100<=(B o.buy).length then(9,B,⟨[],[],0,0⟩)else(0,ko B o (decide (k=1\/k=4))):=by
   unfold gD;rw[aZ a,aZ (by rw[hnf];simp),<-U]
  refine dK.at (λst W=>st=(.bool (decide (k=1\/k=4)),())/\W=i) ?_ ?_
  ·by_cases v:k=1
   ·refine qSt1 v ?_;exact⟨by simp[v],rfl⟩
   ·refine qSf1 v ?_;apply cx (.bool (decide (k=4))) i (by simp[go_sem];rw[iC];simp);exact⟨by simp[v],rfl⟩
  rintro _ i ⟨rfl,rfl⟩;unfold SC;intro _;refine dK.at (λst W=>st=(.bool (decide (k=3/\n<o.left)),())/\W=i) ?_ ?_
  ·by_cases u:k=3
   ·refine qSt1 u ?_;refine qS1 V ?_;refine qS1 V ?_;refine qS0 ?_;exact⟨by simp[u],rfl⟩
   ·refine qSf1 u ?_;exact⟨by simp[u],rfl⟩
  rintro _ i ⟨rfl,rfl⟩;unfold QQ;intro _;by_cases ha:k=3/\n<o.left
  ·rw[qo ha];exact r 70 i (by rw[I,bZ ha]) L
  rw[DN ha];refine dK.at (λst W=>st=(.bool (decide (k=4/\0<n)),())/\W=i) ?_ ?_
  ·by_cases y:k=4
   ·refine qSt1 y ?_;refine qS0 ?_;exact⟨by simp[y],rfl⟩
   ·refine qSf1 y ?_;exact⟨by simp[y],rfl⟩
  rintro _ i ⟨rfl,rfl⟩;unfold QI;intro _;by_cases F:k=4/\0<n
  ·rw[qo F];exact r 71 i (by grind) L
  rw[DN F];refine dK.at (λst W=>st=(.bool (decide ((k=1\/k=4)/\n<o.left/\100<=(B o.buy).length)),())/\W=i) ?_ ?_
  ·by_cases P:k=1\/k=4
   ·rw[qo P];refine qS1 V ?_;refine qS1 V ?_;by_cases Y:n<o.left
    ·refine qSt1 Y ?_;apply Tp (h8.sd o.buy);refine qS0 ?_;refine⟨?_,rfl⟩
     have e:decide ((100:Int)<=((B o.buy).length:Int))=decide ((k=1\/k=4)/\n<o.left/\100<=(B o.buy).length):=by
      rw[qP];exact⟨λh=>⟨P,Y,qZ⟩,λh=>qZ⟩
     rw[e]
    ·refine qSf1 Y ?_;refine⟨?_,rfl⟩;rw[ej (λA=>Y A.2.1)]
   ·rw[DN P];refine⟨?_,rfl⟩;rw[ej (λA=>P A.1)]
  rintro _ i ⟨rfl,rfl⟩;unfold Sg;intro _;by_cases A:(k=1\/k=4)/\n<o.left/\100<=(B o.buy).length
  ·rw[qo A];exact r 9 i (by grind) L
  rw[cy,aZ (by grind)];rw[aZ ha,aZ F,aZ A]at I;apply cI (lM (o:=o) (At.all f3o));refine LF h8 hof T λQ z C w9 r9 p9 m9 n9 s9=>?_;obtain⟨ta,tc,hsT,-⟩:=p9.tr.isSl;obtain⟨ga,gc,hsG,-⟩:=p9.go.isSl;have hq8:¬(G true q\/G false q):=λhg=>by grind
  have f4:=m9.hpk (L.hpk b2 id) hq8;have hs8:=L.size;have hq2:=cB b2;obtain⟨wa,E,ja,ma⟩:=X3 (sT:=z) (sG:=C) (f:=(ko B o (decide (k=1\/k=4))).2.filled) (l:=(ko B o (decide (k=1\/k=4))).2.left) f4 ⟨_,_,_,hsT⟩ ⟨_,_,_,hsG⟩;apply ir E;apply dp (Xu ja);have j:=hK Q z C wa;rw[I]at j;have hsw:=(Z.trans L).size;refine j (r9.mod ma qZ λd x c=>?_) (p9.mod ma (λx c=>?_) λx c=>?_) (((S (Z.trans L)).trans m9).on ma λx c=>gz) (λd x c=>?_) λx c=>⟨by grind,(s9 x c).2⟩
  ·rcases n9 d x c with X|X
   ·grind
   ·omega
  ·grind
  ·grind
  ·rcases n9 d x c with X|X
   ·exact .inl X
   ·exact gz
 ·refine qS0 ?_;refine qS0 ?_;obtain⟨w5,e5,b5,m5⟩:=kD w4;apply cI e5;obtain⟨O,e6,b6,m6⟩:=jK (o' :=fo) b5;apply ir e6;have J:=m5.on m6 λb hb=>gz;apply cx (.bool true) O (by simp[go_sem,fQ]);rw[kx];exact r 8 O (by unfold gD;rw[aZ a,bZ (by rw[hfo];rfl)]) ((g.trans m4).trans J)
def Lk{q:Nat}{e:Od}{K:Value->World->Prop}(h:hC W q (fL e).toArray pz)
  (g:∀c,de (λb=>b=q) W c->K (oG o) c):
  ru pQ (iS pz (pt q 0) (oG o)) W λa=>uc pQ (iL pz (pt q 0)) a λj=>K j a:=by
 obtain⟨k,d,f,i⟩:=jK (o' :=o) h;apply ir d;apply dp (lM (o:=o) (At.all f));exact g _ i
def jX(B:Bk)(n:Int):Int×Bk×Od:=
 match B.find n with
 |none=>(7,B,pC)
 |some (o,d)=>(0,B.set d (tD (B d) n),o)
def OT(h:nZ w b s G B)
  (g:∀x,M0 w x->K (.tuple #[oG (match B.find n with|none=>pC|some (o,_)=>o),gI (match B.find n with|none=>7|some _=>0)]) x):Ca pQ 168 #[jY b,gQ n] w K:=by
 apply Z4;obtain⟨F,D,j,r⟩:=kD w;apply cI D;obtain⟨q,m⟩:=dW w.heap.size;rw[<-m]at j|-;have l:=h.mod r id λ_ _ _ h=>h;apply sY l.q;refine qSf0 ?_;refine xU l.blk l.sd (λC v a=>?_) λo d A H v a=>?_
 ·rw[C]at g;refine qS0 ?_;refine qS0 ?_;obtain⟨z,t,k,c⟩:=kD v;apply cI t;obtain⟨i,u,y,f⟩:=jK (o' :=pC) k;apply ir u;refine qSt0 ?_;apply cx (oG pC) i (by simp[go_sem,oG,fL,pC]);have M:=r.trans (a.trans (c.on f λb e=>gz));refine Lk ((a.trans (c.on f λb e=>gz)).hpk j id) λE p=>?_;exact g _ (M.on p λb e=>gz)
 ·rw[A]at g;refine qS0 ?_;refine qS0 ?_;obtain⟨z,t,k,c⟩:=kD v;apply cI t;obtain⟨i,u,y,f⟩:=jK (o' :=o) k;apply ir u;apply cx (.bool false) i (by simp[go_sem,fQ]);rw[gP];apply cI (lM (o:=o) (At.all y));have M:=r.trans (a.trans (c.on f λb e=>gz));refine Lk ((a.trans (c.on f λb e=>gz)).hpk j id) λE p=>?_;exact g _ (M.on p λb e=>gz)
def G5(h:nZ w b s G B)
  (t:∀O z,nZ z b s O (jX B n).2.1->de (λx=>G true x\/G false x) w z->(∀d x,O d x->G d x\/w.heap.size<=x)->
   K (.tuple #[oG (jX B n).2.2,gI (jX B n).1]) z):Ca pQ 137 #[jY b,gQ n] w K:=by
 apply ae9;obtain⟨w1,e1,y,E⟩:=kD w;apply cI e1;obtain⟨q,c⟩:=dW w.heap.size;rw[<-c]at y|-;have k:∀{W V:Wt_},M0 W V->de (λx=>G true x\/G false x) W V:=λm=>m.to;have Q:∀d x,G d x->x<q:=λd x a=>by rw[c];exact h.lt a
 have Z:b<q:=by rw[c];exact cB h.blk
 have D:=h.mod E id λ_ _ _ h=>h;apply sY D.q;refine qSf0 ?_;refine xU D.blk D.sd (λhn I l=>?_) λo d hf Y I l=>?_
 ·refine qS0 ?_;refine qS0 ?_;obtain⟨X,F,C,p⟩:=kD I;apply cI F;obtain⟨v,H,b4,u⟩:=jK (o' :=pC) C;apply ir H;refine qSt0 ?_;apply cx (oG pC) v (by simp[go_sem,oG,fL,pC]);have M:=E.trans (l.trans (p.on u λb A=>gz));refine Lk ((l.trans (p.on u λb A=>gz)).hpk y id) λU i=>?_;have r:=M.on i λb A=>gz;have e:jX B n=(7,B,pC):=by unfold jX;rw[hn]
  rw[e]at t;exact t G _ (h.mod r id λ_ _ _ h=>h) (k r) λd x a=>.inl a
 ·refine qS0 ?_;refine qS0 ?_;obtain⟨X,F,C,p⟩:=kD I;apply cI F;obtain⟨v,H,b4,u⟩:=jK (o' :=o) C;apply ir H;apply cx (.bool false) v (by simp[go_sem,fQ]);rw[gP];have j:=l.trans (p.on u λb A=>gz);have J:=E.trans j;have R:=h.mod J id λ_ _ _ h=>h;have hs4:=J.size;have S:=j.hpk y id;refine Dz (R.sd d) λP U s5 i N=>?_;rw[Y];refine qS0 ?_;refine qS0 ?_;have q5:=i.hpk S λa=>by grind
  refine Lk q5 λw6 L=>?_;have e:jX B n=(0,B.set d (tD (B d) n),o):=by unfold jX;rw[hf]
  rw[e]at t;have r:de (λx=>G true x\/G false x) w U:=(k J).trans (i.mono λx _ a=>by cases d;exact .inr a;exact .inl a);have h5:=R.upd i s5 N
  have g:∀e x,l7 G d P e x->G e x\/(w.heap.size<=x/\x≠q):=λe x a=>by
   by_cases T:e=d
   ·subst T;rw[jT]at a;rcases N x a with f|f
    ·exact .inl f
    ·exact .inr ⟨qZ,by have:=cB S;omega⟩
   ·unfold l7 at a;rw[aZ T]at a;exact .inl a
  refine t (l7 G d P) _ (h5.mod L qZ λe x a hq=>?_) (r.on L λx a=>gz) λe x a=>(g e x a).imp id (·.1);rcases g e x a with f|f
  ·grind
  ·exact f.2 hq
def fX(B:Bk)(n price left:Int):Int×Bk×Pm:=
 match B.find n with
 |none=>(7,B,⟨[],[],0,0⟩)
 |some (o,d)=>
  if({o with price:=price,left:=left}:Od).may=false then(2,B,⟨[],[],0,0⟩)
  else if price=o.price/\left<=o.left then((wZ (B d) n left).1,B.set d (wZ (B d) n left).2,⟨[],[],0,left⟩)
  else(0,ko (B.set d (tD (B d) n)) {o with price:=price,left:=left} true)
def YL(W:Wt_)(x:Int):(Instr.build 230 #[(3,gI x)]).run pQ W=.ok (.agg (uy dv dv 0 x)) W:=by
 simp[go_sem,uy,dv]
def EY(h:kK w b F B)
  (z:∀o q j,kK j o q B->M0 w j->(∀x,q x->w.heap.size<=x)->K (jY o) j):Ca pQ 47 #[jY b] w K:=by
 apply au0;apply sY h;obtain⟨s,G,D,-⟩:=h.r;refine qSf0 ?_;have md:M0 w w.drew:=mP;have g:=D.mod md id λ_ _ _ h=>h;have n:=g.blk;simp only[jY,dr];refine qP0 ?_;refine qW1 n ?_;refine qP0 ?_;refine qW1 n ?_;refine Gx (g.sd true) λs1 r I l f H=>?_;have A:=f.hpk n id;refine⟨by simp[go_sem,A],?_⟩;have m:=g.mod f id λ_ _ _ h=>h;refine Gx (m.sd false) λe p a u i t=>?_;apply dX (.agg #[fQ s1,fQ e]) (λ_=>by simp[go_sem,fQ]);have k:M0 a (a.alloc (.cells #[fQ s1,fQ e] 144)):=lm;apply cx (jY a.heap.size) (a.alloc (.cells #[fQ s1,fQ e] 144)) rfl;have y:=md.size;have C:=f.size;have E:=i.size;refine z a.heap.size (λx=>x=a.heap.size\/r x\/p x) _ ⟨λd=>if d then s1 else e,λd=>if d then r else p,by simp[go_sem],λd=>?_,λx=>fd,λd=>?_,λx m v=>?_⟩ (((md.trans f).trans i).trans k) λx c=>?_
 ·cases d
  ·exact u.mod k eQ
  ·exact(l.mod i eQ).mod k eQ
 ·cases d
  ·intro h;have:=u.lt h;omega
  ·intro h;have:=l.lt h;omega
 ·have J:=l.lt m;have L:=t x v;omega
 ·rcases c with rfl|c|c
  ·omega
  ·have:=H x c;omega
  ·have:=t x c;omega
def Tc(h:hC W p (fL o).toArray pz)(x:Int):
  ∃a,(iF pz (pt p 0) 3).run pQ W=.ok (pt p 3) W/\(iS 2 (pt p 3) (gI x)).run pQ W=.ok () a/\
   hC a p (fL {o with price:=x}).toArray pz/\de (λb=>b=p) W a:=by
 unfold fL at h;exact⟨W.setCell ⟨p,3,none⟩ (gI x),by simp[go_sem],by simp[go_sem,h],by simp[go_sem,h,fL],(de.refl (λb=>b=p) W).sc⟩
def Xv(h:hC W p (fL o).toArray pz)(x:Int):
  ∃a,(iF pz (pt p 0) 4).run pQ W=.ok (pt p 4) W/\(iS 2 (pt p 4) (gI x)).run pQ W=.ok () a/\
   hC a p (fL {o with left:=x}).toArray pz/\de (λb=>b=p) W a:=by
 unfold fL at h;exact⟨W.setCell ⟨p,4,none⟩ (gI x),by simp[go_sem],by simp[go_sem,h],by simp[go_sem,h,fL],(de.refl (λb=>b=p) W).sc⟩
def QS{q:Nat}{i u s m:Vt_}{l:Int}{K:Value->World->Prop}(h:hC W q #[i,u,s,m] 230)(o:∃a n c,sT=.slice a n c)(t:∃a n c,sG=.slice a n c)
  (p:∀g,de (λb=>b=q) W g->K (.agg (uy sT sG f l)) g):
  ru pQ (iS 230 (pt q 0) (.agg (uy sT sG f l))) W λe=>uc pQ (iL 230 (pt q 0)) e λk=>K k e:=by
 obtain⟨v,d,j,r⟩:=X3 (f:=f) (l:=l) h o t;apply ir d;apply dp (Xu j);exact p _ r
def Lb:∃a n c,dv=.slice a n c:=⟨_,_,_,rfl⟩
def JI(h:nZ w b s G B)(Q:jl price)(v:jl left)
  (M:∀L P R w',nZ w' b s L (fX B n price left).2.1->Ji w' P R (fX B n price left).2.2.trades (fX B n price left).2.2.gone->de (λx=>G true x\/G false x) w w' ->(∀d x,L d x->G d x\/w.heap.size<=x)->
   (∀x,cK P x\/cK R x->w.heap.size<=x/\∀d,¬L d x)->K (.tuple #[.agg (uy P R (fX B n price left).2.2.filled (fX B n price left).2.2.left),gI (fX B n price left).1]) w'):Ca pQ 142 #[jY b,gQ n,gI price,gI left] w K:=by
 apply ac3;obtain⟨w1,e1,b1,X⟩:=WQ w;apply cI e1;obtain⟨q,C⟩:=dW w.heap.size;rw[<-C]at b1|-;have E:∀{W W' :Wt_},M0 W W' ->de (λx=>G true x\/G false x) W W' :=λm=>m.to;have hGlt:∀d x,G d x->x<q:=λd x a=>by rw[C];exact h.lt a
 have hbq:b<q:=by rw[C];exact cB h.blk
 have hs1:=X.size;have hq1:=cB b1;have h1:=h.mod X id λ_ _ _ h=>h;apply sY h1.q;refine qSf0 ?_
 have U:∀(e:Int) (W:Wt_),fX B n price left=(e,B,⟨[],[],0,0⟩)->M0 w1 W->
   rv pQ (Instr.build 230 #[]) W λv25 w26=>ru pQ (iS 230 (pt q 0) v25) w26 λN=>
    uc pQ (iL 230 (pt q 0)) N λv28=>K (.tuple #[v28,gI e]) N:=by
  intro e W hr mW;apply cI (VE W);refine QS (mW.hpk b1 id) Lb Lb λw5 m5=>?_;rw[hr]at M;have M5:=(X.trans mW).on m5 λx a=>gz;exact M G dv dv _ (h.mod M5 id λ_ _ _ h=>h) (Jq _) (E M5) (λd x a=>.inl a) λx a=>by rcases a with a|a<;>cases a
 refine xU h1.blk h1.sd (λhn w2 m2=>?_) λo d hf hg w2 m2=>?_
 ·refine qS0 ?_;refine qS0 ?_;obtain⟨w3,e3,b3,m3⟩:=kD w2;apply cI e3;obtain⟨T,e4,b4,m4⟩:=jK (o' :=pC) b3;apply ir e4;refine qSt0 ?_;exact U 7 T (by unfold fX;rw[hn]) (m2.trans (m3.on m4 λb O=>gz))
 ·have S:=(h.sd d).may o (fl hg);refine qS0 ?_;refine qS0 ?_;obtain⟨w3,e3,b3,m3⟩:=kD w2;apply cI e3;obtain⟨p,hp0⟩:=dW w2.heap.size;rw[<-hp0]at b3|-;obtain⟨T,e4,b4,m4⟩:=jK (o' :=o) b3;apply ir e4;apply cx (.bool false) T (by simp[go_sem,fQ]);rw[gP];apply cI (lM (o:=o) (At.all b4));have m24:=m3.on m4 λb O=>gz;have hs2:=m2.size;obtain⟨w5,e5,b5,m5⟩:=kD T;apply cI e5;obtain⟨r,V⟩:=dW T.heap.size;rw[<-V]at b5|-;obtain⟨w6,e6,b6,m6⟩:=jK (o' :=o) b5;apply ir e6;have hpr:p<r:=by rw[V];exact cB b4
  have p6:=(m5.on m6 λb O=>gz).hpk b4 id;obtain⟨w7,f7,e7,b7,m7⟩:=Tc p6 price;apply cI f7;apply ir e7;obtain⟨w8,f8,e8,b8,m8⟩:=Xv b7 left;apply cI f8;apply ir e8;apply cI (lM (At.all b8));have hpq:q<p:=qZ;have M28:M0 w2 w8:=(((m24.trans (m5.on m6 λb O=>gz)).on m7 λb O=>gz).on m8 λb O=>gz)
  have r8:=m8.hpk (m7.hpk b6 qZ) qZ;refine Ab λw9 m9=>?_;have k:M0 w1 w9:=(m2.trans M28).trans m9;have b9:=m9.hpk b8 id;have r9:=m9.hpk r8 id;cases g:({o with price:=price,left:=left}:Od).may with
  |false=>
   have hmay' :({num:=o.num,acct:=o.acct,buy:=o.buy,price:=price,left:=left}:Od).may=false:=g;refine qSt0 ?_;exact U 2 w9 (by unfold fX;rw[hf];simp only;rw[bZ g]) k
  |true=>
   refine qSf0 ?_;have q9:=k.hpk b1 id;have hs9:=k.size;have h9:=h1.mod k id λ_ _ _ h=>h;have hq9:=cB q9;have hr9' :=cB r9;refine dK.at (λst W=>st=(.bool (decide (price=o.price/\left<=o.left)),())/\W=w9) ?_ ?_
   ·have D:=r9;unfold fL at D;refine qS0 ?_;refine qS1 D ?_;by_cases u:price=o.price
    ·refine qSt1 u ?_;refine qS0 ?_;refine qS1 D ?_;refine qS0 ?_;exact⟨by simp[u],rfl⟩
    ·refine qSf1 u ?_;exact⟨by simp[u],rfl⟩
   rintro _ w9 ⟨rfl,rfl⟩;unfold Sm;intro _;by_cases j:price=o.price/\left<=o.left
   ·rw[qo j];apply cI (YL _ left);refine Ob (h9.sd d) v λZ H z f t=>?_;have J:=f.hpk q9 λa=>by grind
    have e:fX B n price left=((wZ (B d) n left).1,B.set d (wZ (B d) n left).2,⟨[],[],0,left⟩):=by
     unfold fX;rw[hf];simp only;rw[aZ (by rw[g];simp),bZ j]
    rw[e]at M;refine QS J Lb Lb λw11 l=>?_;have F:de (λx=>G true x\/G false x) w H:=(E (X.trans k)).trans (f.mono λx _ a=>by cases d;exact .inr a;exact .inl a);have A:=h9.upd f z t
    have i:∀e x,l7 G d Z e x->G e x\/(w.heap.size<=x/\x≠q):=λe x a=>by
     by_cases Y:e=d
     ·subst Y;rw[jT]at a;rcases t x a with c|c
      ·exact .inl c
      ·grind
     ·unfold l7 at a;rw[aZ Y]at a;exact .inl a
    refine M (l7 G d Z) dv dv _ (A.mod l qZ λe x a hq=>?_) (Jq _) (F.on l λx a=>gz) (λe x a=>(i e x a).imp id (·.1)) λx a=>by rcases a with a|a<;>cases a
    rcases i e x a with c|c
    ·grind
    ·exact c.2 hq
   ·rw[DN j];refine Dz (h9.sd d) λZ H z f t=>?_;have J:=f.hpk q9 λa=>by grind
    have p10:=f.hpk b9 λa=>by grind
    have hs10:=f.size;have F:de (λx=>G true x\/G false x) w H:=(E (X.trans k)).trans (f.mono λx _ a=>by cases d;exact .inr a;exact .inl a);have A:=h9.upd f z t
    have i:∀e x,l7 G d Z e x->G e x\/(w.heap.size<=x/\x≠q):=λe x a=>by
     by_cases Y:e=d
     ·subst Y;rw[jT]at a;rcases t x a with c|c
      ·exact .inl c
      ·grind
     ·unfold l7 at a;rw[aZ Y]at a;exact .inl a
    have hxq:∀e x,l7 G d Z e x->x≠q:=λe x a=>by
     rcases i e x a with c|c
     ·grind
     ·exact c.2
    apply cI (lM (At.all p10));refine LF A ⟨S.2.2.1,S.2.2.2.1,Q,v⟩ g λL P R w11 r11 I l n11 s11=>?_
    have e:fX B n price left=(0,ko (B.set d (tD (B d) n)) {o with price:=price,left:=left} true):=by
     unfold fX;rw[hf];simp only;rw[aZ (by rw[g];simp),aZ j]
    rw[e]at M;obtain⟨ta,tc,hsT,-⟩:=I.tr.isSl;obtain⟨ga,gc,hsG,-⟩:=I.go.isSl;have q11:=l.hpk J (by grind);refine QS q11 ⟨_,_,_,hsT⟩ ⟨_,_,_,hsG⟩ λw12 y=>?_
    have hn2:∀e x,L e x->G e x\/(w.heap.size<=x/\x≠q):=λe x a=>by
     rcases n11 e x a with c|c
     ·exact i e x c
     ·grind
    refine M L P R w12 (r11.mod y qZ λe x a hq=>?_) (I.mod y (λx a=>?_) λx a=>?_) ((F.on l λx a=>?_).on y λx a=>gz) (λe x a=>(hn2 e x a).imp id (·.1)) λx a=>⟨by grind,(s11 x a).2⟩
    ·rcases hn2 e x a with c|c
     ·grind
     ·exact c.2 hq
    ·grind
    ·grind
    ·rcases a with a|a
     ·rcases i _ x a with c|c
      ·exact .inl (.inl c)
      ·exact .inr c.1
     ·rcases i _ x a with c|c
      ·exact .inl (.inr c)
      ·exact .inr c.1
structure RZ(P:Program)(gv:Vt_)(xs:List (List Value))(Ok:World->Prop):Prop where
 out:∃f first captured,gv=.func (.func f) first captured/\∀(yl:Nat) (J:(Nat->Prop)->Nat->World->Prop) (Js:(Nat->Prop)->World->Prop) (W:Wt_) (K:cG),Ok W->
  (∀Q W1,M0 W W1->(∀b,Q b->W.heap.size<=b/\b<W1.heap.size)->J Q 0 W1)->
  (∀Q Q' i W W',J Q i W->de Q W W' ->(∀b,Q' b->(Q b\/W.heap.size<=b)/\b<W'.heap.size)->J Q' i W')->
  (∀Q Q' W W',Js Q W->de Q W W' ->(∀b,Q' b->(Q b\/W.heap.size<=b)/\b<W'.heap.size)->Js Q' W')->
  (∀Q i x W,xs[i]? =some x->J Q i W->∀K' :cG,(∀W',J Q (i+1) W' ->W.heap.size<=W'.heap.size->(∀b,Q b->W'.heap[b]? =W.heap[b]?)->K' (.bool true) W')->(∀W',Js Q W' ->W.heap.size<=W'.heap.size->(∀b,Q b->W'.heap[b]? =W.heap[b]?)->K' (.bool false) W')->iv P (.func (.yield yl) #[] #[]) x W K')->
  (∀Q W,J Q xs.length W->K (.tuple #[]) W)->(∀Q W,Js Q W->K (.tuple #[]) W)->Ca P f ⟨first.toList++((.func (.yield yl) #[] #[])::captured.toList)⟩ W K
def oF{P:Program}{Ok:World->Prop}(h:CW P gv xs Ok):RZ P gv xs Ok:=by
 obtain⟨f,first,k,e,r⟩:=h.out;refine⟨f,first,k,e,λv J t W K o p g m l c n=>?_⟩;refine r _ (λQ i W=>J Q i W/\∀b,Q b->b<W.heap.size) (λW=>∃Q,t Q W) W K o (λQ q j d=>⟨p Q q j d,λb a=>(d b a).2⟩) ?_ ?_ (λQ W h=>c Q W h.1) λW ⟨Q,h⟩=>n Q W h
 ·rintro Q i W u ⟨s,d⟩ j;exact⟨g Q Q i W u s (j.to) λb a=>⟨.inl a,ep (d b a) j.size⟩,λb a=>ep (d b a) j.size⟩
 ·grind
structure th(gv:Vt_)(xs:List (List Value))(w:Wt_):Prop where
 out:∃Ok,RZ pQ gv xs Ok/\∀W,M0 w W->Ok W
 fn:∃f cap,gv=.func (.func f) #[] cap
def Eg.m(h:Eg gv xs w):th gv xs w:=by
 obtain⟨⟨Ok,b,a⟩,c⟩:=h;exact⟨⟨Ok,oF b,a⟩,c⟩
def th.mod(h:th gv xs w)(a:M0 w w'):th gv xs w' :=by
 obtain⟨⟨Ok,c,b⟩,d⟩:=h;exact⟨⟨Ok,c,λW m=>b W (a.trans m)⟩,d⟩
def rS(T:TypeId){α:Type}(fv:α->Value)(fc:α->List Value)(xs:List α):Prop:=
 ∀a∈xs,∀W:World,∃w1 w2,(iA T true (.tuple #[])).run pQ W=.ok (pt W.heap.size 0) w1/\(iS T (pt W.heap.size 0) (fv a)).run pQ w1=.ok () w2/\
  hC w2 W.heap.size (fc a).toArray T/\M0 W w2
section
variable{w:Wt_}{gv:Vt_}{α:Type}{xs:List α}{T:TypeId}{fv:α->Value}{fc:α->List Value}{body:Value->World->(World->Prop)->(Code->World->Prop)->Prop}{after:List Nat->Option Code->World->Prop}{X0:NP_}
def zj(ht:th gv (xs.map λa=>[fv a]) w)(hv:rS T fv fc xs)
  (I:(Nat->Prop)->Nat->World->Prop)(Ex:Code->(Nat->Prop)->World->Prop)
  (C:∀X i W m H,I X i W->de H W m->(∀b,X b->¬H b)->I X i m)
  (hsx:∀c X W m H,Ex c X W->de H W m->(∀b,X b->¬H b)->Ex c X m)
  (M:∀b,X0 b->b<w.heap.size)(h0:I X0 0 w)
  (V:∀X i (hi:i<xs.length) W q,I X i W->de X0 w W->(∀b,X b->b<q/\(X0 b\/w.heap.size+1<b))->w.heap.size+1<q->q<W.heap.size->hC W q (fc xs[i]).toArray T->∀KN KJ,
   (∀y m,I y (i+1) m->de X W m->(∀b,y b->(X b\/W.heap.size<=b)/\b<m.heap.size)->KN m)->
   (∀c y m,Ex c y m->de X W m->(∀b,y b->(X b\/W.heap.size<=b)/\b<m.heap.size)->KJ c m)->body (pt q 0) W KN KJ)
  (hend:∀X W d,d=w.heap.size->I X xs.length W->de X0 w W->hp W d=some (.deferred (some []))->(∀b,X b->b<W.heap.size/\(X0 b\/d+1<b))->after [d] none W)
  (Z:∀c X W d,d=w.heap.size->Ex c X W->de X0 w W->hp W d=some (.deferred (some []))->(∀b,X b->b<W.heap.size/\(X0 b\/d+1<b))->after [d] (some c) W):
  yP pQ none gv w 1 (λl x W KN KJ=>rv pQ (iA T true (.tuple #[])) W λv w1=>ru pQ (iS T v (x.getD 0 undef)) w1 λw2=>lC l w2 λw3=>body v w3 KN KJ) after:=by
 obtain⟨⟨Ok,hit,hok⟩,-⟩:=ht;obtain⟨f,first,captured,rfl,hit0⟩:=hit.out;apply wu.2;show∀k:Loop,_;intro k s G hD hY;obtain⟨d,A⟩:=dW w.heap.size;have U:(w.alloc (.deferred (some []))).heap.size=d+1:=by rw[eG,A]
 obtain⟨wr,E⟩:=dW ((w.alloc (.deferred (some []))).alloc (.loop k));have S:wr.heap[d+1]? =some (.loop k):=by rw[E,gy,bZ U.symm]
 have hszr:wr.heap.size=d+2:=by rw[E,eG,U]
 have Y:hp wr d=some (.deferred (some [])):=by rw[E];simp[go_sem,A]
 have hmr:M0 w wr:=by rw[E];exact lm.alloc _
 have p:∀(W:Wt_) (o:Obj),de (λb=>b=d+1) W (W.putObj (d+1) o):=λW o=>(de.refl (λb=>b=d+1) W).putObj (b:=d+1) (.inl rfl) o;rw[U]at hY|-;rw[<-E];let J:(Nat->Prop)->Nat->World->Prop:=λQ i W=>∃X,I X i W/\de X0 w W/\hp W d=some (.deferred (some []))/\(∀b,X b->b<W.heap.size/\(X0 b\/d+1<b)/\¬Q b)/\W.heap[d+1]? =some (.loop k)/\∀b,Q b->d+1<b/\b<W.heap.size;let Js:(Nat->Prop)->World->Prop:=λQ W=>∃c X r,Ex c X W/\de X0 w W/\hp W d=some (.deferred (some []))/\(∀b,X b->b<W.heap.size/\(X0 b\/d+1<b)/\¬Q b)/\W.heap[d+1]? =some (.loop r)/\(∀b,Q b->d+1<b/\b<W.heap.size)/\r.state=.done/\r.pending=some c;refine hit0 _ J Js _ _ (hok _ hmr) ?_ ?_ ?_ ?_ ?_ ?_
 ·intro Q W1 j hQ;refine⟨X0,C _ _ _ _ _ h0 (hmr.trans j) eQ,(hmr.trans j).to,j.hpk Y id,λb g=>?_,j.keep S id,λb g=>?_⟩
  ·have O:=M b g;have F:=j.size;exact⟨qZ,.inl g,λhq=>by grind⟩
  ·have:=hQ b g;omega
 ·rintro Q Q' i W m ⟨X,O,F,L,n,B,R⟩ j K;have hl:=cB B;refine⟨X,C _ _ _ _ _ O j λb g=>(n b g).2.2,F.on j λb g=>.inr (by grind),j.hpk L λg=>by grind,λb g=>?_,j.keep B λg=>by grind,λb g=>?_⟩
  ·have u:=n b g;refine⟨ep u.1 j.size,u.2.1,λhq=>?_⟩;rcases(K b hq).1 with h|h
   ·exact u.2.2 h
   ·have:=u.1;omega
  ·have u:=K b g;refine⟨?_,u.2⟩;rcases u.1 with h|h
   ·exact(R b h).1
   ·omega
 ·rintro Q Q' W m ⟨c,X,r,O,F,L,n,B,R,h7⟩ j K;have hl:=cB B;refine⟨c,X,r,hsx _ _ _ _ _ O j λb g=>(n b g).2.2,F.on j λb g=>.inr (by grind),j.hpk L λg=>by grind,λb g=>?_,j.keep B λg=>by grind,λb g=>?_,h7⟩
  ·have u:=n b g;refine⟨ep u.1 j.size,u.2.1,λhq=>?_⟩;rcases(K b hq).1 with h|h
   ·exact u.2.2 h
   ·have:=u.1;omega
  ·have u:=K b g;refine⟨?_,u.2⟩;rcases u.1 with h|h
   ·exact(R b h).1
   ·omega
 ·rintro Q i x W P ⟨X,O,F,L,n,B,R⟩ K' hT hF;apply oe.2;show Yl pQ (d+1) ⟨_⟩ W K';have e1:(#[]:Array Value).toList++x=x:=rfl;rw[e1]
  obtain⟨hi,rfl⟩:∃hi:i<xs.length,x=[fv xs[i]]:=by
   rw[dO]at P;cases hh:xs[i]? with
   |none=>rw[hh]at P;cases P
   |some o=>
    obtain⟨hj,he⟩:=cP.1 hh;rw[hh]at P;exact⟨hj,by grind⟩
  apply hY _ W K' rfl ⟨k.state,k.pending,B⟩;obtain⟨w1,w2,v1,v2,v3,v4⟩:=hv xs[i] (cC hi) W;obtain⟨q,hq0⟩:=dW W.heap.size;rw[<-hq0]at v1 v2 v3;apply cI v1;show ru pQ (iS T (pt q 0) (fv xs[i])) w1 _;apply ir v2;have r2:w2.heap[d+1]? =some (.loop k):=v4.keep B id;apply ux r2 s;have m3:=p w2 (.loop {k with state:=.busy});have r3:(w2.putObj (d+1) (.loop {k with state:=.busy})).heap[d+1]? =some (.loop {k with state:=.busy}):=by rw[fY,bZ rfl,r2];rfl
  generalize w2.putObj (d+1) (.loop {k with state:=.busy})=w3 at m3 r3|-;have hdl:d+1<q:=by grind
  have q3:=m3.hpk v3 qZ;have hql:=cB q3;have M3:de (λb=>b=d+1) W w3:=(v4.to).trans m3;have hXq:∀b,X b->b<q/\(X0 b\/d+1<b):=λb g=>⟨by grind,(n b g).2.1⟩
  have t:∀b,X b->b≠d+1/\b≠d:=λb g=>by
   rcases(n b g).2.1 with h|h
   ·have:=M b h;omega
   ·omega
  have D:∀(m:Wt_) (y:NP_) (o:Obj),de X w3 m->(∀b,y b->(X b\/w3.heap.size<=b)/\b<m.heap.size)->
    de X0 w (m.putObj (d+1) o)/\hp (m.putObj (d+1) o) d=some (.deferred (some []))/\(∀b,y b->b<(m.putObj (d+1) o).heap.size/\(X0 b\/d+1<b)/\¬Q b)/\(∀b,Q b->d+1<b/\b<(m.putObj (d+1) o).heap.size)/\
    (∀b,Q b->(m.putObj (d+1) o).heap[b]? =W.heap[b]?)/\W.heap.size<=(m.putObj (d+1) o).heap.size/\m.heap[d+1]? =some (.loop {k with state:=.busy}):=by
   intro m y o j z;have N:=p m o;have hsW:=j.size;have hsP:=N.size;refine⟨?_,N.hpk (j.hpk (m3.hpk (v4.hpk L id) qZ) λg=>(t _ g).2 rfl) qZ,λb g=>?_,λb g=>?_,λb g=>?_,qZ,j.keep r3 λg=>(t _ g).1 rfl⟩
   ·refine(((F.on M3 λb g=>gz).on j λb g=>?_)).on N λb g=>gz;rcases(n b g).2.1 with h|h
    ·exact .inl h
    ·exact gz
   ·have u:=z b g;refine⟨qZ,?_,λhq=>?_⟩
    ·rcases u.1 with h|h
     ·exact(n b h).2.1
     ·exact gz
    ·rcases u.1 with h|h
     ·exact(n b h).2.2 hq
     ·grind
   ·have:=R b g;omega
   ·have hb' :=R b g;rw[N.blk b qZ qZ,j.blk b qZ λP=>(n b P).2.2 g,M3.blk b hb'.2 qZ]
  refine V X i hi w3 q (C _ _ _ _ _ O M3 λb g=>(t b g).1) (F.on M3 λb g=>gz) (by grind) qZ hql q3 _ _ ?_ ?_
  ·intro y m hI' j z;obtain⟨k1,k2,k3,k4,k5,k6,k7⟩:=D m y (.loop {{k with state:=.busy}with state:=.ready,pending:=none}) j z;refine⟨_,k7,hT _ ⟨y,?_,k1,k2,k3,?_,k4⟩ k6 k5⟩
   ·refine C _ _ _ _ _ hI' (p m _) λb g e=>?_;rcases(z b g).1 with h|h
    ·exact(t b h).1 e
    ·omega
   ·rw[fY,bZ rfl,k7];simp[<-s,<-G]
  ·intro c y m hI' j z;obtain⟨k1,k2,k3,k4,k5,k6,k7⟩:=D m y (.loop {{k with state:=.busy}with state:=.done,pending:=some c}) j z;refine⟨_,k7,hF _ ⟨c,y,{k with state:=.done,pending:=some c},?_,k1,k2,k3,?_,k4,rfl,rfl⟩ k6 k5⟩
   ·refine hsx _ _ _ _ _ hI' (p m _) λb g e=>?_;rcases(z b g).1 with h|h
    ·exact(t b h).1 e
    ·omega
   ·rw[fY,bZ rfl,k7];rfl
 ·rintro Q W ⟨X,O,F,L,n,B,R⟩;refine⟨k,B,by rw[s];decide,?_⟩;rw[<-A];have j:=p W (.loop {k with state:=.exhausted});generalize W.putObj (d+1) (.loop {k with state:=.exhausted})=W8 at j|-;rw[G]
  have t:∀b,X b->b≠d+1:=λb g=>by
   rcases(n b g).2.1 with h|h
   ·have:=M b h;omega
   ·omega
  refine hend X _ d A ?_ (F.on j λb g=>gz) (j.hpk L qZ) λb g=>⟨ep (n b g).1 j.size,(n b g).2.1⟩
  have P:I X xs.length W:=by grind
  exact C _ _ _ _ _ P j λb g=>t b g
 ·rintro Q W ⟨c,X,r,O,F,L,n,B,R,h7,h8⟩;refine⟨r,B,by rw[h7];decide,?_⟩;rw[<-A];have j:=p W (.loop {r with state:=.exhausted});generalize W.putObj (d+1) (.loop {r with state:=.exhausted})=W8 at j|-;rw[h8]
  have t:∀b,X b->b≠d+1:=λb g=>by
   rcases(n b g).2.1 with h|h
   ·have:=M b h;omega
   ·omega
  exact Z c X _ d A (hsx _ _ _ _ _ O j λb g=>t b g) (F.on j λb g=>gz) (j.hpk L qZ) λb g=>⟨ep (n b g).1 j.size,(n b g).2.1⟩
end
def Bz{d:Nat}{K:World->Prop}(h:hp W d=some (.deferred (some [])))(e:∀a,de (λb=>b=d) W a->K a):lj ([d]++[]) W K:=
 Nk (by simp) (λx c=>by grind) λa m=>e a (m.mono λx _ c=>by simpa using c)
def rS.od{xs:List Od}:rS pz oG fL xs:=λa _ W=>by
 obtain⟨c,e,d,h⟩:=kD W;obtain⟨i,j,g,f⟩:=jK (o' :=a) d;exact⟨c,i,e,j,g,h.on f λb k=>gz⟩
def Ub{α:Type}{xs:List α}{XS:List (List Value)}{TF:TypeId}{fv:α->Value}{fc:α->List Value}{u:List Nat->Option Code->World->Prop}{Q0:NP_}{yl n0 k:Nat}
  {J:(Nat->Prop)->Nat->World->Prop}{Js:(Nat->Prop)->World->Prop}
  (ht:th gv (xs.map λa=>[fv a]) w)(hv:rS T fv fc xs)
  (hld:∀a∈xs,∀(W:Wt_) q,hC W q (fc a).toArray T->(iL T (pt q 0)).run pQ W=.ok (fv a) W)
  (s:∀Q p i W e,J Q i W->de Q W e->(∀b,p b->(Q b\/W.heap.size<=b)/\b<e.heap.size)->J p i e)
  (y:∀Q p W e,Js Q W->de Q W e->(∀b,p b->(Q b\/W.heap.size<=b)/\b<e.heap.size)->Js p e)
  (R:∀Q i x W,XS[i]? =some x->J Q i W->∀K' :cG,(∀e,J Q (i+1) e->W.heap.size<=e.heap.size->(∀b,Q b->e.heap[b]? =W.heap[b]?)->K' (.bool true) e)->(∀e,Js Q e->W.heap.size<=e.heap.size->(∀b,Q b->e.heap[b]? =W.heap[b]?)->K' (.bool false) e)->iv pQ (.func (.yield yl) #[] #[]) x W K')
  (hxs:∀i (hi:i<xs.length),XS[k+i]? =some [fv xs[i]])
  (hy:hC w n0 #[.func (.yield yl) #[] #[]] TF)(hyl:∀W,hp W n0=some (.cells #[.func (.yield yl) #[] #[]] TF (0,0))->(iL TF (pt n0 0)).run pQ W=.ok (.func (.yield yl) #[] #[]) W)
  (hn0:Q0 n0)(hQ0:∀b,Q0 b->b<w.heap.size)(hJ0:J Q0 k w)
  (hend:∀Q W d,d=w.heap.size->J Q (k+xs.length) W->(∀b,Q0 b->Q b)->Q d->(∀b,Q b->b<W.heap.size)->(∀b,Q b->Q0 b\/w.heap.size<=b)->(∀b,Q0 b->W.heap[b]? =w.heap[b]?)->hp W d=some (.deferred (some []))->u [d] none W)
  (Y:∀Q W d,d=w.heap.size->Js Q W->(∀b,Q0 b->Q b)->Q d->(∀b,Q b->b<W.heap.size)->(∀b,Q b->Q0 b\/w.heap.size<=b)->(∀b,Q0 b->W.heap[b]? =w.heap[b]?)->hp W d=some (.deferred (some []))->u [d] (some .ret) W):
  yP pQ none gv w 1 (λl x W KN KJ=>rv pQ (iA T true (.tuple #[])) W λv w1=>ru pQ (iS T v (x.getD 0 undef)) w1 λw2=>lC l w2 λw3=>
   rv pQ (iL TF (pt n0 0)) w3 λv41 w42=>rv pQ (iL T v) w42 λv43 w44=>iv pQ v41 [v43] w44 λv45 w46=>rv pQ (Op.unary .not v45) w46 λv47 w48=>cV v47 (KJ .ret w48) (KN w48)) u:=by
 obtain⟨⟨Ok,hit,hok⟩,-⟩:=ht;obtain⟨f,first,captured,rfl,hit0⟩:=hit.out;apply wu.2;show∀g:Loop,_;intro g n G hD hY;obtain⟨d,C⟩:=dW w.heap.size;have P:(w.alloc (.deferred (some []))).heap.size=d+1:=by rw[eG,C]
 obtain⟨wr,F⟩:=dW ((w.alloc (.deferred (some []))).alloc (.loop g));have O:wr.heap[d+1]? =some (.loop g):=by rw[F,gy,bZ P.symm]
 have hszr:wr.heap.size=d+2:=by rw[F,eG,P]
 have X:hp wr d=some (.deferred (some [])):=by rw[F];simp[go_sem,C]
 have hmr:M0 w wr:=by rw[F];exact lm.alloc _
 have m:∀(W:Wt_) (o:Obj),de (λb=>b=d+1) W (W.putObj (d+1) o):=λW o=>(de.refl (λb=>b=d+1) W).putObj (b:=d+1) (.inl rfl) o;rw[P]at hY|-;rw[<-F];let U:(Nat->Prop)->Nat->Prop:=λQ b=>Q0 b\/b=d\/b=d+1\/Q b;let S:(Nat->Prop)->World->Prop:=λQ W=>hp W d=some (.deferred (some []))/\(∀b,Q b->d+1<b/\b<W.heap.size)/\∀b,Q0 b->W.heap[b]? =w.heap[b]?
 have hS:∀(Q p H:NP_) (W e:Wt_),S Q W->d+2<=W.heap.size->de H W e->(∀b,H b->Q b\/b=d+1)->(∀b,p b->(Q b\/W.heap.size<=b)/\b<e.heap.size)->S p e:=by
  rintro Q p H W e ⟨s1,s2,s3⟩ hl j hH A;refine⟨j.hpk s1 λc=>?_,λb c=>?_,λb c=>?_⟩
  ·rcases hH _ c with h|h
   ·have:=s2 _ h;omega
   ·omega
  ·have ha:=A b c;rcases ha.1 with h|h
   ·grind
   ·grind
  ·have hbl:=hQ0 b c;rw[j.blk b qZ λhx=>?_,s3 b c];rcases hH _ hx with h|h
   ·have:=s2 _ h;omega
   ·omega
 have M:∀(Q p:NP_) (W e:Wt_),d+2<=W.heap.size->W.heap.size<=e.heap.size->(∀b,p b->(Q b\/W.heap.size<=b)/\b<e.heap.size)->∀b,U p b->(U Q b\/W.heap.size<=b)/\b<e.heap.size:=by
  rintro Q p W e K I t b (h|h|h|h)
  ·grind
  ·grind
  ·grind
  ·grind
 have z:∀{H Q:NP_} {W e:Wt_},de H W e->(∀b,H b->Q b\/b=d+1)->de (U Q) W e:=λj hH=>j.mono λb _ c=>by
  rcases hH b c with h|h
  ·grind
  ·grind
 refine hit0 _ (λQ i W=>J (U Q) (k+i) W/\S Q W/\W.heap[d+1]? =some (.loop g))
  (λQ W=>∃r,Js (U Q) W/\S Q W/\W.heap[d+1]? =some (.loop r)/\r.state=.done/\r.pending=some .ret) _ _ (hok _ hmr) ?_ ?_ ?_ ?_ ?_ ?_
 ·intro Q W1 j hQ;have hs1:=j.size;refine⟨s _ _ _ _ _ hJ0 ((hmr.trans j).to) ?_,⟨j.hpk X id,λb c=>by grind,λb c=>?_⟩,j.keep O id⟩
  ·rintro b (h|h|h|h)
   ·grind
   ·grind
   ·grind
   ·grind
  ·exact(hmr.trans j).blk b (hQ0 b c) id
 ·rintro Q p i W e ⟨K,I,t⟩ j A;have hl:=cB t;exact⟨s _ _ _ _ _ K (z j λb c=>.inl c) (M Q p W e qZ j.size A),hS _ _ _ _ _ I qZ j (λb c=>.inl c) A,j.keep t λc=>by grind⟩
 ·rintro Q p W e ⟨r,K,I,t,h4⟩ j A;have hl:=cB t;exact⟨r,y _ _ _ _ K (z j λb c=>.inl c) (M Q p W e qZ j.size A),hS _ _ _ _ _ I qZ j (λb c=>.inl c) A,j.keep t λc=>by grind,h4⟩
 ·rintro Q i x W hx ⟨K,I,t⟩ K' hT hF;apply oe.2;show Yl pQ (d+1) ⟨_⟩ W K';have e1:(#[]:Array Value).toList++x=x:=rfl;rw[e1]
  obtain⟨hi,rfl⟩:∃hi:i<xs.length,x=[fv xs[i]]:=by
   rw[dO]at hx;cases hh:xs[i]? with
   |none=>rw[hh]at hx;cases hx
   |some o=>
    obtain⟨hj,he⟩:=cP.1 hh;rw[hh]at hx;exact⟨hj,by grind⟩
  apply hY _ W K' rfl ⟨g.state,g.pending,t⟩;obtain⟨w1,w2,v1,v2,v3,v4⟩:=hv xs[i] (cC hi) W;obtain⟨q,hq0⟩:=dW W.heap.size;rw[<-hq0]at v1 v2 v3;apply cI v1;show ru pQ (iS T (pt q 0) (fv xs[i])) w1 _;apply ir v2;have r2:w2.heap[d+1]? =some (.loop g):=v4.keep t id;apply ux r2 n;have m3:=m w2 (.loop {g with state:=.busy});have r3:(w2.putObj (d+1) (.loop {g with state:=.busy})).heap[d+1]? =some (.loop {g with state:=.busy}):=by rw[fY,bZ rfl,r2];rfl
  generalize w2.putObj (d+1) (.loop {g with state:=.busy})=w3 at m3 r3|-;have hdl:d+1<q:=by grind
  have q3:=m3.hpk v3 qZ;have hs3:=m3.size;have hs4:=v4.size;have M3:de (λb=>b=d+1) W w3:=(v4.to).trans m3;have hQs:∀(e:Wt_),W.heap.size<=e.heap.size->∀b,Q b->(Q b\/W.heap.size<=b)/\b<e.heap.size:=λe hs b c=>⟨.inl c,by grind⟩
  have hJ3:=s _ _ _ _ _ K (z (Q:=Q) M3 λb c=>.inr c) (M Q Q W w3 qZ M3.size (hQs _ M3.size));have hS3:=hS _ _ _ _ _ I qZ M3 (λb c=>.inr c) (hQs _ M3.size);refine cI (hyl _ ?_) ?_
  ·have:=hS3.2.2 n0 hn0;unfold hp;rw[this];exact hy
  apply cI (hld xs[i] (cC hi) _ _ q3)
  have L:∀(e:Wt_) (o:Obj),w3.heap.size<=e.heap.size->(∀b,U Q b->e.heap[b]? =w3.heap[b]?)->
    e.heap[d+1]? =some (.loop {g with state:=.busy})/\S Q (e.putObj (d+1) o)/\(∀b,Q b->(e.putObj (d+1) o).heap[b]? =W.heap[b]?)/\W.heap.size<=(e.putObj (d+1) o).heap.size:=by
   intro e o hs B;have Z:=m e o;have hsp:=Z.size;have hs' :S Q e:=⟨by unfold hp;rw[B d (.inr (.inl rfl))];exact hS3.1,λb c=>by grind,λb c=>by grind⟩
   refine⟨by grind,hS _ _ _ _ _ hs' qZ Z (λb c=>.inr c) λb c=>⟨.inl c,by grind⟩,λb c=>?_,qZ⟩;have ha:=I.2.1 b c;rw[Z.blk b qZ qZ,B b (.inr (.inr (.inr c))),M3.blk b ha.2 qZ]
  refine R _ _ _ _ (hxs i hi) hJ3 _ (λe V hs B=>?_) λe V hs B=>?_
  ·refine qSf0 ?_;obtain⟨k1,k2,k3,k4⟩:=L e (.loop {{g with state:=.busy}with state:=.ready,pending:=none}) hs B;refine⟨_,k1,hT _ ⟨?_,k2,?_⟩ k4 k3⟩
   ·exact s _ _ _ _ _ V (z (Q:=Q) (m e _) λb c=>.inr c) (M Q Q e _ qZ (m e _).size λb c=>⟨.inl c,(k2.2.1 b c).2⟩)
   ·rw[fY,bZ rfl,k1];simp[<-n,<-G]
  ·refine qSt0 ?_;obtain⟨k1,k2,k3,k4⟩:=L e (.loop {{g with state:=.busy}with state:=.done,pending:=some .ret}) hs B;refine⟨_,k1,hF _ ⟨{g with state:=.done,pending:=some .ret},?_,k2,?_,rfl,rfl⟩ k4 k3⟩
   ·exact y _ _ _ _ V (z (Q:=Q) (m e _) λb c=>.inr c) (M Q Q e _ qZ (m e _).size λb c=>⟨.inl c,(k2.2.1 b c).2⟩)
   ·rw[fY,bZ rfl,k1];rfl
 ·rintro Q W ⟨K,I,t⟩;refine⟨g,t,by rw[n];decide,?_⟩;rw[<-C];have hl:=cB t;have j:=m W (.loop {g with state:=.exhausted});generalize W.putObj (d+1) (.loop {g with state:=.exhausted})=N at j|-;have hs8:=j.size;rw[G];have D:∀b,Q b->(Q b\/W.heap.size<=b)/\b<N.heap.size:=λb c=>⟨.inl c,by grind⟩
  have E:=hS _ _ _ _ _ I qZ j (λb c=>.inr c) D;have h1' :J (U Q) (k+xs.length) W:=by grind
  refine hend (U Q) N d C (s _ _ _ _ _ h1' (z (Q:=Q) j λb c=>.inr c) (M Q Q W N qZ j.size D)) (λb c=>.inl c) (.inr (.inl rfl)) (λb c=>?_) (λb c=>?_) E.2.2 E.1
  ·grind
  ·rcases c with h|h|h|h
   ·exact .inl h
   ·exact gz
   ·exact gz
   ·exact .inr (by grind)
 ·rintro Q W ⟨r,K,I,t,h4,h5⟩;refine⟨r,t,by rw[h4];decide,?_⟩;rw[<-C];have hl:=cB t;have j:=m W (.loop {r with state:=.exhausted});generalize W.putObj (d+1) (.loop {r with state:=.exhausted})=N at j|-;have hs8:=j.size;rw[h5];have D:∀b,Q b->(Q b\/W.heap.size<=b)/\b<N.heap.size:=λb c=>⟨.inl c,by grind⟩
  have E:=hS _ _ _ _ _ I qZ j (λb c=>.inr c) D;refine Y (U Q) N d C (y _ _ _ _ K (z (Q:=Q) j λb c=>.inr c) (M Q Q W N qZ j.size D)) (λb c=>.inl c) (.inr (.inl rfl)) (λb c=>?_) (λb c=>?_) E.2.2 E.1
  ·exact(M Q Q W N qZ j.size D b c).2
  ·rcases c with h|h|h|h
   ·exact .inl h
   ·exact gz
   ·exact gz
   ·grind
def lp.keep{s:Nat}{buy:Bool}{l:List Od}(h:lp w s F buy l)(c:∀b,F b->w'.heap[b]? =w.heap[b]?):lp w' s F buy l:=by
 obtain⟨⟨sl,g,e,a,f⟩,i,d⟩:=h;exact⟨⟨sl,(c s ((a s).2 (.inl rfl))).trans g,e.keep λb j=>c b ((a b).2 (.inr j)),a,f⟩,i,d⟩
def ag0:∀a:Od,∀(W:Wt_) q,hC W q (fL a).toArray pz->(iL pz (pt q 0)).run pQ W=.ok (oG a) W:=λa W q h=>lM (o:=a) (At.all h)
def Tm{vb:Nat}:RZ pQ (.func (.func 56) #[] #[.pointer (some ⟨vb,0,none⟩)]) ((B true++B false).map λo=>[oG o]) (λW=>hC W vb #[jY b] T/\∃F,kK W b F B):=by
 refine⟨⟨_,_,_,rfl,?_⟩⟩;rintro w J Js W K ⟨R,F,hq⟩ h0 m l u H hex;show Ca pQ _ #[.func (.yield w) #[] #[],.pointer (some ⟨vb,0,none⟩)] W K;apply at4;obtain⟨z,E⟩:=dW W.heap.size;have U:M0 W (W.alloc (.cells #[.func (.yield w) #[] #[]] 141)):=lm;have Z:hC (W.alloc (.cells #[.func (.yield w) #[] #[]] 141)) z #[.func (.yield w) #[] #[]] 141:=by rw[E];simp[go_sem]
 apply cx (pt z 0) (W.alloc (.cells #[.func (.yield w) #[] #[]] 141)) (by rw[E];rfl);generalize W.alloc (.cells #[.func (.yield w) #[] #[]] 141)=w1 at U Z|-;have O:=U.hpk R id;have L:=hq.mod U eQ;apply cx (jY b) w1 (by simp[go_sem,O,jY]);apply sY L;refine qSf0 ?_;apply cx (jY b) w1 (by simp[go_sem,O,jY]);refine EY L λb' F' w2 q2 m2 n2=>?_;obtain⟨s,G,hr,hF'⟩:=q2.r;have md:M0 w2 w2.drew:=mP;have r:=hr.mod md id λ_ _ _ h=>h;have c0:=r.blk;simp only[jY,dr];refine qP0 ?_;refine qW1 c0 ?_;refine qP0 ?_;refine qW1 c0 ?_;refine oJ [fQ (s true),fQ (s false)] psU (eO psE) rfl rfl (by intro v hv;simp only[cH,mi,or_false]at hv;rcases hv with rfl|rfl<;>rfl) qZ ?_;have e0:(([fQ (s true),fQ (s false)]:LV_).flatMap (·.cells.toList)).toArray= #[fQ (s true),fQ (s false)]:=rfl;rw[e0];have M2:=(U.trans m2).trans md;have V:=m2.hpk Z id;have V:=md.hpk V id;generalize w2.drew=C at md r c0 M2 V|-;obtain⟨q,D⟩:=dW C.heap.size;have A:M0 C (C.alloc (.cells #[fQ (s true),fQ (s false)] 142)):=lm;have b4:hC (C.alloc (.cells #[fQ (s true),fQ (s false)] 142)) q #[fQ (s true),fQ (s false)] 142:=by rw[D];simp[go_sem]
 rw[<-D];generalize C.alloc (.cells #[fQ (s true),fQ (s false)] 142)=w4 at A b4|-;have r4:=r.mod A id λ_ _ _ h=>h;have n4:=A.hpk V id;have M4:=M2.trans A;refine qW0 ?_;have hs2:=m2.size;have hsd:=md.size;have hs4:=A.size;have hn0l:=cB Z;have hql:=cB b4;have n:∀d x,G d x->W.heap.size<=x/\x<w4.heap.size:=λd x c=>⟨by have:=n2 x ((hF' x).2 (.inr (by cases d;exact .inr c;exact .inl c)));omega,r4.lt c⟩
 let g:Nat->Nat:=λi=>if i=0 then 0 else if i=1 then(B true).length else(B true++B false).length
 let St:(Nat->Prop)->List Nat->World->Prop:=λQ ds f=>hC f z #[.func (.yield w) #[] #[]] 141/\hC f q #[fQ (s true),fQ (s false)] 142/\(∀d,lp f (s d) (G d) d (B d))/\
  (∀d∈ds,hp f d=some (.deferred (some []))/\Q d)/\ds.Nodup/\(∀b,Q b->b<f.heap.size)/\Q z/\Q q/\∀d x,G d x->Q x
 have hJ4:J (λx=>x=z\/x=q\/G true x\/G false x) 0 w4:=h0 _ _ M4 λx c=>by
  rcases c with rfl|rfl|h|h
  ·omega
  ·omega
  ·exact n _ _ h
  ·exact n _ _ h
 refine eS (λst f=>∃(i:Nat) (Q:NP_) (ds:List Nat),i<=2/\st=((gI i,()),ds)/\J Q (g i) f/\St Q ds f)
  (λst _=>match st.1.1 with| .int _ i=>2 - i.toNat|_=>0) ⟨0,_,[],qZ,rfl,hJ4,n4,b4,r4.sd,λd r=>absurd r mi,nB,λx c=>?_,.inl rfl,.inr (.inl rfl),λd x c=>by cases d;exact .inr (.inr (.inr c));exact .inr (.inr (.inl c))⟩ ?_
 ·rcases c with rfl|rfl|h|h
  ·omega
  ·omega
  ·exact(n _ _ h).2
  ·exact(n _ _ h).2
 rintro⟨_,ds⟩ W5 ⟨i,Q,ds0,hi,⟨⟩,hJ,k1,k2,k3,k4,k5,k6,k7,k8,k9⟩ KN hKN;unfold UR;intro _;by_cases Y:i<2
 ·have M:(i:Int)<2:=qZ;refine qSt1 M ?_
  obtain⟨d,r⟩:∃d:Bool,(i=0/\d=true)\/(i=1/\d=false):=by
   by_cases h0:i=0
   ·exact⟨true,.inl ⟨h0,rfl⟩⟩
   ·exact⟨false,.inr ⟨qZ,rfl⟩⟩
  have N:¬(2:Int)<=(i:Int):=qZ;apply cx (pt q i) W5 (by simp[go_sem,Y,N,cS]);apply cx (fQ (s d)) W5 (by rcases r with⟨rfl,rfl⟩|⟨rfl,rfl⟩<;>simp[go_sem,k2]);refine K7 (k3 d) λgv w6 ht p=>?_;have hs6:=p.size;have X:=m _ Q _ _ _ hJ (p.to) λb R=>⟨.inl R,by grind⟩
  have hoff:g i+(B d).length=g (i+1):=by grind
  delta Vb
  refine Ub (XS:=(B true++B false).map λo=>[oG o]) (T:=pz) (fc:=fL) (Q0:=Q) (k:=g i) ht.m rS.od (λa _=>ag0 a) m l u ?_ (p.hpk k1 id) ?_ k7 (λb R=>by grind) X ?_ ?_
  ·intro j hj;rcases r with⟨rfl,rfl⟩|⟨rfl,rfl⟩
   ·grind
   ·grind
  ·intro f h;simp[go_sem,h]
  ·intro Q' f dd hdd I y a2 a3 a4 S a6;have t:∀x o,Q x->hp w6 x=some o->hp f x=some o:=λx o c h=>by unfold hp;rw[S x c];exact h
   have hSd:∀d,lp f (s d) (G d) d (B d):=λe=>(((k3 e).mod p eQ)).keep λx c=>S x (k9 e x c);unfold Rx;simp only[iJ];apply cx (gI ((i+1:Nat):Int)) f (by simp[go_sem];rw[wI_]);refine hKN _ _ ⟨i+1,Q',[dd]++ds,qZ,rfl,by grind,t _ _ k7 (p.hpk k1 id),t _ _ k8 (p.hpk k2 id),hSd,λx c=>?_,?_,a3,y _ k7,y _ k8,λe x c=>y _ (k9 e x c)⟩ (by grind)
   ·rcases cH.1 c with rfl|c
    ·exact⟨a6,a2⟩
    ·exact⟨t _ _ (k4 x c).2 (p.hpk (k4 x c).1 id),y _ (k4 x c).2⟩
   ·grind
  ·intro Q' f dd hdd I y a2 a3 a4 S a6;unfold Rx;simp only[iJ];refine Nk (ds:=[dd]++ds) ?_ ?_ λW8 P=>?_
   ·grind
   ·intro x c;rcases cH.1 c with rfl|c
    ·exact a6
    ·unfold hp;rw[S x (k4 x c).2];exact p.hpk (k4 x c).1 id
   ·refine hex _ _ (l _ Q' _ _ I (P.mono λx _ c=>?_) λx c=>⟨.inl c,by have:=a3 x c;have:=P.size;omega⟩);rcases cH.1 c with rfl|c
    ·exact a2
    ·exact y _ (k4 x c).2
 ·obtain rfl:i=2:=qZ;refine qSf0 ?_;refine Nk (ds:=ds) k5 (λx c=>(k4 x c).1) λW8 P=>?_;apply H Q _;have e:g 2=((B true++B false).map λo=>[oG o]).length:=by simp[g]
  rw[<-e];exact m _ Q _ _ _ hJ (P.mono λx _ c=>(k4 x c).2) λx c=>⟨.inl c,by have:=k6 x c;have:=P.size;omega⟩
def Ce(h:kK w b F B)
  (e:∀gv a,th gv ((B true++B false).map λo=>[oG o]) a->M0 w a->K gv a):Ca pQ 31 #[jY b] w K:=by
 apply aE8;have c:M0 w (w.alloc (.cells #[jY b] 100)):=lm;apply cx (pt w.heap.size 0) (w.alloc (.cells #[jY b] 100)) (by simp[go_sem,jY]);have d:hC (w.alloc (.cells #[jY b] 100)) w.heap.size #[jY b] 100:=by simp[go_sem]
 exact e _ _ ⟨⟨_,Tm (b:=b) (vb:=w.heap.size) (B:=B) (T:=100),λW m=>⟨m.hpk d id,F,h.mod (c.trans m) eQ⟩⟩,_,_,rfl⟩ c
def kK.slt(h:kK w b F B):b<w.heap.size:=h.lt h.self
def kK.nn(h:kK w b F B):∀d,(B d).length<=100/\∀o∈B d,o.may=true/\o.buy=d/\o.Fit:=by
 obtain⟨s,G,a,c⟩:=h.r;exact λd=>⟨(a.sd d).len,(a.sd d).may⟩
def zu(h:kK w b F B)
  (f:∀d c,kK c b d (jX B n).2.1->de F w c->(∀x,d x->F x\/w.heap.size<=x)->
   K (.tuple #[oG (jX B n).2.2,gI (jX B n).1]) c):Ca pQ 137 #[jY b,gQ n] w K:=by
 obtain⟨s,G,i,g⟩:=h.r;refine G5 i λl c e j k=>f _ _ e.q (j.mono λx _ a=>(g x).2 (.inr a)) λx a=>?_;rcases a with a|a|a
 ·grind
 ·grind
 ·grind
def EP{k:Int}(h:kK w b F B)(j:o.Fit)(m:0<=k/\k<256)
  (n:∀i e f d,kK d b i (gD B o k).2.1->Ji d e f (gD B o k).2.2.trades (gD B o k).2.2.gone->de F w d->(∀x,i x->F x\/w.heap.size<=x)->
   (∀x,cK e x\/cK f x->w.heap.size<=x/\¬i x)->K (.tuple #[.agg (uy e f (gD B o k).2.2.filled (gD B o k).2.2.left),gI (gD B o k).1]) d):Ca pQ 145 #[jY b,oG o,gB k] w K:=by
 obtain⟨s,G,q,p⟩:=h.r;have y:=h.slt;refine Q6 q j m λv e f d l t r u g=>n _ e f _ l.q t (r.mono λx _ a=>(p x).2 (.inr a)) (λx a=>?_) λx a=>⟨(g x a).1,λc=>?_⟩
 ·rcases a with a|a|a
  ·grind
  ·grind
  ·grind
 ·rcases c with c|c|c
  ·grind
  ·exact(g x a).2 _ c
  ·exact(g x a).2 _ c
def BC(h:kK w b F B)(i:jl price)(f:jl left)
  (m:∀k e g d,kK d b k (fX B n price left).2.1->Ji d e g (fX B n price left).2.2.trades (fX B n price left).2.2.gone->de F w d->(∀x,k x->F x\/w.heap.size<=x)->
   (∀x,cK e x\/cK g x->w.heap.size<=x/\¬k x)->K (.tuple #[.agg (uy e g (fX B n price left).2.2.filled (fX B n price left).2.2.left),gI (fX B n price left).1]) d):Ca pQ 142 #[jY b,gQ n,gI price,gI left] w K:=by
 obtain⟨s,G,p,o⟩:=h.r;have v:=h.slt;refine JI p i f λu e g d l r q t j=>m _ e g _ l.q r (q.mono λx _ a=>(o x).2 (.inr a)) (λx a=>?_) λx a=>⟨(j x a).1,λc=>?_⟩
 ·rcases a with a|a|a
  ·grind
  ·grind
  ·grind
 ·rcases c with c|c|c
  ·grind
  ·exact(j x a).2 _ c
  ·exact(j x a).2 _ c
def MY(h:kK w b F B)
  (d:∀a,M0 w a->K (.tuple #[oG (match B.find n with|none=>pC|some (o,_)=>o),gI (match B.find n with|none=>7|some _=>0)]) a):Ca pQ 168 #[jY b,gQ n] w K:=by
 obtain⟨s,G,c,e⟩:=h.r;exact OT c d
def Bk.all(B:Bk):List Od:=B true++B false
def kK.all(h:kK w b F B):B.all.length<=200/\∀o∈B.all,o.may=true/\o.Fit:=by
 have:=h.nn;refine⟨by unfold Bk.all;rw[cD];have d:=(this true).1;have c:=(this false).1;omega,λo a=>?_⟩;rcases dg.1 a with a|a
 ·grind
 ·grind
def pA(a:Int)(o:Od):Bool:=decide (a=0)||decide (o.acct=a)
def yr(a:Int)(B:Bk)(l:List Od):Bk:=l.foldl (λB o=>if pA a o then(jX B o.num).2.1 else B) B
def qi(B:Bk)(a:Int):Bk×List Od:=(yr a B B.all,B.all.filter (pA a))
def Dy(a:Int)(B:Bk)(l:List Od)(o:Od):yr a B (l++[o])=if pA a o then(jX (yr a B l) o.num).2.1 else yr a B l:=by
 unfold yr;rw[kH];rfl
def eA{α:Type}{l:List α}(hi:i<l.length):l.take (i+1)=l.take i++[l[i]]:=by
 rw[kL,cE hi];rfl
def KV(h:kK w b F B)
  (hK:∀m sl w',kK w' b m (qi B a).1->qR w' sl (qi B a).2->de F w w' ->(∀x,m x->F x\/w.heap.size<=x)->(∀x,cK sl x->w.heap.size<=x/\¬m x)->K sl w'):Ca pQ 135 #[jY b,gU a] w K:=by
 apply Zo;obtain⟨g,r⟩:=dW w.heap.size
 have hlay:∃u,((w.alloc (.cells #[jY b] 100)).alloc (.cells #[.int .u32 a] 23) |>.alloc (.cells #[dv] 95))=u/\u.heap.size=g+3/\M0 w u/\
   hC u g #[jY b] 100/\hC u (g+1) #[.int .u32 a] 23/\hC u (g+2) #[dv] 95:=by
  refine⟨_,rfl,by simp[go_sem,r],(lm.alloc _).alloc _,?_,?_,?_⟩<;>simp[go_sem,r]
 obtain⟨u,hw3,hsz3,m3,b0,b1,b2⟩:=hlay;apply cx (pt g 0) (w.alloc (.cells #[jY b] 100)) (by simp[go_sem,jY,r]);refine qSv1 (pt (g+1) 0) r ?_;apply cx (pt (g+2) 0) u (by rw[<-hw3];simp[go_sem,r,dv]);clear hw3;apply cx (jY b) u (by simp[go_sem,b0,jY]);refine Ce (h.mod m3 eQ) λgv w5 ht V=>?_;have M5:=m3.trans V;have q5:=h.mod M5 eQ;have hs5:=V.size;have y:∀x,F x->x<g:=λx c=>by rw[r];exact h.lt c
 have hal:=h.all
 let I:(Nat->Prop)->Nat->World->Prop:=λX i W=>∃m sl,kK W b m (yr a B (B.all.take i))/\qR W sl ((B.all.take i).filter (pA a))/\hC W g #[jY b] 100/\hC W (g+1) #[.int .u32 a] 23/\
  hC W (g+2) #[sl] 95/\(∀x,X x↔(g<=x/\x<g+3)\/m x\/cK sl x)/\(∀x,cK sl x->g+3<=x/\¬m x)/\∀x,m x->F x\/g+3<=x
 delta Pa
 refine zj (X0:=λx=>(g<=x/\x<g+3)\/F x) (T:=pz) (fc:=fL) ht rS.od I (λ_ _ _=>False) ?_ (λ_ _ _ _ _ h=>h.elim) (λx c=>?_) ⟨F,dv,q5,jo.nil _ _ _,V.hpk b0 id,V.hpk b1 id,V.hpk b2 id,λx=>?_,λx c=>(by cases c),λx c=>.inl c⟩ ?_ ?_ (λ_ _ _ _ _ h=>h.elim)
 ·rintro X i W R H ⟨m,sl,M,D,Q,J,C,k,v,A⟩ Z z;exact⟨m,sl,M.mod Z λx c=>z x ((k x).2 (.inr (.inl c))),D.mod Z λx c=>z x ((k x).2 (.inr (.inr c))),Z.hpk Q (z _ ((k _).2 (.inl qZ))),Z.hpk J (z _ ((k _).2 (.inl qZ))),Z.hpk C (z _ ((k _).2 (.inl qZ))),k,v,A⟩
 ·rcases c with c|c
  ·omega
  ·have:=y x c;omega
 ·constructor
  ·rintro(c|c)
   ·exact .inl c
   ·exact .inr (.inl c)
  ·rintro(c|c|c)
   ·exact .inl c
   ·exact .inr c
   ·cases c
 ·rintro X i hi W q ⟨m,sl,M,D,Q,J,C,k,v,A⟩ mW z hdq hqW zgq KN KJ Y hKJ;have p:=zgq;unfold fL at p;obtain⟨o,ho⟩:=dW (B.all[i]);have hoo:((B true++B false)[i]'hi)=o:=ho.symm;rw[hoo]at zgq p;have N:=eA (l:=B.all) hi;have S:B.all[i]'hi=o:=ho.symm;rw[S]at N;have hnq:∀x,X x->x≠q:=λx c=>by grind
  refine dK.at (λst R=>st=(.bool (pA a o),())/\R=W) ?_ ?_
  ·apply cI (by simp[-Int.natCast_add,go_sem,J]<;>first|exact sI|exact rfl);by_cases ha:a=0
   ·refine qS1 ha ?_;rw[kx];exact⟨by simp[pA,ha],rfl⟩
   ·refine qSv1 (.bool false) ha ?_;rw[gP];refine qS1 p ?_;apply cI (by simp[-Int.natCast_add,go_sem,p]<;>first|exact sI|exact rfl);apply cI (by simp[-Int.natCast_add,go_sem,J]<;>first|exact sI|exact rfl);apply cx (.bool (decide (o.acct=a))) W (by simp[go_sem];rfl);exact⟨by simp[pA,ha],rfl⟩
  rintro _ R ⟨rfl,rfl⟩;unfold Sw;intro _;cases hof:pA a o with
  |false=>
   rw[gP];refine Y X R ⟨m,sl,?_,?_,Q,J,C,k,v,A⟩ lX λx c=>⟨.inl c,by grind⟩
   ·rw[N,Dy,aZ (by simp[hof])];exact M
   ·grind
  |true=>
   rw[kx];apply cx (jY b) R (by simp[go_sem,Q,jY]);refine qS1 p ?_;refine qS1 p ?_;refine zu M λF2 w6 q6 L n6=>?_;have m6X:de X R w6:=L.mono λx _ c=>(k x).2 (.inr (.inl c));have G:∀x,m x->X x:=λx c=>(k x).2 (.inr (.inl c))
   have n:∀x,m x->x≠q/\¬(g<=x/\x<g+3):=λx c=>⟨hnq x (G x c),λhc=>by
    rcases A x c with j|j
    ·have:=y x j;omega
    ·omega⟩
   have g5:=L.hpk C λc=>(n _ c).2 qZ;have g3:=L.hpk Q λc=>(n _ c).2 qZ;have g4:=L.hpk J λc=>(n _ c).2 qZ;have gq6:=L.hpk zgq λc=>(n _ c).1 rfl;have o6:=D.mod L λx c=>(v x c).2;obtain⟨sa,sc,t,-⟩:=D.isSl;refine qSv2 sl g5 t ?_;apply cI (lM (o:=o) (At.all gq6));have hs6:=L.size;have hfl:((B.all.take i).filter (pA a)).length<=200:=dD (dm _ _) (by grind);refine vK (x:=o) (f:=fL) mH (eO Oh) gM pD rfl o6 qZ qZ λE O o7 P n7=>?_;obtain⟨sa',sc',U,-⟩:=o7.isSl;have hs7:=P.size;have hslq:∀x,cK sl x->x≠q/\g+3<=x/\x<w6.heap.size:=λx c=>⟨hnq x ((k x).2 (.inr (.inr c))),(v x c).1,o6.lt c⟩
   have g5' :=P.hpk g5 λc=>by grind
   have g3' :=P.hpk g3 λc=>by grind
   have g4' :=P.hpk g4 λc=>by grind
   have s:de (λx=>x=g+2) O (O.setCell ⟨g+2,0,none⟩ E):=(de.refl (λx=>x=g+2) O).sc;apply pH (O.setCell ⟨g+2,0,none⟩ E) (by rw[U];simp[go_sem,g5']);have g5v:hC (O.setCell ⟨g+2,0,none⟩ E) (g+2) #[E] 95:=by simp[go_sem,g5']
   generalize O.setCell ⟨g+2,0,none⟩ E=w8 at s g5v|-;have hs8:=s.size;have q8:=(q6.mod P λx c hs=>?_).mod s λx c he=>?_
   ·have o8:qR w8 E (List.filter (pA a) (List.take i B.all)++[o]):=o7.mod s λx c he=>by
     rcases n7 x c with j|j
     ·grind
     ·grind
    have hF2:∀x,F2 x->F x\/g+3<=x:=λx c=>by
     rcases n6 x c with j|j
     ·exact A x j
     ·grind
    refine Y (λx=>(g<=x/\x<g+3)\/F2 x\/cK E x) w8 ⟨F2,E,?_,?_,s.hpk g3' qZ,s.hpk g4' qZ,g5v,λx=>fd,λx c=>?_,hF2⟩ ?_ λx c=>?_
    ·rw[N,Dy,bZ hof];exact q8
    ·grind
    ·rcases n7 x c with j|j
     ·refine⟨(hslq x j).2.1,λhf=>?_⟩;rcases n6 x hf with h2|h2
      ·exact(v x j).2 h2
      ·grind
     ·refine⟨by grind,λhf=>?_⟩;have:=q6.lt hf;omega
    ·refine(m6X.on P λx c=>.inl ((k x).2 (.inr (.inr c)))).on s λx c=>.inl ((k x).2 (.inl qZ))
    ·rcases c with c|c|c
     ·grind
     ·exact⟨(n6 x c).imp (G x) id,by have:=q6.lt c;omega⟩
     ·refine⟨?_,by have:=o8.lt c;omega⟩;rcases n7 x c with j|j
      ·grind
      ·exact gz
   ·rcases n6 x c with j|j
    ·exact(v x hs).2 j
    ·grind
   ·rcases n6 x c with j|j
    ·grind
    ·grind
 ·rintro X W d hd ⟨m,sl,M,D,Q,J,C,k,v,A⟩ mW hdef z;obtain⟨sa,sc,t,-⟩:=D.isSl;have e:B.all.take (B true++B false).length=B.all:=cN;rw[e]at M D;unfold Qv;simp only[iJ];refine qS2 C t ?_;have s:de (λx=>x=g+2) W (W.setCell ⟨g+2,0,none⟩ sl):=(de.refl (λx=>x=g+2) W).sc;apply pH (W.setCell ⟨g+2,0,none⟩ sl) (by rw[t];simp[go_sem,C]);have g5:hC (W.setCell ⟨g+2,0,none⟩ sl) (g+2) #[sl] 95:=by simp[go_sem,C]
  generalize W.setCell ⟨g+2,0,none⟩ sl=W2 at s g5|-;refine Bz (s.hpk hdef qZ) λW3 mr=>?_;have hd3:d=w5.heap.size:=hd;apply oy sl (by have:=mr.hpk g5 qZ;simp[go_sem,this,t])
  have hXd:∀x,X x->x≠d:=λx c=>by
   rcases(z x c).2 with(j|j)|j
   ·omega
   ·have:=y x j;omega
   ·omega
  refine hK m sl W3 ((M.mod s λx c he=>?_).mod mr λx c=>hXd x ((k x).2 (.inr (.inl c)))) ((D.mod s λx c he=>by grind).mod mr λx c=>hXd x ((k x).2 (.inr (.inr c)))) ?_ (λx c=>(A x c).imp id λ_=>qZ) λx c=>⟨by grind,(v x c).2⟩
  ·rcases A x c with j|j
   ·have:=y x j;omega
   ·omega
  ·refine(((M5.to).on mW λx c=>?_).on s λx c=>gz).on mr λx c=>gz;rcases c with c|c
   ·exact gz
   ·exact .inl c
def oM(l:List Od)(a:Int)(buy:Bool):Int:=((l.filter λo=>decide (o.acct=a)&& (o.buy==buy)).map (·.left)).sum
def ox(l:List Od)(o:Od)(a:Int)(buy:Bool):oM (l++[o]) a buy=oM l a buy+(if o.acct=a/\o.buy=buy then o.left else 0):=by
 unfold oM;rw[dJ,dy,g9];congr 1;by_cases h:o.acct=a/\o.buy=buy
 ·grind
 ·grind
def vF{l:List Od}{buy:Bool}(h:∀o∈l,1<=o.left/\o.left<=1000000):0<=oM l a buy/\oM l a buy<=l.length*1000000:=by
 have c:=vu (l:=(l.filter λo=>decide (o.acct=a)&& (o.buy==buy)).map (·.left)) (B:=1000000) λx d=>by
  obtain⟨o,b,rfl⟩:=cF.1 d;have:=h o (cO.1 b).1;omega
 rw[cz]at c;have e:=dm (λo:Od=>decide (o.acct=a)&& (o.buy==buy)) l;unfold oM;omega
def xd(B:Bk)(a:Int):Int×Int:=(oM B.all a true,oM B.all a false)
def Ns(h:kK w b F B)
  (hK:∀w',M0 w w' ->K (.tuple #[.int .i64 (xd B a).1,gI (xd B a).2]) w'):Ca pQ 206 #[jY b,gU a] w K:=by
 apply am9;obtain⟨c,k⟩:=dW w.heap.size
 have M:∃s,((w.alloc (.cells #[.int .u32 a] 23)).alloc (.cells #[.int .i64 0] 2) |>.alloc (.cells #[.int .i64 0] 2))=s/\s.heap.size=c+3/\M0 w s/\
   hC s c #[.int .u32 a] 23/\hC s (c+1) #[.int .i64 0] 2/\hC s (c+2) #[.int .i64 0] 2:=by
  refine⟨_,rfl,by simp[go_sem,k],(lm.alloc _).alloc _,?_,?_,?_⟩<;>simp[go_sem,k]
 obtain⟨s,J,hsz3,m3,b0,b1,b2⟩:=M;refine qSv1 (pt c 0) k ?_;apply cx (pt (c+1) 0) ((w.alloc (.cells #[.int .u32 a] 23)).alloc (.cells #[.int .i64 0] 2)) (by simp[go_sem,k]);apply cx (pt (c+2) 0) s (by rw[<-J];simp[go_sem,k]);clear J;refine Ce (h.mod m3 eQ) λgv w5 ht G=>?_;have M5:=m3.trans G;have hs5:=G.size;have Q:=h.all;have t:∀o∈B.all,1<=o.left/\o.left<=1000000:=λo p=>Od.left_bd (Q.2 o p).1
 let I:(Nat->Prop)->Nat->World->Prop:=λX i W=>hC W c #[.int .u32 a] 23/\hC W (c+1) #[.int .i64 (oM (B.all.take i) a true)] 2/\
  hC W (c+2) #[.int .i64 (oM (B.all.take i) a false)] 2/\X=λx=>c<=x/\x<c+3
 delta OX
 refine zj (X0:=λx=>c<=x/\x<c+3) (T:=pz) (fc:=fL) ht rS.od I (λ_ _ _=>False) ?_ (λ_ _ _ _ _ h=>h.elim) (λx r=>qZ) ⟨G.hpk b0 id,G.hpk b1 id,G.hpk b2 id,rfl⟩ ?_ ?_ (λ_ _ _ _ _ h=>h.elim)
 ·rintro X i W P H ⟨v,n,m,rfl⟩ U D;exact⟨U.hpk v (D _ qZ),U.hpk n (D _ qZ),U.hpk m (D _ qZ),rfl⟩
 ·rintro X i hi W q ⟨v,n,m,rfl⟩ mW D hdq hqW zgq KN KJ u hKJ;unfold fL at zgq;obtain⟨o,p⟩:=dW (B.all[i]);have R:((B true++B false)[i]'hi)=o:=p.symm;rw[R]at zgq;have f:=eA (l:=B.all) hi;have E:B.all[i]'hi=o:=p.symm;rw[E]at f;have hb1:=vF (l:=B.all.take i) (a:=a) (buy:=true) λo p=>t o (ek p);have hb2:=vF (l:=B.all.take i) (a:=a) (buy:=false) λo p=>t o (ek p);have hb3:=t o (by grind);have Y:(B.all.take i).length<=200:=by grind
  have y:∀(P:Wt_),W.heap.size<=P.heap.size->∀x,c<=x/\x<c+3->((c<=x/\x<c+3)\/W.heap.size<=x)/\x<P.heap.size:=λP hs x r=>⟨.inl r,by grind⟩
  apply cI (by simp[-Int.natCast_add,go_sem,zgq]<;>first|exact sI|exact rfl);apply cI (by simp[-Int.natCast_add,go_sem,zgq]<;>first|exact sI|exact rfl);apply cI (by simp[-Int.natCast_add,go_sem,v]<;>first|exact sI|exact rfl);by_cases A:o.acct=a
  ·refine qS1 A ?_;rw[gP];refine qS1 zgq ?_;apply cI (by simp[-Int.natCast_add,go_sem,zgq]<;>first|exact sI|exact rfl);cases g:o.buy with
   |true=>
    rw[kx];refine qS1 n ?_;refine qS1 zgq ?_;refine qS1 zgq ?_
    refine cx (gI (oM (B.all.take (i+1)) a true)) W (by
     rw[f,ox,bZ ⟨A,g⟩];simp[go_sem];rw[wI_]) ?_
    refine qU1 n ?_;have j:de (λx=>x=c+1) W (W.setCell ⟨c+1,0,none⟩ (gI (oM (B.all.take (i+1)) a true))):=(de.refl (λx=>x=c+1) W).sc;have k3:hC (W.setCell ⟨c+1,0,none⟩ (gI (oM (B.all.take (i+1)) a true))) (c+1) #[.int .i64 (oM (B.all.take (i+1)) a true)] 2:=by simp[go_sem,n]
    refine u _ _ ⟨j.hpk v qZ,k3,?_,rfl⟩ (j.mono λx _ r=>qZ) (y _ j.size);have:oM (B.all.take (i+1)) a false=oM (B.all.take i) a false:=by rw[f,ox,aZ (by simp[g]),ft]
    rw[this];exact j.hpk m qZ
   |false=>
    rw[gP];refine qS1 m ?_;refine qS1 zgq ?_;refine qS1 zgq ?_
    refine cx (gI (oM (B.all.take (i+1)) a false)) W (by
     rw[f,ox,bZ ⟨A,g⟩];simp[go_sem];rw[wI_]) ?_
    refine qU1 m ?_;have j:de (λx=>x=c+2) W (W.setCell ⟨c+2,0,none⟩ (gI (oM (B.all.take (i+1)) a false))):=(de.refl (λx=>x=c+2) W).sc;have k3:hC (W.setCell ⟨c+2,0,none⟩ (gI (oM (B.all.take (i+1)) a false))) (c+2) #[.int .i64 (oM (B.all.take (i+1)) a false)] 2:=by simp[go_sem,m]
    refine u _ _ ⟨j.hpk v qZ,?_,k3,rfl⟩ (j.mono λx _ r=>qZ) (y _ j.size);have:oM (B.all.take (i+1)) a true=oM (B.all.take i) a true:=by rw[f,ox,aZ (by simp[g]),ft]
    rw[this];exact j.hpk n qZ
  ·apply qSv1 (.bool true) A;rw[kx];refine u _ W ⟨v,?_,?_,rfl⟩ lX (y _ (cJ _))
   ·rw[f,ox,aZ (λh=>A h.1),ft];exact n
   ·rw[f,ox,aZ (λh=>A h.1),ft];exact m
 ·rintro X W d hd ⟨v,n,m,rfl⟩ mW L D;have e:B.all.take (B true++B false).length=B.all:=cN;rw[e]at n m;unfold PW;simp only[iJ];have md:M0 W W.drew:=mP;have k2:=md.hpk n id;have k3:=md.hpk m id;have kd:=md.hpk L id;generalize W.drew=C at md k2 k3 kd|-;apply qWv1 (gI (oM B.all a true)) k2;apply qWv1 (gI (oM B.all a false)) k3;apply pH (C.setCell ⟨c+1,0,none⟩ (gI (oM B.all a true))) (by simp[go_sem,k2]);have j:de (λx=>x=c+1) C (C.setCell ⟨c+1,0,none⟩ (gI (oM B.all a true))):=(de.refl (λx=>x=c+1) C).sc;have Z:hC (C.setCell ⟨c+1,0,none⟩ (gI (oM B.all a true))) (c+1) #[.int .i64 (oM B.all a true)] 2:=by simp[go_sem,k2]
  have N:=j.hpk k3 qZ;have jd:=j.hpk kd qZ;generalize C.setCell ⟨c+1,0,none⟩ (gI (oM B.all a true))=z at j Z N jd|-;refine⟨by simp[go_sem,N],?_⟩;apply pH (z.setCell ⟨c+2,0,none⟩ (gI (oM B.all a false))) (by simp[go_sem,N]);have O:de (λx=>x=c+2) z (z.setCell ⟨c+2,0,none⟩ (gI (oM B.all a false))):=(de.refl (λx=>x=c+2) z).sc;have g3:hC (z.setCell ⟨c+2,0,none⟩ (gI (oM B.all a false))) (c+2) #[.int .i64 (oM B.all a false)] 2:=by simp[go_sem,N]
  have g2:=O.hpk Z qZ;have V:=O.hpk jd qZ;generalize z.setCell ⟨c+2,0,none⟩ (gI (oM B.all a false))=W3 at O g2 g3 V|-;refine Bz V λW4 S=>?_;have f2:=S.hpk g2 qZ;have f3:=S.hpk g3 qZ;apply qWv1 (gI (oM B.all a true)) f2;refine qW1 f3 ?_;exact hK W4 (((((M5.on mW λx r=>gz).trans md).on j λx r=>gz).on O λx r=>gz).on S λx r=>gz)
abbrev oT:TypeId:=83
abbrev Kd:TypeId:=57
def qU:Tryz.prog.underlying Kd=some (.slice oT):=cU
def yV:Tryz.prog.cellsOf oT=26+1:=cU
def ME:pY pQ oT=true:=cU
def zCt:se pQ oT=true:=cU
def ao6:(lT pQ oT).length=26+1:=cU
def eCt:lN pQ oT 27 208=true:=cU
abbrev Ch(w:Wt_)(s:Vt_)(l:List Ct):Prop:=jo w oT 27 s l.length (l.flatMap fI)
def sCt(w:Wt_):(Go.sizeOf oT).run pQ w=.ok 27 w:=Go.Vc.oK yV w
def OZ:Extern.find Tryz.f161=some (Extern.SlicesOverlaps.overlaps #[Kd,Kd] #[4]):=cU
def C1{s:Vt_}(h:Rd w 27 s l.length (l.flatMap fI))(q:l.length<=1000000)
  (i:∀d e,Ch e d l->M0 w e->(∀b,cK d b->w.heap.size<=b)->K d e):Ca pQ 55 #[s] w K:=by
 apply ax0;obtain⟨a,c,f⟩:=h.isSl;by_cases g:a=none
 ·subst g;apply cx (.bool true) w (by rw[f];simp[go_sem]);rw[kx]
  have o:l=[]:=by
   obtain⟨-,⟨p,_⟩|⟨b,n,m,j,_⟩⟩:=h
   ·grind
   ·rw[f]at j;cases j
  subst o;exact i _ _ (jo.nil _ _ _) lX λb k=>by cases k
 ·apply cx (.bool false) w (by rw[f];cases a;exact absurd rfl g;simp[go_sem]);rw[gP];exact af6 qU (eO eCt) h (MH sy l) qZ i
def GQ{s v:Vt_}{o:Ct}(h:Ch w s l)(hv:Ch w v [o])(hd:∀b,cK s b->¬cK v b)(hi:i<=l.length)(hn:l.length<=1000000)
  (hK:∀s' w',Ch w' s' (l.take i++o::l.drop i)->de (cK s) w w' ->(∀b,cK s' b->cK s b\/w.heap.size<=b)->K s' w'):Ca pQ 126 #[s,gI (i:Int),v] w K:=by
 obtain⟨M,g,vrest,rfl,hvc,L,hvl,hv1⟩:=hv.pos (by simp);simp only[nP]at hvc hvl
 have n:(l.take i++o::l.drop i).length=l.length+1:=by
  rw[cD,cZ,dc,dV,fS hi];omega
 have T:([o].flatMap fI)=fI o:=by simp
 apply aa3;obtain⟨v0,hv0,-,-⟩:=Rd.from_ (P:=pQ) (kl:=.i64) (lo:=i) qU yV (h.rd:Rd w (26+1) s l.length (l.flatMap fI)) hi;apply cI (hv0 w);refine qN0 ?_;refine qSf0 ?_;obtain⟨sa,sc,hs,-⟩:=h.isSl;apply jm (gI l.length) w (by rw[hs];simp[go_sem]);by_cases hil:i=l.length
 ·have r:(i:Int)=(l.length:Int):=qZ;refine qSt1 r ?_;refine jR qU qU (eO eCt) h hv.rd (MH sy _) (by grind) λs3 A o3 C n3=>?_;refine hK _ _ ?_ C n3;have:l.take i++o::l.drop i=l++[o]:=by grind
  rw[this];unfold Ch;rw[eJ,cD];exact o3
 have r:¬(i:Int)=(l.length:Int):=qZ;refine qSf1 r ?_;obtain⟨b,c,rest,hse,hc,N,hrl,O⟩:=h.pos qZ;clear hs;subst hse;have hne:M≠b:=λe=>hd b rfl (by rw[<-e];rfl);have Y:=h.1;apply cx (gI ((l.length+1:Nat):Int)) w (by simp[go_sem];rw[wI_]);refine qN1 qU ?_;have B:(l.flatMap fI++rest).length=c*27:=by grind
 by_cases hroom:c<l.length+1
 ·have f:(c:Int)<(l.length:Int)+1:=qZ;refine qSt1 f ?_;apply cI (IU qU yV (show i<=c by omega) qZ w);apply cx (gI ((l.length+1:Nat):Int)) w (by simp[go_sem];rw[wI_]);apply cx (gI ((l.length+1 - i:Nat):Int)) w (by simp only[go_sem];simp;rw[wI_];omega)
  have hOi:jo w oT (26+1) (.slice (some ⟨b,0,none⟩) i c) i ((l.take i).flatMap fI):=by
   refine⟨by rw[wT eE,cZ,fS hi],.inr ⟨b,c,(l.flatMap fI++rest).drop (i*27),rfl,qZ,?_,?_,?_⟩⟩
   ·rw[N];congr 2
    have:(l.take i).flatMap fI=(l.flatMap fI++rest).take (i*27):=by
     rw[dh (by rw[Y];omega),SN eE]
    rw[this,fP]
   ·grind
   ·refine dF.2 λx E=>?_;have E:=kT E;rcases dg.1 E with y|y
    ·exact dF.1 (MH sy l) x y
    ·grind
  refine Bs qU Tryz.underlying3 (eO eCt) hOi qZ λs2 D z hz hz1 o2 m2 n2 Z=>?_;obtain⟨mF,nF⟩:=Z _ _ rfl qZ;rw[show i+(l.length+1 - i)=l.length+1 by omega]at o2;obtain⟨m,zG,a,rfl,H,V,X,S⟩:=o2.pos qZ;have U:w.heap.size<=m:=nF m rfl;have hbb:b≠m:=by grind
  apply cI (yI qU yV qZ H qZ D);have hA:((l.take i).flatMap fI).length=i*27:=by rw[wT eE,cZ,fS hi]
  have hsz2:((l.take i).flatMap fI++z++a).length=zG*27:=by grind
  have hv2:Rd D 27 (.slice (some ⟨M,0,none⟩) 1 g) 1 (fI o):=by
   have:=hv.rd.mod mF eQ;rw[T]at this;exact this
  apply tI (sz:=26) (k:=1) qU yV V hv2 (by grind) (by grind) (sy o);have C:de (λb=>b=m) D (D.setRow m (mh ((l.take i).flatMap fI++z++a) (i*27) ((fI o).take 27)).toArray):=(de.refl (λb=>b=m) D).setRow (.inl rfl) _;have e5:(fI o).take 27=fI o:=cT (by rw[eE];omega)
  have I:mh ((l.take i).flatMap fI++z++a) (i*27) (fI o)=(l.take i).flatMap fI++fI o++(z++a).drop 27:=by
   unfold mh;rw[df ((l.take i).flatMap fI) z a,<-hA,fN,eE,<-eN,fj]
  have j:(D.setRow m (mh ((l.take i).flatMap fI++z++a) (i*27) ((fI o).take 27)).toArray).heap[m]? =some (.cells ((l.take i).flatMap fI++fI o++(z++a).drop 27).toArray oT (0,0)):=by
   rw[ij,bZ rfl,V,e5,I]
  show wS _ _ _;rw[show((l.take i).flatMap fI++z++a).toArray.toList=(l.take i).flatMap fI++z++a from rfl,show 1*(26+1)=27 from rfl];generalize D.setRow m (mh ((l.take i).flatMap fI++z++a) (i*27) ((fI o).take 27)).toArray=A at C j|-;apply dX (gI ((i+1:Nat):Int)) (λW=>by simp[go_sem];rw[wI_]);apply dw (λW=>yI qU yV (show i+1<=l.length+1 by omega) H qZ W);apply dw (λW=>yI qU yV (show i<=l.length by omega) hc qZ W);have mD:de (λb=>b=m) D A.drew:=C.drew;have q:A.drew.heap[m]? =some (.cells ((l.take i).flatMap fI++fI o++(z++a).drop 27).toArray oT (0,0)):=j
  have t:Rd A.drew (26+1) (.slice (some ⟨b,i*(26+1),none⟩) (l.length - i) (c - i)) (l.length - i) ((l.drop i).flatMap fI):=by
   have G:At w b 0 (l.flatMap fI):=⟨_,_,_,N,by grind,by simp⟩
   have y:=G.sub (i*27) ((l.length - i)*27) (by rw[Y];omega);rw[Vp eE,cT (by rw[wT eE,dV];exact cJ _),eU]at y;refine⟨by rw[wT eE,dV],.inr ⟨b,i*(26+1),c - i,rfl,qZ,?_⟩⟩;exact(y.mod mF id).mod mD λe=>hbb e
  have hsz3:((l.take i).flatMap fI++fI o++(z++a).drop 27).length=zG*27:=by
   rw[cD,cD,hA,eE,dV,cD,hz,X];omega
  apply tI (sz:=26) (k:=l.length - i) qU yV q t (by grind) (by grind) (MH sy _);have u:((l.drop i).flatMap fI).length=(l.length - i)*27:=by rw[wT eE,dV]
  have J:mh ((l.take i).flatMap fI++fI o++(z++a).drop 27) ((i+1)*(26+1)) (((l.drop i).flatMap fI).take ((l.length - i)*(26+1)))=(l.take i++o::l.drop i).flatMap fI++a:=by
   have hAo:((l.take i).flatMap fI++fI o).length=(i+1)*(26+1):=by grind
   have e2:((l.drop i).flatMap fI).take ((l.length - i)*(26+1))=(l.drop i).flatMap fI:=cT (by grind);rw[e2];unfold mh;rw[<-hAo,fN,u,<-eN,fj,eN];rw[show 27+(l.length - i)*27=z.length by rw[hz];omega,fj];simp[df]
  refine hK _ _ ⟨by grind,.inr ⟨m,zG,a,by rw[n],by rw[n];exact H,?_,by grind,S⟩⟩ ?_ λb' p=>?_
  ·rw[ij,bZ rfl,q];show some (Obj.cells (mh ((l.take i).flatMap fI++fI o++(z++a).drop 27) ((i+1)*(26+1)) (((l.drop i).flatMap fI).take ((l.length - i)*(26+1)))).toArray oT (0,0))=_;rw[J]
  ·exact((mF.to).on mD λb' p=>.inr (by grind)).setRow (.inr U) _
  ·grind
 ·have f:¬(c:Int)<(l.length:Int)+1:=qZ;refine qSf1 f ?_;apply cx (gI ((l.length+1:Nat):Int)) w (by simp[go_sem];rw[wI_]);apply cI (IU qU yV (show l.length+1<=c by omega) qZ w);apply cx (gI ((i+1:Nat):Int)) w (by simp[go_sem];rw[wI_]);apply cI (yI qU yV (show i+1<=l.length+1 by omega) qZ qZ w)
  have hov:(callFunc 161 #[.slice (some ⟨M,0,none⟩) 1 g,.slice (some ⟨b,(i+1)*(26+1),none⟩) (l.length+1 - (i+1)) (c - (i+1))]).run pQ w=.ok (.value (.bool false)) w:=by
   rw[run_callFunc_extern Tryz.func161 cU cU cU OZ];rw[Lib.run_overlaps_apart w Kd 4 oT qU 27 sCt ⟨M,0,none⟩ ⟨b,(i+1)*(26+1),none⟩ 1 g _ _ hne oT oT _ _ (shp L) (shp N) (by grind) (Ku L _) (Ku L _)];rfl
  refine⟨?_⟩;show rn pQ (callFunc 161 #[.slice (some ⟨M,0,none⟩) 1 g,.slice (some ⟨b,(i+1)*(26+1),none⟩) (l.length+1 - (i+1)) (c - (i+1))]) w _;apply mB hov;refine qSt0 ?_;apply dX (gI ((i+1:Nat):Int)) (λW=>by simp[go_sem];rw[wI_]);apply dw (λW=>yI qU yV (show i+1<=l.length+1 by omega) qZ qZ W);apply dw (λW=>yI qU yV (show i<=l.length+1 by omega) qZ qZ W);have q:w.drew.heap[b]? =some (.cells (l.flatMap fI++rest).toArray oT (0,0)):=N;have Q:27<=rest.length:=by rw[hrl];omega
  have t:Rd w.drew (26+1) (.slice (some ⟨b,i*(26+1),none⟩) (l.length+1 - i) (c - i)) (l.length+1 - i) ((l.drop i).flatMap fI++rest.take 27):=by
   have G:At w b 0 (l.flatMap fI++rest):=At.all (fy N);have y:=G.sub (i*27) ((l.length+1 - i)*27) (by rw[B];omega);rw[eZ (by rw[Y];omega),Vp eE,eU]at y
   have e1:((l.drop i).flatMap fI++rest).take ((l.length+1 - i)*27)=(l.drop i).flatMap fI++rest.take 27:=by
    have hd:((l.drop i).flatMap fI).length=(l.length - i)*27:=by rw[wT eE,dV]
    rw[show(l.length+1 - i)*27=((l.drop i).flatMap fI).length+27 by rw[hd];omega,lJ]
   rw[e1]at y;refine⟨by rw[cD,wT eE,dV,cZ,fS Q];omega,.inr ⟨b,i*(26+1),c - i,rfl,qZ,y.keep rfl⟩⟩
  have u:((l.drop i).flatMap fI).length=(l.length - i)*27:=by rw[wT eE,dV]
  apply tI (sz:=26) (k:=l.length - i) qU yV q t (by grind) (by rw[eT,B];omega) (by rw[gj,MH sy];exact dF.2 λx E=>dF.1 O x (ek E));have hA:((l.take i).flatMap fI).length=i*27:=by rw[wT eE,cZ,fS hi]
  obtain⟨d,R,F⟩:∃d:List Value,l.flatMap fI++rest=(l.take i).flatMap fI++(d++((l.flatMap fI++rest).drop ((i+1)*27)))/\d.length=27:=by
   refine⟨((l.flatMap fI++rest).drop (i*27)).take 27,?_,by grind⟩;have e1:(l.take i).flatMap fI=(l.flatMap fI++rest).take (i*27):=by rw[dh (by rw[Y];omega),SN eE]
   rw[e1,show(i+1)*27=i*27+27 by omega,<-eN,fP,fP]
  have I:mh (l.flatMap fI++rest) ((i+1)*(26+1)) (((l.drop i).flatMap fI++rest.take 27).take ((l.length - i)*(26+1)))=(l.take i).flatMap fI++d++((l.drop i).flatMap fI++rest.drop 27):=by
   have e2:((l.drop i).flatMap fI++rest.take 27).take ((l.length - i)*(26+1))=(l.drop i).flatMap fI:=by
    rw[show(l.length - i)*(26+1)=((l.drop i).flatMap fI).length by rw[u],fN]
   have e3:(l.flatMap fI++rest).take ((i+1)*(26+1))=(l.take i).flatMap fI++d:=by
    rw[R,<-df,show(i+1)*(26+1)=((l.take i).flatMap fI++d).length by grind,fN]
   have e4:(l.flatMap fI++rest).drop ((i+1)*(26+1)+(l.length - i)*27)=rest.drop 27:=by
    rw[show(i+1)*(26+1)+(l.length - i)*27=(l.flatMap fI).length+27 by rw[Y];omega,<-eN,fj]
   unfold mh;rw[e2,u,e3,e4];simp[df]
  have C:de (cK (.slice (some ⟨b,0,none⟩) l.length c)) w (w.drew.setRow b (mh (l.flatMap fI++rest) ((i+1)*(26+1)) (((l.drop i).flatMap fI++rest.take 27).take ((l.length - i)*(26+1)))).toArray):=mP.setRow (.inl (show cK (.slice (some ⟨b,0,none⟩) l.length c) b from rfl)) _
  have j:(w.drew.setRow b (mh (l.flatMap fI++rest) ((i+1)*(26+1)) (((l.drop i).flatMap fI++rest.take 27).take ((l.length - i)*(26+1)))).toArray).heap[b]? =some (.cells ((l.take i).flatMap fI++d++((l.drop i).flatMap fI++rest.drop 27)).toArray oT (0,0)):=by
   rw[ij,bZ rfl,q,I]
  rw[show(l.flatMap fI++rest).toArray.toList=l.flatMap fI++rest from rfl];generalize w.drew.setRow b (mh (l.flatMap fI++rest) ((i+1)*(26+1)) (((l.drop i).flatMap fI++rest.take 27).take ((l.length - i)*(26+1)))).toArray=A at C j|-;apply cI (yI qU yV (show i<=l.length+1 by omega) qZ qZ A)
  have hv3:Rd A 27 (.slice (some ⟨M,0,none⟩) 1 g) 1 (fI o):=by
   have:=hv.rd.mod C λb' p hs' =>hd b' hs' p.sl;rw[T]at this;exact this
  apply tI (sz:=26) (k:=1) qU yV j hv3 (by grind) (by grind) (sy o)
  have J:mh ((l.take i).flatMap fI++d++((l.drop i).flatMap fI++rest.drop 27)) (i*(26+1)) ((fI o).take (1*(26+1)))=(l.take i++o::l.drop i).flatMap fI++rest.drop 27:=by
   have e5:(fI o).take (1*(26+1))=fI o:=cT (by rw[eE];omega);rw[e5];unfold mh;rw[eE,show i*(26+1)=((l.take i).flatMap fI).length by rw[hA],df ((l.take i).flatMap fI) d,fN,<-eN,fj,<-F,fj];simp[df]
  refine hK _ _ ⟨by rw[wT eE,n],.inr ⟨b,c,rest.drop 27,by rw[n],by rw[n];omega,?_,by grind,dF.2 λx E=>dF.1 O x (kT E)⟩⟩ (C.setRow (.inl (show cK (.slice (some ⟨b,0,none⟩) l.length c) b from rfl)) _) λb' p=>.inl p;show(A.setRow b (mh ((l.take i).flatMap fI++d++((l.drop i).flatMap fI++rest.drop 27)) (i*(26+1)) ((fI o).take (1*(26+1)))).toArray).heap[b]? =_;rw[ij,bZ rfl,j,J]
structure sE where
 day:Int
 l:List Ct
variable {S:sE}
def Ct.Ok(k:Ct):Prop:=k.Fit/\k.spec.may=true/\k.spec.isPrice k.price=true/\1<=k.st/\k.st<=3
def lW(l:List Ct)(n:Int):Nat:=(l.takeWhile λk=>decide (k.spec.num<n)).length
def eR(l:List Ct)(n:Int):Option Ct:=l.find? λk=>decide (k.spec.num=n)
def qO(l:List Ct):Prop:=l.Pairwise λa b=>a.spec.num<b.spec.num
structure pN(w:Wt_)(c:Nat)(F:NP_)(S:sE):Prop where
 out:∃sl,hC w c #[.bool true,gU S.day,sl] 137/\Ch w sl S.l/\(∀x,F x↔x=c\/cK sl x)/\¬cK sl c
 len:S.l.length<=16
 day:pL S.day
 ok:∀k∈S.l,k.Ok
 srt:qO S.l
def pN.mod{G:NP_}(h:pN w c F S)(e:de G w w')(d:∀b,F b->¬G b):pN w' c F S:=by
 obtain⟨⟨sl,j,f,a,i⟩,l,n,k,m⟩:=h;exact⟨⟨sl,e.hpk j (d c ((a c).2 (.inl rfl))),f.mod e λb g=>d b ((a b).2 (.inr g)),a,i⟩,l,n,k,m⟩
def pN.lt(h:pN w c F S){b:Nat}(a:F b):b<w.heap.size:=by
 obtain⟨⟨sl,e,d,f,g⟩,i⟩:=h;rcases(f b).1 a with rfl|a
 ·exact cB e
 ·exact d.lt a
def iZ(c:Nat):Value:=pt c 0
def El(s:Sp):(jA s)[23]? =some (gU s.last):=by have:=aq2 s [];rwa[ew]at this
def aq9(s:Sp):(jA s)[24]? =some (gI s.first):=by have:=Xa s [];rwa[ew]at this
def ctT(k:Ct)(i:Nat)(h:i<25):(fI k)[i]? =(jA k.spec)[i]? :=by
 rw[fI,dC (by rw[dP];omega)]
def G9(k:Ct):(fI k)[0]? =some (gU k.spec.num):=rfl
def ao4(k:Ct):(fI k)[23]? =some (gU k.spec.last):=by rw[ctT k 23 qZ,El]
def D5(k:Ct):(fI k)[25]? =some (gB k.st):=by have:=WW k [];rwa[ew]at this
def Hs(k:Ct):(fI k)[26]? =some (gI k.price):=by have:=VD k [];rwa[ew]at this
def GT(k:Ct)(w:Wt_):∃a,(Instr.box oT (.agg (fI k).toArray)).run pQ w=.ok (pt w.heap.size 0) a/\hC a w.heap.size (fI k).toArray oT/\M0 w a:=
 ⟨w.alloc (.cells (fI k).toArray oT),rfl,by simp[go_sem],(de.refl _ w).alloc _⟩
def Nu(d:∀c F a,pN a c F ⟨0,[]⟩->M0 w a->(∀b,F b->w.heap.size<=b)->K (iZ c) a):Ca pQ 49 #[] w K:=by
 apply aC5;refine qS0 ?_;apply cx (iZ w.heap.size) (w.alloc (.cells #[.bool true,gU 0,.slice none 0 0] 137)) rfl;exact d _ (λx=>x=w.heap.size) _ ⟨⟨.slice none 0 0,by simp[go_sem],jo.nil _ _ _,λx=>⟨λh=>.inl h,λh=>h.elim id λh=>by cases h⟩,λh=>by cases h⟩,by simp,⟨by simp,by simp⟩,by simp,List.Pairwise.nil⟩ lm λb e=>by omega
def sZ(h:pN w c F S)(b:K (.bool true) w):Ca pQ 54 #[iZ c] w K:=by
 obtain⟨⟨sl,a,d,g,e⟩,f⟩:=h;apply aC8;unfold iZ;refine qSt0 ?_;simp only[dr];refine qS0 ?_;refine qS1 a ?_;exact b
def twG{α:Type}{l:List α}{p:α->Bool}{j:Nat}(b:j<l.length)(h:∀o∈l.take j,p o=true)(a:p l[j]=false):l.takeWhile p=l.take j:=by
 induction l generalizing j with
 |nil=>simp at b
 |cons x l c=>
  cases j with
  |zero=>simp at a;simp[a]
  |succ j=>
   simp only[lq,cH,forall_eq_or_imp]at h;rw[List.takeWhile_cons_of_pos h.1,lq,c (by simpa using b) h.2 (by simpa using a)]
def twA{α:Type}{l:List α}{p:α->Bool}(h:∀o∈l,p o=true):l.takeWhile p=l:=by
 induction l with
 |nil=>rfl
 |cons x l b=>rw[List.takeWhile_cons_of_pos (h x (by simp)),b λo a=>h o (by simp[a])]
def CQ(hi:i<=l.length)(d:∀j (a:j<l.length),j<i->l[j].spec.num<n)(e:∀(a:i<l.length),¬l[i].spec.num<n):lW l n=i:=by
 unfold lW;by_cases c:i<l.length
 ·rw[twG (p:=λk:Ct=>decide (k.spec.num<n)) c (λo b=>?_) (by simpa using e c),cZ,fS hi];obtain⟨j,a,rfl⟩:=cX b;rw[cZ]at a;rw[List.getElem_take];simpa using d j qZ qZ
 ·rw[twA λo b=>?_]
  ·omega
  ·obtain⟨j,a,rfl⟩:=cX b;simpa using d j a qZ
def NS(d:qO l){n:Int}{i:Nat}(e:∀j (a:j<l.length),j<i->l[j].spec.num<n)(hi:i<l.length)(g:¬l[i].spec.num<n):
  eR l n=if l[i].spec.num=n then some l[i]else none:=by
 unfold eR;by_cases b:l[i].spec.num=n
 ·rw[bZ b,fV];refine⟨by simpa using b,i,hi,rfl,λj a=>?_⟩;have:=e j qZ a;simp;omega
 ·rw[aZ b,fW];intro k c;obtain⟨j,a,rfl⟩:=cX c;simp only[dN];intro f;rcases Nat.lt_trichotomy j i with h|h|h
  ·grind
  ·subst h;exact b f
  ·have:=eI.1 d i j hi a h;omega
def J1(c:∀j (a:j<l.length),l[j].spec.num<n):eR l n=none:=by
 unfold eR;rw[fW];intro k b;obtain⟨j,a,rfl⟩:=cX b;have:=c j a;simp;omega
def GG(a:∀e,M0 w e->K (gI (if k.spec.num<n then -1 else if n<k.spec.num then 1 else 0)) e):Ca pQ 160 #[.agg (fI k).toArray,gU n] w K:=by
 apply aa9;obtain⟨h,f,d,g⟩:=GT k w;have a:=a _ g;apply cI f;refine qS0 ?_;refine qS0 ?_;refine qS2 d G9 ?_;by_cases c:k.spec.num<n
 ·refine qSt1 c ?_;rw[bZ c]at a;exact a
 ·refine qSf1 c ?_;rw[aZ c]at a;refine qS0 ?_;refine qS0 ?_;refine qS2 d G9 ?_;by_cases b:n<k.spec.num
  ·refine qSt1 b ?_;rw[bZ b]at a;exact a
  ·refine qSf1 b ?_;rw[aZ b]at a;exact a
def UI{j:Nat}(h:i<j)(a:j<=1000000)(w:Wt_):∃x,(convert 3 203 (gI ((i:Int)+(j:Int)))).run pQ w=.ok x w/\∃y,(qE .shr 203 true x (gQ 1)).run pQ w=.ok y w/\(convert 203 3 y).run pQ w=.ok (gI (((i+j) / 2:Nat):Int)) w:=by
 refine⟨.int .u64 (((i+j:Nat):Int)),?_,gQ (((i+j) / 2:Nat):Int),?_,?_⟩
 ·simp[go_sem];rw[IntKind.wrap_u64];omega
 ·simp[go_sem,lZ]
 ·simp[go_sem];rw[eF];omega
def TD{s:Vt_}(h:Rd w 27 s l.length (l.flatMap fI))(hn:l.length<=1000)(H:qO l)
  (Q:∀N,M0 w N->K (.tuple #[.int .i64 (lW l n),.bool (eR l n).isSome]) N):Ca pQ 159 #[s,gU n,.func (.func 160) #[] #[]] w K:=by
 apply ad2;obtain⟨a,c,E⟩:=h.isSl;apply jm (gI (l.length:Int)) w (by rw[E];simp[go_sem])
 refine eS (λst W=>∃i j:Nat,i<=j/\j<=l.length/\st=(gI i,gI j,())/\M0 w W/\(∀x (d:x<l.length),x<i->l[x].spec.num<n)/\∀x (d:x<l.length),j<=x->¬l[x].spec.num<n)
  (λst _=>match st.1,st.2.1 with| .int _ i,.int _ j=>j.toNat - i.toNat|_,_=>0) ⟨0,l.length,qZ,qZ,rfl,lX,λx d h=>qZ,λx d h=>qZ⟩ ?_
 rintro⟨_,_,_⟩ W ⟨i,j,U,v,⟨⟩,f,z,O⟩ KN t;unfold OR;intro _
 have e:∀W,M0 w W->∀x (d:x<l.length),∃p,(iX Kd s (gI (x:Int))).run pQ W=.ok p W/\(fH oT p).run pQ W=.ok (.agg (fI l[x]).toArray) W:=λW f x d=>by
  obtain⟨b,G,X,C,R,Y⟩:=(h.mod f eQ).item eE d rfl;exact⟨.pointer (some ⟨b,G+x*27,none⟩),by rw[C];simp[go_sem,d,cS,qU],gm ME yV (eE _) Y⟩
 by_cases B:i<j
 ·have r:(i:Int)<(j:Int):=qZ;refine qSt1 r ?_;apply cx (gI ((i:Int)+(j:Int))) W (by simp[go_sem];rw[wI_]);obtain⟨x,e1,y,Z,e3⟩:=UI B qZ W;apply cI e1;apply cI Z;apply cI e3;obtain⟨m,hm⟩:=dW ((i+j) / 2);rw[<-hm];have k:m<l.length:=qZ;obtain⟨p,F,L⟩:=e W f m k;apply cI F;apply iW L;simp only[kE];refine GG λD I=>?_;have S:=f.trans I;by_cases A:l[m].spec.num<n
  ·rw[bZ A];refine qSt0 ?_;apply cx (gI ((m+1:Nat):Int)) D (by simp[go_sem];rw[wI_]);refine t _ _ ⟨m+1,j,qZ,v,rfl,S,λx d J=>?_,O⟩ (by grind);by_cases q:x=m
   ·subst q;exact A
   ·have:=eI.1 H x m d k qZ;omega
  ·rw[aZ A];have M:¬((if n<l[m].spec.num then 1 else 0:Int)<0):=by split<;>omega
   refine qSf1 M ?_;refine t _ _ ⟨i,m,qZ,qZ,rfl,S,z,λx d J=>?_⟩ (by grind);by_cases q:x=m
   ·subst q;exact A
   ·have:=eI.1 H m x k d qZ;omega
 ·obtain rfl:i=j:=qZ;refine qSf0 ?_;by_cases o:i<l.length
  ·have u:(i:Int)<(l.length:Int):=qZ;refine qSt1 u ?_;obtain⟨p,F,L⟩:=e W f i o;apply cI F;apply iW L;simp only[kE];have g:=O i o (cJ _);refine GG λD I=>?_;rw[aZ g];refine cx (.bool (eR l n).isSome) D ?_ ?_
   ·rw[NS H z o g];by_cases q:l[i].spec.num=n
    ·simp[go_sem,q]
    ·have d:n<l[i].spec.num:=qZ;simp[go_sem,q,d]
   have:=CQ v z λv=>g;rw[<-this];exact Q _ (f.trans I)
  ·obtain rfl:i=l.length:=qZ;refine qSf0 ?_;have V:lW l n=l.length:=CQ v z λv=>by omega
   have T:=J1 λx d=>z x d d;have P:=Q _ f;rw[V,T]at P;exact P
def Bb(m:qO l){n:Int}{k:Ct}(h:eR l n=some k):∃d:lW l n<l.length,l[lW l n]=k/\k.spec.num=n:=by
 unfold eR at h;obtain⟨o,i,d,b,g⟩:=fV.1 h;have a:k.spec.num=n:=by simpa using o
 have e:lW l n=i:=by
  refine CQ qZ (λj f c=>?_) λf=>by rw[b];omega
  have:=eI.1 m j i f d c;rw[b]at this;omega
 subst e;exact⟨d,b,a⟩
def ry(h:eR l n=some k):k∈l:=fl h
def I6(h:pN w c F S)
  (f:∀b,M0 w b->K (.tuple #[.int .i64 (lW S.l n),.bool (eR S.l n).isSome]) b):Ca pQ 125 #[iZ c,gU n] w K:=by
 obtain⟨⟨sl,e,d,o,k⟩,m,p,l,g⟩:=h;apply aj7;unfold iZ;simp only[dr];obtain⟨sa,sc,a,-⟩:=d.isSl;refine qS0 ?_;refine qSv2 sl e a ?_;refine TD d.rd qZ g λj i=>?_;refine qS0 ?_;refine qS0 ?_;exact f _ i
def ex(l:List Ct)(n:Int):Int:=match eR l n with|none=>7|some k=>if k.st=3 then 50 else 0
def Ch.item{sl:Vt_}(h:Ch w sl l){i:Nat}(hi:i<l.length):
  ∃b a rest,sl=.slice (some ⟨b,0,none⟩) l.length a/\(∀k:IntKind,(iX Kd sl (.int k (i:Int))).run pQ w=.ok (pt b (i*27)) w)/\At w b (i*27) (fI l[i])/\
   hC w b (l.flatMap fI++rest).toArray oT/\∀j,j<27->(l.flatMap fI++rest)[i*27+j]? =(fI l[i])[j]? :=by
 obtain⟨b,a,rest,rfl,p,d,o⟩:=h.pos qZ;have c:At w b 0 (l.flatMap fI++rest):=At.all (fy d);have f:=h.1;have e:=c.sub (i*27) 27 (by grind);rw[eZ (by rw[f];omega),dh (by grind),oB fI 27 l i (λx _=>eE x) hi,eU]at e;refine⟨b,a,rest,rfl,λk=>by simp[go_sem,hi,cS,qU],e,fy d,λj n=>?_⟩;rw[dC (by rw[f];omega)];have m:=oB fI 27 l i (λx _=>eE x) hi;have g:(((l.flatMap fI).drop (i*27)).take 27)[j]? =(fI l[i])[j]? :=by rw[m]
 rw[iE,bZ n,iY]at g;exact g
def xW(h:pN w c F S)
  (y:∀g,ex S.l n≠0->M0 w g->K (.tuple #[.pointer none,gI (ex S.l n)]) g)
  (D:∀i (hi:i<S.l.length) b d g,S.l[i].spec.num=n->S.l[i].st≠3->eR S.l n=some S.l[i]->ex S.l n=0->M0 w g->hC g c #[.bool true,gU S.day,.slice (some ⟨b,0,none⟩) S.l.length d] 137->
   Ch g (.slice (some ⟨b,0,none⟩) S.l.length d) S.l->(∀x,F x↔x=c\/x=b)->b≠c->K (.tuple #[.pointer (some ⟨b,i*27,none⟩),gI 0]) g):Ca pQ 128 #[iZ c,gU n] w K:=by
 apply ac7;apply sZ h;refine qSf0 ?_;refine I6 h λs q=>?_;have B:=h.mod q eQ;refine qS0 ?_;refine qS0 ?_;cases l:eR S.l n with
 |none=>
  refine qSt0 ?_;have e:ex S.l n=7:=by unfold ex;rw[l]
  have m:=y s (by rw[e];decide) q;rw[e]at m;exact m
 |some k=>
  refine qSf0 ?_;obtain⟨hi,f,r⟩:=Bb h.srt l;obtain⟨⟨sl,u,v,C,A⟩,G,J,E,I⟩:=B;obtain⟨b,d,rest,rfl,j,H,z,o⟩:=v.item hi;have p:=o 25 qZ;rw[D5,f]at p;simp only[iZ,dr];refine qS0 ?_;refine qS1 u ?_;apply cI (j .i64);refine qS1 cS ?_;refine qS2 z p ?_;by_cases a:k.st=3
  ·refine qSt1 a ?_;have e:ex S.l n=50:=by unfold ex;rw[l];simp only;rw[bZ a]
   have m:=y s (by rw[e];decide) q;rw[e]at m;exact m
  ·refine qSf1 a ?_;refine qS0 ?_;refine qS1 u ?_;apply cI (j .i64);have e:ex S.l n=0:=by unfold ex;rw[l];simp only;rw[aZ a]
   refine D _ hi b d s (by rw[f];exact r) (by rw[f];exact a) (by rw[l,f]) e q u v (λx=>?_) λt=>A (by rw[t];rfl);rw[C x];exact⟨λh=>h.imp id λh=>by cases h;rfl,λh=>h.imp id λh=>by rw[h];rfl⟩
def LB(h:pN w c F S)(b:K (gU S.day) w):Ca pQ 41 #[iZ c] w K:=by
 obtain⟨⟨sl,a,d,g,e⟩,f⟩:=id h;apply aC4;apply sZ h;refine qSf0 ?_;simp only[iZ,dr];refine qS0 ?_;refine qS1 a ?_;exact b
def eD(S:sE):Int×sE:=if S.day=4294967295 then(6,S)else(0,⟨S.day+1,S.l⟩)
def OA(h:pN w c F S)
  (a:∀f,pN f c F (eD S).2->de F w f->K (gI (eD S).1) f):Ca pQ 129 #[iZ c] w K:=by
 obtain⟨⟨sl,d,k,o,g⟩,m,p,l,n⟩:=id h;apply aq6;apply sZ h;refine qSf0 ?_;simp only[iZ,dr];refine qS0 ?_;refine qS1 d ?_;unfold eD at a;by_cases b:S.day=4294967295
 ·refine qSt1 b ?_;rw[bZ b]at a;exact a _ h lX
 ·refine qSf1 b ?_;rw[aZ b]at a;refine qS0 ?_;refine qS1 d ?_;apply cx (gU (S.day+1)) w (by simp[go_sem];rw[IntKind.wrap_u32];omega);refine qS0 ?_;refine qU1 d ?_;have j:de (λx=>x=c) w (w.setCell ⟨c,1,none⟩ (gU (S.day+1))):=(de.refl (λx=>x=c) w).sc;refine a _ ⟨⟨sl,by simp[go_sem,d],k.mod j λx i e=>g (e▸i),o,g⟩,m,⟨by grind,by grind⟩,l,n⟩ (j.mono λx _ i=>by grind)
def II:Sp:=⟨0,0,0,0,0,0,Vector.replicate 16 0,0,0,0⟩
def JJ:Ct:=⟨II,0,0⟩
def Qd:lT pQ oT=fI JJ:=cU
def TW:Tryz.prog.built oT []=some (fI JJ).toArray:=cU
def Wi{q:Nat}{k0:Ct}{K:Value->World->Prop}(h:hC W q (fI k0).toArray oT)
  (i:∀d,de (λb=>b=q) W d->K (.agg (fI k).toArray) d):
  nj pQ (jH oT (pt q 0) (.agg (fI k).toArray)) W λa=>pS pQ (fH oT (pt q 0)) a λj=>K j a:=by
 apply uH (n:=26) (c:=(fI k0).toArray) (e:=oT) yV (eE k) h (by rw[eE,eT,eE];exact cJ _) (sy k);rw[show(fI k0).toArray.toList=fI k0 from rfl,tp (by rw[eE,eE])]
 have f:hC (W.setRow q (fI k).toArray) q (fI k).toArray oT:=by
  show(W.setRow q _).heap[q]? =_;have g:W.heap[q]? =some (.cells (fI k0).toArray oT (0,0)):=h;rw[ij,bZ rfl,g]
 apply sm (fI k) 26 ME yV (eE k) (At.all f);exact i _ ((de.refl (λb=>b=q) W).setRow (.inl rfl) _)
def iU(l:List Ct)(n:Int):Ct×Int:=match eR l n with|none=>(JJ,7)|some k=>(k,0)
def Cp(h:pN w c F S)
  (a:∀p,M0 w p->K (.tuple #[.agg (fI (iU S.l n).1).toArray,gI (iU S.l n).2]) p):Ca pQ 94 #[iZ c,gU n] w K:=by
 apply ay1;apply rg zCt;obtain⟨q,d⟩:=dW w.heap.size;have j:M0 w (w.alloc (.cells (lT pQ oT).toArray oT)):=lm;have s:hC (w.alloc (.cells (lT pQ oT).toArray oT)) q (fI JJ).toArray oT:=by rw[Qd,d];simp[go_sem]
 rw[<-d];generalize w.alloc (.cells (lT pQ oT).toArray oT)=N at j s|-;have f:=h.mod j eQ;apply sZ f;refine qSf0 ?_;refine I6 f λG l=>?_;have z:=f.mod l eQ;have r:=j.trans l;have o:=l.hpk s id;refine qS0 ?_;refine qS0 ?_;unfold iU at a;cases g:eR S.l n with
 |none=>
  rw[g]at a;refine qSt0 ?_;apply lL TW;refine Wi o λE m=>?_;exact a _ (r.on m λx D=>gz)
 |some k=>
  rw[g]at a;refine qSf0 ?_;obtain⟨C,i,v⟩:=Bb h.srt g;obtain⟨⟨sl,A,y,O,I⟩,L,P,J,M⟩:=z;obtain⟨b,B,rest,rfl,e,t,H,u⟩:=y.item C;simp only[iZ,dr];refine qS0 ?_;refine qS1 A ?_;apply cI (e .i64);rw[i]at t;apply jq (fI k) 26 ME yV (eE k) t;refine Wi o λE m=>?_;exact a _ (r.on m λx D=>gz)
def xr(h:pN w c F S)
  (J:∀y A r,pN r y A S->M0 w r->(∀b,A b->w.heap.size<=b)->K (iZ y) r):Ca pQ 45 #[iZ c] w K:=by
 obtain⟨⟨sl,C,u,X,V⟩,I,R,H,N⟩:=id h;obtain⟨sa,sc,d,-⟩:=u.isSl;apply ay7;apply sZ h;refine qSf0 ?_;simp only[iZ,dr];refine qSv2 (.agg #[.bool true,gU S.day,sl]) C d ?_;obtain⟨q,g⟩:=dW w.heap.size
 have k:∃a,(iA 137 true (.tuple #[])).run pQ w=.ok (pt q 0) a/\∃j,(iS 137 (pt q 0) (.agg #[.bool true,gU S.day,sl])).run pQ a=.ok () j/\
   hC j q #[.bool true,gU S.day,sl] 137/\M0 w j/\w.heap.size<j.heap.size:=by
  obtain⟨a,f⟩:=dW (w.alloc (.cells #[.bool false,gU 0,.slice none 0 0] 137));have O:M0 w a:=by rw[f];exact(de.refl _ w).alloc _
  have t:hC a q #[.bool false,gU 0,.slice none 0 0] 137:=by rw[f,g];simp[go_sem]
  have M:a.heap.size=w.heap.size+1:=by rw[f,eG]
  refine⟨a,by rw[f,g];simp[go_sem],((a.setCell ⟨q,0,none⟩ (.bool true)).setCell ⟨q,1,none⟩ (gU S.day)).setCell ⟨q,2,none⟩ sl,by rw[d];simp[go_sem,t],by rw[d];simp[go_sem,t],?_,by simp only[wt];omega⟩;exact O.on ((((de.refl (λx=>x=q) a).sc).sc).sc) λx n=>gz
 obtain⟨a,T,j,L,P,o,Q⟩:=k;apply cI T;apply ir L;have k1:=o.hpk C id;refine qS0 ?_;refine qSv2 sl k1 d ?_;refine C1 (l:=S.l) (u.mod o eQ).rd qZ λi m D v G=>?_;have z:=v.hpk P id;refine qS0 ?_;obtain⟨W,U,p,-⟩:=D.isSl;apply pH (m.setCell ⟨q,2,none⟩ i) (by rw[p];simp[go_sem,z]);have E:de (λx=>x=q) m (m.setCell ⟨q,2,none⟩ i):=(de.refl (λx=>x=q) m).sc;have B:¬cK i q:=λn=>by grind
 refine J q (λb=>b=q\/cK i b) _ ⟨⟨i,by simp[go_sem,z],D.mod E λx n e=>B (e▸n),λb=>fd,B⟩,I,R,H,N⟩ ((o.trans v).on E λx n=>gz) λb s=>?_;rcases s with rfl|s
 ·omega
 ·have:=G b s;omega
def lr(l:List Ct)(n:Int)(f:Ct->Ct):List Ct:=l.map λk=>if k.spec.num=n then f k else k
def rL(b:qO l){n:Int}{i:Nat}(hi:i<l.length)(k:l[i].spec.num=n)(f:Ct->Ct):lr l n f=l.set i (f l[i]):=by
 unfold lr;apply List.ext_getElem
 ·simp
 ·intro j d e;have a:j<l.length:=by simpa using d
  rw[List.getElem_set,eL];by_cases c:i=j
  ·grind
  ·rw[aZ c,aZ];intro g;rcases Nat.lt_or_ge i j with h|h
   ·have:=eI.1 b i j hi a h;omega
   ·have:=eI.1 b j i a hi qZ;omega
def sM{f:Ct->Ct}(j:∀k∈l,k.spec.num=n->(f k).Ok/\(f k).spec.num=k.spec.num)(e:∀k∈l,k.Ok)(d:qO l):(∀k∈lr l n f,k.Ok)/\qO (lr l n f)/\(lr l n f).length=l.length:=by
 have a:∀k∈l,(if k.spec.num=n then f k else k).spec.num=k.spec.num:=λk b=>by
  split
  ·grind
  ·rfl
 refine⟨λk b=>?_,?_,by simp[lr]⟩
 ·obtain⟨x,i,rfl⟩:=cF.1 b;split
  ·grind
  ·exact e x i
 ·unfold qO lr;rw[fD];refine d.imp_of_mem λc g h=>?_;rw[a _ c,a _ g];exact h
def Ch.set1{cap:Nat}(h:Ch w (.slice (some ⟨b,0,none⟩) l.length cap) l){i:Nat}(hi:i<l.length){j:Nat}(s:j<27){v:Vt_}(t:v.oneCell' =true){f:Ct}(d:(fI l[i]).set j v=fI f):
  Ch (w.setCell ⟨b,i*27+j,none⟩ v) (.slice (some ⟨b,0,none⟩) l.length cap) (l.set i f):=by
 obtain⟨r,k,rest,o,q,m,g,c⟩:=h.pos qZ;cases o;have n:=h.1
 have a:(l.flatMap fI).set (i*27+j) v=(l.set i f).flatMap fI:=by
  clear h n m g c q;induction l generalizing i with
  |nil=>simp at hi
  |cons x l p=>
   cases i with
   |zero=>
    simp only[iN]at d;rw[eu,nv,eU,gZ _ _ (by rw[eE];omega),d];rfl
   |succ i=>
    have e:(i+1)*27+j=(fI x).length+(i*27+j):=by rw[eE];omega
    rw[eu,e,gh _ _ qZ,jN,p (by simpa using hi) (by simpa using d)];rfl
 refine⟨by grind,.inr ⟨b,cap,rest,by grind,by grind,?_,by grind,c⟩⟩;rw[nL,bZ rfl,m,iK,ed,gZ _ _ (by rw[n];omega),a]
def FA(k:Ct)(x:Int):(fI k).set 25 (gB x)=fI {k with st:=x}:=by
 unfold fI;rw[gh _ _ (by rw[dP];omega),dP];rfl
def Uw(k:Ct)(x:Int):(fI k).set 26 (gI x)=fI {k with price:=x}:=by
 unfold fI;rw[gh _ _ (by rw[dP];omega),dP];rfl
def Ck(h:k.Ok){x:Int}(a:1<=x/\x<=3):({k with st:=x}:Ct).Ok:=⟨⟨h.1.1,⟨by show 0<=x;omega,by show x<256;omega⟩,h.1.2.2⟩,h.2.1,h.2.2.1,a⟩
def tS{s:Sp}{p:Int}(h:s.isPrice p=true):1<=p/\p<=10000000:=by
 unfold Sp.isPrice CG amongB MP at h;simp only[cL,dN]at h;exact h.2.1
def CZ(h:k.Ok){x:Int}(a:k.spec.isPrice x=true):({k with price:=x}:Ct).Ok:=by
 have b:=tS a;exact⟨⟨h.1.1,h.1.2.1,⟨by show _<=x;omega,by show x<_;omega⟩⟩,h.2.1,a,h.2.2.2⟩
def pN.turn{cap:Nat}{l' :List Ct}(j:hC w c #[.bool true,gU S.day,.slice (some ⟨b,0,none⟩) l'.length cap] 137)
  (d:Ch w (.slice (some ⟨b,0,none⟩) l'.length cap) l')(l:∀x,F x↔x=c\/x=b)(a:b≠c)(f:l'.length<=16)(e:pL S.day)(i:∀k∈l',k.Ok)(g:qO l'):pN w c F ⟨S.day,l'⟩:=
 ⟨⟨_,j,d,λx=>by rw[l x];exact⟨λh=>h.imp id λh=>by rw[h];rfl,λh=>h.imp id λh=>by cases h;rfl⟩,λh=>a (by cases h;rfl)⟩,f,e,i,g⟩
def nz(S:sE)(n:Int)(on:Bool):Int×sE:=if ex S.l n≠0 then(ex S.l n,S)else(0,⟨S.day,lr S.l n λk=>{k with st:=if on then 2 else 1}⟩)
def Qn{on:Bool}(h:pN w c F S)
  (d:∀G,pN G c F (nz S n on).2->de F w G->K (gI (nz S n on).1) G):Ca pQ 86 #[iZ c,gU n,.bool on] w K:=by
 apply aB5;refine xW h (λa D B=>?_) λi s b o a C T hg D B Q P J m=>?_
 ·refine qS0 ?_;refine qS0 ?_;refine qSt1 D ?_;have e:nz S n on=(ex S.l n,S):=by unfold nz;rw[bZ D]
  rw[e]at d;exact d _ (h.mod B eQ) (B.to)
 ·refine qS0 ?_;refine qS0 ?_;refine qSf0 ?_;have e:nz S n on=(0,⟨S.day,lr S.l n λk=>{k with st:=if on then 2 else 1}⟩):=by unfold nz;rw[aZ (by rw[D];simp)]
  rw[e]at d;simp only[dr];obtain⟨b',N,rest,H,R,hA,O,t⟩:=P.item s;cases H;have r:=t 25 qZ;rw[D5]at r;have p:F b:=(J b).2 (.inr rfl);have V:∀x y,de F a ((a.setCell ⟨b,i*27+25,none⟩ x).setCell ⟨b,i*27+25,none⟩ y):=λx y=>(((de.refl F a).setCell (.inl p) _ _).setCell (.inl p) _ _)
  have L:∀x,de F a (a.setCell ⟨b,i*27+25,none⟩ x):=λx=>((de.refl F a).setCell (.inl p) _ _)
  have u:de F w a:=B.to;refine qS1 cS ?_;refine qU2 O r ?_;have l1:=P.set1 s (j:=25) qZ (v:=gB 1) rfl (FA _ _);have A:∀y:Int,1<=y/\y<=3->_:=λy X=>sM (l:=S.l) (n:=n) (f:=λk=>{k with st:=y}) (λk U _=>⟨Ck (h.ok k U) X,rfl⟩) h.ok h.srt
  have g:∀(W:Wt_) x,hC W c #[.bool true,gU S.day,.slice (some ⟨b,0,none⟩) S.l.length o] 137->hC (W.setCell ⟨b,i*27+25,none⟩ x) c #[.bool true,gU S.day,.slice (some ⟨b,0,none⟩) S.l.length o] 137:=λW x h=>by
   have:de (λz=>z=b) W (W.setCell ⟨b,i*27+25,none⟩ x):=(de.refl (λz=>z=b) W).sc;exact this.hpk h λe=>m e.symm
  cases on with
  |false=>
   rw[gP];have q:=A 1 qZ;rw[rL h.srt s C]at q;simp only[dE,eW]at d;rw[rL h.srt s C]at d;refine d _ (pN.turn (by rw[ey];exact g _ _ Q) (by grind) J m (by rw[ey];exact h.len) h.day q.1 q.2.1) (u.trans (L _))
  |true=>
   rw[kx];refine qS1 cS ?_
   have Y:i*27+25<(S.l.flatMap fI++rest).length:=by
    have:=(cP.1 r).1;exact this
   have M:((S.l.flatMap fI++rest).set (i*27+25) (gB 1))[i*27+25]? =some (gB 1):=by grind
   refine qU2 O M ?_;have E:i<(S.l.set i {S.l[i]with st:=1}).length:=by grind
   have I:Ch (a.setCell ⟨b,i*27+25,none⟩ (gB 1)) (.slice (some ⟨b,0,none⟩) (S.l.set i {S.l[i]with st:=1}).length o) (S.l.set i {S.l[i]with st:=1}):=by grind
   have Z:=I.set1 E (j:=25) qZ (v:=gB 2) rfl (FA _ _);rw[nt,gV,ey]at Z;have q:=A 2 qZ;rw[rL h.srt s C]at q;simp only[fh]at d;rw[rL h.srt s C]at d;refine d _ (pN.turn (by rw[ey];exact g _ _ (g _ _ Q)) (by grind) J m (by rw[ey];exact h.len) h.day q.1 q.2.1) (u.trans (V _ _))
def jJ(S:sE)(n price:Int):Int×sE:=
 match eR S.l n with
 |none=>(7,S)
 |some k=>if k.st=3 then(50,S)else if k.spec.isPrice price=false then(52,S)else(0,⟨S.day,lr S.l n λk=>{k with price:=price}⟩)
def GN(h:pN w c F S)
  (o:∀C,pN C c F (jJ S n price).2->de F w C->K (gI (jJ S n price).1) C):Ca pQ 87 #[iZ c,gU n,gI price] w K:=by
 apply au6;refine xW h (λN s u=>?_) λi g b G N U E D s u hc T R p=>?_
 ·refine qS0 ?_;refine qS0 ?_;refine qSt1 s ?_
  have e:jJ S n price=(ex S.l n,S):=by
   unfold jJ ex;unfold ex at s;cases D:eR S.l n with
   |none=>rfl
   |some k=>
    rw[D]at s;simp only at s|-;by_cases h3:k.st=3
    ·grind
    ·grind
  rw[e]at o;exact o _ (h.mod u eQ) (u.to)
 ·refine qS0 ?_;refine qS0 ?_;refine qSf0 ?_;simp only[dr];obtain⟨Z,q,rest,m,A,Q,O,d⟩:=T.item g;cases m
  have M:At N b (i*27) (jA S.l[i].spec):=by
   have:=Q.sub 0 25 (by rw[eE];omega);rw[iw,fI,dh (by rw[dP];omega),cT (by rw[dP];omega)]at this;exact this
  refine qS1 cS ?_;apply jq (jA S.l[i].spec) 24 DW Cc (dP _) M;have L:=h.ok S.l[i] (cC g);refine wL L.1.1 λy B=>?_;have J:=u.trans B
  have Y:jJ S n price=if S.l[i].spec.isPrice price=false then(52,S)else(0,⟨S.day,lr S.l n λk=>{k with price:=price}⟩):=by
   unfold jJ;rw[D];simp only;rw[aZ E]
  rw[Y]at o;cases hp:S.l[i].spec.isPrice price with
  |false=>
   refine qSt0 ?_;rw[bZ hp]at o;exact o _ (h.mod J eQ) (J.to)
  |true=>
   refine qSf0 ?_;rw[aZ (by rw[hp];simp),rL h.srt g U]at o;have r:Ch y (.slice (some ⟨b,0,none⟩) S.l.length G) S.l:=T.mod B eQ;have I:=B.hpk hc id;obtain⟨Z,q,rest,m,A,Q,O,d⟩:=r.item g;cases m;have t:=d 26 qZ;rw[Hs]at t;refine qS1 cS ?_;refine qU2 O t ?_;have l1:=r.set1 g (j:=26) qZ (v:=gI price) rfl (Uw _ _)
   have H:=sM (l:=S.l) (n:=n) (f:=λk=>{k with price:=price}) (λk P X=>⟨CZ (h.ok k P) (by
    have:k=S.l[i]:=by
     obtain⟨j,W,rfl⟩:=cX P;rcases Nat.lt_trichotomy j i with a|a|a
     ·have:=eI.1 h.srt j i W g a;omega
     ·subst a;rfl
     ·have:=eI.1 h.srt i j g W a;omega
    rw[this];exact hp),rfl⟩) h.ok h.srt
   rw[rL h.srt g U]at H;have V:de (λz=>z=b) y (y.setCell ⟨b,i*27+26,none⟩ (gI price)):=(de.refl (λz=>z=b) y).sc;refine o _ (pN.turn (by rw[ey];exact V.hpk I λe=>p e.symm) (by grind) R p (by rw[ey];exact h.len) h.day H.1 H.2.1) ((J.to).trans (V.mono λx _ hx=>(R x).2 (.inr hx)))
def Ki(a b:Sp):Bool:=decide (a.last<b.last)||(decide (a.last=b.last)&& decide (a.num<b.num))
def So{a b:Sp}(d:∀l,M0 w l->K (.bool (Ki a b)) l):Ca pQ 203 #[.agg (jA a).toArray,.agg (jA b).toArray] w K:=by
 apply aa8;obtain⟨j,o,c,n⟩:=EN a w;apply cI o;obtain⟨p,i⟩:=dW w.heap.size;rw[<-i]at c|-;obtain⟨r,m,g,k⟩:=EN b j;apply cI m;have c:=k.hpk c id;have d:=d _ (n.trans k);unfold Ki at d;obtain⟨q,h⟩:=dW j.heap.size;rw[<-h]at g|-;refine qS0 ?_;refine qS2 c El ?_;refine qS0 ?_;refine qS2 g El ?_;by_cases f:a.last<b.last
 ·refine qSt1 f ?_;simpa [f]using d
 ·refine qSf1 f ?_;refine qS0 ?_;refine qS2 c El ?_;refine qS0 ?_;refine qS2 g El ?_;by_cases e:a.last=b.last
  ·refine qSt1 e ?_;refine qS0 ?_;refine qS2 c Qa ?_;refine qS0 ?_;refine qS2 g Qa ?_;refine qS0 ?_;simpa [e]using d
  ·refine qSf1 e ?_;simpa [f,e]using d
def FU(k y:Ct):Bool:=decide (y.st≠3)&& Ki y.spec k.spec
def Qo{y:Ct}{off:Nat}(i:hC w p #[.pointer (some ⟨b,off,none⟩)] T)(h:At w b off (fI k))
  (f:∀l,M0 w l->K (.bool (FU k y)) l):Ca pQ 202 #[.agg (fI y).toArray,.pointer (some ⟨p,0,none⟩)] w K:=by
 apply aa7;obtain⟨j,s,a,r⟩:=GT y w;apply cI s;obtain⟨q,g⟩:=dW w.heap.size;rw[<-g]at a|-;have md:=r.drew;have a:hC j.drew q (fI y).toArray oT:=a;have n:=md.hpk i id;have m:=h.mod md id;generalize j.drew=u at md a n m|-;refine qP0 ?_;refine qW2 a D5 ?_;unfold FU at f;by_cases d:y.st=3
 ·refine qPf1 d ?_;have e:=f _ md;simpa [d]using e
 ·refine qPt1 d ?_
  have c:∀{W:Wt_} {b off:Nat} {x:Ct},At W b off (fI x)->At W b off (jA x.spec):=λh=>by
   have:=h.sub 0 25 (by rw[eE];omega);rw[iw,fI,dh (by rw[dP];omega),cT (by rw[dP];omega)]at this;exact this
  refine qP0 ?_;apply sm (jA y.spec) 24 DW Cc (dP _) (c (At.all a));refine qW1 n ?_;simp only[dr];refine qP1 cS ?_;apply sm (jA k.spec) 24 DW Cc (dP _) (c m);refine So λt o=>?_;have e:=f _ (md.trans o);simpa [d]using e
end Go.Proofs
