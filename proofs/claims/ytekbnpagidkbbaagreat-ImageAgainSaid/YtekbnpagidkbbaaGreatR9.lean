/- Part of a proof. -/
import Derived.Test.YtekbnpagidkbbaaGreatR8
set_option linter.all false
set_option maxRecDepth 100000
set_option maxHeartbeats 4000000
namespace Go.Proofs
open Go Go.Vc Go.Sort
variable {cl:Bool}{price:Int}{w:Wt_}{S:bJ}
def KY{d:Nat}{ds:List Nat}{K:World->Prop}:Ap (d::ds) w K↔hp w d=some (.deferred (some []))/\Ap ds (w.putObj d (.deferred none)) K:=aG
def G8{K:World->Prop}:Ap [] w K↔K w:=aG
def pg(x:Int×Int):List Value:=[.int .u32 x.1,gI x.2]
def Po.won(price:Int)(p:Po):Int×Int:=(p.a,p.q*price - p.b)
def vaE:fY pQ 366 2 16=true:=cV
def al5:Tryz.prog.underlying 362=some (.slice 366):=cV
def Gx{l:List Po}{i:Nat}{p:Po}(h:l[i]? =some p):S.marked (l.take (i+1)) price cl=(S.marked (l.take i) price cl).putP (p.mark price cl):=by
 unfold bJ.marked;rw[fW,h];simp
def AW{l:List Po}:∀{S:bJ},(S.marked l price cl).all=S.all/\(S.marked l price cl).fund=S.fund:=by
 induction l with
 |nil=>intro S;exact xg
 |cons p l a=>intro S;exact a (S:=S.putP (p.mark price cl))
def PH(p:Po)(price:Int)(cl:Bool):(p.mark price cl).key=p.key:=by
 unfold Po.mark Po.key;cases cl<;>rfl
def KZ{S' :bJ}(h:S.Ok)(e:S'.Ok)(i:S'.all=S.all){p:Po}(hp:p∈S.held){price:Int}(a:1<=price/\price<=MP)(cl:Bool):(S'.putP (p.mark price cl)).Ok:=by
 obtain⟨g,d,j,c,b,k,o,f⟩:=h.pos p hp;have l:=Kd (x:=p.q) (y:=price) (m:=MP) (n:=MP) ⟨c,b⟩ ⟨qZ,a.2⟩;unfold Po.mark;cases cl with
 |true=>exact e.putP ⟨g,d⟩ ⟨by simp[MP],by simp[MP]⟩ ⟨by simp[MF],by simp[MF]⟩ (by rw[i];exact f)
 |false=>exact e.putP ⟨g,d⟩ ⟨c,b⟩ ⟨by simp only[MP,MF,bi,dg]at*;omega,by simp only[MP,MF,bi,dg]at*;omega⟩ (by rw[i];exact f)
def NS(h:S.Ok){price:Int}(b:1<=price/\price<=MP)(cl:Bool):∀(l:List Po) (S' :bJ),(∀p∈l,p∈S.held)->S'.Ok->S'.all=S.all->(S'.marked l price cl).Ok:=by
 intro l;induction l with
 |nil=>intro S' _ a _;exact a
 |cons p l f=>
  intro S' c a d;exact f (S'.putP (p.mark price cl)) (λx e=>c x (ag _ e)) (KZ h a d (c p aw) b cl) d
def VM{l:Nat}{F:NP_}{K:aZ}{c:Int}(h:iw w l F S)(hl:S.held.length<4294967295)
  (hK:∀w' v,iw w' l F (S.mark c price cl).2.2->ic w' 366 2 v (S.mark c price cl).2.1.length ((S.mark c price cl).2.1.flatMap pg)->aR F w w' ->(∀b,aF v b->w.heap.size<=b)->K (.tuple #[v,gI (S.mark c price cl).1]) w'):
  Ca pQ 263 #[eP l,gU c,gI price,.bool cl] w K:=by
 have h0:=h;obtain⟨⟨m1,m2,A,B,h1,h2,h3,h4,h5,h6,h7⟩,hok⟩:=h;unfold eP;refine cN Tryz.func263 ?_;simp[go_sem,eP];generalize hn0:w.heap.size=u;generalize V:World.alloc _ _=w1;have mw1:M0 w w1:=by subst V;exact(mG.alloc _).alloc _
 have g0:hC w1 u #[eP l] 88:=by subst V hn0;simp[go_sem,eP]
 have g2:hC w1 (u+1) #[.int .i64 price] 2:=by subst V hn0;simp[go_sem]
 have g4:hC w1 (u+2) #[.bool cl] 4:=by subst V hn0;simp[go_sem]
 have q1:=h0.mod mw1 d9;apply mI q1;simp[go_sem];unfold bJ.mark at hK;have hMp:aY price 1 10000000=aY price 1 MP:=rfl;refine cT.at (λs W=>s=(.bool (decide (c=0\/aY price 1 MP=false)),())/\W=w1) ?_ ?_
 ·by_cases hc0:c=0
  ·simp[hc0]
  ·simp[hc0,go_sem,bT g2];apply oL;rw[hMp];simp[go_sem]
 rintro _ W ⟨rfl,rfl⟩;refine kR ?_;intro _;by_cases hc:c=0\/aY price 1 MP=false
 ·rw[ae hc]at hK;simp only[aW hc,ay,df];exact hK _ _ q1 (ic.nil ..) (mw1.to) λb f=>by cases f
 ·rw[aa hc]at hK;simp only[bD hc,ay,bi,dg];have hpr:1<=price/\price<=MP:=fe.1 (by cases h:aY price 1 MP with|true=>rfl|false=>exact absurd (.inr h) hc);have hne0:u≠W.heap.size:=by have:=aB g0;omega
  simp[go_sem,bT g0,hne0];generalize hvo:W.heap.size=vo;generalize hw2:World.alloc _ _=w2;have O:M0 W w2:=by subst hw2;exact(aR.refl _ W).alloc _
  have gv:hC w2 vo #[.slice none 0 0] 362:=by subst hw2 hvo;simp[go_sem]
  refine wQ (q1.mod O d9) hl λgvv C tl m3=>?_;have Z:=(mw1.trans O).trans m3;have q3:=h0.mod Z d9;have hvo3:vo<C.heap.size:=by have:=aB gv;have:=m3.size;omega
  have hn0v:u+2<vo:=by have:=aB g4;omega
  obtain⟨Ok,hit,hOk⟩:=tl.out;have hH:∀p∈S.holders c,p∈S.held:=λp hp=>(aU.1 hp).1;generalize hHd:S.holders c=H at*
  let J:(Nat->Prop)->Nat->World->Prop:=λQ i W=>∃v,iw W l F (S.marked (H.take i) price cl)/\hC W vo #[v] 362/\ic W 366 2 v i (((H.take i).map (Po.won price)).flatMap pg)/\
   (∀b,aF v b->C.heap.size+1<b)/\hC W u #[eP l] 88/\hC W (u+1) #[.int .i64 price] 2/\hC W (u+2) #[.bool cl] 4/\
   hp W C.heap.size=some (.deferred (some []))/\aR F w W/\∀b,Q b->C.heap.size+1<b/\b<W.heap.size/\¬aF v b
  have z:∀b,F b->b<u:=λb f=>by have:=h0.lt f;omega
  have e3:∀o,M0 C ((C.alloc (.deferred (some []))).alloc (.loop o)):=λo=>mG.alloc _;refine Ie hit (by simp) J (λ_ _=>False) (λo=>hOk _ (e3 o)) ?_ ?_ ?_ ?_ (λ_ _ _ h=>h.elim)
  ·intro o Q g mo hQ;have P:=(e3 o).trans mo;have m11:=Z.trans P;have hd:hp ((C.alloc (.deferred (some []))).alloc (.loop o)) C.heap.size=some (.deferred (some [])):=by simp[go_sem]
   refine⟨.slice none 0 0,h0.mod m11 d9,(m3.trans P).keep gv id,(show ic g _ 2 (.slice none 0 0) 0 []from ic.nil ..),λb f=>(by cases f),((O.trans m3).trans P).keep g0 id,((O.trans m3).trans P).keep g2 id,((O.trans m3).trans P).keep g4 id,mo.keep hd id,m11.to,λb f=>⟨(hQ b f).1,(hQ b f).2,λh=>by cases h⟩⟩
  ·rintro Q i g W2 ⟨v,j1,j2,j3,j4,j5,j6,j7,j8,j9,D⟩ L;refine⟨v,j1.mod L λb f e=>by have:=z b f;omega,L.keep j2 qZ,j3.mod L λb f e=>by have:=j4 b f;omega,j4,L.keep j5 qZ,L.keep j6 qZ,L.keep j7 qZ,L.keep j8 qZ,j9.on L λb f=>.inr (by have:=Z.size;omega),λb f=>⟨(D b f).1,bI (D b f).2.1 L.size,(D b f).2.2⟩⟩
  ·rintro Q i x g r hx ⟨v,j1,j2,j3,j4,j5,j6,j7,j8,j9,D⟩ j X KN KJ hKN hKJ
   obtain⟨p,I,rfl⟩:∃p,H[i]? =some p/\x=[nh p]:=by
    simp only[cz]at hx;cases hh:H[i]? with
    |none=>rw[hh]at hx;cases hx
    |some p=>rw[hh]at hx;exact⟨p,rfl,(cZ hx).symm⟩
   have hpm:=hH p (dc I);obtain⟨p1,p2,p3,p4,p5,p6,p7,p8⟩:=hok.pos p hpm;have f:=Kd (x:=p.q) (y:=price) (m:=MP) (n:=MP) ⟨p4,p5⟩ ⟨qZ,hpr.2⟩;simp only[MP,MF]at f p4 p5 p6 p7;have wr1:IntKind.i64.wrap (p.q*price)=p.q*price:=by rw[bV];omega
   have wr2:IntKind.i64.wrap (p.q*price - p.b)=p.q*price - p.b:=by rw[bV];omega
   obtain⟨E,hrc⟩:=di (C.heap.size+1);rw[<-hrc]at j hKN D|-;simp only[<-hrc]at j4;refine ouR ?_;simp[go_sem,nh,hn0];refine rI (r:=r) ?_ X ?_
   ·rw[er,aa (by have:=aB j;omega)];exact j
   have R:vo≠g.heap.size:=by have:=aB j2;omega
   have hne2:vo≠E:=qZ;have hne3:u+1≠E:=qZ;have hne4:u+1≠g.heap.size:=by have:=aB j6;omega
   have N:g.heap.size≠E:=by have:=aB j;omega
   simp[go_sem,bT j2,bT j6,R,hne2,hne3,hne4,N,wr1,wr2];generalize T:World.putObj _ _ _=w4;have m4:aR (λb=>b=E) g w4:=by subst T;exact((aR.refl (λb=>b=E) g).alloc _).putObj (b:=E) (.inl rfl) _
   have hloc:hC w4 g.heap.size #[.int .u32 p.c,gU p.a,gI p.q,gI p.b] 124:=by subst T;simp[go_sem,N]
   have hrec4:hp w4 E=some (.loop {r with state:=.busy}):=by subst T;simp[go_sem,bT j,lR N]
   have hsz4:w4.heap.size=g.heap.size+1:=by subst T;simp[go_sem]
   have hHl:(H.take i).length=i:=by
    rw[az];have:=(aJ.1 I).1;omega
   have hHle:H.length<=S.held.length:=by rw[<-hHd];exact bh ..
   have j3' :ic w4 366 2 v ((H.take i).map (Po.won price)).length (((H.take i).map (Po.won price)).flatMap pg):=by
    rw[ah,hHl];exact j3.mod m4 λb f e=>by have:=j4 b f;omega
   refine PU (d:=(H.take i).map (Po.won price)) (enc:=pg) (x:=p.won price) (k:=1) al5 vaE rfl rfl qZ qZ j3' (by rw[ah,hHl];have:=(aJ.1 I).1;omega) λv' w5 o5 m5 n5=>?_;obtain⟨va,vc,hv',-⟩:=o5.isSl
   have htk:(H.take i).map (Po.won price)++[p.won price]=(H.take (i+1)).map (Po.won price):=by
    rw[fW,I];simp
   have hHl1:(H.take (i+1)).length=i+1:=by
    rw[az];have:=(aJ.1 I).1;omega
   rw[htk,ah,hHl1]at o5;rw[htk,ah,hHl1]at hv';have hvl:∀b,aF v b->b<g.heap.size:=λb f=>j3.lt f;have U:∀b,b<=E->¬aF v b:=λb f h=>by have:=j4 b h;omega
   have Y:aR (λb=>b=E\/aF v b) g w5:=(m4.mono λ_ _ h=>.inl h).on m5 λb f=>.inl (.inr f);have k2:hC w5 vo #[v] 362:=Y.keep j2 (λh=>by rcases h with h|h;omega;exact U _ qZ h);have k6:hC w5 (u+1) #[.int .i64 price] 2:=Y.keep j6 (λh=>by rcases h with h|h;omega;exact U _ qZ h);have kloc:hC w5 g.heap.size #[.int .u32 p.c,gU p.a,gI p.q,gI p.b] 124:=m5.keep hloc (λh=>by have:=hvl _ h;omega);have M:g.heap.size≠vo:=qZ;have hne7:u+1≠vo:=qZ;have k7' :hC w5 (u+2) #[.bool cl] 4:=Y.keep j7 (λh=>by rcases h with h|h;omega;exact U _ qZ h);have hne8:u+2≠vo:=qZ;have hne9:u+2≠g.heap.size:=by have:=aB j7;omega
   subst hv';simp[go_sem,bT k2,bT kloc,bT k6,bT k7',M,hne7,hne8,hne9,wr1];generalize hw6:(w5.setCell ⟨vo,0,none⟩ (.slice va (i+1) vc)).setCell ⟨g.heap.size,3,none⟩ (gI (p.q*price))=G;have m6:aR (λb=>b=vo\/b=g.heap.size) w5 G:=by subst hw6;exact((aR.refl (λb=>b=vo\/b=g.heap.size) w5).setCell (b:=vo) (.inl (.inl rfl)) _ _).setCell (b:=g.heap.size) (.inl (.inr rfl)) _ _
   have l2:hC G vo #[.slice va (i+1) vc] 362:=by subst hw6;simp[go_sem,k2,lR M]
   have lloc:hC G g.heap.size #[.int .u32 p.c,gU p.a,gI p.q,gI (p.q*price)] 124:=by subst hw6;simp[go_sem,kloc,M]
   have hvo5:∀b,aF (.slice va (i+1) vc) b->E<b/\b≠g.heap.size:=λb f=>by
    rcases n5 b f with h|h
    ·grind
    ·grind
   have t:aR (λb=>b=E\/aF v b\/b=vo) g G:=(Y.mono λ_ _ h=>h.elim .inl λh=>.inr (.inl h)).on m6 λb f=>by
    rcases f with h|h
    ·grind
    ·exact gr
   have q:∀b,b<E->b≠vo->¬(b=E\/aF v b\/b=vo):=λb h1 h2 h=>by
    rcases h with h|h|h
    ·omega
    ·grind
    ·exact h2 h
   have k7:hC G (u+2) #[.bool cl] 4:=t.keep j7 (q _ qZ qZ);have k5:hC G u #[eP l] 88:=t.keep j5 (q _ qZ qZ);have k6' :hC G (u+1) #[.int .i64 price] 2:=t.keep j6 (q _ qZ qZ);have k8:hp G C.heap.size=some (.deferred (some [])):=t.keep j8 (q _ qZ qZ)
   have krec:hp G E=some (.loop {r with state:=.busy}):=by
    apply m6.keep (m5.keep hrec4 (U _ (aD _)));rintro(h|h)
    ·omega
    ·omega
   have q6:iw G l F (S.marked (H.take i) price cl):=j1.mod t λb f h=>q b (by have:=z b f;omega) (by have:=z b f;omega) h;let p' :=p.mark price cl;refine cT.at (λ_ W=>∃m:aR (λb=>b=g.heap.size) G W,hC W g.heap.size (dy p').toArray 124) ?_ ?_
   ·cases cl with
    |true=>
     simp[go_sem,bT lloc];exact⟨((aR.refl _ G).setCell (by simp) _ _).setCell (by simp) _ _,by simp[p',Po.mark,dy]⟩
    |false=>
     simp[go_sem];exact⟨rZ,by simp[lloc,p',Po.mark,dy]⟩
   rintro _ W7 ⟨m7,lloc7⟩;refine kR ?_;intro _;have kk:∀{b o},hp G b=some o->b<g.heap.size->hp W7 b=some o:=λh f=>m7.keep h qZ;have hb5:=kk k5 (by have:=aB j5;omega);simp[go_sem,bT hb5,bT lloc7,dy];have q7:=q6.mod m7 λb f e=>by have:=z b f;have:=aB j;omega
   have hall:=(AW (S:=S) (l:=H.take i) (price:=price) (cl:=cl)).1;have hok' :((S.marked (H.take i) price cl).putP p').Ok:=KZ hok q7.ok hall hpm hpr cl;refine Kh (p:=p') q7 hok' λW8 q8 m8=>?_;have kF:∀{b o},hp W7 b=some o->u<=b->hp W8 b=some o:=λh f=>m8.keep h (λhf=>by have:=z _ hf;omega);refine hKN W8 ⟨.slice va (i+1) vc,?_,kF (kk l2 (by have:=aB j2;omega)) qZ,?_,λb f=>(by have:=(hvo5 b f).1;omega),kF hb5 (aD _),kF (kk k6' (by have:=aB j6;omega)) qZ,kF (kk k7 (by have:=aB j7;omega)) qZ,kF (kk k8 (by have:=aB j;omega)) qZ,?_,?_⟩ (kF (kk krec (aB j)) qZ) ?_
   ·rw[Gx I];exact q8
   ·refine((o5.mod m6 λb f h=>?_).mod m7 λb f h=>(hvo5 b f).2 h).mod m8 λb f h=>?_
    ·grind
    ·grind
   ·refine((j9.on t λb f=>?_).on m7 λb f=>?_).trans m8
    ·rcases f with h|h|h
     ·grind
     ·grind
     ·exact gr
    ·grind
   ·intro b f;obtain⟨q1,q2,q3⟩:=D b f;have hsz8:g.heap.size<=W8.heap.size:=by have:=t.size;have:=m7.size;have:=m8.size;omega
    refine⟨qZ,qZ,λh=>?_⟩;rcases n5 b h with h|h
    ·exact q3 h
    ·rw[hsz4]at h;omega
   ·intro b f;obtain⟨q1,q2,q3⟩:=D b f;have e1:=t.blk b q2 (λh=>by rcases h with h|h|h;omega;exact q3 h;omega);have e2:=m7.blk b (by have:=t.size;omega) (by show¬b=_;omega);have e3:=m8.blk b (by have:=t.size;have:=m7.size;omega) (λh=>by have:=z b h;omega);rw[e3,e2,e1]
  ·rintro Q g o ⟨v,j1,j2,j3,j4,j5,j6,j7,j8,j9,D⟩;have hHl:((H.map λa=>[nh a]):List (List Value)).length=H.length:=by simp
   rw[hHl,aC (aD _)]at j1 j3;have R:vo≠C.heap.size+1:=qZ;have hne2:C.heap.size≠C.heap.size+1:=qZ;refine OT ?_;obtain⟨va,vc,hv,-⟩:=j3.isSl;simp[go_sem,jR,bT j2,R];simp[go_sem,KY,G8,j8];have L:aR (λb=>b=C.heap.size+1\/b=C.heap.size) g ((g.putObj (C.heap.size+1) (.loop o)).putObj C.heap.size (.deferred none)):=((aR.refl _ g).putObj (.inl (.inl rfl)) _).putObj (.inl (.inr rfl)) _;refine hK _ v (j1.mod L λb f h=>?_) ?_ (j9.on L λb f=>.inr ?_) λb f=>?_
   ·grind
   ·have:=j3.mod L λb f h=>by have:=j4 b f;omega
    show ic _ _ 2 v (H.map (Po.won price)).length ((H.map (Po.won price)).flatMap pg);simpa using this
   ·have:=Z.size;omega
   ·grind
end Go.Proofs
namespace Go.Proofs
open Go Go.Vc
attribute [local congr] bj
variable {buy:Bool}{l:List Od}{s:Nat}
def UC{W:Wt_}{K:World->Prop}:∀{ds:List Nat},ds.Nodup->(∀d∈ds,hp W d=some (.deferred (some [])))->(∀a,aR (λb=>b∈ds) W a->K a)->Ap ds W K:=by
 intro ds;induction ds generalizing W with
 |nil=>intro _ _ c;exact G8.2 (c W rZ)
 |cons d ds k=>
  intro j f c;obtain⟨h1,h⟩:=ce.1 j;refine KY.2 ⟨f d aw,k h (λx g=>?_) λa m=>c a ?_⟩
  ·rw[Nk,aa (λe:x=d=>h1 (e▸g))];exact f x (ag _ g)
  ·exact((aR.refl (λb=>b∈d::ds) W).putObj (b:=d) (.inl aw) _).trans (m.mono λb _ i=>ag _ i)
def UQ{b:Nat}{T:TypeId}:BB pQ (.func (.func 239) #[] #[.pointer (some ⟨b,0,none⟩)]) (l.map λo=>[kx o]) (λW=>hC W b #[dz s] T/\∃F,ig W s F buy l):=by
 refine⟨⟨_,_,_,rfl,?_⟩⟩;rintro y J Js W K ⟨e,F,D⟩ P j c g x;show Ca pQ _ #[y,.pointer (some ⟨b,0,none⟩)] W K;refine cN Tryz.func239 ?_;refine dN e ?_;apply pZ D;refine eU ?_;obtain⟨⟨sl,G,R,c3,c4⟩,c5,c6⟩:=id D;refine dN e ?_;simp only[dz,bU];refine dN G ?_;refine dN G ?_;refine t6 (l:=l) R.rd qZ λk L u N Y=>?_;obtain⟨sa,sc,w,-⟩:=u.isSl;apply iI (gI (l.length:Int)) L (by rw[w];simp[go_sem]);have v:J (aF k) 0 L:=P _ _ N λb e=>⟨Y b e,u.lt e⟩
 refine d8 (λst d=>∃i:Nat,i<=l.length/\st=(gI i,())/\J (aF k) i d/\qT d k l)
  (λst _=>match st.1 with| .int _ i=>l.length - i.toNat|_=>0) ⟨0,qZ,rfl,v,u⟩ ?_
 rintro⟨_,_⟩ d ⟨i,hi,⟨⟩,H,E⟩ Z p;refine lV ?_;intro _;by_cases f:i<l.length
 ·have h:(i:Int)<(l.length:Int):=qZ;refine dY h ?_;obtain⟨b',B,Q,m,z⟩:=E.load f;refine bo (m .i64) (bo z ?_);obtain⟨w3,U,C,O⟩:=jY d;apply bo U;obtain⟨q,t⟩:=di d.heap.size;rw[<-t]at C|-;obtain⟨A,V,S,X⟩:=jE (o' :=l[i]) C;apply iE V;have M:M0 d A:=O.on X λb e=>gr;apply bo (lE (o:=l[i]) (At.all S));have n:=E.mod M d9;refine c (aF k) i [kx l[i]] A (by simp[f]) (j _ _ _ _ H M) _ (λI a r=>?_) λI a=>?_
  ·refine eU ?_;apply ao (gI ((i+1:Nat):Int)) I (by simp[go_sem];rw[mR]);exact p _ _ ⟨i+1,qZ,rfl,a,n.keep r⟩ (by show l.length - (((i+1:Nat):Int)).toNat<l.length - ((i:Int)).toNat;omega)
  ·refine lh ?_;exact x _ a
 ·obtain rfl:i=l.length:=qZ;refine eU ?_;exact g _ d (by simpa using H)
def K8{w:Wt_}{K:aZ}{F:NP_}(h:ig w s F buy l)
  (f:∀d a,Dn d (l.map λo=>[kx o]) a->M0 w a->K d a):Ca pQ 166 #[dz s] w K:=by
 unfold dz;refine cN Tryz.func166 ?_;have c:M0 w (w.alloc (.cells #[dz s] 239)):=mG;apply ao (bO w.heap.size 0) (w.alloc (.cells #[dz s] 239)) (by simp[go_sem,dz]);have e:hC (w.alloc (.cells #[dz s] 239)) w.heap.size #[dz s] 239:=by simp[go_sem]
 exact f _ _ ⟨⟨_,UQ (s:=s) (b:=w.heap.size) (buy:=buy) (l:=l) (T:=239),λW m=>⟨m.hpk e id,F,h.mod (c.trans m) d9⟩⟩,_,_,rfl⟩ c
def sL{l:List Int}{B:Int}(h:∀x∈l,0<=x/\x<=B):0<=l.sum/\l.sum<=l.length*B:=by
 induction l with
 |nil=>simp
 |cons x l a=>
  have h1:=h x (by simp);have c:=a λy b=>h y (by simp[b]);rw[bH,be];have e:((l.length+1:Nat):Int)*B=l.length*B+B:=by rw[jM,Int.add_mul];omega
  rw[e];omega
def vI(l:List Od)(acct:Int):Int:=((l.filter λo=>decide (o.acct≠acct)).map (·.left)).sum
def D7(l:List Od)(o:Od)(acct:Int):vI (l++[o]) acct=vI l acct+(if o.acct≠acct then o.left else 0):=by
 unfold vI;rw[cy,aM,fU];congr 1;by_cases h:o.acct=acct<;>simp[h]
def UY{acct:Int}(h:∀o∈l,1<=o.left/\o.left<=1000000):0<=vI l acct/\vI l acct<=l.length*1000000:=by
 have h1:=sL (l:=(l.filter λo=>decide (o.acct≠acct)).map (·.left)) (B:=1000000) λx b=>by
  obtain⟨o,a,rfl⟩:=aL.1 b;have:=h o (aU.1 a).1;omega
 rw[ah]at h1;have c:=bh (λo:Od=>decide (o.acct≠acct)) l;unfold vI;omega
def Od.left_bd{o:Od}(h:o.may=true):1<=o.left/\o.left<=1000000:=by
 unfold Od.may at h;simp only[ai]at h;exact bE h.2
def TO{p:Od->Bool}{j:Nat}(b:j<l.length)(h:∀o∈l.take j,p o=true)(a:p l[j]=false):l.takeWhile p=l.take j:=by
 induction l generalizing j with
 |nil=>simp at b
 |cons x l d=>
  cases j with
  |zero=>
   simp only[eW]at a;rw[lM,a];simp
  |succ j=>
   have e:=h x (by simp);rw[lM,e];simp only[df,ij];rw[d (by simpa using b) (λo c=>h o (by simp[c])) (by simpa using a)]
def WD{p:Od->Bool}(h:∀o∈l,p o=true):l.takeWhile p=l:=by
 induction l with
 |nil=>rfl
 |cons x l b=>
  rw[lM,h x (by simp)];simp only[df];rw[b λo a=>h o (by simp[a])]
def NJ{w:Wt_}{K:aZ}{F:NP_}{price acct:Int}(h:ig w s F buy l)
  (hK:∀w',M0 w w' ->K (gI (jr buy l price acct)) w'):Ca pQ 229 #[dz s,gI price,gU acct] w K:=by
 unfold dz;refine cN Tryz.func229 ?_;obtain⟨a,n⟩:=di w.heap.size
 have hlay:∃B,((w.alloc (.cells #[dz s] 239)).alloc (.cells #[.int .i64 price] 2) |>.alloc (.cells #[.int .u32 acct] 45) |>.alloc (.cells #[.int .i64 0] 2))=B/\B.heap.size=a+4/\M0 w B/\
   hC B a #[dz s] 239/\hC B (a+1) #[.int .i64 price] 2/\hC B (a+2) #[.int .u32 acct] 45/\hC B (a+3) #[.int .i64 0] 2:=by
  refine⟨_,rfl,by simp[go_sem,n],((mG.alloc _).alloc _).alloc _,?_,?_,?_,?_⟩<;>simp[go_sem,n]
 obtain⟨B,Y,hsz4,m4,b0,b1,b2,b3⟩:=hlay;apply ao (bO a 0) (w.alloc (.cells #[dz s] 239)) (by simp[go_sem,dz,n]);apply ao (bO (a+1) 0) ((w.alloc (.cells #[dz s] 239)).alloc (.cells #[.int .i64 price] 2)) (by simp[go_sem,n]);apply ao (bO (a+2) 0) (((w.alloc (.cells #[dz s] 239)).alloc (.cells #[.int .i64 price] 2)).alloc (.cells #[.int .u32 acct] 45)) (by simp[go_sem,n]);apply ao (bO (a+3) 0) B (by rw[<-Y];simp[go_sem,n]);clear Y;apply wL (dz s) b0;refine K8 (h.mod m4 d9) λgv k ht T=>?_;obtain⟨⟨Ok,hit,hOk⟩,f,cap,rfl⟩:=ht;have M5:=m4.trans T;have q5:=h.mod M5 d9;have d0:=T.hpk b0 id;have d1:=T.hpk b1 id;have d2:=T.hpk b2 id;have d3:=T.hpk b3 id;have hs5:=T.size;have N:∀b,F b->b<a:=λb g=>by rw[n];exact h.lt g
 let p:Od->Bool:=λo=> !iG buy price o.price
 let J:(Nat->Prop)->Nat->World->Prop:=λQ j W=>ig W s F buy l/\hC W a #[dz s] 239/\hC W (a+1) #[.int .i64 price] 2/\hC W (a+2) #[.int .u32 acct] 45/\
  hC W (a+3) #[.int .i64 (vI (l.take j) acct)] 2/\(∀o∈l.take j,p o=true)/\hp W k.heap.size=some (.deferred (some []))/\aR (λb=>b=a+3) k W/\∀b,Q b->k.heap.size+1<b/\b<W.heap.size
 let Jx:Code->World->Prop:=λc W=>c=.exit 0/\hC W (a+3) #[.int .i64 (jr buy l price acct)] 2/\hp W k.heap.size=some (.deferred (some []))/\aR (λb=>b=a+3) k W;have e5:∀o,M0 k ((k.alloc (.deferred (some []))).alloc (.loop o)):=λo=>mG.alloc _
 have fin:∀W o,hC W (a+3) #[.int .i64 (jr buy l price acct)] 2->hp W k.heap.size=some (.deferred (some []))->aR (λb=>b=a+3) k W->
   rv pQ (iL 2 (bO (a+3) 0)) (W.putObj (k.heap.size+1) (.loop o)) λv52 w53=>
    ru pQ (iS 2 (bO (a+3) 0) v52) w53 λw54=>
    Ap ([k.heap.size]++[]) w54 λw55=>
    nV pQ (iL 2 (bO (a+3) 0)) w55 λv56=>K v56 w55:=by
  intro W o k1 k2 k3;have mp:aR (λb=>b=k.heap.size+1) W (W.putObj (k.heap.size+1) (.loop o)):=(aR.refl (λb=>b=k.heap.size+1) W).putObj (.inl rfl) _;have C:=mp.hpk k1 qZ;have k2' :=mp.hpk k2 qZ;generalize W.putObj (k.heap.size+1) (.loop o)=X at mp C k2' |-;apply wL (gI (jr buy l price acct)) C;apply nE (X.setCell ⟨a+3,0,none⟩ (gI (jr buy l price acct))) (by simp[go_sem,C]);have ms:aR (λb=>b=a+3) X (X.setCell ⟨a+3,0,none⟩ (gI (jr buy l price acct))):=(aR.refl (λb=>b=a+3) X).sc;have k3' :hC (X.setCell ⟨a+3,0,none⟩ (gI (jr buy l price acct))) (a+3) #[.int .i64 (jr buy l price acct)] 2:=by simp[go_sem,C]
  have k4' :=ms.hpk k2' qZ;generalize X.setCell ⟨a+3,0,none⟩ (gI (jr buy l price acct))=W2 at ms k3' k4' |-;refine UC (by simp) (λd hd=>by rw[cm.1 hd];exact k4') λW3 m3=>?_;have k5:=m3.hpk k3' (by simp;omega);apply UK (gI (jr buy l price acct)) k5;refine hK _ ((((M5.on k3 λb g=>gr).on mp λb g=>gr).on ms λb g=>gr).on m3 λb g=>.inr ?_);have hb' :b=k.heap.size:=by simpa using g
  omega
 refine Ie (xs:=l.map λo=>[kx o]) hit (by simp) J Jx (λo=>hOk _ (e5 o)) ?_ ?_ ?_ ?_ ?_
 ·intro o Q W mo hQ;have V:=(e5 o).trans mo;have hd:hp ((k.alloc (.deferred (some []))).alloc (.loop o)) k.heap.size=some (.deferred (some [])):=by simp[go_sem]
  exact⟨q5.mod V d9,V.hpk d0 id,V.hpk d1 id,V.hpk d2 id,V.hpk d3 id,by simp,mo.hpk hd id,V.to,hQ⟩
 ·rintro Q j W W' ⟨P,j1,j2,j3,R,H,Z,L,t⟩ E;exact⟨P.mod E λb g e=>by have:=N b g;omega,E.hpk j1 qZ,E.hpk j2 qZ,E.hpk j3 qZ,E.hpk R qZ,H,E.hpk Z qZ,L.on E λb g=>gr,λb g=>⟨(t b g).1,bI (t b g).2 E.size⟩⟩
 ·rintro Q j x W r hx ⟨P,j1,j2,j3,R,H,Z,L,t⟩ v A KN KJ M hKJ
  obtain⟨U,hxo⟩:∃U:j<l.length,x=[kx l[j]]:=by
   rw[cz]at hx;cases hh:l[j]? with
   |none=>rw[hh]at hx;cases hx
   |some o=>
    obtain⟨U,he⟩:=aJ.1 hh;rw[hh]at hx;exact⟨U,by rw[he];exact(cZ hx).symm⟩
  subst hxo;obtain⟨D,hrc⟩:=di (k.heap.size+1);rw[<-hrc]at v M hKJ t|-;have hrl:=aB v;refine ouR ?_;obtain⟨w6,e6,b6,m6⟩:=jY W;apply bo e6;obtain⟨q,hq0⟩:=di W.heap.size;rw[<-hq0]at b6|-;obtain⟨I,e7,b7,m7⟩:=jE (o' :=l[j]) b6;show ru pQ (iS jG (bO q 0) (kx l[j])) w6 _;apply iE e7;have M7:M0 W I:=m6.on m7 λb g=>gr;have y:I.heap[D]? =some (.loop r):=M7.keep v id;apply rI (r:=r) y A;have m8:aR (λb=>b=D) I (I.putObj D (.loop {r with state:=.busy})):=(aR.refl (λb=>b=D) I).putObj (.inl rfl) _;have i:(I.putObj D (.loop {r with state:=.busy})).heap[D]? =some (.loop {r with state:=.busy}):=by rw[dR,ae rfl,y];rfl
  generalize I.putObj D (.loop {r with state:=.busy})=G at m8 i|-;have u:aR (λb=>b=D) W G:=(M7.to).trans m8;have g0:=u.hpk j1 qZ;have g1:=u.hpk j2 qZ;have g2:=u.hpk j3 qZ;have g3:=u.hpk R qZ;have gd:=u.hpk Z qZ;have zgq:=m8.hpk b7 qZ;have gS:=P.mod u λb g e=>by have:=N b g;omega
  have m:=zgq;unfold dF at m;apply wL (dz s) g0;apply bo (by simp[-Int.natCast_add,go_sem,g1]<;>first|exact xg|exact rfl);apply bo (by simp[-Int.natCast_add,go_sem,m]<;>first|exact xg|exact rfl);apply bo (by simp[-Int.natCast_add,go_sem,m]<;>first|exact xg|exact rfl);apply CC gS;cases hbt:iG buy price l[j].price with
  |true=>
   rw[kJ];refine hKJ _ _ ⟨rfl,?_,gd,L.on u λb g=>gr⟩ i
   have:jr buy l price acct=vI (l.take j) acct:=by
    unfold jr vI;rw[TO (p:=p) U H (by simp[p,hbt])]
   rw[this];exact g3
  |false=>
   rw[jO]
   have O:l.take (j+1)=l.take j++[l[j]]:=by
    rw[fW,av U];rfl
   have hp1:∀o∈l.take (j+1),p o=true:=by
    rw[O];intro o S;rcases bf.1 S with S|S
    ·exact H o S
    ·grind
   apply bo (by simp[-Int.natCast_add,go_sem,m]<;>first|exact xg|exact rfl);apply bo (by simp[-Int.natCast_add,go_sem,m]<;>first|exact xg|exact rfl);apply bo (by simp[-Int.natCast_add,go_sem,g2]<;>first|exact xg|exact rfl);by_cases ha:l[j].acct=acct
   ·apply wL (.bool false) ha;rw[jO];refine M _ ⟨gS,g0,g1,g2,?_,hp1,gd,L.on u λb g=>gr,λb g=>⟨by have:=(t b g).1;omega,bI (t b g).2 u.size⟩⟩ i λb g=>?_
    ·rw[O,D7,aa (by simp[ha]),iq];exact g3
    ·exact u.blk b (t b g).2 (by have:=(t b g).1;omega)
   ·apply wL (.bool true) ha;rw[kJ];apply bo (by simp[-Int.natCast_add,go_sem,g3]<;>first|exact xg|exact rfl);apply bo (by simp[-Int.natCast_add,go_sem,m]<;>first|exact xg|exact rfl);apply bo (by simp[-Int.natCast_add,go_sem,m]<;>first|exact xg|exact rfl);have hbd1:=UY (l:=l.take j) (acct:=acct) λo S=>Od.left_bd (P.may o (bF S)).1;have hbd2:=Od.left_bd (P.may l[j] (aq U)).1;have hlen:=P.len;have hlt:(l.take j).length<=100:=by rw[az];omega
    refine ao (gI (vI (l.take (j+1)) acct)) G (by
     rw[O,D7,ae ha];simp[go_sem];rw[mR]) ?_
    apply nE (G.setCell ⟨a+3,0,none⟩ (gI (vI (l.take (j+1)) acct))) (by simp[go_sem,g3]);have z:aR (λb=>b=a+3) G (G.setCell ⟨a+3,0,none⟩ (gI (vI (l.take (j+1)) acct))):=(aR.refl (λb=>b=a+3) G).sc;have k3:hC (G.setCell ⟨a+3,0,none⟩ (gI (vI (l.take (j+1)) acct))) (a+3) #[.int .i64 (vI (l.take (j+1)) acct)] 2:=by simp[go_sem,g3]
    generalize G.setCell ⟨a+3,0,none⟩ (gI (vI (l.take (j+1)) acct))=w9 at z k3|-;refine M _ ⟨gS.mod z λb g e=>by have:=N b g;omega,z.hpk g0 qZ,z.hpk g1 qZ,z.hpk g2 qZ,k3,hp1,z.hpk gd qZ,(L.on u λb g=>gr).trans z,λb g=>⟨by have:=(t b g).1;omega,bI (t b g).2 (ck u.size z.size)⟩⟩ (z.keep i qZ) λb g=>?_;rw[z.blk b (bI (t b g).2 u.size) (by have:=(t b g).1;omega)];exact u.blk b (t b g).2 (by have:=(t b g).1;omega)
 ·rintro Q W o ⟨P,j1,j2,j3,R,H,Z,L,t⟩;have hend:(l.map λo=>[kx o]).length=l.length:=by simp
  rw[hend,aK]at R H;refine OT ?_;simp only[jR];refine fin W o ?_ Z L
  have:jr buy l price acct=vI l acct:=by
   unfold jr vI;rw[WD (p:=p) H]
  rw[this];exact R
 ·rintro c W o ⟨rfl,k1,k2,k3⟩;refine OT ?_;simp only[jR];exact fin W o k1 k2 k3
end Go.Proofs
namespace Go.Proofs
open Go Go.Vc
attribute [local congr] bj
variable {F:NP_}{b:Nat}{w:Wt_}{K:aZ}
abbrev Bk:=Bool->List Od
variable {B:Bk}
def Bk.empty:Bk:=λ_=>[]
def Bk.set(B:Bk)(d:Bool)(l:List Od):Bk:=λx=>if x=d then l else B x
def Bk.set_self(B:Bk)(d:Bool)(l:List Od):B.set d l d=l:=by simp[Bk.set]
def Bk.set_other(B:Bk)(d:Bool)(l:List Od):B.set d l (!d)=B (!d):=by cases d<;>simp[Bk.set]
def Bk.set_same(B:Bk)(d:Bool):B.set d (B d)=B:=by
 funext x;unfold Bk.set;by_cases h:x=d<;>simp[h]
def Bk.find(B:Bk)(n:Int):Option (Od×Bool):=
 match og (B true) n with
 |some o=>some (o,true)
 |none=>match og (B false) n with
  |some o=>some (o,false)
  |none=>none
structure gg(w:Wt_)(b:Nat)(F:NP_)(B:Bk):Prop where
 out:∃(s:Bool->Nat) (G:Bool->Nat->Prop),hC w b #[dz (s true),dz (s false)] 242/\(∀d,ig w (s d) (G d) d (B d))/\(∀x,F x↔x=b\/G true x\/G false x)/\(∀d,¬G d b)/\∀x,G true x->¬G false x
def gg.mod{H:NP_}{w' :Wt_}(h:gg w b F B)(f:aR H w w')(c:∀x,F x->¬H x):gg w' b F B:=by
 obtain⟨s,G,h1,g,a,i,j⟩:=h.out;exact⟨s,G,f.hpk h1 (c b ((a b).2 (.inl rfl))),λd=>(g d).mod f λx e=>c x ((a x).2 (.inr (by cases d;exact .inr e;exact .inl e))),a,i,j⟩
def gg.lt(h:gg w b F B){x:Nat}(a:F x):x<w.heap.size:=by
 obtain⟨s,G,h1,c,d,e,f⟩:=h.out;rcases(d x).1 a with rfl|a|a
 ·exact aB h1
 ·exact(c true).lt a
 ·exact(c false).lt a
def gg.self(h:gg w b F B):F b:=by
 obtain⟨s,G,h1,c,a,d,e⟩:=h.out;exact(a b).2 (.inl rfl)
def fi(b:Nat):Value:=bO b 0
def Ha(q:∀b F g,gg g b F Bk.empty->M0 w g->(∀x,F x->w.heap.size<=x)->K (fi b) g):Ca pQ 52 #[] w K:=by
 refine cN Tryz.func52 ?_;refine GN λs1 l u j m t=>?_;refine GN λe k a o f n=>?_;apply ao (.agg #[dz s1,dz e]) a (by simp[go_sem,dz]);have i:M0 a (a.alloc (.cells #[dz s1,dz e] 242)):=mG;apply ao (fi a.heap.size) (a.alloc (.cells #[dz s1,dz e] 242)) rfl;have r:=m.size;have s:=f.size;refine q a.heap.size (λx=>x=a.heap.size\/l x\/k x) _ ⟨λd=>if d then s1 else e,λd=>if d then l else k,by simp[go_sem],λd=>?_,λx=>aG,λd=>?_,λx h1 p=>?_⟩ ((m.trans f).trans i) λx c=>?_
 ·cases d
  ·exact o.mod i d9
  ·exact(j.mod f d9).mod i d9
 ·cases d
  ·intro h;have:=o.lt h;omega
  ·intro h;have:=j.lt h;omega
 ·have v:=j.lt h1;have y:=n x p;omega
 ·rcases c with rfl|c|c
  ·omega
  ·exact t x c
  ·have:=n x c;omega
def qj(h:gg w b F B)(a:K (.bool true) w):Ca pQ 165 #[fi b] w K:=by
 obtain⟨s,G,h1,c,f,d,e⟩:=h.out;unfold fi;refine cN Tryz.func165 ?_;refine lh ?_;simp only[bU];refine dN h1 ?_;refine dN h1 ?_;apply ao (.bool true) w (by simp[go_sem,dz]);exact a
def CI{s:Bool->Nat}{d:Bool}(h1:hC w b #[dz (s true),dz (s false)] 242)
  (c:K (.tuple #[dz (s d),dz (s !d)]) w.drew):Ca pQ 228 #[fi b,.bool d] w K:=by
 unfold fi;refine cN Tryz.func228 ?_;have a:hC w.drew b #[dz (s true),dz (s false)] 242:=h1;simp only[bU];cases d with
 |true=>
  rw[kJ];refine sB ?_;refine AV a ?_;refine sB ?_;refine AV a ?_;exact⟨by simp[go_sem,a],c⟩
 |false=>
  rw[jO];refine sB ?_;refine AV a ?_;refine sB ?_;refine AV a ?_;exact⟨by simp[go_sem,a],c⟩
def gz(o:Od)(price:Int):Bool:=if o.buy then decide (price<=o.price)else decide (o.price<=price)
def J4{o:Od}{price:Int}(b:∀c,M0 w c->K (.bool (gz o price)) c):Ca pQ 282 #[kx o,gI price] w K:=by
 refine cN Tryz.func282 ?_;obtain⟨g,e,a,f⟩:=ux o w;have b:=b _ f;unfold gz at b;apply bo e;unfold dF at a;refine dN a ?_;refine dN a ?_;cases d:o.buy with
 |true=>
  rw[d]at b;rw[kJ];refine dN a ?_;refine dN a ?_;refine dI ?_;simpa using b
 |false=>
  rw[d]at b;rw[jO];refine dN a ?_;refine dN a ?_;refine dI ?_;simpa using b
def psU:Tryz.prog.underlying 257=some (.slice 239):=cV
def psE:fY pQ 239 1 8=true:=cV
def vQ{s:Bool->Nat}{G:Bool->Nat->Prop}{n:Int}(h1:hC w b #[dz (s true),dz (s false)] 242)(h2:∀d,ig w (s d) (G d) d (B d))
  (hN:B.find n=none->∀k,M0 w k->K (.tuple #[kx oQ,.pointer none]) k)
  (hS:∀o d,B.find n=some (o,d)->og (B d) n=some o->∀k,M0 w k->K (.tuple #[kx o,dz (s d)]) k):Ca pQ 227 #[fi b,gQ n] w K:=by
 unfold fi;refine cN Tryz.func227 ?_;obtain⟨j,e1,z,m1⟩:=jY w;apply bo e1;obtain⟨p,L⟩:=di w.heap.size;rw[<-L]at z|-;have md:=m1.drew;have R:=md.hpk h1 id;simp only[fi,bU];refine sB ?_;refine AV R ?_;refine sB ?_;refine AV R ?_;refine nI [dz (s true),dz (s false)] psU (dB psE) rfl rfl (by intro v S;simp only[ax,fQ,mP]at S;rcases S with rfl|rfl<;>rfl) qZ ?_;have Y:(([dz (s true),dz (s false)]:LV_).flatMap (·.cells.toList)).toArray= #[dz (s true),dz (s false)]:=rfl;rw[Y];obtain⟨q,a⟩:=di j.drew.heap.size;have hpq:p<q:=by rw[a,Dj];exact aB z
 have T:M0 w (j.drew.alloc (.cells #[dz (s true),dz (s false)] 239)):=md.alloc _;have U:hC (j.drew.alloc (.cells #[dz (s true),dz (s false)] 239)) q #[dz (s true),dz (s false)] 239:=by rw[a];simp[go_sem]
 have N:hp (j.drew.alloc (.cells #[dz (s true),dz (s false)] 239)) p=some (.cells (dF oQ).toArray jG (0,0)):=by
  rw[vJ,aa (by rw[<-a];omega)];exact z
 rw[<-a];generalize j.drew.alloc (.cells #[dz (s true),dz (s false)] 239)=w2 at T U N|-;refine qW0 ?_
 refine d8 (λst W=>∃(i:Nat) (x:Vt_),i<=2/\st=(x,gI i,())/\M0 w2 W/\(1<=i->og (B true) n=none)/\(2<=i->og (B false) n=none))
  (λst _=>match st.2.1 with| .int _ i=>2 - i.toNat|_=>0) ⟨0,.pointer none,qZ,rfl,rZ,λh=>qZ,λh=>qZ⟩ ?_
 rintro⟨_,_⟩ W ⟨i,x,hi,⟨⟩,t,e,M⟩ KN D;refine lV ?_;intro _;have J:=T.trans t;have bW:=t.hpk U id;have P:=t.hpk N id;by_cases y:i<2
 ·have l:(i:Int)<2:=qZ;refine dY l ?_
  obtain⟨d,g⟩:∃d:Bool,(i=0/\d=true)\/(i=1/\d=false):=by
   by_cases h0:i=0
   ·exact⟨true,.inl ⟨h0,rfl⟩⟩
   ·exact⟨false,.inr ⟨qZ,rfl⟩⟩
  have F:(#[dz (s true),dz (s false)]:Array Value)[i]? =some (dz (s d)):=by
   rcases g with⟨rfl,rfl⟩|⟨rfl,rfl⟩<;>rfl
  have m:¬(2:Int)<=(i:Int):=qZ;apply ao (bO q i) W (by simp[go_sem,y,m,bK]);apply ao (dz (s d)) W (by rcases g with⟨rfl,rfl⟩|⟨rfl,rfl⟩<;>simp[go_sem,bW]);refine Tk ((h2 d).mod J d9) λA H=>?_;have M3:=J.trans H;refine dI ?_;refine dI ?_;obtain⟨w4,e4,V,m4⟩:=jY A;apply bo e4;obtain⟨r,I⟩:=di A.heap.size;rw[<-I]at V|-;obtain⟨X,e5,Q,Z⟩:=jE (o' :=(og (B d) n).getD oQ) V;apply iE e5;have c:M0 A X:=m4.on Z λb O=>gr;have M5:=M3.trans c;have p5:=c.hpk (H.hpk P id) id;cases f:og (B d) n with
  |some o=>
   rw[f]at Q
   have hf:B.find n=some (o,d):=by
    unfold Bk.find;rcases g with⟨rfl,rfl⟩|⟨rfl,rfl⟩
    ·rw[f]
    ·grind
   refine lh ?_;apply bo (lE (o:=o) (At.all Q));obtain⟨w6,E,C,u⟩:=jE (o' :=o) p5;apply iE E;apply cK (lE (o:=o) (At.all C));exact hS o d hf f _ (M5.on u λb O=>gr)
  |none=>
   refine eU ?_;apply ao (gI ((i+1:Nat):Int)) X (by simp[go_sem];rw[mR]);refine D _ _ ⟨i+1,_,qZ,rfl,(t.trans H).trans c,λh=>?_,λh=>?_⟩ (by grind)
   ·rcases g with⟨rfl,rfl⟩|⟨rfl,rfl⟩
    ·exact f
    ·exact e qZ
   ·rcases g with⟨rfl,rfl⟩|⟨rfl,rfl⟩
    ·omega
    ·exact f
 ·obtain rfl:i=2:=qZ;refine eU ?_;apply ao (kx oQ) W (by simp[go_sem,kx,dF,oQ]);obtain⟨w6,E,C,u⟩:=jE (o' :=oQ) P;apply iE E;apply cK (lE (o:=oQ) (At.all C));refine hN ?_ _ (J.on u λb O=>gr);unfold Bk.find;rw[e qZ];simp only;rw[M qZ]
end Go.Proofs
namespace Go.Proofs
open Go Go.Vc
attribute [local congr] bj
variable {B:Bk}{s:Bool->Nat}{G:Bool->Nat->Prop}{b:Nat}{w w' :Wt_}
structure kW(w:Wt_)(b:Nat)(s:Bool->Nat)(G:Bool->Nat->Prop)(B:Bk):Prop where
 blk:hC w b #[dz (s true),dz (s false)] 242
 sd:∀d,ig w (s d) (G d) d (B d)
 nb:∀d,¬G d b
 dj:∀x,G true x->¬G false x
def gg.r{F:NP_}(h:gg w b F B):∃s G,kW w b s G B/\∀x,F x↔x=b\/G true x\/G false x:=by
 obtain⟨s,G,h1,a,e,c,d⟩:=h.out;exact⟨s,G,⟨h1,a,c,d⟩,e⟩
def kW.q(h:kW w b s G B):gg w b (λx=>x=b\/G true x\/G false x) B:=
 ⟨s,G,h.blk,h.sd,λ_=>aG,h.nb,h.dj⟩
def kW.mod{H:NP_}(h:kW w b s G B)(a:aR H w w')(e:¬H b)(c:∀d x,G d x->¬H x):kW w' b s G B:=
 ⟨a.hpk h.blk e,λd=>(h.sd d).mod a (c d),h.nb,h.dj⟩
def kW.lt(h:kW w b s G B){d:Bool}{x:Nat}(a:G d x):x<w.heap.size:=(h.sd d).lt a
def kW.dj' {w:Wt_}{b:Nat}{s:Bool->Nat}{G:Bool->Nat->Prop}{B:Bk}(h:kW w b s G B){d:Bool}{x:Nat}(a:G d x):¬G (!d) x:=by
 cases d
 ·exact λc=>h.dj x c a
 ·exact h.dj x a
def jy(G:Bool->Nat->Prop)(d:Bool)(G' :NP_):Bool->Nat->Prop:=λx=>if x=d then G' else G x
def gi(G:Bool->Nat->Prop)(d:Bool)(a:NP_):jy G d a d=a:=by simp[jy]
def tX(G:Bool->Nat->Prop)(d:Bool)(a:NP_):jy G d a (!d)=G (!d):=by cases d<;>simp[jy]
def kW.upd(h:kW w b s G B){d:Bool}{c:NP_}{l:List Od}(m:aR (G d) w w')(hs:ig w' (s d) c d l)(k:∀x,c x->G d x\/w.heap.size<=x):
  kW w' b s (jy G d c) (B.set d l):=by
 have n:=aB h.blk
 have j:∀x,G (!d) x->¬c x:=λx h1 a=>by
  rcases k x a with i|i
  ·exact h.dj' i h1
  ·have:=h.lt h1;omega
 refine⟨m.hpk h.blk (h.nb d),λe=>?_,λe=>?_,λx h1 a=>?_⟩
 ·by_cases g:e=d
  ·subst g;rw[gi,Bk.set_self];exact hs
  ·obtain rfl:e= !d:=by cases e<;>cases d<;>simp_all
   rw[tX,Bk.set_other];exact(h.sd _).mod m λx h1 a=>h.dj' a h1
 ·by_cases g:e=d
  ·subst g;rw[gi];intro h1;rcases k b h1 with a|a
   ·exact h.nb _ a
   ·omega
  ·obtain rfl:e= !d:=by cases e<;>cases d<;>simp_all
   rw[tX];exact h.nb _
 ·cases d
  ·have f:jy G false c true=G true:=tX G false c;rw[f]at h1;rw[gi]at a;exact j x h1 a
  ·have f:jy G true c false=G false:=tX G true c;rw[f]at a;rw[gi]at h1;exact j x a h1
structure Td where
 price:Int
 qty:Int
 num:Int
 acct:Int
 deriving DecidableEq
def FJ(t:Td):List Value:=[.int .i64 t.price,gI t.qty,gQ t.num,gU t.acct]
structure Pm where
 trades:List Td
 gone:List Int
 filled:Int
 left:Int
def vZ(n:Int):List Value:=[.int .u64 n]
def eT(o:Od):Int->List Od->Int×List Od×List Td×List Int×Int
 |left,[]=>(left,[],[],[],0)
 |left,b::r=>
  if left<=0\/gz o b.price=false then(left,b::r,[],[],0)
  else if b.acct=o.acct then let x:=eT o left r;(x.1,x.2.1,x.2.2.1,b.num::x.2.2.2.1,x.2.2.2.2)
  else if left<b.left then(0,{b with left:=b.left - left}::r,[⟨b.price,left,b.num,b.acct⟩],[],left)
  else let x:=eT o (left - b.left) r;(x.1,x.2.1,⟨b.price,b.left,b.num,b.acct⟩::x.2.2.1,x.2.2.2.1,b.left+x.2.2.2.2)
def Ai(t:List Td)(g:List Int)(f:Int)(x:Int×List Od×List Td×List Int×Int):Int×List Od×List Td×List Int×Int:=
 (x.1,x.2.1,t++x.2.2.1,g++x.2.2.2.1,f+x.2.2.2.2)
def fC(B:Bk)(o:Od)(rests:Bool):Bk×Pm:=
 let x:=eT o o.left (B (!o.buy));let B1:=B.set (!o.buy) x.2.1
 if rests=true/\0<x.1 then(B1.set o.buy (pN o.buy (B1 o.buy) {o with left:=x.1}).2,⟨x.2.2.1,x.2.2.2.1,x.2.2.2.2,x.1⟩)
 else(B1,⟨x.2.2.1,x.2.2.2.1,x.2.2.2.2,0⟩)
def ur{o:Od}{left:Int}{l:List Od}(h:left<=0\/l=[]\/∃b r,l=b::r/\gz o b.price=false):eT o left l=(left,l,[],[],0):=by
 cases l with
 |nil=>rfl
 |cons b r=>
  unfold eT;rw[ae];rcases h with h|h|⟨c,a,e,h⟩
  ·exact .inl h
  ·cases h
  ·cases e;exact .inr h
def Hp(o:Od)(x p:Int):gz {o with left:=x} p=gz o p:=rfl
structure Qh(w:Wt_)(sT sG:Vt_)(t:List Td)(g:List Int):Prop where
 tr:ic w 148 4 sT t.length (t.flatMap FJ)
 go:ic w 37 1 sG g.length (g.flatMap vZ)
 dj:∀x,aF sT x->¬aF sG x
def Qh.mod{F:NP_}{sT sG:Vt_}{t:List Td}{g:List Int}(h:Qh w sT sG t g)(a:aR F w w')(h1:∀x,aF sT x->¬F x)(b:∀x,aF sG x->¬F x):Qh w' sT sG t g:=
 ⟨h.tr.mod a h1,h.go.mod a b,h.dj⟩
def Hu:Tryz.prog.underlying 38=some (.slice 148):=cV
def Zv:fY pQ 148 4 32=true:=cV
def yf:Tryz.prog.underlying 39=some (.slice 37):=cV
def Oa:fY pQ 37 1 8=true:=cV
def VC(t:Td):(FJ t).all (·.oneCell')=true:=rfl
def Gi(n:Int):(vZ n).all (·.oneCell')=true:=rfl
def wj{α:Type}{P:Program}{t e:TypeId}{k by_:Nat}{K:aZ}{s xv:Vt_}{l:List α}{x:α}{f:α->List Value}(d:P.underlying t=some (.slice e))(j:wq P e k by_)(y:∀x,(f x).length=k)(i:∀x,(f x).all (·.oneCell')=true)
  (B:xv.cells.toList=f x)(hs:ic w e k s l.length (l.flatMap f))(r:(l.length+1)*by_<=140737488355328)(C:k<=1000)
  (u:∀a c,ic c e k a (l++[x]).length ((l++[x]).flatMap f)->aR (aF s) w c->(∀b,aF a b->aF s b\/w.heap.size<=b)->K a c):
  rx P (rg t 1 [(0,xv)]) w λv n=>rx P (fb #[t,t] t [s,v]) n K:=by
 have D:xv.cells.size=k:=by grind
 refine nI [xv] d j rfl rfl (by grind) qZ ?_;have p:(([xv]:LV_).flatMap (·.cells.toList)).toArray=(f x).toArray:=by simp[B]
 rw[p];have m:M0 w (w.alloc (.cells (f x).toArray e)):=mG
 have q:Rd (w.alloc (.cells (f x).toArray e)) k (.slice (some ⟨w.heap.size,0,none⟩) 1 1) 1 (f x):=
  ⟨by rw[y];omega,.inr ⟨_,0,1,rfl,aD _,At.all (bT (by rw[er,ae rfl]))⟩⟩
 refine kg d d j (hs.mod m d9) q (i x) r λa c z A o=>?_;refine u a c ?_ ((m.to (G:=aF s)).trans A) λb g=>?_
 ·rw[cE,af];simpa using z
 ·rcases o b g with h|h
  ·exact .inl h
  ·rw[cw]at h;exact gr
end Go.Proofs
