/- Part of a proof. -/
import Derived.Test.YtekbnpagidkbbaaGreatT8
set_option linter.all false
set_option maxRecDepth 100000
set_option maxHeartbeats 4000000
namespace Go.Proofs
open Go Go.Vc Go.Sort
variable {cl:Bool}{price:Int}{w:Wt_}{S:bq}
def La{d:Nat}{ds:List Nat}{K:World->Prop}:Ao (d::ds) w K↔hp w d=some (.deferred (some []))/\Ao ds (w.putObj d (.deferred none)) K:=aI
def GX{K:World->Prop}:Ao [] w K↔K w:=aI
def oH(x:Int×Int):List Value:=[.int .u32 x.1,gI x.2]
def Po.won(price:Int)(p:Po):Int×Int:=(p.a,p.q*price - p.b)
def vaE:fj pQ 366 2 16=true:=cH
def ap7:Tryz.prog.underlying 362=some (.slice 366):=cH
def Gx{l:List Po}{i:Nat}{p:Po}(h:l[i]? =some p):S.marked (l.take (i+1)) price cl=(S.marked (l.take i) price cl).putP (p.mark price cl):=by
 unfold bq.marked;rw[fN,h];simp
def AO{l:List Po}:∀{S:bq},(S.marked l price cl).all=S.all/\(S.marked l price cl).fund=S.fund:=by
 induction l with
 |nil=>intro S;exact ww
 |cons p l a=>intro S;exact a (S:=S.putP (p.mark price cl))
def PV(p:Po)(price:Int)(cl:Bool):(p.mark price cl).key=p.key:=by
 unfold Po.mark Po.key;cases cl<;>rfl
def Lb{S' :bq}(h:S.Ok)(e:S'.Ok)(i:S'.all=S.all){p:Po}(hp:p∈S.held){price:Int}(a:1<=price/\price<=MP)(cl:Bool):(S'.putP (p.mark price cl)).Ok:=by
 obtain⟨g,d,j,c,b,k,o,f⟩:=h.pos p hp;have l:=Km (x:=p.q) (y:=price) (m:=MP) (n:=MP) ⟨c,b⟩ ⟨qZ,a.2⟩;unfold Po.mark;cases cl with
 |true=>exact e.putP ⟨g,d⟩ ⟨by simp[MP],by simp[MP]⟩ ⟨by simp[MF],by simp[MF]⟩ (by rw[i];exact f)
 |false=>exact e.putP ⟨g,d⟩ ⟨c,b⟩ ⟨by simp only[MP,MF,bE,dB]at*;omega,by simp only[MP,MF,bE,dB]at*;omega⟩ (by rw[i];exact f)
def Oa(h:S.Ok){price:Int}(b:1<=price/\price<=MP)(cl:Bool):∀(l:List Po) (S' :bq),(∀p∈l,p∈S.held)->S'.Ok->S'.all=S.all->(S'.marked l price cl).Ok:=by
 intro l;induction l with
 |nil=>intro S' _ a _;exact a
 |cons p l f=>
  intro S' c a d;exact f (S'.putP (p.mark price cl)) (λx e=>c x (ae _ e)) (Lb h a d (c p ai) b cl) d
def Wa{l:Nat}{F:NP_}{K:be}{c:Int}(h:iw w l F S)(hl:S.held.length<4294967295)
  (hK:∀w' v,iw w' l F (S.mark c price cl).2.2->il w' 366 2 v (S.mark c price cl).2.1.length ((S.mark c price cl).2.1.flatMap oH)->bn F w w' ->(∀b,aQ v b->w.heap.size<=b)->K (.tuple #[v,gI (S.mark c price cl).1]) w'):
  Ca pQ 263 #[eK l,gU c,gI price,.bool cl] w K:=by
 have h0:=h;obtain⟨⟨m1,m2,A,B,h1,h2,h3,h4,h5,h6,h7⟩,hok⟩:=h;unfold eK;refine cN Tryz.func263 ?_;simp[go_sem,eK];generalize hn0:w.heap.size=u;generalize V:World.alloc _ _=w1;have mw1:M0 w w1:=by subst V;exact(nl.alloc _).alloc _
 have g0:hC w1 u #[eK l] 88:=by subst V hn0;simp[go_sem,eK]
 have g2:hC w1 (u+1) #[.int .i64 price] 2:=by subst V hn0;simp[go_sem]
 have g4:hC w1 (u+2) #[.bool cl] 4:=by subst V hn0;simp[go_sem]
 have q1:=h0.mod mw1 eI;apply lZ q1;simp[go_sem];unfold bq.mark at hK;have hMp:aY price 1 10000000=aY price 1 MP:=rfl;refine dU.at (λs W=>s=(.bool (decide (c=0\/aY price 1 MP=false)),())/\W=w1) ?_ ?_
 ·by_cases hc0:c=0
  ·simp[hc0]
  ·simp[hc0,go_sem,cO g2];apply pO;rw[hMp];simp[go_sem]
 rintro _ W ⟨rfl,rfl⟩;refine qk ?_;intro _;by_cases hc:c=0\/aY price 1 MP=false
 ·rw[ab hc]at hK;simp only[aA hc,bG,de];exact hK _ _ q1 (il.nil ..) (mw1.to) λb f=>by cases f
 ·rw[aa hc]at hK;simp only[aG hc,bG,bE,dB];have hpr:1<=price/\price<=MP:=eL.1 (by cases h:aY price 1 MP with|true=>rfl|false=>exact absurd (.inr h) hc);have hne0:u≠W.heap.size:=by have:=aJ g0;omega
  simp[go_sem,cO g0,hne0];generalize hvo:W.heap.size=vo;generalize hw2:World.alloc _ _=w2;have O:M0 W w2:=by subst hw2;exact(bn.refl _ W).alloc _
  have gv:hC w2 vo #[.slice none 0 0] 362:=by subst hw2 hvo;simp[go_sem]
  refine BN (q1.mod O eI) hl λgvv C tl m3=>?_;have Z:=(mw1.trans O).trans m3;have q3:=h0.mod Z eI;have hvo3:vo<C.heap.size:=by have:=aJ gv;have:=m3.size;omega
  have hn0v:u+2<vo:=by have:=aJ g4;omega
  obtain⟨Ok,hit,hOk⟩:=tl.out;have hH:∀p∈S.holders c,p∈S.held:=λp hp=>(aM.1 hp).1;generalize hHd:S.holders c=H at*
  let J:(Nat->Prop)->Nat->World->Prop:=λQ i W=>∃v,iw W l F (S.marked (H.take i) price cl)/\hC W vo #[v] 362/\il W 366 2 v i (((H.take i).map (Po.won price)).flatMap oH)/\
   (∀b,aQ v b->C.heap.size+1<b)/\hC W u #[eK l] 88/\hC W (u+1) #[.int .i64 price] 2/\hC W (u+2) #[.bool cl] 4/\
   hp W C.heap.size=some (.deferred (some []))/\bn F w W/\∀b,Q b->C.heap.size+1<b/\b<W.heap.size/\¬aQ v b
  have z:∀b,F b->b<u:=λb f=>by have:=h0.lt f;omega
  have e3:∀o,M0 C ((C.alloc (.deferred (some []))).alloc (.loop o)):=λo=>nl.alloc _;refine Ih hit (by simp) J (λ_ _=>False) (λo=>hOk _ (e3 o)) ?_ ?_ ?_ ?_ (λ_ _ _ h=>h.elim)
  ·intro o Q g mo hQ;have P:=(e3 o).trans mo;have m11:=Z.trans P;have hd:hp ((C.alloc (.deferred (some []))).alloc (.loop o)) C.heap.size=some (.deferred (some [])):=by simp[go_sem]
   refine⟨.slice none 0 0,h0.mod m11 eI,(m3.trans P).keep gv id,(show il g _ 2 (.slice none 0 0) 0 []from il.nil ..),λb f=>(by cases f),((O.trans m3).trans P).keep g0 id,((O.trans m3).trans P).keep g2 id,((O.trans m3).trans P).keep g4 id,mo.keep hd id,m11.to,λb f=>⟨(hQ b f).1,(hQ b f).2,λh=>by cases h⟩⟩
  ·rintro Q i g W2 ⟨v,j1,j2,j3,j4,j5,j6,j7,j8,j9,D⟩ L;refine⟨v,j1.mod L λb f e=>by have:=z b f;omega,L.keep j2 qZ,j3.mod L λb f e=>by have:=j4 b f;omega,j4,L.keep j5 qZ,L.keep j6 qZ,L.keep j7 qZ,L.keep j8 qZ,j9.on L λb f=>.inr (by have:=Z.size;omega),λb f=>⟨(D b f).1,br (D b f).2.1 L.size,(D b f).2.2⟩⟩
  ·rintro Q i x g r hx ⟨v,j1,j2,j3,j4,j5,j6,j7,j8,j9,D⟩ j X KN KJ hKN hKJ
   obtain⟨p,I,rfl⟩:∃p,H[i]? =some p/\x=[mK p]:=by
    simp only[bY]at hx;cases hh:H[i]? with
    |none=>rw[hh]at hx;cases hx
    |some p=>rw[hh]at hx;exact⟨p,rfl,(cM hx).symm⟩
   have hpm:=hH p (cP I);obtain⟨p1,p2,p3,p4,p5,p6,p7,p8⟩:=hok.pos p hpm;have f:=Km (x:=p.q) (y:=price) (m:=MP) (n:=MP) ⟨p4,p5⟩ ⟨qZ,hpr.2⟩;simp only[MP,MF]at f p4 p5 p6 p7;have wr1:IntKind.i64.wrap (p.q*price)=p.q*price:=by rw[cy];omega
   have wr2:IntKind.i64.wrap (p.q*price - p.b)=p.q*price - p.b:=by rw[cy];omega
   obtain⟨E,hrc⟩:=dW (C.heap.size+1);rw[<-hrc]at j hKN D|-;simp only[<-hrc]at j4;refine ouR ?_;simp[go_sem,mK,hn0];refine pu (r:=r) ?_ X ?_
   ·rw[dZ,aa (by have:=aJ j;omega)];exact j
   have R:vo≠g.heap.size:=by have:=aJ j2;omega
   have hne2:vo≠E:=qZ;have hne3:u+1≠E:=qZ;have hne4:u+1≠g.heap.size:=by have:=aJ j6;omega
   have N:g.heap.size≠E:=by have:=aJ j;omega
   simp[go_sem,cO j2,cO j6,R,hne2,hne3,hne4,N,wr1,wr2];generalize T:World.putObj _ _ _=w4;have m4:bn (λb=>b=E) g w4:=by subst T;exact((bn.refl (λb=>b=E) g).alloc _).putObj (b:=E) (.inl rfl) _
   have hloc:hC w4 g.heap.size #[.int .u32 p.c,gU p.a,gI p.q,gI p.b] 124:=by subst T;simp[go_sem,N]
   have hrec4:hp w4 E=some (.loop {r with state:=.busy}):=by subst T;simp[go_sem,cO j,jW N]
   have hsz4:w4.heap.size=g.heap.size+1:=by subst T;simp[go_sem]
   have hHl:(H.take i).length=i:=by
    rw[av];have:=(aF.1 I).1;omega
   have hHle:H.length<=S.held.length:=by rw[<-hHd];exact aX ..
   have j3' :il w4 366 2 v ((H.take i).map (Po.won price)).length (((H.take i).map (Po.won price)).flatMap oH):=by
    rw[af,hHl];exact j3.mod m4 λb f e=>by have:=j4 b f;omega
   refine P4 (d:=(H.take i).map (Po.won price)) (enc:=oH) (x:=p.won price) (k:=1) ap7 vaE rfl rfl qZ qZ j3' (by rw[af,hHl];have:=(aF.1 I).1;omega) λv' w5 o5 m5 n5=>?_;obtain⟨va,vc,hv',-⟩:=o5.isSl
   have htk:(H.take i).map (Po.won price)++[p.won price]=(H.take (i+1)).map (Po.won price):=by
    rw[fN,I];simp
   have hHl1:(H.take (i+1)).length=i+1:=by
    rw[av];have:=(aF.1 I).1;omega
   rw[htk,af,hHl1]at o5;rw[htk,af,hHl1]at hv';have hvl:∀b,aQ v b->b<g.heap.size:=λb f=>j3.lt f;have U:∀b,b<=E->¬aQ v b:=λb f h=>by have:=j4 b h;omega
   have Y:bn (λb=>b=E\/aQ v b) g w5:=(m4.mono λ_ _ h=>.inl h).on m5 λb f=>.inl (.inr f);have k2:hC w5 vo #[v] 362:=Y.keep j2 (λh=>by rcases h with h|h;omega;exact U _ qZ h);have k6:hC w5 (u+1) #[.int .i64 price] 2:=Y.keep j6 (λh=>by rcases h with h|h;omega;exact U _ qZ h);have kloc:hC w5 g.heap.size #[.int .u32 p.c,gU p.a,gI p.q,gI p.b] 124:=m5.keep hloc (λh=>by have:=hvl _ h;omega);have M:g.heap.size≠vo:=qZ;have hne7:u+1≠vo:=qZ;have k7' :hC w5 (u+2) #[.bool cl] 4:=Y.keep j7 (λh=>by rcases h with h|h;omega;exact U _ qZ h);have hne8:u+2≠vo:=qZ;have hne9:u+2≠g.heap.size:=by have:=aJ j7;omega
   subst hv';simp[go_sem,cO k2,cO kloc,cO k6,cO k7',M,hne7,hne8,hne9,wr1];generalize hw6:(w5.setCell ⟨vo,0,none⟩ (.slice va (i+1) vc)).setCell ⟨g.heap.size,3,none⟩ (gI (p.q*price))=G;have m6:bn (λb=>b=vo\/b=g.heap.size) w5 G:=by subst hw6;exact((bn.refl (λb=>b=vo\/b=g.heap.size) w5).setCell (b:=vo) (.inl (.inl rfl)) _ _).setCell (b:=g.heap.size) (.inl (.inr rfl)) _ _
   have l2:hC G vo #[.slice va (i+1) vc] 362:=by subst hw6;simp[go_sem,k2,jW M]
   have lloc:hC G g.heap.size #[.int .u32 p.c,gU p.a,gI p.q,gI (p.q*price)] 124:=by subst hw6;simp[go_sem,kloc,M]
   have hvo5:∀b,aQ (.slice va (i+1) vc) b->E<b/\b≠g.heap.size:=λb f=>by
    rcases n5 b f with h|h
    ·grind
    ·grind
   have t:bn (λb=>b=E\/aQ v b\/b=vo) g G:=(Y.mono λ_ _ h=>h.elim .inl λh=>.inr (.inl h)).on m6 λb f=>by
    rcases f with h|h
    ·grind
    ·exact gT
   have q:∀b,b<E->b≠vo->¬(b=E\/aQ v b\/b=vo):=λb h1 h2 h=>by
    rcases h with h|h|h
    ·omega
    ·grind
    ·exact h2 h
   have k7:hC G (u+2) #[.bool cl] 4:=t.keep j7 (q _ qZ qZ);have k5:hC G u #[eK l] 88:=t.keep j5 (q _ qZ qZ);have k6' :hC G (u+1) #[.int .i64 price] 2:=t.keep j6 (q _ qZ qZ);have k8:hp G C.heap.size=some (.deferred (some [])):=t.keep j8 (q _ qZ qZ)
   have krec:hp G E=some (.loop {r with state:=.busy}):=by
    apply m6.keep (m5.keep hrec4 (U _ (aB _)));rintro(h|h)
    ·omega
    ·omega
   have q6:iw G l F (S.marked (H.take i) price cl):=j1.mod t λb f h=>q b (by have:=z b f;omega) (by have:=z b f;omega) h;let p' :=p.mark price cl;refine dU.at (λ_ W=>∃m:bn (λb=>b=g.heap.size) G W,hC W g.heap.size (dR p').toArray 124) ?_ ?_
   ·cases cl with
    |true=>
     simp[go_sem,cO lloc];exact⟨((bn.refl _ G).setCell (by simp) _ _).setCell (by simp) _ _,by simp[p',Po.mark,dR]⟩
    |false=>
     simp[go_sem];exact⟨rC,by simp[lloc,p',Po.mark,dR]⟩
   rintro _ W7 ⟨m7,lloc7⟩;refine qk ?_;intro _;have kk:∀{b o},hp G b=some o->b<g.heap.size->hp W7 b=some o:=λh f=>m7.keep h qZ;have hb5:=kk k5 (by have:=aJ j5;omega);simp[go_sem,cO hb5,cO lloc7,dR];have q7:=q6.mod m7 λb f e=>by have:=z b f;have:=aJ j;omega
   have hall:=(AO (S:=S) (l:=H.take i) (price:=price) (cl:=cl)).1;have hok' :((S.marked (H.take i) price cl).putP p').Ok:=Lb hok q7.ok hall hpm hpr cl;refine Kq (p:=p') q7 hok' λW8 q8 m8=>?_;have kF:∀{b o},hp W7 b=some o->u<=b->hp W8 b=some o:=λh f=>m8.keep h (λhf=>by have:=z _ hf;omega);refine hKN W8 ⟨.slice va (i+1) vc,?_,kF (kk l2 (by have:=aJ j2;omega)) qZ,?_,λb f=>(by have:=(hvo5 b f).1;omega),kF hb5 (aB _),kF (kk k6' (by have:=aJ j6;omega)) qZ,kF (kk k7 (by have:=aJ j7;omega)) qZ,kF (kk k8 (by have:=aJ j;omega)) qZ,?_,?_⟩ (kF (kk krec (aJ j)) qZ) ?_
   ·rw[Gx I];exact q8
   ·refine((o5.mod m6 λb f h=>?_).mod m7 λb f h=>(hvo5 b f).2 h).mod m8 λb f h=>?_
    ·grind
    ·grind
   ·refine((j9.on t λb f=>?_).on m7 λb f=>?_).trans m8
    ·rcases f with h|h|h
     ·grind
     ·grind
     ·exact gT
    ·grind
   ·intro b f;obtain⟨q1,q2,q3⟩:=D b f;have hsz8:g.heap.size<=W8.heap.size:=by have:=t.size;have:=m7.size;have:=m8.size;omega
    refine⟨qZ,qZ,λh=>?_⟩;rcases n5 b h with h|h
    ·exact q3 h
    ·rw[hsz4]at h;omega
   ·intro b f;obtain⟨q1,q2,q3⟩:=D b f;have e1:=t.blk b q2 (λh=>by rcases h with h|h|h;omega;exact q3 h;omega);have e2:=m7.blk b (by have:=t.size;omega) (by show¬b=_;omega);have e3:=m8.blk b (by have:=t.size;have:=m7.size;omega) (λh=>by have:=z b h;omega);rw[e3,e2,e1]
  ·rintro Q g o ⟨v,j1,j2,j3,j4,j5,j6,j7,j8,j9,D⟩;have hHl:((H.map λa=>[mK a]):List (List Value)).length=H.length:=by simp
   rw[hHl,ay (aB _)]at j1 j3;have R:vo≠C.heap.size+1:=qZ;have hne2:C.heap.size≠C.heap.size+1:=qZ;refine XP ?_;obtain⟨va,vc,hv,-⟩:=j3.isSl;simp[go_sem,lP,cO j2,R];simp[go_sem,La,GX,j8];have L:bn (λb=>b=C.heap.size+1\/b=C.heap.size) g ((g.putObj (C.heap.size+1) (.loop o)).putObj C.heap.size (.deferred none)):=((bn.refl _ g).putObj (.inl (.inl rfl)) _).putObj (.inl (.inr rfl)) _;refine hK _ v (j1.mod L λb f h=>?_) ?_ (j9.on L λb f=>.inr ?_) λb f=>?_
   ·grind
   ·have:=j3.mod L λb f h=>by have:=j4 b f;omega
    show il _ _ 2 v (H.map (Po.won price)).length ((H.map (Po.won price)).flatMap oH);simpa using this
   ·have:=Z.size;omega
   ·grind
end Go.Proofs
namespace Go.Proofs
open Go Go.Vc
attribute [local congr] bj
variable {buy:Bool}{l:List Od}{s:Nat}
def UV{W:Wt_}{K:World->Prop}:∀{ds:List Nat},ds.Nodup->(∀d∈ds,hp W d=some (.deferred (some [])))->(∀a,bn (λb=>b∈ds) W a->K a)->Ao ds W K:=by
 intro ds;induction ds generalizing W with
 |nil=>intro _ _ c;exact GX.2 (c W rC)
 |cons d ds l=>
  intro k f c;obtain⟨j,h⟩:=bO.1 k;refine La.2 ⟨f d ai,l h (λx g=>?_) λa m=>c a ?_⟩
  ·rw[Dz,aa (λe:x=d=>j (e▸g))];exact f x (ae _ g)
  ·exact((bn.refl (λb=>b∈d::ds) W).putObj (b:=d) (.inl ai) _).trans (m.mono λb _ i=>ae _ i)
def Vb{b:Nat}{T:TypeId}:Bt pQ (.func (.func 239) #[] #[.pointer (some ⟨b,0,none⟩)]) (l.map λo=>[mi o]) (λW=>hC W b #[dc s] T/\∃F,gX W s F buy l):=by
 refine⟨⟨_,_,_,rfl,?_⟩⟩;rintro y J Js W K ⟨e,F,D⟩ P j c g x;show Ca pQ _ #[y,.pointer (some ⟨b,0,none⟩)] W K;refine cN Tryz.func239 ?_;refine dD e ?_;apply pw D;refine fh ?_;obtain⟨⟨sl,G,R,c3,c4⟩,c5,c6⟩:=id D;refine dD e ?_;simp only[dc,cJ];refine dD G ?_;refine dD G ?_;refine tn (l:=l) R.rd qZ λk L u N Y=>?_;obtain⟨sa,sc,w,-⟩:=u.isSl;apply ke (gI (l.length:Int)) L (by rw[w];simp[go_sem]);have v:J (aQ k) 0 L:=P _ _ N λb e=>⟨Y b e,u.lt e⟩
 refine iz (λst d=>∃i:Nat,i<=l.length/\st=(gI i,())/\J (aQ k) i d/\sZ d k l)
  (λst _=>match st.1 with| .int _ i=>l.length - i.toNat|_=>0) ⟨0,qZ,rfl,v,u⟩ ?_
 rintro⟨_,_⟩ d ⟨i,hi,⟨⟩,H,E⟩ Z p;refine rT ?_;intro _;by_cases f:i<l.length
 ·have h:(i:Int)<(l.length:Int):=qZ;refine ee h ?_;obtain⟨b',B,Q,m,z⟩:=E.load f;refine dy (m .i64) (dy z ?_);obtain⟨w3,U,C,O⟩:=kg d;apply dy U;obtain⟨q,t⟩:=dW d.heap.size;rw[<-t]at C|-;obtain⟨A,V,S,X⟩:=jA (o' :=l[i]) C;apply lO V;have M:M0 d A:=O.on X λb e=>gT;apply dy (me (o:=l[i]) (At.all S));have n:=E.mod M eI;refine c (aQ k) i [mi l[i]] A (by simp[f]) (j _ _ _ _ H M) _ (λI a r=>?_) λI a=>?_
  ·refine fh ?_;apply az (gI ((i+1:Nat):Int)) I (by simp[go_sem];rw[mL]);exact p _ _ ⟨i+1,qZ,rfl,a,n.keep r⟩ (by show l.length - (((i+1:Nat):Int)).toNat<l.length - ((i:Int)).toNat;omega)
  ·refine lV ?_;exact x _ a
 ·obtain rfl:i=l.length:=qZ;refine fh ?_;exact g _ d (by simpa using H)
def Lr{w:Wt_}{K:be}{F:NP_}(h:gX w s F buy l)
  (f:∀d a,Dk d (l.map λo=>[mi o]) a->M0 w a->K d a):Ca pQ 166 #[dc s] w K:=by
 unfold dc;refine cN Tryz.func166 ?_;have c:M0 w (w.alloc (.cells #[dc s] 239)):=nl;apply az (cU w.heap.size 0) (w.alloc (.cells #[dc s] 239)) (by simp[go_sem,dc]);have e:hC (w.alloc (.cells #[dc s] 239)) w.heap.size #[dc s] 239:=by simp[go_sem]
 exact f _ _ ⟨⟨_,Vb (s:=s) (b:=w.heap.size) (buy:=buy) (l:=l) (T:=239),λW m=>⟨m.hpk e id,F,h.mod (c.trans m) eI⟩⟩,_,_,rfl⟩ c
def rK{l:List Int}{B:Int}(h:∀x∈l,0<=x/\x<=B):0<=l.sum/\l.sum<=l.length*B:=by
 induction l with
 |nil=>simp
 |cons x l a=>
  have d:=h x (by simp);have c:=a λy b=>h y (by simp[b]);rw[bp,aR];have e:((l.length+1:Nat):Int)*B=l.length*B+B:=by rw[jx,Int.add_mul];omega
  rw[e];omega
def uR(l:List Od)(acct:Int):Int:=((l.filter λo=>decide (o.acct≠acct)).map (·.left)).sum
def D8(l:List Od)(o:Od)(acct:Int):uR (l++[o]) acct=uR l acct+(if o.acct≠acct then o.left else 0):=by
 unfold uR;rw[cj,aK,fK];congr 1;by_cases h:o.acct=acct<;>simp[h]
def Vl{acct:Int}(h:∀o∈l,1<=o.left/\o.left<=1000000):0<=uR l acct/\uR l acct<=l.length*1000000:=by
 have b:=rK (l:=(l.filter λo=>decide (o.acct≠acct)).map (·.left)) (B:=1000000) λx c=>by
  obtain⟨o,a,rfl⟩:=aD.1 c;have:=h o (aM.1 a).1;omega
 rw[af]at b;have d:=aX (λo:Od=>decide (o.acct≠acct)) l;unfold uR;omega
def Od.left_bd{o:Od}(h:o.may=true):1<=o.left/\o.left<=1000000:=by
 unfold Od.may at h;simp only[ah]at h;exact bz h.2
def Ub{p:Od->Bool}{j:Nat}(b:j<l.length)(h:∀o∈l.take j,p o=true)(a:p l[j]=false):l.takeWhile p=l.take j:=by
 induction l generalizing j with
 |nil=>simp at b
 |cons x l d=>
  cases j with
  |zero=>
   simp only[eH]at a;rw[lj,a];simp
  |succ j=>
   have e:=h x (by simp);rw[lj,e];simp only[de,gY];rw[d (by simpa using b) (λo c=>h o (by simp[c])) (by simpa using a)]
def Xb{p:Od->Bool}(h:∀o∈l,p o=true):l.takeWhile p=l:=by
 induction l with
 |nil=>rfl
 |cons x l b=>
  rw[lj,h x (by simp)];simp only[de];rw[b λo a=>h o (by simp[a])]
def N2{w:Wt_}{K:be}{F:NP_}{price acct:Int}(h:gX w s F buy l)
  (hK:∀w',M0 w w' ->K (gI (iY buy l price acct)) w'):Ca pQ 229 #[dc s,gI price,gU acct] w K:=by
 unfold dc;refine cN Tryz.func229 ?_;obtain⟨a,n⟩:=dW w.heap.size
 have hlay:∃B,((w.alloc (.cells #[dc s] 239)).alloc (.cells #[.int .i64 price] 2) |>.alloc (.cells #[.int .u32 acct] 45) |>.alloc (.cells #[.int .i64 0] 2))=B/\B.heap.size=a+4/\M0 w B/\
   hC B a #[dc s] 239/\hC B (a+1) #[.int .i64 price] 2/\hC B (a+2) #[.int .u32 acct] 45/\hC B (a+3) #[.int .i64 0] 2:=by
  refine⟨_,rfl,by simp[go_sem,n],((nl.alloc _).alloc _).alloc _,?_,?_,?_,?_⟩<;>simp[go_sem,n]
 obtain⟨B,Y,hsz4,m4,b0,b1,b2,b3⟩:=hlay;apply az (cU a 0) (w.alloc (.cells #[dc s] 239)) (by simp[go_sem,dc,n]);apply az (cU (a+1) 0) ((w.alloc (.cells #[dc s] 239)).alloc (.cells #[.int .i64 price] 2)) (by simp[go_sem,n]);apply az (cU (a+2) 0) (((w.alloc (.cells #[dc s] 239)).alloc (.cells #[.int .i64 price] 2)).alloc (.cells #[.int .u32 acct] 45)) (by simp[go_sem,n]);apply az (cU (a+3) 0) B (by rw[<-Y];simp[go_sem,n]);clear Y;apply xm (dc s) b0;refine Lr (h.mod m4 eI) λgv k ht T=>?_;obtain⟨⟨Ok,hit,hOk⟩,f,cap,rfl⟩:=ht;have M5:=m4.trans T;have q5:=h.mod M5 eI;have d0:=T.hpk b0 id;have d1:=T.hpk b1 id;have d2:=T.hpk b2 id;have d3:=T.hpk b3 id;have hs5:=T.size;have N:∀b,F b->b<a:=λb g=>by rw[n];exact h.lt g
 let p:Od->Bool:=λo=> !iv buy price o.price
 let J:(Nat->Prop)->Nat->World->Prop:=λQ j W=>gX W s F buy l/\hC W a #[dc s] 239/\hC W (a+1) #[.int .i64 price] 2/\hC W (a+2) #[.int .u32 acct] 45/\
  hC W (a+3) #[.int .i64 (uR (l.take j) acct)] 2/\(∀o∈l.take j,p o=true)/\hp W k.heap.size=some (.deferred (some []))/\bn (λb=>b=a+3) k W/\∀b,Q b->k.heap.size+1<b/\b<W.heap.size
 let Jx:Code->World->Prop:=λc W=>c=.exit 0/\hC W (a+3) #[.int .i64 (iY buy l price acct)] 2/\hp W k.heap.size=some (.deferred (some []))/\bn (λb=>b=a+3) k W;have e5:∀o,M0 k ((k.alloc (.deferred (some []))).alloc (.loop o)):=λo=>nl.alloc _
 have fin:∀W o,hC W (a+3) #[.int .i64 (iY buy l price acct)] 2->hp W k.heap.size=some (.deferred (some []))->bn (λb=>b=a+3) k W->
   rv pQ (iL 2 (cU (a+3) 0)) (W.putObj (k.heap.size+1) (.loop o)) λv52 w53=>
    ru pQ (iS 2 (cU (a+3) 0) v52) w53 λw54=>
    Ao ([k.heap.size]++[]) w54 λw55=>
    rV pQ (iL 2 (cU (a+3) 0)) w55 λv56=>K v56 w55:=by
  intro W o k1 k2 k3;have mp:bn (λb=>b=k.heap.size+1) W (W.putObj (k.heap.size+1) (.loop o)):=(bn.refl (λb=>b=k.heap.size+1) W).putObj (.inl rfl) _;have C:=mp.hpk k1 qZ;have k2' :=mp.hpk k2 qZ;generalize W.putObj (k.heap.size+1) (.loop o)=X at mp C k2' |-;apply xm (gI (iY buy l price acct)) C;apply nz (X.setCell ⟨a+3,0,none⟩ (gI (iY buy l price acct))) (by simp[go_sem,C]);have ms:bn (λb=>b=a+3) X (X.setCell ⟨a+3,0,none⟩ (gI (iY buy l price acct))):=(bn.refl (λb=>b=a+3) X).sc;have k3' :hC (X.setCell ⟨a+3,0,none⟩ (gI (iY buy l price acct))) (a+3) #[.int .i64 (iY buy l price acct)] 2:=by simp[go_sem,C]
  have k4' :=ms.hpk k2' qZ;generalize X.setCell ⟨a+3,0,none⟩ (gI (iY buy l price acct))=W2 at ms k3' k4' |-;refine UV (by simp) (λd hd=>by rw[bX.1 hd];exact k4') λW3 m3=>?_;have k5:=m3.hpk k3' (by simp;omega);apply U4 (gI (iY buy l price acct)) k5;refine hK _ ((((M5.on k3 λb g=>gT).on mp λb g=>gT).on ms λb g=>gT).on m3 λb g=>.inr ?_);have hb' :b=k.heap.size:=by simpa using g
  omega
 refine Ih (xs:=l.map λo=>[mi o]) hit (by simp) J Jx (λo=>hOk _ (e5 o)) ?_ ?_ ?_ ?_ ?_
 ·intro o Q W mo hQ;have V:=(e5 o).trans mo;have hd:hp ((k.alloc (.deferred (some []))).alloc (.loop o)) k.heap.size=some (.deferred (some [])):=by simp[go_sem]
  exact⟨q5.mod V eI,V.hpk d0 id,V.hpk d1 id,V.hpk d2 id,V.hpk d3 id,by simp,mo.hpk hd id,V.to,hQ⟩
 ·rintro Q j W W' ⟨P,j1,j2,j3,R,H,Z,L,t⟩ E;exact⟨P.mod E λb g e=>by have:=N b g;omega,E.hpk j1 qZ,E.hpk j2 qZ,E.hpk j3 qZ,E.hpk R qZ,H,E.hpk Z qZ,L.on E λb g=>gT,λb g=>⟨(t b g).1,br (t b g).2 E.size⟩⟩
 ·rintro Q j x W r hx ⟨P,j1,j2,j3,R,H,Z,L,t⟩ v A KN KJ M hKJ
  obtain⟨U,hxo⟩:∃U:j<l.length,x=[mi l[j]]:=by
   rw[bY]at hx;cases hh:l[j]? with
   |none=>rw[hh]at hx;cases hx
   |some o=>
    obtain⟨U,he⟩:=aF.1 hh;rw[hh]at hx;exact⟨U,by rw[he];exact(cM hx).symm⟩
  subst hxo;obtain⟨D,hrc⟩:=dW (k.heap.size+1);rw[<-hrc]at v M hKJ t|-;have hrl:=aJ v;refine ouR ?_;obtain⟨w6,e6,b6,m6⟩:=kg W;apply dy e6;obtain⟨q,hq0⟩:=dW W.heap.size;rw[<-hq0]at b6|-;obtain⟨I,e7,b7,m7⟩:=jA (o' :=l[j]) b6;show ru pQ (iS kQ (cU q 0) (mi l[j])) w6 _;apply lO e7;have M7:M0 W I:=m6.on m7 λb g=>gT;have y:I.heap[D]? =some (.loop r):=M7.keep v id;apply pu (r:=r) y A;have m8:bn (λb=>b=D) I (I.putObj D (.loop {r with state:=.busy})):=(bn.refl (λb=>b=D) I).putObj (.inl rfl) _;have i:(I.putObj D (.loop {r with state:=.busy})).heap[D]? =some (.loop {r with state:=.busy}):=by rw[dJ,ab rfl,y];rfl
  generalize I.putObj D (.loop {r with state:=.busy})=G at m8 i|-;have u:bn (λb=>b=D) W G:=(M7.to).trans m8;have g0:=u.hpk j1 qZ;have g1:=u.hpk j2 qZ;have g2:=u.hpk j3 qZ;have g3:=u.hpk R qZ;have gd:=u.hpk Z qZ;have zgq:=m8.hpk b7 qZ;have gS:=P.mod u λb g e=>by have:=N b g;omega
  have m:=zgq;unfold dp at m;apply xm (dc s) g0;apply dy (by simp[-Int.natCast_add,go_sem,g1]<;>first|exact ww|exact rfl);apply dy (by simp[-Int.natCast_add,go_sem,m]<;>first|exact ww|exact rfl);apply dy (by simp[-Int.natCast_add,go_sem,m]<;>first|exact ww|exact rfl);apply Cv gS;cases hbt:iv buy price l[j].price with
  |true=>
   rw[nO];refine hKJ _ _ ⟨rfl,?_,gd,L.on u λb g=>gT⟩ i
   have:iY buy l price acct=uR (l.take j) acct:=by
    unfold iY uR;rw[Ub (p:=p) U H (by simp[p,hbt])]
   rw[this];exact g3
  |false=>
   rw[lW]
   have O:l.take (j+1)=l.take j++[l[j]]:=by
    rw[fN,ao U];rfl
   have hp1:∀o∈l.take (j+1),p o=true:=by
    rw[O];intro o S;rcases aN.1 S with S|S
    ·exact H o S
    ·grind
   apply dy (by simp[-Int.natCast_add,go_sem,m]<;>first|exact ww|exact rfl);apply dy (by simp[-Int.natCast_add,go_sem,m]<;>first|exact ww|exact rfl);apply dy (by simp[-Int.natCast_add,go_sem,g2]<;>first|exact ww|exact rfl);by_cases ha:l[j].acct=acct
   ·apply xm (.bool false) ha;rw[lW];refine M _ ⟨gS,g0,g1,g2,?_,hp1,gd,L.on u λb g=>gT,λb g=>⟨by have:=(t b g).1;omega,br (t b g).2 u.size⟩⟩ i λb g=>?_
    ·rw[O,D8,aa (by simp[ha]),ig];exact g3
    ·exact u.blk b (t b g).2 (by have:=(t b g).1;omega)
   ·apply xm (.bool true) ha;rw[nO];apply dy (by simp[-Int.natCast_add,go_sem,g3]<;>first|exact ww|exact rfl);apply dy (by simp[-Int.natCast_add,go_sem,m]<;>first|exact ww|exact rfl);apply dy (by simp[-Int.natCast_add,go_sem,m]<;>first|exact ww|exact rfl);have hbd1:=Vl (l:=l.take j) (acct:=acct) λo S=>Od.left_bd (P.may o (bm S)).1;have hbd2:=Od.left_bd (P.may l[j] (ar U)).1;have hlen:=P.len;have hlt:(l.take j).length<=100:=by rw[av];omega
    refine az (gI (uR (l.take (j+1)) acct)) G (by
     rw[O,D8,ab ha];simp[go_sem];rw[mL]) ?_
    apply nz (G.setCell ⟨a+3,0,none⟩ (gI (uR (l.take (j+1)) acct))) (by simp[go_sem,g3]);have z:bn (λb=>b=a+3) G (G.setCell ⟨a+3,0,none⟩ (gI (uR (l.take (j+1)) acct))):=(bn.refl (λb=>b=a+3) G).sc;have k3:hC (G.setCell ⟨a+3,0,none⟩ (gI (uR (l.take (j+1)) acct))) (a+3) #[.int .i64 (uR (l.take (j+1)) acct)] 2:=by simp[go_sem,g3]
    generalize G.setCell ⟨a+3,0,none⟩ (gI (uR (l.take (j+1)) acct))=w9 at z k3|-;refine M _ ⟨gS.mod z λb g e=>by have:=N b g;omega,z.hpk g0 qZ,z.hpk g1 qZ,z.hpk g2 qZ,k3,hp1,z.hpk gd qZ,(L.on u λb g=>gT).trans z,λb g=>⟨by have:=(t b g).1;omega,br (t b g).2 (bK u.size z.size)⟩⟩ (z.keep i qZ) λb g=>?_;rw[z.blk b (br (t b g).2 u.size) (by have:=(t b g).1;omega)];exact u.blk b (t b g).2 (by have:=(t b g).1;omega)
 ·rintro Q W o ⟨P,j1,j2,j3,R,H,Z,L,t⟩;have hend:(l.map λo=>[mi o]).length=l.length:=by simp
  rw[hend,aL]at R H;refine XP ?_;simp only[lP];refine fin W o ?_ Z L
  have:iY buy l price acct=uR l acct:=by
   unfold iY uR;rw[Xb (p:=p) H]
  rw[this];exact R
 ·rintro c W o ⟨rfl,k1,k2,k3⟩;refine XP ?_;simp only[lP];exact fin W o k1 k2 k3
end Go.Proofs
namespace Go.Proofs
open Go Go.Vc
attribute [local congr] bj
variable {F:NP_}{b:Nat}{w:Wt_}{K:be}
abbrev Bk:=Bool->List Od
variable {B:Bk}
def Bk.empty:Bk:=λ_=>[]
def Bk.set(B:Bk)(d:Bool)(l:List Od):Bk:=λx=>if x=d then l else B x
def Bk.set_self(B:Bk)(d:Bool)(l:List Od):B.set d l d=l:=by simp[Bk.set]
def Bk.set_other(B:Bk)(d:Bool)(l:List Od):B.set d l (!d)=B (!d):=by cases d<;>simp[Bk.set]
def Bk.set_same(B:Bk)(d:Bool):B.set d (B d)=B:=by
 funext x;unfold Bk.set;by_cases h:x=d<;>simp[h]
def Bk.find(B:Bk)(n:Int):Option (Od×Bool):=
 match nA (B true) n with
 |some o=>some (o,true)
 |none=>match nA (B false) n with
  |some o=>some (o,false)
  |none=>none
structure gW(w:Wt_)(b:Nat)(F:NP_)(B:Bk):Prop where
 out:∃(s:Bool->Nat) (G:Bool->Nat->Prop),hC w b #[dc (s true),dc (s false)] 242/\(∀d,gX w (s d) (G d) d (B d))/\(∀x,F x↔x=b\/G true x\/G false x)/\(∀d,¬G d b)/\∀x,G true x->¬G false x
def gW.mod{H:NP_}{w' :Wt_}(h:gW w b F B)(f:bn H w w')(c:∀x,F x->¬H x):gW w' b F B:=by
 obtain⟨s,G,j,g,a,i,k⟩:=h.out;exact⟨s,G,f.hpk j (c b ((a b).2 (.inl rfl))),λd=>(g d).mod f λx e=>c x ((a x).2 (.inr (by cases d;exact .inr e;exact .inl e))),a,i,k⟩
def gW.lt(h:gW w b F B){x:Nat}(a:F x):x<w.heap.size:=by
 obtain⟨s,G,d,c,e,f,g⟩:=h.out;rcases(e x).1 a with rfl|a|a
 ·exact aJ d
 ·exact(c true).lt a
 ·exact(c false).lt a
def gW.self(h:gW w b F B):F b:=by
 obtain⟨s,G,e,c,a,d,f⟩:=h.out;exact(a b).2 (.inl rfl)
def fe(b:Nat):Value:=cU b 0
def QI(r:∀b F g,gW g b F Bk.empty->M0 w g->(∀x,F x->w.heap.size<=x)->K (fe b) g):Ca pQ 52 #[] w K:=by
 refine cN Tryz.func52 ?_;refine GL λs1 l v j m u=>?_;refine GL λe k a o f n=>?_;apply az (.agg #[dc s1,dc e]) a (by simp[go_sem,dc]);have i:M0 a (a.alloc (.cells #[dc s1,dc e] 242)):=nl;apply az (fe a.heap.size) (a.alloc (.cells #[dc s1,dc e] 242)) rfl;have s:=m.size;have t:=f.size;refine r a.heap.size (λx=>x=a.heap.size\/l x\/k x) _ ⟨λd=>if d then s1 else e,λd=>if d then l else k,by simp[go_sem],λd=>?_,λx=>aI,λd=>?_,λx q p=>?_⟩ ((m.trans f).trans i) λx c=>?_
 ·cases d
  ·exact o.mod i eI
  ·exact(j.mod f eI).mod i eI
 ·cases d
  ·intro h;have:=o.lt h;omega
  ·intro h;have:=j.lt h;omega
 ·have y:=j.lt q;have z:=n x p;omega
 ·rcases c with rfl|c|c
  ·omega
  ·exact u x c
  ·have:=n x c;omega
def pB(h:gW w b F B)(c:K (.bool true) w):Ca pQ 165 #[fe b] w K:=by
 obtain⟨s,G,a,d,g,e,f⟩:=h.out;unfold fe;refine cN Tryz.func165 ?_;refine lV ?_;simp only[cJ];refine dD a ?_;refine dD a ?_;apply az (.bool true) w (by simp[go_sem,dc]);exact c
def CD{s:Bool->Nat}{d:Bool}(e:hC w b #[dc (s true),dc (s false)] 242)
  (c:K (.tuple #[dc (s d),dc (s !d)]) w.drew):Ca pQ 228 #[fe b,.bool d] w K:=by
 unfold fe;refine cN Tryz.func228 ?_;have a:hC w.drew b #[dc (s true),dc (s false)] 242:=e;simp only[cJ];cases d with
 |true=>
  rw[nO];refine vn ?_;refine AN a ?_;refine vn ?_;refine AN a ?_;exact⟨by simp[go_sem,a],c⟩
 |false=>
  rw[lW];refine vn ?_;refine AN a ?_;refine vn ?_;refine AN a ?_;exact⟨by simp[go_sem,a],c⟩
def gu(o:Od)(price:Int):Bool:=if o.buy then decide (price<=o.price)else decide (o.price<=price)
def Kb{o:Od}{price:Int}(b:∀c,M0 w c->K (.bool (gu o price)) c):Ca pQ 282 #[mi o,gI price] w K:=by
 refine cN Tryz.func282 ?_;obtain⟨g,e,a,f⟩:=tQ o w;have b:=b _ f;unfold gu at b;apply dy e;unfold dp at a;refine dD a ?_;refine dD a ?_;cases d:o.buy with
 |true=>
  rw[d]at b;rw[nO];refine dD a ?_;refine dD a ?_;refine dF ?_;simpa using b
 |false=>
  rw[d]at b;rw[lW];refine dD a ?_;refine dD a ?_;refine dF ?_;simpa using b
def psU:Tryz.prog.underlying 257=some (.slice 239):=cH
def psE:fj pQ 239 1 8=true:=cH
def ve{s:Bool->Nat}{G:Bool->Nat->Prop}{n:Int}(h1:hC w b #[dc (s true),dc (s false)] 242)(h2:∀d,gX w (s d) (G d) d (B d))
  (hN:B.find n=none->∀k,M0 w k->K (.tuple #[mi ou,.pointer none]) k)
  (hS:∀o d,B.find n=some (o,d)->nA (B d) n=some o->∀k,M0 w k->K (.tuple #[mi o,dc (s d)]) k):Ca pQ 227 #[fe b,gQ n] w K:=by
 unfold fe;refine cN Tryz.func227 ?_;obtain⟨j,e1,z,m1⟩:=kg w;apply dy e1;obtain⟨p,L⟩:=dW w.heap.size;rw[<-L]at z|-;have md:=m1.drew;have R:=md.hpk h1 id;simp only[fe,cJ];refine vn ?_;refine AN R ?_;refine vn ?_;refine AN R ?_;refine oE [dc (s true),dc (s false)] psU (dG psE) rfl rfl (by intro v S;simp only[aq,fD,mz]at S;rcases S with rfl|rfl<;>rfl) qZ ?_;have Y:(([dc (s true),dc (s false)]:LV_).flatMap (·.cells.toList)).toArray= #[dc (s true),dc (s false)]:=rfl;rw[Y];obtain⟨q,a⟩:=dW j.drew.heap.size;have hpq:p<q:=by rw[a,Dh];exact aJ z
 have T:M0 w (j.drew.alloc (.cells #[dc (s true),dc (s false)] 239)):=md.alloc _;have U:hC (j.drew.alloc (.cells #[dc (s true),dc (s false)] 239)) q #[dc (s true),dc (s false)] 239:=by rw[a];simp[go_sem]
 have N:hp (j.drew.alloc (.cells #[dc (s true),dc (s false)] 239)) p=some (.cells (dp ou).toArray kQ (0,0)):=by
  rw[uS,aa (by rw[<-a];omega)];exact z
 rw[<-a];generalize j.drew.alloc (.cells #[dc (s true),dc (s false)] 239)=w2 at T U N|-;refine qW0 ?_
 refine iz (λst W=>∃(i:Nat) (x:Vt_),i<=2/\st=(x,gI i,())/\M0 w2 W/\(1<=i->nA (B true) n=none)/\(2<=i->nA (B false) n=none))
  (λst _=>match st.2.1 with| .int _ i=>2 - i.toNat|_=>0) ⟨0,.pointer none,qZ,rfl,rC,λh=>qZ,λh=>qZ⟩ ?_
 rintro⟨_,_⟩ W ⟨i,x,hi,⟨⟩,t,e,M⟩ KN D;refine rT ?_;intro _;have J:=T.trans t;have bW:=t.hpk U id;have P:=t.hpk N id;by_cases y:i<2
 ·have l:(i:Int)<2:=qZ;refine ee l ?_
  obtain⟨d,g⟩:∃d:Bool,(i=0/\d=true)\/(i=1/\d=false):=by
   by_cases h0:i=0
   ·exact⟨true,.inl ⟨h0,rfl⟩⟩
   ·exact⟨false,.inr ⟨qZ,rfl⟩⟩
  have F:(#[dc (s true),dc (s false)]:Array Value)[i]? =some (dc (s d)):=by
   rcases g with⟨rfl,rfl⟩|⟨rfl,rfl⟩<;>rfl
  have m:¬(2:Int)<=(i:Int):=qZ;apply az (cU q i) W (by simp[go_sem,y,m,bQ]);apply az (dc (s d)) W (by rcases g with⟨rfl,rfl⟩|⟨rfl,rfl⟩<;>simp[go_sem,bW]);refine TI ((h2 d).mod J eI) λA H=>?_;have M3:=J.trans H;refine dF ?_;refine dF ?_;obtain⟨w4,e4,V,m4⟩:=kg A;apply dy e4;obtain⟨r,I⟩:=dW A.heap.size;rw[<-I]at V|-;obtain⟨X,e5,Q,Z⟩:=jA (o' :=(nA (B d) n).getD ou) V;apply lO e5;have c:M0 A X:=m4.on Z λb O=>gT;have M5:=M3.trans c;have p5:=c.hpk (H.hpk P id) id;cases f:nA (B d) n with
  |some o=>
   rw[f]at Q
   have hf:B.find n=some (o,d):=by
    unfold Bk.find;rcases g with⟨rfl,rfl⟩|⟨rfl,rfl⟩
    ·rw[f]
    ·grind
   refine lV ?_;apply dy (me (o:=o) (At.all Q));obtain⟨w6,E,C,u⟩:=jA (o' :=o) p5;apply lO E;apply gC (me (o:=o) (At.all C));exact hS o d hf f _ (M5.on u λb O=>gT)
  |none=>
   refine fh ?_;apply az (gI ((i+1:Nat):Int)) X (by simp[go_sem];rw[mL]);refine D _ _ ⟨i+1,_,qZ,rfl,(t.trans H).trans c,λh=>?_,λh=>?_⟩ (by grind)
   ·rcases g with⟨rfl,rfl⟩|⟨rfl,rfl⟩
    ·exact f
    ·exact e qZ
   ·rcases g with⟨rfl,rfl⟩|⟨rfl,rfl⟩
    ·omega
    ·exact f
 ·obtain rfl:i=2:=qZ;refine fh ?_;apply az (mi ou) W (by simp[go_sem,mi,dp,ou]);obtain⟨w6,E,C,u⟩:=jA (o' :=ou) P;apply lO E;apply gC (me (o:=ou) (At.all C));refine hN ?_ _ (J.on u λb O=>gT);unfold Bk.find;rw[e qZ];simp only;rw[M qZ]
end Go.Proofs
namespace Go.Proofs
open Go Go.Vc
attribute [local congr] bj
variable {B:Bk}{s:Bool->Nat}{G:Bool->Nat->Prop}{b:Nat}{w w' :Wt_}
structure kG(w:Wt_)(b:Nat)(s:Bool->Nat)(G:Bool->Nat->Prop)(B:Bk):Prop where
 blk:hC w b #[dc (s true),dc (s false)] 242
 sd:∀d,gX w (s d) (G d) d (B d)
 nb:∀d,¬G d b
 dj:∀x,G true x->¬G false x
def gW.r{F:NP_}(h:gW w b F B):∃s G,kG w b s G B/\∀x,F x↔x=b\/G true x\/G false x:=by
 obtain⟨s,G,d,a,f,c,e⟩:=h.out;exact⟨s,G,⟨d,a,c,e⟩,f⟩
def kG.q(h:kG w b s G B):gW w b (λx=>x=b\/G true x\/G false x) B:=
 ⟨s,G,h.blk,h.sd,λ_=>aI,h.nb,h.dj⟩
def kG.mod{H:NP_}(h:kG w b s G B)(a:bn H w w')(e:¬H b)(c:∀d x,G d x->¬H x):kG w' b s G B:=
 ⟨a.hpk h.blk e,λd=>(h.sd d).mod a (c d),h.nb,h.dj⟩
def kG.lt(h:kG w b s G B){d:Bool}{x:Nat}(a:G d x):x<w.heap.size:=(h.sd d).lt a
def kG.dj' {w:Wt_}{b:Nat}{s:Bool->Nat}{G:Bool->Nat->Prop}{B:Bk}(h:kG w b s G B){d:Bool}{x:Nat}(a:G d x):¬G (!d) x:=by
 cases d
 ·exact λc=>h.dj x c a
 ·exact h.dj x a
def jk(G:Bool->Nat->Prop)(d:Bool)(G' :NP_):Bool->Nat->Prop:=λx=>if x=d then G' else G x
def fY(G:Bool->Nat->Prop)(d:Bool)(a:NP_):jk G d a d=a:=by simp[jk]
def th(G:Bool->Nat->Prop)(d:Bool)(a:NP_):jk G d a (!d)=G (!d):=by cases d<;>simp[jk]
def kG.upd(h:kG w b s G B){d:Bool}{f:NP_}{l:List Od}(n:bn (G d) w w')(hs:gX w' (s d) f d l)(m:∀x,f x->G d x\/w.heap.size<=x):
  kG w' b s (jk G d f) (B.set d l):=by
 have o:=aJ h.blk
 have k:∀x,G (!d) x->¬f x:=λx c a=>by
  rcases m x a with j|j
  ·exact h.dj' j c
  ·have:=h.lt c;omega
 refine⟨n.hpk h.blk (h.nb d),λe=>?_,λe=>?_,λx c a=>?_⟩
 ·by_cases i:e=d
  ·subst i;rw[fY,Bk.set_self];exact hs
  ·obtain rfl:e= !d:=by cases e<;>cases d<;>simp_all
   rw[th,Bk.set_other];exact(h.sd _).mod n λx c a=>h.dj' a c
 ·by_cases i:e=d
  ·subst i;rw[fY];intro c;rcases m b c with a|a
   ·exact h.nb _ a
   ·omega
  ·obtain rfl:e= !d:=by cases e<;>cases d<;>simp_all
   rw[th];exact h.nb _
 ·cases d
  ·have g:jk G false f true=G true:=th G false f;rw[g]at c;rw[fY]at a;exact k x c a
  ·have g:jk G true f false=G false:=th G true f;rw[g]at a;rw[fY]at c;exact k x a c
structure Td where
 price:Int
 qty:Int
 num:Int
 acct:Int
 deriving DecidableEq
def Gv(t:Td):List Value:=[.int .i64 t.price,gI t.qty,gQ t.num,gU t.acct]
structure Pm where
 trades:List Td
 gone:List Int
 filled:Int
 left:Int
def oy(n:Int):List Value:=[.int .u64 n]
def eu(o:Od):Int->List Od->Int×List Od×List Td×List Int×Int
 |left,[]=>(left,[],[],[],0)
 |left,b::r=>
  if left<=0\/gu o b.price=false then(left,b::r,[],[],0)
  else if b.acct=o.acct then let x:=eu o left r;(x.1,x.2.1,x.2.2.1,b.num::x.2.2.2.1,x.2.2.2.2)
  else if left<b.left then(0,{b with left:=b.left - left}::r,[⟨b.price,left,b.num,b.acct⟩],[],left)
  else let x:=eu o (left - b.left) r;(x.1,x.2.1,⟨b.price,b.left,b.num,b.acct⟩::x.2.2.1,x.2.2.2.1,b.left+x.2.2.2.2)
def Af(t:List Td)(g:List Int)(f:Int)(x:Int×List Od×List Td×List Int×Int):Int×List Od×List Td×List Int×Int:=
 (x.1,x.2.1,t++x.2.2.1,g++x.2.2.2.1,f+x.2.2.2.2)
def eP(B:Bk)(o:Od)(rests:Bool):Bk×Pm:=
 let x:=eu o o.left (B (!o.buy));let B1:=B.set (!o.buy) x.2.1
 if rests=true/\0<x.1 then(B1.set o.buy (oX o.buy (B1 o.buy) {o with left:=x.1}).2,⟨x.2.2.1,x.2.2.2.1,x.2.2.2.2,x.1⟩)
 else(B1,⟨x.2.2.1,x.2.2.2.1,x.2.2.2.2,0⟩)
def tN{o:Od}{left:Int}{l:List Od}(h:left<=0\/l=[]\/∃b r,l=b::r/\gu o b.price=false):eu o left l=(left,l,[],[],0):=by
 cases l with
 |nil=>rfl
 |cons b r=>
  unfold eu;rw[ab];rcases h with h|h|⟨c,a,e,h⟩
  ·exact .inl h
  ·cases h
  ·cases e;exact .inr h
def Ho(o:Od)(x p:Int):gu {o with left:=x} p=gu o p:=rfl
structure Qr(w:Wt_)(sT sG:Vt_)(t:List Td)(g:List Int):Prop where
 tr:il w 148 4 sT t.length (t.flatMap Gv)
 go:il w 37 1 sG g.length (g.flatMap oy)
 dj:∀x,aQ sT x->¬aQ sG x
def Qr.mod{F:NP_}{sT sG:Vt_}{t:List Td}{g:List Int}(h:Qr w sT sG t g)(a:bn F w w')(c:∀x,aQ sT x->¬F x)(b:∀x,aQ sG x->¬F x):Qr w' sT sG t g:=
 ⟨h.tr.mod a c,h.go.mod a b,h.dj⟩
def JL:Tryz.prog.underlying 38=some (.slice 148):=cH
def eTd:fj pQ 148 4 32=true:=cH
def Ce:Tryz.prog.underlying 39=some (.slice 37):=cH
def Oq:fj pQ 37 1 8=true:=cH
def V1(t:Td):(Gv t).all (·.oneCell')=true:=rfl
def Gi(n:Int):(oy n).all (·.oneCell')=true:=rfl
def vz{α:Type}{P:Program}{t e:TypeId}{k by_:Nat}{K:be}{s xv:Vt_}{l:List α}{x:α}{f:α->List Value}(d:P.underlying t=some (.slice e))(j:vG P e k by_)(y:∀x,(f x).length=k)(i:∀x,(f x).all (·.oneCell')=true)
  (B:xv.cells.toList=f x)(hs:il w e k s l.length (l.flatMap f))(r:(l.length+1)*by_<=140737488355328)(C:k<=1000)
  (u:∀a c,il c e k a (l++[x]).length ((l++[x]).flatMap f)->bn (aQ s) w c->(∀b,aQ a b->aQ s b\/w.heap.size<=b)->K a c):
  rx P (qL t 1 [(0,xv)]) w λv n=>rx P (ff #[t,t] t [s,v]) n K:=by
 have D:xv.cells.size=k:=by grind
 refine oE [xv] d j rfl rfl (by grind) qZ ?_;have p:(([xv]:LV_).flatMap (·.cells.toList)).toArray=(f x).toArray:=by simp[B]
 rw[p];have m:M0 w (w.alloc (.cells (f x).toArray e)):=nl
 have q:Rd (w.alloc (.cells (f x).toArray e)) k (.slice (some ⟨w.heap.size,0,none⟩) 1 1) 1 (f x):=
  ⟨by rw[y];omega,.inr ⟨_,0,1,rfl,aB _,At.all (cO (by rw[dZ,ab rfl]))⟩⟩
 refine lA d d j (hs.mod m eI) q (i x) r λa c z A o=>?_;refine u a c ?_ ((m.to (G:=aQ s)).trans A) λb g=>?_
 ·rw[bD,ad];simpa using z
 ·rcases o b g with h|h
  ·exact .inl h
  ·rw[ci]at h;exact gT
end Go.Proofs
