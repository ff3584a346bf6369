/- Part of a proof. -/
import Derived.Laws.Externs
import Derived.Shelf.Bits.Mul64
import Derived.Shelf.Small.Bits
import Derived.Ground.NamesProg
import Derived.Lib.ItoaNum
import Derived.Laws.Bits64b
import Derived.Test.YtnfloameajanhaaGreatY7
set_option linter.all false
namespace Go.Proofs
open Go Go.Vc
attribute [local congr] cR
def Zg:se pQ 27=true:=cU
def YB:(lT pQ 27).length=24+1:=cU
def ao7{W:Wt_}{s:Sp}{K:Value->World->Prop}(c:∀a,hC a W.heap.size (jA s).toArray 27->M0 W a->K (pt W.heap.size 0) a):
  rx pQ (nE 27) W λv b=>nj pQ (jH 27 v (.agg (jA s).toArray)) b λa=>K v a:=by
 apply xM 24 Zg Cc (dP s) YB (xS s);exact c _ (by simp[go_sem]) lm
def Qq{g:Gt}{w:Wt_}{K:cG}(x:g.Fit)
  (hK:∀N,M0 w N->K (gI g.check) N):Ca pQ 172 #[.agg (BE g).toArray] w K:=by
 apply ar0;obtain⟨J,e1,A,m1⟩:=VS g w;apply cI e1;obtain⟨p,H⟩:=dW w.heap.size;rw[<-H]at A|-
 have A1:At J p 0 (jA g.k.spec):=by
  have:=(At.all A).sub 0 25 (by rw[zS];omega);rw[iw,BE,fI,df,dh (by rw[dP];omega),cT (by rw[dP];omega)]at this;exact this
 refine qS0 ?_;refine qS0 ?_;apply jq (jA g.k.spec) 24 DW Cc (dP _) A1;refine ao7 λj i M=>?_;obtain⟨q,C⟩:=dW J.heap.size;rw[<-C]at i|-;have M2:=m1.trans M;have b:=M.hpk A id
 have fin:∀(e:Int) (W:Wt_),g.check=e->M0 j W->K (gI e) W:=λe W he m=>by
  rw[<-he];exact hK _ (M2.trans m)
 refine qS0 ?_;refine qS0 ?_;refine qS2 b ax9 ?_;cases z:g.a.dfl with
 |true=>
  rw[kx];exact fin 120 j (by unfold Gt.check;rw[z];rfl) lX
 |false=>
 rw[gP];refine qS0 ?_;refine qS0 ?_;refine qS2 b aE4 ?_;cases R:g.a.kil with
 |true=>
  rw[kx];exact fin 121 j (by unfold Gt.check;rw[z,R];rfl) lX
 |false=>
 rw[gP];refine qS0 ?_;refine qS0 ?_;refine qS2 b YW ?_
 have a:g.check=if g.k.st=3 then 50 else if g.k.st=2 then 122
  else if g.k.st≠1\/¬g.k.spec.isPrice g.k.price\/¬amongB g.buys 0 1000000000\/¬amongB g.sells 0 1000000000\/¬amongB g.q (-MP) MP then 2
  else if¬g.k.spec.isQty g.qty then 123 else if¬g.k.spec.isPrice g.price then 52 else if¬g.k.spec.inBand g.k.price g.price then 124 else if g.far then 125 else 0:=by
  unfold Gt.check;rw[z,R];rfl
 by_cases y:g.k.st=3
 ·refine qSt1 y ?_;exact fin 50 j (by rw[a,bZ y]) lX
 refine qSf1 y ?_;refine qS0 ?_;refine qS0 ?_;refine qS2 b YW ?_;by_cases B:g.k.st=2
 ·refine qSt1 B ?_;exact fin 122 j (by grind) lX
 refine qSf1 B ?_;rw[aZ y,aZ B]at a;obtain⟨P,h⟩:=dW (decide (g.k.st≠1\/¬g.k.spec.isPrice g.k.price=true\/¬amongB g.buys 0 1000000000=true\/¬amongB g.sells 0 1000000000=true\/¬amongB g.q (-MP) MP=true):Bool);have d:=x.1.1;refine dK.at (λst W=>st=(.bool P,())/\M0 j W) ?_ ?_
 ·refine qS0 ?_;refine qS0 ?_;refine qS2 b YW ?_;by_cases v:g.k.st=1
  ·refine qS1 v ?_;rw[gP];apply jq (jA g.k.spec) 24 DW Cc (dP _) (At.all i);refine qS0 ?_;refine qS0 ?_;refine qS2 b al2 ?_;refine wL d λw3 l=>?_;have E:=l.hpk b id;cases k:g.k.spec.isPrice g.k.price with
   |false=>
    refine qS0 ?_;rw[kx];exact⟨by rw[h,k];simp,l⟩
   |true=>
    refine qS0 ?_;rw[gP];refine qS0 ?_;refine qS2 E ZQ ?_;apply IC;cases o:amongB g.buys 0 1000000000 with
    |false=>
     refine qS0 ?_;rw[kx];exact⟨by rw[h,o];simp,l⟩
    |true=>
     refine qS0 ?_;rw[gP];refine qS0 ?_;refine qS2 E al6 ?_;apply IC;cases n:amongB g.sells 0 1000000000 with
     |false=>
      refine qS0 ?_;rw[kx];exact⟨by rw[h,n];simp,l⟩
     |true=>
      refine qS0 ?_;rw[gP];refine qS0 ?_;refine qS2 E Ye ?_;apply lH x.2.1 qZ;refine qS0 ?_;exact⟨by rw[h,k,o,n];simp[v,MP],l⟩
  ·refine qSv1 (.bool true) v ?_;rw[kx];exact⟨by rw[h];simp[v],lX⟩
 rintro _ W ⟨rfl,u⟩;unfold P1;intro _;have b:=u.hpk b id;have i:=u.hpk i id;cases t:P with
 |true=>
  rw[kx];rw[t]at h;exact fin 2 W (by grind) u
 |false=>
 rw[gP];rw[t]at h;have s:=of_decide_eq_false h.symm;rw[aZ s]at a
 have c:g.k.spec.isPrice g.k.price=true/\amongB g.buys 0 1000000000=true/\amongB g.sells 0 1000000000=true/\amongB g.q (-MP) MP=true:=by
  refine⟨?_,?_,?_,?_⟩<;>apply dU<;>intro hc<;>apply s
  ·exact .inr (.inl hc)
  ·grind
  ·grind
  ·grind
 apply jq (jA g.k.spec) 24 DW Cc (dP _) (At.all i);refine qS0 ?_;refine qS2 b Yu ?_;refine Ro d λZ I=>?_;have T:=I.hpk b id;have X:=I.hpk i id;have Y:=u.trans I;cases S:g.k.spec.isQty g.qty with
 |false=>
  refine qSt0 ?_;exact fin 123 Z (by grind) Y
 |true=>
 refine qSf0 ?_;rw[aZ (by rw[S];simp)]at a;apply jq (jA g.k.spec) 24 DW Cc (dP _) (At.all X);refine qS0 ?_;refine qS2 T af2 ?_;refine wL d λw5 G=>?_;have F:=G.hpk T id;have b5:=G.hpk X id;have O:=Y.trans G;cases hp:g.k.spec.isPrice g.price with
 |false=>
  refine qSt0 ?_;exact fin 52 w5 (by grind) O
 |true=>
 refine qSf0 ?_;rw[aZ (by rw[hp];simp)]at a;apply jq (jA g.k.spec) 24 DW Cc (dP _) (At.all b5);refine qS0 ?_;refine qS0 ?_;refine qS2 F al2 ?_;refine qS0 ?_;refine qS2 F af2 ?_;refine Nn d x.1.2.2 x.2.2.2.2.1 λw6 L=>?_;have c6:=L.hpk F id;have D:=O.trans L;cases hb:g.k.spec.inBand g.k.price g.price with
 |false=>
  refine qSt0 ?_;exact fin 124 w6 (by grind) D
 |true=>
 refine qSf0 ?_;rw[aZ (by rw[hb];simp)]at a;apply jq (BE g) 36 aGt nGt (zS g) (At.all c6);have f:=S;unfold Sp.isQty at f;simp only[cL]at f;have r:=Sp.may_tick f.1;refine SX c.2.2.2 c.2.1 c.2.2.1 f.2.1 ⟨r.2.2.2.1,r.2.2.2.2.1⟩ λQ U=>?_;cases V:g.far with
 |true=>
  rw[kx];exact fin 125 Q (by grind) (D.trans U)
 |false=>
  rw[gP];exact fin 0 Q (by grind) (D.trans U)
end Go.Proofs
set_option maxRecDepth 100000
namespace Go.Proofs
open Go Go.Vc
section
variable{a b c d e:Vt_}{W:Wt_}{Z:cG}
def ZW(h:Ca pQ 254 #[a,b] W λc d=>gb .geq 3 true c (gI 0) d Z):Ca pQ 238 #[a,b] W Z:=cj Tryz.func238 h
def Pj(a b c:Vt_)(d:cG)(e:T2)(f:Wt_)(g:T2->Wp):=gc e.2.1 a f λh i=>cV h (uB 306 b e.2.1 2 i λj k=>iv pQ c [j] k λl m=>cV l (d e.2.1 m) (g1 e.2.1 m λn o=>g (e.1,n,()) o)) (d (gI (-1)) i)
def Zl(h:gn 306 false a W λc d=>qB (Pj c a b Z) ((gI 0),(gI 0),()) d):Ca pQ 254 #[a,b] W Z:=cj Tryz.func254 h
def P0(a b:Vt_)(c:cG)(d:T2)(e:Wt_)(f:T2->Wp):=NV->gb .lss 3 true d.2.1 (gI 16) e λg h=>cV g (gr (Instr.index 25 a d.2.1) h λi j=>gr (Op.unary .neg b) j λk l=>gb .mul 2 false k i l λm n=>rn pQ (builtin .max #[2,2] 2 #[false,false] #[d.1,m]) n λo p=>g1 d.2.1 p λq r=>f (o,q,()) r) (c d.1 h)
def am8(h:gq 25 a W λc d=>gx (fH 25 c) d λe f=>qB (P0 e b Z) ((gI 0),(gI 0),()) f):Ca pQ 111 #[a,b] W Z:=cj Tryz.func111 h
def RR(a:Vt_)(b:cG)(c d:Vt_)(e:T3)(f:Wt_)(g:T3->Wp):=NV->gb .lss 3 true e.2.2.1 (gI 16) f λh i=>cV h (gr (Instr.index 25 a e.2.2.1) i λj k=>Ca pQ 108 #[j,(gI 10000000)] k λl m=>gt l m λn o=>cV n (b (gT (gI 0) (gI 2)) o) (g1 e.2.2.1 o λp q=>g (e.1,e.2.1,p,()) q)) (Ca pQ 108 #[c,(gI 1000000000)] i λr s=>gt r s λt u=>cV t (b (gT (gI 0) (gI 2)) u) (gx (fH 25 d) u λv w=>Ca pQ 111 #[v,c] w λx y=>b (gT x (gI 0)) y))
def Zp(h:gq 25 a W λc d=>gx (fH 25 c) d λe f=>qC (RR e Z b c) ((gI 0),(gI 0),(gI 0),()) f):Ca pQ 113 #[a,b] W Z:=cj Tryz.func113 h
def VM(a b:Vt_)(c:Unit->Wp)(d:T1)(e:Wt_):=NV->cV d.1 (gf 94 a 0 e λf g=>dz 27 f 7 2 g λh i=>ez b λj=>qM 192 j 3 2 h i λk=>c (()) k) (c (()) e)
def Vn(a b:Vt_)(c:T3)(d:T3->Wp)(e:Unit)(f:Wt_):=NV->ez a λg=>gY 192 g 1 2 f.drew λh=>gY 94 b 1 2 f.drew λi=>gw (Builtin.max_ #[2,2] 2 #[i,(gI 0)]) f.drew λj=>my .add 2 false h j λk=>ez a λl=>kg 192 l 1 λm=>gs 2 m k f.drew λn=>ez a λo=>gY 192 o 2 2 n.drew λp=>gY 94 b 1 2 n.drew λq=>gp (Op.unary .neg q) λr=>gw (Builtin.max_ #[2,2] 2 #[r,(gI 0)]) n.drew λs=>my .add 2 false p s λt=>ez a λu=>kg 192 u 2 λv=>gs 2 v t n.drew λw=>g1 c.2.2.1 w λx y=>d (c.1,c.2.1,x,()) y
def Li(a:cG)(b:Vt_)(c:T3)(d:T3->Wp)(e:Vt_)(f:T1)(g:Wt_):=NV->cV f.1 (a (gT (gI 0) (gI 2)) g) (dz 94 b 1 2 g λh i=>gb .eql 2 true h (gI 0) i λj k=>cV j (g1 c.2.2.1 k λl m=>d (c.1,c.2.1,l,()) m) (gf 94 b 0 k λn o=>dz 27 n 1 5 o λp q=>gi 193 e p q λr s=>dK (S:=Unit) (λt=>ez r λu=>kg 192 u 0 λv=>eP 2 v s.drew λw=>kg 94 b 0 λx=>kg 27 x 6 λy=>pS pQ (fH 25 y) s.drew λz=>gY 94 b 1 2 s.drew λA=>Ca pQ 111 #[z,A] s.drew λB C=>gk 2 v w C/\(my .add 2 false w B λD=>ez r λE=>kg 192 E 0 λF=>gs 2 F D C λG=>jW (λH=>ez r λI=>gY 192 I 1 2 G.drew λJ=>my .eql 2 true J (gI 0) λK=>cV K (ez r λL=>gY 192 L 2 2 G.drew λM=>my .eql 2 true M (gI 0) λN=>cV N (H (bT,()) G.drew) (kg 94 b 0 λO=>gY 27 O 7 2 G.drew λP=>ez r λQ=>gY 192 Q 3 2 G.drew λR=>my .lss 2 false P R λS=>H (S,()) G.drew)) (kg 94 b 0 λT=>gY 27 T 7 2 G.drew λU=>ez r λV=>gY 192 V 3 2 G.drew λX=>my .lss 2 false U X λY=>H (Y,()) G.drew)) (VM b r t))) (Vn r b c d)))
def Vo(a:Vt_)(b:cG)(c:T2)(d:Wt_)(e:T2->Wp):=NV->gb .lss 3 true c.2.1 (gI 9) d λf g=>cV f (uB 193 a c.2.1 192 g λh i=>gv 192 h i λj k=>dz 192 j 0 2 k λl m=>dz 192 j 1 2 m λn o=>dz 192 j 2 2 o λp q=>rn pQ (builtin .min #[2,2] 2 #[false,false] #[n,p]) q λr s=>dz 192 j 3 2 s λt u=>gb .mul 2 false r t u λv w=>gb .sub 2 false l v w λx y=>rn pQ (builtin .max #[2,2] 2 #[true,false] #[(gI 0),x]) y λz A=>gb .add 2 false c.1 z A λB C=>g1 c.2.1 C λD E=>e (B,D,()) E) (b (gT c.1 (gI 0)) g)
def UY(a b c:Vt_)(d:cG)(e:Vt_)(f:T3)(g:Wt_)(h:T3->Wp):=gc f.2.2.1 a g λi j=>cV i (gi 146 b f.2.2.1 j λk l=>gx (fH 94 k) l λm n=>gx (nE 94) n λo p=>nj pQ (jH 94 o m) p λq=>gf 94 o 0 q λr s=>dz 27 r 0 23 s λt u=>gx (ji 194 c t false) u λv w=>g1 v w λx y=>nj pQ (nm 194 c t x) y λz=>gf 94 o 0 z λA B=>dz 27 A 0 23 B λC D=>gx (ji 194 c C false) D λE F=>gb .gtr 3 true E (gI 1) F λG H=>cV G (d (gT (gI 0) (gI 8)) H) (g1 f.2.2.1 H λI J=>h (f.1,f.2.1,I,()) J)) (qB (Vo e d) ((gI 0),(gI 0),()) j)
def U9(a b:Vt_)(c:cG)(d e:Vt_)(f:T3)(g:Wt_)(h:T3->Wp):=gc f.2.2.1 a g λi j=>cV i (gi 146 b f.2.2.1 j λk l=>gx (fH 94 k) l λm n=>gx (nE 94) n λo p=>nj pQ (jH 94 o m) p λq=>jW (λr=>gf 94 o 0 q λs t=>gx (fH 27 s) t λu v=>Ca pQ 81 #[u] v λw x=>gt w x λy z=>cV y (r (bT,()) z) (dz 94 o 1 2 z λA B=>Ca pQ 108 #[A,(gI 10000000)] B λC D=>gt C D λE F=>r (E,()) F)) (Li c o f h d)) (gn 146 false b j λG H=>qC (UY G b e c d) (f.2.1,f.1,(gI 0),()) H)
def au2(l:gn 146 false a W λb c=>gb .gtr 3 true b (gI 16) c λd e=>cV d (Z (gT (gI 0) (gI 3)) e) (gx (nE 193) e λf g=>gr (Instr.makeMap 194 none) g λh i=>gn 146 false a i λj k=>qC (U9 j a Z f h) ((gI 0),(gI 0),(gI 0),()) k)):Ca pQ 60 #[a] W Z:=cj Tryz.func60 l
def WL(a b:Vt_)(c:cG)(d:T2)(e:Wt_)(f:T2->Wp):=gc d.2.1 a e λg h=>cV g (uB 95 b d.2.1 74 h λi j=>gv 74 i j λk l=>gl 74 k l λm n=>Ca pQ 110 #[m] n λo p=>gt o p λq r=>cV q (c bF r) (g1 d.2.1 r λs t=>f (d.1,s,()) t)) (c bT h)
def VN(a:cG)(b:Vt_)(c:T1)(d:Wt_):=NV->cV c.1 (a bF d) (dz 97 b 3 95 d λe f=>gn 95 false e f λg h=>qB (WL g e a) (bF,(gI 0),()) h)
def aB4(K:gq 97 a W λb c=>jW (λd=>dz 97 b 1 2 c λe f=>Ca pQ 108 #[e,(gI 1000000000000000)] f λg h=>gt g h λi j=>cV i (d (bT,()) j) (gf 97 b 0 j λk l=>dz 94 k 1 2 l λm n=>Ca pQ 108 #[m,(gI 10000000)] n λo p=>gt o p λq r=>cV q (d (bT,()) r) (gf 97 b 0 r λs t=>gf 94 s 0 t λu v=>gx (fH 27 u) v λw x=>dz 97 b 2 2 x λy z=>Ca pQ 109 #[w,y] z λA B=>gt A B λC D=>cV C (d (bT,()) D) (dz 97 b 3 95 D λE F=>gn 95 false E F λG H=>gb .gtr 3 true G (gI 250) H λI J=>d (I,()) J)))) (VN Z b)):Ca pQ 59 #[a] W Z:=cj Tryz.func59 K
def VZ(a b c:Vt_)(d:cG)(e:T4)(f:Wt_)(g:T4->Wp):=gc e.2.2.2.1 a f λh i=>cV h (uB 95 b e.2.2.2.1 74 i λj k=>gv 74 j k λl m=>dz 74 l 2 4 m λn o=>cV n (dz 74 l 4 2 o λp q=>gb .add 2 false e.2.1 p q λr s=>dz 74 l 3 2 s λt u=>dz 97 c 2 2 u λv w=>gb .sub 2 false t v w λx y=>rn pQ (builtin .max #[2,2] 2 #[true,false] #[(gI 0),x]) y λz A=>dz 74 l 4 2 A λB C=>gb .mul 2 false z B C λD E=>gb .add 2 false e.1 D E λF G=>g1 e.2.2.2.1 G λH I=>g (F,r,e.2.2.1,H,()) I) (dz 74 l 4 2 o λJ K=>gb .add 2 false e.2.2.1 J K λL M=>dz 97 c 2 2 M λN O=>dz 74 l 3 2 O λP Q=>gb .sub 2 false N P Q λR S=>rn pQ (builtin .max #[2,2] 2 #[true,false] #[(gI 0),R]) S λT U=>dz 74 l 4 2 U λV X=>gb .mul 2 false T V X λY aa=>gb .add 2 false e.1 Y aa λab ac=>g1 e.2.2.2.1 ac λad ae=>g (ab,e.2.1,L,ad,()) ae)) (gf 97 c 0 i λaf ag=>dz 94 af 1 2 ag λah ai=>gb .add 2 false ah e.2.1 ai λaj ak=>iv pQ (.func (.func 112) #[] #[c]) [aj] ak λal am=>gb .sub 2 false ah e.2.2.1 am λan ao=>iv pQ (.func (.func 112) #[] #[c]) [an] ao λap aq=>rn pQ (builtin .max #[2,2] 2 #[false,false] #[al,ap]) aq λar au=>iv pQ (.func (.func 112) #[] #[c]) [ah] au λav aw=>gb .sub 2 false ar av aw λax ay=>rn pQ (builtin .max #[2,2] 2 #[true,false] #[(gI 0),ax]) ay λaz aA=>gb .add 2 false e.1 az aA d)
def aw4(h:gq 97 a W λb c=>dz 97 b 3 95 c λd e=>gn 95 false d e λf g=>qD (VZ f d b Z) ((gI 0),(gI 0),(gI 0),(gI 0),()) g):Ca pQ 61 #[a] W Z:=cj Tryz.func61 h
def am2(p:gf 97 b 0 W λc d=>gf 94 c 0 d λe f=>gf 27 e 6 f λg h=>gx (fH 25 g) h λi j=>Ca pQ 113 #[i,a] j λk l=>nR k l λm n o=>Z m o):Ca pQ 112 #[a,b] W Z:=cj Tryz.func112 p
def WF(a b c:Vt_)(d:cG)(e:T1)(f:Wt_)(g:T1->Wp):=gc e.1 a f λh i=>cV h (gi 88 b e.1 i λj k=>gx (fH 97 j) k λl m=>gx (nE 97) m λn o=>nj pQ (jH 97 n l) o λp=>kg 42 c 1 λq=>eP 2 q p.drew λr=>pS pQ (fH 97 n) p.drew λs=>Ca pQ 61 #[s] p.drew λt u=>gk 2 q r u/\(my .add 2 false r t λv=>kg 42 c 1 λw=>gs 2 w v u λx=>dz 42 c 2 2 x λy z=>dz 97 n 1 2 z λA B=>gf 97 n 0 B λC D=>dz 94 C 1 2 D λE F=>dz 97 n 2 2 F λG H=>gb .mul 2 false E G H λI J=>gb .sub 2 false A I J λK L=>gb .add 2 false y K L λM N=>qM 42 c 2 2 M N λO=>g1 e.1 O λP Q=>g (P,()) Q)) (dz 42 c 2 2 i λR S=>rn pQ (builtin .max #[2,2] 2 #[true,false] #[(gI 0),R]) S λT U=>qM 42 c 2 2 T U λV=>gl 42 c V λX Y=>gs 42 c X Y λaa=>eP 42 c aa λab=>d (gT ab (gI 0)) aa)
def UQ(a b c:Vt_)(d:cG)(e:T3)(f:Wt_)(g:T3->Wp):=gc e.2.2.1 a f λh i=>cV h (gi 88 b e.2.2.1 i λj k=>gx (fH 97 j) k λl m=>gx (nE 97) m λn o=>nj pQ (jH 97 n l) o λp=>gx (fH 97 n) p λq r=>Ca pQ 59 #[q] r λs t=>gt s t λu v=>cV u (gr (Instr.build 42 #[]) v λw x=>gs 42 c w x λy=>eP 42 c y λz=>d (gT z (gI 2)) y) (gf 97 n 0 v λA B=>gx (fH 94 A) B λC D=>gx (jQ 146 1 [(0,C)]) D λE F=>gx (eg #[146,146] 146 [e.2.1,E]) F λG H=>g1 e.2.2.1 H λI J=>g (e.1,G,I,()) J)) (Ca pQ 60 #[e.2.1] i λK L=>nR K L λM N O=>qM 42 c 0 2 M O λP=>gE N P λQ R=>cV Q (gr (Instr.build 42 #[]) R λS T=>gs 42 c S T λU=>eP 42 c U λV=>d (gT V N) U) (gn 88 false b R λX Y=>qA (WF X b c d) ((gI 0),()) Y))
def av6(n:ga 42 W λb c=>gn 88 false a c λd e=>gb .gtr 3 true d (gI 16) e λf g=>cV f (gr (Instr.build 42 #[]) g λh i=>gs 42 b h i λj=>eP 42 b j λk=>Z (gT k (gI 3)) j) (gn 88 false a g λl m=>qC (UQ l a b Z) ((gI 0),(.slice none 0 0),(gI 0),()) m)):Ca pQ 32 #[a] W Z:=cj Tryz.func32 n
def ak2(K:gq 42 a W λb c=>dz 42 b 0 2 c λd e=>dz 42 b 1 2 e λf g=>dz 42 b 2 2 g λh i=>gx (jQ 306 3 [(0,d),(1,f),(2,h)]) i λj k=>Ca pQ 196 #[j] k λl m=>nR l m λn o p=>gb .eql 43 true o (gI 0) p λq r=>cV q (Z n r) (dz 42 b 0 2 r λs t=>gb .quo 2 true s (gI 4) t λu v=>dz 42 b 1 2 v λw x=>gb .quo 2 true w (gI 4) x λy z=>gb .add 2 false u y z λA B=>dz 42 b 2 2 B λC D=>gb .quo 2 true C (gI 4) D λE F=>gb .add 2 false A E F λG H=>gb .gtr 2 true G (gI 0) H λI J=>cV I (Z (gI 9223372036854775807) J) (Z (gI (-9223372036854775808)) J))):Ca pQ 158 #[a] W Z:=cj Tryz.func158 K
def PB(a:cG)(b:Vt_)(c:T3)(d:T3->Wp)(e:T1)(f:Wt_):=NV->cV e.1 (a bF f) (dz 259 b 0 23 f λg h=>g1 c.2.2.1 h λi j=>d (c.1,g,i,()) j)
def RA(a b:Vt_)(c:cG)(d:Vt_)(e:T3)(f:Wt_)(g:T3->Wp):=gc e.2.2.1 a f λh i=>cV h (uB 257 b e.2.2.1 259 i λj k=>gv 259 j k λl m=>jW (λn=>dz 259 l 0 23 m λo p=>gb .leq 23 false o e.2.1 p λq r=>cV q (n (bT,()) r) (dz 259 l 1 2 r λs t=>iv pQ (.func (.func 237) #[] #[]) [s] t λu v=>gt u v λw x=>cV w (n (bT,()) x) (dz 259 l 2 2 x λy z=>Ca pQ 108 #[y,(gI 100000000000000000)] z λA B=>gt A B λC D=>n (C,()) D))) (PB c l e g)) (iv pQ (.func (.func 237) #[] #[]) [d] i c)
def ad9(h:gn 257 false b W λc d=>qC (RA c b Z a) (bF,(gU 0),(gI 0),()) d):Ca pQ 199 #[a,b] W Z:=cj Tryz.func199 h
def ap3(h:gb .geq 2 true a (gI 0) W λb c=>cV b (gb .leq 2 true a (gI 1000000000000000) c Z) (Z bF c)):Ca pQ 237 #[a] W Z:=cj Tryz.func237 h
def QC(a:Vt_)(b:Value×T4)(c:Value×T4->Wp)(d:Vt_)(e:T1)(f:Wt_):=NV->dz 259 a 2 2 f λg h=>gb .gtr 2 true g (gI 0) h λi j=>cV i (gx (jQ 307 1 [(0,b.2.2.2.2.1)]) j λk l=>gx (eg #[307,307] 307 [b.2.2.1,k]) l λm n=>dz 259 a 2 2 n λo p=>gx (jQ 306 1 [(0,o)]) p λq r=>gx (eg #[306,306] 306 [b.2.1,q]) r λs t=>g1 b.2.2.2.2.1 t λu v=>c (d,s,m,e.1,u,()) v) (g1 b.2.2.2.2.1 j λw x=>c (d,b.2.1,b.2.2.1,e.1,w,()) x)
def Su(a:Vt_)(b:Value×T4)(c d e f:Vt_)(g:cG)(h:T1)(i:Wt_)(j:T1->Wp):=gc h.1 a i λk l=>cV k (uB 307 b.2.2.1 h.1 3 l λm n=>uB 306 c h.1 2 n λo p=>gi 260 d m p λq r=>qM 264 q 3 2 o r λs=>mf 260 d m λt=>gY 264 t 1 2 s.drew λu=>mf 306 c h.1 λv=>eP 2 v s.drew λw=>my .sub 2 false u w λx=>mf 260 d m λy=>kg 264 y 1 λz=>gs 2 z x s.drew λA=>g1 h.1 A λB C=>j (B,()) C) (gb .sub 2 false e f l λD E=>g (.tuple #[d,D,(gI 0)]) E)
def Qb(a:cG)(b:Vt_)(c:Value×T4)(d:Vt_)(e:T1)(f:Wt_):=NV->cV e.1 (a (.tuple #[(.slice none 0 0),(gI 0),(gI 130)]) f) (rn pQ (builtin .min #[2,2] 2 #[false,false] #[b,c.2.2.2.1]) f λg h=>gb .sub 2 false c.2.2.2.1 g h λi j=>Ca pQ 200 #[i,c.2.1] j λk l=>nR k l λm n o=>gE n o λp q=>cV p (a (.tuple #[(.slice none 0 0),(gI 0),n]) q) (gn 307 false c.2.2.1 q λr s=>qA (Su r c m d b g a) ((gI 0),()) s))
def OY(a b c:Vt_)(d:cG)(e:Vt_)(f:Value×T4)(g:Wt_)(h:Value×T4->Wp):=gc f.2.2.2.2.1 a g λi j=>cV i (uB 257 b f.2.2.2.2.1 259 j λk l=>gv 259 k l λm n=>dz 259 m 2 2 n λo p=>gx (jQ 306 1 [(0,o)]) p λq r=>gx (eg #[306,306] 306 [f.1,q]) r λs t=>dz 259 m 0 23 t λu v=>dz 259 m 1 2 v λw x=>dz 259 m 2 2 x λy z=>gb .add 2 false w y z λA B=>gr (Instr.build 264 #[(0,u),(1,A)]) B λC D=>gi 260 c f.2.2.2.2.1 D λE F=>gs 264 E C F λG=>jW (λH=>gi 260 c f.2.2.2.2.1 G λI J=>dz 264 I 1 2 J λK L=>gb .lss 2 true K (gI 0) L λM N=>cV M (gi 260 c f.2.2.2.2.1 N λO P=>dz 264 O 1 2 P λQ R=>gb .sub 2 false f.2.2.2.1 Q R λS T=>gi 260 c f.2.2.2.2.1 T λU V=>qM 264 U 1 2 (gI 0) V λX=>gi 260 c f.2.2.2.2.1 X λY aa=>qM 264 Y 2 4 bT aa λab=>H (S,()) ab) (H (f.2.2.2.1,()) N)) (QC m f h s)) (Ca pQ 196 #[f.1] j λac ad=>nR ac ad λae af ag=>jW (λah=>gE af ag λai aj=>cV ai (ah (bT,()) aj) (gb .neq 2 true ae (gI 0) aj λak al=>ah (ak,()) al)) (Qb d e f c))
def ae5(q:gn 257 false b W λc d=>gb .gtr 3 true c (gI 64) d λe f=>cV e (Z (.tuple #[(.slice none 0 0),(gI 0),(gI 3)]) f) (Ca pQ 199 #[a,b] f λg h=>gt g h λi j=>cV i (Z (.tuple #[(.slice none 0 0),(gI 0),(gI 2)]) j) (gn 257 false b j λk l=>gx (Ak 260 k k) l λm n=>gn 257 false b n λo p=>lG (S:=Value×T4) (OY o b m Z a) ((.slice none 0 0),(.slice none 0 0),(.slice none 0 0),(gI 0),(gI 0),()) p))):Ca pQ 164 #[a,b] W Z:=cj Tryz.func164 q
def QR(a:cG)(b c:Vt_)(d:T2)(e:T2->Wp)(f:T1)(g:Wt_):=NV->cV f.1 (a bF g) (dz 74 b 0 24 g λh i=>gx (ji 347 c h false) i λj k=>g1 j k λl m=>nj pQ (nm 347 c h l) m λn=>g1 d.2.1 n λo p=>e (d.1,o,()) p)
def Qz(a b c d:Vt_)(e:cG)(f:T2)(g:Wt_)(h:T2->Wp):=gc f.2.1 a g λi j=>cV i (uB 95 b f.2.1 74 j λk l=>gv 74 k l λm n=>jW (λo=>gl 74 m n λp q=>Ca pQ 110 #[p] q λr s=>gt r s λt u=>cV t (o (bT,()) u) (dz 74 m 2 4 u λv w=>gb .neq 4 false v c w λx y=>cV x (o (bT,()) y) (dz 74 m 0 24 y λz A=>gx (ji 347 d z false) A λB C=>gb .gtr 3 true B (gI 0) C λD E=>o (D,()) E))) (QR e m d f h)) (e bT j)
def an7(h:gr (Instr.makeMap 347 none) W λc d=>gn 95 false b d λe f=>qB (Qz e b a c Z) (bF,(gI 0),()) f):Ca pQ 216 #[a,b] W Z:=cj Tryz.func216 h
def Sj(a b:Vt_)(c:T3->Wp)(d:T4)(e:Wt_)(f:T4->Wp):=gc d.2.2.2.1 a e λg h=>cV g (uB 95 b d.2.2.2.1 74 h λi j=>gv 74 i j λk l=>dz 74 k 4 2 l λm n=>rn pQ (builtin .min #[2,2] 2 #[false,false] #[d.1,m]) n λo p=>gb .eql 2 true o (gI 0) p λq r=>cV q (c (d.1,d.2.1,d.2.2.1,()) r) (dz 74 k 3 2 r λs t=>gb .sub 2 false d.1 o t λu v=>dz 74 k 0 24 v λw x=>dz 74 k 1 23 x λy z=>gr (Instr.build 286 #[(0,w),(1,y),(2,o)]) z λA B=>gx (jQ 282 1 [(0,A)]) B λC D=>gx (eg #[282,282] 282 [d.2.2.1,C]) D λE F=>g1 d.2.2.2.1 F λG H=>f (u,s,E,G,()) H)) (c (d.1,d.2.1,d.2.2.1,()) h)
def Qu(a:cG)(b:T3)(c:Wt_):=NV->a (.tuple #[b.2.1,b.2.2.1,(gI 0)]) c
def Rn(a:cG)(b c d:Vt_)(e:T1)(f:Wt_):=NV->cV e.1 (a (.tuple #[(gI 0),(.slice none 0 0),(gI 2)]) f) (Ca pQ 48 #[b] f λg h=>Ca pQ 217 #[g,(.func (.func 218) #[] #[c])] h λi j=>dK (S:=T3) (λk=>gn 95 false g j λl m=>qD (Sj l g k) (d,(gI 0),(.slice none 0 0),(gI 0),()) m) (Qu a))
def ab0(u:gq 4 a W λd e=>gn 95 false c e λf g=>gb .gtr 3 true f (gI 50) g λh i=>cV h (Z (.tuple #[(gI 0),(.slice none 0 0),(gI 3)]) i) (jW (λj=>gb .lss 2 true b (gI 1) i λk l=>cV k (j (bT,()) l) (gb .gtr 2 true b (gI 10000000) l λm n=>cV m (j (bT,()) n) (gl 4 d n λo p=>Ca pQ 216 #[o,c] p λq r=>gt q r λs t=>j (s,()) t))) (Rn Z c d b))):Ca pQ 180 #[a,b,c] W Z:=cj Tryz.func180 u
def ao8(r:gq 74 a W λd e=>gq 74 b e λf g=>gl 4 c g λh i=>cV h (dz 74 f 3 2 i λj k=>dz 74 d 3 2 k λl m=>gb .sub 2 false j l m Z) (dz 74 d 3 2 i λn o=>dz 74 f 3 2 o λp q=>gb .sub 2 false n p q Z)):Ca pQ 218 #[a,b,c] W Z:=cj Tryz.func218 r
def PX(a:cG)(b:Vt_)(c:T3)(d:T3->Wp)(e:T1)(f:Wt_):=NV->cV e.1 (a bF f) (dz 290 b 0 23 f λg h=>g1 c.2.2.1 h λi j=>d (c.1,g,i,()) j)
def QB(a b:Vt_)(c:cG)(d:T3)(e:Wt_)(f:T3->Wp):=gc d.2.2.1 a e λg h=>cV g (uB 288 b d.2.2.1 290 h λi j=>gv 290 i j λk l=>jW (λm=>dz 290 k 0 23 l λn o=>gb .leq 23 false n d.2.1 o λp q=>cV p (m (bT,()) q) (dz 290 k 1 2 q λr s=>Ca pQ 108 #[r,(gI 10000000)] s λt u=>gt t u λv w=>m (v,()) w)) (PX c k d f)) (c bT h)
def aj2(h:gn 288 false a W λb c=>qC (QB b a Z) (bF,(gU 0),(gI 0),()) c):Ca pQ 219 #[a] W Z:=cj Tryz.func219 h
def Pu(a b c:Vt_)(d:cG)(e:T2)(f:Wt_)(g:T2->Wp):=gc e.2.1 a f λh i=>cV h (uB 306 b e.2.1 2 i λj k=>gb .gtr 2 true j (gI 0) k λl m=>cV l (gi 288 c e.2.1 m λn o=>dz 290 n 0 23 o λp q=>gr (Instr.build 290 #[(0,p),(1,j)]) q λr s=>gx (jQ 288 1 [(0,r)]) s λt u=>gx (eg #[288,288] 288 [e.1,t]) u λv w=>g1 e.2.1 w λx y=>g (v,x,()) y) (g1 e.2.1 m λz A=>g (e.1,z,()) A)) (d (gT e.1 (gI 0)) i)
def Rc(a b c d:Vt_)(e:cG)(f:T3)(g:Wt_)(h:T3->Wp):=gc f.2.2.1 a g λi j=>cV i (uB 288 b f.2.2.1 290 j λk l=>gv 290 k l λm n=>dz 290 m 1 2 n λo p=>iv pQ (.func (.func 221) #[] #[c,d]) [o] p λq r=>gx (jQ 306 1 [(0,q)]) r λs t=>gx (eg #[306,306] 306 [f.1,s]) t λu v=>dz 290 m 1 2 v λw x=>iv pQ (.func (.func 221) #[] #[c,d]) [w] x λy z=>gb .add 2 false f.2.1 y z λA B=>g1 f.2.2.1 B λC D=>h (u,A,C,()) D) (gl 198 d j λE F=>gl 2 c F λG H=>iv pQ E [G] H λI J=>gb .lss 2 false f.2.1 I J λK L=>cV K (e (gT (.slice none 0 0) (gI 7)) L) (gl 198 d L λM N=>gl 2 c N λO P=>iv pQ M [O] P λQ R=>Ca pQ 200 #[Q,f.1] R λS T=>nR S T λU V X=>gE V X λY aa=>cV Y (e (gT (.slice none 0 0) V) aa) (gn 306 false U aa λab ac=>qB (Pu ab U b e) ((.slice none 0 0),(gI 0),()) ac)))
def Sz(a:cG)(b c:Vt_)(d:T1)(e:Wt_):=NV->cV d.1 (a (gT (.slice none 0 0) (gI 2)) e) (gv 198 (.func (.func 220) #[] #[]) e λf g=>gn 288 false b g λh i=>qC (Rc h b c f a) ((.slice none 0 0),(gI 0),(gI 0),()) i)
def ag6(x:gq 2 a W λc d=>gn 288 false b d λe f=>gb .gtr 3 true e (gI 64) f λg h=>cV g (Z (gT (.slice none 0 0) (gI 3)) h) (jW (λi=>gl 2 c h λj k=>gb .eql 2 true j (gI 0) k λl m=>cV l (i (bT,()) m) (gl 2 c m λn o=>Ca pQ 108 #[n,(gI 10000000)] o λp q=>gt p q λr s=>cV r (i (bT,()) s) (Ca pQ 219 #[b] s λt u=>gt t u λv w=>i (v,()) w))) (Sz Z b c))):Ca pQ 183 #[a,b] W Z:=cj Tryz.func183 x
def ak8(h:gr (Op.unary .neg a) W λb c=>rn pQ (builtin .max #[2,2] 2 #[false,false] #[a,b]) c Z):Ca pQ 220 #[a] W Z:=cj Tryz.func220 h
def ZY(n:gb .gtr 2 true a (gI 0) W λd e=>gl 2 b e λf g=>gb .gtr 2 true f (gI 0) g λh i=>gb .eql 4 false d h i λj k=>cV j (Z (gI 0) k) (gl 198 c k λl m=>iv pQ l [a] m Z)):Ca pQ 221 #[a,b,c] W Z:=cj Tryz.func221 n
end
end Go.Proofs
namespace Go.Proofs
open Go Go.Vc
attribute [local congr] cR
def wz(x:Int):List Value:=[.int .i64 x]
def rT(x:Int):(wz x).length=1:=rfl
def xy(x:Int):(wz x).all (·.oneCell')=true:=rfl
def zU:Tryz.prog.underlying 306=some (.slice 2):=cU
def Uy:lN pQ 2 1 8=true:=cU
def _root_.Go.Vc.Rd.cell{α:Type}{f:α->List Value}(q:∀x,(f x).length=1){w:Wt_}{v:Vt_}{n:Nat}{l:List α}(h:Rd w 1 v n (l.flatMap f))(u:n=l.length){t e:TypeId}(r:Tryz.prog.underlying t=some (.slice e))(y:Tryz.prog.cellsOf e=0+1){i:Nat}(hi:i<l.length){x:Vt_}(s:f l[i]=[x]):
  ∃b a,(∀k:IntKind,(iX t v (.int k (i:Int))).run pQ w=.ok (pt b a) w)/\∃C d fz,hp w b=some (.cells C d fz)/\C[a]? =some x:=by
 obtain⟨b,a,o,c,j,p⟩:=h.item q hi u;obtain⟨C,d,fz,hC,m⟩:=p.get;have g0:=m 0 x (by rw[s];rfl);refine⟨b,a+i*1,λk=>?_,C,d,fz,fy hC,by grind⟩;have g:i<n:=qZ;rw[c];simp[go_sem,g,cS,r,Program.elem,Go.Vc.oK y]
def ae4(x y:Int)(b:0<=x)(a:0<=y)(w:Wt_):(callFunc 235 #[.int .u64 x,gQ y,gQ 0]).run pQ w=.ok (.value (.tuple #[.int .u64 ((x+y)%18446744073709551616),gQ ((x+y) / 18446744073709551616)])) w:=by
 rw[run_callFunc_extern Tryz.func235 cU cU cU (e:=add64Entry) cU,run_add64 x y 0 b a qZ qZ];simp only[Result.andThen,ft]
def tN(l:List Int):Int×Int:=if jl l.sum then(l.sum,0)else(0,6)
def E6{w:Wt_}{K:cG}{s:Vt_}{l:List Int}(h:Rd w 1 s l.length (l.flatMap wz))(V:l.length<=1000000)(J:∀x∈l,jl x)
  (q:K (.tuple #[.int .i64 (tN l).1,gI (tN l).2]) w):Ca pQ 196 #[s] w K:=by
 apply ap5;obtain⟨a,c,M⟩:=h.isSl;apply jm (gI (l.length:Int)) w (by rw[M];simp[go_sem])
 refine eS (λst W=>∃(i:Nat) (d e:Int),i<=l.length/\st=(gQ d,gI e,gI i,())/\W=w/\0<=d/\d<18446744073709551616/\d+18446744073709551616*e=(l.take i).sum/\ -(i:Int)<=e/\e<=(i:Int))
  (λst _=>match st.2.2.1 with| .int _ i=>l.length - i.toNat|_=>0) ⟨0,0,0,qZ,rfl,rfl,qZ,qZ,by simp,by simp,by simp⟩ ?_
 rintro⟨_,_,_,_⟩ W ⟨i,d,e,N,⟨⟩,rfl,H,R,E,S,T⟩ Q A;unfold Rl;intro _;by_cases f:i<l.length
 ·have p:(i:Int)<(l.length:Int):=qZ;refine qSt1 p ?_;obtain⟨b,I,P,C,U,fz,hC,D⟩:=h.cell rT rfl zU cU f rfl;apply cI (P .i64);refine qS2 hC D ?_;have O:=J l[i] (cC f);obtain⟨x,m⟩:=dW (l[i]);rw[<-m]at O|-;obtain⟨u,L⟩:=dW (if x<0 then x+18446744073709551616 else x:Int);have z:0<=u/\u<18446744073709551616:=by grind
  apply cx (gQ u) W (by simp[go_sem];rw[IntKind.wrap_u64,L];split<;>omega);refine⟨?_⟩;apply mB (ae4 d u H z.1 W);refine qS0 ?_;refine qS0 ?_;obtain⟨g,o⟩:=dW (if x<0 then -1 else 0:Int)
  have j:x / 9223372036854775808=g:=by
   rw[o];split<;>omega
  refine qS2 lZ j ?_;obtain⟨t,B⟩:=dW ((d+u) / 18446744073709551616);rw[<-B];apply cx (gI t) W (by simp[go_sem];rw[wI_]);apply cx (gI (g+t)) W (by simp[go_sem];rw[wI_]);apply cx (gI (e+(g+t))) W (by simp[go_sem];rw[wI_]);apply cx (gI ((i+1:Nat):Int)) W (by simp[go_sem];rw[wI_]);refine A _ _ ⟨i+1,(d+u)%18446744073709551616,e+(g+t),qZ,rfl,rfl,qZ,qZ,?_,qZ,qZ⟩ (by grind);rw[eA f,g9,<-E];simp only[di,List.sum_nil,ft];rw[<-m];by_cases G:x<0
  ·grind
  ·grind
 ·obtain rfl:i=l.length:=qZ;refine qSf0 ?_;rw[cN]at E;obtain⟨v,y⟩:=dW (if d<9223372036854775808 then d else d - 18446744073709551616:Int);have n:IntKind.i64.wrap d=v:=by rw[eF,y];split<;>omega
  obtain⟨g,o⟩:=dW (if d<9223372036854775808 then 0 else -1:Int)
  have j:v / 9223372036854775808=g:=by
   rw[o,y];split<;>omega
  refine qS1 n ?_;refine qS2 lZ j ?_
  have F:e=g↔jl l.sum:=by
   by_cases k:d<9223372036854775808
   ·rw[bZ k]at o y;constructor
    ·grind
    ·grind
   ·rw[aZ k]at o y;constructor
    ·grind
    ·grind
  unfold tN at q;by_cases r:e=g
  ·have:decide (e≠g)=false:=by simp[r]
   refine qSf1 r ?_;refine qS1 n ?_;rw[bZ (F.1 r)]at q
   have:v=l.sum:=by
    by_cases k:d<9223372036854775808
    ·grind
    ·grind
   rw[this];exact q
  ·refine qSt1 r ?_;rw[aZ (λh=>r (F.2 h))]at q;exact q
end Go.Proofs
set_option maxRecDepth 100000
namespace Go.Proofs
open Go Go.Vc
section
variable{a b c:Vt_}{W:Wt_}{Z:cG}
def JO(a:T2)(b:Vt_)(c d:T2->Wp)(e:T1)(f:Wt_):=NV->cV e.1 (gb .sub 24 true a.1 (gQ 1) f λg h=>gb .add 24 false a.2.1 b h λi j=>gb .geq 24 true i (gQ 4294967296) j λk l=>cV k (c (g,i,()) l) (d (g,i,()) l)) (c (a.1,a.2.1,()) f)
def AQ(a b c:Vt_)(d:T2->Wp)(e:T2)(f:Wt_)(g:T2->Wp):=NV->jW (λh=>gb .geq 24 true e.1 (gQ 4294967296) f λi j=>cV i (h (bT,()) j) (gb .mul 24 false e.1 a j λk l=>gb .mul 24 true (gQ 4294967296) e.2.1 l λm n=>gb .add 24 false m b n λo p=>gb .gtr 24 false k o p λq r=>h (q,()) r)) (JO e c d g)
def Qf(a:T2)(b c d e:Vt_)(f:cG)(g:T2)(h:Wt_):=NV->gb .mul 24 true a.1 (gQ 4294967296) h λi j=>gb .add 24 false i g.1 j λk l=>gb .mul 24 true b (gQ 4294967296) l λm n=>gb .add 24 false m c n λo p=>gb .mul 24 false g.1 d p λq r=>gb .sub 24 false o q r λs t=>gb .shr 24 false s e t λu v=>f (gT k u) v
def Ql(a b c d e f g:Vt_)(h:cG)(i:T2)(j:Wt_):=NV->gb .mul 24 true a (gQ 4294967296) j λk l=>gb .add 24 false k b l λm n=>gb .mul 24 false i.1 c n λo p=>gb .sub 24 false m o p λq r=>gb .quo 24 false q d r λs t=>gb .mul 24 false s d t λu v=>gb .sub 24 false q u v λw x=>dK (S:=T2) (λy=>qB (AQ e f d y) (s,w,()) x) (Qf i q f c g h)
def Qi(a b c:Vt_)(d:cG)(e:Unit)(f:Wt_):=NV->gb .eql 24 true a (gQ 0) f λg h=>cV g (my .quo 24 false b c λi=>my .rem 24 false b c λj=>d (gT i j) h.drew) (Ca pQ 255 #[c] h λk l=>gr (convert 3 203 k) l λm n=>gb .shl 24 false c m n λo p=>gb .shr 24 true o (gQ 32) p λq r=>gb .and 24 true o (gQ 4294967295) r λs t=>gb .shl 24 false a m t λu v=>gb .sub 203 true (gQ 64) m v λw x=>gb .shr 24 false b w x λy z=>gb .or 24 false u y z λA B=>gb .shl 24 false b m B λC D=>gb .shr 24 true C (gQ 32) D λE F=>gb .and 24 true C (gQ 4294967295) F λG H=>gb .quo 24 false A q H λI J=>gb .mul 24 false I q J λK L=>gb .sub 24 false A K L λM N=>dK (S:=T2) (λO=>qB (AQ s E q O) (I,M,()) N) (Ql A E o q s G m d))
def OF(a b c:Vt_)(d:cG)(e:Unit)(f:Wt_):=NV->dK (S:=Unit) (λg=>gb .leq 24 false a b f λh i=>cV h (gl 356 (pt 1 0) i λj k=>False) (g (()) i)) (Qi b c a d)
def ZB(i:dK (S:=Unit) (λd=>gb .eql 24 true c (gQ 0) W λe f=>cV e (gl 356 (pt 0 0) f λg h=>False) (d (()) f)) (OF c a b Z)):Ca pQ 241 #[a,b,c] W Z:=cj Tryz.func241 i
end
end Go.Proofs
namespace Go.Proofs
open Go Go.Vc Go.Shelf
attribute [local congr] cR
variable {y y1 y0 r0 u R:Nat}
def Tryz.lays264_ren:Ren:=⟨λ|264=>240|n=>n,λ|53=>24|46=>203|n=>n,λ|n=>n⟩
def Tryz.lays264:Lays.n264 pQ Tryz.lays264_ren:=⟨eM,eM,eM,eM,eM,eM,eM,eM,eM,eM⟩
def Tryz.lays134_ren:Ren:=⟨λ|134=>255|129=>193|n=>n,λ|53=>24|3=>3|4=>4|46=>203|5=>5|9=>9|n=>n,λ|n=>n⟩
def Tryz.lays134:Lays.n134 pQ Tryz.lays134_ren:=⟨eM,eM,eM,eM,eM,eM,eM,eM,eM,eM,eM,eM,eM,eM,eM,eM,eM,eM,eM,eM,eM,eM,eM,eM,eM,eM,eM⟩
def OM{x:Nat}(f:x<18446744073709551616)(c:y<18446744073709551616){w:Wt_}{K:cG}(d:K (.tuple #[.int .u64 ((x*y / 18446744073709551616:Nat):Int),gQ ((x*y%18446744073709551616:Nat):Int)]) w):Ca pQ 240 #[.int .u64 (x:Int),gQ (y:Int)] w K:=by
 show Ca pQ (Tryz.lays264_ren.f 264) _ _ _;exact⟨nM (Any.bits_Mul64 Tryz.lays264 x y f c w) λe g ⟨b,a⟩=>⟨_,b,by subst a;exact d⟩⟩
def TQ{x:Nat}(f:x<18446744073709551616){w:Wt_}{K:cG}(d:K (gI (64 - (Lib.bitLen x:Int))) w):Ca pQ 255 #[.int .u64 (x:Int)] w K:=by
 show Ca pQ (Tryz.lays134_ren.f 134) _ _ _;exact⟨nM (Any.bits_LeadingZeros64 Tryz.lays134 (x:Int) w qZ qZ) λe c ⟨a,b⟩=>⟨_,a,by grind⟩⟩
structure IK(y1 y0 r0 u q r:Nat):Prop where
 eq:q*y1+r=r0
 ge:(r0*4294967296+u) / (y1*4294967296+y0)<=q
 le:q<=4294967297
section
variable{y1 y0 r0 u q r:Nat}
def IK.mulE(h:IK y1 y0 r0 u q r):q*(y1*4294967296+y0)=q*y1*4294967296+q*y0:=by
 rw[Nat.mul_add,mN]
def IK.exit(h:IK y1 y0 r0 u q r)(a:0<y1*4294967296+y0)(b:q*y0<=4294967296*r+u):q=(r0*4294967296+u) / (y1*4294967296+y0):=by
 have e:=h.mulE;have c:=h.eq;exact Nat.le_antisymm ((Nat.le_div_iff_mul_le a).2 (by rw[e];omega)) h.ge
def IK.step(h:IK y1 y0 r0 u q r)(c:r0<y1*4294967296+y0)(l:u<4294967296)(f:4294967296<=q\/4294967296*r+u<q*y0):1<=q/\IK y1 y0 r0 u (q - 1) (r+y1)/\q - 1<=4294967296:=by
 have e:=h.mulE;have g:=h.eq;have i:=h.le;have j:(r0*4294967296+u) / (y1*4294967296+y0)<4294967296:=Nat.div_lt_of_lt_mul qZ
 have a:(r0*4294967296+u) / (y1*4294967296+y0)<q:=by
  rcases f with d|d
  ·omega
  ·exact(iR (show 0<y1*4294967296+y0 by omega)).2 (by rw[e];omega)
 have b:1<=q:=jD (nY _) a;obtain⟨k,rfl⟩:∃k,q=k+1:=⟨q - 1,qZ⟩
 refine⟨qZ,⟨?_,by grind,qZ⟩,qZ⟩;rw[je]at g;simp only[Nat.add_sub_cancel];omega
def IK.brk(b:q<=4294967296)(c:4294967296<=r)(a:y0<4294967296):q*y0<=4294967296*r+u:=by
 have:=jE b (Nat.le_of_lt a);omega
def IK.init(d:2147483648<=y1)(g:y0<4294967296)(i:u<4294967296)(b:r0<y1*4294967296+y0):IK y1 y0 r0 u (r0 / y1) (r0 - r0 / y1*y1):=by
 have h:=mE r0 y1;refine⟨qZ,?_,?_⟩
 ·obtain⟨Q,c⟩:=dW ((r0*4294967296+u) / (y1*4294967296+y0));have a:=mE (r0*4294967296+u) (y1*4294967296+y0);rw[<-c]at a|-;have e:Q*(y1*4294967296+y0)=Q*y1*4294967296+Q*y0:=by grind
  rw[e]at a;exact(Nat.le_div_iff_mul_le (show 0<y1 by omega)).2 qZ
 ·have f:r0<4294967298*y1:=qZ;exact Nat.le_of_lt_succ ((iR (show 0<y1 by omega)).2 f)
end
def Ap(n:Nat)(h:n<18446744073709551616):IntKind.u64.wrap (n:Int)=(n:Int):=wU_
def DQ(y1 y0 r0 u:Nat):Nat:=(r0*4294967296+u) / (y1*4294967296+y0)
def aq1(g:2147483648<=y1)(n:y1<4294967296)(f:y0<4294967296)(l:u<4294967296)(e:r0<y1*4294967296+y0){w:Wt_}{J:Value×Value×Unit->World->Prop}
  (m:∀x,J (gQ ((DQ y1 y0 r0 u:Nat):Int),x,()) w):lG (S:=Value×Value×Unit) (AQ (gQ (y0:Int)) (gQ (u:Int)) (gQ (y1:Int)) J) (gQ ((r0 / y1:Nat):Int),gQ ((r0 - r0 / y1*y1:Nat):Int),()) w:=by
 have t:=IK.init g f l e
 have c:r0 - r0 / y1*y1<4294967296:=by
  have s:r0 - r0 / y1*y1=r0%y1:=by rw[Nat.mod_eq_sub_mul_div,fe]
  rw[s];have:=gR r0 (show 0<y1 by omega);omega
 refine eS (λst W=>∃q r:Nat,st=(gQ (q:Int),gQ (r:Int),())/\W=w/\IK y1 y0 r0 u q r/\r<4294967296)
  (λst _=>match st.1 with| .int _ q=>q.toNat|_=>0) ⟨_,_,rfl,rfl,t,c⟩ ?_
 rintro⟨_,_,_⟩ W ⟨q,r,⟨⟩,rfl,k,A⟩ z h;unfold AQ;intro _;refine dK.at (λst b=>st=(.bool (decide (4294967296<=q\/4294967296*r+u<q*y0)),())/\b=W) ?_ ?_
 ·by_cases d:4294967296<=q
  ·have a:(4294967296:Int)<=(q:Int):=qZ;refine qSt1 a ?_;exact⟨by simp[d],rfl⟩
  ·have a:¬(4294967296:Int)<=(q:Int):=qZ;refine qSf1 a ?_;have v:q*y0<18446744073709551616:=jD (jE (show q<=4294967295 by omega) (show y0<=4294967295 by omega)) qZ;apply cx (gQ ((q*y0:Nat):Int)) W (by simp only[go_sem];simp;rw[<-iB,Ap _ v]);apply cx (gQ ((4294967296*r:Nat):Int)) W (by simp only[go_sem];simp;rw[wU_]);apply cx (gQ ((4294967296*r+u:Nat):Int)) W (by simp only[go_sem];simp;rw[wU_]);apply cx (.bool (decide (4294967296*r+u<q*y0))) W (by simp only[go_sem];simp;omega);exact⟨by simp[d],rfl⟩
 rintro _ b ⟨rfl,rfl⟩;unfold JO;intro _;by_cases p:4294967296<=q\/4294967296*r+u<q*y0
 ·rw[qo p];obtain⟨s1,j,y⟩:=k.step e l p;apply cx (gQ ((q - 1:Nat):Int)) b (by simp only[go_sem];simp;rw[wU_];omega);apply cx (gQ ((r+y1:Nat):Int)) b (by simp only[go_sem];simp;rw[wU_]);by_cases i:4294967296<=r+y1
  ·have o:(4294967296:Int)<=((r+y1:Nat):Int):=qZ;apply cx (.bool true) b (by simp only[go_sem];simp;omega);rw[kx];have:=j.exit qZ (IK.brk y i f);rw[this];exact m _
  ·apply cx (.bool false) b (by simp only[go_sem];simp;omega);rw[gP];exact h _ _ ⟨q - 1,r+y1,rfl,rfl,j,qZ⟩ (by grind)
 ·rw[cy,aZ (by grind)];have:=k.exit qZ qZ;rw[this];exact m _
def am5(g:2147483648<=y1)(n:y1<4294967296)(f:y0<4294967296)(l:u<4294967296)(e:r0<y1*4294967296+y0){w:Wt_}{J:Value×Value×Unit->World->Prop}
  (m:∀x,J (gQ ((DQ y1 y0 r0 u:Nat):Int),x,()) w):lG (S:=Value×Value×Unit) (AQ (gQ (y0:Int)) (gQ (u:Int)) (gQ (y1:Int)) J) (gQ ((r0 / y1:Nat):Int),gQ ((r0 - r0 / y1*y1:Nat):Int),()) w:=by
 have t:=IK.init g f l e
 have c:r0 - r0 / y1*y1<4294967296:=by
  have s:r0 - r0 / y1*y1=r0%y1:=by rw[Nat.mod_eq_sub_mul_div,fe]
  rw[s];have:=gR r0 (show 0<y1 by omega);omega
 refine eS (λst W=>∃q r:Nat,st=(gQ (q:Int),gQ (r:Int),())/\W=w/\IK y1 y0 r0 u q r/\r<4294967296)
  (λst _=>match st.1 with| .int _ q=>q.toNat|_=>0) ⟨_,_,rfl,rfl,t,c⟩ ?_
 rintro⟨_,_,_⟩ W ⟨q,r,⟨⟩,rfl,k,A⟩ z h;unfold AQ;intro _;refine dK.at (λst b=>st=(.bool (decide (4294967296<=q\/4294967296*r+u<q*y0)),())/\b=W) ?_ ?_
 ·by_cases d:4294967296<=q
  ·have a:(4294967296:Int)<=(q:Int):=qZ;refine qSt1 a ?_;exact⟨by simp[d],rfl⟩
  ·have a:¬(4294967296:Int)<=(q:Int):=qZ;refine qSf1 a ?_;have v:q*y0<18446744073709551616:=jD (jE (show q<=4294967295 by omega) (show y0<=4294967295 by omega)) qZ;apply cx (gQ ((q*y0:Nat):Int)) W (by simp only[go_sem];simp;rw[<-iB,Ap _ v]);apply cx (gQ ((4294967296*r:Nat):Int)) W (by simp only[go_sem];simp;rw[wU_]);apply cx (gQ ((4294967296*r+u:Nat):Int)) W (by simp only[go_sem];simp;rw[wU_]);apply cx (.bool (decide (4294967296*r+u<q*y0))) W (by simp only[go_sem];simp;omega);exact⟨by simp[d],rfl⟩
 rintro _ b ⟨rfl,rfl⟩;unfold JO;intro _;by_cases p:4294967296<=q\/4294967296*r+u<q*y0
 ·rw[qo p];obtain⟨s1,j,y⟩:=k.step e l p;apply cx (gQ ((q - 1:Nat):Int)) b (by simp only[go_sem];simp;rw[wU_];omega);apply cx (gQ ((r+y1:Nat):Int)) b (by simp only[go_sem];simp;rw[wU_]);by_cases i:4294967296<=r+y1
  ·have o:(4294967296:Int)<=((r+y1:Nat):Int):=qZ;apply cx (.bool true) b (by simp only[go_sem];simp;omega);rw[kx];have:=j.exit qZ (IK.brk y i f);rw[this];exact m _
  ·apply cx (.bool false) b (by simp only[go_sem];simp;omega);rw[gP];exact h _ _ ⟨q - 1,r+y1,rfl,rfl,j,qZ⟩ (by grind)
 ·rw[cy,aZ (by grind)];have:=k.exit qZ qZ;rw[this];exact m _
def Lz(b:u<4294967296)(a:r0<y1*4294967296+y0):DQ y1 y0 r0 u<4294967296:=by
 unfold DQ;exact(iR (show 0<y1*4294967296+y0 by omega)).2 qZ
def Lm(a:r0<y1*4294967296+y0):∃r,r0*4294967296+u=DQ y1 y0 r0 u*(y1*4294967296+y0)+r/\r<y1*4294967296+y0:=by
 refine⟨(r0*4294967296+u)%(y1*4294967296+y0),?_,gR _ qZ⟩;unfold DQ;have:=ie (r0*4294967296+u) (y1*4294967296+y0);rw[fe]at this;exact this.symm
def XB{N p Q:Nat}(hp:0<p)(h:N*p=Q*(y*p)+R)(b:R<y*p):N / y=Q/\N%y=R / p:=by
 have d:Q*(y*p)=Q*y*p:=by rw[mN]
 rw[d]at h;have e:Q*y<=N:=Nat.le_of_mul_le_mul_right qZ hp;obtain⟨t,rfl⟩:∃t,N=Q*y+t:=⟨N - Q*y,qZ⟩
 rw[im]at h;have a:R=t*p:=qZ;rw[a]at b|-;have c:t<y:=Nat.lt_of_mul_lt_mul_right b;rw[Nat.mul_div_cancel _ hp];constructor
 ·rw[jf,Nat.add_mul_div_right _ _ qZ,Nat.div_eq_of_lt c,eU]
 ·rw[jf,Nat.add_mul_mod_self_right,iM c]
def Un{hi lo s:Nat}(i:hi<y)(c:lo<18446744073709551616)(k:s<=64)(d:y*2 ^ s<18446744073709551616):
  (hi*18446744073709551616+lo)*2 ^ s=(hi*2 ^ s+lo / 2 ^ (64 - s))*18446744073709551616+lo*2 ^ s%18446744073709551616/\hi*2 ^ s+lo / 2 ^ (64 - s)<y*2 ^ s/\lo / 2 ^ (64 - s)<2 ^ s/\hi*2 ^ s<18446744073709551616:=by
 have hp:0<2 ^ s:=oI s
 have e:(18446744073709551616:Nat)=2 ^ (64 - s)*2 ^ s:=by
  rw[<-qh,show 64 - s+s=64 by omega]
 have h:lo*2 ^ s / 18446744073709551616=lo / 2 ^ (64 - s):=by
  conv=>lhs;rw[e]
  exact Nat.mul_div_mul_right _ _ hp
 have f:=ie (lo*2 ^ s) 18446744073709551616;rw[h]at f;obtain⟨p,a⟩:=dW (2 ^ s);obtain⟨q,b⟩:=dW (lo / 2 ^ (64 - s))
 have g:q<p:=by
  rw[b,a];apply(iR (oI _)).2;rw[fe,<-e];exact c
 rw[<-a,<-b]at f;rw[<-a]at d hp;rw[<-a,<-b];have j:(hi+1)*p<=y*p:=dM p i;rw[je]at j;refine⟨?_,qZ,g,qZ⟩;rw[im,Nat.mul_right_comm];omega
def aa2(s:Nat):((2:Int) ^ s)=((2 ^ s:Nat):Int):=by grind
def aw9{B U Z b d a a0 c:Nat}(f:U*B+b=a+c)(g:c*B+d=a0+R)(h:b*B+d=Z):U*(B*B)+Z=a*B+a0+R:=by
 have e:=fC (·*B) f;simp only[im]at e;rw[<-mN];omega
def af1{U Z a a0 b:Nat}(d:U*4294967296+Z / 4294967296=a+b)(c:b*4294967296+Z%4294967296=a0+R):U*18446744073709551616+Z=a*4294967296+a0+R:=
 aw9 (B:=4294967296) d c (qK Z 4294967296)
def PO{hi lo:Nat}(hy:hi<y)(J:y<18446744073709551616)(m:lo<18446744073709551616){w:Wt_}{K:cG}
  (hK:∀w',M0 w w' ->K (.tuple #[.int .u64 (((hi*18446744073709551616+lo) / y:Nat):Int),gQ (((hi*18446744073709551616+lo)%y:Nat):Int)]) w'):Ca pQ 241 #[.int .u64 (hi:Int),gQ (lo:Int),gQ (y:Int)] w K:=by
 apply ZB;refine dK.at (λ_ W=>W=w) ?_ ?_
 ·have h1:¬y=0:=qZ;apply qSv1 (.bool false) h1;rw[gP]
 rintro _ W rfl;unfold OF;intro _;refine dK.at (λ_ b=>b=W) ?_ ?_
 ·have h1:¬y<=hi:=qZ;apply qSv1 (.bool false) h1;rw[gP]
 rintro _ b rfl;unfold Qi;intro _;by_cases h0:hi=0
 ·subst h0;apply qSv0 (.bool true);rw[kx];have i:¬y=0:=qZ;have hq:lo / y<18446744073709551616:=jD (oS _ _) m;apply dX (gQ ((lo / y:Nat):Int)) (λ_=>by simp only[go_sem];simp[i];rw[<-nV,Ap _ hq]);apply dX (gQ ((lo%y:Nat):Int)) (λ_=>by simp only[go_sem];simp[i];rw[kv qZ]);have C:=hK b.drew (de.refl _ _).drew;rw[nv,eU]at C;exact C
 apply qSv1 (.bool false) h0;rw[gP];apply TQ J;obtain⟨b1,b2,b3⟩:=Lib.bitLenAux_bounds 64 y J qZ
 have hL:Lib.bitLenAux 64 y<=64:=by
  apply dU;intro hc;have:2 ^ 64<=2 ^ (Lib.bitLenAux 64 y - 1):=lS qZ qZ;omega
 have z:Lib.bitLen y=Lib.bitLenAux 64 y:=rfl;rw[z];obtain⟨s,hs⟩:=dW (64 - Lib.bitLenAux 64 y);have A:(64 - (Lib.bitLenAux 64 y:Int))=(s:Int):=qZ;rw[A];have N:s<64:=qZ
 have d:9223372036854775808<=y*2 ^ s/\y*2 ^ s<18446744073709551616:=by
  have e1:2 ^ (Lib.bitLenAux 64 y - 1)*2 ^ s=9223372036854775808:=by rw[<-qh,show Lib.bitLenAux 64 y - 1+s=63 by omega]
  have e2:2 ^ Lib.bitLenAux 64 y*2 ^ s=18446744073709551616:=by rw[<-qh,show Lib.bitLenAux 64 y+s=64 by omega]
  exact⟨by rw[<-e1];exact dM _ b2,by rw[<-e2];exact Nat.mul_lt_mul_of_pos_right b3 (oI s)⟩
 clear b1 b2 b3 hL z A hs;obtain⟨Q,t,u3,V⟩:=Un hy m (Nat.le_of_lt N) d.2;obtain⟨p,hp⟩:=dW (2 ^ s);have hpp:0<p:=by rw[hp];exact oI s
 obtain⟨Y,D⟩:=dW (y*p);obtain⟨H,E⟩:=dW (hi*p);obtain⟨X,v⟩:=dW (lo / 2 ^ (64 - s));obtain⟨Z,hZ⟩:=dW (lo*p%18446744073709551616);rw[<-hp,<-v,<-E,<-hZ]at Q;rw[<-hp,<-v,<-E,<-D]at t;rw[<-hp,<-v]at u3;rw[<-hp,<-E]at V;rw[<-hp,<-D]at d;have c:min s 64=s:=qZ;have g:((2:Int) ^ s)=(p:Int):=by rw[aa2,hp]
 apply cx (gQ (s:Int)) b (by simp[go_sem];rw[wU_]);apply cx (gQ (Y:Int)) b (by simp only[go_sem];simp[c];rw[g,<-iB,<-D,Ap _ d.2]);obtain⟨a,hy1⟩:=dW (Y / 4294967296);obtain⟨r,i⟩:=dW (Y%4294967296);have h:Y=a*4294967296+r:=qZ;apply cx (gQ (a:Int)) b (by simp[go_sem];omega);apply cx (gQ (r:Int)) b (by simp only[go_sem];simp;rw[Mul64.maskN Y d.2,i]);apply cx (gQ (H:Int)) b (by simp only[go_sem];simp[c];rw[g,<-iB,<-E,Ap _ V]);apply cx (gQ ((64 - s:Nat):Int)) b (by simp only[go_sem];simp;rw[wU_];omega);have l:min (64 - s) 64=64 - s:=qZ;apply cx (gQ (X:Int)) b (by simp only[go_sem];simp[l];rw[aa2,<-nV,<-v])
 have hor:H|||X=H+X:=by
  rw[E,hp,<-Nat.shiftLeft_eq,<-Nat.shiftLeft_add_eq_or_of_lt (by rw[<-hp];exact u3)]
 have hXM:X<18446744073709551616:=jD (by rw[v];exact oS _ _) m;apply cx (gQ ((H+X:Nat):Int)) b (by simp only[go_sem];simp;rw[bits_or_u64_nat H X V hXM,hor];simp);apply cx (gQ (Z:Int)) b (by simp only[go_sem];simp[c];rw[g,<-iB,IntKind.wrap_u64,hZ];omega);have hZM:Z<18446744073709551616:=by rw[hZ];exact gR _ qZ
 apply qSv0 (gQ ((Z / 4294967296:Nat):Int));apply cx (gQ ((Z%4294967296:Nat):Int)) b (by simp only[go_sem];simp;rw[Mul64.maskN Z hZM];simp);obtain⟨U,hU⟩:=dW (H+X);rw[<-hU]at Q t|-;have j:¬a=0:=qZ;have e:2147483648<=a/\a<4294967296:=qZ;have G:U / a<18446744073709551616:=jD (oS _ _) qZ;have hUm:=mE U a;apply cx (gQ ((U / a:Nat):Int)) b (by simp only[go_sem];simp[j];rw[<-nV,Ap _ G]);obtain⟨m1,o⟩:=dW (U / a*a);rw[<-o]at hUm;apply cx (gQ (m1:Int)) b (by simp[-Int.natCast_ediv,go_sem];rw[<-iB,<-o,Ap _ qZ]);apply cx (gQ ((U - m1:Nat):Int)) b (by simp[go_sem];rw[wU_];omega);rw[o];have L:Z / 4294967296<4294967296:=qZ;have F:Z%4294967296<4294967296:=qZ;rw[h]at t;refine dK.at (λst W=>∃x,st=(gQ ((DQ a r U (Z / 4294967296):Nat):Int),x,())/\W=b) ?_ ?_
 ·exact aq1 e.1 e.2 qZ L t λx=>⟨x,rfl,rfl⟩
 rintro _ W ⟨x,rfl,rfl⟩;unfold Ql;intro _;obtain⟨f,d1,d2⟩:=Lm (u:=Z / 4294967296) t;have dl:=Lz L t;obtain⟨M,hq1⟩:=dW (DQ a r U (Z / 4294967296));rw[<-hq1]at d1 dl|-;rw[<-h]at d1 d2;obtain⟨a1,k⟩:=dW (M*Y);rw[<-k]at d1;apply cx (gQ ((U*4294967296%18446744073709551616:Nat):Int)) W (by simp[go_sem];rw[IntKind.wrap_u64]);apply cx (gQ (((U*4294967296+Z / 4294967296)%18446744073709551616:Nat):Int)) W (by simp[go_sem];rw[IntKind.wrap_u64];omega);apply cx (gQ ((a1%18446744073709551616:Nat):Int)) W (by simp[go_sem];rw[<-iB,<-k,IntKind.wrap_u64]);apply cx (gQ (f:Int)) W (by simp[go_sem];rw[IntKind.wrap_u64];omega);have B:f / a<18446744073709551616:=jD (oS _ _) qZ;have S:=mE f a;apply cx (gQ ((f / a:Nat):Int)) W (by simp[go_sem,j];rw[<-nV,Ap _ B]);obtain⟨m2,n⟩:=dW (f / a*a);rw[<-n]at S;apply cx (gQ (m2:Int)) W (by simp[-Int.natCast_ediv,go_sem];rw[<-iB,<-n,Ap _ qZ]);apply cx (gQ ((f - m2:Nat):Int)) W (by simp[go_sem];rw[wU_];omega);rw[n];rw[h]at d2;refine dK.at (λst b=>∃x,st=(gQ ((DQ a r f (Z%4294967296):Nat):Int),x,())/\b=W) ?_ ?_
 ·exact am5 e.1 e.2 qZ F d2 λx=>⟨x,rfl,rfl⟩
 rintro _ W ⟨x,rfl,rfl⟩;unfold Qf;intro _;obtain⟨R,O,f2⟩:=Lm (u:=Z%4294967296) d2;have P:=Lz F d2;obtain⟨q0,T⟩:=dW (DQ a r f (Z%4294967296));rw[<-T]at O P|-;rw[<-h]at O f2;obtain⟨a0,q⟩:=dW (q0*Y);rw[<-q]at O;apply cx (gQ ((M*4294967296:Nat):Int)) W (by simp[go_sem];rw[wU_]);apply cx (gQ ((M*4294967296+q0:Nat):Int)) W (by simp[go_sem];rw[wU_]);apply cx (gQ ((f*4294967296%18446744073709551616:Nat):Int)) W (by simp[go_sem];rw[IntKind.wrap_u64]);apply cx (gQ (((f*4294967296+Z%4294967296)%18446744073709551616:Nat):Int)) W (by simp[go_sem];rw[IntKind.wrap_u64];omega);apply cx (gQ ((a0%18446744073709551616:Nat):Int)) W (by simp[go_sem];rw[<-iB,<-q,IntKind.wrap_u64]);apply cx (gQ (R:Int)) W (by simp[go_sem];rw[IntKind.wrap_u64];omega);apply cx (gQ ((R / p:Nat):Int)) W (by simp[go_sem,c];rw[g])
 have I:(hi*18446744073709551616+lo)*p=(M*4294967296+q0)*(y*p)+R:=by
  rw[Q,<-D,im,<-q];have:M*4294967296*Y=a1*4294967296:=by rw[k,Nat.mul_right_comm]
  rw[this];exact af1 d1 O
 obtain⟨g1,g2⟩:=XB hpp I (by rw[<-D];exact f2);have C:=hK W lX;rw[g1,g2]at C;exact C
end Go.Proofs
namespace Go.Srt
open Go.Vc Go.Proofs
section
variable{α:Type}(lt:α->α->Bool)
def swp(l:List α)(i j:Nat):List α:=match l[i]?,l[j]? with|some x,some y=>(l.set i y).set j x|_,_=>l
def ltAt(l:List α)(i j:Nat):Bool:=match l[i]?,l[j]? with|some x,some y=>lt x y|_,_=>false
def swp_eq{l:List α}{i j:Nat}(hi:i<l.length)(a:j<l.length):swp l i j=(l.set i l[j]).set j l[i]:=by
 unfold swp;rw[cE hi,cE a]
def ltAt_eq{l:List α}{i j:Nat}(hi:i<l.length)(a:j<l.length):ltAt lt l i j=lt l[i] l[j]:=by
 unfold ltAt;rw[cE hi,cE a]
def swp_perm(l:List α)(i j:Nat):(swp l i j).Perm l:=by
 by_cases b:i<l.length
 ·by_cases a:j<l.length
  ·rw[swp_eq b a];have h:=Array.swap_perm (xs:=l.toArray) (i:=i) (j:=j) (by simpa using b) (by simpa using a);have c:=Array.perm_iff_toList_perm.1 h;simpa [Array.swap_def]using c
  ·unfold swp;rw[ky (nW a)];split<;>simp_all
 ·unfold swp;rw[ky (nW b)]
def insIn(a:Nat):Nat->List α->List α
 |0,l=>l
 |j+1,l=>if a<j+1/\ltAt lt l (j+1) j=true then insIn a j (swp l (j+1) j)else l
def insFrom(a:Nat):Nat->Nat->List α->List α
 |_,0,l=>l
 |i,k+1,l=>insFrom a (i+1) k (insIn lt a i l)
def insSort(a b:Nat)(l:List α):List α:=insFrom lt a (a+1) (b - (a+1)) l
def bsG(p:Nat->Bool)(i j:Nat):Nat:=if i<j then(if p ((i+j) / 2)=true then bsG p ((i+j) / 2+1) j else bsG p i ((i+j) / 2))else i
 termination_by j - i
 decreasing_by all_goals omega
def mvUp(l:List α)(k e:Nat):List α:=if k<e then mvUp (swp l k (k+1)) (k+1) e else l
 termination_by e - k
def mvDn(l:List α)(k i:Nat):List α:=if i<k then mvDn (swp l k (k - 1)) (k - 1) i else l
 termination_by k - i
def swR(l:List α)(a b i n:Nat):List α:=if i<n then swR (swp l (a+i) (b+i)) a b (i+1) n else l
 termination_by n - i
def rot(m:Nat)(l:List α)(i j:Nat):List α:=
 if i≠j/\0<i/\0<j then(if j<i then rot m (swR l (m - i) m 0 j) (i - j) j else rot m (swR l (m - i) (m+j - i) 0 i) i (j - i))else swR l (m - i) m 0 i
 termination_by i+j
 decreasing_by all_goals omega
def stOf(l:List α)(a m b:Nat):Nat:=
 if(a+b) / 2<m then bsG (λc=> !ltAt lt l ((a+b) / 2+m - 1 - c) c) ((a+b) / 2+m - b) ((a+b) / 2)else bsG (λc=> !ltAt lt l ((a+b) / 2+m - 1 - c) c) a m
def symM(a m b:Nat)(l:List α):List α:=
 if m - a=1 then mvUp l a (bsG (λh=>ltAt lt l h a) m b - 1)
 else if b - m=1 then mvDn l m (bsG (λh=> !ltAt lt l m h) a m)
 else
  let st:=stOf lt l a m b;let en:=(a+b) / 2+m - st;let l1:=if st<m/\m<en then rot m l (m - st) (en - m)else l
  let l2:=if h:a<st/\st<(a+b) / 2 then symM a st ((a+b) / 2) l1 else l1
  if h:(a+b) / 2<en/\en<b/\a<(a+b) / 2 then symM ((a+b) / 2) en b l2 else l2
 termination_by b - a
 decreasing_by all_goals omega
def blk(n:Nat)(a b:Nat)(l:List α):List α:=if b<=n then blk n b (b+20) (insSort lt a b l)else insSort lt a n l
 termination_by n+1 - b
def mrgPass(bs n a b:Nat)(l:List α):List α:=
 if b<=n/\0<bs then mrgPass bs n b (b+2*bs) (symM lt a (a+bs) b l)else if a+bs<n then symM lt a (a+bs) n l else l
 termination_by n+1 - b
 decreasing_by all_goals omega
def mrg(n bs:Nat)(l:List α):List α:=if bs<n/\0<bs then mrg n (bs*2) (mrgPass lt bs n 0 (2*bs) l)else l
 termination_by n - bs
 decreasing_by all_goals omega
def stable(l:List α):List α:=mrg lt l.length 20 (blk lt l.length 0 20 l)
def insIn_perm(a:Nat):∀(j:Nat) (l:List α),(insIn lt a j l).Perm l
 |0,l=>fw _
 |j+1,l=>by
  unfold insIn;split
  ·exact(insIn_perm a j _).trans (swp_perm _ _ _)
  ·exact fw _
def insFrom_perm(a:Nat):∀(k i:Nat) (l:List α),(insFrom lt a i k l).Perm l
 |0,i,l=>fw _
 |k+1,i,l=>(insFrom_perm a k (i+1) _).trans (insIn_perm lt a i l)
def mvUp_perm(l:List α)(k e:Nat):(mvUp l k e).Perm l:=by
 rw[mvUp];split
 ·exact(mvUp_perm _ _ _).trans (swp_perm _ _ _)
 ·exact fw _
 termination_by e - k
def mvDn_perm(l:List α)(k i:Nat):(mvDn l k i).Perm l:=by
 rw[mvDn];split
 ·exact(mvDn_perm _ _ _).trans (swp_perm _ _ _)
 ·exact fw _
 termination_by k - i
def swR_perm(l:List α)(a b i n:Nat):(swR l a b i n).Perm l:=by
 rw[swR];split
 ·exact(swR_perm _ _ _ _ _).trans (swp_perm _ _ _)
 ·exact fw _
 termination_by n - i
def rot_perm(m:Nat)(l:List α)(i j:Nat):(rot m l i j).Perm l:=by
 rw[rot];split
 ·split
  ·exact(rot_perm _ _ _ _).trans (swR_perm _ _ _ _ _)
  ·exact(rot_perm _ _ _ _).trans (swR_perm _ _ _ _ _)
 ·exact swR_perm _ _ _ _ _
 termination_by i+j
 decreasing_by all_goals omega
def symM_perm(a m b:Nat)(l:List α):(symM lt a m b l).Perm l:=by
 rw[symM];split
 ·exact mvUp_perm _ _ _
 split
 ·exact mvDn_perm _ _ _
 have e:(if stOf lt l a m b<m/\m<(a+b) / 2+m - stOf lt l a m b then rot m l (m - stOf lt l a m b) ((a+b) / 2+m - stOf lt l a m b - m)else l).Perm l:=by
  split
  ·exact rot_perm _ _ _ _
  ·exact fw _
 simp only;generalize(if stOf lt l a m b<m/\m<(a+b) / 2+m - stOf lt l a m b then rot m l (m - stOf lt l a m b) ((a+b) / 2+m - stOf lt l a m b - m)else l)=c at e|-
 have d:(if h:a<stOf lt l a m b/\stOf lt l a m b<(a+b) / 2 then symM lt a (stOf lt l a m b) ((a+b) / 2) c else c).Perm l:=by
  split
  ·exact(symM_perm _ _ _ _).trans e
  ·exact e
 generalize(if h:a<stOf lt l a m b/\stOf lt l a m b<(a+b) / 2 then symM lt a (stOf lt l a m b) ((a+b) / 2) c else c)=f at d|-;split
 ·exact(symM_perm _ _ _ _).trans d
 ·exact d
 termination_by b - a
 decreasing_by all_goals omega
def blk_perm(n a b:Nat)(l:List α):(blk lt n a b l).Perm l:=by
 rw[blk];split
 ·exact(blk_perm _ _ _ _).trans (insFrom_perm _ _ _ _ _)
 ·exact insFrom_perm _ _ _ _ _
 termination_by n+1 - b
def mrgPass_perm(c n a b:Nat)(l:List α):(mrgPass lt c n a b l).Perm l:=by
 rw[mrgPass];split
 ·exact(mrgPass_perm _ _ _ _ _).trans (symM_perm _ _ _ _ _)
 ·split
  ·exact symM_perm _ _ _ _ _
  ·exact fw _
 termination_by n+1 - b
 decreasing_by all_goals omega
def mrg_perm(n a:Nat)(l:List α):(mrg lt n a l).Perm l:=by
 rw[mrg];split
 ·exact(mrg_perm _ _ _).trans (mrgPass_perm _ _ _ _ _ _)
 ·exact fw _
 termination_by n - a
 decreasing_by all_goals omega
def stable_perm(l:List α):(stable lt l).Perm l:=(mrg_perm _ _ _ _).trans (blk_perm _ _ _ _ _)
def bsG_go{p:Nat->Bool}{i j:Nat}(h:i<j):bsG p i j=if p ((i+j) / 2)=true then bsG p ((i+j) / 2+1) j else bsG p i ((i+j) / 2):=by
 conv=>lhs;rw[bsG]
 rw[bZ h]
def bsG_end{p:Nat->Bool}{i j:Nat}(h:¬i<j):bsG p i j=i:=by
 rw[bsG,aZ h]
end
end Go.Srt
namespace Go.Proofs
open Go Go.Vc Go.Srt
attribute [local congr] cR
variable {x y:Nat}
def Hm(W:Wt_)(c:y<=x)(a:x<=1000000)(b:Bool):(qE .sub 3 b (gI (x:Int)) (gI (y:Int))).run pQ W=.ok (gI ((x - y:Nat):Int)) W:=by
 simp[go_sem];rw[wI_];omega
def AG(W:Wt_)(a:x+y<=10000000)(b:Bool):(qE .add 3 b (gI (x:Int)) (gI (y:Int))).run pQ W=.ok (gI ((x+y:Nat):Int)) W:=by
 simp[go_sem];rw[wI_]
def BO(W:Wt_)(b:Bool):(qE .lss 3 b (gI (x:Int)) (gI (y:Int))).run pQ W=.ok (.bool (decide (x<y))) W:=by
 simp[go_sem]
def WC(W:Wt_):(qE .eql 3 true (gI (x:Int)) (gI 1)).run pQ W=.ok (.bool (decide (x=1))) W:=by
 by_cases h:x=1
 ·subst h;simp[go_sem]
 ·have a:¬(x:Int)=1:=qZ;simp[go_sem,h,a]
def Ks{i j:Nat}(h:i<j)(a:j<=1000000)(w:Wt_):∃x,(convert 3 203 (gI ((i+j:Nat):Int))).run pQ w=.ok x w/\∃y,(qE .shr 203 true x (gQ 1)).run pQ w=.ok y w/\(convert 203 3 y).run pQ w=.ok (gI (((i+j) / 2:Nat):Int)) w:=by
 have:=UI h a w
 rwa[<-iT]at this
def ZE(W:Wt_)(b:Bool):(qE .leq 3 b (gI (x:Int)) (gI (y:Int))).run pQ W=.ok (.bool (decide (x<=y))) W:=by
 simp[go_sem]
def U6(W:Wt_)(h:x<=1000000):(qE .mul 3 true (gI 2) (gI (x:Int))).run pQ W=.ok (gI ((2*x:Nat):Int)) W:=by
 simp[go_sem];rw[wI_]
def XQ(W:Wt_)(h:x<=1000000):(qE .mul 3 true (gI (x:Int)) (gI 2)).run pQ W=.ok (gI ((x*2:Nat):Int)) W:=by
 simp[go_sem];rw[wI_]
end Go.Proofs
set_option maxRecDepth 100000
namespace Go.Proofs
open Go Go.Vc
variable {a0 a b c d:Vt_}{w:Wt_}{K:cG}
structure pe where
 ts:TypeId
 te:TypeId
 ins:FuncId
 swR:FuncId
 rot:FuncId
 sym:FuncId
 stab:FuncId
abbrev HM:pe:=⟨307,3,263,270,267,264,256⟩
abbrev HV:pe:=⟨95,74,260,269,266,261,249⟩
def LQ(T:pe)(a:T1)(b:Vt_)(c:T1->Wp)(d:T1)(e:T1->Wp)(f:T1)(g:Wt_):=NV->cV f.1 (my .sub 3 true a.1 (gI 1) λh=>my .sub 3 true a.1 (gI 1) λi=>mf T.ts b i λj=>eP T.te j g.drew λk=>mf T.ts b a.1 λl=>eP T.te l g.drew λm=>mf T.ts b a.1 λn=>gs T.te n k g.drew λo=>mf T.ts b h λp=>gs T.te p m o λq=>gb .sub 3 true a.1 (gI 1) q λr s=>c (r,()) s) (gb .add 3 true d.1 (gI 1) g λt u=>e (t,()) u)
def KI(T:pe)(a b c:Vt_)(d:T1)(e:T1->Wp)(f:T1)(g:Wt_)(h:T1->Wp):=NV->dK (S:=T1) (λi=>my .gtr 3 false f.1 a λj=>cV j (mf T.ts b f.1 λk=>eP T.te k g.drew λl=>my .sub 3 true f.1 (gI 1) λm=>mf T.ts b m λn=>eP T.te n g.drew λo=>iv pQ c [l,o] g.drew λp q=>my .lss 3 true p (gI 0) λr=>i (r,()) q) (i ((.bool false),()) g.drew)) (LQ T f b h d e)
def Ko(T:pe)(a b c d:Vt_)(e:cG)(f:T1)(g:Wt_)(h:T1->Wp):=NV->gb .lss 3 false f.1 a g λi j=>cV i (lG (S:=T1) (KI T b c d f h) (f.1,()) j) (e (.tuple #[]) j)
def KG(T:pe)(a b c d:Vt_)(e:Wt_)(f:cG):=gb .add 3 true b (gI 1) e λg h=>lG (S:=T1) (Ko T c b a d f) (g,()) h
def Lo(T:pe)(a b c d:Vt_)(e:cG)(f:T1)(g:Wt_)(h:T1->Wp):=NV->gb .lss 3 false f.1 a g λi j=>cV i (my .add 3 false b f.1 λk=>my .add 3 false c f.1 λl=>my .add 3 false c f.1 λm=>mf T.ts d m λn=>eP T.te n j.drew λo=>my .add 3 false b f.1 λp=>mf T.ts d p λq=>eP T.te q j.drew λr=>mf T.ts d k λs=>gs T.te s o j.drew λt=>mf T.ts d l λu=>gs T.te u r t λv=>gb .add 3 true f.1 (gI 1) v λw x=>h (w,()) x) (e (.tuple #[]) j)
def KR(T:pe)(a b c d e:Vt_)(f:Wt_)(g:cG):=lG (S:=T1) (Lo T d b c a g) ((gI 0),()) f
def K8(T:pe)(a b c:Vt_)(d:cG)(e:T2)(f:Wt_)(g:T2->Wp):=NV->gb .neq 3 false e.1 e.2.1 f λh i=>cV h (gb .gtr 3 false e.1 e.2.1 i λj k=>cV j (gb .sub 3 false a e.1 k λl m=>Ca pQ T.swR #[b,l,a,e.2.1,c] m λn o=>gb .sub 3 false e.1 e.2.1 o λp q=>g (p,e.2.1,()) q) (gb .sub 3 false a e.1 k λr s=>gb .add 3 false a e.2.1 s λt u=>gb .sub 3 false t e.1 u λv w=>Ca pQ T.swR #[b,r,v,e.1,c] w λx y=>gb .sub 3 false e.2.1 e.1 y λz A=>g (e.1,z,()) A)) (gb .sub 3 false a e.1 i λB C=>Ca pQ T.swR #[b,B,a,e.1,c] C λD E=>d (.tuple #[]) E)
def Kt(T:pe)(a b c d e:Vt_)(f:Wt_)(g:cG):=gb .sub 3 false c b f λh i=>gb .sub 3 false d c i λj k=>lG (S:=T2) (K8 T c a e g) (h,j,()) k
def Fb(T:pe)(a:T2)(b:Vt_)(c:cG)(d:T1)(e:Wt_)(f:T1->Wp):=NV->gb .sub 3 true a.1 (gI 1) e λg h=>gb .lss 3 false d.1 g h λi j=>cV i (my .add 3 true d.1 (gI 1) λk=>my .add 3 true d.1 (gI 1) λl=>mf T.ts b l λm=>eP T.te m j.drew λn=>mf T.ts b d.1 λo=>eP T.te o j.drew λp=>mf T.ts b d.1 λq=>gs T.te q n j.drew λr=>mf T.ts b k λs=>gs T.te s p r λt=>gb .add 3 true d.1 (gI 1) t λu v=>f (u,()) v) (c (.tuple #[]) j)
def Lt(T:pe)(a b c:Vt_)(d:cG)(e:T2)(f:Wt_)(g:T2->Wp):=NV->gb .lss 3 false e.1 e.2.1 f λh i=>cV h (gb .add 3 false e.1 e.2.1 i λj k=>gr (convert 3 203 j) k λl m=>gb .shr 203 true l (gQ 1) m λn o=>gr (convert 203 3 n) o λp q=>mf T.ts a p λr=>eP T.te r q.drew λs=>mf T.ts a b λt=>eP T.te t q.drew λu=>iv pQ c [s,u] q.drew λv w=>my .lss 3 true v (gI 0) λx=>cV x (gb .add 3 true p (gI 1) w λy z=>g (y,e.2.1,()) z) (g (e.1,p,()) w)) (lG (S:=T1) (Fb T e a d) (b,()) i)
def Gp(T:pe)(a:T2)(b:Vt_)(c:cG)(d:T1)(e:Wt_)(f:T1->Wp):=NV->gb .gtr 3 false d.1 a.1 e λg h=>cV g (my .sub 3 true d.1 (gI 1) λi=>my .sub 3 true d.1 (gI 1) λj=>mf T.ts b j λk=>eP T.te k h.drew λl=>mf T.ts b d.1 λm=>eP T.te m h.drew λn=>mf T.ts b d.1 λo=>gs T.te o l h.drew λp=>mf T.ts b i λq=>gs T.te q n p λr=>gb .sub 3 true d.1 (gI 1) r λs t=>f (s,()) t) (c (.tuple #[]) h)
def Lr(T:pe)(a b c:Vt_)(d:cG)(e:T2)(f:Wt_)(g:T2->Wp):=NV->gb .lss 3 false e.1 e.2.1 f λh i=>cV h (gb .add 3 false e.1 e.2.1 i λj k=>gr (convert 3 203 j) k λl m=>gb .shr 203 true l (gQ 1) m λn o=>gr (convert 203 3 n) o λp q=>mf T.ts a b λr=>eP T.te r q.drew λs=>mf T.ts a p λt=>eP T.te t q.drew λu=>iv pQ c [s,u] q.drew λv w=>my .lss 3 true v (gI 0) λx=>gp (Op.unary .not x) λy=>cV y (gb .add 3 true p (gI 1) w λz A=>g (z,e.2.1,()) A) (g (e.1,p,()) w)) (lG (S:=T1) (Gp T e a d) (b,()) i)
def Kx(T:pe)(a:Vt_)(b:T2)(c d e:Vt_)(f:Unit->Wp)(g:T1)(h:Wt_):=NV->cV g.1 (Ca pQ T.rot #[a,b.2.1,c,d,e] h λi j=>f (()) j) (f (()) h)
def KD(T:pe)(a b:Vt_)(c:T2)(d e:Vt_)(f:Unit->Wp)(g:T1)(h:Wt_):=NV->cV g.1 (Ca pQ T.sym #[a,b,c.2.1,d,e] h λi j=>f (()) j) (f (()) h)
def Kv(T:pe)(a b c d e:Vt_)(f:cG)(g:T1)(h:Wt_):=NV->cV g.1 (Ca pQ T.sym #[a,b,c,d,e] h λi j=>f (.tuple #[]) j) (f (.tuple #[]) h)
def Ly(T:pe)(a b c d e:Vt_)(f:cG)(g:Unit)(h:Wt_):=NV->dK (S:=T1) (λi=>gb .lss 3 false a b h λj k=>cV j (gb .lss 3 false b c k λl m=>i (l,()) m) (i ((.bool false),()) k)) (Kv T d a b c e f)
def L0(T:pe)(a:Vt_)(b:T2)(c d e f g:Vt_)(h:cG)(i:Unit)(j:Wt_):=NV->dK (S:=Unit) (λk=>dK (S:=T1) (λl=>gb .lss 3 false a b.2.1 j λm n=>cV m (gb .lss 3 false b.2.1 c n λo p=>l (o,()) p) (l ((.bool false),()) n)) (KD T d a b c e k)) (Ly T c f g d e h)
def K0(T:pe)(a b c d e f g h:Vt_)(i:cG)(j:T2)(k:Wt_)(l:T2->Wp):=NV->gb .lss 3 false j.2.1 j.1 k λm n=>cV m (gb .add 3 false j.2.1 j.1 n λo p=>gr (convert 3 203 o) p λq r=>gb .shr 203 true q (gQ 1) r λs t=>gr (convert 203 3 s) t λu v=>my .sub 3 false a u λw=>mf T.ts b w λx=>eP T.te x v.drew λy=>mf T.ts b u λz=>eP T.te z v.drew λA=>iv pQ c [y,A] v.drew λB C=>my .lss 3 true B (gI 0) λD=>gp (Op.unary .not D) λE=>cV E (gb .add 3 true u (gI 1) C λF G=>l (j.1,F,()) G) (l (u,j.2.1,()) C)) (gb .sub 3 false d j.2.1 n λH I=>dK (S:=Unit) (λJ=>dK (S:=T1) (λK=>gb .lss 3 false j.2.1 e I λL M=>cV L (gb .lss 3 false e H M λN O=>K (N,()) O) (K ((.bool false),()) M)) (Kx T b j e H c J)) (L0 T f j g b c H h i))
def HY(T:pe)(a b c d e f g:Vt_)(h:cG)(i:T2)(j:Wt_):=NV->gb .sub 3 true a (gI 1) j λk l=>lG (S:=T2) (K0 T k b c a d e f g h) (i.2.1,i.1,()) l
def KF(T:pe)(a b c d e:Vt_)(f:Wt_)(g:cG):=gb .sub 3 false c b f λh i=>gb .eql 3 true h (gI 1) i λj k=>cV j (lG (S:=T2) (Lt T a b e g) (c,d,()) k) (gb .sub 3 false d c k λl m=>gb .eql 3 true l (gI 1) m λn o=>cV n (lG (S:=T2) (Lr T a c e g) (b,c,()) o) (gb .add 3 false b d o λp q=>gr (convert 3 203 p) q λr s=>gb .shr 203 true r (gQ 1) s λt u=>gr (convert 203 3 t) u λv w=>gb .add 3 false v c w λx y=>dK (S:=T2) (λz=>gb .gtr 3 false c v y λA B=>cV A (gb .sub 3 false x d B λC D=>z (C,v,()) D) (z (b,c,()) B)) (HY T x a e c b v d g)))
def Iw(T:pe)(a:T3)(b:T3->Wp)(c:T2)(d:Unit)(e:Wt_):=NV->gb .mul 3 true a.1 (gI 2) e λf g=>b (f,c.2.1,c.1,()) g
def GZ(T:pe)(a:Vt_)(b:T3)(c d:Vt_)(e:T3->Wp)(f:T2)(g:Wt_)(h:T2->Wp):=NV->gb .leq 3 false f.2.1 a g λi j=>cV i (gb .add 3 false f.1 b.1 j λk l=>Ca pQ T.sym #[c,f.1,k,f.2.1,d] l λm n=>gb .mul 3 true (gI 2) b.1 n λo p=>gb .add 3 false f.2.1 o p λq r=>h (f.2.1,q,()) r) (dK (S:=Unit) (λs=>gb .add 3 false f.1 b.1 j λt u=>gb .lss 3 false t a u λv w=>cV v (Ca pQ T.sym #[c,f.1,t,a,d] w λx y=>s (()) y) (s (()) w)) (Iw T b e f))
def HE(T:pe)(a b c:Vt_)(d:cG)(e:T3)(f:Wt_)(g:T3->Wp):=NV->gb .lss 3 false e.1 a f λh i=>cV h (gb .mul 3 true (gI 2) e.1 i λj k=>lG (S:=T2) (GZ T a e b c g) ((gI 0),j,()) k) (d (.tuple #[]) i)
def Il(T:pe)(a b c:Vt_)(d:cG)(e:T2)(f:Wt_)(g:T2->Wp):=NV->gb .leq 3 false e.2.1 a f λh i=>cV h (Ca pQ T.ins #[b,e.1,e.2.1,c] i λj k=>gb .add 3 false e.2.1 (gI 20) k λl m=>g (e.2.1,l,()) m) (Ca pQ T.ins #[b,e.1,a,c] i λn o=>lG (S:=T3) (HE T a b c d) ((gI 20),e.2.1,e.1,()) o)
def Ft(T:pe)(a b c:Vt_)(d:Wt_)(e:cG):=lG (S:=T2) (Il T b a c e) ((gI 0),(gI 20),()) d
def Fe(T:pe)(a b:Vt_)(c:Wt_)(d:cG):=rn pQ (builtin .len #[T.ts] 3 #[false] #[a]) c λe f=>Ca pQ T.stab #[a,e,b] f λg h=>d (.tuple #[]) h
structure Ss(T:pe):Prop where
 ins:∀{a0 a1 a2 a3:Vt_} {w:Wt_} {K:cG},KG T a0 a1 a2 a3 w K->Ca pQ T.ins #[a0,a1,a2,a3] w K
 swR:∀{a0 a1 a2 a3 a4:Vt_} {w:Wt_} {K:cG},KR T a0 a1 a2 a3 a4 w K->Ca pQ T.swR #[a0,a1,a2,a3,a4] w K
 rot:∀{a0 a1 a2 a3 a4:Vt_} {w:Wt_} {K:cG},Kt T a0 a1 a2 a3 a4 w K->Ca pQ T.rot #[a0,a1,a2,a3,a4] w K
 sym:∀{a0 a1 a2 a3 a4:Vt_} {w:Wt_} {K:cG},KF T a0 a1 a2 a3 a4 w K->Ca pQ T.sym #[a0,a1,a2,a3,a4] w K
 stab:∀{a0 a1 a2:Vt_} {w:Wt_} {K:cG},Ft T a0 a1 a2 w K->Ca pQ T.stab #[a0,a1,a2] w K
def ae1(h:KG HM a0 a b c w K):Ca pQ 263 #[a0,a,b,c] w K:=cj Tryz.func263 h
def Zh(h:KR HM a0 b c d a w K):Ca pQ 270 #[a0,b,c,d,a] w K:=cj Tryz.func270 h
def ap4(h:Kt HM a0 b c d a w K):Ca pQ 267 #[a0,b,c,d,a] w K:=cj Tryz.func267 h
def ap6(h:KF HM a0 b c d a w K):Ca pQ 264 #[a0,b,c,d,a] w K:=cj Tryz.func264 h
def Z8(h:Ft HM a0 a b w K):Ca pQ 256 #[a0,a,b] w K:=cj Tryz.func256 h
def ap9(h:Fe HM a0 a w K):Ca pQ 242 #[a0,a] w K:=cj Tryz.func242 h
def XR:Ss HM:=⟨ae1,Zh,ap4,ap6,Z8⟩
def ak7(h:KG HV a0 a b c w K):Ca pQ 260 #[a0,a,b,c] w K:=cj Tryz.func260 h
def am7(h:KR HV a0 b c d a w K):Ca pQ 269 #[a0,b,c,d,a] w K:=cj Tryz.func269 h
def ZT(h:Kt HV a0 b c d a w K):Ca pQ 266 #[a0,b,c,d,a] w K:=cj Tryz.func266 h
def ah0(h:KF HV a0 b c d a w K):Ca pQ 261 #[a0,b,c,d,a] w K:=cj Tryz.func261 h
def Z7(h:Ft HV a0 a b w K):Ca pQ 249 #[a0,a,b] w K:=cj Tryz.func249 h
def am4(h:Fe HV a0 a w K):Ca pQ 217 #[a0,a] w K:=cj Tryz.func217 h
def YM:Ss HV:=⟨ak7,am7,ZT,ah0,Z7⟩
end Go.Proofs
namespace Go.Proofs
open Go Go.Vc Go.Srt
attribute [local congr] cR
structure Gf(T:pe)(α:Type) where
 v:α->Value
 S:World->Value->List α->Prop
 ok:Ss T
 el:∀{w:Wt_} {sl:Vt_} {l:List α},S w sl l->∀{i:Nat} (hi:i<l.length),∃p,(∀W,(iX T.ts sl (gI (i:Int))).run pQ W=.ok p W)/\∀W l',S W sl l' ->∀hi',
   (iL T.te p).run pQ W=.ok (v l'[i]) W/\∀x,∃W',(iS T.te p (v x)).run pQ W=.ok () W' /\S W' sl (l'.set i x)/\de (cK sl) W W'
 mod:∀{F:NP_} {w w' :Wt_} {sl:Vt_} {l:List α},S w sl l->de F w w' ->(∀b,cK sl b->¬F b)->S w' sl l
def O8{α:Type}{T:pe}(Q:Gf T α)(w0:Wt_)(sl:Vt_)(fv:Vt_)(cf:α->α->Int)(l0:List α):Prop:=
 ∃g cp,fv=.func (.func g) #[] cp/\∀x∈l0,∀y∈l0,∀W,de (cK sl) w0 W->∀K,(∀W',M0 W W' ->K (gI (cf x y)) W')->Ca pQ g ⟨[Q.v x,Q.v y]++cp.toList⟩ W K
structure vH{α:Type}{T:pe}(Q:Gf T α)(w0:Wt_)(sl:Vt_)(l0:List α)(W:Wt_)(l:List α):Prop where
 own:Q.S W sl l
 pm:l.Perm l0
 md:de (cK sl) w0 W
def vH.on{α:Type}{T:pe}{Q:Gf T α}{w0 W b:Wt_}{sl:Vt_}{l0 l:List α}(h:vH Q w0 sl l0 W l)(a:M0 W b):vH Q w0 sl l0 b l:=⟨Q.mod h.own a eQ,h.pm,h.md.trans (a.to)⟩
def vH.swap{α:Type}{T:pe}{Q:Gf T α}{w0 W:Wt_}{sl:Vt_}{l0 l:List α}(h:vH Q w0 sl l0 W l){i j:Nat}(hi:i<l.length)(c:j<l.length):
  ∃p q,(∀W,(iX T.ts sl (gI (i:Int))).run pQ W=.ok p W)/\(∀W,(iX T.ts sl (gI (j:Int))).run pQ W=.ok q W)/\
   (iL T.te p).run pQ W=.ok (Q.v l[i]) W/\(iL T.te q).run pQ W=.ok (Q.v l[j]) W/\
   ∃a b,(iS T.te p (Q.v l[j])).run pQ W=.ok () a/\(iS T.te q (Q.v l[i])).run pQ a=.ok () b/\vH Q w0 sl l0 b (swp l i j):=by
 obtain⟨p,u,k⟩:=Q.el h.own hi;obtain⟨q,o,d⟩:=Q.el h.own c;obtain⟨g1,s1⟩:=k W l h.own hi;obtain⟨g,-⟩:=d W l h.own c;obtain⟨a,s,r,t⟩:=s1 l[j];obtain⟨-,m⟩:=d a _ r (by grind);obtain⟨b,e,n,f⟩:=m l[i];refine⟨p,q,u,o,g1,g,a,b,s,e,?_,(swp_perm l i j).trans h.pm,(h.md.trans t).trans f⟩;rw[swp_eq hi c];exact n
section
variable{α:Type}{T:pe}{Q:Gf T α}{w0:Wt_}{sl fv:Vt_}{cf:α->α->Int}{l0:List α}
abbrev sK{α:Type}(cf:α->α->Int):α->α->Bool:=λx y=>decide (cf x y<0)
set_option maxRecDepth 10000 in
def LG{W:Wt_}{l:List α}{K:cG}{a b:Nat}(O:O8 Q w0 sl fv cf l0)(h:vH Q w0 sl l0 W l)(hn:l0.length<=100000)(H:a<=b)(hb:b<=l0.length)
  (D:∀C,vH Q w0 sl l0 C (insSort (sK cf) a b l)->K (.tuple #[]) C):Ca pQ T.ins #[sl,gI (a:Int),gI (b:Int),fv] W K:=by
 obtain⟨g,cp,rfl,B⟩:=O;apply Q.ok.ins;unfold KG;apply qSj a
 refine eS (λst W=>∃(i k:Nat) (t:List α),st=(gI i,())/\vH Q w0 sl l0 W t/\insFrom (sK cf) a i k t=insSort (sK cf) a b l/\a<i/\k=b - i)
  (λst _=>match st.1 with| .int _ i=>b - i.toNat|_=>0) ⟨a+1,b - (a+1),l,rfl,h,rfl,qZ,rfl⟩ ?_
 rintro⟨_,_⟩ W ⟨i,k,t,⟨⟩,A,E,X,hk⟩ Y x;unfold Ko;intro _;have S:=A.pm.length_eq;by_cases M:i<b
 ·have n:(i:Int)<(b:Int):=qZ;apply qSv1 (.bool true) n;rw[kx];obtain⟨k,rfl⟩:∃P,k=P+1:=⟨k - 1,qZ⟩
  refine eS (λst W=>∃(j:Nat) (f:List α),st=(gI j,())/\vH Q w0 sl l0 W f/\insIn (sK cf) a j f=insIn (sK cf) a i t/\j<=i)
   (λst _=>match st.1 with| .int _ j=>j.toNat|_=>0) ⟨i,t,rfl,A,rfl,cJ _⟩ ?_
  rintro⟨_,_⟩ W ⟨j,f,⟨⟩,c,F,N⟩ KM w;have J:=c.pm.length_eq;unfold KI;intro _;refine dK.at (λst W=>st=(.bool (decide (a<j/\ltAt (sK cf) f j (j - 1)=true)),())/\vH Q w0 sl l0 W f) ?_ ?_
  ·by_cases s:a<j
   ·have o:(a:Int)<(j:Int):=qZ;apply qPv1 (.bool true) o;rw[kx];have d:=c.on (de.refl _ W).drew;obtain⟨p,v,L⟩:=Q.el d.own (show j<f.length by omega);obtain⟨q,u,V⟩:=Q.el d.own (show j - 1<f.length by omega);apply dw v;apply dp (L _ _ d.own qZ).1;apply qPi ((j - 1:Nat):Int);apply dw u;apply dp (V _ _ d.own qZ).1;simp only[kE];refine B _ (c.pm.mem_iff.1 (cC _)) _ (c.pm.mem_iff.1 (cC _)) _ d.md _ λC U=>?_;apply qPv0 (.bool (decide (cf f[j] f[j - 1]<0)));refine⟨?_,d.on U⟩
    have e:decide (a<j/\ltAt (sK cf) f j (j - 1)=true)=decide (cf f[j] f[j - 1]<0):=by
     rw[ltAt_eq _ qZ qZ];simp[s]
    rw[e]
   ·have o:¬(a:Int)<(j:Int):=qZ;apply qPv1 (.bool false) o;rw[gP];exact⟨by simp[s],c.on (de.refl _ W).drew⟩
  rintro _ W ⟨rfl,c⟩;unfold LQ;intro _;by_cases m:a<j/\ltAt (sK cf) f j (j - 1)=true
  ·rw[qo m];have r:j - 1+1=j:=qZ;have d:=c.on (de.refl _ W).drew;obtain⟨p,q,v,u,g1,I,W1,W2,R,G,z⟩:=d.swap (i:=j) (j:=j - 1) qZ qZ;apply qPi ((j - 1:Nat):Int);apply qPi ((j - 1:Nat):Int);refine dw u (dp I (dw v (dp g1 (dw v (ir R (dw u (ir G ?_)))))));apply qSi ((j - 1:Nat):Int);refine w _ _ ⟨j - 1,swp f j (j - 1),rfl,z,?_,qZ⟩ (by grind);rw[<-F]
   conv=>rhs;rw[<-r]
   rw[insIn,r,bZ m]
  ·rw[cy,aZ (by grind)];apply qSj i;refine x _ _ ⟨i+1,k,f,rfl,c,?_,qZ,qZ⟩ (by grind);rw[<-E,insFrom,<-F];congr 1;cases j with
   |zero=>rfl
   |succ Z=>
    rw[Nat.add_sub_cancel]at m;rw[insIn,aZ m]
 ·have n:¬(i:Int)<(b:Int):=qZ;apply qSv1 (.bool false) n;rw[gP];have y:k=0:=qZ;subst y;rw[<-E]at D;exact D _ A
def FM{W:Wt_}{l:List α}{K:cG}{a b n:Nat}(h:vH Q w0 sl l0 W l)(G:l0.length<=100000)(H:a+n<=l0.length)(D:b+n<=l0.length)
  (o:∀w,vH Q w0 sl l0 w (swR l a b 0 n)->K (.tuple #[]) w):Ca pQ T.swR #[sl,gI (a:Int),gI (b:Int),gI (n:Int),fv] W K:=by
 apply Q.ok.swR;unfold KR
 refine eS (λst W=>∃(i:Nat) (e:List α),st=(gI i,())/\vH Q w0 sl l0 W e/\swR e a b i n=swR l a b 0 n/\i<=n)
  (λst _=>match st.1 with| .int _ i=>n - i.toNat|_=>0) ⟨0,l,rfl,h,rfl,qZ⟩ ?_
 rintro⟨_,_⟩ W ⟨i,e,⟨⟩,m,t,A⟩ C f;unfold Lo;intro _;have B:=m.pm.length_eq;by_cases d:i<n
 ·have c:(i:Int)<(n:Int):=qZ;apply qSv1 (.bool true) c;rw[kx];have g:=m.on (de.refl _ W).drew;obtain⟨p,q,u,r,g1,y,E,F,z,x,k⟩:=g.swap (i:=a+i) (j:=b+i) qZ qZ;have v:∀W,(qE .add 3 false (gI (a:Int)) (gI (i:Int))).run pQ W=.ok (gI ((a+i:Nat):Int)) W:=λ_=>by simp[go_sem];rw[wI_]
  have s:∀W,(qE .add 3 false (gI (b:Int)) (gI (i:Int))).run pQ W=.ok (gI ((b+i:Nat):Int)) W:=λ_=>by simp[go_sem];rw[wI_]
  refine dw v (dw s (dw s (dw r (dp y (dw v (dw u (dp g1 (dw u (ir z (dw r (ir x ?_)))))))))));apply qSj i;refine f _ _ ⟨i+1,_,rfl,k,?_,qZ⟩ (by grind);rw[<-t]
  conv=>rhs;rw[swR]
  rw[bZ d]
 ·have c:¬(i:Int)<(n:Int):=qZ;apply qSv1 (.bool false) c;rw[gP];have:swR e a b i n=e:=by rw[swR,aZ d]
  rw[<-t,this]at o;exact o _ m
def Ua{W:Wt_}{l:List α}{K:cG}{a m b:Nat}(h:vH Q w0 sl l0 W l)(t:l0.length<=100000)(z:a<m)(A:m<b)(D:b<=l0.length)
  (w:∀f,vH Q w0 sl l0 f (rot m l (m - a) (b - m))->K (.tuple #[]) f):Ca pQ T.rot #[sl,gI (a:Int),gI (m:Int),gI (b:Int),fv] W K:=by
 apply Q.ok.rot;unfold Kt;have sub:∀{x y:Nat} (W:Wt_),y<=x->x<=100000->(qE .sub 3 false (gI (x:Int)) (gI (y:Int))).run pQ W=.ok (gI ((x - y:Nat):Int)) W:=λW E C=>by simp[go_sem];rw[wI_];omega
 refine cI (sub W qZ qZ) (cI (sub W qZ qZ) ?_)
 refine eS (λst W=>∃(i j:Nat) (o:List α),st=(gI i,gI j,())/\vH Q w0 sl l0 W o/\rot m o i j=rot m l (m - a) (b - m)/\0<i/\0<j/\i<=m/\m+j<=l0.length)
  (λst _=>match st.1,st.2.1 with| .int _ i,.int _ j=>i.toNat+j.toNat|_,_=>0) ⟨m - a,b - m,l,rfl,h,rfl,qZ,qZ,qZ,qZ⟩ ?_
 rintro⟨_,_,_⟩ W ⟨i,j,o,⟨⟩,v,r,s,u,q,p⟩ B k;unfold K8;intro _;by_cases e:i=j
 ·subst e;apply qSv0 (.bool false);rw[gP];apply cI (sub W qZ qZ);refine FM v t qZ qZ λf d=>?_;have:rot m o i i=swR o (m - i) m 0 i:=by rw[rot,aZ (by simp)]
  rw[<-r,this]at w;exact w _ d
 ·have n:¬(i:Int)=(j:Int):=qZ;apply cx (.bool true) W (by simp only[go_sem];simp;exact n);rw[kx];by_cases g:j<i
  ·have c:(j:Int)<(i:Int):=qZ;apply qSv1 (.bool true) c;rw[kx];apply cI (sub W qZ qZ);refine FM v t qZ qZ λf d=>?_;apply cI (sub f qZ qZ);refine k _ _ ⟨i - j,j,_,rfl,d,?_,qZ,u,qZ,p⟩ (by grind);rw[<-r]
   conv=>rhs;rw[rot]
   rw[bZ ⟨e,s,u⟩,bZ g]
  ·have c:¬(j:Int)<(i:Int):=qZ;apply qSv1 (.bool false) c;rw[gP];apply cI (sub W qZ qZ);apply qSi ((m+j:Nat):Int);apply cI (sub W qZ qZ);refine FM v t qZ qZ λf d=>?_;apply cI (sub f qZ qZ);refine k _ _ ⟨i,j - i,_,rfl,d,?_,s,qZ,q,qZ⟩ (by grind);rw[<-r]
   conv=>rhs;rw[rot]
   rw[bZ ⟨e,s,u⟩,aZ g]
end
section
variable{α:Type}{T:pe}{Q:Gf T α}{w0:Wt_}{sl fv:Vt_}{cf:α->α->Int}{l0:List α}
def vH.cmp{g:FuncId}{f:Array Value}{W:Wt_}{l:List α}{K:cG}{i j:Nat}(e:∀x∈l0,∀y∈l0,∀W,de (cK sl) w0 W->∀K,(∀b,M0 W b->K (gI (cf x y)) b)->Ca pQ g ⟨[Q.v x,Q.v y]++f.toList⟩ W K)(d:vH Q w0 sl l0 W l)(hi:i<l.length)(c:j<l.length)
  (k:∀b,vH Q w0 sl l0 b l->K (.bool (ltAt (sK cf) l i j)) b):
  ∃p q,(∀W,(iX T.ts sl (gI (i:Int))).run pQ W=.ok p W)/\(∀W,(iX T.ts sl (gI (j:Int))).run pQ W=.ok q W)/\
   (iL T.te p).run pQ W.drew=.ok (Q.v l[i]) W.drew/\(iL T.te q).run pQ W.drew=.ok (Q.v l[j]) W.drew/\
   iv pQ (.func (.func g) #[] f) [Q.v l[i],Q.v l[j]] W.drew λv w=>wS pQ (qE .lss 3 true v (gI 0)) λn=>K n w:=by
 have a:=d.on (de.refl _ W).drew;obtain⟨p,s,h⟩:=Q.el a.own hi;obtain⟨q,m,r⟩:=Q.el a.own c;refine⟨p,q,s,m,(h _ _ a.own hi).1,(r _ _ a.own c).1,?_⟩;simp only[kE];refine e _ (d.pm.mem_iff.1 (cC _)) _ (d.pm.mem_iff.1 (cC _)) _ a.md _ λb o=>?_;apply qPv0 (.bool (decide (cf l[i] l[j]<0)));have:=k _ (a.on o)
 rwa[ltAt_eq _ hi c]at this
set_option maxRecDepth 10000 in
def YU{W:Wt_}{l:List α}{K:cG}{a i:Nat}{y:Vt_}(h:vH Q w0 sl l0 W l)(D:l0.length<=100000)(hi:1<=i)(z:i<=l0.length)
  (n:∀t,vH Q w0 sl l0 t (mvUp l a (i - 1))->K (.tuple #[]) t):lG (S:=Value×Unit) (Fb T (gI (i:Int),y,()) sl K) (gI (a:Int),()) W:=by
 refine eS (λst W=>∃(k:Nat) (c:List α),st=(gI k,())/\vH Q w0 sl l0 W c/\mvUp c k (i - 1)=mvUp l a (i - 1))
  (λst _=>match st.1 with| .int _ k=>i - k.toNat|_=>0) ⟨a,l,rfl,h,rfl⟩ ?_
 rintro⟨_,_⟩ W ⟨k,c,⟨⟩,g,r⟩ A d;unfold Fb;intro _;have x:=g.pm.length_eq;refine cI (Hm (y:=1) W hi qZ true) (cI (BO W false) ?_);by_cases b:k<i - 1
 ·rw[qo b];have e:=g.on (de.refl _ W).drew;obtain⟨p,q,s,o,g1,v,B,C,w,u,f⟩:=e.swap (i:=k) (j:=k+1) qZ qZ;have m:∀W,(qE .add 3 true (gI (k:Int)) (gI 1)).run pQ W=.ok (gI ((k+1:Nat):Int)) W:=λW=>AG (y:=1) W qZ true;refine dw m (dw m (dw o (dp v (dw s (dp g1 (dw s (ir w (dw o (ir u (cI (m _) ?_))))))))));refine d _ _ ⟨k+1,_,rfl,f,?_⟩ (by grind);rw[<-r]
  conv=>rhs;rw[mvUp]
  rw[bZ b]
 ·rw[cy,aZ (by grind)];have:mvUp c k (i - 1)=c:=by rw[mvUp,aZ b]
  rw[<-r,this]at n;exact n _ g
def YK{W:Wt_}{l:List α}{K:cG}{m i:Nat}{y:Vt_}(h:vH Q w0 sl l0 W l)(D:l0.length<=100000)(E:m<l0.length)
  (n:∀t,vH Q w0 sl l0 t (mvDn l m i)->K (.tuple #[]) t):lG (S:=Value×Unit) (Gp T (gI (i:Int),y,()) sl K) (gI (m:Int),()) W:=by
 refine eS (λst W=>∃(k:Nat) (b:List α),st=(gI k,())/\vH Q w0 sl l0 W b/\mvDn b k i=mvDn l m i/\k<=m)
  (λst _=>match st.1 with| .int _ k=>k.toNat|_=>0) ⟨m,l,rfl,h,rfl,cJ _⟩ ?_
 rintro⟨_,_⟩ W ⟨k,b,⟨⟩,f,r,v⟩ A c;unfold Gp;intro _;have z:=f.pm.length_eq;apply qSv0 (.bool (decide (i<k)));by_cases a:i<k
 ·rw[qo a];have d:=f.on (de.refl _ W).drew;obtain⟨p,q,s,o,g1,w,B,C,x,u,e⟩:=d.swap (i:=k) (j:=k - 1) qZ qZ;have g:∀W,(qE .sub 3 true (gI (k:Int)) (gI 1)).run pQ W=.ok (gI ((k - 1:Nat):Int)) W:=λW=>Hm (y:=1) W qZ qZ true;refine dw g (dw g (dw o (dp w (dw s (dp g1 (dw s (ir x (dw o (ir u (cI (g _) ?_))))))))));refine c _ _ ⟨k - 1,_,rfl,e,?_,qZ⟩ (by grind);rw[<-r]
  conv=>rhs;rw[mvDn]
  rw[bZ a]
 ·rw[cy,aZ (by grind)];have:mvDn b k i=b:=by rw[mvDn,aZ a]
  rw[<-r,this]at n;exact n _ f
set_option maxRecDepth 10000 in
set_option maxHeartbeats 1000000 in
def KW(hc:O8 Q w0 sl fv cf l0)(hn:l0.length<=100000):∀(d:Nat) {W:Wt_} {l:List α} {K:cG} {a m b:Nat},b - a<=d->vH Q w0 sl l0 W l->a<m->m<b->b<=l0.length->
  (∀s,vH Q w0 sl l0 s (symM (sK cf) a m b l)->K (.tuple #[]) s)->Ca pQ T.sym #[sl,gI (a:Int),gI (m:Int),gI (b:Int),fv] W K:=by
 obtain⟨g,cp,rfl,hcl⟩:=hc;intro d;induction d with
 |zero=>intro W l K a m b M _ V h3;omega
 |succ d ih=>
 intro W l K a m b hd h ham hmb hb z;have hl:=h.pm.length_eq;apply Q.ok.sym;unfold KF;apply cI (Hm W qZ qZ false);apply cI (WC W);by_cases O:m - a=1
 ·rw[qo O];have t:symM (sK cf) a m b l=mvUp l a (bsG (λh=>ltAt (sK cf) l h a) m b - 1):=by rw[symM,bZ O]
  rw[t]at z
  refine eS (λst W=>∃i j:Nat,st=(gI i,gI j,())/\vH Q w0 sl l0 W l/\bsG (λh=>ltAt (sK cf) l h a) i j=bsG (λh=>ltAt (sK cf) l h a) m b/\m<=i/\i<=j/\j<=b)
   (λst _=>match st.1,st.2.1 with| .int _ i,.int _ j=>j.toNat - i.toNat|_,_=>0) ⟨m,b,rfl,h,rfl,qZ,qZ,qZ⟩ ?_
  rintro⟨_,_,_⟩ W ⟨i,j,⟨⟩,P,r,M,V,h3⟩ R u;unfold Lt;intro _;apply cI (BO W false);by_cases k:i<j
  ·rw[qo k];apply cI (AG W qZ false);obtain⟨x,S,y,Y,e3⟩:=Ks k qZ W;refine cI S (cI Y (cI e3 ?_));rw[bsG_go k]at r;obtain⟨o,J⟩:=dW ((i+j) / 2);rw[<-J]at r|-
   obtain⟨p,q,c1,c2,c3,c4,c5⟩:=vH.cmp (i:=o) (j:=a) (K:=λv2 w=>cV v2 (rv pQ (qE .add 3 true (gI (o:Int)) (gI 1)) w λE H=>R (E,gI (j:Int),()) H) (R (gI (i:Int),gI (o:Int),()) w)) hcl P qZ qZ (by
    intro s A;cases v:ltAt (sK cf) l o a with
    |true=>
     rw[kx];rw[bZ v]at r;apply cI (AG (y:=1) s qZ true);exact u _ _ ⟨o+1,j,rfl,A,r,qZ,qZ,h3⟩ (by grind)
    |false=>
     rw[gP];rw[aZ (by rw[v];simp)]at r;exact u _ _ ⟨i,o,rfl,A,r,M,qZ,qZ⟩ (by grind))
   exact dw c1 (dp c3 (dw c2 (dp c4 c5)))
  ·rw[cy,aZ (by grind)];rw[bsG_end k]at r;rw[<-r]at z;exact YU P hn qZ qZ z
 rw[cy,aZ (by grind)];apply cI (Hm W qZ qZ false);apply cI (WC W);by_cases Z:b - m=1
 ·rw[qo Z];have t:symM (sK cf) a m b l=mvDn l m (bsG (λh=> !ltAt (sK cf) l m h) a m):=by rw[symM,aZ O,bZ Z]
  rw[t]at z
  refine eS (λst W=>∃i j:Nat,st=(gI i,gI j,())/\vH Q w0 sl l0 W l/\bsG (λh=> !ltAt (sK cf) l m h) i j=bsG (λh=> !ltAt (sK cf) l m h) a m/\a<=i/\i<=j/\j<=m)
   (λst _=>match st.1,st.2.1 with| .int _ i,.int _ j=>j.toNat - i.toNat|_,_=>0) ⟨a,m,rfl,h,rfl,qZ,qZ,qZ⟩ ?_
  rintro⟨_,_,_⟩ W ⟨i,j,⟨⟩,P,r,M,V,h3⟩ R u;unfold Lr;intro _;apply cI (BO W false);by_cases k:i<j
  ·rw[qo k];apply cI (AG W qZ false);obtain⟨x,S,y,Y,e3⟩:=Ks k qZ W;refine cI S (cI Y (cI e3 ?_));rw[bsG_go k]at r;obtain⟨o,J⟩:=dW ((i+j) / 2);rw[<-J]at r|-
   obtain⟨p,q,c1,c2,c3,c4,c5⟩:=vH.cmp (i:=m) (j:=o) (K:=λv2 w=>wS pQ (Op.unary .not v2) λX=>cV X (rv pQ (qE .add 3 true (gI (o:Int)) (gI 1)) w λE H=>R (E,gI (j:Int),()) H) (R (gI (i:Int),gI (o:Int),()) w)) hcl P qZ qZ (by
    intro s A;apply qPv0 (.bool (!ltAt (sK cf) l m o));cases v:ltAt (sK cf) l m o with
    |false=>
     rw[cy,bZ (show(!false)=true from rfl)];rw[bZ (by rw[v];rfl)]at r;apply cI (AG (y:=1) s qZ true);exact u _ _ ⟨o+1,j,rfl,A,r,qZ,qZ,h3⟩ (by grind)
    |true=>
     rw[cy,aZ (by simp)];rw[aZ (by rw[v];simp)]at r;exact u _ _ ⟨i,o,rfl,A,r,M,qZ,qZ⟩ (by grind))
   exact dw c1 (dp c3 (dw c2 (dp c4 c5)))
  ·rw[cy,aZ (by grind)];rw[bsG_end k]at r;rw[<-r]at z;exact YK P hn qZ z
 rw[cy,aZ (by grind)];apply cI (AG W qZ false);obtain⟨x,S,y,Y,e3⟩:=Ks (show a<b by omega) qZ W;refine cI S (cI Y (cI e3 ?_))
 have t:symM (sK cf) a m b l=(let st:=stOf (sK cf) l a m b
   let D:=(a+b) / 2+m - st;let l1:=if st<m/\m<D then rot m l (m - st) (D - m)else l
   let l2:=if h:a<st/\st<(a+b) / 2 then symM (sK cf) a st ((a+b) / 2) l1 else l1
   if h:(a+b) / 2<D/\D<b/\a<(a+b) / 2 then symM (sK cf) ((a+b) / 2) D b l2 else l2):=by
  conv=>lhs;rw[symM]
  rw[aZ O,aZ Z]
 rw[t]at z;clear t;have hst:stOf (sK cf) l a m b=if(a+b) / 2<m then bsG (λc=> !ltAt (sK cf) l ((a+b) / 2+m - 1 - c) c) ((a+b) / 2+m - b) ((a+b) / 2)else bsG (λc=> !ltAt (sK cf) l ((a+b) / 2+m - 1 - c) c) a m:=rfl
 obtain⟨e,hmid⟩:=dW ((a+b) / 2);rw[<-hmid]at z hst|-;have hmb1:a<e/\e<b:=qZ;apply cI (AG W qZ false);obtain⟨N,B⟩:=dW (if e<m then e+m - b else a);obtain⟨L,C⟩:=dW (if e<m then e else m)
 have hst2:stOf (sK cf) l a m b=bsG (λc=> !ltAt (sK cf) l (e+m - 1 - c) c) N L:=by
  rw[hst,B,C];by_cases n:e<m
  ·rw[bZ n,bZ n,bZ n]
  ·rw[aZ n,aZ n,aZ n]
 have U:N<=L/\a<=N/\L<=m/\L<=e/\(∀c,N<=c->c<L->e+m - 1 - c<b/\c<e+m - 1)/\(∀c,N<=c->c<=L->m<=e+m - c/\e+m - c<=b/\e<=e+m - c):=by
  by_cases n:e<m
  ·rw[bZ n]at B C;exact⟨qZ,qZ,qZ,qZ,λc M V=>qZ,λc M V=>qZ⟩
  ·rw[aZ n]at B C;exact⟨qZ,qZ,qZ,qZ,λc M V=>qZ,λc M V=>qZ⟩
 refine dK.at (λst s=>st=(gI (N:Int),gI (L:Int),())/\s=W) ?_ ?_
 ·apply qSv0 (.bool (decide (e<m)));by_cases n:e<m
  ·rw[qo n];rw[bZ n]at B C;apply cI (Hm W qZ qZ false);exact⟨by rw[B,C],rfl⟩
  ·rw[cy,aZ (by grind)];rw[aZ n]at B C;exact⟨by rw[B,C],rfl⟩
 rintro _ W ⟨rfl,rfl⟩;unfold HY;intro _;apply cI (Hm (y:=1) W qZ qZ true)
 refine eS (λst W=>∃i j:Nat,st=(gI j,gI i,())/\vH Q w0 sl l0 W l/\bsG (λc=> !ltAt (sK cf) l (e+m - 1 - c) c) i j=bsG (λc=> !ltAt (sK cf) l (e+m - 1 - c) c) N L/\N<=i/\i<=j/\j<=L)
  (λst _=>match st.2.1,st.1 with| .int _ i,.int _ j=>j.toNat - i.toNat|_,_=>0) ⟨N,L,rfl,h,rfl,qZ,U.1,qZ⟩ ?_
 rintro⟨_,_,_⟩ W ⟨i,j,⟨⟩,P,r,M,V,h3⟩ R u;unfold K0;intro _;apply cI (BO W false);by_cases k:i<j
 ·rw[qo k];apply cI (AG W qZ false);obtain⟨x,S,y,Y,e3⟩:=Ks k qZ W;refine cI S (cI Y (cI e3 ?_));rw[bsG_go k]at r;obtain⟨o,J⟩:=dW ((i+j) / 2);rw[<-J]at r|-;have hhb:=U.2.2.2.2.1 o qZ qZ;apply dw (λW=>Hm W qZ qZ false)
  obtain⟨p,q,c1,c2,c3,c4,c5⟩:=vH.cmp (i:=e+m - 1 - o) (j:=o) (K:=λv2 w=>wS pQ (Op.unary .not v2) λX=>cV X (rv pQ (qE .add 3 true (gI (o:Int)) (gI 1)) w λE H=>R (gI (j:Int),E,()) H) (R (gI (o:Int),gI (i:Int),()) w)) hcl P qZ qZ (by
   intro s A;apply qPv0 (.bool (!ltAt (sK cf) l (e+m - 1 - o) o));cases v:ltAt (sK cf) l (e+m - 1 - o) o with
   |false=>
    rw[cy,bZ (show(!false)=true from rfl)];rw[bZ (by rw[v];rfl)]at r;apply cI (AG (y:=1) s qZ true);exact u _ _ ⟨o+1,j,rfl,A,r,qZ,qZ,h3⟩ (by grind)
   |true=>
    rw[cy,aZ (by simp)];rw[aZ (by rw[v];simp)]at r;exact u _ _ ⟨i,o,rfl,A,r,M,qZ,qZ⟩ (by grind))
  exact dw c1 (dp c3 (dw c2 (dp c4 c5)))
 rw[cy,aZ (by grind)];rw[bsG_end k,<-hst2]at r;rw[<-r]at z;simp only at z;have hib:=U.2.2.2.2.2 i qZ qZ;apply cI (Hm W qZ qZ false);obtain⟨D,hen⟩:=dW (e+m - i);rw[<-hen]at z hib|-;obtain⟨l1,F⟩:=dW (if i<m/\m<D then rot m l (m - i) (D - m)else l);rw[<-F]at z;refine dK.at (λ_ s=>vH Q w0 sl l0 s l1) ?_ ?_
 ·refine dK.at (λst s=>st=(.bool (decide (i<m/\m<D)),())/\s=W) ?_ ?_
  ·apply cI (BO W false);by_cases f:i<m
   ·rw[qo f];apply cI (BO W false);exact⟨by simp[f],rfl⟩
   ·rw[cy,aZ (by grind)];exact⟨by simp[f],rfl⟩
  rintro _ s ⟨rfl,rfl⟩;unfold Kx;intro _;by_cases f:i<m/\m<D
  ·rw[qo f];rw[bZ f]at F;refine Ua P hn f.1 f.2 qZ λW'' G=>?_;rw[F];exact G
  ·rw[cy,aZ (by grind)];rw[aZ f]at F;rw[F];exact P
 rintro _ W hS1;unfold L0;intro _;obtain⟨l2,I⟩:=dW (if h:a<i/\i<e then symM (sK cf) a i e l1 else l1);rw[<-I]at z;refine dK.at (λ_ s=>vH Q w0 sl l0 s l2) ?_ ?_
 ·refine dK.at (λst s=>st=(.bool (decide (a<i/\i<e)),())/\s=W) ?_ ?_
  ·apply cI (BO W false);by_cases f:a<i
   ·rw[qo f];apply cI (BO W false);exact⟨by simp[f],rfl⟩
   ·rw[cy,aZ (by grind)];exact⟨by simp[f],rfl⟩
  rintro _ s ⟨rfl,rfl⟩;unfold KD;intro _;by_cases f:a<i/\i<e
  ·rw[qo f];rw[dif_pos f]at I;refine ih qZ hS1 f.1 f.2 qZ λW'' G=>?_;rw[I];exact G
  ·rw[cy,aZ (by grind)];rw[dif_neg f]at I;rw[I];exact hS1
 rintro _ W hS2;unfold Ly;intro _;refine dK.at (λst s=>st=(.bool (decide (e<D/\D<b)),())/\s=W) ?_ ?_
 ·apply cI (BO W false);by_cases f:e<D
  ·rw[qo f];apply cI (BO W false);exact⟨by simp[f],rfl⟩
  ·rw[cy,aZ (by grind)];exact⟨by simp[f],rfl⟩
 rintro _ s ⟨rfl,rfl⟩;unfold Kv;intro _;by_cases f:e<D/\D<b
 ·rw[qo f];rw[dif_pos ⟨f.1,f.2,hmb1.1⟩]at z;exact ih qZ hS2 f.1 f.2 hb z
 ·rw[cy,aZ (by grind)];rw[dif_neg (λh=>f ⟨h.1,h.2.1⟩)]at z;exact z _ hS2
end
section
variable{α:Type}{T:pe}{Q:Gf T α}{w0:Wt_}{sl fv:Vt_}{cf:α->α->Int}{l0:List α}
set_option maxRecDepth 10000 in
def HX(v:O8 Q w0 sl fv cf l0)(w:l0.length<=100000){W:Wt_}{K:cG}(h:vH Q w0 sl l0 W l0)
  (u:∀i,vH Q w0 sl l0 i (Srt.stable (sK cf) l0)->K (.tuple #[]) i):Ca pQ T.stab #[sl,gI (l0.length:Int),fv] W K:=by
 obtain⟨n,t⟩:=dW l0.length;have B:Srt.stable (sK cf) l0=mrg (sK cf) n 20 (blk (sK cf) n 0 20 l0):=by rw[t];rfl
 rw[B]at u;rw[<-t];apply Q.ok.stab;unfold Ft
 refine eS (λst W=>∃(a b:Nat) (l:List α),st=(gI a,gI b,())/\vH Q w0 sl l0 W l/\blk (sK cf) n a b l=blk (sK cf) n 0 20 l0/\a<=n/\b=a+20)
  (λst _=>match st.2.1 with| .int _ b=>n+20 - b.toNat|_=>0) ⟨0,20,l0,rfl,h,rfl,qZ,rfl⟩ ?_
 rintro⟨_,_,_⟩ W ⟨a,b,l,⟨⟩,k,H,q,N⟩ I j;unfold Il;intro _;apply cI (ZE W false);by_cases d:b<=n
 ·rw[qo d];refine LG v k w qZ qZ λi e=>?_;apply cI (AG (y:=20) i qZ true);refine j _ _ ⟨b,b+20,_,rfl,e,?_,d,rfl⟩ (by grind);rw[<-H]
  conv=>rhs;rw[blk]
  rw[bZ d]
 rw[cy,aZ (by grind)];refine LG v k w q qZ λW k=>?_
 have r:insSort (sK cf) a n l=blk (sK cf) n 0 20 l0:=by
  rw[<-H]
  conv=>rhs;rw[blk]
  rw[aZ d]
 rw[r]at k;clear H r j I;obtain⟨F,E⟩:=dW (blk (sK cf) n 0 20 l0);rw[<-E]at k u
 refine eS (λst W=>∃(c:Nat) (x y:Vt_) (l:List α),st=(gI c,x,y,())/\vH Q w0 sl l0 W l/\mrg (sK cf) n c l=mrg (sK cf) n 20 F/\0<c/\c<=2*n+20)
  (λst _=>match st.1 with| .int _ b=>2*n+40 - b.toNat|_=>0) ⟨20,_,_,F,rfl,k,rfl,qZ,qZ⟩ ?_
 rintro⟨_,_,_,_⟩ W ⟨c,x,y,l,⟨⟩,k,J,p,L⟩ I j;unfold HE;intro _;apply cI (BO W false);by_cases m:c<n
 ·rw[qo m]
  have s:mrg (sK cf) n (c*2) (mrgPass (sK cf) c n 0 (2*c) l)=mrg (sK cf) n 20 F:=by
   rw[<-J]
   conv=>rhs;rw[mrg]
   rw[bZ ⟨m,p⟩]
  apply cI (U6 W qZ)
  refine eS (λst W=>∃(a b:Nat) (o:List α),st=(gI a,gI b,())/\vH Q w0 sl l0 W o/\mrgPass (sK cf) c n a b o=mrgPass (sK cf) c n 0 (2*c) l/\b=a+2*c/\a<=n)
   (λst _=>match st.2.1 with| .int _ b=>n+1+2*c - b.toNat|_=>0) ⟨0,2*c,l,rfl,k,rfl,qZ,qZ⟩ ?_
  rintro⟨_,_,_⟩ W ⟨a,b,o,⟨⟩,e,M,P,q⟩ R A;have O:=e.pm.length_eq;unfold GZ;intro _;apply cI (ZE W false);by_cases d:b<=n
  ·rw[qo d];apply cI (AG W qZ false);refine KW v w (b - a) (cJ _) e qZ qZ qZ λi g=>?_;apply cI (U6 i qZ);apply cI (AG i qZ false);refine A _ _ ⟨b,b+2*c,_,rfl,g,?_,rfl,d⟩ (by grind);rw[<-M]
   conv=>rhs;rw[mrgPass]
   rw[bZ ⟨d,p⟩]
  ·rw[cy,aZ (by grind)];obtain⟨G,f⟩:=dW (if a+c<n then symM (sK cf) a (a+c) n o else o);have C:mrgPass (sK cf) c n a b o=G:=by rw[mrgPass,aZ (λh=>d h.1),f]
   rw[<-M,C]at s;refine dK.at (λ_ i=>vH Q w0 sl l0 i G) ?_ ?_
   ·refine cI (AG W qZ false) (cI (BO W false) ?_);by_cases z:a+c<n
    ·rw[qo z];rw[bZ z]at f;refine KW v w (n - a) (cJ _) e qZ z qZ λi g=>?_;rw[f];exact g
    ·rw[cy,aZ (by grind)];rw[aZ z]at f;rw[f];exact e
   rintro _ W D;unfold Iw;intro _;apply cI (XQ W qZ);exact j _ _ ⟨c*2,_,_,G,rfl,D,s,qZ,qZ⟩ (by grind)
 ·rw[cy,aZ (by grind)];have:mrg (sK cf) n c l=l:=by rw[mrg,aZ (λh=>m h.1)]
  rw[<-J,this]at u;exact u _ k
end
end Go.Proofs
