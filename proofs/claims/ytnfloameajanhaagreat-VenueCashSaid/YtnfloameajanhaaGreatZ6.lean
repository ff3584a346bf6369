/- Part of a proof. -/
import Derived.Test.YtnfloameajanhaaGreatZ5
set_option linter.all false
set_option maxRecDepth 100000
namespace Go.Proofs
open Go Go.Vc
section
variable{a b c d e f g:Vt_}{W:Wt_}{Z:cG}
def WX(a b c:Vt_)(d:cG)(e:Vt_)(f:T1)(g:Wt_):=NV->cV f.1 (gY 30 a 1 23 g.drew λh=>kg 30 a 4 λi=>eP 2 i g.drew λj=>kg 30 b 1 λk=>gs 23 k h g.drew λl=>gk 2 i j l/\(kg 30 b 4 λm=>gs 2 m j l λn=>gx (fH 30 b) n λo p=>nj pQ (jH 30 c o) p λq=>pS pQ (fH 30 c) q λr=>d r q)) (gC e 3 g λs t=>cV s (gf 30 a 5 t λu v=>gx (fH 27 u) v λw x=>gf 30 b 5 x λy z=>nj pQ (jH 27 y w) z λA=>gx (fH 30 b) A λB C=>nj pQ (jH 30 c B) C λD=>pS pQ (fH 30 c) D λE=>d E D) (gC e 4 t λF G=>cV F (gY 30 a 2 23 G.drew λH=>kg 30 a 6 λI=>eP 4 I G.drew λJ=>kg 30 b 2 λK=>gs 23 K H G.drew λL=>gk 4 I J L/\(kg 30 b 6 λM=>gs 4 M J L λN=>gx (fH 30 b) N λO P=>nj pQ (jH 30 c O) P λQ=>pS pQ (fH 30 c) Q λR=>d R Q)) (gC e 5 G λS T=>cV S (gx (fH 30 a) T λU V=>nj pQ (jH 30 b U) V λX=>gx (rB 27 #[]) X λY aa=>qM 30 b 3 24 (gQ 0) aa λab=>qM 30 b 4 2 (gI 0) ab λac=>gf 30 b 5 ac λad ae=>nj pQ (jH 27 ad Y) ae λaf=>qM 30 b 6 4 bF af λag=>gx (fH 30 b) ag λah ai=>nj pQ (jH 30 c ah) ai λaj=>pS pQ (fH 30 c) aj λak=>d ak aj) (gC e 6 T λal am=>cV al (gY 30 a 1 23 am.drew λan=>kg 30 a 3 λao=>eP 24 ao am.drew λap=>kg 30 b 1 λaq=>gs 23 aq an am.drew λar=>gk 24 ao ap ar/\(kg 30 b 3 λau=>gs 24 au ap ar λav=>gx (fH 30 b) av λaw ax=>nj pQ (jH 30 c aw) ax λay=>pS pQ (fH 30 c) ay λaz=>d az ay)) (gC e 7 am λaA aB=>cV aA (gY 30 a 1 23 aB.drew λaC=>kg 30 a 3 λaD=>eP 24 aD aB.drew λaE=>kg 30 a 9 λaF=>eP 2 aF aB.drew λaG=>kg 30 a 10 λaH=>eP 2 aH aB.drew λaI=>kg 30 b 1 λaJ=>gs 23 aJ aC aB.drew λaK=>gk 2 aH aI aK/\gk 2 aF aG aK/\gk 24 aD aE aK/\(kg 30 b 3 λaL=>gs 24 aL aE aK λaM=>gk 2 aH aI aM/\gk 2 aF aG aM/\(kg 30 b 9 λaN=>gs 2 aN aG aM λaO=>gk 2 aH aI aO/\(kg 30 b 10 λaP=>gs 2 aP aI aO λaQ=>gx (fH 30 b) aQ λaR aS=>nj pQ (jH 30 c aR) aS λaT=>pS pQ (fH 30 c) aT λaU=>d aU aT)))) (gC e 8 aB λaV aX=>cV aV (gY 30 a 1 23 aX.drew λaY=>kg 30 a 2 λa0=>eP 23 a0 aX.drew λa1=>kg 30 b 1 λa2=>gs 23 a2 aY aX.drew λa3=>gk 23 a0 a1 a3/\(kg 30 b 2 λa4=>gs 23 a4 a1 a3 λa5=>gx (fH 30 b) a5 λa6 a7=>nj pQ (jH 30 c a6) a7 λa8=>pS pQ (fH 30 c) a8 λa9=>d a9 a8)) (gC e 9 aX λba bb=>cV ba (gY 30 a 1 23 bb.drew λbc=>kg 30 a 2 λbd=>eP 23 bd bb.drew λbe=>kg 30 a 7 λbf=>eP 4 bf bb.drew λbg=>kg 30 a 9 λbh=>eP 2 bh bb.drew λbi=>kg 30 a 10 λbj=>eP 2 bj bb.drew λbk=>kg 30 b 1 λbl=>gs 23 bl bc bb.drew λbm=>gk 2 bj bk bm/\gk 2 bh bi bm/\gk 4 bf bg bm/\gk 23 bd be bm/\(kg 30 b 2 λbn=>gs 23 bn be bm λbo=>gk 2 bj bk bo/\gk 2 bh bi bo/\gk 4 bf bg bo/\(kg 30 b 7 λbp=>gs 4 bp bg bo λbq=>gk 2 bj bk bq/\gk 2 bh bi bq/\(kg 30 b 9 λbr=>gs 2 br bi bq λbs=>gk 2 bj bk bs/\(kg 30 b 10 λbt=>gs 2 bt bk bs λbu=>gx (fH 30 b) bu λbv bw=>nj pQ (jH 30 c bv) bw λbx=>pS pQ (fH 30 c) bx λbz=>d bz bx))))) (gC e 10 bb λbA bB=>cV bA (gY 30 a 1 23 bB.drew λbC=>kg 30 a 6 λbD=>eP 4 bD bB.drew λbE=>kg 30 b 1 λbG=>gs 23 bG bC bB.drew λbH=>gk 4 bD bE bH/\(kg 30 b 6 λbI=>gs 4 bI bE bH λbJ=>gx (fH 30 b) bJ λbK bL=>nj pQ (jH 30 c bK) bL λbM=>pS pQ (fH 30 c) bM λbN=>d bN bM)) (gC e 11 bB λbO bP=>cV bO (gY 30 a 2 23 bP.drew λbQ=>kg 30 a 9 λbR=>eP 2 bR bP.drew λbS=>kg 30 b 2 λbU=>gs 23 bU bQ bP.drew λbV=>gk 2 bR bS bV/\(kg 30 b 9 λbX=>gs 2 bX bS bV λbY=>gx (fH 30 b) bY λb0 b1=>nj pQ (jH 30 c b0) b1 λb2=>pS pQ (fH 30 c) b2 λb3=>d b3 b2)) (gC e 13 bP λb4 b5=>cV b4 (dz 30 a 1 23 b5 λb6 b7=>qM 30 b 1 23 b6 b7 λb8=>gx (fH 30 b) b8 λb9 ca=>nj pQ (jH 30 c b9) ca λcb=>pS pQ (fH 30 c) cb λcc=>d cc cb) (gC e 14 b5 λcd ce=>cV cd (dz 30 a 2 23 ce λcf cg=>qM 30 b 2 23 cf cg λch=>gx (fH 30 b) ch λci cj=>nj pQ (jH 30 c ci) cj λck=>pS pQ (fH 30 c) ck λcl=>d cl ck) (gx (fH 30 b) ce λcm cn=>nj pQ (jH 30 c cm) cn λco=>pS pQ (fH 30 c) co λcp=>d cp co))))))))))))
def az7(t:gq 30 a W λb c=>gx (nE 30) c λd e=>dz 30 b 0 22 e λf g=>gx (rB 30 #[(0,f)]) g λh i=>gx (nE 30) i λj k=>nj pQ (jH 30 j h) k λl=>dz 30 b 0 22 l λm n=>jW (λo=>gC m 1 n λp q=>cV p (o (p,()) q) (gC m 2 q λr s=>o (r,()) s)) (WX b j d Z m)):Ca pQ 80 #[a] W Z:=cj Tryz.func80 t
def aA7(q:gq 30 a W λb c=>gY 30 b 0 22 c.drew λd=>my .geq 22 true d (gB 1) λe=>cV e (gY 30 b 0 22 c.drew λf=>my .leq 22 true f (gB 14) λg=>cV g (pS pQ (fH 30 b) c.drew λh=>pS pQ (fH 30 b) c.drew λi=>Ca pQ 80 #[i] c.drew λj k=>Sem.run pQ (fH 30 b) k=.ok h k/\(my .eql 30 false h j λl=>cV l (gY 30 b 0 22 k λm=>my .neq 22 true m (gB 3) λn=>cV n (Z bT k) (kg 30 b 5 λo=>pS pQ (fH 27 o) k λp=>Ca pQ 81 #[p] k Z)) (Z bF k))) (Z bF c.drew)) (Z bF c.drew)):Ca pQ 38 #[a] W Z:=cj Tryz.func38 q
def aB6(k:Ca pQ 49 #[] W λa b=>Ca pQ 50 #[] b λc d=>gr (Instr.makeMap 35 none) d λe f=>gr (Instr.makeMap 36 none) f λg h=>gr (Instr.build 38 #[(0,a),(1,c),(2,e),(3,g),(4,(gQ 1))]) h λi j=>gq 38 i j Z):Ca pQ 22 #[] W Z:=cj Tryz.func22 k
def ag1(h:gb .neq 39 true a (.pointer none) W λb c=>cV b (ez a λd=>dz 38 d 1 34 c λe f=>gb .neq 34 true e (.pointer none) f Z) (Z bF c)):Ca pQ 27 #[a] W Z:=cj Tryz.func27 h
def UE(a:Vt_)(b:T1)(c:cG)(d:Unit)(e:Wt_)(f:Unit->Wp):=NV->gx (wh a false 0) e λg h=>ge g 0 h λi j=>cV i (gx (uf a) j λk l=>nR k l λm n o=>ez b.1 λp=>kg 38 p 3 λq=>eP 36 q o.drew λr=>Ca pQ 48 #[n] o.drew λs t=>gk 36 q r t/\(nj pQ (nm 36 r m s) t λu=>f (()) u)) (c b.1 j)
def VG(a:Vt_)(b:T1)(c:Vt_)(d:cG)(e:Unit)(f:Wt_)(g:Unit->Wp):=NV->gx (wh a false 0) f λh i=>ge h 0 i λj k=>cV j (gx (uf a) k λl m=>nR l m λn o p=>ez b.1 λq=>kg 38 q 2 λr=>eP 35 r p.drew λs=>Ca pQ 47 #[o] p.drew λt u=>gk 35 r s u/\(nj pQ (nm 35 s n t) u λv=>g (()) v)) (ez c λw=>dz 38 w 3 36 k λx y=>gx (ue 36 x) y λz A=>lG (S:=Unit) (UE z b d) (()) A)
def Wv(a:Vt_)(b:cG)(c:T1)(d:Wt_):=NV->ez a λe=>dz 38 e 2 35 d λf g=>gx (ue 35 f) g λh i=>lG (S:=Unit) (VG h c a b) (()) i
def ZK(h0:Ca pQ 27 #[a] W λb c=>gt b c λd e=>cV d (Z (.pointer none) e) (jW (λf=>ez a λg=>kg 38 g 0 λh=>eP 33 h e.drew λi=>ez a λj=>kg 38 j 1 λk=>eP 34 k e.drew λl=>ez a λm=>kg 38 m 4 λn=>eP 24 n e.drew λo=>(Ca pQ 45 #[i] e.drew λp q=>gk 24 n o q/\gk 34 k l q/\((Ca pQ 46 #[l] q λr s=>gk 24 n o s/\((gr (Instr.makeMap 35 none) s λt u=>gk 24 n o u/\(gr (Instr.makeMap 36 none) u λv w=>gk 24 n o w/\(gp (Instr.build 38 #[(0,p),(1,r),(2,t),(3,v),(4,o)]) λx=>gq 38 x w λy z=>f (y,()) z)))/\(gr (Instr.makeMap 36 none) s λA B=>gk 24 n o B/\(gr (Instr.makeMap 35 none) B λC D=>gk 24 n o D/\(gp (Instr.build 38 #[(0,p),(1,r),(2,C),(3,A),(4,o)]) λE=>gq 38 E D λF G=>f (F,()) G)))))/\(gr (Instr.makeMap 35 none) q λH I=>gk 24 n o I/\gk 34 k l I/\((Ca pQ 46 #[l] I λJ K=>gk 24 n o K/\(gr (Instr.makeMap 36 none) K λL M=>gk 24 n o M/\(gp (Instr.build 38 #[(0,p),(1,J),(2,H),(3,L),(4,o)]) λN=>gq 38 N M λO P=>f (O,()) P)))/\(gr (Instr.makeMap 36 none) I λQ R=>gk 24 n o R/\gk 34 k l R/\(Ca pQ 46 #[l] R λS T=>gk 24 n o T/\(gp (Instr.build 38 #[(0,p),(1,S),(2,H),(3,Q),(4,o)]) λU=>gq 38 U T λV X=>f (V,()) X)))))/\(gr (Instr.makeMap 36 none) q λY aa=>gk 24 n o aa/\gk 34 k l aa/\((Ca pQ 46 #[l] aa λab ac=>gk 24 n o ac/\(gr (Instr.makeMap 35 none) ac λad ae=>gk 24 n o ae/\(gp (Instr.build 38 #[(0,p),(1,ab),(2,ad),(3,Y),(4,o)]) λaf=>gq 38 af ae λag ah=>f (ag,()) ah)))/\(gr (Instr.makeMap 35 none) aa λai aj=>gk 24 n o aj/\gk 34 k l aj/\(Ca pQ 46 #[l] aj λak al=>gk 24 n o al/\(gp (Instr.build 38 #[(0,p),(1,ak),(2,ai),(3,Y),(4,o)]) λam=>gq 38 am al λan ao=>f (an,()) ao)))))))/\(gr (Instr.makeMap 35 none) e.drew λap aq=>gk 24 n o aq/\gk 34 k l aq/\gk 33 h i aq/\((Ca pQ 45 #[i] aq λar au=>gk 24 n o au/\gk 34 k l au/\((Ca pQ 46 #[l] au λav aw=>gk 24 n o aw/\(gr (Instr.makeMap 36 none) aw λax ay=>gk 24 n o ay/\(gp (Instr.build 38 #[(0,ar),(1,av),(2,ap),(3,ax),(4,o)]) λaz=>gq 38 az ay λaA aB=>f (aA,()) aB)))/\(gr (Instr.makeMap 36 none) au λaC aD=>gk 24 n o aD/\gk 34 k l aD/\(Ca pQ 46 #[l] aD λaE aF=>gk 24 n o aF/\(gp (Instr.build 38 #[(0,ar),(1,aE),(2,ap),(3,aC),(4,o)]) λaG=>gq 38 aG aF λaH aI=>f (aH,()) aI)))))/\(gr (Instr.makeMap 36 none) aq λaJ aK=>gk 24 n o aK/\gk 34 k l aK/\gk 33 h i aK/\(Ca pQ 45 #[i] aK λaL aM=>gk 24 n o aM/\gk 34 k l aM/\(Ca pQ 46 #[l] aM λaN aO=>gk 24 n o aO/\(gp (Instr.build 38 #[(0,aL),(1,aN),(2,ap),(3,aJ),(4,o)]) λaP=>gq 38 aP aO λaQ aR=>f (aQ,()) aR))))))/\(gr (Instr.makeMap 36 none) e.drew λaS aT=>gk 24 n o aT/\gk 34 k l aT/\gk 33 h i aT/\((Ca pQ 45 #[i] aT λaU aV=>gk 24 n o aV/\gk 34 k l aV/\((Ca pQ 46 #[l] aV λaX aY=>gk 24 n o aY/\(gr (Instr.makeMap 35 none) aY λa0 a1=>gk 24 n o a1/\(gp (Instr.build 38 #[(0,aU),(1,aX),(2,a0),(3,aS),(4,o)]) λa2=>gq 38 a2 a1 λa3 a4=>f (a3,()) a4)))/\(gr (Instr.makeMap 35 none) aV λa5 a6=>gk 24 n o a6/\gk 34 k l a6/\(Ca pQ 46 #[l] a6 λa7 a8=>gk 24 n o a8/\(gp (Instr.build 38 #[(0,aU),(1,a7),(2,a5),(3,aS),(4,o)]) λa9=>gq 38 a9 a8 λba bb=>f (ba,()) bb)))))/\(gr (Instr.makeMap 35 none) aT λbc bd=>gk 24 n o bd/\gk 34 k l bd/\gk 33 h i bd/\(Ca pQ 45 #[i] bd λbe bf=>gk 24 n o bf/\gk 34 k l bf/\(Ca pQ 46 #[l] bf λbg bh=>gk 24 n o bh/\(gp (Instr.build 38 #[(0,be),(1,bg),(2,bc),(3,aS),(4,o)]) λbi=>gq 38 bi bh λbj bk=>f (bj,()) bk))))))) (Wv a Z))):Ca pQ 21 #[a] W Z:=cj Tryz.func21 h0
def aE7(h:ga 52 W λb c=>gr (Instr.build 52 #[(0,a)]) c λd e=>gs 52 b d e λf=>eP 52 b f λg=>Z g f):Ca pQ 33 #[a] W Z:=cj Tryz.func33 h
def an6(h0:gq 30 b W λc d=>ga 52 d λe f=>Ca pQ 27 #[a] f λg h=>gt g h λi j=>cV i (Ca pQ 33 #[(gI 1)] j λk l=>gs 52 e k l λm=>eP 52 e m λn=>Z n m) (gx (fH 30 c) j λo p=>Ca pQ 38 #[o] p λq r=>gt q r λs t=>cV s (Ca pQ 33 #[(gI 160)] t λu v=>gs 52 e u v λw=>eP 52 e w λx=>Z x w) (Ca pQ 21 #[a] t λy z=>gx (fH 30 c) z λA B=>Ca pQ 39 #[y,A] B λC D=>nR C D λE F G=>gv 52 E G λH I=>gE F I λJ K=>cV J (Ca pQ 33 #[F] K λL M=>gs 52 e L M λN=>eP 52 e N λO=>Z O N) (ez y λP=>gl 38 P K λQ R=>ez a λS=>gs 38 S Q R λT=>gl 52 H T λU V=>gs 52 e U V λX=>eP 52 e X λY=>Z Y X)))):Ca pQ 18 #[a,b] W Z:=cj Tryz.func18 h0
def WN(a:Vt_)(b:cG)(c:T1)(d:Wt_):=NV->gl 52 a d λe f=>gs 52 a e f λg=>eP 52 a g λh=>b (gT h c.1) g
def Wh(a:Vt_)(b:cG)(c:T1->Wp)(d:T2)(e:T1)(f:Wt_):=NV->gE e.1 f λg h=>cV g (gl 52 a h λi j=>gs 52 a i j λk=>eP 52 a k λl=>b (gT l e.1) k) (c (d.2.1,()) h)
def Sf(a b c:Vt_)(d:T1->Wp)(e:T1)(f:Wt_):=NV->dz 30 a 1 23 f λg h=>dz 30 a 2 23 h λi j=>Ca pQ 95 #[b,g,i] j λk l=>qM 52 c 5 49 k l λm=>d (e.1,()) m
def WV(a b:Vt_)(c:T2)(d:cG)(e:Unit)(f:Wt_):=NV->eP 52 a f.drew λg=>ez b λh=>gY 38 h 1 34 f.drew λi=>eP 70 c.1 f.drew λj=>Ca pQ 96 #[i,j] f.drew λk l=>gk 52 a g l/\(gs 52 a g l λm=>eP 52 a m λn=>d (gT n k) m)
def GW(a:Vt_)(b:cG)(c:T1)(d:Wt_):=NV->gl 52 a d λe f=>gs 52 a e f λg=>eP 52 a g λh=>b (gT h (gI 0)) g
def VI(a:Vt_)(b:cG)(c d:Vt_)(e:T2)(f:Wt_):=NV->gE e.2.1 f λg h=>cV g (gl 52 a h λi j=>gs 52 a i j λk=>eP 52 a k λl=>b (gT l e.2.1) k) (jW (λm=>dz 30 c 0 22 h λn o=>gC n 5 o λp q=>cV p (gx (fH 30 c) q λr s=>Ca pQ 92 #[d,r] s λt u=>nR t u λv w x=>gs 52 a v x λy=>eP 52 a y λz=>b (gT z w) y) (gC n 9 q λA B=>cV A (gx (fH 30 c) B λC D=>Ca pQ 93 #[d,C] D λE F=>nR E F λG H I=>gs 52 a G I λJ=>eP 52 a J λK=>b (gT K H) J) (gC n 8 B λL M=>cV L (jW (λN=>dz 30 c 2 23 M λO P=>gb .neq 23 true O (gU 0) P λQ R=>cV Q (jW (λS=>ez d λT=>kg 38 T 0 λU=>eP 33 U R.drew λV=>kg 30 c 2 λX=>eP 23 X R.drew λY=>(Ca pQ 94 #[V,Y] R.drew λaa ab=>gp (Instr.extract aa 0) λac=>gp (Instr.extract aa 1) λad=>gx (nE 83) ab λae af=>nj pQ (jH 83 ae ac) af λag=>S (ad,()) ag)/\(gx (nE 83) R.drew λah ai=>gk 23 X Y ai/\gk 33 U V ai/\(Ca pQ 94 #[V,Y] ai λaj ak=>gp (Instr.extract aj 0) λal=>gp (Instr.extract aj 1) λam=>nj pQ (jH 83 ah al) ak λan=>S (am,()) an))) (Wh a b N e)) (N (e.2.1,()) R)) (Sf c d a m)) (gC n 10 M λao ap=>cV ao (dz 30 c 6 4 ap λaq ar=>qM 70 e.1 2 4 aq ar λau=>dK (S:=Unit) (λav=>dz 30 c 6 4 au λaw ax=>cV aw (dz 30 c 1 23 ax λay az=>Ca pQ 95 #[d,ay,(gU 0)] az λaA aB=>qM 52 a 5 49 aA aB λaC=>av (()) aC) (av (()) ax)) (WV a d e b)) (gC n 13 ap λaD aE=>cV aD (gl 70 e.1 aE λaF aG=>Ca pQ 97 #[d,aF] aG λaH aI=>nR aH aI λaJ aK aL=>gs 52 a aJ aL λaM=>eP 52 a aM λaN=>b (gT aN aK) aM) (m (e.2.1,()) aE)))))) (GW a b))
def az6(h0:gq 30 b W λc d=>ga 52 d λe f=>dz 30 c 0 22 f λg h=>gC g 1 h λi j=>cV i (eP 52 e j.drew λk=>ez a λl=>gY 38 l 1 34 j.drew λm=>gY 30 c 1 23 j.drew λn=>gY 30 c 4 2 j.drew λo=>Ca pQ 82 #[m,n,o] j.drew λp q=>gk 52 e k q/\(gs 52 e k q λr=>eP 52 e r λs=>Z (gT s p) r)) (gC g 2 j λt u=>cV t (eP 52 e u.drew λv=>pS pQ (fH 30 c) u.drew λw=>Ca pQ 83 #[a,w] u.drew λx y=>gk 52 e v y/\(gs 52 e v y λz=>eP 52 e z λA=>Z (gT A x) z)) (gC g 3 u λB C=>cV B (jW (λD=>ez a λE=>gY 38 E 0 33 C.drew λF=>kg 30 c 5 λG=>pS pQ (fH 27 G) C.drew λH=>Ca pQ 84 #[F,H] C.drew λI J=>gb .eql 43 true I (gI 0) J λK L=>cV K (ez a λM=>kg 38 M 2 λN=>eP 35 N L.drew λO=>kg 30 c 5 λP=>kg 27 P 0 λQ=>eP 23 Q L.drew λR=>Ca pQ 85 #[] L.drew λS T=>gk 23 Q R T/\gk 35 N O T/\(nj pQ (nm 35 O R S) T λU=>D (I,()) U)) (D (I,()) L)) (WN e Z)) (gC g 4 C λV X=>cV V (eP 52 e X.drew λY=>ez a λaa=>gY 38 aa 0 33 X.drew λab=>gY 30 c 2 23 X.drew λac=>gY 30 c 6 4 X.drew λad=>Ca pQ 86 #[ab,ac,ad] X.drew λae af=>gk 52 e Y af/\(gs 52 e Y af λag=>eP 52 e ag λah=>Z (gT ah ae) ag)) (gC g 11 X λai aj=>cV ai (eP 52 e aj.drew λak=>ez a λal=>gY 38 al 0 33 aj.drew λam=>gY 30 c 2 23 aj.drew λan=>gY 30 c 9 2 aj.drew λao=>Ca pQ 87 #[am,an,ao] aj.drew λap aq=>gk 52 e ak aq/\(gs 52 e ak aq λar=>eP 52 e ar λau=>Z (gT au ap) ar)) (gC g 12 aj λav aw=>cV av (Ca pQ 88 #[a] aw λax ay=>nR ax ay λaz aA aB=>gs 52 e az aB λaC=>eP 52 e aC λaD=>Z (gT aD aA) aC) (gC g 14 aw λaE aF=>cV aE (dz 30 c 2 23 aF λaG aH=>Ca pQ 89 #[a,aG] aH λaI aJ=>nR aI aJ λaK aL aM=>gs 52 e aK aM λaN=>eP 52 e aN λaO=>Z (gT aO aL) aN) (dz 30 c 1 23 aF λaP aQ=>gb .eql 23 true aP (gU 0) aQ λaR aS=>cV aR (gl 52 e aS λaT aU=>gs 52 e aT aU λaV=>eP 52 e aV λaX=>Z (gT aX (gI 2)) aV) (dz 30 c 0 22 aS λaY a0=>gC aY 6 a0 λa1 a2=>cV a1 (gx (fH 30 c) a2 λa3 a4=>Ca pQ 90 #[a,a3] a4 λa5 a6=>nR a5 a6 λa7 a8 a9=>gs 52 e a7 a9 λba=>eP 52 e ba λbb=>Z (gT bb a8) ba) (gC aY 7 a2 λbc bd=>cV bc (gx (fH 30 c) bd λbe bf=>Ca pQ 91 #[a,be] bf λbg bh=>nR bg bh λbi bj bk=>gs 52 e bi bk λbl=>eP 52 e bl λbm=>Z (gT bm bj) bl) (dK (S:=T2) (λbn=>ez a λbo=>kg 38 bo 1 λbp=>eP 34 bp bd.drew λbq=>kg 30 c 1 λbr=>eP 23 br bd.drew λbs=>(Ca pQ 28 #[bq,bs] bd.drew λbt bu=>gp (Instr.extract bt 0) λbv=>gp (Instr.extract bt 1) λbw=>gv 70 bv bu λbx bz=>bn (bx,bw,()) bz)/\(ga 70 bd.drew λbA bB=>gk 23 br bs bB/\gk 34 bp bq bB/\(Ca pQ 28 #[bq,bs] bB λbC bD=>gp (Instr.extract bC 0) λbE=>gp (Instr.extract bC 1) λbG=>gs 70 bA bE bD λbH=>bn (bA,bG,()) bH))) (VI e Z c a)))))))))))):Ca pQ 39 #[a,b] W Z:=cj Tryz.func39 h0
def Vg(a:cG)(b c:Vt_)(d:T1)(e:Wt_):=NV->dz 70 d.1 3 4 e λf g=>cV f (a (gI 120) g) (dz 30 b 1 23 g λh i=>Ca pQ 124 #[c,h] i a)
def aw7(F:gq 30 b W λc d=>ez a λe=>gY 38 e 1 34 d.drew λf=>gY 30 c 1 23 d.drew λg=>gY 30 c 4 2 d.drew λh=>Ca pQ 123 #[f,g,h] d.drew λi j=>gE i j λk l=>cV k (Z i l) (jW (λm=>ez a λn=>kg 38 n 1 λo=>eP 34 o l.drew λp=>kg 30 c 1 λq=>eP 23 q l.drew λr=>(Ca pQ 28 #[p,r] l.drew λs t=>gp (Instr.extract s 0) λu=>gp (Instr.extract s 1) λv=>gv 70 u t λw x=>m (w,()) x)/\(ga 70 l.drew λy z=>gk 23 q r z/\gk 34 o p z/\(Ca pQ 28 #[p,r] z λA B=>gp (Instr.extract A 0) λC=>gp (Instr.extract A 1) λD=>gs 70 y C B λE=>m (y,()) E))) (Vg Z c a))):Ca pQ 83 #[a,b] W Z:=cj Tryz.func83 F
def VC(a b c d e f:Vt_)(g:Wp)(h:T1)(i:Wt_)(j:T1->Wp):=gc h.1 a i λk l=>cV k (uB 95 b h.1 74 l λm n=>gv 74 m n λo p=>gl 49 c p λq r=>dz 74 o 0 24 r λs t=>gx (jQ 49 1 [(0,s)]) t λu v=>gx (eg #[49,49] 49 [q,u]) v λw x=>gs 49 c w x λy=>g1 h.1 y λz A=>j (z,()) A) (eP 39 d l.drew λB=>ez B λC=>kg 38 C 3 λD=>eP 36 D l.drew λE=>eP 39 d l.drew λF=>ez F λG=>gY 38 G 3 36 l.drew λH=>pS pQ (ji 36 H e false) l.drew λI=>Ca pQ 146 #[I,(.func (.func 147) #[] #[f,c])] l.drew λJ K=>gk 36 D E K/\gk 39 d B K/\(nj pQ (nm 36 E e J) K g))
def Vr(a:Wp)(b c d e:Vt_)(f:T1)(g:Wt_):=NV->cV f.1 (a g) (eP 39 b g.drew λh=>ez h λi=>gY 38 i 2 35 g.drew λj=>pS pQ (ji 35 j c false) g.drew λk=>eP 23 d g.drew λl=>Ca pQ 135 #[k,l] g.drew λm n=>gw (Builtin.len_ #[95] 3 #[m]) n λo=>qA (VC o m e b c d a) ((gI 0),()) n)
def UK(a b c d:Vt_)(e:Nat)(f:LV_)(g:Wt_)(h:Wp)(i:Code->Wp):=gx (nE 83) g λj k=>nj pQ (jH 83 j (f.getD 0 undef)) k λl=>lC e l λm=>gf 83 j 0 m λn o=>dz 27 n 0 23 o λp q=>jW (λr=>gl 23 a q λs t=>gb .neq 23 true s (gU 0) t λu v=>cV u (gl 23 a v λw x=>gb .neq 23 false w p x λy z=>r (y,()) z) (r (bF,()) v)) (Vr h b p c d)
def VU(a:Vt_)(b:cG)(c:List Nat)(d:Option Code)(e:Wt_):=iJ (λf=>gl 49 a f λg h=>gs 49 a g h λi=>lj (c++[]) i λj=>eP 49 a j λk=>b k j) (λl=>lj (c++[]) l λm=>eP 49 a m λn=>b n m) (λo p=>bc (Nat.beq o 0) (gl 49 a p λq r=>gs 49 a q r λs=>lj (c++[]) s λt=>eP 49 a t λu=>b u t) (False)) d e
def ay5(s:gq 39 a W λd e=>gq 23 b e λf g=>gq 23 c g λh i=>ga 49 i λj k=>gl 39 d k λl m=>ez l λn=>dz 38 n 0 33 m λo p=>Ca pQ 29 #[o] p λq r=>yP pQ none q r 1 (UK h d f j) (VU j Z)):Ca pQ 95 #[a,b,c] W Z:=cj Tryz.func95 s
def RC(a b:Vt_)(c:cG)(d:Unit)(e:Wt_):=NV->dz 74 a 1 23 e λf g=>gl 23 b g λh i=>gb .eql 23 false f h i c
def al3(v:gq 74 a W λd e=>dK (S:=Unit) (λf=>dz 74 d 1 23 e λg h=>gl 23 b h λi j=>gb .eql 23 false g i j λk l=>cV k (gl 49 c l λm n=>dz 74 d 0 24 n λo p=>gx (jQ 49 1 [(0,o)]) p λq r=>gx (eg #[49,49] 49 [m,q]) r λs t=>gs 49 c s t λu=>f (()) u) (f (()) l)) (RC d b Z)):Ca pQ 147 #[a,b,c] W Z:=cj Tryz.func147 v
def Rg(a b c:Vt_)(d:cG)(e:T3)(f:Wt_)(g:T3->Wp):=gc e.2.2.1 a f λh i=>cV h (uB 95 b e.2.2.1 74 i λj k=>gv 74 j k λl m=>dz 74 l 1 23 m λn o=>gb .neq 23 false n c o λp q=>cV p (g1 e.2.2.1 q λr s=>g (e.1,e.2.1,r,()) s) (dz 74 l 2 4 q λt u=>cV t (dz 74 l 4 2 u λv w=>gb .add 2 false e.1 v w λx y=>g1 e.2.2.1 y λz A=>g (x,e.2.1,z,()) A) (dz 74 l 4 2 u λB C=>gb .add 2 false e.2.1 B C λD E=>g1 e.2.2.1 E λF G=>g (e.1,D,F,()) G))) (d (gT e.1 e.2.1) i)
def ad4(u:ez a λd=>dz 38 d 2 35 W λe f=>gx (ji 35 e b false) f λg h=>Ca pQ 206 #[g,c] h λi j=>nR i j λk l m=>ez a λn=>dz 38 n 3 36 m λo p=>gx (ji 36 o b false) p λq r=>gn 95 false q r λs t=>qC (Rg s q c Z) (k,l,(gI 0),()) t):Ca pQ 171 #[a,b,c] W Z:=cj Tryz.func171 u
def Ot(a b c d e:Vt_)(f:Wp)(g:T1)(h:Wt_)(i:T1->Wp):=gc g.1 a h λj k=>cV j (uB 95 b g.1 74 k λl m=>gv 74 l m λn o=>dz 74 n 1 23 o λp q=>gl 23 c q λr s=>gb .eql 23 false p r s λt u=>cV t (dz 97 d 3 95 u λv w=>gl 74 n w λx y=>gx (jQ 95 1 [(0,x)]) y λz A=>gx (eg #[95,95] 95 [v,z]) A λB C=>qM 97 d 3 95 B C λD=>g1 g.1 D λE F=>i (E,()) F) (g1 g.1 u λG H=>i (G,()) H)) (gl 88 e k λI J=>gx (fH 97 d) J λK L=>gx (jQ 88 1 [(0,K)]) L λM N=>gx (eg #[88,88] 88 [I,M]) N λO P=>gs 88 e O P f)
def U3(a b:Vt_)(c:Nat)(d:LV_)(e:Wt_)(f:Wp)(g:Code->Wp):=gv 74 (d.getD 0 undef) e λh i=>lC c i λj=>dz 74 h 1 23 j λk l=>gl 23 a l λm n=>gb .eql 23 false k m n λo p=>cV o (dz 97 b 3 95 p λq r=>gl 74 h r λs t=>gx (jQ 95 1 [(0,s)]) t λu v=>gx (eg #[95,95] 95 [q,u]) v λw x=>qM 97 b 3 95 w x f) (f p)
def UJ(a b c d e:Vt_)(f:Wp)(g:Code->Wp)(h:List Nat)(i:Option Code)(j:Wt_):=iJ (λk=>gl 39 a k λl m=>ez l λn=>dz 38 n 3 36 m λo p=>gx (ji 36 o b false) p λq r=>gn 95 false q r λs t=>qA (Ot s q c d e f) ((gI 0),()) t) (λu=>g .ret u) (λv w=>bc (Nat.beq v 2) (gl 39 a w λx y=>ez x λz=>dz 38 z 3 36 y λA B=>gx (ji 36 A b false) B λC D=>gn 95 false C D λE F=>qA (Ot E C c d e f) ((gI 0),()) F) (bc (Nat.beq v 1) (f w) (g (.exit v) w))) i j
def UZ(a b c:Vt_)(d:Nat)(e f:Vt_)(g:Wp)(h:Code->Wp)(i:T1)(j:Wt_):=NV->gf 83 a 0 j λk l=>gx (fH 27 k) l λm n=>dz 79 i.1 2 2 n λo p=>gx (rB 94 #[(0,m),(1,o)]) p λq r=>dz 79 i.1 3 2 r λs t=>dz 83 a 2 2 t λu v=>gx (rB 97 #[(0,q),(1,s),(2,u)]) v λw x=>gx (nE 97) x λy z=>nj pQ (jH 97 y w) z λA=>gl 39 b A λB C=>ez B λD=>dz 38 D 2 35 C λE F=>gx (ji 35 E c false) F λG H=>Ca pQ 31 #[G] H λI J=>yP pQ (some d) I J 1 (U3 e y) (UJ b c e y f g h)
def Xc(a b c:Vt_)(d:Nat)(e:LV_)(f:Wt_)(g:Wp)(h:Code->Wp):=gx (nE 83) f λi j=>nj pQ (jH 83 i (e.getD 0 undef)) j λk=>lC d k λl=>dz 83 i 1 81 l λm n=>gb .eql 81 true m (gB 3) n λo p=>cV o (g p) (gf 83 i 0 p λq r=>dz 27 q 0 23 r λs t=>jW (λu=>eP 39 a t.drew λv=>ez v λw=>kg 38 w 1 λx=>eP 34 x t.drew λy=>eP 23 b t.drew λz=>(Ca pQ 30 #[y,s,z] t.drew λA B=>gv 79 A B λC D=>u (C,()) D)/\(ga 79 t.drew λE F=>gk 23 b z F/\gk 34 x y F/\gk 39 a v F/\(Ca pQ 30 #[y,s,z] F λG H=>gs 79 E G H λI=>u (E,()) I))) (UZ i a s d b c g h))
def WP(a b:Vt_)(c:cG)(d:List Nat)(e:Option Code)(f:Wt_):=iJ (λg=>gl 88 a g λh i=>Ca pQ 32 #[h] i λj k=>nR j k λl m n=>gs 42 b l n λo=>lj (d++[]) o λp=>eP 42 b p λq=>c (gT q m) p) (λr=>lj (d++[]) r λs=>eP 42 b s λt=>c (gT t (gI 0)) s) (λu v=>bc (Nat.beq u 0) (gl 88 a v λw x=>Ca pQ 32 #[w] x λy z=>nR y z λA B C=>gs 42 b A C λD=>lj (d++[]) D λE=>eP 42 b E λF=>c (gT F B) E) (False)) e f
def V0(a:Vt_)(b:cG)(c d:Vt_)(e:T1)(f:Wt_):=NV->cV e.1 (gr (Instr.build 42 #[]) f λg h=>gs 42 a g h λi=>eP 42 a i λj=>b (gT j (gI 7)) i) (ga 88 f λk l=>gl 39 c l λm n=>ez m λo=>dz 38 o 0 33 n λp q=>Ca pQ 29 #[p] q λr s=>yP pQ none r s 1 (Xc c d k) (WP k a b))
def Vf(a b:Vt_)(c:cG)(d:Vt_)(e:T1)(f:Wt_):=NV->jW (λg=>gE e.1 f λh i=>cV h (g (bT,()) i) (gl 23 a i λj k=>gb .eql 23 true j (gU 0) k λl m=>g (l,()) m)) (V0 b c d a)
def ad7(L:gq 39 a W λc d=>gq 23 b d λe f=>ga 42 f λg h=>gl 39 c h λi j=>Ca pQ 27 #[i] j λk l=>gt k l λm n=>cV m (gr (Instr.build 42 #[]) n λo p=>gs 42 g o p λq=>eP 42 g q λr=>Z (gT r (gI 1)) q) (jW (λs=>eP 39 c n.drew λt=>ez t λu=>kg 38 u 1 λv=>eP 34 v n.drew λw=>eP 23 e n.drew λx=>(Ca pQ 28 #[w,x] n.drew λy z=>gp (Instr.extract y 0) λA=>gp (Instr.extract y 1) λB=>gv 70 A z λC D=>s (B,()) D)/\(ga 70 n.drew λE F=>gk 23 e x F/\gk 34 v w F/\gk 39 c t F/\(Ca pQ 28 #[w,x] F λG H=>gp (Instr.extract G 0) λI=>gp (Instr.extract G 1) λJ=>gs 70 E I H λK=>s (J,()) K))) (Vf e g Z c))):Ca pQ 14 #[a,b] W Z:=cj Tryz.func14 L
def ar3(B:Ca pQ 14 #[a,b] W λc d=>nR c d λe f g=>gv 42 e g λh i=>gE f i λj k=>cV j (Z f k) (ez a λl=>dz 38 l 1 34 k λm n=>Ca pQ 28 #[m,b] n λo p=>nR o p λq r s=>gv 70 q s λt u=>kg 70 t 1 λv=>eP 2 v u.drew λw=>eP 42 h u.drew λx=>Ca pQ 158 #[x] u.drew λy z=>gk 2 v w z/\(my .lss 2 false w y λA=>cV A (Z (gI 161) z) (Z (gI 0) z)))):Ca pQ 124 #[a,b] W Z:=cj Tryz.func124 B
def Q9(a b c d e f g h:Vt_)(i:cG)(j:T2)(k:Wt_):=NV->pS pQ (fH 83 a) k.drew λl=>eP 70 b k.drew λm=>ez c λn=>gY 38 n 1 34 k.drew λo=>Ca pQ 30 #[o,d,e] k.drew λp q=>gk 70 b m q/\Sem.run pQ (fH 83 a) q=.ok l q/\(gp (Instr.field 79 p 2) λr=>DS pQ (rB 272 #[(0,l),(1,m),(2,r),(3,j.1),(4,j.2.1),(5,f),(6,g),(7,h)]) λs=>Ca pQ 172 #[s] q i)
def ac1(h0:gq 74 g W λh i=>ez a λj=>dz 38 j 1 34 i λk l=>Ca pQ 28 #[k,b] l λm n=>nR m n λo p q=>gv 70 o q λr s=>gE p s λt u=>cV t (Z p u) (ez a λv=>dz 38 v 0 33 u λw x=>Ca pQ 94 #[w,c] x λy z=>nR y z λA B C=>gx (nE 83) C λD E=>nj pQ (jH 83 D A) E λF=>gE B F λG H=>cV G (Z B H) (Ca pQ 171 #[a,c,b] H λI J=>nR I J λK L M=>dK (S:=T2) (λN=>dz 74 h 2 4 M λO P=>cV O (dz 74 h 4 2 P λQ R=>gb .sub 2 false K Q R λS T=>N (S,L,()) T) (dz 74 h 4 2 P λU V=>gb .sub 2 false L U V λX Y=>N (K,X,()) Y)) (Q9 D r a c b d e f Z)))):Ca pQ 141 #[a,b,c,d,e,f,g] W Z:=cj Tryz.func141 h0
def PZ(a b c d:Vt_)(e:cG)(f:T2)(g:T2->Wp)(h:T2)(i:Wt_):=NV->ez a λj=>gY 38 j 1 34 i.drew λk=>gY 111 b 0 2 i.drew λl=>gY 111 b 1 2 i.drew λm=>Ca pQ 175 #[k,c,h.1,h.2.1,l,m] i.drew λn o=>gE n o λp q=>cV p (gr (Instr.build 52 #[]) q λr s=>gs 52 d r s λt=>eP 52 d t λu=>e (gT u n) t) (g1 f.2.1 q λv w=>g (f.1,v,()) w)
def RI(a b c d e f:Vt_)(g:cG)(h:Vt_)(i:T2)(j:Wt_)(k:T2->Wp):=gc i.2.1 a j λl m=>cV l (uB 48 b i.2.1 111 m λn o=>gv 111 n o λp q=>gY 74 c 1 23 q.drew λr=>kg 111 p 3 λs=>eP 23 s q.drew λt=>Sem.run pQ (iL 23 s) q.drew=.ok t q.drew/\(dK (S:=T2) (λu=>gf 74 c 2 q.drew λv w=>gl 4 v w λx y=>gt x y λz A=>cV z (u (t,r,()) A) (u (r,t,()) A)) (PZ d p e f g i k))) (kg 74 c 0 λB=>eP 24 B m.drew λC=>kg 230 h 2 λD=>eP 2 D m.drew λE=>kg 230 h 3 λF=>eP 2 F m.drew λG=>kg 230 h 0 λH=>eP 48 H m.drew λI=>kg 230 h 1 λJ=>eP 49 J m.drew λK=>gp (Instr.build 52 #[(1,C),(2,E),(3,G),(4,I),(5,K)]) λL=>gY 74 c 1 23 m.drew λM=>Ca pQ 124 #[d,M] m.drew λN O=>gk 49 J K O/\gk 48 H I O/\gk 2 F G O/\gk 2 D E O/\gk 24 B C O/\(gs 52 f L O λP=>eP 52 f P λQ=>g (gT Q N) P))
def ar8(o:gq 74 c W λe f=>gq 230 d f λg h=>ga 52 h λi j=>dz 230 g 0 48 j λk l=>gn 48 false k l λm n=>qB (RI m k e a b i Z g) ((gI 0),(gI 0),()) n):Ca pQ 143 #[a,b,c,d] W Z:=cj Tryz.func143 o
def ad5(s:ez a λb=>dz 38 b 4 24 W λc d=>gb .gtr 24 true c (gQ 4611686018427387904) d λe f=>cV e (Z (gT (gQ 0) (gI 6)) f) (ez a λg=>dz 38 g 4 24 f λh i=>gb .add 24 true h (gQ 1) i λj k=>ez a λl=>qM 38 l 4 24 j k λm=>ez a λn=>dz 38 n 4 24 m λo p=>gb .sub 24 true o (gQ 1) p λq r=>Z (gT q (gI 0)) r)):Ca pQ 176 #[a] W Z:=cj Tryz.func176 s
def am0(R:gq 30 b W λc d=>ga 74 d λe f=>dz 30 c 1 23 f λg h=>dz 30 c 2 23 h λi j=>dz 30 c 7 4 j λk l=>dz 30 c 9 2 l λm n=>dz 30 c 10 2 n λo p=>gr (Instr.build 74 #[]) p λq r=>Ca pQ 141 #[a,g,i,k,m,o,q] r λs t=>gE s t λu v=>cV u (gl 74 e v λw x=>gs 74 e w x λy=>eP 74 e y λz=>Z (gT z s) y) (Ca pQ 176 #[a] v λA B=>nR A B λC D E=>dz 30 c 1 23 E λF G=>dz 30 c 7 4 G λH I=>dz 30 c 9 2 I λJ K=>dz 30 c 10 2 K λL M=>gr (Instr.build 74 #[(0,C),(1,F),(2,H),(3,J),(4,L)]) M λN O=>gs 74 e N O λP=>eP 74 e P λQ=>Z (gT Q D) P)):Ca pQ 144 #[a,b] W Z:=cj Tryz.func144 R
def WD(a:Vt_)(b:cG)(c d e:Vt_)(f:T2)(g:Wt_):=NV->gE f.2.1 g λh i=>cV h (gl 52 a i λj k=>gs 52 a j k λl=>eP 52 a l λm=>b (gT m f.2.1) l) (dz 30 c 2 23 i λn o=>gl 74 d o λp q=>gl 230 f.1 q λr s=>Ca pQ 143 #[e,n,p,r] s λt u=>nR t u λv w x=>gs 52 a v x λy=>eP 52 a y λz=>b (gT z w) y)
def az2(T:gq 30 b W λc d=>ga 52 d λe f=>gx (fH 30 c) f λg h=>Ca pQ 144 #[a,g] h λi j=>nR i j λk l m=>gv 74 k m λn o=>gE l o λp q=>cV p (gl 52 e q λr s=>gs 52 e r s λt=>eP 52 e t λu=>Z (gT u l) t) (dK (S:=T2) (λv=>ez a λw=>kg 38 w 2 λx=>eP 35 x q.drew λy=>kg 30 c 2 λz=>eP 23 z q.drew λA=>pS pQ (ji 35 y A false) q.drew λB=>eP 74 n q.drew λC=>kg 30 c 8 λD=>eP 28 D q.drew λE=>(Ca pQ 145 #[B,C,E] q.drew λF G=>gp (Instr.extract F 0) λH=>gp (Instr.extract F 1) λI=>gv 230 H G λJ K=>v (J,I,()) K)/\(ga 230 q.drew λL M=>gk 28 D E M/\gk 74 n C M/\Sem.run pQ (ji 35 y A false) M=.ok B M/\gk 23 z A M/\gk 35 x y M/\(Ca pQ 145 #[B,C,E] M λN O=>gp (Instr.extract N 0) λP=>gp (Instr.extract N 1) λQ=>gs 230 L P O λR=>v (L,Q,()) R))) (WD e Z c n a))):Ca pQ 92 #[a,b] W Z:=cj Tryz.func92 T
def aA6(h0:gq 30 b W λc d=>ga 52 d λe f=>gx (fH 30 c) f λg h=>Ca pQ 144 #[a,g] h λi j=>nR i j λk l m=>gv 74 k m λn o=>gE l o λp q=>cV p (gl 52 e q λr s=>gs 52 e r s λt=>eP 52 e t λu=>Z (gT u l) t) (ez a λv=>gY 38 v 3 36 q.drew λw=>gY 30 c 2 23 q.drew λx=>pS pQ (ji 36 w x false) q.drew λy=>gw (Builtin.len_ #[95] 3 #[y]) q.drew λz=>my .geq 3 true z (gI 50) λA=>cV A (gl 52 e q.drew λB C=>gs 52 e B C λD=>eP 52 e D λE=>Z (gT E (gI 9)) D) (ez a λF=>kg 38 F 3 λG=>eP 36 G q.drew.drew λH=>kg 30 c 2 λI=>eP 23 I q.drew.drew λJ=>ez a λK=>kg 38 K 3 λL=>eP 36 L q.drew.drew λM=>kg 30 c 2 λN=>eP 23 N q.drew.drew λO=>pS pQ (ji 36 M O false) q.drew.drew λP=>eP 74 n q.drew.drew λQ=>gx (jQ 95 1 [(0,Q)]) q.drew.drew λR S=>Sem.run pQ (ji 36 M O false) S=.ok P S/\gk 23 N O S/\gk 36 L M S/\gk 23 I J S/\gk 36 G H S/\(gx (eg #[95,95] 95 [P,R]) S λT U=>gk 23 I J U/\gk 36 G H U/\(nj pQ (nm 36 H J T) U λV=>kg 74 n 0 λX=>eP 24 X V.drew λY=>kg 74 n 4 λaa=>eP 2 aa V.drew λab=>gp (Instr.build 52 #[(1,Y),(3,ab)]) λac=>gY 30 c 1 23 V.drew λad=>Ca pQ 124 #[a,ad] V.drew λae af=>gk 2 aa ab af/\gk 24 X Y af/\(gs 52 e ac af λag=>eP 52 e ag λah=>Z (gT ah ae) ag)))))):Ca pQ 93 #[a,b] W Z:=cj Tryz.func93 h0
def FD(a b:Vt_)(c:cG)(d:Vt_)(e:T1->Wp)(f g:T1)(h:Wt_):=NV->cV g.1 (gl 74 a h λi j=>gs 74 b i j λk=>eP 74 b k λl=>c (gT l d) k) (e (f.1,()) h)
def PK(a b c d:Vt_)(e:cG)(f:T1)(g:Wt_)(h:T1->Wp):=NV->gx (wh a false 0) g λi j=>ge i 0 j λk l=>cV k (gx (uf a) l λm n=>nR m n λo p q=>Ca pQ 168 #[p,b] q λr s=>nR r s λt u v=>gv 74 t v λw x=>jW (λy=>gb .eql 43 true u (gI 0) x λz A=>cV z (dz 74 w 1 23 A λB C=>gb .eql 23 false B c C λD E=>y (D,()) E) (y (bF,()) A)) (FD w d e o h f)) (gr (Instr.build 74 #[]) l λF G=>gs 74 d F G λH=>eP 74 d H λI=>e (gT I (gU 0)) H)
def Z3(k:ga 74 W λd e=>ez a λf=>dz 38 f 2 35 e λg h=>gx (ue 35 g) h λi j=>qA (PK i c b d Z) ((gU 0),()) j):Ca pQ 136 #[a,b,c] W Z:=cj Tryz.func136 k
def UX(a b c d:Vt_)(e:cG)(f:T1)(g:Wt_)(h:T1->Wp):=NV->gx (wh a false 0) g λi j=>ge i 0 j λk l=>cV k (gx (uf a) l λm n=>nR m n λo p q=>Ca pQ 138 #[p,(.func (.func 139) #[] #[b])] q λr s=>gb .geq 3 true r (gI 0) s λt u=>cV t (gY 30 b 3 24 u.drew λv=>mf 95 p r λw=>gY 74 w 4 2 u.drew λx=>gp (Instr.build 52 #[(1,v),(3,x)]) λy=>gs 52 c y u.drew λz=>ez d λA=>kg 38 A 3 λB=>eP 36 B z.drew λC=>my .add 3 true r (gI 1) λD=>Ca pQ 140 #[p,r,D] z.drew λE F=>gk 36 B C F/\(nj pQ (nm 36 C o E) F λG=>gl 52 c G λH I=>gs 52 c H I λJ=>eP 52 c J λK=>e (gT K (gI 0)) J)) (h (f.1,()) u)) (gl 52 c l λL M=>gs 52 c L M λN=>eP 52 c N λO=>e (gT O (gI 7)) N)
def av7(O:gq 30 b W λc d=>ga 52 d λe f=>dz 30 c 1 23 f λg h=>dz 30 c 3 24 h λi j=>Ca pQ 136 #[a,g,i] j λk l=>nR k l λm n o=>gv 74 m o λp q=>gb .neq 23 true n (gU 0) q λr s=>cV r (ez a λt=>gY 38 t 2 35 s.drew λu=>pS pQ (ji 35 u n false) s.drew λv=>gY 30 c 3 24 s.drew λw=>Ca pQ 137 #[v,w] s.drew λx y=>gp (Instr.extract x 0) λz=>gp (Instr.extract x 1) λA=>dz 30 c 3 24 y λB C=>dz 74 p 4 2 C λD E=>gr (Instr.build 52 #[(1,B),(3,D)]) E λF G=>gs 52 e F G λH=>eP 52 e H λI=>Z (gT I A) H) (ez a λJ=>dz 38 J 3 36 s λK L=>gx (ue 36 K) L λM N=>qA (UX M c e a Z) ((gI 0),()) N)):Ca pQ 90 #[a,b] W Z:=cj Tryz.func90 O
def ad8(o:gq 74 a W λc d=>dz 74 c 0 24 d λe f=>dz 30 b 3 24 f λg h=>gb .eql 24 false e g h λi j=>cV i (dz 74 c 1 23 j λk l=>dz 30 b 1 23 l λm n=>gb .eql 23 false k m n Z) (Z bF j)):Ca pQ 139 #[a,b] W Z:=cj Tryz.func139 o
def VV(a:Vt_)(b:cG)(c d e:Vt_)(f:T2)(g:Wt_):=NV->gE f.2.1 g λh i=>cV h (gl 52 a i λj k=>gs 52 a j k λl=>eP 52 a l λm=>b (gT m f.2.1) l) (gl 74 c i λn o=>gl 230 f.1 o λp q=>Ca pQ 143 #[d,e,n,p] q λr s=>nR r s λt u v=>gs 52 a t v λw=>eP 52 a w λx=>b (gT x u) w)
def aB2(h0:gq 30 b W λc d=>ga 52 d λe f=>dz 30 c 1 23 f λg h=>dz 30 c 3 24 h λi j=>Ca pQ 136 #[a,g,i] j λk l=>nR k l λm n o=>gv 74 m o λp q=>gb .eql 23 true n (gU 0) q λr s=>cV r (gl 52 e s λt u=>gs 52 e t u λv=>eP 52 e v λw=>Z (gT w (gI 7)) v) (dz 30 c 1 23 s λx y=>dz 74 p 2 4 y λz A=>dz 30 c 9 2 A λB C=>dz 30 c 10 2 C λD E=>gl 74 p E λF G=>Ca pQ 141 #[a,x,n,z,B,D,F] G λH I=>gE H I λJ K=>cV J (gl 52 e K λL M=>gs 52 e L M λN=>eP 52 e N λO=>Z (gT O H) N) (dK (S:=T2) (λP=>ez a λQ=>kg 38 Q 2 λR=>eP 35 R K.drew λS=>pS pQ (ji 35 S n false) K.drew λT=>kg 30 c 3 λU=>eP 24 U K.drew λV=>kg 30 c 9 λX=>eP 2 X K.drew λY=>kg 30 c 10 λaa=>eP 2 aa K.drew λab=>(Ca pQ 142 #[T,V,Y,ab] K.drew λac ad=>gp (Instr.extract ac 0) λae=>gp (Instr.extract ac 1) λaf=>gv 230 ae ad λag ah=>P (ag,af,()) ah)/\(ga 230 K.drew λai aj=>gk 2 aa ab aj/\gk 2 X Y aj/\gk 24 U V aj/\Sem.run pQ (ji 35 S n false) aj=.ok T aj/\gk 35 R S aj/\(Ca pQ 142 #[T,V,Y,ab] aj λak al=>gp (Instr.extract ak 0) λam=>gp (Instr.extract ak 1) λan=>gs 230 ai am al λao=>P (ai,an,()) ao))) (VV e Z p a n)))):Ca pQ 91 #[a,b] W Z:=cj Tryz.func91 h0
def RW(a:Vt_)(b:T1)(c:Vt_)(d:List Nat)(e:cG)(f:T2)(g:T2->Wp)(h:Unit)(i:Wt_):=NV->ez a λj=>gY 38 j 1 34 i.drew λk=>eP 70 b.1 i.drew λl=>Ca pQ 96 #[k,l] i.drew λm n=>gE m n λo p=>cV o (gl 52 c p λq r=>gs 52 c q r λs=>lj (d++[]) s λt=>eP 52 c t λu=>e (gT u m) t) (g1 f.2.1 p λv w=>g (m,v,()) w)
def RH(a b c:Vt_)(d:List Nat)(e:cG)(f:T2)(g:T2->Wp)(h:T1)(i:Wt_):=NV->dz 264 a 1 2 i λj k=>qM 70 h.1 1 2 j k λl=>dK (S:=Unit) (λm=>dz 264 a 2 4 l λn o=>cV n (qM 70 h.1 3 4 bT o λp=>dz 52 b 6 50 p λq r=>dz 264 a 0 23 r λs t=>gx (jQ 50 1 [(0,s)]) t λu v=>gx (eg #[50,50] 50 [q,u]) v λw x=>qM 52 b 6 50 w x λy=>kg 52 b 5 λz=>eP 49 z y.drew λA=>gY 264 a 0 23 y.drew λB=>Ca pQ 95 #[c,B,(gU 0)] y.drew λC D=>gk 49 z A D/\(gx (eg #[49,49] 49 [A,C]) D λE F=>kg 52 b 5 λG=>gs 49 G E F λH=>m (()) H)) (m (()) o)) (RW c h b d e f g)
def I9(a b c d:Vt_)(e:List Nat)(f:cG)(g:Vt_)(h:T2)(i:Wt_)(j:T2->Wp):=gc h.2.1 a i λk l=>cV k (uB 260 b h.2.1 264 l λm n=>gv 264 m n λo p=>jW (λq=>ez c λr=>kg 38 r 1 λs=>eP 34 s p.drew λt=>kg 264 o 0 λu=>eP 23 u p.drew λv=>(Ca pQ 28 #[t,v] p.drew λw x=>gp (Instr.extract w 0) λy=>gp (Instr.extract w 1) λz=>gv 70 y x λA B=>q (A,()) B)/\(ga 70 p.drew λC D=>gk 23 u v D/\gk 34 s t D/\(Ca pQ 28 #[t,v] D λE F=>gp (Instr.extract E 0) λG=>gp (Instr.extract E 1) λH=>gs 70 C G F λI=>q (C,()) I))) (RH o d c e f h j)) (eP 52 d l.drew λJ=>ez c λK=>gY 38 K 1 34 l.drew λL=>gp (Instr.build 70 #[(1,g)]) λM=>Ca pQ 96 #[L,M] l.drew λN O=>gk 52 d J O/\(gs 52 d J O λP=>lj (e++[]) P λQ=>eP 52 d Q λR=>f (gT R N) Q))
def Pn(a b:Vt_)(c:Nat)(d:LV_)(e:Wt_)(f:Wp)(g:Code->Wp):=gv 70 (d.getD 0 undef) e λh i=>lC c i λj=>gl 257 a j λk l=>dz 70 h 0 23 l λm n=>dz 70 h 1 2 n λo p=>gl 217 b p λq r=>dz 70 h 0 23 r λs t=>gx (ji 217 q s false) t λu v=>gr (Instr.build 259 #[(0,m),(1,o),(2,u)]) v λw x=>gx (jQ 257 1 [(0,w)]) x λy z=>gx (eg #[257,257] 257 [k,y]) z λA B=>gs 257 a A B f
def R7(a b c:Vt_)(d:cG)(e:List Nat)(f:Option Code)(g:Wt_):=iJ (λh=>ez a λi=>dz 38 i 1 34 h λj k=>Ca pQ 28 #[j,(gU 0)] k λl m=>nR l m λn o p=>gv 70 n p λq r=>dz 70 q 1 2 r λs t=>gl 257 b t λu v=>Ca pQ 164 #[s,u] v λw x=>nR w x λy z A=>ge w 2 A λB C=>gE B C λD E=>cV D (gl 52 c E λF G=>gs 52 c F G λH=>lj (e++[]) H λI=>eP 52 c I λJ=>d (gT J B) I) (gn 260 false y E λK L=>qB (I9 K y a c e d z) (B,(gI 0),()) L)) (λM=>lj (e++[]) M λN=>eP 52 c N λO=>d (gT O (gI 0)) N) (λP Q=>bc (Nat.beq P 0) (ez a λR=>dz 38 R 1 34 Q λS T=>Ca pQ 28 #[S,(gU 0)] T λU V=>nR U V λX Y aa=>gv 70 X aa λab ac=>dz 70 ab 1 2 ac λad ae=>gl 257 b ae λaf ag=>Ca pQ 164 #[ad,af] ag λah ai=>nR ah ai λaj ak al=>ge ah 2 al λam an=>gE am an λao ap=>cV ao (gl 52 c ap λaq ar=>gs 52 c aq ar λau=>lj (e++[]) au λav=>eP 52 c av λaw=>d (gT aw am) av) (gn 260 false aj ap λax ay=>qB (I9 ax aj a c e d ak) (am,(gI 0),()) ay)) (False)) f g
def Z2(n:gq 217 b W λc d=>ga 52 d λe f=>ga 257 f λg h=>ez a λi=>dz 38 i 1 34 h λj k=>Ca pQ 43 #[j] k λl m=>yP pQ none l m 1 (Pn g c) (R7 a g e Z)):Ca pQ 131 #[a,b] W Z:=cj Tryz.func131 n
def Pl(a b c:Vt_)(d:cG)(e:Vt_)(f:T1)(g:Wt_)(h:T1->Wp):=gc f.1 a g λi j=>cV i (uB 252 b f.1 256 j λk l=>gv 256 k l λm n=>dz 256 m 0 23 n λo p=>gx (ji 217 c o false) p λq r=>dz 256 m 1 2 r λs t=>gb .add 2 false q s t λu v=>nj pQ (nm 217 c o u) v λw=>g1 f.1 w λx y=>h (x,()) y) (d e j)
def ak9(r:gq 83 b W λe f=>ez a λg=>gY 38 g 1 34 f.drew λh=>kg 83 e 0 λi=>gY 27 i 0 23 f.drew λj=>gY 83 e 2 2 f.drew λk=>Ca pQ 163 #[h,j,k,c] f.drew λl m=>gp (Instr.extract l 0) λn=>gp (Instr.extract l 1) λo=>gn 252 false n m λp q=>qA (Pl p n d Z o) ((gI 0),()) q):Ca pQ 130 #[a,b,c,d] W Z:=cj Tryz.func130 r
def PT(a b c:Vt_)(d:Wp)(e:T1)(f:Wt_):=NV->cV e.1 (qM 70 a 3 4 bF f λg=>eP 39 b g.drew λh=>ez h λi=>gY 38 i 1 34 g.drew λj=>eP 70 a g.drew λk=>Ca pQ 96 #[j,k] g.drew λl m=>gs 43 c l m d) (d f)
def WE(a:Vt_)(b:Nat)(c:LV_)(d:Wt_)(e:Wp)(f:Code->Wp):=lC b d λg=>gs 4 a bT g e
def Rf(a b c d e:Vt_)(f:Wp)(g:Code->Wp)(h:List Nat)(i:Option Code)(j:Wt_):=iJ (λk=>jW (λl=>dz 70 a 3 4 k λm n=>cV m (gl 4 b n λo p=>gt o p λq r=>cV q (dz 52 c 6 50 r λs t=>dz 70 a 0 23 t λu v=>Ca pQ 133 #[s,u] v λw x=>gt w x λy z=>l (y,()) z) (l (bF,()) r)) (l (bF,()) n)) (PT a d e f)) (λA=>g .ret A) (λB C=>bc (Nat.beq B 4) (jW (λD=>dz 70 a 3 4 C λE F=>cV E (gl 4 b F λG H=>gt G H λI J=>cV I (dz 52 c 6 50 J λK L=>dz 70 a 0 23 L λM N=>Ca pQ 133 #[K,M] N λO P=>gt O P λQ R=>D (Q,()) R) (D (bF,()) J)) (D (bF,()) F)) (PT a d e f)) (bc (Nat.beq B 3) (f C) (g (.exit B) C))) i j
def VJ(a b c:Vt_)(d:Nat)(e:LV_)(f:Wt_)(g:Wp)(h:Code->Wp):=gv 70 (e.getD 0 undef) f λi j=>lC d j λk=>gv 4 bF k λl m=>eP 39 a m.drew λn=>ez n λo=>gY 38 o 1 34 m.drew λp=>gY 70 i 0 23 m.drew λq=>Ca pQ 132 #[p,q] m.drew λr s=>yP pQ (some d) r s 1 (WE l) (Rf i l b a c g h)
def OE(a b:Vt_)(c:List Nat)(d:cG)(e:List Nat)(f:Option Code)(g:Wt_):=iJ (λh=>eP 52 a h.drew λi=>eP 43 b h.drew λj=>gs 52 a i h.drew λk=>gk 43 b j k/\(gs 43 b j k λl=>lj (e++(c++[])) l λm=>eP 52 a m λn=>eP 43 b m λo=>d (gT n o) m)) (λp=>lj (e++(c++[])) p λq=>eP 52 a q λr=>eP 43 b q λs=>d (gT r s) q) (λt u=>bc (Nat.beq t 2) (eP 52 a u.drew λv=>eP 43 b u.drew λw=>gs 52 a v u.drew λx=>gk 43 b w x/\(gs 43 b w x λy=>lj (e++(c++[])) y λz=>eP 52 a z λA=>eP 43 b z λB=>d (gT A B) z)) (False)) f g
def ai9(a:Vt_)(b:Nat)(c:LV_)(d:Wt_)(e:Wp)(f:Code->Wp):=lC b d λg=>gs 4 a bT g e
def Xy(a b c:Vt_)(d:Nat)(e:LV_)(f:Wt_)(g:Wp)(h:Code->Wp):=gv 70 (e.getD 0 undef) f λi j=>lC d j λk=>gv 4 bF k λl m=>eP 39 a m.drew λn=>ez n λo=>gY 38 o 1 34 m.drew λp=>gY 70 i 0 23 m.drew λq=>Ca pQ 132 #[p,q] m.drew λr s=>yP pQ (some d) r s 1 (ai9 l) (Rf i l b a c g h)
def OW(a b c d:Vt_)(e:Nat)(f:LV_)(g:Wt_)(h:Wp)(i:Code->Wp):=gx (nE 83) g λj k=>nj pQ (jH 83 j (f.getD 0 undef)) k λl=>lC e l λm=>dz 83 j 1 81 m λn o=>gb .neq 81 true n (gB 3) o λp q=>cV p (gl 39 a q λr s=>gx (fH 83 j) s λt u=>gl 217 b u λv w=>Ca pQ 130 #[r,t,bF,v] w λx y=>gs 43 c x y λz=>gl 43 c z λA B=>gE A B λC D=>cV C (eP 52 d D.drew λE=>eP 43 c D.drew λF=>gs 52 d E D.drew λG=>gk 43 c F G/\(gs 43 c F G λH=>i .ret H)) (h D)) (h q)
def Jp(a b c d:Vt_)(e:cG)(f:List Nat)(g:Option Code)(h:Wt_):=iJ (λi=>gl 39 a i λj k=>gl 217 b k λl m=>Ca pQ 131 #[j,l] m λn o=>nR n o λp q r=>gs 52 c p r λs=>gs 43 d q s λt=>gl 43 d t λu v=>gE u v λw x=>cV w (eP 52 c x.drew λy=>eP 43 d x.drew λz=>gs 52 c y x.drew λA=>gk 43 d z A/\(gs 43 d z A λB=>lj (f++[]) B λC=>eP 52 c C λD=>eP 43 d C λE=>e (gT D E) C)) (gl 39 a x λF G=>ez F λH=>dz 38 H 1 34 G λI J=>Ca pQ 43 #[I] J λK L=>yP pQ none K L 1 (VJ a c d) (OE c d f e))) (λM=>lj (f++[]) M λN=>eP 52 c N λO=>eP 43 d N λP=>e (gT O P) N) (λQ R=>bc (Nat.beq Q 0) (gl 39 a R λS T=>gl 217 b T λU V=>Ca pQ 131 #[S,U] V λX Y=>nR X Y λaa ab ac=>gs 52 c aa ac λad=>gs 43 d ab ad λae=>gl 43 d ae λaf ag=>gE af ag λah ai=>cV ah (eP 52 c ai.drew λaj=>eP 43 d ai.drew λak=>gs 52 c aj ai.drew λal=>gk 43 d ak al/\(gs 43 d ak al λam=>lj (f++[]) am λan=>eP 52 c an λao=>eP 43 d an λap=>e (gT ao ap) an)) (gl 39 a ai λaq ar=>ez aq λau=>dz 38 au 1 34 ar λav aw=>Ca pQ 43 #[av] aw λax ay=>yP pQ none ax ay 1 (Xy a c d) (OE c d f e))) (False)) g h
def au7(K:gq 39 a W λb c=>ga 52 c λd e=>ga 43 e λf g=>gl 39 b g λh i=>ez h λj=>dz 38 j 0 33 i λk l=>Ca pQ 129 #[k] l λm n=>gs 43 f m n λo=>gl 43 f o λp q=>gE p q λr s=>cV r (eP 52 d s.drew λt=>eP 43 f s.drew λu=>gs 52 d t s.drew λv=>gk 43 f u v/\(gs 43 f u v λw=>eP 52 d w λx=>eP 43 f w λy=>Z (gT x y) w)) (gr (Instr.makeMap 217 none) s λz A=>gv 217 z A λB C=>gl 39 b C λD E=>ez D λF=>dz 38 F 0 33 E λG H=>Ca pQ 29 #[G] H λI J=>yP pQ none I J 1 (OW b B f d) (Jp b B d f Z))):Ca pQ 88 #[a] W Z:=cj Tryz.func88 K
def WI(a b c d e:Vt_)(f:cG)(g:T1)(h:Wt_)(i:T1->Wp):=gc g.1 a h λj k=>cV j (uB 95 b g.1 74 k λl m=>gv 74 l m λn o=>dz 52 c 5 49 o λp q=>dz 74 n 0 24 q λr s=>gx (jQ 49 1 [(0,r)]) s λt u=>gx (eg #[49,49] 49 [p,t]) u λv w=>qM 52 c 5 49 v w λx=>g1 g.1 x λy z=>i (y,()) z) (ez d λA=>dz 38 A 3 36 k λB C=>gx (wo #[36,23] 0 [B,e]) C λD E=>gl 52 c E λF G=>gs 52 c F G λH=>eP 52 c H λI=>f (gT I (gI 0)) H)
def Wg(a b c d e:Vt_)(f:cG)(g:T1)(h:Wt_)(i:T1->Wp):=gc g.1 a h λj k=>cV j (uB 95 b g.1 74 k λl m=>gv 74 l m λn o=>dz 52 c 5 49 o λp q=>dz 74 n 0 24 q λr s=>gx (jQ 49 1 [(0,r)]) s λt u=>gx (eg #[49,49] 49 [p,t]) u λv w=>qM 52 c 5 49 v w λx=>g1 g.1 x λy z=>i (y,()) z) (ez d λA=>dz 38 A 3 36 k λB C=>gx (ji 36 B e false) C λD E=>gn 95 false D E λF G=>qA (WI F D c d e f) ((gI 0),()) G)
def aw5(h0:ga 52 W λc d=>ez a λe=>dz 38 e 0 33 d λf g=>Ca pQ 94 #[f,b] g λh i=>nR h i λj k l=>gx (nE 83) l λm n=>nj pQ (jH 83 m j) n λo=>ez a λp=>dz 38 p 0 33 o λq r=>Ca pQ 134 #[q,b] r λs t=>gE s t λu v=>cV u (gl 52 c v λw x=>gs 52 c w x λy=>eP 52 c y λz=>Z (gT z s) y) (gr (Instr.makeMap 217 none) v λA B=>gx (fH 83 m) B λC D=>Ca pQ 130 #[a,C,bT,A] D λE F=>gE E F λG H=>cV G (gl 52 c H λI J=>gs 52 c I J λK=>eP 52 c K λL=>Z (gT L E) K) (Ca pQ 131 #[a,A] H λM N=>nR M N λO P Q=>gs 52 c O Q λR=>gE P R λS T=>cV S (gl 52 c T λU V=>gs 52 c U V λX=>eP 52 c X λY=>Z (gT Y P) X) (ez a λaa=>dz 38 aa 2 35 T λab ac=>gx (ji 35 ab b false) ac λad ae=>Ca pQ 135 #[ad,(gU 0)] ae λaf ag=>gn 95 false af ag λah ai=>qA (Wg ah af c a b Z) ((gI 0),()) ai)))):Ca pQ 89 #[a,b] W Z:=cj Tryz.func89 h0
def UT(a b c d:Vt_)(e:Nat)(f:LV_)(g:Wt_)(h:Wp)(i:Code->Wp):=gx (nE 83) g λj k=>nj pQ (jH 83 j (f.getD 0 undef)) k λl=>lC e l λm=>eP 39 a m.drew λn=>ez n λo=>gY 38 o 1 34 m.drew λp=>kg 83 j 0 λq=>gY 27 q 0 23 m.drew λr=>gY 70 b 0 23 m.drew λs=>Ca pQ 30 #[p,r,s] m.drew λt u=>gp (Instr.field 79 t 2) λv=>gb .neq 2 true v (gI 0) u λw x=>cV w (gl 39 a x λy z=>gx (fH 83 j) z λA B=>dz 70 b 0 23 B λC D=>Ca pQ 148 #[y,A,C,v,c] D λE F=>gs 43 d E F λG=>gl 43 d G λH I=>gE H I λJ K=>cV J (eP 52 c K.drew λL=>eP 43 d K.drew λM=>gs 52 c L K.drew λN=>gk 43 d M N/\(gs 43 d M N λO=>i .ret O)) (h K)) (h x)
def OG(a b:Vt_)(c:cG)(d:List Nat)(e:Option Code)(f:Wt_):=iJ (λg=>gl 52 a g λh i=>gs 52 a h i λj=>gs 43 b (gI 0) j λk=>lj (d++[]) k λl=>eP 52 a l λm=>eP 43 b l λn=>c (gT m n) l) (λo=>lj (d++[]) o λp=>eP 52 a p λq=>eP 43 b p λr=>c (gT q r) p) (λs t=>bc (Nat.beq s 0) (gl 52 a t λu v=>gs 52 a u v λw=>gs 43 b (gI 0) w λx=>lj (d++[]) x λy=>eP 52 a y λz=>eP 43 b y λA=>c (gT z A) y) (False)) e f
def aE1(B:gq 39 a W λc d=>gq 70 b d λe f=>ga 52 f λg h=>ga 43 h λi j=>dz 70 e 3 4 j λk l=>gt k l λm n=>cV m (gl 52 g n λo p=>gs 52 g o p λq=>gs 43 i (gI 162) q λr=>eP 52 g r λs=>eP 43 i r λt=>Z (gT s t) r) (gl 39 c n λu v=>ez u λw=>dz 38 w 0 33 v λx y=>Ca pQ 29 #[x] y λz A=>yP pQ none z A 1 (UT c e g i) (OG g i Z))):Ca pQ 97 #[a,b] W Z:=cj Tryz.func97 B
def QK(a b c d:Vt_)(e:cG)(f:T2)(g:Wt_):=NV->ez a λh=>gY 38 h 1 34 g.drew λi=>kg 83 b 0 λj=>gY 27 j 0 23 g.drew λk=>Ca pQ 175 #[i,k,f.2.1,f.1,c,d] g.drew e
def Zv(k:gq 83 b W λh i=>dK (S:=T2) (λj=>cV e (j (c,d,()) i) (j (d,c,()) i)) (QK a h f g Z)):Ca pQ 181 #[a,b,c,d,e,f,g] W Z:=cj Tryz.func181 k
def Kc(a b c d e f:Vt_)(g:List Nat)(h:cG)(i:Vt_)(j:T2)(k:Wt_)(l:T2->Wp):=gc j.2.1 a k λm n=>cV m (uB 288 b j.2.1 290 n λo p=>gv 290 o p λq r=>gx (fH 83 c) r λs t=>gl 23 d t λu v=>dz 290 q 0 23 v λw x=>dz 83 c 2 2 x λy z=>dz 290 q 1 2 z λA B=>Ca pQ 181 #[e,s,u,w,f,y,A] B λC D=>gE C D λE F=>cV E (lj (g++[]) F λG=>h C G) (ez i λH=>gY 52 H 3 2 F.drew λI=>gY 290 q 1 2 F.drew λJ=>my .add 2 false I J λK=>ez i λL=>kg 52 L 3 λM=>gs 2 M K F.drew λN=>ez i λO=>kg 52 O 4 λP=>eP 48 P N.drew λQ=>gY 83 c 2 2 N.drew λR=>gY 290 q 1 2 N.drew λS=>gY 290 q 0 23 N.drew λT=>gp (Instr.build 111 #[(0,R),(1,S),(3,T)]) λU=>gx (jQ 48 1 [(0,U)]) N.drew λV X=>gk 48 P Q X/\(gx (eg #[48,48] 48 [Q,V]) X λY aa=>ez i λab=>kg 52 ab 4 λac=>gs 48 ac Y aa λad=>g1 j.2.1 ad λae af=>l (j.1,ae,()) af))) (lj (g++[]) n λag=>h (gI 0) ag)
def Ra(a b:Vt_)(c:Nat)(d:LV_)(e:Wt_)(f:Wp)(g:Code->Wp):=gv 79 (d.getD 0 undef) e λh i=>lC c i λj=>dz 79 h 1 23 j λk l=>gl 23 a l λm n=>gb .neq 23 false k m n λo p=>cV o (gl 288 b p λq r=>dz 79 h 1 23 r λs t=>dz 79 h 2 2 t λu v=>gr (Instr.build 290 #[(0,s),(1,u)]) v λw x=>gx (jQ 288 1 [(0,w)]) x λy z=>gx (eg #[288,288] 288 [q,y]) z λA B=>gs 288 b A B f) (f p)
def OJ(a:Vt_)(b:T1)(c:cG)(d e f g h:Vt_)(i:T3)(j:List Nat)(k:Option Code)(l:Wt_):=iJ (λm=>gl 288 a m λn o=>Ca pQ 183 #[b.1,n] o λp q=>nR p q λr s t=>gE s t λu v=>cV u (lj (j++[]) v λw=>c s w) (gn 288 false r v λx y=>qB (Kc x r d e f g j c h) (i.1,(gI 0),()) y)) (λz=>lj (j++[]) z λA=>c i.1 A) (λB C=>bc (Nat.beq B 4) (gl 288 a C λD E=>Ca pQ 183 #[b.1,D] E λF G=>nR F G λH I J=>gE I J λK L=>cV K (lj (j++[]) L λM=>c I M) (gn 288 false H L λN O=>qB (Kc N H d e f g j c h) (i.1,(gI 0),()) O)) (False)) k l
def JU(a b c:Vt_)(d:cG)(e f g:Vt_)(h:T3)(i:T1)(j:Wt_):=NV->ga 288 j λk l=>ez a λm=>dz 38 m 1 34 l λn o=>Ca pQ 44 #[n,b] o λp q=>yP pQ none p q 1 (Ra c k) (OJ k i d e c a f g h)
def JN(a b c d e f g:Vt_)(h:cG)(i j:Vt_)(k:T3)(l:Wt_)(m:T3->Wp):=gc k.2.2.1 a l λn o=>cV n (uB 282 b k.2.2.1 286 o λp q=>gv 286 p q λr s=>gx (fH 83 c) s λt u=>gl 23 d u λv w=>dz 286 r 1 23 w λx y=>dz 286 r 2 2 y λz A=>Ca pQ 181 #[e,t,v,x,f,g,z] A λB C=>gE B C λD E=>cV D (h B E) (dz 286 r 2 2 E λF G=>gb .sub 2 false k.2.1 F G λH I=>ez i λJ=>gY 52 J 2 2 I.drew λK=>gY 286 r 2 2 I.drew λL=>my .add 2 false K L λM=>ez i λN=>kg 52 N 2 λO=>gs 2 O M I.drew λP=>ez i λQ=>kg 52 Q 4 λR=>eP 48 R P.drew λS=>gY 286 r 2 2 P.drew λT=>gY 286 r 0 24 P.drew λU=>gY 286 r 1 23 P.drew λV=>gp (Instr.build 111 #[(0,g),(1,T),(2,U),(3,V)]) λX=>gx (jQ 48 1 [(0,X)]) P.drew λY aa=>gk 48 R S aa/\(gx (eg #[48,48] 48 [S,Y]) aa λab ac=>ez i λad=>kg 52 ad 4 λae=>gs 48 ae ab ac λaf=>ez e λag=>dz 38 ag 3 36 af λah ai=>gx (ji 36 ah j false) ai λaj ak=>Ca pQ 138 #[aj,(.func (.func 182) #[] #[r])] ak λal am=>ez e λan=>gY 38 an 3 36 am.drew λao=>pS pQ (ji 36 ao j false) am.drew λap=>mf 95 ap al λaq=>gY 74 aq 4 2 am.drew λar=>gY 286 r 2 2 am.drew λau=>my .sub 2 false ar au λav=>mf 95 ap al λaw=>kg 74 aw 4 λax=>gs 2 ax av am.drew λay=>ez e λaz=>dz 38 az 3 36 ay λaA aB=>gx (ji 36 aA j false) aB λaC aD=>gi 95 aC al aD λaE aF=>dz 74 aE 4 2 aF λaG aH=>gb .eql 2 true aG (gI 0) aH λaI aJ=>cV aI (ez e λaK=>kg 38 aK 3 λaL=>eP 36 aL aJ.drew λaM=>ez e λaN=>gY 38 aN 3 36 aJ.drew λaO=>pS pQ (ji 36 aO j false) aJ.drew λaP=>my .add 3 true al (gI 1) λaQ=>Ca pQ 140 #[aP,al,aQ] aJ.drew λaR aS=>gk 36 aL aM aS/\(nj pQ (nm 36 aM j aR) aS λaT=>g1 k.2.2.1 aT λaU aV=>m (k.1,H,aU,()) aV)) (g1 k.2.2.1 aJ λaX aY=>m (k.1,H,aX,()) aY)))) (gb .eql 2 true k.2.1 (gI 0) o λa0 a1=>cV a0 (h (gI 0) a1) (jW (λa2=>gt f a1 λa3 a4=>cV a3 (gr (Op.unary .neg k.2.1) a4 λa5 a6=>a2 (a5,()) a6) (a2 (k.2.1,()) a4)) (JU e j d h c f i k)))
def Oq(a b c d:Vt_)(e:cG)(f g h i j:Vt_)(k:T2)(l:Wt_)(m:T2->Wp):=gc k.2.1 a l λn o=>cV n (uB 95 b k.2.1 74 o λp q=>gv 74 p q λr s=>dz 74 r 2 4 s λt u=>gb .eql 4 false t c u λv w=>cV v (gl 74 r w λx y=>gx (jQ 95 1 [(0,x)]) y λz A=>gx (eg #[95,95] 95 [k.1,z]) A λB C=>g1 k.2.1 C λD E=>m (B,D,()) E) (g1 k.2.1 w λF G=>m (k.1,F,()) G)) (Ca pQ 180 #[c,d,k.1] o λH I=>nR H I λJ K L=>ge H 2 L λM N=>gE M N λO P=>cV O (e M P) (gn 282 false K P λQ R=>qC (JN Q K f g h c J e i j) ((gI 0),d,(gI 0),()) R))
def an5(A:gq 83 b W λf g=>gq 23 c g λh i=>gf 83 f 0 i λj k=>dz 27 j 0 23 k λl m=>gb .gtr 2 true d (gI 0) m λn o=>gr (Op.unary .neg d) o λp q=>rn pQ (builtin .max #[2,2] 2 #[false,false] #[d,p]) q λr s=>ez a λt=>dz 38 t 3 36 s λu v=>gx (ji 36 u l false) v λw x=>gn 95 false w x λy z=>qB (Oq y w n r Z f h a e l) ((.slice none 0 0),(gI 0),()) z):Ca pQ 148 #[a,b,c,d,e] W Z:=cj Tryz.func148 A
def ar4(i:gq 74 a W λc d=>dz 74 c 0 24 d λe f=>dz 286 b 0 24 f λg h=>gb .eql 24 false e g h Z):Ca pQ 182 #[a,b] W Z:=cj Tryz.func182 i
def Py(a b:Vt_)(c:T1)(d:Vt_)(e:Wp)(f:T1)(g:Wt_)(h:T1->Wp):=gc f.1 a g λi j=>cV i (uB 95 b f.1 74 j λk l=>gv 74 k l λm n=>dz 61 c.1 7 59 n λo p=>gl 23 d p λq r=>gl 74 m r λs t=>gr (Instr.build 76 #[(0,q),(1,s)]) t λu v=>gx (jQ 59 1 [(0,u)]) v λw x=>gx (eg #[59,59] 59 [o,w]) x λy z=>qM 61 c.1 7 59 y z λA=>g1 f.1 A λB C=>h (B,()) C) (e j)
def O7(a:T1)(b:Vt_)(c:Nat)(d:LV_)(e:Wt_)(f:Wp)(g:Code->Wp):=gv 74 (d.getD 0 undef) e λh i=>lC c i λj=>dz 61 a.1 6 59 j λk l=>gl 23 b l λm n=>gl 74 h n λo p=>gr (Instr.build 76 #[(0,m),(1,o)]) p λq r=>gx (jQ 59 1 [(0,q)]) r λs t=>gx (eg #[59,59] 59 [k,s]) t λu v=>qM 61 a.1 6 59 u v f
def RM(a b:Vt_)(c:T1)(d:Wp)(e:Code->Wp)(f:List Nat)(g:Option Code)(h:Wt_):=iJ (λi=>eP 39 a i.drew λj=>ez j λk=>gY 38 k 3 36 i.drew λl=>eP 23 b i.drew λm=>pS pQ (ji 36 l m false) i.drew λn=>gw (Builtin.len_ #[95] 3 #[n]) i.drew λo=>qA (Py o n c b d) ((gI 0),()) i.drew) (λp=>e .ret p) (λq r=>bc (Nat.beq q 4) (eP 39 a r.drew λs=>ez s λt=>gY 38 t 3 36 r.drew λu=>eP 23 b r.drew λv=>pS pQ (ji 36 u v false) r.drew λw=>gw (Builtin.len_ #[95] 3 #[w]) r.drew λx=>qA (Py x w c b d) ((gI 0),()) r.drew) (bc (Nat.beq q 1) (d r) (e (.exit q) r))) g h
def UB(a:T1)(b:Nat)(c:LV_)(d:Wt_)(e:Wp)(f:Code->Wp):=gv 79 (c.getD 0 undef) d λg h=>lC b h λi=>dz 61 a.1 5 58 i λj k=>gl 79 g k λl m=>gx (jQ 58 1 [(0,l)]) m λn o=>gx (eg #[58,58] 58 [j,n]) o λp q=>qM 61 a.1 5 58 p q e
def VY(a b:Vt_)(c:Nat)(d:T1)(e:Wp)(f:Code->Wp)(g:List Nat)(h:Option Code)(i:Wt_):=iJ (λj=>eP 39 a j.drew λk=>ez k λl=>gY 38 l 2 35 j.drew λm=>eP 23 b j.drew λn=>pS pQ (ji 35 m n false) j.drew λo=>Ca pQ 31 #[o] j.drew λp q=>yP pQ (some c) p q 1 (O7 d b) (RM a b d e f)) (λr=>f .ret r) (λs t=>bc (Nat.beq s 2) (eP 39 a t.drew λu=>ez u λv=>gY 38 v 2 35 t.drew λw=>eP 23 b t.drew λx=>pS pQ (ji 35 w x false) t.drew λy=>Ca pQ 31 #[y] t.drew λz A=>yP pQ (some c) z A 1 (O7 d b) (RM a b d e f)) (bc (Nat.beq s 1) (e t) (f (.exit s) t))) h i
def RQ(a:T1)(b:Vt_)(c:Nat)(d:LV_)(e:Wt_)(f:Wp)(g:Code->Wp):=gx (nE 83) e λh i=>nj pQ (jH 83 h (d.getD 0 undef)) i λj=>lC c j λk=>gf 83 h 0 k λl m=>dz 27 l 0 23 m λn o=>gv 23 n o λp q=>dz 61 a.1 4 57 q λr s=>gx (fH 83 h) s λt u=>gx (jQ 57 1 [(0,t)]) u λv w=>gx (eg #[57,57] 57 [r,v]) w λx y=>qM 61 a.1 4 57 x y λz=>eP 39 b z.drew λA=>ez A λB=>gY 38 B 1 34 z.drew λC=>eP 23 p z.drew λD=>Ca pQ 44 #[C,D] z.drew λE F=>yP pQ (some c) E F 1 (UB a) (VY b p c a f g)
def Rr(a:T1)(b:Vt_)(c:cG)(d:List Nat)(e:Option Code)(f:Wt_):=iJ (λg=>gl 61 a.1 g λh i=>gs 61 b h i λj=>lj (d++[]) j λk=>eP 61 b k λl=>c l k) (λm=>lj (d++[]) m λn=>eP 61 b n λo=>c o n) (λp q=>bc (Nat.beq p 0) (gl 61 a.1 q λr s=>gs 61 b r s λt=>lj (d++[]) t λu=>eP 61 b u λv=>c v u) (False)) e f
def OH(a b:Vt_)(c:cG)(d:T1)(e:Wt_):=NV->gl 39 a e λf g=>ez f λh=>dz 38 h 0 33 g λi j=>Ca pQ 29 #[i] j λk l=>yP pQ none k l 1 (RQ d a) (Rr d b c)
def an3(h0:gq 39 a W λb c=>ga 61 c λd e=>gl 39 b e λf g=>Ca pQ 27 #[f] g λh i=>gt h i λj k=>cV j (gr (Instr.build 61 #[]) k λl m=>gs 61 d l m λn=>eP 61 d n λo=>Z o n) (gl 39 b k λp q=>ez p λr=>dz 38 r 1 34 q λs t=>Ca pQ 28 #[s,(gU 0)] t λu v=>nR u v λw x y=>gv 70 w y λz A=>jW (λB=>eP 39 b A.drew λC=>ez C λD=>kg 38 D 0 λE=>eP 33 E A.drew λF=>eP 39 b A.drew λG=>ez G λH=>kg 38 H 4 λI=>eP 24 I A.drew λJ=>kg 70 z 1 λK=>eP 2 K A.drew λL=>eP 39 b A.drew λM=>ez M λN=>kg 38 N 1 λO=>eP 34 O A.drew λP=>(Ca pQ 41 #[F] A.drew λQ R=>gk 34 O P R/\gk 39 b M R/\gk 2 K L R/\gk 24 I J R/\gk 39 b G R/\((Ca pQ 43 #[P] R λS T=>gk 2 K L T/\gk 24 I J T/\gk 39 b G T/\((Ca pQ 42 #[S] T λU V=>gk 2 K L V/\gk 24 I J V/\gk 39 b G V/\(gp (Instr.build 61 #[(0,Q),(1,J),(2,L),(3,U)]) λX=>ga 61 V λY aa=>gk 2 K L aa/\gk 24 I J aa/\gk 39 b G aa/\(gs 61 Y X aa λab=>B (Y,()) ab)))/\(ga 61 T λac ad=>gk 2 K L ad/\gk 24 I J ad/\gk 39 b G ad/\(Ca pQ 42 #[S] ad λae af=>gk 2 K L af/\gk 24 I J af/\gk 39 b G af/\(gp (Instr.build 61 #[(0,Q),(1,J),(2,L),(3,ae)]) λag=>gs 61 ac ag af λah=>B (ac,()) ah)))))/\(ga 61 R λai aj=>gk 34 O P aj/\gk 39 b M aj/\gk 2 K L aj/\gk 24 I J aj/\gk 39 b G aj/\(Ca pQ 43 #[P] aj λak al=>gk 2 K L al/\gk 24 I J al/\gk 39 b G al/\(Ca pQ 42 #[ak] al λam an=>gk 2 K L an/\gk 24 I J an/\gk 39 b G an/\(gp (Instr.build 61 #[(0,Q),(1,J),(2,L),(3,am)]) λao=>gs 61 ai ao an λap=>B (ai,()) ap))))))/\(ga 61 A.drew λaq ar=>gk 34 O P ar/\gk 39 b M ar/\gk 2 K L ar/\gk 24 I J ar/\gk 39 b G ar/\gk 33 E F ar/\gk 39 b C ar/\(Ca pQ 41 #[F] ar λau av=>gk 34 O P av/\gk 39 b M av/\gk 2 K L av/\gk 24 I J av/\gk 39 b G av/\(Ca pQ 43 #[P] av λaw ax=>gk 2 K L ax/\gk 24 I J ax/\gk 39 b G ax/\(Ca pQ 42 #[aw] ax λay az=>gk 2 K L az/\gk 24 I J az/\gk 39 b G az/\(gp (Instr.build 61 #[(0,au),(1,J),(2,L),(3,ay)]) λaA=>gs 61 aq aA az λaB=>B (aq,()) aB)))))) (OH b d Z))):Ca pQ 20 #[a] W Z:=cj Tryz.func20 h0
def RD(a:T2)(b:T2->Wp)(c:T1)(d:Wt_):=NV->g1 a.2.1 d λe f=>b (c.1,e,()) f
def Qy(a b:Vt_)(c:cG)(d:T2)(e:Wt_)(f:T2->Wp):=NV->gn 95 false a e λg h=>gb .lss 3 false d.2.1 g h λi j=>cV i (jW (λk=>uB 95 a d.2.1 74 j λl m=>gv 74 l m λn o=>gl 74 n o λp q=>iv pQ b [p] q λr s=>gt r s λt u=>cV t (gl 74 n u λv w=>gi 95 a d.1 w λx y=>gs 74 x v y λz=>g1 d.1 z λA B=>k (A,()) B) (k (d.1,()) u)) (RD d f)) (gr (Instr.sliceAt 95 a (some d.1) none none) j λC D=>gx (Ay #[95] 0 [C]) D λE F=>gr (Instr.sliceAt 95 a none (some d.1) none) F c)
def ZG(i:Ca pQ 138 #[a,b] W λc d=>gb .eql 3 true c (gI (-1)) d λe f=>cV e (Z a f) (g1 c f λg h=>qB (Qy a b Z) (c,g,()) h)):Ca pQ 146 #[a,b] W Z:=cj Tryz.func146 i
def aD4(h:Ca pQ 98 #[(.slice none 0 0),a] W Z):Ca pQ 42 #[a] W Z:=cj Tryz.func42 h
def UV(a:Vt_)(b:Nat)(c:LV_)(d:Wt_)(e:Wp)(f:Code->Wp):=gv 70 (c.getD 0 undef) d λg h=>lC b h λi=>gl 56 a i λj k=>gl 70 g k λl m=>gx (jQ 56 1 [(0,l)]) m λn o=>gx (eg #[56,56] 56 [j,n]) o λp q=>gs 56 a p q e
def VX(a:Vt_)(b:cG)(c:List Nat)(d:Option Code)(e:Wt_):=iJ (λf=>gl 56 a f λg h=>lj (c++[]) h λi=>b g i) (λj=>lj (c++[]) j λk=>b (.slice none 0 0) k) (λl m=>bc (Nat.beq l 0) (gl 56 a m λn o=>lj (c++[]) o λp=>b n p) (False)) d e
def aA3(h:gq 56 a W λc d=>yP pQ none b d 1 (UV c) (VX c Z)):Ca pQ 98 #[a,b] W Z:=cj Tryz.func98 h
def as2(h:Ca pQ 166 #[a,b] W λc d=>gb .geq 3 true c (gI 0) d Z):Ca pQ 133 #[a,b] W Z:=cj Tryz.func133 h
def QE(a b c:Vt_)(d:cG)(e:T2)(f:Wt_)(g:T2->Wp):=gc e.2.1 a f λh i=>cV h (uB 50 b e.2.1 23 i λj k=>gb .eql 23 false c j k λl m=>cV l (d e.2.1 m) (g1 e.2.1 m λn o=>g (e.1,n,()) o)) (d (gI (-1)) i)
def Zi(h:gn 50 false a W λc d=>qB (QE c a b Z) ((gI 0),(gI 0),()) d):Ca pQ 166 #[a,b] W Z:=cj Tryz.func166 h
end
end Go.Proofs
namespace Go.Proofs
open Go Go.Vc
attribute [local congr] cR
variable {l c mb md:Nat}{r:Rp}{sT sG sA:Vt_}{W w:Wt_}{K:cG}
abbrev yg:TypeId:=42
def wY(n:Nd):List Value:=[.int .i64 n.m,gI n.w,gI n.u]
def IJ(n:Nd):Value:=.agg (wY n).toArray
def BM:Nd:=⟨0,0,0⟩
def RV{x:Stk×Value}{K:Value->World->Prop}(h:∃a n c,x.2=.slice a n c)(e:∀b,hC b W.heap.size (uh x).toArray zg->M0 W b->K (pt W.heap.size 0) b):
  rx pQ (nE zg) W λv d=>nj pQ (jH zg v (.agg (uh x).toArray)) d λb=>K v b:=by
 apply xM 28 zSk Zk (tq x) aD0 (K1 x h);exact e _ (by simp[go_sem]) lm
def ao5{s:Vt_}{L:List (Stk×Value)}(h:Rd w 29 s L.length (L.flatMap uh)){i:Nat}(hi:i<L.length):
  ∃p,(iX 88 s (gI (i:Int))).run pQ w=.ok p w/\(fH zg p).run pQ w=.ok (.agg (uh L[i]).toArray) w:=by
 obtain⟨b,a,e,c,d,f⟩:=h.item tq hi rfl;exact⟨.pointer (some ⟨b,a+i*29,none⟩),by rw[c];simp[go_sem,hi,cS,aj6],gm aSk Zk (tq _) f⟩
def ab4{b:Nat}{T:TypeId}{x:Stk×Value}(h:hC w b (uh x).toArray T):At w b 0 (wX x.1.leg):=by
 have:=(At.all h).sub 0 26 (by rw[tq];omega);rw[iw,uh,dh (by rw[kZ];omega),cT (by rw[kZ];omega)]at this;exact this
def ym{α β:Type}{l:List α}{f:α->β}{i:Nat}(hi:i<l.length):(l.take (i+1)).map f=(l.take i).map f++[f l[i]]:=by
 rw[eA hi,dy];rfl
def DY(l:List Int)(x:Int):(l++[x]).sum=l.sum+x:=by simp
def E4{l:List Stk}(h:∀s∈l,s.ok=true):0<=(l.map Stk.worst).sum/\(l.map Stk.worst).sum<=l.length*12500000000000000:=by
 have:=vu (l:=l.map Stk.worst) (B:=12500000000000000) λx b=>by
  obtain⟨s,a,rfl⟩:=cF.1 b;exact Stk.worst_bd (h s a)
 rwa[cz]at this
def ZN{s:Stk}(h:s.ok=true): -1100000000000000<=s.u/\s.u<=1100000000000000/\ -100000000000000<=s.leg.q*s.price/\s.leg.q*s.price<=100000000000000:=by
 obtain⟨f,c,i,e,g,d⟩:=Stk.okF h;have:=E3 (a:=s.leg.q) (b:=s.price) (A:=10000000) (B:=10000000) c qZ;unfold Stk.u;omega
def PU:∀{l:List Stk},(∀s∈l,s.ok=true)-> -(l.length*1100000000000000:Int)<=(l.map Stk.u).sum/\(l.map Stk.u).sum<=l.length*1100000000000000
 | [],_=>by simp
 |s::l,h=>by
  have c:=ZN (h s cw);have b:=PU (l:=l) λx a=>h x (cu _ a);rw[cM,di,dc];omega
def Sl(n:Nd){W:Wt_}{p:Nat}{cs:Array Value}(h:hC W p cs yg)(e:cs.size=3):∃d,(iS yg (pt p 0) (IJ n)).run pQ W=.ok () d/\hC d p (wY n).toArray yg/\de (λb=>b=p) W d:=by
 obtain⟨a,b,c,rfl⟩:∃a b c,cs= #[a,b,c]:=by
  obtain⟨l⟩:=cs
  match l,e with
  | [a,b,c],_=>exact⟨a,b,c,rfl⟩
 refine⟨((W.setCell ⟨p,0,none⟩ (gI n.m)).setCell ⟨p,1,none⟩ (gI n.w)).setCell ⟨p,2,none⟩ (gI n.u),by simp[go_sem,h,IJ,wY],by simp[go_sem,h,wY],?_⟩;exact(((de.refl (λx=>x=p) W).sc).sc).sc
def MI(n:Nd){W:Wt_}{p:Nat}(h:hC W p (wY n).toArray yg):(iL yg (pt p 0)).run pQ W=.ok (IJ n) W:=by
 unfold wY at h;simp[go_sem,h,IJ,wY]
def PA{s:Vt_}{L:List (Stk×Value)}(h:Rd w 29 s L.length (L.flatMap uh))(hn:L.length<=100000)
  (hL:∀x∈L,x.1.Fit/\x.1.ords.length<=1000000/\Rd w 5 x.2 x.1.ords.length (x.1.ords.flatMap fL))
  (hK:∀w',M0 w w' ->K (.tuple #[IJ (needR (L.map (·.1))).1,gI (needR (L.map (·.1))).2]) w'):Ca pQ 32 #[s] w K:=by
 apply av6;obtain⟨sa,sc,hs⟩:=h.isSl;have r:∀{W:Wt_},(builtin .len #[88] 3 #[false] #[s]).run pQ W=.ok (.value (gI (L.length:Int))) W:=λ{W}=>by rw[hs];simp[go_sem]
 obtain⟨p,hp0⟩:=dW w.heap.size;have m1:M0 w (w.alloc (.cells (wY BM).toArray yg)):=lm;have b1:hC (w.alloc (.cells (wY BM).toArray yg)) p (wY BM).toArray yg:=by rw[hp0];simp[go_sem]
 apply cx (pt p 0) (w.alloc (.cells (wY BM).toArray yg)) (by rw[hp0];simp[go_sem,wY,BM]);generalize w.alloc (.cells (wY BM).toArray yg)=w1 at m1 b1|-;obtain⟨l,hl⟩:=dW (L.map (·.1));rw[<-hl]at hK;have hll:l.length=L.length:=by grind
 have fin:∀(n:Nd) (e:Int) (W:Wt_),needR l=(n,e)->M0 w W->K (.tuple #[IJ n,gI e]) W:=λn e W he m=>by
  have hk:=hK W m;rw[he]at hk;exact hk
 have O:∀(e:Int) (W:Wt_) (cs:Array Value),needR l=(BM,e)->M0 w W->hC W p cs yg->cs.size=3->
   ru pQ (iS yg (pt p 0) (IJ BM)) W λw8=>uc pQ (iL yg (pt p 0)) w8 λv9=>K (.tuple #[v9,gI e]) w8:=λe W cs he m d hc=>by
  obtain⟨W',Y,b2,m2⟩:=Sl BM d hc;refine ir Y (dp (MI BM b2) (fin _ e W' he (m.on m2 λb d=>gz)))
 have N:∀W,(Instr.build yg #[]).run pQ W=.ok (IJ BM) W:=λW=>by simp[go_sem,IJ,wY,BM]
 apply mB r;by_cases h16:16<L.length
 ·have t:(16:Int)<(L.length:Int):=qZ;refine qSt1 t ?_;apply cI (N _);exact O 3 w1 _ (by unfold needR;rw[bZ qZ];rfl) m1 b1 rfl
 have t:¬(16:Int)<(L.length:Int):=qZ;refine qSf1 t ?_;apply mB r;have hpl:=cB b1
 refine eS (λst W=>∃(i:Nat) (y sl:Vt_),i<=L.length/\st=(y,sl,gI i,())/\M0 w W/\hC W p (wY BM).toArray yg/\LgS W sl ((l.take i).map (·.leg))/\(∀b,cK sl b->p<b)/\(l.take i).all Stk.ok=true)
  (λst _=>match st.2.2.1 with| .int _ i=>L.length - i.toNat|_=>0) ⟨0,_,_,qZ,rfl,m1,b1,jo.nil _ _ _,λb d=>(by cases d),rfl⟩ ?_
 rintro⟨_,_,_,_⟩ W ⟨i,y,sl,hi,⟨⟩,q1,q2,q3,q4,q5⟩ KN hKN;unfold UQ;intro _
 have c:needR l=if l.all Stk.ok=false then(BM,2)else if(ng (l.map (·.leg))).2≠0 then(BM,(ng (l.map (·.leg))).2)else(⟨(ng (l.map (·.leg))).1,(l.map Stk.worst).sum,max 0 (l.map Stk.u).sum⟩,0):=by
  unfold needR;rw[aZ qZ];rfl
 by_cases J:i<L.length
 ·have v:(i:Int)<(L.length:Int):=qZ;refine qSt1 v ?_;obtain⟨p1,Y,e2⟩:=ao5 (h.mod q1 eQ) J;refine cI Y (iW e2 ?_);obtain⟨x,F⟩:=dW (L[i]);rw[<-F];obtain⟨x1,x2,x3⟩:=hL x (by grind);have P:l[i]'qZ=x.1:=by rw[F];simp[hl]
  obtain⟨xa,xc,Q⟩:=x3.isSl;refine RV ⟨_,_,_,Q⟩ λw3 T m3=>?_;obtain⟨q,hq⟩:=dW W.heap.size;rw[<-hq]at T|-;apply jq (uh x) 28 aSk Zk (tq x) (At.all T);refine Uh ((x3.mod q1 eQ).mod m3 eQ) x2 x1 λg C=>?_;have V:=m3.trans C;have S:=C.hpk T id;refine qS0 ?_;rw[cy];have htk:l.take (i+1)=l.take i++[x.1]:=by rw[eA qZ,P]
  cases hok:x.1.ok with
  |false=>
   rw[bZ (by simp)];apply cI (N _);refine O 2 g _ ?_ (q1.trans V) (V.hpk q2 id) rfl;rw[c,bZ];exact nI.2 ⟨x.1,by grind,by rw[hok];simp⟩
  |true=>
   rw[aZ (by simp)];refine qS0 ?_;apply jq (wX x.1.leg) 25 aLg nLg (kZ _) (ab4 S);have o4:=q3.mod V eQ;refine vK (x:=x.1.leg) (f:=wX) ae8 (eO eLg) kZ FT rfl o4 (by grind) qZ λs' k o5 B n5=>?_;have hs4:=V.size;have hql:p<W.heap.size:=cB q2;apply cx (gI ((i+1:Nat):Int)) k (by simp[go_sem];rw[wI_]);refine hKN _ _ ⟨i+1,_,s',qZ,rfl,(q1.trans V).on B λb d=>.inr (by grind),B.hpk (V.hpk q2 id) λd=>by grind,?_,λb d=>?_,?_⟩ (by grind)
   ·grind
   ·rcases n5 b d with h' |h'
    ·exact q4 b h'
    ·omega
   ·grind
 ·obtain rfl:i=L.length:=qZ;refine qSf0 ?_;rw[cT qZ]at q3 q5;rw[q5,aZ (by simp)]at c
  have hlg:∀y∈l.map (·.leg),y.spec.Fit/\jl y.q:=λy hy=>by
   obtain⟨H,hs0,rfl⟩:=cF.1 hy;rw[hl]at hs0;obtain⟨x,F,rfl⟩:=cF.1 hs0;exact⟨(hL x F).1.1,(hL x F).1.2.1⟩
  have I:∀H∈l,H.ok=true:=λH h0=>dF.1 q5 H h0;refine L5 q3.rd (by grind) hlg λg C=>?_;obtain⟨M,hM⟩:=dW (ng (l.map (·.leg)));rw[<-hM]at c|-;have S:=C.hpk q2 id;unfold wY BM at S;refine qS0 ?_;refine qS0 ?_;refine qS0 ?_;refine qU1 S ?_;have B:de (λb=>b=p) g (g.setCell ⟨p,0,none⟩ (gI M.1)):=(de.refl (λb=>b=p) g).sc;have G:hC (g.setCell ⟨p,0,none⟩ (gI M.1)) p #[.int .i64 M.1,gI 0,gI 0] yg:=by simp[go_sem,S]
  generalize g.setCell ⟨p,0,none⟩ (gI M.1)=k at B G|-;have M5:M0 w k:=(q1.trans C).on B λb d=>gz;by_cases D:M.2≠0
  ·refine qSt1 D ?_;rw[bZ D]at c;apply cI (N _);exact O M.2 k _ c M5 G rfl
  ·have hM0:M.2=0:=by simpa using D
   refine qSf1 hM0 ?_;rw[aZ D]at c;apply mB r
   refine eS (λst W=>∃i:Nat,i<=L.length/\st=(gI i,())/\M0 w W/\hC W p (wY ⟨M.1,((l.take i).map Stk.worst).sum,((l.take i).map Stk.u).sum⟩).toArray yg)
    (λst _=>match st.1 with| .int _ i=>L.length - i.toNat|_=>0) ⟨0,qZ,rfl,M5,G⟩ ?_
   rintro⟨_,_⟩ X ⟨i,hi,⟨⟩,r1,E⟩ KM hKM;unfold WF;intro _;by_cases J:i<L.length
   ·have v:(i:Int)<(L.length:Int):=qZ;refine qSt1 v ?_;obtain⟨p1,Y,e2⟩:=ao5 (h.mod r1 eQ) J;refine cI Y (iW e2 ?_);obtain⟨x,F⟩:=dW (L[i]);rw[<-F];obtain⟨x1,x2,x3⟩:=hL x (by grind);have hil:i<l.length:=qZ;have P:l[i]'hil=x.1:=by rw[F];simp[hl]
    have z:x.1.ok=true:=I x.1 (by grind);obtain⟨xa,xc,Q⟩:=x3.isSl;refine RV ⟨_,_,_,Q⟩ λw3 T m3=>?_;obtain⟨q,hq⟩:=dW X.heap.size;rw[<-hq]at T|-;have hpq:p<q:=by rw[hq];exact cB E
    have md:M0 w3 w3.drew:=mP;have M3:=m3.trans md;have R:=md.hpk T id;have r3:=M3.hpk E id;generalize w3.drew=w3d at md M3 R r3|-;obtain⟨u,o⟩:∃a,a=((l.take i).map Stk.worst).sum:=⟨_,rfl⟩
    obtain⟨j,A⟩:∃a,a=((l.take i).map Stk.u).sum:=⟨_,rfl⟩
    rw[<-o,<-A]at r3;unfold wY at r3;have tkm:∀H∈l.take i,H.ok=true:=λH h0=>I H (ek h0);have hlen16:((l.take i).length:Int)<=16:=by grind
    have bw:=E4 tkm;have bu:=PU tkm;rw[<-o]at bw;rw[<-A]at bu;have hxw:=Stk.worst_bd z;have hxu:=ZN z;refine qP0 ?_;have ld1:∀W,hC W p #[.int .i64 M.1,gI u,gI j] yg->(iL 2 (pt p 1)).run pQ W=.ok (gI u) W:=λW h=>by simp[go_sem,h]
    apply dp (ld1 _ r3);apply sm (uh x) 28 aSk Zk (tq x) (At.all R);refine Ny ((x3.mod r1 eQ).mod M3 eQ) x1 z λg C=>?_;have r4:=C.hpk r3 id;have S:=C.hpk R id;refine⟨ld1 _ r4,?_⟩;apply dX (gI (u+x.1.worst)) (λW=>Aa ⟨qZ,qZ⟩);refine qP0 ?_;refine qU1 r4 ?_;have B:de (λb=>b=p) g (g.setCell ⟨p,1,none⟩ (gI (u+x.1.worst))):=(de.refl (λb=>b=p) g).sc;have r5:hC (g.setCell ⟨p,1,none⟩ (gI (u+x.1.worst))) p #[.int .i64 M.1,gI (u+x.1.worst),gI j] yg:=by simp[go_sem,r4]
    have G:=B.hpk S qZ;generalize g.setCell ⟨p,1,none⟩ (gI (u+x.1.worst))=k at B r5 G|-;refine qS1 r5 ?_;refine qS1 r5 ?_;refine qS0 ?_;refine qS2 G Wf ?_;refine qS0 ?_;refine qS0 ?_;refine qS2 G R0 ?_;refine qS0 ?_;refine qS2 G KO ?_;apply cx (gI (x.1.leg.q*x.1.price)) k (by simp only[go_sem];simp;rw[wI_]);apply cx (gI x.1.u) k (by unfold Stk.u at hxu|-;exact DD ⟨qZ,qZ⟩);apply cx (gI (j+x.1.u)) k (Aa ⟨qZ,qZ⟩);refine qS0 ?_;refine qU1 r5 ?_;have Z:de (λb=>b=p) k (k.setCell ⟨p,2,none⟩ (gI (j+x.1.u))):=(de.refl (λb=>b=p) k).sc;have U:hC (k.setCell ⟨p,2,none⟩ (gI (j+x.1.u))) p #[.int .i64 M.1,gI (u+x.1.worst),gI (j+x.1.u)] yg:=by simp[go_sem,r5]
    generalize k.setCell ⟨p,2,none⟩ (gI (j+x.1.u))=w6 at Z U|-;apply cx (gI ((i+1:Nat):Int)) w6 (by simp[go_sem];rw[wI_]);refine hKM _ _ ⟨i+1,qZ,rfl,(((r1.trans M3).trans C).on B λb d=>gz).on Z λb d=>gz,?_⟩ (by grind);rw[ym hil,ym hil,DY,DY,P,<-o,<-A];exact U
   ·obtain rfl:i=L.length:=qZ;refine qSf0 ?_;rw[cT qZ]at E;obtain⟨u,o⟩:∃a,a=(l.map Stk.worst).sum:=⟨_,rfl⟩
    obtain⟨j,A⟩:∃a,a=(l.map Stk.u).sum:=⟨_,rfl⟩
    rw[<-o,<-A]at E c;unfold wY at E;refine qS1 E ?_;refine qS1 E ?_;refine qN0 ?_;refine qS0 ?_;refine qU1 E ?_;have Z:de (λb=>b=p) X (X.setCell ⟨p,2,none⟩ (gI (max 0 j))):=(de.refl (λb=>b=p) X).sc;have U:hC (X.setCell ⟨p,2,none⟩ (gI (max 0 j))) p (wY ⟨M.1,u,max 0 j⟩).toArray yg:=by simp[go_sem,E,wY]
    generalize X.setCell ⟨p,2,none⟩ (gI (max 0 j))=w6 at Z U|-;apply cI (MI _ U);obtain⟨w7,e7,r7,m7⟩:=Sl ⟨M.1,u,max 0 j⟩ U rfl;refine ir e7 (dp (MI _ r7) (fin _ 0 w7 c ?_));exact(r1.on Z λb d=>gz).on m7 λb d=>gz
def MD{n:Nd}(q:jl n.m)(m:jl n.w)(s:jl n.u)(o:jl n.total)
  (r:∀f,M0 w f->K (gI n.total) f):Ca pQ 158 #[IJ n] w K:=by
 apply ak2;obtain⟨p,c⟩:=dW w.heap.size;have h:M0 w (w.alloc (.cells (wY n).toArray yg)):=lm;have b:hC (w.alloc (.cells (wY n).toArray yg)) p (wY n).toArray yg:=by rw[c];simp[go_sem]
 apply cx (pt p 0) (w.alloc (.cells (wY n).toArray yg)) (by rw[c];rfl);generalize w.alloc (.cells (wY n).toArray yg)=a at h b|-;unfold wY at b;refine qS0 ?_;refine qS1 b ?_;refine qS0 ?_;refine qS1 b ?_;refine qS0 ?_;refine qS1 b ?_;refine oJ [.int .i64 n.m,gI n.w,gI n.u] zU (eO (sz:=1) (by_:=8) cU) rfl rfl (by intro v j;simp only[cH,mi,or_false]at j;rcases j with rfl|rfl|rfl<;>rfl) qZ ?_;have l:(([.int .i64 n.m,gI n.w,gI n.u]:LV_).flatMap (·.cells.toList)).toArray= #[.int .i64 n.m,gI n.w,gI n.u]:=rfl;rw[l];have e:M0 a (a.alloc (.cells #[.int .i64 n.m,gI n.w,gI n.u] 2)):=lm;have g:hC (a.alloc (.cells #[.int .i64 n.m,gI n.w,gI n.u] 2)) a.heap.size #[.int .i64 n.m,gI n.w,gI n.u] 2:=by simp[go_sem]
 generalize a.alloc (.cells #[.int .i64 n.m,gI n.w,gI n.u] 2)=k at e g|-
 have d:Rd k 1 (.slice (some ⟨a.heap.size,0,none⟩) 3 3) ([n.m,n.w,n.u]:List Int).length (([n.m,n.w,n.u]:List Int).flatMap wz):=by
  refine⟨rfl,.inr ⟨_,0,3,rfl,cJ _,⟨_,_,_,g,?_,?_⟩⟩⟩
  ·simp[wz]
  ·simp[wz]
 refine E6 d (by simp) (λx i=>?_) ?_
 ·simp only[cH,mi,or_false]at i;rcases i with rfl|rfl|rfl
  ·exact q
  ·exact m
  ·exact s
 ·have t:([n.m,n.w,n.u]:List Int).sum=n.total:=by unfold Nd.total;simp;omega
  have d:tN [n.m,n.w,n.u]=(n.total,0):=by unfold tN;rw[t,bZ o]
  rw[d];refine qS0 ?_;refine qS0 ?_;refine qSt0 ?_;exact r k (h.trans e)
section
variable{w:Wt_}{gv:Vt_}{α:Type}{xs:List α}{fv:α->Value}{asg:Value->World->(Value->World->Prop)->Prop}{Pv:α->Value->Nat->World->Prop}{body:Nat->Value->World->(World->Prop)->(Code->World->Prop)->Prop}{after:List Nat->Option Code->World->Prop}{X0:NP_}
def Kw(ht:th gv (xs.map λa=>[fv a]) w)(hasg:∀a∈xs,∀(W:Wt_) (K:Value->World->Prop),(∀O v,Pv a v W.heap.size O->M0 W O->K v O)->asg (fv a) W K)
  (hPv:∀a v q W k H,Pv a v q W->de H W k->¬H q->Pv a v q k)
  (I:(Nat->Prop)->Nat->World->Prop)(Ex:Code->(Nat->Prop)->World->Prop)
  (D:∀X i W k H,I X i W->de H W k->(∀b,X b->¬H b)->I X i k)
  (hsx:∀c X W k H,Ex c X W->de H W k->(∀b,X b->¬H b)->Ex c X k)
  (R:∀b,X0 b->b<w.heap.size)(h0:I X0 0 w)
  (F:∀X i (hi:i<xs.length) W q v,I X i W->de X0 w W->(∀b,X b->b<q/\(X0 b\/w.heap.size+1<b))->w.heap.size+1<q->q<=W.heap.size->Pv xs[i] v q W->(∃r,hp W (w.heap.size+1)=some (.loop r))->∀KN KJ,
   (∀y k,I y (i+1) k->de (λb=>X b\/q<=b) W k->(∀b,y b->(X b\/W.heap.size<=b)/\b<k.heap.size)->KN k)->
   (∀c y k,Ex c y k->de (λb=>X b\/q<=b) W k->(∀b,y b->(X b\/W.heap.size<=b)/\b<k.heap.size)->KJ c k)->body (w.heap.size+1) v W KN KJ)
  (hend:∀X W d,d=w.heap.size->I X xs.length W->de X0 w W->hp W d=some (.deferred (some []))->(∀b,X b->b<W.heap.size/\(X0 b\/d+1<b))->after [d] none W)
  (hexit:∀c X W d,d=w.heap.size->Ex c X W->de X0 w W->hp W d=some (.deferred (some []))->(∀b,X b->b<W.heap.size/\(X0 b\/d+1<b))->after [d] (some c) W):
  yP pQ none gv w 1 (λl x W KN KJ=>asg (x.getD 0 undef) W λv O=>lC l O λw3=>body l v w3 KN KJ) after:=by
 obtain⟨⟨Ok,hit,hok⟩,-⟩:=ht;obtain⟨f,first,captured,rfl,hit0⟩:=hit.out;apply wu.2;show∀m:Loop,_;intro m s M hD hY;obtain⟨d,z⟩:=dW w.heap.size;rw[<-z]at F;have Y:(w.alloc (.deferred (some []))).heap.size=d+1:=by rw[eG,z]
 obtain⟨wr,G⟩:=dW ((w.alloc (.deferred (some []))).alloc (.loop m));have V:wr.heap[d+1]? =some (.loop m):=by rw[G,gy,bZ Y.symm]
 have hszr:wr.heap.size=d+2:=by rw[G,eG,Y]
 have Z:hp wr d=some (.deferred (some [])):=by rw[G];simp[go_sem,z]
 have hmr:M0 w wr:=by rw[G];exact lm.alloc _
 have p:∀(W:Wt_) (o:Obj),de (λb=>b=d+1) W (W.putObj (d+1) o):=λW o=>(de.refl (λb=>b=d+1) W).putObj (b:=d+1) (.inl rfl) o;rw[Y]at hY|-;rw[<-G];let J:(Nat->Prop)->Nat->World->Prop:=λQ i W=>∃X,I X i W/\de X0 w W/\hp W d=some (.deferred (some []))/\(∀b,X b->b<W.heap.size/\(X0 b\/d+1<b)/\¬Q b)/\W.heap[d+1]? =some (.loop m)/\∀b,Q b->d+1<b/\b<W.heap.size;let Js:(Nat->Prop)->World->Prop:=λQ W=>∃c X r,Ex c X W/\de X0 w W/\hp W d=some (.deferred (some []))/\(∀b,X b->b<W.heap.size/\(X0 b\/d+1<b)/\¬Q b)/\W.heap[d+1]? =some (.loop r)/\(∀b,Q b->d+1<b/\b<W.heap.size)/\r.state=.done/\r.pending=some c;refine hit0 _ J Js _ _ (hok _ hmr) ?_ ?_ ?_ ?_ ?_ ?_
 ·intro Q W1 j hQ;refine⟨X0,D _ _ _ _ _ h0 (hmr.trans j) eQ,(hmr.trans j).to,j.hpk Z id,λb g=>?_,j.keep V id,λb g=>?_⟩
  ·have T:=R b g;have L:=j.size;exact⟨qZ,.inl g,λhq=>by grind⟩
  ·have:=hQ b g;omega
 ·rintro Q Q' i W k ⟨X,T,L,P,n,B,U⟩ j N;have hl:=cB B;refine⟨X,D _ _ _ _ _ T j λb g=>(n b g).2.2,L.on j λb g=>.inr (by grind),j.hpk P λg=>by grind,λb g=>?_,j.keep B λg=>by grind,λb g=>?_⟩
  ·have u:=n b g;refine⟨ep u.1 j.size,u.2.1,λhq=>?_⟩;rcases(N b hq).1 with h|h
   ·exact u.2.2 h
   ·have:=u.1;omega
  ·have u:=N b g;refine⟨?_,u.2⟩;rcases u.1 with h|h
   ·exact(U b h).1
   ·omega
 ·rintro Q Q' W k ⟨c,X,r,T,L,P,n,B,U,h7⟩ j N;have hl:=cB B;refine⟨c,X,r,hsx _ _ _ _ _ T j λb g=>(n b g).2.2,L.on j λb g=>.inr (by grind),j.hpk P λg=>by grind,λb g=>?_,j.keep B λg=>by grind,λb g=>?_,h7⟩
  ·have u:=n b g;refine⟨ep u.1 j.size,u.2.1,λhq=>?_⟩;rcases(N b hq).1 with h|h
   ·exact u.2.2 h
   ·have:=u.1;omega
  ·have u:=N b g;refine⟨?_,u.2⟩;rcases u.1 with h|h
   ·exact(U b h).1
   ·omega
 ·rintro Q i x W C ⟨X,T,L,P,n,B,U⟩ K' hT hF;apply oe.2;show Yl pQ (d+1) ⟨_⟩ W K';have e1:(#[]:Array Value).toList++x=x:=rfl;rw[e1]
  obtain⟨hi,rfl⟩:∃hi:i<xs.length,x=[fv xs[i]]:=by
   rw[dO]at C;cases hh:xs[i]? with
   |none=>rw[hh]at C;cases C
   |some o=>
    obtain⟨hj,he⟩:=cP.1 hh;rw[hh]at C;exact⟨hj,by grind⟩
  apply hY _ W K' rfl ⟨m.state,m.pending,B⟩;obtain⟨q,hq0⟩:=dW W.heap.size;refine hasg xs[i] (cC hi) W _ λO v v3 v4=>?_;rw[<-hq0]at v3;have r2:O.heap[d+1]? =some (.loop m):=v4.keep B id;apply ux r2 s;have m3:=p O (.loop {m with state:=.busy});have r3:(O.putObj (d+1) (.loop {m with state:=.busy})).heap[d+1]? =some (.loop {m with state:=.busy}):=by rw[fY,bZ rfl,r2];rfl
  generalize O.putObj (d+1) (.loop {m with state:=.busy})=w3 at m3 r3|-;have hdl:d+1<q:=by grind
  have q3:=hPv _ _ _ _ _ _ v3 m3 qZ;have hw3:=m3.size;have hw4:=v4.size;have M3:de (λb=>b=d+1) W w3:=(v4.to).trans m3;have hXq:∀b,X b->b<q/\(X0 b\/d+1<b):=λb g=>⟨by grind,(n b g).2.1⟩
  have t:∀b,X b->b≠d+1/\b≠d:=λb g=>by
   rcases(n b g).2.1 with h|h
   ·have:=R b h;omega
   ·omega
  have E:∀(k:Wt_) (y:NP_) (o:Obj),de (λb=>X b\/q<=b) w3 k->(∀b,y b->(X b\/w3.heap.size<=b)/\b<k.heap.size)->
    de X0 w (k.putObj (d+1) o)/\hp (k.putObj (d+1) o) d=some (.deferred (some []))/\(∀b,y b->b<(k.putObj (d+1) o).heap.size/\(X0 b\/d+1<b)/\¬Q b)/\(∀b,Q b->d+1<b/\b<(k.putObj (d+1) o).heap.size)/\
    (∀b,Q b->(k.putObj (d+1) o).heap[b]? =W.heap[b]?)/\W.heap.size<=(k.putObj (d+1) o).heap.size/\k.heap[d+1]? =some (.loop {m with state:=.busy}):=by
   intro k y o j A;have S:=p k o;have hsW:=j.size;have hsP:=S.size;refine⟨?_,S.hpk (j.hpk (m3.hpk (v4.hpk P id) qZ) λg=>g.elim (λg=>(t _ g).2 rfl) λg=>qZ) qZ,λb g=>?_,λb g=>?_,λb g=>?_,qZ,j.keep r3 λg=>g.elim (λg=>(t _ g).1 rfl) λg=>qZ⟩
   ·refine(((L.on M3 λb g=>gz).on j λb g=>?_)).on S λb g=>gz;rcases g with g|g
    ·rcases(n b g).2.1 with h|h
     ·exact .inl h
     ·exact gz
    ·exact gz
   ·have u:=A b g;refine⟨qZ,?_,λhq=>?_⟩
    ·rcases u.1 with h|h
     ·exact(n b h).2.1
     ·exact gz
    ·rcases u.1 with h|h
     ·exact(n b h).2.2 hq
     ·grind
   ·have:=U b g;omega
   ·have hb' :=U b g;rw[S.blk b qZ qZ,j.blk b qZ λC=>C.elim (λC=>(n b C).2.2 g) λC=>qZ,M3.blk b hb'.2 qZ]
  refine F X i hi w3 q v (D _ _ _ _ _ T M3 λb g=>(t b g).1) (L.on M3 λb g=>gz) hXq qZ qZ q3 ⟨_,r3⟩ _ _ ?_ ?_
  ·intro y k hI' j A;obtain⟨k1,k2,k3,k4,k5,k6,k7⟩:=E k y (.loop {{m with state:=.busy}with state:=.ready,pending:=none}) j A;refine⟨_,k7,hT _ ⟨y,?_,k1,k2,k3,?_,k4⟩ k6 k5⟩
   ·refine D _ _ _ _ _ hI' (p k _) λb g e=>?_;rcases(A b g).1 with h|h
    ·exact(t b h).1 e
    ·omega
   ·rw[fY,bZ rfl,k7];simp[<-s,<-M]
  ·intro c y k hI' j A;obtain⟨k1,k2,k3,k4,k5,k6,k7⟩:=E k y (.loop {{m with state:=.busy}with state:=.done,pending:=some c}) j A;refine⟨_,k7,hF _ ⟨c,y,{m with state:=.done,pending:=some c},?_,k1,k2,k3,?_,k4,rfl,rfl⟩ k6 k5⟩
   ·refine hsx _ _ _ _ _ hI' (p k _) λb g e=>?_;rcases(A b g).1 with h|h
    ·exact(t b h).1 e
    ·omega
   ·rw[fY,bZ rfl,k7];rfl
 ·rintro Q W ⟨X,T,L,P,n,B,U⟩;refine⟨m,B,by rw[s];decide,?_⟩;rw[<-z];have j:=p W (.loop {m with state:=.exhausted});generalize W.putObj (d+1) (.loop {m with state:=.exhausted})=W8 at j|-;rw[M]
  have t:∀b,X b->b≠d+1:=λb g=>by
   rcases(n b g).2.1 with h|h
   ·have:=R b h;omega
   ·omega
  refine hend X _ d z ?_ (L.on j λb g=>gz) (j.hpk P qZ) λb g=>⟨ep (n b g).1 j.size,(n b g).2.1⟩
  have C:I X xs.length W:=by grind
  exact D _ _ _ _ _ C j λb g=>t b g
 ·rintro Q W ⟨c,X,r,T,L,P,n,B,U,h7,h8⟩;refine⟨r,B,by rw[h7];decide,?_⟩;rw[<-z];have j:=p W (.loop {r with state:=.exhausted});generalize W.putObj (d+1) (.loop {r with state:=.exhausted})=W8 at j|-;rw[h8]
  have t:∀b,X b->b≠d+1:=λb g=>by
   rcases(n b g).2.1 with h|h
   ·have:=R b h;omega
   ·omega
  exact hexit c X _ d z (hsx _ _ _ _ _ T j λb g=>t b g) (L.on j λb g=>gz) (j.hpk P qZ) λb g=>⟨ep (n b g).1 j.size,(n b g).2.1⟩
def CX(D:th gv (xs.map λa=>[fv a]) w)(s:∀a∈xs,∀(W:Wt_) (K:Value->World->Prop),(∀t v,Pv a v W.heap.size t->M0 W t->K v t)->asg (fv a) W K)
  (A:∀a v q W e H,Pv a v q W->de H W e->¬H q->Pv a v q e)
  (I:(Nat->Prop)->Nat->World->Prop)(p:Code->(Nat->Prop)->World->Prop)
  (y:∀X i W e H,I X i W->de H W e->(∀b,X b->¬H b)->I X i e)
  (z:∀c X W e H,p c X W->de H W e->(∀b,X b->¬H b)->p c X e)
  (u:∀b,X0 b->b<w.heap.size)(E:I X0 0 w)
  (g:∀X i (hi:i<xs.length) W q v,I X i W->de X0 w W->(∀b,X b->b<q/\(X0 b\/w.heap.size+1<b))->w.heap.size+1<q->q<=W.heap.size->Pv xs[i] v q W->(∃r,hp W (w.heap.size+1)=some (.loop r))->∀k n,
   (∀f e,I f (i+1) e->de X W e->(∀b,f b->(X b\/W.heap.size<=b)/\b<e.heap.size)->k e)->
   (∀c f e,p c f e->de X W e->(∀b,f b->(X b\/W.heap.size<=b)/\b<e.heap.size)->n c e)->body (w.heap.size+1) v W k n)
  (o:∀X W d,d=w.heap.size->I X xs.length W->de X0 w W->hp W d=some (.deferred (some []))->(∀b,X b->b<W.heap.size/\(X0 b\/d+1<b))->after [d] none W)
  (j:∀c X W d,d=w.heap.size->p c X W->de X0 w W->hp W d=some (.deferred (some []))->(∀b,X b->b<W.heap.size/\(X0 b\/d+1<b))->after [d] (some c) W):
  yP pQ none gv w 1 (λl x W k n=>asg (x.getD 0 undef) W λv t=>lC l t λB=>body l v B k n) after:=
 Kw D s A I p y z u E (λX i hi W q v M N F J G L C k n k1 k2=>g X i hi W q v M N F J G L C k n (λf e x m h=>k1 f e x (m.mono λ_ _ h=>.inl h) h) λc f e x m h=>k2 c f e x (m.mono λ_ _ h=>.inl h) h) o j
def Lh{l0:Nat}(hl0:∃r,hp w l0=some (.loop r))(ht:th gv (xs.map λa=>[fv a]) w)(hasg:∀a∈xs,∀(W:Wt_) (K:Value->World->Prop),(∀M v,Pv a v W.heap.size M->M0 W M->K v M)->asg (fv a) W K)
  (hPv:∀a v q W j H,Pv a v q W->de H W j->¬H q->Pv a v q j)
  (I:(Nat->Prop)->Nat->World->Prop)(Ex:Code->(Nat->Prop)->World->Prop)
  (B:∀X i W j H,I X i W->de H W j->(∀b,X b->¬H b)->I X i j)
  (hsx:∀c X W j H,Ex c X W->de H W j->(∀b,X b->¬H b)->Ex c X j)
  (P:∀b,X0 b->b<w.heap.size)(h0:I X0 0 w)
  (D:∀X i (hi:i<xs.length) W q v,I X i W->de X0 w W->(∀b,X b->b<q/\(X0 b\/w.heap.size<b))->w.heap.size<q->q<=W.heap.size->Pv xs[i] v q W->∀KN KJ,
   (∀y j,I y (i+1) j->de X W j->(∀b,y b->(X b\/W.heap.size<=b)/\b<j.heap.size)->KN j)->
   (∀c y j,Ex c y j->de X W j->(∀b,y b->(X b\/W.heap.size<=b)/\b<j.heap.size)->KJ c j)->body w.heap.size v W KN KJ)
  (T:∀X W,I X xs.length W->de X0 w W->(∀b,X b->b<W.heap.size/\(X0 b\/w.heap.size<b))->after [] none W)
  (G:∀c X W,Ex c X W->de X0 w W->(∀b,X b->b<W.heap.size/\(X0 b\/w.heap.size<b))->after [] (some c) W):
  yP pQ (some l0) gv w 1 (λl x W KN KJ=>asg (x.getD 0 undef) W λv M=>lC l M λw3=>body l v w3 KN KJ) after:=by
 obtain⟨⟨Ok,hit,hok⟩,-⟩:=ht;obtain⟨f,first,captured,rfl,hit0⟩:=hit.out;apply wu.2;obtain⟨r0,hr0⟩:=hl0;refine⟨r0,hr0,?_⟩;show∀k:Loop,_;intro k s F hD hY;obtain⟨d,O⟩:=dW w.heap.size;rw[<-O]at D;obtain⟨wr,N⟩:=dW (w.alloc (.loop k));have V:wr.heap[d]? =some (.loop k):=by rw[N,gy,bZ O]
 have hszr:wr.heap.size=d+1:=by rw[N,eG,<-O]
 have hmr:M0 w wr:=by rw[N];exact(de.refl _ w).alloc _
 have p:∀(W:Wt_) (o:Obj),de (λb=>b=d) W (W.putObj d o):=λW o=>(de.refl (λb=>b=d) W).putObj (b:=d) (.inl rfl) o;rw[<-O]at hY T G|-;rw[<-N];let J:(Nat->Prop)->Nat->World->Prop:=λQ i W=>∃X,I X i W/\de X0 w W/\(∀b,X b->b<W.heap.size/\(X0 b\/d<b)/\¬Q b)/\W.heap[d]? =some (.loop k)/\∀b,Q b->d<b/\b<W.heap.size;let Js:(Nat->Prop)->World->Prop:=λQ W=>∃c X r,Ex c X W/\de X0 w W/\(∀b,X b->b<W.heap.size/\(X0 b\/d<b)/\¬Q b)/\W.heap[d]? =some (.loop r)/\(∀b,Q b->d<b/\b<W.heap.size)/\r.state=.done/\r.pending=some c;refine hit0 _ J Js _ _ (hok _ hmr) ?_ ?_ ?_ ?_ ?_ ?_
 ·intro Q W1 m hQ;refine⟨X0,B _ _ _ _ _ h0 (hmr.trans m) eQ,(hmr.trans m).to,λb g=>?_,m.keep V id,λb g=>?_⟩
  ·have R:=P b g;have E:=m.size;exact⟨qZ,.inl g,λhq=>by grind⟩
  ·have:=hQ b g;omega
 ·rintro Q Q' i W j ⟨X,R,E,n,A,U⟩ m L;have hl:=cB A;refine⟨X,B _ _ _ _ _ R m λb g=>(n b g).2.2,E.on m λb g=>.inr (by grind),λb g=>?_,m.keep A λg=>by grind,λb g=>?_⟩
  ·have t:=n b g;refine⟨ep t.1 m.size,t.2.1,λhq=>?_⟩;rcases(L b hq).1 with h|h
   ·exact t.2.2 h
   ·have:=t.1;omega
  ·have t:=L b g;refine⟨?_,t.2⟩;rcases t.1 with h|h
   ·exact(U b h).1
   ·omega
 ·rintro Q Q' W j ⟨c,X,r,R,E,n,A,U,h7⟩ m L;have hl:=cB A;refine⟨c,X,r,hsx _ _ _ _ _ R m λb g=>(n b g).2.2,E.on m λb g=>.inr (by grind),λb g=>?_,m.keep A λg=>by grind,λb g=>?_,h7⟩
  ·have t:=n b g;refine⟨ep t.1 m.size,t.2.1,λhq=>?_⟩;rcases(L b hq).1 with h|h
   ·exact t.2.2 h
   ·have:=t.1;omega
  ·have t:=L b g;refine⟨?_,t.2⟩;rcases t.1 with h|h
   ·exact(U b h).1
   ·omega
 ·rintro Q i x W S ⟨X,R,E,n,A,U⟩ K' hT hF;apply oe.2;show Yl pQ (d) ⟨_⟩ W K';have e1:(#[]:Array Value).toList++x=x:=rfl;rw[e1]
  obtain⟨hi,rfl⟩:∃hi:i<xs.length,x=[fv xs[i]]:=by
   rw[dO]at S;cases hh:xs[i]? with
   |none=>rw[hh]at S;cases S
   |some o=>
    obtain⟨hj,he⟩:=cP.1 hh;rw[hh]at S;exact⟨hj,by grind⟩
  apply hY _ W K' rfl ⟨k.state,k.pending,A⟩;obtain⟨q,hq0⟩:=dW W.heap.size;refine hasg xs[i] (cC hi) W _ λM v v3 v4=>?_;rw[<-hq0]at v3;have r2:M.heap[d]? =some (.loop k):=v4.keep A id;apply ux r2 s;have m3:=p M (.loop {k with state:=.busy});have r3:(M.putObj (d) (.loop {k with state:=.busy})).heap[d]? =some (.loop {k with state:=.busy}):=by rw[fY,bZ rfl,r2];rfl
  generalize M.putObj (d) (.loop {k with state:=.busy})=w3 at m3 r3|-;have hdl:d<q:=by grind
  have q3:=hPv _ _ _ _ _ _ v3 m3 qZ;have hw3:=m3.size;have hw4:=v4.size;have M3:de (λb=>b=d) W w3:=(v4.to).trans m3;have hXq:∀b,X b->b<q/\(X0 b\/d<b):=λb g=>⟨by grind,(n b g).2.1⟩
  have u:∀b,X b->b≠d/\b≠d:=λb g=>by
   rcases(n b g).2.1 with h|h
   ·have:=P b h;omega
   ·omega
  have C:∀(j:Wt_) (y:NP_) (o:Obj),de X w3 j->(∀b,y b->(X b\/w3.heap.size<=b)/\b<j.heap.size)->
    de X0 w (j.putObj (d) o)/\(∀b,y b->b<(j.putObj (d) o).heap.size/\(X0 b\/d<b)/\¬Q b)/\(∀b,Q b->d<b/\b<(j.putObj (d) o).heap.size)/\
    (∀b,Q b->(j.putObj (d) o).heap[b]? =W.heap[b]?)/\W.heap.size<=(j.putObj (d) o).heap.size/\j.heap[d]? =some (.loop {k with state:=.busy}):=by
   intro j y o m z;have Z:=p j o;have hsW:=m.size;have hsP:=Z.size;refine⟨?_,λb g=>?_,λb g=>?_,λb g=>?_,qZ,m.keep r3 λg=>(u _ g).1 rfl⟩
   ·refine(((E.on M3 λb g=>gz).on m λb g=>?_)).on Z λb g=>gz;rcases(n b g).2.1 with h|h
    ·exact .inl h
    ·exact gz
   ·have t:=z b g;refine⟨qZ,?_,λhq=>?_⟩
    ·rcases t.1 with h|h
     ·exact(n b h).2.1
     ·exact gz
    ·rcases t.1 with h|h
     ·exact(n b h).2.2 hq
     ·grind
   ·have:=U b g;omega
   ·have hb' :=U b g;rw[Z.blk b qZ qZ,m.blk b qZ λS=>(n b S).2.2 g,M3.blk b hb'.2 qZ]
  refine D X i hi w3 q v (B _ _ _ _ _ R M3 λb g=>(u b g).1) (E.on M3 λb g=>gz) hXq qZ qZ q3 _ _ ?_ ?_
  ·intro y j Y m z;obtain⟨k1,k3,k4,k5,k6,k7⟩:=C j y (.loop {{k with state:=.busy}with state:=.ready,pending:=none}) m z;refine⟨_,k7,hT _ ⟨y,?_,k1,k3,?_,k4⟩ k6 k5⟩
   ·refine B _ _ _ _ _ Y (p j _) λb g e=>?_;rcases(z b g).1 with h|h
    ·exact(u b h).1 e
    ·omega
   ·rw[fY,bZ rfl,k7];simp[<-s,<-F]
  ·intro c y j Y m z;obtain⟨k1,k3,k4,k5,k6,k7⟩:=C j y (.loop {{k with state:=.busy}with state:=.done,pending:=some c}) m z;refine⟨_,k7,hF _ ⟨c,y,{k with state:=.done,pending:=some c},?_,k1,k3,?_,k4,rfl,rfl⟩ k6 k5⟩
   ·refine hsx _ _ _ _ _ Y (p j _) λb g e=>?_;rcases(z b g).1 with h|h
    ·exact(u b h).1 e
    ·omega
   ·rw[fY,bZ rfl,k7];rfl
 ·rintro Q W ⟨X,R,E,n,A,U⟩;refine⟨k,A,by rw[s];decide,?_⟩;have m:=p W (.loop {k with state:=.exhausted});generalize W.putObj (d) (.loop {k with state:=.exhausted})=W8 at m|-;rw[F]
  have u:∀b,X b->b≠d:=λb g=>by
   rcases(n b g).2.1 with h|h
   ·have:=P b h;omega
   ·omega
  refine T X _ ?_ (E.on m λb g=>gz) λb g=>⟨ep (n b g).1 m.size,(n b g).2.1⟩
  have S:I X xs.length W:=by grind
  exact B _ _ _ _ _ S m λb g=>u b g
 ·rintro Q W ⟨c,X,r,R,E,n,A,U,h7,h8⟩;refine⟨r,A,by rw[h7];decide,?_⟩;have m:=p W (.loop {r with state:=.exhausted});generalize W.putObj (d) (.loop {r with state:=.exhausted})=W8 at m|-;rw[h8]
  have u:∀b,X b->b≠d:=λb g=>by
   rcases(n b g).2.1 with h|h
   ·have:=P b h;omega
   ·omega
  exact G c X _ (hsx _ _ _ _ _ R m λb g=>u b g) (E.on m λb g=>gz) λb g=>⟨ep (n b g).1 m.size,(n b g).2.1⟩
end
def Dc:Tryz.prog.underlying 35=some (.map 23 100):=cU
def xn:Tryz.prog.underlying 36=some (.map 23 95):=cU
def XM:qw pQ 100=some (.pointer none):=cU
def O9:qw pQ 95=some dv:=cU
section
variable{v c l mb md:Nat}{n:Int}
abbrev xg(W:Wt_)(v c l mb md:Nat)(n:Int):Prop:=hC W v #[iZ c,iG l,.map (some mb),.map (some md),gQ n] vy
def EQ(W:Wt_)(h:xg W v c l mb md n):(iL 33 (pt v 0)).run pQ W=.ok (iZ c) W:=by simp[go_sem,h,iZ]
def ld1(W:Wt_)(h:xg W v c l mb md n):(iL 34 (pt v 1)).run pQ W=.ok (iG l) W:=by simp[go_sem,h,iG]
def IL(W:Wt_)(h:xg W v c l mb md n):(iL 35 (pt v 2)).run pQ W=.ok (.map (some mb)) W:=by simp[go_sem,h]
def AJ(W:Wt_)(h:xg W v c l mb md n):(iL 36 (pt v 3)).run pQ W=.ok (.map (some md)) W:=by simp[go_sem,h]
def wD(W:Wt_)(h:xg W v c l mb md n):(iL 24 (pt v 4)).run pQ W=.ok (gQ n) W:=by simp[go_sem,h]
def jk(i:Nat)(hi:i<5)(W:Wt_):(iF vy (pt v 0) i).run pQ W=.ok (pt v i) W:=by
 rcases(show i=0\/i=1\/i=2\/i=3\/i=4 by omega)with rfl|rfl|rfl|rfl|rfl<;>simp[go_sem]
end
def vT{v:Nat}{n:Int}(h:xg w v c l mb md n)(a:K (.bool true) w):Ca pQ 27 #[eY v] w K:=by
 apply ag1;unfold eY;refine qSt0 ?_;simp only[dr];refine cI (jk 1 qZ _) (cI (ld1 _ h) ?_);apply cx (.bool true) w (by simp[go_sem,iG]);exact a
def Gu(S:Ven)(C:List (Int×Nat))(D:List (Int×Value)):Ven:=
 {S with bk:=λn=>if(lk C n).isSome then S.bk n else Bk.empty,bd:=λn=>if(lk D n).isSome then S.bd n else []}
def qu{S:Ven}{k Fl:NP_}{ac o i r:Nat}(m:M0 w W)(C:pN W c k S.cal)(z:lA W l Fl S.led)(A:fB iI jY W mb ([]:List (Int×Nat)))(B:fB iI yh W md ([]:List (Int×Value)))
  (bc:∀x,k x->ac<=x/\x<o)(g:∀x,Fl x->i<=x/\x<r)(I:w.heap.size<=ac/\w.heap.size<=i/\w.heap.size<=mb/\w.heap.size<=md)
  (d1:o<=i\/r<=ac)(d2:mb<ac\/o<=mb)(d3:md<ac\/o<=md)(N:mb<i\/r<=mb)(L:md<i\/r<=md)(J:mb≠md)
  (G:∀y s j,rO s y c l mb md [] [] j (Gu S [] [])->M0 w s->(∀p x,j p x->w.heap.size<=x)->K (eY y) s):
  rv pQ (Instr.box vy (.agg #[iZ c,iG l,.map (some mb),.map (some md),gQ S.next])) W K:=by
 obtain⟨v,D⟩:=dW W.heap.size;have f:M0 W (W.alloc (.cells #[iZ c,iG l,.map (some mb),.map (some md),gQ S.next] vy)):=lm;have u:xg (W.alloc (.cells #[iZ c,iG l,.map (some mb),.map (some md),gQ S.next] vy)) v c l mb md S.next:=by show hp _ _=_;rw[D];simp[go_sem]
 apply cx (eY v) (W.alloc (.cells #[iZ c,iG l,.map (some mb),.map (some md),gQ S.next] vy)) (by rw[D];rfl);generalize W.alloc (.cells #[iZ c,iG l,.map (some mb),.map (some md),gQ S.next] vy)=H at f u|-;let fp:Pt->Nat->Prop:=λp=>match p with| .v=>λx=>x=v| .cal=>k| .led=>Fl| .mb=>λx=>x=mb| .md=>λx=>x=md| .bk _=>λ_=>False| .bd _=>λ_=>False
 have t:∀x,k x->x<W.heap.size:=λx e=>C.lt e;have E:∀x,Fl x->x<W.heap.size:=λx e=>z.lt e;have M:=A.lt;have ld:=B.lt;refine G v H fp {blk:=u,cal:=C.mod f eQ,led:=z.mod f eQ,mbk:=A.mod f id,mbd:=B.mod f id,bk:=λn b F=>(by cases F),nbk:=λn _=>⟨rfl,λ_ h=>h⟩,bd:=λn=>jo.nil _ _ _,fv:=λ_=>fd,fmb:=λ_=>fd,fmd:=λ_=>fd,fbd:=λn x=>⟨λh=>h.elim,λh=>(by cases h)⟩,dj:=?_} (m.trans f) ?_
 ·have key:∀p q x,fp p x->fp q x->(match p,q with| .v,.v=>True| .cal,.cal=>True| .led,.led=>True| .mb,.mb=>True| .md,.md=>True|_,_=>False):=by
   intro p q x hp d;cases p<;>cases q<;>first|trivial|exact hp.elim|exact d.elim|skip
   all_goals (simp only[fp]at hp d)
   all_goals first
    |(have a:=bc x hp;have b:=g x d;omega)
    |(have a:=g x hp;have b:=bc x d;omega)
    |(have a:=bc x hp;have b:=t x hp;omega)
    |(have a:=g x hp;have b:=E x hp;omega)
    |(have a:=bc x d;have b:=t x d;omega)
    |(have a:=g x d;have b:=E x d;omega)
    |omega
  intro p q x hp d;have:=key p q x hp d;cases p<;>cases q<;>first|rfl|exact this.elim|exact hp.elim|exact d.elim
 ·intro p x e;cases p
  ·grind
  ·have:=bc x e;omega
  ·have:=g x e;omega
  ·grind
  ·grind
  ·exact e.elim
  ·exact e.elim
def tB(D:∀v F t,lw t v F Ven.empty->M0 w t->(∀x,F x->w.heap.size<=x)->K (eY v) t):Ca pQ 22 #[] w K:=by
 apply aB6;refine Nu λc H y f A I=>?_;have O:=A.size;have bc:∀x,H x->w.heap.size<=x/\x<y.heap.size:=λx i=>⟨I x i,f.lt i⟩
 refine OL λe l Fl j s G=>?_;have M:=s.size;have C:∀x,Fl x->y.heap.size<=x/\x<e.heap.size:=λx i=>⟨G x i,j.lt i⟩
 replace f:=f.mod s eQ;obtain⟨nb,r⟩:=dW e.heap.size;have m:M0 e (e.alloc (.map #[] 0)):=lm;have o:fB iI jY (e.alloc (.map #[] 0)) nb ([]:List (Int×Nat)):=by rw[r];exact fB.new e
 apply cx (.map (some nb)) (e.alloc (.map #[] 0)) (by rw[r];simp[go_sem]);generalize e.alloc (.map #[] 0)=g at m o|-;have P:=m.size;have L:=o.lt;replace f:=f.mod m eQ;replace j:=j.mod m eQ;obtain⟨nd,q⟩:=dW g.heap.size;have k:M0 g (g.alloc (.map #[] 0)):=lm;have z:fB iI yh (g.alloc (.map #[] 0)) nd ([]:List (Int×Value)):=by rw[q];exact fB.new g
 apply cx (.map (some nd)) (g.alloc (.map #[] 0)) (by rw[q];simp[go_sem]);generalize g.alloc (.map #[] 0)=E at k z|-;have N:=k.size;replace f:=f.mod k eQ;replace j:=j.mod k eQ;replace o:=o.mod k id;apply cx (.agg #[iZ c,iG l,.map (some nb),.map (some nd),gQ 1]) E (by simp[go_sem,iZ,iG]);refine qu (S:=Ven.empty) (((A.trans s).trans m).trans k) f j o z bc C qZ qZ qZ qZ qZ qZ qZ λB J u a b d=>?_;refine D B _ J ⟨_,_,_,_,_,_,u,⟨a,λn=>rfl,λn h=>(by cases h)⟩,λ_=>fd⟩ b λx i=>?_;obtain⟨p,hp⟩:=i;exact d p x hp
structure Cw{ν ν' :Type}(A R:List (Int×ν))(C:List (Int×ν')):Prop where
 sub:R.Sublist A
 has:∀k,(lk C k).isSome=true↔(lk A k).isSome=true/\k ∉ R.map (·.1)
def Cw.init{ν d:Type}(A:List (Int×ν)):Cw A A ([]:List (Int×d)):=⟨kJ _,λk=>⟨λh=>(by cases h),λh=>by
 refine absurd ?_ h.2;cases a:lk A k with
 |none=>rw[a]at h;cases h.1
 |some b=>exact cF.2 ⟨_,AC a,rfl⟩⟩⟩
def Cw.step{ν f:Type}{A R:List (Int×ν)}{C:List (Int×f)}(h:Cw A R C)(j:(A.map (·.1)).Nodup){i:Nat}{p:Int×ν}(hp:R[i]? =some p)(b:f):
  Cw A (R.eraseIdx i) (put C p.1 b)/\lk A p.1=some p.2/\lk C p.1=none:=by
 have r:=dL hp;have q:=mem_lk j (h.sub.mem r);have s:=j.sublist (h.sub.map _);have a:=oY hp
 have d:∀k,k∈R.map (·.1)↔k=p.1\/k∈(R.eraseIdx i).map (·.1):=λk=>by
  rw[(a.map (·.1)).mem_iff,cM,cH]
 have t:p.1 ∉ (R.eraseIdx i).map (·.1):=by
  have:=(a.map (·.1)).nodup_iff.1 s;rw[cM,dA]at this;exact this.1
 refine⟨⟨(jB _ _).trans h.sub,λk=>?_⟩,q,?_⟩
 ·rw[sn];by_cases g:p.1=k
  ·grind
  ·rw[aZ g,h.has,d];constructor
   ·grind
   ·refine λ⟨o,m⟩=>⟨o,λe=>?_⟩
    rcases e with e|e
    ·exact g e.symm
    ·exact m e
 ·cases e:lk C p.1 with
  |none=>rfl
  |some x=>
   have:=(h.has p.1).1 (by rw[e];rfl);exact absurd ((d p.1).2 (.inl rfl)) this.2
def Cw.done{ν a:Type}{A:List (Int×ν)}{C:List (Int×a)}(h:Cw A [] C)(k:Int):(lk C k).isSome=(lk A k).isSome:=by
 have:=h.has k;rw[iC,this];simp
def Xg(S:Ven)(C:List (Int×Nat))(D:List (Int×Value))(n:Int)(b:Nat):{Gu S C D with bk:=upd (Gu S C D).bk n (S.bk n)}=Gu S (put C n b) D:=by
 have e:upd (Gu S C D).bk n (S.bk n)=(Gu S (put C n b) D).bk:=by
  funext m;show upd _ n (S.bk n) m=if(lk (put C n b) m).isSome=true then S.bk m else Bk.empty
  rw[sn];by_cases a:m=n
  ·subst a;rw[upd_self,bZ rfl];rfl
  ·have d:¬n=m:=λe=>a e.symm;rw[upd_ne _ _ _ a,aZ d];rfl
 rw[e];rfl
def YJ(S:Ven)(C:List (Int×Nat))(D:List (Int×Value))(n:Int)(x:Vt_):{Gu S C D with bd:=upd (Gu S C D).bd n (S.bd n)}=Gu S C (put D n x):=by
 have e:upd (Gu S C D).bd n (S.bd n)=(Gu S C (put D n x)).bd:=by
  funext m;show upd _ n (S.bd n) m=if(lk (put D n x) m).isSome=true then S.bd m else []
  rw[sn];by_cases a:m=n
  ·subst a;rw[upd_self,bZ rfl];rfl
  ·have b:¬n=m:=λe=>a e.symm;rw[upd_ne _ _ _ a,aZ b];rfl
 rw[e];rfl
set_option maxHeartbeats 2000000 in
def He{v:Nat}{A:List (Int×Nat)}{D:List (Int×Value)}{fp:Pt->Nat->Prop}{S:Ven}(h:ik w v c l mb md A D fp S)(hok:S.Ok)
  (hK:∀v' F' w',lw w' v' F' S->M0 w w' ->(∀x,F' x->w.heap.size<=x)->K (eY v') w'):Ca pQ 21 #[eY v] w K:=by
 apply ZK;apply vT h.blk;refine qSf0 ?_;have md0:M0 w w.drew:=mP;have hszd:w.drew.heap.size=w.heap.size:=rfl;have H0:=h.md0 md0;refine dK.at (λst W=>∃v' N I Q O G,st=(eY v',())/\rO W v' N I Q O [] [] G (Gu S [] [])/\M0 w W/\∀p x,G p x->w.heap.size<=x) ?_ ?_
 ·simp only[eY,dr];rw[<-hszd];obtain⟨Z,hu0⟩:=dW w.drew;rw[<-hu0]at H0 md0|-
  have fin:∀{N I Q O:Nat} (v' :Nat) (W' :Wt_) (G:Pt->Nat->Prop),rO W' v' N I Q O [] [] G (Gu S [] [])->M0 Z W' ->(∀p x,G p x->Z.heap.size<=x)->
    ∃v'' N I Q O G,(eY v',())=(eY v'',())/\rO W' v'' N I Q O [] [] G (Gu S [] [])/\M0 w W' /\∀p x,G p x->Z.heap.size<=x:=λv' W' G a b d=>⟨v',_,_,_,_,G,rfl,a,md0.trans b,d⟩
  refine dw (jk 0 qZ) (dp (EQ _ H0.blk) ?_);refine dw (jk 1 qZ) (dp (ld1 _ H0.blk) ?_);refine dw (jk 4 qZ) (dp (wD _ H0.blk) ?_);refine⟨?_,?_,?_⟩
  ·refine xr H0.cal λN Fc H o M nc=>?_;have T:=H0.md0 M;have z1:=M.size;have bc:∀x,Fc x->Z.heap.size<=x/\x<H.heap.size:=λx j=>⟨nc x j,o.lt j⟩
   refine⟨wD _ T.blk,ld1 _ T.blk,?_⟩;refine⟨?_,?_,?_⟩
   ·refine rV T.led λs I Fl y B V=>?_;have F:=T.md0 B;have z2:=B.size;have U:∀x,Fl x->H.heap.size<=x/\x<s.heap.size:=λx j=>⟨V x j,y.lt j⟩
    replace o:=o.mod B eQ;refine⟨wD _ F.blk,?_⟩;refine⟨?_,?_⟩
    ·obtain⟨nb,t⟩:=dW s.heap.size;have g:M0 s (s.alloc (.map #[] 0)):=lm;have k:fB iI jY (s.alloc (.map #[] 0)) nb ([]:List (Int×Nat)):=by rw[t];exact fB.new s
     apply cx (.map (some nb)) (s.alloc (.map #[] 0)) (by rw[t];simp[go_sem]);generalize s.alloc (.map #[] 0)=r at g k|-;have z:=F.md0 g;have z3:=g.size;have bb:=k.lt;replace o:=o.mod g eQ;replace y:=y.mod g eQ;refine⟨wD _ z.blk,?_⟩;obtain⟨nd,u⟩:=dW r.heap.size;have f:M0 r (r.alloc (.map #[] 0)):=lm;have m:fB iI yh (r.alloc (.map #[] 0)) nd ([]:List (Int×Value)):=by rw[u];exact fB.new r
     apply cx (.map (some nd)) (r.alloc (.map #[] 0)) (by rw[u];simp[go_sem]);generalize r.alloc (.map #[] 0)=u4 at f m|-;have J:=z.md0 f;have z4:=f.size;have bd:=m.lt;replace o:=o.mod f eQ;replace y:=y.mod f eQ;replace k:=k.mod f id;refine⟨wD _ J.blk,?_⟩;apply dX (.agg #[iZ N,iG I,.map (some nb),.map (some nd),gQ S.next]) (λ_=>by simp[go_sem,iZ,iG]);exact qu (S:=S) (((M.trans B).trans g).trans f) o y k m bc U qZ qZ qZ qZ qZ qZ qZ fin
    ·obtain⟨nd,u⟩:=dW s.heap.size;have g:M0 s (s.alloc (.map #[] 0)):=lm;have m:fB iI yh (s.alloc (.map #[] 0)) nd ([]:List (Int×Value)):=by rw[u];exact fB.new s
     apply cx (.map (some nd)) (s.alloc (.map #[] 0)) (by rw[u];simp[go_sem]);generalize s.alloc (.map #[] 0)=r at g m|-;have z:=F.md0 g;have z3:=g.size;have bd:=m.lt;replace o:=o.mod g eQ;replace y:=y.mod g eQ;refine⟨wD _ z.blk,?_⟩;obtain⟨nb,t⟩:=dW r.heap.size;have f:M0 r (r.alloc (.map #[] 0)):=lm;have k:fB iI jY (r.alloc (.map #[] 0)) nb ([]:List (Int×Nat)):=by rw[t];exact fB.new r
     apply cx (.map (some nb)) (r.alloc (.map #[] 0)) (by rw[t];simp[go_sem]);generalize r.alloc (.map #[] 0)=u4 at f k|-;have J:=z.md0 f;have z4:=f.size;have bb:=k.lt;replace o:=o.mod f eQ;replace y:=y.mod f eQ;replace m:=m.mod f id;refine⟨wD _ J.blk,?_⟩;apply dX (.agg #[iZ N,iG I,.map (some nb),.map (some nd),gQ S.next]) (λ_=>by simp[go_sem,iZ,iG]);exact qu (S:=S) (((M.trans B).trans g).trans f) o y k m bc U qZ qZ qZ qZ qZ qZ qZ fin
   ·obtain⟨nb,t⟩:=dW H.heap.size;have B:M0 H (H.alloc (.map #[] 0)):=lm;have k:fB iI jY (H.alloc (.map #[] 0)) nb ([]:List (Int×Nat)):=by rw[t];exact fB.new H
    apply cx (.map (some nb)) (H.alloc (.map #[] 0)) (by rw[t];simp[go_sem]);generalize H.alloc (.map #[] 0)=s at B k|-;have F:=T.md0 B;have z2:=B.size;have bb:=k.lt;replace o:=o.mod B eQ;refine⟨wD _ F.blk,ld1 _ F.blk,?_⟩;refine⟨?_,?_⟩
    ·refine rV F.led λr I Fl y g V=>?_;have z:=F.md0 g;have z3:=g.size;have U:∀x,Fl x->s.heap.size<=x/\x<r.heap.size:=λx j=>⟨V x j,y.lt j⟩
     replace o:=o.mod g eQ;replace k:=k.mod g id;refine⟨wD _ z.blk,?_⟩;obtain⟨nd,u⟩:=dW r.heap.size;have f:M0 r (r.alloc (.map #[] 0)):=lm;have m:fB iI yh (r.alloc (.map #[] 0)) nd ([]:List (Int×Value)):=by rw[u];exact fB.new r
     apply cx (.map (some nd)) (r.alloc (.map #[] 0)) (by rw[u];simp[go_sem]);generalize r.alloc (.map #[] 0)=u4 at f m|-;have J:=z.md0 f;have z4:=f.size;have bd:=m.lt;replace o:=o.mod f eQ;replace k:=k.mod f id;replace y:=y.mod f eQ;refine⟨wD _ J.blk,?_⟩;apply dX (.agg #[iZ N,iG I,.map (some nb),.map (some nd),gQ S.next]) (λ_=>by simp[go_sem,iZ,iG]);exact qu (S:=S) (((M.trans B).trans g).trans f) o y k m bc U qZ qZ qZ qZ qZ qZ qZ fin
    ·obtain⟨nd,u⟩:=dW s.heap.size;have g:M0 s (s.alloc (.map #[] 0)):=lm;have m:fB iI yh (s.alloc (.map #[] 0)) nd ([]:List (Int×Value)):=by rw[u];exact fB.new s
     apply cx (.map (some nd)) (s.alloc (.map #[] 0)) (by rw[u];simp[go_sem]);generalize s.alloc (.map #[] 0)=r at g m|-;have z:=F.md0 g;have z3:=g.size;have bd:=m.lt;replace o:=o.mod g eQ;replace k:=k.mod g id;refine⟨wD _ z.blk,ld1 _ z.blk,?_⟩;refine rV z.led λu4 I Fl y f V=>?_;have J:=z.md0 f;have z4:=f.size;have U:∀x,Fl x->r.heap.size<=x/\x<u4.heap.size:=λx j=>⟨V x j,y.lt j⟩
     replace o:=o.mod f eQ;replace k:=k.mod f id;replace m:=m.mod f id;refine⟨wD _ J.blk,?_⟩;apply dX (.agg #[iZ N,iG I,.map (some nb),.map (some nd),gQ S.next]) (λ_=>by simp[go_sem,iZ,iG]);exact qu (S:=S) (((M.trans B).trans g).trans f) o y k m bc U qZ qZ qZ qZ qZ qZ qZ fin
   ·obtain⟨nd,u⟩:=dW H.heap.size;have B:M0 H (H.alloc (.map #[] 0)):=lm;have m:fB iI yh (H.alloc (.map #[] 0)) nd ([]:List (Int×Value)):=by rw[u];exact fB.new H
    apply cx (.map (some nd)) (H.alloc (.map #[] 0)) (by rw[u];simp[go_sem]);generalize H.alloc (.map #[] 0)=s at B m|-;have F:=T.md0 B;have z2:=B.size;have bd:=m.lt;replace o:=o.mod B eQ;refine⟨wD _ F.blk,ld1 _ F.blk,?_⟩;refine⟨?_,?_⟩
    ·refine rV F.led λr I Fl y g V=>?_;have z:=F.md0 g;have z3:=g.size;have U:∀x,Fl x->s.heap.size<=x/\x<r.heap.size:=λx j=>⟨V x j,y.lt j⟩
     replace o:=o.mod g eQ;replace m:=m.mod g id;refine⟨wD _ z.blk,?_⟩;obtain⟨nb,t⟩:=dW r.heap.size;have f:M0 r (r.alloc (.map #[] 0)):=lm;have k:fB iI jY (r.alloc (.map #[] 0)) nb ([]:List (Int×Nat)):=by rw[t];exact fB.new r
     apply cx (.map (some nb)) (r.alloc (.map #[] 0)) (by rw[t];simp[go_sem]);generalize r.alloc (.map #[] 0)=u4 at f k|-;have J:=z.md0 f;have z4:=f.size;have bb:=k.lt;replace o:=o.mod f eQ;replace m:=m.mod f id;replace y:=y.mod f eQ;refine⟨wD _ J.blk,?_⟩;apply dX (.agg #[iZ N,iG I,.map (some nb),.map (some nd),gQ S.next]) (λ_=>by simp[go_sem,iZ,iG]);exact qu (S:=S) (((M.trans B).trans g).trans f) o y k m bc U qZ qZ qZ qZ qZ qZ qZ fin
    ·obtain⟨nb,t⟩:=dW s.heap.size;have g:M0 s (s.alloc (.map #[] 0)):=lm;have k:fB iI jY (s.alloc (.map #[] 0)) nb ([]:List (Int×Nat)):=by rw[t];exact fB.new s
     apply cx (.map (some nb)) (s.alloc (.map #[] 0)) (by rw[t];simp[go_sem]);generalize s.alloc (.map #[] 0)=r at g k|-;have z:=F.md0 g;have z3:=g.size;have bb:=k.lt;replace o:=o.mod g eQ;replace m:=m.mod g id;refine⟨wD _ z.blk,ld1 _ z.blk,?_⟩;refine rV z.led λu4 I Fl y f V=>?_;have J:=z.md0 f;have z4:=f.size;have U:∀x,Fl x->r.heap.size<=x/\x<u4.heap.size:=λx j=>⟨V x j,y.lt j⟩
     replace o:=o.mod f eQ;replace m:=m.mod f id;replace k:=k.mod f id;refine⟨wD _ J.blk,?_⟩;apply dX (.agg #[iZ N,iG I,.map (some nb),.map (some nd),gQ S.next]) (λ_=>by simp[go_sem,iZ,iG]);exact qu (S:=S) (((M.trans B).trans g).trans f) o y k m bc U qZ qZ qZ qZ qZ qZ qZ fin
  ·obtain⟨nb,t⟩:=dW Z.heap.size;have M:M0 Z (Z.alloc (.map #[] 0)):=lm;have k:fB iI jY (Z.alloc (.map #[] 0)) nb ([]:List (Int×Nat)):=by rw[t];exact fB.new Z
   apply cx (.map (some nb)) (Z.alloc (.map #[] 0)) (by rw[t];simp[go_sem]);generalize Z.alloc (.map #[] 0)=H at M k|-;have T:=H0.md0 M;have z1:=M.size;have bb:=k.lt;refine⟨wD _ T.blk,ld1 _ T.blk,EQ _ T.blk,?_⟩;refine⟨?_,?_⟩
   ·refine xr T.cal λN Fc s o B nc=>?_;have F:=T.md0 B;have z2:=B.size;have bc:∀x,Fc x->H.heap.size<=x/\x<s.heap.size:=λx j=>⟨nc x j,o.lt j⟩
    replace k:=k.mod B id;refine⟨wD _ F.blk,ld1 _ F.blk,?_⟩;refine⟨?_,?_⟩
    ·refine rV F.led λr I Fl y g V=>?_;have z:=F.md0 g;have z3:=g.size;have U:∀x,Fl x->s.heap.size<=x/\x<r.heap.size:=λx j=>⟨V x j,y.lt j⟩
     replace k:=k.mod g id;replace o:=o.mod g eQ;refine⟨wD _ z.blk,?_⟩;obtain⟨nd,u⟩:=dW r.heap.size;have f:M0 r (r.alloc (.map #[] 0)):=lm;have m:fB iI yh (r.alloc (.map #[] 0)) nd ([]:List (Int×Value)):=by rw[u];exact fB.new r
     apply cx (.map (some nd)) (r.alloc (.map #[] 0)) (by rw[u];simp[go_sem]);generalize r.alloc (.map #[] 0)=u4 at f m|-;have J:=z.md0 f;have z4:=f.size;have bd:=m.lt;replace k:=k.mod f id;replace o:=o.mod f eQ;replace y:=y.mod f eQ;refine⟨wD _ J.blk,?_⟩;apply dX (.agg #[iZ N,iG I,.map (some nb),.map (some nd),gQ S.next]) (λ_=>by simp[go_sem,iZ,iG]);exact qu (S:=S) (((M.trans B).trans g).trans f) o y k m bc U qZ qZ qZ qZ qZ qZ qZ fin
    ·obtain⟨nd,u⟩:=dW s.heap.size;have g:M0 s (s.alloc (.map #[] 0)):=lm;have m:fB iI yh (s.alloc (.map #[] 0)) nd ([]:List (Int×Value)):=by rw[u];exact fB.new s
     apply cx (.map (some nd)) (s.alloc (.map #[] 0)) (by rw[u];simp[go_sem]);generalize s.alloc (.map #[] 0)=r at g m|-;have z:=F.md0 g;have z3:=g.size;have bd:=m.lt;replace k:=k.mod g id;replace o:=o.mod g eQ;refine⟨wD _ z.blk,ld1 _ z.blk,?_⟩;refine rV z.led λu4 I Fl y f V=>?_;have J:=z.md0 f;have z4:=f.size;have U:∀x,Fl x->r.heap.size<=x/\x<u4.heap.size:=λx j=>⟨V x j,y.lt j⟩
     replace k:=k.mod f id;replace o:=o.mod f eQ;replace m:=m.mod f id;refine⟨wD _ J.blk,?_⟩;apply dX (.agg #[iZ N,iG I,.map (some nb),.map (some nd),gQ S.next]) (λ_=>by simp[go_sem,iZ,iG]);exact qu (S:=S) (((M.trans B).trans g).trans f) o y k m bc U qZ qZ qZ qZ qZ qZ qZ fin
   ·obtain⟨nd,u⟩:=dW H.heap.size;have B:M0 H (H.alloc (.map #[] 0)):=lm;have m:fB iI yh (H.alloc (.map #[] 0)) nd ([]:List (Int×Value)):=by rw[u];exact fB.new H
    apply cx (.map (some nd)) (H.alloc (.map #[] 0)) (by rw[u];simp[go_sem]);generalize H.alloc (.map #[] 0)=s at B m|-;have F:=T.md0 B;have z2:=B.size;have bd:=m.lt;replace k:=k.mod B id;refine⟨wD _ F.blk,ld1 _ F.blk,EQ _ F.blk,?_⟩;refine xr F.cal λN Fc r o g nc=>?_;have z:=F.md0 g;have z3:=g.size;have bc:∀x,Fc x->s.heap.size<=x/\x<r.heap.size:=λx j=>⟨nc x j,o.lt j⟩
    replace k:=k.mod g id;replace m:=m.mod g id;refine⟨wD _ z.blk,ld1 _ z.blk,?_⟩;refine rV z.led λu4 I Fl y f V=>?_;have J:=z.md0 f;have z4:=f.size;have U:∀x,Fl x->r.heap.size<=x/\x<u4.heap.size:=λx j=>⟨V x j,y.lt j⟩
    replace k:=k.mod f id;replace m:=m.mod f id;replace o:=o.mod f eQ;refine⟨wD _ J.blk,?_⟩;apply dX (.agg #[iZ N,iG I,.map (some nb),.map (some nd),gQ S.next]) (λ_=>by simp[go_sem,iZ,iG]);exact qu (S:=S) (((M.trans B).trans g).trans f) o y k m bc U qZ qZ qZ qZ qZ qZ qZ fin
  ·obtain⟨nd,u⟩:=dW Z.heap.size;have M:M0 Z (Z.alloc (.map #[] 0)):=lm;have m:fB iI yh (Z.alloc (.map #[] 0)) nd ([]:List (Int×Value)):=by rw[u];exact fB.new Z
   apply cx (.map (some nd)) (Z.alloc (.map #[] 0)) (by rw[u];simp[go_sem]);generalize Z.alloc (.map #[] 0)=H at M m|-;have T:=H0.md0 M;have bd:=m.lt;refine⟨wD _ T.blk,ld1 _ T.blk,EQ _ T.blk,?_⟩;refine⟨?_,?_⟩
   ·refine xr T.cal λN Fc s o B nc=>?_;have F:=T.md0 B;have z2:=B.size;have bc:∀x,Fc x->H.heap.size<=x/\x<s.heap.size:=λx j=>⟨nc x j,o.lt j⟩
    replace m:=m.mod B id;refine⟨wD _ F.blk,ld1 _ F.blk,?_⟩;refine⟨?_,?_⟩
    ·refine rV F.led λr I Fl y g V=>?_;have z:=F.md0 g;have z3:=g.size;have U:∀x,Fl x->s.heap.size<=x/\x<r.heap.size:=λx j=>⟨V x j,y.lt j⟩
     replace m:=m.mod g id;replace o:=o.mod g eQ;refine⟨wD _ z.blk,?_⟩;obtain⟨nb,t⟩:=dW r.heap.size;have f:M0 r (r.alloc (.map #[] 0)):=lm;have k:fB iI jY (r.alloc (.map #[] 0)) nb ([]:List (Int×Nat)):=by rw[t];exact fB.new r
     apply cx (.map (some nb)) (r.alloc (.map #[] 0)) (by rw[t];simp[go_sem]);generalize r.alloc (.map #[] 0)=u4 at f k|-;have J:=z.md0 f;have z4:=f.size;have bb:=k.lt;replace m:=m.mod f id;replace o:=o.mod f eQ;replace y:=y.mod f eQ;refine⟨wD _ J.blk,?_⟩;apply dX (.agg #[iZ N,iG I,.map (some nb),.map (some nd),gQ S.next]) (λ_=>by simp[go_sem,iZ,iG]);exact qu (S:=S) (((M.trans B).trans g).trans f) o y k m bc U qZ qZ qZ qZ qZ qZ qZ fin
    ·obtain⟨nb,t⟩:=dW s.heap.size;have g:M0 s (s.alloc (.map #[] 0)):=lm;have k:fB iI jY (s.alloc (.map #[] 0)) nb ([]:List (Int×Nat)):=by rw[t];exact fB.new s
     apply cx (.map (some nb)) (s.alloc (.map #[] 0)) (by rw[t];simp[go_sem]);generalize s.alloc (.map #[] 0)=r at g k|-;have z:=F.md0 g;have z3:=g.size;have bb:=k.lt;replace m:=m.mod g id;replace o:=o.mod g eQ;refine⟨wD _ z.blk,ld1 _ z.blk,?_⟩;refine rV z.led λu4 I Fl y f V=>?_;have J:=z.md0 f;have z4:=f.size;have U:∀x,Fl x->r.heap.size<=x/\x<u4.heap.size:=λx j=>⟨V x j,y.lt j⟩
     replace m:=m.mod f id;replace o:=o.mod f eQ;replace k:=k.mod f id;refine⟨wD _ J.blk,?_⟩;apply dX (.agg #[iZ N,iG I,.map (some nb),.map (some nd),gQ S.next]) (λ_=>by simp[go_sem,iZ,iG]);exact qu (S:=S) (((M.trans B).trans g).trans f) o y k m bc U qZ qZ qZ qZ qZ qZ qZ fin
   ·obtain⟨nb,t⟩:=dW H.heap.size;have B:M0 H (H.alloc (.map #[] 0)):=lm;have k:fB iI jY (H.alloc (.map #[] 0)) nb ([]:List (Int×Nat)):=by rw[t];exact fB.new H
    apply cx (.map (some nb)) (H.alloc (.map #[] 0)) (by rw[t];simp[go_sem]);generalize H.alloc (.map #[] 0)=s at B k|-;have F:=T.md0 B;have bb:=k.lt;replace m:=m.mod B id;refine⟨wD _ F.blk,ld1 _ F.blk,EQ _ F.blk,?_⟩;refine xr F.cal λN Fc r o g nc=>?_;have z:=F.md0 g;have z3:=g.size;have bc:∀x,Fc x->s.heap.size<=x/\x<r.heap.size:=λx j=>⟨nc x j,o.lt j⟩
    replace m:=m.mod g id;replace k:=k.mod g id;refine⟨wD _ z.blk,ld1 _ z.blk,?_⟩;refine rV z.led λu4 I Fl y f V=>?_;have J:=z.md0 f;have z4:=f.size;have U:∀x,Fl x->r.heap.size<=x/\x<u4.heap.size:=λx j=>⟨V x j,y.lt j⟩
    replace m:=m.mod f id;replace k:=k.mod f id;replace o:=o.mod f eQ;refine⟨wD _ J.blk,?_⟩;apply dX (.agg #[iZ N,iG I,.map (some nb),.map (some nd),gQ S.next]) (λ_=>by simp[go_sem,iZ,iG]);exact qu (S:=S) (((M.trans B).trans g).trans f) o y k m bc U qZ qZ qZ qZ qZ qZ qZ fin
 rintro _ W0 ⟨v',N,I,Q,O,G,rfl,q0,zM0,n0⟩;unfold Wv;intro _;have HW:=h.md0 zM0;simp only[eY,dr];refine cI (jk 2 qZ _) (cI (IL _ HW.blk) ?_);refine sw Dc HW.mbk λw1 it1 n1=>?_;obtain⟨it,hit⟩:=dW W0.heap.size;rw[<-hit]at it1|-;have hM0:=zM0.size;have hit0:∀p x,G p x->x≠it:=λp x j=>by have:=q0.lt j;omega
 refine eS (λst W=>∃(R:List (Int×Nat)) (C:List (Int×Nat)) (G:Pt->Nat->Prop),st=()/\nD iI jY W it mb R/\rO W v' N I Q O C [] G (Gu S C [])/\Cw A R C/\M0 w W/\∀p x,G p x->w.heap.size<=x/\x≠it)
  (λ_ W=>rm it mb W) ⟨A,[],G,rfl,it1,q0.mod n1 λ_ _ _ h=>h,Cw.init A,zM0.trans n1,λp x j=>⟨n0 p x j,hit0 p x j⟩⟩ ?_
 rintro _ W ⟨R,C,fpC,rfl,r1,r2,r3,r4,r5⟩ KN hKN;unfold VG;intro _;have hA:=h.mbk.1;have hitW:=r1.lt;refine uv r1 ?_ ?_
 ·intro hz W1 M hh;subst hz;refine qS0 ?_;rw[gP];simp only[eY,dr];have T:=h.md0 (r4.trans M);have q1:=r2.mod M λ_ _ _ h=>h;have hdn:=r3.done;refine cI (jk 3 qZ _) (cI (AJ _ T.blk) ?_);refine sw xn T.mbd λw2 it2 n2=>?_;obtain⟨jt,hjt⟩:=dW W1.heap.size;rw[<-hjt]at it2|-;have hs1:=(r4.trans M).size
  refine eS (λst W=>∃(R:List (Int×Value)) (E:List (Int×Value)) (G:Pt->Nat->Prop),st=()/\nD iI yh W jt md R/\rO W v' N I Q O C E G (Gu S C E)/\Cw D R E/\M0 w W/\∀p x,G p x->w.heap.size<=x/\x≠jt)
   (λ_ W=>rm jt md W) ⟨D,[],fpC,rfl,it2,q1.mod n2 λ_ _ _ h=>h,Cw.init D,(r4.trans M).trans n2,λp x j=>⟨(r5 p x j).1,by have:=q1.lt j;omega⟩⟩ ?_
  rintro _ W2 ⟨R2,E,fpE,rfl,t1,t2,t3,t4,t5⟩ KM hKM;unfold UE;intro _;have hD:=h.mbd.1;have hjtW:=t1.lt;refine uv t1 ?_ ?_
  ·intro hz W3 g hh3;subst hz;refine qS0 ?_;rw[gP];have q3:=t2.mod g λ_ _ _ h=>h;have hdE:=t3.done
   have hS:Gu S C E=S:=by
    unfold Gu
    have e1:(λn=>if(lk C n).isSome=true then S.bk n else Bk.empty)=S.bk:=by
     funext n;by_cases hc:(lk C n).isSome=true
     ·rw[bZ hc]
     ·rw[aZ hc];rw[hdn n]at hc;have:lk A n=none:=by cases hl:lk A n with|none=>rfl|some b=>rw[hl]at hc;exact absurd rfl hc
      exact((h.nbk n this).1).symm
    have e2:(λn=>if(lk E n).isSome=true then S.bd n else [])=S.bd:=by
     funext n;by_cases hc:(lk E n).isSome=true
     ·rw[bZ hc]
     ·rw[aZ hc];rw[hdE n]at hc;have hl:lk D n=none:=by cases hl:lk D n with|none=>rfl|some b=>rw[hl]at hc;exact absurd rfl hc
      have hb:=h.bd n;unfold rz at hb;rw[hl]at hb;obtain⟨hlen,⟨-,h0⟩|⟨b,cap,rest,he,-⟩⟩:=hb
      ·grind
      ·cases he
    rw[e1,e2]
   rw[hS]at q3;refine hK v' _ W3 ⟨N,I,Q,O,C,E,fpE,⟨q3,λn=>by rw[hdn];exact h.dom n,λn hn=>h.dod n (by grind)⟩,λ_=>fd⟩ (t4.trans g) λx j=>?_;obtain⟨p,hp⟩:=j;exact(t5 p x hp).1
  ·intro i p hp W3 i3 cu3 g hs3;refine qS0 ?_;rw[kx];apply sg cu3;refine qS0 ?_;refine qS0 ?_;simp only[eY,dr];have M3:M0 w W3:=t4.on g λb hb=>gz;have q3:=t2.mod g λp x j=>(t5 p x j).2;have Y:M0 W3 W3.drew:=mP;have X:=M3.trans Y;have P:=q3.mod Y λ_ _ _ h=>h;have i3d:=i3.mod Y id id;have hs3d:W3.drew.heap.size=W3.heap.size:=rfl
   try dsimp only
   generalize W3.drew=W4 at Y X P i3d hs3d|-;have J:=h.md0 X;refine dw (jk 3 qZ) (dp (AJ _ P.blk) ?_);obtain⟨-,hDp,-⟩:=t3.step hD hp dv;have hbd:=J.bd p.1;have hsl:rz D p.1=p.2:=by unfold rz;rw[hDp];rfl
   rw[hsl]at hbd;refine ww hbd.rd (by have:=hok.ord.bdl p.1;omega) λs' W5 o5 m5 n5=>?_;have q5:=P.mod m5 λ_ _ _ h=>h;refine⟨AJ _ q5.blk,?_⟩;obtain⟨t3',-,hEp⟩:=t3.step hD hp s';refine kV (enc:=iI) (ev:=yh) (x:=p.1) (v:=s') xn rP q5.mbd λW6 a6 m6 hs6=>?_;have hbdE:fpE (.bd p.1)=λx=>cK (rz E p.1) x:=funext λx=>propext (P.fbd p.1 x);have q6:=P.setBd (n:=p.1) (L:=S.bd p.1) (sl:=s') (m5.to) o5 (λx j=>.inr (n5 x j)) a6 m6;rw[YJ S C E p.1 s']at q6;have hmd' :fpE .md O:=(P.fmd O).2 rfl;have hmdn:=t5 .md O hmd';have hW34:=m5.size;refine hKM _ _ ⟨R2.eraseIdx i,put E p.1 s',_,rfl,(i3d.mod m5 id id).mod m6 (λe=>?_) (λe=>hmdn.2 e.symm),q6,t3',(X.trans m5).on m6 λb hb=>.inr (by grind),λq x j=>?_⟩ ?_
   ·have:=h.lt (p:=.md) ((h.fmd md).2 rfl);have:=hmdn.1;omega
   ·by_cases hq:q=.bd p.1
    ·subst hq;rw[ip]at j;have:=n5 x j;have:=X.size;have:=i3d.lt.2;exact⟨qZ,qZ⟩
    ·rw[eH hq]at j;exact t5 q x j
   ·have il:=(i3d.mod m5 id id).mod m6 (λe=>by have:=h.lt (p:=.md) ((h.fmd md).2 rfl);have:=hmdn.1;omega) (λe=>hmdn.2 e.symm);rw[il.left,t1.left];have hil:=(cP.1 hp).1;rw[kt hil];omega
 ·intro i p hp W3 i3 cu3 g hs3;refine qS0 ?_;rw[kx];apply sg cu3;refine qS0 ?_;refine qS0 ?_;simp only[eY,dr];have M3:M0 w W3:=r4.on g λb hb=>gz;have q3:=r2.mod g λp x j=>(r5 p x j).2;have Y:M0 W3 W3.drew:=mP;have X:=M3.trans Y;have P:=q3.mod Y λ_ _ _ h=>h;have i3d:=i3.mod Y id id;have hs3d:W3.drew.heap.size=W3.heap.size:=rfl
  try dsimp only
  generalize W3.drew=W4 at Y X P i3d hs3d|-;have J:=h.md0 X;refine dw (jk 2 qZ) (dp (IL _ P.blk) ?_);obtain⟨-,hAp,-⟩:=r3.step hA hp 0;refine EY (J.bk p.1 p.2 hAp) λb' F' W5 o5 m5 n5=>?_;have q5:=P.mod m5 λ_ _ _ h=>h;refine⟨IL _ q5.blk,?_⟩;obtain⟨r3',-,hCp⟩:=r3.step hA hp b';refine kV (enc:=iI) (ev:=jY) (x:=p.1) (v:=b') Dc rP q5.mbk λW6 a6 m6 hs6=>?_;have q6:=P.addBk (n:=p.1) hCp m5 o5 n5 a6 m6;rw[Xg S C [] p.1 b']at q6;have hmb' :fpC .mb Q:=(P.fmb Q).2 rfl;have hmbn:=r5 .mb Q hmb';have hmbl:=h.lt (p:=.mb) ((h.fmb mb).2 rfl);have il:=(i3d.mod m5 id id).mod m6 (λe=>by grind) (λe=>hmbn.2 e.symm);refine hKN _ _ ⟨R.eraseIdx i,put C p.1 b',_,rfl,il,q6,r3',(X.trans m5).on m6 λb hb=>.inr (by grind),λq x j=>?_⟩ ?_
  ·by_cases hq:q=.bk p.1
   ·subst hq;rw[ip]at j;have:=n5 x j;have:=X.size;have:=i3d.lt.2;exact⟨qZ,qZ⟩
   ·rw[eH hq]at j;exact r5 q x j
  ·rw[il.left,r1.left];have hil:=(cP.1 hp).1;rw[kt hil];omega
def KL{c a b:LV_}{off:Nat}(h:off+a.length+b.length<=c.length):mh (mh c off a) (off+a.length) b=mh c off (a++b):=by
 unfold mh;have f:(c.take off).length=off:=by grind
 have d:(c.take off++a).length=off+a.length:=by grind
 rw[List.take_left' d,qF,fg qZ,jO,eN,cD];have e:off+a.length+(off+a.length+b.length - ((List.take off c).length+a.length))=off+(a++b).length:=by grind
 rw[e,df (List.take off c) a b]
def xx:∀a:List Value,(a.flatMap λv=>v.cells.toList).length=(a.map λv=>v.cells.size).sum
 | []=>rfl
 |v::a=>by rw[eu,cD,xx a,cM,di];simp
def zY{place:Nat->Option (Nat×Nat)}:∀(e:LV_) (d:List Nat) (k off:Nat) (c:LV_),e.map (λv=>v.cells.size)=d->(∀j (h:j<d.length),place (k+j)=some (off+(d.take j).sum,d[j]))->off+d.sum<=c.length->
  Instr.fill place c.toArray ((e.zipIdx k).map λp=>(p.2,p.1))=some (mh c off (e.flatMap λv=>v.cells.toList)).toArray
 | [],d,k,off,c,f,_,o=>by
  show some c.toArray=_;unfold mh;simp
 |v::e,d,k,off,c,f,g,o=>by
  cases d with
  |nil=>simp at f
  |cons s d=>
  rw[cM]at f;injection f with q n;rw[di]at o;have i:=g 0 (by simp);simp only[kw,List.sum_nil,dS,iN]at i;rw[qJ,cM];rw[uz i q qZ];have r:v.cells.toList.length=s:=by rw[<-q];simp
  rw[zY e d (k+1) (off+s) _ n (λj t=>?_) (by rw[ve qZ];omega)]
  ·have m:(e.flatMap λv=>v.cells.toList).length=d.sum:=by rw[xx,n]
   have:=KL (c:=c) (off:=off) (a:=v.cells.toList) (b:=e.flatMap λv=>v.cells.toList) qZ;rw[r]at this;rw[this,eu]
  ·have:=g (j+1) (by simp;omega);rw[show k+1+j=k+(j+1) by omega,this];simp only[lq,di,fA];congr 2;omega
abbrev lx:TypeId:=52
def ud(r:Rp)(sT sG sA:Vt_):Value:=.agg #[.int .i64 r.err,gQ r.num,gI r.filled,gI r.left,sT,sG,sA]
def mC(r:Rp)(sT sG sA:Vt_):List Value:=[.int .i64 r.err,gQ r.num,gI r.filled,gI r.left,sT,sG,sA]
abbrev BH(n:Int):List Value:=[.int .u32 n]
structure vG(w:Wt_)(sT sG sA:Vt_)(r:Rp):Prop where
 tr:jo w 111 4 sT r.trades.length (r.trades.flatMap Fg)
 go:jo w 24 1 sG r.gone.length (r.gone.flatMap CB)
 ac:jo w 23 1 sA r.accts.length (r.accts.flatMap BH)
 d1:∀x,cK sT x->¬cK sG x
 d2:∀x,cK sT x->¬cK sA x
 d3:∀x,cK sG x->¬cK sA x
def vG.mod{F:NP_}{w' :Wt_}(h:vG w sT sG sA r)(d:de F w w')(b:∀x,cK sT x\/cK sG x\/cK sA x->¬F x):vG w' sT sG sA r:=
 ⟨h.tr.mod d λx a=>b x (.inl a),h.go.mod d λx a=>b x (.inr (.inl a)),h.ac.mod d λx a=>b x (.inr (.inr a)),h.d1,h.d2,h.d3⟩
def vG.nil(w:Wt_)(e:Int):vG w dv dv dv (failR e):=⟨jo.nil _ _ _,jo.nil _ _ _,jo.nil _ _ _,λx a=>(by cases a),λx a=>(by cases a),λx a=>(by cases a)⟩
def vG.isSl(h:vG w sT sG sA r):(∃a n c,sT=.slice a n c)/\(∃a n c,sG=.slice a n c)/\∃a n c,sA=.slice a n c:=by
 obtain⟨a,c,f,-⟩:=h.tr.isSl;obtain⟨i,j,e,-⟩:=h.go.isSl;obtain⟨d,b,g,-⟩:=h.ac.isSl;exact⟨⟨_,_,_,f⟩,⟨_,_,_,e⟩,_,_,_,g⟩
def pl{p:Nat}{cs:Array Value}(h:hC W p cs lx)(i:cs.size=7)(j:(∃a n c,sT=.slice a n c)/\(∃a n c,sG=.slice a n c)/\∃a n c,sA=.slice a n c):
  ∃f,(iS lx (pt p 0) (ud r sT sG sA)).run pQ W=.ok () f/\hp f p=some (.cells (mC r sT sG sA).toArray lx (0,0))/\de (λb=>b=p) W f:=by
 have g:cs.toList.length=7:=by simpa using i
 have k:Tryz.prog.cellsOf lx=6+1:=cU
 have d:(mC r sT sG sA).all (·.oneCell')=true:=by
  obtain⟨⟨_,_,_,rfl⟩,⟨_,_,_,rfl⟩,⟨_,_,_,rfl⟩⟩:=j;rfl
 have e:=xw (P:=pQ) (t:=lx) (b:=p) (off:=0) (cs:=mC r sT sG sA) k rfl h (by show 0+7<=cs.size;omega) d;refine⟨W.setRow p (mh cs.toList 0 (mC r sT sG sA)).toArray,?_,?_,(de.refl (λb=>b=p) W).setRow (.inl rfl) _⟩
 ·have:(jH lx (pt p 0) (ud r sT sG sA)).run pQ W=_:=e;unfold jH at this;exact this
 ·rw[ED,bZ rfl,h,tp (by rw[g];rfl)]
def lB{p:Nat}{T:TypeId}(h:hC W p (mC r sT sG sA).toArray T):(iL lx (pt p 0)).run pQ W=.ok (ud r sT sG sA) W:=
 gm (P:=pQ) (t:=lx) (n:=6) cU cU rfl (At.all h)
def qy(W:Wt_):∃a,(iA lx true (.tuple #[])).run pQ W=.ok (pt W.heap.size 0) a/\hC a W.heap.size (mC zRp dv dv dv).toArray lx/\M0 W a:=
 ⟨W.alloc (.cells (mC zRp dv dv dv).toArray lx),by simp[go_sem,mC,zRp,dv],by simp[go_sem],(de.refl _ W).alloc _⟩
def gJ:(∃a n c,dv=.slice a n c):=⟨none,0,0,rfl⟩
def aA0(W:Wt_):(Instr.build lx #[]).run pQ W=.ok (ud zRp dv dv dv) W:=by simp[go_sem,ud,zRp,dv]
def vQ{e:Int}(j:∀f,M0 w f->K (ud (failR e) dv dv dv) f):Ca pQ 33 #[.int .i64 e] w K:=by
 apply aE7;obtain⟨g,h,d,m⟩:=qy w;apply cI h;obtain⟨p,a⟩:=dW w.heap.size;rw[<-a]at d|-;apply cx (ud (failR e) dv dv dv) g (by simp[go_sem,ud,failR,zRp,dv]);obtain⟨n,o,k,i⟩:=pl (r:=failR e) d rfl ⟨gJ,gJ,gJ⟩;refine ir o (dp (lB k) ?_);exact j n (m.on i λb q=>gz)
section
variable{w:Wt_}{K:cG}{v c l mb md:Nat}{A:List (Int×Nat)}{D:List (Int×Value)}{fp:Pt->Nat->Prop}{S:Ven}
def Wm(h:ik w v c l mb md A D fp S){n:Int}(d:(eR S.cal.l n).isSome=true):∃b,lk A n=some b/\kK w b (fp (.bk n)) (S.bk n):=by
 have:=h.dom n;rw[d]at this;cases a:lk A n with
 |none=>rw[a]at this;cases this
 |some b=>exact⟨b,rfl,h.bk n b a⟩
def Pi{n a:Int}(h:ik w v c l mb md A D fp S)(C:vg S)(hn:(eR S.cal.l n).isSome=true)(hK:∀T,M0 w T->K (.tuple #[.int .i64 (S.opn n a).1,gI (S.opn n a).2]) T):
  Ca pQ 171 #[eY v,gU n,gU a] w K:=by
 apply ad4;unfold eY;simp only[dr];refine cI (jk 2 qZ _) (cI (IL _ h.blk) ?_);obtain⟨b,U,hB⟩:=Wm h hn;apply vr (enc:=iI) (ev:=jY) (x:=n) (.pointer none) Dc rP XM (.inr ⟨mb,rfl,h.mbk⟩);rw[U];refine Ns hB λR Z=>?_;have M:=h.md0 Z;refine qS0 ?_;refine qS0 ?_;refine cI (jk 3 qZ _) (cI (AJ _ M.blk) ?_);apply vr (enc:=iI) (ev:=yh) (x:=n) dv xn rP O9 (.inr ⟨md,rfl,M.mbd⟩);have J:(lk D n).elim dv yh=rz D n:=by unfold rz;cases lk D n<;>rfl
 rw[J];have g:=(M.bd n).rd;obtain⟨L,N⟩:=dW (S.bd n);have p:∀o∈L,1<=o.left/\o.left<=1000000:=λo g=>Od.left_bd (C.bdMay n o (by grind));have hLl:L.length<=50:=by rw[N];exact C.bdl n
 rw[<-N]at g;obtain⟨t,m⟩:=dW ((xd (S.bk n) a).1);obtain⟨y,r⟩:=dW ((xd (S.bk n) a).2);have B:S.opn n a=(t+oM L a true,y+oM L a false):=by unfold Ven.opn;rw[<-m,<-r,<-N]
 have hbb:(0<=t/\t<=200000000)/\0<=y/\y<=200000000:=by
  have j:=(hB.all)
  have hle:((S.bk n).all.length:Int)<=200:=qZ;have x1:=vF (l:=(S.bk n).all) (a:=a) (buy:=true) λo g=>Od.left_bd (j.2 o g).1;have x2:=vF (l:=(S.bk n).all) (a:=a) (buy:=false) λo g=>Od.left_bd (j.2 o g).1;rw[m,r];unfold xd;simp only;omega
 rw[<-m,<-r];obtain⟨sa,sc,hs⟩:=g.isSl;apply jm (gI (L.length:Int)) R (by rw[hs];simp[go_sem])
 refine eS (λst W=>∃i,i<=L.length/\st=(gI (t+oM (L.take i) a true),gI (y+oM (L.take i) a false),gI i,())/\M0 R W)
  (λst _=>match st.2.2.1 with| .int _ i=>L.length - i.toNat|_=>0) ⟨0,qZ,by simp[oM],lX⟩ ?_
 rintro⟨_,_,_,_⟩ W ⟨i,hi,⟨⟩,F⟩ KN I;unfold Rg;intro _;by_cases k:i<L.length
 ·have z:(i:Int)<(L.length:Int):=qZ;refine qSt1 z ?_;obtain⟨b0,O,cap,H,Y,hA⟩:=(g.mod F eQ).item gM k rfl;apply cx (pt b0 (O+i*5)) W (by rw[H];simp[go_sem,k,cS]);apply cI (lM (o:=L[i]) hA);obtain⟨w3,e3,V,m3⟩:=kD W;apply cI e3;obtain⟨q,hq⟩:=dW W.heap.size;rw[<-hq]at V|-;obtain⟨E,e4,s,m4⟩:=jK (o' :=L[i]) V;apply ir e4;have M4:=m3.on m4 λb U=>gz;have d:=eA k;obtain⟨o,Q⟩:=dW (L[i]);rw[<-Q]at s d;have hol:=p o (by grind);have x1:=vF (l:=L.take i) (a:=a) (buy:=true) λo g=>p o (ek g);have x2:=vF (l:=L.take i) (a:=a) (buy:=false) λo g=>p o (ek g);have xl:((L.take i).length:Int)<=50:=by grind
  unfold fL at s;refine qS0 ?_;refine qS1 s ?_
  have e:∀G P,G=oM (L.take (i+1)) a true->P=oM (L.take (i+1)) a false->KN (gI (t+G),gI (y+P),gI ((i+1:Nat):Int),()) E:=λG P e1 e2=>by
   subst e1 e2;exact I _ _ ⟨i+1,qZ,rfl,F.trans M4⟩ (by grind)
  by_cases u:o.acct=a
  ·refine qSf1 u ?_;refine qS0 ?_;refine qS1 s ?_;cases f:o.buy with
   |true=>
    rw[kx];refine qS0 ?_;refine qS1 s ?_;apply cx (gI (t+oM (L.take (i+1)) a true)) E (by rw[d,ox,bZ ⟨u,f⟩,<-oD];exact Aa ⟨qZ,qZ⟩);apply qSj i;exact e _ _ rfl (by rw[d,ox,aZ (by simp[f]),ft])
   |false=>
    rw[gP];refine qS0 ?_;refine qS1 s ?_;apply cx (gI (y+oM (L.take (i+1)) a false)) E (by rw[d,ox,bZ ⟨u,f⟩,<-oD];exact Aa ⟨qZ,qZ⟩);apply qSj i;exact e _ _ (by rw[d,ox,aZ (by simp[f]),ft]) rfl
  ·refine qSt1 u ?_;apply qSj i;exact e _ _ (by rw[d,ox,aZ (λh=>u h.1),ft]) (by rw[d,ox,aZ (λh=>u h.1),ft])
 ·obtain rfl:i=L.length:=qZ;refine qSf0 ?_;rw[cN];have X:=hK W (Z.trans F);rw[B]at X;exact X
def Xe(b:vg S)(n a:Int):(0<=(S.opn n a).1/\(S.opn n a).1<=250000000)/\0<=(S.opn n a).2/\(S.opn n a).2<=250000000:=by
 have h:(S.bk n).all.length<=200:=by
  unfold Bk.all;rw[cD];have:=(b.side n true).1;have:=(b.side n false).1;omega
 have g:∀o∈(S.bk n).all,1<=o.left/\o.left<=1000000:=λo f=>by
  obtain⟨d,i⟩:=mem_all.1 f;exact Od.left_bd ((b.bkMay n d o i).1)
 have e:∀o∈S.bd n,1<=o.left/\o.left<=1000000:=λo f=>Od.left_bd (b.bdMay n o f);have j:=b.bdl n;have m:=vF (a:=a) (buy:=true) g;have q:=vF (a:=a) (buy:=false) g;have p:=vF (a:=a) (buy:=true) e;have k:=vF (a:=a) (buy:=false) e;unfold Ven.opn xd;simp only;omega
def JM(h:ik w v c l mb md A D fp S)(m:1<=S.next/\S.next<=maxNum+1)
  (a:maxNum<S.next->K (.tuple #[.int .u64 0,gI 6]) w)
  (k:S.next<=maxNum->∀e,ik e v c l mb md A D fp {S with next:=S.next+1}->de (fp .v) w e->K (.tuple #[.int .u64 S.next,gI 0]) e):Ca pQ 176 #[eY v] w K:=by
 unfold maxNum at*;apply ad5;unfold eY;simp only[dr];refine cI (jk 4 qZ _) (cI (wD _ h.blk) ?_);by_cases b:4611686018427387904<S.next
 ·refine qSt1 b ?_;exact a b
 ·refine qSf1 b ?_;refine cI (jk 4 qZ _) (cI (wD _ h.blk) ?_);apply cx (gQ (S.next+1)) w (by simp[go_sem];rw[wU_]);apply cI (jk 4 qZ _);have i:=h.blk;have f:de (fp .v) w (w.setCell ⟨v,4,none⟩ (gQ (S.next+1))):=(de.refl (fp .v) w).setCell (.inl h.self) _ _;refine qU1 i ?_;have d:xg (w.setCell ⟨v,4,none⟩ (gQ (S.next+1))) v c l mb md (S.next+1):=by show hp _ _=_;simp[go_sem,i]
  generalize w.setCell ⟨v,4,none⟩ (gQ (S.next+1))=g at f d|-;have j:=h.setNext f d;refine cI (jk 4 qZ _) (cI (wD _ d) ?_)
  refine cx (gQ S.next) g (by
   simp[go_sem];rw[wU_]) ?_
  exact k qZ g j f
def Vi(p:Po)(W:Wt_):(Instr.field 79 (tn p) 2).run pQ W=.ok (gI p.q) W:=by
 simp[Instr.field,go_sem,part,isAgg,asAgg,tn]
def RT:lT pQ 272=BE ⟨JJ,⟨0,0,false,false⟩,0,0,0,false,0,0⟩:=cU
def Ui(g:Gt):Tryz.prog.built 272 [(0,.agg (fI g.k).toArray),(1,oz g.a),(2,gI g.q),(3,gI g.buys),(4,gI g.sells),(5,.bool g.buy),(6,gI g.price),(7,gI g.qty)]=some (BE g).toArray:=by
 have e:∀a,Tryz.prog.built 272 a=Instr.fill (λi=>#[(0,27),(27,4),(31,1),(32,1),(33,1),(34,1),(35,1),(36,1)][i]?) (lT pQ 272).toArray a:=λa=>by kernel_rfl
 rw[e]
 have:=zY (place:=λi=>#[(0,27),(27,4),(31,1),(32,1),(33,1),(34,1),(35,1),(36,1)][i]?) [.agg (fI g.k).toArray,oz g.a,gI g.q,gI g.buys,gI g.sells,.bool g.buy,gI g.price,gI g.qty] [27,4,1,1,1,1,1,1] 0 0 (lT pQ 272)
  (by show [(fI g.k).toArray.size,4,1,1,1,1,1,1]=_;rw[eT,eE]) (by
   intro j d
   match j,d with
   |0,_=>rfl
   |1,_=>rfl
   |2,_=>rfl
   |3,_=>rfl
   |4,_=>rfl
   |5,_=>rfl
   |6,_=>rfl
   |7,_=>rfl) (by rw[RT,zS];decide)
 apply this.trans
 have b:([.agg (fI g.k).toArray,oz g.a,gI g.q,gI g.buys,gI g.sells,.bool g.buy,gI g.price,gI g.qty]:LV_).flatMap (λv=>v.cells.toList)=BE g:=by
  simp[BE,oz,dH,Value.cells]
 rw[b,tp (by rw[RT,zS,zS])]
def oV(S:Ven)(a:Int):(S.led.getV a)=(S.acc a,if S.led.getO a=none then 7 else 0):=by
 unfold Led.getV Ven.acc;cases S.led.getO a<;>simp
def Ix{a n:Int}{buy:Bool}{price qty:Int}{x:Od}(h:ik w v c l mb md A D fp S)(j:S.Ok)(B:jl price)(H:jl qty)(hx:0<=x.left/\x.left<=1000000)
  (hK:∀w',M0 w w' ->K (gI (S.pass a n buy price qty x)) w'):Ca pQ 141 #[eY v,gU a,gU n,.bool buy,gI price,gI qty,oG x] w K:=by
 apply ac1;unfold eY;obtain⟨w1,e1,b1,m1⟩:=vt x w;apply cI e1;obtain⟨p,hp0⟩:=dW w.heap.size;rw[<-hp0]at b1|-;simp only[dr];have h1:=h.md0 m1;refine cI (jk 1 qZ _) (cI (ld1 _ h1.blk) ?_);refine ug h1.led λy m2=>?_;rw[oV];have M2:=m1.trans m2;have h2:=h1.md0 m2;refine qS0 ?_;refine qS0 ?_;obtain⟨ac,J⟩:=dW (S.acc a);rw[<-J];obtain⟨q,F⟩:=dW y.heap.size;have m3:M0 y (y.alloc (.cells (dH ⟨0,0,false,false⟩).toArray 70)):=lm;have N:hC (y.alloc (.cells (dH ⟨0,0,false,false⟩).toArray 70)) q (dH ⟨0,0,false,false⟩).toArray 70:=by rw[F];simp[go_sem]
 apply cx (pt q 0) (y.alloc (.cells (dH ⟨0,0,false,false⟩).toArray 70)) (by rw[F];simp[go_sem,dH]);generalize y.alloc (.cells (dH ⟨0,0,false,false⟩).toArray 70)=R at m3 N|-
 obtain⟨w4,e4,b4,m4⟩:∃W',(iS 70 (pt q 0) (oz ac)).run pQ R=.ok () W' /\hC W' q (dH ac).toArray 70/\de (λb=>b=q) R W' :=by
  unfold dH at N;refine⟨(((R.setCell ⟨q,0,none⟩ (gU ac.num)).setCell ⟨q,1,none⟩ (gI ac.cash)).setCell ⟨q,2,none⟩ (.bool ac.kil)).setCell ⟨q,3,none⟩ (.bool ac.dfl),by simp[go_sem,N,oz],by simp[go_sem,N,dH],?_⟩;exact((((de.refl (λx=>x=q) R).sc).sc).sc).sc
 apply ir e4;have M4:M0 y w4:=m3.on m4 λb M=>gz;have h4:=h2.md0 M4;have MM:=M2.trans M4;have fin:∀e W,S.pass a n buy price qty x=e->M0 w W->K (gI e) W:=λe W he m=>by grind
 by_cases T:S.led.getO a=none
 ·rw[bZ T];refine qSt0 ?_;exact fin 7 w4 (by unfold Ven.pass;rw[bZ T]) MM
 rw[aZ T];refine qSf0 ?_;refine cI (jk 0 qZ _) (cI (EQ _ h4.blk) ?_);refine Cp h4.cal λw5 P=>?_;obtain⟨G,o⟩:=dW (iU S.cal.l n)
 have d:S.pass a n buy price qty x=if G.2≠0 then G.2 else Gt.check ⟨G.1,ac,(S.led.position n a).q,(S.opn n a).1 - (if x.buy then x.left else 0),(S.opn n a).2 - (if x.buy then 0 else x.left),buy,price,qty⟩:=by
  unfold Ven.pass;rw[aZ T,o,J]
 rw[<-o];have h5:=h4.md0 P;have c5:=P.hpk b4 id;refine qS0 ?_;refine qS0 ?_;refine Ep λw6 b6 Q=>?_;obtain⟨r,hr0⟩:=dW w5.heap.size;rw[<-hr0]at b6|-;have h6:=h5.md0 Q;have c6:=Q.hpk c5 id;have M6:=(MM.trans P).trans Q;by_cases t:G.2≠0
 ·refine qSt1 t ?_;exact fin G.2 w6 (by grind) M6
 have s:G.2=0:=by simpa using t
 refine qSf1 s ?_;rw[aZ t]at d
 have u:∃k,eR S.cal.l n=some k/\G.1=k:=by
  unfold iU at o;cases hc:eR S.cal.l n with
  |none=>rw[hc]at o;rw[o]at s;simp at s
  |some k=>rw[hc]at o;exact⟨k,rfl,by rw[o]⟩
 obtain⟨k,hk,Y⟩:=u;have I:=(j.cal.ok k (ry hk)).1;rw[<-Y]at I;refine Pi h6 j.ord (by rw[hk];rfl) λX z=>?_;have ob:=Xe j.ord n a;obtain⟨O,hO⟩:=dW (S.opn n a);rw[<-hO]at ob d|-;have M7:=M6.trans z;have h7:=h6.md0 z;have c7:=z.hpk c6 id;have r7:=z.hpk b6 id;have U:=((((m2.trans M4).trans P).trans Q).trans z).hpk b1 id;unfold fL at U;refine qS0 ?_;refine qS0 ?_;refine dK.at (λst W=>st=(gI (O.1 - (if x.buy then x.left else 0)),gI (O.2 - (if x.buy then 0 else x.left)),())/\W=X) ?_ ?_
 ·refine qS0 ?_;refine qS1 U ?_;cases M:x.buy with
  |true=>
   rw[kx];refine qS0 ?_;refine qS1 U ?_;apply cx (gI (O.1 - x.left)) X (DD ⟨qZ,qZ⟩);exact⟨by simp,rfl⟩
  |false=>
   rw[gP];refine qS0 ?_;refine qS1 U ?_;apply cx (gI (O.2 - x.left)) X (DD ⟨qZ,qZ⟩);exact⟨by simp,rfl⟩
 rintro _ W ⟨rfl,rfl⟩;unfold Q9;intro _;have f:M0 W W.drew:=mP;have h8:=h7.md0 f;have r8:=f.hpk r7 id;have Z:=f.hpk c7 id;have M8:=M7.trans f
 try dsimp only
 generalize W.drew=w8 at f h8 r8 Z M8|-;have L:∀W,hC W q (dH ac).toArray 70->(iL 70 (pt q 0)).run pQ W=.ok (oz ac) W:=λW V=>by unfold dH at V;simp[go_sem,V,oz]
 have C:∀W,hC W r (fI G.1).toArray oT->(fH oT (pt r 0)).run pQ W=.ok (.agg (fI G.1).toArray) W:=λW V=>gm ME yV (eE _) (At.all V);apply li (C _ r8);apply dp (L _ Z);simp only[dr];refine dw (jk 1 qZ) (dp (ld1 _ h8.blk) ?_);refine rK h8.led λw9 m9=>?_;refine⟨L _ (m9.hpk Z id),C _ (m9.hpk r8 id),?_⟩;apply dX (gI (S.led.position n a).q) (λW=>Vi _ W);obtain⟨g,i⟩:=dW (⟨G.1,ac,(S.led.position n a).q,O.1 - (if x.buy then x.left else 0),O.2 - (if x.buy then 0 else x.left),buy,price,qty⟩:Gt);have M:=Ui g;rw[<-i]at d;rw[i]at M;apply AN M;rw[<-i];have E:=j.led.led.position n a;unfold MP at E;refine Qq ?_ λw10 m10=>?_
 ·rw[i];refine⟨I,⟨by grind,by grind⟩,?_,?_,B,H⟩
  ·grind
  ·grind
 ·exact fin _ w10 d ((M8.trans m9).trans m10)
end
end Go.Proofs
namespace Go.Proofs
open Go Go.Vc
def clear_led{S:Ven}(a k:Int):(S.clear a k).2.led=S.led:=by
 unfold Ven.clear
 have key:∀(b:List Int) (x:List Int×Ven),(b.foldl (clr1 a) x).2.led=x.2.led:=by
  intro b;induction b with
  |nil=>intro x;rfl
  |cons n b c=>intro x;rw[ig,c];rfl
 exact key _ _
def calGet_of{C:sE}(h:C.Ok){k:Ct}(b:k∈C.l):eR C.l k.spec.num=some k:=by
 unfold eR;have:=h.srt;rw[fV];obtain⟨i,a,rfl⟩:=cX b;refine⟨by simp,i,a,rfl,λj c=>?_⟩;have:=eI.1 this j i qZ a c;simp;omega
end Go.Proofs
namespace Go.Proofs
open Go Go.Vc
attribute [local congr] cR
variable {F:NP_}{q v:Nat}{S:Ven}{w W:Wt_}{K:cG}
def yM{α:Type}{P:Program}{t e:TypeId}{k by_:Nat}{s g:Vt_}{l:List α}{x:α}{f:α->List Value}(i:P.underlying t=some (.slice e))(n:wd P e k by_)(B:∀x,(f x).length=k)(m:(f x).all (·.oneCell')=true)
  (H:g.cells.toList=f x)(C:jo w e k s l.length (l.flatMap f))(y:(l.length+1)*by_<=140737488355328)(I:k<=1000)
  (z:∀a d,jo d e k a (l++[x]).length ((l++[x]).flatMap f)->de (cK s) w d->(∀b,cK a b->cK s b\/w.heap.size<=b)->K a d):
  rx P (jQ t 1 [(0,g)]) w λv p=>rx P (eg #[t,t] t [s,v]) p K:=by
 have J:g.cells.size=k:=by grind
 refine oJ [g] i n rfl rfl (by grind) qZ ?_;have r:(([g]:LV_).flatMap (·.cells.toList)).toArray=(f x).toArray:=by simp[H]
 rw[r];have o:M0 w (w.alloc (.cells (f x).toArray e)):=lm
 have u:Rd (w.alloc (.cells (f x).toArray e)) k (.slice (some ⟨w.heap.size,0,none⟩) 1 1) 1 (f x):=
  ⟨by rw[B];omega,.inr ⟨_,0,1,rfl,cJ _,At.all (fy (by rw[gy,bZ rfl]))⟩⟩
 refine jR i i n (C.mod o eQ) u m y λa d E F q=>?_;refine z a d ?_ ((o.to (G:=cK s)).trans F) λb j=>?_
 ·rw[eJ,cD];simpa using E
 ·rcases q b j with h|h
  ·exact .inl h
  ·rw[eG]at h;exact gz
def AR{α:Type}(T:TypeId)(fc:α->List Value)(a:α)(v:Vt_)(q:Nat)(W:Wt_):Prop:=v=.pointer (some ⟨q,0,none⟩)/\hC W q (fc a).toArray T
def wQ{α:Type}{T:TypeId}{fc:α->List Value}:∀(a:α) v q W b H,AR T fc a v q W->de H W b->¬H q->AR T fc a v q b:=by
 rintro a v q W b H ⟨rfl,f⟩ d e;exact⟨rfl,d.hpk f e⟩
def Ar{xs:List Ct}:∀k∈xs,∀(W:Wt_) (K:Value->World->Prop),(∀a v,AR oT fI k v W.heap.size a->M0 W a->K v a)->
  rx pQ (nE oT) W λv d=>nj pQ (jH oT v (.agg (fI k).toArray)) d λa=>K v a:=λk _ W K e=>Ep λa b m=>e a _ ⟨rfl,b⟩ m
def wF{α:Type}{T:TypeId}{fv:α->Value}{fc:α->List Value}{xs:List α}(j:rS T fv fc xs):∀a∈xs,∀(W:Wt_) (K:Value->World->Prop),(∀b v,AR T fc a v W.heap.size b->M0 W b->K v b)->
  rv pQ (iA T true (.tuple #[])) W λv d=>ru pQ (iS T v (fv a)) d λb=>K v b:=λa k W K f=>by
 obtain⟨d,b,g,h,e,i⟩:=j a k W;exact cI g (ir h (f b _ ⟨rfl,e⟩ i))
def UN(p:Po)(W:Wt_):∃a d,(iA 79 true (.tuple #[])).run pQ W=.ok (pt W.heap.size 0) a/\(iS 79 (pt W.heap.size 0) (tn p)).run pQ a=.ok () d/\hC d W.heap.size (ec p).toArray 79/\M0 W d:=by
 obtain⟨a,b⟩:=dW (W.alloc (.cells #[.int .u32 0,gU 0,gI 0,gI 0] 79));have f:M0 W a:=by rw[b];exact(de.refl _ W).alloc _
 have e:hC a W.heap.size #[.int .u32 0,gU 0,gI 0,gI 0] 79:=by rw[b];simp[go_sem]
 refine⟨a,(((a.setCell ⟨W.heap.size,0,none⟩ (gU p.c)).setCell ⟨W.heap.size,1,none⟩ (gU p.a)).setCell ⟨W.heap.size,2,none⟩ (gI p.q)).setCell ⟨W.heap.size,3,none⟩ (gI p.b),by rw[b];simp[go_sem],by simp[go_sem,e,tn],by simp[go_sem,e,ec],?_⟩;exact f.on (((((de.refl (λx=>x=W.heap.size) a).sc).sc).sc).sc) λx g=>gz
def C0(p:Ac)(W:Wt_):∃a d,(iA 70 true (.tuple #[])).run pQ W=.ok (pt W.heap.size 0) a/\(iS 70 (pt W.heap.size 0) (oz p)).run pQ a=.ok () d/\hC d W.heap.size (dH p).toArray 70/\M0 W d:=by
 obtain⟨a,b⟩:=dW (W.alloc (.cells #[.int .u32 0,gI 0,.bool false,.bool false] 70));have f:M0 W a:=by rw[b];exact(de.refl _ W).alloc _
 have e:hC a W.heap.size #[.int .u32 0,gI 0,.bool false,.bool false] 70:=by rw[b];simp[go_sem]
 refine⟨a,(((a.setCell ⟨W.heap.size,0,none⟩ (gU p.num)).setCell ⟨W.heap.size,1,none⟩ (gI p.cash)).setCell ⟨W.heap.size,2,none⟩ (.bool p.kil)).setCell ⟨W.heap.size,3,none⟩ (.bool p.dfl),by rw[b];simp[go_sem],by simp[go_sem,e,oz],by simp[go_sem,e,dH],?_⟩;exact f.on (((((de.refl (λx=>x=W.heap.size) a).sc).sc).sc).sc) λx g=>gz
def rS.ac{xs:List Ac}:rS 70 oz dH xs:=λa _ W=>C0 a W
def rS.po{xs:List Po}:rS 79 tn ec xs:=λa _ W=>UN a W
def zi(W:Wt_):∃a,(iA 70 true (.tuple #[])).run pQ W=.ok (pt W.heap.size 0) a/\hC a W.heap.size (dH ⟨0,0,false,false⟩).toArray 70/\M0 W a:=
 ⟨W.alloc (.cells (dH ⟨0,0,false,false⟩).toArray 70),by simp[go_sem,dH],by simp[go_sem],(de.refl _ W).alloc _⟩
def zR{x:Ac}(p:Ac)(h:hC W q (dH x).toArray 70):∃a,(iS 70 (pt q 0) (oz p)).run pQ W=.ok () a/\hC a q (dH p).toArray 70/\de (λb=>b=q) W a:=by
 unfold dH at h;refine⟨(((W.setCell ⟨q,0,none⟩ (gU p.num)).setCell ⟨q,1,none⟩ (gI p.cash)).setCell ⟨q,2,none⟩ (.bool p.kil)).setCell ⟨q,3,none⟩ (.bool p.dfl),by simp[go_sem,h,oz],by simp[go_sem,h,dH],?_⟩;exact((((de.refl (λx=>x=q) W).sc).sc).sc).sc
def SS(W:Wt_):∃a,(iA 79 true (.tuple #[])).run pQ W=.ok (pt W.heap.size 0) a/\hC a W.heap.size (ec ⟨0,0,0,0⟩).toArray 79/\M0 W a:=
 ⟨W.alloc (.cells (ec ⟨0,0,0,0⟩).toArray 79),by simp[go_sem,ec],by simp[go_sem],(de.refl _ W).alloc _⟩
def TE{x:Po}(p:Po)(h:hC W q (ec x).toArray 79):∃a,(iS 79 (pt q 0) (tn p)).run pQ W=.ok () a/\hC a q (ec p).toArray 79/\de (λb=>b=q) W a:=by
 unfold ec at h;refine⟨(((W.setCell ⟨q,0,none⟩ (gU p.c)).setCell ⟨q,1,none⟩ (gU p.a)).setCell ⟨q,2,none⟩ (gI p.q)).setCell ⟨q,3,none⟩ (gI p.b),by simp[go_sem,h,tn],by simp[go_sem,h,ec],?_⟩;exact((((de.refl (λx=>x=q) W).sc).sc).sc).sc
def Xl:Lg:=⟨II,0⟩
def KY:lT pQ 94=wX Xl:=cU
def O3:lT pQ zg=uh (⟨Xl,0,0,[]⟩,dv):=cU
def T0(s:Sp)(q:Int):Tryz.prog.built 94 [(0,.agg (jA s).toArray),(1,gI q)]=some (wX ⟨s,q⟩).toArray:=by
 have e:∀a,Tryz.prog.built 94 a=Instr.fill (λi=>#[(0,25),(25,1)][i]?) (lT pQ 94).toArray a:=λa=>by kernel_rfl
 rw[e]
 have:=zY (place:=λi=>#[(0,25),(25,1)][i]?) [.agg (jA s).toArray,gI q] [25,1] 0 0 (lT pQ 94)
  (by show [(jA s).toArray.size,1]=_;rw[eT,dP]) (by
   intro j d
   match j,d with
   |0,_=>rfl
   |1,_=>rfl) (by rw[KY,kZ];decide)
 apply this.trans;have b:([.agg (jA s).toArray,gI q]:LV_).flatMap (λv=>v.cells.toList)=wX ⟨s,q⟩:=by simp[wX,Value.cells]
 rw[b,tp (by rw[KY,kZ,kZ])]
def TA(g:Lg)(b p:Int):Tryz.prog.built zg [(0,.agg (wX g).toArray),(1,gI b),(2,gI p)]=some (uh (⟨g,b,p,[]⟩,dv)).toArray:=by
 have h:∀a,Tryz.prog.built zg a=Instr.fill (λi=>#[(0,26),(26,1),(27,1),(28,1)][i]?) (lT pQ zg).toArray a:=λa=>by kernel_rfl
 rw[h]
 have:=zY (place:=λi=>#[(0,26),(26,1),(27,1),(28,1)][i]?) [.agg (wX g).toArray,gI b,gI p] [26,1,1] 0 0 (lT pQ zg)
  (by show [(wX g).toArray.size,1,1]=_;rw[eT,kZ]) (by
   intro j f
   match j,f with
   |0,_=>rfl
   |1,_=>rfl
   |2,_=>rfl) (by rw[O3,tq];decide)
 apply this.trans;have d:([.agg (wX g).toArray,gI b,gI p]:LV_).flatMap (λv=>v.cells.toList)=wX g++[.int .i64 b,gI p]:=by simp[Value.cells]
 rw[d];unfold mh
 have e:(uh (⟨Xl,0,0,[]⟩,dv)).drop (0+(wX g++[Value.int .i64 b,Value.int .i64 p]).length)=[dv]:=by
  rw[cD,kZ];rfl
 rw[O3,e];simp[uh]
def U0{s:Stk}{x:Vt_}{L:List Od}{y:Vt_}(h:hC W q (uh (s,x)).toArray zg)(d:∃a n c,y=.slice a n c):
  (iS 95 (pt q 28) y).run pQ W=.ok () (W.setCell ⟨q,28,none⟩ y)/\hp (W.setCell ⟨q,28,none⟩ y) q=some (.cells (uh ({s with ords:=L},y)).toArray zg (0,0))/\de (λb=>b=q) W (W.setCell ⟨q,28,none⟩ y):=by
 obtain⟨a,n,c,rfl⟩:=d;refine⟨by simp[go_sem,h,En],?_,(de.refl (λb=>b=q) W).sc⟩;rw[nO,bZ rfl,h,iK,ed];congr 3;unfold uh;rw[gh _ _ (by rw[kZ];omega),kZ];rfl
section
variable{w:Wt_}{K:cG}{v c l mb md:Nat}{A:List (Int×Nat)}{D:List (Int×Value)}{fp:Pt->Nat->Prop}{S:Ven}
def wJ(S:Ven)(a:Int)(i:Nat):List Stk:=((S.cal.l.take i).filter λk=>decide (k.st≠3)).map (S.stake a)
def FZ{S:Ven}{a:Int}{i:Nat}(hi:i<S.cal.l.length):wJ S a (i+1)=wJ S a i++(if S.cal.l[i].st=3 then []else [S.stake a S.cal.l[i]]):=by
 unfold wJ;rw[eA hi,dJ,dy];congr 1;by_cases h:S.cal.l[i].st=3
 ·grind
 ·grind
def L6(b:S.Ok){a:Int}{k:Ct}(f:k∈S.cal.l):(S.stake a k).Fit/\(S.stake a k).ords.length<=250:=by
 have d:=b.led.led.position k.spec.num a;unfold MP MF at d;have e:=(b.cal.ok k f).1;refine⟨⟨e.1,⟨by show _<=(S.led.position _ _).q;omega,by show(S.led.position _ _).q<_;omega⟩,⟨by show _<=(S.led.position _ _).b;omega,by show(S.led.position _ _).b<_;omega⟩,e.2.2,λo g=>?_⟩,?_⟩
 ·rcases dg.1 g with h|h
  ·exact(b.ord.std _ o (fk _ (cO.1 h).1)).fit
  ·exact(b.ord.std _ o (vk (cO.1 h).1)).fit
 ·show(List.filter _ _++List.filter _ _).length<=250;rw[cD];have m:=dm (ofA a) (S.bk k.spec.num).all;have i:=dm (ofA a) (S.bd k.spec.num);have n:=b.ord.bdl k.spec.num
  have j:(S.bk k.spec.num).all.length<=200:=by
   unfold Bk.all;rw[cD];have:=(b.ord.side k.spec.num true).1;have:=(b.ord.side k.spec.num false).1;omega
  omega
def HH{a:Int}(h:ik w v c l mb md A D fp S)(Q:S.Ok)
  (hK:∀w',M0 w w' ->K (.tuple #[IJ (S.need a).1,gI (S.need a).2]) w'):Ca pQ 14 #[eY v,gU a] w K:=by
 apply ad7;obtain⟨n0,hn0⟩:=dW w.heap.size
 have hlay:∃w3,((w.alloc (.cells #[eY v] 39)).alloc (.cells #[.int .u32 a] 23) |>.alloc (.cells (wY BM).toArray yg))=w3/\w3.heap.size=n0+3/\M0 w w3/\
   hC w3 n0 #[eY v] 39/\hC w3 (n0+1) #[.int .u32 a] 23/\hC w3 (n0+2) (wY BM).toArray yg:=by
  refine⟨_,rfl,by simp[go_sem,hn0],(lm.alloc _).alloc _,?_,?_,?_⟩<;>simp[go_sem,hn0]
 obtain⟨w3,hw3,hsz3,m3,b0,b1,b2⟩:=hlay;apply cx (pt n0 0) (w.alloc (.cells #[eY v] 39)) (by rw[hn0];rfl);refine qSv1 (pt (n0+1) 0) hn0 ?_;apply cx (pt (n0+2) 0) w3 (by rw[<-hw3];simp[go_sem,hn0,wY,BM]);clear hw3;have h3:=h.md0 m3;have O:∀W,hC W n0 #[eY v] 39->(iL 39 (pt n0 0)).run pQ W=.ok (eY v) W:=λW hW=>by simp[go_sem,hW,eY]
 have V:∀W,hC W (n0+1) #[.int .u32 a] 23->(iL 23 (pt (n0+1) 0)).run pQ W=.ok (gU a) W:=λW hW=>by simp[go_sem,hW]
 apply cI (O _ b0);apply vT h3.blk;apply qSv0 (.bool false);rw[gP];obtain⟨E,hE⟩:=dW (if S.led.getO a=none then 7 else 0:Int)
 have fin:∀(n:Nd) (e:Int) (W:Wt_),S.need a=(n,e)->M0 w W->K (.tuple #[IJ n,gI e]) W:=λn e W he m=>by
  have hk:=hK W m;rw[he]at hk;exact hk
 refine dK.at (λst W=>st=(gI E,())/\M0 w3 W) ?_ ?_
 ·have md0:M0 w3 w3.drew:=mP;have h4:=h3.md0 md0;have c0:=md0.hpk b0 id;have c1:=md0.hpk b1 id
  try dsimp only
  generalize w3.drew=u at md0 h4 c0 c1|-;apply dp (O _ c0);simp only[eY,dr];refine dw (jk 1 qZ) (dp (ld1 _ h4.blk) (dp (V _ c1) ?_));refine⟨?_,?_⟩
  ·refine ug h4.led λu2 m2=>?_;rw[oV,<-hE];refine qP0 ?_;refine qP0 ?_;obtain⟨u3,u4,x1,x2,x3,x4⟩:=C0 (S.acc a) u2;refine cI x1 (ir x2 ?_);exact⟨rfl,(md0.trans m2).trans x4⟩
  ·obtain⟨u2,x1,x2,m2⟩:=zi u;apply cI x1;have h5:=h4.md0 m2;refine⟨V _ (m2.hpk c1 id),ld1 _ h5.blk,O _ (m2.hpk c0 id),?_⟩;refine ug h5.led λu3 m3' =>?_;rw[oV,<-hE];refine qP0 ?_;refine qP0 ?_;obtain⟨u4,T,y2,Y⟩:=zR (S.acc a) (m3'.hpk x2 id);apply ir T;exact⟨rfl,((md0.trans m2).trans m3').on Y λb g=>.inr (by have:=md0.size;omega)⟩
 rintro _ w4 ⟨rfl,m4⟩;unfold Vf;intro _;have M4:=m3.trans m4;have d0:=m4.hpk b0 id;have d1:=m4.hpk b1 id;have d2:=m4.hpk b2 id;refine dK.at (λst W=>st=(.bool (decide (S.led.getO a=none\/a=0)),())/\w4=W) ?_ ?_
 ·by_cases hg:S.led.getO a=none
  ·rw[bZ hg]at hE;subst hE;refine qS0 ?_;rw[kx];exact⟨by rw[db (.inl hg)],rfl⟩
  ·rw[aZ hg]at hE;subst hE;apply qSv0 (.bool false);rw[gP];apply cI (V _ d1);apply cx (.bool (decide (a=0))) w4 (by simp[go_sem];rfl);exact⟨by simp[hg],rfl⟩
 rintro _ _ ⟨rfl,rfl⟩;unfold V0;intro _;by_cases Z:S.led.getO a=none\/a=0
 ·rw[qo Z];apply cx (IJ BM) w4 (by simp[go_sem,IJ,wY,BM]);obtain⟨w5,e5,b5,m5⟩:=Sl BM d2 rfl;refine ir e5 (dp (MI _ b5) ?_);refine fin BM 7 w5 ?_ (M4.on m5 λb g=>gz);unfold Ven.need;rw[bZ Z];rfl
 rw[DN Z];have hneed:S.need a=needR (S.stakes a):=by unfold Ven.need;rw[aZ Z]
 obtain⟨p,hp0⟩:=dW w4.heap.size;have m5:M0 w4 (w4.alloc (.cells #[dv] 88)):=lm;have b5:hC (w4.alloc (.cells #[dv] 88)) p #[dv] 88:=by rw[hp0];simp[go_sem]
 apply cx (pt p 0) (w4.alloc (.cells #[dv] 88)) (by rw[hp0];simp[go_sem,dv]);generalize w4.alloc (.cells #[dv] 88)=w5 at m5 b5|-;have M5:=M4.trans m5;have h5:=h.md0 M5;have k0:=m5.hpk d0 id;apply cI (O _ k0);simp only[eY,dr];refine cI (jk 0 qZ _) (cI (EQ _ h5.blk) ?_);refine zq h5.cal λgv w6 ht m6=>?_;have M6:=M5.trans m6;have h6:=h5.md0 m6;have g0:=m6.hpk k0 id;have g1:=m6.hpk (m5.hpk d1 id) id;have g2:=m6.hpk (m5.hpk d2 id) id;have gp:=m6.hpk b5 id;have hs4:=m4.size;have hs6:=m6.size;have hpl:=cB b5;have hfl:∀pt x,fp pt x->x<n0:=λpt x s=>by rw[hn0];exact h.lt s
 let I:(Nat->Prop)->Nat->World->Prop:=λX i W=>∃(sl:Vt_) (N:List (Stk×Value)),hC W p #[sl] 88/\jo W zg 29 sl N.length (N.flatMap uh)/\N.map (·.1)=wJ S a i/\(∀x∈N,qR W x.2 x.1.ords)/\
  (∀b,X b↔b=p\/cK sl b\/∃x∈N,cK x.2 b)/\(∀b,cK sl b->p<b/\∀x∈N,¬cK x.2 b)/\∀x∈N,∀b,cK x.2 b->p<b
 delta Xc
 refine CX (X0:=λx=>x=p) (fv:=λk:Ct=>.agg (fI k).toArray) (asg:=λx W K=>rx pQ (nE oT) W λv w1=>nj pQ (jH oT v x) w1 λw2=>K v w2) (Pv:=AR oT fI) ht Ar wQ I (λ_ _ _=>False) ?_ (λ_ _ _ _ _ h=>h.elim) (λx s=>qZ) ⟨dv,[],gp,jo.nil _ _ _,rfl,by simp,λb=>⟨.inl,λh=>h.elim id λh=>h.elim (λh=>by cases h) λ⟨x,s,_⟩=>by cases s⟩,λb g=>(by cases g),by simp⟩ ?_ ?_ (λ_ _ _ _ _ h=>h.elim)
 ·rintro X i W W' H ⟨sl,N,i1,i2,i3,i4,i5,i6,i7⟩ hm hX;exact⟨sl,N,hm.hpk i1 (hX _ ((i5 _).2 (.inl rfl))),i2.mod hm λb g=>hX b ((i5 b).2 (.inr (.inl g))),i3,λx s=>(i4 x s).mod hm λb g=>hX b ((i5 b).2 (.inr (.inr ⟨x,s,g⟩))),i5,i6,i7⟩
 ·rintro X i hi W q vv ⟨sl,N,i1,i2,i3,i4,i5,i6,i7⟩ mW hX hdq hqW ⟨rfl,zgq⟩ ⟨rec0,hrec⟩ KN KJ hKN hKJ;have HW:=h6.mod mW λpt x s e=>by have:=hfl pt x s;omega
  have f0:=mW.hpk g0 qZ;have f1:=mW.hpk g1 qZ;obtain⟨k,hk⟩:=dW (S.cal.l[i]);rw[<-hk]at zgq;have hkm:k∈S.cal.l:=by rw[hk];exact cC hi
  have z:=FZ (S:=S) (a:=a) hi;rw[<-hk]at z;have hXs:∀b,X b->b<W.heap.size:=λb g=>by have:=(hX b g).1;omega
  refine qS0 ?_;refine qS2 zgq D5 ?_;by_cases hst:k.st=3
  ·refine qSt1 hst ?_;rw[bZ hst,ew]at z;exact hKN X W ⟨sl,N,i1,i2,by rw[z];exact i3,i4,i5,i6,i7⟩ lX λb g=>⟨.inl g,hXs b g⟩
  refine qSf1 hst ?_;rw[aZ hst]at z;refine qS0 ?_;apply qSv0 (pt q 0);apply qSv2 (gU k.spec.num) zgq G9;obtain⟨P,hP⟩:=dW (S.led.position k.spec.num a);refine dK.at (λst W' =>∃r,st=(.pointer (some ⟨r,0,none⟩),())/\hC W' r (ec P).toArray 79/\M0 W W') ?_ ?_
  ·have md0:M0 W W.drew:=mP;have h4:=HW.md0 md0;have c0:=md0.hpk f0 id;have c1:=md0.hpk f1 id
   try dsimp only
   generalize W.drew=u at md0 h4 c0 c1|-;apply dp (O _ c0);simp only[eY,dr];refine dw (jk 1 qZ) (dp (ld1 _ h4.blk) (dp (V _ c1) ?_));refine⟨?_,?_⟩
   ·refine rK h4.led λu2 m2=>?_;rw[<-hP];obtain⟨u3,u4,x1,x2,x3,x4⟩:=UN P u2;refine cI x1 (ir x2 ?_);exact⟨_,rfl,x3,(md0.trans m2).trans x4⟩
   ·obtain⟨u2,x1,x2,m2⟩:=SS u;apply cI x1;have h5' :=h4.md0 m2;refine⟨V _ (m2.hpk c1 id),ld1 _ h5'.blk,O _ (m2.hpk c0 id),?_⟩;refine rK h5'.led λu3 m3' =>?_;rw[<-hP];obtain⟨u4,T,y2,Y⟩:=TE P (m3'.hpk x2 id);apply ir T;exact⟨_,rfl,y2,((md0.trans m2).trans m3').on Y λb g=>.inr (by have:=md0.size;omega)⟩
  rintro _ W1 ⟨r,rfl,rb,mW1⟩;unfold UZ;intro _;have q1:=mW1.hpk zgq id;unfold ec at rb;refine qS0 ?_
  have hA:At W1 q 0 (jA k.spec):=by
   have:=(At.all q1).sub 0 25 (by rw[eE];omega);rw[iw,fI,dh (by rw[dP];omega),cT (by rw[dP];omega)]at this;exact this
  apply jq (jA k.spec) 24 DW Cc (dP _) hA;refine qS0 ?_;refine qS1 rb ?_;apply lL (T0 k.spec P.q);refine qS0 ?_;refine qS1 rb ?_;refine qS0 ?_;apply qSv2 (gI k.price) q1 Hs;obtain⟨s0,hs0⟩:=dW (⟨⟨k.spec,P.q⟩,P.b,k.price,[]⟩:Stk);have hbk:=TA ⟨k.spec,P.q⟩ P.b k.price;rw[<-hs0]at hbk;apply lL hbk;refine RV ⟨_,_,_,rfl⟩ λW2 b2' mW2=>?_;obtain⟨q2,hq2⟩:=dW W1.heap.size;rw[<-hq2]at b2' |-;have hs1:=mW1.size;have MW2:=mW1.trans mW2;have H2:=HW.md0 MW2;have e0:=MW2.hpk f0 id;have e1:=MW2.hpk f1 id;apply cI (O _ e0);simp only[eY,dr];refine cI (jk 2 qZ _) (cI (IL _ H2.blk) ?_);obtain⟨bb,hbb,hBB⟩:=Wm H2 (n:=k.spec.num) (by rw[calGet_of Q.cal hkm];rfl);apply vr (enc:=iI) (ev:=jY) (x:=k.spec.num) (.pointer none) Dc rP XM (.inr ⟨mb,rfl,H2.mbk⟩);rw[hbb];show Ca pQ _ #[jY bb] W2 _;refine Ce hBB λgv2 W3 ht2 mW3=>?_;have MW3:=MW2.trans mW3;have H3:=H2.md0 mW3;have j0:=mW3.hpk e0 id;have j1:=mW3.hpk e1 id;have j2:=mW3.hpk b2' id;have hs3' :=mW3.size;have hq2l:=cB j2;obtain⟨Al,hAl⟩:=dW ((S.bk k.spec.num).all);have hAlb:(S.bk k.spec.num) true++(S.bk k.spec.num) false=Al:=hAl.symm;rw[hAlb]at ht2
  have hAll:Al.length<=200:=by
   rw[hAl];unfold Bk.all;rw[cD];have:=(Q.ord.side k.spec.num true).1;have:=(Q.ord.side k.spec.num false).1;omega
  let I2:(Nat->Prop)->Nat->World->Prop:=λX j W=>∃(y:Vt_),hC W q2 (uh ({s0 with ords:=(Al.take j).filter (ofA a)},y)).toArray zg/\qR W y ((Al.take j).filter (ofA a))/\(∀b,X b↔b=q2\/cK y b)/\∀b,cK y b->q2<b
  delta U3
  have hrec3:∃r,hp W3 (w6.heap.size+1)=some (.loop r):=⟨rec0,MW3.hpk hrec id⟩
  refine Lh (X0:=λx=>x=q2) (fv:=oG) (asg:=λx W K=>rv pQ (iA pz true (.tuple #[])) W λv w1=>ru pQ (iS pz v x) w1 λw2=>K v w2) (Pv:=AR pz fL) hrec3 ht2 (wF rS.od) wQ I2 (λ_ _ _=>False) ?_ (λ_ _ _ _ _ h=>h.elim) (λx s=>qZ) ⟨dv,by rw[hs0]at j2;rw[hs0];exact j2,jo.nil _ _ _,λb=>⟨.inl,λh=>h.elim id λh=>by cases h⟩,λb g=>(by cases g)⟩ ?_ ?_ (λ_ _ _ h=>h.elim)
  ·rintro X2 j W4 W4' H ⟨y,T,y2,Y,y4⟩ hm hX2;exact⟨y,hm.hpk T (hX2 _ ((Y _).2 (.inl rfl))),y2.mod hm λb g=>hX2 b ((Y b).2 (.inr g)),Y,y4⟩
  ·rintro X2 j hj W4 q4 vv ⟨y,T,y2,Y,y4⟩ mW4 hX2 hdq4 hqW4 ⟨rfl,gq4⟩ KN2 KJ2 hKN2 hKJ2;obtain⟨o,ho⟩:=dW (Al[j]);rw[<-ho]at gq4;have gq4' :=gq4;unfold fL at gq4';have B:=eA hj;rw[<-ho]at B;have t1:=mW4.hpk j1 qZ;have hX2s:∀b,X2 b->b<W4.heap.size:=λb g=>by have:=(hX2 b g).1;omega
   apply cI (by simp[-Int.natCast_add,go_sem,gq4']<;>first|exact sI|exact rfl);apply cI (by simp[-Int.natCast_add,go_sem,gq4']<;>first|exact sI|exact rfl);apply cI (V _ t1);apply cx (.bool (ofA a o)) W4 (by simp[go_sem,ofA];rfl);rw[cy];cases M:ofA a o with
   |false=>
    rw[aZ (by simp)];refine hKN2 X2 W4 ⟨y,?_,?_,Y,y4⟩ lX λb g=>⟨.inl g,hX2s b g⟩
    ·rw[B,dJ,cY (by simp[M]),iz,ew];exact T
    ·rw[B,dJ,cY (by simp[M]),iz,ew];exact y2
   |true=>
    rw[bZ rfl];obtain⟨sa,sc,U,-⟩:=y2.isSl;refine qS0 ?_;apply cx y W4 (by rw[U]at T|-;simp[go_sem,T,En]);apply cI (lM (o:=o) (At.all gq4));have hfl2:((Al.take j).filter (ofA a)).length<=200:=dD (dm _ _) (by rw[cZ];omega);refine vK (x:=o) (f:=fL) mH (eO Oh) gM pD rfl y2 qZ qZ λs' W5 o5 m5' n5=>?_;obtain⟨ta,tc,hs',-⟩:=o5.isSl;have z1:=m5'.hpk T λg=>by have:=y4 _ g;omega
    refine qS0 ?_;obtain⟨st1,st2,R⟩:=U0 (L:=(Al.take j).filter (ofA a)++[o]) z1 ⟨_,_,_,hs'⟩;apply ir st1;have hq2W4:=cB T;have hs5:=m5'.size;refine hKN2 (λb=>b=q2\/cK s' b) _ ⟨s',?_,?_,λb=>fd,λb g=>?_⟩ ?_ λb g=>?_
    ·rw[B,dJ,dI M,iz];exact st2
    ·rw[B,dJ,dI M,iz];exact o5.mod R λb g e=>by rcases n5 b g with t|t;have:=y4 b t;omega;omega
    ·rcases n5 b g with t|t
     ·exact y4 b t
     ·omega
    ·exact((m5'.mono λb _ g=>(Y b).2 (.inr g)).on R λb g=>.inl ((Y b).2 (.inl g)))
    ·have:=R.size;rcases g with rfl|g
     ·exact⟨.inl ((Y _).2 (.inl rfl)),qZ⟩
     ·refine⟨(n5 b g).imp (λt=>(Y b).2 (.inr t)) id,?_⟩;have:=o5.lt g;omega
  ·rintro X2 W4 ⟨y,T,y2,Y,y4⟩ mW4 hX2;have el:Al.take Al.length=Al:=cN;rw[el]at T y2;unfold UJ;simp only[iJ];have MW4:M0 W W4:=MW3.on mW4 λb g=>gz;have H4:=HW.md0 MW4;apply cI (O _ (MW4.hpk f0 id));simp only[eY,dr];refine cI (jk 3 qZ _) (cI (AJ _ H4.blk) ?_);apply vr (enc:=iI) (ev:=yh) (x:=k.spec.num) dv xn rP O9 (.inr ⟨md,rfl,H4.mbd⟩);have hsl3:(lk D k.spec.num).elim dv yh=rz D k.spec.num:=by unfold rz;cases lk D k.spec.num<;>rfl
   rw[hsl3];have hbd:=(H4.bd k.spec.num).rd;obtain⟨Bd,hBd⟩:=dW (S.bd k.spec.num);have hBdl:Bd.length<=50:=by rw[hBd];exact Q.ord.bdl _
   rw[<-hBd]at hbd;obtain⟨ba,bc,hbs⟩:=hbd.isSl;apply jm (gI (Bd.length:Int)) W4 (by rw[hbs];simp[go_sem]);obtain⟨F1,hF1⟩:=dW (Al.filter (ofA a));rw[<-hF1]at T y2;have hF1l:F1.length<=200:=by rw[hF1];exact dD (dm _ _) hAll
   have hW4s:=MW4.size
   refine eS (λst W5=>∃(j:Nat) (C:Vt_),j<=Bd.length/\st=(gI j,())/\M0 W W5/\hC W5 q2 (uh ({s0 with ords:=F1++(Bd.take j).filter (ofA a)},C)).toArray zg/\qR W5 C (F1++(Bd.take j).filter (ofA a))/\(∀b,cK C b->q2<b)/\W4.heap.size<=W5.heap.size)
    (λst _=>match st.1 with| .int _ i=>Bd.length - i.toNat|_=>0) ⟨0,y,qZ,rfl,MW4,by simpa using T,by simpa using y2,y4,cJ _⟩ ?_
   rintro⟨_,_⟩ W5 ⟨j,C,hj,⟨⟩,t1,t2,t3,t4,t5⟩ KM hKM;unfold Ot;intro _;have HW5:=HW.md0 t1;have hbd5:=(HW5.bd k.spec.num).rd;rw[<-hBd]at hbd5;by_cases hlt:j<Bd.length
   ·have hlt' :(j:Int)<(Bd.length:Int):=qZ;refine qSv1 (.bool true) hlt' ?_;rw[kx];obtain⟨b',off,cap,hse,hcap,hA5⟩:=hbd5.item gM hlt rfl;apply cx (pt b' (off+j*5)) W5 (by rw[hse];simp[go_sem,hlt,cS,mH]);apply cI (lM (o:=Bd[j]) hA5);obtain⟨w7,e7,b7,m7⟩:=kD W5;apply cI e7;obtain⟨q5,hq5⟩:=dW W5.heap.size;rw[<-hq5]at b7|-;obtain⟨w8,e8,b8,m8⟩:=jK (o' :=Bd[j]) b7;apply ir e8;have M8:M0 W5 w8:=m7.on m8 λb g=>gz;have B:=eA hlt;obtain⟨o,hoo⟩:=dW (Bd[j]);rw[<-hoo]at b8 B;have b8' :=b8;unfold fL at b8';have s8:=M8.hpk t2 id;have o8:=t3.mod M8 eQ;have v8:=(t1.trans M8).hpk f1 id;apply cI (by simp[-Int.natCast_add,go_sem,b8']<;>first|exact sI|exact rfl);apply cI (by simp[-Int.natCast_add,go_sem,b8']<;>first|exact sI|exact rfl);apply cI (V _ v8);apply cx (.bool (ofA a o)) w8 (by simp[go_sem,ofA];rfl);rw[cy];have hW8:=M8.size;have hq2l5:=cB t2;cases M:ofA a o with
    |false=>
     rw[aZ (by simp)];apply cx (gI ((j+1:Nat):Int)) w8 (by simp[go_sem];rw[wI_]);refine hKM _ _ ⟨j+1,C,qZ,rfl,t1.trans M8,?_,?_,t4,qZ⟩ (by show Bd.length - (((j+1:Nat):Int)).toNat<Bd.length - ((j:Int)).toNat;omega)
     ·rw[B,dJ,cY (by simp[M]),iz,ew];exact s8
     ·rw[B,dJ,cY (by simp[M]),iz,ew];exact o8
    |true=>
     rw[bZ rfl];obtain⟨sa,sc,U,-⟩:=t3.isSl;refine qS0 ?_;apply cx C w8 (by rw[U]at s8|-;simp[go_sem,s8,En]);apply cI (lM (o:=o) (At.all b8))
     have hfl2:(F1++(Bd.take j).filter (ofA a)).length<=250:=by
      have:=dm (ofA a) (Bd.take j);rw[cD];rw[cZ]at this;omega
     refine vK (x:=o) (f:=fL) mH (eO Oh) gM pD rfl o8 qZ qZ λs' W6 o6 F n6=>?_;obtain⟨ta,tc,hs',-⟩:=o6.isSl;have z1:=F.hpk s8 λg=>by have:=t4 _ g;omega
     refine qS0 ?_;obtain⟨st1,st2,R⟩:=U0 (L:=F1++(Bd.take j).filter (ofA a)++[o]) z1 ⟨_,_,_,hs'⟩;apply ir st1;have hs6' :=F.size;have hss:=R.size
     have el2:F1++(Bd.take (j+1)).filter (ofA a)=F1++(Bd.take j).filter (ofA a)++[o]:=by
      rw[B,dJ,dI M,iz,df]
     apply cx (gI ((j+1:Nat):Int)) (W6.setCell ⟨q2,28,none⟩ s') (by simp[go_sem];rw[wI_]);refine hKM _ _ ⟨j+1,s',qZ,rfl,((t1.trans M8).on F λb g=>.inr (by have:=t4 b g;omega)).on R λb g=>gz,?_,?_,λb g=>?_,qZ⟩ (by show Bd.length - (((j+1:Nat):Int)).toNat<Bd.length - ((j:Int)).toNat;omega)
     ·rw[el2];exact st2
     ·rw[el2];exact o6.mod R λb g e=>by rcases n6 b g with t|t;have:=t4 b t;omega;omega
     ·rcases n6 b g with t|t
      ·exact t4 b t
      ·omega
   ·obtain rfl:j=Bd.length:=qZ;refine qSf0 ?_;rw[cN]at t2 t3
    have hstk:({s0 with ords:=F1++Bd.filter (ofA a)}:Stk)=S.stake a k:=by
     rw[hs0,hF1,hAl,hBd,hP];rfl
    rw[hstk]at t2;have hso:(S.stake a k).ords=F1++Bd.filter (ofA a):=by rw[<-hstk]
    rw[<-hso]at t3;obtain⟨na,nc,U,-⟩:=i2.isSl;obtain⟨oa,oc,hosl,-⟩:=t3.isSl;have i1' :=t1.hpk i1 id;have i2' :=i2.mod t1 eQ;apply cx sl W5 (by rw[U]at i1' |-;simp[go_sem,i1']);apply jq (uh (S.stake a k,C)) 28 aSk Zk (tq _) (At.all t2)
    have hLl:N.length<=16:=by
     have:=fC List.length i3;rw[cz]at this;rw[this];unfold wJ;rw[cz];exact dD (dm _ _) (by rw[cZ];have:=Q.cal.len;omega)
    refine yM (x:=(S.stake a k,C)) (f:=uh) aj6 (eO eSk) tq (K1 _ ⟨_,_,_,hosl⟩) rfl i2' qZ qZ λs' W6 o6 F n6=>?_;obtain⟨ta,tc,hs',-⟩:=o6.isSl;have i1'' :=F.hpk i1' λg=>by have:=(i6 _ g).1;omega
    apply pH (W6.setCell ⟨p,0,none⟩ s') (by rw[hs'];simp[go_sem,i1'']);have mv:de (λb=>b=p) W6 (W6.setCell ⟨p,0,none⟩ s'):=(de.refl (λb=>b=p) W6).sc;have pv:hC (W6.setCell ⟨p,0,none⟩ s') p #[s'] 88:=by simp[go_sem,i1'']
    generalize W6.setCell ⟨p,0,none⟩ s' =W7 at mv pv|-;have hpW:=cB i1;have hs5' :=t1.size;have hs6'' :=F.size;have hs7:=mv.size;have hold:∀x∈N,∀b,cK x.2 b->b<W.heap.size:=λx s b g=>(i4 x s).lt g;have hsll:∀b,cK sl b->b<W.heap.size:=λb g=>i2.lt g;refine hKN (λb=>b=p\/cK s' b\/∃x∈N++[(S.stake a k,C)],cK x.2 b) W7 ⟨s',N++[(S.stake a k,C)],pv,o6.mod mv λb g e=>?_,?_,λx s=>?_,λb=>fd,λb g=>⟨?_,λx s J=>?_⟩,λx s b g=>?_⟩ ?_ λb g=>?_
    ·rcases n6 b g with t|t
     ·have:=(i6 b t).1;omega
     ·omega
    ·rw[dy,i3,z];rfl
    ·rcases dg.1 s with s|s
     ·refine(((i4 x s).mod t1 eQ).mod F λb g J=>(i6 b J).2 x s g).mod mv λb g e=>?_;have:=i7 x s b g;omega
     ·rw[eK.1 s];refine(t3.mod F λb g J=>?_).mod mv λb g e=>?_
      ·have:=t4 b g;have:=hsll b J;omega
      ·have:=t4 b g;omega
    ·rcases n6 b g with t|t
     ·exact(i6 b t).1
     ·omega
    ·rcases dg.1 s with s|s
     ·rcases n6 b g with t|t
      ·exact(i6 b t).2 x s J
      ·have:=hold x s b J;omega
     ·rw[eK.1 s]at J;rcases n6 b g with t|t
      ·have:=t4 b J;have:=hsll b t;omega
      ·have:=t3.lt J;omega
    ·rcases dg.1 s with s|s
     ·exact i7 x s b g
     ·rw[eK.1 s]at g;have:=t4 b g;omega
    ·exact((t1.to (G:=X)).on F λb g=>.inl ((i5 b).2 (.inr (.inl g)))).on mv λb g=>.inl ((i5 b).2 (.inl g))
    ·rcases g with rfl|g|⟨x,s,g⟩
     ·exact⟨.inl ((i5 _).2 (.inl rfl)),qZ⟩
     ·refine⟨(n6 b g).imp (λt=>(i5 b).2 (.inr (.inl t))) λt=>qZ,?_⟩;have:=o6.lt g;omega
     ·rcases dg.1 s with s|s
      ·exact⟨.inl ((i5 b).2 (.inr (.inr ⟨x,s,g⟩))),by have:=hold x s b g;omega⟩
      ·rw[eK.1 s]at g;exact⟨.inr (by have:=t4 b g;omega),by have:=t3.lt g;omega⟩
 ·rintro X W d hd ⟨sl,N,i1,i2,i3,i4,i5,i6,i7⟩ mW hdef hX;have e:wJ S a S.cal.l.length=S.stakes a:=by unfold wJ Ven.stakes;rw[cN]
  rw[e]at i3;unfold WP;simp only[iJ];obtain⟨na,nc,U,-⟩:=i2.isSl;apply cx sl W (by rw[U]at i1|-;simp[go_sem,i1])
  have hLl:N.length<=16:=by
   have:=fC List.length i3;rw[cz]at this;rw[this];unfold Ven.stakes;rw[cz];exact dD (dm _ _) Q.cal.len
  refine PA i2.rd qZ (λx s=>?_) λW2 mW2=>?_
  ·have hm:x.1∈S.stakes a:=by rw[<-i3];exact dn s
   unfold Ven.stakes at hm;obtain⟨k,hk,he⟩:=cF.1 hm;have:=L6 Q (a:=a) (cO.1 hk).1;rw[he]at this;exact⟨this.1,qZ,(i4 x s).rd⟩
  ·rw[i3,<-hneed];have g2W:=mW2.hpk (mW.hpk g2 qZ) id;refine qS0 ?_;refine qS0 ?_;obtain⟨w7,e7,b7,m7⟩:=Sl (S.need a).1 g2W rfl;apply ir e7;have hdW:=m7.hpk (mW2.hpk hdef id) qZ;refine Bz hdW λW3 mr=>?_;apply dp (MI _ (mr.hpk b7 qZ));apply fin (S.need a).1 (S.need a).2 W3 rfl;refine(((M6.on mW λb g=>gz).trans mW2).on m7 λb g=>gz).on mr λb g=>gz
end
def Ou:∀(l:List Lg) (a:List Rt) (k:Int),0<=k->a.length=9->(∀r∈a,r.Bd k)->(∀x∈l,A2 x=true)->(l.foldl pV a).length=9/\∀r∈l.foldl pV a,r.Bd (k+l.length)
 | [],a,k,_,b,d,_=>⟨b,by simpa using d⟩
 |x::l,a,k,h,b,d,f=>by
  rw[ig];have i:(pV a x).length=9:=by unfold pV;split;exact b;split;rw[ey];exact b;exact b
  obtain⟨g,n⟩:=Ou l (pV a x) (k+1) qZ i (D4 h d (f x cw)) λy j=>f y (cu _ j);refine⟨g,λr m=>?_⟩;have:=n r m;rw[dc];have e:k+1+(l.length:Int)=k+((l.length+1:Nat):Int):=qZ
  rwa[e]at this
def MV(l:List Lg):0<=(ng l).1/\(ng l).1<=14400000000000000:=by
 unfold ng;split
 ·simp
 ·rename_i k
  split
  ·simp
  ·rename_i b
   split
   ·simp
   ·have a:∀x∈l,A2 x=true:=λx n=>dF.1 (by simpa using b) x n
    obtain⟨h,f⟩:=Ou l (List.replicate 9 S7) 0 qZ (by simp) (λr d=>by
     rw[lg d];exact⟨by decide,by decide,by decide,by decide,by decide,by decide,by decide,by decide⟩) a
    have m:=Ik (l:=l.foldl pV (List.replicate 9 S7)) λr d=>by
     obtain⟨o,s,i,p,j,q,g,e⟩:=f r d;have:(l.length:Int)<=16:=qZ;exact⟨o,qZ,i,qZ,j,qZ,g,e⟩
    rw[h]at m;simp only;omega
def RO(l:List Stk):(0<=(needR l).1.m/\(needR l).1.m<=14400000000000000)/\(0<=(needR l).1.w/\(needR l).1.w<=200000000000000000)/\0<=(needR l).1.u/\(needR l).1.u<=17600000000000000:=by
 unfold needR;split
 ·simp
 ·rename_i g
  split
  ·simp
  ·rename_i e
   have d:∀x∈l,x.ok=true:=λx f=>dF.1 (by simpa using e) x f;split
   ·simp
   ·have a:=MV (l.map (·.leg));have b:=E4 d;have c:=PU d;have:(l.length:Int)<=16:=qZ;simp only;omega
def Fx(S:Ven)(a:Int):(0<=(S.need a).1.m/\(S.need a).1.m<=14400000000000000)/\(0<=(S.need a).1.w/\(S.need a).1.w<=200000000000000000)/\0<=(S.need a).1.u/\(S.need a).1.u<=17600000000000000:=by
 unfold Ven.need;split
 ·simp
 ·exact RO _
def SE(S:Ven)(a:Int):0<=(S.need a).1.total/\(S.need a).1.total<=240000000000000000:=by
 have:=Fx S a;unfold Nd.total;omega
def WM(n:Nd)(W:Wt_):∃b d,(iA yg true (.tuple #[])).run pQ W=.ok (pt W.heap.size 0) b/\(iS yg (pt W.heap.size 0) (IJ n)).run pQ b=.ok () d/\hC d W.heap.size (wY n).toArray yg/\M0 W d:=by
 obtain⟨b,a⟩:=dW (W.alloc (.cells (wY BM).toArray yg));have g:M0 W b:=by rw[a];exact(de.refl _ W).alloc _
 have e:hC b W.heap.size (wY BM).toArray yg:=by rw[a];simp[go_sem]
 obtain⟨d,i,h,f⟩:=Sl n e rfl;exact⟨b,d,by rw[a];simp[go_sem,wY,BM],i,h,g.on f λx j=>gz⟩
section
variable{w:Wt_}{K:cG}{v c l mb md:Nat}{A:List (Int×Nat)}{D:List (Int×Value)}{fp:Pt->Nat->Prop}{S:Ven}
def Au{a:Int}(h:ik w v c l mb md A D fp S)(t:S.Ok)(hK:∀C,M0 w C->K (gI (S.bears a)) C):Ca pQ 124 #[eY v,gU a] w K:=by
 apply ar3;refine HH h t λB Y=>?_;obtain⟨N,O⟩:=dW (S.need a);have u:=Fx S a;have x:=SE S a;rw[<-O]at u x|-;have b:S.bears a=if N.2≠0 then N.2 else if(S.acc a).cash<N.1.total then 161 else 0:=by unfold Ven.bears;rw[<-O]
 refine qS0 ?_;refine qS0 ?_;obtain⟨w2,T,H,I,E,Z⟩:=WM N.1 B;obtain⟨q,V⟩:=dW B.heap.size;rw[<-V]at H I E;refine cI H (ir I ?_);have p:=Y.trans Z;have J:=h.md0 p;have fin:∀e W,S.bears a=e->M0 w W->K (gI e) W:=λe W j m=>by grind
 by_cases j:N.2≠0
 ·refine qSt1 j ?_;exact fin N.2 T (by grind) p
 have n:N.2=0:=by simpa using j
 refine qSf1 n ?_;rw[aZ j]at b;simp only[eY,dr];refine cI (jk 1 qZ _) (cI (ld1 _ J.blk) ?_);refine ug J.led λz Q=>?_;rw[oV];obtain⟨ac,k⟩:=dW (S.acc a);rw[<-k]at b|-;refine qS0 ?_;refine qS0 ?_;obtain⟨w5,o,R,M,G,F⟩:=C0 ac z;obtain⟨r,X⟩:=dW z.heap.size;rw[<-X]at R M G;refine cI R (ir M ?_);have d:M0 o o.drew:=mP;have i:=d.hpk G id;have L:=d.hpk (F.hpk (Q.hpk E id) id) id;have s:=((p.trans Q).trans F).trans d
 try dsimp only
 generalize o.drew=w7 at d i L s|-;unfold dH at i;have g:∀W,hC W r #[.int .u32 ac.num,gI ac.cash,.bool ac.kil,.bool ac.dfl] 70->(iL 2 (pt r 1)).run pQ W=.ok (gI ac.cash) W:=λW U=>by simp[go_sem,U]
 refine qPv0 (pt r 1) (dp (g _ i) ?_);apply dp (MI _ L);refine MD ⟨qZ,qZ⟩ ⟨qZ,qZ⟩ ⟨qZ,qZ⟩ ⟨qZ,qZ⟩ λP y=>?_;refine⟨g _ (y.hpk i id),?_⟩;by_cases f:ac.cash<N.1.total
 ·refine qPt1 f ?_;exact fin 161 P (by grind) (s.trans y)
 ·refine qPf1 f ?_;exact fin 0 P (by grind) (s.trans y)
end
abbrev Vy:TypeId:=111
def PS(t:Td):Value:=.agg (Fg t).toArray
def Uu(t:Td):(Fg t).length=4:=rfl
def aB8{s:Vt_}{L:List Td}(h:Rd w 4 s L.length (L.flatMap Fg)){i:Nat}(hi:i<L.length):
  ∃p,(iX 48 s (gI (i:Int))).run pQ w=.ok p w/\(iL Vy p).run pQ w=.ok (PS L[i]) w:=by
 obtain⟨b,f,m,d,j,n⟩:=h.item Uu hi rfl;obtain⟨C,e,fz,hC,a⟩:=n.get;have g0:=a 0 (gI L[i].price) rfl;have g1:=a 1 (gI L[i].qty) rfl;have g:=a 2 (gQ L[i].num) rfl;have k:=a 3 (gU L[i].acct) rfl;simp only[jU,dS]at g0 g1 g k;exact⟨.pointer (some ⟨b,f+i*4,none⟩),by rw[d];simp[go_sem,hi,cS,JA],by simp[go_sem,fy hC,g0,g1,g,k,PS,Fg]⟩
def Zq(t:Td)(W:Wt_):∃a d,(iA Vy true (.tuple #[])).run pQ W=.ok (pt W.heap.size 0) a/\(iS Vy (pt W.heap.size 0) (PS t)).run pQ a=.ok () d/\hC d W.heap.size (Fg t).toArray Vy/\M0 W d:=by
 obtain⟨a,b⟩:=dW (W.alloc (.cells #[.int .i64 0,gI 0,gQ 0,gU 0] Vy));have f:M0 W a:=by rw[b];exact(de.refl _ W).alloc _
 have e:hC a W.heap.size #[.int .i64 0,gI 0,gQ 0,gU 0] Vy:=by rw[b];simp[go_sem]
 refine⟨a,(((a.setCell ⟨W.heap.size,0,none⟩ (gI t.price)).setCell ⟨W.heap.size,1,none⟩ (gI t.qty)).setCell ⟨W.heap.size,2,none⟩ (gQ t.num)).setCell ⟨W.heap.size,3,none⟩ (gU t.acct),by rw[b];simp[go_sem],by simp[go_sem,e,PS,Fg],by simp[go_sem,e,Fg],?_⟩;exact f.on (((((de.refl (λx=>x=W.heap.size) a).sc).sc).sc).sc) λx g=>gz
def Df{n:Int}{o:Od}{p:Pm}{sT sG:Vt_}(h:lw w v F S)(hok:S.Ok)(hal:ex S.cal.l n=0)(B:Ji w sT sG p.trades p.gone)(J:∀x,cK sT x\/cK sG x->¬F x)(hlen:p.trades.length<=1000)
  (hK:∀s m w',lw w' v F (S.traded n o p).2.2->vG w' s m dv (S.traded n o p).2.1->de F w w' ->(∀x,cK s x\/cK m x->cK sT x\/cK sG x)->
   K (.tuple #[ud (S.traded n o p).2.1 s m dv,gI (S.traded n o p).1]) w'):Ca pQ 143 #[eY v,gU n,oG o,.agg (uy sT sG p.filled p.left)] w K:=by
 obtain⟨c,l,mb,md,A,D,fp,hr,hF⟩:=h;apply ar8;obtain⟨ta,tc,E,-⟩:=B.tr.isSl;obtain⟨ga,gc,N,-⟩:=B.go.isSl;obtain⟨w1,e1,b1,m1⟩:=vt o w;apply cI e1;obtain⟨I,hq0⟩:∃q,q=w.heap.size:=⟨_,rfl⟩
 rw[<-hq0]at b1|-;obtain⟨u,hq1⟩:∃q,q=w1.heap.size:=⟨_,rfl⟩
 have m2:M0 w1 (w1.alloc (.cells (uy sT sG p.filled p.left) 230)):=lm;have b2:hC (w1.alloc (.cells (uy sT sG p.filled p.left) 230)) u (uy sT sG p.filled p.left) 230:=by rw[hq1];simp[go_sem]
 apply cx (pt u 0) (w1.alloc (.cells (uy sT sG p.filled p.left) 230)) (by rw[hq1];rfl);generalize w1.alloc (.cells (uy sT sG p.filled p.left) 230)=w2 at m2 b2|-;obtain⟨w3,e3,b3,m3⟩:=qy w2;apply cI e3;obtain⟨q2,hq2⟩:∃q,q=w2.heap.size:=⟨_,rfl⟩
 rw[<-hq2]at b3|-;have M3:=(m1.trans m2).trans m3;have c1:=m3.hpk (m2.hpk b1 id) id;have c2:=m3.hpk b2 id;unfold uy at c2;unfold fL at c1;have hlt1:I<u:=by have:=cB b1;omega
 have hlt2:u<q2:=by have:=cB b2;omega
 have hFl:∀x,F x->x<I:=λx g=>by obtain⟨pt,hp⟩:=(hF x).1 g;have:=hr.lt hp;omega
 have hTl:∀x,cK sT x->x<I:=λx g=>by have:=B.tr.lt g;omega
 have hGl:∀x,cK sG x->x<I:=λx g=>by have:=B.go.lt g;omega
 refine qS0 ?_;apply cx sT w3 (by rw[E]at c2|-;simp[go_sem,c2]);apply jm (gI (p.trades.length:Int)) w3 (by rw[E];simp[go_sem]);have hun:pL n:=alive_u32 hok.cal hal;have V:∀x,fp .led x->F x:=λx g=>(hF x).2 ⟨_,g⟩
 have fin:∀(r:Rp) (e:Int) (M:Ven) s m W,S.traded n o p=(e,r,M)->lw W v F M->vG W s m dv r->de F w W->(∀x,cK s x\/cK m x->cK sT x\/cK sG x)->K (.tuple #[ud r s m dv,gI e]) W:=λr e M s m W he a b d f=>by
  have hk:=hK s m W;rw[he]at hk;exact hk a b d f
 refine eS (λst W=>∃(i:Nat) (y:Vt_) (L:Led),i<=p.trades.length/\st=(y,gI i,())/\ik W v c l mb md A D fp {S with led:=L}/\tradeL n o p.trades S.led=tradeL n o (p.trades.drop i) L/\de F w W/\hC W I #[.int .u64 o.num,gU o.acct,.bool o.buy,gI o.price,gI o.left] pz/\
   hC W u #[sT,sG,gI p.filled,gI p.left] 230/\hC W q2 (mC zRp dv dv dv).toArray lx)
  (λst _=>match st.2.1 with| .int _ i=>p.trades.length - i.toNat|_=>0) ⟨0,_,S.led,qZ,rfl,hr.md0 M3,rfl,M3.to,c1,c2,b3⟩ ?_
 rintro⟨_,_,_⟩ W ⟨i,y,L,hi,⟨⟩,i1,i2,i3,i4,i5,i6⟩ KN hKN;unfold RI;intro _;have hPW:Ji W sT sG p.trades p.gone:=B.mod i3 (λx g=>J x (.inl g)) λx g=>J x (.inr g);by_cases hlt:i<p.trades.length
 ·have hlt' :(i:Int)<(p.trades.length:Int):=qZ;refine qSt1 hlt' ?_;obtain⟨pp,x1,x2⟩:=aB8 hPW.tr.rd hlt;refine cI x1 (cI x2 ?_);obtain⟨t,ht⟩:=dW (p.trades[i]);rw[<-ht];have T:p.trades.drop i=t::p.trades.drop (i+1):=by rw[ht];exact(gK hlt).symm
  obtain⟨w4,w5,v1,v2,v3,v4⟩:=Zq t W;obtain⟨q3,hq3⟩:∃q,q=W.heap.size:=⟨_,rfl⟩
  rw[<-hq3]at v1 v2 v3;refine cI v1 (ir v2 ?_);have k:M0 w5 w5.drew:=mP;have u3:=k.hpk v3 id;have M5:=v4.trans k;have Z:=i1.md0 M5;have G:=M5.hpk i4 id;have Y:=M5.hpk i5 id;have j6:=M5.hpk i6 id
  try dsimp only
  generalize w5.drew=w6 at k u3 M5 Z G Y j6|-;unfold Fg at u3;refine qP0 ?_;refine qW1 G ?_;refine qP0 ?_;refine qW1 u3 ?_;refine⟨by simp[go_sem,u3],?_⟩;refine dK.at (λst W' =>st=(gU (if o.buy then o.acct else t.acct),gU (if o.buy then t.acct else o.acct),())/\w6=W') ?_ ?_
  ·refine qS0 ?_;refine qS1 G ?_;refine qS0 ?_;cases o.buy with
   |true=>
    rw[cy,aZ (by simp)];exact⟨by simp,rfl⟩
   |false=>
    rw[cy,bZ (by simp)];exact⟨by simp,rfl⟩
  rintro _ _ ⟨rfl,rfl⟩;unfold PZ;intro _;simp only[eY,dr];have j:M0 w6 w6.drew:=mP;have R:=j.hpk u3 id;have M6:=M5.trans j;have H:=Z.md0 j;have j4' :=j.hpk G id;have j5' :=j.hpk Y id;have j6' :=j.hpk j6 id
  try dsimp only
  generalize w6.drew=w7 at j R M6 H j4' j5' j6' |-;refine dw (jk 1 qZ) (dp (ld1 _ H.blk) ?_);refine qP0 ?_;refine qW1 R ?_;refine qP0 ?_;refine qW1 R ?_;refine IF H.led hun λw8 q8 m8=>?_;obtain⟨X,hX⟩:=dW (L.trade n (if o.buy then o.acct else t.acct) (if o.buy then t.acct else o.acct) t.price t.qty);replace q8:lA w8 l (fp .led) X.2:=by rw[hX];exact q8
  show rv pQ (qE .neq _ true (gI (L.trade n (if o.buy then o.acct else t.acct) (if o.buy then t.acct else o.acct) t.price t.qty).1) (gI 0)) w8 _;rw[<-hX];have U:∀x,x=I\/x=u\/x=q2->¬fp .led x:=λx g hf=>by grind
  have k4:=m8.hpk j4' (U _ (.inl rfl));have k5:=m8.hpk j5' (U _ (.inr (.inl rfl)));have k6:=m8.hpk j6' (U _ (.inr (.inr rfl)));have k1:ik w8 v c l mb md A D fp {S with led:=X.2}:=H.setLed m8 q8;have M8:de F w w8:=(i3.trans (M6.to)).on m8 λx g=>.inl (V x g);rw[T]at i2
  have z:tradeL n o (t::p.trades.drop (i+1)) L=if X.1≠0 then X else tradeL n o (p.trades.drop (i+1)) X.2:=by
   rw[hX];rfl
  by_cases C:X.1≠0
  ·rw[bZ C]at z;refine qSt1 C ?_;apply cI (aA0 _);obtain⟨w9,e9,b9,m9⟩:=pl (r:=zRp) k6 rfl ⟨gJ,gJ,gJ⟩;refine ir e9 (dp (lB b9) ?_);refine fin zRp X.1 {S with led:=X.2} dv dv w9 ?_ ⟨c,l,mb,md,A,D,fp,k1.mod m9 λpt x g e=>by have:=hFl x ((hF x).2 ⟨pt,g⟩);omega,hF⟩ (vG.nil _ 0) (M8.on m9 λb hb=>gz) λx g=>by rcases g with g|g<;>cases g
   unfold Ven.traded;simp only;rw[i2,z,bZ C]
  ·rw[aZ C]at z;have hX0:X.1=0:=by simpa using C
   refine qSf1 hX0 ?_;apply cx (gI ((i+1:Nat):Int)) w8 (by simp[go_sem];rw[wI_]);exact hKN _ _ ⟨i+1,_,X.2,qZ,rfl,k1,by rw[i2,z],M8,k4,k5,k6⟩ (by grind)
 ·obtain rfl:i=p.trades.length:=qZ;refine qSf0 ?_;rw[fg (cJ _)]at i2;have z:tradeL n o p.trades S.led=(0,L):=i2;obtain⟨M,hS'⟩:=dW ({S with led:=L}:Ven)
  have O:S.traded n o p=(M.bears o.acct,⟨0,o.num,p.filled,p.left,p.trades,p.gone,[]⟩,M):=by
   unfold Ven.traded;simp only;rw[z,aZ (by simp),<-hS']
  have hok' :M.Ok:=by
   have:=traded_ok hok hun hal o p;rw[O]at this;exact this
  rw[<-hS']at i1;have k:M0 W W.drew:=mP;have Z:=i1.md0 k;have G:=k.hpk i4 id;have Y:=k.hpk i5 id;have j6:=k.hpk i6 id
  try dsimp only
  generalize W.drew=w6 at k Z G Y j6|-;have la:∀W,hC W I #[.int .u64 o.num,gU o.acct,.bool o.buy,gI o.price,gI o.left] pz->(iL 24 (pt I 0)).run pQ W=.ok (gQ o.num) W:=λW hW=>by simp[go_sem,hW]
  have lb:∀W,hC W u #[sT,sG,gI p.filled,gI p.left] 230->(iL 2 (pt u 2)).run pQ W=.ok (gI p.filled) W/\(iL 2 (pt u 3)).run pQ W=.ok (gI p.left) W/\
    (iL 48 (pt u 0)).run pQ W=.ok sT W/\(iL 49 (pt u 1)).run pQ W=.ok sG W:=λW hW=>by
   rw[E,N]at hW|-;simp[go_sem,hW]
  obtain⟨l1,l2,l3,l4⟩:=lb _ Y;refine qPv0 (pt I 0) (dp (la _ G) ?_);refine qPv0 (pt u 2) (dp l1 ?_);refine qPv0 (pt u 3) (dp l2 ?_);refine qPv0 (pt u 0) (dp l3 ?_);refine qPv0 (pt u 1) (dp l4 ?_);obtain⟨r,Q⟩:=dW (⟨0,o.num,p.filled,p.left,p.trades,p.gone,[]⟩:Rp);apply dX (ud r sT sG dv) (λ_=>by rw[Q,E,N];simp[go_sem,ud,dv]);refine qP0 ?_;refine qW1 G ?_;refine Au Z hok' λw7 m7=>?_;obtain⟨n1,n2,n3,n4⟩:=lb _ (m7.hpk Y id);refine⟨n4,n3,n2,n1,la _ (m7.hpk G id),?_⟩;obtain⟨w9,e9,b9,m9⟩:=pl (r:=r) (sT:=sT) (sG:=sG) (sA:=dv) (m7.hpk j6 id) rfl ⟨⟨_,_,_,E⟩,⟨_,_,_,N⟩,gJ⟩;refine ir e9 (dp (lB b9) ?_);rw[<-Q]at O;have MM:M0 W w7:=k.trans m7;have hP7:=hPW.mod MM eQ eQ;have P:=hP7.mod m9 (λx g e=>by grind) λx g e=>by grind
  refine fin r _ M sT sG w9 O ⟨c,l,mb,md,A,D,fp,(Z.md0 m7).mod m9 λpt x g e=>by have:=hFl x ((hF x).2 ⟨pt,g⟩);omega,hF⟩ ?_ ((i3.trans (MM.to)).on m9 λb hb=>gz) λx g=>g;rw[Q];exact⟨P.tr,P.go,jo.nil _ _ _,P.dj,λx _ g=>(by cases g),λx _ g=>(by cases g)⟩
abbrev om:TypeId:=30
def ni(c:Cm):(cmC c).length=35:=by simp[cmC,dP]
def Ky(c:Cm):(cmC c).all (·.oneCell')=true:=by rw[cmC,gj,gj,xS];rfl
def ZV(c:Cm):(cmC c)[0]? =some (gB c.kind):=rfl
def cm1(c:Cm):(cmC c)[1]? =some (gU c.acct):=rfl
def cm2(c:Cm):(cmC c)[2]? =some (gU c.ct):=rfl
def cm3(c:Cm):(cmC c)[3]? =some (gQ c.num):=rfl
def cm4(c:Cm):(cmC c)[4]? =some (gI c.amt):=rfl
def RX(c:Cm)(i:Nat):(cmC c)[30+i]? =([.bool c.on,.bool c.buy,gB c.ty,gI c.price,gI c.qty]:LV_)[i]? :=by
 rw[cmC,cQ (by show 5<=30+i;omega),cQ (by rw[dP];simp;omega),dP];congr 1;simp;omega
def SJ(c:Cm):(cmC c)[30]? =some (.bool c.on):=RX c 0
def S4(c:Cm):(cmC c)[31]? =some (.bool c.buy):=RX c 1
def YA(c:Cm):(cmC c)[32]? =some (gB c.ty):=RX c 2
def TT(c:Cm):(cmC c)[33]? =some (gI c.price):=RX c 3
def TC(c:Cm):(cmC c)[34]? =some (gI c.qty):=RX c 4
def aCm:pY pQ om=true:=cU
def nCm:Tryz.prog.cellsOf om=34+1:=cU
abbrev iy(W:Wt_)(p:Nat)(c:Cm):Prop:=hC W p (cmC c).toArray om
def vI(c:Cm):Value:=.agg (cmC c).toArray
def uT(c:Cm)(w:Wt_):∃a,(Instr.box om (vI c)).run pQ w=.ok (pt w.heap.size 0) a/\iy a w.heap.size c/\M0 w a:=
 ⟨w.alloc (.cells (cmC c).toArray om),rfl,by show hp _ _=_;simp[go_sem],(de.refl _ w).alloc _⟩
def vm{p:Nat}{c:Cm}(h:iy W p c):(fH om (pt p 0)).run pQ W=.ok (vI c) W:=gm aCm nCm (ni c) (At.all h)
section
variable{W:Wt_}{p:Nat}{c:Cm}
def pM(W:Wt_):(iF om (pt p 0) 1).run pQ W=.ok (pt p 1) W:=by simp[go_sem]
def tZ(W:Wt_):(iF om (pt p 0) 2).run pQ W=.ok (pt p 2) W:=by simp[go_sem]
def B7(W:Wt_):(iF om (pt p 0) 3).run pQ W=.ok (pt p 3) W:=by simp[go_sem]
def JB(W:Wt_):(iF om (pt p 0) 4).run pQ W=.ok (pt p 4) W:=by simp[go_sem]
def H6(W:Wt_):(iF om (pt p 0) 6).run pQ W=.ok (pt p 30) W:=by simp[go_sem]
def MG(W:Wt_):(iF om (pt p 0) 7).run pQ W=.ok (pt p 31) W:=by simp[go_sem]
def ay4(W:Wt_):(iF om (pt p 0) 8).run pQ W=.ok (pt p 32) W:=by simp[go_sem]
def DK(W:Wt_):(iF om (pt p 0) 9).run pQ W=.ok (pt p 33) W:=by simp[go_sem]
def yy(W:Wt_):(iF om (pt p 0) 10).run pQ W=.ok (pt p 34) W:=by simp[go_sem]
def rk(h:iy W p c):(iL 23 (pt p 1)).run pQ W=.ok (gU c.acct) W:=by simp[go_sem,h,cm1]
def sD(h:iy W p c):(iL 23 (pt p 2)).run pQ W=.ok (gU c.ct) W:=by simp[go_sem,h,cm2]
def BV(h:iy W p c):(iL 24 (pt p 3)).run pQ W=.ok (gQ c.num) W:=by simp[go_sem,h,cm3]
def Nx(h:iy W p c):(iL 2 (pt p 4)).run pQ W=.ok (gI c.amt) W:=by simp[go_sem,h,cm4]
def Jd(h:iy W p c):(iL 4 (pt p 30)).run pQ W=.ok (.bool c.on) W:=by simp[go_sem,h,SJ]
def Jr(h:iy W p c):(iL 4 (pt p 31)).run pQ W=.ok (.bool c.buy) W:=by simp[go_sem,h,S4]
def ac8(h:iy W p c):(iL 28 (pt p 32)).run pQ W=.ok (gB c.ty) W:=by simp[go_sem,h,YA]
def yG(h:iy W p c):(iL 2 (pt p 33)).run pQ W=.ok (gI c.price) W:=by simp[go_sem,h,TT]
def um(h:iy W p c):(iL 2 (pt p 34)).run pQ W=.ok (gI c.qty) W:=by simp[go_sem,h,TC]
end
def AK(w:Wt_)(v:Nat)(F:NP_)(x:Int×Rp×Ven)(K:cG):Prop:=
 ∀sT sG sA F' w',lw w' v F' x.2.2->vG w' sT sG sA x.2.1->de F w w' ->(∀y,F' y->F y\/w.heap.size<=y)->(∀y,cK sT y\/cK sG y\/cK sA y->w.heap.size<=y/\¬F' y)->
  K (.tuple #[ud x.2.1 sT sG sA,gI x.1]) w'
def AK.tell{F' :NP_}{x:Int×Rp×Ven}(h:AK w v F x K){e:Int}{r:Rp}{T:Ven}{sT sG sA:Vt_}{w' :Wt_}(i:x=(e,r,T))(d:lw w' v F' T)(a:vG w' sT sG sA r)(g:de F w w')(b:∀y,F' y->F y\/w.heap.size<=y)
  (f:∀y,cK sT y\/cK sG y\/cK sA y->w.heap.size<=y/\¬F' y):K (.tuple #[ud r sT sG sA,gI e]) w' :=by
 have:=h sT sG sA F' w';rw[i]at this;exact this d a g b f
def AK.nil{F' :NP_}{x:Int×Rp×Ven}(h:AK w v F x K){e:Int}{T:Ven}{w' :Wt_}(g:x=(e,zRp,T))(d:lw w' v F' T)(f:de F w w')(b:∀y,F' y->F y\/w.heap.size<=y):K (.tuple #[ud zRp dv dv dv,gI e]) w' :=
 h.tell g d (vG.nil _ 0) f b λy a=>by rcases a with a|a|a<;>cases a
def xz{mb:Nat}{A:List (Int×Nat)}(h:fB iI jY W mb A){n:Int}{b:Nat}(a:lk A n=some b):(ji 35 (.map (some mb)) (gU n) false).run pQ W=.ok (jY b) W:=by
 have:=rA (ok:=false) (x:=n) Dc rP XM (.inr ⟨mb,rfl,h⟩:DR iI jY W (.map (some mb)) A);rw[a]at this;exact this
def uF{md:Nat}{D:List (Int×Value)}(h:fB iI yh W md D)(n:Int):(ji 36 (.map (some md)) (gU n) false).run pQ W=.ok (rz D n) W:=by
 have:=rA (ok:=false) (x:=n) xn rP O9 (.inr ⟨md,rfl,h⟩:DR iI yh W (.map (some md)) D);unfold rz;cases a:lk D n with
 |none=>rw[a]at this;exact this
 |some x=>rw[a]at this;exact this
def Cl(W:Wt_):∃a,(iA 230 true (.tuple #[])).run pQ W=.ok (pt W.heap.size 0) a/\hC a W.heap.size (uy dv dv 0 0) 230/\M0 W a:=
 ⟨W.alloc (.cells (uy dv dv 0 0) 230),by simp[go_sem,uy,dv],by simp[go_sem],(de.refl _ W).alloc _⟩
def Cr{a b:Vt_}{f l:Int}(sT sG:Vt_)(d l' :Int)(h:hC W q (uy a b f l) 230)(j:∃a n c,sT=.slice a n c)(o:∃a n c,sG=.slice a n c):
  ∃e,(iS 230 (pt q 0) (.agg (uy sT sG d l'))).run pQ W=.ok () e/\hC e q (uy sT sG d l') 230/\de (λb=>b=q) W e:=by
 obtain⟨s,r,k,rfl⟩:=j;obtain⟨g,m,i,rfl⟩:=o;unfold uy at h;exact⟨(((W.setCell ⟨q,0,none⟩ (.slice s r k)).setCell ⟨q,1,none⟩ (.slice g m i)).setCell ⟨q,2,none⟩ (gI d)).setCell ⟨q,3,none⟩ (gI l'),by simp[go_sem,h,uy],by simp[go_sem,h,uy],((((de.refl (λx=>x=q) W).sc).sc).sc).sc⟩
def QG{sT sG:Vt_}{f l:Int}(h:hC W q (uy sT sG f l) 230):(iL 230 (pt q 0)).run pQ W=.ok (.agg (uy sT sG f l)) W:=by
 unfold uy at h|-;simp[go_sem,h]
section
variable{w:Wt_}{K:cG}{v c l mb md:Nat}{A:List (Int×Nat)}{D:List (Int×Value)}{fp:Pt->Nat->Prop}{S:Ven}
def EI{x:Cm}(h:ik w v c l mb md A D fp S)(k:S.Ok)(hx:x.Fit)
  (hK:∀w',ik w' v c l mb md A D fp (S.order x).2.2->de (fp .v) w w' ->K (.tuple #[oG (S.order x).2.1,gI (S.order x).1]) w'):Ca pQ 144 #[eY v,vI x] w K:=by
 apply am0;obtain⟨w1,e1,M,m1⟩:=uT x w;apply cI e1;obtain⟨p,hp0⟩:=dW w.heap.size;rw[<-hp0]at M|-;obtain⟨w2,e2,b2,m2⟩:=kD w1;apply cI e2;obtain⟨q,Q⟩:=dW w1.heap.size;rw[<-Q]at b2|-;have M2:=m1.trans m2;have h2:=h.md0 M2;have i:=m2.hpk M id;have hpq:p<q:=by have:=cB M;omega
 refine cI (pM _) (cI (rk i) ?_);refine cI (tZ _) (cI (sD i) ?_);refine cI (MG _) (cI (Jr i) ?_);refine cI (DK _) (cI (yG i) ?_);refine cI (yy _) (cI (um i) ?_);apply cx (oG pC) w2 (by simp[go_sem,oG,fL,pC]);obtain⟨f1,f2,f3,f4,f5,f6,f7,f8,f9⟩:=hx;refine Ix h2 k f8 f9 ⟨by show(0:Int)<=0;omega,by show(0:Int)<=1000000;omega⟩ λw3 u=>?_;obtain⟨E,hE⟩:=dW (S.pass x.acct x.ct x.buy x.price x.qty pC);have d:S.order x=if E≠0 then(E,pC,S)else if maxNum<S.next then(6,x.od 0,S)else(0,x.od S.next,{S with next:=S.next+1}):=by unfold Ven.order;rw[<-hE]
 rw[<-hE];have I:=h2.md0 u;have c3:=u.hpk i id;have F:=u.hpk b2 id;have M3:=M2.trans u
 have fin:∀e o T W,S.order x=(e,o,T)->ik W v c l mb md A D fp T->de (fp .v) w W->K (.tuple #[oG o,gI e]) W:=λe o T W j a b=>by
  have hk:=hK W;rw[j]at hk;exact hk a b
 have g:¬fp .v p/\¬fp .v q:=by
  have hv:=h.lt h.self;constructor
  ·intro J;have:=(h.fv p).1 J;omega
  ·intro J;have:=(h.fv q).1 J;omega
 have r:∀{W W' :Wt_} {T:Ven},ik W v c l mb md A D fp T->de (λb=>b=q) W W' ->ik W' v c l mb md A D fp T:=λa m=>a.mod m λpt y hy e=>by
  have:=h.lt hy;have:=m1.size;omega
 by_cases j:E≠0
 ·rw[bZ j]at d;refine qSt1 j ?_;apply cI (lM (o:=pC) (At.all F));obtain⟨U,e4,b4,t⟩:=jK (o' :=pC) F;refine ir e4 (dp (lM (o:=pC) (At.all b4)) ?_);exact fin E pC S U d (r I t) ((M3.to).on t λb hb=>.inr (by grind))
 rw[aZ j]at d;have C:E=0:=by simpa using j
 refine qSf1 C ?_
 have f:∀n e T W,S.order x=(e,x.od n,T)->ik W v c l mb md A D fp T->de (fp .v) w3 W->
   (rv pQ (iF om (pt p 0) 1) W λL w41=>rv pQ (iL 23 L) w41 λv42 B=>rv pQ (iF om (pt p 0) 7) B λX w45=>rv pQ (iL 4 X) w45 λG w47=>
    rv pQ (iF om (pt p 0) 9) w47 λZ w49=>rv pQ (iL 2 Z) w49 λV w51=>rv pQ (iF om (pt p 0) 10) w51 λR N=>rv pQ (iL 2 R) N λH O=>
    rv pQ (Instr.build pz #[(0,gQ n),(1,v42),(2,G),(3,V),(4,H)]) O λv56 P=>ru pQ (iS pz (pt q 0) v56) P λs=>uc pQ (iL pz (pt q 0)) s λv59=>K (.tuple #[v59,gI e]) s):=λn e T W ho a m=>by
  have z:=m.hpk c3 g.1;have b5:=m.hpk F g.2;refine cI (pM _) (cI (rk z) ?_);refine cI (MG _) (cI (Jr z) ?_);refine cI (DK _) (cI (yG z) ?_);refine cI (yy _) (cI (um z) ?_);apply cx (oG (x.od n)) W (by simp[go_sem,oG,fL,Cm.od]);obtain⟨w6,e6,b6,m6⟩:=jK (o' :=x.od n) b5;refine ir e6 (dp (lM (o:=x.od n) (At.all b6)) ?_);exact fin e (x.od n) T w6 ho (r a m6) (((M3.to).trans m).on m6 λb hb=>.inr (by grind))
 refine JM I k.next (λY=>?_) λhle U h4 t=>?_
 ·refine qS0 ?_;refine qS0 ?_;rw[bZ Y]at d;exact f 0 6 S w3 d I lX
 ·refine qS0 ?_;refine qS0 ?_;rw[aZ qZ]at d;exact f S.next 0 _ U d h4 t
end
def NE(h:S.Ok){c:Cm}(i:c.Fit)(a:c.acct≠0)(f:(S.order c).1=0)(d:(gD (S.bk c.ct) (c.od S.next) c.ty).1=0):({S with bk:=upd S.bk c.ct (gD (S.bk c.ct) (c.od S.next) c.ty).2.1,next:=S.next+1}:Ven).Ok:=by
 obtain⟨hp,j,k⟩:=order_ok a f;obtain⟨e,-⟩:=place_0 d;have b:=h.next
 have g:=come_addBk h.ord (n:=c.ct) (o:=c.od S.next) (rests:=decide (c.ty=1\/c.ty=4)) (nx:=S.next+1) hp.alive (od_may a qZ hp.price hp.qty) (od_fit i ⟨qZ,by unfold maxNum at j;omega⟩)
  (by show S.next<_;omega) hp.stands (fresh_next h.ord) qZ
 rw[e];exact⟨h.cal,h.led,g,⟨by grind,by grind⟩,h.fnd⟩
def yO{l:List Ct}{n:Int}(h:ex l n=0):(eR l n).isSome=true:=by
 obtain⟨k,a,-⟩:=alive_get h;rw[a];rfl
def NW{B:Bk}{o:Od}{k:Int}(e:∀d,(B d).length<=100):(gD B o k).2.2.trades.length<=100:=by
 have a:∀L left,(iV o left L).2.2.1.length<=L.length:=by
  intro L;induction L with
  |nil=>intro left;simp[iV]
  |cons b r f=>
   intro left;unfold iV;split
   ·simp
   ·split
    ·grind
    ·split
     ·simp
     ·grind
 unfold gD;split
 ·simp
 ·split
  ·simp
  ·split
   ·simp
   ·split
    ·simp
    ·split
     ·simp
     ·have h:=a (B !o.buy) o.left;have g:=e !o.buy;unfold ko;simp only;split<;>(simp only;omega)
def MO{x:Cm}(h:lw w v F S)(Q:S.Ok)(hx:x.Fit)(ha:x.acct≠0)(hK:AK w v F (S.place x) K):Ca pQ 92 #[eY v,vI x] w K:=by
 obtain⟨c,l,mb,md,A,D,fp,hr,hF⟩:=h;apply az2;obtain⟨w1,e1,b1,m1⟩:=uT x w;apply cI e1;obtain⟨p,hp0⟩:=dW w.heap.size;rw[<-hp0]at b1|-;obtain⟨w2,e2,b2,m2⟩:=qy w1;apply cI e2;obtain⟨q,hq0⟩:=dW w1.heap.size;rw[<-hq0]at b2|-;have hpq:p<q:=by have:=cB b1;omega
 have M2:=m1.trans m2;have c2:=m2.hpk b1 id;have hFl:∀y,F y->y<p:=λy f=>by obtain⟨pt,hp⟩:=(hF y).1 f;have:=hr.lt hp;omega
 have j:∀pt y,fp pt y->F y:=λpt y f=>(hF y).2 ⟨_,f⟩;apply iW (vm c2);refine EI (hr.md0 M2) Q hx λw3 h3 m3=>?_;obtain⟨O,hO⟩:=dW (S.order x);have M3:=(M2.to).on m3 λy f=>.inl (j _ y f);have c3:=m3.hpk c2 λU=>by grind
 have b3:=m3.hpk b2 λU=>by grind
 rw[<-hO]at h3|-;refine qS0 ?_;refine qS0 ?_;obtain⟨w4,e4,b4,m4⟩:=kD w3;apply cI e4;obtain⟨q2,hq2⟩:∃q,q=w3.heap.size:=⟨_,rfl⟩
 rw[<-hq2]at b4|-;obtain⟨M,e5,b5,m5⟩:=jK (o' :=O.2.1) b4;apply ir e5;have hq2q:q<q2:=by have:=cB b3;omega
 have P:=m4.on m5 λb hb=>gz;have M5:=M3.trans (P.to (G:=F));have h5:=h3.md0 P;have c5:=P.hpk c3 id;have r5:=P.hpk b3 id
 have i:S.place x=if O.1≠0 then(O.1,zRp,O.2.2)else
   (if(gD (O.2.2.bk x.ct) O.2.1 x.ty).1≠0 then((gD (O.2.2.bk x.ct) O.2.1 x.ty).1,zRp,{O.2.2 with bk:=upd O.2.2.bk x.ct (gD (O.2.2.bk x.ct) O.2.1 x.ty).2.1})
    else({O.2.2 with bk:=upd O.2.2.bk x.ct (gD (O.2.2.bk x.ct) O.2.1 x.ty).2.1}:Ven).traded x.ct O.2.1 (gD (O.2.2.bk x.ct) O.2.1 x.ty).2.2):=by
  unfold Ven.place;rw[<-hO]
 have bad:∀e T fp' A' W,S.place x=(e,zRp,T)->ik W v c l mb md A' D fp' T->hC W q (mC zRp dv dv dv).toArray lx->de F w W->(∀pt y,fp' pt y->(F y\/w.heap.size<=y)/\y≠q)->
   rv pQ (iL lx (pt q 0)) W λv17 w18=>ru pQ (iS lx (pt q 0) v17) w18 λw19=>uc pQ (iL lx (pt q 0)) w19 λv20=>K (.tuple #[v20,gI e]) w19:=λe T fp' A' W he a b m hn=>by
  apply cI (lB b);obtain⟨w9,e9,b9,s⟩:=pl (r:=zRp) b rfl ⟨gJ,gJ,gJ⟩;refine ir e9 (dp (lB b9) ?_);refine hK.nil he (a.mod s λpt y f e=>(hn pt y f).2 e).q (m.on s λy f=>.inr (by grind)) λy ⟨pt,f⟩=>(hn pt y f).1
 have hq0F:∀pt y,fp pt y->(F y\/w.heap.size<=y)/\y≠q:=λpt y f=>⟨.inl (j _ _ f),by grind⟩
 by_cases he:O.1≠0
 ·rw[bZ he]at i;refine qSt1 he ?_;exact bad O.1 O.2.2 fp A M i h5 r5 M5 hq0F
 rw[aZ he]at i;have he0:O.1=0:=by simpa using he
 refine qSf1 he0 ?_;have Z:(S.order x).1=0:=by grind
 obtain⟨I,hnx,hord⟩:=order_ok ha Z;rw[hord]at hO;obtain⟨o,hoo⟩:=dW (x.od S.next);obtain⟨S1,L⟩:=dW ({S with next:=S.next+1});rw[<-hoo,<-L]at hO;rw[hO]at i h5 b5;simp only at i h5 b5;have hof:o.Fit:=by rw[hoo];exact od_fit hx ⟨by have:=Q.next;omega,by unfold maxNum at hnx;omega⟩
 obtain⟨X,hX⟩:=dW (gD (S1.bk x.ct) o x.ty);have k:S1.bk=S.bk:=by rw[L]
 have hXl:X.2.2.trades.length<=100:=by rw[hX];exact NW λd=>by rw[k];exact(Q.ord.side _ d).1
 rw[<-hX]at i;have hcal:S1.cal=S.cal:=by rw[L]
 refine dK.at (λst W=>∃r E H G,st=(.pointer (some ⟨r,0,none⟩),gI X.1,())/\hC W r (uy E H X.2.2.filled X.2.2.left) 230/\ik W v c l mb md A D (mj fp (.bk x.ct) G) {S1 with bk:=upd S1.bk x.ct X.2.1}/\Ji W E H X.2.2.trades X.2.2.gone/\
   de F w W/\(∀y,G y->(F y\/M.heap.size<=y))/\(∀y,cK E y\/cK H y->M.heap.size<=y/\¬G y)/\iy W p x/\hC W q (mC zRp dv dv dv).toArray lx/\hC W q2 (fL o).toArray pz/\M.heap.size<=r) ?_ ?_
 ·have C:M0 M M.drew:=mP;have hszd:M.drew.heap.size=M.heap.size:=rfl;have h6:=h5.md0 C;have c6:=C.hpk c5 id;have r6:=C.hpk r5 id;have o6:=C.hpk b5 id;have M6:=M5.trans (C.to (G:=F));rw[<-hszd]
  try dsimp only
  generalize M.drew=w6 at C h6 c6 r6 o6 M6|-;simp only[eY,dr];obtain⟨b,hb,hB⟩:=Wm h6 (n:=x.ct) (by rw[hcal];exact yO I.alive);have t:∀y,fp (.bk x.ct) y->F y:=λy f=>j _ y f;refine dw (jk 2 qZ) (dp (IL _ h6.blk) ?_);refine dw tZ (dp (sD c6) ?_);apply li (xz h6.mbk hb);apply dp (lM (o:=o) (At.all o6));refine dw ay4 (dp (ac8 c6) ?_);have hty:=hx.2.2.2.2.2.2.1;have hpl6:=cB c6;have hql6:=cB r6;have hq2l6:=cB o6;refine⟨?_,?_⟩
  ·refine EP hB hof hty λG E H w7 q7 p7 z n7 s7=>?_;rw[<-hX]at q7 p7|-;refine qP0 ?_;refine qP0 ?_;obtain⟨w8,e8,b8,N⟩:=Cl w7;apply cI e8;obtain⟨r,hr0⟩:=dW w7.heap.size;rw[<-hr0]at b8|-;obtain⟨ta,tc,hsT,-⟩:=p7.tr.isSl;obtain⟨ga,gc,hsG,-⟩:=p7.go.isSl;obtain⟨w9,e9,b9,s⟩:=Cr E H X.2.2.filled X.2.2.left b8 ⟨_,_,_,hsT⟩ ⟨_,_,_,hsG⟩;apply ir e9;have B:=N.on s λb hb=>gz;have h7:=h6.setBk hb z q7 n7;have hs7:=z.size;refine⟨r,E,H,G,rfl,b9,h7.md0 B,p7.mod B eQ eQ,(M6.on z λy f=>.inl (t y f)).trans (B.to),λy f=>(n7 y f).imp (t y) id,s7,?_,?_,?_,qZ⟩
   ·exact B.hpk (z.hpk c6 λU=>by grind) id
   ·exact B.hpk (z.hpk r6 λU=>by grind) id
   ·exact B.hpk (z.hpk o6 λU=>by grind) id
  ·obtain⟨w7,e7,b7,z⟩:=Cl w6;apply cI e7;obtain⟨r,hr0⟩:=dW w6.heap.size;rw[<-hr0]at b7|-;have h7:=h6.md0 z;have c7:=z.hpk c6 id;have o7:=z.hpk o6 id;have r7:=z.hpk r6 id;refine⟨ac8 c7,lM (o:=o) (At.all o7),xz h7.mbk hb,sD c7,IL _ h7.blk,?_⟩;have hs67:=z.size;refine EP (h7.bk x.ct b hb) hof hty λG E H w8 q8 V N n8 s8=>?_;rw[<-hX]at q8 V|-;refine qP0 ?_;refine qP0 ?_;obtain⟨ta,tc,hsT,-⟩:=V.tr.isSl;obtain⟨ga,gc,hsG,-⟩:=V.go.isSl;have hrF:¬fp (.bk x.ct) r:=λU=>by grind
   obtain⟨w9,e9,b9,s⟩:=Cr E H X.2.2.filled X.2.2.left (N.hpk b7 hrF) ⟨_,_,_,hsT⟩ ⟨_,_,_,hsG⟩;apply ir e9;have h8:=h7.setBk hb N q8 n8;have hrl:=cB b7;have hsr:∀y,cK E y\/cK H y->y≠r:=λy f=>by grind
   have hGr:∀pt y,mj fp (.bk x.ct) G pt y->y≠r:=λpt y f=>by
    by_cases g:pt=.bk x.ct
    ·subst g;rw[ip]at f;rcases n8 y f with h' |h'
     ·grind
     ·omega
    ·rw[eH g]at f;have:=hFl y (j _ _ f);omega
   refine⟨r,E,H,G,rfl,b9,h8.mod s λpt y f e=>hGr pt y f e,V.mod s (λy f e=>hsr y (.inl f) e) λy f e=>hsr y (.inr f) e,((M6.trans (z.to (G:=F))).on N λy f=>.inl (t y f)).on s λy f=>.inr (by grind),λy f=>(n8 y f).imp (t y) (λh' =>qZ),λy f=>⟨by grind,(s8 y f).2⟩,?_,?_,?_,qZ⟩
   ·exact s.hpk (N.hpk c7 λU=>by grind) qZ
   ·exact s.hpk (N.hpk r7 λU=>by grind) qZ
   ·exact s.hpk (N.hpk o7 λU=>by grind) qZ
 rintro _ W ⟨r,E,H,G,rfl,i1,i2,i3,i4,i5,i6,i7,i8,i9,i10⟩;unfold WD;intro _;have hM5s:=M5.size;have hq5:=cB b5
 have hup:∀pt y,mj fp (.bk x.ct) G pt y->(F y\/M.heap.size<=y):=λpt y f=>by
  by_cases g:pt=.bk x.ct
  ·subst g;rw[ip]at f;exact i5 y f
  ·rw[eH g]at f;exact .inl (j _ _ f)
 have u:∀pt y,mj fp (.bk x.ct) G pt y->(F y\/w.heap.size<=y)/\y≠q:=λpt y f=>by
  rcases hup pt y f with h' |h'
  ·grind
  ·grind
 by_cases R:X.1≠0
 ·rw[bZ R]at i;refine qSt1 R ?_;exact bad X.1 _ _ A W i i2 i8 i4 u
 rw[aZ R]at i;have hX0:X.1=0:=by simpa using R
 refine qSf1 hX0 ?_;refine cI (tZ _) (cI (sD i7) ?_);apply cI (lM (o:=o) (At.all i9));apply cI (QG i1);obtain⟨S2,hS2⟩:=dW ({S1 with bk:=upd S1.bk x.ct X.2.1});rw[<-hS2]at i2 i
 have hok2:S2.Ok:=by
  have:=NE Q hx ha Z (by grind);rw[hS2,L];rw[<-hoo,<-k,<-hX,k]at this;exact this
 have hal2:ex S2.cal.l x.ct=0:=by rw[hS2,L];exact I.alive
 have J:∀y,cK E y\/cK H y->¬dY (mj fp (.bk x.ct) G) y:=λy f ⟨pt,g⟩=>by
  have h6' :=i6 y f;by_cases hp:pt=.bk x.ct
  ·subst hp;rw[ip]at g;exact h6'.2 g
  ·rw[eH hp]at g;have:=hFl y (j _ _ g);omega
 refine Df (F:=dY (mj fp (.bk x.ct) G)) i2.q hok2 hal2 i3 J qZ λsT' sG' w8 v8 V N n8=>?_;obtain⟨Y,hY⟩:=dW (S2.traded x.ct o X.2.2);rw[<-hY]at v8 V i|-;have hqn:¬dY (mj fp (.bk x.ct) G) q:=λ⟨pt,g⟩=>(u pt q g).2 rfl;have k8:=N.hpk i8 hqn;refine qS0 ?_;refine qS0 ?_;obtain⟨s1,s2,s3⟩:=V.isSl;obtain⟨w9,e9,b9,s⟩:=pl (r:=Y.2.1) k8 rfl ⟨s1,s2,s3⟩;refine ir e9 (dp (lB b9) ?_);have hnew:∀y,cK sT' y\/cK sG' y->M.heap.size<=y/\¬dY (mj fp (.bk x.ct) G) y:=λy f=>⟨(i6 y (n8 y f)).1,J y (n8 y f)⟩
 refine hK.tell (F' :=dY (mj fp (.bk x.ct) G)) (T:=Y.2.2) (r:=Y.2.1) (e:=Y.1) i (v8.mod s λy f e=>hqn (e▸f)) (V.mod s λy f e=>?_) ((i4.on N λy ⟨pt,f⟩=>(u pt y f).1).on s λy f=>.inr (by grind)) (λy ⟨pt,f⟩=>(u pt y f).1) λy f=>?_
 ·rcases f with f|f|f
  ·grind
  ·grind
  ·cases f
 ·rcases f with f|f|f
  ·grind
  ·grind
  ·cases f
end Go.Proofs
