/- Part of a proof. -/
import Derived.Test.YtgebhcgmckjbbaaGreatB10
set_option linter.all false
set_option maxRecDepth 100000
namespace Go.Proofs
open Go Go.Vc
def Ep(a b c:Value)(d:cm)(e:Value)(f:T1)(g:World):=NV->cz f.1 (dZ 41 a 1 35 g.drew λh=>dD 41 a 4 λi=>de 2 i g.drew λj=>dD 41 b 1 λk=>gs 35 k h g.drew λl=>gk 2 i j l/\(dD 41 b 4 λm=>gs 2 m j l λn=>gx (dh 41 b) n λo p=>gh Tryz.prog (ew 41 c o) p λq=>iD Tryz.prog (dh 41 c) q λr=>d r q)) (gb .eql 34 true e (.int .u8 3) g λs t=>cz s (gf 41 a 5 t λu v=>gx (dh 38 u) v λw x=>gf 41 b 5 x λy z=>gh Tryz.prog (ew 38 y w) z λA=>gx (dh 41 b) A λB C=>gh Tryz.prog (ew 41 c B) C λD=>iD Tryz.prog (dh 41 c) D λE=>d E D) (gb .eql 34 true e (.int .u8 4) t λF G=>cz F (dZ 41 a 2 35 G.drew λH=>dD 41 a 6 λI=>de 4 I G.drew λJ=>dD 41 b 2 λK=>gs 35 K H G.drew λL=>gk 4 I J L/\(dD 41 b 6 λM=>gs 4 M J L λN=>gx (dh 41 b) N λO P=>gh Tryz.prog (ew 41 c O) P λQ=>iD Tryz.prog (dh 41 c) Q λR=>d R Q)) (gb .eql 34 true e (.int .u8 5) G λS T=>cz S (gx (dh 41 a) T λU V=>gh Tryz.prog (ew 41 b U) V λW=>gx (sF 38 #[]) W λX Y=>kK 41 b 3 27 (.int .u64 0) Y λZ=>kK 41 b 4 2 (gI 0) Z λaa=>gf 41 b 5 aa λab ac=>gh Tryz.prog (ew 38 ab X) ac λad=>kK 41 b 6 4 (.bool false) ad λae=>gx (dh 41 b) ae λaf ag=>gh Tryz.prog (ew 41 c af) ag λah=>iD Tryz.prog (dh 41 c) ah λai=>d ai ah) (gb .eql 34 true e (.int .u8 6) T λaj ak=>cz aj (dZ 41 a 1 35 ak.drew λal=>dD 41 a 3 λam=>de 27 am ak.drew λan=>dD 41 b 1 λao=>gs 35 ao al ak.drew λap=>gk 27 am an ap/\(dD 41 b 3 λaq=>gs 27 aq an ap λar=>gx (dh 41 b) ar λau av=>gh Tryz.prog (ew 41 c au) av λaw=>iD Tryz.prog (dh 41 c) aw λax=>d ax aw)) (gb .eql 34 true e (.int .u8 7) ak λay az=>cz ay (dZ 41 a 1 35 az.drew λaA=>dD 41 a 3 λaB=>de 27 aB az.drew λaC=>dD 41 a 9 λaD=>de 2 aD az.drew λaE=>dD 41 a 10 λaF=>de 2 aF az.drew λaG=>dD 41 b 1 λaH=>gs 35 aH aA az.drew λaI=>gk 2 aF aG aI/\gk 2 aD aE aI/\gk 27 aB aC aI/\(dD 41 b 3 λaJ=>gs 27 aJ aC aI λaK=>gk 2 aF aG aK/\gk 2 aD aE aK/\(dD 41 b 9 λaL=>gs 2 aL aE aK λaM=>gk 2 aF aG aM/\(dD 41 b 10 λaN=>gs 2 aN aG aM λaO=>gx (dh 41 b) aO λaP aQ=>gh Tryz.prog (ew 41 c aP) aQ λaR=>iD Tryz.prog (dh 41 c) aR λaS=>d aS aR)))) (gb .eql 34 true e (.int .u8 8) az λaT aU=>cz aT (dZ 41 a 1 35 aU.drew λaV=>dD 41 a 2 λaW=>de 35 aW aU.drew λaX=>dD 41 b 1 λaY=>gs 35 aY aV aU.drew λaZ=>gk 35 aW aX aZ/\(dD 41 b 2 λa0=>gs 35 a0 aX aZ λa1=>gx (dh 41 b) a1 λa2 a3=>gh Tryz.prog (ew 41 c a2) a3 λa4=>iD Tryz.prog (dh 41 c) a4 λa5=>d a5 a4)) (gb .eql 34 true e (.int .u8 9) aU λa6 a7=>cz a6 (dZ 41 a 1 35 a7.drew λa8=>dD 41 a 2 λa9=>de 35 a9 a7.drew λba=>dD 41 a 7 λbb=>de 4 bb a7.drew λbc=>dD 41 a 9 λbd=>de 2 bd a7.drew λbe=>dD 41 a 10 λbf=>de 2 bf a7.drew λbg=>dD 41 b 1 λbh=>gs 35 bh a8 a7.drew λbi=>gk 2 bf bg bi/\gk 2 bd be bi/\gk 4 bb bc bi/\gk 35 a9 ba bi/\(dD 41 b 2 λbj=>gs 35 bj ba bi λbk=>gk 2 bf bg bk/\gk 2 bd be bk/\gk 4 bb bc bk/\(dD 41 b 7 λbl=>gs 4 bl bc bk λbm=>gk 2 bf bg bm/\gk 2 bd be bm/\(dD 41 b 9 λbn=>gs 2 bn be bm λbo=>gk 2 bf bg bo/\(dD 41 b 10 λbp=>gs 2 bp bg bo λbq=>gx (dh 41 b) bq λbr bs=>gh Tryz.prog (ew 41 c br) bs λbt=>iD Tryz.prog (dh 41 c) bt λbu=>d bu bt))))) (gb .eql 34 true e (.int .u8 10) a7 λbv bw=>cz bv (dZ 41 a 1 35 bw.drew λbx=>dD 41 a 6 λbz=>de 4 bz bw.drew λbA=>dD 41 b 1 λbB=>gs 35 bB bx bw.drew λbC=>gk 4 bz bA bC/\(dD 41 b 6 λbD=>gs 4 bD bA bC λbE=>gx (dh 41 b) bE λbF bG=>gh Tryz.prog (ew 41 c bF) bG λbH=>iD Tryz.prog (dh 41 c) bH λbI=>d bI bH)) (gb .eql 34 true e (.int .u8 11) bw λbJ bK=>cz bJ (dZ 41 a 2 35 bK.drew λbL=>dD 41 a 9 λbM=>de 2 bM bK.drew λbN=>dD 41 b 2 λbO=>gs 35 bO bL bK.drew λbP=>gk 2 bM bN bP/\(dD 41 b 9 λbQ=>gs 2 bQ bN bP λbR=>gx (dh 41 b) bR λbS bT=>gh Tryz.prog (ew 41 c bS) bT λbU=>iD Tryz.prog (dh 41 c) bU λbV=>d bV bU)) (gb .eql 34 true e (.int .u8 13) bK λbW bX=>cz bW (cG 41 a 1 35 bX λbY bZ=>kK 41 b 1 35 bY bZ λb0=>gx (dh 41 b) b0 λb1 b2=>gh Tryz.prog (ew 41 c b1) b2 λb3=>iD Tryz.prog (dh 41 c) b3 λb4=>d b4 b3) (gb .eql 34 true e (.int .u8 14) bX λb5 b6=>cz b5 (cG 41 a 2 35 b6 λb7 b8=>kK 41 b 2 35 b7 b8 λb9=>gx (dh 41 b) b9 λca cb=>gh Tryz.prog (ew 41 c ca) cb λcc=>iD Tryz.prog (dh 41 c) cc λcd=>d cd cc) (gx (dh 41 b) b6 λce cf=>gh Tryz.prog (ew 41 c ce) cf λcg=>iD Tryz.prog (dh 41 c) cg λch=>d ch cg))))))))))))
def Pr{a:Value}{b:World}{c:cm}(v:gq 41 a b λd e=>gx (iz 41) e λf g=>cG 41 d 0 34 g λh i=>gx (sF 41 #[(0,h)]) i λj k=>gx (iz 41) k λl m=>gh Tryz.prog (ew 41 l j) m λn=>cG 41 d 0 34 n λo p=>cB (S:=T1) (λq=>gb .eql 34 true o (.int .u8 1) p λr s=>cz r (q (r,()) s) (gb .eql 34 true o (.int .u8 2) s λt u=>q (t,()) u)) (Ep d l f c o)):Ca Tryz.prog 106 #[a] b c:=cj Tryz.func106 v
def RQ{a:Value}{b:World}{c:cm}(s:gq 41 a b λd e=>dZ 41 d 0 34 e.drew λf=>ia .geq 34 true f (.int .u8 1) λg=>cz g (dZ 41 d 0 34 e.drew λh=>ia .leq 34 true h (.int .u8 14) λi=>cz i (iD Tryz.prog (dh 41 d) e.drew λj=>iD Tryz.prog (dh 41 d) e.drew λk=>Ca Tryz.prog 106 #[k] e.drew λl m=>Sem.run Tryz.prog (dh 41 d) m=.ok j m/\(ia .eql 41 false j l λn=>cz n (dZ 41 d 0 34 m λo=>ia .neq 34 true o (.int .u8 3) λp=>cz p (c (.bool true) m) (dD 41 d 5 λq=>iD Tryz.prog (dh 38 q) m λr=>Ca Tryz.prog 107 #[r] m c)) (c (.bool false) m))) (c (.bool false) e.drew)) (c (.bool false) e.drew)):Ca Tryz.prog 42 #[a] b c:=cj Tryz.func42 s
def Rh{a:World}{b:cm}(m:Ca Tryz.prog 35 #[] a λc d=>Ca Tryz.prog 36 #[] d λe f=>gr (Instr.makeMap 63 none) f λg h=>gr (Instr.makeMap 64 none) h λi j=>gr (Instr.build 66 #[(0,c),(1,e),(2,g),(3,i),(4,(.int .u64 1))]) j λk l=>gq 66 k l b):Ca Tryz.prog 10 #[] a b:=cj Tryz.func10 m
def RM{a:Value}{b:World}{c:cm}(i:gb .neq 23 true a (.pointer none) b λd e=>cz d (cD a λf=>cG 66 f 1 62 e λg h=>gb .neq 62 true g (.pointer none) h c) (c (.bool false) e)):Ca Tryz.prog 40 #[a] b c:=cj Tryz.func40 i
def Jz(a:Value)(b:T1)(c:cm)(d:Unit)(e:World)(f:Unit->Wp):=NV->gx (ol a false 0) e λg h=>ge g 0 h λi j=>cz i (gx (lz a) j λk l=>kS k l λm n o=>cD b.1 λp=>dD 66 p 3 λq=>de 64 q o.drew λr=>Ca Tryz.prog 111 #[n] o.drew λs t=>gk 64 q r t/\(gh Tryz.prog (gY 64 r m s) t λu=>f (()) u)) (c b.1 j)
def J7(a:Value)(b:T1)(c:Value)(d:cm)(e:Unit)(f:World)(g:Unit->Wp):=NV->gx (ol a false 0) f λh i=>ge h 0 i λj k=>cz j (gx (lz a) k λl m=>kS l m λn o p=>cD b.1 λq=>dD 66 q 2 λr=>de 63 r p.drew λs=>Ca Tryz.prog 110 #[o] p.drew λt u=>gk 63 r s u/\(gh Tryz.prog (gY 63 s n t) u λv=>g (()) v)) (cD c λw=>cG 66 w 3 64 k λx y=>gx (ly 64 x) y λz A=>cS (S:=Unit) (Jz z b d) (()) A)
def JQ(a:Value)(b:cm)(c:T1)(d:World):=NV->cD a λe=>cG 66 e 2 63 d λf g=>gx (ly 63 f) g λh i=>cS (S:=Unit) (J7 h c a b) (()) i
def Qk{a:Value}{b:World}{c:cm}(h0:Ca Tryz.prog 40 #[a] b λd e=>gt d e λf g=>cz f (c (.pointer none) g) (cB (S:=T1) (λh=>cD a λi=>dD 66 i 0 λj=>de 61 j g.drew λk=>cD a λl=>dD 66 l 1 λm=>de 62 m g.drew λn=>cD a λo=>dD 66 o 4 λp=>de 27 p g.drew λq=>(Ca Tryz.prog 108 #[k] g.drew λr s=>gk 27 p q s/\gk 62 m n s/\((Ca Tryz.prog 109 #[n] s λt u=>gk 27 p q u/\((gr (Instr.makeMap 63 none) u λv w=>gk 27 p q w/\(gr (Instr.makeMap 64 none) w λx y=>gk 27 p q y/\(gp (Instr.build 66 #[(0,r),(1,t),(2,v),(3,x),(4,q)]) λz=>gq 66 z y λA B=>h (A,()) B)))/\(gr (Instr.makeMap 64 none) u λC D=>gk 27 p q D/\(gr (Instr.makeMap 63 none) D λE F=>gk 27 p q F/\(gp (Instr.build 66 #[(0,r),(1,t),(2,E),(3,C),(4,q)]) λG=>gq 66 G F λH I=>h (H,()) I)))))/\(gr (Instr.makeMap 63 none) s λJ K=>gk 27 p q K/\gk 62 m n K/\((Ca Tryz.prog 109 #[n] K λL M=>gk 27 p q M/\(gr (Instr.makeMap 64 none) M λN O=>gk 27 p q O/\(gp (Instr.build 66 #[(0,r),(1,L),(2,J),(3,N),(4,q)]) λP=>gq 66 P O λQ R=>h (Q,()) R)))/\(gr (Instr.makeMap 64 none) K λS T=>gk 27 p q T/\gk 62 m n T/\(Ca Tryz.prog 109 #[n] T λU V=>gk 27 p q V/\(gp (Instr.build 66 #[(0,r),(1,U),(2,J),(3,S),(4,q)]) λW=>gq 66 W V λX Y=>h (X,()) Y)))))/\(gr (Instr.makeMap 64 none) s λZ aa=>gk 27 p q aa/\gk 62 m n aa/\((Ca Tryz.prog 109 #[n] aa λab ac=>gk 27 p q ac/\(gr (Instr.makeMap 63 none) ac λad ae=>gk 27 p q ae/\(gp (Instr.build 66 #[(0,r),(1,ab),(2,ad),(3,Z),(4,q)]) λaf=>gq 66 af ae λag ah=>h (ag,()) ah)))/\(gr (Instr.makeMap 63 none) aa λai aj=>gk 27 p q aj/\gk 62 m n aj/\(Ca Tryz.prog 109 #[n] aj λak al=>gk 27 p q al/\(gp (Instr.build 66 #[(0,r),(1,ak),(2,ai),(3,Z),(4,q)]) λam=>gq 66 am al λan ao=>h (an,()) ao)))))))/\(gr (Instr.makeMap 63 none) g.drew λap aq=>gk 27 p q aq/\gk 62 m n aq/\gk 61 j k aq/\((Ca Tryz.prog 108 #[k] aq λar au=>gk 27 p q au/\gk 62 m n au/\((Ca Tryz.prog 109 #[n] au λav aw=>gk 27 p q aw/\(gr (Instr.makeMap 64 none) aw λax ay=>gk 27 p q ay/\(gp (Instr.build 66 #[(0,ar),(1,av),(2,ap),(3,ax),(4,q)]) λaz=>gq 66 az ay λaA aB=>h (aA,()) aB)))/\(gr (Instr.makeMap 64 none) au λaC aD=>gk 27 p q aD/\gk 62 m n aD/\(Ca Tryz.prog 109 #[n] aD λaE aF=>gk 27 p q aF/\(gp (Instr.build 66 #[(0,ar),(1,aE),(2,ap),(3,aC),(4,q)]) λaG=>gq 66 aG aF λaH aI=>h (aH,()) aI)))))/\(gr (Instr.makeMap 64 none) aq λaJ aK=>gk 27 p q aK/\gk 62 m n aK/\gk 61 j k aK/\(Ca Tryz.prog 108 #[k] aK λaL aM=>gk 27 p q aM/\gk 62 m n aM/\(Ca Tryz.prog 109 #[n] aM λaN aO=>gk 27 p q aO/\(gp (Instr.build 66 #[(0,aL),(1,aN),(2,ap),(3,aJ),(4,q)]) λaP=>gq 66 aP aO λaQ aR=>h (aQ,()) aR))))))/\(gr (Instr.makeMap 64 none) g.drew λaS aT=>gk 27 p q aT/\gk 62 m n aT/\gk 61 j k aT/\((Ca Tryz.prog 108 #[k] aT λaU aV=>gk 27 p q aV/\gk 62 m n aV/\((Ca Tryz.prog 109 #[n] aV λaW aX=>gk 27 p q aX/\(gr (Instr.makeMap 63 none) aX λaY aZ=>gk 27 p q aZ/\(gp (Instr.build 66 #[(0,aU),(1,aW),(2,aY),(3,aS),(4,q)]) λa0=>gq 66 a0 aZ λa1 a2=>h (a1,()) a2)))/\(gr (Instr.makeMap 63 none) aV λa3 a4=>gk 27 p q a4/\gk 62 m n a4/\(Ca Tryz.prog 109 #[n] a4 λa5 a6=>gk 27 p q a6/\(gp (Instr.build 66 #[(0,aU),(1,a5),(2,a3),(3,aS),(4,q)]) λa7=>gq 66 a7 a6 λa8 a9=>h (a8,()) a9)))))/\(gr (Instr.makeMap 63 none) aT λba bb=>gk 27 p q bb/\gk 62 m n bb/\gk 61 j k bb/\(Ca Tryz.prog 108 #[k] bb λbc bd=>gk 27 p q bd/\gk 62 m n bd/\(Ca Tryz.prog 109 #[n] bd λbe bf=>gk 27 p q bf/\(gp (Instr.build 66 #[(0,bc),(1,be),(2,ba),(3,aS),(4,q)]) λbg=>gq 66 bg bf λbh bi=>h (bh,()) bi))))))) (JQ a c))):Ca Tryz.prog 43 #[a] b c:=cj Tryz.func43 h0
def RE{a:Value}{b:World}{c:cm}(j:ga 32 b λd e=>gr (Instr.build 32 #[(0,a)]) e λf g=>gs 32 d f g λh=>de 32 d h λi=>c i h):Ca Tryz.prog 41 #[a] b c:=cj Tryz.func41 j
def RT{a b:Value}{c:World}{d:cm}(h0:gq 41 b c λe f=>ga 32 f λg h=>Ca Tryz.prog 40 #[a] h λi j=>gt i j λk l=>cz k (Ca Tryz.prog 41 #[(gI 1)] l λm n=>gs 32 g m n λo=>de 32 g o λp=>d p o) (gx (dh 41 e) l λq r=>Ca Tryz.prog 42 #[q] r λs t=>gt s t λu v=>cz u (Ca Tryz.prog 41 #[(gI 160)] v λw x=>gs 32 g w x λy=>de 32 g y λz=>d z y) (Ca Tryz.prog 43 #[a] v λA B=>gx (dh 41 e) B λC D=>Ca Tryz.prog 44 #[A,C] D λE F=>kS E F λG H I=>gv 32 G I λJ K=>gb .neq 26 true H (gI 0) K λL M=>cz L (Ca Tryz.prog 41 #[H] M λN O=>gs 32 g N O λP=>de 32 g P λQ=>d Q P) (cD A λR=>gl 66 R M λS T=>cD a λU=>gs 66 U S T λV=>gl 32 J V λW X=>gs 32 g W X λY=>de 32 g Y λZ=>d Z Y)))):Ca Tryz.prog 12 #[a,b] c d:=cj Tryz.func12 h0
def Oo(a:Value)(b:cm)(c:T1)(d:World):=NV->gl 32 a d λe f=>gs 32 a e f λg=>de 32 a g λh=>b (.tuple #[h,c.1]) g
def OZ(a:Value)(b:cm)(c:T1->Wp)(d:T2)(e:T1)(f:World):=NV->gb .neq 26 true e.1 (gI 0) f λg h=>cz g (gl 32 a h λi j=>gs 32 a i j λk=>de 32 a k λl=>b (.tuple #[l,e.1]) k) (c (d.2.1,()) h)
def Ow(a b c:Value)(d:T1->Wp)(e:T1)(f:World):=NV->cG 41 a 1 35 f λg h=>cG 41 a 2 35 h λi j=>Ca Tryz.prog 124 #[b,g,i] j λk l=>kK 32 c 5 29 k l λm=>d (e.1,()) m
def Mp(a b:Value)(c:T2)(d:cm)(e:Unit)(f:World):=NV->de 32 a f.drew λg=>cD b λh=>dZ 66 h 1 62 f.drew λi=>de 92 c.1 f.drew λj=>Ca Tryz.prog 125 #[i,j] f.drew λk l=>gk 32 a g l/\(gs 32 a g l λm=>de 32 a m λn=>d (.tuple #[n,k]) m)
def PL(a:Value)(b:cm)(c:T1)(d:World):=NV->gl 32 a d λe f=>gs 32 a e f λg=>de 32 a g λh=>b (.tuple #[h,(gI 0)]) g
def Mo(a:Value)(b:cm)(c d:Value)(e:T2)(f:World):=NV->gb .neq 26 true e.2.1 (gI 0) f λg h=>cz g (gl 32 a h λi j=>gs 32 a i j λk=>de 32 a k λl=>b (.tuple #[l,e.2.1]) k) (cB (S:=T1) (λm=>cG 41 c 0 34 h λn o=>gb .eql 34 true n (.int .u8 5) o λp q=>cz p (gx (dh 41 c) q λr s=>Ca Tryz.prog 121 #[d,r] s λt u=>kS t u λv w x=>gs 32 a v x λy=>de 32 a y λz=>b (.tuple #[z,w]) y) (gb .eql 34 true n (.int .u8 9) q λA B=>cz A (gx (dh 41 c) B λC D=>Ca Tryz.prog 122 #[d,C] D λE F=>kS E F λG H I=>gs 32 a G I λJ=>de 32 a J λK=>b (.tuple #[K,H]) J) (gb .eql 34 true n (.int .u8 8) B λL M=>cz L (cB (S:=T1) (λN=>cG 41 c 2 35 M λO P=>gb .neq 35 true O (.int .u32 0) P λQ R=>cz Q (cB (S:=T1) (λS=>cD d λT=>dD 66 T 0 λU=>de 61 U R.drew λV=>dD 41 c 2 λW=>de 35 W R.drew λX=>(Ca Tryz.prog 123 #[V,X] R.drew λY Z=>gp (Instr.extract Y 0) λaa=>gp (Instr.extract Y 1) λab=>gx (iz 108) Z λac ad=>gh Tryz.prog (ew 108 ac aa) ad λae=>S (ab,()) ae)/\(gx (iz 108) R.drew λaf ag=>gk 35 W X ag/\gk 61 U V ag/\(Ca Tryz.prog 123 #[V,X] ag λah ai=>gp (Instr.extract ah 0) λaj=>gp (Instr.extract ah 1) λak=>gh Tryz.prog (ew 108 af aj) ai λal=>S (ak,()) al))) (OZ a b N e)) (N (e.2.1,()) R)) (Ow c d a m)) (gb .eql 34 true n (.int .u8 10) M λam an=>cz am (cG 41 c 6 4 an λao ap=>kK 92 e.1 2 4 ao ap λaq=>cB (S:=Unit) (λar=>cG 41 c 6 4 aq λau av=>cz au (cG 41 c 1 35 av λaw ax=>Ca Tryz.prog 124 #[d,aw,(.int .u32 0)] ax λay az=>kK 32 a 5 29 ay az λaA=>ar (()) aA) (ar (()) av)) (Mp a d e b)) (gb .eql 34 true n (.int .u8 13) an λaB aC=>cz aB (gl 92 e.1 aC λaD aE=>Ca Tryz.prog 126 #[d,aD] aE λaF aG=>kS aF aG λaH aI aJ=>gs 32 a aH aJ λaK=>de 32 a aK λaL=>b (.tuple #[aL,aI]) aK) (m (e.2.1,()) aC)))))) (PL a b))
def Qh{a b:Value}{c:World}{d:cm}(h0:gq 41 b c λe f=>ga 32 f λg h=>cG 41 e 0 34 h λi j=>gb .eql 34 true i (.int .u8 1) j λk l=>cz k (de 32 g l.drew λm=>cD a λn=>dZ 66 n 1 62 l.drew λo=>dZ 41 e 1 35 l.drew λp=>dZ 41 e 4 2 l.drew λq=>Ca Tryz.prog 112 #[o,p,q] l.drew λr s=>gk 32 g m s/\(gs 32 g m s λt=>de 32 g t λu=>d (.tuple #[u,r]) t)) (gb .eql 34 true i (.int .u8 2) l λv w=>cz v (de 32 g w.drew λx=>iD Tryz.prog (dh 41 e) w.drew λy=>Ca Tryz.prog 113 #[a,y] w.drew λz A=>gk 32 g x A/\(gs 32 g x A λB=>de 32 g B λC=>d (.tuple #[C,z]) B)) (gb .eql 34 true i (.int .u8 3) w λD E=>cz D (cB (S:=T1) (λF=>cD a λG=>dZ 66 G 0 61 E.drew λH=>dD 41 e 5 λI=>iD Tryz.prog (dh 38 I) E.drew λJ=>Ca Tryz.prog 114 #[H,J] E.drew λK L=>gb .eql 26 true K (gI 0) L λM N=>cz M (cD a λO=>dD 66 O 2 λP=>de 63 P N.drew λQ=>dD 41 e 5 λR=>dD 38 R 0 λS=>de 35 S N.drew λT=>Ca Tryz.prog 48 #[] N.drew λU V=>gk 35 S T V/\gk 63 P Q V/\(gh Tryz.prog (gY 63 Q T U) V λW=>F (K,()) W)) (F (K,()) N)) (Oo g d)) (gb .eql 34 true i (.int .u8 4) E λX Y=>cz X (de 32 g Y.drew λZ=>cD a λaa=>dZ 66 aa 0 61 Y.drew λab=>dZ 41 e 2 35 Y.drew λac=>dZ 41 e 6 4 Y.drew λad=>Ca Tryz.prog 115 #[ab,ac,ad] Y.drew λae af=>gk 32 g Z af/\(gs 32 g Z af λag=>de 32 g ag λah=>d (.tuple #[ah,ae]) ag)) (gb .eql 34 true i (.int .u8 11) Y λai aj=>cz ai (de 32 g aj.drew λak=>cD a λal=>dZ 66 al 0 61 aj.drew λam=>dZ 41 e 2 35 aj.drew λan=>dZ 41 e 9 2 aj.drew λao=>Ca Tryz.prog 116 #[am,an,ao] aj.drew λap aq=>gk 32 g ak aq/\(gs 32 g ak aq λar=>de 32 g ar λau=>d (.tuple #[au,ap]) ar)) (gb .eql 34 true i (.int .u8 12) aj λav aw=>cz av (Ca Tryz.prog 117 #[a] aw λax ay=>kS ax ay λaz aA aB=>gs 32 g az aB λaC=>de 32 g aC λaD=>d (.tuple #[aD,aA]) aC) (gb .eql 34 true i (.int .u8 14) aw λaE aF=>cz aE (cG 41 e 2 35 aF λaG aH=>Ca Tryz.prog 118 #[a,aG] aH λaI aJ=>kS aI aJ λaK aL aM=>gs 32 g aK aM λaN=>de 32 g aN λaO=>d (.tuple #[aO,aL]) aN) (cG 41 e 1 35 aF λaP aQ=>gb .eql 35 true aP (.int .u32 0) aQ λaR aS=>cz aR (gl 32 g aS λaT aU=>gs 32 g aT aU λaV=>de 32 g aV λaW=>d (.tuple #[aW,(gI 2)]) aV) (cG 41 e 0 34 aS λaX aY=>gb .eql 34 true aX (.int .u8 6) aY λaZ a0=>cz aZ (gx (dh 41 e) a0 λa1 a2=>Ca Tryz.prog 119 #[a,a1] a2 λa3 a4=>kS a3 a4 λa5 a6 a7=>gs 32 g a5 a7 λa8=>de 32 g a8 λa9=>d (.tuple #[a9,a6]) a8) (gb .eql 34 true aX (.int .u8 7) a0 λba bb=>cz ba (gx (dh 41 e) bb λbc bd=>Ca Tryz.prog 120 #[a,bc] bd λbe bf=>kS be bf λbg bh bi=>gs 32 g bg bi λbj=>de 32 g bj λbk=>d (.tuple #[bk,bh]) bj) (cB (S:=T2) (λbl=>cD a λbm=>dD 66 bm 1 λbn=>de 62 bn bb.drew λbo=>dD 41 e 1 λbp=>de 35 bp bb.drew λbq=>(Ca Tryz.prog 52 #[bo,bq] bb.drew λbr bs=>gp (Instr.extract br 0) λbt=>gp (Instr.extract br 1) λbu=>gv 92 bt bs λbv bw=>bl (bv,bu,()) bw)/\(ga 92 bb.drew λbx bz=>gk 35 bp bq bz/\gk 62 bn bo bz/\(Ca Tryz.prog 52 #[bo,bq] bz λbA bB=>gp (Instr.extract bA 0) λbC=>gp (Instr.extract bA 1) λbD=>gs 92 bx bC bB λbE=>bl (bx,bD,()) bE))) (Mo g d e a)))))))))))):Ca Tryz.prog 44 #[a,b] c d:=cj Tryz.func44 h0
def Ds(a b:Value)(c:T1)(d:Value)(e:Wp)(f:T1)(g:World)(h:T1->Wp):=NV->gb .lss 3 false f.1 a g λi j=>cz i (lJ 133 b f.1 117 j λk l=>gv 117 k l λm n=>cG 49 c.1 7 47 n λo p=>gl 35 d p λq r=>gl 117 m r λs t=>gr (Instr.build 119 #[(0,q),(1,s)]) t λu v=>gx (dP 47 1 [(0,u)]) v λw x=>gx (cv #[47,47] 47 [o,w]) x λy z=>kK 49 c.1 7 47 y z λA=>gb .add 3 true f.1 (gI 1) A λB C=>h (B,()) C) (e j)
def Ei(a:T1)(b:Value)(c:Nat)(d:List Value)(e:World)(f:Wp)(g:Code->Wp):=gv 117 (d.getD 0 undef) e λh i=>iF c i λj=>cG 49 a.1 6 47 j λk l=>gl 35 b l λm n=>gl 117 h n λo p=>gr (Instr.build 119 #[(0,m),(1,o)]) p λq r=>gx (dP 47 1 [(0,q)]) r λs t=>gx (cv #[47,47] 47 [k,s]) t λu v=>kK 49 a.1 6 47 u v f
def DF(a b:Value)(c:T1)(d:Wp)(e:Code->Wp)(f:List Nat)(g:Option Code)(h:World):=fk (λi=>de 23 a i.drew λj=>cD j λk=>dZ 66 k 3 64 i.drew λl=>de 35 b i.drew λm=>iD Tryz.prog (fA 64 l m false) i.drew λn=>gw (Builtin.len_ #[133] 3 #[n]) i.drew λo=>cS (S:=T1) (Ds o n c b d) ((gI 0),()) i.drew) (λp=>e .ret p) (λq r=>bc (Nat.beq q 4) (de 23 a r.drew λs=>cD s λt=>dZ 66 t 3 64 r.drew λu=>de 35 b r.drew λv=>iD Tryz.prog (fA 64 u v false) r.drew λw=>gw (Builtin.len_ #[133] 3 #[w]) r.drew λx=>cS (S:=T1) (Ds x w c b d) ((gI 0),()) r.drew) (bc (Nat.beq q 1) (d r) (e (.exit q) r))) g h
def JM(a:T1)(b:Nat)(c:List Value)(d:World)(e:Wp)(f:Code->Wp):=gv 112 (c.getD 0 undef) d λg h=>iF b h λi=>cG 49 a.1 5 46 i λj k=>gl 112 g k λl m=>gx (dP 46 1 [(0,l)]) m λn o=>gx (cv #[46,46] 46 [j,n]) o λp q=>kK 49 a.1 5 46 p q e
def Kb(a b:Value)(c:Nat)(d:T1)(e:Wp)(f:Code->Wp)(g:List Nat)(h:Option Code)(i:World):=fk (λj=>de 23 a j.drew λk=>cD k λl=>dZ 66 l 2 63 j.drew λm=>de 35 b j.drew λn=>iD Tryz.prog (fA 63 m n false) j.drew λo=>Ca Tryz.prog 57 #[o] j.drew λp q=>xy Tryz.prog (some c) p q 1 (Ei d b) (DF a b d e f)) (λr=>f .ret r) (λs t=>bc (Nat.beq s 2) (de 23 a t.drew λu=>cD u λv=>dZ 66 v 2 63 t.drew λw=>de 35 b t.drew λx=>iD Tryz.prog (fA 63 w x false) t.drew λy=>Ca Tryz.prog 57 #[y] t.drew λz A=>xy Tryz.prog (some c) z A 1 (Ei d b) (DF a b d e f)) (bc (Nat.beq s 1) (e t) (f (.exit s) t))) h i
def DJ(a:T1)(b:Value)(c:Nat)(d:List Value)(e:World)(f:Wp)(g:Code->Wp):=gx (iz 108) e λh i=>gh Tryz.prog (ew 108 h (d.getD 0 undef)) i λj=>iF c j λk=>gf 108 h 0 k λl m=>cG 38 l 0 35 m λn o=>gv 35 n o λp q=>cG 49 a.1 4 45 q λr s=>gx (dh 108 h) s λt u=>gx (dP 45 1 [(0,t)]) u λv w=>gx (cv #[45,45] 45 [r,v]) w λx y=>kK 49 a.1 4 45 x y λz=>de 23 b z.drew λA=>cD A λB=>dZ 66 B 1 62 z.drew λC=>de 35 p z.drew λD=>Ca Tryz.prog 56 #[C,D] z.drew λE F=>xy Tryz.prog (some c) E F 1 (JM a) (Kb b p c a f g)
def D5(a:T1)(b:Value)(c:cm)(d:List Nat)(e:Option Code)(f:World):=fk (λg=>gl 49 a.1 g λh i=>gs 49 b h i λj=>jF (d++[]) j λk=>de 49 b k λl=>c l k) (λm=>jF (d++[]) m λn=>de 49 b n λo=>c o n) (λp q=>bc (Nat.beq p 0) (gl 49 a.1 q λr s=>gs 49 b r s λt=>jF (d++[]) t λu=>de 49 b u λv=>c v u) (False)) e f
def D4(a b:Value)(c:cm)(d:T1)(e:World):=NV->gl 23 a e λf g=>cD f λh=>cG 66 h 0 61 g λi j=>Ca Tryz.prog 47 #[i] j λk l=>xy Tryz.prog none k l 1 (DJ d a) (D5 d b c)
def QQ{a:Value}{b:World}{c:cm}(h0:gq 23 a b λd e=>ga 49 e λf g=>gl 23 d g λh i=>Ca Tryz.prog 40 #[h] i λj k=>gt j k λl m=>cz l (gr (Instr.build 49 #[]) m λn o=>gs 49 f n o λp=>de 49 f p λq=>c q p) (gl 23 d m λr s=>cD r λt=>cG 66 t 1 62 s λu v=>Ca Tryz.prog 52 #[u,(.int .u32 0)] v λw x=>kS w x λy z A=>gv 92 y A λB C=>cB (S:=T1) (λD=>de 23 d C.drew λE=>cD E λF=>dD 66 F 0 λG=>de 61 G C.drew λH=>de 23 d C.drew λI=>cD I λJ=>dD 66 J 4 λK=>de 27 K C.drew λL=>dD 92 B 1 λM=>de 2 M C.drew λN=>de 23 d C.drew λO=>cD O λP=>dD 66 P 1 λQ=>de 62 Q C.drew λR=>(Ca Tryz.prog 53 #[H] C.drew λS T=>gk 62 Q R T/\gk 23 d O T/\gk 2 M N T/\gk 27 K L T/\gk 23 d I T/\((Ca Tryz.prog 55 #[R] T λU V=>gk 2 M N V/\gk 27 K L V/\gk 23 d I V/\((Ca Tryz.prog 54 #[U] V λW X=>gk 2 M N X/\gk 27 K L X/\gk 23 d I X/\(gp (Instr.build 49 #[(0,S),(1,L),(2,N),(3,W)]) λY=>ga 49 X λZ aa=>gk 2 M N aa/\gk 27 K L aa/\gk 23 d I aa/\(gs 49 Z Y aa λab=>D (Z,()) ab)))/\(ga 49 V λac ad=>gk 2 M N ad/\gk 27 K L ad/\gk 23 d I ad/\(Ca Tryz.prog 54 #[U] ad λae af=>gk 2 M N af/\gk 27 K L af/\gk 23 d I af/\(gp (Instr.build 49 #[(0,S),(1,L),(2,N),(3,ae)]) λag=>gs 49 ac ag af λah=>D (ac,()) ah)))))/\(ga 49 T λai aj=>gk 62 Q R aj/\gk 23 d O aj/\gk 2 M N aj/\gk 27 K L aj/\gk 23 d I aj/\(Ca Tryz.prog 55 #[R] aj λak al=>gk 2 M N al/\gk 27 K L al/\gk 23 d I al/\(Ca Tryz.prog 54 #[ak] al λam an=>gk 2 M N an/\gk 27 K L an/\gk 23 d I an/\(gp (Instr.build 49 #[(0,S),(1,L),(2,N),(3,am)]) λao=>gs 49 ai ao an λap=>D (ai,()) ap))))))/\(ga 49 C.drew λaq ar=>gk 62 Q R ar/\gk 23 d O ar/\gk 2 M N ar/\gk 27 K L ar/\gk 23 d I ar/\gk 61 G H ar/\gk 23 d E ar/\(Ca Tryz.prog 53 #[H] ar λau av=>gk 62 Q R av/\gk 23 d O av/\gk 2 M N av/\gk 27 K L av/\gk 23 d I av/\(Ca Tryz.prog 55 #[R] av λaw ax=>gk 2 M N ax/\gk 27 K L ax/\gk 23 d I ax/\(Ca Tryz.prog 54 #[aw] ax λay az=>gk 2 M N az/\gk 27 K L az/\gk 23 d I az/\(gp (Instr.build 49 #[(0,au),(1,L),(2,N),(3,ay)]) λaA=>gs 49 aq aA az λaB=>D (aq,()) aB)))))) (D4 d f c))):Ca Tryz.prog 14 #[a] b c:=cj Tryz.func14 h0
def wO(a:T2)(b:T2->Wp)(c:T1)(d:World):=NV->gb .add 3 true a.2.1 (gI 1) d λe f=>b (c.1,e,()) f
def RI{a:Value}{b:World}{c:cm}(h:Ca Tryz.prog 137 #[(.slice none 0 0),a] b c):Ca Tryz.prog 54 #[a] b c:=cj Tryz.func54 h
def FM(a:Value)(b:Nat)(c:List Value)(d:World)(e:Wp)(f:Code->Wp):=gv 92 (c.getD 0 undef) d λg h=>iF b h λi=>gl 44 a i λj k=>gl 92 g k λl m=>gx (dP 44 1 [(0,l)]) m λn o=>gx (cv #[44,44] 44 [j,n]) o λp q=>gs 44 a p q e
def DZ(a:Value)(b:cm)(c:List Nat)(d:Option Code)(e:World):=fk (λf=>gl 44 a f λg h=>jF (c++[]) h λi=>b g i) (λj=>jF (c++[]) j λk=>b (.slice none 0 0) k) (λl m=>bc (Nat.beq l 0) (gl 44 a m λn o=>jF (c++[]) o λp=>b n p) (False)) d e
def NH{a b:Value}{c:World}{d:cm}(h:gq 44 a c λe f=>xy Tryz.prog none b f 1 (FM e) (DZ e d)):Ca Tryz.prog 137 #[a,b] c d:=cj Tryz.func137 h
end Go.Proofs
namespace Go.Proofs
open Go Go.Vc
attribute [local congr] cr
section
variable{w:World}{gv:Value}{α:Type}{xs:List α}{fv:α->Value}{asg:Value->World->(Value->World->Prop)->Prop}{Pv:α->Value->Nat->World->Prop}{body:Nat->Value->World->(World->Prop)->(Code->World->Prop)->Prop}{after:List Nat->Option Code->World->Prop}{X0:Nat->Prop}
def Hy(ht:jC gv (xs.map λa=>[fv a]) w)(hasg:∀a∈xs,∀(W:World) (K:Value->World->Prop),(∀P v,Pv a v W.heap.size P->cl (λ_=>False) W P->K v P)->asg (fv a) W K)
  (hPv:∀a v q W k H,Pv a v q W->cl H W k->¬H q->Pv a v q k)
  (I:(Nat->Prop)->Nat->World->Prop)(Ex:Code->(Nat->Prop)->World->Prop)
  (E:∀X i W k H,I X i W->cl H W k->(∀b,X b->¬H b)->I X i k)
  (hsx:∀c X W k H,Ex c X W->cl H W k->(∀b,X b->¬H b)->Ex c X k)
  (S:∀b,X0 b->b<w.heap.size)(h0:I X0 0 w)
  (G:∀X i (hi:i<xs.length) W q v,I X i W->cl X0 w W->(∀b,X b->b<q/\(X0 b\/w.heap.size+1<b))->w.heap.size+1<q->q<=W.heap.size->Pv xs[i] v q W->(∃r,hp W (w.heap.size+1)=some (.loop r))->∀KN KJ,
   (∀y k,I y (i+1) k->cl (λb=>X b\/q<=b) W k->(∀b,y b->(X b\/W.heap.size<=b)/\b<k.heap.size)->KN k)->
   (∀c y k,Ex c y k->cl (λb=>X b\/q<=b) W k->(∀b,y b->(X b\/W.heap.size<=b)/\b<k.heap.size)->KJ c k)->body (w.heap.size+1) v W KN KJ)
  (hend:∀X W d,d=w.heap.size->I X xs.length W->cl X0 w W->hp W d=some (.deferred (some []))->(∀b,X b->b<W.heap.size/\(X0 b\/d+1<b))->after [d] none W)
  (hexit:∀c X W d,d=w.heap.size->Ex c X W->cl X0 w W->hp W d=some (.deferred (some []))->(∀b,X b->b<W.heap.size/\(X0 b\/d+1<b))->after [d] (some c) W):
  xy Tryz.prog none gv w 1 (λl x W KN KJ=>asg (x.getD 0 undef) W λv P=>iF l P λw3=>body l v w3 KN KJ) after:=by
 obtain⟨⟨Ok,hit,hok⟩,-⟩:=ht;obtain⟨f,first,captured,rfl,hit0⟩:=hit.out;refine mi.2 ?_;show∀m:Loop,_;intro m s N hD hY;obtain⟨d,z⟩:∃d,d=w.heap.size:=⟨_,rfl⟩
 rw[<-z]at G;have Y:(w.alloc (.deferred (some []))).heap.size=d+1:=by rw[World.size_alloc,z]
 obtain⟨wr,L⟩:∃wr,wr=(w.alloc (.deferred (some []))).alloc (.loop m):=⟨_,rfl⟩
 have V:wr.heap[d+1]? =some (.loop m):=by rw[L,cY,if_pos Y.symm]
 have hszr:wr.heap.size=d+2:=by rw[L,World.size_alloc,Y]
 have Z:hp wr d=some (.deferred (some [])):=by rw[L];simp[go_sem,z]
 have hmr:cl (λ_=>False) w wr:=by rw[L];exact((cl.refl _ w).alloc _).alloc _
 have p:∀(W:World) (o:Obj),cl (λb=>b=d+1) W (W.putObj (d+1) o):=λW o=>(cl.refl (λb=>b=d+1) W).putObj (b:=d+1) (.inl rfl) o;rw[Y]at hY|-;rw[<-L];let J:(Nat->Prop)->Nat->World->Prop:=λQ i W=>∃X,I X i W/\cl X0 w W/\hp W d=some (.deferred (some []))/\(∀b,X b->b<W.heap.size/\(X0 b\/d+1<b)/\¬Q b)/\W.heap[d+1]? =some (.loop m)/\∀b,Q b->d+1<b/\b<W.heap.size;let Js:(Nat->Prop)->World->Prop:=λQ W=>∃c X r,Ex c X W/\cl X0 w W/\hp W d=some (.deferred (some []))/\(∀b,X b->b<W.heap.size/\(X0 b\/d+1<b)/\¬Q b)/\W.heap[d+1]? =some (.loop r)/\(∀b,Q b->d+1<b/\b<W.heap.size)/\r.state=.done/\r.pending=some c;refine hit0 _ J Js _ _ (hok _ hmr) ?_ ?_ ?_ ?_ ?_ ?_
 ·intro Q W1 j hQ;refine⟨X0,E _ _ _ _ _ h0 (hmr.trans j) λ_ _ h=>h,(hmr.trans j).mono λ_ _ h=>h.elim,j.hpk Z id,λb g=>?_,j.keep V id,λb g=>?_⟩
  ·have h1:=S b g;have M:=j.size;exact⟨by omega,.inl g,λU=>by have:=(hQ b U).1;omega⟩
  ·have:=hQ b g;omega
 ·rintro Q Q' i W k ⟨X,h1,M,R,n,C,B⟩ j O;have hl:=cn C;refine⟨X,E _ _ _ _ _ h1 j λb g=>(n b g).2.2,M.on j λb g=>.inr (by have:=B b g;omega),j.hpk R λg=>by have:=B _ g;omega,λb g=>?_,j.keep C λg=>by have:=B _ g;omega,λb g=>?_⟩
  ·have u:=n b g;refine⟨Nat.lt_of_lt_of_le u.1 j.size,u.2.1,λU=>?_⟩;rcases(O b U).1 with h|h
   ·exact u.2.2 h
   ·have:=u.1;omega
  ·have u:=O b g;refine⟨?_,u.2⟩;rcases u.1 with h|h
   ·exact(B b h).1
   ·omega
 ·rintro Q Q' W k ⟨c,X,r,h1,M,R,n,C,B,h7⟩ j O;have hl:=cn C;refine⟨c,X,r,hsx _ _ _ _ _ h1 j λb g=>(n b g).2.2,M.on j λb g=>.inr (by have:=B b g;omega),j.hpk R λg=>by have:=B _ g;omega,λb g=>?_,j.keep C λg=>by have:=B _ g;omega,λb g=>?_,h7⟩
  ·have u:=n b g;refine⟨Nat.lt_of_lt_of_le u.1 j.size,u.2.1,λU=>?_⟩;rcases(O b U).1 with h|h
   ·exact u.2.2 h
   ·have:=u.1;omega
  ·have u:=O b g;refine⟨?_,u.2⟩;rcases u.1 with h|h
   ·exact(B b h).1
   ·omega
 ·rintro Q i x W D ⟨X,h1,M,R,n,C,B⟩ K' hT hF;refine iI.2 ?_;show Yl Tryz.prog (d+1) ⟨_⟩ W K';have e1:(#[]:Array Value).toList++x=x:=rfl;rw[e1]
  obtain⟨hi,rfl⟩:∃hi:i<xs.length,x=[fv xs[i]]:=by
   rw[List.getElem?_map]at D;cases hh:xs[i]? with
   |none=>rw[hh]at D;cases D
   |some o=>
    obtain⟨hj,he⟩:=List.getElem?_eq_some_iff.1 hh;rw[hh]at D;exact⟨hj,by rw[he];exact(Option.some.inj D).symm⟩
  refine hY _ W K' rfl ⟨m.state,m.pending,C⟩ ?_;obtain⟨q,hq0⟩:∃q,q=W.heap.size:=⟨_,rfl⟩
  refine hasg xs[i] (List.getElem_mem hi) W _ λP v v3 v4=>?_;rw[<-hq0]at v3;have r2:P.heap[d+1]? =some (.loop m):=v4.keep C id;refine lO r2 s ?_;have m3:=p P (.loop {m with state:=.busy});have r3:(P.putObj (d+1) (.loop {m with state:=.busy})).heap[d+1]? =some (.loop {m with state:=.busy}):=by rw[dc,if_pos rfl,r2];rfl
  generalize P.putObj (d+1) (.loop {m with state:=.busy})=w3 at m3 r3|-;have hdl:d+1<q:=by rw[hq0];exact cn C
  have q3:=hPv _ _ _ _ _ _ v3 m3 (by omega);have hw3:=m3.size;have hw4:=v4.size;have M3:cl (λb=>b=d+1) W w3:=(v4.mono λ_ _ h=>h.elim).trans m3;have hXq:∀b,X b->b<q/\(X0 b\/d+1<b):=λb g=>⟨by have:=(n b g).1;omega,(n b g).2.1⟩
  have t:∀b,X b->b≠d+1/\b≠d:=λb g=>by
   rcases(n b g).2.1 with h|h
   ·have:=S b h;omega
   ·omega
  have F:∀(k:World) (y:Nat->Prop) (o:Obj),cl (λb=>X b\/q<=b) w3 k->(∀b,y b->(X b\/w3.heap.size<=b)/\b<k.heap.size)->
    cl X0 w (k.putObj (d+1) o)/\hp (k.putObj (d+1) o) d=some (.deferred (some []))/\(∀b,y b->b<(k.putObj (d+1) o).heap.size/\(X0 b\/d+1<b)/\¬Q b)/\(∀b,Q b->d+1<b/\b<(k.putObj (d+1) o).heap.size)/\
    (∀b,Q b->(k.putObj (d+1) o).heap[b]? =W.heap[b]?)/\W.heap.size<=(k.putObj (d+1) o).heap.size/\k.heap[d+1]? =some (.loop {m with state:=.busy}):=by
   intro k y o j A;have T:=p k o;have hsW:=j.size;have hsP:=T.size;refine⟨?_,T.hpk (j.hpk (m3.hpk (v4.hpk R id) (by omega)) λg=>g.elim (λg=>(t _ g).2 rfl) λg=>by omega) (by omega),λb g=>?_,λb g=>?_,λb g=>?_,by omega,j.keep r3 λg=>g.elim (λg=>(t _ g).1 rfl) λg=>by omega⟩
   ·refine(((M.on M3 λb g=>.inr (by omega)).on j λb g=>?_)).on T λb g=>.inr (by omega);rcases g with g|g
    ·rcases(n b g).2.1 with h|h
     ·exact .inl h
     ·exact .inr (by omega)
    ·exact .inr (by omega)
   ·have u:=A b g;refine⟨by omega,?_,λU=>?_⟩
    ·rcases u.1 with h|h
     ·exact(n b h).2.1
     ·exact .inr (by omega)
    ·rcases u.1 with h|h
     ·exact(n b h).2.2 U
     ·have:=(B b U).2;omega
   ·have:=B b g;omega
   ·have hb' :=B b g;rw[T.blk b (by omega) (by omega),j.blk b (by omega) λD=>D.elim (λD=>(n b D).2.2 g) λD=>by omega,M3.blk b hb'.2 (by omega)]
  refine G X i hi w3 q v (E _ _ _ _ _ h1 M3 λb g=>(t b g).1) (M.on M3 λb g=>.inr (by omega)) hXq (by omega) (by omega) q3 ⟨_,r3⟩ _ _ ?_ ?_
  ·intro y k hI' j A;obtain⟨k1,k2,k3,k4,k5,k6,k7⟩:=F k y (.loop {{m with state:=.busy}with state:=.ready,pending:=none}) j A;refine⟨_,k7,hT _ ⟨y,?_,k1,k2,k3,?_,k4⟩ k6 k5⟩
   ·refine E _ _ _ _ _ hI' (p k _) λb g e=>?_;rcases(A b g).1 with h|h
    ·exact(t b h).1 e
    ·omega
   ·rw[dc,if_pos rfl,k7];simp[<-s,<-N]
  ·intro c y k hI' j A;obtain⟨k1,k2,k3,k4,k5,k6,k7⟩:=F k y (.loop {{m with state:=.busy}with state:=.done,pending:=some c}) j A;refine⟨_,k7,hF _ ⟨c,y,{m with state:=.done,pending:=some c},?_,k1,k2,k3,?_,k4,rfl,rfl⟩ k6 k5⟩
   ·refine hsx _ _ _ _ _ hI' (p k _) λb g e=>?_;rcases(A b g).1 with h|h
    ·exact(t b h).1 e
    ·omega
   ·rw[dc,if_pos rfl,k7];rfl
 ·rintro Q W ⟨X,h1,M,R,n,C,B⟩;refine⟨m,C,by rw[s];decide,?_⟩;rw[<-z];have j:=p W (.loop {m with state:=.exhausted});generalize W.putObj (d+1) (.loop {m with state:=.exhausted})=W8 at j|-;rw[N]
  have t:∀b,X b->b≠d+1:=λb g=>by
   rcases(n b g).2.1 with h|h
   ·have:=S b h;omega
   ·omega
  refine hend X _ d z ?_ (M.on j λb g=>.inr (by omega)) (j.hpk R (by omega)) λb g=>⟨Nat.lt_of_lt_of_le (n b g).1 j.size,(n b g).2.1⟩
  have D:I X xs.length W:=by have:=h1;rwa[List.length_map]at this
  exact E _ _ _ _ _ D j λb g=>t b g
 ·rintro Q W ⟨c,X,r,h1,M,R,n,C,B,h7,h8⟩;refine⟨r,C,by rw[h7];decide,?_⟩;rw[<-z];have j:=p W (.loop {r with state:=.exhausted});generalize W.putObj (d+1) (.loop {r with state:=.exhausted})=W8 at j|-;rw[h8]
  have t:∀b,X b->b≠d+1:=λb g=>by
   rcases(n b g).2.1 with h|h
   ·have:=S b h;omega
   ·omega
  exact hexit c X _ d z (hsx _ _ _ _ _ h1 j λb g=>t b g) (M.on j λb g=>.inr (by omega)) (j.hpk R (by omega)) λb g=>⟨Nat.lt_of_lt_of_le (n b g).1 j.size,(n b g).2.1⟩
def ED(D:jC gv (xs.map λa=>[fv a]) w)(s:∀a∈xs,∀(W:World) (K:Value->World->Prop),(∀t v,Pv a v W.heap.size t->cl (λ_=>False) W t->K v t)->asg (fv a) W K)
  (A:∀a v q W e H,Pv a v q W->cl H W e->¬H q->Pv a v q e)
  (I:(Nat->Prop)->Nat->World->Prop)(p:Code->(Nat->Prop)->World->Prop)
  (y:∀X i W e H,I X i W->cl H W e->(∀b,X b->¬H b)->I X i e)
  (z:∀c X W e H,p c X W->cl H W e->(∀b,X b->¬H b)->p c X e)
  (u:∀b,X0 b->b<w.heap.size)(E:I X0 0 w)
  (g:∀X i (hi:i<xs.length) W q v,I X i W->cl X0 w W->(∀b,X b->b<q/\(X0 b\/w.heap.size+1<b))->w.heap.size+1<q->q<=W.heap.size->Pv xs[i] v q W->(∃r,hp W (w.heap.size+1)=some (.loop r))->∀k n,
   (∀f e,I f (i+1) e->cl X W e->(∀b,f b->(X b\/W.heap.size<=b)/\b<e.heap.size)->k e)->
   (∀c f e,p c f e->cl X W e->(∀b,f b->(X b\/W.heap.size<=b)/\b<e.heap.size)->n c e)->body (w.heap.size+1) v W k n)
  (o:∀X W d,d=w.heap.size->I X xs.length W->cl X0 w W->hp W d=some (.deferred (some []))->(∀b,X b->b<W.heap.size/\(X0 b\/d+1<b))->after [d] none W)
  (j:∀c X W d,d=w.heap.size->p c X W->cl X0 w W->hp W d=some (.deferred (some []))->(∀b,X b->b<W.heap.size/\(X0 b\/d+1<b))->after [d] (some c) W):
  xy Tryz.prog none gv w 1 (λl x W k n=>asg (x.getD 0 undef) W λv t=>iF l t λB=>body l v B k n) after:=
 Hy D s A I p y z u E (λX i hi W q v M N F J G L C k n k1 k2=>g X i hi W q v M N F J G L C k n (λf e x m h=>k1 f e x (m.mono λ_ _ h=>.inl h) h) λc f e x m h=>k2 c f e x (m.mono λ_ _ h=>.inl h) h) o j
def JU{l0:Nat}(hl0:∃r,hp w l0=some (.loop r))(ht:jC gv (xs.map λa=>[fv a]) w)(hasg:∀a∈xs,∀(W:World) (K:Value->World->Prop),(∀N v,Pv a v W.heap.size N->cl (λ_=>False) W N->K v N)->asg (fv a) W K)
  (hPv:∀a v q W j H,Pv a v q W->cl H W j->¬H q->Pv a v q j)
  (I:(Nat->Prop)->Nat->World->Prop)(Ex:Code->(Nat->Prop)->World->Prop)
  (C:∀X i W j H,I X i W->cl H W j->(∀b,X b->¬H b)->I X i j)
  (hsx:∀c X W j H,Ex c X W->cl H W j->(∀b,X b->¬H b)->Ex c X j)
  (S:∀b,X0 b->b<w.heap.size)(h0:I X0 0 w)
  (E:∀X i (hi:i<xs.length) W q v,I X i W->cl X0 w W->(∀b,X b->b<q/\(X0 b\/w.heap.size<b))->w.heap.size<q->q<=W.heap.size->Pv xs[i] v q W->∀KN KJ,
   (∀y j,I y (i+1) j->cl X W j->(∀b,y b->(X b\/W.heap.size<=b)/\b<j.heap.size)->KN j)->
   (∀c y j,Ex c y j->cl X W j->(∀b,y b->(X b\/W.heap.size<=b)/\b<j.heap.size)->KJ c j)->body w.heap.size v W KN KJ)
  (T:∀X W,I X xs.length W->cl X0 w W->(∀b,X b->b<W.heap.size/\(X0 b\/w.heap.size<b))->after [] none W)
  (L:∀c X W,Ex c X W->cl X0 w W->(∀b,X b->b<W.heap.size/\(X0 b\/w.heap.size<b))->after [] (some c) W):
  xy Tryz.prog (some l0) gv w 1 (λl x W KN KJ=>asg (x.getD 0 undef) W λv N=>iF l N λw3=>body l v w3 KN KJ) after:=by
 obtain⟨⟨Ok,hit,hok⟩,-⟩:=ht;obtain⟨f,first,captured,rfl,hit0⟩:=hit.out;refine mi.2 ?_;obtain⟨r0,hr0⟩:=hl0;refine⟨r0,hr0,?_⟩;show∀k:Loop,_;intro k s G hD hY;obtain⟨d,R⟩:∃d,d=w.heap.size:=⟨_,rfl⟩
 rw[<-R]at E;obtain⟨wr,P⟩:∃wr,wr=w.alloc (.loop k):=⟨_,rfl⟩
 have V:wr.heap[d]? =some (.loop k):=by rw[P,cY,if_pos R]
 have hszr:wr.heap.size=d+1:=by rw[P,World.size_alloc,<-R]
 have hmr:cl (λ_=>False) w wr:=by rw[P];exact(cl.refl _ w).alloc _
 have p:∀(W:World) (o:Obj),cl (λb=>b=d) W (W.putObj d o):=λW o=>(cl.refl (λb=>b=d) W).putObj (b:=d) (.inl rfl) o;rw[<-R]at hY T L|-;rw[<-P];let J:(Nat->Prop)->Nat->World->Prop:=λQ i W=>∃X,I X i W/\cl X0 w W/\(∀b,X b->b<W.heap.size/\(X0 b\/d<b)/\¬Q b)/\W.heap[d]? =some (.loop k)/\∀b,Q b->d<b/\b<W.heap.size;let Js:(Nat->Prop)->World->Prop:=λQ W=>∃c X r,Ex c X W/\cl X0 w W/\(∀b,X b->b<W.heap.size/\(X0 b\/d<b)/\¬Q b)/\W.heap[d]? =some (.loop r)/\(∀b,Q b->d<b/\b<W.heap.size)/\r.state=.done/\r.pending=some c;refine hit0 _ J Js _ _ (hok _ hmr) ?_ ?_ ?_ ?_ ?_ ?_
 ·intro Q W1 m hQ;refine⟨X0,C _ _ _ _ _ h0 (hmr.trans m) λ_ _ h=>h,(hmr.trans m).mono λ_ _ h=>h.elim,λb g=>?_,m.keep V id,λb g=>?_⟩
  ·have h1:=S b g;have F:=m.size;exact⟨by omega,.inl g,λU=>by have:=(hQ b U).1;omega⟩
  ·have:=hQ b g;omega
 ·rintro Q Q' i W j ⟨X,h1,F,n,A,B⟩ m M;have hl:=cn A;refine⟨X,C _ _ _ _ _ h1 m λb g=>(n b g).2.2,F.on m λb g=>.inr (by have:=B b g;omega),λb g=>?_,m.keep A λg=>by have:=B _ g;omega,λb g=>?_⟩
  ·have t:=n b g;refine⟨Nat.lt_of_lt_of_le t.1 m.size,t.2.1,λU=>?_⟩;rcases(M b U).1 with h|h
   ·exact t.2.2 h
   ·have:=t.1;omega
  ·have t:=M b g;refine⟨?_,t.2⟩;rcases t.1 with h|h
   ·exact(B b h).1
   ·omega
 ·rintro Q Q' W j ⟨c,X,r,h1,F,n,A,B,h7⟩ m M;have hl:=cn A;refine⟨c,X,r,hsx _ _ _ _ _ h1 m λb g=>(n b g).2.2,F.on m λb g=>.inr (by have:=B b g;omega),λb g=>?_,m.keep A λg=>by have:=B _ g;omega,λb g=>?_,h7⟩
  ·have t:=n b g;refine⟨Nat.lt_of_lt_of_le t.1 m.size,t.2.1,λU=>?_⟩;rcases(M b U).1 with h|h
   ·exact t.2.2 h
   ·have:=t.1;omega
  ·have t:=M b g;refine⟨?_,t.2⟩;rcases t.1 with h|h
   ·exact(B b h).1
   ·omega
 ·rintro Q i x W O ⟨X,h1,F,n,A,B⟩ K' hT hF;refine iI.2 ?_;show Yl Tryz.prog (d) ⟨_⟩ W K';have e1:(#[]:Array Value).toList++x=x:=rfl;rw[e1]
  obtain⟨hi,rfl⟩:∃hi:i<xs.length,x=[fv xs[i]]:=by
   rw[List.getElem?_map]at O;cases hh:xs[i]? with
   |none=>rw[hh]at O;cases O
   |some o=>
    obtain⟨hj,he⟩:=List.getElem?_eq_some_iff.1 hh;rw[hh]at O;exact⟨hj,by rw[he];exact(Option.some.inj O).symm⟩
  refine hY _ W K' rfl ⟨k.state,k.pending,A⟩ ?_;obtain⟨q,hq0⟩:∃q,q=W.heap.size:=⟨_,rfl⟩
  refine hasg xs[i] (List.getElem_mem hi) W _ λN v v3 v4=>?_;rw[<-hq0]at v3;have r2:N.heap[d]? =some (.loop k):=v4.keep A id;refine lO r2 s ?_;have m3:=p N (.loop {k with state:=.busy});have r3:(N.putObj (d) (.loop {k with state:=.busy})).heap[d]? =some (.loop {k with state:=.busy}):=by rw[dc,if_pos rfl,r2];rfl
  generalize N.putObj (d) (.loop {k with state:=.busy})=w3 at m3 r3|-;have hdl:d<q:=by rw[hq0];exact cn A
  have q3:=hPv _ _ _ _ _ _ v3 m3 (by omega);have hw3:=m3.size;have hw4:=v4.size;have M3:cl (λb=>b=d) W w3:=(v4.mono λ_ _ h=>h.elim).trans m3;have hXq:∀b,X b->b<q/\(X0 b\/d<b):=λb g=>⟨by have:=(n b g).1;omega,(n b g).2.1⟩
  have u:∀b,X b->b≠d/\b≠d:=λb g=>by
   rcases(n b g).2.1 with h|h
   ·have:=S b h;omega
   ·omega
  have D:∀(j:World) (y:Nat->Prop) (o:Obj),cl X w3 j->(∀b,y b->(X b\/w3.heap.size<=b)/\b<j.heap.size)->
    cl X0 w (j.putObj (d) o)/\(∀b,y b->b<(j.putObj (d) o).heap.size/\(X0 b\/d<b)/\¬Q b)/\(∀b,Q b->d<b/\b<(j.putObj (d) o).heap.size)/\
    (∀b,Q b->(j.putObj (d) o).heap[b]? =W.heap[b]?)/\W.heap.size<=(j.putObj (d) o).heap.size/\j.heap[d]? =some (.loop {k with state:=.busy}):=by
   intro j y o m z;have Z:=p j o;have hsW:=m.size;have hsP:=Z.size;refine⟨?_,λb g=>?_,λb g=>?_,λb g=>?_,by omega,m.keep r3 λg=>(u _ g).1 rfl⟩
   ·refine(((F.on M3 λb g=>.inr (by omega)).on m λb g=>?_)).on Z λb g=>.inr (by omega);rcases(n b g).2.1 with h|h
    ·exact .inl h
    ·exact .inr (by omega)
   ·have t:=z b g;refine⟨by omega,?_,λU=>?_⟩
    ·rcases t.1 with h|h
     ·exact(n b h).2.1
     ·exact .inr (by omega)
    ·rcases t.1 with h|h
     ·exact(n b h).2.2 U
     ·have:=(B b U).2;omega
   ·have:=B b g;omega
   ·have hb' :=B b g;rw[Z.blk b (by omega) (by omega),m.blk b (by omega) λO=>(n b O).2.2 g,M3.blk b hb'.2 (by omega)]
  refine E X i hi w3 q v (C _ _ _ _ _ h1 M3 λb g=>(u b g).1) (F.on M3 λb g=>.inr (by omega)) hXq (by omega) (by omega) q3 _ _ ?_ ?_
  ·intro y j Y m z;obtain⟨k1,k3,k4,k5,k6,k7⟩:=D j y (.loop {{k with state:=.busy}with state:=.ready,pending:=none}) m z;refine⟨_,k7,hT _ ⟨y,?_,k1,k3,?_,k4⟩ k6 k5⟩
   ·refine C _ _ _ _ _ Y (p j _) λb g e=>?_;rcases(z b g).1 with h|h
    ·exact(u b h).1 e
    ·omega
   ·rw[dc,if_pos rfl,k7];simp[<-s,<-G]
  ·intro c y j Y m z;obtain⟨k1,k3,k4,k5,k6,k7⟩:=D j y (.loop {{k with state:=.busy}with state:=.done,pending:=some c}) m z;refine⟨_,k7,hF _ ⟨c,y,{k with state:=.done,pending:=some c},?_,k1,k3,?_,k4,rfl,rfl⟩ k6 k5⟩
   ·refine hsx _ _ _ _ _ Y (p j _) λb g e=>?_;rcases(z b g).1 with h|h
    ·exact(u b h).1 e
    ·omega
   ·rw[dc,if_pos rfl,k7];rfl
 ·rintro Q W ⟨X,h1,F,n,A,B⟩;refine⟨k,A,by rw[s];decide,?_⟩;have m:=p W (.loop {k with state:=.exhausted});generalize W.putObj (d) (.loop {k with state:=.exhausted})=W8 at m|-;rw[G]
  have u:∀b,X b->b≠d:=λb g=>by
   rcases(n b g).2.1 with h|h
   ·have:=S b h;omega
   ·omega
  refine T X _ ?_ (F.on m λb g=>.inr (by omega)) λb g=>⟨Nat.lt_of_lt_of_le (n b g).1 m.size,(n b g).2.1⟩
  have O:I X xs.length W:=by have:=h1;rwa[List.length_map]at this
  exact C _ _ _ _ _ O m λb g=>u b g
 ·rintro Q W ⟨c,X,r,h1,F,n,A,B,h7,h8⟩;refine⟨r,A,by rw[h7];decide,?_⟩;have m:=p W (.loop {r with state:=.exhausted});generalize W.putObj (d) (.loop {r with state:=.exhausted})=W8 at m|-;rw[h8]
  have u:∀b,X b->b≠d:=λb g=>by
   rcases(n b g).2.1 with h|h
   ·have:=S b h;omega
   ·omega
  exact L c X _ (hsx _ _ _ _ _ h1 m λb g=>u b g) (F.on m λb g=>.inr (by omega)) λb g=>⟨Nat.lt_of_lt_of_le (n b g).1 m.size,(n b g).2.1⟩
end
end Go.Proofs
