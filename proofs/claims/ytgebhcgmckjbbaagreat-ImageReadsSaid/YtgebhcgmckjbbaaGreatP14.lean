/- Part of a proof. -/
import Derived.Test.YtgebhcgmckjbbaaGreatP13
set_option linter.all false
set_option maxRecDepth 100000
namespace Go.Proofs
open Go Go.Vc
def E0(a b c:Value)(d:cm)(e:Value)(f:T1)(g:World):=NV->cC f.1 (en 41 a 1 35 g.drew λh=>dP 41 a 4 λi=>df 2 i g.drew λj=>dP 41 b 1 λk=>gs 35 k h g.drew λl=>gk 2 i j l/\(dP 41 b 4 λm=>gs 2 m j l λn=>gx (dm 41 b) n λo p=>fV Tryz.prog (ej 41 c o) p λq=>iw Tryz.prog (dm 41 c) q λr=>d r q)) (gb .eql 34 true e (.int .u8 3) g λs t=>cC s (gf 41 a 5 t λu v=>gx (dm 38 u) v λw x=>gf 41 b 5 x λy z=>fV Tryz.prog (ej 38 y w) z λA=>gx (dm 41 b) A λB C=>fV Tryz.prog (ej 41 c B) C λD=>iw Tryz.prog (dm 41 c) D λE=>d E D) (gb .eql 34 true e (.int .u8 4) t λF G=>cC F (en 41 a 2 35 G.drew λH=>dP 41 a 6 λI=>df 4 I G.drew λJ=>dP 41 b 2 λK=>gs 35 K H G.drew λL=>gk 4 I J L/\(dP 41 b 6 λM=>gs 4 M J L λN=>gx (dm 41 b) N λO P=>fV Tryz.prog (ej 41 c O) P λQ=>iw Tryz.prog (dm 41 c) Q λR=>d R Q)) (gb .eql 34 true e (.int .u8 5) G λS T=>cC S (gx (dm 41 a) T λU V=>fV Tryz.prog (ej 41 b U) V λW=>gx (sf 38 #[]) W λX Y=>fZ 41 b 3 27 (.int .u64 0) Y λZ=>fZ 41 b 4 2 (gI 0) Z λaa=>gf 41 b 5 aa λab ac=>fV Tryz.prog (ej 38 ab X) ac λad=>fZ 41 b 6 4 (.bool false) ad λae=>gx (dm 41 b) ae λaf ag=>fV Tryz.prog (ej 41 c af) ag λah=>iw Tryz.prog (dm 41 c) ah λai=>d ai ah) (gb .eql 34 true e (.int .u8 6) T λaj ak=>cC aj (en 41 a 1 35 ak.drew λal=>dP 41 a 3 λam=>df 27 am ak.drew λan=>dP 41 b 1 λao=>gs 35 ao al ak.drew λap=>gk 27 am an ap/\(dP 41 b 3 λaq=>gs 27 aq an ap λar=>gx (dm 41 b) ar λau av=>fV Tryz.prog (ej 41 c au) av λaw=>iw Tryz.prog (dm 41 c) aw λax=>d ax aw)) (gb .eql 34 true e (.int .u8 7) ak λay az=>cC ay (en 41 a 1 35 az.drew λaA=>dP 41 a 3 λaB=>df 27 aB az.drew λaC=>dP 41 a 9 λaD=>df 2 aD az.drew λaE=>dP 41 a 10 λaF=>df 2 aF az.drew λaG=>dP 41 b 1 λaH=>gs 35 aH aA az.drew λaI=>gk 2 aF aG aI/\gk 2 aD aE aI/\gk 27 aB aC aI/\(dP 41 b 3 λaJ=>gs 27 aJ aC aI λaK=>gk 2 aF aG aK/\gk 2 aD aE aK/\(dP 41 b 9 λaL=>gs 2 aL aE aK λaM=>gk 2 aF aG aM/\(dP 41 b 10 λaN=>gs 2 aN aG aM λaO=>gx (dm 41 b) aO λaP aQ=>fV Tryz.prog (ej 41 c aP) aQ λaR=>iw Tryz.prog (dm 41 c) aR λaS=>d aS aR)))) (gb .eql 34 true e (.int .u8 8) az λaT aU=>cC aT (en 41 a 1 35 aU.drew λaV=>dP 41 a 2 λaW=>df 35 aW aU.drew λaX=>dP 41 b 1 λaY=>gs 35 aY aV aU.drew λaZ=>gk 35 aW aX aZ/\(dP 41 b 2 λa0=>gs 35 a0 aX aZ λa1=>gx (dm 41 b) a1 λa2 a3=>fV Tryz.prog (ej 41 c a2) a3 λa4=>iw Tryz.prog (dm 41 c) a4 λa5=>d a5 a4)) (gb .eql 34 true e (.int .u8 9) aU λa6 a7=>cC a6 (en 41 a 1 35 a7.drew λa8=>dP 41 a 2 λa9=>df 35 a9 a7.drew λba=>dP 41 a 7 λbb=>df 4 bb a7.drew λbc=>dP 41 a 9 λbd=>df 2 bd a7.drew λbe=>dP 41 a 10 λbf=>df 2 bf a7.drew λbg=>dP 41 b 1 λbh=>gs 35 bh a8 a7.drew λbi=>gk 2 bf bg bi/\gk 2 bd be bi/\gk 4 bb bc bi/\gk 35 a9 ba bi/\(dP 41 b 2 λbj=>gs 35 bj ba bi λbk=>gk 2 bf bg bk/\gk 2 bd be bk/\gk 4 bb bc bk/\(dP 41 b 7 λbl=>gs 4 bl bc bk λbm=>gk 2 bf bg bm/\gk 2 bd be bm/\(dP 41 b 9 λbn=>gs 2 bn be bm λbo=>gk 2 bf bg bo/\(dP 41 b 10 λbp=>gs 2 bp bg bo λbq=>gx (dm 41 b) bq λbr bs=>fV Tryz.prog (ej 41 c br) bs λbt=>iw Tryz.prog (dm 41 c) bt λbu=>d bu bt))))) (gb .eql 34 true e (.int .u8 10) a7 λbv bw=>cC bv (en 41 a 1 35 bw.drew λbx=>dP 41 a 6 λbz=>df 4 bz bw.drew λbA=>dP 41 b 1 λbB=>gs 35 bB bx bw.drew λbC=>gk 4 bz bA bC/\(dP 41 b 6 λbD=>gs 4 bD bA bC λbE=>gx (dm 41 b) bE λbF bG=>fV Tryz.prog (ej 41 c bF) bG λbH=>iw Tryz.prog (dm 41 c) bH λbI=>d bI bH)) (gb .eql 34 true e (.int .u8 11) bw λbJ bK=>cC bJ (en 41 a 2 35 bK.drew λbL=>dP 41 a 9 λbM=>df 2 bM bK.drew λbN=>dP 41 b 2 λbO=>gs 35 bO bL bK.drew λbP=>gk 2 bM bN bP/\(dP 41 b 9 λbQ=>gs 2 bQ bN bP λbR=>gx (dm 41 b) bR λbS bT=>fV Tryz.prog (ej 41 c bS) bT λbU=>iw Tryz.prog (dm 41 c) bU λbV=>d bV bU)) (gb .eql 34 true e (.int .u8 13) bK λbW bX=>cC bW (cI 41 a 1 35 bX λbY bZ=>fZ 41 b 1 35 bY bZ λb0=>gx (dm 41 b) b0 λb1 b2=>fV Tryz.prog (ej 41 c b1) b2 λb3=>iw Tryz.prog (dm 41 c) b3 λb4=>d b4 b3) (gb .eql 34 true e (.int .u8 14) bX λb5 b6=>cC b5 (cI 41 a 2 35 b6 λb7 b8=>fZ 41 b 2 35 b7 b8 λb9=>gx (dm 41 b) b9 λca cb=>fV Tryz.prog (ej 41 c ca) cb λcc=>iw Tryz.prog (dm 41 c) cc λcd=>d cd cc) (gx (dm 41 b) b6 λce cf=>fV Tryz.prog (ej 41 c ce) cf λcg=>iw Tryz.prog (dm 41 c) cg λch=>d ch cg))))))))))))
def Qc{a:Value}{b:World}{c:cm}(v:gq 41 a b λd e=>gx (ic 41) e λf g=>cI 41 d 0 34 g λh i=>gx (sf 41 #[(0,h)]) i λj k=>gx (ic 41) k λl m=>fV Tryz.prog (ej 41 l j) m λn=>cI 41 d 0 34 n λo p=>cy (S:=T1) (λq=>gb .eql 34 true o (.int .u8 1) p λr s=>cC r (q (r,()) s) (gb .eql 34 true o (.int .u8 2) s λt u=>q (t,()) u)) (E0 d l f c o)):Ca Tryz.prog 106 #[a] b c:=cj Tryz.func106 v
def SN{a:Value}{b:World}{c:cm}(s:gq 41 a b λd e=>en 41 d 0 34 e.drew λf=>gX .geq 34 true f (.int .u8 1) λg=>cC g (en 41 d 0 34 e.drew λh=>gX .leq 34 true h (.int .u8 14) λi=>cC i (iw Tryz.prog (dm 41 d) e.drew λj=>iw Tryz.prog (dm 41 d) e.drew λk=>Ca Tryz.prog 106 #[k] e.drew λl m=>Sem.run Tryz.prog (dm 41 d) m=.ok j m/\(gX .eql 41 false j l λn=>cC n (en 41 d 0 34 m λo=>gX .neq 34 true o (.int .u8 3) λp=>cC p (c (.bool true) m) (dP 41 d 5 λq=>iw Tryz.prog (dm 38 q) m λr=>Ca Tryz.prog 107 #[r] m c)) (c (.bool false) m))) (c (.bool false) e.drew)) (c (.bool false) e.drew)):Ca Tryz.prog 42 #[a] b c:=cj Tryz.func42 s
def Sb{a:World}{b:cm}(m:Ca Tryz.prog 35 #[] a λc d=>Ca Tryz.prog 36 #[] d λe f=>gr (Instr.makeMap 63 none) f λg h=>gr (Instr.makeMap 64 none) h λi j=>gr (Instr.build 66 #[(0,c),(1,e),(2,g),(3,i),(4,(.int .u64 1))]) j λk l=>gq 66 k l b):Ca Tryz.prog 10 #[] a b:=cj Tryz.func10 m
def SJ{a:Value}{b:World}{c:cm}(i:gb .neq 23 true a (.pointer none) b λd e=>cC d (cF a λf=>cI 66 f 1 62 e λg h=>gb .neq 62 true g (.pointer none) h c) (c (.bool false) e)):Ca Tryz.prog 40 #[a] b c:=cj Tryz.func40 i
def Kr(a:Value)(b:T1)(c:cm)(d:Unit)(e:World)(f:Unit->Wp):=NV->gx (oo a false 0) e λg h=>ge g 0 h λi j=>cC i (gx (lz a) j λk l=>kU k l λm n o=>cF b.1 λp=>dP 66 p 3 λq=>df 64 q o.drew λr=>Ca Tryz.prog 111 #[n] o.drew λs t=>gk 64 q r t/\(fV Tryz.prog (gR 64 r m s) t λu=>f (()) u)) (c b.1 j)
def K1(a:Value)(b:T1)(c:Value)(d:cm)(e:Unit)(f:World)(g:Unit->Wp):=NV->gx (oo a false 0) f λh i=>ge h 0 i λj k=>cC j (gx (lz a) k λl m=>kU l m λn o p=>cF b.1 λq=>dP 66 q 2 λr=>df 63 r p.drew λs=>Ca Tryz.prog 110 #[o] p.drew λt u=>gk 63 r s u/\(fV Tryz.prog (gR 63 s n t) u λv=>g (()) v)) (cF c λw=>cI 66 w 3 64 k λx y=>gx (ly 64 x) y λz A=>cO (S:=Unit) (Kr z b d) (()) A)
def KK(a:Value)(b:cm)(c:T1)(d:World):=NV->cF a λe=>cI 66 e 2 63 d λf g=>gx (ly 63 f) g λh i=>cO (S:=Unit) (K1 h c a b) (()) i
def Q4{a:Value}{b:World}{c:cm}(h0:Ca Tryz.prog 40 #[a] b λd e=>gt d e λf g=>cC f (c (.pointer none) g) (cy (S:=T1) (λh=>cF a λi=>dP 66 i 0 λj=>df 61 j g.drew λk=>cF a λl=>dP 66 l 1 λm=>df 62 m g.drew λn=>cF a λo=>dP 66 o 4 λp=>df 27 p g.drew λq=>(Ca Tryz.prog 108 #[k] g.drew λr s=>gk 27 p q s/\gk 62 m n s/\((Ca Tryz.prog 109 #[n] s λt u=>gk 27 p q u/\((gr (Instr.makeMap 63 none) u λv w=>gk 27 p q w/\(gr (Instr.makeMap 64 none) w λx y=>gk 27 p q y/\(gp (Instr.build 66 #[(0,r),(1,t),(2,v),(3,x),(4,q)]) λz=>gq 66 z y λA B=>h (A,()) B)))/\(gr (Instr.makeMap 64 none) u λC D=>gk 27 p q D/\(gr (Instr.makeMap 63 none) D λE F=>gk 27 p q F/\(gp (Instr.build 66 #[(0,r),(1,t),(2,E),(3,C),(4,q)]) λG=>gq 66 G F λH I=>h (H,()) I)))))/\(gr (Instr.makeMap 63 none) s λJ K=>gk 27 p q K/\gk 62 m n K/\((Ca Tryz.prog 109 #[n] K λL M=>gk 27 p q M/\(gr (Instr.makeMap 64 none) M λN O=>gk 27 p q O/\(gp (Instr.build 66 #[(0,r),(1,L),(2,J),(3,N),(4,q)]) λP=>gq 66 P O λQ R=>h (Q,()) R)))/\(gr (Instr.makeMap 64 none) K λS T=>gk 27 p q T/\gk 62 m n T/\(Ca Tryz.prog 109 #[n] T λU V=>gk 27 p q V/\(gp (Instr.build 66 #[(0,r),(1,U),(2,J),(3,S),(4,q)]) λW=>gq 66 W V λX Y=>h (X,()) Y)))))/\(gr (Instr.makeMap 64 none) s λZ aa=>gk 27 p q aa/\gk 62 m n aa/\((Ca Tryz.prog 109 #[n] aa λab ac=>gk 27 p q ac/\(gr (Instr.makeMap 63 none) ac λad ae=>gk 27 p q ae/\(gp (Instr.build 66 #[(0,r),(1,ab),(2,ad),(3,Z),(4,q)]) λaf=>gq 66 af ae λag ah=>h (ag,()) ah)))/\(gr (Instr.makeMap 63 none) aa λai aj=>gk 27 p q aj/\gk 62 m n aj/\(Ca Tryz.prog 109 #[n] aj λak al=>gk 27 p q al/\(gp (Instr.build 66 #[(0,r),(1,ak),(2,ai),(3,Z),(4,q)]) λam=>gq 66 am al λan ao=>h (an,()) ao)))))))/\(gr (Instr.makeMap 63 none) g.drew λap aq=>gk 27 p q aq/\gk 62 m n aq/\gk 61 j k aq/\((Ca Tryz.prog 108 #[k] aq λar au=>gk 27 p q au/\gk 62 m n au/\((Ca Tryz.prog 109 #[n] au λav aw=>gk 27 p q aw/\(gr (Instr.makeMap 64 none) aw λax ay=>gk 27 p q ay/\(gp (Instr.build 66 #[(0,ar),(1,av),(2,ap),(3,ax),(4,q)]) λaz=>gq 66 az ay λaA aB=>h (aA,()) aB)))/\(gr (Instr.makeMap 64 none) au λaC aD=>gk 27 p q aD/\gk 62 m n aD/\(Ca Tryz.prog 109 #[n] aD λaE aF=>gk 27 p q aF/\(gp (Instr.build 66 #[(0,ar),(1,aE),(2,ap),(3,aC),(4,q)]) λaG=>gq 66 aG aF λaH aI=>h (aH,()) aI)))))/\(gr (Instr.makeMap 64 none) aq λaJ aK=>gk 27 p q aK/\gk 62 m n aK/\gk 61 j k aK/\(Ca Tryz.prog 108 #[k] aK λaL aM=>gk 27 p q aM/\gk 62 m n aM/\(Ca Tryz.prog 109 #[n] aM λaN aO=>gk 27 p q aO/\(gp (Instr.build 66 #[(0,aL),(1,aN),(2,ap),(3,aJ),(4,q)]) λaP=>gq 66 aP aO λaQ aR=>h (aQ,()) aR))))))/\(gr (Instr.makeMap 64 none) g.drew λaS aT=>gk 27 p q aT/\gk 62 m n aT/\gk 61 j k aT/\((Ca Tryz.prog 108 #[k] aT λaU aV=>gk 27 p q aV/\gk 62 m n aV/\((Ca Tryz.prog 109 #[n] aV λaW aX=>gk 27 p q aX/\(gr (Instr.makeMap 63 none) aX λaY aZ=>gk 27 p q aZ/\(gp (Instr.build 66 #[(0,aU),(1,aW),(2,aY),(3,aS),(4,q)]) λa0=>gq 66 a0 aZ λa1 a2=>h (a1,()) a2)))/\(gr (Instr.makeMap 63 none) aV λa3 a4=>gk 27 p q a4/\gk 62 m n a4/\(Ca Tryz.prog 109 #[n] a4 λa5 a6=>gk 27 p q a6/\(gp (Instr.build 66 #[(0,aU),(1,a5),(2,a3),(3,aS),(4,q)]) λa7=>gq 66 a7 a6 λa8 a9=>h (a8,()) a9)))))/\(gr (Instr.makeMap 63 none) aT λba bb=>gk 27 p q bb/\gk 62 m n bb/\gk 61 j k bb/\(Ca Tryz.prog 108 #[k] bb λbc bd=>gk 27 p q bd/\gk 62 m n bd/\(Ca Tryz.prog 109 #[n] bd λbe bf=>gk 27 p q bf/\(gp (Instr.build 66 #[(0,bc),(1,be),(2,ba),(3,aS),(4,q)]) λbg=>gq 66 bg bf λbh bi=>h (bh,()) bi))))))) (KK a c))):Ca Tryz.prog 43 #[a] b c:=cj Tryz.func43 h0
def SA{a:Value}{b:World}{c:cm}(j:ga 32 b λd e=>gr (Instr.build 32 #[(0,a)]) e λf g=>gs 32 d f g λh=>df 32 d h λi=>c i h):Ca Tryz.prog 41 #[a] b c:=cj Tryz.func41 j
def SR{a b:Value}{c:World}{d:cm}(h0:gq 41 b c λe f=>ga 32 f λg h=>Ca Tryz.prog 40 #[a] h λi j=>gt i j λk l=>cC k (Ca Tryz.prog 41 #[(gI 1)] l λm n=>gs 32 g m n λo=>df 32 g o λp=>d p o) (gx (dm 41 e) l λq r=>Ca Tryz.prog 42 #[q] r λs t=>gt s t λu v=>cC u (Ca Tryz.prog 41 #[(gI 160)] v λw x=>gs 32 g w x λy=>df 32 g y λz=>d z y) (Ca Tryz.prog 43 #[a] v λA B=>gx (dm 41 e) B λC D=>Ca Tryz.prog 44 #[A,C] D λE F=>kU E F λG H I=>gv 32 G I λJ K=>gb .neq 26 true H (gI 0) K λL M=>cC L (Ca Tryz.prog 41 #[H] M λN O=>gs 32 g N O λP=>df 32 g P λQ=>d Q P) (cF A λR=>gl 66 R M λS T=>cF a λU=>gs 66 U S T λV=>gl 32 J V λW X=>gs 32 g W X λY=>df 32 g Y λZ=>d Z Y)))):Ca Tryz.prog 12 #[a,b] c d:=cj Tryz.func12 h0
def O9(a:Value)(b:cm)(c:T1)(d:World):=NV->gl 32 a d λe f=>gs 32 a e f λg=>df 32 a g λh=>b (.tuple #[h,c.1]) g
def PN(a:Value)(b:cm)(c:T1->Wp)(d:T2)(e:T1)(f:World):=NV->gb .neq 26 true e.1 (gI 0) f λg h=>cC g (gl 32 a h λi j=>gs 32 a i j λk=>df 32 a k λl=>b (.tuple #[l,e.1]) k) (c (d.2.1,()) h)
def Pe(a b c:Value)(d:T1->Wp)(e:T1)(f:World):=NV->cI 41 a 1 35 f λg h=>cI 41 a 2 35 h λi j=>Ca Tryz.prog 124 #[b,g,i] j λk l=>fZ 32 c 5 29 k l λm=>d (e.1,()) m
def NA(a b:Value)(c:T2)(d:cm)(e:Unit)(f:World):=NV->df 32 a f.drew λg=>cF b λh=>en 66 h 1 62 f.drew λi=>df 92 c.1 f.drew λj=>Ca Tryz.prog 125 #[i,j] f.drew λk l=>gk 32 a g l/\(gs 32 a g l λm=>df 32 a m λn=>d (.tuple #[n,k]) m)
def Qs(a:Value)(b:cm)(c:T1)(d:World):=NV->gl 32 a d λe f=>gs 32 a e f λg=>df 32 a g λh=>b (.tuple #[h,(gI 0)]) g
def Nz(a:Value)(b:cm)(c d:Value)(e:T2)(f:World):=NV->gb .neq 26 true e.2.1 (gI 0) f λg h=>cC g (gl 32 a h λi j=>gs 32 a i j λk=>df 32 a k λl=>b (.tuple #[l,e.2.1]) k) (cy (S:=T1) (λm=>cI 41 c 0 34 h λn o=>gb .eql 34 true n (.int .u8 5) o λp q=>cC p (gx (dm 41 c) q λr s=>Ca Tryz.prog 121 #[d,r] s λt u=>kU t u λv w x=>gs 32 a v x λy=>df 32 a y λz=>b (.tuple #[z,w]) y) (gb .eql 34 true n (.int .u8 9) q λA B=>cC A (gx (dm 41 c) B λC D=>Ca Tryz.prog 122 #[d,C] D λE F=>kU E F λG H I=>gs 32 a G I λJ=>df 32 a J λK=>b (.tuple #[K,H]) J) (gb .eql 34 true n (.int .u8 8) B λL M=>cC L (cy (S:=T1) (λN=>cI 41 c 2 35 M λO P=>gb .neq 35 true O (.int .u32 0) P λQ R=>cC Q (cy (S:=T1) (λS=>cF d λT=>dP 66 T 0 λU=>df 61 U R.drew λV=>dP 41 c 2 λW=>df 35 W R.drew λX=>(Ca Tryz.prog 123 #[V,X] R.drew λY Z=>gp (Instr.extract Y 0) λaa=>gp (Instr.extract Y 1) λab=>gx (ic 108) Z λac ad=>fV Tryz.prog (ej 108 ac aa) ad λae=>S (ab,()) ae)/\(gx (ic 108) R.drew λaf ag=>gk 35 W X ag/\gk 61 U V ag/\(Ca Tryz.prog 123 #[V,X] ag λah ai=>gp (Instr.extract ah 0) λaj=>gp (Instr.extract ah 1) λak=>fV Tryz.prog (ej 108 af aj) ai λal=>S (ak,()) al))) (PN a b N e)) (N (e.2.1,()) R)) (Pe c d a m)) (gb .eql 34 true n (.int .u8 10) M λam an=>cC am (cI 41 c 6 4 an λao ap=>fZ 92 e.1 2 4 ao ap λaq=>cy (S:=Unit) (λar=>cI 41 c 6 4 aq λau av=>cC au (cI 41 c 1 35 av λaw ax=>Ca Tryz.prog 124 #[d,aw,(.int .u32 0)] ax λay az=>fZ 32 a 5 29 ay az λaA=>ar (()) aA) (ar (()) av)) (NA a d e b)) (gb .eql 34 true n (.int .u8 13) an λaB aC=>cC aB (gl 92 e.1 aC λaD aE=>Ca Tryz.prog 126 #[d,aD] aE λaF aG=>kU aF aG λaH aI aJ=>gs 32 a aH aJ λaK=>df 32 a aK λaL=>b (.tuple #[aL,aI]) aK) (m (e.2.1,()) aC)))))) (Qs a b))
def QZ{a b:Value}{c:World}{d:cm}(h0:gq 41 b c λe f=>ga 32 f λg h=>cI 41 e 0 34 h λi j=>gb .eql 34 true i (.int .u8 1) j λk l=>cC k (df 32 g l.drew λm=>cF a λn=>en 66 n 1 62 l.drew λo=>en 41 e 1 35 l.drew λp=>en 41 e 4 2 l.drew λq=>Ca Tryz.prog 112 #[o,p,q] l.drew λr s=>gk 32 g m s/\(gs 32 g m s λt=>df 32 g t λu=>d (.tuple #[u,r]) t)) (gb .eql 34 true i (.int .u8 2) l λv w=>cC v (df 32 g w.drew λx=>iw Tryz.prog (dm 41 e) w.drew λy=>Ca Tryz.prog 113 #[a,y] w.drew λz A=>gk 32 g x A/\(gs 32 g x A λB=>df 32 g B λC=>d (.tuple #[C,z]) B)) (gb .eql 34 true i (.int .u8 3) w λD E=>cC D (cy (S:=T1) (λF=>cF a λG=>en 66 G 0 61 E.drew λH=>dP 41 e 5 λI=>iw Tryz.prog (dm 38 I) E.drew λJ=>Ca Tryz.prog 114 #[H,J] E.drew λK L=>gb .eql 26 true K (gI 0) L λM N=>cC M (cF a λO=>dP 66 O 2 λP=>df 63 P N.drew λQ=>dP 41 e 5 λR=>dP 38 R 0 λS=>df 35 S N.drew λT=>Ca Tryz.prog 48 #[] N.drew λU V=>gk 35 S T V/\gk 63 P Q V/\(fV Tryz.prog (gR 63 Q T U) V λW=>F (K,()) W)) (F (K,()) N)) (O9 g d)) (gb .eql 34 true i (.int .u8 4) E λX Y=>cC X (df 32 g Y.drew λZ=>cF a λaa=>en 66 aa 0 61 Y.drew λab=>en 41 e 2 35 Y.drew λac=>en 41 e 6 4 Y.drew λad=>Ca Tryz.prog 115 #[ab,ac,ad] Y.drew λae af=>gk 32 g Z af/\(gs 32 g Z af λag=>df 32 g ag λah=>d (.tuple #[ah,ae]) ag)) (gb .eql 34 true i (.int .u8 11) Y λai aj=>cC ai (df 32 g aj.drew λak=>cF a λal=>en 66 al 0 61 aj.drew λam=>en 41 e 2 35 aj.drew λan=>en 41 e 9 2 aj.drew λao=>Ca Tryz.prog 116 #[am,an,ao] aj.drew λap aq=>gk 32 g ak aq/\(gs 32 g ak aq λar=>df 32 g ar λau=>d (.tuple #[au,ap]) ar)) (gb .eql 34 true i (.int .u8 12) aj λav aw=>cC av (Ca Tryz.prog 117 #[a] aw λax ay=>kU ax ay λaz aA aB=>gs 32 g az aB λaC=>df 32 g aC λaD=>d (.tuple #[aD,aA]) aC) (gb .eql 34 true i (.int .u8 14) aw λaE aF=>cC aE (cI 41 e 2 35 aF λaG aH=>Ca Tryz.prog 118 #[a,aG] aH λaI aJ=>kU aI aJ λaK aL aM=>gs 32 g aK aM λaN=>df 32 g aN λaO=>d (.tuple #[aO,aL]) aN) (cI 41 e 1 35 aF λaP aQ=>gb .eql 35 true aP (.int .u32 0) aQ λaR aS=>cC aR (gl 32 g aS λaT aU=>gs 32 g aT aU λaV=>df 32 g aV λaW=>d (.tuple #[aW,(gI 2)]) aV) (cI 41 e 0 34 aS λaX aY=>gb .eql 34 true aX (.int .u8 6) aY λaZ a0=>cC aZ (gx (dm 41 e) a0 λa1 a2=>Ca Tryz.prog 119 #[a,a1] a2 λa3 a4=>kU a3 a4 λa5 a6 a7=>gs 32 g a5 a7 λa8=>df 32 g a8 λa9=>d (.tuple #[a9,a6]) a8) (gb .eql 34 true aX (.int .u8 7) a0 λba bb=>cC ba (gx (dm 41 e) bb λbc bd=>Ca Tryz.prog 120 #[a,bc] bd λbe bf=>kU be bf λbg bh bi=>gs 32 g bg bi λbj=>df 32 g bj λbk=>d (.tuple #[bk,bh]) bj) (cy (S:=T2) (λbl=>cF a λbm=>dP 66 bm 1 λbn=>df 62 bn bb.drew λbo=>dP 41 e 1 λbp=>df 35 bp bb.drew λbq=>(Ca Tryz.prog 52 #[bo,bq] bb.drew λbr bs=>gp (Instr.extract br 0) λbt=>gp (Instr.extract br 1) λbu=>gv 92 bt bs λbv bw=>bl (bv,bu,()) bw)/\(ga 92 bb.drew λbx bz=>gk 35 bp bq bz/\gk 62 bn bo bz/\(Ca Tryz.prog 52 #[bo,bq] bz λbA bB=>gp (Instr.extract bA 0) λbC=>gp (Instr.extract bA 1) λbD=>gs 92 bx bC bB λbE=>bl (bx,bD,()) bE))) (Nz g d e a)))))))))))):Ca Tryz.prog 44 #[a,b] c d:=cj Tryz.func44 h0
def D1(a b:Value)(c:T1)(d:Value)(e:Wp)(f:T1)(g:World)(h:T1->Wp):=NV->gb .lss 3 false f.1 a g λi j=>cC i (kv 133 b f.1 117 j λk l=>gv 117 k l λm n=>cI 49 c.1 7 47 n λo p=>gl 35 d p λq r=>gl 117 m r λs t=>gr (Instr.build 119 #[(0,q),(1,s)]) t λu v=>gx (dQ 47 1 [(0,u)]) v λw x=>gx (cx #[47,47] 47 [o,w]) x λy z=>fZ 49 c.1 7 47 y z λA=>gb .add 3 true f.1 (gI 1) A λB C=>h (B,()) C) (e j)
def ES(a:T1)(b:Value)(c:Nat)(d:List Value)(e:World)(f:Wp)(g:Code->Wp):=gv 117 (d.getD 0 undef) e λh i=>iK c i λj=>cI 49 a.1 6 47 j λk l=>gl 35 b l λm n=>gl 117 h n λo p=>gr (Instr.build 119 #[(0,m),(1,o)]) p λq r=>gx (dQ 47 1 [(0,q)]) r λs t=>gx (cx #[47,47] 47 [k,s]) t λu v=>fZ 49 a.1 6 47 u v f
def Ee(a b:Value)(c:T1)(d:Wp)(e:Code->Wp)(f:List Nat)(g:Option Code)(h:World):=fk (λi=>df 23 a i.drew λj=>cF j λk=>en 66 k 3 64 i.drew λl=>df 35 b i.drew λm=>iw Tryz.prog (fA 64 l m false) i.drew λn=>gw (Builtin.len_ #[133] 3 #[n]) i.drew λo=>cO (S:=T1) (D1 o n c b d) ((gI 0),()) i.drew) (λp=>e .ret p) (λq r=>bc (Nat.beq q 4) (df 23 a r.drew λs=>cF s λt=>en 66 t 3 64 r.drew λu=>df 35 b r.drew λv=>iw Tryz.prog (fA 64 u v false) r.drew λw=>gw (Builtin.len_ #[133] 3 #[w]) r.drew λx=>cO (S:=T1) (D1 x w c b d) ((gI 0),()) r.drew) (bc (Nat.beq q 1) (d r) (e (.exit q) r))) g h
def KF(a:T1)(b:Nat)(c:List Value)(d:World)(e:Wp)(f:Code->Wp):=gv 112 (c.getD 0 undef) d λg h=>iK b h λi=>cI 49 a.1 5 46 i λj k=>gl 112 g k λl m=>gx (dQ 46 1 [(0,l)]) m λn o=>gx (cx #[46,46] 46 [j,n]) o λp q=>fZ 49 a.1 5 46 p q e
def K7(a b:Value)(c:Nat)(d:T1)(e:Wp)(f:Code->Wp)(g:List Nat)(h:Option Code)(i:World):=fk (λj=>df 23 a j.drew λk=>cF k λl=>en 66 l 2 63 j.drew λm=>df 35 b j.drew λn=>iw Tryz.prog (fA 63 m n false) j.drew λo=>Ca Tryz.prog 57 #[o] j.drew λp q=>xR Tryz.prog (some c) p q 1 (ES d b) (Ee a b d e f)) (λr=>f .ret r) (λs t=>bc (Nat.beq s 2) (df 23 a t.drew λu=>cF u λv=>en 66 v 2 63 t.drew λw=>df 35 b t.drew λx=>iw Tryz.prog (fA 63 w x false) t.drew λy=>Ca Tryz.prog 57 #[y] t.drew λz A=>xR Tryz.prog (some c) z A 1 (ES d b) (Ee a b d e f)) (bc (Nat.beq s 1) (e t) (f (.exit s) t))) h i
def Ei(a:T1)(b:Value)(c:Nat)(d:List Value)(e:World)(f:Wp)(g:Code->Wp):=gx (ic 108) e λh i=>fV Tryz.prog (ej 108 h (d.getD 0 undef)) i λj=>iK c j λk=>gf 108 h 0 k λl m=>cI 38 l 0 35 m λn o=>gv 35 n o λp q=>cI 49 a.1 4 45 q λr s=>gx (dm 108 h) s λt u=>gx (dQ 45 1 [(0,t)]) u λv w=>gx (cx #[45,45] 45 [r,v]) w λx y=>fZ 49 a.1 4 45 x y λz=>df 23 b z.drew λA=>cF A λB=>en 66 B 1 62 z.drew λC=>df 35 p z.drew λD=>Ca Tryz.prog 56 #[C,D] z.drew λE F=>xR Tryz.prog (some c) E F 1 (KF a) (K7 b p c a f g)
def EF(a:T1)(b:Value)(c:cm)(d:List Nat)(e:Option Code)(f:World):=fk (λg=>gl 49 a.1 g λh i=>gs 49 b h i λj=>jC (d++[]) j λk=>df 49 b k λl=>c l k) (λm=>jC (d++[]) m λn=>df 49 b n λo=>c o n) (λp q=>bc (Nat.beq p 0) (gl 49 a.1 q λr s=>gs 49 b r s λt=>jC (d++[]) t λu=>df 49 b u λv=>c v u) (False)) e f
def EE(a b:Value)(c:cm)(d:T1)(e:World):=NV->gl 23 a e λf g=>cF f λh=>cI 66 h 0 61 g λi j=>Ca Tryz.prog 47 #[i] j λk l=>xR Tryz.prog none k l 1 (Ei d a) (EF d b c)
def RI{a:Value}{b:World}{c:cm}(h0:gq 23 a b λd e=>ga 49 e λf g=>gl 23 d g λh i=>Ca Tryz.prog 40 #[h] i λj k=>gt j k λl m=>cC l (gr (Instr.build 49 #[]) m λn o=>gs 49 f n o λp=>df 49 f p λq=>c q p) (gl 23 d m λr s=>cF r λt=>cI 66 t 1 62 s λu v=>Ca Tryz.prog 52 #[u,(.int .u32 0)] v λw x=>kU w x λy z A=>gv 92 y A λB C=>cy (S:=T1) (λD=>df 23 d C.drew λE=>cF E λF=>dP 66 F 0 λG=>df 61 G C.drew λH=>df 23 d C.drew λI=>cF I λJ=>dP 66 J 4 λK=>df 27 K C.drew λL=>dP 92 B 1 λM=>df 2 M C.drew λN=>df 23 d C.drew λO=>cF O λP=>dP 66 P 1 λQ=>df 62 Q C.drew λR=>(Ca Tryz.prog 53 #[H] C.drew λS T=>gk 62 Q R T/\gk 23 d O T/\gk 2 M N T/\gk 27 K L T/\gk 23 d I T/\((Ca Tryz.prog 55 #[R] T λU V=>gk 2 M N V/\gk 27 K L V/\gk 23 d I V/\((Ca Tryz.prog 54 #[U] V λW X=>gk 2 M N X/\gk 27 K L X/\gk 23 d I X/\(gp (Instr.build 49 #[(0,S),(1,L),(2,N),(3,W)]) λY=>ga 49 X λZ aa=>gk 2 M N aa/\gk 27 K L aa/\gk 23 d I aa/\(gs 49 Z Y aa λab=>D (Z,()) ab)))/\(ga 49 V λac ad=>gk 2 M N ad/\gk 27 K L ad/\gk 23 d I ad/\(Ca Tryz.prog 54 #[U] ad λae af=>gk 2 M N af/\gk 27 K L af/\gk 23 d I af/\(gp (Instr.build 49 #[(0,S),(1,L),(2,N),(3,ae)]) λag=>gs 49 ac ag af λah=>D (ac,()) ah)))))/\(ga 49 T λai aj=>gk 62 Q R aj/\gk 23 d O aj/\gk 2 M N aj/\gk 27 K L aj/\gk 23 d I aj/\(Ca Tryz.prog 55 #[R] aj λak al=>gk 2 M N al/\gk 27 K L al/\gk 23 d I al/\(Ca Tryz.prog 54 #[ak] al λam an=>gk 2 M N an/\gk 27 K L an/\gk 23 d I an/\(gp (Instr.build 49 #[(0,S),(1,L),(2,N),(3,am)]) λao=>gs 49 ai ao an λap=>D (ai,()) ap))))))/\(ga 49 C.drew λaq ar=>gk 62 Q R ar/\gk 23 d O ar/\gk 2 M N ar/\gk 27 K L ar/\gk 23 d I ar/\gk 61 G H ar/\gk 23 d E ar/\(Ca Tryz.prog 53 #[H] ar λau av=>gk 62 Q R av/\gk 23 d O av/\gk 2 M N av/\gk 27 K L av/\gk 23 d I av/\(Ca Tryz.prog 55 #[R] av λaw ax=>gk 2 M N ax/\gk 27 K L ax/\gk 23 d I ax/\(Ca Tryz.prog 54 #[aw] ax λay az=>gk 2 M N az/\gk 27 K L az/\gk 23 d I az/\(gp (Instr.build 49 #[(0,au),(1,L),(2,N),(3,ay)]) λaA=>gs 49 aq aA az λaB=>D (aq,()) aB)))))) (EE d f c))):Ca Tryz.prog 14 #[a] b c:=cj Tryz.func14 h0
def xn(a:T2)(b:T2->Wp)(c:T1)(d:World):=NV->gb .add 3 true a.2.1 (gI 1) d λe f=>b (c.1,e,()) f
def SF{a:Value}{b:World}{c:cm}(h:Ca Tryz.prog 137 #[(.slice none 0 0),a] b c):Ca Tryz.prog 54 #[a] b c:=cj Tryz.func54 h
def GD(a:Value)(b:Nat)(c:List Value)(d:World)(e:Wp)(f:Code->Wp):=gv 92 (c.getD 0 undef) d λg h=>iK b h λi=>gl 44 a i λj k=>gl 92 g k λl m=>gx (dQ 44 1 [(0,l)]) m λn o=>gx (cx #[44,44] 44 [j,n]) o λp q=>gs 44 a p q e
def Ey(a:Value)(b:cm)(c:List Nat)(d:Option Code)(e:World):=fk (λf=>gl 44 a f λg h=>jC (c++[]) h λi=>b g i) (λj=>jC (c++[]) j λk=>b (.slice none 0 0) k) (λl m=>bc (Nat.beq l 0) (gl 44 a m λn o=>jC (c++[]) o λp=>b n p) (False)) d e
def OG{a b:Value}{c:World}{d:cm}(h:gq 44 a c λe f=>xR Tryz.prog none b f 1 (GD e) (Ey e d)):Ca Tryz.prog 137 #[a,b] c d:=cj Tryz.func137 h
end Go.Proofs
namespace Go.Proofs
open Go Go.Vc
attribute [local congr] cq
section
variable{w:World}{gv:Value}{α:Type}{xs:List α}{fv:α->Value}{asg:Value->World->(Value->World->Prop)->Prop}{Pv:α->Value->Nat->World->Prop}{body:Nat->Value->World->(World->Prop)->(Code->World->Prop)->Prop}{after:List Nat->Option Code->World->Prop}{X0:Nat->Prop}
def Iu(ht:jy gv (xs.map λa=>[fv a]) w)(hasg:∀a∈xs,∀(W:World) (K:Value->World->Prop),(∀P v,Pv a v W.heap.size P->cl (λ_=>False) W P->K v P)->asg (fv a) W K)
  (hPv:∀a v q W k H,Pv a v q W->cl H W k->¬H q->Pv a v q k)
  (I:(Nat->Prop)->Nat->World->Prop)(Ex:Code->(Nat->Prop)->World->Prop)
  (E:∀X i W k H,I X i W->cl H W k->(∀b,X b->¬H b)->I X i k)
  (hsx:∀c X W k H,Ex c X W->cl H W k->(∀b,X b->¬H b)->Ex c X k)
  (S:∀b,X0 b->b<w.heap.size)(h0:I X0 0 w)
  (G:∀X i (hi:i<xs.length) W q v,I X i W->cl X0 w W->(∀b,X b->b<q/\(X0 b\/w.heap.size+1<b))->w.heap.size+1<q->q<=W.heap.size->Pv xs[i] v q W->(∃r,hp W (w.heap.size+1)=some (.loop r))->∀KN KJ,
   (∀y k,I y (i+1) k->cl (λb=>X b\/q<=b) W k->(∀b,y b->(X b\/W.heap.size<=b)/\b<k.heap.size)->KN k)->
   (∀c y k,Ex c y k->cl (λb=>X b\/q<=b) W k->(∀b,y b->(X b\/W.heap.size<=b)/\b<k.heap.size)->KJ c k)->body (w.heap.size+1) v W KN KJ)
  (hend:∀X W d,d=w.heap.size->I X xs.length W->cl X0 w W->hp W d=some (.deferred (some []))->(∀b,X b->b<W.heap.size/\(X0 b\/d+1<b))->after [d] none W)
  (hexit:∀c X W d,d=w.heap.size->Ex c X W->cl X0 w W->hp W d=some (.deferred (some []))->(∀b,X b->b<W.heap.size/\(X0 b\/d+1<b))->after [d] (some c) W):
  xR Tryz.prog none gv w 1 (λl x W KN KJ=>asg (x.getD 0 undef) W λv P=>iK l P λw3=>body l v w3 KN KJ) after:=by
 obtain⟨⟨Ok,hit,hok⟩,-⟩:=ht;obtain⟨f,first,captured,rfl,hit0⟩:=hit.out;refine mi.2 ?_;show∀m:Loop,_;intro m s N hD hY;obtain⟨d,z⟩:∃d,d=w.heap.size:=⟨_,rfl⟩
 rw[<-z]at G;have Y:(w.alloc (.deferred (some []))).heap.size=d+1:=by rw[World.size_alloc,z]
 obtain⟨wr,L⟩:∃wr,wr=(w.alloc (.deferred (some []))).alloc (.loop m):=⟨_,rfl⟩
 have V:wr.heap[d+1]? =some (.loop m):=by rw[L,cU,if_pos Y.symm]
 have hszr:wr.heap.size=d+2:=by rw[L,World.size_alloc,Y]
 have Z:hp wr d=some (.deferred (some [])):=by rw[L];simp[go_sem,z]
 have hmr:cl (λ_=>False) w wr:=by rw[L];exact((cl.refl _ w).alloc _).alloc _
 have p:∀(W:World) (o:Obj),cl (λb=>b=d+1) W (W.putObj (d+1) o):=λW o=>(cl.refl (λb=>b=d+1) W).putObj (b:=d+1) (.inl rfl) o;rw[Y]at hY|-;rw[<-L];let J:(Nat->Prop)->Nat->World->Prop:=λQ i W=>∃X,I X i W/\cl X0 w W/\hp W d=some (.deferred (some []))/\(∀b,X b->b<W.heap.size/\(X0 b\/d+1<b)/\¬Q b)/\W.heap[d+1]? =some (.loop m)/\∀b,Q b->d+1<b/\b<W.heap.size;let Js:(Nat->Prop)->World->Prop:=λQ W=>∃c X r,Ex c X W/\cl X0 w W/\hp W d=some (.deferred (some []))/\(∀b,X b->b<W.heap.size/\(X0 b\/d+1<b)/\¬Q b)/\W.heap[d+1]? =some (.loop r)/\(∀b,Q b->d+1<b/\b<W.heap.size)/\r.state=.done/\r.pending=some c;refine hit0 _ J Js _ _ (hok _ hmr) ?_ ?_ ?_ ?_ ?_ ?_
 ·intro Q W1 j hQ;refine⟨X0,E _ _ _ _ _ h0 (hmr.trans j) λ_ _ h=>h,(hmr.trans j).mono λ_ _ h=>h.elim,j.hpk Z id,λb g=>?_,j.keep V id,λb g=>?_⟩
  ·have h1:=S b g;have M:=j.size;exact⟨by omega,.inl g,λU=>by have:=(hQ b U).1;omega⟩
  ·have:=hQ b g;omega
 ·rintro Q Q' i W k ⟨X,h1,M,R,n,C,B⟩ j O;have hl:=cn C;refine⟨X,E _ _ _ _ _ h1 j λb g=>(n b g).2.2,M.on j λb g=>.inr (by have:=B b g;omega),j.hpk R λg=>by have:=B _ g;omega,λb g=>?_,j.keep C λg=>by have:=B _ g;omega,λb g=>?_⟩
  ·have u:=n b g;refine⟨Nat.lt_of_lt_of_le u.1 j.size,u.2.1,λU=>?_⟩;rcases(O b U).1 with h|h
   ·exact u.2.2 h
   ·have:=u.1;omega
  ·have u:=O b g;refine⟨?_,u.2⟩;rcases u.1 with h|h
   ·exact(B b h).1
   ·omega
 ·rintro Q Q' W k ⟨c,X,r,h1,M,R,n,C,B,h7⟩ j O;have hl:=cn C;refine⟨c,X,r,hsx _ _ _ _ _ h1 j λb g=>(n b g).2.2,M.on j λb g=>.inr (by have:=B b g;omega),j.hpk R λg=>by have:=B _ g;omega,λb g=>?_,j.keep C λg=>by have:=B _ g;omega,λb g=>?_,h7⟩
  ·have u:=n b g;refine⟨Nat.lt_of_lt_of_le u.1 j.size,u.2.1,λU=>?_⟩;rcases(O b U).1 with h|h
   ·exact u.2.2 h
   ·have:=u.1;omega
  ·have u:=O b g;refine⟨?_,u.2⟩;rcases u.1 with h|h
   ·exact(B b h).1
   ·omega
 ·rintro Q i x W D ⟨X,h1,M,R,n,C,B⟩ K' hT hF;refine iQ.2 ?_;show Yl Tryz.prog (d+1) ⟨_⟩ W K';have e1:(#[]:Array Value).toList++x=x:=rfl;rw[e1]
  obtain⟨hi,rfl⟩:∃hi:i<xs.length,x=[fv xs[i]]:=by
   rw[List.getElem?_map]at D;cases hh:xs[i]? with
   |none=>rw[hh]at D;cases D
   |some o=>
    obtain⟨hj,he⟩:=List.getElem?_eq_some_iff.1 hh;rw[hh]at D;exact⟨hj,by rw[he];exact(Option.some.inj D).symm⟩
  refine hY _ W K' rfl ⟨m.state,m.pending,C⟩ ?_;obtain⟨q,hq0⟩:∃q,q=W.heap.size:=⟨_,rfl⟩
  refine hasg xs[i] (List.getElem_mem hi) W _ λP v v3 v4=>?_;rw[<-hq0]at v3;have r2:P.heap[d+1]? =some (.loop m):=v4.keep C id;refine lM r2 s ?_;have m3:=p P (.loop {m with state:=.busy});have r3:(P.putObj (d+1) (.loop {m with state:=.busy})).heap[d+1]? =some (.loop {m with state:=.busy}):=by rw[db,if_pos rfl,r2];rfl
  generalize P.putObj (d+1) (.loop {m with state:=.busy})=w3 at m3 r3|-;have hdl:d+1<q:=by rw[hq0];exact cn C
  have q3:=hPv _ _ _ _ _ _ v3 m3 (by omega);have hw3:=m3.size;have hw4:=v4.size;have M3:cl (λb=>b=d+1) W w3:=(v4.mono λ_ _ h=>h.elim).trans m3;have hXq:∀b,X b->b<q/\(X0 b\/d+1<b):=λb g=>⟨by have:=(n b g).1;omega,(n b g).2.1⟩
  have t:∀b,X b->b≠d+1/\b≠d:=λb g=>by
   rcases(n b g).2.1 with h|h
   ·have:=S b h;omega
   ·omega
  have F:∀(k:World) (y:Nat->Prop) (o:Obj),cl (λb=>X b\/q<=b) w3 k->(∀b,y b->(X b\/w3.heap.size<=b)/\b<k.heap.size)->
    cl X0 w (k.putObj (d+1) o)/\hp (k.putObj (d+1) o) d=some (.deferred (some []))/\(∀b,y b->b<(k.putObj (d+1) o).heap.size/\(X0 b\/d+1<b)/\¬Q b)/\(∀b,Q b->d+1<b/\b<(k.putObj (d+1) o).heap.size)/\
    (∀b,Q b->(k.putObj (d+1) o).heap[b]? =W.heap[b]?)/\W.heap.size<=(k.putObj (d+1) o).heap.size/\k.heap[d+1]? =some (.loop {m with state:=.busy}):=by
   intro k y o j A;have T:=p k o;have hsW:=j.size;have hsP:=T.size;refine⟨?_,T.hpk (j.hpk (m3.hpk (v4.hpk R id) (by omega)) λg=>g.elim (λg=>(t _ g).2 rfl) λg=>by omega) (by omega),λb g=>?_,λb g=>?_,λb g=>?_,by omega,j.keep r3 λg=>g.elim (λg=>(t _ g).1 rfl) λg=>by omega⟩
   ·refine(((M.on M3 λb g=>.inr (by omega)).on j λb g=>?_)).on T λb g=>.inr (by omega);rcases g with g|g
    ·rcases(n b g).2.1 with h|h
     ·exact .inl h
     ·exact .inr (by omega)
    ·exact .inr (by omega)
   ·have u:=A b g;refine⟨by omega,?_,λU=>?_⟩
    ·rcases u.1 with h|h
     ·exact(n b h).2.1
     ·exact .inr (by omega)
    ·rcases u.1 with h|h
     ·exact(n b h).2.2 U
     ·have:=(B b U).2;omega
   ·have:=B b g;omega
   ·have hb' :=B b g;rw[T.blk b (by omega) (by omega),j.blk b (by omega) λD=>D.elim (λD=>(n b D).2.2 g) λD=>by omega,M3.blk b hb'.2 (by omega)]
  refine G X i hi w3 q v (E _ _ _ _ _ h1 M3 λb g=>(t b g).1) (M.on M3 λb g=>.inr (by omega)) hXq (by omega) (by omega) q3 ⟨_,r3⟩ _ _ ?_ ?_
  ·intro y k hI' j A;obtain⟨k1,k2,k3,k4,k5,k6,k7⟩:=F k y (.loop {{m with state:=.busy}with state:=.ready,pending:=none}) j A;refine⟨_,k7,hT _ ⟨y,?_,k1,k2,k3,?_,k4⟩ k6 k5⟩
   ·refine E _ _ _ _ _ hI' (p k _) λb g e=>?_;rcases(A b g).1 with h|h
    ·exact(t b h).1 e
    ·omega
   ·rw[db,if_pos rfl,k7];simp[<-s,<-N]
  ·intro c y k hI' j A;obtain⟨k1,k2,k3,k4,k5,k6,k7⟩:=F k y (.loop {{m with state:=.busy}with state:=.done,pending:=some c}) j A;refine⟨_,k7,hF _ ⟨c,y,{m with state:=.done,pending:=some c},?_,k1,k2,k3,?_,k4,rfl,rfl⟩ k6 k5⟩
   ·refine hsx _ _ _ _ _ hI' (p k _) λb g e=>?_;rcases(A b g).1 with h|h
    ·exact(t b h).1 e
    ·omega
   ·rw[db,if_pos rfl,k7];rfl
 ·rintro Q W ⟨X,h1,M,R,n,C,B⟩;refine⟨m,C,by rw[s];decide,?_⟩;rw[<-z];have j:=p W (.loop {m with state:=.exhausted});generalize W.putObj (d+1) (.loop {m with state:=.exhausted})=W8 at j|-;rw[N]
  have t:∀b,X b->b≠d+1:=λb g=>by
   rcases(n b g).2.1 with h|h
   ·have:=S b h;omega
   ·omega
  refine hend X _ d z ?_ (M.on j λb g=>.inr (by omega)) (j.hpk R (by omega)) λb g=>⟨Nat.lt_of_lt_of_le (n b g).1 j.size,(n b g).2.1⟩
  have D:I X xs.length W:=by have:=h1;rwa[List.length_map]at this
  exact E _ _ _ _ _ D j λb g=>t b g
 ·rintro Q W ⟨c,X,r,h1,M,R,n,C,B,h7,h8⟩;refine⟨r,C,by rw[h7];decide,?_⟩;rw[<-z];have j:=p W (.loop {r with state:=.exhausted});generalize W.putObj (d+1) (.loop {r with state:=.exhausted})=W8 at j|-;rw[h8]
  have t:∀b,X b->b≠d+1:=λb g=>by
   rcases(n b g).2.1 with h|h
   ·have:=S b h;omega
   ·omega
  exact hexit c X _ d z (hsx _ _ _ _ _ h1 j λb g=>t b g) (M.on j λb g=>.inr (by omega)) (j.hpk R (by omega)) λb g=>⟨Nat.lt_of_lt_of_le (n b g).1 j.size,(n b g).2.1⟩
def Fg(D:jy gv (xs.map λa=>[fv a]) w)(s:∀a∈xs,∀(W:World) (K:Value->World->Prop),(∀t v,Pv a v W.heap.size t->cl (λ_=>False) W t->K v t)->asg (fv a) W K)
  (A:∀a v q W e H,Pv a v q W->cl H W e->¬H q->Pv a v q e)
  (I:(Nat->Prop)->Nat->World->Prop)(p:Code->(Nat->Prop)->World->Prop)
  (y:∀X i W e H,I X i W->cl H W e->(∀b,X b->¬H b)->I X i e)
  (z:∀c X W e H,p c X W->cl H W e->(∀b,X b->¬H b)->p c X e)
  (u:∀b,X0 b->b<w.heap.size)(E:I X0 0 w)
  (g:∀X i (hi:i<xs.length) W q v,I X i W->cl X0 w W->(∀b,X b->b<q/\(X0 b\/w.heap.size+1<b))->w.heap.size+1<q->q<=W.heap.size->Pv xs[i] v q W->(∃r,hp W (w.heap.size+1)=some (.loop r))->∀k n,
   (∀f e,I f (i+1) e->cl X W e->(∀b,f b->(X b\/W.heap.size<=b)/\b<e.heap.size)->k e)->
   (∀c f e,p c f e->cl X W e->(∀b,f b->(X b\/W.heap.size<=b)/\b<e.heap.size)->n c e)->body (w.heap.size+1) v W k n)
  (o:∀X W d,d=w.heap.size->I X xs.length W->cl X0 w W->hp W d=some (.deferred (some []))->(∀b,X b->b<W.heap.size/\(X0 b\/d+1<b))->after [d] none W)
  (j:∀c X W d,d=w.heap.size->p c X W->cl X0 w W->hp W d=some (.deferred (some []))->(∀b,X b->b<W.heap.size/\(X0 b\/d+1<b))->after [d] (some c) W):
  xR Tryz.prog none gv w 1 (λl x W k n=>asg (x.getD 0 undef) W λv t=>iK l t λB=>body l v B k n) after:=
 Iu D s A I p y z u E (λX i hi W q v M N F J G L C k n k1 k2=>g X i hi W q v M N F J G L C k n (λf e x m h=>k1 f e x (m.mono λ_ _ h=>.inl h) h) λc f e x m h=>k2 c f e x (m.mono λ_ _ h=>.inl h) h) o j
def KR{l0:Nat}(hl0:∃r,hp w l0=some (.loop r))(ht:jy gv (xs.map λa=>[fv a]) w)(hasg:∀a∈xs,∀(W:World) (K:Value->World->Prop),(∀N v,Pv a v W.heap.size N->cl (λ_=>False) W N->K v N)->asg (fv a) W K)
  (hPv:∀a v q W j H,Pv a v q W->cl H W j->¬H q->Pv a v q j)
  (I:(Nat->Prop)->Nat->World->Prop)(Ex:Code->(Nat->Prop)->World->Prop)
  (C:∀X i W j H,I X i W->cl H W j->(∀b,X b->¬H b)->I X i j)
  (hsx:∀c X W j H,Ex c X W->cl H W j->(∀b,X b->¬H b)->Ex c X j)
  (S:∀b,X0 b->b<w.heap.size)(h0:I X0 0 w)
  (E:∀X i (hi:i<xs.length) W q v,I X i W->cl X0 w W->(∀b,X b->b<q/\(X0 b\/w.heap.size<b))->w.heap.size<q->q<=W.heap.size->Pv xs[i] v q W->∀KN KJ,
   (∀y j,I y (i+1) j->cl X W j->(∀b,y b->(X b\/W.heap.size<=b)/\b<j.heap.size)->KN j)->
   (∀c y j,Ex c y j->cl X W j->(∀b,y b->(X b\/W.heap.size<=b)/\b<j.heap.size)->KJ c j)->body w.heap.size v W KN KJ)
  (T:∀X W,I X xs.length W->cl X0 w W->(∀b,X b->b<W.heap.size/\(X0 b\/w.heap.size<b))->after [] none W)
  (L:∀c X W,Ex c X W->cl X0 w W->(∀b,X b->b<W.heap.size/\(X0 b\/w.heap.size<b))->after [] (some c) W):
  xR Tryz.prog (some l0) gv w 1 (λl x W KN KJ=>asg (x.getD 0 undef) W λv N=>iK l N λw3=>body l v w3 KN KJ) after:=by
 obtain⟨⟨Ok,hit,hok⟩,-⟩:=ht;obtain⟨f,first,captured,rfl,hit0⟩:=hit.out;refine mi.2 ?_;obtain⟨r0,hr0⟩:=hl0;refine⟨r0,hr0,?_⟩;show∀k:Loop,_;intro k s G hD hY;obtain⟨d,R⟩:∃d,d=w.heap.size:=⟨_,rfl⟩
 rw[<-R]at E;obtain⟨wr,P⟩:∃wr,wr=w.alloc (.loop k):=⟨_,rfl⟩
 have V:wr.heap[d]? =some (.loop k):=by rw[P,cU,if_pos R]
 have hszr:wr.heap.size=d+1:=by rw[P,World.size_alloc,<-R]
 have hmr:cl (λ_=>False) w wr:=by rw[P];exact(cl.refl _ w).alloc _
 have p:∀(W:World) (o:Obj),cl (λb=>b=d) W (W.putObj d o):=λW o=>(cl.refl (λb=>b=d) W).putObj (b:=d) (.inl rfl) o;rw[<-R]at hY T L|-;rw[<-P];let J:(Nat->Prop)->Nat->World->Prop:=λQ i W=>∃X,I X i W/\cl X0 w W/\(∀b,X b->b<W.heap.size/\(X0 b\/d<b)/\¬Q b)/\W.heap[d]? =some (.loop k)/\∀b,Q b->d<b/\b<W.heap.size;let Js:(Nat->Prop)->World->Prop:=λQ W=>∃c X r,Ex c X W/\cl X0 w W/\(∀b,X b->b<W.heap.size/\(X0 b\/d<b)/\¬Q b)/\W.heap[d]? =some (.loop r)/\(∀b,Q b->d<b/\b<W.heap.size)/\r.state=.done/\r.pending=some c;refine hit0 _ J Js _ _ (hok _ hmr) ?_ ?_ ?_ ?_ ?_ ?_
 ·intro Q W1 m hQ;refine⟨X0,C _ _ _ _ _ h0 (hmr.trans m) λ_ _ h=>h,(hmr.trans m).mono λ_ _ h=>h.elim,λb g=>?_,m.keep V id,λb g=>?_⟩
  ·have h1:=S b g;have F:=m.size;exact⟨by omega,.inl g,λU=>by have:=(hQ b U).1;omega⟩
  ·have:=hQ b g;omega
 ·rintro Q Q' i W j ⟨X,h1,F,n,A,B⟩ m M;have hl:=cn A;refine⟨X,C _ _ _ _ _ h1 m λb g=>(n b g).2.2,F.on m λb g=>.inr (by have:=B b g;omega),λb g=>?_,m.keep A λg=>by have:=B _ g;omega,λb g=>?_⟩
  ·have t:=n b g;refine⟨Nat.lt_of_lt_of_le t.1 m.size,t.2.1,λU=>?_⟩;rcases(M b U).1 with h|h
   ·exact t.2.2 h
   ·have:=t.1;omega
  ·have t:=M b g;refine⟨?_,t.2⟩;rcases t.1 with h|h
   ·exact(B b h).1
   ·omega
 ·rintro Q Q' W j ⟨c,X,r,h1,F,n,A,B,h7⟩ m M;have hl:=cn A;refine⟨c,X,r,hsx _ _ _ _ _ h1 m λb g=>(n b g).2.2,F.on m λb g=>.inr (by have:=B b g;omega),λb g=>?_,m.keep A λg=>by have:=B _ g;omega,λb g=>?_,h7⟩
  ·have t:=n b g;refine⟨Nat.lt_of_lt_of_le t.1 m.size,t.2.1,λU=>?_⟩;rcases(M b U).1 with h|h
   ·exact t.2.2 h
   ·have:=t.1;omega
  ·have t:=M b g;refine⟨?_,t.2⟩;rcases t.1 with h|h
   ·exact(B b h).1
   ·omega
 ·rintro Q i x W O ⟨X,h1,F,n,A,B⟩ K' hT hF;refine iQ.2 ?_;show Yl Tryz.prog (d) ⟨_⟩ W K';have e1:(#[]:Array Value).toList++x=x:=rfl;rw[e1]
  obtain⟨hi,rfl⟩:∃hi:i<xs.length,x=[fv xs[i]]:=by
   rw[List.getElem?_map]at O;cases hh:xs[i]? with
   |none=>rw[hh]at O;cases O
   |some o=>
    obtain⟨hj,he⟩:=List.getElem?_eq_some_iff.1 hh;rw[hh]at O;exact⟨hj,by rw[he];exact(Option.some.inj O).symm⟩
  refine hY _ W K' rfl ⟨k.state,k.pending,A⟩ ?_;obtain⟨q,hq0⟩:∃q,q=W.heap.size:=⟨_,rfl⟩
  refine hasg xs[i] (List.getElem_mem hi) W _ λN v v3 v4=>?_;rw[<-hq0]at v3;have r2:N.heap[d]? =some (.loop k):=v4.keep A id;refine lM r2 s ?_;have m3:=p N (.loop {k with state:=.busy});have r3:(N.putObj (d) (.loop {k with state:=.busy})).heap[d]? =some (.loop {k with state:=.busy}):=by rw[db,if_pos rfl,r2];rfl
  generalize N.putObj (d) (.loop {k with state:=.busy})=w3 at m3 r3|-;have hdl:d<q:=by rw[hq0];exact cn A
  have q3:=hPv _ _ _ _ _ _ v3 m3 (by omega);have hw3:=m3.size;have hw4:=v4.size;have M3:cl (λb=>b=d) W w3:=(v4.mono λ_ _ h=>h.elim).trans m3;have hXq:∀b,X b->b<q/\(X0 b\/d<b):=λb g=>⟨by have:=(n b g).1;omega,(n b g).2.1⟩
  have u:∀b,X b->b≠d/\b≠d:=λb g=>by
   rcases(n b g).2.1 with h|h
   ·have:=S b h;omega
   ·omega
  have D:∀(j:World) (y:Nat->Prop) (o:Obj),cl X w3 j->(∀b,y b->(X b\/w3.heap.size<=b)/\b<j.heap.size)->
    cl X0 w (j.putObj (d) o)/\(∀b,y b->b<(j.putObj (d) o).heap.size/\(X0 b\/d<b)/\¬Q b)/\(∀b,Q b->d<b/\b<(j.putObj (d) o).heap.size)/\
    (∀b,Q b->(j.putObj (d) o).heap[b]? =W.heap[b]?)/\W.heap.size<=(j.putObj (d) o).heap.size/\j.heap[d]? =some (.loop {k with state:=.busy}):=by
   intro j y o m z;have Z:=p j o;have hsW:=m.size;have hsP:=Z.size;refine⟨?_,λb g=>?_,λb g=>?_,λb g=>?_,by omega,m.keep r3 λg=>(u _ g).1 rfl⟩
   ·refine(((F.on M3 λb g=>.inr (by omega)).on m λb g=>?_)).on Z λb g=>.inr (by omega);rcases(n b g).2.1 with h|h
    ·exact .inl h
    ·exact .inr (by omega)
   ·have t:=z b g;refine⟨by omega,?_,λU=>?_⟩
    ·rcases t.1 with h|h
     ·exact(n b h).2.1
     ·exact .inr (by omega)
    ·rcases t.1 with h|h
     ·exact(n b h).2.2 U
     ·have:=(B b U).2;omega
   ·have:=B b g;omega
   ·have hb' :=B b g;rw[Z.blk b (by omega) (by omega),m.blk b (by omega) λO=>(n b O).2.2 g,M3.blk b hb'.2 (by omega)]
  refine E X i hi w3 q v (C _ _ _ _ _ h1 M3 λb g=>(u b g).1) (F.on M3 λb g=>.inr (by omega)) hXq (by omega) (by omega) q3 _ _ ?_ ?_
  ·intro y j Y m z;obtain⟨k1,k3,k4,k5,k6,k7⟩:=D j y (.loop {{k with state:=.busy}with state:=.ready,pending:=none}) m z;refine⟨_,k7,hT _ ⟨y,?_,k1,k3,?_,k4⟩ k6 k5⟩
   ·refine C _ _ _ _ _ Y (p j _) λb g e=>?_;rcases(z b g).1 with h|h
    ·exact(u b h).1 e
    ·omega
   ·rw[db,if_pos rfl,k7];simp[<-s,<-G]
  ·intro c y j Y m z;obtain⟨k1,k3,k4,k5,k6,k7⟩:=D j y (.loop {{k with state:=.busy}with state:=.done,pending:=some c}) m z;refine⟨_,k7,hF _ ⟨c,y,{k with state:=.done,pending:=some c},?_,k1,k3,?_,k4,rfl,rfl⟩ k6 k5⟩
   ·refine hsx _ _ _ _ _ Y (p j _) λb g e=>?_;rcases(z b g).1 with h|h
    ·exact(u b h).1 e
    ·omega
   ·rw[db,if_pos rfl,k7];rfl
 ·rintro Q W ⟨X,h1,F,n,A,B⟩;refine⟨k,A,by rw[s];decide,?_⟩;have m:=p W (.loop {k with state:=.exhausted});generalize W.putObj (d) (.loop {k with state:=.exhausted})=W8 at m|-;rw[G]
  have u:∀b,X b->b≠d:=λb g=>by
   rcases(n b g).2.1 with h|h
   ·have:=S b h;omega
   ·omega
  refine T X _ ?_ (F.on m λb g=>.inr (by omega)) λb g=>⟨Nat.lt_of_lt_of_le (n b g).1 m.size,(n b g).2.1⟩
  have O:I X xs.length W:=by have:=h1;rwa[List.length_map]at this
  exact C _ _ _ _ _ O m λb g=>u b g
 ·rintro Q W ⟨c,X,r,h1,F,n,A,B,h7,h8⟩;refine⟨r,A,by rw[h7];decide,?_⟩;have m:=p W (.loop {r with state:=.exhausted});generalize W.putObj (d) (.loop {r with state:=.exhausted})=W8 at m|-;rw[h8]
  have u:∀b,X b->b≠d:=λb g=>by
   rcases(n b g).2.1 with h|h
   ·have:=S b h;omega
   ·omega
  exact L c X _ (hsx _ _ _ _ _ h1 m λb g=>u b g) (F.on m λb g=>.inr (by omega)) λb g=>⟨Nat.lt_of_lt_of_le (n b g).1 m.size,(n b g).2.1⟩
end
end Go.Proofs
