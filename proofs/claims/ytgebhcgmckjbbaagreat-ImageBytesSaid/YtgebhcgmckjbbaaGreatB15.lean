/- Part of a proof. -/
import Derived.Test.YtgebhcgmckjbbaaGreatB14
set_option linter.all false
set_option maxRecDepth 100000
namespace Go.Proofs
open Go Go.Vc
def DP(a:cm)(b:Value)(c:T4)(d:T4->Wp)(e:T1)(f:World):=NV->cz e.1 (a (.bool false) f) (cG 92 b 0 35 f λg h=>cG 92 b 1 2 h λi j=>gb .add 2 false c.1 i j λk l=>gb .add 3 true c.2.2.2.1 (gI 1) l λm n=>d (k,c.2.1,g,m,()) n)
def Ea(a b:Value)(c:cm)(d:T4)(e:World)(f:T4->Wp):=NV->gb .lss 3 false d.2.2.2.1 a e λg h=>cz g (lJ 44 b d.2.2.2.1 92 h λi j=>gv 92 i j λk l=>cB (S:=T1) (λm=>cG 92 k 0 35 l λn o=>gb .leq 35 false n d.2.2.1 o λp q=>cz p (m ((.bool true),()) q) (cG 92 k 1 2 q λr s=>Ca Tryz.prog 194 #[r,(gI 0),(gI 1000000000000000)] s λt u=>gt t u λv w=>m (v,()) w)) (DP c k d f)) (gb .leq 2 true d.1 (gI 1000000000000000) h c)
def DQ(a:cm)(b c:Value)(d:T1)(e:World):=NV->cz d.1 (a (.bool false) e) (gn 44 false b e λf g=>cS (S:=T4) (Ea f b a) (c,(.bool false),(.int .u32 0),(gI 0),()) g)
def Pu{a b:Value}{c:World}{d:cm}(n:cB (S:=T1) (λe=>gn 44 false b c λf g=>gb .gtr 3 true f (gI 64) g λh i=>cz h (e ((.bool true),()) i) (Ca Tryz.prog 194 #[a,(gI 0),(gI 1000000000000000)] i λj k=>gt j k λl m=>e (l,()) m)) (DQ d b a)):Ca Tryz.prog 129 #[a,b] c d:=cj Tryz.func129 n
def J5(a:cm)(b:T2->Wp)(c:Value×T4)(d:T1)(e:World):=NV->cz d.1 (a (.tuple #[(.pointer none),(gI 2)]) e) (b (c.2.1,c.1,()) e)
def Jr(a:cm)(b c:Value)(d:Value×T4)(e f:Value)(g:Value×T4->Wp)(h:T2)(i:T1)(j:World):=NV->cz i.1 (a (.tuple #[(.pointer none),(gI 2)]) j) (de 224 b j.drew λk=>dD 112 c 2 λl=>de 2 l j.drew λm=>ia .add 2 false d.2.2.1 m λn=>dD 112 c 3 λo=>de 2 o j.drew λp=>ia .add 2 false d.2.2.2.1 p λq=>gs 224 e k j.drew λr=>gk 2 o p r/\gk 2 l m r/\(gk 2 o p r/\(cD f λs=>dZ 201 s 1 199 r.drew λt=>de 224 b r.drew λu=>de 112 c r.drew λv=>gh Tryz.prog (gY 199 t u v) r.drew λw=>gb .add 3 true d.2.2.2.2.1 (gI 1) w λx y=>g (h.2.1,h.1,n,q,x,()) y)))
def JA(a:cm)(b c:Value)(d:Value×T4)(e f:Value)(g:Value×T4->Wp)(h:T2)(i:T1)(j:World):=NV->cz i.1 (a (.tuple #[(.pointer none),(gI 2)]) j) (cB (S:=T1) (λk=>cG 112 b 2 2 j λl m=>Ca Tryz.prog 130 #[l,(gI 10000000)] m λn o=>gt n o λp q=>cz p (k ((.bool true),()) q) (cG 112 b 3 2 q λr s=>Ca Tryz.prog 130 #[r,(gI 1000000000000000)] s λt u=>gt t u λv w=>k (v,()) w)) (Jr a c b d e f g h))
def Jo(a:cm)(b c d:Value)(e:Value×T4)(f g:Value)(h:Value×T4->Wp)(i:T2)(j:T1)(k:World):=NV->cz j.1 (a (.tuple #[(.pointer none),(gI 2)]) k) (cB (S:=T1) (λl=>cG 112 b 0 35 k λm n=>gb .eql 35 true m (.int .u32 0) n λo p=>cz o (l ((.bool true),()) p) (cG 112 b 1 35 p λq r=>gb .eql 35 true q (.int .u32 0) r λs t=>cz s (l ((.bool true),()) t) (gt c t λu v=>cz u (l ((.bool true),()) v) (cG 112 b 2 2 v λw x=>gb .eql 2 true w (gI 0) x λy z=>cz y (cG 112 b 3 2 z λA B=>gb .eql 2 true A (gI 0) B λC D=>l (C,()) D) (l ((.bool false),()) z))))) (JA a b d e f g h i))
def J8(a b c d:Value)(e:cm)(f:Value×T4)(g:Value×T4->Wp)(h:T2)(i:World):=NV->cD a λj=>dD 201 j 0 λk=>de 198 k i.drew λl=>dD 112 b 1 λm=>de 35 m i.drew λn=>iD Tryz.prog (fA 198 l n true) i.drew λo=>gp (Instr.extract o 0) λp=>gp (Instr.extract o 1) λq=>ga 92 i.drew λr s=>Sem.run Tryz.prog (fA 198 l n true) s=.ok o s/\gk 35 m n s/\gk 198 k l s/\(gs 92 r p s λt=>cB (S:=T1) (λu=>cG 224 c 0 35 t λv w=>cG 224 d 0 35 w λx y=>gb .lss 35 false v x y λz A=>cz z (u ((.bool true),()) A) (cG 224 c 0 35 A λB C=>cG 224 d 0 35 C λD E=>gb .eql 35 false B D E λF G=>cz F (cG 224 c 1 35 G λH I=>cG 224 d 1 35 I λJ K=>gb .leq 35 false H J K λL M=>u (L,()) M) (u ((.bool false),()) G))) (Jo e b q c f d a g h))
def Jc(a:cm)(b:Value)(c:T1)(d:World):=NV->cz c.1 (a (.tuple #[(.pointer none),(gI 2)]) d) (a (.tuple #[b,(gI 0)]) d)
def Jg(a b c:Value)(d:cm)(e:Value)(f:Value×T4)(g:World)(h:Value×T4->Wp):=NV->gb .lss 3 false f.2.2.2.2.1 a g λi j=>cz i (lJ 46 b f.2.2.2.2.1 112 j λk l=>gv 112 k l λm n=>cG 112 m 0 35 n λo p=>cG 112 m 1 35 p λq r=>gr (Instr.build 224 #[(0,o),(1,q)]) r λs t=>gv 224 s t λu v=>cB (S:=T2) (λw=>cG 224 u 0 35 v λx y=>cG 224 c 0 35 y λz A=>gb .neq 35 false x z A λB C=>cz B (cB (S:=T1) (λD=>gb .neq 2 true f.2.2.1 (gI 0) C λE F=>cz E (D ((.bool true),()) F) (gb .neq 2 true f.2.2.2.1 (gI 0) F λG H=>D (G,()) H)) (J5 d w f)) (w (f.2.1,f.1,()) C)) (J8 e m u c d f h)) (cB (S:=T1) (λI=>gb .neq 2 true f.2.2.1 (gI 0) j λJ K=>cz J (I ((.bool true),()) K) (gb .neq 2 true f.2.2.2.1 (gI 0) K λL M=>I (L,()) M)) (Jc d e))
def J1(a b c d:Value)(e:cm)(f:T1)(g:World)(h:T1->Wp):=NV->gb .lss 3 false f.1 a g λi j=>cz i (lJ 44 b f.1 92 j λk l=>gv 92 k l λm n=>cD c λo=>dZ 201 o 0 198 n.drew λp=>dZ 92 m 0 35 n.drew λq=>de 92 m n.drew λr=>gh Tryz.prog (gY 198 p q r) n.drew λs=>gb .add 3 true f.1 (gI 1) s λt u=>h (t,()) u) (ga 224 j λv w=>gn 46 false d w λx y=>cS (S:=Value×T4) (Jg x d v e c) ((.pointer none),(gI 0),(gI 0),(gI 0),(gI 0),()) y)
def RU{a b c:Value}{d:World}{e:cm}(t:Ca Tryz.prog 129 #[a,b] d λf g=>gt f g λh i=>cz h (e (.tuple #[(.pointer none),(gI 2)]) i) (Ca Tryz.prog 36 #[] i λj k=>cD j λl=>cG 201 l 0 198 k λm n=>gr (Instr.build 92 #[(1,a)]) n λo p=>gh Tryz.prog (gY 198 m (.int .u32 0) o) p λq=>gn 44 false b q λr s=>cS (S:=T1) (J1 r b j c e) ((gI 0),()) s)):Ca Tryz.prog 46 #[a,b,c] d e:=cj Tryz.func46 t
def JC(a:cm)(b:Value)(c:T4)(d:T4->Wp)(e:T1)(f:World):=NV->cz e.1 (a (.tuple #[(.pointer none),(gI 2)]) f) (gf 108 b 0 f λg h=>cG 38 g 0 35 h λi j=>gb .add 3 true c.2.2.2.1 (gI 1) j λk l=>d (c.1,c.2.1,i,k,()) l)
def JH(a b:Value)(c:cm)(d:Value)(e:T4)(f:World)(g:T4->Wp):=NV->gb .lss 3 false e.2.2.2.1 a f λh i=>cz h (gi 45 b e.2.2.2.1 i λj k=>gx (dh 108 j) k λl m=>gx (iz 108) m λn o=>gh Tryz.prog (ew 108 n l) o λp=>cB (S:=T1) (λq=>gf 108 n 0 p λr s=>cG 38 r 0 35 s λt u=>gb .leq 35 false t e.2.2.1 u λv w=>cz v (q ((.bool true),()) w) (cG 108 n 1 106 w λx y=>gb .lss 106 true x (.int .u8 1) y λz A=>cz z (q ((.bool true),()) A) (cG 108 n 1 106 A λB C=>gb .gtr 106 true B (.int .u8 3) C λD E=>cz D (q ((.bool true),()) E) (gf 108 n 0 E λF G=>gx (dh 38 F) G λH I=>cG 108 n 2 2 I λJ K=>Ca Tryz.prog 127 #[H,J] K λL M=>gt L M λN O=>q (N,()) O)))) (JC c n e g)) (Ca Tryz.prog 128 #[b] i λP Q=>gr (Instr.build 197 #[(0,(.bool true)),(1,d),(2,P)]) Q λR S=>gq 197 R S λT U=>c (.tuple #[T,(gI 0)]) U)
def Q2{a b:Value}{c:World}{d:cm}(k:gn 45 false b c λe f=>gb .gtr 3 true e (gI 16) f λg h=>cz g (d (.tuple #[(.pointer none),(gI 2)]) h) (gn 45 false b h λi j=>cS (S:=T4) (JH i b d a) ((.pointer none),(gI 0),(.int .u32 0),(gI 0),()) j)):Ca Tryz.prog 45 #[a,b] c d:=cj Tryz.func45 k
def RH{a b:Value}{c:World}{d:cm}(A:gx (iz 108) c λe f=>cD a λg=>cG 66 g 0 61 f λh i=>Ca Tryz.prog 123 #[h,b] i λj k=>kS j k λl m n=>gx (iz 108) n λo p=>gh Tryz.prog (ew 108 o l) p λq=>iD Tryz.prog (dh 108 o) q.drew λr=>ia .eql 26 true m (gI 0) λs=>cz s (dD 108 o 1 λt=>de 106 t q.drew λu=>ia .neq 106 true u (.int .u8 3) λv=>gh Tryz.prog (ew 108 e r) q.drew λw=>gk 106 t u w/\(iD Tryz.prog (dh 108 e) w λx=>d (.tuple #[x,v]) w)) (gh Tryz.prog (ew 108 e r) q.drew λy=>iD Tryz.prog (dh 108 e) y λz=>d (.tuple #[z,(.bool false)]) y)):Ca Tryz.prog 49 #[a,b] c d:=cj Tryz.func49 A
def DN(a:cm)(b c:Value)(d:T1)(e:World):=NV->cz d.1 (a (.bool false) e) (cG 117 b 0 27 e λf g=>gx (fA 232 c f false) g λh i=>gb .add 3 true h (gI 1) i λj k=>gh Tryz.prog (gY 232 c f j) k λl=>a (.bool true) l)
def EA(a b c d e f:Value)(g:cm)(h:T2)(i:World):=NV->cB (S:=T1) (λj=>gp (Op.unary .not a) λk=>cz k (j ((.bool true),()) i.drew) (ia .neq 26 true h.2.1 (gI 0) λl=>cz l (j ((.bool true),()) i.drew) (dZ 92 h.1 3 4 i.drew λm=>cz m (j ((.bool true),()) i.drew) (dZ 92 h.1 2 4 i.drew λn=>cz n (j ((.bool true),()) i.drew) (de 117 b i.drew λo=>Ca Tryz.prog 222 #[o] i.drew λp q=>gp (Op.unary .not p) λr=>cz r (j ((.bool true),()) q) (dD 108 c 0 λs=>iD Tryz.prog (dh 38 s) q λt=>dZ 117 b 3 2 q λu=>Ca Tryz.prog 127 #[t,u] q λv w=>gp (Op.unary .not v) λx=>cz x (j ((.bool true),()) w) (cz d (dD 108 c 0 λy=>iD Tryz.prog (dh 38 y) w λz=>dZ 117 b 4 2 w λA=>Ca Tryz.prog 223 #[z,A] w λB C=>gp (Op.unary .not B) λD=>cz D (j ((.bool true),()) C) (dZ 117 b 0 27 C λE=>cD e λF=>dZ 66 F 4 27 C λG=>ia .geq 27 false E G λH=>cz H (j ((.bool true),()) C) (dZ 117 b 0 27 C λI=>iD Tryz.prog (fA 232 f I false) C λJ=>ia .gtr 3 true J (gI 0) λK=>j (K,()) C))) (dZ 117 b 0 27 w λL=>cD e λM=>dZ 66 M 4 27 w λN=>ia .geq 27 false L N λO=>cz O (j ((.bool true),()) w) (dZ 117 b 0 27 w λP=>iD Tryz.prog (fA 232 f P false) w λQ=>ia .gtr 3 true Q (gI 0) λR=>j (R,()) w))))))))) (DN g b f)
def OY{a b c d:Value}{e:World}{f:cm}(P:gq 119 b e λg h=>cG 119 g 1 117 h λi j=>gv 117 i j λk l=>cG 119 g 0 35 l λm n=>Ca Tryz.prog 49 #[a,m] n λo p=>kS o p λq r s=>gx (iz 108) s λt u=>gh Tryz.prog (ew 108 t q) u λv=>cB (S:=T2) (λw=>cD a λx=>dD 66 x 1 λy=>de 62 y v.drew λz=>dD 117 k 1 λA=>de 35 A v.drew λB=>(Ca Tryz.prog 52 #[z,B] v.drew λC D=>gp (Instr.extract C 0) λE=>gp (Instr.extract C 1) λF=>gv 92 E D λG H=>w (G,F,()) H)/\(ga 92 v.drew λI J=>gk 35 A B J/\gk 62 y z J/\(Ca Tryz.prog 52 #[z,B] J λK L=>gp (Instr.extract K 0) λM=>gp (Instr.extract K 1) λN=>gs 92 I M L λO=>w (I,N,()) O))) (EA r k t c a d f)):Ca Tryz.prog 134 #[a,b,c,d] e f:=cj Tryz.func134 P
def Jb(a:cm)(b:T2)(c:T2->Wp)(d:T1)(e:World):=NV->cz d.1 (a (.bool false) e) (gb .add 3 true b.2.1 (gI 1) e λf g=>c (b.1,f,()) g)
def J2(a:cm)(b:T2)(c:T2->Wp)(d:T2)(e:World):=NV->cB (S:=T1) (λf=>gb .neq 26 true d.2.1 (gI 0) e λg h=>cz g (f ((.bool true),()) h) (cG 235 d.1 1 29 h λi j=>gn 29 false i j λk l=>gb .gtr 3 true k (gI 0) l λm n=>f (m,()) n)) (Jb a b c)
def Jl(a:T1->Wp)(b:T3)(c:T1)(d:World):=NV->cz c.1 (a ((.int .u64 0),()) d) (a (b.2.1,()) d)
def Ko(a:cm)(b c:Value)(d:T3)(e:T3->Wp)(f:T1)(g:World):=NV->cz f.1 (a (.bool false) g) (gf 119 b 1 g λh i=>cG 117 h 0 27 i λj k=>cD c λl=>dD 66 l 3 λm=>de 64 m k.drew λn=>dD 119 b 0 λo=>de 35 o k.drew λp=>cD c λq=>dD 66 q 3 λr=>de 64 r k.drew λs=>dD 119 b 0 λt=>de 35 t k.drew λu=>iD Tryz.prog (fA 64 s u false) k.drew λv=>dZ 119 b 1 117 k.drew λw=>gx (dP 133 1 [(0,w)]) k.drew λx y=>Sem.run Tryz.prog (fA 64 s u false) y=.ok v y/\gk 35 t u y/\gk 64 r s y/\gk 35 o p y/\gk 64 m n y/\(gx (cv #[133,133] 133 [v,x]) y λz A=>gk 35 o p A/\gk 64 m n A/\(gh Tryz.prog (gY 64 n p z) A λB=>gb .add 3 true d.2.2.1 (gI 1) B λC D=>e (d.1,j,C,()) D)))
def Jw(a b c:Value)(d:cm)(e:T3)(f:T3->Wp)(g:T1)(h:World):=NV->cB (S:=T1) (λi=>de 119 a h.drew λj=>Ca Tryz.prog 134 #[b,j,(.bool false),c] h.drew λk l=>gp (Op.unary .not k) λm=>cz m (i ((.bool true),()) l) (dD 119 a 1 λn=>dZ 117 n 0 27 l λo=>ia .leq 27 false o g.1 λp=>cz p (i ((.bool true),()) l) (cD b λq=>dZ 66 q 3 64 l λr=>dZ 119 a 0 35 l λs=>iD Tryz.prog (fA 64 r s false) l λt=>gw (Builtin.len_ #[133] 3 #[t]) l λu=>ia .geq 3 true u (gI 50) λv=>i (v,()) l))) (Ko d a b e f)
def Gu(a b c d e:Value)(f:cm)(g:T3)(h:World)(i:T3->Wp):=NV->gb .lss 3 false g.2.2.1 a h λj k=>cz j (lJ 47 b g.2.2.1 119 k λl m=>gv 119 l m λn o=>cB (S:=T1) (λp=>cB (S:=T1) (λq=>ia .gtr 3 true g.2.2.1 (gI 0) λr=>cz r (dZ 119 n 0 35 o.drew λs=>dZ 49 c 7 47 o.drew λt=>ia .sub 3 true g.2.2.1 (gI 1) λu=>mQ 47 t u λv=>dZ 119 v 0 35 o.drew λw=>ia .neq 35 false s w λx=>q (x,()) o.drew) (q ((.bool false),()) o.drew)) (Jl p g)) (Jw n d e f g i)) (f (.bool true) k)
def JJ(a b c d:Value)(e:cm)(f:Value)(g:T2)(h:World)(i:T2->Wp):=NV->gb .lss 3 false g.2.1 a h λj k=>cz j (lJ 47 b g.2.1 119 k λl m=>gv 119 l m λn o=>gl 119 n o λp q=>Ca Tryz.prog 134 #[c,p,(.bool true),d] q λr s=>gt r s λt u=>cz t (e (.bool false) u) (cB (S:=T2) (λv=>cD c λw=>dD 66 w 2 λx=>de 63 x u.drew λy=>dD 119 n 0 λz=>de 35 z u.drew λA=>iD Tryz.prog (fA 63 y A false) u.drew λB=>dD 119 n 1 λC=>de 117 C u.drew λD=>(Ca Tryz.prog 135 #[B,D,(.int .u8 4)] u.drew λE F=>gp (Instr.extract E 0) λG=>gp (Instr.extract E 1) λH=>gv 235 G F λI J=>v (I,H,()) J)/\(ga 235 u.drew λK L=>gk 117 C D L/\Sem.run Tryz.prog (fA 63 y A false) L=.ok B L/\gk 35 z A L/\gk 63 x y L/\(Ca Tryz.prog 135 #[B,D,(.int .u8 4)] L λM N=>gp (Instr.extract M 0) λO=>gp (Instr.extract M 1) λP=>gs 235 K O N λQ=>v (K,P,()) Q))) (J2 e g i))) (cG 49 f 7 47 k λR S=>gn 47 false R S λT U=>cS (S:=T3) (Gu T R f c d e) (g.1,(.int .u64 0),(gI 0),()) U)
def Q7{a b:Value}{c:World}{d:cm}(m:gq 49 b c λe f=>gr (Instr.makeMap 232 none) f λg h=>cG 49 e 6 47 h λi j=>gn 47 false i j λk l=>cS (S:=T2) (JJ k i a g d e) ((.bool false),(gI 0),()) l):Ca Tryz.prog 50 #[a,b] c d:=cj Tryz.func50 m
def Kq(a:List Nat)(b:cm)(c:Value)(d:T1)(e:World):=NV->cz d.1 (jF (a++[]) e λf=>b (.tuple #[(.pointer none),(gI 2)]) f) (gl 23 c e λg h=>jF (a++[]) h λi=>b (.tuple #[g,(gI 0)]) i)
def FZ(a b c:Value)(d:List Nat)(e:cm)(f:Value)(g:T3)(h:World)(i:T3->Wp):=NV->gb .lss 3 false g.2.2.1 a h λj k=>cz j (lJ 46 b g.2.2.1 112 k λl m=>gv 112 l m λn o=>gl 23 c o λp q=>cG 112 n 0 35 q λr s=>Ca Tryz.prog 49 #[p,r] s λt u=>kS t u λv w x=>gx (iz 108) x λy z=>gh Tryz.prog (ew 108 y v) z λA=>gt w A λB C=>cz B (jF (d++[]) C λD=>e (.tuple #[(.pointer none),(gI 2)]) D) (gb .add 3 true g.2.2.1 (gI 1) C λE F=>i (g.1,g.2.1,E,()) F)) (gl 23 c k λG H=>gl 49 f H λI J=>Ca Tryz.prog 50 #[G,I] J λK L=>gt K L λM N=>cz M (jF (d++[]) N λO=>e (.tuple #[(.pointer none),(gI 2)]) O) (gl 23 c N λP Q=>Ca Tryz.prog 14 #[P] Q λR S=>gv 49 R S λT U=>cB (S:=T1) (λV=>cG 49 T 6 47 U λW X=>cG 49 f 6 47 X λY Z=>Ca Tryz.prog 51 #[W,Y] Z λaa ab=>gt aa ab λac ad=>cz ac (V ((.bool true),()) ad) (cG 49 T 7 47 ad λae af=>cG 49 f 7 47 af λag ah=>Ca Tryz.prog 51 #[ae,ag] ah λai aj=>gt ai aj λak al=>V (ak,()) al)) (Kq d e c)))
def J9(a:Value)(b:Nat)(c:List Value)(d:World)(e:Wp)(f:Code->Wp):=gx (iz 108) d λg h=>gh Tryz.prog (ew 108 g (c.getD 0 undef)) h λi=>iF b i λj=>de 23 a j.drew λk=>cD k λl=>dD 66 l 2 λm=>de 63 m j.drew λn=>dD 108 g 0 λo=>dD 38 o 0 λp=>de 35 p j.drew λq=>Ca Tryz.prog 48 #[] j.drew λr s=>gk 35 p q s/\gk 63 m n s/\gk 23 a k s/\(gh Tryz.prog (gY 63 n q r) s e)
def Kx(a b:Value)(c:cm)(d:List Nat)(e:Option Code)(f:World):=fk (λg=>cG 49 a 5 46 g λh i=>gn 46 false h i λj k=>cS (S:=T3) (FZ j h b d c a) ((.pointer none),(gI 0),(gI 0),()) k) (λl=>jF (d++[]) l λm=>c (.tuple #[(.pointer none),(gI 0)]) m) (λn o=>bc (Nat.beq n 0) (cG 49 a 5 46 o λp q=>gn 46 false p q λr s=>cS (S:=T3) (FZ r p b d c a) ((.pointer none),(gI 0),(gI 0),()) s) (False)) e f
def Kw(a:cm)(b c d:Value)(e:T1)(f:World):=NV->cz e.1 (a (.tuple #[(.pointer none),(gI 2)]) f) (gr (Instr.makeMap 63 none) f λg h=>gr (Instr.makeMap 64 none) h λi j=>cG 49 b 1 27 j λk l=>gr (Instr.build 66 #[(0,c),(1,d),(2,g),(3,i),(4,k)]) l λm n=>gq 66 m n λo p=>gv 23 o p λq r=>Ca Tryz.prog 47 #[c] r λs t=>xy Tryz.prog none s t 1 (J9 q) (Kx b q a))
def Qw{a:Value}{b:World}{c:cm}(M:gq 49 a b λd e=>cG 49 d 0 35 e λf g=>cG 49 d 4 45 g λh i=>Ca Tryz.prog 45 #[f,h] i λj k=>kS j k λl m n=>gb .neq 26 true m (gI 0) n λo p=>cz o (c (.tuple #[(.pointer none),m]) p) (cG 49 d 2 2 p λq r=>cG 49 d 3 44 r λs t=>cG 49 d 5 46 t λu v=>Ca Tryz.prog 46 #[q,s,u] v λw x=>kS w x λy z A=>gb .neq 26 true z (gI 0) A λB C=>cz B (c (.tuple #[(.pointer none),z]) C) (cB (S:=T1) (λD=>cG 49 d 1 27 C λE F=>gb .lss 27 true E (.int .u64 1) F λG H=>cz G (D ((.bool true),()) H) (cG 49 d 1 27 H λI J=>gb .gtr 27 true I (.int .u64 4611686018427387905) J λK L=>D (K,()) L)) (Kw c d l y)))):Ca Tryz.prog 13 #[a] b c:=cj Tryz.func13 M
def JO(a b c:Value)(d:cm)(e:T2)(f:World)(g:T2->Wp):=NV->gb .lss 3 false e.2.1 a f λh i=>cz h (mQ 47 b e.2.1 λj=>de 119 j i.drew λk=>mQ 47 c e.2.1 λl=>de 119 l i.drew λm=>ia .neq 119 false k m λn=>cz n (d (.bool false) i.drew) (gb .add 3 true e.2.1 (gI 1) i.drew λo p=>g (e.1,o,()) p)) (d (.bool true) i)
def Rf{a b:Value}{c:World}{d:cm}(m:gn 47 false a c λe f=>gn 47 false b f λg h=>gb .neq 3 false e g h λi j=>cz i (d (.bool false) j) (gn 47 false a j λk l=>cS (S:=T2) (JO k a b d) ((.bool false),(gI 0),()) l)):Ca Tryz.prog 51 #[a,b] c d:=cj Tryz.func51 m
end Go.Proofs
namespace Go.Proofs
open Go Go.Vc
attribute [local congr] cr
def kz{W:World}{p off:Nat}{k:Ct}(h:At W p off (dN k)):At W p off (dl k.spec):=by
 have:=h.sub 0 25 (by rw[cX];omega)
 have e:((dN k).drop 0).take 25=dl k.spec:=by
  show(dl k.spec++_).take 25=_;rw[<-cL k.spec,List.take_left]
 rw[e]at this;exact this
abbrev sM(W:World)(p:Nat)(k:Ct):Prop:=hp W p=some (.cells (dN k).toArray gQ (0,0))
def wW{W:World}{p:Nat}{k k' :Ct}{K:World->Prop}(h:sM W p k)(c:∀a,sM a p k' ->cl (λy=>y=p) W a->K a):gh Tryz.prog (ew gQ (.pointer (some ⟨p,0,none⟩)) (.agg (dN k').toArray)) W K:=by
 have b:W.heap[p]? =some (.cells (dN k).toArray gQ (0,0)):=h
 have h1:(dN k').all (·.oneCell')=true:=by
  unfold dN;rw[List.all_append,lh];rfl
 refine iO xz (cX k') b (by rw[List.size_toArray,cX,cX];omega) h1 (c _ ?_ ((cl.refl (λy=>y=p) W).setRow (.inl rfl) _));show(W.setRow p _).heap[p]? =_;rw[dx,if_pos rfl,b,jI (by rw[cX];simp[cX])]
def nE{K:cm}(w:World)(b:∀a,sM a w.heap.size nU->cl (λ_=>False) w a->K (.pointer (some ⟨w.heap.size,0,none⟩)) a):rx Tryz.prog (iz gQ) w K:=by
 refine kY QM ?_;rw[wH];exact b _ (by show hp _ _=_;simp[go_sem]) ((cl.refl _ w).alloc _)
def Eu{W:World}{p:Nat}{k:Ct}(h:sM W p k):(Instr.loadAt 35 (.pointer (some ⟨p,0,none⟩))).run Tryz.prog W=.ok (.int .u32 k.spec.num) W:=by
 have a:hp W p=some (.cells (dN k).toArray gQ (0,0)):=h;simp[go_sem,a,HK]
def nz{W:World}{p:Nat}{k:Ct}(h:sM W p k):(Instr.loadAt 106 (.pointer (some ⟨p,25,none⟩))).run Tryz.prog W=.ok (.int .u8 k.st) W:=by
 have a:hp W p=some (.cells (dN k).toArray gQ (0,0)):=h;simp[go_sem,a,Mr]
def vM{W:World}{p:Nat}{k:Ct}(h:sM W p k):(Instr.loadAt 2 (.pointer (some ⟨p,26,none⟩))).run Tryz.prog W=.ok (.int .i64 k.price) W:=by
 have a:hp W p=some (.cells (dN k).toArray gQ (0,0)):=h;simp[go_sem,a,NJ]
def kx(p:Nat)(W:World):(Instr.fieldAt gQ (.pointer (some ⟨p,0,none⟩)) 0).run Tryz.prog W=.ok (.pointer (some ⟨p,0,none⟩)) W/\(Instr.fieldAt gQ (.pointer (some ⟨p,0,none⟩)) 1).run Tryz.prog W=.ok (.pointer (some ⟨p,25,none⟩)) W/\(Instr.fieldAt gQ (.pointer (some ⟨p,0,none⟩)) 2).run Tryz.prog W=.ok (.pointer (some ⟨p,26,none⟩)) W/\(Instr.fieldAt 38 (.pointer (some ⟨p,0,none⟩)) 0).run Tryz.prog W=.ok (.pointer (some ⟨p,0,none⟩)) W:=⟨by simp[go_sem],by simp[go_sem],by simp[go_sem],by simp[go_sem]⟩
def ti(n:Int)(k:Ct)(l:List Ct):kM n (k::l)=(decide (n<k.spec.num)&& (decide (1<=k.st)&& (decide (k.st<=3)&& (k.spec.isPrice k.price&& kM k.spec.num l)))):=rfl
set_option maxRecDepth 10000 in
set_option maxHeartbeats 1000000 in
def zI{w:World}{K:cm}{sl:Value}{day:Int}{l:List Ct}(h:Rd w 27 sl l.length (l.flatMap dN))(hl:l.length<=100000)(hf:∀k∈l,k.Fit)(hd:fq day)
  (J:l.length<=16->kM 0 l=true->∀c F d,nG d c F ⟨day,l⟩->cl (λ_=>False) w d->(∀b,F b->w.heap.size<=b)->K (.tuple #[dK c,.int .i64 0]) d)
  (u:¬(l.length<=16/\kM 0 l=true)->∀d,cl (λ_=>False) w d->K (.tuple #[.pointer none,.int .i64 2]) d):Ca Tryz.prog 45 #[.int .u32 day,sl] w K:=by
 obtain⟨sa,sc,M⟩:=h.isSl;apply Q2;have ln:∀W,(builtin .len #[GZ] 3 #[false] #[sl]).run Tryz.prog W=.ok (.value (.int .i64 (l.length:Int))) W:=λW=>by rw[M];simp[go_sem]
 refine fi (ln _) ?_;refine ck (v:=.bool (decide (16<l.length))) (w' :=w) (by simp[go_sem];omega) ?_;by_cases t:16<l.length
 ·rw[ci,if_pos (by simpa using t)];exact u (λa=>by omega) _ (cl.refl _ _)
 rw[ci,if_neg (by simpa using t)];refine fi (ln _) ?_
 refine dp (λst W=>∃(i:Nat) (last:Int) (x y:Value),i<=l.length/\st=(x,y,.int .u32 last,.int .i64 i,())/\kM 0 l=kM last (l.drop i)/\cl (λ_=>False) w W)
  (λst _=>match st.2.2.2.1 with| .int _ i=>l.length - i.toNat|_=>0) ⟨0,0,_,_,by omega,rfl,rfl,cl.refl _ _⟩ ?_
 rintro⟨_,_⟩ W ⟨i,last,x,y,hi,⟨⟩,e,z⟩ KN L;unfold JH;intro _;refine ck (v:=.bool (decide (i<l.length))) (w' :=W) (by simp[go_sem]) ?_;by_cases g:i<l.length
 ·rw[ci,if_pos (by simpa using g)];obtain⟨b,O,cap,Q,T,hA⟩:=(h.mod z λ_ _ h=>h).item cX g rfl;have B:=hf l[i] (List.getElem_mem g);rw[List.drop_eq_getElem_cons g]at e;generalize l[i]=k at hA B e;refine ck (v:=.pointer (some ⟨b,O+i*27,none⟩)) (w' :=W) (by rw[Q];simp[go_sem,g,cC,ua]) ?_;refine ey (dN k) 26 zV xz (cX k) hA ?_;refine nE _ λw1 Y m1=>?_;obtain⟨p,R⟩:∃p,p=W.heap.size:=⟨_,rfl⟩
  rw[<-R]at Y|-;refine wW (k' :=k) Y λs r m2=>?_;have M2:cl (λ_=>False) W s:=m1.on m2 λy hy=>.inr (by omega);obtain⟨f0,f1,f2,f3⟩:=kx p s;rw[ti]at e;refine cB.at (λst W' =>st=(.bool (!(decide (last<k.spec.num)&& (decide (1<=k.st)&& (decide (k.st<=3)&& k.spec.isPrice k.price)))),())/\cl (λ_=>False) s W') ?_ ?_
  ·refine ck f0 (ck f3 (ck (Eu r) ?_));refine ck (v:=.bool (decide (k.spec.num<=last))) (w' :=s) (by simp[go_sem]) ?_;by_cases c1:k.spec.num<=last
   ·rw[ci,if_pos (by simpa using c1)];have:¬last<k.spec.num:=by omega
    exact⟨by simp[this],cl.refl _ _⟩
   rw[ci,if_neg (by simpa using c1)];have P:last<k.spec.num:=by omega
   refine ck f1 (ck (nz r) ?_);refine ck (v:=.bool (decide (k.st<1))) (w' :=s) (by simp[go_sem]) ?_;by_cases U:k.st<1
   ·rw[ci,if_pos (by simpa using U)];have:¬1<=k.st:=by omega
    exact⟨by simp[this],cl.refl _ _⟩
   rw[ci,if_neg (by simpa using U)];have N:1<=k.st:=by omega
   refine ck f1 (ck (nz r) ?_);refine ck (v:=.bool (decide (3<k.st))) (w' :=s) (by simp[go_sem]) ?_;by_cases c3:3<k.st
   ·rw[ci,if_pos (by simpa using c3)];have:¬k.st<=3:=by omega
    exact⟨by simp[this],cl.refl _ _⟩
   rw[ci,if_neg (by simpa using c3)];have S:k.st<=3:=by omega
   refine ck f0 (ey (dl k.spec) 24 uS sm (cL _) (kz (At.all r)) ?_);refine ck f2 (ck (vM r) ?_);refine tW B.1 λf m=>?_;refine ck (v:=.bool (!k.spec.isPrice k.price)) (w' :=f) (by simp[go_sem]) ?_;exact⟨by simp[P,N,S],m⟩
  rintro _ f ⟨rfl,m⟩;unfold JC;intro _;have M3:=(z.trans M2).trans m;cases a:(decide (last<k.spec.num)&& (decide (1<=k.st)&& (decide (k.st<=3)&& k.spec.isPrice k.price)))with
  |false=>
   rw[show(!false)=true from rfl,ci,if_pos rfl];refine u (λC=>?_) _ M3;rw[e]at C;have:=C.2;simp only[Bool.and_eq_true,decide_eq_true_eq]at this a;simp only[Bool.and_eq_false_iff,decide_eq_false_iff_not]at a;obtain⟨E,A,D,o,-⟩:=this;rcases a with a|a|a|a
   ·exact a E
   ·exact a A
   ·exact a D
   ·rw[o]at a;cases a
  |true=>
   rw[show(!true)=false from rfl,ci,if_neg Bool.false_ne_true];have b3:sM f p k:=m.hpk r id;obtain⟨g0,g1,g2,g3⟩:=kx p f;refine ck g0 (ck g3 (ck (Eu b3) ?_));refine ck (v:=.int .i64 ((i+1:Nat):Int)) (w' :=f) (by simp[go_sem];rw[cV (by omega) (by omega)]) ?_;refine L _ _ ⟨i+1,k.spec.num,_,_,by omega,rfl,?_,M3⟩ (by show l.length - (((i+1:Nat):Int)).toNat<l.length - ((i:Int)).toNat;omega);rw[e];simp only[Bool.and_eq_true,decide_eq_true_eq]at a;obtain⟨E,A,D,o⟩:=a;simp[E,A,D,o]
 ·obtain rfl:i=l.length:=by omega
  rw[ci,if_neg (by simp)];rw[List.drop_length]at e;have j:kM 0 l=true:=e;refine pB (l:=l) (h.mod z λ_ _ h=>h) (by omega) λn f I m n3=>?_;obtain⟨ta,tc,G,-⟩:=I.isSl;refine ck (v:=.agg #[.bool true,.int .u32 day,n]) (w' :=f) (by rw[G];simp[go_sem]) ?_;obtain⟨q,hq⟩:∃q,q=f.heap.size:=⟨_,rfl⟩
  have X:cl (λ_=>False) f (f.alloc (.cells #[.bool true,.int .u32 day,n] 197)):=(cl.refl _ _).alloc _;have b4:hp (f.alloc (.cells #[.bool true,.int .u32 day,n] 197)) q=some (.cells #[.bool true,.int .u32 day,n] 197 (0,0)):=by rw[hq];simp[go_sem]
  refine ck (v:=dK q) (w' :=f.alloc (.cells #[.bool true,.int .u32 day,n] 197)) (by rw[hq];rfl) ?_;have hs:=z.size;have V:=m.size;obtain⟨u1,u2⟩:=iE j;refine J (by omega) j q (λb=>b=q\/co n b) _ ⟨⟨n,b4,I.mod X λ_ _ h=>h,λb=>Iff.rfl,λa=>by have:=I.lt a;omega⟩,by show l.length<=16;omega,hd,λk Z=>?_,u2⟩ ((z.trans m).trans X) λb H=>?_
  ·obtain⟨E,A,D,o⟩:=u1 k Z;have:=o;unfold Sp.isPrice at this;exact⟨hf k Z,(Bool.and_eq_true _ _▸this).1,o,A,D⟩
  ·rcases H with rfl|H
   ·omega
   ·have:=n3 b H;omega
def FC(l:List Ct)(n:Int):decide (di l n=0)=(decide ((fE l n).2=0)&& decide ((fE l n).1.st≠3)):=by
 unfold di fE;cases ek l n with
 |none=>simp
 |some k=>
  by_cases h:k.st=3
  ·simp[h]
  ·simp[h]
def vl{w:World}{K:cm}{v c l mb md:Nat}{A:List (Int×Nat)}{D:List (Int×Value)}{J:Pt->Nat->Prop}{S:dF}{n:Int}(h:gZ w v c l mb md A D J S)
  (d:∀z,cl (λ_=>False) w z->K (.tuple #[.agg (dN (fE S.cal.l n).1).toArray,.bool (decide (di S.cal.l n=0))]) z):Ca Tryz.prog 49 #[eh v,.int .u32 n] w K:=by
 apply RH;rw[FC]at d;refine nE _ λN t m=>?_;obtain⟨p,o⟩:∃p,p=w.heap.size:=⟨_,rfl⟩
 rw[<-o]at t|-;have h1:=h.md0 m;simp only[eh,cw];refine ck (jX 0 (by omega) _) (ck (Kj _ h1.blk) ?_);refine IY h1.cal λH j=>?_;generalize fE S.cal.l n=x at d|-;refine ck (by simp[-Int.natCast_add,go_sem]<;>first|exact⟨rfl,rfl⟩|exact rfl) ?_;refine ck (by simp[-Int.natCast_add,go_sem]<;>first|exact⟨rfl,rfl⟩|exact rfl) ?_;have F:sM H p nU:=j.hpk t id;refine nE _ λO C B=>?_;obtain⟨q,k⟩:∃q,q=H.heap.size:=⟨_,rfl⟩
 rw[<-k]at C|-;refine wW (k' :=x.1) C λb L G=>?_;have I:p<q:=by have:=cn F;omega
 have md:=(cl.refl (λ_=>False) b).drew;have a:sM b.drew q x.1:=md.hpk L id;have g:sM b.drew p nU:=md.hpk (G.hpk (B.hpk F id) (by omega)) id;have s:cl (λ_=>False) w b.drew:=(((m.trans j).trans B).on G λy E=>.inr (by have:=m.size;have:=j.size;omega)).trans md;generalize b.drew=u at a g s|-;have M:w.heap.size<=p:=by omega
 refine eX (dN x.1) 26 zV xz (cX _) (At.all a) ?_;refine cq (v:=.bool (decide (x.2=0))) (λW=>by simp[go_sem];try rw[Bool.eq_iff_iff];simp) ?_;by_cases f:x.2=0
 ·rw[ci,if_pos (by simpa using f)];refine cq (λW=>(kx q W).2.1) (cx (nz a) ?_);refine cq (v:=.bool (decide (x.1.st≠3))) (λW=>by simp[go_sem];try rw[Bool.eq_iff_iff];simp) ?_;refine wW (k' :=x.1) g λr i e=>?_;refine⟨nz (e.hpk a (by omega)),?_⟩;refine eX (dN x.1) 26 zV xz (cX _) (At.all i) ?_;have:=d r (s.on e λy E=>.inr (by omega));rw[f]at this;simpa using this
 ·rw[ci,if_neg (by simpa using f)];refine wW (k' :=x.1) g λr i e=>?_;refine eX (dN x.1) 26 zV xz (cX _) (At.all i) ?_;have:=d r (s.on e λy E=>.inr (by omega));simpa [f]using this
abbrev ET:TypeId:=232
def Pc:jL Tryz.prog 3=some (.int .i64 0):=by kernel_rfl
def jf(w:World)(mn:Nat)(U:List Int):Prop:=∃L:List (Int×Int),cU HH KH w mn L/\∀n,(lk L n).getD 0=if n∈U then 1 else 0
def jf.mod{F:Nat->Prop}{w w' :World}{a:Nat}{U:List Int}(h:jf w a U)(b:cl F w w')(h1:¬F a):jf w' a U:=by
 obtain⟨L,c,d⟩:=h;exact⟨L,c.mod b h1,d⟩
def jf.lt{w:World}{a:Nat}{U:List Int}(h:jf w a U):a<w.heap.size:=by
 obtain⟨L,b,c⟩:=h;exact b.lt
def jf.look{w:World}{a:Nat}{U:List Int}(h:jf w a U)(n:Int):(fA ET (.map (some a)) (.int .u64 n) false).run Tryz.prog w=.ok (.int .i64 (if n∈U then 1 else 0)) w:=by
 obtain⟨L,c,d⟩:=h;have:=jD (ok:=false) (x:=n) Ju NM Pc (.inr ⟨a,rfl,c⟩:Aq HH KH w (.map (some a)) L);rw[<-d n];cases b:lk L n with
 |none=>rw[b]at this;exact this
 |some x=>rw[b]at this;exact this
def jf.add{w:World}{c:Nat}{U:List Int}{n:Int}{K:World->Prop}(h:jf w c U)(j:n ∉ U)(f:∀a,jf a c (n::U)->cl (λy=>y=c) w a->K a):gh Tryz.prog (gY ET (.map (some c)) (.int .u64 n) (.int .i64 1)) w K:=by
 obtain⟨L,e,g⟩:=h;refine fm (enc:=HH) (ev:=KH) (x:=n) (v:=1) Ju NM e λa d i _=>f a ⟨_,d,λm=>?_⟩ i;rw[lD];by_cases b:n=m
 ·rw[if_pos b];simp[b]
 ·rw[if_neg b,g m];have:m∈n::U↔m∈U:=by simp;omega
  simp[this,Ne.symm b]
abbrev nS:TypeId:=119
def sI(x:Int×Od):Value:=.agg (du x).toArray
abbrev qw(W:World)(p:Nat)(x:Int×Od):Prop:=hp W p=some (.cells (du x).toArray nS (0,0))
def BH(x:Int×Od)(w:World):∃a,(Instr.box nS (sI x)).run Tryz.prog w=.ok (.pointer (some ⟨w.heap.size,0,none⟩)) a/\qw a w.heap.size x/\cl (λ_=>False) w a:=
 ⟨w.alloc (.cells (du x).toArray nS),rfl,by show hp _ _=_;simp[go_sem],(cl.refl _ w).alloc _⟩
def iR(p:Nat)(W:World):(Instr.fieldAt nS (.pointer (some ⟨p,0,none⟩)) 0).run Tryz.prog W=.ok (.pointer (some ⟨p,0,none⟩)) W/\(Instr.fieldAt nS (.pointer (some ⟨p,0,none⟩)) 1).run Tryz.prog W=.ok (.pointer (some ⟨p,1,none⟩)) W:=⟨by simp[go_sem],by simp[go_sem]⟩
def ri{W:World}{p:Nat}{x:Int×Od}(h:qw W p x):(Instr.loadAt 35 (.pointer (some ⟨p,0,none⟩))).run Tryz.prog W=.ok (.int .u32 x.1) W:=by
 have a:hp W p=some (.cells (du x).toArray nS (0,0)):=h;simp only[du,da]at a;simp[go_sem,a]
def Gs{W:World}{p:Nat}{x:Int×Od}(h:qw W p x):(Instr.loadAt ir (.pointer (some ⟨p,1,none⟩))).run Tryz.prog W=.ok (ig x.2) W:=by
 have a:At W p 0 (du x):=At.all h;have:=a.sub 1 5 (by show 1+5<=6;omega);have e:((du x).drop 1).take 5=da x.2:=rfl;rw[e,Nat.zero_add]at this;exact gM this
def nN(i:Nat)(hi:i<5)(p:Nat)(W:World):(Instr.fieldAt ir (.pointer (some ⟨p,0,none⟩)) i).run Tryz.prog W=.ok (.pointer (some ⟨p,i,none⟩)) W:=by
 have:i=0\/i=1\/i=2\/i=3\/i=4:=by omega
 rcases this with rfl|rfl|rfl|rfl|rfl<;>simp[go_sem]
abbrev CS(W:World)(p:Nat)(o:Od):Prop:=hp W p=some (.cells (da o).toArray ir (0,0))
def uq{W:World}{p:Nat}{o:Od}(h:CS W p o):(Instr.loadAt 27 (.pointer (some ⟨p,0,none⟩))).run Tryz.prog W=.ok (.int .u64 o.num) W/\(Instr.loadAt 35 (.pointer (some ⟨p,1,none⟩))).run Tryz.prog W=.ok (.int .u32 o.acct) W/\(Instr.loadAt 2 (.pointer (some ⟨p,3,none⟩))).run Tryz.prog W=.ok (.int .i64 o.price) W/\(Instr.loadAt 2 (.pointer (some ⟨p,4,none⟩))).run Tryz.prog W=.ok (.int .i64 o.left) W:=by
 have a:hp W p=some (.cells (da o).toArray ir (0,0)):=h;simp only[da]at a;exact⟨by simp[go_sem,a],by simp[go_sem,a],by simp[go_sem,a],by simp[go_sem,a]⟩
abbrev zr(W:World)(p:Nat)(a:Ac):Prop:=hp W p=some (.cells (cJ a).toArray 92 (0,0))
def Pn(p:Nat)(W:World):(Instr.fieldAt 92 (.pointer (some ⟨p,0,none⟩)) 2).run Tryz.prog W=.ok (.pointer (some ⟨p,2,none⟩)) W/\(Instr.fieldAt 92 (.pointer (some ⟨p,0,none⟩)) 3).run Tryz.prog W=.ok (.pointer (some ⟨p,3,none⟩)) W:=⟨by simp[go_sem],by simp[go_sem]⟩
def qU{W:World}{p:Nat}{a:Ac}(h:zr W p a):(Instr.loadAt 4 (.pointer (some ⟨p,2,none⟩))).run Tryz.prog W=.ok (.bool a.kil) W/\(Instr.loadAt 4 (.pointer (some ⟨p,3,none⟩))).run Tryz.prog W=.ok (.bool a.dfl) W:=by
 have b:hp W p=some (.cells (cJ a).toArray 92 (0,0)):=h;simp only[cJ]at b;exact⟨by simp[go_sem,b],by simp[go_sem,b]⟩
def wk(W:World):∃a,(Instr.alloc 92 true (.tuple #[])).run Tryz.prog W=.ok (.pointer (some ⟨W.heap.size,0,none⟩)) a/\zr a W.heap.size ⟨0,0,false,false⟩/\cl (λ_=>False) W a:=
 ⟨W.alloc (.cells (cJ ⟨0,0,false,false⟩).toArray 92),by simp[go_sem,cJ],by show hp _ _=_;simp[go_sem],(cl.refl _ W).alloc _⟩
def xp{W:World}{p:Nat}{a:Ac}(b:Ac)(h:zr W p a):∃d,(Instr.storeAt 92 (.pointer (some ⟨p,0,none⟩)) (gR b)).run Tryz.prog W=.ok () d/\zr d p b/\cl (λy=>y=p) W d:=by
 have c:hp W p=some (.cells (cJ a).toArray 92 (0,0)):=h;simp only[cJ]at c;exact⟨(((W.setCell ⟨p,0,none⟩ (.int .u32 b.num)).setCell ⟨p,1,none⟩ (.int .i64 b.cash)).setCell ⟨p,2,none⟩ (.bool b.kil)).setCell ⟨p,3,none⟩ (.bool b.dfl),by simp[go_sem,c,gR],by show hp _ _=_;simp[go_sem,c,cJ],((((cl.refl (λy=>y=p) W).setCell (.inl rfl) _ _).setCell (.inl rfl) _ _).setCell (.inl rfl) _ _).setCell (.inl rfl) _ _⟩
def Lq(L:dM)(a:Int):L.stB a=(decide ((L.getV a).2=0)&& (!(L.getV a).1.dfl&& !(L.getV a).1.kil)):=by
 unfold dM.stB dM.getV;cases L.getO a with
 |none=>simp
 |some x=>simp
set_option maxRecDepth 10000 in
set_option maxHeartbeats 4000000 in
def ux{w:World}{K:cm}{v c l mb md M:Nat}{A:List (Int×Nat)}{D:List (Int×Value)}{fp:Pt->Nat->Prop}{S:dF}{a:Bool}{U:List Int}{x:Int×Od}(h:gZ w v c l mb md A D fp S)(hN:jf w M U)(hmn:¬fy fp M)
  (hK1:S.stnd a U x=true->∀n,gZ n v c l mb md A D fp S->jf n M (x.2.num::U)->cl (λy=>y=M) w n->K (.bool true) n)
  (hK0:S.stnd a U x=false->∀n,cl (λ_=>False) w n->K (.bool false) n):Ca Tryz.prog 134 #[eh v,sI x,.bool a,.map (some M)] w K:=by
 apply OY;obtain⟨w1,e1,b1,m1⟩:=BH x w;obtain⟨p,hp0⟩:∃p,p=w.heap.size:=⟨_,rfl⟩
 rw[<-hp0]at e1 b1;refine ck e1 (ck (iR p _).2 (ck (Gs b1) ?_));obtain⟨w2,e2,b2,m2⟩:=iJ w1;obtain⟨q,hq0⟩:∃q,q=w1.heap.size:=⟨_,rfl⟩
 rw[<-hq0]at e2 b2;refine ck e2 ?_;obtain⟨w3,e3,b3,m3⟩:=gm (o' :=x.2) b2;refine dI e3 ?_;have hpq:p<q:=by have:=cn b1;omega
 have M3:cl (λ_=>False) w w3:=(m1.trans m2).on m3 λy R=>.inr (by omega);have b13:qw w3 p x:=m3.hpk (m2.hpk b1 id) (by omega);refine ck (iR p _).1 (ck (ri b13) ?_);refine vl (h.md0 M3) λw4 m4=>?_;have o4:CS w4 q x.2:=m4.hpk b3 id;have h4:=h.md0 (M3.trans m4);obtain⟨k,hk⟩:∃k,k=fE S.cal.l x.1:=⟨_,rfl⟩
 rw[<-hk];refine ck (by simp[-Int.natCast_add,go_sem]<;>first|exact⟨rfl,rfl⟩|exact rfl) ?_;refine ck (by simp[-Int.natCast_add,go_sem]<;>first|exact⟨rfl,rfl⟩|exact rfl) ?_;refine nE _ λw5 b5 m5=>?_;obtain⟨z,hz0⟩:∃z,z=w4.heap.size:=⟨_,rfl⟩
 rw[<-hz0]at b5|-;have hqz:q<z:=by have:=cn o4;omega
 refine wW (k' :=k.1) b5 λQ b6 m6=>?_;have md:=(cl.refl (λ_=>False) Q).drew;have o6:CS Q.drew q x.2:=md.hpk (m6.hpk (m5.hpk o4 id) (by omega)) id;have O:sM Q.drew z k.1:=md.hpk b6 id;have hw0:w.heap.size<=p:=by omega
 have Z:cl (λ_=>False) w Q.drew:=(((M3.trans m4).trans m5).on m6 λy R=>.inr (by omega)).trans md;have N:=h.md0 Z;have T:=hN.mod Z id;generalize Q.drew=u at o6 O Z N T|-;obtain⟨g,hg⟩:∃g,g=S.led.getV x.2.acct:=⟨_,rfl⟩
 refine cB.at (λst W=>∃pa,st=(.pointer (some ⟨pa,0,none⟩),.int .i64 g.2,())/\zr W pa g.1/\cl (λ_=>False) u W) ?_ ?_
 ·simp only[eh,cw];refine cq (λW=>jX 1 (by omega) W) (cx (uC _ N.blk) ?_);refine cq (λW=>nN 1 (by omega) q W) (cx (uq o6).2.1 ?_);refine⟨?_,?_⟩
  ·refine zY N.led λd C=>?_;rw[<-hg];refine cq (v:=gR g.1) (λW=>by simp[go_sem]) (cq (v:=.int .i64 g.2) (λW=>by simp[go_sem]) ?_);obtain⟨w8,e8,b8,L⟩:=wk d;obtain⟨w9,e9,Y,E⟩:=xp g.1 b8;refine ck e8 (dI e9 ?_);exact⟨_,rfl,Y,(C.trans L).on E λy R=>.inr (by have:=C.size;omega)⟩
  ·obtain⟨w8,e8,b8,L⟩:=wk u;refine ck e8 ?_;refine⟨(uq (L.hpk o6 id)).2.1,uC _ (N.md0 L).blk,?_⟩;refine zY (N.md0 L).led λw9 E=>?_;rw[<-hg];refine cq (v:=gR g.1) (λW=>by simp[go_sem]) (cq (v:=.int .i64 g.2) (λW=>by simp[go_sem]) ?_);obtain⟨t,e10,I,j⟩:=xp g.1 (E.hpk b8 id);refine dI e10 ?_;exact⟨_,rfl,I,(L.trans E).on j λy R=>.inr (by omega)⟩
 rintro _ d ⟨pa,rfl,a7,C⟩;unfold EA;intro _;have h7:=N.md0 C;have o7:CS d q x.2:=C.hpk o6 id;have b7:sM d z k.1:=C.hpk O id;have N7:=T.mod C id;have M7:=Z.trans C
 have b:S.stnd a U x=(decide (di S.cal.l x.1=0)&& ((decide (g.2=0)&& (!g.1.dfl&& !g.1.kil))&& (x.2.may&& (k.1.spec.isPrice x.2.price&& ((!a||k.1.spec.isQty x.2.left)&& (decide (x.2.num<S.next)&& !U.contains x.2.num)))))):=by
  unfold dF.stnd;rw[Lq,<-hg,<-hk]
 refine cB.at (λst W=>st=(.bool (!S.stnd a U x),())/\cl (λ_=>False) d W) ?_ ?_
 ·refine cq (v:=.bool (!decide (di S.cal.l x.1=0))) (λW=>by simp[go_sem]) ?_;have i:=(cl.refl (λ_=>False) d).drew;by_cases f:di S.cal.l x.1=0
  rotate_left
  ·rw[ci,if_pos (by simpa using f)];exact⟨by rw[b];simp[f],i⟩
  rw[ci,if_neg (by simpa using f)]
  have X:k.1.Fit:=by
   obtain⟨k0,a1,-,-,a2⟩:=ox f;have:k=(k0,0):=by rw[hk];unfold fE;rw[a1]
   rw[this];exact(h.cal.ok k0 a2).1
  refine cq (v:=.bool (decide (g.2≠0))) (λW=>by simp[go_sem];try rw[Bool.eq_iff_iff];simp) ?_;by_cases r:g.2=0
  rotate_left
  ·rw[ci,if_pos (by simpa using r)];exact⟨by rw[b];simp[f,r],i⟩
  rw[ci,if_neg (by simpa using r)];have a8:zr d.drew pa g.1:=i.hpk a7 id;have o8:CS d.drew q x.2:=i.hpk o7 id;have b8:sM d.drew z k.1:=i.hpk b7 id;have h8:=h7.md0 i;have N8:=N7.mod i id;generalize d.drew=w8 at i a8 o8 b8 h8 N8|-;refine cq (λW=>(Pn pa W).2) (cx (qU a8).2 ?_);cases J:g.1.dfl with
  |true=>
   rw[ci,if_pos rfl];exact⟨by rw[b];simp[f,r,J],i⟩
  |false=>
  rw[ci,if_neg Bool.false_ne_true];refine cq (λW=>(Pn pa W).1) (cx (qU a8).1 ?_);cases V:g.1.kil with
  |true=>
   rw[ci,if_pos rfl];exact⟨by rw[b];simp[f,r,J,V],i⟩
  |false=>
  rw[ci,if_neg Bool.false_ne_true];refine cx (gM (o:=x.2) (At.all o8)) ?_;refine xb λw9 E=>?_;refine cq (v:=.bool (!x.2.may)) (λW=>by simp[go_sem]) ?_;have M9:=i.trans E;cases c5:x.2.may with
  |false=>
   rw[show(!false)=true from rfl,ci,if_pos rfl];exact⟨by rw[b];simp[f,r,J,V,c5],M9⟩
  |true=>
  rw[show(!true)=false from rfl,ci,if_neg Bool.false_ne_true];have o9:CS w9 q x.2:=E.hpk o8 id;have Y:sM w9 z k.1:=E.hpk b8 id;refine cq (λW=>(kx z W).1) (eX (dl k.1.spec) 24 uS sm (cL _) (kz (At.all Y)) ?_);refine cq (λW=>nN 3 (by omega) q W) (cx (uq o9).2.2.1 ?_);refine tW X.1 λt j=>?_;refine cq (v:=.bool (!k.1.spec.isPrice x.2.price)) (λW=>by simp[go_sem]) ?_;have s:=M9.trans j;cases c6:k.1.spec.isPrice x.2.price with
  |false=>
   rw[show(!false)=true from rfl,ci,if_pos rfl];exact⟨by rw[b];simp[f,r,J,V,c5,c6],s⟩
  |true=>
  rw[show(!true)=false from rfl,ci,if_neg Bool.false_ne_true];have o10:CS t q x.2:=j.hpk o9 id;have I:sM t z k.1:=j.hpk Y id
  have P:∀W,cl (λ_=>False) d W->(!a||k.1.spec.isQty x.2.left)=true->∀K2:Value×Unit->World->Prop,K2 (.bool (!S.stnd a U x),()) W->
    sO Tryz.prog (Instr.fieldAt ir (.pointer (some ⟨q,0,none⟩)) 0) λv71=>sY Tryz.prog (Instr.loadAt 27 v71) W λv72=>cD (.pointer (some ⟨v,0,none⟩)) λv73=>sO Tryz.prog (Instr.fieldAt pl v73 4) λv74=>sY Tryz.prog (Instr.loadAt 27 v74) W λv75=>
     sO Tryz.prog (tf .geq 27 false v72 v75) λv76=>cz v76 (K2 (.bool true,()) W) (sO Tryz.prog (Instr.fieldAt ir (.pointer (some ⟨q,0,none⟩)) 0) λv77=>sY Tryz.prog (Instr.loadAt 27 v77) W λv78=>iD Tryz.prog (fA ET (.map (some M)) v78 false) W λv79=>sO Tryz.prog (tf .gtr 3 true v79 (.int .i64 0)) λv80=>K2 (v80,()) W):=by
   intro W m c7 K2 G;have oW:CS W q x.2:=m.hpk o7 id;refine cq (λW=>nN 0 (by omega) q W) (cx (uq oW).1 ?_);rw[cw];refine cq (λW=>jX 4 (by omega) W) (cx (nh _ (h7.md0 m).blk) ?_);refine cq (v:=.bool (decide (S.next<=x.2.num))) (λW=>by simp[go_sem]) ?_;by_cases c8:S.next<=x.2.num
   ·rw[ci,if_pos (by simpa using c8)];have B:¬x.2.num<S.next:=by omega
    have:S.stnd a U x=false:=by rw[b];simp[B]
    rw[this]at G;exact G
   rw[ci,if_neg (by simpa using c8)];have B:x.2.num<S.next:=by omega
   refine cq (λW=>nN 0 (by omega) q W) (cx (uq oW).1 ?_);refine jg ((N7.mod m id).look x.2.num) ?_;refine cq (v:=.bool (!S.stnd a U x)) (λW=>?_) G;rw[b,c7];by_cases c9:x.2.num∈U
   ·simp[go_sem,f,r,J,V,c5,c6,B,c9]
   ·simp[go_sem,f,r,J,V,c5,c6,B,c9]
  cases a with
  |true=>
   rw[ci,if_pos rfl];refine cq (λW=>(kx z W).1) (eX (dl k.1.spec) 24 uS sm (cL _) (kz (At.all I)) ?_);refine cq (λW=>nN 4 (by omega) q W) (cx (uq o10).2.2.2 ?_);refine Gg X.1 λw11 m11=>?_;refine cq (v:=.bool (!k.1.spec.isQty x.2.left)) (λW=>by simp[go_sem]) ?_;have H:=s.trans m11;cases c7:k.1.spec.isQty x.2.left with
   |false=>
    rw[show(!false)=true from rfl,ci,if_pos rfl];exact⟨by rw[b];simp[c7],H⟩
   |true=>
    rw[show(!true)=false from rfl,ci,if_neg Bool.false_ne_true];exact P w11 H (by simp[c7]) (λst W=>st=(.bool (!S.stnd true U x),())/\cl (λ_=>False) d W) ⟨rfl,H⟩
  |false=>
   rw[ci,if_neg Bool.false_ne_true];exact P t s rfl (λst W=>st=(.bool (!S.stnd false U x),())/\cl (λ_=>False) d W) ⟨rfl,s⟩
 rintro _ W ⟨rfl,mW⟩;unfold DN;intro _;have MW:=M7.trans mW;cases hs:S.stnd a U x with
 |false=>
  rw[show(!false)=true from rfl,ci,if_pos rfl];exact hK0 hs W MW
 |true=>
  rw[show(!true)=false from rfl,ci,if_neg Bool.false_ne_true];have oW:CS W q x.2:=mW.hpk o7 id;have NW:=N7.mod mW id;have F:=(kZ hs).new;refine ck (nN 0 (by omega) q W) (ck (uq oW).1 ?_);refine fM (NW.look x.2.num) ?_;rw[if_neg F];refine ck (v:=.int .i64 1) (w' :=W) (by simp[go_sem];decide) ?_;refine NW.add F λn N' m' =>?_;exact hK1 hs n ((h.md0 MW).mod m' λpt y R e=>hmn ⟨pt,e▸R⟩) N' ((MW.mono λ_ _ h=>h.elim).trans m')
end Go.Proofs
