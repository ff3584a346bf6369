/- Part of a proof. -/
import Derived.Test.YtgebhcgmckjbbaaGreatP19
set_option linter.all false
set_option maxRecDepth 100000
namespace Go.Proofs
open Go Go.Vc
def Es(a:cm)(b:Value)(c:T4)(d:T4->Wp)(e:T1)(f:World):=NV->cC e.1 (a (.bool false) f) (cI 92 b 0 35 f λg h=>cI 92 b 1 2 h λi j=>gb .add 2 false c.1 i j λk l=>gb .add 3 true c.2.2.2.1 (gI 1) l λm n=>d (k,c.2.1,g,m,()) n)
def EJ(a b:Value)(c:cm)(d:T4)(e:World)(f:T4->Wp):=NV->gb .lss 3 false d.2.2.2.1 a e λg h=>cC g (kv 44 b d.2.2.2.1 92 h λi j=>gv 92 i j λk l=>cy (S:=T1) (λm=>cI 92 k 0 35 l λn o=>gb .leq 35 false n d.2.2.1 o λp q=>cC p (m ((.bool true),()) q) (cI 92 k 1 2 q λr s=>Ca Tryz.prog 194 #[r,(gI 0),(gI 1000000000000000)] s λt u=>gt t u λv w=>m (v,()) w)) (Es c k d f)) (gb .leq 2 true d.1 (gI 1000000000000000) h c)
def Eu(a:cm)(b c:Value)(d:T1)(e:World):=NV->cC d.1 (a (.bool false) e) (gn 44 false b e λf g=>cO (S:=T4) (EJ f b a) (c,(.bool false),(.int .u32 0),(gI 0),()) g)
def Qe{a b:Value}{c:World}{d:cm}(n:cy (S:=T1) (λe=>gn 44 false b c λf g=>gb .gtr 3 true f (gI 64) g λh i=>cC h (e ((.bool true),()) i) (Ca Tryz.prog 194 #[a,(gI 0),(gI 1000000000000000)] i λj k=>gt j k λl m=>e (l,()) m)) (Eu d b a)):Ca Tryz.prog 129 #[a,b] c d:=cj Tryz.func129 n
def KZ(a:cm)(b:T2->Wp)(c:Value×T4)(d:T1)(e:World):=NV->cC d.1 (a (.tuple #[(.pointer none),(gI 2)]) e) (b (c.2.1,c.1,()) e)
def Km(a:cm)(b c:Value)(d:Value×T4)(e f:Value)(g:Value×T4->Wp)(h:T2)(i:T1)(j:World):=NV->cC i.1 (a (.tuple #[(.pointer none),(gI 2)]) j) (df 224 b j.drew λk=>dP 112 c 2 λl=>df 2 l j.drew λm=>gX .add 2 false d.2.2.1 m λn=>dP 112 c 3 λo=>df 2 o j.drew λp=>gX .add 2 false d.2.2.2.1 p λq=>gs 224 e k j.drew λr=>gk 2 o p r/\gk 2 l m r/\(gk 2 o p r/\(cF f λs=>en 201 s 1 199 r.drew λt=>df 224 b r.drew λu=>df 112 c r.drew λv=>fV Tryz.prog (gR 199 t u v) r.drew λw=>gb .add 3 true d.2.2.2.2.1 (gI 1) w λx y=>g (h.2.1,h.1,n,q,x,()) y)))
def Ks(a:cm)(b c:Value)(d:Value×T4)(e f:Value)(g:Value×T4->Wp)(h:T2)(i:T1)(j:World):=NV->cC i.1 (a (.tuple #[(.pointer none),(gI 2)]) j) (cy (S:=T1) (λk=>cI 112 b 2 2 j λl m=>Ca Tryz.prog 130 #[l,(gI 10000000)] m λn o=>gt n o λp q=>cC p (k ((.bool true),()) q) (cI 112 b 3 2 q λr s=>Ca Tryz.prog 130 #[r,(gI 1000000000000000)] s λt u=>gt t u λv w=>k (v,()) w)) (Km a c b d e f g h))
def Ki(a:cm)(b c d:Value)(e:Value×T4)(f g:Value)(h:Value×T4->Wp)(i:T2)(j:T1)(k:World):=NV->cC j.1 (a (.tuple #[(.pointer none),(gI 2)]) k) (cy (S:=T1) (λl=>cI 112 b 0 35 k λm n=>gb .eql 35 true m (.int .u32 0) n λo p=>cC o (l ((.bool true),()) p) (cI 112 b 1 35 p λq r=>gb .eql 35 true q (.int .u32 0) r λs t=>cC s (l ((.bool true),()) t) (gt c t λu v=>cC u (l ((.bool true),()) v) (cI 112 b 2 2 v λw x=>gb .eql 2 true w (gI 0) x λy z=>cC y (cI 112 b 3 2 z λA B=>gb .eql 2 true A (gI 0) B λC D=>l (C,()) D) (l ((.bool false),()) z))))) (Ks a b d e f g h i))
def K3(a b c d:Value)(e:cm)(f:Value×T4)(g:Value×T4->Wp)(h:T2)(i:World):=NV->cF a λj=>dP 201 j 0 λk=>df 198 k i.drew λl=>dP 112 b 1 λm=>df 35 m i.drew λn=>iw Tryz.prog (fA 198 l n true) i.drew λo=>gp (Instr.extract o 0) λp=>gp (Instr.extract o 1) λq=>ga 92 i.drew λr s=>Sem.run Tryz.prog (fA 198 l n true) s=.ok o s/\gk 35 m n s/\gk 198 k l s/\(gs 92 r p s λt=>cy (S:=T1) (λu=>cI 224 c 0 35 t λv w=>cI 224 d 0 35 w λx y=>gb .lss 35 false v x y λz A=>cC z (u ((.bool true),()) A) (cI 224 c 0 35 A λB C=>cI 224 d 0 35 C λD E=>gb .eql 35 false B D E λF G=>cC F (cI 224 c 1 35 G λH I=>cI 224 d 1 35 I λJ K=>gb .leq 35 false H J K λL M=>u (L,()) M) (u ((.bool false),()) G))) (Ki e b q c f d a g h))
def J7(a:cm)(b:Value)(c:T1)(d:World):=NV->cC c.1 (a (.tuple #[(.pointer none),(gI 2)]) d) (a (.tuple #[b,(gI 0)]) d)
def Ka(a b c:Value)(d:cm)(e:Value)(f:Value×T4)(g:World)(h:Value×T4->Wp):=NV->gb .lss 3 false f.2.2.2.2.1 a g λi j=>cC i (kv 46 b f.2.2.2.2.1 112 j λk l=>gv 112 k l λm n=>cI 112 m 0 35 n λo p=>cI 112 m 1 35 p λq r=>gr (Instr.build 224 #[(0,o),(1,q)]) r λs t=>gv 224 s t λu v=>cy (S:=T2) (λw=>cI 224 u 0 35 v λx y=>cI 224 c 0 35 y λz A=>gb .neq 35 false x z A λB C=>cC B (cy (S:=T1) (λD=>gb .neq 2 true f.2.2.1 (gI 0) C λE F=>cC E (D ((.bool true),()) F) (gb .neq 2 true f.2.2.2.1 (gI 0) F λG H=>D (G,()) H)) (KZ d w f)) (w (f.2.1,f.1,()) C)) (K3 e m u c d f h)) (cy (S:=T1) (λI=>gb .neq 2 true f.2.2.1 (gI 0) j λJ K=>cC J (I ((.bool true),()) K) (gb .neq 2 true f.2.2.2.1 (gI 0) K λL M=>I (L,()) M)) (J7 d e))
def KW(a b c d:Value)(e:cm)(f:T1)(g:World)(h:T1->Wp):=NV->gb .lss 3 false f.1 a g λi j=>cC i (kv 44 b f.1 92 j λk l=>gv 92 k l λm n=>cF c λo=>en 201 o 0 198 n.drew λp=>en 92 m 0 35 n.drew λq=>df 92 m n.drew λr=>fV Tryz.prog (gR 198 p q r) n.drew λs=>gb .add 3 true f.1 (gI 1) s λt u=>h (t,()) u) (ga 224 j λv w=>gn 46 false d w λx y=>cO (S:=Value×T4) (Ka x d v e c) ((.pointer none),(gI 0),(gI 0),(gI 0),(gI 0),()) y)
def SU{a b c:Value}{d:World}{e:cm}(t:Ca Tryz.prog 129 #[a,b] d λf g=>gt f g λh i=>cC h (e (.tuple #[(.pointer none),(gI 2)]) i) (Ca Tryz.prog 36 #[] i λj k=>cF j λl=>cI 201 l 0 198 k λm n=>gr (Instr.build 92 #[(1,a)]) n λo p=>fV Tryz.prog (gR 198 m (.int .u32 0) o) p λq=>gn 44 false b q λr s=>cO (S:=T1) (KW r b j c e) ((gI 0),()) s)):Ca Tryz.prog 46 #[a,b,c] d e:=cj Tryz.func46 t
def Ku(a:cm)(b:Value)(c:T4)(d:T4->Wp)(e:T1)(f:World):=NV->cC e.1 (a (.tuple #[(.pointer none),(gI 2)]) f) (gf 108 b 0 f λg h=>cI 38 g 0 35 h λi j=>gb .add 3 true c.2.2.2.1 (gI 1) j λk l=>d (c.1,c.2.1,i,k,()) l)
def Kz(a b:Value)(c:cm)(d:Value)(e:T4)(f:World)(g:T4->Wp):=NV->gb .lss 3 false e.2.2.2.1 a f λh i=>cC h (gi 45 b e.2.2.2.1 i λj k=>gx (dm 108 j) k λl m=>gx (ic 108) m λn o=>fV Tryz.prog (ej 108 n l) o λp=>cy (S:=T1) (λq=>gf 108 n 0 p λr s=>cI 38 r 0 35 s λt u=>gb .leq 35 false t e.2.2.1 u λv w=>cC v (q ((.bool true),()) w) (cI 108 n 1 106 w λx y=>gb .lss 106 true x (.int .u8 1) y λz A=>cC z (q ((.bool true),()) A) (cI 108 n 1 106 A λB C=>gb .gtr 106 true B (.int .u8 3) C λD E=>cC D (q ((.bool true),()) E) (gf 108 n 0 E λF G=>gx (dm 38 F) G λH I=>cI 108 n 2 2 I λJ K=>Ca Tryz.prog 127 #[H,J] K λL M=>gt L M λN O=>q (N,()) O)))) (Ku c n e g)) (Ca Tryz.prog 128 #[b] i λP Q=>gr (Instr.build 197 #[(0,(.bool true)),(1,d),(2,P)]) Q λR S=>gq 197 R S λT U=>c (.tuple #[T,(gI 0)]) U)
def RT{a b:Value}{c:World}{d:cm}(k:gn 45 false b c λe f=>gb .gtr 3 true e (gI 16) f λg h=>cC g (d (.tuple #[(.pointer none),(gI 2)]) h) (gn 45 false b h λi j=>cO (S:=T4) (Kz i b d a) ((.pointer none),(gI 0),(.int .u32 0),(gI 0),()) j)):Ca Tryz.prog 45 #[a,b] c d:=cj Tryz.func45 k
def SE{a b:Value}{c:World}{d:cm}(A:gx (ic 108) c λe f=>cF a λg=>cI 66 g 0 61 f λh i=>Ca Tryz.prog 123 #[h,b] i λj k=>kU j k λl m n=>gx (ic 108) n λo p=>fV Tryz.prog (ej 108 o l) p λq=>iw Tryz.prog (dm 108 o) q.drew λr=>gX .eql 26 true m (gI 0) λs=>cC s (dP 108 o 1 λt=>df 106 t q.drew λu=>gX .neq 106 true u (.int .u8 3) λv=>fV Tryz.prog (ej 108 e r) q.drew λw=>gk 106 t u w/\(iw Tryz.prog (dm 108 e) w λx=>d (.tuple #[x,v]) w)) (fV Tryz.prog (ej 108 e r) q.drew λy=>iw Tryz.prog (dm 108 e) y λz=>d (.tuple #[z,(.bool false)]) y)):Ca Tryz.prog 49 #[a,b] c d:=cj Tryz.func49 A
def Er(a:cm)(b c:Value)(d:T1)(e:World):=NV->cC d.1 (a (.bool false) e) (cI 117 b 0 27 e λf g=>gx (fA 232 c f false) g λh i=>gb .add 3 true h (gI 1) i λj k=>fV Tryz.prog (gR 232 c f j) k λl=>a (.bool true) l)
def Fb(a b c d e f:Value)(g:cm)(h:T2)(i:World):=NV->cy (S:=T1) (λj=>gp (Op.unary .not a) λk=>cC k (j ((.bool true),()) i.drew) (gX .neq 26 true h.2.1 (gI 0) λl=>cC l (j ((.bool true),()) i.drew) (en 92 h.1 3 4 i.drew λm=>cC m (j ((.bool true),()) i.drew) (en 92 h.1 2 4 i.drew λn=>cC n (j ((.bool true),()) i.drew) (df 117 b i.drew λo=>Ca Tryz.prog 222 #[o] i.drew λp q=>gp (Op.unary .not p) λr=>cC r (j ((.bool true),()) q) (dP 108 c 0 λs=>iw Tryz.prog (dm 38 s) q λt=>en 117 b 3 2 q λu=>Ca Tryz.prog 127 #[t,u] q λv w=>gp (Op.unary .not v) λx=>cC x (j ((.bool true),()) w) (cC d (dP 108 c 0 λy=>iw Tryz.prog (dm 38 y) w λz=>en 117 b 4 2 w λA=>Ca Tryz.prog 223 #[z,A] w λB C=>gp (Op.unary .not B) λD=>cC D (j ((.bool true),()) C) (en 117 b 0 27 C λE=>cF e λF=>en 66 F 4 27 C λG=>gX .geq 27 false E G λH=>cC H (j ((.bool true),()) C) (en 117 b 0 27 C λI=>iw Tryz.prog (fA 232 f I false) C λJ=>gX .gtr 3 true J (gI 0) λK=>j (K,()) C))) (en 117 b 0 27 w λL=>cF e λM=>en 66 M 4 27 w λN=>gX .geq 27 false L N λO=>cC O (j ((.bool true),()) w) (en 117 b 0 27 w λP=>iw Tryz.prog (fA 232 f P false) w λQ=>gX .gtr 3 true Q (gI 0) λR=>j (R,()) w))))))))) (Er g b f)
def PM{a b c d:Value}{e:World}{f:cm}(P:gq 119 b e λg h=>cI 119 g 1 117 h λi j=>gv 117 i j λk l=>cI 119 g 0 35 l λm n=>Ca Tryz.prog 49 #[a,m] n λo p=>kU o p λq r s=>gx (ic 108) s λt u=>fV Tryz.prog (ej 108 t q) u λv=>cy (S:=T2) (λw=>cF a λx=>dP 66 x 1 λy=>df 62 y v.drew λz=>dP 117 k 1 λA=>df 35 A v.drew λB=>(Ca Tryz.prog 52 #[z,B] v.drew λC D=>gp (Instr.extract C 0) λE=>gp (Instr.extract C 1) λF=>gv 92 E D λG H=>w (G,F,()) H)/\(ga 92 v.drew λI J=>gk 35 A B J/\gk 62 y z J/\(Ca Tryz.prog 52 #[z,B] J λK L=>gp (Instr.extract K 0) λM=>gp (Instr.extract K 1) λN=>gs 92 I M L λO=>w (I,N,()) O))) (Fb r k t c a d f)):Ca Tryz.prog 134 #[a,b,c,d] e f:=cj Tryz.func134 P
def J6(a:cm)(b:T2)(c:T2->Wp)(d:T1)(e:World):=NV->cC d.1 (a (.bool false) e) (gb .add 3 true b.2.1 (gI 1) e λf g=>c (b.1,f,()) g)
def KX(a:cm)(b:T2)(c:T2->Wp)(d:T2)(e:World):=NV->cy (S:=T1) (λf=>gb .neq 26 true d.2.1 (gI 0) e λg h=>cC g (f ((.bool true),()) h) (cI 235 d.1 1 29 h λi j=>gn 29 false i j λk l=>gb .gtr 3 true k (gI 0) l λm n=>f (m,()) n)) (J6 a b c)
def Kf(a:T1->Wp)(b:T3)(c:T1)(d:World):=NV->cC c.1 (a ((.int .u64 0),()) d) (a (b.2.1,()) d)
def Lk(a:cm)(b c:Value)(d:T3)(e:T3->Wp)(f:T1)(g:World):=NV->cC f.1 (a (.bool false) g) (gf 119 b 1 g λh i=>cI 117 h 0 27 i λj k=>cF c λl=>dP 66 l 3 λm=>df 64 m k.drew λn=>dP 119 b 0 λo=>df 35 o k.drew λp=>cF c λq=>dP 66 q 3 λr=>df 64 r k.drew λs=>dP 119 b 0 λt=>df 35 t k.drew λu=>iw Tryz.prog (fA 64 s u false) k.drew λv=>en 119 b 1 117 k.drew λw=>gx (dQ 133 1 [(0,w)]) k.drew λx y=>Sem.run Tryz.prog (fA 64 s u false) y=.ok v y/\gk 35 t u y/\gk 64 r s y/\gk 35 o p y/\gk 64 m n y/\(gx (cx #[133,133] 133 [v,x]) y λz A=>gk 35 o p A/\gk 64 m n A/\(fV Tryz.prog (gR 64 n p z) A λB=>gb .add 3 true d.2.2.1 (gI 1) B λC D=>e (d.1,j,C,()) D)))
def Kq(a b c:Value)(d:cm)(e:T3)(f:T3->Wp)(g:T1)(h:World):=NV->cy (S:=T1) (λi=>df 119 a h.drew λj=>Ca Tryz.prog 134 #[b,j,(.bool false),c] h.drew λk l=>gp (Op.unary .not k) λm=>cC m (i ((.bool true),()) l) (dP 119 a 1 λn=>en 117 n 0 27 l λo=>gX .leq 27 false o g.1 λp=>cC p (i ((.bool true),()) l) (cF b λq=>en 66 q 3 64 l λr=>en 119 a 0 35 l λs=>iw Tryz.prog (fA 64 r s false) l λt=>gw (Builtin.len_ #[133] 3 #[t]) l λu=>gX .geq 3 true u (gI 50) λv=>i (v,()) l))) (Lk d a b e f)
def Hb(a b c d e:Value)(f:cm)(g:T3)(h:World)(i:T3->Wp):=NV->gb .lss 3 false g.2.2.1 a h λj k=>cC j (kv 47 b g.2.2.1 119 k λl m=>gv 119 l m λn o=>cy (S:=T1) (λp=>cy (S:=T1) (λq=>gX .gtr 3 true g.2.2.1 (gI 0) λr=>cC r (en 119 n 0 35 o.drew λs=>en 49 c 7 47 o.drew λt=>gX .sub 3 true g.2.2.1 (gI 1) λu=>ng 47 t u λv=>en 119 v 0 35 o.drew λw=>gX .neq 35 false s w λx=>q (x,()) o.drew) (q ((.bool false),()) o.drew)) (Kf p g)) (Kq n d e f g i)) (f (.bool true) k)
def KC(a b c d:Value)(e:cm)(f:Value)(g:T2)(h:World)(i:T2->Wp):=NV->gb .lss 3 false g.2.1 a h λj k=>cC j (kv 47 b g.2.1 119 k λl m=>gv 119 l m λn o=>gl 119 n o λp q=>Ca Tryz.prog 134 #[c,p,(.bool true),d] q λr s=>gt r s λt u=>cC t (e (.bool false) u) (cy (S:=T2) (λv=>cF c λw=>dP 66 w 2 λx=>df 63 x u.drew λy=>dP 119 n 0 λz=>df 35 z u.drew λA=>iw Tryz.prog (fA 63 y A false) u.drew λB=>dP 119 n 1 λC=>df 117 C u.drew λD=>(Ca Tryz.prog 135 #[B,D,(.int .u8 4)] u.drew λE F=>gp (Instr.extract E 0) λG=>gp (Instr.extract E 1) λH=>gv 235 G F λI J=>v (I,H,()) J)/\(ga 235 u.drew λK L=>gk 117 C D L/\Sem.run Tryz.prog (fA 63 y A false) L=.ok B L/\gk 35 z A L/\gk 63 x y L/\(Ca Tryz.prog 135 #[B,D,(.int .u8 4)] L λM N=>gp (Instr.extract M 0) λO=>gp (Instr.extract M 1) λP=>gs 235 K O N λQ=>v (K,P,()) Q))) (KX e g i))) (cI 49 f 7 47 k λR S=>gn 47 false R S λT U=>cO (S:=T3) (Hb T R f c d e) (g.1,(.int .u64 0),(gI 0),()) U)
def RW{a b:Value}{c:World}{d:cm}(m:gq 49 b c λe f=>gr (Instr.makeMap 232 none) f λg h=>cI 49 e 6 47 h λi j=>gn 47 false i j λk l=>cO (S:=T2) (KC k i a g d e) ((.bool false),(gI 0),()) l):Ca Tryz.prog 50 #[a,b] c d:=cj Tryz.func50 m
def Lm(a:List Nat)(b:cm)(c:Value)(d:T1)(e:World):=NV->cC d.1 (jC (a++[]) e λf=>b (.tuple #[(.pointer none),(gI 2)]) f) (gl 23 c e λg h=>jC (a++[]) h λi=>b (.tuple #[g,(gI 0)]) i)
def GQ(a b c:Value)(d:List Nat)(e:cm)(f:Value)(g:T3)(h:World)(i:T3->Wp):=NV->gb .lss 3 false g.2.2.1 a h λj k=>cC j (kv 46 b g.2.2.1 112 k λl m=>gv 112 l m λn o=>gl 23 c o λp q=>cI 112 n 0 35 q λr s=>Ca Tryz.prog 49 #[p,r] s λt u=>kU t u λv w x=>gx (ic 108) x λy z=>fV Tryz.prog (ej 108 y v) z λA=>gt w A λB C=>cC B (jC (d++[]) C λD=>e (.tuple #[(.pointer none),(gI 2)]) D) (gb .add 3 true g.2.2.1 (gI 1) C λE F=>i (g.1,g.2.1,E,()) F)) (gl 23 c k λG H=>gl 49 f H λI J=>Ca Tryz.prog 50 #[G,I] J λK L=>gt K L λM N=>cC M (jC (d++[]) N λO=>e (.tuple #[(.pointer none),(gI 2)]) O) (gl 23 c N λP Q=>Ca Tryz.prog 14 #[P] Q λR S=>gv 49 R S λT U=>cy (S:=T1) (λV=>cI 49 T 6 47 U λW X=>cI 49 f 6 47 X λY Z=>Ca Tryz.prog 51 #[W,Y] Z λaa ab=>gt aa ab λac ad=>cC ac (V ((.bool true),()) ad) (cI 49 T 7 47 ad λae af=>cI 49 f 7 47 af λag ah=>Ca Tryz.prog 51 #[ae,ag] ah λai aj=>gt ai aj λak al=>V (ak,()) al)) (Lm d e c)))
def K4(a:Value)(b:Nat)(c:List Value)(d:World)(e:Wp)(f:Code->Wp):=gx (ic 108) d λg h=>fV Tryz.prog (ej 108 g (c.getD 0 undef)) h λi=>iK b i λj=>df 23 a j.drew λk=>cF k λl=>dP 66 l 2 λm=>df 63 m j.drew λn=>dP 108 g 0 λo=>dP 38 o 0 λp=>df 35 p j.drew λq=>Ca Tryz.prog 48 #[] j.drew λr s=>gk 35 p q s/\gk 63 m n s/\gk 23 a k s/\(fV Tryz.prog (gR 63 n q r) s e)
def Lv(a b:Value)(c:cm)(d:List Nat)(e:Option Code)(f:World):=fk (λg=>cI 49 a 5 46 g λh i=>gn 46 false h i λj k=>cO (S:=T3) (GQ j h b d c a) ((.pointer none),(gI 0),(gI 0),()) k) (λl=>jC (d++[]) l λm=>c (.tuple #[(.pointer none),(gI 0)]) m) (λn o=>bc (Nat.beq n 0) (cI 49 a 5 46 o λp q=>gn 46 false p q λr s=>cO (S:=T3) (GQ r p b d c a) ((.pointer none),(gI 0),(gI 0),()) s) (False)) e f
def Lt(a:cm)(b c d:Value)(e:T1)(f:World):=NV->cC e.1 (a (.tuple #[(.pointer none),(gI 2)]) f) (gr (Instr.makeMap 63 none) f λg h=>gr (Instr.makeMap 64 none) h λi j=>cI 49 b 1 27 j λk l=>gr (Instr.build 66 #[(0,c),(1,d),(2,g),(3,i),(4,k)]) l λm n=>gq 66 m n λo p=>gv 23 o p λq r=>Ca Tryz.prog 47 #[c] r λs t=>xR Tryz.prog none s t 1 (K4 q) (Lv b q a))
def Rk{a:Value}{b:World}{c:cm}(M:gq 49 a b λd e=>cI 49 d 0 35 e λf g=>cI 49 d 4 45 g λh i=>Ca Tryz.prog 45 #[f,h] i λj k=>kU j k λl m n=>gb .neq 26 true m (gI 0) n λo p=>cC o (c (.tuple #[(.pointer none),m]) p) (cI 49 d 2 2 p λq r=>cI 49 d 3 44 r λs t=>cI 49 d 5 46 t λu v=>Ca Tryz.prog 46 #[q,s,u] v λw x=>kU w x λy z A=>gb .neq 26 true z (gI 0) A λB C=>cC B (c (.tuple #[(.pointer none),z]) C) (cy (S:=T1) (λD=>cI 49 d 1 27 C λE F=>gb .lss 27 true E (.int .u64 1) F λG H=>cC G (D ((.bool true),()) H) (cI 49 d 1 27 H λI J=>gb .gtr 27 true I (.int .u64 4611686018427387905) J λK L=>D (K,()) L)) (Lt c d l y)))):Ca Tryz.prog 13 #[a] b c:=cj Tryz.func13 M
def KH(a b c:Value)(d:cm)(e:T2)(f:World)(g:T2->Wp):=NV->gb .lss 3 false e.2.1 a f λh i=>cC h (ng 47 b e.2.1 λj=>df 119 j i.drew λk=>ng 47 c e.2.1 λl=>df 119 l i.drew λm=>gX .neq 119 false k m λn=>cC n (d (.bool false) i.drew) (gb .add 3 true e.2.1 (gI 1) i.drew λo p=>g (e.1,o,()) p)) (d (.bool true) i)
def R6{a b:Value}{c:World}{d:cm}(m:gn 47 false a c λe f=>gn 47 false b f λg h=>gb .neq 3 false e g h λi j=>cC i (d (.bool false) j) (gn 47 false a j λk l=>cO (S:=T2) (KH k a b d) ((.bool false),(gI 0),()) l)):Ca Tryz.prog 51 #[a,b] c d:=cj Tryz.func51 m
end Go.Proofs
namespace Go.Proofs
open Go Go.Vc
attribute [local congr] cq
def lw{W:World}{p off:Nat}{k:Ct}(h:At W p off (dU k)):At W p off (dl k.spec):=by
 have:=h.sub 0 25 (by rw[cX];omega)
 have e:((dU k).drop 0).take 25=dl k.spec:=by
  show(dl k.spec++_).take 25=_;rw[<-cJ k.spec,List.take_left]
 rw[e]at this;exact this
abbrev tR(W:World)(p:Nat)(k:Ct):Prop:=hp W p=some (.cells (dU k).toArray ip (0,0))
def zp{W:World}{p:Nat}{k k' :Ct}{K:World->Prop}(h:tR W p k)(c:∀a,tR a p k' ->cl (λy=>y=p) W a->K a):fV Tryz.prog (ej ip (.pointer (some ⟨p,0,none⟩)) (.agg (dU k').toArray)) W K:=by
 have b:W.heap[p]? =some (.cells (dU k).toArray ip (0,0)):=h
 have h1:(dU k').all (·.oneCell')=true:=by
  unfold dU;rw[List.all_append,ko];rfl
 refine iu zY (cX k') b (by rw[List.size_toArray,cX,cX];omega) h1 (c _ ?_ ((cl.refl (λy=>y=p) W).setRow (.inl rfl) _));show(W.setRow p _).heap[p]? =_;rw[dw,if_pos rfl,b,iZ (by rw[cX];simp[cX])]
def nL{K:cm}(w:World)(b:∀a,tR a w.heap.size mI->cl (λ_=>False) w a->K (.pointer (some ⟨w.heap.size,0,none⟩)) a):rx Tryz.prog (ic ip) w K:=by
 refine jI RD ?_;rw[xh];exact b _ (by show hp _ _=_;simp[go_sem]) ((cl.refl _ w).alloc _)
def E6{W:World}{p:Nat}{k:Ct}(h:tR W p k):(Instr.loadAt 35 (.pointer (some ⟨p,0,none⟩))).run Tryz.prog W=.ok (.int .u32 k.spec.num) W:=by
 have a:hp W p=some (.cells (dU k).toArray ip (0,0)):=h;simp[go_sem,a,IG]
def qj{W:World}{p:Nat}{k:Ct}(h:tR W p k):(Instr.loadAt 106 (.pointer (some ⟨p,25,none⟩))).run Tryz.prog W=.ok (.int .u8 k.st) W:=by
 have a:hp W p=some (.cells (dU k).toArray ip (0,0)):=h;simp[go_sem,a,NC]
def GE{W:World}{p:Nat}{k:Ct}(h:tR W p k):(Instr.loadAt 2 (.pointer (some ⟨p,26,none⟩))).run Tryz.prog W=.ok (.int .i64 k.price) W:=by
 have a:hp W p=some (.cells (dU k).toArray ip (0,0)):=h;simp[go_sem,a,OI]
def lJ(p:Nat)(W:World):(Instr.fieldAt ip (.pointer (some ⟨p,0,none⟩)) 0).run Tryz.prog W=.ok (.pointer (some ⟨p,0,none⟩)) W/\(Instr.fieldAt ip (.pointer (some ⟨p,0,none⟩)) 1).run Tryz.prog W=.ok (.pointer (some ⟨p,25,none⟩)) W/\(Instr.fieldAt ip (.pointer (some ⟨p,0,none⟩)) 2).run Tryz.prog W=.ok (.pointer (some ⟨p,26,none⟩)) W/\(Instr.fieldAt 38 (.pointer (some ⟨p,0,none⟩)) 0).run Tryz.prog W=.ok (.pointer (some ⟨p,0,none⟩)) W:=⟨by simp[go_sem],by simp[go_sem],by simp[go_sem],by simp[go_sem]⟩
def tD(n:Int)(k:Ct)(l:List Ct):kP n (k::l)=(decide (n<k.spec.num)&& (decide (1<=k.st)&& (decide (k.st<=3)&& (k.spec.isPrice k.price&& kP k.spec.num l)))):=rfl
set_option maxRecDepth 10000 in
set_option maxHeartbeats 1000000 in
def An{w:World}{K:cm}{sl:Value}{day:Int}{l:List Ct}(h:Rd w 27 sl l.length (l.flatMap dU))(hl:l.length<=100000)(hf:∀k∈l,k.Fit)(hd:iC day)
  (J:l.length<=16->kP 0 l=true->∀c F d,nM d c F ⟨day,l⟩->cl (λ_=>False) w d->(∀b,F b->w.heap.size<=b)->K (.tuple #[dK c,.int .i64 0]) d)
  (u:¬(l.length<=16/\kP 0 l=true)->∀d,cl (λ_=>False) w d->K (.tuple #[.pointer none,.int .i64 2]) d):Ca Tryz.prog 45 #[.int .u32 day,sl] w K:=by
 obtain⟨sa,sc,M⟩:=h.isSl;apply RT;have ln:∀W,(builtin .len #[HL] 3 #[false] #[sl]).run Tryz.prog W=.ok (.value (.int .i64 (l.length:Int))) W:=λW=>by rw[M];simp[go_sem]
 refine fI (ln _) ?_;refine ck (v:=.bool (decide (16<l.length))) (w' :=w) (by simp[go_sem];omega) ?_;by_cases t:16<l.length
 ·rw[ci,if_pos (by simpa using t)];exact u (λa=>by omega) _ (cl.refl _ _)
 rw[ci,if_neg (by simpa using t)];refine fI (ln _) ?_
 refine dp (λst W=>∃(i:Nat) (last:Int) (x y:Value),i<=l.length/\st=(x,y,.int .u32 last,.int .i64 i,())/\kP 0 l=kP last (l.drop i)/\cl (λ_=>False) w W)
  (λst _=>match st.2.2.2.1 with| .int _ i=>l.length - i.toNat|_=>0) ⟨0,0,_,_,by omega,rfl,rfl,cl.refl _ _⟩ ?_
 rintro⟨_,_⟩ W ⟨i,last,x,y,hi,⟨⟩,e,z⟩ KN L;unfold Kz;intro _;refine ck (v:=.bool (decide (i<l.length))) (w' :=W) (by simp[go_sem]) ?_;by_cases g:i<l.length
 ·rw[ci,if_pos (by simpa using g)];obtain⟨b,O,cap,Q,T,hA⟩:=(h.mod z λ_ _ h=>h).item cX g rfl;have B:=hf l[i] (List.getElem_mem g);rw[List.drop_eq_getElem_cons g]at e;generalize l[i]=k at hA B e;refine ck (v:=.pointer (some ⟨b,O+i*27,none⟩)) (w' :=W) (by rw[Q];simp[go_sem,g,cE,vr]) ?_;refine eK (dU k) 26 C4 zY (cX k) hA ?_;refine nL _ λw1 Y m1=>?_;obtain⟨p,R⟩:∃p,p=W.heap.size:=⟨_,rfl⟩
  rw[<-R]at Y|-;refine zp (k' :=k) Y λs r m2=>?_;have M2:cl (λ_=>False) W s:=m1.on m2 λy hy=>.inr (by omega);obtain⟨f0,f1,f2,f3⟩:=lJ p s;rw[tD]at e;refine cy.at (λst W' =>st=(.bool (!(decide (last<k.spec.num)&& (decide (1<=k.st)&& (decide (k.st<=3)&& k.spec.isPrice k.price)))),())/\cl (λ_=>False) s W') ?_ ?_
  ·refine ck f0 (ck f3 (ck (E6 r) ?_));refine ck (v:=.bool (decide (k.spec.num<=last))) (w' :=s) (by simp[go_sem]) ?_;by_cases c1:k.spec.num<=last
   ·rw[ci,if_pos (by simpa using c1)];have:¬last<k.spec.num:=by omega
    exact⟨by simp[this],cl.refl _ _⟩
   rw[ci,if_neg (by simpa using c1)];have P:last<k.spec.num:=by omega
   refine ck f1 (ck (qj r) ?_);refine ck (v:=.bool (decide (k.st<1))) (w' :=s) (by simp[go_sem]) ?_;by_cases U:k.st<1
   ·rw[ci,if_pos (by simpa using U)];have:¬1<=k.st:=by omega
    exact⟨by simp[this],cl.refl _ _⟩
   rw[ci,if_neg (by simpa using U)];have N:1<=k.st:=by omega
   refine ck f1 (ck (qj r) ?_);refine ck (v:=.bool (decide (3<k.st))) (w' :=s) (by simp[go_sem]) ?_;by_cases c3:3<k.st
   ·rw[ci,if_pos (by simpa using c3)];have:¬k.st<=3:=by omega
    exact⟨by simp[this],cl.refl _ _⟩
   rw[ci,if_neg (by simpa using c3)];have S:k.st<=3:=by omega
   refine ck f0 (eK (dl k.spec) 24 ve ry (cJ _) (lw (At.all r)) ?_);refine ck f2 (ck (GE r) ?_);refine um B.1 λf m=>?_;refine ck (v:=.bool (!k.spec.isPrice k.price)) (w' :=f) (by simp[go_sem]) ?_;exact⟨by simp[P,N,S],m⟩
  rintro _ f ⟨rfl,m⟩;unfold Ku;intro _;have M3:=(z.trans M2).trans m;cases a:(decide (last<k.spec.num)&& (decide (1<=k.st)&& (decide (k.st<=3)&& k.spec.isPrice k.price)))with
  |false=>
   rw[show(!false)=true from rfl,ci,if_pos rfl];refine u (λC=>?_) _ M3;rw[e]at C;have:=C.2;simp only[Bool.and_eq_true,decide_eq_true_eq]at this a;simp only[Bool.and_eq_false_iff,decide_eq_false_iff_not]at a;obtain⟨E,A,D,o,-⟩:=this;rcases a with a|a|a|a
   ·exact a E
   ·exact a A
   ·exact a D
   ·rw[o]at a;cases a
  |true=>
   rw[show(!true)=false from rfl,ci,if_neg Bool.false_ne_true];have b3:tR f p k:=m.hpk r id;obtain⟨g0,g1,g2,g3⟩:=lJ p f;refine ck g0 (ck g3 (ck (E6 b3) ?_));refine ck (v:=.int .i64 ((i+1:Nat):Int)) (w' :=f) (by simp[go_sem];rw[cS (by omega) (by omega)]) ?_;refine L _ _ ⟨i+1,k.spec.num,_,_,by omega,rfl,?_,M3⟩ (by show l.length - (((i+1:Nat):Int)).toNat<l.length - ((i:Int)).toNat;omega);rw[e];simp only[Bool.and_eq_true,decide_eq_true_eq]at a;obtain⟨E,A,D,o⟩:=a;simp[E,A,D,o]
 ·obtain rfl:i=l.length:=by omega
  rw[ci,if_neg (by simp)];rw[List.drop_length]at e;have j:kP 0 l=true:=e;refine pP (l:=l) (h.mod z λ_ _ h=>h) (by omega) λn f I m n3=>?_;obtain⟨ta,tc,G,-⟩:=I.isSl;refine ck (v:=.agg #[.bool true,.int .u32 day,n]) (w' :=f) (by rw[G];simp[go_sem]) ?_;obtain⟨q,hq⟩:∃q,q=f.heap.size:=⟨_,rfl⟩
  have X:cl (λ_=>False) f (f.alloc (.cells #[.bool true,.int .u32 day,n] 197)):=(cl.refl _ _).alloc _;have b4:hp (f.alloc (.cells #[.bool true,.int .u32 day,n] 197)) q=some (.cells #[.bool true,.int .u32 day,n] 197 (0,0)):=by rw[hq];simp[go_sem]
  refine ck (v:=dK q) (w' :=f.alloc (.cells #[.bool true,.int .u32 day,n] 197)) (by rw[hq];rfl) ?_;have hs:=z.size;have V:=m.size;obtain⟨u1,u2⟩:=jF j;refine J (by omega) j q (λb=>b=q\/cv n b) _ ⟨⟨n,b4,I.mod X λ_ _ h=>h,λb=>Iff.rfl,λa=>by have:=I.lt a;omega⟩,by show l.length<=16;omega,hd,λk Z=>?_,u2⟩ ((z.trans m).trans X) λb H=>?_
  ·obtain⟨E,A,D,o⟩:=u1 k Z;have:=o;unfold Sp.isPrice at this;exact⟨hf k Z,(Bool.and_eq_true _ _▸this).1,o,A,D⟩
  ·rcases H with rfl|H
   ·omega
   ·have:=n3 b H;omega
def Gs(l:List Ct)(n:Int):decide (dg l n=0)=(decide ((fD l n).2=0)&& decide ((fD l n).1.st≠3)):=by
 unfold dg fD;cases ek l n with
 |none=>simp
 |some k=>
  by_cases h:k.st=3
  ·simp[h]
  ·simp[h]
def vJ{w:World}{K:cm}{v c l mb md:Nat}{A:List (Int×Nat)}{D:List (Int×Value)}{J:Pt->Nat->Prop}{S:dx}{n:Int}(h:gT w v c l mb md A D J S)
  (d:∀z,cl (λ_=>False) w z->K (.tuple #[.agg (dU (fD S.cal.l n).1).toArray,.bool (decide (dg S.cal.l n=0))]) z):Ca Tryz.prog 49 #[eg v,.int .u32 n] w K:=by
 apply SE;rw[Gs]at d;refine nL _ λN t m=>?_;obtain⟨p,o⟩:∃p,p=w.heap.size:=⟨_,rfl⟩
 rw[<-o]at t|-;have h1:=h.md0 m;simp only[eg,cr];refine ck (jZ 0 (by omega) _) (ck (Lf _ h1.blk) ?_);refine JU h1.cal λH j=>?_;generalize fD S.cal.l n=x at d|-;refine ck (by simp[-Int.natCast_add,go_sem]<;>first|exact⟨rfl,rfl⟩|exact rfl) ?_;refine ck (by simp[-Int.natCast_add,go_sem]<;>first|exact⟨rfl,rfl⟩|exact rfl) ?_;have F:tR H p mI:=j.hpk t id;refine nL _ λO C B=>?_;obtain⟨q,k⟩:∃q,q=H.heap.size:=⟨_,rfl⟩
 rw[<-k]at C|-;refine zp (k' :=x.1) C λb L G=>?_;have I:p<q:=by have:=cn F;omega
 have md:=(cl.refl (λ_=>False) b).drew;have a:tR b.drew q x.1:=md.hpk L id;have g:tR b.drew p mI:=md.hpk (G.hpk (B.hpk F id) (by omega)) id;have s:cl (λ_=>False) w b.drew:=(((m.trans j).trans B).on G λy E=>.inr (by have:=m.size;have:=j.size;omega)).trans md;generalize b.drew=u at a g s|-;have M:w.heap.size<=p:=by omega
 refine eX (dU x.1) 26 C4 zY (cX _) (At.all a) ?_;refine co (v:=.bool (decide (x.2=0))) (λW=>by simp[go_sem];try rw[Bool.eq_iff_iff];simp) ?_;by_cases f:x.2=0
 ·rw[ci,if_pos (by simpa using f)];refine co (λW=>(lJ q W).2.1) (cB (qj a) ?_);refine co (v:=.bool (decide (x.1.st≠3))) (λW=>by simp[go_sem];try rw[Bool.eq_iff_iff];simp) ?_;refine zp (k' :=x.1) g λr i e=>?_;refine⟨qj (e.hpk a (by omega)),?_⟩;refine eX (dU x.1) 26 C4 zY (cX _) (At.all i) ?_;have:=d r (s.on e λy E=>.inr (by omega));rw[f]at this;simpa using this
 ·rw[ci,if_neg (by simpa using f)];refine zp (k' :=x.1) g λr i e=>?_;refine eX (dU x.1) 26 C4 zY (cX _) (At.all i) ?_;have:=d r (s.on e λy E=>.inr (by omega));simpa [f]using this
abbrev FD:TypeId:=232
def P0:jM Tryz.prog 3=some (.int .i64 0):=by kernel_rfl
def jj(w:World)(mn:Nat)(U:List Int):Prop:=∃L:List (Int×Int),cT ID LH w mn L/\∀n,(lk L n).getD 0=if n∈U then 1 else 0
def jj.mod{F:Nat->Prop}{w w' :World}{a:Nat}{U:List Int}(h:jj w a U)(b:cl F w w')(h1:¬F a):jj w' a U:=by
 obtain⟨L,c,d⟩:=h;exact⟨L,c.mod b h1,d⟩
def jj.lt{w:World}{a:Nat}{U:List Int}(h:jj w a U):a<w.heap.size:=by
 obtain⟨L,b,c⟩:=h;exact b.lt
def jj.look{w:World}{a:Nat}{U:List Int}(h:jj w a U)(n:Int):(fA FD (.map (some a)) (.int .u64 n) false).run Tryz.prog w=.ok (.int .i64 (if n∈U then 1 else 0)) w:=by
 obtain⟨L,c,d⟩:=h;have:=jz (ok:=false) (x:=n) Ko OL P0 (.inr ⟨a,rfl,c⟩:AT ID LH w (.map (some a)) L);rw[<-d n];cases b:lk L n with
 |none=>rw[b]at this;exact this
 |some x=>rw[b]at this;exact this
def jj.add{w:World}{c:Nat}{U:List Int}{n:Int}{K:World->Prop}(h:jj w c U)(j:n ∉ U)(f:∀a,jj a c (n::U)->cl (λy=>y=c) w a->K a):fV Tryz.prog (gR FD (.map (some c)) (.int .u64 n) (.int .i64 1)) w K:=by
 obtain⟨L,e,g⟩:=h;refine fm (enc:=ID) (ev:=LH) (x:=n) (v:=1) Ko OL e λa d i _=>f a ⟨_,d,λm=>?_⟩ i;rw[lB];by_cases b:n=m
 ·rw[if_pos b];simp[b]
 ·rw[if_neg b,g m];have:m∈n::U↔m∈U:=by simp;omega
  simp[this,Ne.symm b]
abbrev nY:TypeId:=119
def vw(x:Int×Od):Value:=.agg (dB x).toArray
abbrev u7(W:World)(p:Nat)(x:Int×Od):Prop:=hp W p=some (.cells (dB x).toArray nY (0,0))
def Gi(x:Int×Od)(w:World):∃a,(Instr.box nY (vw x)).run Tryz.prog w=.ok (.pointer (some ⟨w.heap.size,0,none⟩)) a/\u7 a w.heap.size x/\cl (λ_=>False) w a:=
 ⟨w.alloc (.cells (dB x).toArray nY),rfl,by show hp _ _=_;simp[go_sem],(cl.refl _ w).alloc _⟩
def kA(p:Nat)(W:World):(Instr.fieldAt nY (.pointer (some ⟨p,0,none⟩)) 0).run Tryz.prog W=.ok (.pointer (some ⟨p,0,none⟩)) W/\(Instr.fieldAt nY (.pointer (some ⟨p,0,none⟩)) 1).run Tryz.prog W=.ok (.pointer (some ⟨p,1,none⟩)) W:=⟨by simp[go_sem],by simp[go_sem]⟩
def sU{W:World}{p:Nat}{x:Int×Od}(h:u7 W p x):(Instr.loadAt 35 (.pointer (some ⟨p,0,none⟩))).run Tryz.prog W=.ok (.int .u32 x.1) W:=by
 have a:hp W p=some (.cells (dB x).toArray nY (0,0)):=h;simp only[dB,da]at a;simp[go_sem,a]
def Ha{W:World}{p:Nat}{x:Int×Od}(h:u7 W p x):(Instr.loadAt iq (.pointer (some ⟨p,1,none⟩))).run Tryz.prog W=.ok (g9 x.2) W:=by
 have a:At W p 0 (dB x):=At.all h;have:=a.sub 1 5 (by show 1+5<=6;omega);have e:((dB x).drop 1).take 5=da x.2:=rfl;rw[e,Nat.zero_add]at this;exact gL this
def nQ(i:Nat)(hi:i<5)(p:Nat)(W:World):(Instr.fieldAt iq (.pointer (some ⟨p,0,none⟩)) i).run Tryz.prog W=.ok (.pointer (some ⟨p,i,none⟩)) W:=by
 have:i=0\/i=1\/i=2\/i=3\/i=4:=by omega
 rcases this with rfl|rfl|rfl|rfl|rfl<;>simp[go_sem]
abbrev Dr(W:World)(p:Nat)(o:Od):Prop:=hp W p=some (.cells (da o).toArray iq (0,0))
def uJ{W:World}{p:Nat}{o:Od}(h:Dr W p o):(Instr.loadAt 27 (.pointer (some ⟨p,0,none⟩))).run Tryz.prog W=.ok (.int .u64 o.num) W/\(Instr.loadAt 35 (.pointer (some ⟨p,1,none⟩))).run Tryz.prog W=.ok (.int .u32 o.acct) W/\(Instr.loadAt 2 (.pointer (some ⟨p,3,none⟩))).run Tryz.prog W=.ok (.int .i64 o.price) W/\(Instr.loadAt 2 (.pointer (some ⟨p,4,none⟩))).run Tryz.prog W=.ok (.int .i64 o.left) W:=by
 have a:hp W p=some (.cells (da o).toArray iq (0,0)):=h;simp only[da]at a;exact⟨by simp[go_sem,a],by simp[go_sem,a],by simp[go_sem,a],by simp[go_sem,a]⟩
abbrev zZ(W:World)(p:Nat)(a:Ac):Prop:=hp W p=some (.cells (cM a).toArray 92 (0,0))
def Qa(p:Nat)(W:World):(Instr.fieldAt 92 (.pointer (some ⟨p,0,none⟩)) 2).run Tryz.prog W=.ok (.pointer (some ⟨p,2,none⟩)) W/\(Instr.fieldAt 92 (.pointer (some ⟨p,0,none⟩)) 3).run Tryz.prog W=.ok (.pointer (some ⟨p,3,none⟩)) W:=⟨by simp[go_sem],by simp[go_sem]⟩
def CQ{W:World}{p:Nat}{a:Ac}(h:zZ W p a):(Instr.loadAt 4 (.pointer (some ⟨p,2,none⟩))).run Tryz.prog W=.ok (.bool a.kil) W/\(Instr.loadAt 4 (.pointer (some ⟨p,3,none⟩))).run Tryz.prog W=.ok (.bool a.dfl) W:=by
 have b:hp W p=some (.cells (cM a).toArray 92 (0,0)):=h;simp only[cM]at b;exact⟨by simp[go_sem,b],by simp[go_sem,b]⟩
def tL(W:World):∃a,(Instr.alloc 92 true (.tuple #[])).run Tryz.prog W=.ok (.pointer (some ⟨W.heap.size,0,none⟩)) a/\zZ a W.heap.size ⟨0,0,false,false⟩/\cl (λ_=>False) W a:=
 ⟨W.alloc (.cells (cM ⟨0,0,false,false⟩).toArray 92),by simp[go_sem,cM],by show hp _ _=_;simp[go_sem],(cl.refl _ W).alloc _⟩
def xM{W:World}{p:Nat}{a:Ac}(b:Ac)(h:zZ W p a):∃d,(Instr.storeAt 92 (.pointer (some ⟨p,0,none⟩)) (ii b)).run Tryz.prog W=.ok () d/\zZ d p b/\cl (λy=>y=p) W d:=by
 have c:hp W p=some (.cells (cM a).toArray 92 (0,0)):=h;simp only[cM]at c;exact⟨(((W.setCell ⟨p,0,none⟩ (.int .u32 b.num)).setCell ⟨p,1,none⟩ (.int .i64 b.cash)).setCell ⟨p,2,none⟩ (.bool b.kil)).setCell ⟨p,3,none⟩ (.bool b.dfl),by simp[go_sem,c,ii],by show hp _ _=_;simp[go_sem,c,cM],((((cl.refl (λy=>y=p) W).setCell (.inl rfl) _ _).setCell (.inl rfl) _ _).setCell (.inl rfl) _ _).setCell (.inl rfl) _ _⟩
def Mq(L:dM)(a:Int):L.stB a=(decide ((L.getV a).2=0)&& (!(L.getV a).1.dfl&& !(L.getV a).1.kil)):=by
 unfold dM.stB dM.getV;cases L.getO a with
 |none=>simp
 |some x=>simp
set_option maxRecDepth 10000 in
set_option maxHeartbeats 4000000 in
def uO{w:World}{K:cm}{v c l mb md M:Nat}{A:List (Int×Nat)}{D:List (Int×Value)}{fp:Pt->Nat->Prop}{S:dx}{a:Bool}{U:List Int}{x:Int×Od}(h:gT w v c l mb md A D fp S)(hN:jj w M U)(hmn:¬fy fp M)
  (hK1:S.stnd a U x=true->∀n,gT n v c l mb md A D fp S->jj n M (x.2.num::U)->cl (λy=>y=M) w n->K (.bool true) n)
  (hK0:S.stnd a U x=false->∀n,cl (λ_=>False) w n->K (.bool false) n):Ca Tryz.prog 134 #[eg v,vw x,.bool a,.map (some M)] w K:=by
 apply PM;obtain⟨w1,e1,b1,m1⟩:=Gi x w;obtain⟨p,hp0⟩:∃p,p=w.heap.size:=⟨_,rfl⟩
 rw[<-hp0]at e1 b1;refine ck e1 (ck (kA p _).2 (ck (Ha b1) ?_));obtain⟨w2,e2,b2,m2⟩:=iR w1;obtain⟨q,hq0⟩:∃q,q=w1.heap.size:=⟨_,rfl⟩
 rw[<-hq0]at e2 b2;refine ck e2 ?_;obtain⟨w3,e3,b3,m3⟩:=gA (o' :=x.2) b2;refine dt e3 ?_;have hpq:p<q:=by have:=cn b1;omega
 have M3:cl (λ_=>False) w w3:=(m1.trans m2).on m3 λy R=>.inr (by omega);have b13:u7 w3 p x:=m3.hpk (m2.hpk b1 id) (by omega);refine ck (kA p _).1 (ck (sU b13) ?_);refine vJ (h.md0 M3) λw4 m4=>?_;have o4:Dr w4 q x.2:=m4.hpk b3 id;have h4:=h.md0 (M3.trans m4);obtain⟨k,hk⟩:∃k,k=fD S.cal.l x.1:=⟨_,rfl⟩
 rw[<-hk];refine ck (by simp[-Int.natCast_add,go_sem]<;>first|exact⟨rfl,rfl⟩|exact rfl) ?_;refine ck (by simp[-Int.natCast_add,go_sem]<;>first|exact⟨rfl,rfl⟩|exact rfl) ?_;refine nL _ λw5 b5 m5=>?_;obtain⟨z,hz0⟩:∃z,z=w4.heap.size:=⟨_,rfl⟩
 rw[<-hz0]at b5|-;have hqz:q<z:=by have:=cn o4;omega
 refine zp (k' :=k.1) b5 λQ b6 m6=>?_;have md:=(cl.refl (λ_=>False) Q).drew;have o6:Dr Q.drew q x.2:=md.hpk (m6.hpk (m5.hpk o4 id) (by omega)) id;have O:tR Q.drew z k.1:=md.hpk b6 id;have hw0:w.heap.size<=p:=by omega
 have Z:cl (λ_=>False) w Q.drew:=(((M3.trans m4).trans m5).on m6 λy R=>.inr (by omega)).trans md;have N:=h.md0 Z;have T:=hN.mod Z id;generalize Q.drew=u at o6 O Z N T|-;obtain⟨g,hg⟩:∃g,g=S.led.getV x.2.acct:=⟨_,rfl⟩
 refine cy.at (λst W=>∃pa,st=(.pointer (some ⟨pa,0,none⟩),.int .i64 g.2,())/\zZ W pa g.1/\cl (λ_=>False) u W) ?_ ?_
 ·simp only[eg,cr];refine co (λW=>jZ 1 (by omega) W) (cB (uU _ N.blk) ?_);refine co (λW=>nQ 1 (by omega) q W) (cB (uJ o6).2.1 ?_);refine⟨?_,?_⟩
  ·refine Ay N.led λd C=>?_;rw[<-hg];refine co (v:=ii g.1) (λW=>by simp[go_sem]) (co (v:=.int .i64 g.2) (λW=>by simp[go_sem]) ?_);obtain⟨w8,e8,b8,L⟩:=tL d;obtain⟨w9,e9,Y,E⟩:=xM g.1 b8;refine ck e8 (dt e9 ?_);exact⟨_,rfl,Y,(C.trans L).on E λy R=>.inr (by have:=C.size;omega)⟩
  ·obtain⟨w8,e8,b8,L⟩:=tL u;refine ck e8 ?_;refine⟨(uJ (L.hpk o6 id)).2.1,uU _ (N.md0 L).blk,?_⟩;refine Ay (N.md0 L).led λw9 E=>?_;rw[<-hg];refine co (v:=ii g.1) (λW=>by simp[go_sem]) (co (v:=.int .i64 g.2) (λW=>by simp[go_sem]) ?_);obtain⟨t,e10,I,j⟩:=xM g.1 (E.hpk b8 id);refine dt e10 ?_;exact⟨_,rfl,I,(L.trans E).on j λy R=>.inr (by omega)⟩
 rintro _ d ⟨pa,rfl,a7,C⟩;unfold Fb;intro _;have h7:=N.md0 C;have o7:Dr d q x.2:=C.hpk o6 id;have b7:tR d z k.1:=C.hpk O id;have N7:=T.mod C id;have M7:=Z.trans C
 have b:S.stnd a U x=(decide (dg S.cal.l x.1=0)&& ((decide (g.2=0)&& (!g.1.dfl&& !g.1.kil))&& (x.2.may&& (k.1.spec.isPrice x.2.price&& ((!a||k.1.spec.isQty x.2.left)&& (decide (x.2.num<S.next)&& !U.contains x.2.num)))))):=by
  unfold dx.stnd;rw[Mq,<-hg,<-hk]
 refine cy.at (λst W=>st=(.bool (!S.stnd a U x),())/\cl (λ_=>False) d W) ?_ ?_
 ·refine co (v:=.bool (!decide (dg S.cal.l x.1=0))) (λW=>by simp[go_sem]) ?_;have i:=(cl.refl (λ_=>False) d).drew;by_cases f:dg S.cal.l x.1=0
  rotate_left
  ·rw[ci,if_pos (by simpa using f)];exact⟨by rw[b];simp[f],i⟩
  rw[ci,if_neg (by simpa using f)]
  have X:k.1.Fit:=by
   obtain⟨k0,a1,-,-,a2⟩:=oJ f;have:k=(k0,0):=by rw[hk];unfold fD;rw[a1]
   rw[this];exact(h.cal.ok k0 a2).1
  refine co (v:=.bool (decide (g.2≠0))) (λW=>by simp[go_sem];try rw[Bool.eq_iff_iff];simp) ?_;by_cases r:g.2=0
  rotate_left
  ·rw[ci,if_pos (by simpa using r)];exact⟨by rw[b];simp[f,r],i⟩
  rw[ci,if_neg (by simpa using r)];have a8:zZ d.drew pa g.1:=i.hpk a7 id;have o8:Dr d.drew q x.2:=i.hpk o7 id;have b8:tR d.drew z k.1:=i.hpk b7 id;have h8:=h7.md0 i;have N8:=N7.mod i id;generalize d.drew=w8 at i a8 o8 b8 h8 N8|-;refine co (λW=>(Qa pa W).2) (cB (CQ a8).2 ?_);cases J:g.1.dfl with
  |true=>
   rw[ci,if_pos rfl];exact⟨by rw[b];simp[f,r,J],i⟩
  |false=>
  rw[ci,if_neg Bool.false_ne_true];refine co (λW=>(Qa pa W).1) (cB (CQ a8).1 ?_);cases V:g.1.kil with
  |true=>
   rw[ci,if_pos rfl];exact⟨by rw[b];simp[f,r,J,V],i⟩
  |false=>
  rw[ci,if_neg Bool.false_ne_true];refine cB (gL (o:=x.2) (At.all o8)) ?_;refine xD λw9 E=>?_;refine co (v:=.bool (!x.2.may)) (λW=>by simp[go_sem]) ?_;have M9:=i.trans E;cases c5:x.2.may with
  |false=>
   rw[show(!false)=true from rfl,ci,if_pos rfl];exact⟨by rw[b];simp[f,r,J,V,c5],M9⟩
  |true=>
  rw[show(!true)=false from rfl,ci,if_neg Bool.false_ne_true];have o9:Dr w9 q x.2:=E.hpk o8 id;have Y:tR w9 z k.1:=E.hpk b8 id;refine co (λW=>(lJ z W).1) (eX (dl k.1.spec) 24 ve ry (cJ _) (lw (At.all Y)) ?_);refine co (λW=>nQ 3 (by omega) q W) (cB (uJ o9).2.2.1 ?_);refine um X.1 λt j=>?_;refine co (v:=.bool (!k.1.spec.isPrice x.2.price)) (λW=>by simp[go_sem]) ?_;have s:=M9.trans j;cases c6:k.1.spec.isPrice x.2.price with
  |false=>
   rw[show(!false)=true from rfl,ci,if_pos rfl];exact⟨by rw[b];simp[f,r,J,V,c5,c6],s⟩
  |true=>
  rw[show(!true)=false from rfl,ci,if_neg Bool.false_ne_true];have o10:Dr t q x.2:=j.hpk o9 id;have I:tR t z k.1:=j.hpk Y id
  have P:∀W,cl (λ_=>False) d W->(!a||k.1.spec.isQty x.2.left)=true->∀K2:Value×Unit->World->Prop,K2 (.bool (!S.stnd a U x),()) W->
    sm Tryz.prog (Instr.fieldAt iq (.pointer (some ⟨q,0,none⟩)) 0) λv71=>sI Tryz.prog (Instr.loadAt 27 v71) W λv72=>cF (.pointer (some ⟨v,0,none⟩)) λv73=>sm Tryz.prog (Instr.fieldAt pD v73 4) λv74=>sI Tryz.prog (Instr.loadAt 27 v74) W λv75=>
     sm Tryz.prog (nE .geq 27 false v72 v75) λv76=>cC v76 (K2 (.bool true,()) W) (sm Tryz.prog (Instr.fieldAt iq (.pointer (some ⟨q,0,none⟩)) 0) λv77=>sI Tryz.prog (Instr.loadAt 27 v77) W λv78=>iw Tryz.prog (fA FD (.map (some M)) v78 false) W λv79=>sm Tryz.prog (nE .gtr 3 true v79 (.int .i64 0)) λv80=>K2 (v80,()) W):=by
   intro W m c7 K2 G;have oW:Dr W q x.2:=m.hpk o7 id;refine co (λW=>nQ 0 (by omega) q W) (cB (uJ oW).1 ?_);rw[cr];refine co (λW=>jZ 4 (by omega) W) (cB (nt _ (h7.md0 m).blk) ?_);refine co (v:=.bool (decide (S.next<=x.2.num))) (λW=>by simp[go_sem]) ?_;by_cases c8:S.next<=x.2.num
   ·rw[ci,if_pos (by simpa using c8)];have B:¬x.2.num<S.next:=by omega
    have:S.stnd a U x=false:=by rw[b];simp[B]
    rw[this]at G;exact G
   rw[ci,if_neg (by simpa using c8)];have B:x.2.num<S.next:=by omega
   refine co (λW=>nQ 0 (by omega) q W) (cB (uJ oW).1 ?_);refine jk ((N7.mod m id).look x.2.num) ?_;refine co (v:=.bool (!S.stnd a U x)) (λW=>?_) G;rw[b,c7];by_cases c9:x.2.num∈U
   ·simp[go_sem,f,r,J,V,c5,c6,B,c9]
   ·simp[go_sem,f,r,J,V,c5,c6,B,c9]
  cases a with
  |true=>
   rw[ci,if_pos rfl];refine co (λW=>(lJ z W).1) (eX (dl k.1.spec) 24 ve ry (cJ _) (lw (At.all I)) ?_);refine co (λW=>nQ 4 (by omega) q W) (cB (uJ o10).2.2.2 ?_);refine GV X.1 λw11 m11=>?_;refine co (v:=.bool (!k.1.spec.isQty x.2.left)) (λW=>by simp[go_sem]) ?_;have H:=s.trans m11;cases c7:k.1.spec.isQty x.2.left with
   |false=>
    rw[show(!false)=true from rfl,ci,if_pos rfl];exact⟨by rw[b];simp[c7],H⟩
   |true=>
    rw[show(!true)=false from rfl,ci,if_neg Bool.false_ne_true];exact P w11 H (by simp[c7]) (λst W=>st=(.bool (!S.stnd true U x),())/\cl (λ_=>False) d W) ⟨rfl,H⟩
  |false=>
   rw[ci,if_neg Bool.false_ne_true];exact P t s rfl (λst W=>st=(.bool (!S.stnd false U x),())/\cl (λ_=>False) d W) ⟨rfl,s⟩
 rintro _ W ⟨rfl,mW⟩;unfold Er;intro _;have MW:=M7.trans mW;cases hs:S.stnd a U x with
 |false=>
  rw[show(!false)=true from rfl,ci,if_pos rfl];exact hK0 hs W MW
 |true=>
  rw[show(!true)=false from rfl,ci,if_neg Bool.false_ne_true];have oW:Dr W q x.2:=mW.hpk o7 id;have NW:=N7.mod mW id;have F:=(jJ hs).new;refine ck (nQ 0 (by omega) q W) (ck (uJ oW).1 ?_);refine fM (NW.look x.2.num) ?_;rw[if_neg F];refine ck (v:=.int .i64 1) (w' :=W) (by simp[go_sem];decide) ?_;refine NW.add F λn N' m' =>?_;exact hK1 hs n ((h.md0 MW).mod m' λpt y R e=>hmn ⟨pt,e▸R⟩) N' ((MW.mono λ_ _ h=>h.elim).trans m')
end Go.Proofs
