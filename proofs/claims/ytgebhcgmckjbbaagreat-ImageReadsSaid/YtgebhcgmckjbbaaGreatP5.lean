/- Part of a proof. -/
import Derived.Test.YtgebhcgmckjbbaaGreatP4
set_option linter.all false
set_option maxRecDepth 100000
namespace Go.Proofs
open Go Go.Vc
def Pg{a b c:Value}{d:World}{e:cm}(h:gb .geq 2 false a b d λf g=>cC f (gb .leq 2 false a c g e) (e (.bool false) g)):Ca Tryz.prog 191 #[a,b,c] d e:=cj Tryz.func191 h
def Nv{a b:Value}{c:World}{d:cm}(i:Ca Tryz.prog 191 #[b,(gI 1),(gI 10000000)] c λe f=>cC e (gb .rem 2 false b a f λg h=>gb .eql 2 true g (gI 0) h d) (d (.bool false) f)):Ca Tryz.prog 192 #[a,b] c d:=cj Tryz.func192 i
def GS(a:Value)(b:cm)(c:Value)(d:T4)(e:World)(f:T4->Wp):=NV->gb .lss 3 true d.2.2.2.1 (gI 16) e λg h=>cC g (gr (Instr.index 36 a d.2.2.2.1) h λi j=>Ca Tryz.prog 130 #[i,(gI 10000000)] j λk l=>gt k l λm n=>cC m (b (.bool false) n) (cC d.2.1 (cC d.2.2.1 (gb .add 3 true d.2.2.2.1 (gI 1) n λo p=>f (d.1,(.bool true),(.bool true),o,()) p) (gb .lss 2 true i (gI 0) n λq r=>gb .add 3 true d.2.2.2.1 (gI 1) r λs t=>f (d.1,(.bool true),q,s,()) t)) (gb .gtr 2 true i (gI 0) n λu v=>cC d.2.2.1 (gb .add 3 true d.2.2.2.1 (gI 1) v λw x=>f (d.1,u,(.bool true),w,()) x) (gb .lss 2 true i (gI 0) v λy z=>gb .add 3 true d.2.2.2.1 (gI 1) z λA B=>f (d.1,u,y,A,()) B)))) (cC d.2.1 (cC d.2.2.1 (cI 38 c 0 35 h λC D=>gb .neq 35 true C (.int .u32 0) D λE F=>cC E (cI 38 c 1 5 F λG H=>gr (convert 5 2 G) H λI J=>Ca Tryz.prog 191 #[I,(gI 1),(gI 8)] J λK L=>cC K (cI 38 c 2 2 L λM N=>Ca Tryz.prog 191 #[M,(gI 1),(gI 10000000)] N λO P=>cC O (cI 38 c 3 2 P λQ R=>Ca Tryz.prog 191 #[Q,(gI 1),(gI 1000000)] R λS T=>cC S (cI 38 c 4 2 T λU V=>Ca Tryz.prog 191 #[U,(gI 0),(gI 10000000)] V λW X=>cC W (cI 38 c 5 2 X λY Z=>Ca Tryz.prog 191 #[Y,(gI 1),(gI 10000000)] Z λaa ab=>cC aa (cI 38 c 7 2 ab λac ad=>Ca Tryz.prog 191 #[ac,(gI 0),(gI 10000000)] ad λae af=>cC ae (cI 38 c 2 2 af λag ah=>cI 38 c 9 2 ah λai aj=>Ca Tryz.prog 192 #[ag,ai] aj b) (b (.bool false) af)) (b (.bool false) ab)) (b (.bool false) X)) (b (.bool false) T)) (b (.bool false) P)) (b (.bool false) L)) (b (.bool false) F)) (b (.bool false) h)) (b (.bool false) h))
def PR{a:Value}{b:World}{c:cm}(j:gq 38 a b λd e=>gf 38 d 6 e λf g=>gx (dm 36 f) g λh i=>cO (S:=T4) (GS h c d) ((.bool false),(.bool false),(.bool false),(gI 0),()) i):Ca Tryz.prog 107 #[a] b c:=cj Tryz.func107 j
def PI{a b:Value}{c:World}{d:cm}(m:gq 38 a c λe f=>gx (dm 38 e) f λg h=>Ca Tryz.prog 107 #[g] h λi j=>cC i (cI 38 e 2 2 j λk l=>Ca Tryz.prog 192 #[k,b] l d) (d (.bool false) j)):Ca Tryz.prog 127 #[a,b] c d:=cj Tryz.func127 m
def PX{a b:Value}{c:World}{d:cm}(q:gq 38 a c λe f=>gx (dm 38 e) f λg h=>Ca Tryz.prog 107 #[g] h λi j=>cC i (Ca Tryz.prog 191 #[b,(gI 1),(gI 1000000)] j λk l=>cC k (cI 38 e 3 2 l λm n=>gb .rem 2 false b m n λo p=>gb .eql 2 true o (gI 0) p d) (d (.bool false) l)) (d (.bool false) j)):Ca Tryz.prog 223 #[a,b] c d:=cj Tryz.func223 q
def P2{a:Value}{b:World}{c:cm}(B:gq 117 a b λd e=>cI 117 d 0 27 e λf g=>gb .neq 27 true f (.int .u64 0) g λh i=>cC h (cI 117 d 1 35 i λj k=>gb .neq 35 true j (.int .u32 0) k λl m=>cC l (cI 117 d 3 2 m λn o=>gb .geq 2 true n (gI 1) o λp q=>cC p (cI 117 d 3 2 q λr s=>gb .leq 2 true r (gI 10000000) s λt u=>cC t (cI 117 d 4 2 u λv w=>gb .geq 2 true v (gI 1) w λx y=>cC x (cI 117 d 4 2 y λz A=>gb .leq 2 true z (gI 1000000) A c) (c (.bool false) y)) (c (.bool false) u)) (c (.bool false) q)) (c (.bool false) m)) (c (.bool false) i)):Ca Tryz.prog 222 #[a] b c:=cj Tryz.func222 B
def Qt{a:Value}{b:World}{c:cm}(h:gr (Instr.build 320 #[(0,(.bool true)),(1,a)]) b λd e=>gq 320 d e c):Ca Tryz.prog 133 #[a] b c:=cj Tryz.func133 h
def P5{a:Value}{b:World}{c:cm}(h:gb .neq 228 true a (.pointer none) b λd e=>cC d (cF a λf=>cI 320 f 0 4 e c) (c (.bool false) e)):Ca Tryz.prog 237 #[a] b c:=cj Tryz.func237 h
def O5{a b c:Value}{d:World}{e:cm}(i:cF a λf=>cI 320 f 1 4 d λg h=>cC g (gb .gtr 2 false b c h e) (gb .lss 2 false b c h e)):Ca Tryz.prog 270 #[a,b,c] d e:=cj Tryz.func270 i
def OX{a b:Value}{c:World}{d:cm}(j:gq 27 b c λe f=>cF a λg=>cI 320 g 2 133 f λh i=>Ca Tryz.prog 210 #[h,(.func (.func 350) #[] #[e])] i d):Ca Tryz.prog 310 #[a,b] c d:=cj Tryz.func310 j
def NL{a b:Value}{c:World}{d:cm}(k:gq 117 a c λe f=>cI 117 e 0 27 f λg h=>gl 27 b h λi j=>gb .eql 27 false g i j d):Ca Tryz.prog 350 #[a,b] c d:=cj Tryz.func350 k
def EG(a b:Value)(c:cm)(d:T1)(e:World):=NV->df 228 a e.drew λf=>df 228 a e.drew λg=>cF g λh=>dP 320 h 2 λi=>df 133 i e.drew λj=>df 117 b e.drew λk=>gx (dQ 133 1 [(0,k)]) e.drew λl m=>gk 133 i j m/\gk 228 a g m/\gk 228 a f m/\(Ca Tryz.prog 312 #[j,d.1,l] m λn o=>gk 228 a f o/\(cF f λp=>dP 320 p 2 λq=>gs 133 q n o λr=>c (gI 0) r))
def EI(a:cm)(b c:Value)(d:T1)(e:World):=NV->cC d.1 (a (gI 2) e) (gl 228 b e λf g=>cI 117 c 0 27 g λh i=>Ca Tryz.prog 310 #[f,h] i λj k=>gb .geq 3 true j (gI 0) k λl m=>cC l (a (gI 8) m) (gl 228 b m λn o=>cF n λp=>cI 320 p 2 133 o λq r=>gn 133 false q r λs t=>gb .geq 3 true s (gI 100) t λu v=>cC u (a (gI 9) v) (gl 228 b v λw x=>cF w λy=>cI 320 y 2 133 x λz A=>Ca Tryz.prog 210 #[z,(.func (.func 311) #[] #[b,c])] A λB C=>cy (S:=T1) (λD=>gb .lss 3 true B (gI 0) C λE F=>cC E (gl 228 b F λG H=>cF G λI=>cI 320 I 2 133 H λJ K=>gn 133 false J K λL M=>D (L,()) M) (D (B,()) F)) (EG b c a))))
def OQ{a b:Value}{c:World}{d:cm}(y:gq 228 a c λe f=>gq 117 b f λg h=>gl 228 e h λi j=>Ca Tryz.prog 237 #[i] j λk l=>gt k l λm n=>cC m (d (gI 1) n) (cy (S:=T1) (λo=>df 117 g n.drew λp=>Ca Tryz.prog 222 #[p] n.drew λq r=>gp (Op.unary .not q) λs=>cC s (o ((.bool true),()) r) (en 117 g 2 4 r λt=>df 228 e r λu=>cF u λv=>en 320 v 1 4 r λw=>gX .neq 4 false t w λx=>o (x,()) r)) (EI d e g))):Ca Tryz.prog 274 #[a,b] c d:=cj Tryz.func274 y
def Qx{a b c:Value}{d:World}{e:cm}(n:gq 117 a d λf g=>gl 228 b g λh i=>cI 117 c 3 2 i λj k=>cI 117 f 3 2 k λl m=>Ca Tryz.prog 270 #[h,j,l] m e):Ca Tryz.prog 311 #[a,b,c] d e:=cj Tryz.func311 n
def GJ(a:Value)(b:cm)(c:Value)(d:T1)(e:World):=NV->cC d.1 (gr (Instr.build 117 #[]) e λf g=>gs 117 a f g λh=>df 117 a h λi=>b (.tuple #[i,(.bool false)]) h) (cF c λj=>cI 320 j 2 133 e λk l=>kv 133 k (gI 0) 117 l λm n=>gs 117 a m n λo=>df 117 a o λp=>b (.tuple #[p,(.bool true)]) o)
def ND{a:Value}{b:World}{c:cm}(r:ga 117 b λd e=>cy (S:=T1) (λf=>Ca Tryz.prog 237 #[a] e λg h=>gt g h λi j=>cC i (f ((.bool true),()) j) (cF a λk=>cI 320 k 2 133 j λl m=>gn 133 false l m λn o=>gb .eql 3 true n (gI 0) o λp q=>f (p,()) q)) (GJ d c a)):Ca Tryz.prog 271 #[a] b c:=cj Tryz.func271 r
def Bx(a b:Value)(c:cm)(d:Unit)(e:World):=NV->gl 117 a e λf g=>gs 117 b f g λh=>df 117 b h λi=>c (.tuple #[i,(gI 0)]) h
def Ef(a:Value)(b:cm)(c d:Value)(e:T1)(f:World):=NV->cC e.1 (gr (Instr.build 117 #[]) f λg h=>gs 117 a g h λi=>df 117 a i λj=>b (.tuple #[j,(gI 2)]) i) (cF c λk=>cI 320 k 2 133 f λl m=>gi 133 l (gI 0) m λn o=>cI 117 n 4 2 o λp q=>gb .sub 2 false p d q λr s=>gi 133 l (gI 0) s λt u=>fZ 117 t 4 2 r u λv=>cF c λw=>cI 320 w 2 133 v λx y=>kv 133 x (gI 0) 117 y λz A=>gv 117 z A λB C=>cy (S:=Unit) (λD=>cI 117 B 4 2 C λE F=>gb .eql 2 true E (gI 0) F λG H=>cC G (cF c λI=>cI 320 I 2 133 H λJ K=>Ca Tryz.prog 212 #[J,(gI 0),(gI 1)] K λL M=>cF c λN=>fZ 320 N 2 133 L M λO=>D (()) O) (D (()) H)) (Bx B a b))
def Nw{a b:Value}{c:World}{d:cm}(L:ga 117 c λe f=>Ca Tryz.prog 237 #[a] f λg h=>gt g h λi j=>cC i (gr (Instr.build 117 #[]) j λk l=>gs 117 e k l λm=>df 117 e m λn=>d (.tuple #[n,(gI 1)]) m) (cF a λo=>cI 320 o 2 133 j λp q=>gn 133 false p q λr s=>gb .eql 3 true r (gI 0) s λt u=>cC t (gr (Instr.build 117 #[]) u λv w=>gs 117 e v w λx=>df 117 e x λy=>d (.tuple #[y,(gI 7)]) x) (cy (S:=T1) (λz=>gb .lss 2 true b (gI 1) u λA B=>cC A (z ((.bool true),()) B) (cF a λC=>cI 320 C 2 133 B λD E=>gi 133 D (gI 0) E λF G=>cI 117 F 4 2 G λH I=>gb .gtr 2 false b H I λJ K=>z (J,()) K)) (Ef e d a b)))):Ca Tryz.prog 273 #[a,b] c d:=cj Tryz.func273 L
def ON{a b:Value}{c:World}{d:cm}(m:Ca Tryz.prog 237 #[a] c λe f=>gt e f λg h=>cC g (d (.tuple #[(gI 0),(gI 1)]) h) (Ca Tryz.prog 310 #[a,b] h λi j=>gb .geq 3 true i (gI 0) j λk l=>cC k (d (.tuple #[i,(gI 0)]) l) (d (.tuple #[(gI 0),(gI 7)]) l))):Ca Tryz.prog 299 #[a,b] c d:=cj Tryz.func299 m
def Oh{a b:Value}{c:World}{d:cm}(L:ga 117 c λe f=>Ca Tryz.prog 299 #[a,b] f λg h=>kU g h λi j k=>gb .neq 26 true j (gI 0) k λl m=>cC l (gr (Instr.build 117 #[]) m λn o=>gs 117 e n o λp=>df 117 e p λq=>d (.tuple #[q,j]) p) (cF a λr=>cI 320 r 2 133 m λs t=>kv 133 s i 117 t λu v=>gv 117 u v λw x=>cF a λy=>cI 320 y 2 133 x λz A=>gb .add 3 true i (gI 1) A λB C=>Ca Tryz.prog 212 #[z,i,B] C λD E=>cF a λF=>fZ 320 F 2 133 D E λG=>gl 117 w G λH I=>gs 117 e H I λJ=>df 117 e J λK=>d (.tuple #[K,(gI 0)]) J)):Ca Tryz.prog 259 #[a,b] c d:=cj Tryz.func259 L
def Pf{a b:Value}{c:World}{d:cm}(y:ga 117 c λe f=>Ca Tryz.prog 299 #[a,b] f λg h=>kU g h λi j k=>gb .neq 26 true j (gI 0) k λl m=>cC l (gr (Instr.build 117 #[]) m λn o=>gs 117 e n o λp=>df 117 e p λq=>d (.tuple #[q,j]) p) (cF a λr=>cI 320 r 2 133 m λs t=>kv 133 s i 117 t λu v=>gs 117 e u v λw=>df 117 e w λx=>d (.tuple #[x,(gI 0)]) w)):Ca Tryz.prog 269 #[a,b] c d:=cj Tryz.func269 y
def FO(a b c d:Value)(e:Nat)(f:List Value)(g:World)(h:Wp)(i:Code->Wp):=gv 117 (f.getD 0 undef) g λj k=>iK e k λl=>gl 228 a l λm n=>gl 2 b n λo p=>cI 117 j 3 2 p λq r=>Ca Tryz.prog 270 #[m,o,q] r λs t=>cC s (i (.exit 0) t) (cI 117 j 1 35 t λu v=>gl 35 c v λw x=>gb .neq 35 false u w x λy z=>cC y (gl 2 d z λA B=>cI 117 j 4 2 B λC D=>gb .add 2 false A C D λE F=>gs 2 d E F h) (h z))
def BB(a:Value)(b:cm)(c:List Nat)(d:Option Code)(e:World):=fk (λf=>gl 2 a f λg h=>gs 2 a g h λi=>jC (c++[]) i λj=>df 2 a j λk=>b k j) (λl=>jC (c++[]) l λm=>df 2 a m λn=>b n m) (λo p=>bc (Nat.beq o 0) (gl 2 a p λq r=>gs 2 a q r λs=>jC (c++[]) s λt=>df 2 a t λu=>b u t) (False)) d e
def Qm{a b c:Value}{d:World}{e:cm}(r:gq 228 a d λf g=>gq 2 b g λh i=>gq 35 c i λj k=>ga 2 k λl m=>gl 228 f m λn o=>Ca Tryz.prog 146 #[n] o λp q=>xR Tryz.prog none p q 1 (FO f h j l) (BB l e)):Ca Tryz.prog 226 #[a,b,c] d e:=cj Tryz.func226 r
def NJ{a:Value}{b:World}{c:cm}(h:gq 228 a b λd e=>c (.func (.func 236) #[] #[d]) e):Ca Tryz.prog 146 #[a] b c:=cj Tryz.func146 h
def H8(a b c:Value)(d:cm)(e:T1)(f:World)(g:T1->Wp):=NV->gb .lss 3 false e.1 a f λh i=>cC h (kv 133 b e.1 117 i λj k=>gv 117 j k λl m=>gl 117 l m λn o=>ew Tryz.prog c [n] o λp q=>gt p q λr s=>cC r (d (.tuple #[]) s) (gb .add 3 true e.1 (gI 1) s λt u=>g (t,()) u)) (d (.tuple #[]) i)
def N9{a b:Value}{c:World}{d:cm}(t:gl 228 b c λe f=>Ca Tryz.prog 237 #[e] f λg h=>gt g h λi j=>cC i (d (.tuple #[]) j) (gl 228 b j λk l=>cF k λm=>cI 320 m 2 133 l λn o=>Ca Tryz.prog 111 #[n] o λp q=>gn 133 false p q λr s=>cO (S:=T1) (H8 r p a d) ((gI 0),()) s)):Ca Tryz.prog 236 #[a,b] c d:=cj Tryz.func236 t
def OO{a:Value}{b:World}{c:cm}(k:Ca Tryz.prog 237 #[a] b λd e=>gt d e λf g=>cC f (c (gI 0) g) (cF a λh=>cI 320 h 2 133 g λi j=>gn 133 false i j c)):Ca Tryz.prog 227 #[a] b c:=cj Tryz.func227 k
def OY{a:Value}{b:World}{c:cm}(p:Ca Tryz.prog 237 #[a] b λd e=>gt d e λf g=>cC f (c (.pointer none) g) (cF a λh=>dP 320 h 1 λi=>df 4 i g.drew λj=>cF a λk=>en 320 k 2 133 g.drew λl=>Ca Tryz.prog 111 #[l] g.drew λm n=>gk 4 i j n/\(gp (Instr.build 320 #[(0,(.bool true)),(1,j),(2,m)]) λo=>gq 320 o n c))):Ca Tryz.prog 193 #[a] b c:=cj Tryz.func193 p
def Ff(a b c:Value)(d:cm)(e:T2)(f:World)(g:T2->Wp):=NV->gb .lss 3 false e.2.1 a f λh i=>cC h (kv 133 b e.2.1 117 i λj k=>ew Tryz.prog c [j] k λl m=>cC l (d e.2.1 m) (gb .add 3 true e.2.1 (gI 1) m λn o=>g (e.1,n,()) o)) (d (gI (-1)) i)
def OV{a b:Value}{c:World}{d:cm}(h:gn 133 false a c λe f=>cO (S:=T2) (Ff e a b d) ((gI 0),(gI 0),()) f):Ca Tryz.prog 210 #[a,b] c d:=cj Tryz.func210 h
def Oi{a b c:Value}{d:World}{e:cm}(h0:gr (Instr.sliceAt 133 a (some b) none none) d λf g=>gn 133 false c g λh i=>gb .eql 3 true h (gI 0) i λj k=>cC j (e a k) (gn 133 false a k λl m=>gb .eql 3 false b l m λn o=>cC n (gx (cx #[133,133] 133 [a,c]) o e) (gb .add 3 false l h o λp q=>rn Tryz.prog (builtin .cap #[133] 3 #[false] #[a]) q λr s=>gb .gtr 3 false p r s λt u=>cC t (gr (Instr.sliceAt 133 a none (some b) none) u λv w=>gb .add 3 false l h w λx y=>gb .sub 3 false x b y λz A=>gx (cx #[133,3] 133 [v,z]) A λB C=>gr (Instr.sliceAt 133 B (some b) none none) C λD E=>gx (sF #[133,133] 3 [D,c]) E λF G=>gX .add 3 false b h λH=>gp (Instr.sliceAt 133 B (some H) none none) λI=>gp (Instr.sliceAt 133 a (some b) none none) λJ=>gx (sF #[133,133] 3 [I,J]) G.drew λK L=>e B L) (gb .add 3 false l h u λM N=>gr (Instr.sliceAt 133 a none (some M) none) N λO P=>gb .add 3 false b h P λQ R=>gr (Instr.sliceAt 133 O (some Q) none none) R λS T=>SX Tryz.prog 351 [c,S] T λU V=>gt U V λW X=>cC W (gX .add 3 false b h λY=>gp (Instr.sliceAt 133 O (some Y) none none) λZ=>gp (Instr.sliceAt 133 O (some b) none none) λaa=>gx (sF #[133,133] 3 [Z,aa]) X.drew λab ac=>gr (Instr.sliceAt 133 O (some b) none none) ac λad ae=>gx (sF #[133,133] 3 [ad,c]) ae λaf ag=>e O ag) (gr (Instr.sliceAt 133 O (some l) none none) X λah ai=>gx (sF #[133,133] 3 [ah,c]) ai λaj ak=>gr (Instr.sliceAt 133 O (some b) none none) ak λal am=>Ca Tryz.prog 352 #[al,h] am λan ao=>e O ao))))):Ca Tryz.prog 312 #[a,b,c] d e:=cj Tryz.func312 h0
def Ol{a b c:Value}{d:World}{e:cm}(x:gn 133 false a d λf g=>gr (Instr.sliceAt 133 a (some b) (some c) (some f)) g λh i=>gb .eql 3 false b c i λj k=>cC j (e a k) (gn 133 false a k λl m=>gp (Instr.sliceAt 133 a none (some b) none) λn=>gp (Instr.sliceAt 133 a (some c) none none) λo=>gx (cx #[133,133] 133 [n,o]) m.drew λp q=>gn 133 false p q λr s=>gr (Instr.sliceAt 133 p (some r) (some l) none) s λt u=>gx (tK #[133] 0 [t]) u λv w=>e p w)):Ca Tryz.prog 212 #[a,b,c] d e:=cj Tryz.func212 x
def PK{a:Value}{b:World}{c:cm}(h:gb .eql 133 true a (.slice none 0 0) b λd e=>cC d (c (.slice none 0 0) e) (gx (dQ 133 0 []) e λf g=>gx (cx #[133,133] 133 [f,a]) g c)):Ca Tryz.prog 111 #[a] b c:=cj Tryz.func111 h
end Go.Proofs
namespace Go.Proofs
open Go Go.Vc
attribute [local congr] cq
abbrev fW(n:Int):Prop:= -9223372036854775808<=n/\n<9223372036854775808
abbrev iC(n:Int):Prop:=0<=n/\n<4294967296
abbrev I2(n:Int):Prop:=0<=n/\n<18446744073709551616
structure Sp where
 num:Int
 route:Int
 tick:Int
 lot:Int
 band:Int
 limit:Int
 shifts:Vector Int 16
 credit:Int
 last:Int
 first:Int
 deriving DecidableEq
def Sp.Fit(s:Sp):Prop:=iC s.num/\(0<=s.route/\s.route<256)/\fW s.tick/\fW s.lot/\fW s.band/\fW s.limit/\(∀x∈s.shifts.toList,fW x)/\fW s.credit/\iC s.last/\fW s.first
def Cz(s:Vector Int 16):List Value:=s.toList.map λn=>.int .i64 n
def dl(s:Sp):List Value:=[.int .u32 s.num,.int .u8 s.route,.int .i64 s.tick,.int .i64 s.lot,.int .i64 s.band,.int .i64 s.limit]++(Cz s.shifts++[.int .i64 s.credit,.int .u32 s.last,.int .i64 s.first])
def lr(s:Vector Int 16):(Cz s).length=16:=by simp[Cz]
def cJ(s:Sp):(dl s).length=25:=by simp[dl,lr]
def ko(s:Sp):(dl s).all (·.oneCell')=true:=by simp[dl,Cz,Value.oneCell']
def oG(s:Sp):((dl s).drop 6).take 16=Cz s.shifts:=by
 simp only[dl];rw[List.drop_append_of_le_length (by simp)];simp only[List.drop_succ_cons,List.drop_nil,List.drop_zero,List.nil_append];rw[List.take_append_of_le_length (by rw[lr];omega),List.take_of_length_le (by rw[lr];omega)]
def SD{s:Sp}{a:List Value}{i:Nat}(hi:i<3):(dl s++a)[22+i]? =([.int .i64 s.credit,.int .u32 s.last,.int .i64 s.first]:List Value)[i]? :=by
 rw[List.getElem?_append_left (by rw[cJ];omega)];simp only[dl];rw[List.getElem?_append_right (by simp;omega)];rw[List.getElem?_append_right (by rw[lr];simp;omega)];congr 1;rw[lr];simp;omega
def Nu(s:Sp)(a:List Value):(dl s++a)[0]? =some (.int .u32 s.num):=rfl
def QC(s:Sp)(a:List Value):(dl s++a)[1]? =some (.int .u8 s.route):=rfl
def Mh(s:Sp)(a:List Value):(dl s++a)[2]? =some (.int .i64 s.tick):=rfl
def O2(s:Sp)(a:List Value):(dl s++a)[3]? =some (.int .i64 s.lot):=rfl
def Ox(s:Sp)(a:List Value):(dl s++a)[4]? =some (.int .i64 s.band):=rfl
def NU(s:Sp)(a:List Value):(dl s++a)[5]? =some (.int .i64 s.limit):=rfl
def Ho(s:Sp)(a:List Value):(dl s++a)[22]? =some (.int .i64 s.credit):=SD (i:=0) (by omega)
def Qb(s:Sp)(a:List Value):(dl s++a)[23]? =some (.int .u32 s.last):=SD (i:=1) (by omega)
def HZ(s:Sp)(a:List Value):(dl s++a)[24]? =some (.int .i64 s.first):=SD (i:=2) (by omega)
def mf(tick n:Int):Bool:=cD n 1 MP&& decide (n.tmod tick=0)
def iA(l:List Int):Bool:=l.all λx=>cD x (-MP) MP
def Sp.may(s:Sp):Bool:=
 iA s.shifts.toList&& s.shifts.toList.any (λx=>decide (0<x))&& s.shifts.toList.any (λx=>decide (x<0))&& decide (s.num≠0)&& cD s.route 1 8&& cD s.tick 1 MP&& cD s.lot 1 1000000&& cD s.band 0 MP&& cD s.limit 1 MP&& cD s.credit 0 MP&& mf s.tick s.first
def Sp.isPrice(s:Sp)(n:Int):Bool:=s.may&& mf s.tick n
def Sp.isQty(s:Sp)(n:Int):Bool:=s.may&& (cD n 1 1000000&& decide (n.tmod s.lot=0))
def gM{n lo hi:Int}{w:World}{K:cm}(a:K (.bool (cD n lo hi)) w):Ca Tryz.prog 191 #[.int .i64 n,.int .i64 lo,.int .i64 hi] w K:=by
 apply Pg;unfold cD at a;by_cases h:lo<=n
 ·simp[go_sem,h]at a|-;exact a
 ·simp[go_sem,h]at a|-;exact a
def vL{tick n:Int}{w:World}{K:cm}(d:0<tick)(a:K (.bool (mf tick n)) w):Ca Tryz.prog 192 #[.int .i64 tick,.int .i64 n] w K:=by
 apply Nv;refine gM ?_;unfold mf MP at a;have b:¬tick=0:=by omega
 cases h:cD n 1 10000000 with
 |false=>
  rw[h]at a;simpa using a
 |true=>
  rw[h]at a;have j:=of_decide_eq_true h;simp[go_sem,b]at a|-
  have e:IntKind.i64.wrap (n.tmod tick)=n.tmod tick:=by
   have h1:=Int.emod_nonneg n b;have g:=Int.emod_lt_of_pos n d;have f:n.tmod tick=n%tick:=Int.tmod_eq_emod_of_nonneg (by omega)
   have i:n%tick<=n:=by
    by_cases c:n<tick
    ·rw[Int.emod_eq_of_lt (by omega) c];omega
    ·omega
   rw[f,cS (by omega) (by omega)]
  first
   |exact a
   |(rw[e];exact a)
   |(simpa [e]using a)
def TG:Tryz.prog.underlying 36=some (.array 16 2):=by kernel_rfl
def Tr:iD Tryz.prog 36=true:=by kernel_rfl
def Tv:Tryz.prog.cellsOf 36=15+1:=by kernel_rfl
def Sj:iD Tryz.prog 2=false:=by kernel_rfl
def Ra:(Tryz.prog.underlying 2).isSome=true:=by kernel_rfl
def Sk:Tryz.prog.cellsOf 2=0+1:=by kernel_rfl
def ve:iD Tryz.prog 38=true:=by kernel_rfl
def ry:Tryz.prog.cellsOf 38=24+1:=by kernel_rfl
def wI(s:Vector Int 16)(i:Nat)(h:i<16):(Cz s).toArray[i]? =some (.int .i64 s.toList[i]!):=by
 have a:s.toList.length=16:=by simp
 simp[Cz,List.getElem?_eq_getElem,a,h]
def zj{l:List Int}{p:Int->Bool}{i:Nat}(h:i<l.length):(l.take (i+1)).all p=((l.take i).all p&& p l[i]!):=by
 rw[List.take_add_one,List.getElem?_eq_getElem h,List.all_append];simp[h]
def x6{l:List Int}{p:Int->Bool}{i:Nat}(h:i<l.length):(l.take (i+1)).any p=((l.take i).any p||p l[i]!):=by
 rw[List.take_add_one,List.getElem?_eq_getElem h,List.any_append];simp[h]
set_option maxRecDepth 10000 in
def qn{s:Sp}{w:World}{K:cm}(hf:s.Fit)(N:∀g,cl (λ_=>False) w g->K (.bool s.may) g):Ca Tryz.prog 107 #[.agg (dl s).toArray] w K:=by
 apply PR;obtain⟨p,q⟩:∃p,p=w.heap.size:=⟨_,rfl⟩
 have I:cl (λ_=>False) w (w.alloc (.cells (dl s).toArray 38)):=(cl.refl _ w).alloc _;refine ck (v:=.pointer (some ⟨p,0,none⟩)) (w' :=w.alloc (.cells (dl s).toArray 38)) (by rw[q];rfl) ?_;have d:hp (w.alloc (.cells (dl s).toArray 38)) p=some (.cells (dl s).toArray 38 (0,0)):=by rw[q];simp[go_sem]
 generalize w.alloc (.cells (dl s).toArray 38)=u at I d|-;refine ck (v:=.pointer (some ⟨p,6,none⟩)) (w' :=u) (by simp[go_sem]) ?_
 have Z:At u p 6 (Cz s.shifts):=by
  have F:At u p 0 (dl s):=⟨_,_,_,d,by simp,by simp⟩
  have:=F.sub 6 16 (by rw[cJ];omega);rw[oG]at this;simpa using this
 refine eK (Cz s.shifts) 15 Tr Tv (lr _) Z ?_;have hl:s.shifts.toList.length=16:=by simp
 obtain⟨f1,f2,f3,f4,f5,f6,Y,f8,f9,X⟩:=hf;have a:∀i:Nat,(dl s)[i]? =(dl s++[])[i]? :=λi=>by rw[List.append_nil]
 refine dp (λst W=>∃(i:Nat) (x:Value),i<=16/\st=(x,.bool ((s.shifts.toList.take i).any λx=>decide (0<x)),.bool ((s.shifts.toList.take i).any λx=>decide (x<0)),.int .i64 i,())/\W=u/\iA (s.shifts.toList.take i)=true)
  (λst _=>match st.2.2.2.1 with| .int _ i=>16 - i.toNat|_=>0) ⟨0,.bool false,by omega,rfl,rfl,rfl⟩ ?_
 rintro⟨_,_⟩ W ⟨i,x,hi,⟨⟩,rfl,f⟩ V E;unfold GS;intro _;by_cases l:i<16
 ·have m:(i:Int)<16:=by omega
  have e:i<s.shifts.toList.length:=by omega
  have hx:fW s.shifts.toList[i]! :=by
   rw[getElem!_pos s.shifts.toList i e];exact Y _ (List.getElem_mem e)
  refine ck (v:=.bool true) (by simp[go_sem,m]<;>first|exact⟨rfl,rfl⟩|exact rfl) ?_;rw[ci,if_pos rfl];refine ck (v:=.int .i64 s.shifts.toList[i]!) (w' :=W) (vo TG Sj Ra Sk l (wI _ i l)) ?_;generalize H:s.shifts.toList[i]! =y at*;refine rp hx (by omega) ?_;have hw:IntKind.i64.wrap ((i:Int)+1)=((i+1:Nat):Int):=by rw[cS (by omega) (by omega)];omega
  refine ck (v:=.bool (!cD y (-10000000) 10000000)) (w' :=W) (by simp[go_sem]) ?_;cases J:cD y (-10000000) 10000000 with
  |false=>
   rw[ci,if_pos (show(!false)=true from rfl)]
   have:s.may=false:=by
    have h1:iA s.shifts.toList=false:=by
     rw[Bool.eq_false_iff];intro hc;have:=(List.all_eq_true.1 hc) y (by rw[<-H,getElem!_pos s.shifts.toList i e];exact List.getElem_mem e);unfold MP at this;rw[J]at this;cases this
    unfold Sp.may;rw[h1];simp
   rw[<-this];exact N _ I
  |true=>
   rw[ci,if_neg (by simp)]
   have k:iA (s.shifts.toList.take (i+1))=true:=by
    unfold iA;rw[zj e,H];show(iA _&& _)=true;rw[f];simpa [MP]using J
   have j:∀(z:Value),V (z,.bool ((s.shifts.toList.take (i+1)).any λx=>decide (0<x)),.bool ((s.shifts.toList.take (i+1)).any λx=>decide (x<0)),.int .i64 ((i+1:Nat):Int),()) W:=λz=>
    E _ _ ⟨i+1,z,by omega,rfl,rfl,k⟩ (by show 16 - (((i+1:Nat):Int)).toNat<16 - ((i:Int)).toNat;omega)
   rw[x6 e,x6 e,H]at j;cases B:(s.shifts.toList.take i).any λx=>decide (0<x)<;>cases t:(s.shifts.toList.take i).any λx=>decide (x<0)
   all_goals
    rw[B,t]at j;simp only[ci,Bool.false_eq_true,if_false,if_true];simp[-Int.natCast_add,go_sem,hw];simpa using j _
 ·obtain rfl:i=16:=by omega
  rw[List.take_of_length_le (by omega)]at f;rw[List.take_of_length_le (by omega)];refine ck (v:=.bool false) (by simp[go_sem]<;>first|exact⟨rfl,rfl⟩|exact rfl) ?_;rw[ci,if_neg Bool.false_ne_true];have c:∀b:Bool,b=s.may->K (.bool b) W:=λb h=>by rw[h];exact N _ I
  unfold Sp.may at c;rw[f]at c;cases B:s.shifts.toList.any λx=>decide (0<x)with
  |false=>
   rw[ci,if_neg Bool.false_ne_true];refine c _ ?_;rw[B];simp
  |true=>
   rw[B]at c;rw[ci,if_pos rfl];cases t:s.shifts.toList.any λx=>decide (x<0)with
   |false=>
    rw[ci,if_neg Bool.false_ne_true];refine c _ ?_;rw[t];simp
   |true=>
    rw[t]at c;rw[ci,if_pos rfl];have M:(dl s).toArray[0]? =some (.int .u32 s.num):=by rw[List.getElem?_toArray,a];exact Nu s []
    have Q:(dl s).toArray[1]? =some (.int .u8 s.route):=by rw[List.getElem?_toArray,a];exact QC s []
    have A:(dl s).toArray[2]? =some (.int .i64 s.tick):=by rw[List.getElem?_toArray,a];exact Mh s []
    have U:(dl s).toArray[3]? =some (.int .i64 s.lot):=by rw[List.getElem?_toArray,a];exact O2 s []
    have P:(dl s).toArray[4]? =some (.int .i64 s.band):=by rw[List.getElem?_toArray,a];exact Ox s []
    have T:(dl s).toArray[5]? =some (.int .i64 s.limit):=by rw[List.getElem?_toArray,a];exact NU s []
    have r:(dl s).toArray[22]? =some (.int .i64 s.credit):=by rw[List.getElem?_toArray,a];exact Ho s []
    have o:(dl s).toArray[24]? =some (.int .i64 s.first):=by rw[List.getElem?_toArray,a];exact HZ s []
    refine ck (by simp[-Int.natCast_add,go_sem,d,M]<;>first|exact⟨rfl,rfl⟩|exact rfl) ?_;refine ck (by simp[-Int.natCast_add,go_sem,d,M]<;>first|exact⟨rfl,rfl⟩|exact rfl) ?_;by_cases C:s.num=0
    ·refine ck (v:=.bool false) (by simp[go_sem,C]<;>first|exact⟨rfl,rfl⟩|exact rfl) ?_;rw[ci,if_neg Bool.false_ne_true];refine c _ (by simp[C])
    have G:decide (s.num≠0)=true:=by simpa using C
    rw[G]at c;refine ck (v:=.bool true) (by simp[go_sem,C]<;>first|exact⟨rfl,rfl⟩|exact rfl) ?_;rw[ci,if_pos rfl];refine ck (by simp[-Int.natCast_add,go_sem,d,Q]<;>first|exact⟨rfl,rfl⟩|exact rfl) ?_;refine ck (by simp[-Int.natCast_add,go_sem,d,Q]<;>first|exact⟨rfl,rfl⟩|exact rfl) ?_;refine ck (v:=.int .i64 s.route) (w' :=W) (by simp[go_sem,cS (n:=s.route) (by omega) (by omega)]) ?_;refine gM ?_;cases h1:cD s.route 1 8 with
    |false=>rw[ci,if_neg Bool.false_ne_true];exact c _ (by rw[h1];simp)
    |true=>
    rw[h1]at c;rw[ci,if_pos rfl];refine ck (by simp[-Int.natCast_add,go_sem,d,A]<;>first|exact⟨rfl,rfl⟩|exact rfl) ?_;refine ck (by simp[-Int.natCast_add,go_sem,d,A]<;>first|exact⟨rfl,rfl⟩|exact rfl) ?_;refine gM ?_;unfold MP at c;cases D:cD s.tick 1 10000000 with
    |false=>rw[ci,if_neg Bool.false_ne_true];exact c _ (by rw[D];simp)
    |true=>
    rw[D]at c;rw[ci,if_pos rfl];refine ck (by simp[-Int.natCast_add,go_sem,d,U]<;>first|exact⟨rfl,rfl⟩|exact rfl) ?_;refine ck (by simp[-Int.natCast_add,go_sem,d,U]<;>first|exact⟨rfl,rfl⟩|exact rfl) ?_;refine gM ?_;cases R:cD s.lot 1 1000000 with
    |false=>rw[ci,if_neg Bool.false_ne_true];exact c _ (by rw[R];simp)
    |true=>
    rw[R]at c;rw[ci,if_pos rfl];refine ck (by simp[-Int.natCast_add,go_sem,d,P]<;>first|exact⟨rfl,rfl⟩|exact rfl) ?_;refine ck (by simp[-Int.natCast_add,go_sem,d,P]<;>first|exact⟨rfl,rfl⟩|exact rfl) ?_;refine gM ?_;cases L:cD s.band 0 10000000 with
    |false=>rw[ci,if_neg Bool.false_ne_true];exact c _ (by rw[L];simp)
    |true=>
    rw[L]at c;rw[ci,if_pos rfl];refine ck (by simp[-Int.natCast_add,go_sem,d,T]<;>first|exact⟨rfl,rfl⟩|exact rfl) ?_;refine ck (by simp[-Int.natCast_add,go_sem,d,T]<;>first|exact⟨rfl,rfl⟩|exact rfl) ?_;refine gM ?_;cases O:cD s.limit 1 10000000 with
    |false=>rw[ci,if_neg Bool.false_ne_true];exact c _ (by rw[O];simp)
    |true=>
    rw[O]at c;rw[ci,if_pos rfl];refine ck (by simp[-Int.natCast_add,go_sem,d,r]<;>first|exact⟨rfl,rfl⟩|exact rfl) ?_;refine ck (by simp[-Int.natCast_add,go_sem,d,r]<;>first|exact⟨rfl,rfl⟩|exact rfl) ?_;refine gM ?_;cases S:cD s.credit 0 10000000 with
    |false=>rw[ci,if_neg Bool.false_ne_true];exact c _ (by rw[S];simp)
    |true=>
    rw[S]at c;rw[ci,if_pos rfl];refine ck (by simp[-Int.natCast_add,go_sem,d,A]<;>first|exact⟨rfl,rfl⟩|exact rfl) ?_;refine ck (by simp[-Int.natCast_add,go_sem,d,A]<;>first|exact⟨rfl,rfl⟩|exact rfl) ?_;refine ck (by simp[-Int.natCast_add,go_sem,d,o]<;>first|exact⟨rfl,rfl⟩|exact rfl) ?_;refine ck (by simp[-Int.natCast_add,go_sem,d,o]<;>first|exact⟨rfl,rfl⟩|exact rfl) ?_;have ht:=of_decide_eq_true D;refine vL (by omega) ?_;exact c _ (by simp)
def Rr(s:Sp):(dl s)[2]? =some (.int .i64 s.tick):=rfl
def Sz(s:Sp):(dl s)[3]? =some (.int .i64 s.lot):=rfl
def La(s:Sp)(w:World):∃a,(Instr.box 38 (.agg (dl s).toArray)).run Tryz.prog w=.ok (.pointer (some ⟨w.heap.size,0,none⟩)) a/\hp a w.heap.size=some (.cells (dl s).toArray 38 (0,0))/\cl (λ_=>False) w a:=
 ⟨w.alloc (.cells (dl s).toArray 38),rfl,by simp[go_sem],(cl.refl _ w).alloc _⟩
def At.all{w:World}{b:Nat}{l:List Value}{T:TypeId}{a:Nat×Nat}(h:hp w b=some (.cells l.toArray T a)):At w b 0 l:=⟨_,_,_,h,by simp,by simp⟩
def Sp.may_tick{s:Sp}(h:s.may=true):1<=s.tick/\1<=s.lot/\0<=s.band/\1<=s.limit/\s.limit<=10000000/\s.band<=10000000/\s.lot<=1000000/\s.tick<=10000000:=by
 unfold Sp.may cD MP at h;simp only[Bool.and_eq_true,decide_eq_true_eq]at h;omega
def um{s:Sp}{n:Int}{w:World}{K:cm}(h:s.Fit)(a:∀e,cl (λ_=>False) w e->K (.bool (s.isPrice n)) e):Ca Tryz.prog 127 #[.agg (dl s).toArray,.int .i64 n] w K:=by
 apply PI;obtain⟨j,i,d,g⟩:=La s w;refine ck i ?_;refine eK (dl s) 24 ve ry (cJ s) (At.all d) ?_;refine qn h λk c=>?_;have f:=c.hpk d id;unfold Sp.isPrice at a;cases b:s.may with
 |false=>
  rw[b]at a;rw[ci,if_neg Bool.false_ne_true];exact a _ (g.trans c)
 |true=>
  rw[b]at a;rw[ci,if_pos rfl];refine ck (by simp[-Int.natCast_add,go_sem,f]<;>first|exact⟨rfl,rfl⟩|exact rfl) ?_;refine ck (by simp[-Int.natCast_add,go_sem,f,Rr]<;>first|exact⟨rfl,rfl⟩|exact rfl) ?_;refine vL (by have:=Sp.may_tick b;omega) ?_;exact a _ (g.trans c)
def GV{s:Sp}{n:Int}{w:World}{K:cm}(m:s.Fit)(a:∀c,cl (λ_=>False) w c->K (.bool (s.isQty n)) c):Ca Tryz.prog 223 #[.agg (dl s).toArray,.int .i64 n] w K:=by
 apply PX;obtain⟨r,p,h,d⟩:=La s w;refine ck p ?_;refine eK (dl s) 24 ve ry (cJ s) (At.all h) ?_;refine qn m λl b=>?_;have k:=b.hpk h id;unfold Sp.isQty at a;cases g:s.may with
 |false=>
  rw[g]at a;rw[ci,if_neg Bool.false_ne_true];exact a _ (d.trans b)
 |true=>
  rw[g]at a;rw[ci,if_pos rfl];refine gM ?_;have i:=Sp.may_tick g;have j:¬s.lot=0:=by omega
  cases f:cD n 1 1000000 with
  |false=>
   rw[f]at a;rw[ci,if_neg Bool.false_ne_true];exact a _ (d.trans b)
  |true=>
   rw[f]at a;have q:=of_decide_eq_true f;rw[ci,if_pos rfl];refine ck (by simp[-Int.natCast_add,go_sem,k]<;>first|exact⟨rfl,rfl⟩|exact rfl) ?_;refine ck (by simp[-Int.natCast_add,go_sem,k,Sz]<;>first|exact⟨rfl,rfl⟩|exact rfl) ?_
   have e:IntKind.i64.wrap (n.tmod s.lot)=n.tmod s.lot:=by
    have h1:=Int.emod_nonneg n j;have t:=Int.emod_lt_of_pos n (show 0<s.lot by omega);have o:n.tmod s.lot=n%s.lot:=Int.tmod_eq_emod_of_nonneg (by omega);rw[o,cS (by omega) (by omega)]
   refine ck (v:=.int .i64 (n.tmod s.lot)) (w' :=l) (by simp[go_sem,j,e]) ?_;refine ck (v:=.bool (decide (n.tmod s.lot=0))) (w' :=l) (by simp[go_sem];rw[Bool.eq_iff_iff];simp) ?_;have:=a _ (d.trans b);simpa using this
structure Ct where
 spec:Sp
 st:Int
 price:Int
 deriving DecidableEq
def Ct.Fit(k:Ct):Prop:=k.spec.Fit/\(0<=k.st/\k.st<256)/\fW k.price
def dU(k:Ct):List Value:=dl k.spec++[.int .u8 k.st,.int .i64 k.price]
def cX(k:Ct):(dU k).length=27:=by simp[dU,cJ]
def tC(k:Ct):(dU k).all (·.oneCell')=true:=by
 rw[dU,List.all_append,ko];rfl
def Qq(k:Ct)(a:List Value):(dU k++a)[25]? =some (.int .u8 k.st):=by
 rw[List.getElem?_append_left (by rw[cX];omega),dU,List.getElem?_append_right (by rw[cJ];omega),cJ];rfl
def O3(k:Ct)(a:List Value):(dU k++a)[26]? =some (.int .i64 k.price):=by
 rw[List.getElem?_append_left (by rw[cX];omega),dU,List.getElem?_append_right (by rw[cJ];omega),cJ];rfl
end Go.Proofs
set_option maxRecDepth 100000
namespace Go.Proofs
open Go Go.Vc
def Sr{a:Value}{b:World}{c:cm}(h:gr (Instr.build 248 #[(0,a)]) b λd e=>gq 248 d e c):Ca Tryz.prog 59 #[a] b c:=cj Tryz.func59 h
def PP{a:Value}{b:World}{c:cm}(i:gb .eql 136 true a (.pointer none) b λd e=>cC d (c (.bool true) e) (cF a λf=>cI 248 f 2 26 e λg h=>gb .neq 26 true g (gI 0) h c)):Ca Tryz.prog 148 #[a] b c:=cj Tryz.func148 i
def Ft(a:cm)(b:Value)(c:T4)(d:Value)(e:T1)(f:World):=NV->cC e.1 (a (.tuple #[(.int .u64 0),(gI 0),(gI 5)]) f) (cF b λg=>dP 248 g 1 λh=>df 3 h f.drew λi=>gX .add 3 false i c.2.2.2.1 λj=>gX .add 3 true j (gI 1) λk=>Sem.run Tryz.prog (Instr.loadAt 3 h) f.drew=.ok i f.drew/\(a (.tuple #[d,k,(gI 0)]) f.drew))
def D2(a:cm)(b:Value)(c:T4)(d:Value)(e:T4->Wp)(f:T1)(g:World):=NV->cC f.1 (a (.tuple #[(.int .u64 0),(gI 0),(gI 5)]) g) (gb .and 5 true b (.int .u8 127) g λh i=>gr (convert 5 27 h) i λj k=>gb .mul 3 true (gI 7) c.2.2.2.1 k λl m=>gb .shl 27 false j l m λn o=>gb .or 27 false c.1 n o λp q=>gb .lss 5 true b (.int .u8 128) q λr s=>cC r (cy (S:=T1) (λt=>gb .eql 5 true b (.int .u8 0) s λu v=>cC u (gb .gtr 3 true c.2.2.2.1 (gI 0) v λw x=>t (w,()) x) (t ((.bool false),()) v)) (Ft a d c p)) (gb .add 3 true c.2.2.2.1 (gI 1) s λy z=>e (p,c.2.1,c.2.2.1,y,()) z))
def FZ(a b:Value)(c:cm)(d:Value)(e:T4)(f:World)(g:T4->Wp):=NV->gb .lss 3 false e.2.2.2.1 a f λh i=>cC h (kv 54 b e.2.2.2.1 5 i λj k=>cy (S:=T1) (λl=>gb .eql 3 true e.2.2.2.1 (gI 9) k λm n=>cC m (gb .gtr 5 true j (.int .u8 1) n λo p=>cC o (l ((.bool true),()) p) (gb .gtr 3 true e.2.2.2.1 (gI 9) p λq r=>l (q,()) r)) (gb .gtr 3 true e.2.2.2.1 (gI 9) n λs t=>l (s,()) t)) (D2 c j e d g)) (c (.tuple #[(.int .u64 0),(gI 0),(gI 4)]) i)
def QD{a:Value}{b:World}{c:cm}(j:cF a λd=>en 248 d 0 54 b.drew λe=>cF a λf=>en 248 f 1 3 b.drew λg=>gp (Instr.sliceAt 54 e (some g) none none) λh=>gw (Builtin.len_ #[54] 3 #[h]) b.drew λi=>cO (S:=T4) (FZ i h c a) ((.int .u64 0),(gI 0),(gI 0),(gI 0),()) b.drew):Ca Tryz.prog 150 #[a] b c:=cj Tryz.func150 j
def Rw{a:Value}{b:World}{c:cm}(h:Ca Tryz.prog 69 #[a,(.int .u64 18446744073709551615)] b c):Ca Tryz.prog 61 #[a] b c:=cj Tryz.func61 h
def J69_0(a:T1->Wp)(b:Value)(c:T1)(d:World):=NV->cC c.1 (a ((gI 5),()) d) (a (b,()) d)
def Cn(a:Value)(b:cm)(c d:Value)(e:T1)(f:World):=NV->gb .neq 26 true e.1 (gI 0) f λg h=>cC g (cF a λi=>fZ 248 i 2 26 e.1 h λj=>b (.int .u64 0) j) (cF a λk=>fZ 248 k 1 3 c h λl=>b d l)
def Q1{a b:Value}{c:World}{d:cm}(t:Ca Tryz.prog 148 #[a] c λe f=>cC e (d (.int .u64 0) f) (Ca Tryz.prog 150 #[a] f λg h=>kU g h λi j k=>ge g 2 k λl m=>cy (S:=T1) (λn=>cy (S:=T1) (λo=>gb .eql 26 true l (gI 0) m λp q=>cC p (gb .gtr 27 false i b q λr s=>o (r,()) s) (o ((.bool false),()) q)) (J69_0 n l)) (Cn a d j i))):Ca Tryz.prog 69 #[a,b] c d:=cj Tryz.func69 t
def Sv{a:Value}{b:World}{c:cm}(p:Ca Tryz.prog 61 #[a] b λd e=>gb .shr 27 true d (.int .u64 1) e λf g=>gr (convert 27 2 f) g λh i=>gb .and 27 true d (.int .u64 1) i λj k=>gr (convert 27 2 j) k λl m=>gr (Op.unary .neg l) m λn o=>gb .xor 2 false h n o c):Ca Tryz.prog 62 #[a] b c:=cj Tryz.func62 p
def Se{a:Value}{b:World}{c:cm}(R:Ca Tryz.prog 148 #[a] b λd e=>cC d (c (.bool false) e) (cF a λf=>en 248 f 1 3 e.drew λg=>cF a λh=>en 248 h 0 54 e.drew λi=>gw (Builtin.len_ #[54] 3 #[i]) e.drew λj=>gX .eql 3 false g j λk=>cC k (cF a λl=>gf 248 l 2 e.drew λm n=>gs 26 m (gI 4) n λo=>c (.bool false) o) (cF a λp=>en 248 p 0 54 e.drew.drew λq=>cF a λr=>en 248 r 1 3 e.drew.drew λs=>ng 54 q s λt=>df 5 t e.drew.drew λu=>gX .gtr 5 true u (.int .u8 1) λv=>cC v (cF a λw=>gf 248 w 2 e.drew.drew λx y=>gs 26 x (gI 5) y λz=>c (.bool false) z) (cF a λA=>gf 248 A 1 e.drew.drew λB C=>gl 3 B C λD E=>gb .add 3 true D (gI 1) E λF G=>cF a λH=>fZ 248 H 1 3 F G λI=>cF a λJ=>en 248 J 0 54 I.drew λK=>cF a λL=>en 248 L 1 3 I.drew λM=>gX .sub 3 true M (gI 1) λN=>ng 54 K N λO=>df 5 O I.drew λP=>gX .eql 5 true P (.int .u8 1) λQ=>c Q I.drew)))):Ca Tryz.prog 65 #[a] b c:=cj Tryz.func65 R
def Ps{a:Value}{b:World}{c:cm}(l:gb .eql 136 true a (.pointer none) b λd e=>cC d (c (gI 0) e) (cF a λf=>en 248 f 0 54 e.drew λg=>gw (Builtin.len_ #[54] 3 #[g]) e.drew λh=>cF a λi=>en 248 i 1 3 e.drew λj=>gX .sub 3 false h j λk=>c k e.drew)):Ca Tryz.prog 147 #[a] b c:=cj Tryz.func147 l
def PH{a b:Value}{c:World}{d:cm}(k:Ca Tryz.prog 148 #[a] c λe f=>gt e f λg h=>cC g (cF a λi=>fZ 248 i 2 26 b h λj=>d (.tuple #[]) j) (d (.tuple #[]) h)):Ca Tryz.prog 149 #[a,b] c d:=cj Tryz.func149 k
def Kt(a:cm)(b:Value)(c:T1)(d:World):=NV->cC c.1 (a (gI 5) d) (cF b λe=>cI 248 e 2 26 d a)
def RJ{a:Value}{b:World}{c:cm}(p:gb .eql 136 true a (.pointer none) b λd e=>cC d (c (gI 1) e) (cy (S:=T1) (λf=>cF a λg=>en 248 g 2 26 e.drew λh=>gX .eql 26 true h (gI 0) λi=>cC i (cF a λj=>en 248 j 1 3 e.drew λk=>cF a λl=>en 248 l 0 54 e.drew λm=>gw (Builtin.len_ #[54] 3 #[m]) e.drew λn=>gX .lss 3 false k n λo=>f (o,()) e.drew) (f ((.bool false),()) e.drew)) (Kt c a))):Ca Tryz.prog 74 #[a] b c:=cj Tryz.func74 p
def F0(a:cm)(b:T2)(c:World)(d:T2->Wp):=NV->gb .geq 27 true b.1 (.int .u64 128) c λe f=>cC e (gr (convert 27 5 b.1) f λg h=>gb .or 5 true g (.int .u8 128) h λi j=>gx (dQ 54 1 [(0,i)]) j λk l=>gx (cx #[54,54] 54 [b.2.1,k]) l λm n=>gb .shr 27 true b.1 (.int .u64 7) n λo p=>d (o,m,()) p) (gr (convert 27 5 b.1) f λq r=>gx (dQ 54 1 [(0,q)]) r λs t=>gx (cx #[54,54] 54 [b.2.1,s]) t a)
def NR{a b:Value}{c:World}{d:cm}(h:cO (S:=T2) (F0 d) (b,a,()) c):Ca Tryz.prog 100 #[a,b] c d:=cj Tryz.func100 h
def Qn{a:Value}{b:World}{c:cm}(l:gr (convert 2 27 a) b λd e=>gb .shl 27 true d (.int .u64 1) e λf g=>gb .shr 2 true a (.int .u64 63) g λh i=>gr (convert 2 27 h) i λj k=>gb .xor 27 false f j k c):Ca Tryz.prog 240 #[a] b c:=cj Tryz.func240 l
def Pq{a b:Value}{c:World}{d:cm}(h:Ca Tryz.prog 240 #[b] c λe f=>Ca Tryz.prog 100 #[a,e] f d):Ca Tryz.prog 154 #[a,b] c d:=cj Tryz.func154 h
def KS(a b c:Value)(d:cm)(e:T1)(f:World)(g:T1->Wp):=NV->gb .lss 3 true e.1 (gI 16) f λh i=>cC h (Ca Tryz.prog 62 #[a] i λj k=>gf 38 b 6 k λl m=>gi 36 l e.1 m λn o=>gs 2 n j o λp=>gb .add 3 true e.1 (gI 1) p λq r=>g (q,()) r) (Ca Tryz.prog 69 #[a,(.int .u64 9223372036854775807)] i λs t=>gr (convert 27 2 s) t λu v=>fZ 38 b 7 2 u v λw=>Ca Tryz.prog 69 #[a,(.int .u64 4294967295)] w λx y=>gr (convert 27 35 x) y λz A=>fZ 38 b 8 35 z A λB=>Ca Tryz.prog 69 #[a,(.int .u64 9223372036854775807)] B λC D=>gr (convert 27 2 C) D λE F=>fZ 38 b 9 2 E F λG=>gx (dm 38 b) G λH I=>Ca Tryz.prog 107 #[H] I λJ K=>gt J K λL M=>cC L (Ca Tryz.prog 149 #[a,(gI 5)] M λN O=>gx (sf 38 #[]) O λP Q=>fV Tryz.prog (ej 38 c P) Q λR=>iw Tryz.prog (dm 38 c) R λS=>d S R) (gx (dm 38 b) M λT U=>fV Tryz.prog (ej 38 c T) U λV=>iw Tryz.prog (dm 38 c) V λW=>d W V))
def KI(a b c d e:Value)(f:cm)(g:T1)(h:World)(i:T1->Wp):=NV->gb .lss 3 false g.1 a h λj k=>cC j (kv 252 b g.1 251 k λl m=>Ca Tryz.prog 69 #[c,(.int .u64 9223372036854775807)] m λn o=>gr (convert 27 2 n) o λp q=>cF l λr=>gs 2 r p q λs=>gb .add 3 true g.1 (gI 1) s λt u=>i (t,()) u) (cO (S:=T1) (KS c d e f) ((gI 0),()) k)
def Rg{a:Value}{b:World}{c:cm}(E:gx (ic 38) b λd e=>Ca Tryz.prog 69 #[a,(.int .u64 4294967295)] e λf g=>gr (convert 27 35 f) g λh i=>Ca Tryz.prog 69 #[a,(.int .u64 255)] i λj k=>gr (convert 27 5 j) k λl m=>gx (sf 38 #[(0,h),(1,l)]) m λn o=>gx (ic 38) o λp q=>fV Tryz.prog (ej 38 p n) q λr=>gf 38 p 2 r λs t=>gf 38 p 3 t λu v=>gf 38 p 4 v λw x=>gf 38 p 5 x λy z=>gx (dQ 252 4 [(0,s),(1,u),(2,w),(3,y)]) z λA B=>gn 252 false A B λC D=>cO (S:=T1) (KI C A a p d c) ((gI 0),()) D):Ca Tryz.prog 68 #[a] b c:=cj Tryz.func68 E
def Q2{a:Value}{b:World}{c:cm}(j:gq 139 a b λd e=>cI 139 d 0 136 e λf g=>Ca Tryz.prog 69 #[f,(.int .u64 4294967295)] g λh i=>gr (convert 27 35 h) i c):Ca Tryz.prog 60 #[a] b c:=cj Tryz.func60 j
def RQ{a:Value}{b:World}{c:cm}(Y:gq 139 a b λd e=>ga 119 e λf g=>gl 139 d g λh i=>Ca Tryz.prog 60 #[h] i λj k=>fZ 119 f 0 35 j k λl=>cI 139 d 0 136 l λm n=>Ca Tryz.prog 61 #[m] n λo p=>gf 119 f 1 p λq r=>fZ 117 q 0 27 o r λs=>gl 139 d s λt u=>Ca Tryz.prog 60 #[t] u λv w=>gf 119 f 1 w λx y=>fZ 117 x 1 35 v y λz=>cI 139 d 0 136 z λA B=>Ca Tryz.prog 65 #[A] B λC D=>gf 119 f 1 D λE F=>fZ 117 E 2 4 C F λG=>en 139 d 0 136 G.drew λH=>dP 139 d 0 λI=>df 136 I G.drew λJ=>Ca Tryz.prog 62 #[H] G.drew λK L=>gk 136 I J L/\(dP 119 f 1 λM=>dP 117 M 3 λN=>Ca Tryz.prog 62 #[J] L λO P=>gs 2 N K P λQ=>dP 119 f 1 λR=>dP 117 R 4 λS=>gs 2 S O Q λT=>gl 119 f T λU V=>gs 119 f U V λW=>df 119 f W λX=>c X W)):Ca Tryz.prog 73 #[a] b c:=cj Tryz.func73 Y
def Ll(a:cm)(b:Value)(c:T2)(d:T2->Wp)(e:T1)(f:World):=NV->cC e.1 (a (.slice none 0 0) f) (gl 92 b f λg h=>gx (dQ 44 1 [(0,g)]) h λi j=>gx (cx #[44,44] 44 [c.1,i]) j λk l=>gb .add 27 true c.2.1 (.int .u64 1) l λm n=>d (k,m,()) n)
def Li(a b c:Value)(d:cm)(e:T2)(f:World)(g:T2->Wp):=NV->gb .lss 27 false e.2.1 a f λh i=>cC h (ew Tryz.prog b [] i λj k=>gv 92 j k λl m=>cy (S:=T1) (λn=>cI 139 c 0 136 m λo p=>Ca Tryz.prog 147 #[o] p λq r=>gb .eql 3 true q (gI 0) r λs t=>cC s (cI 139 c 0 136 t λu v=>Ca Tryz.prog 74 #[u] v λw x=>gb .neq 26 true w (gI 0) x λy z=>n (y,()) z) (n ((.bool false),()) t)) (Ll d l e g)) (d e.1 i)
def R0{a b c:Value}{d:World}{e:cm}(l:gq 139 a d λf g=>cI 139 f 0 136 g λh i=>Ca Tryz.prog 69 #[h,b] i λj k=>cO (S:=T2) (Li j c f e) ((.slice none 0 0),(.int .u64 0),()) k):Ca Tryz.prog 63 #[a,b,c] d e:=cj Tryz.func63 l
def Lb(a:cm)(b:Value)(c:T2)(d:T2->Wp)(e:T1)(f:World):=NV->cC e.1 (a (.slice none 0 0) f) (gx (dm 108 b) f λg h=>gx (dQ 45 1 [(0,g)]) h λi j=>gx (cx #[45,45] 45 [c.1,i]) j λk l=>gb .add 27 true c.2.1 (.int .u64 1) l λm n=>d (k,m,()) n)
def Lo(a b c:Value)(d:cm)(e:T2)(f:World)(g:T2->Wp):=NV->gb .lss 27 false e.2.1 a f λh i=>cC h (ew Tryz.prog b [] i λj k=>gx (ic 108) k λl m=>fV Tryz.prog (ej 108 l j) m λn=>cy (S:=T1) (λo=>cI 139 c 0 136 n λp q=>Ca Tryz.prog 147 #[p] q λr s=>gb .eql 3 true r (gI 0) s λt u=>cC t (cI 139 c 0 136 u λv w=>Ca Tryz.prog 74 #[v] w λx y=>gb .neq 26 true x (gI 0) y λz A=>o (z,()) A) (o ((.bool false),()) u)) (Lb d l e g)) (d e.1 i)
def RM{a b c:Value}{d:World}{e:cm}(l:gq 139 a d λf g=>cI 139 f 0 136 g λh i=>Ca Tryz.prog 69 #[h,b] i λj k=>cO (S:=T2) (Lo j c f e) ((.slice none 0 0),(.int .u64 0),()) k):Ca Tryz.prog 66 #[a,b,c] d e:=cj Tryz.func66 l
def K8(a:cm)(b:Value)(c:T2)(d:T2->Wp)(e:T1)(f:World):=NV->cC e.1 (a (.slice none 0 0) f) (gl 112 b f λg h=>gx (dQ 46 1 [(0,g)]) h λi j=>gx (cx #[46,46] 46 [c.1,i]) j λk l=>gb .add 27 true c.2.1 (.int .u64 1) l λm n=>d (k,m,()) n)
def Ln(a b c:Value)(d:cm)(e:T2)(f:World)(g:T2->Wp):=NV->gb .lss 27 false e.2.1 a f λh i=>cC h (ew Tryz.prog b [] i λj k=>gv 112 j k λl m=>cy (S:=T1) (λn=>cI 139 c 0 136 m λo p=>Ca Tryz.prog 147 #[o] p λq r=>gb .eql 3 true q (gI 0) r λs t=>cC s (cI 139 c 0 136 t λu v=>Ca Tryz.prog 74 #[u] v λw x=>gb .neq 26 true w (gI 0) x λy z=>n (y,()) z) (n ((.bool false),()) t)) (K8 d l e g)) (d e.1 i)
def Re{a b c:Value}{d:World}{e:cm}(l:gq 139 a d λf g=>cI 139 f 0 136 g λh i=>Ca Tryz.prog 69 #[h,b] i λj k=>cO (S:=T2) (Ln j c f e) ((.slice none 0 0),(.int .u64 0),()) k):Ca Tryz.prog 70 #[a,b,c] d e:=cj Tryz.func70 l
def KA(a:cm)(b:Value)(c:T2)(d:T2->Wp)(e:T1)(f:World):=NV->cC e.1 (a (.slice none 0 0) f) (gl 119 b f λg h=>gx (dQ 47 1 [(0,g)]) h λi j=>gx (cx #[47,47] 47 [c.1,i]) j λk l=>gb .add 27 true c.2.1 (.int .u64 1) l λm n=>d (k,m,()) n)
def Lq(a b c:Value)(d:cm)(e:T2)(f:World)(g:T2->Wp):=NV->gb .lss 27 false e.2.1 a f λh i=>cC h (ew Tryz.prog b [] i λj k=>gv 119 j k λl m=>cy (S:=T1) (λn=>cI 139 c 0 136 m λo p=>Ca Tryz.prog 147 #[o] p λq r=>gb .eql 3 true q (gI 0) r λs t=>cC s (cI 139 c 0 136 t λu v=>Ca Tryz.prog 74 #[u] v λw x=>gb .neq 26 true w (gI 0) x λy z=>n (y,()) z) (n ((.bool false),()) t)) (KA d l e g)) (d e.1 i)
def SQ{a b c:Value}{d:World}{e:cm}(l:gq 139 a d λf g=>cI 139 f 0 136 g λh i=>Ca Tryz.prog 69 #[h,b] i λj k=>cO (S:=T2) (Lq j c f e) ((.slice none 0 0),(.int .u64 0),()) k):Ca Tryz.prog 72 #[a,b,c] d e:=cj Tryz.func72 l
def Si{a:Value}{b:World}{c:cm}(F:ga 92 b λd e=>df 139 a e.drew λf=>dP 139 a 0 λg=>df 136 g e.drew λh=>Ca Tryz.prog 60 #[f] e.drew λi j=>gk 136 g h j/\(dP 92 d 0 λk=>Ca Tryz.prog 62 #[h] j λl m=>gs 35 k i m λn=>dP 92 d 1 λo=>gs 2 o l n λp=>en 139 a 0 136 p.drew λq=>dP 139 a 0 λr=>df 136 r p.drew λs=>Ca Tryz.prog 65 #[q] p.drew λt u=>gk 136 r s u/\(dP 92 d 2 λv=>Ca Tryz.prog 65 #[s] u λw x=>gs 4 v t x λy=>dP 92 d 3 λz=>gs 4 z w y λA=>gl 92 d A λB C=>gs 92 d B C λD=>df 92 d D λE=>c E D))):Ca Tryz.prog 64 #[a] b c:=cj Tryz.func64 F
def SC{a:Value}{b:World}{c:cm}(C:gx (ic 108) b λd e=>cI 139 a 0 136 e λf g=>Ca Tryz.prog 68 #[f] g λh i=>gf 108 d 0 i λj k=>fV Tryz.prog (ej 38 j h) k λl=>cI 139 a 0 136 l λm n=>Ca Tryz.prog 69 #[m,(.int .u64 255)] n λo p=>gr (convert 27 106 o) p λq r=>fZ 108 d 1 106 q r λs=>cI 139 a 0 136 s λt u=>Ca Tryz.prog 62 #[t] u λv w=>fZ 108 d 2 2 v w λx=>gx (dm 108 d) x λy z=>fV Tryz.prog (ej 108 d y) z λA=>iw Tryz.prog (dm 108 d) A λB=>c B A):Ca Tryz.prog 67 #[a] b c:=cj Tryz.func67 C
def Ri{a:Value}{b:World}{c:cm}(E:ga 112 b λd e=>df 139 a e.drew λf=>df 139 a e.drew λg=>Ca Tryz.prog 60 #[f] e.drew λh i=>gk 139 a g i/\(dP 112 d 0 λj=>Ca Tryz.prog 60 #[g] i λk l=>gs 35 j h l λm=>dP 112 d 1 λn=>gs 35 n k m λo=>en 139 a 0 136 o.drew λp=>dP 139 a 0 λq=>df 136 q o.drew λr=>Ca Tryz.prog 62 #[p] o.drew λs t=>gk 136 q r t/\(dP 112 d 2 λu=>Ca Tryz.prog 62 #[r] t λv w=>gs 2 u s w λx=>dP 112 d 3 λy=>gs 2 y v x λz=>gl 112 d z λA B=>gs 112 d A B λC=>df 112 d C λD=>c D C))):Ca Tryz.prog 71 #[a] b c:=cj Tryz.func71 E
def So{a:Value}{b:World}{c:cm}(h0:ga 49 b λd e=>Ca Tryz.prog 59 #[a] e λf g=>gr (Instr.build 139 #[(0,f)]) g λh i=>gv 139 h i λj k=>ga 49 k λl m=>df 139 j m.drew λn=>dP 139 j 0 λo=>df 136 o m.drew λp=>dP 139 j 0 λq=>df 136 q m.drew λr=>Ca Tryz.prog 60 #[n] m.drew λs t=>gk 136 q r t/\gk 136 o p t/\(dP 49 l 0 λu=>Ca Tryz.prog 61 #[p] t λv w=>gk 136 q r w/\(Ca Tryz.prog 62 #[r] w λx y=>gs 35 u s y λz=>dP 49 l 1 λA=>gs 27 A v z λB=>dP 49 l 2 λC=>gs 2 C x B λD=>gl 139 j D λE F=>Ca Tryz.prog 63 #[E,(.int .u64 64),(.func (.func 64) #[] #[j])] F λG H=>fZ 49 l 3 44 G H λI=>gl 139 j I λJ K=>Ca Tryz.prog 66 #[J,(.int .u64 16),(.func (.func 67) #[] #[j])] K λL M=>fZ 49 l 4 45 L M λN=>gl 139 j N λO P=>Ca Tryz.prog 70 #[O,(.int .u64 1024),(.func (.func 71) #[] #[j])] P λQ R=>fZ 49 l 5 46 Q R λS=>gl 139 j S λT U=>gl 139 j U λV W=>Ca Tryz.prog 72 #[T,(.int .u64 3200),(.func (.func 73) #[V] #[])] W λX Y=>fZ 49 l 6 47 X Y λZ=>gl 139 j Z λaa ab=>gl 139 j ab λac ad=>Ca Tryz.prog 72 #[aa,(.int .u64 800),(.func (.func 73) #[ac] #[])] ad λae af=>fZ 49 l 7 47 ae af λag=>cI 139 j 0 136 ag λah ai=>Ca Tryz.prog 74 #[ah] ai λaj ak=>gb .neq 26 true aj (gI 0) ak λal am=>cC al (gr (Instr.build 49 #[]) am λan ao=>gs 49 d an ao λap=>df 49 d ap λaq=>c (.tuple #[aq,(gI 5)]) ap) (gl 49 l am λar au=>Ca Tryz.prog 13 #[ar] au λav aw=>kU av aw λax ay az=>gb .neq 26 true ay (gI 0) az λaA aB=>cC aA (gr (Instr.build 49 #[]) aB λaC aD=>gs 49 d aC aD λaE=>df 49 d aE λaF=>c (.tuple #[aF,(gI 5)]) aE) (gl 49 l aB λaG aH=>gs 49 d aG aH λaI=>df 49 d aI λaJ=>c (.tuple #[aJ,(gI 0)]) aI))))):Ca Tryz.prog 18 #[a] b c:=cj Tryz.func18 h0
def Sm{a:Value}{b:World}{c:cm}(t:Ca Tryz.prog 18 #[a] b λd e=>kU d e λf g h=>gv 49 f h λi j=>gb .neq 26 true g (gI 0) j λk l=>cC k (c (.tuple #[(.pointer none),g]) l) (gl 49 i l λm n=>Ca Tryz.prog 13 #[m] n λo p=>kU o p λq r s=>c (.tuple #[q,r]) s)):Ca Tryz.prog 20 #[a] b c:=cj Tryz.func20 t
def Rh{a:Value}{b:World}{c:cm}(l:Ca Tryz.prog 43 #[a] b λd e=>gb .eql 23 true d (.pointer none) e λf g=>cC f (c (.tuple #[(.slice none 0 0),(gI 1)]) g) (Ca Tryz.prog 14 #[a] g λh i=>Ca Tryz.prog 82 #[h] i λj k=>c (.tuple #[j,(gI 0)]) k)):Ca Tryz.prog 21 #[a] b c:=cj Tryz.func21 l
def R4{a:Value}{b:World}{c:cm}(I:gq 49 a b λd e=>en 49 d 0 35 e.drew λf=>gw (convert 35 27 f) e.drew λg=>dP 49 d 1 λh=>df 27 h e.drew λi=>dP 49 d 2 λj=>df 2 j e.drew λk=>Ca Tryz.prog 100 #[(.slice none 0 0),g] e.drew λl m=>gk 2 j k m/\gk 27 h i m/\(Ca Tryz.prog 100 #[l,i] m λn o=>gk 2 j k o/\(Ca Tryz.prog 154 #[n,k] o λp q=>cI 49 d 3 44 q λr s=>Ca Tryz.prog 155 #[p,r,(.func (.func 156) #[] #[])] s λt u=>cI 49 d 4 45 u λv w=>Ca Tryz.prog 158 #[t,v,(.func (.func 159) #[] #[])] w λx y=>cI 49 d 5 46 y λz A=>Ca Tryz.prog 161 #[x,z,(.func (.func 162) #[] #[])] A λB C=>en 49 d 6 47 C.drew λD=>dP 49 d 7 λE=>df 47 E C.drew λF=>Ca Tryz.prog 163 #[B,D,(.func (.func 164) #[] #[])] C.drew λG H=>gk 47 E F H/\(Ca Tryz.prog 163 #[G,F,(.func (.func 164) #[] #[])] H c)))):Ca Tryz.prog 82 #[a] b c:=cj Tryz.func82 I
def HV(a b c:Value)(d:cm)(e:T2)(f:World)(g:T2->Wp):=NV->gb .lss 3 false e.2.1 a f λh i=>cC h (kv 44 b e.2.1 92 i λj k=>gv 92 j k λl m=>gl 92 l m λn o=>ew Tryz.prog c [e.1,n] o λp q=>gb .add 3 true e.2.1 (gI 1) q λr s=>g (p,r,()) s) (d e.1 i)
def PO{a b c:Value}{d:World}{e:cm}(n:gn 44 false b d λf g=>gr (convert 3 27 f) g λh i=>Ca Tryz.prog 100 #[a,h] i λj k=>gn 44 false b k λl m=>cO (S:=T2) (HV l b c e) (j,(gI 0),()) m):Ca Tryz.prog 155 #[a,b,c] d e:=cj Tryz.func155 n
def HQ(a b c:Value)(d:cm)(e:T2)(f:World)(g:T2->Wp):=NV->gb .lss 3 false e.2.1 a f λh i=>cC h (gi 45 b e.2.1 i λj k=>gx (dm 108 j) k λl m=>gx (ic 108) m λn o=>fV Tryz.prog (ej 108 n l) o λp=>gx (dm 108 n) p λq r=>ew Tryz.prog c [e.1,q] r λs t=>gb .add 3 true e.2.1 (gI 1) t λu v=>g (s,u,()) v) (d e.1 i)
def Pn{a b c:Value}{d:World}{e:cm}(n:gn 45 false b d λf g=>gr (convert 3 27 f) g λh i=>Ca Tryz.prog 100 #[a,h] i λj k=>gn 45 false b k λl m=>cO (S:=T2) (HQ l b c e) (j,(gI 0),()) m):Ca Tryz.prog 158 #[a,b,c] d e:=cj Tryz.func158 n
def GX(a b c:Value)(d:cm)(e:T2)(f:World)(g:T2->Wp):=NV->gb .lss 3 false e.2.1 a f λh i=>cC h (kv 46 b e.2.1 112 i λj k=>gv 112 j k λl m=>gl 112 l m λn o=>ew Tryz.prog c [e.1,n] o λp q=>gb .add 3 true e.2.1 (gI 1) q λr s=>g (p,r,()) s) (d e.1 i)
def Qz{a b c:Value}{d:World}{e:cm}(n:gn 46 false b d λf g=>gr (convert 3 27 f) g λh i=>Ca Tryz.prog 100 #[a,h] i λj k=>gn 46 false b k λl m=>cO (S:=T2) (GX l b c e) (j,(gI 0),()) m):Ca Tryz.prog 161 #[a,b,c] d e:=cj Tryz.func161 n
def EL(a b c:Value)(d:cm)(e:T2)(f:World)(g:T2->Wp):=NV->gb .lss 3 false e.2.1 a f λh i=>cC h (kv 47 b e.2.1 119 i λj k=>gv 119 j k λl m=>gl 119 l m λn o=>ew Tryz.prog c [e.1,n] o λp q=>gb .add 3 true e.2.1 (gI 1) q λr s=>g (p,r,()) s) (d e.1 i)
def NI{a b c:Value}{d:World}{e:cm}(n:gn 47 false b d λf g=>gr (convert 3 27 f) g λh i=>Ca Tryz.prog 100 #[a,h] i λj k=>gn 47 false b k λl m=>cO (S:=T2) (EL l b c e) (j,(gI 0),()) m):Ca Tryz.prog 163 #[a,b,c] d e:=cj Tryz.func163 n
end Go.Proofs
