/- Part of a proof. -/
import Derived.Laws.BitsAllLaws
import Derived.Laws.DeepNot64
import Derived.Test.YtgebhcgmckjbbaaGreatP5
set_option linter.all false
set_option maxRecDepth 100000
namespace Go.Proofs
open Go Go.Vc
def Sn{a:Value}{b:World}{c:cm}(t:gb .lss 27 true a (.int .u64 128) b λd e=>cC d (gr (convert 27 5 a) e λf g=>gx (dQ 54 1 [(0,f)]) g c) (gb .rem 27 true a (.int .u64 128) e λh i=>gr (convert 27 5 h) i λj k=>gb .add 5 true j (.int .u8 128) k λl m=>gx (dQ 54 1 [(0,l)]) m λn o=>gb .quo 27 true a (.int .u64 128) o λp q=>Ca Tryz.prog 91 #[p] q λr s=>gx (cx #[54,54] 54 [n,r]) s c)):Ca Tryz.prog 91 #[a] b c:=cj Tryz.func91 t
def RZ{a:Value}{b:World}{c:cm}(t:gb .geq 2 true a (gI 0) b λd e=>cC d (gr (convert 2 27 a) e λf g=>gb .mul 27 true (.int .u64 2) f g λh i=>Ca Tryz.prog 91 #[h] i c) (gb .add 2 true a (gI 1) e λj k=>gr (Op.unary .neg j) k λl m=>gr (convert 2 27 l) m λn o=>gb .mul 27 true (.int .u64 2) n o λp q=>gb .add 27 true p (.int .u64 1) q λr s=>Ca Tryz.prog 91 #[r] s c)):Ca Tryz.prog 92 #[a] b c:=cj Tryz.func92 t
def Pw{a:Value}{b:World}{c:cm}(h:cC a (gx (dQ 54 1 [(0,(.int .u8 1))]) b c) (gx (dQ 54 1 [(0,(.int .u8 0))]) b c)):Ca Tryz.prog 93 #[a] b c:=cj Tryz.func93 h
def GG(a:Value)(b:T1)(c:cm)(d:T2)(e:World)(f:T2->Wp):=NV->gb .geq 3 true d.2.1 (gI 0) e λg h=>cC g (gb .mul 27 true d.1 (.int .u64 128) h λi j=>cF a λk=>cI 154 k 0 54 j λl m=>kv 54 l d.2.1 5 m λn o=>gr (convert 5 27 n) o λp q=>gb .rem 27 true p (.int .u64 128) q λr s=>gb .add 27 false i r s λt u=>gb .sub 3 true d.2.1 (gI 1) u λv w=>f (t,v,()) w) (gb .add 3 true b.1 (gI 1) h λx y=>c (.tuple #[d.1,x,(gI 0)]) y)
def Ez(a:cm)(b:Value)(c d:T1)(e:World):=NV->cC d.1 (a (.tuple #[(.int .u64 0),(gI 0),(gI 5)]) e) (cO (S:=T2) (GG b c a) ((.int .u64 0),c.1,()) e)
def Fh(a:T1)(b:T1->Wp)(c:Value)(d:cm)(e:T1)(f:World):=NV->cC e.1 (gb .add 3 true a.1 (gI 1) f λg h=>b (g,()) h) (cF c λi=>cI 154 i 0 54 f λj k=>gn 54 false j k λl m=>gb .geq 3 false a.1 l m λn o=>cC n (gb .geq 3 true a.1 (gI 10) o λp q=>cC p (d (.tuple #[(.int .u64 0),(gI 0),(gI 5)]) q) (d (.tuple #[(.int .u64 0),(gI 0),(gI 4)]) q)) (cy (S:=T1) (λr=>gb .gtr 3 true a.1 (gI 9) o λs t=>cC s (r ((.bool true),()) t) (gb .eql 3 true a.1 (gI 9) t λu v=>cC u (cF c λw=>cI 154 w 0 54 v λx y=>kv 54 x (gI 9) 5 y λz A=>gb .gtr 5 true z (.int .u8 1) A λB C=>cC B (r ((.bool true),()) C) (gb .gtr 3 true a.1 (gI 0) C λD E=>cC D (cF c λF=>cI 154 F 0 54 E λG H=>kv 54 G a.1 5 H λI J=>gb .eql 5 true I (.int .u8 0) J λK L=>r (K,()) L) (r ((.bool false),()) E))) (gb .gtr 3 true a.1 (gI 0) v λM N=>cC M (cF c λO=>cI 154 O 0 54 N λP Q=>kv 54 P a.1 5 Q λR S=>gb .eql 5 true R (.int .u8 0) S λT U=>r (T,()) U) (r ((.bool false),()) N)))) (Ez d c a)))
def FK(a:Value)(b:cm)(c:T1)(d:World)(e:T1->Wp):=NV->cy (S:=T1) (λf=>cF a λg=>cI 154 g 0 54 d λh i=>gn 54 false h i λj k=>gb .lss 3 false c.1 j k λl m=>cC l (cF a λn=>cI 154 n 0 54 m λo p=>kv 54 o c.1 5 p λq r=>gb .geq 5 true q (.int .u8 128) r λs t=>f (s,()) t) (f ((.bool false),()) m)) (Fh c e a b)
def Ph{a:Value}{b:World}{c:cm}(h:cO (S:=T1) (FK a c) ((gI 0),()) b):Ca Tryz.prog 151 #[a] b c:=cj Tryz.func151 h
def BO(a:Value)(b:cm)(c d:Value)(e:T1)(f:World):=NV->gb .neq 26 true e.1 (gI 0) f λg h=>cC g (cF a λi=>fZ 154 i 1 26 e.1 h λj=>b (.int .u64 0) j) (cF a λk=>cI 154 k 0 54 h λl m=>gr (Instr.sliceAt 54 l (some c) none none) m λn o=>cF a λp=>fZ 154 p 0 54 n o λq=>b d q)
def Sh{a b:Value}{c:World}{d:cm}(w:cF a λe=>cI 154 e 1 26 c λf g=>gb .neq 26 true f (gI 0) g λh i=>cC h (d (.int .u64 0) i) (Ca Tryz.prog 151 #[a] i λj k=>kU j k λl m n=>ge j 2 n λo p=>cy (S:=T1) (λq=>cy (S:=T1) (λr=>gb .eql 26 true o (gI 0) p λs t=>cC s (gb .gtr 27 false l b t λu v=>r (u,()) v) (r ((.bool false),()) t)) (J69_0 q o)) (BO a d m l))):Ca Tryz.prog 75 #[a,b] c d:=cj Tryz.func75 w
def QX{a:Value}{b:World}{c:cm}(h:Ca Tryz.prog 75 #[a,(.int .u64 18446744073709551615)] b c):Ca Tryz.prog 76 #[a] b c:=cj Tryz.func76 h
def Rv{a:Value}{b:World}{c:cm}(r:Ca Tryz.prog 76 #[a] b λd e=>gb .rem 27 true d (.int .u64 2) e λf g=>gb .eql 27 true f (.int .u64 0) g λh i=>cC h (gb .quo 27 true d (.int .u64 2) i λj k=>gr (convert 27 2 j) k c) (gb .quo 27 true d (.int .u64 2) i λl m=>gr (convert 27 2 l) m λn o=>gr (Op.unary .neg n) o λp q=>gb .sub 2 true p (gI 1) q c)):Ca Tryz.prog 77 #[a] b c:=cj Tryz.func77 r
def Sl{a:Value}{b:World}{c:cm}(O:cF a λd=>cI 154 d 1 26 b λe f=>gb .neq 26 true e (gI 0) f λg h=>cC g (c (.bool false) h) (cF a λi=>cI 154 i 0 54 h λj k=>gn 54 false j k λl m=>gb .eql 3 true l (gI 0) m λn o=>cC n (cF a λp=>fZ 154 p 1 26 (gI 4) o λq=>c (.bool false) q) (cF a λr=>cI 154 r 0 54 o λs t=>kv 54 s (gI 0) 5 t λu v=>gb .gtr 5 true u (.int .u8 1) v λw x=>cC w (cF a λy=>fZ 154 y 1 26 (gI 5) x λz=>c (.bool false) z) (cF a λA=>cI 154 A 0 54 x λB C=>kv 54 B (gI 0) 5 C λD E=>gb .eql 5 true D (.int .u8 1) E λF G=>cF a λH=>cI 154 H 0 54 G λI J=>gr (Instr.sliceAt 54 I (some (gI 1)) none none) J λK L=>cF a λM=>fZ 154 M 0 54 K L λN=>c F N)))):Ca Tryz.prog 78 #[a] b c:=cj Tryz.func78 O
def No{a b:Value}{c:World}{d:cm}(l:cF a λe=>cI 154 e 1 26 c λf g=>gb .eql 26 true f (gI 0) g λh i=>cC h (cF a λj=>fZ 154 j 1 26 b i λk=>d (.tuple #[]) k) (d (.tuple #[]) i)):Ca Tryz.prog 153 #[a,b] c d:=cj Tryz.func153 l
def KB(a:cm)(b:Value)(c:T1)(d:World):=NV->cC c.1 (a (gI 5) d) (cF b λe=>cI 154 e 1 26 d a)
def Sa{a:Value}{b:World}{c:cm}(q:cy (S:=T1) (λd=>cF a λe=>cI 154 e 1 26 b λf g=>gb .eql 26 true f (gI 0) g λh i=>cC h (cF a λj=>cI 154 j 0 54 i λk l=>gn 54 false k l λm n=>gb .gtr 3 true m (gI 0) n λo p=>d (o,()) p) (d ((.bool false),()) i)) (KB c a)):Ca Tryz.prog 81 #[a] b c:=cj Tryz.func81 q
def NX{a b c:Value}{d:World}{e:cm}(h:gb .geq 2 false a b d λf g=>cC f (gb .leq 2 false a c g e) (e (.bool false) g)):Ca Tryz.prog 238 #[a,b,c] d e:=cj Tryz.func238 h
def O4{a b:Value}{c:World}{d:cm}(m:gb .geq 2 true b (gI 1) c λe f=>cC e (gb .leq 2 true b (gI 10000000) f λg h=>cC g (gb .quo 2 false b a h λi j=>gb .mul 2 false i a j λk l=>gb .eql 2 false k b l d) (d (.bool false) h)) (d (.bool false) f)):Ca Tryz.prog 239 #[a,b] c d:=cj Tryz.func239 m
def HG(a:Value)(b:T4)(c:T3->Wp)(d:T1)(e:World):=NV->gf 38 a 6 e λf g=>kv 36 f b.2.2.2.1 2 g λh i=>gb .lss 2 true h (gI 0) i λj k=>cC j (gb .add 3 true b.2.2.1 (gI 1) k λl m=>c (l,d.1,b.1,()) m) (c (b.2.2.1,d.1,b.1,()) k)
def Eb(a:T4)(b:T4->Wp)(c:T3)(d:World):=NV->gb .add 3 true a.2.2.2.1 (gI 1) d λe f=>b (c.2.2.1,c.2.1,c.1,e,()) f
def Gu(a:Value)(b:cm)(c:T4)(d:World)(e:T4->Wp):=NV->gb .lss 3 true c.2.2.2.1 (gI 16) d λf g=>cC f (cy (S:=T3) (λh=>gf 38 a 6 g λi j=>kv 36 i c.2.2.2.1 2 j λk l=>Ca Tryz.prog 238 #[k,(gI (-10000000)),(gI 10000000)] l λm n=>gt m n λo p=>cC o (b (.bool false) p) (cy (S:=T1) (λq=>gf 38 a 6 p λr s=>kv 36 r c.2.2.2.1 2 s λt u=>gb .gtr 2 true t (gI 0) u λv w=>cC v (gb .add 3 true c.2.1 (gI 1) w λx y=>q (x,()) y) (q (c.2.1,()) w)) (HG a c h))) (Eb c e)) (gb .gtr 3 true c.2.1 (gI 0) g λz A=>cC z (gb .gtr 3 true c.2.2.1 (gI 0) A λB C=>cC B (cI 38 a 2 2 C λD E=>cI 38 a 9 2 E λF G=>Ca Tryz.prog 239 #[D,F] G b) (b (.bool false) C)) (b (.bool false) A))
def HF(a:cm)(b:Value)(c:T1)(d:World):=NV->cC c.1 (a (.bool false) d) (cO (S:=T4) (Gu b a) ((.bool false),(gI 0),(gI 0),(gI 0),()) d)
def OK{a:Value}{b:World}{c:cm}(W:gq 38 a b λd e=>cy (S:=T1) (λf=>cI 38 d 0 35 e λg h=>gb .eql 35 true g (.int .u32 0) h λi j=>cC i (f ((.bool true),()) j) (cI 38 d 1 5 j λk l=>gb .lss 5 true k (.int .u8 1) l λm n=>cC m (f ((.bool true),()) n) (cI 38 d 1 5 n λo p=>gb .gtr 5 true o (.int .u8 8) p λq r=>cC q (f ((.bool true),()) r) (cI 38 d 2 2 r λs t=>Ca Tryz.prog 238 #[s,(gI 1),(gI 10000000)] t λu v=>gt u v λw x=>cC w (f ((.bool true),()) x) (cI 38 d 3 2 x λy z=>Ca Tryz.prog 238 #[y,(gI 1),(gI 1000000)] z λA B=>gt A B λC D=>cC C (f ((.bool true),()) D) (cI 38 d 4 2 D λE F=>Ca Tryz.prog 238 #[E,(gI 0),(gI 10000000)] F λG H=>gt G H λI J=>cC I (f ((.bool true),()) J) (cI 38 d 5 2 J λK L=>Ca Tryz.prog 238 #[K,(gI 1),(gI 10000000)] L λM N=>gt M N λO P=>cC O (f ((.bool true),()) P) (cI 38 d 7 2 P λQ R=>Ca Tryz.prog 238 #[Q,(gI 0),(gI 10000000)] R λS T=>gt S T λU V=>f (U,()) V)))))))) (HF c d)):Ca Tryz.prog 152 #[a] b c:=cj Tryz.func152 W
def Pk{a b:Value}{c:World}{d:cm}(m:gq 38 a c λe f=>gx (dm 38 e) f λg h=>Ca Tryz.prog 152 #[g] h λi j=>cC i (cI 38 e 2 2 j λk l=>Ca Tryz.prog 239 #[k,b] l d) (d (.bool false) j)):Ca Tryz.prog 165 #[a,b] c d:=cj Tryz.func165 m
def Qj{a b:Value}{c:World}{d:cm}(q:gq 38 a c λe f=>iw Tryz.prog (dm 38 e) f.drew λg=>Ca Tryz.prog 152 #[g] f.drew λh i=>cC h (Ca Tryz.prog 238 #[b,(gI 1),(gI 1000000)] i λj k=>cC j (en 38 e 3 2 k λl=>gX .quo 2 false b l λm=>en 38 e 3 2 k λn=>gX .mul 2 false m n λo=>gX .eql 2 false o b λp=>d p k) (d (.bool false) k)) (d (.bool false) i)):Ca Tryz.prog 172 #[a,b] c d:=cj Tryz.func172 q
def Lx(a:Value)(b:cm)(c:T2)(d:World)(e:T2->Wp):=NV->gb .lss 3 true c.2.1 (gI 16) d λf g=>cC f (gf 38 a 6 g λh i=>kv 36 h c.2.1 2 i λj k=>Ca Tryz.prog 92 #[j] k λl m=>gx (cx #[54,54] 54 [c.1,l]) m λn o=>gb .add 3 true c.2.1 (gI 1) o λp q=>e (n,p,()) q) (cI 38 a 7 2 g λr s=>gr (convert 2 27 r) s λt u=>Ca Tryz.prog 91 #[t] u λv w=>gx (cx #[54,54] 54 [c.1,v]) w λx y=>cI 38 a 8 35 y λz A=>gr (convert 35 27 z) A λB C=>Ca Tryz.prog 91 #[B] C λD E=>gx (cx #[54,54] 54 [x,D]) E λF G=>cI 38 a 9 2 G λH I=>gr (convert 2 27 H) I λJ K=>Ca Tryz.prog 91 #[J] K λL M=>gx (cx #[54,54] 54 [F,L]) M b)
def RL{a:Value}{b:World}{c:cm}(h0:gq 38 a b λd e=>cI 38 d 0 35 e λf g=>gr (convert 35 27 f) g λh i=>Ca Tryz.prog 91 #[h] i λj k=>gx (cx #[54,54] 54 [(.slice none 0 0),j]) k λl m=>cI 38 d 1 5 m λn o=>gr (convert 5 27 n) o λp q=>Ca Tryz.prog 91 #[p] q λr s=>gx (cx #[54,54] 54 [l,r]) s λt u=>cI 38 d 2 2 u λv w=>gr (convert 2 27 v) w λx y=>Ca Tryz.prog 91 #[x] y λz A=>gx (cx #[54,54] 54 [t,z]) A λB C=>cI 38 d 3 2 C λD E=>gr (convert 2 27 D) E λF G=>Ca Tryz.prog 91 #[F] G λH I=>gx (cx #[54,54] 54 [B,H]) I λJ K=>cI 38 d 4 2 K λL M=>gr (convert 2 27 L) M λN O=>Ca Tryz.prog 91 #[N] O λP Q=>gx (cx #[54,54] 54 [J,P]) Q λR S=>cI 38 d 5 2 S λT U=>gr (convert 2 27 T) U λV W=>Ca Tryz.prog 91 #[V] W λX Y=>gx (cx #[54,54] 54 [R,X]) Y λZ aa=>cO (S:=T2) (Lx d c) (Z,(gI 0),()) aa):Ca Tryz.prog 94 #[a] b c:=cj Tryz.func94 h0
def Kk(a b:Value)(c:cm)(d:Value)(e:T1)(f:World):=NV->cC e.1 (Ca Tryz.prog 153 #[a,(gI 5)] f λg h=>gx (sf 38 #[]) h λi j=>fV Tryz.prog (ej 38 b i) j λk=>iw Tryz.prog (dm 38 b) k λl=>c l k) (gx (dm 38 d) f λm n=>fV Tryz.prog (ej 38 b m) n λo=>iw Tryz.prog (dm 38 b) o λp=>c p o)
def Lc(a b c:Value)(d:cm)(e:T1)(f:World)(g:T1->Wp):=NV->gb .lss 3 true e.1 (gI 16) f λh i=>cC h (Ca Tryz.prog 77 #[a] i λj k=>gf 38 b 6 k λl m=>gi 36 l e.1 m λn o=>gs 2 n j o λp=>gb .add 3 true e.1 (gI 1) p λq r=>g (q,()) r) (Ca Tryz.prog 75 #[a,(.int .u64 9223372036854775807)] i λs t=>gr (convert 27 2 s) t λu v=>fZ 38 b 7 2 u v λw=>Ca Tryz.prog 75 #[a,(.int .u64 4294967295)] w λx y=>gr (convert 27 35 x) y λz A=>fZ 38 b 8 35 z A λB=>Ca Tryz.prog 75 #[a,(.int .u64 9223372036854775807)] B λC D=>gr (convert 27 2 C) D λE F=>fZ 38 b 9 2 E F λG=>cy (S:=T1) (λH=>cF a λI=>cI 154 I 1 26 G λJ K=>gb .neq 26 true J (gI 0) K λL M=>cC L (H ((.bool true),()) M) (gx (dm 38 b) M λN O=>Ca Tryz.prog 152 #[N] O λP Q=>gt P Q λR S=>H (R,()) S)) (Kk a c d b))
def SS{a:Value}{b:World}{c:cm}(L:gx (ic 38) b λd e=>gx (ic 38) e λf g=>Ca Tryz.prog 75 #[a,(.int .u64 4294967295)] g λh i=>gr (convert 27 35 h) i λj k=>fZ 38 f 0 35 j k λl=>Ca Tryz.prog 75 #[a,(.int .u64 255)] l λm n=>gr (convert 27 5 m) n λo p=>fZ 38 f 1 5 o p λq=>Ca Tryz.prog 75 #[a,(.int .u64 9223372036854775807)] q λr s=>gr (convert 27 2 r) s λt u=>fZ 38 f 2 2 t u λv=>Ca Tryz.prog 75 #[a,(.int .u64 9223372036854775807)] v λw x=>gr (convert 27 2 w) x λy z=>fZ 38 f 3 2 y z λA=>Ca Tryz.prog 75 #[a,(.int .u64 9223372036854775807)] A λB C=>gr (convert 27 2 B) C λD E=>fZ 38 f 4 2 D E λF=>Ca Tryz.prog 75 #[a,(.int .u64 9223372036854775807)] F λG H=>gr (convert 27 2 G) H λI J=>fZ 38 f 5 2 I J λK=>cO (S:=T1) (Lc a f d c) ((gI 0),()) K):Ca Tryz.prog 79 #[a] b c:=cj Tryz.func79 L
end Go.Proofs
namespace Go.Proofs
open Go Go.Vc
attribute [local congr] cq
def jB{n lo hi:Int}{w:World}{K:cm}(a:K (.bool (cD n lo hi)) w):Ca Tryz.prog 238 #[.int .i64 n,.int .i64 lo,.int .i64 hi] w K:=by
 apply NX;unfold cD at a;by_cases h:lo<=n
 ·simp[go_sem,h]at a|-;exact a
 ·simp[go_sem,h]at a|-;exact a
def tU{n t:Int}(e:0<t)(b:0<=n):0<=n.tdiv t/\n.tdiv t*t<=n/\n.tdiv t<=n/\(n.tdiv t*t=n↔n.tmod t=0):=by
 have h1:=Int.mul_tdiv_add_tmod n t;have c:n.tmod t=n%t:=Int.tmod_eq_emod_of_nonneg b;have f:=Int.emod_nonneg n (show t≠0 by omega);have a:0<=n.tdiv t:=Int.tdiv_nonneg b (by omega);rw[Int.mul_comm t]at h1;have d:n.tdiv t*1<=n.tdiv t*t:=Int.mul_le_mul_of_nonneg_left (by omega) a;exact⟨a,by omega,by omega,by constructor<;>intro h<;>omega⟩
def wn{tick n:Int}{w:World}{K:cm}(k:0<tick)(b:K (.bool (mf tick n)) w):Ca Tryz.prog 239 #[.int .i64 tick,.int .i64 n] w K:=by
 apply O4;unfold mf cD MP at b;have g:¬tick=0:=by omega
 by_cases h1:1<=n
 ·refine ck (v:=.bool true) (by simp[go_sem,h1]<;>first|exact⟨rfl,rfl⟩|exact rfl) ?_;rw[ci,if_pos rfl];by_cases e:n<=10000000
  ·refine ck (v:=.bool true) (by simp[go_sem,e]<;>first|exact⟨rfl,rfl⟩|exact rfl) ?_;rw[ci,if_pos rfl];obtain⟨i,j,o,d⟩:=tU k (show 0<=n by omega);have c:decide (1<=n/\n<=10000000)=true:=by simpa using⟨h1,e⟩
   rw[c,Bool.true_and]at b;generalize l:n.tdiv tick=q at i j o d;refine ck (v:=.int .i64 q) (w' :=w) (by simp[go_sem,g,l];try rw[cS (by omega) (by omega)]) ?_;have f:0<=q*tick:=Int.mul_nonneg i (by omega);generalize p:q*tick=m at j d f;refine ck (v:=.int .i64 m) (w' :=w) (by simp[go_sem,p];rw[cS (by omega) (by omega)]) ?_
   refine ck (v:=.bool (decide (n.tmod tick=0))) (w' :=w) (by
    by_cases a:m=n
    ·simp[go_sem,a,d.1 a]
    ·have:¬n.tmod tick=0:=λh=>a (d.2 h);simp[go_sem,a,this]) ?_
   exact b
  ·refine ck (v:=.bool false) (by simp[go_sem,e]<;>first|exact⟨rfl,rfl⟩|exact rfl) ?_;rw[ci,if_neg Bool.false_ne_true];have c:decide (1<=n/\n<=10000000)=false:=by simp;omega
   rw[c,Bool.false_and]at b;exact b
 ·refine ck (v:=.bool false) (by simp[go_sem,h1]<;>first|exact⟨rfl,rfl⟩|exact rfl) ?_;rw[ci,if_neg Bool.false_ne_true];have c:decide (1<=n/\n<=10000000)=false:=by simp;omega
  rw[c,Bool.false_and]at b;exact b
def Sp.pre(s:Sp):Bool:=decide (s.num≠0)&& (cD s.route 1 8&& (cD s.tick 1 MP&& (cD s.lot 1 1000000&& (cD s.band 0 MP&& (cD s.limit 1 MP&& cD s.credit 0 MP)))))
def Sp.end_(s:Sp):Bool:=iA s.shifts.toList&& (s.shifts.toList.any (λx=>decide (0<x))&& (s.shifts.toList.any (λx=>decide (x<0))&& mf s.tick s.first))
def tm(s:Sp):s.may=(s.pre&& s.end_):=by
 unfold Sp.may Sp.pre Sp.end_;cases iA s.shifts.toList<;>cases s.shifts.toList.any (λx=>decide (0<x))<;>cases s.shifts.toList.any (λx=>decide (x<0))<;>simp[Bool.and_assoc]
def KE{l:List Int}{p:Int->Bool}:(0<((l.countP p:Nat):Int))↔l.any p=true:=by
 rw[List.any_eq_true];constructor
 ·intro h;have:0<l.countP p:=by omega
  exact List.countP_pos_iff.1 this
 ·intro h;have:=List.countP_pos_iff.2 h;omega
def yp{l:List Int}{p:Int->Bool}{i:Nat}(h:i<l.length):(l.take (i+1)).countP p=(l.take i).countP p+if p l[i]! =true then 1 else 0:=by
 rw[List.take_add_one,List.getElem?_eq_getElem h,List.countP_append];have:l[i]! =l[i]:=by simp[h]
 rw[this];simp[List.countP_cons]
set_option maxRecDepth 10000 in
def qR{s:Sp}{w:World}{K:cm}(hf:s.Fit)(Y:∀f,cl (λ_=>False) w f->K (.bool s.may) f):Ca Tryz.prog 152 #[.agg (dl s).toArray] w K:=by
 apply OK;obtain⟨p,F⟩:∃p,p=w.heap.size:=⟨_,rfl⟩
 have H:cl (λ_=>False) w (w.alloc (.cells (dl s).toArray 38)):=(cl.refl _ w).alloc _;refine ck (v:=.pointer (some ⟨p,0,none⟩)) (w' :=w.alloc (.cells (dl s).toArray 38)) (by rw[F];rfl) ?_;have e:hp (w.alloc (.cells (dl s).toArray 38)) p=some (.cells (dl s).toArray 38 (0,0)):=by rw[F];simp[go_sem]
 generalize w.alloc (.cells (dl s).toArray 38)=q at H e|-;obtain⟨f1,f2,f3,f4,f5,f6,f7,f8,f9,f10⟩:=hf;have a:∀i:Nat,(dl s)[i]? =(dl s++[])[i]? :=λi=>by rw[List.append_nil]
 have g0:(dl s).toArray[0]? =some (.int .u32 s.num):=by rw[List.getElem?_toArray,a];exact Nu s []
 have J:(dl s).toArray[1]? =some (.int .u8 s.route):=by rw[List.getElem?_toArray,a];exact QC s []
 have I:(dl s).toArray[2]? =some (.int .i64 s.tick):=by rw[List.getElem?_toArray,a];exact Mh s []
 have g3:(dl s).toArray[3]? =some (.int .i64 s.lot):=by rw[List.getElem?_toArray,a];exact O2 s []
 have g4:(dl s).toArray[4]? =some (.int .i64 s.band):=by rw[List.getElem?_toArray,a];exact Ox s []
 have g5:(dl s).toArray[5]? =some (.int .i64 s.limit):=by rw[List.getElem?_toArray,a];exact NU s []
 have G:(dl s).toArray[22]? =some (.int .i64 s.credit):=by rw[List.getElem?_toArray,a];exact Ho s []
 have C:(dl s).toArray[24]? =some (.int .i64 s.first):=by rw[List.getElem?_toArray,a];exact HZ s []
 have hl:s.shifts.toList.length=16:=by simp
 have A:=tm s;obtain⟨P,V⟩:∃P,P=s.pre:=⟨_,rfl⟩
 rw[<-V]at A;refine cy.at (λst W=>st=(.bool (!P),())/\W=q) ?_ ?_
 ·have c:∀(b:Bool),b=(!s.pre)->((Value.bool b,()):Value×Unit)=(.bool (!P),())/\q=q:=λb h=>by rw[h,V];exact⟨rfl,rfl⟩
  unfold Sp.pre MP at c;refine ck (by simp[-Int.natCast_add,go_sem,e,g0]<;>first|exact⟨rfl,rfl⟩|exact rfl) ?_;refine ck (by simp[-Int.natCast_add,go_sem,e,g0]<;>first|exact⟨rfl,rfl⟩|exact rfl) ?_;by_cases L:s.num=0
  ·refine ck (v:=.bool true) (by simp[go_sem,L]<;>first|exact⟨rfl,rfl⟩|exact rfl) ?_;rw[ci,if_pos rfl];exact c _ (by simp[L])
  refine ck (v:=.bool false) (by simp[go_sem,L]<;>first|exact⟨rfl,rfl⟩|exact rfl) ?_;rw[ci,if_neg Bool.false_ne_true];have Q:decide (s.num≠0)=true:=by simpa using L
  rw[Q]at c;refine ck (by simp[-Int.natCast_add,go_sem,e,J]<;>first|exact⟨rfl,rfl⟩|exact rfl) ?_;refine ck (by simp[-Int.natCast_add,go_sem,e,J]<;>first|exact⟨rfl,rfl⟩|exact rfl) ?_;by_cases hr1:s.route<1
  ·refine ck (v:=.bool true) (w' :=q) (by simp[go_sem];omega) ?_;rw[ci,if_pos rfl];exact c true (by rw[show cD s.route 1 8=false from decide_eq_false (by omega)];rfl)
  refine ck (v:=.bool false) (w' :=q) (by simp[go_sem];omega) ?_;rw[ci,if_neg Bool.false_ne_true];refine ck (by simp[-Int.natCast_add,go_sem,e,J]<;>first|exact⟨rfl,rfl⟩|exact rfl) ?_;refine ck (by simp[-Int.natCast_add,go_sem,e,J]<;>first|exact⟨rfl,rfl⟩|exact rfl) ?_;by_cases hr2:8<s.route
  ·refine ck (v:=.bool true) (w' :=q) (by simp[go_sem];omega) ?_;rw[ci,if_pos rfl];exact c true (by rw[show cD s.route 1 8=false from decide_eq_false (by omega)];rfl)
  refine ck (v:=.bool false) (w' :=q) (by simp[go_sem];omega) ?_;rw[ci,if_neg Bool.false_ne_true];have hr:cD s.route 1 8=true:=decide_eq_true (by omega);rw[hr]at c;refine ck (by simp[-Int.natCast_add,go_sem,e,I]<;>first|exact⟨rfl,rfl⟩|exact rfl) ?_;refine ck (by simp[-Int.natCast_add,go_sem,e,I]<;>first|exact⟨rfl,rfl⟩|exact rfl) ?_;refine jB ?_;refine ck (v:=.bool (!cD s.tick 1 10000000)) (w' :=q) (by simp[go_sem]) ?_;cases h2:cD s.tick 1 10000000 with
  |false=>rw[ci,if_pos (show(!false)=true from rfl)];exact c _ (by rw[h2];rfl)
  |true=>
  rw[h2]at c;rw[ci,if_neg (by simp)];refine ck (by simp[-Int.natCast_add,go_sem,e,g3]<;>first|exact⟨rfl,rfl⟩|exact rfl) ?_;refine ck (by simp[-Int.natCast_add,go_sem,e,g3]<;>first|exact⟨rfl,rfl⟩|exact rfl) ?_;refine jB ?_;refine ck (v:=.bool (!cD s.lot 1 1000000)) (w' :=q) (by simp[go_sem]) ?_;cases h3:cD s.lot 1 1000000 with
  |false=>rw[ci,if_pos (show(!false)=true from rfl)];exact c _ (by rw[h3];rfl)
  |true=>
  rw[h3]at c;rw[ci,if_neg (by simp)];refine ck (by simp[-Int.natCast_add,go_sem,e,g4]<;>first|exact⟨rfl,rfl⟩|exact rfl) ?_;refine ck (by simp[-Int.natCast_add,go_sem,e,g4]<;>first|exact⟨rfl,rfl⟩|exact rfl) ?_;refine jB ?_;refine ck (v:=.bool (!cD s.band 0 10000000)) (w' :=q) (by simp[go_sem]) ?_;cases h4:cD s.band 0 10000000 with
  |false=>rw[ci,if_pos (show(!false)=true from rfl)];exact c _ (by rw[h4];rfl)
  |true=>
  rw[h4]at c;rw[ci,if_neg (by simp)];refine ck (by simp[-Int.natCast_add,go_sem,e,g5]<;>first|exact⟨rfl,rfl⟩|exact rfl) ?_;refine ck (by simp[-Int.natCast_add,go_sem,e,g5]<;>first|exact⟨rfl,rfl⟩|exact rfl) ?_;refine jB ?_;refine ck (v:=.bool (!cD s.limit 1 10000000)) (w' :=q) (by simp[go_sem]) ?_;cases h5:cD s.limit 1 10000000 with
  |false=>rw[ci,if_pos (show(!false)=true from rfl)];exact c _ (by rw[h5];rfl)
  |true=>
  rw[h5]at c;rw[ci,if_neg (by simp)];refine ck (by simp[-Int.natCast_add,go_sem,e,G]<;>first|exact⟨rfl,rfl⟩|exact rfl) ?_;refine ck (by simp[-Int.natCast_add,go_sem,e,G]<;>first|exact⟨rfl,rfl⟩|exact rfl) ?_;refine jB ?_;refine ck (v:=.bool (!cD s.credit 0 10000000)) (w' :=q) (by simp[go_sem]) ?_;exact c _ rfl
 rintro⟨_,_⟩ W ⟨⟨⟩,rfl⟩;unfold HF;intro _;cases g:P with
 |false=>
  rw[g]at A;rw[ci,if_pos (show(!false)=true from rfl)];rw[show false=s.may from A.symm];exact Y _ H
 |true=>
 rw[g,Bool.true_and]at A;rw[ci,if_neg (by simp)]
 refine dp (λst o=>∃(i:Nat) (x:Value),i<=16/\st=(x,.int .i64 (((s.shifts.toList.take i).countP λx=>decide (0<x):Nat):Int),.int .i64 (((s.shifts.toList.take i).countP λx=>decide (x<0):Nat):Int),.int .i64 i,())/\o=W/\iA (s.shifts.toList.take i)=true)
  (λst _=>match st.2.2.2.1 with| .int _ i=>16 - i.toNat|_=>0) ⟨0,.bool false,by omega,rfl,rfl,rfl⟩ ?_
 rintro⟨x,_⟩ o ⟨i,_,hi,⟨⟩,rfl,r⟩ KN O;unfold Gu;intro _;by_cases z:i<16
 ·have E:(i:Int)<16:=by omega
  have k:i<s.shifts.toList.length:=by omega
  have hx:fW s.shifts.toList[i]! :=by
   rw[getElem!_pos s.shifts.toList i k];exact f7 _ (List.getElem_mem k)
  have gS:(dl s).toArray[6+i]? =some (.int .i64 s.shifts.toList[i]!):=by
   rw[List.getElem?_toArray];have h1:=wI s.shifts i z;rw[List.getElem?_toArray,<-oG,List.getElem?_take,if_pos z,List.getElem?_drop]at h1;exact h1
  have c1:(s.shifts.toList.take i).countP (λx=>decide (0<x))<=16:=Nat.le_trans List.countP_le_length (by simp;omega);have c2:(s.shifts.toList.take i).countP (λx=>decide (x<0))<=16:=Nat.le_trans List.countP_le_length (by simp;omega)
  have t:∀(R:cm),R (.int .i64 s.shifts.toList[i]!) o->rv Tryz.prog (Instr.fieldAt 38 (.pointer (some ⟨p,0,none⟩)) 6) o λT Z=>rv Tryz.prog (Instr.indexAt 36 T (.int .i64 i)) Z λv73 N=>rv Tryz.prog (Instr.loadAt 2 v73) N λS X=>R S X:=by
   intro R hR;refine ck (v:=.pointer (some ⟨p,6,none⟩)) (w' :=o) (by simp[go_sem]) ?_;have D:¬(16:Int)<=(i:Int):=by omega
   refine ck (v:=.pointer (some ⟨p,6+i,none⟩)) (w' :=o) (by simp[go_sem,z,D,cE]<;>omega) ?_;refine ck (v:=.int .i64 s.shifts.toList[i]!) (w' :=o) (by simp[go_sem,e,gS]) ?_;exact hR
  refine ck (v:=.bool true) (by simp[go_sem,E]<;>first|exact⟨rfl,rfl⟩|exact rfl) ?_;rw[ci,if_pos rfl];have hw:IntKind.i64.wrap ((i:Int)+1)=((i+1:Nat):Int):=by rw[cS (by omega) (by omega)];omega
  have cu:=yp (p:=λx=>decide (0<x)) k;have cd:=yp (p:=λx=>decide (x<0)) k;have ca:=zj (p:=λx=>cD x (-MP) MP) k;generalize hy:s.shifts.toList[i]! =y at*;generalize hU:(s.shifts.toList.take i).countP (λx=>decide (0<x))=u at*;generalize hD:(s.shifts.toList.take i).countP (λx=>decide (x<0))=d at*;simp only[decide_eq_true_eq]at cu cd;refine cy.at (λst W=>st=(.int .i64 ((if y<0 then d+1 else d:Nat):Int),.int .i64 ((if 0<y then u+1 else u:Nat):Int),x,())/\W=o/\cD y (-10000000) 10000000=true) ?_ ?_
  ·refine t _ ?_;refine jB ?_;refine ck (v:=.bool (!cD y (-10000000) 10000000)) (w' :=o) (by simp[go_sem]) ?_;cases M:cD y (-10000000) 10000000 with
   |false=>
    rw[ci,if_pos (show(!false)=true from rfl)]
    have:s.may=false:=by
     have h1:iA s.shifts.toList=false:=by
      rw[Bool.eq_false_iff];intro hc;have:=(List.all_eq_true.1 hc) y (by rw[<-hy,getElem!_pos s.shifts.toList i k];exact List.getElem_mem k);unfold MP at this;rw[M]at this;cases this
     rw[A];unfold Sp.end_;rw[h1];rfl
    rw[<-this];exact Y _ H
   |true=>
   rw[ci,if_neg (by simp)];refine cy.at (λst W=>st=(.int .i64 ((if 0<y then u+1 else u:Nat):Int),())/\W=o) ?_ ?_
   ·refine t _ ?_;by_cases n:0<y
    ·refine ck (v:=.bool true) (by simp[go_sem,n]<;>first|exact⟨rfl,rfl⟩|exact rfl) ?_;rw[ci,if_pos rfl];rw[if_pos n];refine ck (v:=.int .i64 ((u+1:Nat):Int)) (w' :=o) (by simp[go_sem];rw[cS (by omega) (by omega)]) ?_;exact⟨rfl,rfl⟩
    ·refine ck (v:=.bool false) (by simp[go_sem,n]<;>first|exact⟨rfl,rfl⟩|exact rfl) ?_;rw[ci,if_neg Bool.false_ne_true];rw[if_neg n];exact⟨rfl,rfl⟩
   rintro⟨_,_⟩ U ⟨⟨⟩,rfl⟩;unfold HG;intro _;refine t _ ?_;by_cases m:y<0
   ·refine ck (v:=.bool true) (by simp[go_sem,m]<;>first|exact⟨rfl,rfl⟩|exact rfl) ?_;rw[ci,if_pos rfl];rw[if_pos m];refine ck (v:=.int .i64 ((d+1:Nat):Int)) (w' :=U) (by simp[go_sem];rw[cS (by omega) (by omega)]) ?_;exact⟨rfl,rfl,by trivial⟩
   ·refine ck (v:=.bool false) (by simp[go_sem,m]<;>first|exact⟨rfl,rfl⟩|exact rfl) ?_;rw[ci,if_neg Bool.false_ne_true];rw[if_neg m];exact⟨rfl,rfl,by trivial⟩
  rintro⟨_,_⟩ U ⟨⟨⟩,rfl,M⟩;unfold Eb;intro _;refine ck (v:=.int .i64 ((i+1:Nat):Int)) (w' :=U) (by simp[go_sem];rw[cS (by omega) (by omega)]) ?_;have eu:(s.shifts.toList.take (i+1)).countP (λx=>decide (0<x))=if 0<y then u+1 else u:=by rw[cu];split<;>omega
  have ed:(s.shifts.toList.take (i+1)).countP (λx=>decide (x<0))=if y<0 then d+1 else d:=by rw[cd];split<;>omega
  refine O _ _ ⟨i+1,x,by omega,by rw[eu,ed],rfl,?_⟩ (by show 16 - (((i+1:Nat):Int)).toNat<16 - ((i:Int)).toNat;omega);unfold iA;rw[ca];show(iA _&& _)=true;rw[r];simpa [MP]using M
 ·obtain rfl:i=16:=by omega
  rw[List.take_of_length_le (by omega)]at r;rw[List.take_of_length_le (by omega)];refine ck (v:=.bool false) (by simp[go_sem]<;>first|exact⟨rfl,rfl⟩|exact rfl) ?_;rw[ci,if_neg Bool.false_ne_true];have j:∀b:Bool,b=s.may->K (.bool b) o:=λb h=>by rw[h];exact Y _ H
  rw[A]at j;unfold Sp.end_ at j;rw[r,Bool.true_and]at j
  refine ck (v:=.bool (s.shifts.toList.any λx=>decide (0<x))) (w' :=o) (by
   have:=KE (l:=s.shifts.toList) (p:=λx=>decide (0<x));cases B:s.shifts.toList.any λx=>decide (0<x)<;>rw[B]at this<;>simp[-List.countP_pos_iff,go_sem]at this|- <;>omega) ?_
  cases B:s.shifts.toList.any λx=>decide (0<x)with
  |false=>
   rw[ci,if_neg Bool.false_ne_true];exact j _ (by rw[B];rfl)
  |true=>
  rw[B,Bool.true_and]at j;rw[ci,if_pos rfl]
  refine ck (v:=.bool (s.shifts.toList.any λx=>decide (x<0))) (w' :=o) (by
   have:=KE (l:=s.shifts.toList) (p:=λx=>decide (x<0));cases B:s.shifts.toList.any λx=>decide (x<0)<;>rw[B]at this<;>simp[-List.countP_pos_iff,go_sem]at this|- <;>omega) ?_
  cases hd:s.shifts.toList.any λx=>decide (x<0)with
  |false=>
   rw[ci,if_neg Bool.false_ne_true];exact j _ (by rw[hd];rfl)
  |true=>
  rw[hd,Bool.true_and]at j;rw[ci,if_pos rfl];refine ck (by simp[-Int.natCast_add,go_sem,e,I]<;>first|exact⟨rfl,rfl⟩|exact rfl) ?_;refine ck (by simp[-Int.natCast_add,go_sem,e,I]<;>first|exact⟨rfl,rfl⟩|exact rfl) ?_;refine ck (by simp[-Int.natCast_add,go_sem,e,C]<;>first|exact⟨rfl,rfl⟩|exact rfl) ?_;refine ck (by simp[-Int.natCast_add,go_sem,e,C]<;>first|exact⟨rfl,rfl⟩|exact rfl) ?_
  have ht:0<s.tick:=by
   rw[V]at g;unfold Sp.pre MP at g;simp only[Bool.and_eq_true]at g;have:=of_decide_eq_true g.2.2.1;omega
  refine wn ht ?_;exact j _ rfl
def ox{s:Sp}{n:Int}{w:World}{K:cm}(o:s.Fit)(c:∀g,cl (λ_=>False) w g->K (.bool (s.isPrice n)) g):Ca Tryz.prog 165 #[.agg (dl s).toArray,.int .i64 n] w K:=by
 apply Pk;obtain⟨p,e⟩:∃p,p=w.heap.size:=⟨_,rfl⟩
 have l:cl (λ_=>False) w (w.alloc (.cells (dl s).toArray 38)):=(cl.refl _ w).alloc _;refine ck (v:=.pointer (some ⟨p,0,none⟩)) (w' :=w.alloc (.cells (dl s).toArray 38)) (by rw[e];rfl) ?_;have f:hp (w.alloc (.cells (dl s).toArray 38)) p=some (.cells (dl s).toArray 38 (0,0)):=by rw[e];simp[go_sem]
 generalize w.alloc (.cells (dl s).toArray 38)=q at l f|-;refine eK (dl s) 24 ve ry (cJ _) ⟨_,_,_,f,by simp,by simp⟩ ?_;refine qR o λr h=>?_;have k:=h.hpk f id;have d:=l.trans h;unfold Sp.isPrice at c;cases a:s.may with
 |false=>
  rw[a]at c;rw[ci,if_neg Bool.false_ne_true];exact c _ d
 |true=>
 rw[a,Bool.true_and]at c;rw[ci,if_pos rfl];have b:∀i:Nat,(dl s)[i]? =(dl s++[])[i]? :=λi=>by rw[List.append_nil]
 have j:(dl s).toArray[2]? =some (.int .i64 s.tick):=by rw[List.getElem?_toArray,b];exact Mh s []
 refine ck (by simp[-Int.natCast_add,go_sem,k,j]<;>first|exact⟨rfl,rfl⟩|exact rfl) ?_;refine ck (by simp[-Int.natCast_add,go_sem,k,j]<;>first|exact⟨rfl,rfl⟩|exact rfl) ?_
 have m:0<s.tick:=by
  have:=tm s;rw[a]at this;have:=(Bool.and_eq_true .. |>.mp this.symm).1;unfold Sp.pre MP at this;simp only[Bool.and_eq_true]at this;have:=of_decide_eq_true this.2.2.1;omega
 refine wn m ?_;exact c _ d
end Go.Proofs
namespace Go.Vc
def fq(n:Nat):List UInt8:=if n<128 then [UInt8.ofNat n]else UInt8.ofNat (n%128+128)::fq (n / 128)
 termination_by n
 decreasing_by omega
def mH{n:Nat}(h:n<128):fq n=[UInt8.ofNat n]:=by rw[fq,if_pos h]
def tz{n:Nat}(h:¬n<128):fq n=UInt8.ofNat (n%128+128)::fq (n / 128):=by rw[fq,if_neg h]
def ug:∀(k n:Nat),n<128 ^ (k+1)->(fq n).length<=k+1
 |0,n,h=>by rw[mH (by simpa using h)];simp
 |k+1,n,h=>by
  by_cases h1:n<128
  ·rw[mH h1];simp
  ·rw[tz h1];have:=ug k (n / 128) (by rw[Nat.div_lt_iff_lt_mul (by decide)];rw[Nat.pow_succ]at h;exact h);simp only[List.length_cons];omega
def t8{n:Nat}(h:n<18446744073709551616):(fq n).length<=10:=ug 9 n (Nat.lt_of_lt_of_le h (by decide))
def Ci{n:Nat}(h:n<256):(UInt8.ofNat n).toNat=n:=by simp;omega
def oZ:List UInt8->Nat->Nat->Except Nat (Nat×Nat)
 | [],_,_=>.error 4
 |x::r,k,acc=>
  if k=9/\1<x.toNat\/9<k then .error 5
  else if x.toNat<128 then(if x.toNat=0/\0<k then .error 5 else .ok (acc+x.toNat%128*128 ^ k,k+1))
  else oZ r (k+1) (acc+x.toNat%128*128 ^ k)
def qq:∀(l:List UInt8) (k acc n m:Nat),oZ l k acc=.ok (n,m)->k<=9->
  ∃d,n=acc+d*128 ^ k/\m=k+(fq d).length/\(fq d).length<=l.length/\l.take (fq d).length=fq d/\(0<d\/k=0)/\d*128 ^ k<18446744073709551616
 | [],_,_,_,_,h,_=>by cases h
 |x::r,k,acc,n,m,h,G=>by
  have I:=x.toNat_lt;simp only[oZ]at h;by_cases q:k=9/\1<x.toNat\/9<k
  ·rw[if_pos q]at h;cases h
  rw[if_neg q]at h;have c:UInt8.ofNat x.toNat=x:=by simp
  have y:128 ^ k*128 ^ (9 - k)=9223372036854775808:=by
   rw[<-Nat.pow_add,show k+(9 - k)=9 by omega]
  by_cases h1:x.toNat<128
  ·rw[if_pos h1]at h;by_cases u:x.toNat=0/\0<k
   ·rw[if_pos u]at h;cases h
   rw[if_neg u]at h;cases h;refine⟨x.toNat,by rw[Nat.mod_eq_of_lt h1],?_,?_,?_,by omega,?_⟩
   ·rw[mH h1];rfl
   ·rw[mH h1];simp
   ·rw[mH h1,c];simp
   ·by_cases j:k=9
    ·subst j;have:x.toNat<=1:=by omega
     have:=Nat.mul_le_mul_right (128 ^ 9) this;have e:(128:Nat) ^ 9=9223372036854775808:=by decide
     omega
    ·have C:128 ^ k<=128 ^ 8:=Nat.pow_le_pow_right (by decide) (by omega);have H:=Nat.mul_le_mul (show x.toNat<=127 by omega) C;have e:(127:Nat)*128 ^ 8<18446744073709551616:=by decide
     omega
  ·rw[if_neg h1]at h;have A:k≠9:=λe=>q (.inl ⟨e,by omega⟩);obtain⟨d,o,f,i,s,E,B⟩:=qq r (k+1) _ n m h (by omega);have w:0<d:=by omega
   have z:(x.toNat%128+d*128) / 128=d:=by omega
   have t:(x.toNat%128+d*128)%128+128=x.toNat:=by omega
   have a:fq (x.toNat%128+d*128)=x::fq d:=by rw[tz (by omega),z,t,c]
   have v:(x.toNat%128+d*128)*128 ^ k=x.toNat%128*128 ^ k+d*128 ^ (k+1):=by
    rw[Nat.add_mul,Nat.pow_succ,Nat.mul_comm (128 ^ k) 128,Nat.mul_assoc]
   refine⟨x.toNat%128+d*128,?_,?_,?_,?_,by omega,?_⟩
   ·rw[o,v];omega
   ·rw[a,f,List.length_cons];omega
   ·rw[a];simpa using i
   ·rw[a];simp[s]
   ·rw[v]
    have D:x.toNat%128*128 ^ k<128 ^ (k+1):=by
     rw[Nat.pow_succ,Nat.mul_comm];exact Nat.mul_lt_mul_of_pos_left (Nat.mod_lt _ (by decide)) (Nat.pow_pos (by decide))
    have b:128 ^ (k+1)*128 ^ (8 - k)=9223372036854775808:=by
     rw[<-Nat.pow_add,show k+1+(8 - k)=9 by omega]
    have p:d<2*128 ^ (8 - k):=by
     apply Classical.byContradiction;intro F;have:=Nat.mul_le_mul_right (128 ^ (k+1)) (Nat.le_of_not_lt F);rw[Nat.mul_assoc,Nat.mul_comm (128 ^ (8 - k)),b]at this;omega
    have g:=Nat.mul_le_mul_right (128 ^ (k+1)) (show d+1<=2*128 ^ (8 - k)from p);rw[Nat.mul_assoc,Nat.mul_comm (128 ^ (8 - k)),b,Nat.add_mul]at g;omega
def oz{l:List UInt8}{n m:Nat}(h:oZ l 0 0=.ok (n,m)):m=(fq n).length/\m<=l.length/\l.take m=fq n/\n<18446744073709551616:=by
 obtain⟨d,h1,b,e,c,_,a⟩:=qq l 0 0 n m h (by omega);simp only[Nat.pow_zero,Nat.mul_one,Nat.zero_add]at h1 b a;subst h1;subst b;exact⟨rfl,e,c,a⟩
def ff:List UInt8->Nat
 | []=>0
 |x::r=>if x.toNat<128 then 0 else ff r+1
def AR:∀l:List UInt8,ff l<=l.length
 | []=>Nat.le_refl _
 |x::r=>by
  have:=AR r;simp only[ff,List.length_cons];split<;>omega
def nm:List UInt8->Nat
 | []=>0
 |x::r=>x.toNat%128+128*nm r
def In(l:List UInt8):Except Nat (Nat×Nat):=
 if l.length<=ff l then(if 10<=ff l then .error 5 else .error 4)
 else if 9<ff l\/ff l=9/\1<(l.getD 9 0).toNat\/0<ff l/\(l.getD (ff l) 0).toNat=0 then .error 5
 else .ok (nm (l.take (ff l+1)),ff l+1)
def CD:∀(l:List UInt8) (k acc:Nat),k<=9->oZ l k acc=
  (if l.length<=ff l then(if 10<=k+ff l then .error 5 else .error 4)
  else if 9<k+ff l\/k+ff l=9/\1<(l.getD (ff l) 0).toNat\/0<k+ff l/\(l.getD (ff l) 0).toNat=0 then .error 5
  else .ok (acc+nm (l.take (ff l+1))*128 ^ k,k+ff l+1))
 | [],k,acc,g=>by
  have h:¬10<=k+ff []:=by simp only[ff];omega
  rw[if_pos (by simp[ff]),if_neg h];rfl
 |x::r,k,acc,g=>by
  by_cases h1:x.toNat<128
  ·have e:ff (x::r)=0:=by simp only[ff];rw[if_pos h1]
   have c:((x::r).getD 0 0).toNat=x.toNat:=rfl;rw[e,if_neg (by simp),c];simp only[oZ,Nat.add_zero,Nat.zero_add,List.take_succ_cons,List.take_zero,nm,Nat.mul_zero];rw[if_pos h1];by_cases b:k=9/\1<x.toNat\/9<k
   ·rw[if_pos b,if_pos (by omega)]
   ·rw[if_neg b];by_cases f:x.toNat=0/\0<k
    ·rw[if_pos f,if_pos (by omega)]
    ·rw[if_neg f,if_neg (by omega)]
  ·have e:ff (x::r)=ff r+1:=by simp only[ff];rw[if_neg h1]
   have c:(x::r).getD (ff r+1) 0=r.getD (ff r) 0:=by simp
   rw[e,c];simp only[List.length_cons,List.take_succ_cons,nm];by_cases b:k=9
   ·subst b
    have d:oZ (x::r) 9 acc=.error 5:=by
     unfold oZ;rw[if_pos (.inl ⟨rfl,by omega⟩)]
    rw[d];by_cases a:r.length+1<=ff r+1
    ·rw[if_pos a,if_pos (by omega)]
    ·rw[if_neg a,if_pos (.inl (by omega))]
   ·have d:oZ (x::r) k acc=oZ r (k+1) (acc+x.toNat%128*128 ^ k):=by
     simp only[oZ];rw[if_neg (by omega),if_neg h1]
    rw[d,CD r (k+1) _ (by omega)];have j:k+1+ff r=k+(ff r+1):=by omega
    rw[j];simp only[Nat.add_le_add_iff_right];by_cases a:r.length<=ff r
    ·rw[if_pos a,if_pos a]
    ·rw[if_neg a,if_neg a]
     have i:acc+x.toNat%128*128 ^ k+nm (r.take (ff r+1))*128 ^ (k+1)=acc+(x.toNat%128+128*nm (r.take (ff r+1)))*128 ^ k:=by
      rw[Nat.add_mul,Nat.pow_succ,<-Nat.mul_assoc,Nat.add_assoc];congr 2;rw[Nat.mul_assoc,Nat.mul_comm (128 ^ k),<-Nat.mul_assoc,Nat.mul_comm (nm _) 128]
     rw[i]
def ut(l:List UInt8):oZ l 0 0=In l:=by
 rw[CD l 0 0 (by omega)];unfold In;simp only[Nat.zero_add,Nat.pow_zero,Nat.mul_one];by_cases h:l.length<=ff l
 ·rw[if_pos h,if_pos h]
 ·rw[if_neg h,if_neg h];by_cases a:ff l=9
  ·rw[a]
  ·by_cases h1:9<ff l\/0<ff l/\(l.getD (ff l) 0).toNat=0
   ·rw[if_pos (by omega),if_pos (by omega)]
   ·rw[if_neg (by omega),if_neg (by omega)]
structure Rs where
 at_:Nat
 e:Nat
def cw(l:List UInt8)(most:Nat)(s:Rs):Nat×Rs:=
 if s.e≠0 then(0,s)else
 match oZ (l.drop s.at_) 0 0 with
 | .error e=>(0,{s with e:=e})
 | .ok (n,k)=>if most<n then(0,{s with e:=5})else(n,{s with at_:=s.at_+k})
def de(l:List UInt8)(s:Rs):Nat:=if s.e=0/\s.at_<l.length then 5 else s.e
def AD{l:List UInt8}{most:Nat}{s:Rs}(h:s.at_<=l.length):(cw l most s).2.at_<=l.length:=by
 unfold cw;split
 ·exact h
 ·split
  ·exact h
  ·rename_i n k a
   have:=(oz a).2.1;rw[List.length_drop]at this;split
   ·exact h
   ·show s.at_+k<=l.length;omega
def dN{l:List UInt8}{most:Nat}{s:Rs}:(cw l most s).1<=most:=by
 unfold cw;split
 ·exact Nat.zero_le _
 ·split
  ·exact Nat.zero_le _
  ·split
   ·exact Nat.zero_le _
   ·rename_i h;exact Nat.le_of_not_lt h
structure Tn where
 c:Nat
 q:Nat
 b:List UInt8
def Tn.May(o:Tn):Prop:=o.c<64/\o.q≠0/\o.b.length<=2000
instance(o:Tn):Decidable o.May:=by unfold Tn.May;infer_instance
end Go.Vc
namespace Go.Proofs
open Go Go.Vc
attribute [local congr] cq
def zU:eO Tryz.prog 5 1 1=true:=by kernel_rfl
def Rj:Tryz.prog.cellsOf 5=0+1:=by kernel_rfl
abbrev LP:TypeId:=54
def ny:Tryz.prog.underlying LP=some (.slice 5):=Tryz.underlying54
set_option maxRecDepth 100000 in
def JK(n:Nat):bits .or .u8 (IntKind.u8.wrap (n:Int)) 128=((UInt8.ofNat (n%128+128)).toNat:Int):=by
 have a:IntKind.u8.wrap (n:Int)=((n%256:Nat):Int):=by rw[IntKind.wrap_u8];omega
 have b:(UInt8.ofNat (n%128+128)).toNat=n%128+128:=Ci (by omega);rw[a,show(128:Int)=((128:Nat):Int)from rfl,u8_or_nat _ _ (by omega) (by omega),b];congr 1;have h:∀m:Fin 256,m.val|||128=m.val%128+128:=by decide
 have:=h ⟨n%256,by omega⟩;simp only at this;rw[this];omega
def JH{w:World}{K:cm}{s:Value}{k n:Nat}{l:List UInt8}(h:d7 w 5 1 s k (bv l))(H:n<18446744073709551616)(M:k<=1000000000)
  (E:∀g d,d7 d 5 1 g (k+(fq n).length) (bv (l++fq n))->cl (cv s) w d->(∀b,cv g b->cv s b\/w.heap.size<=b)->K g d):
  Ca Tryz.prog 100 #[s,.int .u64 n] w K:=by
 apply NR
 refine dp (λst W=>∃(m:Nat) (pre:List UInt8) (g:Value),fq n=pre++fq m/\m<=n/\st=(.int .u64 (m:Int),g,())/\d7 W 5 1 g (k+pre.length) (bv (l++pre))/\cl (cv s) w W/\(∀b,cv g b->cv s b\/w.heap.size<=b))
  (λst _=>match st.1 with| .int _ i=>i.toNat|_=>0) ⟨n,[],s,rfl,Nat.le_refl _,rfl,by simpa using h,cl.refl _ _,λb o=>.inl o⟩ ?_
 rintro⟨_,_⟩ W ⟨m,pre,g,a,N,⟨⟩,A,r,f⟩ L x;unfold F0;intro _;have p:=t8 H;rw[a,List.length_append]at p;by_cases D:128<=m
 ·have c:(128:Int)<=(m:Int):=by omega
  refine ck (v:=.bool true) (w' :=W) (by simp[go_sem,c]) ?_;rw[ci,if_pos rfl];refine ck (v:=.int .u8 (IntKind.u8.wrap (m:Int))) (w' :=W) (by simp[go_sem]) ?_;refine ck (v:=.int .u8 (bits .or .u8 (IntKind.u8.wrap (m:Int)) 128)) (w' :=W) (by simp[go_sem]) ?_;rw[JK];refine xl [UInt8.ofNat (m%128+128)] ny (cK zU) rfl rfl (by omega) λv F y j J=>?_;refine dz (m:=1) ny ny (cK zU) (A.mod j λ_ _ h=>h) y.rd (pS _) (by omega) λC B q t u=>?_;refine ck (v:=.int .u64 ((m / 128:Nat):Int)) (w' :=B) (by simp[go_sem]) ?_;have z:fq m=UInt8.ofNat (m%128+128)::fq (m / 128):=tz (by omega);refine x _ _ ⟨m / 128,pre++[UInt8.ofNat (m%128+128)],C,by rw[a,z];simp,by omega,rfl,?_,?_,?_⟩ ?_
  ·rw[<-lW,List.append_assoc]at q;have e:k+(pre++[UInt8.ofNat (m%128+128)]).length=k+pre.length+1:=by simp;omega
   rw[e];exact q
  ·exact(r.on j λ_ h=>h.elim).on t f
  ·intro b o;rcases u b o with h1|h1
   ·exact f b h1
   ·have:=(r.on j (G:=λ_=>False) λ_ h=>h.elim).size;omega
  ·show(((m / 128:Nat):Int)).toNat<((m:Int)).toNat;omega
 ·have c:¬(128:Int)<=(m:Int):=by omega
  refine ck (v:=.bool false) (w' :=W) (by simp[go_sem,c]) ?_;rw[ci,if_neg Bool.false_ne_true]
  have I:IntKind.u8.wrap (m:Int)=((UInt8.ofNat m).toNat:Int):=by
   rw[Ci (by omega),IntKind.wrap_u8];omega
  refine ck (v:=.int .u8 (IntKind.u8.wrap (m:Int))) (w' :=W) (by simp[go_sem]) ?_;rw[I];refine xl [UInt8.ofNat m] ny (cK zU) rfl rfl (by omega) λv F y j J=>?_;refine dz (m:=1) ny ny (cK zU) (A.mod j λ_ _ h=>h) y.rd (pS _) (by omega) λC B q t u=>?_;have z:fq m=[UInt8.ofNat m]:=mH (by omega);refine E _ _ ?_ ((r.on j λ_ h=>h.elim).on t f) ?_
  ·rw[a,z];rw[<-lW,List.append_assoc]at q;have e:k+(pre++[UInt8.ofNat m]).length=k+pre.length+1:=by simp;omega
   rw[e];exact q
  ·intro b o;rcases u b o with h1|h1
   ·exact f b h1
   ·have:=(r.on j (G:=λ_=>False) λ_ h=>h.elim).size;omega
def dJ(r:Nat):Value:=.pointer (some ⟨r,0,none⟩)
structure dD(w:World)(r:Nat)(v:Value)(l:List UInt8)(s:Rs):Prop where
 blk:hp w r=some (.cells #[v,.int .i64 s.at_,.int .i64 s.e] 248 (0,0))
 rd:Rd w 1 v l.length (bv l)
 le:s.at_<=l.length
 ne:¬eh v r
 len:l.length<=1000000000
def dD.mod{F:Nat->Prop}{w w' :World}{r:Nat}{v:Value}{l:List UInt8}{s:Rs}(h:dD w r v l s)(a:cl F w w')(h1:¬F r)(c:∀b,eh v b->¬F b):dD w' r v l s:=
 ⟨a.keep h.blk h1,h.rd.mod a c,h.le,h.ne,h.len⟩
def dD.lt{w:World}{r:Nat}{v:Value}{l:List UInt8}{s:Rs}(h:dD w r v l s):r<w.heap.size:=cn h.blk
def xg{w:World}{K:cm}{v:Value}{l:List UInt8}(h:Rd w 1 v l.length (bv l))(d:l.length<=1000000000)
  (e:∀b,dD b w.heap.size v l ⟨0,0⟩->cl (λ_=>False) w b->K (dJ w.heap.size) b):Ca Tryz.prog 59 #[v] w K:=by
 obtain⟨a,c,rfl⟩:=h.isSl;apply Sr;simp[go_sem];refine e _ ⟨?_,h.mod ((cl.refl _ w).alloc _) (λ_ _ h=>h),Nat.zero_le _,λf=>Nat.lt_irrefl _ (h.lt f),d⟩ ((cl.refl _ w).alloc _);simp[go_sem]
def Bb{w:World}{K:cm}{r:Nat}{v:Value}{l:List UInt8}{s:Rs}(h:dD w r v l s)(a:K (.bool (decide (s.e≠0))) w):Ca Tryz.prog 148 #[dJ r] w K:=by
 apply PP;have c:=h.blk;simp[go_sem,dJ,c]
 have e:((s.e:Int) != 0)=decide (s.e≠0):=by
  by_cases b:s.e=0<;>simp[b]
 first
  |exact a
  |(rw[e];exact a)
  |(simpa using a)
def Ad(l:List UInt8)(at_:Nat):Value:=
 match oZ (l.drop at_) 0 0 with
 | .error e=>.tuple #[.int .u64 0,.int .i64 0,.int .i64 e]
 | .ok (n,k)=>.tuple #[.int .u64 n,.int .i64 (at_+k:Nat),.int .i64 0]
def SG(k:Nat):(2:Int) ^ (7*k)=((128 ^ k:Nat):Int):=by
 rw[Int.pow_mul];simp
set_option maxRecDepth 10000 in
def Mk{w:World}{K:cm}{r:Nat}{v:Value}{l:List UInt8}{s:Rs}(h:dD w r v l s)(I:∀c,cl (λ_=>False) w c->K (Ad l s.at_) c):Ca Tryz.prog 150 #[dJ r] w K:=by
 have M:=h.blk;have hle:=h.le;have hlen:=h.len;obtain⟨v',B,H,hin⟩:=h.rd.from_ (P:=Tryz.prog) ny Rj h.le .i64;simp only[Nat.zero_add,Nat.mul_one]at H;rw[xA]at H;apply QD;simp only[dJ,cr];refine co (v:=.pointer (some ⟨r,0,none⟩)) (λW=>by simp[go_sem]) ?_;refine cB (v:=v) (by simp[go_sem,M]) ?_;refine co (v:=.pointer (some ⟨r,1,none⟩)) (λW=>by simp[go_sem]) ?_;refine cB (v:=.int .i64 s.at_) (by simp[go_sem,M]) ?_;refine co (v:=v') B ?_;obtain⟨a',c',hv'⟩:=H.isSl;refine cB (v:=.int .i64 ((l.length - s.at_:Nat):Int)) (by rw[hv'];simp[go_sem]) ?_;have p:=H.mod (cl.refl (λ_=>False) w).drew λ_ _ h=>h;generalize N:w.drew=Y at p|-;have k:cl (λ_=>False) w Y:=by subst N;exact(cl.refl _ w).drew
 have hb1:hp Y r=some (.cells #[v,.int .i64 s.at_,.int .i64 s.e] 248 (0,0)):=k.keep M id;obtain⟨L,t⟩:∃L,L=l.drop s.at_:=⟨_,rfl⟩
 rw[<-t]at p;have hLl:L.length=l.length - s.at_:=by rw[t];simp
 refine dp (λst W=>∃(i acc:Nat),i<=L.length/\i<=9/\acc<128 ^ i/\oZ L 0 0=oZ (L.drop i) i acc/\(∃x1 x2:Value,st=(.int .u64 (acc:Int),x1,x2,.int .i64 (i:Int),()))/\W=Y)
  (λst _=>match st.2.2.2.1 with| .int _ i=>10 - i.toNat|_=>0) ⟨0,0,by omega,by omega,by decide,rfl,⟨_,_,rfl⟩,rfl⟩ ?_
 rintro⟨_,_⟩ W ⟨i,acc,hi,T,z,E,⟨x1,x2,⟨⟩⟩,rfl⟩ KN Q;unfold FZ;intro _;by_cases y:i<L.length
 ·obtain⟨b,R,cap,C,e,fz,U,hcap,hC,V⟩:=p.byte (i:=i) (by omega) y;have hx:=(L[i]).toNat_lt;have hdr:L.drop i=L[i]::L.drop (i+1):=List.drop_eq_getElem_cons y;have j:(i:Int)<((l.length - s.at_:Nat):Int):=by omega
  refine ck (v:=.bool true) (w' :=W) (by simp[go_sem,j]) ?_;rw[ci,if_pos rfl,U];have F:i<l.length - s.at_:=by omega
  refine ck (v:=.pointer (some ⟨b,R+i,none⟩)) (w' :=W) (by simp[go_sem,F,cE]) ?_;refine ck (v:=.int .u8 ((L[i]).toNat:Int)) (w' :=W) (by simp[go_sem,hC,V]) ?_;obtain⟨x,o⟩:∃x,x=(L[i]).toNat:=⟨_,rfl⟩
  rw[<-o];rw[<-o]at hx
  have a:oZ L 0 0=if i=9/\1<x\/9<i then .error 5
    else if x<128 then(if x=0/\0<i then .error 5 else .ok (acc+x%128*128 ^ i,i+1))
    else oZ (L.drop (i+1)) (i+1) (acc+x%128*128 ^ i):=by
   rw[E,hdr];simp only[oZ];rw[<-o]
  refine cy.at (λst X=>st=(.bool (decide (i=9/\1<x\/9<i)),())/\X=W) ?_ ?_
  ·by_cases J:i=9
   ·subst J;refine ck (v:=.bool true) (w' :=W) (by simp[go_sem]) ?_;rw[ci,if_pos rfl];by_cases h1:1<x
    ·have q:(1:Int)<(x:Int):=by omega
     refine ck (v:=.bool true) (w' :=W) (by simp[go_sem,q]) ?_;rw[ci,if_pos rfl];exact⟨by simp[h1],rfl⟩
    ·have q:¬(1:Int)<(x:Int):=by omega
     refine ck (v:=.bool false) (w' :=W) (by simp[go_sem,q]) ?_;rw[ci,if_neg Bool.false_ne_true];refine ck (v:=.bool false) (w' :=W) (by simp[go_sem]) ?_;exact⟨by simp[h1],rfl⟩
   ·have O:¬(i:Int)=9:=by omega
    have A:¬(9:Int)<(i:Int):=by omega
    refine ck (v:=.bool false) (w' :=W) (by simp[go_sem,O]) ?_;rw[ci,if_neg Bool.false_ne_true];refine ck (v:=.bool false) (w' :=W) (by simp[go_sem,A]) ?_;exact⟨by simp[J];omega,rfl⟩
  rintro _ W ⟨rfl,rfl⟩;unfold D2;intro _;by_cases d:i=9/\1<x\/9<i
  ·rw[if_pos d]at a;simp only[d,decide_true,ci,if_true];have:=I _ k;unfold Ad at this;rw[<-t,a]at this;exact this
  rw[if_neg d]at a;simp only[d,decide_false,ci,Bool.false_eq_true,if_false]
  have ea:bits .and .u8 (x:Int) 127=((x%128:Nat):Int):=by
   rw[show(127:Int)=((127:Nat):Int)from rfl,u8_and_nat _ _ (by omega) (by omega)];congr 1;exact Nat.and_two_pow_sub_one_eq_mod x 7
  have hs:x%128*128 ^ i<18446744073709551616:=by
   by_cases J:i=9
   ·subst J;have:x<=1:=by omega
    have e9:(128:Nat) ^ 9=9223372036854775808:=by decide
    rw[e9];omega
   ·have h8:128 ^ i<=128 ^ 8:=Nat.pow_le_pow_right (by decide) (by omega);have h7:=Nat.mul_le_mul (show x%128<=127 by omega) h8;have e8:(127:Nat)*128 ^ 8<18446744073709551616:=by decide
    omega
  have g:acc<18446744073709551616:=by
   have h8:128 ^ i<=128 ^ 9:=Nat.pow_le_pow_right (by decide) T;have e9:(128:Nat) ^ 9=9223372036854775808:=by decide
   omega
  have eo:acc|||(x%128*128 ^ i)=acc+x%128*128 ^ i:=by
   have e1:(128:Nat) ^ i=2 ^ (7*i):=by rw[Nat.pow_mul]
   have:=Nat.two_pow_add_eq_or_of_lt (i:=7*i) (b:=acc) (by rw[<-e1];exact z) (x%128);rw[<-e1,Nat.mul_comm (128 ^ i)]at this;rw[Nat.or_comm,<-this,Nat.add_comm]
  have hsum:acc+x%128*128 ^ i<18446744073709551616:=by
   rw[<-eo];exact Nat.or_lt_two_pow (n:=64) g hs
  refine ck (v:=.int .u8 ((x%128:Nat):Int)) (w' :=W) (by simp only[go_sem];simp[-Int.natCast_emod,go_sem,ea]) ?_;refine ck (v:=.int .u64 ((x%128:Nat):Int)) (w' :=W) (by simp[-Int.natCast_emod,go_sem,eP (n:=((x%128:Nat):Int)) (by omega) (by omega)]) ?_;refine ck (v:=.int .i64 ((7*i:Nat):Int)) (w' :=W) (by simp[go_sem];rw[cS (by omega) (by omega)]) ?_;refine ck (v:=.int .u64 ((x%128*128 ^ i:Nat):Int)) (w' :=W) ?_ ?_
  ·have e7:((7*i:Nat):Int).toNat=7*i:=by omega
   have e8:¬((7*i:Nat):Int)<0:=by omega
   simp[-Int.natCast_mul,-Int.natCast_emod,go_sem,e7,e8];rw[SG,<-Int.natCast_mul,eP (by omega) (by omega)]
  refine ck (v:=.int .u64 ((acc+x%128*128 ^ i:Nat):Int)) (w' :=W) ?_ ?_
  ·simp only[go_sem];simp[-Int.natCast_add,-Int.natCast_mul,-Int.natCast_emod,go_sem];rw[u64_or_nat _ _ g hs,eo]
  by_cases m:x<128
  ·have f:(x:Int)<128:=by omega
   rw[if_pos m]at a;refine ck (v:=.bool true) (w' :=W) (by simp[go_sem,f]) ?_;rw[ci,if_pos rfl];refine cy.at (λst X=>st=(.bool (decide (x=0/\0<i)),())/\X=W) ?_ ?_
   ·by_cases Z:x=0
    ·refine ck (v:=.bool true) (w' :=W) (by simp[go_sem,Z]) ?_;rw[ci,if_pos rfl];refine ck (v:=.bool (decide ((0:Int)<(i:Int)))) (w' :=W) (by simp[go_sem]) ?_;refine⟨?_,rfl⟩;have e:decide ((0:Int)<(i:Int))=decide (x=0/\0<i):=by rw[decide_eq_decide];omega
     rw[e]
    ·have h0' :¬(x:Int)=0:=by omega
     refine ck (v:=.bool false) (w' :=W) (by simp[go_sem,Z]) ?_;rw[ci,if_neg Bool.false_ne_true];exact⟨by simp[Z],rfl⟩
   rintro _ W ⟨rfl,rfl⟩;unfold Ft;intro _;by_cases G:x=0/\0<i
   ·rw[if_pos G]at a;simp only[G,and_self,decide_true,ci,if_true];have:=I _ k;unfold Ad at this;rw[<-t,a]at this;exact this
   rw[if_neg G]at a;simp only[G,decide_false,ci,Bool.false_eq_true,if_false];have hat:s.at_+i+1<9223372036854775808:=by omega
   simp only[dJ,cr];refine co (v:=.pointer (some ⟨r,1,none⟩)) (λW=>by simp[go_sem]) ?_
   have u:∀D,D.heap=W.heap->(Instr.loadAt 3 (.pointer (some ⟨r,1,none⟩))).run Tryz.prog D=.ok (.int .i64 s.at_) D:=λD e=>by
    have S:hp D r=some (.cells #[v,.int .i64 s.at_,.int .i64 s.e] 248 (0,0)):=by unfold hp;rw[e];exact hb1
    simp[go_sem,S]
   refine cB (v:=.int .i64 s.at_) (u _ rfl) ?_;refine co (v:=.int .i64 ((s.at_+i:Nat):Int)) (λW=>by simp[go_sem];rw[cS (by omega) (by omega)]) ?_;refine co (v:=.int .i64 ((s.at_+(i+1):Nat):Int)) (λW=>by simp[go_sem];rw[cS (by omega) (by omega)];omega) ?_;refine⟨u _ rfl,?_⟩;have:=I _ k.drew;unfold Ad at this;rw[<-t,a]at this;exact this
  ·have f:¬(x:Int)<128:=by omega
   rw[if_neg m]at a;refine ck (v:=.bool false) (w' :=W) (by simp[go_sem,f]) ?_;rw[ci,if_neg Bool.false_ne_true];refine ck (v:=.int .i64 ((i+1:Nat):Int)) (w' :=W) (by simp[go_sem];rw[cS (by omega) (by omega)]) ?_;have hi9' :i≠9:=λe=>d (.inl ⟨e,by omega⟩);refine Q _ _ ⟨i+1,_,by omega,by omega,?_,a,⟨_,_,rfl⟩,rfl⟩ ?_
   ·rw[Nat.pow_succ];have:x%128*128 ^ i<=127*128 ^ i:=Nat.mul_le_mul_right _ (by omega);omega
   ·show 10 - (((i+1:Nat):Int)).toNat<10 - ((i:Int)).toNat;omega
 ·have j:¬(i:Int)<((l.length - s.at_:Nat):Int):=by omega
  refine ck (v:=.bool false) (w' :=W) (by simp[go_sem,j]) ?_;rw[ci,if_neg Bool.false_ne_true]
  have a:oZ L 0 0=.error 4:=by
   rw[E,List.drop_eq_nil_of_le (by omega)];rfl
  have:=I _ k;unfold Ad at this;rw[<-t,a]at this;exact this
end Go.Proofs
namespace Go.Proofs
open Go Go.Vc
attribute [local congr] cq
def B9{l:List UInt8}:∀{k acc e:Nat},oZ l k acc=.error e->e=4\/e=5:=by
 induction l with
 |nil=>intro k acc e h;cases h;exact .inl rfl
 |cons x r a=>
  intro k acc e h;simp only[oZ]at h;split at h
  ·cases h;exact .inr rfl
  ·split at h
   ·split at h
    ·cases h;exact .inr rfl
    ·cases h
   ·exact a h
def dD.fault{w:World}{r:Nat}{v:Value}{l:List UInt8}{s:Rs}(h:dD w r v l s)(e:Nat):
  dD (w.setCell ⟨r,2,none⟩ (.int .i64 e)) r v l {s with e:=e}/\cl (λb=>b=r) w (w.setCell ⟨r,2,none⟩ (.int .i64 e)):=by
 have a:cl (λb=>b=r) w (w.setCell ⟨r,2,none⟩ (.int .i64 e)):=(cl.refl (λb=>b=r) w).setCell (.inl rfl) _ _;exact⟨⟨by simp[go_sem,h.blk],h.rd.mod a λb c e=>h.ne (by rw[<-e];exact c),h.le,h.ne,h.len⟩,a⟩
def dD.go{w:World}{r:Nat}{v:Value}{l:List UInt8}{s:Rs}(h:dD w r v l s)(a:Nat)(d:a<=l.length):
  dD (w.setCell ⟨r,1,none⟩ (.int .i64 a)) r v l {s with at_:=a}/\cl (λb=>b=r) w (w.setCell ⟨r,1,none⟩ (.int .i64 a)):=by
 have c:cl (λb=>b=r) w (w.setCell ⟨r,1,none⟩ (.int .i64 a)):=(cl.refl (λb=>b=r) w).setCell (.inl rfl) _ _;exact⟨⟨by simp[go_sem,h.blk],h.rd.mod c λb f e=>h.ne (by rw[<-e];exact f),d,h.ne,h.len⟩,c⟩
def fJ{w:World}{K:cm}{r most:Nat}{v:Value}{l:List UInt8}{s:Rs}(h:dD w r v l s)(y:most<18446744073709551616)
  (j:∀c,dD c r v l (cw l most s).2->cl (λb=>b=r) w c->K (.int .u64 (cw l most s).1) c):Ca Tryz.prog 69 #[dJ r,.int .u64 most] w K:=by
 apply Q1;refine Bb h ?_;by_cases u:s.e≠0
 ·rw[ci,if_pos (by simpa using u)];have f:cw l most s=(0,s):=by unfold cw;rw[if_pos u]
  rw[f]at j;exact j _ h (cl.refl _ _)
 rw[ci,if_neg (by simpa using u)];have D:s.e=0:=by omega
 have f:cw l most s=match oZ (l.drop s.at_) 0 0 with
  | .error e=>(0,{s with e:=e})
  | .ok (n,k)=>if most<n then(0,{s with e:=5})else(n,{s with at_:=s.at_+k}):=by unfold cw;rw[if_neg u]<;>cases oZ (l.drop s.at_) 0 0<;>rfl
 refine Mk h λa t=>?_;have h1:=h.mod t id λ_ _ h=>h
 have o:∀(e n k:Nat) (a:World),dD a r v l s->cl (λ_=>False) w a->s.at_+k<=l.length->
   (if e≠0 then cw l most s=(0,{s with e:=e})else cw l most s=(n,{s with at_:=s.at_+k}))->
   Cn (dJ r) K (.int .i64 (s.at_+k:Nat)) (.int .u64 n) (.int .i64 e,()) a:=by
  intro e n k a h1 t E x;unfold Cn;intro _;have B:∀z,cl (λb=>b=r) a z->cl (λb=>b=r) w z:=λz C=>(t.mono λ_ _ h=>h.elim).trans C;by_cases A:e≠0
  ·rw[if_pos A]at x;rw[x]at j;have i:¬(e:Int)=0:=by omega
   refine ck (v:=.bool true) (w' :=a) (by simp[go_sem,i];omega) ?_;rw[ci,if_pos rfl];obtain⟨q,m⟩:=h1.fault e;simp only[dJ,cr];refine ck (v:=.pointer (some ⟨r,2,none⟩)) (w' :=a) (by simp[go_sem]) ?_;refine dt (w' :=a.setCell ⟨r,2,none⟩ (.int .i64 e)) (by simp[go_sem,h1.blk]) ?_;exact j _ q (B _ m)
  ·rw[if_neg A]at x;rw[x]at j;have i:(e:Int)=0:=by omega
   refine ck (v:=.bool false) (w' :=a) (by simp[go_sem,i]) ?_;rw[ci,if_neg Bool.false_ne_true];obtain⟨q,m⟩:=h1.go (s.at_+k) E;simp only[dJ,cr];refine ck (v:=.pointer (some ⟨r,1,none⟩)) (w' :=a) (by simp[go_sem]) ?_;refine dt (w' :=a.setCell ⟨r,1,none⟩ (.int .i64 (s.at_+k:Nat))) (by simp[-Int.natCast_add,go_sem,h1.blk]) ?_;exact j _ q (B _ m)
 cases g:oZ (l.drop s.at_) 0 0 with
 |error e=>
  have F:=B9 g;unfold Ad;rw[g]at f|-;simp only at f|-;refine ck (v:=.int .u64 0) (w' :=a) (by simp[go_sem]) ?_;refine ck (v:=.int .i64 0) (w' :=a) (by simp[go_sem]) ?_;refine ck (v:=.int .i64 e) (w' :=a) (by simp[go_sem]) ?_;refine cy.at (λst W=>st=(.int .i64 e,())/\W=a) ?_ ?_
  ·refine cy.at (λst W=>st=(.bool false,())/\W=a) ?_ ?_
   ·have i:¬(e:Int)=0:=by omega
    refine ck (v:=.bool false) (w' :=a) (by simp[go_sem];omega) ?_;rw[ci,if_neg Bool.false_ne_true];exact⟨rfl,rfl⟩
   ·rintro _ a ⟨rfl,rfl⟩;unfold J69_0;intro _;rw[ci,if_neg Bool.false_ne_true];exact⟨rfl,rfl⟩
  ·rintro _ a ⟨rfl,rfl⟩;have I:e≠0:=by omega
   unfold Cn;intro _;rw[f]at j;refine ck (v:=.bool true) (w' :=a) (by simp[go_sem];omega) ?_;rw[ci,if_pos rfl];obtain⟨q,m⟩:=h1.fault e;simp only[dJ,cr];refine ck (v:=.pointer (some ⟨r,2,none⟩)) (w' :=a) (by simp[go_sem]) ?_;refine dt (w' :=a.setCell ⟨r,2,none⟩ (.int .i64 e)) (by simp[go_sem,h1.blk]) ?_;exact j _ q ((t.mono λ_ _ h=>h.elim).trans m)
 |ok p=>
  obtain⟨n,k⟩:=p;have G:=oz g;have H:=h.le;rw[List.length_drop]at G;unfold Ad;rw[g]at f|-;simp only at f|-;refine ck (v:=.int .u64 n) (w' :=a) (by simp[go_sem]) ?_;refine ck (v:=.int .i64 (s.at_+k:Nat)) (w' :=a) (by simp[go_sem]) ?_;refine ck (v:=.int .i64 0) (w' :=a) (by simp[go_sem]) ?_;refine cy.at (λst W=>st=(.int .i64 (if most<n then 5 else 0:Nat),())/\W=a) ?_ ?_
  ·refine cy.at (λst W=>st=(.bool (decide (most<n)),())/\W=a) ?_ ?_
   ·refine ck (v:=.bool true) (w' :=a) (by simp[go_sem]) ?_;rw[ci,if_pos rfl];refine ck (v:=.bool (decide (most<n))) (w' :=a) (by simp[go_sem]) ?_;exact⟨rfl,rfl⟩
   ·rintro _ a ⟨rfl,rfl⟩;unfold J69_0;intro _;by_cases d:most<n
    ·rw[ci,if_pos (by simpa using d),if_pos d];simp
    ·rw[ci,if_neg (by simpa using d),if_neg d];simp
  ·rintro _ a ⟨rfl,rfl⟩;refine o (if most<n then 5 else 0) n k _ h1 t (by omega) ?_;by_cases d:most<n
   ·rw[if_pos d]at f|-;rw[if_pos (by decide)];exact f
   ·rw[if_neg d]at f|-;rw[if_neg (by simp)];exact f
def B6{w:World}{K:cm}{r:Nat}{v:Value}{l:List UInt8}{s:Rs}(h:dD w r v l s)
  (c:∀a,dD a r v l (cw l 18446744073709551615 s).2->cl (λb=>b=r) w a->K (.int .u64 (cw l 18446744073709551615 s).1) a):Ca Tryz.prog 61 #[dJ r] w K:=by
 apply Rw;exact fJ h (by decide) c
def qH{w:World}{K:cm}{r:Nat}{v:Value}{l:List UInt8}{s:Rs}(h:dD w r v l s)
  (g:∀b,cl (λ_=>False) w b->K (.int .i64 (de l s)) b):Ca Tryz.prog 74 #[dJ r] w K:=by
 have d:=h.blk;obtain⟨a,c,rfl⟩:=h.rd.isSl;apply RJ;refine ck (v:=.bool false) (w' :=w) (by simp[go_sem,dJ]) ?_;rw[ci,if_neg Bool.false_ne_true];refine cy.at (λst W=>st=(.bool (decide (s.e=0/\s.at_<l.length)),())/\W=w.drew) ?_ ?_
 ·simp only[dJ,cr];refine co (v:=.pointer (some ⟨r,2,none⟩)) (λW=>by simp[go_sem]) ?_;refine cB (v:=.int .i64 s.e) (by simp[go_sem,d]) ?_;by_cases f:s.e=0
  ·refine co (v:=.bool true) (λW=>by simp[go_sem,f]) ?_;rw[ci,if_pos rfl];refine co (v:=.pointer (some ⟨r,1,none⟩)) (λW=>by simp[go_sem]) ?_;refine cB (v:=.int .i64 s.at_) (by simp[go_sem,d]) ?_;refine co (v:=.pointer (some ⟨r,0,none⟩)) (λW=>by simp[go_sem]) ?_;refine cB (v:=.slice a l.length c) (by simp[go_sem,d]) ?_;refine cB (v:=.int .i64 l.length) (by simp[go_sem]) ?_;refine co (v:=.bool (decide (s.at_<l.length))) (λW=>by simp[go_sem]) ?_;simp[f]
  ·refine co (v:=.bool false) (λW=>by simp[go_sem];omega) ?_;rw[ci,if_neg Bool.false_ne_true];simp[f]
 rintro _ _ ⟨rfl,rfl⟩;unfold Kt;intro _;have i:cl (λ_=>False) w w.drew:=(cl.refl _ w).drew;by_cases e:s.e=0/\s.at_<l.length
 ·rw[ci,if_pos (by simpa using e)];have:=g _ i;unfold de at this;rw[if_pos e]at this;exact this
 ·rw[ci,if_neg (by simpa using e)];have:=g _ i;unfold de at this;rw[if_neg e]at this;simp only[dJ,cr];refine ck (v:=.pointer (some ⟨r,2,none⟩)) (w' :=w.drew) (by simp[go_sem]) ?_;refine ck (v:=.int .i64 s.e) (w' :=w.drew) (by simp[go_sem,d]) ?_;exact this
end Go.Proofs
