/- Part of a proof. -/
import Derived.Test.YtgebhcgmckjbbaaGreatB7
set_option linter.all false
set_option maxRecDepth 100000
namespace Go.Proofs
open Go Go.Vc
def Qq{a:World}{b:cm}(i:Ca Tryz.prog 133 #[(.bool true)] a λc d=>Ca Tryz.prog 133 #[(.bool false)] d λe f=>gr (Instr.build 231 #[(0,c),(1,e)]) f λg h=>gq 231 g h b):Ca Tryz.prog 48 #[] a b:=cj Tryz.func48 i
def Ph{a:Value}{b:World}{c:cm}(i:gb .neq 109 true a (.pointer none) b λd e=>cz d (cD a λf=>cG 231 f 0 228 e λg h=>gb .neq 228 true g (.pointer none) h c) (c (.bool false) e)):Ca Tryz.prog 145 #[a] b c:=cj Tryz.func145 i
def Nx{a b:Value}{c:World}{d:cm}(o:cz b (cD a λe=>dZ 231 e 0 228 c.drew λf=>cD a λg=>dD 231 g 1 λh=>de 228 h c.drew λi=>Sem.run Tryz.prog (Instr.loadAt 228 h) c.drew=.ok i c.drew/\(d (.tuple #[f,i]) c.drew)) (cD a λj=>dZ 231 j 1 228 c.drew λk=>cD a λl=>dD 231 l 0 λm=>de 228 m c.drew λn=>Sem.run Tryz.prog (Instr.loadAt 228 m) c.drew=.ok n c.drew/\(d (.tuple #[k,n]) c.drew))):Ca Tryz.prog 225 #[a,b] c d:=cj Tryz.func225 o
def EE(a b c d:Value)(e:cm)(f:T2)(g:World)(h:T2->Wp):=NV->gb .lss 3 false f.2.1 a g λi j=>cz i (lJ 246 b f.2.1 228 j λk l=>Ca Tryz.prog 269 #[k,c] l λm n=>kS m n λo p q=>gv 117 o q λr s=>gb .eql 26 true p (gI 0) s λt u=>cz t (gl 117 r u λv w=>gs 117 d v w λx=>de 117 d x λy=>e (.tuple #[y,k]) x) (gb .add 3 true f.2.1 (gI 1) u λz A=>h (f.1,z,()) A)) (gr (Instr.build 117 #[]) j λB C=>gs 117 d B C λD=>de 117 d D λE=>e (.tuple #[E,(.pointer none)]) D)
def OA{a b:Value}{c:World}{d:cm}(n:ga 117 c λe f=>cD a λg=>dZ 231 g 0 228 f.drew λh=>cD a λi=>dZ 231 i 1 228 f.drew λj=>gx (dP 246 2 [(0,h),(1,j)]) f.drew λk l=>gw (Builtin.len_ #[246] 3 #[k]) l λm=>cS (S:=T2) (EE m k b e d) ((.pointer none),(gI 0),()) l):Ca Tryz.prog 224 #[a,b] c d:=cj Tryz.func224 n
def Pa{a b:Value}{c:World}{d:cm}(m:gq 117 a c λe f=>cG 117 e 2 4 f λg h=>cz g (cG 117 e 3 2 h λi j=>gb .leq 2 false b i j d) (cG 117 e 3 2 h λk l=>gb .geq 2 false b k l d)):Ca Tryz.prog 272 #[a,b] c d:=cj Tryz.func272 m
def G8(a:Value)(b:cm)(c d:Value)(e f:T1)(g:World):=NV->cz f.1 (gr (Instr.build 235 #[]) g λh i=>gs 235 a h i λj=>de 235 a j λk=>b (.tuple #[k,(gI 9)]) j) (gl 117 c g λl m=>Ca Tryz.prog 228 #[d,l,e.1] m λn o=>gs 235 a n o λp=>de 235 a p λq=>b (.tuple #[q,(gI 0)]) p)
def DM(a:Value)(b:cm)(c:T1)(d e f g:Value)(h:T1)(i:World):=NV->cz h.1 (gr (Instr.build 235 #[]) i λj k=>gs 235 a j k λl=>de 235 a l λm=>b (.tuple #[m,(gI 71)]) l) (cB (S:=T1) (λn=>cz c.1 (cG 117 d 4 2 i λo p=>gb .lss 2 false e o p λq r=>cz q (Ca Tryz.prog 227 #[f] r λs t=>gb .geq 3 true s (gI 100) t λu v=>n (u,()) v) (n ((.bool false),()) r)) (n ((.bool false),()) i)) (G8 a b d g c))
def Dy(a:Value)(b:cm)(c d:Value)(e:T1)(f g h:Value)(i:T1)(j:World):=NV->cz i.1 (gr (Instr.build 235 #[]) j λk l=>gs 235 a k l λm=>de 235 a m λn=>b (.tuple #[n,(gI 70)]) m) (cB (S:=T1) (λo=>gb .eql 39 true c (.int .u8 4) j λp q=>cz p (gb .gtr 2 true d (gI 0) q λr s=>o (r,()) s) (o ((.bool false),()) q)) (DM a b e f d g h))
def DB(a b c d:Value)(e:cm)(f g:Value)(h:T1)(i:World):=NV->cB (S:=T1) (λj=>gb .eql 39 true a (.int .u8 3) i λk l=>cz k (cG 117 b 4 2 l λm n=>gb .lss 2 false c m n λo p=>j (o,()) p) (j ((.bool false),()) l)) (Dy d e a c h b f g)
def EP(a:Value)(b:cm)(c d e:Value)(f:T1)(g:World):=NV->cz f.1 (gr (Instr.build 235 #[]) g λh i=>gs 235 a h i λj=>de 235 a j λk=>b (.tuple #[k,(gI 2)]) j) (cG 117 c 0 27 g λl m=>Ca Tryz.prog 224 #[d,l] m λn o=>kS n o λp q r=>gv 117 p r λs t=>gb .neq 228 true q (.pointer none) t λu v=>cz u (gr (Instr.build 235 #[]) v λw x=>gs 235 a w x λy=>de 235 a y λz=>b (.tuple #[z,(gI 8)]) y) (cG 117 c 2 4 v λA B=>Ca Tryz.prog 225 #[d,A] B λC D=>kS C D λE F G=>cG 117 c 3 2 G λH I=>cG 117 c 1 35 I λJ K=>Ca Tryz.prog 226 #[F,H,J] K λL M=>cB (S:=T1) (λN=>gb .eql 39 true e (.int .u8 1) M λO P=>cz O (N ((.bool true),()) P) (gb .eql 39 true e (.int .u8 4) P λQ R=>N (Q,()) R)) (DB e c L a b E d)))
def Mg{a b c:Value}{d:World}{e:cm}(C:gq 117 b d λf g=>ga 235 g λh i=>Ca Tryz.prog 145 #[a] i λj k=>gt j k λl m=>cz l (gr (Instr.build 235 #[]) m λn o=>gs 235 h n o λp=>de 235 h p λq=>e (.tuple #[q,(gI 1)]) p) (cB (S:=T1) (λr=>gl 117 f m λs t=>Ca Tryz.prog 222 #[s] t λu v=>gt u v λw x=>cz w (r ((.bool true),()) x) (gb .lss 39 true c (.int .u8 1) x λy z=>cz y (r ((.bool true),()) z) (gb .gtr 39 true c (.int .u8 4) z λA B=>r (A,()) B))) (EP h e f a c))):Ca Tryz.prog 135 #[a,b,c] d e:=cj Tryz.func135 C
def EN(a:Unit->Wp)(b c d e:Value)(f:Unit->Wp)(g:T1)(h:World):=NV->cz g.1 (a (()) h) (cG 117 b 1 35 h λi j=>cG 117 c 1 35 j λk l=>gb .eql 35 false i k l λm n=>cz m (cG 117 b 0 27 n λo p=>Ca Tryz.prog 259 #[d,o] p λq r=>cG 235 e 1 29 r λs t=>cG 117 b 0 27 t λu v=>gx (dP 29 1 [(0,u)]) v λw x=>gx (cv #[29,29] 29 [s,w]) x λy z=>kK 235 e 1 29 y z λA=>f (()) A) (cG 117 c 4 2 n λB C=>cG 117 b 4 2 C λD E=>rn Tryz.prog (builtin .min #[2,2] 2 #[false,false] #[B,D]) E λF G=>Ca Tryz.prog 273 #[d,F] G λH I=>cG 117 c 4 2 I λJ K=>gb .sub 2 false J F K λL M=>kK 117 c 4 2 L M λN=>cG 235 e 2 2 N λO P=>gb .add 2 false O F P λQ R=>kK 235 e 2 2 Q R λS=>cG 235 e 0 28 S λT U=>cG 117 b 3 2 U λV W=>cG 117 b 0 27 W λX Y=>cG 117 b 1 35 Y λZ aa=>gr (Instr.build 135 #[(0,V),(1,F),(2,X),(3,Z)]) aa λab ac=>gx (dP 28 1 [(0,ab)]) ac λad ae=>gx (cv #[28,28] 28 [T,ad]) ae λaf ag=>kK 235 e 0 28 af ag λah=>f (()) ah))
def Hg(a b:Value)(c:Unit->Wp)(d:Value)(e:Unit)(f:World)(g:Unit->Wp):=NV->cG 117 a 4 2 f λh i=>gb .gtr 2 true h (gI 0) i λj k=>cz j (Ca Tryz.prog 271 #[b] k λl m=>kS l m λn o p=>gv 117 n p λq r=>cB (S:=T1) (λs=>gt o r λt u=>cz t (s ((.bool true),()) u) (gl 117 a u λv w=>cG 117 q 3 2 w λx y=>Ca Tryz.prog 272 #[v,x] y λz A=>gt z A λB C=>s (B,()) C)) (EN c q a b d g)) (c (()) k)
def EI(a b c:Value)(d:cm)(e:T1)(f:World):=NV->cz e.1 (gl 117 a f λg h=>Ca Tryz.prog 274 #[b,g] h λi j=>cG 117 a 4 2 j λk l=>kK 235 c 3 2 k l λm=>gl 235 c m λn o=>gs 235 c n o λp=>de 235 c p λq=>d q p) (gl 235 c f λr s=>gs 235 c r s λt=>de 235 c t λu=>d u t)
def G6(a b c d:Value)(e:cm)(f:Unit)(g:World):=NV->cB (S:=T1) (λh=>cz a (cG 117 b 4 2 g λi j=>gb .gtr 2 true i (gI 0) j λk l=>h (k,()) l) (h ((.bool false),()) g)) (EI b c d e)
def OX{a b c:Value}{d:World}{e:cm}(r:gq 117 b d λf g=>ga 235 g λh i=>cG 117 f 2 4 i λj k=>Ca Tryz.prog 225 #[a,j] k λl m=>kS l m λn o p=>cB (S:=Unit) (λq=>cS (S:=Unit) (Hg f o q h) (()) p) (G6 c f n h e)):Ca Tryz.prog 228 #[a,b,c] d e:=cj Tryz.func228 r
def QS{a:Value}{b:World}{c:cm}(h:gq 109 a b λd e=>c (.func (.func 144) #[] #[d]) e):Ca Tryz.prog 57 #[a] b c:=cj Tryz.func57 h
def GG(a:Value)(b:Nat)(c:List Value)(d:World)(e:Wp)(f:Code->Wp):=gv 117 (c.getD 0 undef) d λg h=>iF b h λi=>gl 245 a i λj k=>gl 117 g k λl m=>dX Tryz.prog j [l] m λn o=>gt n o λp q=>cz p (f .ret q) (e q)
def AG(a:(T1)×List Nat)(b:(T1)×List Nat->Wp)(c:cm)(d:List Nat)(e:Option Code)(f:World):=fk (λg=>gb .add 3 true a.1.1 (gI 1) g λh i=>b ((h,()),(d++a.2)) i) (λj=>jF (d++a.2) j λk=>c (.tuple #[]) k) (λl m=>bc (Nat.beq l 2) (gb .add 3 true a.1.1 (gI 1) m λn o=>b ((n,()),(d++a.2)) o) (bc (Nat.beq l 1) (gb .add 3 true a.1.1 (gI 1) m λp q=>b ((p,()),(d++a.2)) q) (bc (Nat.beq l 0) (jF (d++a.2) m λr=>c (.tuple #[]) r) (False)))) e f
def Ff(a b c:Value)(d:cm)(e:(T1)×List Nat)(f:World)(g:(T1)×List Nat->Wp):=NV->gb .lss 3 false e.1.1 a f λh i=>cz h (lJ 246 b e.1.1 228 i λj k=>Ca Tryz.prog 146 #[j] k λl m=>xy Tryz.prog none l m 1 (GG c) (AG e g d)) (jF e.2 i λn=>d (.tuple #[]) n)
def OL{a b:Value}{c:World}{d:cm}(x:gq 245 a c λe f=>gl 109 b f λg h=>Ca Tryz.prog 145 #[g] h λi j=>gt i j λk l=>cz k (d (.tuple #[]) l) (gl 109 b l λm n=>Ca Tryz.prog 110 #[m] n λo p=>cD o λq=>dZ 231 q 0 228 p.drew λr=>cD o λs=>dZ 231 s 1 228 p.drew λt=>gx (dP 246 2 [(0,r),(1,t)]) p.drew λu v=>gw (Builtin.len_ #[246] 3 #[u]) v λw=>cS (S:=(T1)×List Nat) (Ff w u e d) (((gI 0),()),[]) v)):Ca Tryz.prog 144 #[a,b] c d:=cj Tryz.func144 x
def PT{a:Value}{b:World}{c:cm}(r:Ca Tryz.prog 145 #[a] b λd e=>gt d e λf g=>cz f (c (.pointer none) g) (cD a λh=>dZ 231 h 0 228 g.drew λi=>cD a λj=>dD 231 j 1 λk=>de 228 k g.drew λl=>Ca Tryz.prog 193 #[i] g.drew λm n=>gk 228 k l n/\(Ca Tryz.prog 193 #[l] n λo p=>gp (Instr.build 231 #[(0,m),(1,o)]) λq=>gq 231 q p c))):Ca Tryz.prog 110 #[a] b c:=cj Tryz.func110 r
def Qo{a:World}{b:cm}(h:gr (Instr.build 197 #[(0,(.bool true))]) a λc d=>gq 197 c d b):Ca Tryz.prog 35 #[] a b:=cj Tryz.func35 h
def NC{a:Value}{b:World}{c:cm}(h:gb .neq 61 true a (.pointer none) b λd e=>cz d (cD a λf=>cG 197 f 0 4 e c) (c (.bool false) e)):Ca Tryz.prog 132 #[a] b c:=cj Tryz.func132 h
def PO{a b:Value}{c:World}{d:cm}(m:cD a λe=>cG 197 e 2 45 c λf g=>Ca Tryz.prog 249 #[f,b,(.func (.func 250) #[] #[])] g λh i=>kS h i λj k l=>d (.tuple #[j,k]) l):Ca Tryz.prog 198 #[a,b] c d:=cj Tryz.func198 m
def Mm{a b:Value}{c:World}{d:cm}(s:gq 108 a c λe f=>gf 108 e 0 f λg h=>cG 38 g 0 35 h λi j=>gb .lss 35 false i b j λk l=>cz k (d (gI (-1)) l) (gf 108 e 0 l λm n=>cG 38 m 0 35 n λo p=>gb .gtr 35 false o b p λq r=>cz q (d (gI 1) r) (d (gI 0) r))):Ca Tryz.prog 250 #[a,b] c d:=cj Tryz.func250 s
def Qs{a:Value}{b:World}{c:cm}(i:Ca Tryz.prog 132 #[a] b λd e=>gt d e λf g=>cz f (c (.int .u32 0) g) (cD a λh=>cG 197 h 1 35 g c)):Ca Tryz.prog 53 #[a] b c:=cj Tryz.func53 i
def Pk{a b:Value}{c:World}{d:cm}(I:gx (iz 108) c λe f=>Ca Tryz.prog 132 #[a] f λg h=>gt g h λi j=>cz i (gx (sF 108 #[]) j λk l=>gh Tryz.prog (ew 108 e k) l λm=>iD Tryz.prog (dh 108 e) m λn=>d (.tuple #[n,(gI 1)]) m) (Ca Tryz.prog 198 #[a,b] j λo p=>kS o p λq r s=>gt r s λt u=>cz t (gx (sF 108 #[]) u λv w=>gh Tryz.prog (ew 108 e v) w λx=>iD Tryz.prog (dh 108 e) x λy=>d (.tuple #[y,(gI 7)]) x) (cD a λz=>cG 197 z 2 45 u λA B=>gi 45 A q B λC D=>gx (dh 108 C) D λE F=>gh Tryz.prog (ew 108 e E) F λG=>iD Tryz.prog (dh 108 e) G λH=>d (.tuple #[H,(gI 0)]) G))):Ca Tryz.prog 123 #[a,b] c d:=cj Tryz.func123 I
def Qg{a:Value}{b:World}{c:cm}(h:gq 61 a b λd e=>c (.func (.func 131) #[] #[d]) e):Ca Tryz.prog 47 #[a] b c:=cj Tryz.func47 h
def Gz(a b c:Value)(d:cm)(e:T1)(f:World)(g:T1->Wp):=NV->gb .lss 3 false e.1 a f λh i=>cz h (gi 45 b e.1 i λj k=>gx (dh 108 j) k λl m=>gx (iz 108) m λn o=>gh Tryz.prog (ew 108 n l) o λp=>gx (dh 108 n) p λq r=>dX Tryz.prog c [q] r λs t=>gt s t λu v=>cz u (d (.tuple #[]) v) (gb .add 3 true e.1 (gI 1) v λw x=>g (w,()) x)) (d (.tuple #[]) i)
def MS{a b:Value}{c:World}{d:cm}(t:gl 61 b c λe f=>Ca Tryz.prog 132 #[e] f λg h=>gt g h λi j=>cz i (d (.tuple #[]) j) (gl 61 b j λk l=>cD k λm=>cG 197 m 2 45 l λn o=>Ca Tryz.prog 128 #[n] o λp q=>gn 45 false p q λr s=>cS (S:=T1) (Gz r p a d) ((gI 0),()) s)):Ca Tryz.prog 131 #[a,b] c d:=cj Tryz.func131 t
def NS{a:Value}{b:World}{c:cm}(s:Ca Tryz.prog 132 #[a] b λd e=>gt d e λf g=>cz f (c (.pointer none) g) (cD a λh=>gl 197 h g λi j=>gv 197 i j λk l=>cD a λm=>cG 197 m 2 45 l λn o=>Ca Tryz.prog 128 #[n] o λp q=>kK 197 k 2 45 p q λr=>c k r)):Ca Tryz.prog 108 #[a] b c:=cj Tryz.func108 s
def Nv{a:Value}{b:World}{c:cm}(h:gb .eql 45 true a (.slice none 0 0) b λd e=>cz d (c (.slice none 0 0) e) (gx (dP 45 0 []) e λf g=>gx (cv #[45,45] 45 [f,a]) g c)):Ca Tryz.prog 128 #[a] b c:=cj Tryz.func128 h
def El(a b c d:Value)(e:cm)(f:T2)(g:World)(h:T2->Wp):=NV->gb .lss 3 false f.1 f.2.1 g λi j=>cz i (gb .add 3 false f.1 f.2.1 j λk l=>gr (convert 3 249 k) l λm n=>gb .shr 249 true m (.int .u64 1) n λo p=>gr (convert 249 3 o) p λq r=>gi 45 a q r λs t=>gx (dh 108 s) t λu v=>dX Tryz.prog b [u,c] v λw x=>gb .lss 3 true w (gI 0) x λy z=>cz y (gb .add 3 true q (gI 1) z λA B=>h (A,f.2.1,()) B) (h (f.1,q,()) z)) (gb .lss 3 false f.1 d j λC D=>cz C (gi 45 a f.1 D λE F=>gx (dh 108 E) F λG H=>dX Tryz.prog b [G,c] H λI J=>gb .eql 3 true I (gI 0) J λK L=>e (.tuple #[f.1,K]) L) (e (.tuple #[f.1,(.bool false)]) D))
def L9{a b c:Value}{d:World}{e:cm}(h:gn 45 false a d λf g=>cS (S:=T2) (El a c b f e) ((gI 0),f,()) g):Ca Tryz.prog 249 #[a,b,c] d e:=cj Tryz.func249 h
end Go.Proofs
namespace Go.Proofs
open Go Go.Vc
attribute [local congr] cr
abbrev Bk:=Bool->List Od
def Bk.empty:Bk:=λ_=>[]
def Bk.set(B:Bk)(d:Bool)(l:List Od):Bk:=λx=>if x=d then l else B x
def Bk.set_self(B:Bk)(d:Bool)(l:List Od):B.set d l d=l:=by simp[Bk.set]
def Bk.set_other(B:Bk)(d:Bool)(l:List Od):B.set d l (!d)=B (!d):=by cases d<;>simp[Bk.set]
def Bk.set_same(B:Bk)(d:Bool):B.set d (B d)=B:=by
 funext x;unfold Bk.set;by_cases h:x=d<;>simp[h]
def Bk.find(B:Bk)(n:Int):Option (Od×Bool):=
 match jR (B true) n with
 |some o=>some (o,true)
 |none=>match jR (B false) n with
  |some o=>some (o,false)
  |none=>none
structure eU(w:World)(b:Nat)(F:Nat->Prop)(B:Bk):Prop where
 out:∃(s:Bool->Nat) (G:Bool->Nat->Prop),hp w b=some (.cells #[cT (s true),cT (s false)] 231 (0,0))/\(∀d,eJ w (s d) (G d) d (B d))/\(∀x,F x↔x=b\/G true x\/G false x)/\(∀d,¬G d b)/\∀x,G true x->¬G false x
def eU.mod{F H:Nat->Prop}{w w' :World}{b:Nat}{B:Bk}(h:eU w b F B)(f:cl H w w')(c:∀x,F x->¬H x):eU w' b F B:=by
 obtain⟨s,G,h1,g,a,i,j⟩:=h.out;exact⟨s,G,f.hpk h1 (c b ((a b).2 (.inl rfl))),λd=>(g d).mod f λx e=>c x ((a x).2 (.inr (by cases d;exact .inr e;exact .inl e))),a,i,j⟩
def eU.lt{F:Nat->Prop}{w:World}{b:Nat}{B:Bk}(h:eU w b F B){x:Nat}(a:F x):x<w.heap.size:=by
 obtain⟨s,G,h1,c,d,e,f⟩:=h.out;rcases(d x).1 a with rfl|a|a
 ·exact cn h1
 ·exact(c true).lt a
 ·exact(c false).lt a
def eU.self{F:Nat->Prop}{w:World}{b:Nat}{B:Bk}(h:eU w b F B):F b:=by
 obtain⟨s,G,h1,c,a,d,e⟩:=h.out;exact(a b).2 (.inl rfl)
def eY(b:Nat):Value:=.pointer (some ⟨b,0,none⟩)
def ES{w:World}{K:cm}(r:∀b F c,eU c b F Bk.empty->cl (λ_=>False) w c->(∀x,F x->w.heap.size<=x)->K (eY b) c):Ca Tryz.prog 48 #[] w K:=by
 apply Qq;refine yf λg m y k n u=>?_;refine yf λf l a p i o=>?_;refine ck (v:=.agg #[cT g,cT f]) (w' :=a) (by simp[go_sem,cT]) ?_;have j:cl (λ_=>False) a (a.alloc (.cells #[cT g,cT f] 231)):=(cl.refl _ a).alloc _;refine ck (v:=eY a.heap.size) (w' :=a.alloc (.cells #[cT g,cT f] 231)) rfl ?_;have s:=n.size;have t:=i.size;refine r a.heap.size (λx=>x=a.heap.size\/m x\/l x) _ ⟨λd=>if d then g else f,λd=>if d then m else l,by simp[go_sem],λd=>?_,λx=>Iff.rfl,λd=>?_,λx h1 q=>?_⟩ ((n.trans i).trans j) λx e=>?_
 ·cases d
  ·exact p.mod j λ_ _ h=>h
  ·exact(k.mod i λ_ _ h=>h).mod j λ_ _ h=>h
 ·cases d
  ·intro h;have:=p.lt h;omega
  ·intro h;have:=k.lt h;omega
 ·have z:=k.lt h1;have A:=o x q;omega
 ·rcases e with rfl|e|e
  ·omega
  ·exact u x e
  ·have:=o x e;omega
def pE{w:World}{K:cm}{b:Nat}{F:Nat->Prop}{B:Bk}(h:eU w b F B)(a:K (.bool true) w):Ca Tryz.prog 145 #[eY b] w K:=by
 obtain⟨s,G,h1,c,f,d,e⟩:=h.out;apply Ph;unfold eY;refine ck (v:=.bool true) (by simp[go_sem]<;>first|exact⟨rfl,rfl⟩|exact rfl) ?_;rw[ci,if_pos rfl];simp only[cw];refine ck (by simp[-Int.natCast_add,go_sem,h1]<;>first|exact⟨rfl,rfl⟩|exact rfl) ?_;refine ck (by simp[-Int.natCast_add,go_sem,h1]<;>first|exact⟨rfl,rfl⟩|exact rfl) ?_;refine ck (v:=.bool true) (w' :=w) (by simp[go_sem,cT]) ?_;exact a
def uG{w:World}{K:cm}{b:Nat}{s:Bool->Nat}{d:Bool}(h1:hp w b=some (.cells #[cT (s true),cT (s false)] 231 (0,0)))
  (c:K (.tuple #[cT (s d),cT (s !d)]) w.drew):Ca Tryz.prog 225 #[eY b,.bool d] w K:=by
 apply Nx;unfold eY;have a:hp w.drew b=some (.cells #[cT (s true),cT (s false)] 231 (0,0)):=h1;simp only[cw];cases d with
 |true=>
  rw[ci,if_pos rfl];refine cq (λ_=>by simp[-Int.natCast_add,go_sem]<;>first|exact⟨rfl,rfl⟩|exact rfl) ?_;refine cx (v:=cT (s true)) (by simp[go_sem,a]) ?_;refine cq (λ_=>by simp[-Int.natCast_add,go_sem]<;>first|exact⟨rfl,rfl⟩|exact rfl) ?_;refine cx (v:=cT (s false)) (by simp[go_sem,a]) ?_;exact⟨by simp[go_sem,a],c⟩
 |false=>
  rw[ci,if_neg Bool.false_ne_true];refine cq (λ_=>by simp[-Int.natCast_add,go_sem]<;>first|exact⟨rfl,rfl⟩|exact rfl) ?_;refine cx (v:=cT (s false)) (by simp[go_sem,a]) ?_;refine cq (λ_=>by simp[-Int.natCast_add,go_sem]<;>first|exact⟨rfl,rfl⟩|exact rfl) ?_;refine cx (v:=cT (s true)) (by simp[go_sem,a]) ?_;exact⟨by simp[go_sem,a],c⟩
def d9(o:Od)(price:Int):Bool:=if o.buy then decide (price<=o.price)else decide (o.price<=price)
def AP{o:Od}{price:Int}{w:World}{K:cm}(b:∀c,cl (λ_=>False) w c->K (.bool (d9 o price)) c):Ca Tryz.prog 272 #[ig o,.int .i64 price] w K:=by
 apply Pa;obtain⟨g,e,a,f⟩:=qi o w;have b:=b _ f;unfold d9 at b;refine ck e ?_;unfold da at a;refine ck (by simp[-Int.natCast_add,go_sem,a]<;>first|exact⟨rfl,rfl⟩|exact rfl) ?_;refine ck (by simp[-Int.natCast_add,go_sem,a]<;>first|exact⟨rfl,rfl⟩|exact rfl) ?_;cases d:o.buy with
 |true=>
  rw[d]at b;rw[ci,if_pos rfl];refine ck (by simp[-Int.natCast_add,go_sem,a]<;>first|exact⟨rfl,rfl⟩|exact rfl) ?_;refine ck (by simp[-Int.natCast_add,go_sem,a]<;>first|exact⟨rfl,rfl⟩|exact rfl) ?_;refine ck (by simp[-Int.natCast_add,go_sem]<;>first|exact⟨rfl,rfl⟩|exact rfl) ?_;simpa using b
 |false=>
  rw[d]at b;rw[ci,if_neg Bool.false_ne_true];refine ck (by simp[-Int.natCast_add,go_sem,a]<;>first|exact⟨rfl,rfl⟩|exact rfl) ?_;refine ck (by simp[-Int.natCast_add,go_sem,a]<;>first|exact⟨rfl,rfl⟩|exact rfl) ?_;refine ck (by simp[-Int.natCast_add,go_sem]<;>first|exact⟨rfl,rfl⟩|exact rfl) ?_;simpa using b
def Sa:Tryz.prog.underlying 246=some (.slice 228):=by kernel_rfl
def R6:eN Tryz.prog 228 1 8=true:=by kernel_rfl
set_option maxRecDepth 10000 in
def CJ{w:World}{K:cm}{b:Nat}{B:Bk}{s:Bool->Nat}{G:Bool->Nat->Prop}{n:Int}(h1:hp w b=some (.cells #[cT (s true),cT (s false)] 231 (0,0)))(h2:∀d,eJ w (s d) (G d) d (B d))
  (hN:B.find n=none->∀a,cl (λ_=>False) w a->K (.tuple #[ig fI,.pointer none]) a)
  (hS:∀o d,B.find n=some (o,d)->jR (B d) n=some o->∀a,cl (λ_=>False) w a->K (.tuple #[ig o,cT (s d)]) a):Ca Tryz.prog 224 #[eY b,.int .u64 n] w K:=by
 apply OA;obtain⟨l,e1,A,m1⟩:=iJ w;refine ck e1 ?_;obtain⟨p,L⟩:∃p,p=w.heap.size:=⟨_,rfl⟩
 rw[<-L]at A|-;have md:=m1.drew;have R:=md.hpk h1 id;simp only[eY,cw];refine cq (λ_=>by simp[-Int.natCast_add,go_sem]<;>first|exact⟨rfl,rfl⟩|exact rfl) ?_;refine cx (v:=cT (s true)) (by simp[go_sem,R]) ?_;refine cq (λ_=>by simp[-Int.natCast_add,go_sem]<;>first|exact⟨rfl,rfl⟩|exact rfl) ?_;refine cx (v:=cT (s false)) (by simp[go_sem,R]) ?_;refine fg [cT (s true),cT (s false)] Sa (cI R6) rfl rfl (by intro v S;simp only[List.mem_cons,List.not_mem_nil,or_false]at S;rcases S with rfl|rfl<;>rfl) (by omega) ?_;have Y:(([cT (s true),cT (s false)]:List Value).flatMap (·.cells.toList)).toArray= #[cT (s true),cT (s false)]:=rfl;rw[Y];obtain⟨q,c⟩:∃q,q=l.drew.heap.size:=⟨_,rfl⟩
 have hpq:p<q:=by rw[c,vm];exact cn A
 have T:cl (λ_=>False) w (l.drew.alloc (.cells #[cT (s true),cT (s false)] 228)):=md.alloc _;have U:hp (l.drew.alloc (.cells #[cT (s true),cT (s false)] 228)) q=some (.cells #[cT (s true),cT (s false)] 228 (0,0)):=by rw[c];simp[go_sem]
 have N:hp (l.drew.alloc (.cells #[cT (s true),cT (s false)] 228)) p=some (.cells (da fI).toArray ir (0,0)):=by
  rw[Hf,if_neg (by rw[<-c];omega)];exact A
 rw[<-c];generalize l.drew.alloc (.cells #[cT (s true),cT (s false)] 228)=w2 at T U N|-;refine cx (v:=.int .i64 2) (by simp[go_sem]) ?_
 refine dp (λst W=>∃(i:Nat) (x:Value),i<=2/\st=(x,.int .i64 i,())/\cl (λ_=>False) w2 W/\(1<=i->jR (B true) n=none)/\(2<=i->jR (B false) n=none))
  (λst _=>match st.2.1 with| .int _ i=>2 - i.toNat|_=>0) ⟨0,.pointer none,by omega,rfl,cl.refl _ _,λh=>by omega,λh=>by omega⟩ ?_
 rintro⟨_,_⟩ W ⟨i,x,hi,⟨⟩,u,e,M⟩ KN D;unfold EE;intro _;have J:=T.trans u;have bW:=u.hpk U id;have P:=u.hpk N id;by_cases z:i<2
 ·have m:(i:Int)<2:=by omega
  refine ck (v:=.bool true) (by simp[go_sem,m]<;>first|exact⟨rfl,rfl⟩|exact rfl) ?_;rw[ci,if_pos rfl]
  obtain⟨d,k⟩:∃d:Bool,(i=0/\d=true)\/(i=1/\d=false):=by
   by_cases h0:i=0
   ·exact⟨true,.inl ⟨h0,rfl⟩⟩
   ·exact⟨false,.inr ⟨by omega,rfl⟩⟩
  have F:(#[cT (s true),cT (s false)]:Array Value)[i]? =some (cT (s d)):=by
   rcases k with⟨rfl,rfl⟩|⟨rfl,rfl⟩<;>rfl
  have t:¬(2:Int)<=(i:Int):=by omega
  refine ck (v:=.pointer (some ⟨q,i,none⟩)) (w' :=W) (by simp[go_sem,z,t,cC]) ?_;refine ck (v:=cT (s d)) (w' :=W) (by rcases k with⟨rfl,rfl⟩|⟨rfl,rfl⟩<;>simp[go_sem,bW]) ?_;refine Ht ((h2 d).mod J λ_ _ h=>h) λj H=>?_;have M3:=J.trans H;refine ck (v:=ig ((jR (B d) n).getD fI)) (w' :=j) (by simp[go_sem]) ?_;refine ck (v:=.int .i64 (if(jR (B d) n).isSome then 0 else 7)) (w' :=j) (by simp[go_sem]) ?_;obtain⟨w4,e4,V,m4⟩:=iJ j;refine ck e4 ?_;obtain⟨r,I⟩:∃r,r=j.heap.size:=⟨_,rfl⟩
  rw[<-I]at V|-;obtain⟨X,e5,Q,Z⟩:=gm (o' :=(jR (B d) n).getD fI) V;refine dI e5 ?_;have f:cl (λ_=>False) j X:=m4.on Z λb O=>.inr (by omega);have M5:=M3.trans f;have p5:=f.hpk (H.hpk P id) id;cases g:jR (B d) n with
  |some o=>
   rw[g]at Q
   have hf:B.find n=some (o,d):=by
    unfold Bk.find;rcases k with⟨rfl,rfl⟩|⟨rfl,rfl⟩
    ·rw[g]
    ·rw[e (by omega)];simp only;rw[g]
   refine ck (v:=.bool true) (by simp[go_sem]<;>first|exact⟨rfl,rfl⟩|exact rfl) ?_;rw[ci,if_pos rfl];refine ck (gM (o:=o) (At.all Q)) ?_;obtain⟨w6,E,C,y⟩:=gm (o' :=o) p5;refine dI E ?_;refine cx (gM (o:=o) (At.all C)) ?_;exact hS o d hf g _ (M5.on y λb O=>.inr (by omega))
  |none=>
   refine ck (v:=.bool false) (by simp[go_sem]<;>first|exact⟨rfl,rfl⟩|exact rfl) ?_;rw[ci,if_neg Bool.false_ne_true];refine ck (v:=.int .i64 ((i+1:Nat):Int)) (w' :=X) (by simp[go_sem];rw[cV (by omega) (by omega)]) ?_;refine D _ _ ⟨i+1,_,by omega,rfl,(u.trans H).trans f,λh=>?_,λh=>?_⟩ (by show 2 - (((i+1:Nat):Int)).toNat<2 - ((i:Int)).toNat;omega)
   ·rcases k with⟨rfl,rfl⟩|⟨rfl,rfl⟩
    ·exact g
    ·exact e (by omega)
   ·rcases k with⟨rfl,rfl⟩|⟨rfl,rfl⟩
    ·omega
    ·exact g
 ·obtain rfl:i=2:=by omega
  refine ck (v:=.bool false) (by simp[go_sem]<;>first|exact⟨rfl,rfl⟩|exact rfl) ?_;rw[ci,if_neg Bool.false_ne_true];refine ck (v:=ig fI) (w' :=W) (by simp[go_sem,ig,da,fI]) ?_;obtain⟨w6,E,C,y⟩:=gm (o' :=fI) P;refine dI E ?_;refine cx (gM (o:=fI) (At.all C)) ?_;refine hN ?_ _ (J.on y λb O=>.inr (by omega));unfold Bk.find;rw[e (by omega)];simp only;rw[M (by omega)]
structure ip(w:World)(b:Nat)(s:Bool->Nat)(G:Bool->Nat->Prop)(B:Bk):Prop where
 blk:hp w b=some (.cells #[cT (s true),cT (s false)] 231 (0,0))
 sd:∀d,eJ w (s d) (G d) d (B d)
 nb:∀d,¬G d b
 dj:∀x,G true x->¬G false x
def eU.r{w:World}{b:Nat}{F:Nat->Prop}{B:Bk}(h:eU w b F B):∃s G,ip w b s G B/\∀x,F x↔x=b\/G true x\/G false x:=by
 obtain⟨s,G,h1,a,e,c,d⟩:=h.out;exact⟨s,G,⟨h1,a,c,d⟩,e⟩
def ip.q{w:World}{b:Nat}{s:Bool->Nat}{G:Bool->Nat->Prop}{B:Bk}(h:ip w b s G B):eU w b (λx=>x=b\/G true x\/G false x) B:=
 ⟨s,G,h.blk,h.sd,λ_=>Iff.rfl,h.nb,h.dj⟩
def ip.mod{H:Nat->Prop}{w w' :World}{b:Nat}{s:Bool->Nat}{G:Bool->Nat->Prop}{B:Bk}(h:ip w b s G B)(a:cl H w w')(e:¬H b)(c:∀d x,G d x->¬H x):ip w' b s G B:=
 ⟨a.hpk h.blk e,λd=>(h.sd d).mod a (c d),h.nb,h.dj⟩
def ip.lt{w:World}{b:Nat}{s:Bool->Nat}{G:Bool->Nat->Prop}{B:Bk}(h:ip w b s G B){d:Bool}{x:Nat}(a:G d x):x<w.heap.size:=(h.sd d).lt a
def ip.dj' {w:World}{b:Nat}{s:Bool->Nat}{G:Bool->Nat->Prop}{B:Bk}(h:ip w b s G B){d:Bool}{x:Nat}(a:G d x):¬G (!d) x:=by
 cases d
 ·exact λc=>h.dj x c a
 ·exact h.dj x a
def fH(G:Bool->Nat->Prop)(d:Bool)(G' :Nat->Prop):Bool->Nat->Prop:=λx=>if x=d then G' else G x
def eD(G:Bool->Nat->Prop)(d:Bool)(a:Nat->Prop):fH G d a d=a:=by simp[fH]
def me(G:Bool->Nat->Prop)(d:Bool)(a:Nat->Prop):fH G d a (!d)=G (!d):=by cases d<;>simp[fH]
def ip.upd{w w' :World}{b:Nat}{s:Bool->Nat}{G:Bool->Nat->Prop}{B:Bk}(h:ip w b s G B){d:Bool}{c:Nat->Prop}{l:List Od}(m:cl (G d) w w')(o:eJ w' (s d) c d l)(k:∀x,c x->G d x\/w.heap.size<=x):
  ip w' b s (fH G d c) (B.set d l):=by
 have n:=cn h.blk
 have j:∀x,G (!d) x->¬c x:=λx h1 a=>by
  rcases k x a with i|i
  ·exact h.dj' i h1
  ·have:=h.lt h1;omega
 refine⟨m.hpk h.blk (h.nb d),λe=>?_,λe=>?_,λx h1 a=>?_⟩
 ·by_cases g:e=d
  ·subst g;rw[eD,Bk.set_self];exact o
  ·obtain rfl:e= !d:=by cases e<;>cases d<;>simp_all
   rw[me,Bk.set_other];exact(h.sd _).mod m λx h1 a=>h.dj' a h1
 ·by_cases g:e=d
  ·subst g;rw[eD];intro h1;rcases k b h1 with a|a
   ·exact h.nb _ a
   ·omega
  ·obtain rfl:e= !d:=by cases e<;>cases d<;>simp_all
   rw[me];exact h.nb _
 ·cases d
  ·have f:fH G false c true=G true:=me G false c;rw[f]at h1;rw[eD]at a;exact j x h1 a
  ·have f:fH G true c false=G false:=me G true c;rw[f]at a;rw[eD]at h1;exact j x a h1
structure Td where
 price:Int
 qty:Int
 num:Int
 acct:Int
 deriving DecidableEq
def L1(t:Td):List Value:=[.int .i64 t.price,.int .i64 t.qty,.int .u64 t.num,.int .u32 t.acct]
structure Pm where
 trades:List Td
 gone:List Int
 filled:Int
 left:Int
def Hu(n:Int):List Value:=[.int .u64 n]
def dU(o:Od):Int->List Od->Int×List Od×List Td×List Int×Int
 |left,[]=>(left,[],[],[],0)
 |left,b::r=>
  if left<=0\/d9 o b.price=false then(left,b::r,[],[],0)
  else if b.acct=o.acct then let x:=dU o left r;(x.1,x.2.1,x.2.2.1,b.num::x.2.2.2.1,x.2.2.2.2)
  else if left<b.left then(0,{b with left:=b.left - left}::r,[⟨b.price,left,b.num,b.acct⟩],[],left)
  else let x:=dU o (left - b.left) r;(x.1,x.2.1,⟨b.price,b.left,b.num,b.acct⟩::x.2.2.1,x.2.2.2.1,b.left+x.2.2.2.2)
def sw(t:List Td)(g:List Int)(f:Int)(x:Int×List Od×List Td×List Int×Int):Int×List Od×List Td×List Int×Int:=
 (x.1,x.2.1,t++x.2.2.1,g++x.2.2.2.1,f+x.2.2.2.2)
def fj(B:Bk)(o:Od)(rests:Bool):Bk×Pm:=
 let x:=dU o o.left (B (!o.buy));let B1:=B.set (!o.buy) x.2.1
 if rests=true/\0<x.1 then(B1.set o.buy (jp o.buy (B1 o.buy) {o with left:=x.1}).2,⟨x.2.2.1,x.2.2.2.1,x.2.2.2.2,x.1⟩)
 else(B1,⟨x.2.2.1,x.2.2.2.1,x.2.2.2.2,0⟩)
def mz{o:Od}{left:Int}{l:List Od}(h:left<=0\/l=[]\/∃b r,l=b::r/\d9 o b.price=false):dU o left l=(left,l,[],[],0):=by
 cases l with
 |nil=>rfl
 |cons b r=>
  unfold dU;rw[if_pos];rcases h with h|h|⟨c,a,e,h⟩
  ·exact .inl h
  ·cases h
  ·cases e;exact .inr h
def yE(o:Od)(x p:Int):d9 {o with left:=x} p=d9 o p:=rfl
structure HT(w:World)(sT sG:Value)(t:List Td)(g:List Int):Prop where
 tr:dW w 135 4 sT t.length (t.flatMap L1)
 go:dW w 27 1 sG g.length (g.flatMap Hu)
 dj:∀x,co sT x->¬co sG x
def HT.mod{F:Nat->Prop}{w w' :World}{sT sG:Value}{t:List Td}{g:List Int}(h:HT w sT sG t g)(a:cl F w w')(h1:∀x,co sT x->¬F x)(b:∀x,co sG x->¬F x):HT w' sT sG t g:=
 ⟨h.tr.mod a h1,h.go.mod a b,h.dj⟩
def Ra:Tryz.prog.underlying 28=some (.slice 135):=by kernel_rfl
def Sl:eN Tryz.prog 135 4 32=true:=by kernel_rfl
def O6:Tryz.prog.underlying 29=some (.slice 27):=by kernel_rfl
def Rr:eN Tryz.prog 27 1 8=true:=by kernel_rfl
def I4(t:Td):(L1 t).all (·.oneCell')=true:=rfl
def DL(n:Int):(Hu n).all (·.oneCell')=true:=rfl
def DH{α:Type}{P:Program}{t e:TypeId}{k g:Nat}{w:World}{K:cm}{s d:Value}{l:List α}{x:α}{f:α->List Value}(i:P.underlying t=some (.slice e))(n:pg P e k g)(o:∀x,(f x).length=k)(m:∀x,(f x).all (·.oneCell')=true)
  (q:d.cells.toList=f x)(C:dW w e k s l.length (l.flatMap f))(A:(l.length+1)*g<=140737488355328)(I:k<=1000)
  (B:∀a c,dW c e k a (l++[x]).length ((l++[x]).flatMap f)->cl (co s) w c->(∀b,co a b->co s b\/w.heap.size<=b)->K a c):
  rx P (dP t 1 [(0,d)]) w λv r=>rx P (cv #[t,t] t [s,v]) r K:=by
 have H:d.cells.size=k:=by rw[<-Array.length_toList,q,o]
 refine fg [d] i n rfl rfl (by intro v F;rw[List.mem_singleton.1 F];exact H) (by omega) ?_;have y:(([d]:List Value).flatMap (·.cells.toList)).toArray=(f x).toArray:=by simp[q]
 rw[y];have p:cl (λ_=>False) w (w.alloc (.cells (f x).toArray e)):=(cl.refl _ w).alloc _
 have z:Rd (w.alloc (.cells (f x).toArray e)) k (.slice (some ⟨w.heap.size,0,none⟩) 1 1) 1 (f x):=
  ⟨by rw[o];omega,.inr ⟨_,0,1,rfl,Nat.le_refl _,At.all (cO (by rw[cY,if_pos rfl]))⟩⟩
 refine dt i i n (C.mod p λ_ _ h=>h) z (m x) A λa c D E u=>?_;refine B a c ?_ ((p.mono (G:=co s) λ_ _ h=>h.elim).trans E) λb j=>?_
 ·rw[List.flatMap_append,List.length_append];simpa using D
 ·rcases u b j with h|h
  ·exact .inl h
  ·rw[World.size_alloc]at h;exact .inr (by omega)
def nL(sT sG:Value)(f l:Int):Array Value:=#[sT,sG,.int .i64 f,.int .i64 l]
def B2{W:World}{p:Nat}{a c e d:Value}{i:Nat}{v:Value}(h:hp W p=some (.cells #[a,c,e,d] 235 (0,0)))(hi:i<4):
  hp (W.setCell ⟨p,i,none⟩ v) p=some (.cells ((#[a,c,e,d]:Array Value).setIfInBounds i v) 235 (0,0))/\cl (λb=>b=p) W (W.setCell ⟨p,i,none⟩ v):=
 ⟨by simp[go_sem,h],(cl.refl (λb=>b=p) W).setCell (.inl rfl) _ _⟩
structure Lh(w0:World)(b:Nat)(s:Bool->Nat)(G:Bool->Nat->Prop)(B:Bk)(o:Od)(p q:Nat)(W:World)(left:Int)(L:List Od)(t:List Td)(g:List Int)(f:Int):Prop where
 od:hp W p=some (.cells (da {o with left:=left}).toArray ir (0,0))
 mem:∃G' sT sG,ip W b s (fH G (!o.buy) G') (B.set (!o.buy) L)/\(∀x,G' x->G (!o.buy) x\/(w0.heap.size<=x/\x≠p/\x≠q))/\
  hp W q=some (.cells #[sT,sG,.int .i64 f,.int .i64 0] 235 (0,0))/\HT W sT sG t g/\(∀x,co sT x\/co sG x->w0.heap.size<=x/\x≠p/\x≠q/\¬G' x)
 md:cl (G (!o.buy)) w0 W
 eq:dU o o.left (B (!o.buy))=sw t g f (dU o left L)
 lf:0<=left/\left<=1000000/\f+left=o.left/\0<=f
 len:t.length+g.length<=101/\(0<left->t.length+g.length+L.length<=100)
def AB(b:Od)(r:List Od):pQ (b::r) b.num=r:=by
 unfold pQ;rw[List.eraseP_cons_of_pos (by simp)]
def De{o b:Od}{r:List Od}{left:Int}{t:List Td}{g:List Int}{f:Int}(h1:0<left)(a:d9 o b.price=true)(c:b.acct=o.acct):
  sw t g f (dU o left (b::r))=sw t (g++[b.num]) f (dU o left r):=by
 conv=>lhs;unfold dU
 rw[if_neg (by rw[a];simp;omega),if_pos c];simp[sw]
def CP{o b:Od}{r:List Od}{left:Int}{t:List Td}{g:List Int}{f:Int}(h1:0<left)(a:d9 o b.price=true)(d:b.acct≠o.acct)(c:left<b.left):
  sw t g f (dU o left (b::r))=sw (t++[⟨b.price,left,b.num,b.acct⟩]) g (f+left) (dU o 0 ({b with left:=b.left - left}::r)):=by
 conv=>lhs;unfold dU
 rw[if_neg (by rw[a];simp;omega),if_neg d,if_pos c,mz (.inl (Int.le_refl 0))];simp[sw]
def CL{o b:Od}{r:List Od}{left:Int}{t:List Td}{g:List Int}{f:Int}(h1:0<left)(a:d9 o b.price=true)(d:b.acct≠o.acct)(c:¬left<b.left):
  sw t g f (dU o left (b::r))=sw (t++[⟨b.price,b.left,b.num,b.acct⟩]) g (f+b.left) (dU o (left - b.left) r):=by
 conv=>lhs;unfold dU
 rw[if_neg (by rw[a];simp;omega),if_neg d,if_neg c];simp[sw,Int.add_assoc]
def FK(W:World)(p:Nat):Int:=match hp W p with|some (.cells c _ _)=>(match (c[4]? :Option Value)with|some (.int _ x)=>x|_=>0)|_=>0
def JR(W:World)(p:Nat):Nat:=match hp W p with|some (.cells c _ _)=>(match (c[2]? :Option Value)with|some (.slice _ n _)=>n|_=>0)|_=>0
def QG(W:World)(p sd:Nat):Nat:=2*JR W sd+(if 0<FK W p then 1 else 0)
def Lh.m{w0:World}{b:Nat}{s:Bool->Nat}{G:Bool->Nat->Prop}{B:Bk}{o:Od}{p q:Nat}{W:World}{left:Int}{L:List Od}{t:List Td}{g:List Int}{f:Int}(h:Lh w0 b s G B o p q W left L t g f):
  QG W p (s (!o.buy))=2*L.length+(if 0<left then 1 else 0):=by
 obtain⟨k,l,m,j,-⟩:=h.mem;have e:=j.sd (!o.buy);rw[Bk.set_self]at e;obtain⟨⟨sl,h1,i,-⟩,-⟩:=e;obtain⟨a,c,d,-⟩:=i.isSl;unfold QG JR FK;rw[h1,h.od,d];rfl
set_option maxRecDepth 10000 in
set_option maxHeartbeats 1000000 in
def IN{w:World}{K:cm}{b:Nat}{B:Bk}{s:Bool->Nat}{G:Bool->Nat->Prop}{o:Od}{rests:Bool}(h:ip w b s G B)(hof:o.Fit)(hmay:o.may=true)
  (hK:∀D A C J,ip J b s D (fj B o rests).1->HT J A C (fj B o rests).2.trades (fj B o rests).2.gone->cl (λx=>G true x\/G false x) w J->(∀d x,D d x->G d x\/w.heap.size<=x)->
   (∀x,co A x\/co C x->w.heap.size<=x/\∀d,¬D d x)->K (.agg (nL A C (fj B o rests).2.filled (fj B o rests).2.left)) J):Ca Tryz.prog 228 #[eY b,ig o,.bool rests] w K:=by
 have hol:=Od.left_bd hmay;apply OX;obtain⟨w1,e1,b1,m1⟩:=qi o w;refine ck e1 ?_;obtain⟨p,hp0⟩:∃p,p=w.heap.size:=⟨_,rfl⟩
 rw[<-hp0]at b1|-;obtain⟨q,hq0⟩:∃q,q=w1.heap.size:=⟨_,rfl⟩
 have hpq:p<q:=by have:=cn b1;omega
 have m2:cl (λ_=>False) w1 (w1.alloc (.cells #[.slice none 0 0,.slice none 0 0,.int .i64 0,.int .i64 0] 235)):=(cl.refl _ w1).alloc _;refine ck (v:=.pointer (some ⟨q,0,none⟩)) (w' :=w1.alloc (.cells #[.slice none 0 0,.slice none 0 0,.int .i64 0,.int .i64 0] 235)) (by rw[hq0];simp[go_sem]) ?_;have b2:hp (w1.alloc (.cells #[.slice none 0 0,.slice none 0 0,.int .i64 0,.int .i64 0] 235)) q=some (.cells #[.slice none 0 0,.slice none 0 0,.int .i64 0,.int .i64 0] 235 (0,0)):=by rw[hq0];simp[go_sem]
 generalize w1.alloc (.cells #[.slice none 0 0,.slice none 0 0,.int .i64 0,.int .i64 0] 235)=w2 at m2 b2|-;have c1:=m2.hpk b1 id;have M2:=m1.trans m2;have c1' :=c1;unfold da at c1';refine ck (by simp[-Int.natCast_add,go_sem,c1']<;>first|exact⟨rfl,rfl⟩|exact rfl) ?_;refine ck (by simp[-Int.natCast_add,go_sem,c1']<;>first|exact⟨rfl,rfl⟩|exact rfl) ?_;have h2:=h.mod M2 id λ_ _ _ h=>h;refine uG (s:=s) h2.blk ?_;have md:cl (λ_=>False) w2 w2.drew:=(cl.refl _ w2).drew;have M3:=M2.trans md;have h3:=h2.mod md id λ_ _ _ h=>h;have d1:=md.hpk c1 id;have d2:=md.hpk b2 id;generalize w2.drew=w3 at M3 h3 d1 d2|-;refine ck (v:=cT (s o.buy)) (w' :=w3) (by simp[go_sem]) ?_;refine ck (v:=cT (s !o.buy)) (w' :=w3) (by simp[go_sem]) ?_;have hlen:=(h.sd (!o.buy)).len;have m:∀d x,G d x->x<p:=λd x c=>by rw[hp0];exact h.lt c
 have hbp:b<p:=by rw[hp0];exact cn h.blk
 have hspl:∀d,s d<p:=λd=>m d _ ((h.sd d).self);have hu:fH G (!o.buy) (G !o.buy)=G:=by funext x;unfold fH;by_cases h:x= !o.buy<;>simp[h]
 have I0:Lh w b s G B o p q w3 o.left (B !o.buy) [] [] 0:=by
  refine⟨d1,⟨G !o.buy,.slice none 0 0,.slice none 0 0,?_,λx c=>.inl c,d2,⟨dW.nil _ _ _,dW.nil _ _ _,λx c=>by cases c⟩,λx c=>by rcases c with c|c<;>cases c⟩,M3.mono λ_ _ h=>h.elim,?_,by omega,by simp,λ_=>by simpa using hlen⟩
  ·rw[hu,Bk.set_same];exact h3
  ·unfold sw;simp
 refine cB.at (λ_ W=>∃left L t g f,Lh w b s G B o p q W left L t g f/\dU o left L=(left,L,[],[],0)) ?_ ?_
 ·refine dp (λ_ W=>∃left L t g f,Lh w b s G B o p q W left L t g f) (λ_ W=>QG W p (s !o.buy)) ⟨_,_,_,_,_,I0⟩ ?_;rintro _ W ⟨left,L,t,g,f,hI⟩ KN hKN;have hm:=hI.m;obtain⟨i1,⟨D,A,C,i2,i3,i4,i5,l⟩,i7,i8,i9,i10⟩:=id hI;have hs:=i2.sd (!o.buy);rw[Bk.set_self,eD]at hs
  have hGx:∀d x,fH G (!o.buy) D d x->x≠p/\x≠q:=λd x c=>by
   by_cases N:d= !o.buy
   ·subst N;rw[eD]at c;rcases i3 x c with j|j
    ·have:=m _ x j;omega
    ·exact j.2
   ·unfold fH at c;rw[if_neg N]at c;have:=m _ x c;omega
  have hG'x:∀x,D x->x≠p/\x≠q:=λx c=>hGx (!o.buy) x (by rw[eD];exact c);unfold Hg;intro _;have P:=i1;unfold da at P;refine ck (by simp[-Int.natCast_add,go_sem,P]<;>first|exact⟨rfl,rfl⟩|exact rfl) ?_;refine ck (by simp[-Int.natCast_add,go_sem,P]<;>first|exact⟨rfl,rfl⟩|exact rfl) ?_;by_cases z:0<left
  ·refine ck (v:=.bool true) (by simp[go_sem,z]<;>first|exact⟨rfl,rfl⟩|exact rfl) ?_;rw[ci,if_pos rfl];refine Fx hs λw4 m4=>?_;have i4a:=m4.hpk i1 id;have i4b:=m4.hpk i4 id;refine ck (v:=ig (L.head?.getD fI)) (w' :=w4) (by simp[go_sem]) ?_;refine ck (v:=.bool L.head?.isSome) (w' :=w4) (by simp[go_sem]) ?_;obtain⟨w5,e5,b5,m5⟩:=iJ w4;refine ck e5 ?_;obtain⟨r0,hr0⟩:∃r0,r0=w4.heap.size:=⟨_,rfl⟩
   rw[<-hr0]at b5|-;obtain⟨w6,e6,b6,m6⟩:=gm (o' :=L.head?.getD fI) b5;refine dI e6 ?_;have M46:cl (λ_=>False) w4 w6:=m5.on m6 λb k=>.inr (by omega);have M6:cl (λ_=>False) W w6:=m4.trans M46;have hqr:q<r0:=by have:=cn i4b;omega
   have i6a:=M46.hpk i4a id;have i6b:=M46.hpk i4b id;have hWr:W.heap.size<=r0:=by have:=m4.size;omega
   refine cB.at (λst S=>st=(.bool (decide (L.head? =none\/d9 o (L.head?.getD fI).price=false)),())/\cl (λ_=>False) w6 S) ?_ ?_
   ·cases L with
    |nil=>
     refine ck (v:=.bool true) (by simp[go_sem]<;>first|exact⟨rfl,rfl⟩|exact rfl) ?_;rw[ci,if_pos rfl];exact⟨by simp,cl.refl _ _⟩
    |cons x r=>
     refine ck (v:=.bool false) (by simp[go_sem]<;>first|exact⟨rfl,rfl⟩|exact rfl) ?_;rw[ci,if_neg Bool.false_ne_true];refine ck (gM (o:={o with left:=left}) (At.all i6a)) ?_;have b6' :=b6;unfold da at b6';refine ck (by simp[-Int.natCast_add,go_sem,b6']<;>first|exact⟨rfl,rfl⟩|exact rfl) ?_;refine ck (by simp[-Int.natCast_add,go_sem,b6']<;>first|exact⟨rfl,rfl⟩|exact rfl) ?_;refine AP (o:={o with left:=left}) (price:=x.price) λw7 m7=>?_;rw[yE];refine ck (v:=.bool (!d9 o x.price)) (w' :=w7) (by simp[go_sem]) ?_;refine⟨?_,m7⟩;simp only[List.head?_cons,Option.getD_some];rcases Bool.eq_false_or_eq_true (d9 o x.price)with hc|hc<;>simp[hc]
   rintro _ w7 ⟨rfl,m7⟩;unfold EN;intro _;have M7:=M6.trans m7;have k1:=m7.hpk i6a id;have k2:=m7.hpk i6b id;have k3:=m7.hpk b6 id;by_cases H:L.head? =none\/d9 o (L.head?.getD fI).price=false
   ·rw[ci,if_pos (by simpa using H)];refine⟨left,L,t,g,f,⟨k1,⟨D,A,C,i2.mod M7 id λ_ _ _ h=>h,i3,k2,i5.mod M7 (λ_ _ h=>h) λ_ _ h=>h,l⟩,i7.trans (M7.mono λ_ _ h=>h.elim),i8,i9,i10⟩,?_⟩;refine mz (.inr ?_);cases L with
    |nil=>exact .inl rfl
    |cons x r=>
     refine .inr ⟨x,r,rfl,?_⟩;rcases H with j|j
     ·cases j
     ·exact j
   rw[ci,if_neg (by simpa using H)];cases L with
   |nil=>exact absurd (.inl rfl) H
   |cons x r=>
   have hcr:d9 o x.price=true:=by
    cases hc:d9 o x.price with
    |true=>rfl
    |false=>exact absurd (.inr hc) H
   have hxb:=hs.may x (by simp);have hxl:=Od.left_bd hxb.1;replace i10:=i10.2 z;simp only[List.length_cons]at i10;simp only[List.head?_cons,Option.getD_some]at k3;have M:=k3;unfold da at M;have Y:=k1;unfold da at Y;have hs7:=hs.mod M7 λ_ _ h=>h;have i27:=i2.mod M7 id λ_ _ _ h=>h;have p7:=i5.mod M7 (λ_ _ h=>h) λ_ _ h=>h;have MW:cl (G (!o.buy)) w w7:=i7.trans (M7.mono λ_ _ h=>h.elim);have hsz:=i7.size;have hqW:q<W.heap.size:=cn i4;have hsz7:=M7.size
   have U:∀x,co A x\/co C x->x<W.heap.size:=λx c=>by
    rcases c with c|c
    ·exact i5.tr.lt c
    ·exact i5.go.lt c
   refine ck (by simp[-Int.natCast_add,go_sem,M]<;>first|exact⟨rfl,rfl⟩|exact rfl) ?_;refine ck (by simp[-Int.natCast_add,go_sem,M]<;>first|exact⟨rfl,rfl⟩|exact rfl) ?_;refine ck (by simp[-Int.natCast_add,go_sem,Y]<;>first|exact⟨rfl,rfl⟩|exact rfl) ?_;refine ck (by simp[-Int.natCast_add,go_sem,Y]<;>first|exact⟨rfl,rfl⟩|exact rfl) ?_;by_cases hac:x.acct=o.acct
   ·refine ck (v:=.bool true) (by simp[go_sem,hac]<;>first|exact⟨rfl,rfl⟩|exact rfl) ?_;rw[ci,if_pos rfl];refine ck (by simp[-Int.natCast_add,go_sem,M]<;>first|exact⟨rfl,rfl⟩|exact rfl) ?_;refine ck (by simp[-Int.natCast_add,go_sem,M]<;>first|exact⟨rfl,rfl⟩|exact rfl) ?_;refine GC hs7 λO w8 q8 T n8=>?_;rw[AB]at q8;have u8:=ip.upd (d:= !o.buy) i27 (by rw[eD];exact T) q8 (by rw[eD];exact n8)
    have R:∀y,y=p\/y=q\/y=r0->¬D y:=λy a u=>by
     have h1:=hG'x y u;rcases a with rfl|rfl|rfl
     ·exact h1.1 rfl
     ·exact h1.2 rfl
     ·have:=hs.lt u;omega
    have j1:=T.hpk k1 (R p (.inl rfl));have j2:=T.hpk k2 (R q (.inr (.inl rfl)));have j3:=T.hpk M (R r0 (.inr (.inr rfl)));have p8:=p7.mod T (λy a=>(l y (.inl a)).2.2.2) λy a=>(l y (.inr a)).2.2.2;refine ck (by simp[-Int.natCast_add,go_sem,j2]<;>first|exact⟨rfl,rfl⟩|exact rfl) ?_;refine ck (by simp[-Int.natCast_add,go_sem,j2]<;>first|exact⟨rfl,rfl⟩|exact rfl) ?_;refine ck (by simp[-Int.natCast_add,go_sem,j3]<;>first|exact⟨rfl,rfl⟩|exact rfl) ?_;refine ck (by simp[-Int.natCast_add,go_sem,j3]<;>first|exact⟨rfl,rfl⟩|exact rfl) ?_;refine DH (x:=x.num) (f:=Hu) O6 (cI Rr) (λ_=>rfl) DL rfl p8.go (by omega) (by omega) λX w9 o9 m9 n9=>?_;have hq9:¬co C q:=λk=>(l q (.inr k)).2.2.1 rfl;have hp9:¬co C p:=λk=>(l p (.inr k)).2.1 rfl;have j1' :=m9.hpk j1 hp9;have j2' :=m9.hpk j2 hq9;obtain⟨ga,gc,hsG',-⟩:=o9.isSl;refine ck (by simp[-Int.natCast_add,go_sem,j2']<;>first|exact⟨rfl,rfl⟩|exact rfl) ?_;obtain⟨j4,m10⟩:=B2 (i:=1) (v:=X) j2' (by omega);refine dI (w' :=w9.setCell ⟨q,1,none⟩ X) (by rw[hsG'];simp[go_sem,j2']) ?_;have hw8:=T.size;have hw9:=m9.size
    have hnew9:∀y,co X y->w.heap.size<=y/\y≠p/\y≠q:=λy a=>by
     rcases n9 y a with j|j
     ·have:=l y (.inr j);exact⟨this.1,this.2.1,this.2.2.1⟩
     ·exact⟨by omega,by omega,by omega⟩
    have V:∀y,O y->G (!o.buy) y\/(w.heap.size<=y/\y≠p/\y≠q):=λy a=>by
     rcases n8 y a with j|j
     ·exact i3 y j
     ·exact .inr ⟨by omega,by omega,by omega⟩
    have E:∀y,co A y\/co C y->¬O y:=λy a u=>by
     rcases n8 y u with j|j
     ·exact(l y a).2.2.2 j
     ·have:=U y a;omega
    have F:∀d y,fH (fH G (!o.buy) D) (!o.buy) O d y->y≠q/\¬co C y:=λd y a=>by
     by_cases N:d= !o.buy
     ·subst N;rw[eD]at a;refine⟨?_,λk=>E y (.inr k) a⟩;rcases V y a with j|j
      ·have:=m _ y j;omega
      ·exact j.2.2
     ·unfold fH at a;rw[if_neg N,if_neg N]at a;have:=m _ y a;exact⟨by omega,λk=>by have:=(l y (.inr k)).1;omega⟩
    have e2:fH (fH G (!o.buy) D) (!o.buy) O=fH G (!o.buy) O:=by funext x;unfold fH;by_cases h:x= !o.buy<;>simp[h]
    have e3:(B.set (!o.buy) (x::r)).set (!o.buy) r=B.set (!o.buy) r:=by funext x;unfold Bk.set;by_cases h:x= !o.buy<;>simp[h]
    have u9:=(u8.mod m9 (λk=>by have:=(l b (.inr k)).1;omega) λd y a=>(F d y a).2).mod m10 (by omega) λd y a=>(F d y a).1;rw[e2,e3]at u9
    have MW10:cl (G (!o.buy)) w (w9.setCell ⟨q,1,none⟩ X):=
     ((MW.on T λy a=>(i3 y a).elim .inl λj=>.inr j.1).on m9 λy a=>.inr (l y (.inr a)).1).on m10 λy a=>.inr (by omega)
    have hI' :Lh w b s G B o p q (w9.setCell ⟨q,1,none⟩ X) left r t (g++[x.num]) f:=by
     refine⟨m10.hpk j1' (by omega),⟨O,A,X,u9,V,by simpa using j4,⟨(p8.tr.mod m9 λy a Q=>p8.dj y a Q).mod m10 λy a e=>(l y (.inl a)).2.2.1 e,o9.mod m10 λy a e=>(hnew9 y a).2.2 e,λy a Q=>?_⟩,λy a=>?_⟩,MW10,?_,i9,by simp;omega,λ_=>by simp;omega⟩
     ·rcases n9 y Q with j|j
      ·exact p8.dj y a j
      ·have:=U y (.inl a);omega
     ·rcases a with a|a
      ·have:=l y (.inl a);exact⟨this.1,this.2.1,this.2.2.1,E y (.inl a)⟩
      ·have h1:=hnew9 y a;refine⟨h1.1,h1.2.1,h1.2.2,λu=>?_⟩;rcases n9 y a with j|j
       ·exact E y (.inr j) u
       ·have:=q8.lt u;omega
     ·rw[i8,De z hcr hac]
    refine hKN _ _ ⟨_,_,_,_,_,hI'⟩ ?_;rw[hI'.m,hm];simp only[List.length_cons];split<;>omega
   ·refine ck (v:=.bool false) (by simp[go_sem,hac]<;>first|exact⟨rfl,rfl⟩|exact rfl) ?_;rw[ci,if_neg Bool.false_ne_true];obtain⟨n,hn⟩:∃n:Int,n=if left<x.left then left else x.left:=⟨_,rfl⟩
    have hn1:1<=n/\n<=x.left/\n<=left:=by rw[hn];split<;>omega
    refine ck (by simp[-Int.natCast_add,go_sem,Y]<;>first|exact⟨rfl,rfl⟩|exact rfl) ?_;refine ck (by simp[-Int.natCast_add,go_sem,Y]<;>first|exact⟨rfl,rfl⟩|exact rfl) ?_;refine ck (by simp[-Int.natCast_add,go_sem,M]<;>first|exact⟨rfl,rfl⟩|exact rfl) ?_;refine ck (by simp[-Int.natCast_add,go_sem,M]<;>first|exact⟨rfl,rfl⟩|exact rfl) ?_;refine fi (v:=.int .i64 n) (w' :=w7) (by rw[hn];simp[go_sem];split<;>omega) ?_;refine Fq hs7 hn1.1 hn1.2.1 λO w8 q8 T n8=>?_;have u8:=ip.upd (d:= !o.buy) i27 (by rw[eD];exact T) q8 (by rw[eD];exact n8)
    have R:∀y,y=p\/y=q\/y=r0->¬D y:=λy a u=>by
     have h1:=hG'x y u;rcases a with rfl|rfl|rfl
     ·exact h1.1 rfl
     ·exact h1.2 rfl
     ·have:=hs.lt u;omega
    have j1:=T.hpk Y (R p (.inl rfl));have j2:=T.hpk k2 (R q (.inr (.inl rfl)));have j3:=T.hpk M (R r0 (.inr (.inr rfl)));have p8:=p7.mod T (λy a=>(l y (.inl a)).2.2.2) λy a=>(l y (.inr a)).2.2.2;have hw8:=T.size;refine ck (by simp[-Int.natCast_add,go_sem,j1]<;>first|exact⟨rfl,rfl⟩|exact rfl) ?_;refine ck (by simp[-Int.natCast_add,go_sem,j1]<;>first|exact⟨rfl,rfl⟩|exact rfl) ?_;refine ck (v:=.int .i64 (left - n)) (w' :=w8) (by simp[go_sem];rw[cV (by omega) (by omega)]) ?_;refine ck (by simp[-Int.natCast_add,go_sem,j1]<;>first|exact⟨rfl,rfl⟩|exact rfl) ?_;refine dI (w' :=w8.setCell ⟨p,4,none⟩ (.int .i64 (left - n))) (by simp[go_sem,j1]) ?_;have ma:cl (λb=>b=p) w8 (w8.setCell ⟨p,4,none⟩ (.int .i64 (left - n))):=(cl.refl (λb=>b=p) w8).setCell (.inl rfl) _ _;have ja:hp (w8.setCell ⟨p,4,none⟩ (.int .i64 (left - n))) p=some (.cells (da {o with left:=left - n}).toArray ir (0,0)):=by simp[go_sem,j1,da]
    have jb:=ma.hpk j2 (by omega);have jc:=ma.hpk j3 (by omega);generalize w8.setCell ⟨p,4,none⟩ (.int .i64 (left - n))=wa at ma ja jb jc|-;refine ck (by simp[-Int.natCast_add,go_sem,jb]<;>first|exact⟨rfl,rfl⟩|exact rfl) ?_;refine ck (by simp[-Int.natCast_add,go_sem,jb]<;>first|exact⟨rfl,rfl⟩|exact rfl) ?_;refine ck (v:=.int .i64 (f+n)) (w' :=wa) (by simp[go_sem];rw[cV (by omega) (by omega)]) ?_;refine ck (by simp[-Int.natCast_add,go_sem,jb]<;>first|exact⟨rfl,rfl⟩|exact rfl) ?_;refine dI (w' :=wa.setCell ⟨q,2,none⟩ (.int .i64 (f+n))) (by simp[go_sem,jb]) ?_;obtain⟨kb,mb⟩:=B2 (i:=2) (v:=.int .i64 (f+n)) jb (by omega);have kb' :hp (wa.setCell ⟨q,2,none⟩ (.int .i64 (f+n))) q=some (.cells #[A,C,.int .i64 (f+n),.int .i64 0] 235 (0,0)):=by simpa using kb
    have ka:=mb.hpk ja (by omega);have kc:=mb.hpk jc (by omega);generalize wa.setCell ⟨q,2,none⟩ (.int .i64 (f+n))=wb at mb kb' ka kc|-;have mab:cl (λy=>y=p\/y=q) w8 wb:=(ma.mono λy _ h=>.inl h).trans (mb.mono λy _ h=>.inr h)
    have hpl:∀y,co A y\/co C y->¬(y=p\/y=q):=λy a e=>by
     have:=l y a;rcases e with e|e
     ·exact this.2.1 e
     ·exact this.2.2.1 e
    have pb:=p8.mod mab (λy a=>hpl y (.inl a)) λy a=>hpl y (.inr a);have hsb:=mab.size;refine ck (by simp[-Int.natCast_add,go_sem,kb']<;>first|exact⟨rfl,rfl⟩|exact rfl) ?_;refine ck (by simp[-Int.natCast_add,go_sem,kb']<;>first|exact⟨rfl,rfl⟩|exact rfl) ?_;refine ck (by simp[-Int.natCast_add,go_sem,kc]<;>first|exact⟨rfl,rfl⟩|exact rfl) ?_;refine ck (by simp[-Int.natCast_add,go_sem,kc]<;>first|exact⟨rfl,rfl⟩|exact rfl) ?_;refine ck (by simp[-Int.natCast_add,go_sem,kc]<;>first|exact⟨rfl,rfl⟩|exact rfl) ?_;refine ck (by simp[-Int.natCast_add,go_sem,kc]<;>first|exact⟨rfl,rfl⟩|exact rfl) ?_;refine ck (by simp[-Int.natCast_add,go_sem,kc]<;>first|exact⟨rfl,rfl⟩|exact rfl) ?_;refine ck (by simp[-Int.natCast_add,go_sem,kc]<;>first|exact⟨rfl,rfl⟩|exact rfl) ?_;refine ck (v:=.agg (L1 ⟨x.price,n,x.num,x.acct⟩).toArray) (w' :=wb) (by simp[go_sem,L1]) ?_;refine DH (x:=(⟨x.price,n,x.num,x.acct⟩:Td)) (f:=L1) Ra (cI Sl) (λ_=>rfl) I4 rfl pb.tr (by omega) (by omega) λZ wc oc mc nc=>?_;have hqc:¬co A q:=λk=>(l q (.inl k)).2.2.1 rfl;have hpc:¬co A p:=λk=>(l p (.inl k)).2.1 rfl;have la:=mc.hpk ka hpc;have lb:=mc.hpk kb' hqc;have hsc:=mc.size;obtain⟨ga,gc,hsT',-⟩:=oc.isSl;refine ck (by simp[-Int.natCast_add,go_sem,lb]<;>first|exact⟨rfl,rfl⟩|exact rfl) ?_;obtain⟨ld,mdd⟩:=B2 (i:=0) (v:=Z) lb (by omega);refine dI (w' :=wc.setCell ⟨q,0,none⟩ Z) (by rw[hsT'];simp[go_sem,lb]) ?_
    have hnewc:∀y,co Z y->w.heap.size<=y/\y≠p/\y≠q:=λy a=>by
     rcases nc y a with j|j
     ·have:=l y (.inl j);exact⟨this.1,this.2.1,this.2.2.1⟩
     ·exact⟨by omega,by omega,by omega⟩
    have V:∀y,O y->G (!o.buy) y\/(w.heap.size<=y/\y≠p/\y≠q):=λy a=>by
     rcases n8 y a with j|j
     ·exact i3 y j
     ·exact .inr ⟨by omega,by omega,by omega⟩
    have E:∀y,co A y\/co C y->¬O y:=λy a u=>by
     rcases n8 y u with j|j
     ·exact(l y a).2.2.2 j
     ·have:=U y a;omega
    have F:∀d y,fH (fH G (!o.buy) D) (!o.buy) O d y->y≠p/\y≠q/\¬co A y:=λd y a=>by
     by_cases N:d= !o.buy
     ·subst N;rw[eD]at a;refine⟨?_,?_,λk=>E y (.inl k) a⟩
      ·rcases V y a with j|j
       ·have:=m _ y j;omega
       ·exact j.2.1
      ·rcases V y a with j|j
       ·have:=m _ y j;omega
       ·exact j.2.2
     ·unfold fH at a;rw[if_neg N,if_neg N]at a;have:=m _ y a;exact⟨by omega,by omega,λk=>by have:=(l y (.inl k)).1;omega⟩
    have e2:fH (fH G (!o.buy) D) (!o.buy) O=fH G (!o.buy) O:=by funext x;unfold fH;by_cases h:x= !o.buy<;>simp[h]
    have e3:(B.set (!o.buy) (x::r)).set (!o.buy) (fQ (x::r) n)=B.set (!o.buy) (fQ (x::r) n):=by funext x;unfold Bk.set;by_cases h:x= !o.buy<;>simp[h]
    have u9:=((u8.mod mab (λk=>by rcases k with k|k<;>omega) λd y a k=>by rcases k with k|k;exact(F d y a).1 k;exact(F d y a).2.1 k).mod mc (λk=>by have:=(l b (.inl k)).1;omega) λd y a=>(F d y a).2.2).mod mdd (by omega) λd y a=>(F d y a).2.1;rw[e2,e3]at u9
    have MW10:cl (G (!o.buy)) w (wc.setCell ⟨q,0,none⟩ Z):=
     (((MW.on T λy a=>(i3 y a).elim .inl λj=>.inr j.1).on mab λy a=>.inr (by rcases a with a|a<;>omega)).on mc λy a=>.inr (l y (.inl a)).1).on mdd λy a=>.inr (by omega)
    have hfl:(fQ (x::r) n).length<=r.length+1:=by unfold fQ;simp only;split<;>simp
    have hI' :Lh w b s G B o p q (wc.setCell ⟨q,0,none⟩ Z) (left - n) (fQ (x::r) n) (t++[⟨x.price,n,x.num,x.acct⟩]) g (f+n):=by
     refine⟨mdd.hpk la (by omega),⟨O,Z,C,u9,V,by simpa using ld,⟨oc.mod mdd λy a e=>(hnewc y a).2.2 e,(pb.go.mod mc λy a Q=>pb.dj y Q a).mod mdd λy a e=>(l y (.inr a)).2.2.1 e,λy a Q=>?_⟩,λy a=>?_⟩,MW10,?_,by omega,?_⟩
     ·rcases nc y a with j|j
      ·exact pb.dj y j Q
      ·have:=U y (.inr Q);omega
     ·rcases a with a|a
      ·have h1:=hnewc y a;refine⟨h1.1,h1.2.1,h1.2.2,λu=>?_⟩;rcases nc y a with j|j
       ·exact E y (.inl j) u
       ·have:=q8.lt u;omega
      ·have:=l y (.inr a);exact⟨this.1,this.2.1,this.2.2.1,E y (.inr a)⟩
     ·rw[i8];by_cases I:left<x.left
      ·rw[if_pos I]at hn;subst hn;rw[CP z hcr hac I];have e1:fQ (x::r) n={x with left:=x.left - n}::r:=by unfold fQ;simp only;rw[if_neg (by omega)]
       rw[e1,Int.sub_self]
      ·rw[if_neg I]at hn;subst hn;rw[CL z hcr hac I];have e1:fQ (x::r) x.left=r:=by unfold fQ;simp
       rw[e1]
     ·rw[List.length_append,List.length_singleton];refine⟨by omega,λhl' =>?_⟩;by_cases I:left<x.left
      ·rw[if_pos I]at hn;omega
      ·rw[if_neg I]at hn;have e1:fQ (x::r) n=r:=by unfold fQ;rw[hn];simp
       rw[e1];omega
    refine hKN _ _ ⟨_,_,_,_,_,hI'⟩ ?_;rw[hI'.m,hm];simp only[List.length_cons];by_cases I:left<x.left
    ·rw[if_pos I]at hn;have:¬0<left - n:=by omega
     rw[if_neg this,if_pos z];omega
    ·rw[if_neg I]at hn;have e1:fQ (x::r) n=r:=by unfold fQ;rw[hn];simp
     rw[e1];split<;>omega
  ·refine ck (v:=.bool false) (by simp[go_sem,z]<;>first|exact⟨rfl,rfl⟩|exact rfl) ?_;rw[ci,if_neg Bool.false_ne_true];exact⟨left,L,t,g,f,hI,mz (.inl (by omega))⟩
 rintro⟨⟩ W ⟨left,L,t,g,f,hI,hdone⟩;obtain⟨i1,⟨D,A,C,i2,i3,i4,i5,l⟩,i7,i8,i9,i10⟩:=id hI;rw[hdone]at i8;have c:dU o o.left (B !o.buy)=(left,L,t,g,f):=by rw[i8];simp[sw]
 unfold G6;intro _;have P:=i1;unfold da at P
 have fin:∀(S:World) (O:Bool->Nat->Prop) (B' :Bk) (lf:Int),hp S q=some (.cells (nL A C f lf) 235 (0,0))->ip S b s O B' ->HT S A C t g->cl (λx=>G true x\/G false x) w S->(∀d x,O d x->x≠q/\(G d x\/w.heap.size<=x))->
   (∀x,co A x\/co C x->∀d,¬O d x)->(fj B o rests)=(B',⟨t,g,f,lf⟩)->
   rv Tryz.prog (Instr.loadAt 235 (.pointer (some ⟨q,0,none⟩))) S λv156 w157=>
    ru Tryz.prog (Instr.storeAt 235 (.pointer (some ⟨q,0,none⟩)) v156) w157 λw158=>
    sY Tryz.prog (Instr.loadAt 235 (.pointer (some ⟨q,0,none⟩))) w158 λv159=>K v159 w158:=by
  intro S O B' lf k1 k2 k3 k4 k5 k6 k7;obtain⟨ta,tc,hsT,-⟩:=k3.tr.isSl;obtain⟨ga,gc,hsG,-⟩:=k3.go.isSl;unfold nL at k1;refine ck (v:=.agg (nL A C f lf)) (w' :=S) (by simp[go_sem,k1,nL]) ?_
  obtain⟨W2,hst,hW2,m2⟩:∃W2,(Instr.storeAt 235 (.pointer (some ⟨q,0,none⟩)) (.agg (nL A C f lf))).run Tryz.prog S=.ok () W2/\hp W2 q=some (.cells (nL A C f lf) 235 (0,0))/\cl (λb=>b=q) S W2:=by
   refine⟨(((S.setCell ⟨q,0,none⟩ A).setCell ⟨q,1,none⟩ C).setCell ⟨q,2,none⟩ (.int .i64 f)).setCell ⟨q,3,none⟩ (.int .i64 lf),?_,?_,((((cl.refl (λb=>b=q) S).setCell (.inl rfl) _ _).setCell (.inl rfl) _ _).setCell (.inl rfl) _ _).setCell (.inl rfl) _ _⟩
   ·rw[hsT,hsG]at k1|-;simp[go_sem,k1,nL]
   ·simp[go_sem,k1,nL]
  refine dI hst ?_;unfold nL at hW2;refine cx (v:=.agg (nL A C f lf)) (by simp[go_sem,hW2,nL]) ?_;have hk:=hK O A C W2;rw[k7]at hk;refine hk (k2.mod m2 (by omega) λd x c=>(k5 d x c).1) (k3.mod m2 (λx c=>(l x (.inl c)).2.2.1) λx c=>(l x (.inr c)).2.2.1) (k4.on m2 λx c=>.inr (by omega)) (λd x c=>(k5 d x c).2) λx c=>⟨(l x c).1,k6 x c⟩
 have mfull:cl (λx=>G true x\/G false x) w W:=i7.mono λx _ c=>by
  cases k:o.buy<;>rw[k]at c
  ·exact .inl c
  ·exact .inr c
 have hG1:∀d x,fH G (!o.buy) D d x->x≠p/\x≠q/\(G d x\/w.heap.size<=x):=λd x c=>by
  by_cases N:d= !o.buy
  ·subst N;rw[eD]at c;rcases i3 x c with j|j
   ·have:=m _ x j;exact⟨by omega,by omega,.inl j⟩
   ·exact⟨j.2.1,j.2.2,.inr j.1⟩
  ·unfold fH at c;rw[if_neg N]at c;have:=m _ x c;exact⟨by omega,by omega,.inl c⟩
 have hS1:∀x,co A x\/co C x->∀d,¬fH G (!o.buy) D d x:=λx c d u=>by
  by_cases N:d= !o.buy
  ·subst N;rw[eD]at u;exact(l x c).2.2.2 u
  ·unfold fH at u;rw[if_neg N]at u;have:=m _ x u;have:=(l x c).1;omega
 refine cB.at (λst S=>st=(.bool (decide (rests=true/\0<left)),())/\S=W) ?_ ?_
 ·cases rests with
  |true=>
   rw[ci,if_pos rfl];refine ck (by simp[-Int.natCast_add,go_sem,P]<;>first|exact⟨rfl,rfl⟩|exact rfl) ?_;refine ck (by simp[-Int.natCast_add,go_sem,P]<;>first|exact⟨rfl,rfl⟩|exact rfl) ?_;refine ck (v:=.bool (decide (0<left))) (w' :=W) (by simp[go_sem]) ?_;exact⟨by simp,rfl⟩
  |false=>
   rw[ci,if_neg Bool.false_ne_true];exact⟨by simp,rfl⟩
 rintro _ W ⟨rfl,rfl⟩;unfold EI;intro _;by_cases hr:rests=true/\0<left
 ·rw[ci,if_pos (by simpa using hr)];refine ck (gM (o:={o with left:=left}) (At.all i1)) ?_;have hown:=i2.sd o.buy;have hbn:(o.buy= !o.buy)=False:=by cases o.buy<;>simp
  have e1:B.set (!o.buy) L o.buy=B o.buy:=by unfold Bk.set;rw[if_neg (by rw[hbn];exact id)]
  have e2:fH G (!o.buy) D o.buy=G o.buy:=by unfold fH;rw[if_neg (by rw[hbn];exact id)]
  rw[e1,e2]at hown;have hf' :Od.Fit {o with left:=left}:=⟨hof.1,hof.2.1,hof.2.2.1,by unfold eQ;simp only;omega⟩
  refine IK hown hf' λG3 w4 q4 m4 n4=>?_;have u4:=ip.upd (d:=o.buy) i2 (by rw[e2];exact m4) q4 (by rw[e2];exact n4);have hp4:¬G o.buy p:=λu=>by have:=m _ p u;omega
  have hq4:¬G o.buy q:=λu=>by have:=m _ q u;omega
  have j1:=m4.hpk P hp4;have j2:=m4.hpk i4 hq4;refine ck (by simp[-Int.natCast_add,go_sem,j1]<;>first|exact⟨rfl,rfl⟩|exact rfl) ?_;refine ck (by simp[-Int.natCast_add,go_sem,j1]<;>first|exact⟨rfl,rfl⟩|exact rfl) ?_;refine ck (by simp[-Int.natCast_add,go_sem,j2]<;>first|exact⟨rfl,rfl⟩|exact rfl) ?_;refine dI (w' :=w4.setCell ⟨q,3,none⟩ (.int .i64 left)) (by simp[go_sem,j2]) ?_;obtain⟨j3,m5⟩:=B2 (i:=3) (v:=.int .i64 left) j2 (by omega);have hsW:=i7.size;have hqW:q<W.heap.size:=cn i4
  have h2G:∀d x,fH (fH G (!o.buy) D) o.buy G3 d x->x≠q/\(G d x\/w.heap.size<=x)/\¬co A x/\¬co C x:=λd x c=>by
   by_cases N:d=o.buy
   ·subst N;rw[eD]at c;rcases n4 x c with j|j
    ·have:=m _ x j;exact⟨by omega,.inl j,λk=>by have:=(l x (.inl k)).1;omega,λk=>by have:=(l x (.inr k)).1;omega⟩
    ·exact⟨by omega,.inr (by omega),λk=>by have:=i5.tr.lt k;omega,λk=>by have:=i5.go.lt k;omega⟩
   ·have hx' :fH G (!o.buy) D d x:=by
     have:fH (fH G (!o.buy) D) o.buy G3 d=fH G (!o.buy) D d:=by
      conv=>lhs;unfold fH
      rw[if_neg N];rfl
     rw[this]at c;exact c
    have h1:=hG1 d x hx';exact⟨h1.2.1,h1.2.2,λk=>hS1 x (.inl k) d hx',λk=>hS1 x (.inr k) d hx'⟩
  refine fin _ (fH (fH G (!o.buy) D) o.buy G3) _ left (by simpa [nL]using j3) (u4.mod m5 (by omega) λd x c=>(h2G d x c).1)
   ((i5.mod m4 (λx c u=>by have:=m _ x u;have:=(l x (.inl c)).1;omega) λx c u=>by have:=m _ x u;have:=(l x (.inr c)).1;omega).mod m5 (λx c=>(l x (.inl c)).2.2.1) λx c=>(l x (.inr c)).2.2.1)
   ((mfull.on m4 λx c=>.inl (by cases k:o.buy<;>rw[k]at c;exact .inr c;exact .inl c)).on m5 λx c=>.inr (by omega)) (λd x c=>⟨(h2G d x c).1,(h2G d x c).2.1⟩) (λx c d u=>by rcases c with c|c;exact(h2G d x u).2.2.1 c;exact(h2G d x u).2.2.2 c) ?_
  unfold fj;rw[c];simp only;rw[if_pos hr,e1]
 ·rw[ci,if_neg (by simpa using hr)];refine fin W (fH G (!o.buy) D) _ 0 i4 i2 i5 mfull (λd x c=>⟨(hG1 d x c).2.1,(hG1 d x c).2.2⟩) hS1 ?_;unfold fj;rw[c];simp only;rw[if_neg hr]
end Go.Proofs
