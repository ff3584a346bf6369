/- The statement VenueNone: for every input the law returns true; arguments stay. Conditions: none. -/
import Derived.Test.YtnfloameajanhaaGreatZ8
set_option linter.all false
namespace Go.Vc
open Go Go.ChangeShapes Go.WideShapes Go.ChangeAt Go.RowKit
section
variable{H:Type}{enc:TypeId×Value->H}{P:Program}
def T9{t e:TypeId}{k:IntKind}{w:World}{f:Nat}{c:Nat->Bool}{held:Bool}{g:Nat}{cs:List Value}{x:DataW H×List MemPlace}
  (q:P.underlying t=some (.slice e))(y:P.underlying e=some (.int k))(z:P.cellsOf e=1)(o:DataW.trod enc P w f c held g t cs=some x):
  ∃v,cs=[v]/\∃b:List Int,Rd w 1 v b.length (b.map λn=>.int k n)/\∀n∈b,(Lit.int k n).wf=true:=by
 rcases open_ints q y z o with⟨rfl,-⟩|⟨a,len,r,b,rfl,-,l,-,s,-,d,h⟩
 ·exact⟨_,rfl,[],⟨rfl,.inl ⟨rfl,_,_,rfl⟩⟩,by simp⟩
 ·have p:len<=b.length:=by rw[s];split<;>omega
  refine⟨_,rfl,b.take len,?_,λn u=>h n (ek u)⟩;have e:(b.take len).length=len:=by simp;omega
  rw[e];refine mJ l (by simp;omega) (λi v m=>?_) (by omega)
  have j:i<len:=by
   have:=(cP.1 m).1;simp at this;omega
  rw[d i (by omega),<-m];simp[dO,iE,j,show i<b.length by omega,List.getD]
def T6{t e:TypeId}{k:IntKind}{r:Reach}{l:Nat}{w:World}{v:Value}{d:DataW H}{j:List MemPlace}(c:P.underlying t=some (.slice e))(m:P.underlying e=some (.int k))(o:P.cellsOf e=1)
  (a:Value.okWide P w r l t v)(b:DataW.Trod enc P w 0 (λ_=>true) true t v d j):
  ∃f:List Int,Rd w 1 v f.length (f.map λn=>.int k n)/\∀n∈f,(Lit.int k n).wf=true:=by
 have g:v.cells.toList=[v]:=by
  unfold Value.okWide at a;rw[c]at a;simp only[Cell.okWide,c]at a;unfold Cell.ok at a;rw[c]at a;cases v<;>first|rfl|exact a.elim
 obtain⟨i,b⟩:=b;rw[g]at b;obtain⟨p,e,h⟩:=T9 c m o b;cases e;exact h
def Jj{a:List Int}(h:∀n∈a,(Lit.int .u8 n).wf=true):bv (a.map λn=>UInt8.ofNat n.toNat)=a.map λn=>.int .u8 n:=by
 simp only[bv,dQ];refine dt λn c=>?_;have b:=h n c;simp[Lit.wf,IntKind.min,IntKind.max,IntKind.signed,IntKind.bits]at b;simp only[Function.comp,Value.int.injEq,tJ];simp;omega
def TP{t e:TypeId}{r:Reach}{i:Nat}{w:World}{v:Value}{d:DataW H}{h:List MemPlace}(f:P.underlying t=some (.slice e))(k:P.underlying e=some (.int .u8))(m:P.cellsOf e=1)
  (a:Value.okWide P w r i t v)(b:DataW.Trod enc P w 0 (λ_=>true) true t v d h):
  ∃l:List UInt8,Rd w 1 v l.length (bv l):=by
 obtain⟨g,j,c⟩:=T6 f k m a b;refine⟨g.map λn=>UInt8.ofNat n.toNat,?_⟩;rw[Jj c,cz];exact j
end
end Go.Vc
set_option maxRecDepth 100000
namespace Go.Proofs
open Go Go.Vc
section
variable{a b c:Vt_}{W:Wt_}{Z:cG}
def J24_0(a:cG)(b:T2)(c:T2->Wp)(d:T1)(e:Wt_):=NV->cV d.1 (a bF e) (g1 b.2.1 e λf g=>c (b.1,f,()) g)
def L3_1(a b c d:Vt_)(e:cG)(f:T2)(g:Wt_)(h:T2->Wp):=gc f.2.1 a g λi j=>cV i (uB 40 b f.2.1 39 j λk l=>dz 30 c 1 23 l λm n=>Ca pQ 14 #[k,m] n λo p=>nR o p λq r s=>gv 42 q s λt u=>jW (λv=>gp (Instr.build 52 #[(0,(gI 1))]) λw=>Ca pQ 15 #[k,d] u.drew λx y=>pS pQ (uL 31 9 x) y λz=>Ca pQ 16 #[w] y λA B=>Sem.run pQ (uL 31 9 x) B=.ok z B/\(pS pQ (uL 31 9 A) B λC=>my .neq 9 false z C λD=>cV D (v (bT,()) B) (pS pQ (fH 30 c) B λE=>gp (Instr.build 52 #[(0,(gI 1))]) λF=>Ca pQ 18 #[k,E] B λG H=>Ca pQ 17 #[G,F] H λI J=>gp (Op.unary .not I) λK=>cV K (v (bT,()) J) (my .neq 43 true r (gI 1) λL=>cV L (v (bT,()) J) (gp (Instr.build 61 #[]) λM=>Ca pQ 20 #[k] J λN O=>Ca pQ 19 #[N,M] O λP Q=>gp (Op.unary .not P) λR=>cV R (v (bT,()) Q) (Ca pQ 21 #[k] Q λS T=>my .neq 39 true S (.pointer none) λU=>v (U,()) T)))))) (J24_0 e f h)) (Ca pQ 13 #[] j e)
def ca3(o:gq 30 a W λc d=>gn 31 false b d λe f=>gb .gtr 3 true e (gI 2000) f λg h=>cV g (Ca pQ 13 #[] h Z) (ga 38 h λi j=>gx (jQ 40 2 [(0,(.pointer none)),(1,i)]) j λk l=>gn 40 false k l λm n=>qB (L3_1 m k c b Z) (bF,(gI 0),()) n)):Ca pQ 3 #[a,b] W Z:=cj Tryz.func3 o
def GO(a b:Vt_)(c:cG)(d:T2)(e:Wt_)(f:T2->Wp):=NV->dz 52 a 6 50 e λg h=>gn 50 false g h λi j=>gb .lss 3 false d.2.1 i j λk l=>cV k (gY 52 a 6 50 l.drew λm=>mf 50 m d.2.1 λn=>eP 23 n l.drew λo=>gY 52 b 6 50 l.drew λp=>mf 50 p d.2.1 λq=>eP 23 q l.drew λr=>my .neq 23 false o r λs=>cV s (c bF l.drew) (g1 d.2.1 l.drew λt u=>f (d.1,t,()) u)) (c bT l)
def HP(a b:Vt_)(c:cG)(d:T2)(e:Wt_)(f:T2->Wp):=NV->dz 52 a 5 49 e λg h=>gn 49 false g h λi j=>gb .lss 3 false d.2.1 i j λk l=>cV k (gY 52 a 5 49 l.drew λm=>mf 49 m d.2.1 λn=>eP 24 n l.drew λo=>gY 52 b 5 49 l.drew λp=>mf 49 p d.2.1 λq=>eP 24 q l.drew λr=>my .neq 24 false o r λs=>cV s (c bF l.drew) (g1 d.2.1 l.drew λt u=>f (d.1,t,()) u)) (qB (GO a b c) (d.1,(gI 0),()) l)
def Hc(a b:Vt_)(c:cG)(d:T2)(e:Wt_)(f:T2->Wp):=NV->dz 52 a 4 48 e λg h=>gn 48 false g h λi j=>gb .lss 3 false d.2.1 i j λk l=>cV k (gY 52 a 4 48 l.drew λm=>mf 48 m d.2.1 λn=>eP 111 n l.drew λo=>gY 52 b 4 48 l.drew λp=>mf 48 p d.2.1 λq=>eP 111 q l.drew λr=>my .neq 111 false o r λs=>cV s (c bF l.drew) (g1 d.2.1 l.drew λt u=>f (d.1,t,()) u)) (qB (HP a b c) (d.1,(gI 0),()) l)
def HD(a:cG)(b c:Vt_)(d:T1)(e:Wt_):=NV->cV d.1 (a bF e) (qB (Hc b c a) (bF,(gI 0),()) e)
def XF(h0:gq 52 a W λc d=>gq 52 b d λe f=>jW (λg=>dz 52 c 0 43 f λh i=>dz 52 e 0 43 i λj k=>gb .neq 43 false h j k λl m=>cV l (g (bT,()) m) (dz 52 c 1 24 m λn o=>dz 52 e 1 24 o λp q=>gb .neq 24 false n p q λr s=>cV r (g (bT,()) s) (dz 52 c 2 2 s λt u=>dz 52 e 2 2 u λv w=>gb .neq 2 false t v w λx y=>cV x (g (bT,()) y) (dz 52 c 3 2 y λz A=>dz 52 e 3 2 A λB C=>gb .neq 2 false z B C λD E=>cV D (g (bT,()) E) (dz 52 c 4 48 E λF G=>gn 48 false F G λH I=>dz 52 e 4 48 I λJ K=>gn 48 false J K λL M=>gb .neq 3 false H L M λN O=>cV N (g (bT,()) O) (dz 52 c 5 49 O λP Q=>gn 49 false P Q λR S=>dz 52 e 5 49 S λT U=>gn 49 false T U λV X=>gb .neq 3 false R V X λY aa=>cV Y (g (bT,()) aa) (dz 52 c 6 50 aa λab ac=>gn 50 false ab ac λad ae=>dz 52 e 6 50 ae λaf ag=>gn 50 false af ag λah ai=>gb .neq 3 false ad ah ai λaj ak=>g (aj,()) ak))))))) (HD Z c e)):Ca pQ 17 #[a,b] W Z:=cj Tryz.func17 h0
def Bi(a b:Vt_)(c:cG)(d:T2)(e:Wt_)(f:T2->Wp):=NV->dz 61 a 5 58 e λg h=>gn 58 false g h λi j=>gb .lss 3 false d.2.1 i j λk l=>cV k (gY 61 a 5 58 l.drew λm=>mf 58 m d.2.1 λn=>eP 79 n l.drew λo=>gY 61 b 5 58 l.drew λp=>mf 58 p d.2.1 λq=>eP 79 q l.drew λr=>my .neq 79 false o r λs=>cV s (c bF l.drew) (g1 d.2.1 l.drew λt u=>f (d.1,t,()) u)) (dz 61 a 6 59 l λv w=>dz 61 b 6 59 w λx y=>Ca pQ 40 #[v,x] y λz A=>cV z (dz 61 a 7 59 A λB C=>dz 61 b 7 59 C λD E=>Ca pQ 40 #[B,D] E c) (c bF A))
def BL(a b:Vt_)(c:cG)(d:T2)(e:Wt_)(f:T2->Wp):=NV->dz 61 a 4 57 e λg h=>gn 57 false g h λi j=>gb .lss 3 false d.2.1 i j λk l=>cV k (gY 61 a 4 57 l.drew λm=>mf 57 m d.2.1 λn=>pS pQ (fH 83 n) l.drew λo=>gY 61 b 4 57 l.drew λp=>mf 57 p d.2.1 λq=>pS pQ (fH 83 q) l.drew λr=>my .neq 83 false o r λs=>cV s (c bF l.drew) (g1 d.2.1 l.drew λt u=>f (d.1,t,()) u)) (qB (Bi a b c) (d.1,(gI 0),()) l)
def Bp(a b:Vt_)(c:cG)(d:T2)(e:Wt_)(f:T2->Wp):=NV->dz 61 a 3 56 e λg h=>gn 56 false g h λi j=>gb .lss 3 false d.2.1 i j λk l=>cV k (gY 61 a 3 56 l.drew λm=>mf 56 m d.2.1 λn=>eP 70 n l.drew λo=>gY 61 b 3 56 l.drew λp=>mf 56 p d.2.1 λq=>eP 70 q l.drew λr=>my .neq 70 false o r λs=>cV s (c bF l.drew) (g1 d.2.1 l.drew λt u=>f (d.1,t,()) u)) (qB (BL a b c) (d.1,(gI 0),()) l)
def Bl(a:cG)(b c:Vt_)(d:T1)(e:Wt_):=NV->cV d.1 (a bF e) (qB (Bp b c a) (bF,(gI 0),()) e)
def Pz(h0:gq 61 a W λc d=>gq 61 b d λe f=>jW (λg=>dz 61 c 0 23 f λh i=>dz 61 e 0 23 i λj k=>gb .neq 23 false h j k λl m=>cV l (g (bT,()) m) (dz 61 c 1 24 m λn o=>dz 61 e 1 24 o λp q=>gb .neq 24 false n p q λr s=>cV r (g (bT,()) s) (dz 61 c 2 2 s λt u=>dz 61 e 2 2 u λv w=>gb .neq 2 false t v w λx y=>cV x (g (bT,()) y) (dz 61 c 3 56 y λz A=>gn 56 false z A λB C=>dz 61 e 3 56 C λD E=>gn 56 false D E λF G=>gb .neq 3 false B F G λH I=>cV H (g (bT,()) I) (dz 61 c 4 57 I λJ K=>gn 57 false J K λL M=>dz 61 e 4 57 M λN O=>gn 57 false N O λP Q=>gb .neq 3 false L P Q λR S=>cV R (g (bT,()) S) (dz 61 c 5 58 S λT U=>gn 58 false T U λV X=>dz 61 e 5 58 X λY aa=>gn 58 false Y aa λab ac=>gb .neq 3 false V ab ac λad ae=>g (ad,()) ae)))))) (Bl Z c e)):Ca pQ 19 #[a,b] W Z:=cj Tryz.func19 h0
def Bu(a b:Vt_)(c:cG)(d:T2)(e:Wt_)(f:T2->Wp):=NV->gn 59 false a e λg h=>gb .lss 3 false d.2.1 g h λi j=>cV i (mf 59 a d.2.1 λk=>eP 76 k j.drew λl=>mf 59 b d.2.1 λm=>eP 76 m j.drew λn=>my .neq 76 false l n λo=>cV o (c bF j.drew) (g1 d.2.1 j.drew λp q=>f (d.1,p,()) q)) (c bT j)
def Sa(i:gn 59 false a W λc d=>gn 59 false b d λe f=>gb .neq 3 false c e f λg h=>cV g (Z bF h) (qB (Bu a b Z) (bF,(gI 0),()) h)):Ca pQ 40 #[a,b] W Z:=cj Tryz.func40 i
end
end Go.Proofs
namespace Go.Proofs
open Go Go.Vc
attribute [local congr] cR
variable {w:Wt_}{K:cG}
def YG(x y:List UInt8)(w:Wt_):(qE .neq 9 false (.string (tY x)) (.string (tY y))).run pQ w=.ok (.bool (decide (x≠y))) w:=by
 simp[go_sem];by_cases h:x=y<;>simp[h]
def jZ(x:Int×Od):(ju x).length=6:=rfl
abbrev kU:TypeId:=59
def xC:Tryz.prog.underlying kU=some (.slice 76):=cU
def ca_sameFail{e:Int}{sT sG sA:Vt_}(B:∃a c,sT=.slice a 0 c)(L:∃a c,sG=.slice a 0 c)(D:∃a c,sA=.slice a 0 c)(C:∀l,M0 w l->K (.bool true) l):
  Ca pQ 17 #[ud (failR e) sT sG sA,ud (failR e) dv dv dv] w K:=by
 obtain⟨u,o,rfl⟩:=B;obtain⟨v,r,rfl⟩:=L;obtain⟨n,t,rfl⟩:=D;apply XF;obtain⟨j,O,d,I⟩:=boxRp (failR e) (.slice u 0 o) (.slice v 0 r) (.slice n 0 t) w;refine cI O ?_;generalize w.heap.size=p at d|-;obtain⟨Q,E,i,k⟩:=boxRp (failR e) dv dv dv j;refine cI E ?_;generalize j.heap.size=q at i|-;have d:=k.hpk d id;have M:=I.trans k;simp only[mC,failR,zRp,dv]at d i;refine dK.at (λst W=>st=(.bool false,())/\W=Q) ?_ ?_
 ·simp[go_sem,d,i]
 rintro _ W ⟨rfl,rfl⟩;unfold HD;intro _;rw[gP];refine eS (λst b=>∃x,st=(x,gI 0,())/\b=W) (λ_ _=>0) ⟨_,rfl,rfl⟩ ?_;rintro⟨_,_⟩ b ⟨x,⟨⟩,rfl⟩ R A;unfold Hc;intro _;have N:(iF 52 (pt p 0) 4).run pQ b=.ok (pt p 4) b:=by simp[go_sem]
 have H:(iF 52 (pt p 0) 5).run pQ b=.ok (pt p 5) b:=by simp[go_sem]
 have J:(iF 52 (pt p 0) 6).run pQ b=.ok (pt p 6) b:=by simp[go_sem]
 have F:(iL 48 (pt p 4)).run pQ b=.ok (.slice u 0 o) b:=by simp[go_sem,d]
 have z:(iL 49 (pt p 5)).run pQ b=.ok (.slice v 0 r) b:=by simp[go_sem,d]
 have P:(iL 50 (pt p 6)).run pQ b=.ok (.slice n 0 t) b:=by simp[go_sem,d]
 have f:(qE .lss 3 false (gI 0) (gI ((0:Nat):Int))).run pQ b=.ok (.bool false) b:=by simp[go_sem]
 refine cI N (cI F (mB (lenV JA _ _ _ _) (cI f ?_)));rw[gP];refine eS (λst g=>∃x,st=(x,gI 0,())/\g=b) (λ_ _=>0) ⟨_,rfl,rfl⟩ ?_;rintro⟨_,_⟩ g ⟨x,⟨⟩,rfl⟩ G s;unfold HP;intro _;refine cI H (cI z (mB (lenV yu _ _ _ _) (cI f ?_)));rw[gP];refine eS (λst h=>∃x,st=(x,gI 0,())/\h=g) (λ_ _=>0) ⟨_,rfl,rfl⟩ ?_;rintro⟨_,_⟩ h ⟨x,⟨⟩,rfl⟩ y m;unfold GO;intro _;refine cI J (cI P (mB (lenV De _ _ _ _) (cI f ?_)));rw[gP];exact C h M
def Hg(a:Ac)(W:Wt_):(qE .neq 70 false (oz a) (oz a)).run pQ W=.ok (.bool false) W:=by simp[go_sem,oz]
def DB(a:Po)(W:Wt_):(qE .neq 79 false (.agg (ec a).toArray) (.agg (ec a).toArray)).run pQ W=.ok (.bool false) W:=by simp[go_sem,ec]
def Iu(a:Int×Od)(W:Wt_):(qE .neq 76 false (.agg (ju a).toArray) (.agg (ju a).toArray)).run pQ W=.ok (.bool false) W:=by simp[go_sem,ju,fL]
def G4(a:Ct)(w:Wt_):(Op.equalIn 10000 83 (.agg (fI a).toArray) (.agg (fI a).toArray)).run pQ w=.ok true w:=by
 have u:Tryz.prog.underlying 83=some (.struct (Tryz.prog.fieldsOf 83)):=cU;have h:Tryz.prog.stoodInHeld 83=false:=cU;rw[run_equalIn_struct w 9999 83 _ _ u h];unfold Program.fieldsOf;rw[Tryz.underlying83]
 have e:∀(t:TypeId) (q:IntKind) (x:Int),Tryz.prog.underlying t=some (.int q)->(Op.equalIn 9999 t (.int q x) (.int q x)).run pQ w=.ok true w:=λt q x g=>by
  have:=run_equalIn_int w 9998 t q q x x g;simpa using this
 have b:=LP a.spec a.spec 9996 w;rw[db rfl]at b
 have c:((fI a).drop 0).take 25=jA a.spec:=by
  show(jA a.spec++_).take 25=_;rw[<-dP a.spec,fN]
 have f:(fI a)[25]? =some (gB a.st):=by unfold fI;rw[cQ (by rw[dP];omega),dP];rfl
 have d:(fI a)[26]? =some (gI a.price):=by unfold fI;rw[cQ (by rw[dP];omega),dP];rfl
 refine nk (r:=true) (r' :=true) (by decide) (yq (n:=24) cU cU c) (yq (n:=24) cU cU c) b ?_;refine nk (r:=true) (r' :=true) (by decide) (jC cU f) (jC cU f) (e _ _ _ cU) ?_;refine nk (r:=true) (r' :=true) (by decide) (jC cU d) (jC cU d) (e _ _ _ cU) ?_;exact G7
def GV(a:Ct)(w:Wt_):(qE .neq 83 false (.agg (fI a).toArray) (.agg (fI a).toArray)).run pQ w=.ok (.bool false) w:=by
 have:=G4 a w;generalize(fI a).toArray=A at this;simp[go_sem,this,Result.andThen]
abbrev StR(w:Wt_)(ss:Nat->Value)(A:List Ac)(C:List Ct)(P:List Po)(O B:List (Int×Od)):Prop:=∀i,3<=i->i<=7->Rd w (MN i) (ss i) (LN A C P O B i) (LC A C P O B i)
def wW(d nx b:Int)(ss:Nat->Value)(w:Wt_):∃a,(Instr.box sV (As d nx b ss)).run pQ w=.ok (pt w.heap.size 0) a/\hC a w.heap.size (rN d nx b ss).toArray sV/\M0 w a:=
 ⟨w.alloc (.cells (rN d nx b ss).toArray sV),rfl,by show hp _ _=_;simp[go_sem],(de.refl _ w).alloc _⟩
def yo{b:Nat}{d nx g:Int}{ss:Nat->Value}(h:hC w b (rN d nx g ss).toArray sV)(j:∀i,3<=i->i<=7->∃a n c,ss i=.slice a n c)(i:Nat)(hi:3<=i)(f:i<=7):(iL (xL i) (pt b i)).run pQ w=.ok (ss i) w:=by
 obtain⟨a,n,c,e⟩:=j i hi f;have:i=3\/i=4\/i=5\/i=6\/i=7:=qZ;rcases this with rfl|rfl|rfl|rfl|rfl<;>(simp only[xL];rw[e];simp only[rN]at h;rw[e]at h;simp[go_sem,h])
def rM{s t:Vt_}{L:List (Int×Od)}(e:Rd w 6 s L.length (L.flatMap ju))(d:Rd w 6 t L.length (L.flatMap ju))(G:L.length<=100000)(o:∀c,M0 w c->K (.bool true) c):
  Ca pQ 40 #[s,t] w K:=by
 apply Sa;obtain⟨H,E,z⟩:=e.isSl;obtain⟨I,F,r⟩:=d.isSl;have g:∀W,(builtin .len #[59] 3 #[false] #[s]).run pQ W=.ok (.value (gI (L.length:Int))) W:=λW=>by rw[z];exact lenV xC _ _ _ _
 refine mB (g _) ?_;refine jm (gI (L.length:Int)) w (by rw[r];exact lenV xC _ _ _ _) ?_;refine cx (.bool false) w (by simp[go_sem]) ?_;rw[gP]
 refine eS (λst W=>∃(x:Vt_) (k:Nat),st=(x,gI k,())/\k<=L.length/\M0 w W)
  (λst _=>match st.2.1 with| .int _ k=>L.length - k.toNat|_=>0) ⟨_,0,rfl,qZ,lX⟩ ?_
 rintro⟨_,_⟩ W ⟨x,k,⟨⟩,C,m⟩ B b;unfold Bu;intro _;refine mB (g _) ?_;refine cI (ltV _ _ _) ?_;by_cases a:k<L.length
 ·rw[cy,bZ (by simpa using a)];have M:=m.trans mP
  try dsimp only
  generalize W.drew=D at M|-;obtain⟨h,u,j,l,-,A⟩:=(e.mod M eQ).item (f:=ju) jZ a rfl;obtain⟨v,q,p,i,-,y⟩:=(d.mod M eQ).item (f:=ju) jZ a rfl;refine dX (pt h (u+k*6)) (λW=>by rw[l];simp[go_sem,a,cS]) ?_;refine dp (gm (n:=5) (t:=76) cU cU (jZ _) A) ?_;refine dX (pt v (q+k*6)) (λW=>by rw[i];simp[go_sem,a,cS]) ?_;refine dp (gm (n:=5) (t:=76) cU cU (jZ _) y) ?_;refine dw (λW=>Iu _ W) ?_;rw[gP];refine cI (addV qZ _) ?_;exact b _ _ ⟨_,k+1,rfl,qZ,M⟩ (by show L.length - (k+1)<L.length - k;omega)
 ·rw[cy,aZ (by simpa using a)];exact o W m
def yB:Tryz.prog.underlying 58=some (.slice 79):=cU
set_option maxRecDepth 10000 in
def ca_sameSt{d nx N:Int}{ss l:Nat->Value}{A:List Ac}{C:List Ct}{P:List Po}{O B:List (Int×Od)}(Q:StR w ss A C P O B)(M:StR w l A C P O B)
  (hl:A.length<=100000/\C.length<=100000/\P.length<=100000/\O.length<=100000/\B.length<=100000)(hK:∀w',M0 w w' ->K (.bool true) w'):
  Ca pQ 19 #[As d nx N ss,As d nx N l] w K:=by
 apply Pz;obtain⟨w1,e1,I,m1⟩:=wW d nx N ss w;refine cI e1 ?_;generalize w.heap.size=p at I|-;obtain⟨s,e2,J,m2⟩:=wW d nx N l w1;refine cI e2 ?_;generalize w1.heap.size=q at J|-;have I:=m2.hpk I id;have F:=m1.trans m2;have qs:∀i,3<=i->i<=7->∃a c,ss i=.slice a (LN A C P O B i) c:=λi j h=>(Q i j h).isSl;have qt:∀i,3<=i->i<=7->∃a c,l i=.slice a (LN A C P O B i) c:=λi j h=>(M i j h).isSl;have qs' :∀i,3<=i->i<=7->∃a n c,ss i=.slice a n c:=λi j h=>by obtain⟨a,c,e⟩:=qs i j h;exact⟨a,_,c,e⟩
 have qt' :∀i,3<=i->i<=7->∃a n c,l i=.slice a n c:=λi j h=>by obtain⟨a,c,e⟩:=qt i j h;exact⟨a,_,c,e⟩
 have y:∀W,M0 s W->∀i,3<=i->i<=7->(iL (xL i) (pt p i)).run pQ W=.ok (ss i) W:=λW m i j h=>yo (m.hpk I id) qs' i j h;have L:∀W,M0 s W->∀i,3<=i->i<=7->(iL (xL i) (pt q i)).run pQ W=.ok (l i) W:=λW m i j h=>yo (m.hpk J id) qt' i j h;obtain⟨a3,c3,s3⟩:=qs 3 qZ qZ;obtain⟨a4,c4,s4⟩:=qs 4 qZ qZ;obtain⟨a5,c5,s5⟩:=qs 5 qZ qZ;obtain⟨d3,f3,t3⟩:=qt 3 qZ qZ;obtain⟨d4,f4,t4⟩:=qt 4 qZ qZ;obtain⟨d5,f5,t5⟩:=qt 5 qZ qZ;have s3:ss 3=.slice a3 A.length c3:=s3;have s4:ss 4=.slice a4 C.length c4:=s4;have s5:ss 5=.slice a5 P.length c5:=s5;have t3:l 3=.slice d3 A.length f3:=t3;have t4:l 4=.slice d4 C.length f4:=t4;have t5:l 5=.slice d5 P.length f5:=t5;have n3:∀W,(builtin .len #[56] 3 #[false] #[ss 3]).run pQ W=.ok (.value (gI (A.length:Int))) W:=λW=>by rw[s3];exact lenV ya _ _ _ _
 have n4:∀W,(builtin .len #[57] 3 #[false] #[ss 4]).run pQ W=.ok (.value (gI (C.length:Int))) W:=λW=>by rw[s4];exact lenV qU _ _ _ _
 have n5:∀W,(builtin .len #[58] 3 #[false] #[ss 5]).run pQ W=.ok (.value (gI (P.length:Int))) W:=λW=>by rw[s5];exact lenV yB _ _ _ _
 have k3:∀W,(builtin .len #[56] 3 #[false] #[l 3]).run pQ W=.ok (.value (gI (A.length:Int))) W:=λW=>by rw[t3];exact lenV ya _ _ _ _
 have k4:∀W,(builtin .len #[57] 3 #[false] #[l 4]).run pQ W=.ok (.value (gI (C.length:Int))) W:=λW=>by rw[t4];exact lenV qU _ _ _ _
 have k5:∀W,(builtin .len #[58] 3 #[false] #[l 5]).run pQ W=.ok (.value (gI (P.length:Int))) W:=λW=>by rw[t5];exact lenV yB _ _ _ _
 have H:∀(n:Nat) W,(qE .neq 3 false (gI (n:Int)) (gI (n:Int))).run pQ W=.ok (.bool false) W:=λn W=>by simp[go_sem]
 refine dK.at (λst W=>st=(.bool false,())/\W=s) ?_ ?_
 ·have g1:(iL 23 (pt p 0)).run pQ s=.ok (gU d) s:=by simp only[rN]at I;simp[go_sem,I]
  have g2:(iL 24 (pt p 1)).run pQ s=.ok (gQ nx) s:=by simp only[rN]at I;simp[go_sem,I]
  have g3:(iL 2 (pt p 2)).run pQ s=.ok (gI N) s:=by simp only[rN]at I;simp[go_sem,I]
  have j:(iL 23 (pt q 0)).run pQ s=.ok (gU d) s:=by simp only[rN]at J;simp[go_sem,J]
  have h:(iL 24 (pt q 1)).run pQ s=.ok (gQ nx) s:=by simp only[rN]at J;simp[go_sem,J]
  have h3:(iL 2 (pt q 2)).run pQ s=.ok (gI N) s:=by simp only[rN]at J;simp[go_sem,J]
  refine cI (dZ _ 0 qZ) (cI g1 (cI (dZ _ 0 qZ) (cI j ?_)));refine cI (v:=.bool false) (by simp[go_sem]<;>first|exact sI|exact rfl) ?_;rw[gP];refine cI (dZ _ 1 qZ) (cI g2 (cI (dZ _ 1 qZ) (cI h ?_)));refine cI (v:=.bool false) (by simp[go_sem]<;>first|exact sI|exact rfl) ?_;rw[gP];refine cI (dZ _ 2 qZ) (cI g3 (cI (dZ _ 2 qZ) (cI h3 ?_)));refine cI (v:=.bool false) (by simp[go_sem]<;>first|exact sI|exact rfl) ?_;rw[gP];refine cI (dZ _ 3 qZ) (cI (y _ lX 3 qZ qZ) (mB (n3 _) (cI (dZ _ 3 qZ) (cI (L _ lX 3 qZ qZ) (mB (k3 _) (cI (H _ _) ?_))))));rw[gP];refine cI (dZ _ 4 qZ) (cI (y _ lX 4 qZ qZ) (mB (n4 _) (cI (dZ _ 4 qZ) (cI (L _ lX 4 qZ qZ) (mB (k4 _) (cI (H _ _) ?_))))));rw[gP];refine cI (dZ _ 5 qZ) (cI (y _ lX 5 qZ qZ) (mB (n5 _) (cI (dZ _ 5 qZ) (cI (L _ lX 5 qZ qZ) (mB (k5 _) (cI (H _ _) ?_))))));exact sI
 rintro _ W ⟨rfl,rfl⟩;unfold Bl;intro _;rw[gP]
 refine eS (λst X=>∃(x:Vt_) (k:Nat),st=(x,gI k,())/\k<=A.length/\M0 W X)
  (λst _=>match st.2.1 with| .int _ k=>A.length - k.toNat|_=>0) ⟨_,0,rfl,qZ,lX⟩ ?_
 rintro⟨_,_⟩ X ⟨x,k,⟨⟩,hk,r⟩ KN o;unfold Bp;intro _;refine cI (dZ _ 3 qZ) (cI (y _ r 3 qZ qZ) (mB (n3 _) (cI (ltV _ _ _) ?_)));by_cases b:k<A.length
 ·rw[cy,bZ (by simpa using b)];have g:=r.trans mP
  try dsimp only
  generalize X.drew=Y at g|-;have E:Rd Y 4 (ss 3) A.length (A.flatMap dH):=(Q 3 qZ qZ).mod (F.trans g) eQ;obtain⟨D,o1,U,j,-,x1⟩:=E.item (f:=dH) (λx=>by simp[dH]) b rfl;have G:Rd Y 4 (l 3) A.length (A.flatMap dH):=(M 3 qZ qZ).mod (F.trans g) eQ;obtain⟨z,V,S,h,-,T⟩:=G.item (f:=dH) (λx=>by simp[dH]) b rfl;refine dw (λ_=>dZ _ 3 qZ) (dp (y _ g 3 qZ qZ) ?_);refine dX (pt D (o1+k*4)) (λW=>by rw[j];simp[go_sem,b,cS]) ?_;refine dp (gm (n:=3) (t:=70) cU cU rfl x1) ?_;refine dw (λ_=>dZ _ 3 qZ) (dp (L _ g 3 qZ qZ) ?_);refine dX (pt z (V+k*4)) (λW=>by rw[h];simp[go_sem,b,cS]) ?_;refine dp (gm (n:=3) (t:=70) cU cU rfl T) ?_;refine dw (λW=>Hg _ W) ?_;rw[gP];refine cI (addV qZ _) ?_;exact o _ _ ⟨_,k+1,rfl,qZ,g⟩ (by show A.length - (k+1)<A.length - k;omega)
 rw[cy,aZ (by simpa using b)];clear o
 refine eS (λst Z=>∃(x:Vt_) (k:Nat),st=(x,gI k,())/\k<=C.length/\M0 W Z)
  (λst _=>match st.2.1 with| .int _ k=>C.length - k.toNat|_=>0) ⟨_,0,rfl,qZ,r⟩ ?_
 rintro⟨_,_⟩ X ⟨x,k,⟨⟩,hk,r⟩ KN o;unfold BL;intro _;refine cI (dZ _ 4 qZ) (cI (y _ r 4 qZ qZ) (mB (n4 _) (cI (ltV _ _ _) ?_)));by_cases b:k<C.length
 ·rw[cy,bZ (by simpa using b)];have g:=r.trans mP
  try dsimp only
  generalize X.drew=Y at g|-;have E:Rd Y 27 (ss 4) C.length (C.flatMap fI):=(Q 4 qZ qZ).mod (F.trans g) eQ;obtain⟨D,o1,U,j,-,x1⟩:=E.item (f:=fI) eE b rfl;have G:Rd Y 27 (l 4) C.length (C.flatMap fI):=(M 4 qZ qZ).mod (F.trans g) eQ;obtain⟨z,V,S,h,-,T⟩:=G.item (f:=fI) eE b rfl;refine dw (λ_=>dZ _ 4 qZ) (dp (y _ g 4 qZ qZ) ?_);refine dX (pt D (o1+k*27)) (λW=>by rw[j];simp[go_sem,b,cS]) ?_;refine li (gm (n:=26) (t:=83) cU cU (eE _) x1) ?_;refine dw (λ_=>dZ _ 4 qZ) (dp (L _ g 4 qZ qZ) ?_);refine dX (pt z (V+k*27)) (λW=>by rw[h];simp[go_sem,b,cS]) ?_;refine li (gm (n:=26) (t:=83) cU cU (eE _) T) ?_;refine dw (λW=>GV _ W) ?_;rw[gP];refine cI (addV qZ _) ?_;exact o _ _ ⟨_,k+1,rfl,qZ,g⟩ (by show C.length - (k+1)<C.length - k;omega)
 rw[cy,aZ (by simpa using b)];clear o
 refine eS (λst Z=>∃(x:Vt_) (k:Nat),st=(x,gI k,())/\k<=P.length/\M0 W Z)
  (λst _=>match st.2.1 with| .int _ k=>P.length - k.toNat|_=>0) ⟨_,0,rfl,qZ,r⟩ ?_
 rintro⟨_,_⟩ X ⟨x,k,⟨⟩,hk,r⟩ KN o;unfold Bi;intro _;refine cI (dZ _ 5 qZ) (cI (y _ r 5 qZ qZ) (mB (n5 _) (cI (ltV _ _ _) ?_)));by_cases b:k<P.length
 ·rw[cy,bZ (by simpa using b)];have g:=r.trans mP
  try dsimp only
  generalize X.drew=Y at g|-;have E:Rd Y 4 (ss 5) P.length (P.flatMap ec):=(Q 5 qZ qZ).mod (F.trans g) eQ;obtain⟨D,o1,U,j,-,x1⟩:=E.item (f:=ec) (λx=>by simp[ec]) b rfl;have G:Rd Y 4 (l 5) P.length (P.flatMap ec):=(M 5 qZ qZ).mod (F.trans g) eQ;obtain⟨z,V,S,h,-,T⟩:=G.item (f:=ec) (λx=>by simp[ec]) b rfl;refine dw (λ_=>dZ _ 5 qZ) (dp (y _ g 5 qZ qZ) ?_);refine dX (pt D (o1+k*4)) (λW=>by rw[j];simp[go_sem,b,cS]) ?_;refine dp (gm (n:=3) (t:=79) cU cU rfl x1) ?_;refine dw (λ_=>dZ _ 5 qZ) (dp (L _ g 5 qZ qZ) ?_);refine dX (pt z (V+k*4)) (λW=>by rw[h];simp[go_sem,b,cS]) ?_;refine dp (gm (n:=3) (t:=79) cU cU rfl T) ?_;refine dw (λW=>DB _ W) ?_;rw[gP];refine cI (addV qZ _) ?_;exact o _ _ ⟨_,k+1,rfl,qZ,g⟩ (by show P.length - (k+1)<P.length - k;omega)
 rw[cy,aZ (by simpa using b)]
 have hS:∀(R:Wt_),M0 W R->Rd R 6 (ss 6) O.length (O.flatMap ju)/\Rd R 6 (l 6) O.length (O.flatMap ju)/\Rd R 6 (ss 7) B.length (B.flatMap ju)/\Rd R 6 (l 7) B.length (B.flatMap ju):=λR m=>
  ⟨(Q 6 qZ qZ).mod (F.trans m) eQ,(M 6 qZ qZ).mod (F.trans m) eQ,(Q 7 qZ qZ).mod (F.trans m) eQ,(M 7 qZ qZ).mod (F.trans m) eQ⟩
 refine cI (dZ _ 6 qZ) (cI (y _ r 6 qZ qZ) (cI (dZ _ 6 qZ) (cI (L _ r 6 qZ qZ) ?_)));refine rM (hS _ r).1 (hS _ r).2.1 qZ λY mY=>?_;rw[kx];have u:=r.trans mY;refine cI (dZ _ 7 qZ) (cI (y _ u 7 qZ qZ) (cI (dZ _ 7 qZ) (cI (L _ u 7 qZ qZ) ?_)));refine rM (hS _ u).2.2.1 (hS _ u).2.2.2 qZ λZ mZ=>?_;exact hK Z ((F.trans u).trans mZ)
end Go.Proofs
namespace Go.Proofs.YtnfloameajanhaaGreat
open Go Go.Vc Go.Proofs Go.ChangeShapes Go.WideShapes Go.ChangeAt Go.RowKit
def und30:∃a,Tryz.prog.underlying 30=some (.struct a):=⟨_,Tryz.underlying30⟩
set_option maxRecDepth 100000 in
def open_cmV{H:Type}{enc:TypeId×Value->H}{w:Wt_}{v0:Vt_}{h:DataW H}{n:List MemPlace}{b:Nat}(a:Value.okWide pQ w .any b 30 v0)(e:∃d,DataW.trod enc pQ w 0 (λ_=>true) true d 30 v0.cells.toList=some (h,n))
  (o:Wt pQ reachBytes 30 h):∃c,v0=vI c/\c.Fit:=by
 obtain⟨q,k⟩:=und30;unfold Value.okWide at a;rw[k]at a;obtain⟨f,rfl,g,-⟩:=a;obtain⟨p,e⟩:=e
 have j:f.toList.length=35:=by
  rw[mI,g]
  kernel_rfl
 obtain⟨m,l,i⟩:=open_cm (c:=f.toList) j e o;obtain rfl:f=(cmC m).toArray:=by rw[<-l]
 exact⟨m,rfl,i⟩
def rd_slice{w:Wt_}{sz n:Nat}{v:Vt_}{l:LV_}(h:Rd w sz v n l):∃a c,v=.slice a n c:=by
 obtain⟨-,⟨rfl,a,c,rfl⟩|⟨b,o,c,rfl,-⟩⟩:=h<;>exact⟨_,_,rfl⟩
end Go.Proofs.YtnfloameajanhaaGreat
namespace Go.Proofs
open Go Go.Vc
attribute [local congr] cR
variable {p:Vt_}{w:Wt_}{K:cG}
def IN:∃a c,dv=.slice a 0 c:=⟨none,0,rfl⟩
def Of(w:Wt_)(p:Vt_):Prop:=p=.pointer none\/∃z,p=.pointer (some ⟨z,0,none⟩)/\hC w z #[.pointer none,.pointer none,.map none,.map none,gQ 0] vy
def Of.md0{w' :Wt_}(h:Of w p)(m:M0 w w'):Of w' p:=by
 rcases h with h|⟨z,b,a⟩
 ·exact .inl h
 ·exact .inr ⟨z,b,m.hpk a id⟩
def vL(h:Of w p)(a:K (.bool false) w):Ca pQ 27 #[p] w K:=by
 apply ag1;rcases h with rfl|⟨z,rfl,b⟩
 ·refine qSv0 (.bool false) ?_;rw[gP];exact a
 ·refine qSv0 (.bool true) ?_;rw[kx];simp only[dr];apply cI (jk 1 qZ _);refine qSv1 (.pointer none) b ?_;refine qSv0 (.bool false) ?_;exact a
def ae6(p:Vt_)(d:∃a,p=.pointer a)(w:Wt_):∃c,(Instr.box 39 p).run pQ w=.ok (pt w.heap.size 0) c/\(∀W,M0 c W->(iL 39 (pt w.heap.size 0)).run pQ W=.ok p W)/\M0 w c:=by
 obtain⟨a,rfl⟩:=d;refine⟨w.alloc (.cells #[.pointer a] 39),rfl,λW m=>?_,(de.refl _ w).alloc _⟩;have b:hC W w.heap.size #[.pointer a] 39:=m.hpk (by simp[go_sem]) id;simp[go_sem,b]
def Of.ptr(h:Of w p):∃a,p=.pointer a:=by
 rcases h with h|⟨z,h,-⟩
 ·exact⟨_,h⟩
 ·exact⟨_,h⟩
def PQ{a:Int}(h:Of w p)(n:∀l,M0 w l->K (.tuple #[.agg #[.int .i64 0,gI 0,gI 0],gI 1]) l):Ca pQ 14 #[p,gU a] w K:=by
 apply ad7;obtain⟨d,r,s,j⟩:=ae6 p h.ptr w;apply cI r;apply cx (pt d.heap.size 0) (d.alloc (.cells #[.int .u32 a] 23)) (by simp[go_sem]);have e:M0 d (d.alloc (.cells #[.int .u32 a] 23)):=lm;generalize d.alloc (.cells #[.int .u32 a] 23)=b at e|-;obtain⟨q,m⟩:=dW b.heap.size;have f:M0 b (b.alloc (.cells #[.int .i64 0,gI 0,gI 0] 42)):=lm;have i:hC (b.alloc (.cells #[.int .i64 0,gI 0,gI 0] 42)) q #[.int .i64 0,gI 0,gI 0] 42:=by rw[m];simp[go_sem]
 apply cx (pt q 0) (b.alloc (.cells #[.int .i64 0,gI 0,gI 0] 42)) (by rw[m];simp[go_sem]);generalize b.alloc (.cells #[.int .i64 0,gI 0,gI 0] 42)=g at f i|-;apply cI (s _ (e.trans f));apply vL (h.md0 ((j.trans e).trans f));refine qSv0 (.bool true) ?_;rw[kx];refine qSv0 (.agg #[.int .i64 0,gI 0,gI 0]) ?_
 have k:∃c,(iS 42 (pt q 0) (.agg #[.int .i64 0,gI 0,gI 0])).run pQ g=.ok () c/\hC c q #[.int .i64 0,gI 0,gI 0] 42/\de (λy=>y=q) g c:=
  ⟨((g.setCell ⟨q,0,none⟩ (gI 0)).setCell ⟨q,1,none⟩ (gI 0)).setCell ⟨q,2,none⟩ (gI 0),by simp[go_sem,i],by simp[go_sem,i],(((de.refl (λy=>y=q) g).sc).sc).sc⟩
 obtain⟨c,k,o,t⟩:=k;apply ir k;refine qWv1 (.agg #[.int .i64 0,gI 0,gI 0]) o ?_;exact n c (((j.trans e).trans f).on t λy u=>.inr (by have:=(j.trans e).size;omega))
def Ma(h:Of w p)(o:∀e,M0 w e->K (As 0 0 0 (AA dv)) e):Ca pQ 20 #[p] w K:=by
 apply an3;obtain⟨c,s,u,b⟩:=ae6 p h.ptr w;apply cI s;obtain⟨v,r,g,a⟩:=CR c;apply cI r;obtain⟨q,m⟩:=dW c.heap.size;rw[<-m]at g|-;apply cI (u _ a);apply vL (h.md0 (b.trans a));refine qSv0 (.bool true) ?_;rw[kx];apply cx (As 0 0 0 (AA dv)) v (by simp[go_sem,As,rN,AA,dv])
 obtain⟨k,t,l,j⟩:=Uz (d:=0) (n:=0) (f:=0) (ss:=AA dv) g rfl λi _ _=>by
  unfold AA;split<;>exact gJ
 refine ir t (dp (FJ l) ?_);exact o k ((b.trans a).on j λy x=>.inr (by have:=b.size;omega))
def NF{c:Cm}(h:Of w p)(k:∀e,M0 w e->K (ud (failR 1) dv dv dv) e):Ca pQ 18 #[p,vI c] w K:=by
 apply an6;obtain⟨b,n,t,a⟩:=uT c w;apply cI n;obtain⟨x,l,g,d⟩:=qy b;apply cI l;obtain⟨q,j⟩:=dW b.heap.size;rw[<-j]at g|-;apply vL (h.md0 (a.trans d));refine qSv0 (.bool true) ?_;rw[kx];refine vQ λu f=>?_;obtain⟨i,o,m,s⟩:=pl (r:=failR 1) (sT:=dv) (sG:=dv) (sA:=dv) (f.hpk g id) rfl ⟨gJ,gJ,gJ⟩;refine ir o (dp (lB m) ?_);exact k i (((a.trans d).trans f).on s λy v=>.inr (by have:=a.size;omega))
def Yz{s:Vt_}(h:Of w p)(v:∀b d,jo d 5 1 b (pP 1).length (bv (pP 1))->M0 w d->K b d):Ca pQ 15 #[p,s] w K:=by
 apply ca15;refine vQ λf j=>?_;obtain⟨D,x,i,l⟩:=qy f;apply cI x;obtain⟨q,u⟩:=dW f.heap.size;rw[<-u]at i|-;obtain⟨n,z,o,m⟩:=pl (r:=failR 1) (sT:=dv) (sG:=dv) (sA:=dv) i rfl ⟨gJ,gJ,gJ⟩;apply ir z;have g:=(j.trans l).on m λy C=>.inr (by have:=j.size;omega);refine dK.at (λ_ W=>W=n) ?_ ?_
 ·apply vL (h.md0 g);rw[gP]
 rintro _ W rfl;unfold J15_0;intro _;apply cI (lB o);refine GS (e:=1) (by decide) λb A k t B=>?_;obtain⟨a,c,rfl⟩:=k.rd.isSl;refine qSv0 (.slice a (pP 1).length c) ?_;refine qSv0 (gI 0) ?_;exact v _ A k (g.trans t)
def Qs(h:Of w p)(a:K (.pointer none) w):Ca pQ 21 #[p] w K:=by
 apply ZK;apply vL h;refine qSv0 (.bool true) ?_;rw[kx];exact a
set_option maxRecDepth 10000 in
def IV{c:Cm}{s:Vt_}{n:Nat}(hs:∃a c,s=.slice a n c)(hu:Tryz.prog.underlying 31=some (.slice 5))(hK:∀w',M0 w w' ->K (.bool true) w'):Ca pQ 3 #[vI c,s] w K:=by
 apply ca3;obtain⟨h,H,V,Z⟩:=uT c w;apply cI H;obtain⟨z,hz⟩:=dW w.heap.size;rw[<-hz]at V|-;obtain⟨sa,sc,rfl⟩:=hs;apply mB (lenV hu _ _ _ _);apply cx (.bool (decide (2000<n))) h (by simp[go_sem];omega);by_cases hn:2000<n
 ·rw[qo hn];exact kf λj t=>hK _ (Z.trans t)
 rw[cy,aZ (by grind)];obtain⟨q,hq⟩:=dW h.heap.size;have t:M0 h (h.alloc (.cells #[.pointer none,.pointer none,.map none,.map none,gQ 0] vy)):=lm;have b2:hC (h.alloc (.cells #[.pointer none,.pointer none,.map none,.map none,gQ 0] vy)) q #[.pointer none,.pointer none,.map none,.map none,gQ 0] vy:=by rw[hq];simp[go_sem]
 apply cx (pt q 0) (h.alloc (.cells #[.pointer none,.pointer none,.map none,.map none,gQ 0] vy)) (by rw[hq];simp[go_sem]);generalize h.alloc (.cells #[.pointer none,.pointer none,.map none,.map none,gQ 0] vy)=j at t b2|-;have X:Tryz.prog.underlying 40=some (.slice 39):=cU;have eV:lN pQ 39 1 8=true:=cU;refine oJ [.pointer none,.pointer (some ⟨q,0,none⟩)] X (eO eV) rfl rfl (by intro x U;simp at U;rcases U with rfl|rfl<;>rfl) qZ ?_;have e0:(([.pointer none,.pointer (some ⟨q,0,none⟩)]:LV_).flatMap (·.cells.toList)).toArray= #[.pointer none,.pointer (some ⟨q,0,none⟩)]:=rfl;rw[e0];obtain⟨y,O⟩:=dW j.heap.size;have C:M0 j (j.alloc (.cells #[.pointer none,.pointer (some ⟨q,0,none⟩)] 39)):=lm;have T:hC (j.alloc (.cells #[.pointer none,.pointer (some ⟨q,0,none⟩)] 39)) y #[.pointer none,.pointer (some ⟨q,0,none⟩)] 39:=by rw[O];simp[go_sem]
 rw[<-O];generalize j.alloc (.cells #[.pointer none,.pointer (some ⟨q,0,none⟩)] 39)=w3 at C T|-;apply mB (lenV X _ _ _ _)
 refine eS (λst W=>∃(x:Vt_) (i:Nat),st=(x,gI i,())/\i<=2/\M0 w3 W)
  (λst _=>match st.2.1 with| .int _ i=>2 - i.toNat|_=>0) ⟨_,0,rfl,qZ,lX⟩ ?_
 rintro⟨_,_⟩ W ⟨x,i,⟨⟩,hi,m⟩ KN J;unfold L3_1;intro _;apply cI (ltV _ 2 _);have M:M0 w W:=((Z.trans t).trans C).trans m;by_cases I:i<2
 ·rw[qo I];have b4:=m.hpk T id
  have P:∃p,(iL 39 (pt y i)).run pQ W=.ok p W/\Of W p:=by
   rcases(show i=0\/i=1 by omega)with rfl|rfl
   ·exact⟨.pointer none,by simp[go_sem,b4],.inl rfl⟩
   ·exact⟨.pointer (some ⟨q,0,none⟩),by simp[go_sem,b4],.inr ⟨q,rfl,(C.trans m).hpk b2 id⟩⟩
  obtain⟨p,Q,A⟩:=P;have u:¬(2:Int)<=(i:Int):=qZ;refine cx (pt y i) W (by simp[go_sem,u,cS]<;>omega) (cI Q ?_);have c4:=((t.trans C).trans m).hpk V id;refine cI (pM _) (cI (rk c4) ?_);refine PQ A λD B=>?_;refine qSv0 (.agg #[.int .i64 0,gI 0,gI 0]) ?_;refine qSv0 (gI 1) ?_;obtain⟨r,hr⟩:=dW D.heap.size;have L:∃b,(D.alloc (.cells #[.int .i64 0,gI 0,gI 0] 42))=b/\hC b r #[.int .i64 0,gI 0,gI 0] 42/\M0 D b:=⟨_,rfl,by rw[hr];simp[go_sem],(de.refl _ _).alloc _⟩
  obtain⟨b,E,b6,m6⟩:=L;apply cx (pt r 0) b (by rw[<-E,hr];simp[go_sem])
  obtain⟨k,S,m7⟩:∃k,(iS 42 (pt r 0) (.agg #[.int .i64 0,gI 0,gI 0])).run pQ b=.ok () k/\de (λy=>y=r) b k:=
   ⟨((b.setCell ⟨r,0,none⟩ (gI 0)).setCell ⟨r,1,none⟩ (gI 0)).setCell ⟨r,2,none⟩ (gI 0),by simp[go_sem,b6],(((de.refl (λy=>y=r) b).sc).sc).sc⟩
  apply ir S;have M7:M0 W k:=(B.trans m6).on m7 λy O=>.inr (by have:=B.size;omega);refine dK.at (λst W' =>st=(.bool false,())/\M0 W W') ?_ ?_
  ·apply dw (λW=>LM 1 W);have R:=M7.trans mP
   try dsimp only
   generalize k.drew=w8 at R|-;refine Yz (A.md0 R) λs9 w9 Y m9=>?_;apply xV Gr Y3 Me Y.rd;refine GE (e:=1) (by decide) λs10 w10 N v n10=>?_;refine⟨AM Gr Y3 Me (Y.mod v eQ).rd,?_⟩;apply xV Gr Y3 Me N.rd;apply dX (.bool false) (λW=>by rw[YG];simp);rw[gP];have g:=(R.trans m9).trans v;refine li (vm (g.hpk c4 id)) (dw (λW=>LM 1 W) ?_);refine NF (A.md0 g) λw11 G=>?_;refine ca_sameFail IN IN IN λw12 F=>?_;refine qPv0 (.bool false) ?_;rw[gP];refine qPv0 (.bool false) ?_;rw[gP];apply dX (As 0 0 0 (AA dv)) (λ_=>by simp[go_sem,As,rN,AA,dv]);have f:=(g.trans G).trans F;refine Ma (A.md0 f) λw13 o=>?_
   have d:∀W,StR W (AA dv) [] [] [] [] []:=λW i h1 h2=>by
    have H:AA dv i=dv:=by unfold AA;split<;>rfl
    have e2:LN [] [] [] [] [] i=0:=by unfold LN;split<;>rfl
    have e3:LC [] [] [] [] [] i=[]:=by unfold LC;split<;>rfl
    rw[H,e2,e3];exact⟨by simp,.inl ⟨rfl,_,_,rfl⟩⟩
   refine ca_sameSt (d _) (d _) ⟨by simp,by simp,by simp,by simp,by simp⟩ λw14 l=>?_;refine qPv0 (.bool false) ?_;rw[gP];apply Qs (A.md0 ((f.trans o).trans l));refine qPv0 (.bool false) ?_;exact⟨rfl,(f.trans o).trans l⟩
  rintro _ W' ⟨rfl,mW⟩;unfold J24_0;intro _;rw[gP];apply cI (addV qZ _);exact J _ _ ⟨_,i+1,rfl,qZ,m.trans mW⟩ (by grind)
 ·rw[cy,aZ (by grind)];exact kf λD B=>hK _ (M.trans B)
end Go.Proofs
namespace Go.Proofs.YtnfloameajanhaaGreat.venueNone
open Go Go.Vc Go.Proofs Go.ChangeShapes Go.WideShapes Go.ChangeAt Go.RowKit
set_option maxRecDepth 100000 in
def lifted(os:Os)(b:os.Started)(H:Type)(enc:TypeId×Value->H):
  ReturnsInHanded {} Tryz.checked os 3 .any (Rows.venueNoneSpec.pre6 enc Tryz.prog Tryz.f3 Rows.venueNoneRow.domain false) (Rows.venueNoneSpec.post enc Tryz.prog Tryz.f3 false true false false):=by
 refine returnsInHanded_of_change_sized (C:=Tryz.checked) own b cU Tryz.func3
  (ChangeSpec.witness6 (enc:=enc) (C:=Tryz.checked) false ⟨#[],#[vI zCm,.slice none 0 0],[]⟩ 8 cU cU cU cU) ?_
 intro W g a ds gs l d w z k _;have c:∀(j:Nat) t v,Tryz.f3.params[j]? =some t->a[j]? =some v->Value.okWide Tryz.prog W .any g t v:=d;have i:(DataW.weightsEach Tryz.prog (Tryz.f3.params.toList++[]) (ds++gs)).all (·<=reachBytes)=true:=k;have o:=w;obtain⟨p,q,h,P,rfl,O,M⟩:=w;have y:DataW.TrodAll enc Tryz.prog W 0 (λ_=>true) true Tryz.f3.params.toList a.toList ds p:=h;rw[Tryz.params3]at y c i;obtain⟨v0,N,J,F,U,R,n,rfl,rfl,E,G⟩:=trodAll_cons y;obtain⟨x,D,d1,L,T,S,rfl,rfl,rfl,I,B⟩:=trodAll_cons G;obtain⟨rfl,rfl,rfl⟩:=trodAll_nil B;obtain rfl:a= #[v0,x]:=by cases a;simp_all
 obtain⟨rfl,rfl⟩:=trodVars_none P
 have r:Wt Tryz.prog reachBytes 30 J:=by
  intro m f;have:=List.all_eq_true.1 i m (by simp only[List.append_nil,List.cons_append,List.nil_append,DataW.weightsEach,List.mem_append];first|exact .inl f|exact .inl f);simpa using this
 obtain⟨V,rfl,A⟩:=open_cmV (c 0 30 v0 rfl rfl) E r;obtain⟨Q,s⟩:=TP Tryz.underlying31 Tryz.underlying5 cU (c 1 31 x rfl rfl) I;clear h d;refine Calls.mono (IV (K:=λv u=>v=.bool true/\M0 W u) (rd_slice s) Tryz.underlying31 λu f=>⟨rfl,f⟩).out ?_;rintro e X ⟨v,rfl,rfl,f⟩;exact⟨_,rfl,post_of_mod laidOut cU rfl o f cU Tryz.underlying4 rfl⟩
abbrev zRw:=Rows.venueNoneRow
abbrev II:=Rows.venueNoneSpec
noncomputable abbrev zVt:=Tryz.f3.params.toList++II.plain.varTypes pQ
def k0:zRw.wf (OpenSpec.ofChange II):=cU
def k1:laidOutB pQ:=cU
def k2:mapsRowed pQ:=cU
def k3:Tryz.f3.params.all (pQ.readableRec ·):=cU
def k4:namedTie pQ zRw.named II.vars:=cU
def k5:zRw.stops== []:=cU
def k6:pQ.stops== []:=cU
def k7:zRw.knobs== []:=cU
def k8:pQ.stopKnobs== []:=cU
def k9:zRw.inPlace==pQ.inPlace 3:=cU
def k10:zRw.unfollowed==pQ.unfollowed 3:=cU
def k11:zRw.recurses==pQ.recurses 3:=cU
def k12:zRw.named==pQ.varsNamed 3:=cU
def k13:zRw.maps==zVt.any (pQ.mapsRec ·):=cU
def k14:zRw.ifaces==zVt.any (pQ.ifacesRec ·):=cU
def k15:zRw.mapsOut==pQ.mapsAmong Tryz.f3.resultTypes.toList:=cU
def k16:zRw.loops==zVt.any (pQ.loopsFrom ·):=cU
def k17:zRw.wideKeys==(zVt++Tryz.f3.resultTypes.toList).any (pQ.wideKeysFrom ·):=cU
def k18:II.vars.all (pQ.varReadable ·):=cU
def k19:Tryz.f3.resultTypes.all (λt=>pQ.readableRec t&& decide (t<pQ.types.size)):=cU
def k20:zRw.ifacesOut==Tryz.f3.resultTypes.toList.any (pQ.ifacesRec ·):=cU
def k21:zRw.loopsOut==Tryz.f3.resultTypes.toList.any (pQ.loopsFrom ·):=cU
def k22:zRw.plainKeys==pQ.plainKeys:=cU
def k23:zRw.shortTexts.isNone:=cU
def k24:pQ.stopsHeard:=cU
def k25:pQ.mayEnter:=cU
def k26:zRw.lifted==pQ.liftsFinal:=cU
def k27:pQ.make==some zRw.make:=cU
def k28:zRw.kinds==(if zRw.domain.isEmpty then []else Tryz.f3.params.toList.map λt=>match pQ.underlying t with|some (.int k)=>some k|_=>none):=cU
def k29:zRw.pinned==zRw.pinnedBy:=cU
def k30:zRw.veiled==(zVt++Tryz.f3.resultTypes.toList).any (pQ.veiledRec ·):=cU
def k31:zRw.veiledFits pQ Tryz.f3.params.toList (zVt++Tryz.f3.resultTypes.toList):=cU
set_option maxRecDepth 100000 in
def closed:joinedFacts Tryz.prog 3 Tryz.f3 Rows.venueNoneSpec Rows.venueNoneRow=true:=by
 unfold joinedFacts;simp only[Bool.and_eq_true];exact⟨⟨⟨⟨⟨⟨⟨⟨⟨⟨⟨⟨⟨⟨⟨⟨⟨⟨⟨⟨⟨⟨⟨⟨⟨⟨⟨⟨⟨⟨⟨k0,k1⟩,k2⟩,k3⟩,k4⟩,k5⟩,k6⟩,k7⟩,k8⟩,k9⟩,k10⟩,k11⟩,k12⟩,k13⟩,k14⟩,k15⟩,k16⟩,k17⟩,k18⟩,k19⟩,k20⟩,k21⟩,k22⟩,k23⟩,k24⟩,k25⟩,k26⟩,k27⟩,k28⟩,k29⟩,k30⟩,k31⟩
theorem holds:Rows.VenueNoneSaid:=
 OpenClaim.holds_of_wide 3 Tryz.f3 rfl rfl rfl rfl rfl rfl rfl ⟨rfl,rfl,rfl,rfl,rfl⟩ rfl rfl rfl rfl rfl cU Tryz.func3 closed
  (of_decide_eq_true cU) (by unfold Func.isWrapper;first|(rw[if_pos (by decide+kernel)];kernel_rfl)|(rw[if_neg (by decide+kernel)];exact⟨rfl,rfl⟩))
  (λos a H b _=>lifted os a H b)
end Go.Proofs.YtnfloameajanhaaGreat.venueNone
