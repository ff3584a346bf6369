/- The statement VenueBears: for every input the law returns true; arguments stay. Conditions: none. -/
import Derived.Test.YtnfloameajanhaaGreatZ8
set_option linter.all false
namespace Go.Vc
open Go Go.ChangeShapes Go.WideShapes Go.ChangeAt Go.RowKit
section
variable{H:Type}{enc:TypeId×Value->H}{P:Program}{w:World}{base:Nat}{spare:Nat->Bool}{held:Bool}
def ff{e:TypeId}:∀{l:List (DataW H)} {d:DataW H},d∈l->∀m∈d.weights P e,m∈DataW.weightsAll P e l
 |a::l,d,b,m,c=>by
  simp only[DataW.weightsAll,dg];rcases cH.1 b with rfl|b
  ·exact .inl c
  ·exact .inr (ff b m c)
def Wt.slice{t e:TypeId}{B:Nat}{l r:List (DataW H)}(c:P.underlying t=some (.slice e))(h:Wt P B t (.slice l r)):(l.length+r.length)*P.bytesOf e<=B/\∀d∈l,Wt P B e d:=by
 unfold Wt at h;simp only[DataW.weights,c,cH,dg]at h;exact⟨h _ (.inl rfl),λd a m b=>h m (.inr (.inl (ff a m b)))⟩
def nJ{t e:TypeId}{sz:Nat}{o:Nat}{cs:List Value}{x:DataW H×List MemPlace}(I:P.underlying t=some (.slice e))(hc:P.cellsOf e=sz)(E:0<sz)
  {B:Nat}(O:DataW.trod enc P w base spare held o t cs=some x)(hB:Wt P B t x.1):
  ∃v,cs=[v]/\∃L:List (List Value),Rd w sz v L.length L.flatten/\L.length*P.bytesOf e<=B/\∀c∈L,c.length=sz/\∃X y,DataW.trod enc P w base spare held X e c=some y/\Wt P B e y.1:=by
 rcases DataW.trod_slice I O with⟨rfl,-⟩|⟨a,len,Q,A,rest,n,hf,rfl,rfl,hb,V,hm,N,C,Z,T⟩
 ·exact⟨_,rfl,[],⟨by simp,.inl ⟨rfl,_,_,rfl⟩⟩,by simp,by simp⟩
 ·obtain⟨z,F⟩:=hB.slice I
  have m:∀i,i<len->∃c,w.cells? base (a.add (i*sz)) sz=some c/\∃y,DataW.trod enc P w base spare held n e c=some y/\Wt P B e y.1:=by
   intro i b;have j:=C i b;rw[cE (by omega),hc,Option.bind_eq_some_iff]at j;obtain⟨c,g,r⟩:=j;exact⟨c,g,_,r,F _ (cF.2 ⟨_,cC _,rfl⟩)⟩
  have R:∀k,k<=len->∃L:List (List Value),L.length=k/\∀i (b:i<L.length),w.cells? base (a.add (i*sz)) sz=some L[i]/\∃y,DataW.trod enc P w base spare held n e L[i]=some y/\Wt P B e y.1:=by
   intro k;induction k with
   |zero=>exact λ_=>⟨[],rfl,λi b=>by simp at b⟩
   |succ k p=>
    intro hk;obtain⟨L,j,g⟩:=p (by omega);obtain⟨c,r,J⟩:=m k (by omega);refine⟨L++[c],by simp[j],λi b=>?_⟩;by_cases S:i<L.length
    ·grind
    ·grind
  obtain⟨L,j,g⟩:=R len (cJ _)
  have d:∀c∈L,c.length=sz:=by
   intro c f;obtain⟨i,b,rfl⟩:=cX f;exact(World.cells?_some (g i b).1).2.1
  have W:∀(M:List (List Value)),(∀c∈M,c.length=sz)->M.flatten.length=M.length*sz:=by
   intro M;induction M with
   |nil=>intro _;simp
   |cons c M p=>
    intro l;rw[List.flatten_cons,cD,p λc h=>l c (cu _ h),l c cw,dc,je,jf]
  have q:∀(M:List (List Value)),(∀c∈M,c.length=sz)->∀i v,M.flatten[i]? =some v->∃h:i / sz<M.length,M[i / sz][i%sz]? =some v:=by
   intro M;induction M with
   |nil=>intro _ i v h;simp at h
   |cons c M p=>
    intro l i v h;have G:=l c cw;rw[List.flatten_cons]at h;by_cases b:i<sz
    ·rw[dC (by omega)]at h;rw[Nat.div_eq_of_lt b,iM b];exact⟨by simp,by simpa using h⟩
    ·rw[cQ (by omega),G]at h;obtain⟨j,g⟩:=p (λc h=>l c (cu _ h)) (i - sz) v h
     have s:i / sz=(i - sz) / sz+1:=by
      rw[Nat.div_eq_sub_div E (by omega)]
     have D:i%sz=(i - sz)%sz:=by
      rw[Nat.mod_eq_sub_mod (by omega)]
     refine⟨by grind,?_⟩;simp only[s,D,fA];exact g
  refine⟨_,rfl,L,?_,dD (dM _ (by simp;omega)) z,λc f=>⟨d c f,?_⟩⟩
  ·rw[j];refine mJ V (by grind) (λi v b=>?_) E;obtain⟨r,J⟩:=q L d i v b;obtain⟨h5,Y⟩:=World.cells?_some (g _ r).1 |>.2
   have u:=gR i E;have K:=Y (i%sz) u
   have e:((a.add (i / sz*sz)).add (i%sz))=a.add i:=by
    have U:i / sz*sz+i%sz=i:=by rw[fe];exact ie i sz
    conv=>rhs;rw[<-U]
    simp only[Addr.add];by_cases s:i / sz*sz=0
    ·simp[s]
    ·by_cases D:i%sz=0
     ·simp[D,s]
     ·grind
   rw[e]at K;rw[K];exact J
  ·obtain⟨i,b,rfl⟩:=cX f;exact⟨n,(g i b).2⟩
end
end Go.Vc
namespace Go.Proofs
open Go Go.Vc
def Led.position_trade{S:Led}(d:SortP S.held){c b s p n:Int}(h:(S.trade c b s p n).1=0)(k a:Int):
  (S.trade c b s p n).2.position k a=if k=c/\a=s then⟨c,s,(S.position c s).q - n,(S.position c s).b - p*n⟩else if k=c/\a=b then⟨c,b,(S.position c b).q+n,(S.position c b).b+p*n⟩else S.position k a:=by
 obtain⟨f,e⟩:=Led.trade_ok h;rw[e,Led.position_putP (qn d _),Led.position_putP d]
def Led.trade_sort{S:Led}(a:SortP S.held){c b s p n:Int}:SortP (S.trade c b s p n).2.held:=by
 unfold Led.trade;split
 ·exact a
 ·split
  ·exact a
  ·simp only;split
   ·exact a
   ·exact qn (qn a _) _
end Go.Proofs
set_option maxRecDepth 100000
namespace Go.Proofs
open Go Go.Vc
section
variable{a b c:Vt_}{W:Wt_}{Z:cG}
def J24_0(a:cG)(b:T2)(c:T2->Wp)(d:T1)(e:Wt_):=NV->cV d.1 (a bF e) (g1 b.2.1 e λf g=>c (b.1,f,()) g)
def Vs(a:Vt_)(b:T2)(c:T2->Wp)(d:T1)(e:Wt_):=NV->cV d.1 (dz 61 a 5 58 e λf g=>gi 58 f b.2.1 g λh i=>dz 79 h 2 2 i λj k=>g1 b.2.1 k λl m=>c (j,l,()) m) (g1 b.2.1 e λn o=>c (b.1,n,()) o)
def Wo(a:Vt_)(b:T2)(c:T2->Wp)(d:T1)(e:Wt_):=NV->cV d.1 (gi 59 a b.2.1 e λf g=>gf 76 f 1 g λh i=>dz 74 h 4 2 i λj k=>gb .add 2 false b.1 j k λl m=>g1 b.2.1 m λn o=>c (l,n,()) o) (g1 b.2.1 e λp q=>c (b.1,p,()) q)
def UG(a b c:Vt_)(d:T2)(e:cG)(f:T2)(g:Wt_)(h:T2->Wp):=gc f.2.1 a g λi j=>cV i (gY 61 b 4 57 j.drew λk=>mf 57 k f.2.1 λl=>kg 83 l 0 λm=>gY 27 m 0 23 j.drew λn=>gY 30 c 2 23 j.drew λo=>my .eql 23 false n o λp=>cV p (gf 61 b 4 j.drew λq r=>gl 57 q r λs t=>gi 57 s f.2.1 t λu v=>gf 83 u 0 v λw x=>dz 27 w 5 2 x λy z=>gb .leq 2 false d.1 y z e) (g1 f.2.1 j.drew λA B=>h (f.1,A,()) B)) (e bF j)
def Xd(a b c d:Vt_)(e:cG)(f:T2)(g:Wt_)(h:T2->Wp):=gc f.2.1 a g λi j=>cV i (jW (λk=>mf 59 b f.2.1 λl=>gY 76 l 0 23 j.drew λm=>gY 30 c 2 23 j.drew λn=>my .eql 23 false m n λo=>cV o (mf 59 b f.2.1 λp=>kg 76 p 1 λq=>gY 74 q 1 23 j.drew λr=>gY 30 c 1 23 j.drew λs=>my .eql 23 false r s λt=>cV t (mf 59 b f.2.1 λu=>kg 76 u 1 λv=>gY 74 v 2 4 j.drew λw=>gY 30 c 7 4 j.drew λx=>my .eql 4 false w x λy=>k (y,()) j.drew) (k (bF,()) j.drew)) (k (bF,()) j.drew)) (Wo b f h)) (dz 61 d 4 57 j λz A=>gn 57 false z A λB C=>qB (UG B d c f e) (bF,(gI 0),()) C)
def VP(a b:Vt_)(c:cG)(d:T1)(e:Wt_):=NV->kg 61 a 6 λf=>eP 59 f e.drew λg=>kg 61 a 7 λh=>eP 59 h e.drew λi=>gx (jQ 59 0 []) e.drew λj k=>gk 59 h i k/\gk 59 f g k/\(gx (eg #[59,59] 59 [j,g]) k λl m=>gk 59 h i m/\(gx (eg #[59,59] 59 [l,i]) m λn o=>gn 59 false n o λp q=>qB (Xd p n b a c) (d.1,(gI 0),()) q))
def WB(a b c:Vt_)(d:cG)(e:T2)(f:Wt_)(g:T2->Wp):=gc e.2.1 a f λh i=>cV h (jW (λj=>gY 61 b 5 58 i.drew λk=>mf 58 k e.2.1 λl=>gY 79 l 0 23 i.drew λm=>gY 30 c 2 23 i.drew λn=>my .eql 23 false m n λo=>cV o (gY 61 b 5 58 i.drew λp=>mf 58 p e.2.1 λq=>gY 79 q 1 23 i.drew λr=>gY 30 c 1 23 i.drew λs=>my .eql 23 false r s λt=>j (t,()) i.drew) (j (bF,()) i.drew)) (Vs b e g)) (jW (λu=>dz 30 c 7 4 i λv w=>gt v w λx y=>cV x (gr (Op.unary .neg e.1) y λz A=>u (z,()) A) (u (e.1,()) y)) (VP b c d))
def ax5(k:gq 61 a W λc d=>gq 30 b d λe f=>dz 61 c 5 58 f λg h=>gn 58 false g h λi j=>qB (WB i c e Z) ((gI 0),(gI 0),()) j):Ca pQ 25 #[a,b] W Z:=cj Tryz.func25 k
def Zw(a:cG)(b:T2)(c:T2->Wp)(d:T2)(e:T1)(f:Wt_):=NV->cV e.1 (a bF f) (g1 b.2.1 f λg h=>c (d.1,g,()) h)
def ZO(a b c d:Vt_)(e:cG)(f:T2)(g:T2->Wp)(h:T2)(i:Wt_)(j:T2->Wp):=gc h.2.1 a i λk l=>cV k (jW (λm=>gY 61 b 3 56 l.drew λn=>mf 56 n h.2.1 λo=>gY 70 o 0 23 l.drew λp=>gY 30 c 1 23 l.drew λq=>my .eql 23 false p q λr=>cV r (gY 61 b 3 56 l.drew λs=>mf 56 s h.2.1 λt=>gY 70 t 1 2 l.drew λu=>gY 42 d 0 2 l.drew λv=>gY 42 d 1 2 l.drew λw=>my .add 2 false v w λx=>gY 42 d 2 2 l.drew λy=>my .add 2 false x y λz=>my .lss 2 false u z λA=>m (A,()) l.drew) (m (bF,()) l.drew)) (J24_0 e h j)) (jW (λB=>dz 30 c 0 22 l λC D=>gC C 5 D λE F=>cV E (gl 61 b F λG H=>gx (fH 30 c) H λI J=>Ca pQ 25 #[G,I] J λK L=>gt K L λM N=>B (M,()) N) (dz 30 c 0 22 F λO P=>gC O 9 P λQ R=>cV Q (gl 61 b R λS T=>gx (fH 30 c) T λU V=>Ca pQ 25 #[S,U] V λX Y=>gt X Y λaa ab=>B (aa,()) ab) (B (bF,()) R))) (Zw e f g h))
def aa6(a:T2)(b:T2->Wp)(c d:Vt_)(e:cG)(f:T1)(g:Wt_):=NV->cV f.1 (g1 a.2.1 g λh i=>b (a.1,h,()) i) (dz 30 c 1 23 g λj k=>Ca pQ 14 #[d,j] k λl m=>nR l m λn o p=>gv 42 n p λq r=>gE o r λs t=>cV s (e bF t) (Ca pQ 20 #[d] t λu v=>gv 61 u v λw x=>dz 61 w 3 56 x λy z=>gn 56 false y z λA B=>qB (ZO A w c q e a b) (a.1,(gI 0),()) B))
def ZC(a b c:Vt_)(d:cG)(e:T2)(f:Wt_)(g:T2->Wp):=gc e.2.1 a f λh i=>cV h (gi 65 b e.2.1 i λj k=>gx (fH 30 j) k λl m=>gx (nE 30) m λn o=>nj pQ (jH 30 n l) o λp=>gx (fH 30 n) p λq r=>Ca pQ 18 #[c,q] r λs t=>gv 52 s t λu v=>jW (λw=>dz 52 u 0 43 v λx y=>gE x y λz A=>cV z (w (bT,()) A) (dz 30 n 0 22 A λB C=>gb .neq 22 true B (gB 5) C λD E=>cV D (dz 30 n 0 22 E λF G=>gb .neq 22 true F (gB 7) G λH I=>cV H (dz 30 n 0 22 I λJ K=>gb .neq 22 true J (gB 9) K λL M=>cV L (dz 30 n 0 22 M λN O=>gb .neq 22 true N (gB 2) O λP Q=>w (P,()) Q) (w (bF,()) M)) (w (bF,()) I)) (w (bF,()) E))) (aa6 e g n c d)) (Ca pQ 13 #[] i d)
def af9(a:Vt_)(b:cG)(c:Vt_)(d:T1)(e:Wt_):=NV->cV d.1 (gb .neq 39 true a (.pointer none) e λf g=>cV f (Ca pQ 13 #[] g b) (b bF g)) (gn 65 false c e λh i=>qB (ZC h c a b) (bF,(gI 0),()) i)
def ca5(k:Ca pQ 22 #[] W λb c=>jW (λd=>gb .eql 39 true b (.pointer none) c λe f=>cV e (d (bT,()) f) (gn 65 false a f λg h=>gb .gtr 3 true g (gI 150) h λi j=>d (i,()) j)) (af9 b Z a)):Ca pQ 5 #[a] W Z:=cj Tryz.func5 k
end
end Go.Proofs
namespace Go.Proofs
open Go Go.Vc
attribute [local congr] cR
section
variable{w:Wt_}{b lo:Nat}{d nx fu:Int}{ss:Nat->Value}{A:List Ac}{C:List Ct}{P:List Po}{O B:List (Int×Od)}
def SB.md0{w' :Wt_}(h:SB w b d nx fu ss A C P O B lo)(a:M0 w w'):SB w' b d nx fu ss A C P O B lo:=SB.modX h a eQ
def SB.len(h:SB w b d nx fu ss A C P O B lo)(i:Nat)(hi:3<=i)(e:i<=7):∃a c,ss i=.slice a (LN A C P O B i) c:=by
 obtain⟨a,c,f,_⟩:=(h.own i hi e).isSl;exact⟨a,c,f⟩
end
end Go.Proofs
namespace Go.Proofs.YtnfloameajanhaaGreat
open Go Go.Vc Go.Proofs Go.ChangeShapes Go.WideShapes Go.ChangeAt Go.RowKit
set_option maxRecDepth 100000 in
def open_cms{H:Type}{enc:TypeId×Value->H}{w:World}{v0:Value}{j:DataW H}{q:List MemPlace}{d:Nat}(a:Value.okWide Tryz.prog w .any d 65 v0)(g:∃b,DataW.trod enc Tryz.prog w 0 (λ_=>true) true b 65 v0.cells.toList=some (j,q))
  (r:Wt Tryz.prog reachBytes 65 j):∃l:List Cm,Rd w 35 v0 l.length (l.flatMap cmC)/\∀x∈l,x.Fit:=by
 have h:v0.cells.toList=[v0]:=by
  unfold Value.okWide at a;rw[Tryz.underlying65]at a;simp only[Cell.okWide,Tryz.underlying65]at a;unfold Cell.ok at a;rw[Tryz.underlying65]at a;cases v0<;>first|rfl|exact a.elim
 obtain⟨b,g⟩:=g;rw[h]at g;obtain⟨v,e,L,k,-,o⟩:=nJ (sz:=35) Tryz.underlying65 cU qZ g r;cases e
 obtain⟨l,rfl,i⟩:=list_choose (f:=cmC) (Q:=Cm.Fit) λc s=>by
  obtain⟨n,t,y,m,p⟩:=o c s;exact open_cm n m p
 rw[List.length_map,<-List.flatMap_def]at k;exact⟨l,k,i⟩
end Go.Proofs.YtnfloameajanhaaGreat
namespace Go.Proofs
open Go Go.Vc
attribute [local congr] cR
variable {x:Int×Od}{b:Nat}{S:Ven}{w:Wt_}
def Ven.oL(S:Ven):List (Int×Od):=S.nums.flatMap λn=>(S.bk n).all.map λo=>(n,o)
def Ven.bL(S:Ven):List (Int×Od):=S.nums.flatMap λn=>(S.bd n).map λo=>(n,o)
def yT(h:x∈S.oL):x.1∈S.nums/\x.2∈(S.bk x.1).all:=by
 obtain⟨n,b,h⟩:=List.mem_flatMap.1 h;obtain⟨o,a,rfl⟩:=cF.1 h;exact⟨b,a⟩
def yD(h:x∈S.bL):x.1∈S.nums/\x.2∈S.bd x.1:=by
 obtain⟨n,b,h⟩:=List.mem_flatMap.1 h;obtain⟨o,a,rfl⟩:=cF.1 h;exact⟨b,a⟩
def tM(h:x∈S.oL++S.bL):x.2∈S.ords x.1:=by
 rcases dg.1 h with h|h
 ·exact fk _ (yT h).2
 ·exact gg _ (yD h).2
def pK(h:S.Ok):S.oL.length<=3200/\S.bL.length<=800:=by
 have b:=tX h.ord S.nums.length;have a:=tO h.ord S.nums.length;unfold wi at b;unfold vV at a;rw[cN]at b a;have d:=h.cal.len;have c:S.nums.length=S.cal.l.length:=by unfold Ven.nums;rw[cz]
 exact⟨by show(S.nums.flatMap _).length<=_;omega,by show(S.nums.flatMap _).length<=_;omega⟩
def jZ(x:Int×Od):(ju x).length=6:=rfl
def tL(l:List (Int×Od)):(l.flatMap ju).all (·.oneCell')=true:=by
 induction l with
 |nil=>rfl
 |cons x l a=>rw[eu,gj,a];rfl
abbrev kU:TypeId:=59
def xC:Tryz.prog.underlying kU=some (.slice 76):=cU
def tE{lo:Nat}{d nx a:Int}{ss:Nat->Value}{A:List Ac}{C:List Ct}{P:List Po}{O B:List (Int×Od)}(h:SB w b d nx a ss A C P O B lo)(i:Nat)(hi:i=6\/i=7):(iL kU (pt b i)).run pQ w=.ok (ss i) w:=by
 have e:kU=xL i:=by rcases hi with rfl|rfl<;>rfl
 rw[e];exact h.ld i qZ qZ
def CF{lo:Nat}{d nx R:Int}{ss:Nat->Value}{A:List Ac}{C:List Ct}{P:List Po}{O B:List (Int×Od)}{K:cG}(h:SB w b d nx R ss A C P O B lo)(Z:O.length<=10000)(hB:B.length<=10000)
  (S:∀s p,jo p 76 6 s (O++B).length ((O++B).flatMap ju)->M0 w p->K s p):
  wS pQ (iF sV (pt b 0) 6) λj=>
  uc pQ (iL kU j) w.drew λk=>
  wS pQ (iF sV (pt b 0) 7) λi=>
  uc pQ (iL kU i) w.drew λg=>
  rx pQ (jQ kU 0 []) w.drew λu a=>
  Sem.run pQ (iL kU i) a=.ok g a/\Sem.run pQ (iL kU j) a=.ok k a/\
  (rx pQ (eg #[kU,kU] kU [u,k]) a λo f=>
  Sem.run pQ (iL kU i) f=.ok g f/\
  (rx pQ (eg #[kU,kU] kU [o,g]) f λv x=>K v x)):=by
 have md:M0 w w.drew:=mP;have l:=SB.md0 h md;refine dw (λ_=>dZ _ 6 qZ) (dp (tE l 6 (.inl rfl)) ?_);refine dw (λ_=>dZ _ 7 qZ) (dp (tE l 7 (.inr rfl)) ?_)
 try dsimp only
 generalize w.drew=c at md l|-;have t:wd pQ 76 6 40:=eO (Qg 6);have m:Tryz.prog.underlying kU=some (.slice 76):=Zb 6;refine oJ [] m t rfl rfl (by simp) qZ ?_;have n:M0 c (c.alloc (.cells ([]:LV_).toArray 76)):=lm
 have E:jo (c.alloc (.cells ([]:LV_).toArray 76)) 76 6 (.slice (some ⟨c.heap.size,0,none⟩) 0 0) 0 []:=
  ⟨by simp,.inr ⟨c.heap.size,0,[],rfl,cJ _,by rw[gy,bZ rfl];simp,by simp⟩⟩
 have I:(([]:LV_).flatMap (·.cells.toList)).toArray=([]:LV_).toArray:=rfl;rw[I]
 have F:∀y,cK (.slice (some ⟨c.heap.size,0,none⟩) 0 0) y->c.heap.size<=y:=λy e=>by
  simp only[cK,It]at e;have:=dB e;omega
 generalize c.alloc (.cells ([]:LV_).toArray 76)=X at n E|-;have q:=SB.md0 l n;refine⟨tE q 7 (.inr rfl),tE q 6 (.inl rfl),?_⟩;have N:Rd X 6 (ss 6) O.length (O.flatMap ju):=(q.own 6 qZ qZ).rd;refine jR m m t E N (tL O) qZ λV z T L M=>?_;have D:M0 c z:=n.on L λy e=>.inr (F y e);have G:=SB.md0 l D;refine⟨tE G 7 (.inr rfl),?_⟩;have Q:Rd z 6 (ss 7) B.length (B.flatMap ju):=(G.own 7 qZ qZ).rd
 have r:∀y,cK V y->c.heap.size<=y:=λy e=>by
  rcases M y e with h|h
  ·exact F y h
  ·have:=n.size;omega
 refine jR m m t T Q (tL B) qZ λJ H U W Y=>?_;refine S J H ?_ ((md.trans D).on W λy e=>.inr (by have:=r y e;have:=md.size;omega));rw[eJ,cD];simpa using U
def Rv{s:Vt_}{L:List (Int×Od)}(h:jo w 76 6 s L.length (L.flatMap ju)){i:Nat}(hi:i<L.length):
  ∃b a,(∀W,(iX kU s (gI (i:Int))).run pQ W=.ok (pt b a) W)/\At w b a (ju L[i]):=by
 obtain⟨b,a,e,c,d,g⟩:=h.rd.item (f:=ju) jZ hi rfl;exact⟨b,a+i*6,λW=>by rw[c];simp[go_sem,hi,cS],g⟩
def Cx{off:Nat}(h:At w b off (ju x)):(iL 23 (pt b (off+1+1))).run pQ w=.ok (gU x.2.acct) w:=by
 have:=h.cell 2 (gU x.2.acct) rfl;obtain⟨C,e,fz,d,c⟩:=h.get;have a:=c 2 _ rfl;rw[show off+2=off+1+1 by omega]at a;simp[go_sem,d,a]
end Go.Proofs
namespace Go.Proofs
open Go Go.Vc
attribute [local congr] cR
def wW(d nx b:Int)(ss:Nat->Value)(w:Wt_):∃a,(Instr.box sV (As d nx b ss)).run pQ w=.ok (pt w.heap.size 0) a/\hC a w.heap.size (rN d nx b ss).toArray sV/\M0 w a:=
 ⟨w.alloc (.cells (rN d nx b ss).toArray sV),rfl,by show hp _ _=_;simp[go_sem],(de.refl _ w).alloc _⟩
def yB:Tryz.prog.underlying 58=some (.slice 79):=cU
def ut{S:Ven}(h:S.Ok):S.led.all.length<=100000/\S.cal.l.length<=100000/\(S.nums.flatMap S.led.holders).length<=100000/\S.oL.length<=100000/\S.bL.length<=100000:=by
 have d:=h.led.led.len;have b:=h.cal.len;have a:=uM h.led.led S.nums.length;unfold wP at a;rw[cN]at a;have c:S.nums.length=S.cal.l.length:=by unfold Ven.nums;rw[cz]
 have e:=pK h;exact⟨qZ,qZ,qZ,qZ,qZ⟩
def tQ{W:Wt_}{p:Nat}{r:Rp}{sT sG sA:Vt_}(h:hC W p (mC r sT sG sA).toArray lx):(iL 43 (pt p 0)).run pQ W=.ok (gI r.err) W:=by
 simp[go_sem,h,mC]
def ye(W:Wt_){p:Nat}:(iF lx (pt p 0) 0).run pQ W=.ok (pt p 0) W:=by simp[go_sem]
section
variable{w:Wt_}{b off:Nat}{a:Ac}{k:Ct}
def EO(h:At w b off (dH a)):(iL 23 (pt b off)).run pQ w=.ok (gU a.num) w:=by
 obtain⟨C,e,fz,g,f⟩:=h.get;have c:=f 0 _ rfl;rw[dS]at c;simp[go_sem,g,c]
def HT(h:At w b off (fI k)):(iL 23 (pt b off)).run pQ w=.ok (gU k.spec.num) w:=by
 obtain⟨C,e,fz,g,f⟩:=h.get;have c:=f 0 (gU k.spec.num) rfl;rw[dS]at c;simp[go_sem,g,c]
end
section
variable{w:Wt_}{b lo:Nat}{d nx fu:Int}{ss:Nat->Value}{A:List Ac}{C:List Ct}{P:List Po}{O B:List (Int×Od)}
def Xw(h:SB w b d nx fu ss A C P O B lo){i:Nat}(hi:i<C.length):
  ∃a off,(∀W,(iX 57 (ss 4) (gI (i:Int))).run pQ W=.ok (pt a off) W)/\At w a off (fI C[i]):=by
 have j:Rd w 27 (ss 4) C.length (C.flatMap fI):=(h.own 4 qZ qZ).rd;obtain⟨b,off,g,c,e,l⟩:=j.item (f:=fI) eE hi rfl;exact⟨b,off+i*27,λW=>by rw[c];simp[go_sem,hi,cS],l⟩
end
def yc(t:TypeId)(q:IntKind)(x y:Int)(c:Bool)(f:Tryz.prog.underlying t=some (.int q))(W:Wt_):(qE .eql t c (.int q x) (.int q y)).run pQ W=.ok (.bool (decide (x=y))) W:=by
 have e:(x==y)=decide (x=y):=rfl;simp[go_sem,e]
end Go.Proofs
namespace Go.Proofs
open Go Go.Vc
def rj{S:Ven}(h:S.Ok):S.nums.Nodup:=by
 have:=h.cal.srt;unfold qO at this;unfold Ven.nums;rw[List.Nodup,fD];exact this.imp λh e=>by omega
end Go.Proofs
namespace Go.Proofs
open Go Go.Vc
attribute [local congr] cR
section
variable{α:Type}{f:α->Int}{l:List α}
def yj(f:α->Int){i:Nat}(hi:i<l.length):((l.take (i+1)).map f).sum=((l.take i).map f).sum+f l[i]:=by
 rw[eA hi,dy,g9];simp
def Dm{B:Int}(h:∀x∈l,-B<=f x/\f x<=B):∀i,i<=l.length-> -(i*B)<=((l.take i).map f).sum/\((l.take i).map f).sum<=i*B
 |0,_=>by simp
 |i+1,a=>by
  have d:=Dm h i qZ;have c:=h _ (cC a);rw[yj f a,iT,Int.add_mul];omega
end
section
variable{w:Wt_}{b off:Nat}{p:Po}{s:Vt_}
def Rb(h:At w b off (ec p)):(iL 23 (pt b off)).run pQ w=.ok (gU p.c) w:=by
 obtain⟨C,e,fz,d,c⟩:=h.get;have a:=c 0 _ rfl;rw[dS]at a;simp[go_sem,d,a]
def ab3(h:At w b off (ec p)):(iL 23 (pt b (off+1))).run pQ w=.ok (gU p.a) w:=by
 obtain⟨C,e,fz,c,a⟩:=h.get;have d:=a 1 _ rfl;simp[go_sem,c,d]
def PV(h:At w b off (ec p)):(iL 2 (pt b (off+2))).run pQ w=.ok (gI p.q) w:=by
 obtain⟨C,e,fz,c,a⟩:=h.get;have d:=a 2 _ rfl;simp[go_sem,c,d]
def K6{x:Int×Od}(h:At w b off (ju x)):(iL 23 (pt b off)).run pQ w=.ok (gU x.1) w:=by
 obtain⟨C,e,fz,d,c⟩:=h.get;have a:=c 0 (gU x.1) rfl;rw[dS]at a;simp[go_sem,d,a]
def Ml{A:List Po}(h:Rd w 4 s A.length (A.flatMap ec)){i:Nat}(hi:i<A.length):
  ∃a off,(∀W,(iX 58 s (gI (i:Int))).run pQ W=.ok (pt a off) W)/\At w a off (ec A[i]):=by
 obtain⟨b,off,e,c,d,g⟩:=h.item (f:=ec) (λx=>by simp[ec]) hi rfl;exact⟨b,off+i*4,λW=>by rw[c];simp[go_sem,hi,cS],g⟩
end
def Hn{x y:Int}(h: -9223372036854775808<=x+y/\x+y<9223372036854775808)(W:Wt_):(qE .add 2 false (gI x) (gI y)).run pQ W=.ok (gI (x+y)) W:=by
 simp[go_sem];rw[uP h.1 h.2]
def Mg{b off:Nat}(W:Wt_):(iF 83 (pt b off) 0).run pQ W=.ok (pt b off) W:=by simp[go_sem,cS]
def HS{b off:Nat}(W:Wt_):(iF 27 (pt b off) 0).run pQ W=.ok (pt b off) W:=by simp[go_sem,cS]
end Go.Proofs
namespace Go.Proofs
open Go Go.Vc
def zP{L:Led}(h:L.Ok){p:Po}(hp:p∈L.held):L.position p.c p.a=p:=by
 unfold Led.position Led.pos?;have:=find_unique h.sp hp;show(List.find? (λx=>decide (x.key=p.key)) _).getD _=p;rw[this];rfl
end Go.Proofs
namespace Go.Proofs
open Go Go.Vc
attribute [local congr] cR
variable {F:NP_}{v:Nat}{S:Ven}{w:Wt_}
def tR{r:Rp}{sT sG sA:Vt_}{K:Value->World->Prop}(h:vG w sT sG sA r)
  (i:∀p w',hC w' p (mC r sT sG sA).toArray lx->vG w' sT sG sA r->M0 w w' ->w.heap.size<=p->K (pt p 0) w'):
  rv pQ (iA lx true (.tuple #[])) w λe c=>ru pQ (iS lx e (ud r sT sG sA)) c λa=>K e a:=by
 obtain⟨c,m,f,l⟩:=qy w;apply cI m;obtain⟨a,j,k,g⟩:=pl (r:=r) (sT:=sT) (sG:=sG) (sA:=sA) f rfl h.isSl;apply ir j;have M:=l.on g λy n=>gz;exact i _ a k (h.mod M eQ) M (cJ _)
structure vn(w0 w:Wt_)(v:Nat)(F:NP_)(S:Ven):Prop where
 q:lw w v F S
 ok:S.Ok
 m:M0 w0 w
 n:∀y,F y->w0.heap.size<=y
def vn.md0{a w' :Wt_}(h:vn a w v F S)(m:M0 w w'):vn a w' v F S:=⟨h.q.md0 m,h.ok,h.m.trans m,h.n⟩
def vn.apply{i:Wt_}{x:Cm}{K:cG}(h:vn i w v F S)(j:x.Fit)
  (k:∀a e c F' w',vn i w' v F' (S.apply x).2->vG w' a e c (S.apply x).1->de F w w' ->(∀y,F' y->F y\/w.heap.size<=y)->K (ud (S.apply x).1 a e c) w'):Ca pQ 18 #[eY v,vI x] w K:=
 kW h.q h.ok j λa e c F' w' q r m n _=>k a e c F' w' ⟨q,mV h.ok j,h.m.on m λy f=>.inr (h.n y f),λy f=>by
  rcases n y f with g|g
  ·exact h.n y g
  ·have:=h.m.size;omega⟩ r m n
structure KS(w:Wt_)(F:NP_)(b:Nat)(d nx fu:Int)(ss:Nat->Value)(A:List Ac)(C:List Ct)(P:List Po)(O B:List (Int×Od))(lo:Nat):Prop where
 sb:SB w b d nx fu ss A C P O B lo
 ap:∀y,XS ss b y->¬F y
def vn.state{j:Wt_}{K:Value->World->Prop}(h:vn j w v F S)
  (n:∀ss b lo w',KS w' F b S.cal.day S.next S.led.fund ss S.led.all S.cal.l (S.nums.flatMap S.led.holders) S.oL S.bL lo->vn j w' v F S->M0 w w' ->w.heap.size<=b->K (pt b 0) w'):
  Ca pQ 20 #[eY v] w λv0 a=>rv pQ (iA sV true (.tuple #[])) a λg a=>ru pQ (iS sV g v0) a λz=>K g z:=by
 obtain⟨c,l,mb,md,A,D,fp,q,J⟩:=h.q;refine mK q h.ok λss b lo G s t m H=>pZ s λp k f x hp=>?_;have M:=m.trans x;have E:=m.size;refine n ss p lo k ⟨f,λy e o=>?_⟩ (h.md0 M) M qZ;have I:=h.q.lt o;rcases e with rfl|⟨i,r,u,e⟩
 ·omega
 ·have:=(f.nw i y r u e).1;omega
def B0(t:TypeId)(q:IntKind)(x y:Int)(c:Bool)(a:Tryz.prog.underlying t=some (.int q))(W:Wt_):(qE .neq t c (.int q x) (.int q y)).run pQ W=.ok (.bool (decide (x≠y))) W:=by
 by_cases h:x=y<;>simp[go_sem,h]
def AX{x:Int}(h:0<=x/\x<9223372036854775808)(W:Wt_):(qE .add 24 true (gQ x) (gQ 1)).run pQ W=.ok (gQ (x+1)) W:=by
 simp[go_sem];rw[wU_]
def GK(b:Bool)(W:Wt_):(Op.unary .not (.bool b)).run pQ W=.ok (.bool (!b)) W:=by simp[go_sem]
end Go.Proofs
namespace Go.Proofs
open Go Go.Vc
variable {c:Cm}{S:Ven}
def Ts{a:Int}(h:S.bears a=0):(S.need a).2=0/\(S.need a).1.total<=(S.acc a).cash:=by
 unfold Ven.bears at h;by_cases b:(S.need a).2≠0
 ·grind
 rw[aZ b]at h;by_cases c:(S.acc a).cash<(S.need a).1.total
 ·grind
 exact⟨by simpa using b,qZ⟩
def DA{n:Int}{o:Od}{p:Pm}(h:(S.traded n o p).1=0):(tradeL n o p.trades S.led).1=0/\(S.traded n o p).2.2.bears o.acct=0:=by
 unfold Ven.traded at h|-;simp only at h|-;by_cases a:(tradeL n o p.trades S.led).1≠0
 ·grind
 rw[aZ a]at h|-;exact⟨by simpa using a,h⟩
def HK(h:(S.place c).1=0):(S.place c).2.2.bears c.acct=0:=by
 unfold Ven.place at h|-;simp only at h|-;by_cases a:(S.order c).1≠0
 ·grind
 rw[aZ a]at h|-;by_cases d:(gD ((S.order c).2.2.bk c.ct) (S.order c).2.1 c.ty).1≠0
 ·grind
 rw[aZ d]at h|-
 have b:(S.order c).2.1.acct=c.acct:=by
  unfold Ven.order at a|-;simp only at a|-;split at a
  ·grind
  ·rename_i e
   rw[aZ e];split<;>rfl
 have:=(DA h).2
 rwa[b]at this
def Nf(h:(S.bid c).1=0):(S.bid c).2.2.bears c.acct=0:=by
 unfold Ven.bid at h|-;simp only at h|-;by_cases b:(S.order c).1≠0
 ·grind
 rw[aZ b]at h|-;by_cases a:50<=((S.order c).2.2.bd c.ct).length
 ·grind
 rw[aZ a]at h|-;exact h
def DT(h:(S.replace c).1=0):(S.replace c).2.2.bears c.acct=0:=by
 unfold Ven.replace at h|-;cases a:S.find c.acct c.num with
 |none=>rw[a]at h;cases h
 |some x=>
  obtain⟨o,n⟩:=x;rw[a]at h;simp only at h|-;by_cases d:S.pass c.acct n o.buy c.price c.qty o≠0
  ·grind
  rw[aZ d]at h|-;by_cases b:(fX (S.bk n) c.num c.price c.qty).1≠0
  ·grind
  rw[aZ b]at h|-;have:=(DA h).2
  rwa[(find_spec a).2.1]at this
def iq(h:(S.apply c).1.err=0):(S.done c).1=0/\S.apply c=(S.done c).2:=by
 unfold Ven.apply at h|-;split at h
 ·simp[failR]at h
 ·rename_i b
  rw[aZ b];simp only at h|-;split at h
  ·rename_i a;exact absurd h a
  ·rename_i a;rw[aZ a];exact⟨by simpa using a,rfl⟩
def Hy(k:c.kind=5\/c.kind=7\/c.kind=9\/c.kind=2)(g:(S.apply c).1.err=0):c.acct≠0/\(S.apply c).2.bears c.acct=0:=by
 obtain⟨b,d⟩:=iq g;rw[d];unfold Ven.done at b|-;by_cases k2:c.kind=2
 ·rw[aZ qZ,bZ k2]at b|-;simp only at b|-;by_cases f:(S.led.withdraw c.acct c.amt).1≠0
  ·grind
  rw[aZ f]at b;split at b
  ·cases b
  ·refine⟨?_,b⟩;rcases Led.withdraw_cases (S:=S.led) (n:=c.acct) (m:=c.amt)with⟨-,h⟩|⟨a,-,-,i,-⟩
   ·exact absurd h f
   ·exact i
 ·rw[aZ qZ,aZ k2,aZ qZ,aZ qZ,aZ qZ,aZ qZ,aZ qZ]at b|-;by_cases e:c.acct=0
  ·grind
  rw[aZ e,aZ qZ]at b|-;refine⟨e,?_⟩;by_cases k7:c.kind=7
  ·rw[bZ k7]at b|-;exact DT b
  rw[aZ k7]at b|-;by_cases j:S.led.getO c.acct=none
  ·grind
  rw[aZ j]at b|-;by_cases k5:c.kind=5
  ·rw[bZ k5]at b|-;exact HK b
  rw[aZ k5,bZ (by omega:c.kind=9)]at b|-;exact Nf b
def C3{n:Int}{o:Od}:∀l L,SortP L.held->(∀t∈l,t.acct≠o.acct)->(tradeL n o l L).1=0->
  ((tradeL n o l L).2.position n o.acct).q=(L.position n o.acct).q+(if o.buy then(l.map (·.qty)).sum else -(l.map (·.qty)).sum)
 | [],L,_,_,_=>by simp[tradeL]
 |t::l,L,e,d,h=>by
  have a:=d t cw;unfold tradeL at h|-;simp only at h|-;obtain⟨x,c⟩:=dW (L.trade n (if o.buy then o.acct else t.acct) (if o.buy then t.acct else o.acct) t.price t.qty);rw[<-c]at h|-;by_cases f:x.1≠0
  ·grind
  rw[aZ f]at h|-;have b:(L.trade n (if o.buy then o.acct else t.acct) (if o.buy then t.acct else o.acct) t.price t.qty).1=0:=by grind
  have hp:=Led.position_trade e b n o.acct;rw[<-c]at hp;rw[C3 l x.2 (by rw[c];exact Led.trade_sort e) (λu g=>d u (cu _ g)) h,hp,cM,di];cases i:o.buy with
  |true=>simp[kG a];omega
  |false=>simp;omega
def xP(l l' :List Od)(a:Int)(d:Bool):oM (l++l') a d=oM l a d+oM l' a d:=by
 unfold oM;rw[dJ,dy,g9]
def P2{l l' :List Od}(h:l.Perm l')(a:Int)(d:Bool):oM l a d=oM l' a d:=perm_sum ((h.filter _).map _)
def A5{l:List Od}{d e:Bool}(h:∀o∈l,o.buy=d)(b:d≠e)(a:Int):oM l a e=0:=by
 unfold oM;rw[ii.2]
 ·rfl
 ·grind
def RS(o:Od)(l:List Od):oM (o::l) o.acct o.buy=o.left+oM l o.acct o.buy:=by
 unfold oM;rw[dI (by simp)];rfl
def SY{B:Bk}(h:∀d,∀o∈B d,o.buy=d)(a:Int)(d:Bool):oM B.all a d=oM (B d) a d:=by
 unfold Bk.all;rw[xP];cases d
 ·rw[A5 (h true) (by simp)];omega
 ·rw[A5 (h false) (by simp)];omega
def PJ(S:Ven)(n a:Int):(S.opn n a).1=oM (S.ords n) a true/\(S.opn n a).2=oM (S.ords n) a false:=by
 unfold Ven.ords;rw[xP,xP];exact⟨rfl,rfl⟩
def Ven.atWorst(S:Ven)(n a:Int)(buy:Bool):Int:=(if buy then(S.led.position n a).q else -(S.led.position n a).q)+oM (S.ords n) a buy
def An{a n price qty:Int}{buy:Bool}(h:Kj S a n buy price qty pC):∃k,eR S.cal.l n=some k/\S.atWorst n a buy+qty<=k.spec.limit:=by
 obtain⟨k,c,-,-,b⟩:=h.opn;refine⟨k,c,?_⟩;obtain⟨f,d⟩:=PJ S n a;unfold Gt.far at b;unfold Ven.atWorst;cases buy with
 |true=>
  simp only[fh,jh]at b|-;have e:(if pC.buy=true then pC.left else 0)=0:=rfl;rw[e,f]at b;omega
 |false=>
  simp only[dE,eW,jh]at b|-;have e:(if pC.buy=true then 0 else pC.left)=0:=rfl;rw[e,d]at b;omega
def Fv(h:S.Ok){c:Cm}(W:c.kind=5\/c.kind=9)(U:(S.apply c).1.err=0):
  ∃k,eR (S.apply c).2.cal.l c.ct=some k/\(S.apply c).2.atWorst c.ct c.acct c.buy<=k.spec.limit:=by
 obtain⟨a,C⟩:=iq U;rw[C];unfold Ven.done at a|-;rw[aZ qZ,aZ qZ,aZ qZ,aZ qZ,aZ qZ,aZ qZ,aZ qZ]at a|-;by_cases y:c.acct=0
 ·rw[bZ y]at a;cases a
 rw[aZ y,aZ qZ,aZ qZ]at a|-;by_cases H:S.led.getO c.acct=none
 ·rw[bZ H]at a;cases a
 rw[aZ H]at a|-;by_cases k5:c.kind=5
 ·rw[bZ k5]at a|-;unfold Ven.place at a|-;simp only at a|-;by_cases g:(S.order c).1≠0
  ·rw[bZ g]at a;exact absurd a g
  rw[aZ g]at a|-;obtain⟨hp,Q,q⟩:=order_ok y (by simpa using g);rw[q]at a|-;simp only at a|-;by_cases l:(gD (S.bk c.ct) (c.od S.next) c.ty).1≠0
  ·rw[bZ l]at a;exact absurd a l
  rw[aZ l]at a|-;obtain⟨e,D,-⟩:=place_0 (by simpa using l:(gD (S.bk c.ct) (c.od S.next) c.ty).1=0);rw[e]at a|-;simp only at a|-;have u:=Gg (rests:=decide (c.ty=1\/c.ty=4)) (h.ord.bkMay c.ct) D;obtain⟨X,M⟩:=dW (ko (S.bk c.ct) (c.od S.next) (decide (c.ty=1\/c.ty=4)));rw[<-M]at a u|-;obtain⟨P,-⟩:=DA a;rw[qg];obtain⟨k,p,b⟩:=An hp;refine⟨k,p,?_⟩;have j:=C3 (n:=c.ct) (o:=c.od S.next) X.2.trades S.led h.led.led.sp (λt K=>(u.tr t K).2.2.1) P;rw[u.qty]at j
  have x:∀d,∀o∈X.1 d,o.buy=d\/d=c.buy:=λd o s=>by
   by_cases w:d=c.buy
   ·exact .inr w
   ·left;have v:d= !c.buy:=by revert w;cases d<;>cases c.buy<;>simp
    have G:o∈X.1 (!(c.od S.next).buy):=by rw[v]at s;exact s
    obtain⟨T,L,B⟩:=u.opp.mem G;rw[<-key_buy B,v];exact(h.ord.bkMay c.ct _ T L).2
  have f:oM (X.1 !c.buy) c.acct c.buy=0:=A5 (d:= !c.buy) (λo s=>by
   rcases x _ o s with h|h
   ·exact h
   ·cases m:c.buy<;>rw[m]at h<;>cases h) (by grind) _
  have z:oM X.1.all c.acct c.buy=oM (X.1 c.buy) c.acct c.buy:=by
   unfold Bk.all;rw[xP];cases m:c.buy with
   |true=>rw[m]at f;simp only[mL]at f;rw[f];omega
   |false=>rw[m]at f;simp only[Bool.not_false]at f;rw[f];omega
  have V:oM (S.bk c.ct).all c.acct c.buy=oM (S.bk c.ct c.buy) c.acct c.buy:=SY (λd o s=>(h.ord.bkMay c.ct d o s).2) _ _;have F:=u.fill
  have i:oM (X.1 c.buy) c.acct c.buy<=oM (S.bk c.ct c.buy) c.acct c.buy+X.2.left:=by
   rcases u.own with J|⟨J,R,-⟩
   ·have A:X.1 c.buy=S.bk c.ct c.buy:=J;rw[A];omega
   ·have E:X.1 c.buy=tK c.buy (S.bk c.ct c.buy) {c.od S.next with left:=X.2.left}:=R;rw[E,P2 (wx _ _ _)];have:=RS {c.od S.next with left:=X.2.left} (S.bk c.ct c.buy);have N:oM ({c.od S.next with left:=X.2.left}::S.bk c.ct c.buy) c.acct c.buy=X.2.left+oM (S.bk c.ct c.buy) c.acct c.buy:=this;rw[N];omega
  have I:X.2.filled+X.2.left<=c.qty:=F.2.2;unfold Ven.atWorst at b|-;unfold Ven.ords at b|-;show(if c.buy=true then((tradeL c.ct (c.od S.next) X.2.trades S.led).2.position c.ct c.acct).q else -((tradeL c.ct (c.od S.next) X.2.trades S.led).2.position c.ct c.acct).q)+oM ((upd S.bk c.ct X.1 c.ct).all++S.bd c.ct) c.acct c.buy<=_;rw[upd_self];rw[xP]at b|-;rw[z];rw[V]at b;have r:((tradeL c.ct (c.od S.next) X.2.trades S.led).2.position c.ct c.acct).q=(S.led.position c.ct c.acct).q+(if c.buy=true then X.2.filled else -X.2.filled):=j;rw[r];cases m:c.buy with
  |true=>rw[m]at b i;simp only[fh]at b|-;omega
  |false=>rw[m]at b i;simp only[dE,eW]at b|-;omega
 ·have k9:c.kind=9:=qZ;rw[aZ k5,bZ k9]at a|-;unfold Ven.bid at a|-;simp only at a|-;by_cases g:(S.order c).1≠0
  ·rw[bZ g]at a;exact absurd a g
  rw[aZ g]at a|-;obtain⟨hp,Q,q⟩:=order_ok y (by simpa using g);rw[q]at a|-;simp only at a|-;by_cases l:50<=(S.bd c.ct).length
  ·rw[bZ l]at a;cases a
  rw[aZ l]at a|-;obtain⟨k,p,b⟩:=An hp;refine⟨k,p,?_⟩;unfold Ven.atWorst Ven.ords at b|-;show(if c.buy=true then(S.led.position c.ct c.acct).q else -(S.led.position c.ct c.acct).q)+oM ((S.bk c.ct).all++upd S.bd c.ct (S.bd c.ct++[c.od S.next]) c.ct) c.acct c.buy<=_;have e:=ox ((S.bk c.ct).all++S.bd c.ct) (c.od S.next) c.acct c.buy;have O:(if(c.od S.next).acct=c.acct/\(c.od S.next).buy=c.buy then(c.od S.next).left else 0)=c.qty:=bZ ⟨rfl,rfl⟩;rw[upd_self,<-df,e,O];omega
end Go.Proofs
namespace Go.Proofs
open Go Go.Vc
attribute [local congr] cR
variable {b:Nat}{w:Wt_}
def yU(n a:Int)(l:List Po):Int:=l.foldl (λq p=>if p.c=n/\p.a=a then p.q else q) 0
def Jl{n a:Int}{l:List Po}{i:Nat}(hi:i<l.length):yU n a (l.take (i+1))=if l[i].c=n/\l[i].a=a then l[i].q else yU n a (l.take i):=by
 unfold yU;rw[eA hi,kH];rfl
def Lu{n a v:Int}:∀(l:List Po) (q:Int),(∀p∈l,p.c=n->p.a=a->p.q=v)->l.foldl (λq p=>if p.c=n/\p.a=a then p.q else q) q=if(∃p∈l,p.c=n/\p.a=a)then v else q
 | [],q,_=>by simp
 |p::l,q,h=>by
  rw[ig,Lu l _ λx c=>h x (cu _ c)];by_cases hp:p.c=n/\p.a=a
  ·have e:∃x∈p::l,x.c=n/\x.a=a:=⟨p,cw,hp⟩
   rw[bZ hp,bZ e,h p cw hp.1 hp.2];split<;>rfl
  ·rw[aZ hp]
   have e:(∃x∈p::l,x.c=n/\x.a=a)↔∃x∈l,x.c=n/\x.a=a:=by
    constructor
    ·rintro⟨x,c,b⟩;rcases cH.1 c with rfl|c
     ·exact absurd b hp
     ·exact⟨x,c,b⟩
    ·grind
   simp only[e]
def La{n a B:Int}(c:0<=B){l:List Po}(h:∀p∈l,-B<=p.q/\p.q<=B):∀i,i<=l.length-> -B<=yU n a (l.take i)/\yU n a (l.take i)<=B
 |0,_=>by simp[yU];omega
 |i+1,b=>by
  have e:=La (n:=n) (a:=a) c h i qZ;have d:=h _ (cC b);rw[Jl b];split<;>omega
def Rh{S:Ven}(h:S.Ok)(n a:Int):yU n a (S.nums.flatMap S.led.holders)=(S.led.position n a).q:=by
 have j:∀p∈S.nums.flatMap S.led.holders,p.c=n->p.a=a->p.q=(S.led.position n a).q:=λp hp c f=>by
  obtain⟨m,-,hp⟩:=List.mem_flatMap.1 hp;rw[<-c,<-f,zP h.led.led (cO.1 hp).1]
 have e:=Lu (S.nums.flatMap S.led.holders) 0 j;unfold yU;rw[e];split
 ·rfl
 ·rename_i d
  unfold Led.position;cases i:S.led.pos? (n,a)with
  |none=>rfl
  |some p=>
   exfalso;unfold Led.pos? at i;have g:=fl i;have b:p.key=(n,a):=by grind
   have c:p.c=n:=fC (·.1) b;have f:p.a=a:=fC (·.2) b;exact d ⟨p,List.mem_flatMap.2 ⟨n,by rw[<-c];exact zn (h.led.held p g),cO.2 ⟨g,by simpa using c⟩⟩,c,f⟩
def Og(n a:Int)(d:Bool)(x:Int×Od):Int:=if x.1=n/\x.2.acct=a/\x.2.buy=d then x.2.left else 0
def T8(n a m:Int)(d:Bool)(l:List Od):((l.map λo=>(m,o)).map (Og n a d)).sum=if m=n then oM l a d else 0:=by
 induction l with
 |nil=>unfold oM;simp
 |cons o l c=>
  rw[cM,cM,di,c];unfold Og oM;by_cases b:m=n
  ·rw[bZ b,bZ b];by_cases e:o.acct=a/\o.buy=d
   ·grind
   ·grind
  ·grind
def Dp{n a:Int}{d:Bool}{f:Int->List Od}:∀(b:List Int),b.Nodup->((b.flatMap λm=>(f m).map λo=>(m,o)).map (Og n a d)).sum=if n∈b then oM (f n) a d else 0
 | [],_=>rfl
 |m::b,h=>by
  obtain⟨g,e⟩:=dA.1 h;rw[eu,dy,g9,T8,Dp b e];by_cases c:m=n
  ·grind
  ·rw[aZ c];by_cases i:n∈b
   ·grind
   ·grind
def Nt{S:Ven}(h:S.Ok){n a:Int}{d:Bool}{k:Ct}(b:eR S.cal.l n=some k):
  (if d then yU n a (S.nums.flatMap S.led.holders)else -yU n a (S.nums.flatMap S.led.holders))+((S.oL++S.bL).map (Og n a d)).sum=S.atWorst n a d:=by
 have c:n∈S.nums:=by
  have g:k.spec.num=n:=by simpa using jw b
  rw[<-g];exact dn (ry b)
 have e:(S.oL.map (Og n a d)).sum=oM (S.bk n).all a d:=by
  have:=Dp (n:=n) (a:=a) (d:=d) (f:=λm=>(S.bk m).all) S.nums (rj h);rw[bZ c]at this;exact this
 have i:(S.bL.map (Og n a d)).sum=oM (S.bd n) a d:=by
  have:=Dp (n:=n) (a:=a) (d:=d) (f:=S.bd) S.nums (rj h);rw[bZ c]at this;exact this
 rw[dy,g9,e,i,Rh h,<-xP];rfl
def al5{off:Nat}{x:Int×Od}(h:At w b off (ju x)):(iL 4 (pt b (off+1+2))).run pQ w=.ok (.bool x.2.buy) w/\(iL 2 (pt b (off+1+4))).run pQ w=.ok (gI x.2.left) w:=by
 obtain⟨C,e,fz,c,a⟩:=h.get;have f:=a 3 (.bool x.2.buy) rfl;have d:=a 5 (gI x.2.left) rfl;rw[show off+3=off+1+2 by omega]at f;rw[show off+5=off+1+4 by omega]at d;exact⟨by simp[go_sem,c,f],by simp[go_sem,c,d]⟩
def ab1{off:Nat}{k:Ct}(h:At w b off (fI k)):(iL 2 (pt b (off+5))).run pQ w=.ok (gI k.spec.limit) w:=by
 obtain⟨C,e,fz,c,a⟩:=h.get;have d:=a 5 (gI k.spec.limit) rfl;simp[go_sem,c,d]
def av5(x y:Bool)(W:Wt_):(qE .eql 4 false (.bool x) (.bool y)).run pQ W=.ok (.bool (decide (x=y))) W:=by
 cases x<;>cases y<;>simp[go_sem]
set_option maxRecDepth 10000 in
def JK{K:cG}{lo:Nat}{d nx T:Int}{ss:Nat->Value}{A:List Ac}{C:List Ct}{P:List Po}{O B:List (Int×Od)}{c:Cm}{k:Ct}(h:SB w b d nx T ss A C P O B lo)
  (hl:C.length<=16/\P.length<=100000/\O.length<=3200/\B.length<=800)(hP:∀p∈P,-10000000<=p.q/\p.q<=10000000)(hO:∀x∈O++B,0<=x.2.left/\x.2.left<=1000000)
  (hk:k∈C)(hkn:k.spec.num=c.ct)(hku:∀x∈C,x.spec.num=c.ct->x=k)(V:(if c.buy then yU c.ct c.acct P else -yU c.ct c.acct P)+((O++B).map (Og c.ct c.acct c.buy)).sum<=k.spec.limit)
  (hK:∀w',M0 w w' ->K (.bool true) w'):Ca pQ 25 #[As d nx T ss,vI c] w K:=by
 apply ax5;obtain⟨w1,e1,b1,m1⟩:=wW d nx T ss w;apply cI e1;have s1:SB w1 w.heap.size d nx T ss A C P O B lo:=⟨b1,λi t N=>(h.own i t N).mod m1 eQ,h.dj,λi y t N I=>⟨(h.nw i y t N I).1,by have:=h.ltX (.inr ⟨i,t,N,I⟩);omega⟩⟩
 generalize w.heap.size=p at s1|-;obtain⟨w2,e2,z2,m2⟩:=uT c w1;apply cI e2;generalize w1.heap.size=z at z2|-;have Y:=SB.md0 s1 m2;have M2:=m1.trans m2;obtain⟨a5,c5,e5⟩:=Y.len 5 qZ qZ;have e5:=e5;refine cI (dZ _ 5 qZ) (cI (Y.ld 5 qZ qZ) ?_);apply jm (gI (P.length:Int)) w2 (by rw[e5];exact lenV yB _ _ _ _);have hpb:=λi t=>La (n:=c.ct) (a:=c.acct) (by omega:(0:Int)<=10000000) hP i t
 refine eS (λst W=>∃(i:Nat),st=(gI (yU c.ct c.acct (P.take i)),gI i,())/\i<=P.length/\M0 w2 W)
  (λst _=>match st.2.1 with| .int _ i=>P.length - i.toNat|_=>0) ⟨0,by simp[yU],qZ,lX⟩ ?_
 rintro⟨_,_⟩ W ⟨i,⟨⟩,t,m⟩ KN Q;unfold WB;intro _;apply cI (ltV _ _ _);by_cases e:i<P.length
 ·rw[qo e];have M:=m.trans mP
  try dsimp only
  generalize W.drew=W4 at M|-;have X:=SB.md0 Y M;have z5:=M.hpk z2 id;obtain⟨a,o,ix,s⟩:=Ml (X.own 5 qZ qZ).rd e;refine dK.at (λst W=>st=(.bool (decide (P[i].c=c.ct/\P[i].a=c.acct)),())/\W=W4) ?_ ?_
  ·refine dw (λ_=>dZ _ 5 qZ) (dp (X.ld 5 qZ qZ) (dw ix ?_));refine qPv1 (pt a o) cS (dp (Rb s) ?_);refine dw tZ (dp (sD z5) (dw (λW=>yc 23 .u32 _ _ _ Tryz.underlying23 W) ?_));by_cases D:P[i].c=c.ct
   ·rw[qo D];refine dw (λ_=>dZ _ 5 qZ) (dp (X.ld 5 qZ qZ) (dw ix ?_));refine qPv0 (pt a (o+1)) (dp (ab3 s) ?_);refine dw pM (dp (rk z5) (dw (λW=>yc 23 .u32 _ _ _ Tryz.underlying23 W) ?_));exact⟨by simp[D],rfl⟩
   ·rw[DN D];exact⟨by simp[D],rfl⟩
  rintro _ W5 ⟨rfl,rfl⟩;unfold Vs;intro _;by_cases v:P[i].c=c.ct/\P[i].a=c.acct
  ·rw[qo v];refine cI (dZ _ 5 qZ) (cI (X.ld 5 qZ qZ) (cI (ix _) ?_));refine qSv0 (pt a (o+2)) (cI (PV s) ?_);apply cI (addV qZ _);exact Q _ _ ⟨i+1,by rw[Jl e,bZ v],qZ,M⟩ (by show P.length - (i+1)<P.length - i;omega)
  ·rw[DN v];apply cI (addV qZ _);exact Q _ _ ⟨i+1,by rw[Jl e,aZ v],qZ,M⟩ (by show P.length - (i+1)<P.length - i;omega)
 rw[DN e];have g:i=P.length:=qZ;subst g;have hq:=hpb P.length (cJ _);rw[cN]at hq|-;generalize yU c.ct c.acct P=q at hq V|-;have s3:=SB.md0 Y m;have z3:=m.hpk z2 id;refine dK.at (λst W' =>st=(gI (if c.buy then q else -q),())/\W' =W) ?_ ?_
 ·refine cI (MG _) (cI (Jr z3) (cI (GK _ _) ?_));cases hb:c.buy with
  |true=>rw[cy,aZ (by simp)];exact sI
  |false=>
   rw[cy,bZ (by simp)];apply cx (gI (-q)) W (by simp[go_sem];rw[wI_]);exact sI
 rintro _ W' ⟨rfl,rfl⟩;unfold VP;intro _;have hq0: -10000000<=(if c.buy then q else -q)/\(if c.buy then q else -q)<=10000000:=by split<;>omega
 generalize(if c.buy then q else -q)=q0 at hq0 V|-;refine CF s3 qZ qZ λsl w4 o4 m4=>?_;have s4:=SB.md0 s3 m4;have z4:=m4.hpk z3 id;have hzl:(O++B).length<=4000:=by rw[cD];omega
 generalize O++B=Z at o4 hO V hzl|-;obtain⟨za,zc,hz⟩:=o4.rd.isSl;apply jm (gI (Z.length:Int)) w4 (by rw[hz];exact lenV xC _ _ _ _);have hzb:=λi t=>Dm (f:=Og c.ct c.acct c.buy) (l:=Z) (B:=1000000) (λx hx=>by have:=hO x hx;unfold Og;split<;>omega) i t
 refine eS (λst W=>∃(i:Nat),st=(gI (q0+((Z.take i).map (Og c.ct c.acct c.buy)).sum),gI i,())/\i<=Z.length/\M0 w4 W)
  (λst _=>match st.2.1 with| .int _ i=>Z.length - i.toNat|_=>0) ⟨0,by simp,qZ,lX⟩ ?_
 rintro⟨_,_⟩ W6 ⟨i,⟨⟩,t,m6⟩ KN2 F;unfold Xd;intro _;apply cI (ltV _ _ _);have hbi:=hzb i t;by_cases e:i<Z.length
 ·rw[qo e];have L:=m6.trans mP
  try dsimp only
  generalize W6.drew=W7 at L|-;have z7:=L.hpk z4 id;obtain⟨J,G,g,u⟩:=Rv (o4.mod L eQ) e;have hbo:=hO _ (cC e);refine dK.at (λst W=>st=(.bool (decide (Z[i].1=c.ct/\Z[i].2.acct=c.acct/\Z[i].2.buy=c.buy)),())/\W=W7) ?_ ?_
  ·refine dw g (qPv1 (pt J G) cS (dp (K6 u) ?_));refine dw tZ (dp (sD z7) (dw (λW=>yc 23 .u32 _ _ _ Tryz.underlying23 W) ?_));by_cases D:Z[i].1=c.ct
   ·rw[qo D];refine dw g (qPv1 (pt J (G+1)) cS ?_);refine qPv1 (pt J (G+1+1)) cS (dp (Cx u) ?_);refine dw pM (dp (rk z7) (dw (λW=>yc 23 .u32 _ _ _ Tryz.underlying23 W) ?_));by_cases U:Z[i].2.acct=c.acct
    ·rw[qo U];refine dw g (qPv1 (pt J (G+1)) cS ?_);refine qPv1 (pt J (G+1+2)) cS (dp (al5 u).1 ?_);refine dw MG (dp (Jr z7) (dw (λW=>av5 _ _ W) ?_));exact⟨by simp[D,U],rfl⟩
    ·rw[DN U];exact⟨by simp[U],rfl⟩
   ·rw[DN D];exact⟨by simp[D],rfl⟩
  rintro _ W8 ⟨rfl,rfl⟩;unfold Wo;intro _;by_cases v:Z[i].1=c.ct/\Z[i].2.acct=c.acct/\Z[i].2.buy=c.buy
  ·rw[qo v];refine cI (g _) (qSv1 (pt J (G+1)) cS ?_);refine qSv1 (pt J (G+1+4)) cS (cI (al5 u).2 (cI (Hn qZ _) ?_));apply cI (addV qZ _);exact F _ _ ⟨i+1,by rw[yj _ e,Og,bZ v,oD],qZ,L⟩ (by show Z.length - (i+1)<Z.length - i;omega)
  ·rw[DN v];apply cI (addV qZ _);exact F _ _ ⟨i+1,by rw[yj _ e,Og,aZ v,ft],qZ,L⟩ (by show Z.length - (i+1)<Z.length - i;omega)
 rw[DN e];have g:i=Z.length:=qZ;subst g;rw[cN]at hbi|-;have s6:=SB.md0 s4 m6;obtain⟨a4,c4,e4⟩:=s6.len 4 qZ qZ;have e4:=e4;refine cI (dZ _ 4 qZ) (cI (s6.ld 4 qZ qZ) ?_);apply jm (gI (C.length:Int)) W6 (by rw[e4];exact lenV qU _ _ _ _)
 refine eS (λst W=>∃(x:Vt_) (j:Nat),st=(x,gI j,())/\j<=C.length/\M0 w4 W/\∀y∈C.take j,y.spec.num≠c.ct)
  (λst _=>match st.2.1 with| .int _ j=>C.length - j.toNat|_=>0) ⟨_,0,rfl,qZ,m6,by simp⟩ ?_
 rintro⟨_,_⟩ W9 ⟨x,j,⟨⟩,N,m9,H⟩ KC hKC;unfold UG;intro _;apply cI (ltV _ _ _);by_cases S:¬j<C.length
 ·have hje:j=C.length:=qZ;rw[hje,cN]at H;exact absurd hkn (H k hk)
 have r:=Classical.not_not.1 S;rw[qo r];have R:=m9.trans mP
 try dsimp only
 generalize W9.drew=Wa at R|-;have sa:=SB.md0 s4 R;have za:=R.hpk z4 id;obtain⟨b1,o1,i1,s⟩:=Xw sa (i:=j) r;refine dw (λ_=>dZ _ 4 qZ) (dp (sa.ld 4 qZ qZ) (dw i1 ?_));refine dw Mg (dw HS (dp (HT s) (dw tZ (dp (sD za) (dw (λW=>yc 23 .u32 _ _ _ Tryz.underlying23 W) ?_)))));by_cases E:C[j].spec.num=c.ct
 ·rw[qo E];have hkj:=hku _ (cC r) E;refine cI (dZ _ 4 qZ) (cI (sa.ld 4 qZ qZ) (cI (i1 _) ?_));refine cI (Mg _) (qSv0 (pt b1 (o1+5)) (cI (ab1 s) ?_));rw[hkj];apply cx (.bool true) Wa (by simp[go_sem];exact V);exact hK _ (((M2.trans m).trans m4).trans R)
 ·rw[DN E];apply cI (addV qZ _);refine hKC _ _ ⟨_,j+1,rfl,qZ,R,λy I=>?_⟩ (by show C.length - (j+1)<C.length - j;omega);rw[eA r,dg,eK]at I;rcases I with I|rfl
  ·exact H y I
  ·exact E
set_option maxRecDepth 10000 in
def GI{K:cG}{s:Vt_}{L:List Cm}(h:Rd w 35 s L.length (L.flatMap cmC))(hf:∀c∈L,c.Fit)(hK:∀w',M0 w w' ->K (.bool true) w'):Ca pQ 5 #[s] w K:=by
 apply ca5;refine tB λv F0 w1 q1 m1 n1=>?_;obtain⟨sa,sc,C⟩:=h.isSl;have j:∀W,(builtin .len #[65] 3 #[false] #[s]).run pQ W=.ok (.value (gI (L.length:Int))) W:=λW=>by rw[C];exact lenV BU _ _ _ _
 refine dK.at (λst W=>st=(.bool (decide (150<L.length)),())/\W=w1) ?_ ?_
 ·apply cx (.bool false) w1 (by simp[eY,go_sem]);rw[gP];apply mB (j _);apply cx (.bool (decide (150<L.length))) w1 (by simp[go_sem];omega);exact sI
 rintro _ W ⟨rfl,rfl⟩;unfold af9;intro _;by_cases hb:150<L.length
 ·rw[qo hb];apply cx (.bool true) W (by simp[eY,go_sem]);rw[kx];exact kf λw2 m2=>hK _ (m1.trans m2)
 rw[cy,aZ (by grind)];apply mB (j _)
 refine eS (λst f=>∃(x:Vt_) (i:Nat) (F:NP_) (S:Ven),st=(x,gI i,())/\i<=L.length/\vn w f v F S)
  (λst _=>match st.2.1 with| .int _ i=>L.length - i.toNat|_=>0) ⟨_,0,F0,Ven.empty,rfl,qZ,⟨q1,qX,m1,n1⟩⟩ ?_
 rintro⟨_,_⟩ f ⟨x,i,F,S,⟨⟩,hi,Y⟩ KN hKN;unfold ZC;intro _;apply cI (ltV _ _ _);by_cases R:¬i<L.length
 ·rw[cy,aZ (by grind)];exact kf λw3 m3=>hK _ (Y.m.trans m3)
 have u:i<L.length:=Classical.not_not.1 R;rw[qo u];obtain⟨cb,co,M,hat⟩:=zH (h.mod Y.m eQ) u;refine cI (M f) (iW (vx hat) ?_);have o:=hf _ (cC u);generalize hc:L[i]=c at o;apply rg NT;rw[yA];obtain⟨z,hz⟩:=dW f.heap.size;have ma:M0 f (f.alloc (.cells (cmC zCm).toArray om)):=lm;have za:iy (f.alloc (.cells (cmC zCm).toArray om)) z zCm:=by show hp _ _=_;rw[hz];simp[go_sem]
 rw[<-hz];generalize f.alloc (.cells (cmC zCm).toArray om)=wa at ma za|-;refine GX (b:=c) za λwb zb mb' =>?_;have Mb:M0 f wb:=ma.on mb' λy hy=>gz;have V3:=Y.md0 Mb;apply iW (vm zb);have H:=λV M=>Hy (S:=S) (c:=c) V M;have J:=λV M=>Fv V3.ok (c:=c) V M;refine V3.apply o λsT sG sA F5 w5 V5 r5 m5 n5=>?_;have z5:=m5.hpk zb λhc=>by have:=Y.q.lt hc;omega
 generalize S.apply c=X at V5 r5 H J|-;refine tR r5 λrp w6 b6 r6 m6 _=>?_;have a:=V5.md0 m6;have E:=m6.hpk z5 id;have next:∀x W,M0 w6 W->KN (x,gI ((i+1:Nat):Int),()) W:=λx W m=>hKN _ W ⟨_,i+1,F5,X.2,rfl,qZ,a.md0 m⟩ (by grind)
 refine dK.at (λst W=>st=(.bool (decide (X.1.err≠0\/¬(c.kind=5\/c.kind=7\/c.kind=9\/c.kind=2))),())/\W=w6) ?_ ?_
 ·refine cI (ye _) (cI (tQ b6) (cI (B0 43 .i64 _ _ _ cU _) ?_));by_cases h1:X.1.err≠0
  ·rw[qo h1];exact⟨by grind,rfl⟩
  rw[cy,aZ (by grind)];refine cI (td _) (cI (sH E) (cI (B0 22 .u8 _ _ _ cU _) ?_));by_cases k1:c.kind=5
  ·rw[cy,aZ (by simp[k1])];exact⟨by simp[h1,k1],rfl⟩
  rw[cy,bZ (by simp[k1])];refine cI (td _) (cI (sH E) (cI (B0 22 .u8 _ _ _ cU _) ?_));by_cases k2:c.kind=7
  ·rw[cy,aZ (by simp[k2])];exact⟨by simp[h1,k2],rfl⟩
  rw[cy,bZ (by simp[k2])];refine cI (td _) (cI (sH E) (cI (B0 22 .u8 _ _ _ cU _) ?_));by_cases k3:c.kind=9
  ·rw[cy,aZ (by simp[k3])];exact⟨by simp[h1,k3],rfl⟩
  rw[cy,bZ (by simp[k3])];refine cI (td _) (cI (sH E) (cI (B0 22 .u8 _ _ _ cU _) ?_));exact⟨by grind,rfl⟩
 rintro _ W6 ⟨rfl,rfl⟩;unfold aa6;intro _;by_cases C:X.1.err≠0\/¬(c.kind=5\/c.kind=7\/c.kind=9\/c.kind=2)
 ·rw[qo C];apply cI (addV qZ _);exact next _ _ lX
 rw[cy,aZ (by grind)];rw[mO]at C;have G:X.1.err=0:=by simpa using C.1
 obtain⟨ha0,hb0⟩:=H (Classical.not_not.1 C.2) G;obtain⟨hn1,B⟩:=Ts hb0;have hnb:=Fx X.2 c.acct;refine cI (pM _) (cI (rk E) ?_);have V6' :=a;obtain⟨⟨c',l,mb,md,A,D,fp,hr,hF⟩,-,-,-⟩:=V6';refine HH hr a.ok λU m7=>?_;rw[hn1]
 have I:∀x∈X.2.led.all,x.num=c.acct->X.2.acc c.acct=x:=λx r hn=>by
  unfold Ven.acc;rw[jV ha0,<-hn,Led.mem_find a.ok.led.led r];rfl
 unfold Nd.total at B;generalize(X.2.need c.acct).1=N at B hnb|-;refine cx (IJ N) U (by simp[go_sem]) (cx (gI 0) U (by simp[go_sem]) ?_);obtain⟨w8,w9,e8,e9,b9,m9⟩:=WM N U;refine cI e8 (ir e9 ?_);generalize U.heap.size=nq at b9|-;have M9:=m7.trans m9;refine qSf0 ?_;refine(a.md0 M9).state λtt p lo wA kA VA mA _=>?_;have g:=kA.sb;have bA:=mA.hpk b9 id;have zA:=(M9.trans mA).hpk E id;have h64:=a.ok.led.led.len;obtain⟨a3,c3,e3⟩:=g.len 3 qZ qZ;have e3:tt 3=.slice a3 X.2.led.all.length c3:=e3;refine cI (dZ _ 3 qZ) (cI (g.ld 3 qZ qZ) ?_);apply jm (gI (X.2.led.all.length:Int)) wA (by rw[e3];exact lenV ya _ _ _ _)
 refine eS (λst W=>∃(x:Vt_) (k:Nat),st=(x,gI k,())/\k<=X.2.led.all.length/\M0 wA W)
  (λst _=>match st.2.1 with| .int _ k=>X.2.led.all.length - k.toNat|_=>0) ⟨_,0,rfl,qZ,lX⟩ ?_
 rintro⟨_,_⟩ Wa ⟨x,k,⟨⟩,V,mk⟩ KA hKA;unfold ZO;intro _;apply cI (ltV _ _ _);by_cases d:k<X.2.led.all.length
 ·rw[qo d];have Q:=mk.trans mP
  try dsimp only
  generalize Wa.drew=Wc at Q|-;have t:=SB.md0 g Q;have zc:=Q.hpk zA id;have bc:=Q.hpk bA id;unfold wY at bc;obtain⟨b1,o1,i1,O,-⟩:=uj t (i:=k) d;refine dK.at (λst W=>st=(.bool false,())/\W=Wc) ?_ ?_
  ·refine dw (λ_=>dZ _ 3 qZ) (dp (t.ld 3 qZ qZ) (dw i1 ?_));refine qPv1 (pt b1 o1) cS (dp (EO O) ?_);refine dw pM (dp (rk zc) (dw (λW=>yc 23 .u32 _ _ _ Tryz.underlying23 W) ?_));by_cases hn:X.2.led.all[k].num=c.acct
   ·rw[qo hn];have r:=I _ (cC d) hn;rw[r]at B;refine dw (λ_=>dZ _ 3 qZ) (dp (t.ld 3 qZ qZ) (dw i1 ?_));refine qPv0 (pt b1 (o1+1)) (dp (qV O) ?_);refine qPv0 (pt nq 0) (qWv1 (gI N.m) bc ?_);refine qPv0 (pt nq 1) (qWv1 (gI N.w) bc (dw (λW=>Hn qZ W) ?_));refine qPv0 (pt nq 2) (qWv1 (gI N.u) bc (dw (λW=>Hn qZ W) ?_));apply dX (.bool false) (λ_=>by simp[go_sem];omega);exact sI
   ·rw[cy,aZ (by grind)];exact sI
  rintro _ Wd ⟨rfl,rfl⟩;unfold J24_0;intro _;rw[gP];apply cI (addV qZ _);exact hKA _ _ ⟨_,k+1,rfl,qZ,Q⟩ (by grind)
 rw[cy,aZ (by grind)];have sk:=SB.md0 g mk;have Z:=mk.hpk zA id;have hln:=pK a.ok
 have q:c.kind=5\/c.kind=9->∀K',(∀W,M0 Wa W->K' (.bool true) W)->Ca pQ 25 #[As X.2.cal.day X.2.next X.2.led.fund tt,vI c] Wa K' :=λT K' hK' =>by
  obtain⟨k,e,P⟩:=J T G;rw[<-Nt a.ok e]at P;have hkn:k.spec.num=c.ct:=by simpa using jw e
  refine JK sk ⟨a.ok.cal.len,(ut a.ok).2.2.1,by grind,qZ⟩ (λp hp=>?_) (λx r=>?_) (ry e) hkn (λx r hxn=>?_) P hK'
  ·obtain⟨n,-,hp⟩:=List.mem_flatMap.1 hp;have:=a.ok.led.led.pos p (cO.1 hp).1;unfold MP at this;omega
  ·have:=may_left (a.ok.ord.std _ _ (tM r)).may;omega
  ·have:=calGet_of a.ok.cal r;rw[hxn,e]at this;exact(dB this).symm
 refine dK.at (λst W=>st=(.bool false,())/\M0 wA W) ?_ ?_
 ·refine cI (td _) (cI (sH Z) (cI (yc 22 .u8 _ _ _ cU _) ?_));by_cases k1:c.kind=5
  ·rw[qo k1];refine cI (FJ sk.at_) (iW (vm Z) ?_);refine q (.inl k1) _ λW m=>?_;exact cI (GK _ _) ⟨rfl,mk.trans m⟩
  rw[cy,aZ (by grind)];refine cI (td _) (cI (sH Z) (cI (yc 22 .u8 _ _ _ cU _) ?_));by_cases k2:c.kind=9
  ·rw[qo k2];refine cI (FJ sk.at_) (iW (vm Z) ?_);refine q (.inr k2) _ λW m=>?_;exact cI (GK _ _) ⟨rfl,mk.trans m⟩
  rw[cy,aZ (by grind)];exact⟨rfl,mk⟩
 rintro _ We ⟨rfl,me⟩;unfold Zw;intro _;rw[gP];apply cI (addV qZ _);exact next _ We ((M9.trans mA).trans me)
end Go.Proofs
namespace Go.Proofs.YtnfloameajanhaaGreat.venueBears
open Go Go.Vc Go.Proofs Go.ChangeShapes Go.WideShapes Go.ChangeAt Go.RowKit
set_option maxRecDepth 100000 in
def lifted(os:Os)(b:os.Started)(H:Type)(enc:TypeId×Value->H):
  ReturnsInHanded {} Tryz.checked os 5 .any (Rows.venueBearsSpec.pre6 enc Tryz.prog Tryz.f5 Rows.venueBearsRow.domain false) (Rows.venueBearsSpec.post enc Tryz.prog Tryz.f5 false true false false):=by
 refine returnsInHanded_of_change_sized (C:=Tryz.checked) own b cU Tryz.func5
  (ChangeSpec.witness6 (enc:=enc) (C:=Tryz.checked) false ⟨#[],#[.slice none 0 0],[]⟩ 8 cU cU cU cU) ?_
 intro W h a ds gs n c x z l _;have d:∀(j:Nat) t v,Tryz.f5.params[j]? =some t->a[j]? =some v->Value.okWide Tryz.prog W .any h t v:=c;have k:(DataW.weightsEach Tryz.prog (Tryz.f5.params.toList++[]) (ds++gs)).all (·<=reachBytes)=true:=l;have s:=x;obtain⟨p,q,i,J,rfl,I,F⟩:=x;have y:DataW.TrodAll enc Tryz.prog W 0 (λ_=>true) true Tryz.f5.params.toList a.toList ds p:=i;rw[Tryz.params5]at y d k;obtain⟨v0,G,E,B,N,L,r,rfl,rfl,A,D⟩:=trodAll_cons y;obtain⟨rfl,rfl,rfl⟩:=trodAll_nil D;obtain rfl:a= #[v0]:=by cases a;simp_all
 obtain⟨rfl,rfl⟩:=trodVars_none J
 have u:Wt Tryz.prog reachBytes 65 E:=by
  intro m f;have:=List.all_eq_true.1 k m (by simp only[List.append_nil,List.cons_append,List.nil_append,DataW.weightsEach,List.mem_append];first|exact f|exact .inl f);simpa using this
 obtain⟨M,o,g⟩:=open_cms (d 0 65 v0 rfl rfl) A u;clear i c;refine Calls.mono (GI (K:=λv w=>v=.bool true/\M0 W w) o g λw f=>⟨rfl,f⟩).out ?_;rintro e O ⟨v,rfl,rfl,f⟩;exact⟨_,rfl,post_of_mod laidOut cU rfl s f cU Tryz.underlying4 rfl⟩
abbrev zRw:=Rows.venueBearsRow
abbrev II:=Rows.venueBearsSpec
noncomputable abbrev zVt:=Tryz.f5.params.toList++II.plain.varTypes pQ
def k0:zRw.wf (OpenSpec.ofChange II):=cU
def k1:laidOutB pQ:=cU
def k2:mapsRowed pQ:=cU
def k3:Tryz.f5.params.all (pQ.readableRec ·):=cU
def k4:namedTie pQ zRw.named II.vars:=cU
def k5:zRw.stops== []:=cU
def k6:pQ.stops== []:=cU
def k7:zRw.knobs== []:=cU
def k8:pQ.stopKnobs== []:=cU
def k9:zRw.inPlace==pQ.inPlace 5:=cU
def k10:zRw.unfollowed==pQ.unfollowed 5:=cU
def k11:zRw.recurses==pQ.recurses 5:=cU
def k12:zRw.named==pQ.varsNamed 5:=cU
def k13:zRw.maps==zVt.any (pQ.mapsRec ·):=cU
def k14:zRw.ifaces==zVt.any (pQ.ifacesRec ·):=cU
def k15:zRw.mapsOut==pQ.mapsAmong Tryz.f5.resultTypes.toList:=cU
def k16:zRw.loops==zVt.any (pQ.loopsFrom ·):=cU
def k17:zRw.wideKeys==(zVt++Tryz.f5.resultTypes.toList).any (pQ.wideKeysFrom ·):=cU
def k18:II.vars.all (pQ.varReadable ·):=cU
def k19:Tryz.f5.resultTypes.all (λt=>pQ.readableRec t&& decide (t<pQ.types.size)):=cU
def k20:zRw.ifacesOut==Tryz.f5.resultTypes.toList.any (pQ.ifacesRec ·):=cU
def k21:zRw.loopsOut==Tryz.f5.resultTypes.toList.any (pQ.loopsFrom ·):=cU
def k22:zRw.plainKeys==pQ.plainKeys:=cU
def k23:zRw.shortTexts.isNone:=cU
def k24:pQ.stopsHeard:=cU
def k25:pQ.mayEnter:=cU
def k26:zRw.lifted==pQ.liftsFinal:=cU
def k27:pQ.make==some zRw.make:=cU
def k28:zRw.kinds==(if zRw.domain.isEmpty then []else Tryz.f5.params.toList.map λt=>match pQ.underlying t with|some (.int k)=>some k|_=>none):=cU
def k29:zRw.pinned==zRw.pinnedBy:=cU
def k30:zRw.veiled==(zVt++Tryz.f5.resultTypes.toList).any (pQ.veiledRec ·):=cU
def k31:zRw.veiledFits pQ Tryz.f5.params.toList (zVt++Tryz.f5.resultTypes.toList):=cU
set_option maxRecDepth 100000 in
def closed:joinedFacts Tryz.prog 5 Tryz.f5 Rows.venueBearsSpec Rows.venueBearsRow=true:=by
 unfold joinedFacts;simp only[Bool.and_eq_true];exact⟨⟨⟨⟨⟨⟨⟨⟨⟨⟨⟨⟨⟨⟨⟨⟨⟨⟨⟨⟨⟨⟨⟨⟨⟨⟨⟨⟨⟨⟨⟨k0,k1⟩,k2⟩,k3⟩,k4⟩,k5⟩,k6⟩,k7⟩,k8⟩,k9⟩,k10⟩,k11⟩,k12⟩,k13⟩,k14⟩,k15⟩,k16⟩,k17⟩,k18⟩,k19⟩,k20⟩,k21⟩,k22⟩,k23⟩,k24⟩,k25⟩,k26⟩,k27⟩,k28⟩,k29⟩,k30⟩,k31⟩
theorem holds:Rows.VenueBearsSaid:=
 OpenClaim.holds_of_wide 5 Tryz.f5 rfl rfl rfl rfl rfl rfl rfl ⟨rfl,rfl,rfl,rfl,rfl⟩ rfl rfl rfl rfl rfl cU Tryz.func5 closed
  (of_decide_eq_true cU) (by unfold Func.isWrapper;first|(rw[if_pos (by decide+kernel)];kernel_rfl)|(rw[if_neg (by decide+kernel)];exact⟨rfl,rfl⟩))
  (λos a H b _=>lifted os a H b)
end Go.Proofs.YtnfloameajanhaaGreat.venueBears
