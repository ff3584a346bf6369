/- The statement VenueNothing: for every input the law returns true; arguments stay. Conditions: none. -/
import Derived.Test.YtnfloameajanhaaGreatZ8
set_option linter.all false
namespace Go.Vc
open Go Go.ChangeShapes Go.WideShapes Go.ChangeAt Go.RowKit
section
variable{H:Type}{enc:TypeId×Value->H}{P:Program}{w:World}{base:Nat}{spare:Nat->Bool}{held:Bool}
def ff{e:TypeId}:∀{l:List (DataW H)} {d:DataW H},d∈l->∀m∈d.weights P e,m∈DataW.weightsAll P e l
 |a::l,d,b,m,c=>by
  simp only[DataW.weightsAll,dg];rcases cH.1 b with rfl|b
  ·exact .inl c
  ·exact .inr (ff b m c)
def Wt.slice{t e:TypeId}{B:Nat}{l r:List (DataW H)}(c:P.underlying t=some (.slice e))(h:Wt P B t (.slice l r)):(l.length+r.length)*P.bytesOf e<=B/\∀d∈l,Wt P B e d:=by
 unfold Wt at h;simp only[DataW.weights,c,cH,dg]at h;exact⟨h _ (.inl rfl),λd a m b=>h m (.inr (.inl (ff a m b)))⟩
def nJ{t e:TypeId}{sz:Nat}{o:Nat}{cs:List Value}{x:DataW H×List MemPlace}(I:P.underlying t=some (.slice e))(hc:P.cellsOf e=sz)(E:0<sz)
  {B:Nat}(O:DataW.trod enc P w base spare held o t cs=some x)(hB:Wt P B t x.1):
  ∃v,cs=[v]/\∃L:List (List Value),Rd w sz v L.length L.flatten/\L.length*P.bytesOf e<=B/\∀c∈L,c.length=sz/\∃X y,DataW.trod enc P w base spare held X e c=some y/\Wt P B e y.1:=by
 rcases DataW.trod_slice I O with⟨rfl,-⟩|⟨a,len,Q,A,rest,n,hf,rfl,rfl,hb,V,hm,N,C,Z,T⟩
 ·exact⟨_,rfl,[],⟨by simp,.inl ⟨rfl,_,_,rfl⟩⟩,by simp,by simp⟩
 ·obtain⟨z,F⟩:=hB.slice I
  have m:∀i,i<len->∃c,w.cells? base (a.add (i*sz)) sz=some c/\∃y,DataW.trod enc P w base spare held n e c=some y/\Wt P B e y.1:=by
   intro i b;have j:=C i b;rw[cE (by omega),hc,Option.bind_eq_some_iff]at j;obtain⟨c,g,r⟩:=j;exact⟨c,g,_,r,F _ (cF.2 ⟨_,cC _,rfl⟩)⟩
  have R:∀k,k<=len->∃L:List (List Value),L.length=k/\∀i (b:i<L.length),w.cells? base (a.add (i*sz)) sz=some L[i]/\∃y,DataW.trod enc P w base spare held n e L[i]=some y/\Wt P B e y.1:=by
   intro k;induction k with
   |zero=>exact λ_=>⟨[],rfl,λi b=>by simp at b⟩
   |succ k p=>
    intro hk;obtain⟨L,j,g⟩:=p (by omega);obtain⟨c,r,J⟩:=m k (by omega);refine⟨L++[c],by simp[j],λi b=>?_⟩;by_cases S:i<L.length
    ·grind
    ·grind
  obtain⟨L,j,g⟩:=R len (cJ _)
  have d:∀c∈L,c.length=sz:=by
   intro c f;obtain⟨i,b,rfl⟩:=cX f;exact(World.cells?_some (g i b).1).2.1
  have W:∀(M:List (List Value)),(∀c∈M,c.length=sz)->M.flatten.length=M.length*sz:=by
   intro M;induction M with
   |nil=>intro _;simp
   |cons c M p=>
    intro l;rw[List.flatten_cons,cD,p λc h=>l c (cu _ h),l c cw,dc,je,jf]
  have q:∀(M:List (List Value)),(∀c∈M,c.length=sz)->∀i v,M.flatten[i]? =some v->∃h:i / sz<M.length,M[i / sz][i%sz]? =some v:=by
   intro M;induction M with
   |nil=>intro _ i v h;simp at h
   |cons c M p=>
    intro l i v h;have G:=l c cw;rw[List.flatten_cons]at h;by_cases b:i<sz
    ·rw[dC (by omega)]at h;rw[Nat.div_eq_of_lt b,iM b];exact⟨by simp,by simpa using h⟩
    ·rw[cQ (by omega),G]at h;obtain⟨j,g⟩:=p (λc h=>l c (cu _ h)) (i - sz) v h
     have s:i / sz=(i - sz) / sz+1:=by
      rw[Nat.div_eq_sub_div E (by omega)]
     have D:i%sz=(i - sz)%sz:=by
      rw[Nat.mod_eq_sub_mod (by omega)]
     refine⟨by grind,?_⟩;simp only[s,D,fA];exact g
  refine⟨_,rfl,L,?_,dD (dM _ (by simp;omega)) z,λc f=>⟨d c f,?_⟩⟩
  ·rw[j];refine mJ V (by grind) (λi v b=>?_) E;obtain⟨r,J⟩:=q L d i v b;obtain⟨h5,Y⟩:=World.cells?_some (g _ r).1 |>.2
   have u:=gR i E;have K:=Y (i%sz) u
   have e:((a.add (i / sz*sz)).add (i%sz))=a.add i:=by
    have U:i / sz*sz+i%sz=i:=by rw[fe];exact ie i sz
    conv=>rhs;rw[<-U]
    simp only[Addr.add];by_cases s:i / sz*sz=0
    ·simp[s]
    ·by_cases D:i%sz=0
     ·simp[D,s]
     ·grind
   rw[e]at K;rw[K];exact J
  ·obtain⟨i,b,rfl⟩:=cX f;exact⟨n,(g i b).2⟩
end
end Go.Vc
namespace Go.Proofs
open Go Go.Vc
section
variable{P:Program}{s:Sem Value}{u:Sem Unit}{n:Sem Next}{w w' :World}{K:cG}{A B:World->Prop}{C D:Prop}{L:World->Prop}{M:Value->Prop}{v:Value}{p q r:Prop}
def kj(a:D)(h:∀w,s.run P w=.ok (.bool false) w:=by intro _;simp[go_sem]<;>first|exact⟨rfl,rfl⟩|exact rfl):wS P s λv=>cV v C D:=dw h (by rw[gP];exact a)
end
end Go.Proofs
namespace Go.Proofs
open Go Go.Vc
def jj(S:Ven)(n:Int)(o:Od)(p:Pm):(S.traded n o p).2.1.err=0:=by
 unfold Ven.traded;simp only;split<;>rfl
def mM(S:Ven)(c:Cm):(S.place c).2.1.err=0:=by
 unfold Ven.place;simp only;split
 ·rfl
 ·split
  ·rfl
  ·exact jj _ _ _ _
def qx(S:Ven)(c:Cm):(S.bid c).2.1.err=0:=by
 unfold Ven.bid;simp only;split
 ·rfl
 ·split<;>rfl
def lK(S:Ven)(c:Cm):(S.cancel c).2.1.err=0:=by
 unfold Ven.cancel;split
 ·rfl
 ·split<;>rfl
def kR(S:Ven)(c:Cm):(S.replace c).2.1.err=0:=by
 unfold Ven.replace;split
 ·rfl
 ·simp only;split
  ·rfl
  ·split
   ·rfl
   ·exact jj _ _ _ _
def fM:∀(l:List Sd) (r:Rp) (S:Ven),r.err=0->(payL l r S).2.1.err=0
 | [],r,S,h=>h
 |s::l,r,S,h=>by
  unfold payL;simp only;cases s.dfl with
  |true=>
   simp only[fh];split
   ·exact h
   ·exact fM l _ _ h
  |false=>
   simp only[dE,eW];split
   ·exact h
   ·exact fM l _ _ h
def gX(S:Ven)(won:Int->Int):(S.pay won).2.1.err=0:=by
 unfold Ven.pay;simp only;split
 ·rfl
 ·split
  ·exact fM _ _ _ rfl
  ·exact fM _ _ _ rfl
def jM(S:Ven):S.settle.2.1.err=0:=by
 unfold Ven.settle;simp only;split
 ·rfl
 ·split
  ·rfl
  ·split
   ·exact gX _ _
   ·exact gX _ _
def expire_err(S:Ven)(n:Int):(S.expire n).2.1.err=0:=by
 unfold Ven.expire;simp only;split
 ·rfl
 ·split
  ·rfl
  ·split
   ·exact gX _ _
   ·exact gX _ _
def eh{n a:Int}{long:Bool}{price:Int}:∀(l:List Fl) (left:Int) (r:Rp) (S:Ven),r.err=0->(fillsL n a long price l left r S).2.2.1.err=0
 | [],left,r,S,h=>h
 |f::l,left,r,S,h=>by
  unfold fillsL;simp only;split
  ·exact h
  ·exact eh l _ _ _ h
def gO{n a:Int}{long:Bool}{price:Int}:∀(l:List Hd) (r:Rp) (S:Ven),r.err=0->(partsL n a long price l r S).2.1.err=0
 | [],r,S,h=>h
 |x::l,r,S,h=>by
  unfold partsL;simp only;split
  ·exact h
  ·exact gO l _ _ h
def kX(S:Ven)(k:Ct)(a q:Int){r:Rp}(h:r.err=0):(S.sell k a q r).2.1.err=0:=by
 unfold Ven.sell;simp only;split
 ·exact h
 ·split
  ·exact eh _ _ _ _ h
  ·split
   ·exact eh _ _ _ _ h
   ·split
    ·split
     ·exact eh _ _ _ _ h
     ·exact gO _ _ _ (eh _ _ _ _ h)
    ·split
     ·exact eh _ _ _ _ h
     ·exact gO _ _ _ (eh _ _ _ _ h)
def iu{a:Int}:∀(l:List Ct) (r:Rp) (S:Ven),r.err=0->(sellL a l r S).2.1.err=0
 | [],r,S,h=>h
 |k::l,r,S,h=>by
  unfold sellL;simp only;split
  ·exact iu l r S h
  ·split
   ·exact kX _ _ _ _ h
   ·exact iu l _ _ (kX _ _ _ _ h)
def qr(S:Ven)(a:Ac):(S.liquidate a).2.1.err=0:=by
 unfold Ven.liquidate;split
 ·rfl
 ·exact iu _ _ _ rfl
def oE(S:Ven)(c:Cm):(S.done c).2.1.err=0:=by
 unfold Ven.done;by_cases k1:c.kind=1
 ·rw[bZ k1];rfl
 rw[aZ k1];by_cases k2:c.kind=2
 ·rw[bZ k2];rfl
 rw[aZ k2];by_cases k3:c.kind=3
 ·rw[bZ k3];rfl
 rw[aZ k3];by_cases k4:c.kind=4
 ·rw[bZ k4];rfl
 rw[aZ k4];by_cases k11:c.kind=11
 ·rw[bZ k11];rfl
 rw[aZ k11];by_cases k12:c.kind=12
 ·rw[bZ k12];exact jM S
 rw[aZ k12];by_cases k14:c.kind=14
 ·rw[bZ k14];exact expire_err S _
 rw[aZ k14];by_cases a:c.acct=0
 ·rw[bZ a];rfl
 rw[aZ a];by_cases k6:c.kind=6
 ·rw[bZ k6];exact lK S c
 rw[aZ k6];by_cases k7:c.kind=7
 ·rw[bZ k7];exact kR S c
 rw[aZ k7];by_cases b:S.led.getO c.acct=none
 ·rw[bZ b];rfl
 rw[aZ b];by_cases k5:c.kind=5
 ·rw[bZ k5];exact mM S c
 rw[aZ k5];by_cases k9:c.kind=9
 ·rw[bZ k9];exact qx S c
 rw[aZ k9];by_cases k8:c.kind=8
 ·rw[bZ k8];split<;>rfl
 rw[aZ k8];by_cases k10:c.kind=10
 ·rw[bZ k10];simp only;split<;>rfl
 rw[aZ k10];by_cases k13:c.kind=13
 ·rw[bZ k13];exact qr S _
 rw[aZ k13];rfl
def apply_cases(S:Ven)(c:Cm):((S.apply c).1.err≠0/\S.apply c=(failR (S.apply c).1.err,S))\/((S.apply c).1.err=0/\c.may=true/\(S.done c).1=0/\S.apply c=(S.done c).2):=by
 unfold Ven.apply;by_cases b:c.may=false
 ·rw[bZ b];exact .inl ⟨by show(160:Int)≠0;omega,rfl⟩
 rw[aZ b];simp only;by_cases a:(S.done c).1≠0
 ·rw[bZ a];exact .inl ⟨a,rfl⟩
 ·rw[aZ a];exact .inr ⟨oE S c,by simpa using b,by simpa using a,rfl⟩
end Go.Proofs
set_option maxRecDepth 100000
namespace Go.Proofs
open Go Go.Vc
section
variable{a b c:Vt_}{W:Wt_}{Z:cG}
def J24_0(a:cG)(b:T2)(c:T2->Wp)(d:T1)(e:Wt_):=NV->cV d.1 (a bF e) (g1 b.2.1 e λf g=>c (b.1,f,()) g)
def ar1(a b c:Vt_)(d:cG)(e:T2)(f:Wt_)(g:T2->Wp):=gc e.2.1 a f λh i=>cV h (Ca pQ 20 #[b] i λj k=>gv 61 j k λl m=>gi 65 c e.2.1 m λn o=>gx (fH 30 n) o λp q=>Ca pQ 18 #[b,p] q λr s=>gv 52 r s λt u=>dz 52 t 0 43 u λv w=>gb .eql 43 true v (gI 0) w λx y=>cV x (g1 e.2.1 y λz A=>g (e.1,z,()) A) (jW (λB=>eP 52 t y.drew λC=>gY 52 t 0 43 y.drew λD=>gp (Instr.build 52 #[(0,D)]) λE=>Ca pQ 17 #[C,E] y.drew λF G=>gp (Op.unary .not F) λH=>cV H (B (bT,()) G) (eP 61 l G λI=>Ca pQ 20 #[b] G λJ K=>gk 61 l I K/\(Ca pQ 19 #[J,I] K λL M=>gp (Op.unary .not L) λN=>cV N (B (bT,()) M) (mf 65 c e.2.1 λO=>pS pQ (fH 30 O) M λP=>kg 52 t 0 λQ=>eP 43 Q M λR=>Ca pQ 18 #[b,P] M λS T=>gk 43 Q R T/\(gp (Instr.field 52 S 0) λU=>my .neq 43 false U R λV=>B (V,()) T))))) (J24_0 d e g))) (Ca pQ 13 #[] i d)
def ad0(a:Vt_)(b:cG)(c:Vt_)(d:T1)(e:Wt_):=NV->cV d.1 (gb .neq 39 true a (.pointer none) e λf g=>cV f (Ca pQ 13 #[] g b) (b bF g)) (gn 65 false c e λh i=>qB (ar1 h a c b) (bF,(gI 0),()) i)
def ca6(k:Ca pQ 22 #[] W λb c=>jW (λd=>gb .eql 39 true b (.pointer none) c λe f=>cV e (d (bT,()) f) (gn 65 false a f λg h=>gb .gtr 3 true g (gI 100) h λi j=>d (i,()) j)) (ad0 b Z a)):Ca pQ 6 #[a] W Z:=cj Tryz.func6 k
def GO(a b:Vt_)(c:cG)(d:T2)(e:Wt_)(f:T2->Wp):=NV->dz 52 a 6 50 e λg h=>gn 50 false g h λi j=>gb .lss 3 false d.2.1 i j λk l=>cV k (gY 52 a 6 50 l.drew λm=>mf 50 m d.2.1 λn=>eP 23 n l.drew λo=>gY 52 b 6 50 l.drew λp=>mf 50 p d.2.1 λq=>eP 23 q l.drew λr=>my .neq 23 false o r λs=>cV s (c bF l.drew) (g1 d.2.1 l.drew λt u=>f (d.1,t,()) u)) (c bT l)
def HP(a b:Vt_)(c:cG)(d:T2)(e:Wt_)(f:T2->Wp):=NV->dz 52 a 5 49 e λg h=>gn 49 false g h λi j=>gb .lss 3 false d.2.1 i j λk l=>cV k (gY 52 a 5 49 l.drew λm=>mf 49 m d.2.1 λn=>eP 24 n l.drew λo=>gY 52 b 5 49 l.drew λp=>mf 49 p d.2.1 λq=>eP 24 q l.drew λr=>my .neq 24 false o r λs=>cV s (c bF l.drew) (g1 d.2.1 l.drew λt u=>f (d.1,t,()) u)) (qB (GO a b c) (d.1,(gI 0),()) l)
def Hc(a b:Vt_)(c:cG)(d:T2)(e:Wt_)(f:T2->Wp):=NV->dz 52 a 4 48 e λg h=>gn 48 false g h λi j=>gb .lss 3 false d.2.1 i j λk l=>cV k (gY 52 a 4 48 l.drew λm=>mf 48 m d.2.1 λn=>eP 111 n l.drew λo=>gY 52 b 4 48 l.drew λp=>mf 48 p d.2.1 λq=>eP 111 q l.drew λr=>my .neq 111 false o r λs=>cV s (c bF l.drew) (g1 d.2.1 l.drew λt u=>f (d.1,t,()) u)) (qB (HP a b c) (d.1,(gI 0),()) l)
def HD(a:cG)(b c:Vt_)(d:T1)(e:Wt_):=NV->cV d.1 (a bF e) (qB (Hc b c a) (bF,(gI 0),()) e)
def XF(h0:gq 52 a W λc d=>gq 52 b d λe f=>jW (λg=>dz 52 c 0 43 f λh i=>dz 52 e 0 43 i λj k=>gb .neq 43 false h j k λl m=>cV l (g (bT,()) m) (dz 52 c 1 24 m λn o=>dz 52 e 1 24 o λp q=>gb .neq 24 false n p q λr s=>cV r (g (bT,()) s) (dz 52 c 2 2 s λt u=>dz 52 e 2 2 u λv w=>gb .neq 2 false t v w λx y=>cV x (g (bT,()) y) (dz 52 c 3 2 y λz A=>dz 52 e 3 2 A λB C=>gb .neq 2 false z B C λD E=>cV D (g (bT,()) E) (dz 52 c 4 48 E λF G=>gn 48 false F G λH I=>dz 52 e 4 48 I λJ K=>gn 48 false J K λL M=>gb .neq 3 false H L M λN O=>cV N (g (bT,()) O) (dz 52 c 5 49 O λP Q=>gn 49 false P Q λR S=>dz 52 e 5 49 S λT U=>gn 49 false T U λV X=>gb .neq 3 false R V X λY aa=>cV Y (g (bT,()) aa) (dz 52 c 6 50 aa λab ac=>gn 50 false ab ac λad ae=>dz 52 e 6 50 ae λaf ag=>gn 50 false af ag λah ai=>gb .neq 3 false ad ah ai λaj ak=>g (aj,()) ak))))))) (HD Z c e)):Ca pQ 17 #[a,b] W Z:=cj Tryz.func17 h0
def Bi(a b:Vt_)(c:cG)(d:T2)(e:Wt_)(f:T2->Wp):=NV->dz 61 a 5 58 e λg h=>gn 58 false g h λi j=>gb .lss 3 false d.2.1 i j λk l=>cV k (gY 61 a 5 58 l.drew λm=>mf 58 m d.2.1 λn=>eP 79 n l.drew λo=>gY 61 b 5 58 l.drew λp=>mf 58 p d.2.1 λq=>eP 79 q l.drew λr=>my .neq 79 false o r λs=>cV s (c bF l.drew) (g1 d.2.1 l.drew λt u=>f (d.1,t,()) u)) (dz 61 a 6 59 l λv w=>dz 61 b 6 59 w λx y=>Ca pQ 40 #[v,x] y λz A=>cV z (dz 61 a 7 59 A λB C=>dz 61 b 7 59 C λD E=>Ca pQ 40 #[B,D] E c) (c bF A))
def BL(a b:Vt_)(c:cG)(d:T2)(e:Wt_)(f:T2->Wp):=NV->dz 61 a 4 57 e λg h=>gn 57 false g h λi j=>gb .lss 3 false d.2.1 i j λk l=>cV k (gY 61 a 4 57 l.drew λm=>mf 57 m d.2.1 λn=>pS pQ (fH 83 n) l.drew λo=>gY 61 b 4 57 l.drew λp=>mf 57 p d.2.1 λq=>pS pQ (fH 83 q) l.drew λr=>my .neq 83 false o r λs=>cV s (c bF l.drew) (g1 d.2.1 l.drew λt u=>f (d.1,t,()) u)) (qB (Bi a b c) (d.1,(gI 0),()) l)
def Bp(a b:Vt_)(c:cG)(d:T2)(e:Wt_)(f:T2->Wp):=NV->dz 61 a 3 56 e λg h=>gn 56 false g h λi j=>gb .lss 3 false d.2.1 i j λk l=>cV k (gY 61 a 3 56 l.drew λm=>mf 56 m d.2.1 λn=>eP 70 n l.drew λo=>gY 61 b 3 56 l.drew λp=>mf 56 p d.2.1 λq=>eP 70 q l.drew λr=>my .neq 70 false o r λs=>cV s (c bF l.drew) (g1 d.2.1 l.drew λt u=>f (d.1,t,()) u)) (qB (BL a b c) (d.1,(gI 0),()) l)
def Bl(a:cG)(b c:Vt_)(d:T1)(e:Wt_):=NV->cV d.1 (a bF e) (qB (Bp b c a) (bF,(gI 0),()) e)
def Pz(h0:gq 61 a W λc d=>gq 61 b d λe f=>jW (λg=>dz 61 c 0 23 f λh i=>dz 61 e 0 23 i λj k=>gb .neq 23 false h j k λl m=>cV l (g (bT,()) m) (dz 61 c 1 24 m λn o=>dz 61 e 1 24 o λp q=>gb .neq 24 false n p q λr s=>cV r (g (bT,()) s) (dz 61 c 2 2 s λt u=>dz 61 e 2 2 u λv w=>gb .neq 2 false t v w λx y=>cV x (g (bT,()) y) (dz 61 c 3 56 y λz A=>gn 56 false z A λB C=>dz 61 e 3 56 C λD E=>gn 56 false D E λF G=>gb .neq 3 false B F G λH I=>cV H (g (bT,()) I) (dz 61 c 4 57 I λJ K=>gn 57 false J K λL M=>dz 61 e 4 57 M λN O=>gn 57 false N O λP Q=>gb .neq 3 false L P Q λR S=>cV R (g (bT,()) S) (dz 61 c 5 58 S λT U=>gn 58 false T U λV X=>dz 61 e 5 58 X λY aa=>gn 58 false Y aa λab ac=>gb .neq 3 false V ab ac λad ae=>g (ad,()) ae)))))) (Bl Z c e)):Ca pQ 19 #[a,b] W Z:=cj Tryz.func19 h0
def Bu(a b:Vt_)(c:cG)(d:T2)(e:Wt_)(f:T2->Wp):=NV->gn 59 false a e λg h=>gb .lss 3 false d.2.1 g h λi j=>cV i (mf 59 a d.2.1 λk=>eP 76 k j.drew λl=>mf 59 b d.2.1 λm=>eP 76 m j.drew λn=>my .neq 76 false l n λo=>cV o (c bF j.drew) (g1 d.2.1 j.drew λp q=>f (d.1,p,()) q)) (c bT j)
def Sa(i:gn 59 false a W λc d=>gn 59 false b d λe f=>gb .neq 3 false c e f λg h=>cV g (Z bF h) (qB (Bu a b Z) (bF,(gI 0),()) h)):Ca pQ 40 #[a,b] W Z:=cj Tryz.func40 i
end
end Go.Proofs
namespace Go.Proofs
open Go Go.Vc
attribute [local congr] cR
section
variable{w:Wt_}{b lo:Nat}{d nx fu:Int}{ss:Nat->Value}{A:List Ac}{C:List Ct}{P:List Po}{O B:List (Int×Od)}
def SB.keepF{F:NP_}{w' :Wt_}{n:Nat}(h:SB w b d nx fu ss A C P O B lo)(c:de F w w')(k:∀y,F y->y<n)(f:n<=lo)(l:n<=b):SB w' b d nx fu ss A C P O B lo:=
 SB.modX h c λy a g=>by
  have:=k y g;rcases a with rfl|⟨i,j,e,a⟩
  ·omega
  ·have:=(h.nw i y j e a).1;omega
def SB.md0{w' :Wt_}(h:SB w b d nx fu ss A C P O B lo)(a:M0 w w'):SB w' b d nx fu ss A C P O B lo:=SB.modX h a eQ
end
end Go.Proofs
namespace Go.Proofs.YtnfloameajanhaaGreat
open Go Go.Vc Go.Proofs Go.ChangeShapes Go.WideShapes Go.ChangeAt Go.RowKit
set_option maxRecDepth 100000 in
def open_cms{H:Type}{enc:TypeId×Value->H}{w:World}{v0:Value}{j:DataW H}{q:List MemPlace}{d:Nat}(a:Value.okWide Tryz.prog w .any d 65 v0)(g:∃b,DataW.trod enc Tryz.prog w 0 (λ_=>true) true b 65 v0.cells.toList=some (j,q))
  (r:Wt Tryz.prog reachBytes 65 j):∃l:List Cm,Rd w 35 v0 l.length (l.flatMap cmC)/\∀x∈l,x.Fit:=by
 have h:v0.cells.toList=[v0]:=by
  unfold Value.okWide at a;rw[Tryz.underlying65]at a;simp only[Cell.okWide,Tryz.underlying65]at a;unfold Cell.ok at a;rw[Tryz.underlying65]at a;cases v0<;>first|rfl|exact a.elim
 obtain⟨b,g⟩:=g;rw[h]at g;obtain⟨v,e,L,k,-,o⟩:=nJ (sz:=35) Tryz.underlying65 cU qZ g r;cases e
 obtain⟨l,rfl,i⟩:=list_choose (f:=cmC) (Q:=Cm.Fit) λc s=>by
  obtain⟨n,t,y,m,p⟩:=o c s;exact open_cm n m p
 rw[List.length_map,<-List.flatMap_def]at k;exact⟨l,k,i⟩
end Go.Proofs.YtnfloameajanhaaGreat
namespace Go.Proofs
open Go Go.Vc
attribute [local congr] cR
def Ven.oL(S:Ven):List (Int×Od):=S.nums.flatMap λn=>(S.bk n).all.map λo=>(n,o)
def Ven.bL(S:Ven):List (Int×Od):=S.nums.flatMap λn=>(S.bd n).map λo=>(n,o)
def pK{S:Ven}(h:S.Ok):S.oL.length<=3200/\S.bL.length<=800:=by
 have b:=tX h.ord S.nums.length;have a:=tO h.ord S.nums.length;unfold wi at b;unfold vV at a;rw[cN]at b a;have d:=h.cal.len;have c:S.nums.length=S.cal.l.length:=by unfold Ven.nums;rw[cz]
 exact⟨by show(S.nums.flatMap _).length<=_;omega,by show(S.nums.flatMap _).length<=_;omega⟩
def jZ(x:Int×Od):(ju x).length=6:=rfl
abbrev kU:TypeId:=59
def xC:Tryz.prog.underlying kU=some (.slice 76):=cU
end Go.Proofs
namespace Go.Proofs
open Go Go.Vc
attribute [local congr] cR
variable {d nx:Int}{ss:Nat->Value}{w:Wt_}{K:cG}
def ca_sameFail{e:Int}{sT sG sA:Vt_}(B:∃a c,sT=.slice a 0 c)(L:∃a c,sG=.slice a 0 c)(D:∃a c,sA=.slice a 0 c)(C:∀l,M0 w l->K (.bool true) l):
  Ca pQ 17 #[ud (failR e) sT sG sA,ud (failR e) dv dv dv] w K:=by
 obtain⟨u,o,rfl⟩:=B;obtain⟨v,r,rfl⟩:=L;obtain⟨n,t,rfl⟩:=D;apply XF;obtain⟨j,O,d,I⟩:=boxRp (failR e) (.slice u 0 o) (.slice v 0 r) (.slice n 0 t) w;refine cI O ?_;generalize w.heap.size=p at d|-;obtain⟨Q,E,i,k⟩:=boxRp (failR e) dv dv dv j;refine cI E ?_;generalize j.heap.size=q at i|-;have d:=k.hpk d id;have M:=I.trans k;simp only[mC,failR,zRp,dv]at d i;refine dK.at (λst W=>st=(.bool false,())/\W=Q) ?_ ?_
 ·simp[go_sem,d,i]
 rintro _ W ⟨rfl,rfl⟩;unfold HD;intro _;rw[gP];refine eS (λst b=>∃x,st=(x,gI 0,())/\b=W) (λ_ _=>0) ⟨_,rfl,rfl⟩ ?_;rintro⟨_,_⟩ b ⟨x,⟨⟩,rfl⟩ R A;unfold Hc;intro _;have N:(iF 52 (pt p 0) 4).run pQ b=.ok (pt p 4) b:=by simp[go_sem]
 have H:(iF 52 (pt p 0) 5).run pQ b=.ok (pt p 5) b:=by simp[go_sem]
 have J:(iF 52 (pt p 0) 6).run pQ b=.ok (pt p 6) b:=by simp[go_sem]
 have F:(iL 48 (pt p 4)).run pQ b=.ok (.slice u 0 o) b:=by simp[go_sem,d]
 have z:(iL 49 (pt p 5)).run pQ b=.ok (.slice v 0 r) b:=by simp[go_sem,d]
 have P:(iL 50 (pt p 6)).run pQ b=.ok (.slice n 0 t) b:=by simp[go_sem,d]
 have f:(qE .lss 3 false (gI 0) (gI ((0:Nat):Int))).run pQ b=.ok (.bool false) b:=by simp[go_sem]
 refine cI N (cI F (mB (lenV JA _ _ _ _) (cI f ?_)));rw[gP];refine eS (λst g=>∃x,st=(x,gI 0,())/\g=b) (λ_ _=>0) ⟨_,rfl,rfl⟩ ?_;rintro⟨_,_⟩ g ⟨x,⟨⟩,rfl⟩ G s;unfold HP;intro _;refine cI H (cI z (mB (lenV yu _ _ _ _) (cI f ?_)));rw[gP];refine eS (λst h=>∃x,st=(x,gI 0,())/\h=g) (λ_ _=>0) ⟨_,rfl,rfl⟩ ?_;rintro⟨_,_⟩ h ⟨x,⟨⟩,rfl⟩ y m;unfold GO;intro _;refine cI J (cI P (mB (lenV De _ _ _ _) (cI f ?_)));rw[gP];exact C h M
def Hg(a:Ac)(W:Wt_):(qE .neq 70 false (oz a) (oz a)).run pQ W=.ok (.bool false) W:=by simp[go_sem,oz]
def DB(a:Po)(W:Wt_):(qE .neq 79 false (.agg (ec a).toArray) (.agg (ec a).toArray)).run pQ W=.ok (.bool false) W:=by simp[go_sem,ec]
def Iu(a:Int×Od)(W:Wt_):(qE .neq 76 false (.agg (ju a).toArray) (.agg (ju a).toArray)).run pQ W=.ok (.bool false) W:=by simp[go_sem,ju,fL]
def G4(a:Ct)(w:Wt_):(Op.equalIn 10000 83 (.agg (fI a).toArray) (.agg (fI a).toArray)).run pQ w=.ok true w:=by
 have u:Tryz.prog.underlying 83=some (.struct (Tryz.prog.fieldsOf 83)):=cU;have h:Tryz.prog.stoodInHeld 83=false:=cU;rw[run_equalIn_struct w 9999 83 _ _ u h];unfold Program.fieldsOf;rw[Tryz.underlying83]
 have e:∀(t:TypeId) (q:IntKind) (x:Int),Tryz.prog.underlying t=some (.int q)->(Op.equalIn 9999 t (.int q x) (.int q x)).run pQ w=.ok true w:=λt q x g=>by
  have:=run_equalIn_int w 9998 t q q x x g;simpa using this
 have b:=LP a.spec a.spec 9996 w;rw[db rfl]at b
 have c:((fI a).drop 0).take 25=jA a.spec:=by
  show(jA a.spec++_).take 25=_;rw[<-dP a.spec,fN]
 have f:(fI a)[25]? =some (gB a.st):=by unfold fI;rw[cQ (by rw[dP];omega),dP];rfl
 have d:(fI a)[26]? =some (gI a.price):=by unfold fI;rw[cQ (by rw[dP];omega),dP];rfl
 refine nk (r:=true) (r' :=true) (by decide) (yq (n:=24) cU cU c) (yq (n:=24) cU cU c) b ?_;refine nk (r:=true) (r' :=true) (by decide) (jC cU f) (jC cU f) (e _ _ _ cU) ?_;refine nk (r:=true) (r' :=true) (by decide) (jC cU d) (jC cU d) (e _ _ _ cU) ?_;exact G7
def GV(a:Ct)(w:Wt_):(qE .neq 83 false (.agg (fI a).toArray) (.agg (fI a).toArray)).run pQ w=.ok (.bool false) w:=by
 have:=G4 a w;generalize(fI a).toArray=A at this;simp[go_sem,this,Result.andThen]
abbrev StR(w:Wt_)(ss:Nat->Value)(A:List Ac)(C:List Ct)(P:List Po)(O B:List (Int×Od)):Prop:=∀i,3<=i->i<=7->Rd w (MN i) (ss i) (LN A C P O B i) (LC A C P O B i)
def wW(d nx b:Int)(ss:Nat->Value)(w:Wt_):∃a,(Instr.box sV (As d nx b ss)).run pQ w=.ok (pt w.heap.size 0) a/\hC a w.heap.size (rN d nx b ss).toArray sV/\M0 w a:=
 ⟨w.alloc (.cells (rN d nx b ss).toArray sV),rfl,by show hp _ _=_;simp[go_sem],(de.refl _ w).alloc _⟩
def yo{b:Nat}{g:Int}(h:hC w b (rN d nx g ss).toArray sV)(j:∀i,3<=i->i<=7->∃a n c,ss i=.slice a n c)(i:Nat)(hi:3<=i)(f:i<=7):(iL (xL i) (pt b i)).run pQ w=.ok (ss i) w:=by
 obtain⟨a,n,c,e⟩:=j i hi f;have:i=3\/i=4\/i=5\/i=6\/i=7:=qZ;rcases this with rfl|rfl|rfl|rfl|rfl<;>(simp only[xL];rw[e];simp only[rN]at h;rw[e]at h;simp[go_sem,h])
def rM{s t:Vt_}{L:List (Int×Od)}(e:Rd w 6 s L.length (L.flatMap ju))(d:Rd w 6 t L.length (L.flatMap ju))(G:L.length<=100000)(o:∀c,M0 w c->K (.bool true) c):
  Ca pQ 40 #[s,t] w K:=by
 apply Sa;obtain⟨H,E,z⟩:=e.isSl;obtain⟨I,F,r⟩:=d.isSl;have g:∀W,(builtin .len #[59] 3 #[false] #[s]).run pQ W=.ok (.value (gI (L.length:Int))) W:=λW=>by rw[z];exact lenV xC _ _ _ _
 refine mB (g _) ?_;refine jm (gI (L.length:Int)) w (by rw[r];exact lenV xC _ _ _ _) ?_;refine cx (.bool false) w (by simp[go_sem]) ?_;rw[gP]
 refine eS (λst W=>∃(x:Vt_) (k:Nat),st=(x,gI k,())/\k<=L.length/\M0 w W)
  (λst _=>match st.2.1 with| .int _ k=>L.length - k.toNat|_=>0) ⟨_,0,rfl,qZ,lX⟩ ?_
 rintro⟨_,_⟩ W ⟨x,k,⟨⟩,C,m⟩ B b;unfold Bu;intro _;refine mB (g _) ?_;refine cI (ltV _ _ _) ?_;by_cases a:k<L.length
 ·rw[cy,bZ (by simpa using a)];have M:=m.trans mP
  try dsimp only
  generalize W.drew=D at M|-;obtain⟨h,u,j,l,-,A⟩:=(e.mod M eQ).item (f:=ju) jZ a rfl;obtain⟨v,q,p,i,-,y⟩:=(d.mod M eQ).item (f:=ju) jZ a rfl;refine dX (pt h (u+k*6)) (λW=>by rw[l];simp[go_sem,a,cS]) ?_;refine dp (gm (n:=5) (t:=76) cU cU (jZ _) A) ?_;refine dX (pt v (q+k*6)) (λW=>by rw[i];simp[go_sem,a,cS]) ?_;refine dp (gm (n:=5) (t:=76) cU cU (jZ _) y) ?_;refine dw (λW=>Iu _ W) ?_;rw[gP];refine cI (addV qZ _) ?_;exact b _ _ ⟨_,k+1,rfl,qZ,M⟩ (by show L.length - (k+1)<L.length - k;omega)
 ·rw[cy,aZ (by simpa using a)];exact o W m
def yB:Tryz.prog.underlying 58=some (.slice 79):=cU
set_option maxRecDepth 10000 in
def ca_sameSt{N:Int}{l:Nat->Value}{A:List Ac}{C:List Ct}{P:List Po}{O B:List (Int×Od)}(Q:StR w ss A C P O B)(M:StR w l A C P O B)
  (hl:A.length<=100000/\C.length<=100000/\P.length<=100000/\O.length<=100000/\B.length<=100000)(hK:∀w',M0 w w' ->K (.bool true) w'):
  Ca pQ 19 #[As d nx N ss,As d nx N l] w K:=by
 apply Pz;obtain⟨w1,e1,I,m1⟩:=wW d nx N ss w;refine cI e1 ?_;generalize w.heap.size=p at I|-;obtain⟨s,e2,J,m2⟩:=wW d nx N l w1;refine cI e2 ?_;generalize w1.heap.size=q at J|-;have I:=m2.hpk I id;have F:=m1.trans m2;have qs:∀i,3<=i->i<=7->∃a c,ss i=.slice a (LN A C P O B i) c:=λi j h=>(Q i j h).isSl;have qt:∀i,3<=i->i<=7->∃a c,l i=.slice a (LN A C P O B i) c:=λi j h=>(M i j h).isSl;have qs' :∀i,3<=i->i<=7->∃a n c,ss i=.slice a n c:=λi j h=>by obtain⟨a,c,e⟩:=qs i j h;exact⟨a,_,c,e⟩
 have qt' :∀i,3<=i->i<=7->∃a n c,l i=.slice a n c:=λi j h=>by obtain⟨a,c,e⟩:=qt i j h;exact⟨a,_,c,e⟩
 have y:∀W,M0 s W->∀i,3<=i->i<=7->(iL (xL i) (pt p i)).run pQ W=.ok (ss i) W:=λW m i j h=>yo (m.hpk I id) qs' i j h;have L:∀W,M0 s W->∀i,3<=i->i<=7->(iL (xL i) (pt q i)).run pQ W=.ok (l i) W:=λW m i j h=>yo (m.hpk J id) qt' i j h;obtain⟨a3,c3,s3⟩:=qs 3 qZ qZ;obtain⟨a4,c4,s4⟩:=qs 4 qZ qZ;obtain⟨a5,c5,s5⟩:=qs 5 qZ qZ;obtain⟨d3,f3,t3⟩:=qt 3 qZ qZ;obtain⟨d4,f4,t4⟩:=qt 4 qZ qZ;obtain⟨d5,f5,t5⟩:=qt 5 qZ qZ;have s3:ss 3=.slice a3 A.length c3:=s3;have s4:ss 4=.slice a4 C.length c4:=s4;have s5:ss 5=.slice a5 P.length c5:=s5;have t3:l 3=.slice d3 A.length f3:=t3;have t4:l 4=.slice d4 C.length f4:=t4;have t5:l 5=.slice d5 P.length f5:=t5;have n3:∀W,(builtin .len #[56] 3 #[false] #[ss 3]).run pQ W=.ok (.value (gI (A.length:Int))) W:=λW=>by rw[s3];exact lenV ya _ _ _ _
 have n4:∀W,(builtin .len #[57] 3 #[false] #[ss 4]).run pQ W=.ok (.value (gI (C.length:Int))) W:=λW=>by rw[s4];exact lenV qU _ _ _ _
 have n5:∀W,(builtin .len #[58] 3 #[false] #[ss 5]).run pQ W=.ok (.value (gI (P.length:Int))) W:=λW=>by rw[s5];exact lenV yB _ _ _ _
 have k3:∀W,(builtin .len #[56] 3 #[false] #[l 3]).run pQ W=.ok (.value (gI (A.length:Int))) W:=λW=>by rw[t3];exact lenV ya _ _ _ _
 have k4:∀W,(builtin .len #[57] 3 #[false] #[l 4]).run pQ W=.ok (.value (gI (C.length:Int))) W:=λW=>by rw[t4];exact lenV qU _ _ _ _
 have k5:∀W,(builtin .len #[58] 3 #[false] #[l 5]).run pQ W=.ok (.value (gI (P.length:Int))) W:=λW=>by rw[t5];exact lenV yB _ _ _ _
 have H:∀(n:Nat) W,(qE .neq 3 false (gI (n:Int)) (gI (n:Int))).run pQ W=.ok (.bool false) W:=λn W=>by simp[go_sem]
 refine dK.at (λst W=>st=(.bool false,())/\W=s) ?_ ?_
 ·have g1:(iL 23 (pt p 0)).run pQ s=.ok (gU d) s:=by simp only[rN]at I;simp[go_sem,I]
  have g2:(iL 24 (pt p 1)).run pQ s=.ok (gQ nx) s:=by simp only[rN]at I;simp[go_sem,I]
  have g3:(iL 2 (pt p 2)).run pQ s=.ok (gI N) s:=by simp only[rN]at I;simp[go_sem,I]
  have j:(iL 23 (pt q 0)).run pQ s=.ok (gU d) s:=by simp only[rN]at J;simp[go_sem,J]
  have h:(iL 24 (pt q 1)).run pQ s=.ok (gQ nx) s:=by simp only[rN]at J;simp[go_sem,J]
  have h3:(iL 2 (pt q 2)).run pQ s=.ok (gI N) s:=by simp only[rN]at J;simp[go_sem,J]
  refine cI (dZ _ 0 qZ) (cI g1 (cI (dZ _ 0 qZ) (cI j ?_)));refine cI (v:=.bool false) (by simp[go_sem]<;>first|exact sI|exact rfl) ?_;rw[gP];refine cI (dZ _ 1 qZ) (cI g2 (cI (dZ _ 1 qZ) (cI h ?_)));refine cI (v:=.bool false) (by simp[go_sem]<;>first|exact sI|exact rfl) ?_;rw[gP];refine cI (dZ _ 2 qZ) (cI g3 (cI (dZ _ 2 qZ) (cI h3 ?_)));refine cI (v:=.bool false) (by simp[go_sem]<;>first|exact sI|exact rfl) ?_;rw[gP];refine cI (dZ _ 3 qZ) (cI (y _ lX 3 qZ qZ) (mB (n3 _) (cI (dZ _ 3 qZ) (cI (L _ lX 3 qZ qZ) (mB (k3 _) (cI (H _ _) ?_))))));rw[gP];refine cI (dZ _ 4 qZ) (cI (y _ lX 4 qZ qZ) (mB (n4 _) (cI (dZ _ 4 qZ) (cI (L _ lX 4 qZ qZ) (mB (k4 _) (cI (H _ _) ?_))))));rw[gP];refine cI (dZ _ 5 qZ) (cI (y _ lX 5 qZ qZ) (mB (n5 _) (cI (dZ _ 5 qZ) (cI (L _ lX 5 qZ qZ) (mB (k5 _) (cI (H _ _) ?_))))));exact sI
 rintro _ W ⟨rfl,rfl⟩;unfold Bl;intro _;rw[gP]
 refine eS (λst X=>∃(x:Vt_) (k:Nat),st=(x,gI k,())/\k<=A.length/\M0 W X)
  (λst _=>match st.2.1 with| .int _ k=>A.length - k.toNat|_=>0) ⟨_,0,rfl,qZ,lX⟩ ?_
 rintro⟨_,_⟩ X ⟨x,k,⟨⟩,hk,r⟩ KN o;unfold Bp;intro _;refine cI (dZ _ 3 qZ) (cI (y _ r 3 qZ qZ) (mB (n3 _) (cI (ltV _ _ _) ?_)));by_cases b:k<A.length
 ·rw[cy,bZ (by simpa using b)];have g:=r.trans mP
  try dsimp only
  generalize X.drew=Y at g|-;have E:Rd Y 4 (ss 3) A.length (A.flatMap dH):=(Q 3 qZ qZ).mod (F.trans g) eQ;obtain⟨D,o1,U,j,-,x1⟩:=E.item (f:=dH) (λx=>by simp[dH]) b rfl;have G:Rd Y 4 (l 3) A.length (A.flatMap dH):=(M 3 qZ qZ).mod (F.trans g) eQ;obtain⟨z,V,S,h,-,T⟩:=G.item (f:=dH) (λx=>by simp[dH]) b rfl;refine dw (λ_=>dZ _ 3 qZ) (dp (y _ g 3 qZ qZ) ?_);refine dX (pt D (o1+k*4)) (λW=>by rw[j];simp[go_sem,b,cS]) ?_;refine dp (gm (n:=3) (t:=70) cU cU rfl x1) ?_;refine dw (λ_=>dZ _ 3 qZ) (dp (L _ g 3 qZ qZ) ?_);refine dX (pt z (V+k*4)) (λW=>by rw[h];simp[go_sem,b,cS]) ?_;refine dp (gm (n:=3) (t:=70) cU cU rfl T) ?_;refine dw (λW=>Hg _ W) ?_;rw[gP];refine cI (addV qZ _) ?_;exact o _ _ ⟨_,k+1,rfl,qZ,g⟩ (by show A.length - (k+1)<A.length - k;omega)
 rw[cy,aZ (by simpa using b)];clear o
 refine eS (λst Z=>∃(x:Vt_) (k:Nat),st=(x,gI k,())/\k<=C.length/\M0 W Z)
  (λst _=>match st.2.1 with| .int _ k=>C.length - k.toNat|_=>0) ⟨_,0,rfl,qZ,r⟩ ?_
 rintro⟨_,_⟩ X ⟨x,k,⟨⟩,hk,r⟩ KN o;unfold BL;intro _;refine cI (dZ _ 4 qZ) (cI (y _ r 4 qZ qZ) (mB (n4 _) (cI (ltV _ _ _) ?_)));by_cases b:k<C.length
 ·rw[cy,bZ (by simpa using b)];have g:=r.trans mP
  try dsimp only
  generalize X.drew=Y at g|-;have E:Rd Y 27 (ss 4) C.length (C.flatMap fI):=(Q 4 qZ qZ).mod (F.trans g) eQ;obtain⟨D,o1,U,j,-,x1⟩:=E.item (f:=fI) eE b rfl;have G:Rd Y 27 (l 4) C.length (C.flatMap fI):=(M 4 qZ qZ).mod (F.trans g) eQ;obtain⟨z,V,S,h,-,T⟩:=G.item (f:=fI) eE b rfl;refine dw (λ_=>dZ _ 4 qZ) (dp (y _ g 4 qZ qZ) ?_);refine dX (pt D (o1+k*27)) (λW=>by rw[j];simp[go_sem,b,cS]) ?_;refine li (gm (n:=26) (t:=83) cU cU (eE _) x1) ?_;refine dw (λ_=>dZ _ 4 qZ) (dp (L _ g 4 qZ qZ) ?_);refine dX (pt z (V+k*27)) (λW=>by rw[h];simp[go_sem,b,cS]) ?_;refine li (gm (n:=26) (t:=83) cU cU (eE _) T) ?_;refine dw (λW=>GV _ W) ?_;rw[gP];refine cI (addV qZ _) ?_;exact o _ _ ⟨_,k+1,rfl,qZ,g⟩ (by show C.length - (k+1)<C.length - k;omega)
 rw[cy,aZ (by simpa using b)];clear o
 refine eS (λst Z=>∃(x:Vt_) (k:Nat),st=(x,gI k,())/\k<=P.length/\M0 W Z)
  (λst _=>match st.2.1 with| .int _ k=>P.length - k.toNat|_=>0) ⟨_,0,rfl,qZ,r⟩ ?_
 rintro⟨_,_⟩ X ⟨x,k,⟨⟩,hk,r⟩ KN o;unfold Bi;intro _;refine cI (dZ _ 5 qZ) (cI (y _ r 5 qZ qZ) (mB (n5 _) (cI (ltV _ _ _) ?_)));by_cases b:k<P.length
 ·rw[cy,bZ (by simpa using b)];have g:=r.trans mP
  try dsimp only
  generalize X.drew=Y at g|-;have E:Rd Y 4 (ss 5) P.length (P.flatMap ec):=(Q 5 qZ qZ).mod (F.trans g) eQ;obtain⟨D,o1,U,j,-,x1⟩:=E.item (f:=ec) (λx=>by simp[ec]) b rfl;have G:Rd Y 4 (l 5) P.length (P.flatMap ec):=(M 5 qZ qZ).mod (F.trans g) eQ;obtain⟨z,V,S,h,-,T⟩:=G.item (f:=ec) (λx=>by simp[ec]) b rfl;refine dw (λ_=>dZ _ 5 qZ) (dp (y _ g 5 qZ qZ) ?_);refine dX (pt D (o1+k*4)) (λW=>by rw[j];simp[go_sem,b,cS]) ?_;refine dp (gm (n:=3) (t:=79) cU cU rfl x1) ?_;refine dw (λ_=>dZ _ 5 qZ) (dp (L _ g 5 qZ qZ) ?_);refine dX (pt z (V+k*4)) (λW=>by rw[h];simp[go_sem,b,cS]) ?_;refine dp (gm (n:=3) (t:=79) cU cU rfl T) ?_;refine dw (λW=>DB _ W) ?_;rw[gP];refine cI (addV qZ _) ?_;exact o _ _ ⟨_,k+1,rfl,qZ,g⟩ (by show P.length - (k+1)<P.length - k;omega)
 rw[cy,aZ (by simpa using b)]
 have hS:∀(R:Wt_),M0 W R->Rd R 6 (ss 6) O.length (O.flatMap ju)/\Rd R 6 (l 6) O.length (O.flatMap ju)/\Rd R 6 (ss 7) B.length (B.flatMap ju)/\Rd R 6 (l 7) B.length (B.flatMap ju):=λR m=>
  ⟨(Q 6 qZ qZ).mod (F.trans m) eQ,(M 6 qZ qZ).mod (F.trans m) eQ,(Q 7 qZ qZ).mod (F.trans m) eQ,(M 7 qZ qZ).mod (F.trans m) eQ⟩
 refine cI (dZ _ 6 qZ) (cI (y _ r 6 qZ qZ) (cI (dZ _ 6 qZ) (cI (L _ r 6 qZ qZ) ?_)));refine rM (hS _ r).1 (hS _ r).2.1 qZ λY mY=>?_;rw[kx];have u:=r.trans mY;refine cI (dZ _ 7 qZ) (cI (y _ u 7 qZ qZ) (cI (dZ _ 7 qZ) (cI (L _ u 7 qZ qZ) ?_)));refine rM (hS _ u).2.2.1 (hS _ u).2.2.2 qZ λZ mZ=>?_;exact hK Z ((F.trans u).trans mZ)
def SB.str{b lo:Nat}{e:Int}{A:List Ac}{C:List Ct}{P:List Po}{O B:List (Int×Od)}(h:SB w b d nx e ss A C P O B lo):StR w ss A C P O B:=λi c a=>(h.own i c a).rd
def ut{S:Ven}(h:S.Ok):S.led.all.length<=100000/\S.cal.l.length<=100000/\(S.nums.flatMap S.led.holders).length<=100000/\S.oL.length<=100000/\S.bL.length<=100000:=by
 have d:=h.led.led.len;have b:=h.cal.len;have a:=uM h.led.led S.nums.length;unfold wP at a;rw[cN]at a;have c:S.nums.length=S.cal.l.length:=by unfold Ven.nums;rw[cz]
 have e:=pK h;exact⟨qZ,qZ,qZ,qZ,qZ⟩
def tQ{W:Wt_}{p:Nat}{r:Rp}{sT sG sA:Vt_}(h:hC W p (mC r sT sG sA).toArray lx):(iL 43 (pt p 0)).run pQ W=.ok (gI r.err) W:=by
 simp[go_sem,h,mC]
def ye(W:Wt_){p:Nat}:(iF lx (pt p 0) 0).run pQ W=.ok (pt p 0) W:=by simp[go_sem]
set_option maxRecDepth 10000 in
def ca_lawNothing{s:Vt_}{L:List Cm}(h:Rd w 35 s L.length (L.flatMap cmC))(hf:∀c∈L,c.Fit)(hK:∀w',M0 w w' ->K (.bool true) w'):Ca pQ 6 #[s] w K:=by
 apply ca6;refine tB λv F0 w1 q1 m1 n1=>?_;obtain⟨sa,sc,hs⟩:=h.isSl;have k:∀W,(builtin .len #[65] 3 #[false] #[s]).run pQ W=.ok (.value (gI (L.length:Int))) W:=λW=>by rw[hs];exact lenV BU _ _ _ _
 refine dK.at (λst W=>st=(.bool (decide (100<L.length)),())/\W=w1) ?_ ?_
 ·apply cx (.bool false) w1 (by simp[eY,go_sem]);rw[gP];apply mB (k _);apply cx (.bool (decide (100<L.length))) w1 (by simp[go_sem];omega);exact sI
 rintro _ W ⟨rfl,rfl⟩;unfold ad0;intro _;by_cases hb:100<L.length
 ·rw[qo hb];apply cx (.bool true) W (by simp[eY,go_sem]);rw[kx];exact kf λw2 C=>hK _ (m1.trans C)
 rw[cy,aZ (by grind)];apply mB (k _)
 refine eS (λst V=>∃(x:Vt_) (i:Nat) (F:NP_) (S:Ven),st=(x,gI i,())/\i<=L.length/\lw V v F S/\S.Ok/\M0 w V/\∀y,F y->w.heap.size<=y)
  (λst _=>match st.2.1 with| .int _ i=>L.length - i.toNat|_=>0) ⟨_,0,F0,Ven.empty,rfl,qZ,q1,qX,m1,n1⟩ ?_
 rintro⟨_,_⟩ V ⟨x,i,F,S,⟨⟩,hi,q2,d,C,n2⟩ KN hKN;unfold ar1;intro _;apply cI (ltV _ _ _);by_cases j:i<L.length
 ·rw[qo j];have hQ:=q2;obtain⟨c,l,mb,md,A,D,fp,hr,hF⟩:=q2;refine mK hr d λss b lo w3 s3 hlo R hb=>?_;refine pZ s3 λp w4 s4 m4 hp4=>?_;have Q:=R.trans m4;obtain⟨cb,co,he,u⟩:=zH (h.mod (C.trans Q) eQ) j;refine cI (he w4) (iW (vx u) ?_);have e:=hf _ (cC j);refine kW (hQ.md0 Q) d e λsT sG sA F5 w5 U Y m5 n5 _=>?_;have hFl:∀y,F y->y<V.heap.size:=λy g=>hQ.lt g;have hz3:=R.size;have s5:=SB.keepF s4 m5 hFl hlo qZ;have B:=mV d e;have I:=apply_cases S L[i];generalize hX:S.apply L[i]=X at U Y B I|-;have T:=(C.trans Q).on m5 λy g=>.inr (n2 y g)
  have N5:∀y,F5 y->w.heap.size<=y:=λy g=>by
   rcases n5 y g with h|h
   ·exact n2 y h
   ·have:=(C.trans Q).size;omega
  obtain⟨w6,e6,b6,m6⟩:=qy w5;apply cI e6;obtain⟨z,hz⟩:=dW w5.heap.size;rw[<-hz]at b6|-;obtain⟨w7,e7,M,m7⟩:=pl (r:=X.1) (sT:=sT) (sG:=sG) (sA:=sA) b6 rfl Y.isSl;apply ir e7;have a:=m6.on m7 λy g=>gz;have s7:=SB.md0 s5 a;have P:=Y.mod a eQ;have O:=U.md0 a;refine cI (ye _) (cI (tQ M) ?_)
  have next:∀x G W,lw W v G X.2->(∀y,G y->w.heap.size<=y)->M0 w W->KN (x,gI ((i+1:Nat):Int),()) W:=λx G W q n m=>
   hKN _ W ⟨x,i+1,G,X.2,rfl,qZ,q,B,m,n⟩ (by grind)
  rcases I with⟨o,hXe⟩|⟨h0,-⟩
  ·refine qSf1 o ?_;obtain⟨X1,X2⟩:=X;obtain⟨t,rfl⟩:=Prod.mk.inj hXe;simp only at t o U Y B M P O next|-
   generalize hE:X1.err=E at t o|-;subst t;have e1:=P.tr.rd.isSl;have e2:=P.go.rd.isSl;have e3:=P.ac.rd.isSl;refine dK.at (λst W=>st=(.bool false,())/\∃G,lw W v G X2/\(∀y,G y->w.heap.size<=y)/\M0 w W) ?_ ?_
   ·have md:M0 w7 w7.drew:=mP;refine dp (lB (md.hpk M id)) (dw (λW=>ye W) (dp (tQ (md.hpk M id)) (dw (λW=>LM _ W) ?_)));refine ca_sameFail e1 e2 e3 λw8 m8=>?_;have M8:=md.trans m8;refine kj ?_;have s8:=SB.md0 s7 M8;apply dp (FJ s8.at_);have q8:=O.md0 M8;obtain⟨c,l,mb,md',A,D,fp,hr8,hF8⟩:=q8;refine mK hr8 d λss9 b9 lo9 w9 s9 hlo9 m9 hb9=>?_;have t9:=SB.md0 s8 m9;refine⟨FJ t9.at_,?_⟩;refine ca_sameSt s9.str t9.str (ut d) λw10 m10=>?_;refine kj ?_;have f:=(M8.trans m9).trans m10;have J:=f.hpk M id;obtain⟨cb,co,he,u⟩:=zH (h.mod ((T.trans a).trans f) eQ) j;refine dw he (li (vx u) (dw (λW=>ye W) (dp (tQ J) ?_)));refine kW (O.md0 f) d e λtT tG tA Z w11 N r11 H n11 _=>?_;rw[hX]at N r11|-;have b11:=H.hpk J λhc=>by have:=U.lt hc;omega
    refine⟨tQ b11,?_⟩;apply dw (λW=>BG _ tT tG tA W);refine qP0 ?_
    exact⟨rfl,Z,N,λy g=>by
     rcases n11 y g with h|h
     ·exact N5 y h
     ·have:=((T.trans a).trans f).size;omega,((T.trans a).trans f).on H λy g=>.inr (N5 y g)⟩
   rintro _ W ⟨rfl,G,qG,nG,mG⟩;unfold J24_0;intro _;rw[gP];apply cI (addV qZ _);exact next _ G W qG nG mG
  ·refine qSt1 h0 ?_;apply cI (addV qZ _);exact next _ F5 w7 O N5 (T.trans a)
 ·rw[cy,aZ (by grind)];exact kf λw3 R=>hK _ (C.trans R)
end Go.Proofs
namespace Go.Proofs.YtnfloameajanhaaGreat.venueNothing
open Go Go.Vc Go.Proofs Go.ChangeShapes Go.WideShapes Go.ChangeAt Go.RowKit
set_option maxRecDepth 100000 in
def lifted(os:Os)(b:os.Started)(H:Type)(enc:TypeId×Value->H):
  ReturnsInHanded {} Tryz.checked os 6 .any (Rows.venueNothingSpec.pre6 enc Tryz.prog Tryz.f6 Rows.venueNothingRow.domain false) (Rows.venueNothingSpec.post enc Tryz.prog Tryz.f6 false true false false):=by
 refine returnsInHanded_of_change_sized (C:=Tryz.checked) own b cU Tryz.func6
  (ChangeSpec.witness6 (enc:=enc) (C:=Tryz.checked) false ⟨#[],#[.slice none 0 0],[]⟩ 8 cU cU cU cU) ?_
 intro W h a ds gs n c x z l _;have d:∀(j:Nat) t v,Tryz.f6.params[j]? =some t->a[j]? =some v->Value.okWide Tryz.prog W .any h t v:=c;have k:(DataW.weightsEach Tryz.prog (Tryz.f6.params.toList++[]) (ds++gs)).all (·<=reachBytes)=true:=l;have s:=x;obtain⟨p,q,i,J,rfl,I,F⟩:=x;have y:DataW.TrodAll enc Tryz.prog W 0 (λ_=>true) true Tryz.f6.params.toList a.toList ds p:=i;rw[Tryz.params6]at y d k;obtain⟨v0,G,E,B,N,L,r,rfl,rfl,A,D⟩:=trodAll_cons y;obtain⟨rfl,rfl,rfl⟩:=trodAll_nil D;obtain rfl:a= #[v0]:=by cases a;simp_all
 obtain⟨rfl,rfl⟩:=trodVars_none J
 have u:Wt Tryz.prog reachBytes 65 E:=by
  intro m f;have:=List.all_eq_true.1 k m (by simp only[List.append_nil,List.cons_append,List.nil_append,DataW.weightsEach,List.mem_append];first|exact f|exact .inl f);simpa using this
 obtain⟨M,o,g⟩:=open_cms (d 0 65 v0 rfl rfl) A u;clear i c;refine Calls.mono (ca_lawNothing (K:=λv w=>v=.bool true/\M0 W w) o g λw f=>⟨rfl,f⟩).out ?_;rintro e O ⟨v,rfl,rfl,f⟩;exact⟨_,rfl,post_of_mod laidOut cU rfl s f cU Tryz.underlying4 rfl⟩
abbrev zRw:=Rows.venueNothingRow
abbrev II:=Rows.venueNothingSpec
noncomputable abbrev zVt:=Tryz.f6.params.toList++II.plain.varTypes pQ
def k0:zRw.wf (OpenSpec.ofChange II):=cU
def k1:laidOutB pQ:=cU
def k2:mapsRowed pQ:=cU
def k3:Tryz.f6.params.all (pQ.readableRec ·):=cU
def k4:namedTie pQ zRw.named II.vars:=cU
def k5:zRw.stops== []:=cU
def k6:pQ.stops== []:=cU
def k7:zRw.knobs== []:=cU
def k8:pQ.stopKnobs== []:=cU
def k9:zRw.inPlace==pQ.inPlace 6:=cU
def k10:zRw.unfollowed==pQ.unfollowed 6:=cU
def k11:zRw.recurses==pQ.recurses 6:=cU
def k12:zRw.named==pQ.varsNamed 6:=cU
def k13:zRw.maps==zVt.any (pQ.mapsRec ·):=cU
def k14:zRw.ifaces==zVt.any (pQ.ifacesRec ·):=cU
def k15:zRw.mapsOut==pQ.mapsAmong Tryz.f6.resultTypes.toList:=cU
def k16:zRw.loops==zVt.any (pQ.loopsFrom ·):=cU
def k17:zRw.wideKeys==(zVt++Tryz.f6.resultTypes.toList).any (pQ.wideKeysFrom ·):=cU
def k18:II.vars.all (pQ.varReadable ·):=cU
def k19:Tryz.f6.resultTypes.all (λt=>pQ.readableRec t&& decide (t<pQ.types.size)):=cU
def k20:zRw.ifacesOut==Tryz.f6.resultTypes.toList.any (pQ.ifacesRec ·):=cU
def k21:zRw.loopsOut==Tryz.f6.resultTypes.toList.any (pQ.loopsFrom ·):=cU
def k22:zRw.plainKeys==pQ.plainKeys:=cU
def k23:zRw.shortTexts.isNone:=cU
def k24:pQ.stopsHeard:=cU
def k25:pQ.mayEnter:=cU
def k26:zRw.lifted==pQ.liftsFinal:=cU
def k27:pQ.make==some zRw.make:=cU
def k28:zRw.kinds==(if zRw.domain.isEmpty then []else Tryz.f6.params.toList.map λt=>match pQ.underlying t with|some (.int k)=>some k|_=>none):=cU
def k29:zRw.pinned==zRw.pinnedBy:=cU
def k30:zRw.veiled==(zVt++Tryz.f6.resultTypes.toList).any (pQ.veiledRec ·):=cU
def k31:zRw.veiledFits pQ Tryz.f6.params.toList (zVt++Tryz.f6.resultTypes.toList):=cU
set_option maxRecDepth 100000 in
def closed:joinedFacts Tryz.prog 6 Tryz.f6 Rows.venueNothingSpec Rows.venueNothingRow=true:=by
 unfold joinedFacts;simp only[Bool.and_eq_true];exact⟨⟨⟨⟨⟨⟨⟨⟨⟨⟨⟨⟨⟨⟨⟨⟨⟨⟨⟨⟨⟨⟨⟨⟨⟨⟨⟨⟨⟨⟨⟨k0,k1⟩,k2⟩,k3⟩,k4⟩,k5⟩,k6⟩,k7⟩,k8⟩,k9⟩,k10⟩,k11⟩,k12⟩,k13⟩,k14⟩,k15⟩,k16⟩,k17⟩,k18⟩,k19⟩,k20⟩,k21⟩,k22⟩,k23⟩,k24⟩,k25⟩,k26⟩,k27⟩,k28⟩,k29⟩,k30⟩,k31⟩
theorem holds:Rows.VenueNothingSaid:=
 OpenClaim.holds_of_wide 6 Tryz.f6 rfl rfl rfl rfl rfl rfl rfl ⟨rfl,rfl,rfl,rfl,rfl⟩ rfl rfl rfl rfl rfl cU Tryz.func6 closed
  (of_decide_eq_true cU) (by unfold Func.isWrapper;first|(rw[if_pos (by decide+kernel)];kernel_rfl)|(rw[if_neg (by decide+kernel)];exact⟨rfl,rfl⟩))
  (λos a H b _=>lifted os a H b)
end Go.Proofs.YtnfloameajanhaaGreat.venueNothing
