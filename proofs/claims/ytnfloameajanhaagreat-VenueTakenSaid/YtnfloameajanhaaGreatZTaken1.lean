/- The statement VenueTaken: for every input the law returns true; arguments stay. Conditions: none. -/
import Derived.Test.YtnfloameajanhaaGreatZ8
set_option linter.all false
namespace Go.Vc
open Go Go.ChangeShapes Go.WideShapes Go.ChangeAt Go.RowKit
section
variable{H:Type}{enc:TypeId×Value->H}{P:Program}{w:World}{base:Nat}{spare:Nat->Bool}{held:Bool}
def ff{e:TypeId}:∀{l:List (DataW H)} {d:DataW H},d∈l->∀m∈d.weights P e,m∈DataW.weightsAll P e l
 |a::l,d,b,m,c=>by
  simp only[DataW.weightsAll,dg];rcases cH.1 b with rfl|b
  ·exact .inl c
  ·exact .inr (ff b m c)
def Wt.slice{t e:TypeId}{B:Nat}{l r:List (DataW H)}(c:P.underlying t=some (.slice e))(h:Wt P B t (.slice l r)):(l.length+r.length)*P.bytesOf e<=B/\∀d∈l,Wt P B e d:=by
 unfold Wt at h;simp only[DataW.weights,c,cH,dg]at h;exact⟨h _ (.inl rfl),λd a m b=>h m (.inr (.inl (ff a m b)))⟩
def nJ{t e:TypeId}{sz:Nat}{o:Nat}{cs:List Value}{x:DataW H×List MemPlace}(I:P.underlying t=some (.slice e))(hc:P.cellsOf e=sz)(E:0<sz)
  {B:Nat}(O:DataW.trod enc P w base spare held o t cs=some x)(hB:Wt P B t x.1):
  ∃v,cs=[v]/\∃L:List (List Value),Rd w sz v L.length L.flatten/\L.length*P.bytesOf e<=B/\∀c∈L,c.length=sz/\∃X y,DataW.trod enc P w base spare held X e c=some y/\Wt P B e y.1:=by
 rcases DataW.trod_slice I O with⟨rfl,-⟩|⟨a,len,Q,A,rest,n,hf,rfl,rfl,hb,V,hm,N,C,Z,T⟩
 ·exact⟨_,rfl,[],⟨by simp,.inl ⟨rfl,_,_,rfl⟩⟩,by simp,by simp⟩
 ·obtain⟨z,F⟩:=hB.slice I
  have m:∀i,i<len->∃c,w.cells? base (a.add (i*sz)) sz=some c/\∃y,DataW.trod enc P w base spare held n e c=some y/\Wt P B e y.1:=by
   intro i b;have j:=C i b;rw[cE (by omega),hc,Option.bind_eq_some_iff]at j;obtain⟨c,g,r⟩:=j;exact⟨c,g,_,r,F _ (cF.2 ⟨_,cC _,rfl⟩)⟩
  have R:∀k,k<=len->∃L:List (List Value),L.length=k/\∀i (b:i<L.length),w.cells? base (a.add (i*sz)) sz=some L[i]/\∃y,DataW.trod enc P w base spare held n e L[i]=some y/\Wt P B e y.1:=by
   intro k;induction k with
   |zero=>exact λ_=>⟨[],rfl,λi b=>by simp at b⟩
   |succ k p=>
    intro hk;obtain⟨L,j,g⟩:=p (by omega);obtain⟨c,r,J⟩:=m k (by omega);refine⟨L++[c],by simp[j],λi b=>?_⟩;by_cases S:i<L.length
    ·grind
    ·grind
  obtain⟨L,j,g⟩:=R len (cJ _)
  have d:∀c∈L,c.length=sz:=by
   intro c f;obtain⟨i,b,rfl⟩:=cX f;exact(World.cells?_some (g i b).1).2.1
  have W:∀(M:List (List Value)),(∀c∈M,c.length=sz)->M.flatten.length=M.length*sz:=by
   intro M;induction M with
   |nil=>intro _;simp
   |cons c M p=>
    intro l;rw[List.flatten_cons,cD,p λc h=>l c (cu _ h),l c cw,dc,je,jf]
  have q:∀(M:List (List Value)),(∀c∈M,c.length=sz)->∀i v,M.flatten[i]? =some v->∃h:i / sz<M.length,M[i / sz][i%sz]? =some v:=by
   intro M;induction M with
   |nil=>intro _ i v h;simp at h
   |cons c M p=>
    intro l i v h;have G:=l c cw;rw[List.flatten_cons]at h;by_cases b:i<sz
    ·rw[dC (by omega)]at h;rw[Nat.div_eq_of_lt b,iM b];exact⟨by simp,by simpa using h⟩
    ·rw[cQ (by omega),G]at h;obtain⟨j,g⟩:=p (λc h=>l c (cu _ h)) (i - sz) v h
     have s:i / sz=(i - sz) / sz+1:=by
      rw[Nat.div_eq_sub_div E (by omega)]
     have D:i%sz=(i - sz)%sz:=by
      rw[Nat.mod_eq_sub_mod (by omega)]
     refine⟨by grind,?_⟩;simp only[s,D,fA];exact g
  refine⟨_,rfl,L,?_,dD (dM _ (by simp;omega)) z,λc f=>⟨d c f,?_⟩⟩
  ·rw[j];refine mJ V (by grind) (λi v b=>?_) E;obtain⟨r,J⟩:=q L d i v b;obtain⟨h5,Y⟩:=World.cells?_some (g _ r).1 |>.2
   have u:=gR i E;have K:=Y (i%sz) u
   have e:((a.add (i / sz*sz)).add (i%sz))=a.add i:=by
    have U:i / sz*sz+i%sz=i:=by rw[fe];exact ie i sz
    conv=>rhs;rw[<-U]
    simp only[Addr.add];by_cases s:i / sz*sz=0
    ·simp[s]
    ·by_cases D:i%sz=0
     ·simp[D,s]
     ·grind
   rw[e]at K;rw[K];exact J
  ·obtain⟨i,b,rfl⟩:=cX f;exact⟨n,(g i b).2⟩
end
end Go.Vc
namespace Go.Proofs
open Go Go.Vc
def Ej{B:Bk}{n:Int}(h:∀d,∀o∈B d,o.num≠n):B.find n=none:=by
 cases a:B.find n with
 |none=>rfl
 |some x=>exact absurd (find_mem (o:=x.1) (d:=x.2) a).2 (h _ _ (find_mem (o:=x.1) (d:=x.2) a).1)
def JZ{B:Bk}{n:Int}(h:B.find n=none):∀d,∀o∈B d,o.num≠n:=by
 unfold Bk.find at h;cases a:pI (B true) n with
 |some x=>rw[a]at h;cases h
 |none=>
  rw[a]at h;simp only at h;cases b:pI (B false) n with
  |some x=>rw[b]at h;cases h
  |none=>
   unfold pI at a b;rw[fW]at a b;intro d o c;cases d
   ·simpa using b o c
   ·simpa using a o c
end Go.Proofs
namespace Go.Proofs
open Go Go.Vc
def Aq{α:Type}(f:Int->α)(n:Int):upd f n (f n)=f:=by
 funext m;unfold upd;split
 ·rename_i h;rw[h]
 ·rfl
def jj(S:Ven)(n:Int)(o:Od)(p:Pm):(S.traded n o p).2.1.err=0:=by
 unfold Ven.traded;simp only;split<;>rfl
def mM(S:Ven)(c:Cm):(S.place c).2.1.err=0:=by
 unfold Ven.place;simp only;split
 ·rfl
 ·split
  ·rfl
  ·exact jj _ _ _ _
def qx(S:Ven)(c:Cm):(S.bid c).2.1.err=0:=by
 unfold Ven.bid;simp only;split
 ·rfl
 ·split<;>rfl
def lK(S:Ven)(c:Cm):(S.cancel c).2.1.err=0:=by
 unfold Ven.cancel;split
 ·rfl
 ·split<;>rfl
def kR(S:Ven)(c:Cm):(S.replace c).2.1.err=0:=by
 unfold Ven.replace;split
 ·rfl
 ·simp only;split
  ·rfl
  ·split
   ·rfl
   ·exact jj _ _ _ _
def fM:∀(l:List Sd) (r:Rp) (S:Ven),r.err=0->(payL l r S).2.1.err=0
 | [],r,S,h=>h
 |s::l,r,S,h=>by
  unfold payL;simp only;cases s.dfl with
  |true=>
   simp only[fh];split
   ·exact h
   ·exact fM l _ _ h
  |false=>
   simp only[dE,eW];split
   ·exact h
   ·exact fM l _ _ h
def gX(S:Ven)(won:Int->Int):(S.pay won).2.1.err=0:=by
 unfold Ven.pay;simp only;split
 ·rfl
 ·split
  ·exact fM _ _ _ rfl
  ·exact fM _ _ _ rfl
def jM(S:Ven):S.settle.2.1.err=0:=by
 unfold Ven.settle;simp only;split
 ·rfl
 ·split
  ·rfl
  ·split
   ·exact gX _ _
   ·exact gX _ _
def expire_err(S:Ven)(n:Int):(S.expire n).2.1.err=0:=by
 unfold Ven.expire;simp only;split
 ·rfl
 ·split
  ·rfl
  ·split
   ·exact gX _ _
   ·exact gX _ _
def eh{n a:Int}{long:Bool}{price:Int}:∀(l:List Fl) (left:Int) (r:Rp) (S:Ven),r.err=0->(fillsL n a long price l left r S).2.2.1.err=0
 | [],left,r,S,h=>h
 |f::l,left,r,S,h=>by
  unfold fillsL;simp only;split
  ·exact h
  ·exact eh l _ _ _ h
def gO{n a:Int}{long:Bool}{price:Int}:∀(l:List Hd) (r:Rp) (S:Ven),r.err=0->(partsL n a long price l r S).2.1.err=0
 | [],r,S,h=>h
 |x::l,r,S,h=>by
  unfold partsL;simp only;split
  ·exact h
  ·exact gO l _ _ h
def kX(S:Ven)(k:Ct)(a q:Int){r:Rp}(h:r.err=0):(S.sell k a q r).2.1.err=0:=by
 unfold Ven.sell;simp only;split
 ·exact h
 ·split
  ·exact eh _ _ _ _ h
  ·split
   ·exact eh _ _ _ _ h
   ·split
    ·split
     ·exact eh _ _ _ _ h
     ·exact gO _ _ _ (eh _ _ _ _ h)
    ·split
     ·exact eh _ _ _ _ h
     ·exact gO _ _ _ (eh _ _ _ _ h)
def iu{a:Int}:∀(l:List Ct) (r:Rp) (S:Ven),r.err=0->(sellL a l r S).2.1.err=0
 | [],r,S,h=>h
 |k::l,r,S,h=>by
  unfold sellL;simp only;split
  ·exact iu l r S h
  ·split
   ·exact kX _ _ _ _ h
   ·exact iu l _ _ (kX _ _ _ _ h)
def qr(S:Ven)(a:Ac):(S.liquidate a).2.1.err=0:=by
 unfold Ven.liquidate;split
 ·rfl
 ·exact iu _ _ _ rfl
def oE(S:Ven)(c:Cm):(S.done c).2.1.err=0:=by
 unfold Ven.done;by_cases k1:c.kind=1
 ·rw[bZ k1];rfl
 rw[aZ k1];by_cases k2:c.kind=2
 ·rw[bZ k2];rfl
 rw[aZ k2];by_cases k3:c.kind=3
 ·rw[bZ k3];rfl
 rw[aZ k3];by_cases k4:c.kind=4
 ·rw[bZ k4];rfl
 rw[aZ k4];by_cases k11:c.kind=11
 ·rw[bZ k11];rfl
 rw[aZ k11];by_cases k12:c.kind=12
 ·rw[bZ k12];exact jM S
 rw[aZ k12];by_cases k14:c.kind=14
 ·rw[bZ k14];exact expire_err S _
 rw[aZ k14];by_cases a:c.acct=0
 ·rw[bZ a];rfl
 rw[aZ a];by_cases k6:c.kind=6
 ·rw[bZ k6];exact lK S c
 rw[aZ k6];by_cases k7:c.kind=7
 ·rw[bZ k7];exact kR S c
 rw[aZ k7];by_cases b:S.led.getO c.acct=none
 ·rw[bZ b];rfl
 rw[aZ b];by_cases k5:c.kind=5
 ·rw[bZ k5];exact mM S c
 rw[aZ k5];by_cases k9:c.kind=9
 ·rw[bZ k9];exact qx S c
 rw[aZ k9];by_cases k8:c.kind=8
 ·rw[bZ k8];split<;>rfl
 rw[aZ k8];by_cases k10:c.kind=10
 ·rw[bZ k10];simp only;split<;>rfl
 rw[aZ k10];by_cases k13:c.kind=13
 ·rw[bZ k13];exact qr S _
 rw[aZ k13];rfl
def apply_cases(S:Ven)(c:Cm):((S.apply c).1.err≠0/\S.apply c=(failR (S.apply c).1.err,S))\/((S.apply c).1.err=0/\c.may=true/\(S.done c).1=0/\S.apply c=(S.done c).2):=by
 unfold Ven.apply;by_cases b:c.may=false
 ·rw[bZ b];exact .inl ⟨by show(160:Int)≠0;omega,rfl⟩
 rw[aZ b];simp only;by_cases a:(S.done c).1≠0
 ·rw[bZ a];exact .inl ⟨a,rfl⟩
 ·rw[aZ a];exact .inr ⟨oE S c,by simpa using b,by simpa using a,rfl⟩
end Go.Proofs
set_option maxRecDepth 100000
namespace Go.Proofs
open Go Go.Vc
section
variable{a b c:Vt_}{W:Wt_}{Z:cG}
def Wu(a:cG)(b c d e:Vt_)(f:T1)(g:Wt_):=NV->cV f.1 (a bF g) (dz 61 b 1 24 g λh i=>qM 61 c 1 24 h i λj=>dz 52 d 0 43 j λk l=>gb .eql 43 true k (gI 0) l λm n=>cV m (dz 52 d 3 2 n λo p=>dz 30 e 10 2 p λq r=>gb .eql 2 false o q r λs t=>cV s (gl 61 c t λu v=>gl 61 b v λw x=>Ca pQ 19 #[u,w] x λy z=>cV y (Ca pQ 13 #[] z a) (a bF z)) (a bF t)) (a bF n))
def VR(a:cG)(b c d e:Vt_)(f:T1)(g:Wt_):=NV->cV f.1 (Ca pQ 13 #[] g a) (dz 30 b 1 23 g λh i=>dz 52 c 1 24 i λj k=>gx (rB 30 #[(0,(gB 6)),(1,h),(3,j)]) k λl m=>Ca pQ 18 #[d,l] m λn o=>gv 52 n o λp q=>Ca pQ 20 #[d] q λr s=>gv 61 r s λt u=>jW (λv=>dz 61 t 1 24 u λw x=>dz 61 e 1 24 x λy z=>gb .add 24 true y (gQ 1) z λA B=>gb .neq 24 false w A B λC D=>cV C (v (bT,()) D) (dz 52 c 1 24 D λE F=>dz 61 e 1 24 F λG H=>gb .neq 24 false E G H λI J=>v (I,()) J)) (Wu a e t p b))
def Vt(a b c d:Vt_)(e:cG)(f:T1)(g:Wt_)(h:T1->Wp):=gc f.1 a g λi j=>cV i (gi 65 b f.1 j λk l=>gx (fH 30 k) l λm n=>Ca pQ 18 #[c,m] n λo p=>g1 f.1 p λq r=>h (q,()) r) (Ca pQ 20 #[c] j λs t=>gv 61 s t λu v=>gx (fH 30 d) v λw x=>Ca pQ 18 #[c,w] x λy z=>gv 52 y z λA B=>jW (λC=>dz 52 A 0 43 B λD E=>gE D E λF G=>cV F (C (bT,()) G) (dz 52 A 3 2 G λH I=>dz 30 d 10 2 I λJ K=>gb .neq 2 false H J K λL M=>cV L (C (bT,()) M) (dz 52 A 5 49 M λN O=>gn 49 false N O λP Q=>gb .neq 3 true P (gI 0) Q λR S=>C (R,()) S))) (VR e d A c u))
def VK(a:Vt_)(b:cG)(c d:Vt_)(e:T1)(f:Wt_):=NV->cV e.1 (gb .neq 39 true a (.pointer none) f λg h=>cV g (Ca pQ 13 #[] h b) (b bF h)) (gn 65 false c f λi j=>qA (Vt i c a d b) ((gI 0),()) j)
def aw8(v:gq 30 b W λc d=>Ca pQ 22 #[] d λe f=>jW (λg=>gb .eql 39 true e (.pointer none) f λh i=>cV h (g (bT,()) i) (gn 65 false a i λj k=>gb .gtr 3 true j (gI 100) k λl m=>cV l (g (bT,()) m) (dz 30 c 0 22 m λn o=>gb .neq 22 true n (gB 5) o λp q=>cV p (dz 30 c 0 22 q λr s=>gb .neq 22 true r (gB 9) s λt u=>g (t,()) u) (g (bF,()) q)))) (VK e Z a c)):Ca pQ 11 #[a,b] W Z:=cj Tryz.func11 v
def Bi(a b:Vt_)(c:cG)(d:T2)(e:Wt_)(f:T2->Wp):=NV->dz 61 a 5 58 e λg h=>gn 58 false g h λi j=>gb .lss 3 false d.2.1 i j λk l=>cV k (gY 61 a 5 58 l.drew λm=>mf 58 m d.2.1 λn=>eP 79 n l.drew λo=>gY 61 b 5 58 l.drew λp=>mf 58 p d.2.1 λq=>eP 79 q l.drew λr=>my .neq 79 false o r λs=>cV s (c bF l.drew) (g1 d.2.1 l.drew λt u=>f (d.1,t,()) u)) (dz 61 a 6 59 l λv w=>dz 61 b 6 59 w λx y=>Ca pQ 40 #[v,x] y λz A=>cV z (dz 61 a 7 59 A λB C=>dz 61 b 7 59 C λD E=>Ca pQ 40 #[B,D] E c) (c bF A))
def BL(a b:Vt_)(c:cG)(d:T2)(e:Wt_)(f:T2->Wp):=NV->dz 61 a 4 57 e λg h=>gn 57 false g h λi j=>gb .lss 3 false d.2.1 i j λk l=>cV k (gY 61 a 4 57 l.drew λm=>mf 57 m d.2.1 λn=>pS pQ (fH 83 n) l.drew λo=>gY 61 b 4 57 l.drew λp=>mf 57 p d.2.1 λq=>pS pQ (fH 83 q) l.drew λr=>my .neq 83 false o r λs=>cV s (c bF l.drew) (g1 d.2.1 l.drew λt u=>f (d.1,t,()) u)) (qB (Bi a b c) (d.1,(gI 0),()) l)
def Bp(a b:Vt_)(c:cG)(d:T2)(e:Wt_)(f:T2->Wp):=NV->dz 61 a 3 56 e λg h=>gn 56 false g h λi j=>gb .lss 3 false d.2.1 i j λk l=>cV k (gY 61 a 3 56 l.drew λm=>mf 56 m d.2.1 λn=>eP 70 n l.drew λo=>gY 61 b 3 56 l.drew λp=>mf 56 p d.2.1 λq=>eP 70 q l.drew λr=>my .neq 70 false o r λs=>cV s (c bF l.drew) (g1 d.2.1 l.drew λt u=>f (d.1,t,()) u)) (qB (BL a b c) (d.1,(gI 0),()) l)
def Bl(a:cG)(b c:Vt_)(d:T1)(e:Wt_):=NV->cV d.1 (a bF e) (qB (Bp b c a) (bF,(gI 0),()) e)
def Pz(h0:gq 61 a W λc d=>gq 61 b d λe f=>jW (λg=>dz 61 c 0 23 f λh i=>dz 61 e 0 23 i λj k=>gb .neq 23 false h j k λl m=>cV l (g (bT,()) m) (dz 61 c 1 24 m λn o=>dz 61 e 1 24 o λp q=>gb .neq 24 false n p q λr s=>cV r (g (bT,()) s) (dz 61 c 2 2 s λt u=>dz 61 e 2 2 u λv w=>gb .neq 2 false t v w λx y=>cV x (g (bT,()) y) (dz 61 c 3 56 y λz A=>gn 56 false z A λB C=>dz 61 e 3 56 C λD E=>gn 56 false D E λF G=>gb .neq 3 false B F G λH I=>cV H (g (bT,()) I) (dz 61 c 4 57 I λJ K=>gn 57 false J K λL M=>dz 61 e 4 57 M λN O=>gn 57 false N O λP Q=>gb .neq 3 false L P Q λR S=>cV R (g (bT,()) S) (dz 61 c 5 58 S λT U=>gn 58 false T U λV X=>dz 61 e 5 58 X λY aa=>gn 58 false Y aa λab ac=>gb .neq 3 false V ab ac λad ae=>g (ad,()) ae)))))) (Bl Z c e)):Ca pQ 19 #[a,b] W Z:=cj Tryz.func19 h0
def Bu(a b:Vt_)(c:cG)(d:T2)(e:Wt_)(f:T2->Wp):=NV->gn 59 false a e λg h=>gb .lss 3 false d.2.1 g h λi j=>cV i (mf 59 a d.2.1 λk=>eP 76 k j.drew λl=>mf 59 b d.2.1 λm=>eP 76 m j.drew λn=>my .neq 76 false l n λo=>cV o (c bF j.drew) (g1 d.2.1 j.drew λp q=>f (d.1,p,()) q)) (c bT j)
def Sa(i:gn 59 false a W λc d=>gn 59 false b d λe f=>gb .neq 3 false c e f λg h=>cV g (Z bF h) (qB (Bu a b Z) (bF,(gI 0),()) h)):Ca pQ 40 #[a,b] W Z:=cj Tryz.func40 i
end
end Go.Proofs
namespace Go.Proofs
open Go Go.Vc
attribute [local congr] cR
section
variable{w:Wt_}{b lo:Nat}{d nx fu:Int}{ss:Nat->Value}{A:List Ac}{C:List Ct}{P:List Po}{O B:List (Int×Od)}
def SB.md0{w' :Wt_}(h:SB w b d nx fu ss A C P O B lo)(a:M0 w w'):SB w' b d nx fu ss A C P O B lo:=SB.modX h a eQ
end
end Go.Proofs
namespace Go.Proofs.YtnfloameajanhaaGreat
open Go Go.Vc Go.Proofs Go.ChangeShapes Go.WideShapes Go.ChangeAt Go.RowKit
set_option maxRecDepth 100000 in
def open_cms{H:Type}{enc:TypeId×Value->H}{w:World}{v0:Value}{j:DataW H}{q:List MemPlace}{d:Nat}(a:Value.okWide Tryz.prog w .any d 65 v0)(g:∃b,DataW.trod enc Tryz.prog w 0 (λ_=>true) true b 65 v0.cells.toList=some (j,q))
  (r:Wt Tryz.prog reachBytes 65 j):∃l:List Cm,Rd w 35 v0 l.length (l.flatMap cmC)/\∀x∈l,x.Fit:=by
 have h:v0.cells.toList=[v0]:=by
  unfold Value.okWide at a;rw[Tryz.underlying65]at a;simp only[Cell.okWide,Tryz.underlying65]at a;unfold Cell.ok at a;rw[Tryz.underlying65]at a;cases v0<;>first|rfl|exact a.elim
 obtain⟨b,g⟩:=g;rw[h]at g;obtain⟨v,e,L,k,-,o⟩:=nJ (sz:=35) Tryz.underlying65 cU qZ g r;cases e
 obtain⟨l,rfl,i⟩:=list_choose (f:=cmC) (Q:=Cm.Fit) λc s=>by
  obtain⟨n,t,y,m,p⟩:=o c s;exact open_cm n m p
 rw[List.length_map,<-List.flatMap_def]at k;exact⟨l,k,i⟩
end Go.Proofs.YtnfloameajanhaaGreat
namespace Go.Proofs
open Go Go.Vc
attribute [local congr] cR
def Ven.oL(S:Ven):List (Int×Od):=S.nums.flatMap λn=>(S.bk n).all.map λo=>(n,o)
def Ven.bL(S:Ven):List (Int×Od):=S.nums.flatMap λn=>(S.bd n).map λo=>(n,o)
def pK{S:Ven}(h:S.Ok):S.oL.length<=3200/\S.bL.length<=800:=by
 have b:=tX h.ord S.nums.length;have a:=tO h.ord S.nums.length;unfold wi at b;unfold vV at a;rw[cN]at b a;have d:=h.cal.len;have c:S.nums.length=S.cal.l.length:=by unfold Ven.nums;rw[cz]
 exact⟨by show(S.nums.flatMap _).length<=_;omega,by show(S.nums.flatMap _).length<=_;omega⟩
def jZ(x:Int×Od):(ju x).length=6:=rfl
abbrev kU:TypeId:=59
def xC:Tryz.prog.underlying kU=some (.slice 76):=cU
end Go.Proofs
namespace Go.Proofs
open Go Go.Vc
attribute [local congr] cR
variable {d nx:Int}{ss:Nat->Value}{w:Wt_}
def Hg(a:Ac)(W:Wt_):(qE .neq 70 false (oz a) (oz a)).run pQ W=.ok (.bool false) W:=by simp[go_sem,oz]
def DB(a:Po)(W:Wt_):(qE .neq 79 false (.agg (ec a).toArray) (.agg (ec a).toArray)).run pQ W=.ok (.bool false) W:=by simp[go_sem,ec]
def Iu(a:Int×Od)(W:Wt_):(qE .neq 76 false (.agg (ju a).toArray) (.agg (ju a).toArray)).run pQ W=.ok (.bool false) W:=by simp[go_sem,ju,fL]
def G4(a:Ct)(w:Wt_):(Op.equalIn 10000 83 (.agg (fI a).toArray) (.agg (fI a).toArray)).run pQ w=.ok true w:=by
 have u:Tryz.prog.underlying 83=some (.struct (Tryz.prog.fieldsOf 83)):=cU;have h:Tryz.prog.stoodInHeld 83=false:=cU;rw[run_equalIn_struct w 9999 83 _ _ u h];unfold Program.fieldsOf;rw[Tryz.underlying83]
 have e:∀(t:TypeId) (q:IntKind) (x:Int),Tryz.prog.underlying t=some (.int q)->(Op.equalIn 9999 t (.int q x) (.int q x)).run pQ w=.ok true w:=λt q x g=>by
  have:=run_equalIn_int w 9998 t q q x x g;simpa using this
 have b:=LP a.spec a.spec 9996 w;rw[db rfl]at b
 have c:((fI a).drop 0).take 25=jA a.spec:=by
  show(jA a.spec++_).take 25=_;rw[<-dP a.spec,fN]
 have f:(fI a)[25]? =some (gB a.st):=by unfold fI;rw[cQ (by rw[dP];omega),dP];rfl
 have d:(fI a)[26]? =some (gI a.price):=by unfold fI;rw[cQ (by rw[dP];omega),dP];rfl
 refine nk (r:=true) (r' :=true) (by decide) (yq (n:=24) cU cU c) (yq (n:=24) cU cU c) b ?_;refine nk (r:=true) (r' :=true) (by decide) (jC cU f) (jC cU f) (e _ _ _ cU) ?_;refine nk (r:=true) (r' :=true) (by decide) (jC cU d) (jC cU d) (e _ _ _ cU) ?_;exact G7
def GV(a:Ct)(w:Wt_):(qE .neq 83 false (.agg (fI a).toArray) (.agg (fI a).toArray)).run pQ w=.ok (.bool false) w:=by
 have:=G4 a w;generalize(fI a).toArray=A at this;simp[go_sem,this,Result.andThen]
abbrev StR(w:Wt_)(ss:Nat->Value)(A:List Ac)(C:List Ct)(P:List Po)(O B:List (Int×Od)):Prop:=∀i,3<=i->i<=7->Rd w (MN i) (ss i) (LN A C P O B i) (LC A C P O B i)
def wW(d nx b:Int)(ss:Nat->Value)(w:Wt_):∃a,(Instr.box sV (As d nx b ss)).run pQ w=.ok (pt w.heap.size 0) a/\hC a w.heap.size (rN d nx b ss).toArray sV/\M0 w a:=
 ⟨w.alloc (.cells (rN d nx b ss).toArray sV),rfl,by show hp _ _=_;simp[go_sem],(de.refl _ w).alloc _⟩
def yo{b:Nat}{g:Int}(h:hC w b (rN d nx g ss).toArray sV)(j:∀i,3<=i->i<=7->∃a n c,ss i=.slice a n c)(i:Nat)(hi:3<=i)(f:i<=7):(iL (xL i) (pt b i)).run pQ w=.ok (ss i) w:=by
 obtain⟨a,n,c,e⟩:=j i hi f;have:i=3\/i=4\/i=5\/i=6\/i=7:=qZ;rcases this with rfl|rfl|rfl|rfl|rfl<;>(simp only[xL];rw[e];simp only[rN]at h;rw[e]at h;simp[go_sem,h])
def rM{K:cG}{s t:Vt_}{L:List (Int×Od)}(e:Rd w 6 s L.length (L.flatMap ju))(d:Rd w 6 t L.length (L.flatMap ju))(G:L.length<=100000)(o:∀c,M0 w c->K (.bool true) c):
  Ca pQ 40 #[s,t] w K:=by
 apply Sa;obtain⟨H,E,z⟩:=e.isSl;obtain⟨I,F,r⟩:=d.isSl;have g:∀W,(builtin .len #[59] 3 #[false] #[s]).run pQ W=.ok (.value (gI (L.length:Int))) W:=λW=>by rw[z];exact lenV xC _ _ _ _
 refine mB (g _) ?_;refine jm (gI (L.length:Int)) w (by rw[r];exact lenV xC _ _ _ _) ?_;refine cx (.bool false) w (by simp[go_sem]) ?_;rw[gP]
 refine eS (λst W=>∃(x:Vt_) (k:Nat),st=(x,gI k,())/\k<=L.length/\M0 w W)
  (λst _=>match st.2.1 with| .int _ k=>L.length - k.toNat|_=>0) ⟨_,0,rfl,qZ,lX⟩ ?_
 rintro⟨_,_⟩ W ⟨x,k,⟨⟩,C,m⟩ B b;unfold Bu;intro _;refine mB (g _) ?_;refine cI (ltV _ _ _) ?_;by_cases a:k<L.length
 ·rw[cy,bZ (by simpa using a)];have M:=m.trans mP
  try dsimp only
  generalize W.drew=D at M|-;obtain⟨h,u,j,l,-,A⟩:=(e.mod M eQ).item (f:=ju) jZ a rfl;obtain⟨v,q,p,i,-,y⟩:=(d.mod M eQ).item (f:=ju) jZ a rfl;refine dX (pt h (u+k*6)) (λW=>by rw[l];simp[go_sem,a,cS]) ?_;refine dp (gm (n:=5) (t:=76) cU cU (jZ _) A) ?_;refine dX (pt v (q+k*6)) (λW=>by rw[i];simp[go_sem,a,cS]) ?_;refine dp (gm (n:=5) (t:=76) cU cU (jZ _) y) ?_;refine dw (λW=>Iu _ W) ?_;rw[gP];refine cI (addV qZ _) ?_;exact b _ _ ⟨_,k+1,rfl,qZ,M⟩ (by show L.length - (k+1)<L.length - k;omega)
 ·rw[cy,aZ (by simpa using a)];exact o W m
def yB:Tryz.prog.underlying 58=some (.slice 79):=cU
set_option maxRecDepth 10000 in
def ca_sameSt{K:cG}{N:Int}{l:Nat->Value}{A:List Ac}{C:List Ct}{P:List Po}{O B:List (Int×Od)}(Q:StR w ss A C P O B)(M:StR w l A C P O B)
  (hl:A.length<=100000/\C.length<=100000/\P.length<=100000/\O.length<=100000/\B.length<=100000)(hK:∀w',M0 w w' ->K (.bool true) w'):
  Ca pQ 19 #[As d nx N ss,As d nx N l] w K:=by
 apply Pz;obtain⟨w1,e1,I,m1⟩:=wW d nx N ss w;refine cI e1 ?_;generalize w.heap.size=p at I|-;obtain⟨s,e2,J,m2⟩:=wW d nx N l w1;refine cI e2 ?_;generalize w1.heap.size=q at J|-;have I:=m2.hpk I id;have F:=m1.trans m2;have qs:∀i,3<=i->i<=7->∃a c,ss i=.slice a (LN A C P O B i) c:=λi j h=>(Q i j h).isSl;have qt:∀i,3<=i->i<=7->∃a c,l i=.slice a (LN A C P O B i) c:=λi j h=>(M i j h).isSl;have qs' :∀i,3<=i->i<=7->∃a n c,ss i=.slice a n c:=λi j h=>by obtain⟨a,c,e⟩:=qs i j h;exact⟨a,_,c,e⟩
 have qt' :∀i,3<=i->i<=7->∃a n c,l i=.slice a n c:=λi j h=>by obtain⟨a,c,e⟩:=qt i j h;exact⟨a,_,c,e⟩
 have y:∀W,M0 s W->∀i,3<=i->i<=7->(iL (xL i) (pt p i)).run pQ W=.ok (ss i) W:=λW m i j h=>yo (m.hpk I id) qs' i j h;have L:∀W,M0 s W->∀i,3<=i->i<=7->(iL (xL i) (pt q i)).run pQ W=.ok (l i) W:=λW m i j h=>yo (m.hpk J id) qt' i j h;obtain⟨a3,c3,s3⟩:=qs 3 qZ qZ;obtain⟨a4,c4,s4⟩:=qs 4 qZ qZ;obtain⟨a5,c5,s5⟩:=qs 5 qZ qZ;obtain⟨d3,f3,t3⟩:=qt 3 qZ qZ;obtain⟨d4,f4,t4⟩:=qt 4 qZ qZ;obtain⟨d5,f5,t5⟩:=qt 5 qZ qZ;have s3:ss 3=.slice a3 A.length c3:=s3;have s4:ss 4=.slice a4 C.length c4:=s4;have s5:ss 5=.slice a5 P.length c5:=s5;have t3:l 3=.slice d3 A.length f3:=t3;have t4:l 4=.slice d4 C.length f4:=t4;have t5:l 5=.slice d5 P.length f5:=t5;have n3:∀W,(builtin .len #[56] 3 #[false] #[ss 3]).run pQ W=.ok (.value (gI (A.length:Int))) W:=λW=>by rw[s3];exact lenV ya _ _ _ _
 have n4:∀W,(builtin .len #[57] 3 #[false] #[ss 4]).run pQ W=.ok (.value (gI (C.length:Int))) W:=λW=>by rw[s4];exact lenV qU _ _ _ _
 have n5:∀W,(builtin .len #[58] 3 #[false] #[ss 5]).run pQ W=.ok (.value (gI (P.length:Int))) W:=λW=>by rw[s5];exact lenV yB _ _ _ _
 have k3:∀W,(builtin .len #[56] 3 #[false] #[l 3]).run pQ W=.ok (.value (gI (A.length:Int))) W:=λW=>by rw[t3];exact lenV ya _ _ _ _
 have k4:∀W,(builtin .len #[57] 3 #[false] #[l 4]).run pQ W=.ok (.value (gI (C.length:Int))) W:=λW=>by rw[t4];exact lenV qU _ _ _ _
 have k5:∀W,(builtin .len #[58] 3 #[false] #[l 5]).run pQ W=.ok (.value (gI (P.length:Int))) W:=λW=>by rw[t5];exact lenV yB _ _ _ _
 have H:∀(n:Nat) W,(qE .neq 3 false (gI (n:Int)) (gI (n:Int))).run pQ W=.ok (.bool false) W:=λn W=>by simp[go_sem]
 refine dK.at (λst W=>st=(.bool false,())/\W=s) ?_ ?_
 ·have g1:(iL 23 (pt p 0)).run pQ s=.ok (gU d) s:=by simp only[rN]at I;simp[go_sem,I]
  have g2:(iL 24 (pt p 1)).run pQ s=.ok (gQ nx) s:=by simp only[rN]at I;simp[go_sem,I]
  have g3:(iL 2 (pt p 2)).run pQ s=.ok (gI N) s:=by simp only[rN]at I;simp[go_sem,I]
  have j:(iL 23 (pt q 0)).run pQ s=.ok (gU d) s:=by simp only[rN]at J;simp[go_sem,J]
  have h:(iL 24 (pt q 1)).run pQ s=.ok (gQ nx) s:=by simp only[rN]at J;simp[go_sem,J]
  have h3:(iL 2 (pt q 2)).run pQ s=.ok (gI N) s:=by simp only[rN]at J;simp[go_sem,J]
  refine cI (dZ _ 0 qZ) (cI g1 (cI (dZ _ 0 qZ) (cI j ?_)));refine cI (v:=.bool false) (by simp[go_sem]<;>first|exact sI|exact rfl) ?_;rw[gP];refine cI (dZ _ 1 qZ) (cI g2 (cI (dZ _ 1 qZ) (cI h ?_)));refine cI (v:=.bool false) (by simp[go_sem]<;>first|exact sI|exact rfl) ?_;rw[gP];refine cI (dZ _ 2 qZ) (cI g3 (cI (dZ _ 2 qZ) (cI h3 ?_)));refine cI (v:=.bool false) (by simp[go_sem]<;>first|exact sI|exact rfl) ?_;rw[gP];refine cI (dZ _ 3 qZ) (cI (y _ lX 3 qZ qZ) (mB (n3 _) (cI (dZ _ 3 qZ) (cI (L _ lX 3 qZ qZ) (mB (k3 _) (cI (H _ _) ?_))))));rw[gP];refine cI (dZ _ 4 qZ) (cI (y _ lX 4 qZ qZ) (mB (n4 _) (cI (dZ _ 4 qZ) (cI (L _ lX 4 qZ qZ) (mB (k4 _) (cI (H _ _) ?_))))));rw[gP];refine cI (dZ _ 5 qZ) (cI (y _ lX 5 qZ qZ) (mB (n5 _) (cI (dZ _ 5 qZ) (cI (L _ lX 5 qZ qZ) (mB (k5 _) (cI (H _ _) ?_))))));exact sI
 rintro _ W ⟨rfl,rfl⟩;unfold Bl;intro _;rw[gP]
 refine eS (λst X=>∃(x:Vt_) (k:Nat),st=(x,gI k,())/\k<=A.length/\M0 W X)
  (λst _=>match st.2.1 with| .int _ k=>A.length - k.toNat|_=>0) ⟨_,0,rfl,qZ,lX⟩ ?_
 rintro⟨_,_⟩ X ⟨x,k,⟨⟩,hk,r⟩ KN o;unfold Bp;intro _;refine cI (dZ _ 3 qZ) (cI (y _ r 3 qZ qZ) (mB (n3 _) (cI (ltV _ _ _) ?_)));by_cases b:k<A.length
 ·rw[cy,bZ (by simpa using b)];have g:=r.trans mP
  try dsimp only
  generalize X.drew=Y at g|-;have E:Rd Y 4 (ss 3) A.length (A.flatMap dH):=(Q 3 qZ qZ).mod (F.trans g) eQ;obtain⟨D,o1,U,j,-,x1⟩:=E.item (f:=dH) (λx=>by simp[dH]) b rfl;have G:Rd Y 4 (l 3) A.length (A.flatMap dH):=(M 3 qZ qZ).mod (F.trans g) eQ;obtain⟨z,V,S,h,-,T⟩:=G.item (f:=dH) (λx=>by simp[dH]) b rfl;refine dw (λ_=>dZ _ 3 qZ) (dp (y _ g 3 qZ qZ) ?_);refine dX (pt D (o1+k*4)) (λW=>by rw[j];simp[go_sem,b,cS]) ?_;refine dp (gm (n:=3) (t:=70) cU cU rfl x1) ?_;refine dw (λ_=>dZ _ 3 qZ) (dp (L _ g 3 qZ qZ) ?_);refine dX (pt z (V+k*4)) (λW=>by rw[h];simp[go_sem,b,cS]) ?_;refine dp (gm (n:=3) (t:=70) cU cU rfl T) ?_;refine dw (λW=>Hg _ W) ?_;rw[gP];refine cI (addV qZ _) ?_;exact o _ _ ⟨_,k+1,rfl,qZ,g⟩ (by show A.length - (k+1)<A.length - k;omega)
 rw[cy,aZ (by simpa using b)];clear o
 refine eS (λst Z=>∃(x:Vt_) (k:Nat),st=(x,gI k,())/\k<=C.length/\M0 W Z)
  (λst _=>match st.2.1 with| .int _ k=>C.length - k.toNat|_=>0) ⟨_,0,rfl,qZ,r⟩ ?_
 rintro⟨_,_⟩ X ⟨x,k,⟨⟩,hk,r⟩ KN o;unfold BL;intro _;refine cI (dZ _ 4 qZ) (cI (y _ r 4 qZ qZ) (mB (n4 _) (cI (ltV _ _ _) ?_)));by_cases b:k<C.length
 ·rw[cy,bZ (by simpa using b)];have g:=r.trans mP
  try dsimp only
  generalize X.drew=Y at g|-;have E:Rd Y 27 (ss 4) C.length (C.flatMap fI):=(Q 4 qZ qZ).mod (F.trans g) eQ;obtain⟨D,o1,U,j,-,x1⟩:=E.item (f:=fI) eE b rfl;have G:Rd Y 27 (l 4) C.length (C.flatMap fI):=(M 4 qZ qZ).mod (F.trans g) eQ;obtain⟨z,V,S,h,-,T⟩:=G.item (f:=fI) eE b rfl;refine dw (λ_=>dZ _ 4 qZ) (dp (y _ g 4 qZ qZ) ?_);refine dX (pt D (o1+k*27)) (λW=>by rw[j];simp[go_sem,b,cS]) ?_;refine li (gm (n:=26) (t:=83) cU cU (eE _) x1) ?_;refine dw (λ_=>dZ _ 4 qZ) (dp (L _ g 4 qZ qZ) ?_);refine dX (pt z (V+k*27)) (λW=>by rw[h];simp[go_sem,b,cS]) ?_;refine li (gm (n:=26) (t:=83) cU cU (eE _) T) ?_;refine dw (λW=>GV _ W) ?_;rw[gP];refine cI (addV qZ _) ?_;exact o _ _ ⟨_,k+1,rfl,qZ,g⟩ (by show C.length - (k+1)<C.length - k;omega)
 rw[cy,aZ (by simpa using b)];clear o
 refine eS (λst Z=>∃(x:Vt_) (k:Nat),st=(x,gI k,())/\k<=P.length/\M0 W Z)
  (λst _=>match st.2.1 with| .int _ k=>P.length - k.toNat|_=>0) ⟨_,0,rfl,qZ,r⟩ ?_
 rintro⟨_,_⟩ X ⟨x,k,⟨⟩,hk,r⟩ KN o;unfold Bi;intro _;refine cI (dZ _ 5 qZ) (cI (y _ r 5 qZ qZ) (mB (n5 _) (cI (ltV _ _ _) ?_)));by_cases b:k<P.length
 ·rw[cy,bZ (by simpa using b)];have g:=r.trans mP
  try dsimp only
  generalize X.drew=Y at g|-;have E:Rd Y 4 (ss 5) P.length (P.flatMap ec):=(Q 5 qZ qZ).mod (F.trans g) eQ;obtain⟨D,o1,U,j,-,x1⟩:=E.item (f:=ec) (λx=>by simp[ec]) b rfl;have G:Rd Y 4 (l 5) P.length (P.flatMap ec):=(M 5 qZ qZ).mod (F.trans g) eQ;obtain⟨z,V,S,h,-,T⟩:=G.item (f:=ec) (λx=>by simp[ec]) b rfl;refine dw (λ_=>dZ _ 5 qZ) (dp (y _ g 5 qZ qZ) ?_);refine dX (pt D (o1+k*4)) (λW=>by rw[j];simp[go_sem,b,cS]) ?_;refine dp (gm (n:=3) (t:=79) cU cU rfl x1) ?_;refine dw (λ_=>dZ _ 5 qZ) (dp (L _ g 5 qZ qZ) ?_);refine dX (pt z (V+k*4)) (λW=>by rw[h];simp[go_sem,b,cS]) ?_;refine dp (gm (n:=3) (t:=79) cU cU rfl T) ?_;refine dw (λW=>DB _ W) ?_;rw[gP];refine cI (addV qZ _) ?_;exact o _ _ ⟨_,k+1,rfl,qZ,g⟩ (by show P.length - (k+1)<P.length - k;omega)
 rw[cy,aZ (by simpa using b)]
 have hS:∀(R:Wt_),M0 W R->Rd R 6 (ss 6) O.length (O.flatMap ju)/\Rd R 6 (l 6) O.length (O.flatMap ju)/\Rd R 6 (ss 7) B.length (B.flatMap ju)/\Rd R 6 (l 7) B.length (B.flatMap ju):=λR m=>
  ⟨(Q 6 qZ qZ).mod (F.trans m) eQ,(M 6 qZ qZ).mod (F.trans m) eQ,(Q 7 qZ qZ).mod (F.trans m) eQ,(M 7 qZ qZ).mod (F.trans m) eQ⟩
 refine cI (dZ _ 6 qZ) (cI (y _ r 6 qZ qZ) (cI (dZ _ 6 qZ) (cI (L _ r 6 qZ qZ) ?_)));refine rM (hS _ r).1 (hS _ r).2.1 qZ λY mY=>?_;rw[kx];have u:=r.trans mY;refine cI (dZ _ 7 qZ) (cI (y _ u 7 qZ qZ) (cI (dZ _ 7 qZ) (cI (L _ u 7 qZ qZ) ?_)));refine rM (hS _ u).2.2.1 (hS _ u).2.2.2 qZ λZ mZ=>?_;exact hK Z ((F.trans u).trans mZ)
def SB.str{b lo:Nat}{e:Int}{A:List Ac}{C:List Ct}{P:List Po}{O B:List (Int×Od)}(h:SB w b d nx e ss A C P O B lo):StR w ss A C P O B:=λi c a=>(h.own i c a).rd
def ut{S:Ven}(h:S.Ok):S.led.all.length<=100000/\S.cal.l.length<=100000/\(S.nums.flatMap S.led.holders).length<=100000/\S.oL.length<=100000/\S.bL.length<=100000:=by
 have d:=h.led.led.len;have b:=h.cal.len;have a:=uM h.led.led S.nums.length;unfold wP at a;rw[cN]at a;have c:S.nums.length=S.cal.l.length:=by unfold Ven.nums;rw[cz]
 have e:=pK h;exact⟨qZ,qZ,qZ,qZ,qZ⟩
def tQ{W:Wt_}{p:Nat}{r:Rp}{sT sG sA:Vt_}(h:hC W p (mC r sT sG sA).toArray lx):(iL 43 (pt p 0)).run pQ W=.ok (gI r.err) W:=by
 simp[go_sem,h,mC]
def ye(W:Wt_){p:Nat}:(iF lx (pt p 0) 0).run pQ W=.ok (pt p 0) W:=by simp[go_sem]
def yc(t:TypeId)(q:IntKind)(x y:Int)(c:Bool)(f:Tryz.prog.underlying t=some (.int q))(W:Wt_):(qE .eql t c (.int q x) (.int q y)).run pQ W=.ok (.bool (decide (x=y))) W:=by
 have e:(x==y)=decide (x=y):=rfl;simp[go_sem,e]
end Go.Proofs
namespace Go.Proofs.YtnfloameajanhaaGreat
open Go Go.Vc Go.Proofs Go.ChangeShapes Go.WideShapes Go.ChangeAt Go.RowKit
def und30:∃a,Tryz.prog.underlying 30=some (.struct a):=⟨_,Tryz.underlying30⟩
set_option maxRecDepth 100000 in
def open_cmV{H:Type}{enc:TypeId×Value->H}{w:Wt_}{v0:Vt_}{h:DataW H}{n:List MemPlace}{b:Nat}(a:Value.okWide pQ w .any b 30 v0)(e:∃d,DataW.trod enc pQ w 0 (λ_=>true) true d 30 v0.cells.toList=some (h,n))
  (o:Wt pQ reachBytes 30 h):∃c,v0=vI c/\c.Fit:=by
 obtain⟨q,k⟩:=und30;unfold Value.okWide at a;rw[k]at a;obtain⟨f,rfl,g,-⟩:=a;obtain⟨p,e⟩:=e
 have j:f.toList.length=35:=by
  rw[mI,g]
  kernel_rfl
 obtain⟨m,l,i⟩:=open_cm (c:=f.toList) j e o;obtain rfl:f=(cmC m).toArray:=by rw[<-l]
 exact⟨m,rfl,i⟩
end Go.Proofs.YtnfloameajanhaaGreat
namespace Go.Proofs
open Go Go.Vc
def may_of{c:Cm}(h:1<=c.kind/\c.kind<=14)(a:c.kind≠3)(b:c=c.bare):c.may=true:=by
 unfold Cm.may;rw[db h,db b,db a];rfl
end Go.Proofs
namespace Go.Proofs
open Go Go.Vc
attribute [local congr] cR
variable {F:NP_}{v:Nat}{S:Ven}{w:Wt_}
def tR{r:Rp}{sT sG sA:Vt_}{K:Value->World->Prop}(h:vG w sT sG sA r)
  (i:∀p w',hC w' p (mC r sT sG sA).toArray lx->vG w' sT sG sA r->M0 w w' ->w.heap.size<=p->K (pt p 0) w'):
  rv pQ (iA lx true (.tuple #[])) w λe c=>ru pQ (iS lx e (ud r sT sG sA)) c λa=>K e a:=by
 obtain⟨c,m,f,l⟩:=qy w;apply cI m;obtain⟨a,j,k,g⟩:=pl (r:=r) (sT:=sT) (sG:=sG) (sA:=sA) f rfl h.isSl;apply ir j;have M:=l.on g λy n=>gz;exact i _ a k (h.mod M eQ) M (cJ _)
structure vn(w0 w:Wt_)(v:Nat)(F:NP_)(S:Ven):Prop where
 q:lw w v F S
 ok:S.Ok
 m:M0 w0 w
 n:∀y,F y->w0.heap.size<=y
def vn.md0{a w' :Wt_}(h:vn a w v F S)(m:M0 w w'):vn a w' v F S:=⟨h.q.md0 m,h.ok,h.m.trans m,h.n⟩
def vn.apply{i:Wt_}{x:Cm}{K:cG}(h:vn i w v F S)(j:x.Fit)
  (k:∀a e c F' w',vn i w' v F' (S.apply x).2->vG w' a e c (S.apply x).1->de F w w' ->(∀y,F' y->F y\/w.heap.size<=y)->K (ud (S.apply x).1 a e c) w'):Ca pQ 18 #[eY v,vI x] w K:=
 kW h.q h.ok j λa e c F' w' q r m n _=>k a e c F' w' ⟨q,mV h.ok j,h.m.on m λy f=>.inr (h.n y f),λy f=>by
  rcases n y f with g|g
  ·exact h.n y g
  ·have:=h.m.size;omega⟩ r m n
structure KS(w:Wt_)(F:NP_)(b:Nat)(d nx fu:Int)(ss:Nat->Value)(A:List Ac)(C:List Ct)(P:List Po)(O B:List (Int×Od))(lo:Nat):Prop where
 sb:SB w b d nx fu ss A C P O B lo
 ap:∀y,XS ss b y->¬F y
section
variable{w w' :Wt_}{F F' :NP_}{b lo:Nat}{d nx fu:Int}{ss:Nat->Value}{A:List Ac}{C:List Ct}{P:List Po}{O B:List (Int×Od)}
def KS.on(h:KS w F b d nx fu ss A C P O B lo)(m:de F w w')(n:∀y,F' y->F y\/w.heap.size<=y):KS w' F' b d nx fu ss A C P O B lo:=
 ⟨SB.modX h.sb m h.ap,λy a e=>by
  rcases n y e with c|c
  ·exact h.ap y a c
  ·have:=h.sb.ltX a;omega⟩
def KS.md0(h:KS w F b d nx fu ss A C P O B lo)(m:M0 w w'):KS w' F b d nx fu ss A C P O B lo:=⟨SB.md0 h.sb m,h.ap⟩
end
def vn.state{j:Wt_}{K:Value->World->Prop}(h:vn j w v F S)
  (n:∀ss b lo w',KS w' F b S.cal.day S.next S.led.fund ss S.led.all S.cal.l (S.nums.flatMap S.led.holders) S.oL S.bL lo->vn j w' v F S->M0 w w' ->w.heap.size<=b->K (pt b 0) w'):
  Ca pQ 20 #[eY v] w λv0 a=>rv pQ (iA sV true (.tuple #[])) a λg a=>ru pQ (iS sV g v0) a λz=>K g z:=by
 obtain⟨c,l,mb,md,A,D,fp,q,J⟩:=h.q;refine mK q h.ok λss b lo G s t m H=>pZ s λp k f x hp=>?_;have M:=m.trans x;have E:=m.size;refine n ss p lo k ⟨f,λy e o=>?_⟩ (h.md0 M) M qZ;have I:=h.q.lt o;rcases e with rfl|⟨i,r,u,e⟩
 ·omega
 ·have:=(f.nw i y r u e).1;omega
end Go.Proofs
namespace Go.Proofs
open Go Go.Vc
variable {o:Od}
def xh{β:Type}{f:Int->Option β}{n:Int}{x:β}:∀{l:List Int},n∈l->f n=some x->(∀m,m≠n->f m=none)->l.findSome? f=some x
 | [],h,_,_=>by cases h
 |a::l,h,c,b=>by
  rw[List.findSome?_cons];by_cases e:a=n
  ·rw[e,c]
  ·rw[b a e];exact xh ((cH.1 h).resolve_left (kG e)) c b
def Mm:∀{L:List Od} {left:Int},(iV o left L).2.2.1=[]->(iV o left L).2.2.2.1=[]->(∀b∈L,b.may=true)->1<=left->iV o left L=(left,L,[],[],0)/\(L=[]\/∃b r,L=b::r/\nf o b.price=false)
 | [],left,_,_,_,_=>⟨rfl,.inl rfl⟩
 |b::r,left,c,d,f,g=>by
  by_cases a:left<=0\/nf o b.price=false
  ·refine⟨by unfold iV;rw[bZ a],.inr ⟨b,r,rfl,?_⟩⟩;rcases a with a|a
   ·omega
   ·exact a
  ·exfalso;unfold iV at c d;rw[aZ a]at c d;by_cases e:b.acct=o.acct
   ·grind
   ·rw[aZ e]at c;by_cases h:left<b.left
    ·grind
    ·grind
def NA{buy:Bool}{l:List Od}(h:∀x∈l,x.num≠o.num):tD (tK buy l o) o.num=l:=by
 unfold tD tK;rw[List.eraseP_append_right _ λx a=>by grind,List.eraseP_cons_of_pos (by simp),fP]
def Ke{L:List Od}(h:L=[]\/∃b r,L=b::r/\nf o b.price=false):lR (!o.buy) L o.price o.acct=0:=by
 unfold lR
 have:L.takeWhile (λx=> !sx (!o.buy) o.price x.price)=[]:=by
  rcases h with rfl|⟨b,r,rfl,h⟩
  ·rfl
  ·rw[List.takeWhile_cons_of_neg];unfold nf at h;unfold sx;cases a:o.buy with
   |true=>rw[a]at h;simp at h|-;omega
   |false=>rw[a]at h;simp at h|-;omega
 rw[this];rfl
def J8{B:Bk}{k:Int}(F:BkMay B)(h:(gD B o k).1=0)(g:(gD B o k).2.2.left=o.left)(n:(gD B o k).2.2.gone=[]):
  (gD B o k).2.1=B.set o.buy (tK o.buy (B o.buy) o)/\(gD B o k).2.2.trades=[]/\∀x∈B o.buy,x.num≠o.num:=by
 obtain⟨e,A,-⟩:=place_0 h;have r:=Gg (rests:=decide (k=1\/k=4)) F A;have s:=may_left A;rw[e]at g n|-;simp only at g n|-;obtain⟨a,E⟩:=dW (decide (k=1\/k=4));rw[<-E]at g n r|-;have N:=r.fill
 have c:(ko B o a).2.trades=[]:=by
  cases I:(ko B o a).2.trades with
  |nil=>rfl
  |cons t l=>
   have C:=r.qty;have m:=r.tr;rw[I]at C m;rw[cM,di]at C;have O:=(m t cw).1
   have M:=Ka (p:=l.map (·.qty)) λx y=>by
    obtain⟨u,K,rfl⟩:=cF.1 y;have:=(m u (cu _ K)).1;omega
   omega
 have q:(iV o o.left (B !o.buy)).2.2.1=[]/\(iV o o.left (B !o.buy)).2.2.2.1=[]:=by
  unfold ko at c n;simp only at c n;split at c
  ·grind
  ·grind
 obtain⟨w,v⟩:=Mm q.1 q.2 (λb H=>(F _ b H).1) s.1
 have j:∀d,∀x∈B d,x.num≠o.num:=by
  unfold gD at h;split at h
  ·cases h
  ·split at h
   ·cases h
   ·rename_i m
    exact JZ (by simpa using m)
 have D:a=true->(B o.buy).length<100:=λf=>by
  apply dU;intro G;rw[E,dN]at f;unfold gD at h;split at h
  ·cases h
  ·split at h
   ·cases h
   ·split at h
    ·cases h
    ·split at h
     ·cases h
     ·split at h
      ·cases h
      ·rename_i J
       refine J ⟨f,?_,qZ⟩;rw[Ke v];omega
 have f:a=true:=by
  apply dU;intro z;unfold ko at g;simp only at g;rw[aZ (λh=>z h.1)]at g;have:(0:Int)=o.left:=g;omega
 have i:(ko B o a).1=B.set o.buy (tK o.buy (B o.buy) o):=by
  unfold ko;simp only;rw[w];simp only;rw[bZ ⟨f,qZ⟩];simp only;rw[Bk.set_same]
  have:(rX o.buy (B o.buy) o).2=tK o.buy (B o.buy) o:=by
   unfold rX;rw[aZ (by simp[A]),aZ,aZ (by grind)];intro L;obtain⟨x,y,z⟩:=gA.1 L;exact j _ x y (dR z)
  rw[this]
 exact⟨i,c,j _⟩
def JQ(a n:Int):({zCm with kind:=6,acct:=a,num:=n}:Cm).may=true:=
 may_of ⟨by grind,by grind⟩ (by grind) rfl
def Ad{S:Ven}{a n left:Int}{T:Ven}(b:a≠0)(h:S.cancel {zCm with kind:=6,acct:=a,num:=n}=(0,{zRp with num:=n,left:=left},T)):
  S.apply {zCm with kind:=6,acct:=a,num:=n}=({zRp with num:=n,left:=left},T):=by
 unfold Ven.apply;rw[aZ (by rw[JQ];simp)];simp only
 have e:S.done {zCm with kind:=6,acct:=a,num:=n}=S.cancel {zCm with kind:=6,acct:=a,num:=n}:=by
  unfold Ven.done;have k:∀x,x≠6->({zCm with kind:=6,acct:=a,num:=n}:Cm).kind≠x:=λx h e=>h e.symm;rw[aZ (k 1 qZ),aZ (k 2 qZ),aZ (k 3 qZ),aZ (k 4 qZ),aZ (k 11 qZ),aZ (k 12 qZ),aZ (k 14 qZ),aZ b,bZ rfl]
 rw[e,h];rfl
def ae0{S:Ven}(h:S.Ok){c:Cm}(U:c.Fit)(A:c.kind=5\/c.kind=9)(W:(S.apply c).1.err=0)(e:(S.apply c).1.left=c.qty)(f:(S.apply c).1.gone=[]):
  (S.apply c).1.num=S.next/\(S.apply c).2.apply {zCm with kind:=6,acct:=c.acct,num:=S.next}=({zRp with num:=S.next,left:=c.qty},{S with next:=S.next+1})/\S.next<=maxNum:=by
 have a:=mV h U;rcases apply_cases S c with⟨t,-⟩|⟨-,G,b,J⟩
 ·exact absurd W t
 rw[J]at e f a|-;unfold Ven.done at b e f a|-;have k1:c.kind≠1:=qZ;have k2:c.kind≠2:=qZ;have k3:c.kind≠3:=qZ;have k4:c.kind≠4:=qZ;have k11:c.kind≠11:=qZ;have k12:c.kind≠12:=qZ;have k14:c.kind≠14:=qZ;have k6:c.kind≠6:=qZ;have k7:c.kind≠7:=qZ;rw[aZ k1,aZ k2,aZ k3,aZ k4,aZ k11,aZ k12,aZ k14]at b e f a|-;by_cases D:c.acct=0
 ·grind
 rw[aZ D,aZ k6,aZ k7]at b e f a|-;by_cases V:S.led.getO c.acct=none
 ·grind
 rw[aZ V]at b e f a|-;have j:=fresh_next h.ord;rcases A with A|A
 ·rw[bZ A]at b e f a|-;unfold Ven.place at b e f a|-;simp only at b e f a|-;by_cases t:(S.order c).1≠0
  ·grind
  rw[aZ t]at b e f a|-;obtain⟨hp,N,v⟩:=order_ok D (by simpa using t);rw[v]at b e f a|-;simp only at b e f a|-;by_cases F:(gD (S.bk c.ct) (c.od S.next) c.ty).1≠0
  ·grind
  rw[aZ F]at b e f a|-;have L:(gD (S.bk c.ct) (c.od S.next) c.ty).1=0:=by simpa using F
  obtain⟨P,O⟩:=dW (gD (S.bk c.ct) (c.od S.next) c.ty);rw[<-O]at b e f a|-;obtain⟨g,i⟩:=dW ({S with next:=S.next+1,bk:=upd S.bk c.ct P.2.1});rw[<-i]at b e f a|-
  have B:(g.traded c.ct (c.od S.next) P.2.2).2.1=⟨0,S.next,P.2.2.filled,P.2.2.left,P.2.2.trades,P.2.2.gone,[]⟩:=by
   unfold Ven.traded at b|-;simp only at b|-;split at b
   ·grind
   ·rename_i w;rw[aZ w];rfl
  rw[B]at e f|-;rw[qg]at a|-;obtain⟨H,R,Q⟩:=J8 (h.ord.bkMay c.ct) L (by rw[<-O];exact e) (by grind);rw[<-O]at H R;rw[R]at a|-;obtain⟨o,k⟩:=dW (c.od S.next);rw[<-k]at H Q a|-;have q:o.num=S.next:=by rw[k];rfl
  have u:o.acct=c.acct:=by rw[k];rfl
  have s:o.left=c.qty:=by rw[k];rfl
  have M:({g with led:=(tradeL c.ct o [] g.led).2}:Ven)=g:=rfl;rw[M]at a|-;refine⟨rfl,Ad D ?_,N⟩;have p:g.bk=upd S.bk c.ct ((S.bk c.ct).set o.buy (tK o.buy (S.bk c.ct o.buy) o)):=by rw[i,H]
  have C:o∈g.bk c.ct o.buy:=by
   rw[p,upd_self,Bk.set_self];exact(wx _ _ _).mem_iff.2 cw
  have K:=Ln (a.ord.bkNd c.ct) C;rw[q]at K
  have l:g.find c.acct S.next=some (o,c.ct):=by
   have n:c.ct∈g.nums:=by rw[i];exact zn hp.alive
   unfold Ven.find;refine xh n ?_ λm G=>?_
   ·unfold findIn;rw[K];exact bZ u
   ·unfold findIn;rw[p,upd_ne _ _ _ G,Ej λd x w=>j m x (rC w)]
  unfold Ven.cancel;rw[l];simp only
  have z:jX (g.bk c.ct) S.next=(0,S.bk c.ct,o):=by
   unfold jX;rw[K];simp only;rw[p,upd_self,Bk.set_self,<-q,NA Q]
   have:((S.bk c.ct).set o.buy (tK o.buy (S.bk c.ct o.buy) o)).set o.buy (S.bk c.ct o.buy)=S.bk c.ct:=by
    funext d;unfold Bk.set;split
    ·rename_i b;rw[b]
    ·rfl
   rw[this]
  rw[z,s]
  have:({g with bk:=upd g.bk c.ct (S.bk c.ct)}:Ven)={S with next:=S.next+1}:=by
   rw[p,upd_upd,Aq,i]
  rw[this]
 ·have k5:c.kind≠5:=qZ;rw[aZ k5,bZ A]at b e f a|-;unfold Ven.bid at b e f a|-;simp only at b e f a|-;by_cases t:(S.order c).1≠0
  ·grind
  rw[aZ t]at b e f a|-;obtain⟨hp,N,v⟩:=order_ok D (by simpa using t);rw[v]at b e f a|-;simp only at b e f a|-;by_cases F:50<=(S.bd c.ct).length
  ·grind
  rw[aZ F]at b e f a|-;obtain⟨o,k⟩:=dW (c.od S.next);rw[<-k]at b e f a|-;have q:o.num=S.next:=by rw[k];rfl
  have u:o.acct=c.acct:=by rw[k];rfl
  have s:o.left=c.qty:=by rw[k];rfl
  refine⟨q,Ad D ?_,N⟩;obtain⟨g,i⟩:=dW ({S with next:=S.next+1,bd:=upd S.bd c.ct (S.bd c.ct++[o])});rw[<-i];have p:g.bk=S.bk:=by rw[i]
  have r:g.bd=upd S.bd c.ct (S.bd c.ct++[o]):=by rw[i]
  have n:c.ct∈g.nums:=by rw[i];exact zn hp.alive
  have l:g.find c.acct S.next=none:=by
   unfold Ven.find;rw[List.findSome?_eq_none_iff];intro m _;unfold findIn;rw[p,Ej λd x w=>j m x (rC w)]
  have y:∀m,∀x∈S.bd m,isBid c.acct S.next x=false:=λm x w=>by
   unfold isBid;rw[ej (j m x (vk w))];rfl
  have T:g.nums.findSome? (bidIn g.bd c.acct S.next)=some ((S.bd c.ct).length,c.ct):=by
   refine xh n ?_ λm G=>?_
   ·unfold bidIn;rw[r,upd_self,List.findIdx?_append,fR.2 (y c.ct)]
    have:isBid c.acct S.next o=true:=by
     unfold isBid;rw[db q,db u];rfl
    simp[List.findIdx?_cons,this]
   ·unfold bidIn;rw[r,upd_ne _ _ _ G,fR.2 (y m)];rfl
  unfold Ven.cancel;rw[l,T];simp only
  have E:(g.bd c.ct).getD (S.bd c.ct).length pC=o:=by
   rw[r,upd_self,iH,cQ (cJ _),mg];rfl
  have I:(g.bd c.ct).eraseIdx (S.bd c.ct).length=S.bd c.ct:=by
   rw[r,upd_self,List.eraseIdx_append_of_length_le (cJ _),mg];simp
  rw[E,I,s]
  have:({g with bd:=upd g.bd c.ct (S.bd c.ct)}:Ven)={S with next:=S.next+1}:=by
   rw[r,upd_upd,Aq,i]
  rw[this]
end Go.Proofs
namespace Go.Proofs
open Go Go.Vc
attribute [local congr] cR
variable {w:Wt_}
def XK(a n:Int):Cm:={zCm with kind:=6,acct:=a,num:=n}
def Zy(a n:Int):Tryz.prog.built om [(0,gB 6),(1,gU a),(3,gQ n)]=some (cmC (XK a n)).toArray:=cU
def Oz{a n:Int}(h:pL a)(b:P6 n):(XK a n).Fit:=⟨⟨by show(0:Int)<=6;omega,by show(6:Int)<256;omega⟩,h,ls.2.2.1,b,ls.2.2.2.2.1,ls.2.2.2.2.2.1,ls.2.2.2.2.2.2.1,ls.2.2.2.2.2.2.2.1,ls.2.2.2.2.2.2.2.2⟩
section
variable{W:Wt_}{p:Nat}{r:Rp}{sT sG sA:Vt_}
def ae2(W:Wt_){p:Nat}:(iF lx (pt p 0) 1).run pQ W=.ok (pt p 1) W:=by simp[go_sem]
def ak1(W:Wt_){p:Nat}:(iF lx (pt p 0) 3).run pQ W=.ok (pt p 3) W:=by simp[go_sem]
def aC6(W:Wt_){p:Nat}:(iF lx (pt p 0) 5).run pQ W=.ok (pt p 5) W:=by simp[go_sem]
def Ws(h:hC W p (mC r sT sG sA).toArray lx):(iL 24 (pt p 1)).run pQ W=.ok (gQ r.num) W:=by simp[go_sem,h,mC]
def PG(h:hC W p (mC r sT sG sA).toArray lx):(iL 2 (pt p 3)).run pQ W=.ok (gI r.left) W:=by simp[go_sem,h,mC]
def Xp(h:hC W p (mC r sT sG sA).toArray lx)(q:vG W sT sG sA r):(iL 49 (pt p 5)).run pQ W=.ok sG W:=by
 obtain⟨a,n,c,rfl⟩:=q.isSl.2.1;simp[go_sem,h,mC]
end
def B0(t:TypeId)(q:IntKind)(x y:Int)(c:Bool)(a:Tryz.prog.underlying t=some (.int q))(W:Wt_):(qE .neq t c (.int q x) (.int q y)).run pQ W=.ok (.bool (decide (x≠y))) W:=by
 by_cases h:x=y<;>simp[go_sem,h]
def FY{b lo:Nat}{d nx a:Int}{ss:Nat->Value}{A:List Ac}{C:List Ct}{P:List Po}{O B:List (Int×Od)}(h:SB w b d nx a ss A C P O B lo):(iL 24 (pt b 1)).run pQ w=.ok (gQ nx) w:=by
 have:=h.at_;simp only[rN]at this;simp[go_sem,this]
def Zm{b lo:Nat}{d nx e:Int}{ss:Nat->Value}{A:List Ac}{C:List Ct}{P:List Po}{O B:List (Int×Od)}(h:SB w b d nx e ss A C P O B lo)(x:Int):
  ∃a,(iS 24 (pt b 1) (gQ x)).run pQ w=.ok () a/\SB a b d x e ss A C P O B lo/\de (λy=>y=b) w a:=by
 have c:=h.at_;simp only[rN]at c;have m:de (λy=>y=b) w (w.setCell ⟨b,1,none⟩ (gQ x)):=(de.refl (λy=>y=b) w).sc;refine⟨w.setCell ⟨b,1,none⟩ (gQ x),by simp[go_sem,c],⟨by simp[go_sem,c,rN],λi f g=>(h.own i f g).mod m λy j=>(h.nw i y f g j).2,h.dj,h.nw⟩,m⟩
def AX{x:Int}(h:0<=x/\x<9223372036854775808)(W:Wt_):(qE .add 24 true (gQ x) (gQ 1)).run pQ W=.ok (gQ (x+1)) W:=by
 simp[go_sem];rw[wU_]
set_option maxRecDepth 10000 in
def ca_lawTaken{K:cG}{s:Vt_}{L:List Cm}{c:Cm}(h:Rd w 35 s L.length (L.flatMap cmC))(hf:∀c∈L,c.Fit)(a:c.Fit)(hK:∀w',M0 w w' ->K (.bool true) w'):Ca pQ 11 #[s,vI c] w K:=by
 apply aw8;obtain⟨w0,e0,G,l⟩:=uT c w;apply cI e0;generalize w.heap.size=cp at G|-;refine tB λv F0 Y q1 U n1=>?_;have I:=U.hpk G id;have M1:=l.trans U;obtain⟨sa,sc,hs⟩:=h.isSl;have d:∀W,(builtin .len #[65] 3 #[false] #[s]).run pQ W=.ok (.value (gI (L.length:Int))) W:=λW=>by rw[hs];exact lenV BU _ _ _ _
 refine dK.at (λst W=>st=(.bool (decide (100<L.length\/¬(c.kind=5\/c.kind=9))),())/\W=Y) ?_ ?_
 ·apply cx (.bool false) Y (by simp[eY,go_sem]);rw[gP];apply mB (d _);apply cx (.bool (decide (100<L.length))) Y (by simp[go_sem];omega);by_cases b:100<L.length
  ·rw[qo b];exact⟨by simp[b],rfl⟩
  rw[cy,aZ (by grind)];refine cI (td _) (cI (sH I) (cI (B0 22 .u8 _ _ _ cU _) ?_));by_cases k5:c.kind=5
  ·rw[cy,aZ (by simp[k5])];exact⟨by simp[k5,b],rfl⟩
  rw[cy,bZ (by simp[k5])];refine cI (td _) (cI (sH I) (cI (B0 22 .u8 _ _ _ cU _) ?_));exact⟨by simp[k5,b],rfl⟩
 rintro _ W ⟨rfl,rfl⟩;unfold VK;intro _;by_cases b:100<L.length\/¬(c.kind=5\/c.kind=9)
 ·rw[qo b];apply cx (.bool true) W (by simp[eY,go_sem]);rw[kx];exact kf λw2 m2=>hK _ (M1.trans m2)
 rw[cy,aZ (by grind)];rw[mO,Classical.not_not]at b;apply mB (d _)
 have hcp:cp<w0.heap.size:=by
  have h0:=G;exact(js.1 h0).1
 refine eS (λst C=>∃(i:Nat) (F:NP_) (S:Ven),st=(gI i,())/\i<=L.length/\vn w0 C v F S/\iy C cp c)
  (λst _=>match st.1 with| .int _ i=>L.length - i.toNat|_=>0) ⟨0,F0,Ven.empty,rfl,qZ,⟨q1,qX,U,n1⟩,I⟩ ?_
 rintro⟨_,_⟩ C ⟨i,F,S,⟨⟩,hi,B,b2⟩ KN P;unfold Vt;intro _;apply cI (ltV _ _ _);by_cases g:i<L.length
 ·rw[qo g];obtain⟨cb,co,V,hat⟩:=zH (h.mod (l.trans B.m) eQ) g;refine cI (V C) (iW (vx hat) ?_);have m:=hf _ (cC g);refine B.apply m λsT sG sA F5 w5 j _ x _=>?_;apply cI (addV qZ _);exact P _ w5 ⟨i+1,F5,_,rfl,qZ,j,x.hpk b2 λa=>by have:=B.n _ a;omega⟩ (by grind)
 rw[cy,aZ (by grind)];refine B.state λss p lo w4 s4 n T _=>?_;have b4:=T.hpk b2 id;apply iW (vm b4);have tk:=λV hl hg=>ae0 n.ok a b.2 V hl hg;refine n.apply a λsT sG sA F5 w5 j r5 x n5=>?_;have b5:=x.hpk b4 λa=>by have:=n.n _ a;omega
 have s5:=s4.on x n5;generalize S.apply c=X at j r5 tk|-;refine tR r5 λrp N t r6 H hrp=>?_;have O:=j.md0 H;have s6:=s5.md0 H;have J:=H.hpk b5 id;refine dK.at (λst W=>st=(.bool (decide (X.1.err≠0\/X.1.left≠c.qty\/X.1.gone.length≠0)),())/\W=N) ?_ ?_
 ·refine cI (ye _) (cI (tQ t) (cI (B0 43 .i64 _ _ _ cU _) ?_));by_cases h1:X.1.err≠0
  ·rw[qo h1];exact⟨by grind,rfl⟩
  rw[cy,aZ (by grind)];refine cI (ak1 _) (cI (PG t) (cI (yy _) (cI (um J) (cI (B0 2 .i64 _ _ _ Tryz.underlying2 _) ?_))));by_cases R:X.1.left≠c.qty
  ·rw[qo R];exact⟨by grind,rfl⟩
  rw[cy,aZ (by grind)];obtain⟨ga,gc,Q,-⟩:=r6.go.isSl;refine cI (aC6 _) (cI (Xp t r6) ?_);apply jm (gI (X.1.gone.length:Int)) N (by rw[Q];exact lenV yu _ _ _ _);apply cx (.bool (decide (X.1.gone.length≠0))) N (by by_cases h:X.1.gone=[]<;>simp[go_sem,h]);exact⟨by simp only[h1,R,false_or],rfl⟩
 rintro _ W6 ⟨rfl,rfl⟩;unfold VR;intro _;by_cases u:X.1.err≠0\/X.1.left≠c.qty\/X.1.gone.length≠0
 ·rw[qo u];exact kf λw7 k=>hK _ ((l.trans O.m).trans k)
 rw[cy,aZ (by grind)];simp only[mO,ne_eq,Classical.not_not]at u;obtain⟨t1,Z,t3⟩:=tk u.1 u.2.1 (List.length_eq_zero_iff.1 u.2.2);have hnx:=n.ok.next;have hmx:maxNum=4611686018427387904:=rfl;refine cI (pM _) (cI (rk J) (cI (ae2 _) (cI (Ws t) ?_)));rw[t1];apply lL (Zy _ _);refine O.apply (Oz a.2.1 ⟨qZ,qZ⟩) λxT xG xA F7 w7 V7 r7 k n7=>?_;have Z:X.2.apply (XK c.acct S.next)=_:=Z;rw[Z]at V7 r7|-;have s7:=s6.on k n7;have p7:=k.hpk t λa=>by have:=j.q.lt a;omega
 have b7:=k.hpk J λa=>by have:=O.n _ a;omega
 refine tR r7 λxp w8 x8 r8 E _=>?_;have V8:=V7.md0 E;have s8:=s7.md0 E;have p8:=E.hpk p7 id;have b8:=E.hpk b7 id;refine V8.state λtt q M w9 k9 V9 A hq9=>?_;have k9:SB w9 q S.cal.day (S.next+1) S.led.fund tt S.led.all S.cal.l (S.nums.flatMap S.led.holders) S.oL S.bL M:=k9.sb;have z:=(s8.md0 A).sb;have p9:=A.hpk p8 id;have b9:=A.hpk b8 id;have x9:=A.hpk x8 id;refine dK.at (λst W=>st=(.bool false,())/\W=w9) ?_ ?_
 ·refine cI (dZ _ 1 qZ) (cI (FY k9) (cI (dZ _ 1 qZ) (cI (FY z) ?_)));refine cI (AX qZ _) (cI (B0 24 .u64 _ _ _ Tryz.underlying24 _) ?_);rw[cy,aZ (by simp)];refine cI (ae2 _) (cI (Ws p9) (cI (dZ _ 1 qZ) (cI (FY z) (cI (B0 24 .u64 _ _ _ Tryz.underlying24 _) ?_))));exact⟨by rw[t1];simp,rfl⟩
 rintro _ W9 ⟨rfl,rfl⟩;unfold Wu;intro _;rw[gP];obtain⟨wa,ea,ka,D⟩:=Zm k9 S.next
 have f:∀{y:Nat} {o:Obj},hp w8 y=some o->y≠q:=λ{y o} h e=>by
  have h0:w8.heap[y]? =some o:=h;have:=(js.1 h0).1;omega
 have sa:SB wa p _ _ _ _ _ _ _ _ _ _:=SB.modX z D λy hy e=>by have:=s8.sb.ltX hy;omega
 have xa:=D.hpk x9 (f x8);have ba:=D.hpk b9 (f b8);refine cI (dZ _ 1 qZ) (cI (FY z) (cI (dZ _ 1 qZ) (ir ea ?_)));refine cI (ye _) (cI (tQ xa) (cI (yc 43 .i64 _ _ _ cU _) ?_));rw[cy,bZ (by simp[zRp])];refine cI (ak1 _) (cI (PG xa) (cI (yy _) (cI (um ba) (cI (yc 2 .i64 _ _ _ Tryz.underlying2 _) ?_))));rw[cy,bZ (by simp)];refine cI (FJ ka.at_) (cI (FJ sa.at_) ?_);refine ca_sameSt (SB.str ka) (SB.str sa) (ut n.ok) λwb mb=>?_;rw[kx];refine kf λwc mc=>hK _ (((l.trans V9.m).on D λy hy=>.inr ?_).trans (mb.trans mc));have h1:=V8.m.size;have R:=l.size;omega
end Go.Proofs
namespace Go.Proofs.YtnfloameajanhaaGreat.venueTaken
open Go Go.Vc Go.Proofs Go.ChangeShapes Go.WideShapes Go.ChangeAt Go.RowKit
set_option maxRecDepth 100000 in
def lifted(os:Os)(b:os.Started)(H:Type)(enc:TypeId×Value->H):
  ReturnsInHanded {} Tryz.checked os 11 .any (Rows.venueTakenSpec.pre6 enc Tryz.prog Tryz.f11 Rows.venueTakenRow.domain false) (Rows.venueTakenSpec.post enc Tryz.prog Tryz.f11 false true false false):=by
 refine returnsInHanded_of_change_sized (C:=Tryz.checked) own b cU Tryz.func11
  (ChangeSpec.witness6 (enc:=enc) (C:=Tryz.checked) false ⟨#[],#[.slice none 0 0,vI zCm],[]⟩ 8 cU cU cU cU) ?_
 intro W i a ds gs n d z D l _;have c:∀(j:Nat) t v,Tryz.f11.params[j]? =some t->a[j]? =some v->Value.okWide Tryz.prog W .any i t v:=d;have g:(DataW.weightsEach Tryz.prog (Tryz.f11.params.toList++[]) (ds++gs)).all (·<=reachBytes)=true:=l;have u:=z;obtain⟨p,q,k,R,rfl,Q,O⟩:=z;have B:DataW.TrodAll enc Tryz.prog W 0 (λ_=>true) true Tryz.f11.params.toList a.toList ds p:=k;rw[Tryz.params11]at B c g;obtain⟨v0,P,M,I,Y,S,s,rfl,rfl,G,J⟩:=trodAll_cons B;obtain⟨A,F,d1,N,V,T,rfl,rfl,rfl,L,E⟩:=trodAll_cons J;obtain⟨rfl,rfl,rfl⟩:=trodAll_nil E;obtain rfl:a= #[v0,A]:=by cases a;simp_all
 obtain⟨rfl,rfl⟩:=trodVars_none R
 have w:Wt Tryz.prog reachBytes 65 M:=by
  intro m f;have:=List.all_eq_true.1 g m (by simp only[List.append_nil,List.cons_append,List.nil_append,DataW.weightsEach,List.mem_append];first|exact .inl f|exact .inl f);simpa using this
 have r:Wt Tryz.prog reachBytes 30 d1:=by
  intro m f;have:=List.all_eq_true.1 g m (by simp only[List.append_nil,List.cons_append,List.nil_append,DataW.weightsEach,List.mem_append];first|exact .inr (f)|exact .inr (.inl f));simpa using this
 obtain⟨X,o,h⟩:=open_cms (c 0 65 v0 rfl rfl) G w;obtain⟨U,rfl,x⟩:=open_cmV (c 1 30 A rfl rfl) L r;clear k d;refine Calls.mono (ca_lawTaken (K:=λv y=>v=.bool true/\M0 W y) o h x λy f=>⟨rfl,f⟩).out ?_;rintro e Z ⟨v,rfl,rfl,f⟩;exact⟨_,rfl,post_of_mod laidOut cU rfl u f cU Tryz.underlying4 rfl⟩
abbrev zRw:=Rows.venueTakenRow
abbrev II:=Rows.venueTakenSpec
noncomputable abbrev zVt:=Tryz.f11.params.toList++II.plain.varTypes pQ
def k0:zRw.wf (OpenSpec.ofChange II):=cU
def k1:laidOutB pQ:=cU
def k2:mapsRowed pQ:=cU
def k3:Tryz.f11.params.all (pQ.readableRec ·):=cU
def k4:namedTie pQ zRw.named II.vars:=cU
def k5:zRw.stops== []:=cU
def k6:pQ.stops== []:=cU
def k7:zRw.knobs== []:=cU
def k8:pQ.stopKnobs== []:=cU
def k9:zRw.inPlace==pQ.inPlace 11:=cU
def k10:zRw.unfollowed==pQ.unfollowed 11:=cU
def k11:zRw.recurses==pQ.recurses 11:=cU
def k12:zRw.named==pQ.varsNamed 11:=cU
def k13:zRw.maps==zVt.any (pQ.mapsRec ·):=cU
def k14:zRw.ifaces==zVt.any (pQ.ifacesRec ·):=cU
def k15:zRw.mapsOut==pQ.mapsAmong Tryz.f11.resultTypes.toList:=cU
def k16:zRw.loops==zVt.any (pQ.loopsFrom ·):=cU
def k17:zRw.wideKeys==(zVt++Tryz.f11.resultTypes.toList).any (pQ.wideKeysFrom ·):=cU
def k18:II.vars.all (pQ.varReadable ·):=cU
def k19:Tryz.f11.resultTypes.all (λt=>pQ.readableRec t&& decide (t<pQ.types.size)):=cU
def k20:zRw.ifacesOut==Tryz.f11.resultTypes.toList.any (pQ.ifacesRec ·):=cU
def k21:zRw.loopsOut==Tryz.f11.resultTypes.toList.any (pQ.loopsFrom ·):=cU
def k22:zRw.plainKeys==pQ.plainKeys:=cU
def k23:zRw.shortTexts.isNone:=cU
def k24:pQ.stopsHeard:=cU
def k25:pQ.mayEnter:=cU
def k26:zRw.lifted==pQ.liftsFinal:=cU
def k27:pQ.make==some zRw.make:=cU
def k28:zRw.kinds==(if zRw.domain.isEmpty then []else Tryz.f11.params.toList.map λt=>match pQ.underlying t with|some (.int k)=>some k|_=>none):=cU
def k29:zRw.pinned==zRw.pinnedBy:=cU
def k30:zRw.veiled==(zVt++Tryz.f11.resultTypes.toList).any (pQ.veiledRec ·):=cU
def k31:zRw.veiledFits pQ Tryz.f11.params.toList (zVt++Tryz.f11.resultTypes.toList):=cU
set_option maxRecDepth 100000 in
def closed:joinedFacts Tryz.prog 11 Tryz.f11 Rows.venueTakenSpec Rows.venueTakenRow=true:=by
 unfold joinedFacts;simp only[Bool.and_eq_true];exact⟨⟨⟨⟨⟨⟨⟨⟨⟨⟨⟨⟨⟨⟨⟨⟨⟨⟨⟨⟨⟨⟨⟨⟨⟨⟨⟨⟨⟨⟨⟨k0,k1⟩,k2⟩,k3⟩,k4⟩,k5⟩,k6⟩,k7⟩,k8⟩,k9⟩,k10⟩,k11⟩,k12⟩,k13⟩,k14⟩,k15⟩,k16⟩,k17⟩,k18⟩,k19⟩,k20⟩,k21⟩,k22⟩,k23⟩,k24⟩,k25⟩,k26⟩,k27⟩,k28⟩,k29⟩,k30⟩,k31⟩
theorem holds:Rows.VenueTakenSaid:=
 OpenClaim.holds_of_wide 11 Tryz.f11 rfl rfl rfl rfl rfl rfl rfl ⟨rfl,rfl,rfl,rfl,rfl⟩ rfl rfl rfl rfl rfl cU Tryz.func11 closed
  (of_decide_eq_true cU) (by unfold Func.isWrapper;first|(rw[if_pos (by decide+kernel)];kernel_rfl)|(rw[if_neg (by decide+kernel)];exact⟨rfl,rfl⟩))
  (λos a H b _=>lifted os a H b)
end Go.Proofs.YtnfloameajanhaaGreat.venueTaken
