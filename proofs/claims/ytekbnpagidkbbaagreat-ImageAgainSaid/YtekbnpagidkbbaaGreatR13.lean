/- Part of a proof. -/
import Derived.Test.YtekbnpagidkbbaaGreatR12
set_option linter.all false
set_option maxRecDepth 100000
set_option maxHeartbeats 4000000
namespace Go.Proofs
open Go Go.Vc Go.Shelf
attribute [local congr] bj
def Zm(s:Nat):((2:Int) ^ s)=((2 ^ s:Nat):Int):=by grind
def ah5{B U Z c f b a d R:Nat}(h1:U*B+c=b+d)(g:d*B+f=a+R)(h:c*B+f=Z):U*(B*B)+Z=b*B+a+R:=by
 have e:=ep (·*B) h1;simp only[ej]at e;rw[<-gR];omega
def ZR{U Z b a c R:Nat}(h1:U*4294967296+Z / 4294967296=b+c)(d:c*4294967296+Z%4294967296=a+R):U*18446744073709551616+Z=b*4294967296+a+R:=
 ah5 (B:=4294967296) h1 d (nN Z 4294967296)
def Qg{hi lo y:Nat}(hy:hi<y)(L:y<18446744073709551616)(n:lo<18446744073709551616){w:Wt_}{K:aZ}
  (hK:∀w',M0 w w' ->K (.tuple #[.int .u64 (((hi*18446744073709551616+lo) / y:Nat):Int),gQ (((hi*18446744073709551616+lo)%y:Nat):Int)]) w'):Ca pQ 356 #[.int .u64 (hi:Int),gQ (lo:Int),gQ (y:Int)] w K:=by
 refine cN Tryz.func356 ?_;refine cT.at (λ_ W=>W=w) ?_ ?_
 ·have h1:¬y=0:=qZ;apply wL (.bool false) h1;rw[jO]
 rintro _ W rfl;refine kR ?_;intro _;refine cT.at (λ_ a=>a=W) ?_ ?_
 ·have h1:¬y<=hi:=qZ;apply wL (.bool false) h1;rw[jO]
 rintro _ a rfl;refine kR ?_;intro _;by_cases h0:hi=0
 ·subst h0;apply Ka (.bool true);rw[kJ];have i:¬y=0:=qZ;have hq:lo / y<18446744073709551616:=fk (lU _ _) n;apply du (gQ ((lo / y:Nat):Int)) (λ_=>by simp only[go_sem];simp[i];rw[<-kQ,yq _ hq]);apply du (gQ ((lo%y:Nat):Int)) (λ_=>by simp only[go_sem];simp[i];rw[jm qZ]);have C:=hK a.drew (aR.refl _ _).drew;rw[kp,cX]at C;exact C
 apply wL (.bool false) h0;rw[jO];apply UJ L;obtain⟨b1,b2,b3⟩:=Lib.bitLenAux_bounds 64 y L qZ
 have hL:Lib.bitLenAux 64 y<=64:=by
  apply aQ;intro hc;have:2 ^ 64<=2 ^ (Lib.bitLenAux 64 y - 1):=js qZ qZ;omega
 have z:Lib.bitLen y=Lib.bitLenAux 64 y:=rfl;rw[z];obtain⟨s,hs⟩:=di (64 - Lib.bitLenAux 64 y);have A:(64 - (Lib.bitLenAux 64 y:Int))=(s:Int):=qZ;rw[A];have O:s<64:=qZ
 have d:9223372036854775808<=y*2 ^ s/\y*2 ^ s<18446744073709551616:=by
  have e1:2 ^ (Lib.bitLenAux 64 y - 1)*2 ^ s=9223372036854775808:=by rw[<-mU,show Lib.bitLenAux 64 y - 1+s=63 by omega]
  have e2:2 ^ Lib.bitLenAux 64 y*2 ^ s=18446744073709551616:=by rw[<-mU,show Lib.bitLenAux 64 y+s=64 by omega]
  exact⟨by rw[<-e1];exact cH _ b2,by rw[<-e2];exact Nat.mul_lt_mul_of_pos_right b3 (lD s)⟩
 clear b1 b2 b3 hL z A hs;obtain⟨S,t,u3,u4⟩:=Vv hy n (Nat.le_of_lt O) d.2;obtain⟨p,hp⟩:=di (2 ^ s);have hpp:0<p:=by rw[hp];exact lD s
 obtain⟨Y,D⟩:=di (y*p);obtain⟨H,E⟩:=di (hi*p);obtain⟨X,v⟩:=di (lo / 2 ^ (64 - s));obtain⟨Z,hZ⟩:=di (lo*p%18446744073709551616);rw[<-hp,<-v,<-E,<-hZ]at S;rw[<-hp,<-v,<-E,<-D]at t;rw[<-hp,<-v]at u3;rw[<-hp,<-E]at u4;rw[<-hp,<-D]at d;have c:min s 64=s:=qZ;have g:((2:Int) ^ s)=(p:Int):=by rw[Zm,hp]
 apply ao (gQ (s:Int)) a (by simp[go_sem];rw[RE]);apply ao (gQ (Y:Int)) a (by simp only[go_sem];simp[c];rw[g,<-eO,<-D,yq _ d.2]);obtain⟨b,hy1⟩:=di (Y / 4294967296);obtain⟨k,i⟩:=di (Y%4294967296);have h:Y=b*4294967296+k:=qZ;apply ao (gQ (b:Int)) a (by simp[go_sem];omega);apply ao (gQ (k:Int)) a (by simp only[go_sem];simp;rw[Mul64.maskN Y d.2,i]);apply ao (gQ (H:Int)) a (by simp only[go_sem];simp[c];rw[g,<-eO,<-E,yq _ u4]);apply ao (gQ ((64 - s:Nat):Int)) a (by simp only[go_sem];simp;rw[RE];omega);have m:min (64 - s) 64=64 - s:=qZ;apply ao (gQ (X:Int)) a (by simp only[go_sem];simp[m];rw[Zm,<-kQ,<-v])
 have hor:H|||X=H+X:=by
  rw[E,hp,<-Nat.shiftLeft_eq,<-Nat.shiftLeft_add_eq_or_of_lt (by rw[<-hp];exact u3)]
 have hXM:X<18446744073709551616:=fk (by rw[v];exact lU _ _) n;apply ao (gQ ((H+X:Nat):Int)) a (by simp only[go_sem];simp;rw[bits_or_u64_nat H X u4 hXM,hor];simp);apply ao (gQ (Z:Int)) a (by simp only[go_sem];simp[c];rw[g,<-eO,IntKind.wrap_u64,hZ];omega);have hZM:Z<18446744073709551616:=by rw[hZ];exact gx _ qZ
 apply Ka (gQ ((Z / 4294967296:Nat):Int));apply ao (gQ ((Z%4294967296:Nat):Int)) a (by simp only[go_sem];simp;rw[Mul64.maskN Z hZM];simp);obtain⟨U,hU⟩:=di (H+X);rw[<-hU]at S t|-;have j:¬b=0:=qZ;have e:2147483648<=b/\b<4294967296:=qZ;have G:U / b<18446744073709551616:=fk (lU _ _) qZ;have hUm:=jH U b;apply ao (gQ ((U / b:Nat):Int)) a (by simp only[go_sem];simp[j];rw[<-kQ,yq _ G]);obtain⟨m1,q⟩:=di (U / b*b);rw[<-q]at hUm;apply ao (gQ (m1:Int)) a (by simp[-Int.natCast_ediv,go_sem];rw[<-eO,<-q,yq _ qZ]);apply ao (gQ ((U - m1:Nat):Int)) a (by simp[go_sem];rw[RE];omega);rw[q];have M:Z / 4294967296<4294967296:=qZ;have F:Z%4294967296<4294967296:=qZ;rw[h]at t;refine cT.at (λst W=>∃x,st=(gQ ((Ae b k U (Z / 4294967296):Nat):Int),x,())/\W=a) ?_ ?_
 ·exact ae5 (J:=λst W=>∃x,st=(gQ ((Ae b k U (Z / 4294967296):Nat):Int),x,())/\W=a) e.1 e.2 qZ M t λx=>⟨x,rfl,rfl⟩
 rintro _ W ⟨x,rfl,rfl⟩;refine kR ?_;intro _;obtain⟨f,d1,d2⟩:=Lo (u:=Z / 4294967296) t;have dl:=LD M t;obtain⟨N,hq1⟩:=di (Ae b k U (Z / 4294967296));rw[<-hq1]at d1 dl|-;rw[<-h]at d1 d2;obtain⟨a1,l⟩:=di (N*Y);rw[<-l]at d1;apply ao (gQ ((U*4294967296%18446744073709551616:Nat):Int)) W (by simp[go_sem];rw[IntKind.wrap_u64]);apply ao (gQ (((U*4294967296+Z / 4294967296)%18446744073709551616:Nat):Int)) W (by simp[go_sem];rw[IntKind.wrap_u64];omega);apply ao (gQ ((a1%18446744073709551616:Nat):Int)) W (by simp[go_sem];rw[<-eO,<-l,IntKind.wrap_u64]);apply ao (gQ (f:Int)) W (by simp[go_sem];rw[IntKind.wrap_u64];omega);have B:f / b<18446744073709551616:=fk (lU _ _) qZ;have T:=jH f b;apply ao (gQ ((f / b:Nat):Int)) W (by simp[go_sem,j];rw[<-kQ,yq _ B]);obtain⟨m2,o⟩:=di (f / b*b);rw[<-o]at T;apply ao (gQ (m2:Int)) W (by simp[-Int.natCast_ediv,go_sem];rw[<-eO,<-o,yq _ qZ]);apply ao (gQ ((f - m2:Nat):Int)) W (by simp[go_sem];rw[RE];omega);rw[o];rw[h]at d2;refine cT.at (λst a=>∃x,st=(gQ ((Ae b k f (Z%4294967296):Nat):Int),x,())/\a=W) ?_ ?_
 ·exact ab9 (J:=λst a=>∃x,st=(gQ ((Ae b k f (Z%4294967296):Nat):Int),x,())/\a=W) e.1 e.2 qZ F d2 λx=>⟨x,rfl,rfl⟩
 rintro _ W ⟨x,rfl,rfl⟩;refine kR ?_;intro _;obtain⟨R,P,f2⟩:=Lo (u:=Z%4294967296) d2;have Q:=LD F d2;obtain⟨q0,V⟩:=di (Ae b k f (Z%4294967296));rw[<-V]at P Q|-;rw[<-h]at P f2;obtain⟨a0,r⟩:=di (q0*Y);rw[<-r]at P;apply ao (gQ ((N*4294967296:Nat):Int)) W (by simp[go_sem];rw[RE]);apply ao (gQ ((N*4294967296+q0:Nat):Int)) W (by simp[go_sem];rw[RE]);apply ao (gQ ((f*4294967296%18446744073709551616:Nat):Int)) W (by simp[go_sem];rw[IntKind.wrap_u64]);apply ao (gQ (((f*4294967296+Z%4294967296)%18446744073709551616:Nat):Int)) W (by simp[go_sem];rw[IntKind.wrap_u64];omega);apply ao (gQ ((a0%18446744073709551616:Nat):Int)) W (by simp[go_sem];rw[<-eO,<-r,IntKind.wrap_u64]);apply ao (gQ (R:Int)) W (by simp[go_sem];rw[IntKind.wrap_u64];omega);apply ao (gQ ((R / p:Nat):Int)) W (by simp[go_sem,c];rw[g])
 have I:(hi*18446744073709551616+lo)*p=(N*4294967296+q0)*(y*p)+R:=by
  rw[S,<-D,ej,<-r];have:N*4294967296*Y=a1*4294967296:=by rw[l,Nat.mul_right_comm]
  rw[this];exact ZR d1 P
 obtain⟨g1,g2⟩:=WT hpp I (by rw[<-D];exact f2);have C:=hK W rZ;rw[g1,g2]at C;exact C
end Go.Proofs
namespace Go.Srt
open Go.Vc Go.Proofs
section
variable{α:Type}(lt:α->α->Bool)
def swp(l:List α)(i j:Nat):List α:=match l[i]?,l[j]? with|some x,some y=>(l.set i y).set j x|_,_=>l
def ltAt(l:List α)(i j:Nat):Bool:=match l[i]?,l[j]? with|some x,some y=>lt x y|_,_=>false
def swp_eq{l:List α}{i j:Nat}(hi:i<l.length)(a:j<l.length):swp l i j=(l.set i l[j]).set j l[i]:=by
 unfold swp;rw[av hi,av a]
def ltAt_eq{l:List α}{i j:Nat}(hi:i<l.length)(a:j<l.length):ltAt lt l i j=lt l[i] l[j]:=by
 unfold ltAt;rw[av hi,av a]
def swp_perm(l:List α)(i j:Nat):(swp l i j).Perm l:=by
 by_cases b:i<l.length
 ·by_cases a:j<l.length
  ·rw[swp_eq b a];have h:=Array.swap_perm (xs:=l.toArray) (i:=i) (j:=j) (by simpa using b) (by simpa using a);have c:=Array.perm_iff_toList_perm.1 h;simpa [Array.swap_def]using c
  ·unfold swp;rw[gy (kS a)];split<;>simp_all
 ·unfold swp;rw[gy (kS b)]
def insIn(a:Nat):Nat->List α->List α
 |0,l=>l
 |j+1,l=>if a<j+1/\ltAt lt l (j+1) j=true then insIn a j (swp l (j+1) j)else l
def insFrom(a:Nat):Nat->Nat->List α->List α
 |_,0,l=>l
 |i,k+1,l=>insFrom a (i+1) k (insIn lt a i l)
def insSort(a b:Nat)(l:List α):List α:=insFrom lt a (a+1) (b - (a+1)) l
def bsG(p:Nat->Bool)(i j:Nat):Nat:=if i<j then(if p ((i+j) / 2)=true then bsG p ((i+j) / 2+1) j else bsG p i ((i+j) / 2))else i
 termination_by j - i
 decreasing_by all_goals omega
def mvUp(l:List α)(k e:Nat):List α:=if k<e then mvUp (swp l k (k+1)) (k+1) e else l
 termination_by e - k
def mvDn(l:List α)(k i:Nat):List α:=if i<k then mvDn (swp l k (k - 1)) (k - 1) i else l
 termination_by k - i
def swR(l:List α)(a b i n:Nat):List α:=if i<n then swR (swp l (a+i) (b+i)) a b (i+1) n else l
 termination_by n - i
def rot(m:Nat)(l:List α)(i j:Nat):List α:=
 if i≠j/\0<i/\0<j then(if j<i then rot m (swR l (m - i) m 0 j) (i - j) j else rot m (swR l (m - i) (m+j - i) 0 i) i (j - i))else swR l (m - i) m 0 i
 termination_by i+j
 decreasing_by all_goals omega
def stOf(l:List α)(a m b:Nat):Nat:=
 if(a+b) / 2<m then bsG (λc=> !ltAt lt l ((a+b) / 2+m - 1 - c) c) ((a+b) / 2+m - b) ((a+b) / 2)else bsG (λc=> !ltAt lt l ((a+b) / 2+m - 1 - c) c) a m
def symM(a m b:Nat)(l:List α):List α:=
 if m - a=1 then mvUp l a (bsG (λh=>ltAt lt l h a) m b - 1)
 else if b - m=1 then mvDn l m (bsG (λh=> !ltAt lt l m h) a m)
 else
  let st:=stOf lt l a m b;let en:=(a+b) / 2+m - st;let l1:=if st<m/\m<en then rot m l (m - st) (en - m)else l
  let l2:=if h:a<st/\st<(a+b) / 2 then symM a st ((a+b) / 2) l1 else l1
  if h:(a+b) / 2<en/\en<b/\a<(a+b) / 2 then symM ((a+b) / 2) en b l2 else l2
 termination_by b - a
 decreasing_by all_goals omega
def blk(n:Nat)(a b:Nat)(l:List α):List α:=if b<=n then blk n b (b+20) (insSort lt a b l)else insSort lt a n l
 termination_by n+1 - b
def mrgPass(bs n a b:Nat)(l:List α):List α:=
 if b<=n/\0<bs then mrgPass bs n b (b+2*bs) (symM lt a (a+bs) b l)else if a+bs<n then symM lt a (a+bs) n l else l
 termination_by n+1 - b
 decreasing_by all_goals omega
def mrg(n bs:Nat)(l:List α):List α:=if bs<n/\0<bs then mrg n (bs*2) (mrgPass lt bs n 0 (2*bs) l)else l
 termination_by n - bs
 decreasing_by all_goals omega
def stable(l:List α):List α:=mrg lt l.length 20 (blk lt l.length 0 20 l)
def insIn_perm(a:Nat):∀(j:Nat) (l:List α),(insIn lt a j l).Perm l
 |0,l=>cS _
 |j+1,l=>by
  unfold insIn;split
  ·exact(insIn_perm a j _).trans (swp_perm _ _ _)
  ·exact cS _
def insFrom_perm(a:Nat):∀(k i:Nat) (l:List α),(insFrom lt a i k l).Perm l
 |0,i,l=>cS _
 |k+1,i,l=>(insFrom_perm a k (i+1) _).trans (insIn_perm lt a i l)
def mvUp_perm(l:List α)(k e:Nat):(mvUp l k e).Perm l:=by
 rw[mvUp];split
 ·exact(mvUp_perm _ _ _).trans (swp_perm _ _ _)
 ·exact cS _
 termination_by e - k
def mvDn_perm(l:List α)(k i:Nat):(mvDn l k i).Perm l:=by
 rw[mvDn];split
 ·exact(mvDn_perm _ _ _).trans (swp_perm _ _ _)
 ·exact cS _
 termination_by k - i
def swR_perm(l:List α)(a b i n:Nat):(swR l a b i n).Perm l:=by
 rw[swR];split
 ·exact(swR_perm _ _ _ _ _).trans (swp_perm _ _ _)
 ·exact cS _
 termination_by n - i
def rot_perm(m:Nat)(l:List α)(i j:Nat):(rot m l i j).Perm l:=by
 rw[rot];split
 ·split
  ·exact(rot_perm _ _ _ _).trans (swR_perm _ _ _ _ _)
  ·exact(rot_perm _ _ _ _).trans (swR_perm _ _ _ _ _)
 ·exact swR_perm _ _ _ _ _
 termination_by i+j
 decreasing_by all_goals omega
def symM_perm(a m b:Nat)(l:List α):(symM lt a m b l).Perm l:=by
 rw[symM];split
 ·exact mvUp_perm _ _ _
 split
 ·exact mvDn_perm _ _ _
 have h1:(if stOf lt l a m b<m/\m<(a+b) / 2+m - stOf lt l a m b then rot m l (m - stOf lt l a m b) ((a+b) / 2+m - stOf lt l a m b - m)else l).Perm l:=by
  split
  ·exact rot_perm _ _ _ _
  ·exact cS _
 simp only;generalize(if stOf lt l a m b<m/\m<(a+b) / 2+m - stOf lt l a m b then rot m l (m - stOf lt l a m b) ((a+b) / 2+m - stOf lt l a m b - m)else l)=c at h1|-
 have d:(if h:a<stOf lt l a m b/\stOf lt l a m b<(a+b) / 2 then symM lt a (stOf lt l a m b) ((a+b) / 2) c else c).Perm l:=by
  split
  ·exact(symM_perm _ _ _ _).trans h1
  ·exact h1
 generalize(if h:a<stOf lt l a m b/\stOf lt l a m b<(a+b) / 2 then symM lt a (stOf lt l a m b) ((a+b) / 2) c else c)=e at d|-;split
 ·exact(symM_perm _ _ _ _).trans d
 ·exact d
 termination_by b - a
 decreasing_by all_goals omega
def blk_perm(n a b:Nat)(l:List α):(blk lt n a b l).Perm l:=by
 rw[blk];split
 ·exact(blk_perm _ _ _ _).trans (insFrom_perm _ _ _ _ _)
 ·exact insFrom_perm _ _ _ _ _
 termination_by n+1 - b
def mrgPass_perm(c n a b:Nat)(l:List α):(mrgPass lt c n a b l).Perm l:=by
 rw[mrgPass];split
 ·exact(mrgPass_perm _ _ _ _ _).trans (symM_perm _ _ _ _ _)
 ·split
  ·exact symM_perm _ _ _ _ _
  ·exact cS _
 termination_by n+1 - b
 decreasing_by all_goals omega
def mrg_perm(n a:Nat)(l:List α):(mrg lt n a l).Perm l:=by
 rw[mrg];split
 ·exact(mrg_perm _ _ _).trans (mrgPass_perm _ _ _ _ _ _)
 ·exact cS _
 termination_by n - a
 decreasing_by all_goals omega
def stable_perm(l:List α):(stable lt l).Perm l:=(mrg_perm _ _ _ _).trans (blk_perm _ _ _ _ _)
def bsG_go{p:Nat->Bool}{i j:Nat}(h:i<j):bsG p i j=if p ((i+j) / 2)=true then bsG p ((i+j) / 2+1) j else bsG p i ((i+j) / 2):=by
 conv=>lhs;rw[bsG]
 rw[ae h]
def bsG_end{p:Nat->Bool}{i j:Nat}(h:¬i<j):bsG p i j=i:=by
 rw[bsG,aa h]
end
end Go.Srt
namespace Go.Proofs
open Go Go.Vc Go.Srt
attribute [local congr] bj
variable {l:List Int}{sl:Vt_}
def LU:Tryz.prog.underlying 23=some (.slice 3):=cV
def ac4:Tryz.prog.cellsOf 3=0+1:=cV
def YU:fY pQ 3 1 8=true:=cV
abbrev GS(w:Wt_)(sl:Vt_)(l:List Int):Prop:=ic w 3 1 sl l.length (l.flatMap t8)
def CH(l:List Int):l.flatMap t8=l.map λx=>gI x:=by
 induction l with
 |nil=>rfl
 |cons x l a=>rw[bm,a];rfl
def GS.el{w:Wt_}(h:GS w sl l){i:Nat}(hi:i<l.length):
  ∃p,(∀W,(iX 23 sl (gI (i:Int))).run pQ W=.ok p W)/\∀(W:Wt_) (c:List Int),GS W sl c->∀d:i<c.length,
   (iL 3 p).run pQ W=.ok (gI c[i]) W/\∀x:Int,∃j,(iS 3 p (gI x)).run pQ W=.ok () j/\GS j sl (c.set i x)/\aR (aF sl) W j:=by
 obtain⟨b,e,rest,rfl,y,u,v⟩:=h.pos qZ;refine⟨.pointer (some ⟨b,i,none⟩),λW=>by simp[go_sem,hi,bK,LU,Program.elem,Go.Vc.lI ac4],λW c r d=>?_⟩;obtain⟨q,g,a,t,s,f,o,k⟩:=r.pos qZ;obtain⟨rfl,n,rfl⟩:b=q/\l.length=c.length/\e=g:=by simpa using t
 have m:(c.flatMap t8++a)[i]? =some (gI c[i]):=by
  rw[CH,cg (by simpa using d),cz,av d];rfl
 refine⟨by simp[go_sem,bT f,m],λx=>⟨W.setCell ⟨b,i,none⟩ (gI x),by simp[go_sem,bT f,m],⟨by rw[uB oY,bN],.inr ⟨b,e,a,by grind,by grind,?_,by grind,k⟩⟩,(aR.refl _ W).setCell (.inl (show aF (.slice (some ⟨b,0,none⟩) l.length e) b from rfl)) _ _⟩⟩;rw[kE,ae rfl,f,jJ,ek,dX _ _ (by rw[uB oY];omega),CH,CH,gF]
def Vl(w0:Wt_)(sl:Vt_)(fv:Vt_)(cf:Int->Int->Int)(l0:List Int):Prop:=
 ∃g cp,fv=.func (.func g) #[] cp/\∀x∈l0,∀y∈l0,∀W,aR (aF sl) w0 W->∀K:aZ,(∀W',M0 W W' ->K (gI (cf x y)) W')->Ca pQ g ⟨[.int .i64 x,gI y]++cp.toList⟩ W K
structure te(w0:Wt_)(sl:Vt_)(l0:List Int)(W:Wt_)(l:List Int):Prop where
 own:GS W sl l
 pm:l.Perm l0
 md:aR (aF sl) w0 W
def te.on{w0 W b:Wt_}{l0:List Int}(h:te w0 sl l0 W l)(a:M0 W b):te w0 sl l0 b l:=⟨h.own.mod a d9,h.pm,h.md.trans (a.to)⟩
def te.swap{w0 W:Wt_}{l0:List Int}(h:te w0 sl l0 W l){i j:Nat}(hi:i<l.length)(c:j<l.length):
  ∃p q,(∀W,(iX 23 sl (gI (i:Int))).run pQ W=.ok p W)/\(∀W,(iX 23 sl (gI (j:Int))).run pQ W=.ok q W)/\
   (iL 3 p).run pQ W=.ok (gI l[i]) W/\(iL 3 q).run pQ W=.ok (gI l[j]) W/\
   ∃a b,(iS 3 p (gI l[j])).run pQ W=.ok () a/\(iS 3 q (gI l[i])).run pQ a=.ok () b/\te w0 sl l0 b (swp l i j):=by
 obtain⟨p,v,k⟩:=h.own.el hi;obtain⟨q,o,d⟩:=h.own.el c;obtain⟨s,s1⟩:=k W l h.own hi;obtain⟨g,-⟩:=d W l h.own c;obtain⟨a,t,r,u⟩:=s1 l[j];obtain⟨-,m⟩:=d a _ r (by grind);obtain⟨b,e,n,f⟩:=m l[i];refine⟨p,q,v,o,s,g,a,b,t,e,?_,(swp_perm l i j).trans h.pm,(h.md.trans u).trans f⟩;rw[swp_eq hi c];exact n
section
variable{w0:Wt_}{sl fv:Vt_}{cf:Int->Int->Int}{l0:List Int}
abbrev pX(cf:Int->Int->Int):Int->Int->Bool:=λx y=>decide (cf x y<0)
def KT{W:Wt_}{l:List Int}{K:aZ}{a b:Nat}(O:Vl w0 sl fv cf l0)(h:te w0 sl l0 W l)(hn:l0.length<=100000)(H:a<=b)(Z:b<=l0.length)
  (C:∀B,te w0 sl l0 B (insSort (pX cf) a b l)->K (.tuple #[]) B):Ca pQ 384 #[sl,gI (a:Int),gI (b:Int),fv] W K:=by
 obtain⟨g,cp,rfl,A⟩:=O;refine cN Tryz.func384 ?_;refine ao (gI ((a+1:Nat):Int)) W (by simp[go_sem];rw[ew qZ qZ]) ?_
 refine d8 (λst W=>∃(i k:Nat) (t:List Int),st=(gI i,())/\te w0 sl l0 W t/\insFrom (pX cf) a i k t=insSort (pX cf) a b l/\a<i/\k=b - i)
  (λst _=>match st.1 with| .int _ i=>b - i.toNat|_=>0) ⟨a+1,b - (a+1),l,rfl,h,rfl,qZ,rfl⟩ ?_
 rintro⟨_,_⟩ W ⟨i,k,t,⟨⟩,F,D,V,hk⟩ X x;refine lV ?_;intro _;by_cases M:i<b
 ·have n:(i:Int)<(b:Int):=qZ;refine dY n ?_;obtain⟨k,rfl⟩:∃P,k=P+1:=⟨k - 1,qZ⟩
  refine d8 (λst W=>∃(j:Nat) (m:List Int),st=(gI j,())/\te w0 sl l0 W m/\insIn (pX cf) a j m=insIn (pX cf) a i t/\j<=i)
   (λst _=>match st.1 with| .int _ j=>j.toNat|_=>0) ⟨i,t,rfl,F,rfl,aD _⟩ ?_
  rintro⟨_,_⟩ W ⟨j,m,⟨⟩,c,E,N⟩ KM w;have J:=c.pm.length_eq;refine lV ?_;intro _;refine cT.at (λst W=>st=(.bool (decide (a<j/\ltAt (pX cf) m j (j - 1)=true)),())/\te w0 sl l0 W m) ?_ ?_
  ·by_cases s:a<j
   ·have o:(a:Int)<(j:Int):=qZ;refine JC o ?_;have d:=c.on (aR.refl _ W).drew;obtain⟨p,v,L⟩:=d.own.el (show j<m.length by omega);obtain⟨q,u,U⟩:=d.own.el (show j - 1<m.length by omega);refine cx v ?_;refine cK (L _ _ d.own qZ).1 ?_;refine du (gI ((j - 1:Nat):Int)) (λ_=>by simp[go_sem];rw[ew qZ qZ];omega) ?_;refine cx u ?_;refine cK (U _ _ d.own qZ).1 ?_;simp only[eX];refine A _ (c.pm.mem_iff.1 (aq _)) _ (c.pm.mem_iff.1 (aq _)) _ d.md _ λB S=>?_;refine sB ?_;refine⟨?_,d.on S⟩
    have e:decide (a<j/\ltAt (pX cf) m j (j - 1)=true)=decide (cf m[j] m[j - 1]<0):=by
     rw[ltAt_eq _ qZ qZ];simp[s]
    rw[e]
   ·have o:¬(a:Int)<(j:Int):=qZ;refine Kf o ?_;exact⟨by simp[s],c.on (aR.refl _ W).drew⟩
  rintro _ W ⟨rfl,c⟩;refine kR ?_;intro _;by_cases f:a<j/\ltAt (pX cf) m j (j - 1)=true
  ·rw[oB f];have r:j - 1+1=j:=qZ;have d:=c.on (aR.refl _ W).drew;obtain⟨p,q,v,u,Q,I,W1,T,R,G,z⟩:=d.swap (i:=j) (j:=j - 1) qZ qZ;refine du (gI ((j - 1:Nat):Int)) (λ_=>by simp[go_sem];rw[ew qZ qZ];omega) ?_;refine du (gI ((j - 1:Nat):Int)) (λ_=>by simp[go_sem];rw[ew qZ qZ];omega) ?_;refine cx u (cK I (cx v (cK Q (cx v (iE R (cx u (iE G ?_)))))));refine ao (gI ((j - 1:Nat):Int)) T (by simp[go_sem];rw[ew qZ qZ];omega) ?_;refine w _ _ ⟨j - 1,swp m j (j - 1),rfl,z,?_,qZ⟩ (by grind);rw[<-E]
   conv=>rhs;rw[<-r]
   rw[insIn,r,ae f]
  ·rw[ay,aa (by grind)];refine ao (gI ((i+1:Nat):Int)) W (by simp[go_sem];rw[ew qZ qZ]) ?_;refine x _ _ ⟨i+1,k,m,rfl,c,?_,qZ,qZ⟩ (by grind);rw[<-D,insFrom,<-E];congr 1;cases j with
   |zero=>rfl
   |succ Y=>
    rw[jT]at f;rw[insIn,aa f]
 ·have n:¬(i:Int)<(b:Int):=qZ;refine fF n ?_;have y:k=0:=qZ;subst y;rw[<-D]at C;exact C _ F
def Fj{W:Wt_}{l:List Int}{K:aZ}{a b n:Nat}(h:te w0 sl l0 W l)(H:l0.length<=100000)(I:a+n<=l0.length)(F:b+n<=l0.length)
  (o:∀w,te w0 sl l0 w (swR l a b 0 n)->K (.tuple #[]) w):Ca pQ 390 #[sl,gI (a:Int),gI (b:Int),gI (n:Int),fv] W K:=by
 refine cN Tryz.func390 ?_
 refine d8 (λst W=>∃(i:Nat) (e:List Int),st=(gI i,())/\te w0 sl l0 W e/\swR e a b i n=swR l a b 0 n/\i<=n)
  (λst _=>match st.1 with| .int _ i=>n - i.toNat|_=>0) ⟨0,l,rfl,h,rfl,qZ⟩ ?_
 rintro⟨_,_⟩ W ⟨i,e,⟨⟩,m,t,B⟩ E f;refine lV ?_;intro _;have C:=m.pm.length_eq;by_cases d:i<n
 ·have c:(i:Int)<(n:Int):=qZ;refine dY c ?_;have g:=m.on (aR.refl _ W).drew;obtain⟨p,q,u,r,z,y,G,D,A,x,k⟩:=g.swap (i:=a+i) (j:=b+i) qZ qZ;have v:∀W,(io .add 3 false (gI (a:Int)) (gI (i:Int))).run pQ W=.ok (gI ((a+i:Nat):Int)) W:=λ_=>by simp[go_sem];rw[ew qZ qZ]
  have s:∀W,(io .add 3 false (gI (b:Int)) (gI (i:Int))).run pQ W=.ok (gI ((b+i:Nat):Int)) W:=λ_=>by simp[go_sem];rw[ew qZ qZ]
  refine cx v (cx s (cx s (cx r (cK y (cx v (cx u (cK z (cx u (iE A (cx r (iE x ?_)))))))))));refine ao (gI ((i+1:Nat):Int)) D (by simp[go_sem];rw[ew qZ qZ]) ?_;refine f _ _ ⟨i+1,_,rfl,k,?_,qZ⟩ (by grind);rw[<-t]
  conv=>rhs;rw[swR]
  rw[ae d]
 ·have c:¬(i:Int)<(n:Int):=qZ;refine fF c ?_;have:swR e a b i n=e:=by rw[swR,aa d]
  rw[<-t,this]at o;exact o _ m
def Us{W:Wt_}{l:List Int}{K:aZ}{a m b:Nat}(h:te w0 sl l0 W l)(t:l0.length<=100000)(z:a<m)(A:m<b)(D:b<=l0.length)
  (w:∀f,te w0 sl l0 f (rot m l (m - a) (b - m))->K (.tuple #[]) f):Ca pQ 388 #[sl,gI (a:Int),gI (m:Int),gI (b:Int),fv] W K:=by
 refine cN Tryz.func388 ?_;have sub:∀{x y:Nat} (W:Wt_),y<=x->x<=100000->(io .sub 3 false (gI (x:Int)) (gI (y:Int))).run pQ W=.ok (gI ((x - y:Nat):Int)) W:=λW h1 C=>by simp[go_sem];rw[ew qZ qZ];omega
 refine bo (sub W qZ qZ) (bo (sub W qZ qZ) ?_)
 refine d8 (λst W=>∃(i j:Nat) (o:List Int),st=(gI i,gI j,())/\te w0 sl l0 W o/\rot m o i j=rot m l (m - a) (b - m)/\0<i/\0<j/\i<=m/\m+j<=l0.length)
  (λst _=>match st.1,st.2.1 with| .int _ i,.int _ j=>i.toNat+j.toNat|_,_=>0) ⟨m - a,b - m,l,rfl,h,rfl,qZ,qZ,qZ,qZ⟩ ?_
 rintro⟨_,_,_⟩ W ⟨i,j,o,⟨⟩,v,r,s,u,q,p⟩ B k;refine lV ?_;intro _;by_cases e:i=j
 ·subst e;refine eU ?_;refine bo (sub W qZ qZ) ?_;refine Fj v t qZ qZ λf d=>?_;have:rot m o i i=swR o (m - i) m 0 i:=by rw[rot,aa (by simp)]
  rw[<-r,this]at w;exact w _ d
 ·have n:¬(i:Int)=(j:Int):=qZ;refine ao (.bool true) W (by simp only[go_sem];simp;exact n) ?_;rw[kJ];by_cases g:j<i
  ·have c:(j:Int)<(i:Int):=qZ;refine dY c ?_;refine bo (sub W qZ qZ) ?_;refine Fj v t qZ qZ λf d=>?_;refine bo (sub f qZ qZ) ?_;refine k _ _ ⟨i - j,j,_,rfl,d,?_,qZ,u,qZ,p⟩ (by grind);rw[<-r]
   conv=>rhs;rw[rot]
   rw[ae ⟨e,s,u⟩,ae g]
  ·have c:¬(j:Int)<(i:Int):=qZ;refine fF c ?_;refine bo (sub W qZ qZ) ?_;refine ao (gI ((m+j:Nat):Int)) W (by simp[go_sem];rw[ew qZ qZ]) ?_;refine bo (sub W qZ qZ) ?_;refine Fj v t qZ qZ λf d=>?_;refine bo (sub f qZ qZ) ?_;refine k _ _ ⟨i,j - i,_,rfl,d,?_,s,qZ,q,qZ⟩ (by grind);rw[<-r]
   conv=>rhs;rw[rot]
   rw[ae ⟨e,s,u⟩,aa g]
end
end Go.Proofs
namespace Go.Proofs
open Go Go.Vc Go.Srt
attribute [local congr] bj
section
variable{w0:Wt_}{sl fv:Vt_}{cf:Int->Int->Int}{l0:List Int}
def wg{x y:Nat}(W:Wt_)(h1:y<=x)(a:x<=1000000)(b:Bool):(io .sub 3 b (gI (x:Int)) (gI (y:Int))).run pQ W=.ok (gI ((x - y:Nat):Int)) W:=by
 simp[go_sem];rw[ew qZ qZ];omega
def qI{x y:Nat}(W:Wt_)(a:x+y<=10000000)(b:Bool):(io .add 3 b (gI (x:Int)) (gI (y:Int))).run pQ W=.ok (gI ((x+y:Nat):Int)) W:=by
 simp[go_sem];rw[ew qZ qZ]
def rq{x y:Nat}(W:Wt_)(b:Bool):(io .lss 3 b (gI (x:Int)) (gI (y:Int))).run pQ W=.ok (.bool (decide (x<y))) W:=by
 simp[go_sem]
def LR{x:Nat}(W:Wt_):(io .eql 3 true (gI (x:Int)) (gI 1)).run pQ W=.ok (.bool (decide (x=1))) W:=by
 by_cases h:x=1
 ·subst h;simp[go_sem]
 ·have a:¬(x:Int)=1:=qZ;simp[go_sem,h,a]
def zw{i j:Nat}(h:i<j)(a:j<=1000000)(w:Wt_):∃x,(convert 3 263 (gI ((i+j:Nat):Int))).run pQ w=.ok x w/\∃y,(io .shr 263 true x (gQ 1)).run pQ w=.ok y w/\(convert 263 3 y).run pQ w=.ok (gI (((i+j) / 2:Nat):Int)) w:=by
 have:=VO h a w
 rwa[<-jM]at this
def te.cmp{g:FuncId}{f:Array Value}{W:Wt_}{l:List Int}{K:aZ}{i j:Nat}(e:∀x∈l0,∀y∈l0,∀W,aR (aF sl) w0 W->∀K:aZ,(∀b,M0 W b->K (gI (cf x y)) b)->Ca pQ g ⟨[.int .i64 x,gI y]++f.toList⟩ W K)(d:te w0 sl l0 W l)(hi:i<l.length)(c:j<l.length)
  (k:∀b,te w0 sl l0 b l->K (.bool (ltAt (pX cf) l i j)) b):
  ∃p q,(∀W,(iX 23 sl (gI (i:Int))).run pQ W=.ok p W)/\(∀W,(iX 23 sl (gI (j:Int))).run pQ W=.ok q W)/\
   (iL 3 p).run pQ W.drew=.ok (gI l[i]) W.drew/\(iL 3 q).run pQ W.drew=.ok (gI l[j]) W.drew/\
   lA pQ (.func (.func g) #[] f) [.int .i64 l[i],gI l[j]] W.drew λv w=>jC pQ (io .lss 3 true v (gI 0)) λn=>K n w:=by
 have a:=d.on (aR.refl _ W).drew;obtain⟨p,s,h⟩:=a.own.el hi;obtain⟨q,m,r⟩:=a.own.el c;refine⟨p,q,s,m,(h _ _ a.own hi).1,(r _ _ a.own c).1,?_⟩;simp only[eX];refine e _ (d.pm.mem_iff.1 (aq _)) _ (d.pm.mem_iff.1 (aq _)) _ a.md _ λb o=>?_;refine sB ?_;have:=k _ (a.on o)
 rwa[ltAt_eq _ hi c]at this
def Xk{W:Wt_}{l:List Int}{K:aZ}{a i:Nat}{y:Vt_}(h:te w0 sl l0 W l)(E:l0.length<=100000)(hi:1<=i)(A:i<=l0.length)
  (n:∀t,te w0 sl l0 t (mvUp l a (i - 1))->K (.tuple #[]) t):oJ (S:=Value×Unit) (QO (gI (i:Int),y,()) sl K) (gI (a:Int),()) W:=by
 refine d8 (λst W=>∃(k:Nat) (c:List Int),st=(gI k,())/\te w0 sl l0 W c/\mvUp c k (i - 1)=mvUp l a (i - 1))
  (λst _=>match st.1 with| .int _ k=>i - k.toNat|_=>0) ⟨a,l,rfl,h,rfl⟩ ?_
 rintro⟨_,_⟩ W ⟨k,c,⟨⟩,g,r⟩ B d;unfold QO;intro _;have z:=g.pm.length_eq;refine bo (wg (y:=1) W hi qZ true) (bo (rq W false) ?_);by_cases b:k<i - 1
 ·rw[oB b];have e:=g.on (aR.refl _ W).drew;obtain⟨p,q,s,o,w,v,C,D,x,u,f⟩:=e.swap (i:=k) (j:=k+1) qZ qZ;have m:∀W,(io .add 3 true (gI (k:Int)) (gI 1)).run pQ W=.ok (gI ((k+1:Nat):Int)) W:=λW=>qI (y:=1) W qZ true;refine cx m (cx m (cx o (cK v (cx s (cK w (cx s (iE x (cx o (iE u (bo (m _) ?_))))))))));refine d _ _ ⟨k+1,_,rfl,f,?_⟩ (by grind);rw[<-r]
  conv=>rhs;rw[mvUp]
  rw[ae b]
 ·rw[ay,aa (by grind)];have:mvUp c k (i - 1)=c:=by rw[mvUp,aa b]
  rw[<-r,this]at n;exact n _ g
def XN{W:Wt_}{l:List Int}{K:aZ}{m i:Nat}{y:Vt_}(h:te w0 sl l0 W l)(E:l0.length<=100000)(F:m<l0.length)
  (n:∀t,te w0 sl l0 t (mvDn l m i)->K (.tuple #[]) t):oJ (S:=Value×Unit) (SO (gI (i:Int),y,()) sl K) (gI (m:Int),()) W:=by
 refine d8 (λst W=>∃(k:Nat) (b:List Int),st=(gI k,())/\te w0 sl l0 W b/\mvDn b k i=mvDn l m i/\k<=m)
  (λst _=>match st.1 with| .int _ k=>k.toNat|_=>0) ⟨m,l,rfl,h,rfl,aD _⟩ ?_
 rintro⟨_,_⟩ W ⟨k,b,⟨⟩,f,r,v⟩ B c;unfold SO;intro _;have A:=f.pm.length_eq;refine dI ?_;by_cases a:i<k
 ·rw[oB a];have d:=f.on (aR.refl _ W).drew;obtain⟨p,q,s,o,x,w,C,D,z,u,e⟩:=d.swap (i:=k) (j:=k - 1) qZ qZ;have g:∀W,(io .sub 3 true (gI (k:Int)) (gI 1)).run pQ W=.ok (gI ((k - 1:Nat):Int)) W:=λW=>wg (y:=1) W qZ qZ true;refine cx g (cx g (cx o (cK w (cx s (cK x (cx s (iE z (cx o (iE u (bo (g _) ?_))))))))));refine c _ _ ⟨k - 1,_,rfl,e,?_,qZ⟩ (by grind);rw[<-r]
  conv=>rhs;rw[mvDn]
  rw[ae a]
 ·rw[ay,aa (by grind)];have:mvDn b k i=b:=by rw[mvDn,aa a]
  rw[<-r,this]at n;exact n _ f
def KO(hc:Vl w0 sl fv cf l0)(hn:l0.length<=100000):∀(d:Nat) {W:Wt_} {l:List Int} {K:aZ} {a m b:Nat},b - a<=d->te w0 sl l0 W l->a<m->m<b->b<=l0.length->
  (∀r,te w0 sl l0 r (symM (pX cf) a m b l)->K (.tuple #[]) r)->Ca pQ 385 #[sl,gI (a:Int),gI (m:Int),gI (b:Int),fv] W K:=by
 obtain⟨g,cp,rfl,X⟩:=hc;intro d;induction d with
 |zero=>intro W l K a m b h1 _ R Y;omega
 |succ d ih=>
 intro W l K a m b hd h ham hmb hb v;have hl:=h.pm.length_eq;refine cN Tryz.func385 ?_;refine bo (wg W qZ qZ false) ?_;refine bo (LR W) ?_;by_cases M:m - a=1
 ·rw[oB M];have s:symM (pX cf) a m b l=mvUp l a (bsG (λh=>ltAt (pX cf) l h a) m b - 1):=by rw[symM,ae M]
  rw[s]at v
  refine d8 (λst W=>∃i j:Nat,st=(gI i,gI j,())/\te w0 sl l0 W l/\bsG (λh=>ltAt (pX cf) l h a) i j=bsG (λh=>ltAt (pX cf) l h a) m b/\m<=i/\i<=j/\j<=b)
   (λst _=>match st.1,st.2.1 with| .int _ i,.int _ j=>j.toNat - i.toNat|_,_=>0) ⟨m,b,rfl,h,rfl,qZ,qZ,qZ⟩ ?_
  rintro⟨_,_,_⟩ W ⟨i,j,⟨⟩,N,n,h1,R,Y⟩ O t;refine lV ?_;intro _;refine bo (rq W false) ?_;by_cases k:i<j
  ·rw[oB k];refine bo (qI W qZ false) ?_;obtain⟨x,P,y,T,V⟩:=zw k qZ W;refine bo P (bo T (bo V ?_));rw[bsG_go k]at n;obtain⟨o,J⟩:=di ((i+j) / 2);rw[<-J]at n|-
   obtain⟨p,q,c1,c2,c3,c4,c5⟩:=te.cmp (i:=o) (j:=a) (K:=λv2 w=>sx v2 (rv pQ (io .add 3 true (gI (o:Int)) (gI 1)) w λE H=>O (E,gI (j:Int),()) H) (O (gI (i:Int),gI (o:Int),()) w)) X N qZ qZ (by
    intro r z;cases u:ltAt (pX cf) l o a with
    |true=>
     rw[kJ];rw[ae u]at n;refine bo (qI (y:=1) r qZ true) ?_;exact t _ _ ⟨o+1,j,rfl,z,n,qZ,qZ,Y⟩ (by grind)
    |false=>
     rw[jO];rw[aa (by rw[u];simp)]at n;exact t _ _ ⟨i,o,rfl,z,n,h1,qZ,qZ⟩ (by grind))
   exact cx c1 (cK c3 (cx c2 (cK c4 c5)))
  ·rw[ay,aa (by grind)];rw[bsG_end k]at n;rw[<-n]at v;exact Xk N hn qZ qZ v
 rw[ay,aa (by grind)];refine bo (wg W qZ qZ false) ?_;refine bo (LR W) ?_;by_cases U:b - m=1
 ·rw[oB U];have s:symM (pX cf) a m b l=mvDn l m (bsG (λh=> !ltAt (pX cf) l m h) a m):=by rw[symM,aa M,ae U]
  rw[s]at v
  refine d8 (λst W=>∃i j:Nat,st=(gI i,gI j,())/\te w0 sl l0 W l/\bsG (λh=> !ltAt (pX cf) l m h) i j=bsG (λh=> !ltAt (pX cf) l m h) a m/\a<=i/\i<=j/\j<=m)
   (λst _=>match st.1,st.2.1 with| .int _ i,.int _ j=>j.toNat - i.toNat|_,_=>0) ⟨a,m,rfl,h,rfl,qZ,qZ,qZ⟩ ?_
  rintro⟨_,_,_⟩ W ⟨i,j,⟨⟩,N,n,h1,R,Y⟩ O t;refine lV ?_;intro _;refine bo (rq W false) ?_;by_cases k:i<j
  ·rw[oB k];refine bo (qI W qZ false) ?_;obtain⟨x,P,y,T,V⟩:=zw k qZ W;refine bo P (bo T (bo V ?_));rw[bsG_go k]at n;obtain⟨o,J⟩:=di ((i+j) / 2);rw[<-J]at n|-
   obtain⟨p,q,c1,c2,c3,c4,c5⟩:=te.cmp (i:=m) (j:=o) (K:=λv2 w=>jC pQ (Op.unary .not v2) λS=>sx S (rv pQ (io .add 3 true (gI (o:Int)) (gI 1)) w λE H=>O (E,gI (j:Int),()) H) (O (gI (i:Int),gI (o:Int),()) w)) X N qZ qZ (by
    intro r z;refine sB ?_;cases u:ltAt (pX cf) l m o with
    |false=>
     rw[ay,ae (show(!false)=true from rfl)];rw[ae (by rw[u];rfl)]at n;refine bo (qI (y:=1) r qZ true) ?_;exact t _ _ ⟨o+1,j,rfl,z,n,qZ,qZ,Y⟩ (by grind)
    |true=>
     rw[ay,aa (by simp)];rw[aa (by rw[u];simp)]at n;exact t _ _ ⟨i,o,rfl,z,n,h1,qZ,qZ⟩ (by grind))
   exact cx c1 (cK c3 (cx c2 (cK c4 c5)))
  ·rw[ay,aa (by grind)];rw[bsG_end k]at n;rw[<-n]at v;exact XN N hn qZ v
 rw[ay,aa (by grind)];refine bo (qI W qZ false) ?_;obtain⟨x,P,y,T,V⟩:=zw (show a<b by omega) qZ W;refine bo P (bo T (bo V ?_))
 have s:symM (pX cf) a m b l=(let st:=stOf (pX cf) l a m b
   let C:=(a+b) / 2+m - st;let Z:=if st<m/\m<C then rot m l (m - st) (C - m)else l
   let l2:=if h:a<st/\st<(a+b) / 2 then symM (pX cf) a st ((a+b) / 2) Z else Z
   if h:(a+b) / 2<C/\C<b/\a<(a+b) / 2 then symM (pX cf) ((a+b) / 2) C b l2 else l2):=by
  conv=>lhs;rw[symM]
  rw[aa M,aa U]
 rw[s]at v;clear s;have hst:stOf (pX cf) l a m b=if(a+b) / 2<m then bsG (λc=> !ltAt (pX cf) l ((a+b) / 2+m - 1 - c) c) ((a+b) / 2+m - b) ((a+b) / 2)else bsG (λc=> !ltAt (pX cf) l ((a+b) / 2+m - 1 - c) c) a m:=rfl
 obtain⟨f,hmid⟩:=di ((a+b) / 2);rw[<-hmid]at v hst|-;have hmb1:a<f/\f<b:=qZ;refine bo (qI W qZ false) ?_;obtain⟨L,A⟩:=di (if f<m then f+m - b else a);obtain⟨r0,B⟩:=di (if f<m then f else m)
 have hst2:stOf (pX cf) l a m b=bsG (λc=> !ltAt (pX cf) l (f+m - 1 - c) c) L r0:=by
  rw[hst,A,B];by_cases D:f<m
  ·grind
  ·grind
 have Q:L<=r0/\a<=L/\r0<=m/\r0<=f/\(∀c,L<=c->c<r0->f+m - 1 - c<b/\c<f+m - 1)/\(∀c,L<=c->c<=r0->m<=f+m - c/\f+m - c<=b/\f<=f+m - c):=by
  by_cases D:f<m
  ·rw[ae D]at A B;exact⟨qZ,qZ,qZ,qZ,λc h1 R=>qZ,λc h1 R=>qZ⟩
  ·rw[aa D]at A B;exact⟨qZ,qZ,qZ,qZ,λc h1 R=>qZ,λc h1 R=>qZ⟩
 refine cT.at (λst r=>st=(gI (L:Int),gI (r0:Int),())/\r=W) ?_ ?_
 ·refine dI ?_;by_cases D:f<m
  ·rw[oB D];rw[ae D]at A B;refine bo (wg W qZ qZ false) ?_;exact⟨by rw[A,B],rfl⟩
  ·rw[ay,aa (by grind)];rw[aa D]at A B;exact⟨by rw[A,B],rfl⟩
 rintro _ W ⟨rfl,rfl⟩;refine kR ?_;intro _;refine bo (wg (y:=1) W qZ qZ true) ?_
 refine d8 (λst W=>∃i j:Nat,st=(gI j,gI i,())/\te w0 sl l0 W l/\bsG (λc=> !ltAt (pX cf) l (f+m - 1 - c) c) i j=bsG (λc=> !ltAt (pX cf) l (f+m - 1 - c) c) L r0/\L<=i/\i<=j/\j<=r0)
  (λst _=>match st.2.1,st.1 with| .int _ i,.int _ j=>j.toNat - i.toNat|_,_=>0) ⟨L,r0,rfl,h,rfl,qZ,Q.1,qZ⟩ ?_
 rintro⟨_,_,_⟩ W ⟨i,j,⟨⟩,N,n,h1,R,Y⟩ O t;refine lV ?_;intro _;refine bo (rq W false) ?_;by_cases k:i<j
 ·rw[oB k];refine bo (qI W qZ false) ?_;obtain⟨x,P,y,T,V⟩:=zw k qZ W;refine bo P (bo T (bo V ?_));rw[bsG_go k]at n;obtain⟨o,J⟩:=di ((i+j) / 2);rw[<-J]at n|-;have hhb:=Q.2.2.2.2.1 o qZ qZ;refine cx (λW=>wg W qZ qZ false) ?_
  obtain⟨p,q,c1,c2,c3,c4,c5⟩:=te.cmp (i:=f+m - 1 - o) (j:=o) (K:=λv2 w=>jC pQ (Op.unary .not v2) λS=>sx S (rv pQ (io .add 3 true (gI (o:Int)) (gI 1)) w λE H=>O (gI (j:Int),E,()) H) (O (gI (o:Int),gI (i:Int),()) w)) X N qZ qZ (by
   intro r z;refine sB ?_;cases u:ltAt (pX cf) l (f+m - 1 - o) o with
   |false=>
    rw[ay,ae (show(!false)=true from rfl)];rw[ae (by rw[u];rfl)]at n;refine bo (qI (y:=1) r qZ true) ?_;exact t _ _ ⟨o+1,j,rfl,z,n,qZ,qZ,Y⟩ (by grind)
   |true=>
    rw[ay,aa (by simp)];rw[aa (by rw[u];simp)]at n;exact t _ _ ⟨i,o,rfl,z,n,h1,qZ,qZ⟩ (by grind))
  exact cx c1 (cK c3 (cx c2 (cK c4 c5)))
 rw[ay,aa (by grind)];rw[bsG_end k,<-hst2]at n;rw[<-n]at v;simp only at v;have hib:=Q.2.2.2.2.2 i qZ qZ;refine bo (wg W qZ qZ false) ?_;obtain⟨C,hen⟩:=di (f+m - i);rw[<-hen]at v hib|-;obtain⟨Z,F⟩:=di (if i<m/\m<C then rot m l (m - i) (C - m)else l);rw[<-F]at v;refine cT.at (λ_ r=>te w0 sl l0 r Z) ?_ ?_
 ·refine cT.at (λst r=>st=(.bool (decide (i<m/\m<C)),())/\r=W) ?_ ?_
  ·refine bo (rq W false) ?_;by_cases e:i<m
   ·rw[oB e];refine bo (rq W false) ?_;exact⟨by simp[e],rfl⟩
   ·rw[ay,aa (by grind)];exact⟨by simp[e],rfl⟩
  rintro _ r ⟨rfl,rfl⟩;refine kR ?_;intro _;by_cases e:i<m/\m<C
  ·rw[oB e];rw[ae e]at F;refine Us N hn e.1 e.2 qZ λW'' G=>?_;rw[F];exact G
  ·rw[ay,aa (by grind)];rw[aa e]at F;rw[F];exact N
 rintro _ W hS1;refine kR ?_;intro _;obtain⟨l2,I⟩:=di (if h:a<i/\i<f then symM (pX cf) a i f Z else Z);rw[<-I]at v;refine cT.at (λ_ r=>te w0 sl l0 r l2) ?_ ?_
 ·refine cT.at (λst r=>st=(.bool (decide (a<i/\i<f)),())/\r=W) ?_ ?_
  ·refine bo (rq W false) ?_;by_cases e:a<i
   ·rw[oB e];refine bo (rq W false) ?_;exact⟨by simp[e],rfl⟩
   ·rw[ay,aa (by grind)];exact⟨by simp[e],rfl⟩
  rintro _ r ⟨rfl,rfl⟩;refine kR ?_;intro _;by_cases e:a<i/\i<f
  ·rw[oB e];rw[pT e]at I;refine ih qZ hS1 e.1 e.2 qZ λW'' G=>?_;rw[I];exact G
  ·rw[ay,aa (by grind)];rw[dif_neg e]at I;rw[I];exact hS1
 rintro _ W hS2;refine kR ?_;intro _;refine cT.at (λst r=>st=(.bool (decide (f<C/\C<b)),())/\r=W) ?_ ?_
 ·refine bo (rq W false) ?_;by_cases e:f<C
  ·rw[oB e];refine bo (rq W false) ?_;exact⟨by simp[e],rfl⟩
  ·rw[ay,aa (by grind)];exact⟨by simp[e],rfl⟩
 rintro _ r ⟨rfl,rfl⟩;refine kR ?_;intro _;by_cases e:f<C/\C<b
 ·rw[oB e];rw[pT ⟨e.1,e.2,hmb1.1⟩]at v;exact ih qZ hS2 e.1 e.2 hb v
 ·rw[ay,aa (by grind)];rw[dif_neg (λh=>e ⟨h.1,h.2.1⟩)]at v;exact v _ hS2
end
end Go.Proofs
namespace Go.Proofs
open Go Go.Vc Go.Srt
attribute [local congr] bj
section
variable{w0:Wt_}{sl fv:Vt_}{cf:Int->Int->Int}{l0:List Int}
def Ts{x y:Nat}(W:Wt_)(b:Bool):(io .leq 3 b (gI (x:Int)) (gI (y:Int))).run pQ W=.ok (.bool (decide (x<=y))) W:=by
 simp[go_sem]
def KU{x:Nat}(W:Wt_)(h:x<=1000000):(io .mul 3 true (gI 2) (gI (x:Int))).run pQ W=.ok (gI ((2*x:Nat):Int)) W:=by
 simp[go_sem];rw[ew qZ qZ]
def Qu{x:Nat}(W:Wt_)(h:x<=1000000):(io .mul 3 true (gI (x:Int)) (gI 2)).run pQ W=.ok (gI ((x*2:Nat):Int)) W:=by
 simp[go_sem];rw[ew qZ qZ]
def Sw(v:Vl w0 sl fv cf l0)(w:l0.length<=100000){W:Wt_}{K:aZ}(h:te w0 sl l0 W l0)
  (u:∀i,te w0 sl l0 i (Srt.stable (pX cf) l0)->K (.tuple #[]) i):Ca pQ 378 #[sl,gI (l0.length:Int),fv] W K:=by
 obtain⟨n,t⟩:=di l0.length;have B:Srt.stable (pX cf) l0=mrg (pX cf) n 20 (blk (pX cf) n 0 20 l0):=by rw[t];rfl
 rw[B]at u;rw[<-t];refine cN Tryz.func378 ?_
 refine d8 (λst W=>∃(a b:Nat) (l:List Int),st=(gI a,gI b,())/\te w0 sl l0 W l/\blk (pX cf) n a b l=blk (pX cf) n 0 20 l0/\a<=n/\b=a+20)
  (λst _=>match st.2.1 with| .int _ b=>n+20 - b.toNat|_=>0) ⟨0,20,l0,rfl,h,rfl,qZ,rfl⟩ ?_
 rintro⟨_,_,_⟩ W ⟨a,b,l,⟨⟩,k,H,q,N⟩ I j;refine lV ?_;intro _;refine bo (Ts W false) ?_;by_cases d:b<=n
 ·rw[oB d];refine KT v k w qZ qZ λi g=>?_;refine bo (qI (y:=20) i qZ true) ?_;refine j _ _ ⟨b,b+20,_,rfl,g,?_,d,rfl⟩ (by grind);rw[<-H]
  conv=>rhs;rw[blk]
  rw[ae d]
 rw[ay,aa (by grind)];refine KT v k w q qZ λW k=>?_
 have r:insSort (pX cf) a n l=blk (pX cf) n 0 20 l0:=by
  rw[<-H]
  conv=>rhs;rw[blk]
  rw[aa d]
 rw[r]at k;clear H r j I;obtain⟨F,E⟩:=di (blk (pX cf) n 0 20 l0);rw[<-E]at k u
 refine d8 (λst W=>∃(c:Nat) (x y:Vt_) (l:List Int),st=(gI c,x,y,())/\te w0 sl l0 W l/\mrg (pX cf) n c l=mrg (pX cf) n 20 F/\0<c/\c<=2*n+20)
  (λst _=>match st.1 with| .int _ b=>2*n+40 - b.toNat|_=>0) ⟨20,_,_,F,rfl,k,rfl,qZ,qZ⟩ ?_
 rintro⟨_,_,_,_⟩ W ⟨c,x,y,l,⟨⟩,k,J,p,L⟩ I j;refine lV ?_;intro _;refine bo (rq W false) ?_;by_cases m:c<n
 ·rw[oB m]
  have s:mrg (pX cf) n (c*2) (mrgPass (pX cf) c n 0 (2*c) l)=mrg (pX cf) n 20 F:=by
   rw[<-J]
   conv=>rhs;rw[mrg]
   rw[ae ⟨m,p⟩]
  refine bo (KU W qZ) ?_
  refine d8 (λst W=>∃(a b:Nat) (o:List Int),st=(gI a,gI b,())/\te w0 sl l0 W o/\mrgPass (pX cf) c n a b o=mrgPass (pX cf) c n 0 (2*c) l/\b=a+2*c/\a<=n)
   (λst _=>match st.2.1 with| .int _ b=>n+1+2*c - b.toNat|_=>0) ⟨0,2*c,l,rfl,k,rfl,qZ,qZ⟩ ?_
  rintro⟨_,_,_⟩ W ⟨a,b,o,⟨⟩,g,M,O,q⟩ P A;refine lV ?_;intro _;refine bo (Ts W false) ?_;by_cases d:b<=n
  ·rw[oB d];refine bo (qI W qZ false) ?_;refine KO v w (b - a) (aD _) g qZ qZ qZ λi f=>?_;refine bo (KU i qZ) ?_;refine bo (qI i qZ false) ?_;refine A _ _ ⟨b,b+2*c,_,rfl,f,?_,rfl,d⟩ (by grind);rw[<-M]
   conv=>rhs;rw[mrgPass]
   rw[ae ⟨d,p⟩]
  ·rw[ay,aa (by grind)];obtain⟨G,e⟩:=di (if a+c<n then symM (pX cf) a (a+c) n o else o);have C:mrgPass (pX cf) c n a b o=G:=by rw[mrgPass,aa (λh=>d h.1),e]
   rw[<-M,C]at s;refine cT.at (λ_ i=>te w0 sl l0 i G) ?_ ?_
   ·refine bo (qI W qZ false) (bo (rq W false) ?_);by_cases z:a+c<n
    ·rw[oB z];rw[ae z]at e;refine KO v w (n - a) (aD _) g qZ z qZ λi f=>?_;rw[e];exact f
    ·rw[ay,aa (by grind)];rw[aa z]at e;rw[e];exact g
   rintro _ W D;refine kR ?_;intro _;refine bo (Qu W qZ) ?_;exact j _ _ ⟨c*2,_,_,G,rfl,D,s,qZ,qZ⟩ (by grind)
 ·rw[ay,aa (by grind)];have:mrg (pX cf) n c l=l:=by rw[mrg,aa (λh=>m h.1)]
  rw[<-J,this]at u;exact u _ k
end
def QV{w:Wt_}{sl fv:Vt_}{cf:Int->Int->Int}{l:List Int}{K:aZ}(h:GS w sl l)(i:l.length<=100000)(f:Vl w sl fv cf l)
  (e:∀b,GS b sl (Srt.stable (pX cf) l)->aR (aF sl) w b->K (.tuple #[]) b):Ca pQ 357 #[sl,fv] w K:=by
 refine cN Tryz.func357 ?_;obtain⟨a,c,g,-⟩:=h.isSl;refine iI (gI (l.length:Int)) w (by rw[g];simp[go_sem]) ?_;refine Sw f i ⟨h,cS _,aR.refl _ _⟩ λj d=>?_;exact e _ d.own d.md
end Go.Proofs
