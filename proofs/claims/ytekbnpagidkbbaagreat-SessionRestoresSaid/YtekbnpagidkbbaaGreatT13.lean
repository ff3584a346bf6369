/- Part of a proof. -/
import Derived.Test.YtekbnpagidkbbaaGreatT12
set_option linter.all false
set_option maxRecDepth 100000
set_option maxHeartbeats 4000000
namespace Go.Proofs
open Go Go.Vc Go.Shelf
attribute [local congr] bj
def Z5(s:Nat):((2:Int) ^ s)=((2 ^ s:Nat):Int):=by grind
def ak9{B U Z c f b a d R:Nat}(g:U*B+c=b+d)(h:d*B+f=a+R)(i:c*B+f=Z):U*(B*B)+Z=b*B+a+R:=by
 have e:=dP (·*B) g;simp only[dY]at e;rw[<-gF];omega
def ab9{U Z b a c R:Nat}(e:U*4294967296+Z / 4294967296=b+c)(d:c*4294967296+Z%4294967296=a+R):U*18446744073709551616+Z=b*4294967296+a+R:=
 ak9 (B:=4294967296) e d (nh Z 4294967296)
def Qq{hi lo y:Nat}(hy:hi<y)(L:y<18446744073709551616)(n:lo<18446744073709551616){w:Wt_}{K:be}
  (hK:∀w',M0 w w' ->K (.tuple #[.int .u64 (((hi*18446744073709551616+lo) / y:Nat):Int),gQ (((hi*18446744073709551616+lo)%y:Nat):Int)]) w'):Ca pQ 356 #[.int .u64 (hi:Int),gQ (lo:Int),gQ (y:Int)] w K:=by
 refine cN Tryz.func356 ?_;refine dU.at (λ_ W=>W=w) ?_ ?_
 ·have h1:¬y=0:=qZ;apply xm (.bool false) h1;rw[lW]
 rintro _ W rfl;refine qk ?_;intro _;refine dU.at (λ_ a=>a=W) ?_ ?_
 ·have h1:¬y<=hi:=qZ;apply xm (.bool false) h1;rw[lW]
 rintro _ a rfl;refine qk ?_;intro _;by_cases h0:hi=0
 ·subst h0;apply Kj (.bool true);rw[nO];have i:¬y=0:=qZ;have hq:lo / y<18446744073709551616:=eD (lu _ _) n;apply eQ (gQ ((lo / y:Nat):Int)) (λ_=>by simp only[go_sem];simp[i];rw[<-kq,x9 _ hq]);apply eQ (gQ ((lo%y:Nat):Int)) (λ_=>by simp only[go_sem];simp[i];rw[gi qZ]);have C:=hK a.drew (bn.refl _ _).drew;rw[jJ,cI]at C;exact C
 apply xm (.bool false) h0;rw[lW];apply U3 L;obtain⟨b1,b2,b3⟩:=Lib.bitLenAux_bounds 64 y L qZ
 have hL:Lib.bitLenAux 64 y<=64:=by
  apply aS;intro hc;have:2 ^ 64<=2 ^ (Lib.bitLenAux 64 y - 1):=iZ qZ qZ;omega
 have z:Lib.bitLen y=Lib.bitLenAux 64 y:=rfl;rw[z];obtain⟨s,hs⟩:=dW (64 - Lib.bitLenAux 64 y);have A:(64 - (Lib.bitLenAux 64 y:Int))=(s:Int):=qZ;rw[A];have O:s<64:=qZ
 have d:9223372036854775808<=y*2 ^ s/\y*2 ^ s<18446744073709551616:=by
  have e1:2 ^ (Lib.bitLenAux 64 y - 1)*2 ^ s=9223372036854775808:=by rw[<-mC,show Lib.bitLenAux 64 y - 1+s=63 by omega]
  have e2:2 ^ Lib.bitLenAux 64 y*2 ^ s=18446744073709551616:=by rw[<-mC,show Lib.bitLenAux 64 y+s=64 by omega]
  exact⟨by rw[<-e1];exact cz _ b2,by rw[<-e2];exact Nat.mul_lt_mul_of_pos_right b3 (jw s)⟩
 clear b1 b2 b3 hL z A hs;obtain⟨S,t,u3,u4⟩:=VP hy n (Nat.le_of_lt O) d.2;obtain⟨p,hp⟩:=dW (2 ^ s);have hpp:0<p:=by rw[hp];exact jw s
 obtain⟨Y,D⟩:=dW (y*p);obtain⟨H,E⟩:=dW (hi*p);obtain⟨X,v⟩:=dW (lo / 2 ^ (64 - s));obtain⟨Z,hZ⟩:=dW (lo*p%18446744073709551616);rw[<-hp,<-v,<-E,<-hZ]at S;rw[<-hp,<-v,<-E,<-D]at t;rw[<-hp,<-v]at u3;rw[<-hp,<-E]at u4;rw[<-hp,<-D]at d;have c:min s 64=s:=qZ;have g:((2:Int) ^ s)=(p:Int):=by rw[Z5,hp]
 apply az (gQ (s:Int)) a (by simp[go_sem];rw[RW]);apply az (gQ (Y:Int)) a (by simp only[go_sem];simp[c];rw[g,<-d9,<-D,x9 _ d.2]);obtain⟨b,hy1⟩:=dW (Y / 4294967296);obtain⟨k,i⟩:=dW (Y%4294967296);have h:Y=b*4294967296+k:=qZ;apply az (gQ (b:Int)) a (by simp[go_sem];omega);apply az (gQ (k:Int)) a (by simp only[go_sem];simp;rw[Mul64.maskN Y d.2,i]);apply az (gQ (H:Int)) a (by simp only[go_sem];simp[c];rw[g,<-d9,<-E,x9 _ u4]);apply az (gQ ((64 - s:Nat):Int)) a (by simp only[go_sem];simp;rw[RW];omega);have m:min (64 - s) 64=64 - s:=qZ;apply az (gQ (X:Int)) a (by simp only[go_sem];simp[m];rw[Z5,<-kq,<-v])
 have hor:H|||X=H+X:=by
  rw[E,hp,<-Nat.shiftLeft_eq,<-Nat.shiftLeft_add_eq_or_of_lt (by rw[<-hp];exact u3)]
 have hXM:X<18446744073709551616:=eD (by rw[v];exact lu _ _) n;apply az (gQ ((H+X:Nat):Int)) a (by simp only[go_sem];simp;rw[bits_or_u64_nat H X u4 hXM,hor];simp);apply az (gQ (Z:Int)) a (by simp only[go_sem];simp[c];rw[g,<-d9,IntKind.wrap_u64,hZ];omega);have hZM:Z<18446744073709551616:=by rw[hZ];exact fV _ qZ
 apply Kj (gQ ((Z / 4294967296:Nat):Int));apply az (gQ ((Z%4294967296:Nat):Int)) a (by simp only[go_sem];simp;rw[Mul64.maskN Z hZM];simp);obtain⟨U,hU⟩:=dW (H+X);rw[<-hU]at S t|-;have j:¬b=0:=qZ;have e:2147483648<=b/\b<4294967296:=qZ;have G:U / b<18446744073709551616:=eD (lu _ _) qZ;have hUm:=fW U b;apply az (gQ ((U / b:Nat):Int)) a (by simp only[go_sem];simp[j];rw[<-kq,x9 _ G]);obtain⟨m1,q⟩:=dW (U / b*b);rw[<-q]at hUm;apply az (gQ (m1:Int)) a (by simp[-Int.natCast_ediv,go_sem];rw[<-d9,<-q,x9 _ qZ]);apply az (gQ ((U - m1:Nat):Int)) a (by simp[go_sem];rw[RW];omega);rw[q];have M:Z / 4294967296<4294967296:=qZ;have F:Z%4294967296<4294967296:=qZ;rw[h]at t;refine dU.at (λst W=>∃x,st=(gQ ((Ab b k U (Z / 4294967296):Nat):Int),x,())/\W=a) ?_ ?_
 ·exact ai0 (J:=λst W=>∃x,st=(gQ ((Ab b k U (Z / 4294967296):Nat):Int),x,())/\W=a) e.1 e.2 qZ M t λx=>⟨x,rfl,rfl⟩
 rintro _ W ⟨x,rfl,rfl⟩;refine qk ?_;intro _;obtain⟨f,d1,d2⟩:=LP (u:=Z / 4294967296) t;have dl:=L3 M t;obtain⟨N,hq1⟩:=dW (Ab b k U (Z / 4294967296));rw[<-hq1]at d1 dl|-;rw[<-h]at d1 d2;obtain⟨a1,l⟩:=dW (N*Y);rw[<-l]at d1;apply az (gQ ((U*4294967296%18446744073709551616:Nat):Int)) W (by simp[go_sem];rw[IntKind.wrap_u64]);apply az (gQ (((U*4294967296+Z / 4294967296)%18446744073709551616:Nat):Int)) W (by simp[go_sem];rw[IntKind.wrap_u64];omega);apply az (gQ ((a1%18446744073709551616:Nat):Int)) W (by simp[go_sem];rw[<-d9,<-l,IntKind.wrap_u64]);apply az (gQ (f:Int)) W (by simp[go_sem];rw[IntKind.wrap_u64];omega);have B:f / b<18446744073709551616:=eD (lu _ _) qZ;have T:=fW f b;apply az (gQ ((f / b:Nat):Int)) W (by simp[go_sem,j];rw[<-kq,x9 _ B]);obtain⟨m2,o⟩:=dW (f / b*b);rw[<-o]at T;apply az (gQ (m2:Int)) W (by simp[-Int.natCast_ediv,go_sem];rw[<-d9,<-o,x9 _ qZ]);apply az (gQ ((f - m2:Nat):Int)) W (by simp[go_sem];rw[RW];omega);rw[o];rw[h]at d2;refine dU.at (λst a=>∃x,st=(gQ ((Ab b k f (Z%4294967296):Nat):Int),x,())/\a=W) ?_ ?_
 ·exact af4 (J:=λst a=>∃x,st=(gQ ((Ab b k f (Z%4294967296):Nat):Int),x,())/\a=W) e.1 e.2 qZ F d2 λx=>⟨x,rfl,rfl⟩
 rintro _ W ⟨x,rfl,rfl⟩;refine qk ?_;intro _;obtain⟨R,P,f2⟩:=LP (u:=Z%4294967296) d2;have Q:=L3 F d2;obtain⟨q0,V⟩:=dW (Ab b k f (Z%4294967296));rw[<-V]at P Q|-;rw[<-h]at P f2;obtain⟨a0,r⟩:=dW (q0*Y);rw[<-r]at P;apply az (gQ ((N*4294967296:Nat):Int)) W (by simp[go_sem];rw[RW]);apply az (gQ ((N*4294967296+q0:Nat):Int)) W (by simp[go_sem];rw[RW]);apply az (gQ ((f*4294967296%18446744073709551616:Nat):Int)) W (by simp[go_sem];rw[IntKind.wrap_u64]);apply az (gQ (((f*4294967296+Z%4294967296)%18446744073709551616:Nat):Int)) W (by simp[go_sem];rw[IntKind.wrap_u64];omega);apply az (gQ ((a0%18446744073709551616:Nat):Int)) W (by simp[go_sem];rw[<-d9,<-r,IntKind.wrap_u64]);apply az (gQ (R:Int)) W (by simp[go_sem];rw[IntKind.wrap_u64];omega);apply az (gQ ((R / p:Nat):Int)) W (by simp[go_sem,c];rw[g])
 have I:(hi*18446744073709551616+lo)*p=(N*4294967296+q0)*(y*p)+R:=by
  rw[S,<-D,dY,<-r];have:N*4294967296*Y=a1*4294967296:=by rw[l,Nat.mul_right_comm]
  rw[this];exact ab9 d1 P
 obtain⟨g1,g2⟩:=XD hpp I (by rw[<-D];exact f2);have C:=hK W rC;rw[g1,g2]at C;exact C
end Go.Proofs
namespace Go.Srt
open Go.Vc Go.Proofs
section
variable{α:Type}(lt:α->α->Bool)
def swp(l:List α)(i j:Nat):List α:=match l[i]?,l[j]? with|some x,some y=>(l.set i y).set j x|_,_=>l
def ltAt(l:List α)(i j:Nat):Bool:=match l[i]?,l[j]? with|some x,some y=>lt x y|_,_=>false
def swp_len(l:List α)(i j:Nat):(swp l i j).length=l.length:=by unfold swp;split<;>simp
def swp_eq{l:List α}{i j:Nat}(hi:i<l.length)(a:j<l.length):swp l i j=(l.set i l[j]).set j l[i]:=by
 unfold swp;rw[ao hi,ao a]
def ltAt_eq{l:List α}{i j:Nat}(hi:i<l.length)(a:j<l.length):ltAt lt l i j=lt l[i] l[j]:=by
 unfold ltAt;rw[ao hi,ao a]
def swp_perm(l:List α)(i j:Nat):(swp l i j).Perm l:=by
 by_cases b:i<l.length
 ·by_cases a:j<l.length
  ·rw[swp_eq b a];have h:=Array.swap_perm (xs:=l.toArray) (i:=i) (j:=j) (by simpa using b) (by simpa using a);have c:=Array.perm_iff_toList_perm.1 h;simpa [Array.swap_def]using c
  ·unfold swp;rw[gt (kA a)];split<;>simp_all
 ·unfold swp;rw[gt (kA b)]
def insIn(a:Nat):Nat->List α->List α
 |0,l=>l
 |j+1,l=>if a<j+1/\ltAt lt l (j+1) j=true then insIn a j (swp l (j+1) j)else l
def insFrom(a:Nat):Nat->Nat->List α->List α
 |_,0,l=>l
 |i,k+1,l=>insFrom a (i+1) k (insIn lt a i l)
def insSort(a b:Nat)(l:List α):List α:=insFrom lt a (a+1) (b - (a+1)) l
def bsG(p:Nat->Bool)(i j:Nat):Nat:=if i<j then(if p ((i+j) / 2)=true then bsG p ((i+j) / 2+1) j else bsG p i ((i+j) / 2))else i
 termination_by j - i
 decreasing_by all_goals omega
def mvUp(l:List α)(k e:Nat):List α:=if k<e then mvUp (swp l k (k+1)) (k+1) e else l
 termination_by e - k
def mvDn(l:List α)(k i:Nat):List α:=if i<k then mvDn (swp l k (k - 1)) (k - 1) i else l
 termination_by k - i
def swR(l:List α)(a b i n:Nat):List α:=if i<n then swR (swp l (a+i) (b+i)) a b (i+1) n else l
 termination_by n - i
def rot(m:Nat)(l:List α)(i j:Nat):List α:=
 if i≠j/\0<i/\0<j then(if j<i then rot m (swR l (m - i) m 0 j) (i - j) j else rot m (swR l (m - i) (m+j - i) 0 i) i (j - i))else swR l (m - i) m 0 i
 termination_by i+j
 decreasing_by all_goals omega
def stOf(l:List α)(a m b:Nat):Nat:=
 if(a+b) / 2<m then bsG (λc=> !ltAt lt l ((a+b) / 2+m - 1 - c) c) ((a+b) / 2+m - b) ((a+b) / 2)else bsG (λc=> !ltAt lt l ((a+b) / 2+m - 1 - c) c) a m
def symM(a m b:Nat)(l:List α):List α:=
 if m - a=1 then mvUp l a (bsG (λh=>ltAt lt l h a) m b - 1)
 else if b - m=1 then mvDn l m (bsG (λh=> !ltAt lt l m h) a m)
 else
  let st:=stOf lt l a m b;let en:=(a+b) / 2+m - st;let l1:=if st<m/\m<en then rot m l (m - st) (en - m)else l
  let l2:=if h:a<st/\st<(a+b) / 2 then symM a st ((a+b) / 2) l1 else l1
  if h:(a+b) / 2<en/\en<b/\a<(a+b) / 2 then symM ((a+b) / 2) en b l2 else l2
 termination_by b - a
 decreasing_by all_goals omega
def blk(n:Nat)(a b:Nat)(l:List α):List α:=if b<=n then blk n b (b+20) (insSort lt a b l)else insSort lt a n l
 termination_by n+1 - b
def mrgPass(bs n a b:Nat)(l:List α):List α:=
 if b<=n/\0<bs then mrgPass bs n b (b+2*bs) (symM lt a (a+bs) b l)else if a+bs<n then symM lt a (a+bs) n l else l
 termination_by n+1 - b
 decreasing_by all_goals omega
def mrg(n bs:Nat)(l:List α):List α:=if bs<n/\0<bs then mrg n (bs*2) (mrgPass lt bs n 0 (2*bs) l)else l
 termination_by n - bs
 decreasing_by all_goals omega
def stable(l:List α):List α:=mrg lt l.length 20 (blk lt l.length 0 20 l)
def insIn_perm(a:Nat):∀(j:Nat) (l:List α),(insIn lt a j l).Perm l
 |0,l=>db _
 |j+1,l=>by
  unfold insIn;split
  ·exact(insIn_perm a j _).trans (swp_perm _ _ _)
  ·exact db _
def insFrom_perm(a:Nat):∀(k i:Nat) (l:List α),(insFrom lt a i k l).Perm l
 |0,i,l=>db _
 |k+1,i,l=>(insFrom_perm a k (i+1) _).trans (insIn_perm lt a i l)
def mvUp_perm(l:List α)(k e:Nat):(mvUp l k e).Perm l:=by
 rw[mvUp];split
 ·exact(mvUp_perm _ _ _).trans (swp_perm _ _ _)
 ·exact db _
 termination_by e - k
def mvDn_perm(l:List α)(k i:Nat):(mvDn l k i).Perm l:=by
 rw[mvDn];split
 ·exact(mvDn_perm _ _ _).trans (swp_perm _ _ _)
 ·exact db _
 termination_by k - i
def swR_perm(l:List α)(a b i n:Nat):(swR l a b i n).Perm l:=by
 rw[swR];split
 ·exact(swR_perm _ _ _ _ _).trans (swp_perm _ _ _)
 ·exact db _
 termination_by n - i
def rot_perm(m:Nat)(l:List α)(i j:Nat):(rot m l i j).Perm l:=by
 rw[rot];split
 ·split
  ·exact(rot_perm _ _ _ _).trans (swR_perm _ _ _ _ _)
  ·exact(rot_perm _ _ _ _).trans (swR_perm _ _ _ _ _)
 ·exact swR_perm _ _ _ _ _
 termination_by i+j
 decreasing_by all_goals omega
def symM_perm(a m b:Nat)(l:List α):(symM lt a m b l).Perm l:=by
 rw[symM];split
 ·exact mvUp_perm _ _ _
 split
 ·exact mvDn_perm _ _ _
 have e:(if stOf lt l a m b<m/\m<(a+b) / 2+m - stOf lt l a m b then rot m l (m - stOf lt l a m b) ((a+b) / 2+m - stOf lt l a m b - m)else l).Perm l:=by
  split
  ·exact rot_perm _ _ _ _
  ·exact db _
 simp only;generalize(if stOf lt l a m b<m/\m<(a+b) / 2+m - stOf lt l a m b then rot m l (m - stOf lt l a m b) ((a+b) / 2+m - stOf lt l a m b - m)else l)=c at e|-
 have d:(if h:a<stOf lt l a m b/\stOf lt l a m b<(a+b) / 2 then symM lt a (stOf lt l a m b) ((a+b) / 2) c else c).Perm l:=by
  split
  ·exact(symM_perm _ _ _ _).trans e
  ·exact e
 generalize(if h:a<stOf lt l a m b/\stOf lt l a m b<(a+b) / 2 then symM lt a (stOf lt l a m b) ((a+b) / 2) c else c)=f at d|-;split
 ·exact(symM_perm _ _ _ _).trans d
 ·exact d
 termination_by b - a
 decreasing_by all_goals omega
def blk_perm(n a b:Nat)(l:List α):(blk lt n a b l).Perm l:=by
 rw[blk];split
 ·exact(blk_perm _ _ _ _).trans (insFrom_perm _ _ _ _ _)
 ·exact insFrom_perm _ _ _ _ _
 termination_by n+1 - b
def mrgPass_perm(c n a b:Nat)(l:List α):(mrgPass lt c n a b l).Perm l:=by
 rw[mrgPass];split
 ·exact(mrgPass_perm _ _ _ _ _).trans (symM_perm _ _ _ _ _)
 ·split
  ·exact symM_perm _ _ _ _ _
  ·exact db _
 termination_by n+1 - b
 decreasing_by all_goals omega
def mrg_perm(n a:Nat)(l:List α):(mrg lt n a l).Perm l:=by
 rw[mrg];split
 ·exact(mrg_perm _ _ _).trans (mrgPass_perm _ _ _ _ _ _)
 ·exact db _
 termination_by n - a
 decreasing_by all_goals omega
def stable_perm(l:List α):(stable lt l).Perm l:=(mrg_perm _ _ _ _).trans (blk_perm _ _ _ _ _)
def bsG_go{p:Nat->Bool}{i j:Nat}(h:i<j):bsG p i j=if p ((i+j) / 2)=true then bsG p ((i+j) / 2+1) j else bsG p i ((i+j) / 2):=by
 conv=>lhs;rw[bsG]
 rw[ab h]
def bsG_end{p:Nat->Bool}{i j:Nat}(h:¬i<j):bsG p i j=i:=by
 rw[bsG,aa h]
end
end Go.Srt
namespace Go.Proofs
open Go Go.Vc Go.Srt
structure MR(α:Type) where
 T:TypeId
 tS:TypeId
 sz:Nat
 f:α->List Value
 v:α->Value
 u:Tryz.prog.underlying tS=some (.slice T)
 el:∀{w:Wt_} {sl:Vt_} {l:List α},il w T sz sl l.length (l.flatMap f)->∀{i:Nat},i<l.length->∃p,(∀W,(iX tS sl (gI (i:Int))).run pQ W=.ok p W)/\∀(W:Wt_) (l' :List α),il W T sz sl l'.length (l'.flatMap f)->∀hi' :i<l'.length,
  (iL T p).run pQ W=.ok (v l'[i]) W/\∀x:α,∃W',(iS T p (v x)).run pQ W=.ok () W' /\il W' T sz sl (l'.set i x).length ((l'.set i x).flatMap f)/\bn (aQ sl) W W'
abbrev qv{α:Type}(cf:α->α->Int):α->α->Bool:=λx y=>decide (cf x y<0)
def sk{α:Type}(k:MR α)(s:Vt_)(l:List α):As:=ow s k.T k.sz l.length (l.flatMap k.f)
def CmK{α:Type}(k:MR α)(B:As)(fv:Vt_)(cf:α->α->Int)(l0:List α):Prop:=∀{L M:List As} {x y:α} {K:Value->WP},x∈l0->y∈l0->Gs L (K (gI (cf x y)))->bL L (B::M)->Gs L (Fw pQ fv [k.v x,k.v y] K)
section
variable{α:Type}{k:MR α}{L M:List As}{K:Value->WP}{k0:WP}{s:Vt_}{l:List α}
def Gs.kr(i:Nat){v:Int}(b:∀h:i<l.length,Gs L (K (k.v l[i])))(p:bL L (sk k s l::M):=by repeat first|(with_reducible exact cF)|(with_reducible apply cS))(a:v=i/\i<l.length:=by omega):Gs L (Pw pQ (iX k.tS s (gI v)) λp=>Ww pQ (iL k.T p) K):=⟨λw y=>by
 obtain⟨rfl,a⟩:=a;obtain⟨F,h⟩:=fg p y;obtain⟨q,d,c⟩:=k.el h.1 a;exact gP d (gC (c w l h.1 a).1 ((b a).go w y))⟩
def Gs.kx(i:Nat){v:Int}{x:α}(j:Gs (sk k s (l.set i x)::M) k0)(p:bL L (sk k s l::M):=by repeat first|(with_reducible exact cF)|(with_reducible apply cS))(c:v=i/\i<l.length:=by omega):Gs L (Pw pQ (iX k.tS s (gI v)) λp=>Uw pQ (iS k.T p (k.v x)) k0):=⟨λw ⟨F,z⟩=>by
 obtain⟨rfl,c⟩:=c;obtain⟨r,h,⟨d,a⟩,f,e⟩:=Ss.cons.1 (⟨F,(p.out w F).1 z⟩:Ss w (sk k s l::M));obtain⟨q,t,o⟩:=k.el d c;obtain⟨A,u,n,m⟩:=(o w l d c).2 x;exact gP t (lO u (j.go _ (Ss.cons.2 ⟨r,h,⟨n,a⟩,f.md m λb g y=>e b ((a b).2 y) g,e⟩)))⟩
def Gs.ks(i j:Nat){v u:Int}{h:i<l.length}{b:j<l.length}(a:Gs (sk k s (swp l i j)::M) k0)(p:bL L (sk k s l::M):=by repeat first|(with_reducible exact cF)|(with_reducible apply cS))(c:v=i/\u=j:=by omega):
  Gs L (Pw pQ (iX k.tS s (gI v)) λp=>Uw pQ (iS k.T p (k.v l[j])) (Pw pQ (iX k.tS s (gI u)) λp=>Uw pQ (iS k.T p (k.v l[i])) k0)):=
 Gs.kx i (Gs.kx j (by rw[swp_eq h b]at a;exact a) .refl (by rw[aZ];exact⟨c.2,b⟩)) p ⟨c.1,h⟩
def Gs.kw(i j:Nat){v u:Int}(b:Gs (sk k s (swp l i j)::M) k0)(p:bL L (sk k s l::M):=by repeat first|(with_reducible exact cF)|(with_reducible apply cS))(a:(v=i/\i<l.length)/\u=j/\j<l.length:=by omega):
  Gs L (Pw pQ (iX k.tS s (gI u)) λp=>Ww pQ (iL k.T p) λx=>Pw pQ (iX k.tS s (gI v)) λp=>Ww pQ (iL k.T p) λy=>
   Pw pQ (iX k.tS s (gI v)) λp=>Uw pQ (iS k.T p x) (Pw pQ (iX k.tS s (gI u)) λp=>Uw pQ (iS k.T p y) k0)):=
 Gs.kr j (λh=>Gs.kr i (λc=>Gs.ks i j b p ⟨a.1.1,a.2.1⟩) p a.1) p a.2
end
def ae9{α:Type}(k:MR α)(fid:FuncId):Prop:=∀{B:As} {s fv:Vt_} {cf:α->α->Int} {l0 l:List α} {K:Value->WP} (a b:Nat) {x y:Int},CmK k B fv cf l0->l.Perm l0->(x=a/\y=b)/\l0.length<=100000/\a<=b/\b<=l0.length->Gs [sk k s (insSort (qv cf) a b l),B] (K (.tuple #[]))->Gs [sk k s l,B] (Cw pQ fid #[s,gI x,gI y,fv] K)
def ac6{α:Type}(k:MR α)(fid:FuncId):Prop:=∀{B:As} {s fv:Vt_} {l:List α} {K:Value->WP} (a b n:Nat) {x y z:Int},(x=a/\y=b/\z=n)/\l.length<=100000/\a+n<=l.length/\b+n<=l.length->Gs [sk k s (swR l a b 0 n),B] (K (.tuple #[]))->Gs [sk k s l,B] (Cw pQ fid #[s,gI x,gI y,gI z,fv] K)
def ai7{α:Type}(k:MR α)(fid:FuncId):Prop:=∀{B:As} {s fv:Vt_} {l:List α} {K:Value->WP} (a m b:Nat) {x y z:Int},(x=a/\y=m/\z=b)/\l.length<=100000/\a<m/\m<b/\b<=l.length->Gs [sk k s (rot m l (m - a) (b - m)),B] (K (.tuple #[]))->Gs [sk k s l,B] (Cw pQ fid #[s,gI x,gI y,gI z,fv] K)
def aa5{α:Type}(k:MR α)(fid:FuncId):Prop:=∀(d:Nat) {B:As} {s fv:Vt_} {cf:α->α->Int} {l0 l:List α} {K:Value->WP} (a m b:Nat) {x y z:Int},CmK k B fv cf l0->l.Perm l0->(x=a/\y=m/\z=b)/\l0.length<=100000/\b - a<=d/\a<m/\m<b/\b<=l0.length->Gs [sk k s (symM (qv cf) a m b l),B] (K (.tuple #[]))->Gs [sk k s l,B] (Cw pQ fid #[s,gI x,gI y,gI z,fv] K)
def ai6{α:Type}(k:MR α)(fid:FuncId):Prop:=∀{B:As} {s fv:Vt_} {cf:α->α->Int} {l:List α} {K:Value->WP},CmK k B fv cf l->l.length<=100000->Gs [sk k s (stable (qv cf) l),B] (K (.tuple #[]))->Gs [sk k s l,B] (Cw pQ fid #[s,gI l.length,fv] K)
def Z8{α:Type}(k:MR α)(w0:Wt_)(s fv:Vt_)(cf:α->α->Int)(l0:List α):Prop:=∃g cp,fv=.func (.func g) #[] cp/\∀x∈l0,∀y∈l0,∀W,bn (aQ s) w0 W->∀K:be,(∀W',M0 W W' ->K (gI (cf x y)) W')->Ca pQ g ⟨[k.v x,k.v y]++cp.toList⟩ W K
def Y8{α:Type}{k:MR α}{b:Wt_}{s fv:Vt_}{cf:α->α->Int}{a:List α}(h:Z8 k b s fv cf a):CmK k (uu b (aQ s)) fv cf a:=by
 obtain⟨g,i,rfl,h⟩:=h;intro L M x y K e d c p;exact⟨λw z=>jf.2 (h x e y d w ((fg p z).elim λF h=>h.2) _ λf m=>c.go f (z.md0 m))⟩
def ag5{α:Type}(k:MR α)(fid:FuncId):Prop:=∀{w:Wt_} {s fv:Vt_} {cf:α->α->Int} {l:List α} {K:be},il w k.T k.sz s l.length (l.flatMap k.f)->l.length<=100000->Z8 k w s fv cf l->(∀w',il w' k.T k.sz s (stable (qv cf) l).length ((stable (qv cf) l).flatMap k.f)->bn (aQ s) w w' ->K (.tuple #[]) w')->Ca pQ fid #[s,fv] w K
def K4{φ:Prop}(h:φ:=by
  rintro B s fv d u l K a b _ _ D hp ⟨⟨rfl,rfl⟩,I,y,E⟩ t;refine sN zF ?_;refine au ?_;refine Gs.l (λx:Nat×List _=>(Value.int .i64 x.1,())) (b - ·.1) (λx=>[sk _ s x.2,B]) (λx=>a<x.1/\x.2.Perm u/\insFrom (qv d) a x.1 (b - x.1) x.2=insSort (qv d) a b l) (a+1,l) rfl ⟨dv a,hp,rfl⟩ ?_ .refl;rintro⟨i,v⟩ ⟨z,r,n⟩ G p
  dsimp only at z r n|-
  refine Gs.z (au ?_);refine Gs.I (λC=>?_) λC=>?_
  ·refine Gs.l (λx:Nat×List _=>(Value.int .i64 x.1,())) (·.1) (λx=>[sk _ s x.2,B]) (λx=>x.1<=i/\x.2.Perm u/\insIn (qv d) a x.1 x.2=insIn (qv d) a i v) (i,v) rfl ⟨aB i,r,rfl⟩ ?_ .refl;rintro⟨j,c⟩ ⟨A,g,q⟩ F o
   dsimp only at A g q|-
   have H:=g.length_eq;refine Gs.z ?_;refine Gs.j1 (.bool (decide (a<j/\ltAt (qv d) c j (j - 1)=true)),()) (λJ m=>?_) ?_
   ·refine au ?_;refine Gs.I (λf=>?_) λf=>?_
    ·refine Gs.kr (k:=zK) (l:=c) j λ_=>?_;refine au ?_;refine Gs.kr (k:=zK) (l:=c) (j - 1) λ_=>?_;refine D (g.mem_iff.1 (ar _)) (g.mem_iff.1 (ar _)) ?_ (by repeat first|(with_reducible exact cF)|(with_reducible apply cS));refine au ?_
     have e:decide (a<j/\ltAt (qv d) c j (j - 1)=true)=decide (d c[j] c[j - 1]<0):=by
      rw[ltAt_eq _ qZ qZ,bT];simp only[ax];omega
     rw[e]at m;exact m
    ·rw[aG qZ]at m;exact m
   refine Gs.z ?_;refine Gs.I (λf=>?_) λf=>?_
   ·obtain⟨j,rfl⟩:∃w,j=w+1:=⟨j - 1,qZ⟩
    rw[gm]at f;refine au ?_;refine Gs.kw (k:=zK) (l:=c) (j+1) j ?_;refine au ?_;refine(o (j,swp c (j+1) j) ⟨by dsimp only;omega,(swp_perm _ _ _).trans g,?_⟩ (by dsimp only;omega)).fin
    dsimp only
    rw[<-q,insIn,ab f]
   ·refine au ?_;refine(p (i+1,c) ⟨by dsimp only;omega,g,?_⟩ (by dsimp only;omega)).fin
    dsimp only
    have e:insIn (qv d) a j c=c:=by
     cases j with
     |zero=>rfl
     |succ j=>rw[gm]at f;rw[insIn,aa f]
    rw[<-n,show b - i=(b - (i+1))+1 by omega,insFrom,<-q,e]
  ·rw[show b - i=0 by omega]at n;rw[<-n]at t;exact t):φ:=h
def KI{φ:Prop}(h:φ:=by
  rintro B s fv l K a b n _ _ _ ⟨⟨rfl,rfl,rfl⟩,q,r,o⟩ g;refine sN zF ?_;refine Gs.l (λx:Nat×List _=>(Value.int .i64 x.1,())) (n - ·.1) (λx=>[sk _ s x.2,B]) (λx=>x.1<=n/\x.2.length=l.length/\swR x.2 a b x.1 n=swR l a b 0 n) (0,l) rfl ⟨aw n,rfl,rfl⟩ ?_ .refl;rintro⟨i,d⟩ ⟨j,f,c⟩ p e
  dsimp only at j f c|-
  rw[swR]at c;refine Gs.z (au ?_);refine Gs.I (λm=>?_) λm=>?_
  ·rw[ab qZ]at c;refine au ?_;refine Gs.kr (k:=zK) (l:=d) (b+i) λ_=>?_;refine au ?_;refine Gs.kr (k:=zK) (l:=d) (a+i) λ_=>?_;refine Gs.ks (k:=zK) (l:=d) (a+i) (b+i) ?_;refine au ?_;exact(e (i+1,swp d (a+i) (b+i)) ⟨by dsimp only;omega,(swp_len _ _ _).trans f,c⟩ (by dsimp only;omega)).fin
  ·rw[aa qZ]at c;rw[<-c]at g;exact g):φ:=h
def MA{φ:Prop}(h:φ:=by
  rintro B s fv l K a m b _ _ _ ⟨⟨rfl,rfl,rfl⟩,w,q,r,u⟩ o;refine sN zF ?_;refine au ?_;refine Gs.l (λx:Nat×Nat×List _=>(Value.int .i64 x.1,Value.int .i64 x.2.1,())) (λx=>x.1+x.2.1) (λx=>[sk zK s x.2.2,B]) (λx=>x.2.2.length=l.length/\(0<x.1/\0<x.2.1/\x.1<=m/\m+x.2.1<=l.length)/\rot m x.2.2 x.1 x.2.1=rot m l (m - a) (b - m)) (m - a,b - m,l) (by dsimp only;rw[Int.ofNat_sub qZ,Int.ofNat_sub qZ]) ⟨rfl,by dsimp only;omega,rfl⟩ ?_ .refl;rintro⟨i,j,p⟩ ⟨g,n,d⟩ v f
  dsimp only at n g d|-
  rw[rot]at d;refine Gs.z ?_;refine au ?_;refine Gs.Ib (λc=>?_) λc=>?_
  ·rw[ab ⟨by simp at c;omega,n.1,n.2.1⟩]at d;refine au ?_;refine Gs.I (λt=>?_) λt=>?_
   ·rw[ab qZ]at d;refine au ?_;refine zS (m - i) m j qZ ?_;refine au ?_;have:=f (i - j,j,swR p (m - i) m 0 j) ⟨(swR_perm _ _ _ _ _).length_eq.trans g,by dsimp only;omega,d⟩ (by dsimp only;omega)
    dsimp only at this
    rw[Int.ofNat_sub qZ]at this;exact this
   ·rw[aa qZ]at d;have e:i≠j:=by simp at c;omega
    refine au ?_;refine zS (m - i) (m+j - i) i qZ ?_;refine au ?_;have:=f (i,j - i,swR p (m - i) (m+j - i) 0 i) ⟨(swR_perm _ _ _ _ _).length_eq.trans g,by dsimp only;omega,d⟩ (by dsimp only;omega)
    dsimp only at this
    rw[Int.ofNat_sub qZ]at this;exact this
  ·have e:i=j:=by simp at c;omega
   rw[aa (λh=>h.1 e)]at d;refine au ?_;refine zS (m - i) m i qZ ?_;rw[<-d]at o;exact o):φ:=h
def K6{φ:Prop}(h:φ:=by
  intro d;induction d with
  |zero=>
   rintro B s fv w Q l K a m b _ _ _ R hp ⟨-,-,G,f,h3,-⟩;omega
  |succ d ih=>
  rintro B s fv w Q l K a m b _ _ _ R hp ⟨⟨rfl,rfl,rfl⟩,hn,hd,ham,hmb,hb⟩ r;have hl:=hp.length_eq;have S:∀{i} (h:i<l.length),l[i]∈Q:=λh=>hp.mem_iff.1 (ar h);refine sN zF ?_;refine au ?_;refine Gs.Ib (λt=>?_) λt=>?_
  ·have t:m - a=1:=by simp at t;omega
   rw[symM,ab t]at r;refine Gs.l (λx:Nat×Nat=>(Value.int .i64 x.1,Value.int .i64 x.2,())) (λx=>x.2 - x.1) (λ_=>[sk zK s l,B]) (λx=>(m<=x.1/\x.1<=x.2/\x.2<=b)/\bsG (λh=>ltAt (qv w) l h a) x.1 x.2=bsG (λh=>ltAt (qv w) l h a) m b) (m,b) rfl ⟨by dsimp only;omega,rfl⟩ ?_ .refl;rintro⟨i,j⟩ ⟨G,f⟩ K1 o
   dsimp only at G f o|-
   refine Gs.z (au ?_);refine Gs.I (λX=>?_) λX=>?_
   ·rw[bsG_go (i:=i) (j:=j) qZ]at f;refine au ?_;obtain⟨q,O⟩:=dW ((i+j) / 2);rw[<-O]at f;rw[show((i:Int)+j) / 2=(q:Nat) by omega];refine Gs.kr (k:=zK) (l:=l) q λE=>?_;refine Gs.kr (k:=zK) (l:=l) a λhal=>?_;refine R (S _) (S _) ?_ (by repeat first|(with_reducible exact cF)|(with_reducible apply cS));refine au ?_;rw[ltAt_eq _ E hal]at f;refine Gs.I (λp=>?_) λp=>?_
    ·rw[ab (aA p)]at f;refine au ?_;exact o (q+1,j) ⟨by dsimp only;omega,f⟩ (by dsimp only;omega)
    ·rw[aa (by simpa using p)]at f;exact o (i,q) ⟨by dsimp only;omega,f⟩ (by dsimp only;omega)
   ·rw[bsG_end (i:=i) (j:=j) qZ]at f;rw[<-f]at r;refine Gs.l (λx:Nat×List _=>(Value.int .i64 x.1,())) (i - 1 - ·.1) (λx=>[sk zK s x.2,B]) (λx=>(x.1<=i - 1/\x.2.length=Q.length)/\mvUp x.2 x.1 (i - 1)=mvUp l a (i - 1)) (a,l) rfl ⟨⟨by dsimp only;omega,hl⟩,rfl⟩ ?_ .refl;rintro⟨q,H⟩ ⟨Y,A⟩ K2 F
    dsimp only at Y A F|-
    rw[mvUp]at A;refine Gs.z (au ?_);refine Gs.I (λO=>?_) λO=>?_
    ·rw[ab qZ]at A;refine au ?_;refine Gs.kw (k:=zK) (l:=H) q (q+1) ?_;refine au ?_;exact F (q+1,swp H q (q+1)) ⟨⟨by dsimp only;omega,(swp_len _ _ _).trans Y.2⟩,A⟩ (by dsimp only;omega)
    ·rw[aa qZ]at A;rw[<-A]at r;exact r
  have t:¬m - a=1:=by simp at t;omega
  refine au ?_;refine Gs.Ib (λu=>?_) λu=>?_
  ·have u:b - m=1:=by simp at u;omega
   rw[symM,aa t,ab u]at r;refine Gs.l (λx:Nat×Nat=>(Value.int .i64 x.1,Value.int .i64 x.2,())) (λx=>x.2 - x.1) (λ_=>[sk zK s l,B]) (λx=>(a<=x.1/\x.1<=x.2/\x.2<=m)/\bsG (λh=> !ltAt (qv w) l m h) x.1 x.2=bsG (λh=> !ltAt (qv w) l m h) a m) (a,m) rfl ⟨by dsimp only;omega,rfl⟩ ?_ .refl;rintro⟨i,j⟩ ⟨G,f⟩ K1 o
   dsimp only at G f o|-
   refine Gs.z (au ?_);refine Gs.I (λX=>?_) λX=>?_
   ·rw[bsG_go (i:=i) (j:=j) qZ]at f;refine au ?_;obtain⟨q,O⟩:=dW ((i+j) / 2);rw[<-O]at f;rw[show((i:Int)+j) / 2=(q:Nat) by omega];refine Gs.kr (k:=zK) (l:=l) m λP=>?_;refine Gs.kr (k:=zK) (l:=l) q λE=>?_;refine R (S _) (S _) ?_ (by repeat first|(with_reducible exact cF)|(with_reducible apply cS));refine au ?_;rw[ltAt_eq _ P E]at f;refine Gs.Ib (λp=>?_) λp=>?_
    ·rw[ab p]at f;refine au ?_;exact o (q+1,j) ⟨by dsimp only;omega,f⟩ (by dsimp only;omega)
    ·rw[aa (by rw[p];decide)]at f;exact o (i,q) ⟨by dsimp only;omega,f⟩ (by dsimp only;omega)
   ·rw[bsG_end (i:=i) (j:=j) qZ]at f;rw[<-f]at r;refine Gs.l (λx:Nat×List _=>(Value.int .i64 x.1,())) (·.1 - i) (λx=>[sk zK s x.2,B]) (λx=>(x.1<=m/\x.2.length=Q.length)/\mvDn x.2 x.1 i=mvDn l m i) (m,l) rfl ⟨⟨aB m,hl⟩,rfl⟩ ?_ .refl;rintro⟨q,H⟩ ⟨Y,A⟩ K2 F
    dsimp only at Y A F|-
    rw[mvDn]at A;refine Gs.z (au ?_);refine Gs.I (λO=>?_) λO=>?_
    ·rw[ab qZ]at A;refine au ?_;refine Gs.kw (k:=zK) (l:=H) q (q - 1) ?_;refine au ?_;have:=F (q - 1,swp H q (q - 1)) ⟨⟨by dsimp only;omega,(swp_len _ _ _).trans Y.2⟩,A⟩ (by dsimp only;omega)
     dsimp only at this
     rw[Int.ofNat_sub qZ]at this;exact this
    ·rw[aa qZ]at A;rw[<-A]at r;exact r
  have u:¬b - m=1:=by simp at u;omega
  rw[symM,aa t,aa u]at r;have V:stOf (qv w) l a m b=if(a+b) / 2<m then bsG (λc=> !ltAt (qv w) l ((a+b) / 2+m - 1 - c) c) ((a+b) / 2+m - b) ((a+b) / 2)else bsG (λc=> !ltAt (qv w) l ((a+b) / 2+m - 1 - c) c) a m:=rfl
  refine au ?_;obtain⟨e,U⟩:=dW ((a+b) / 2);rw[<-U]at r V;rw[show((a:Int)+b) / 2=(e:Nat) by omega];have T:a<e/\e<b:=qZ;obtain⟨I,C⟩:=dW (if e<m then e+m - b else a);obtain⟨r0,D⟩:=dW (if e<m then e else m)
  have Z:stOf (qv w) l a m b=bsG (λc=> !ltAt (qv w) l (e+m - 1 - c) c) I r0:=by
   rw[V,C,D];split<;>rfl
  have W:I<=r0/\a<=I/\r0<=m/\r0<=e/\(∀c,I<=c->c<r0->e+m - 1 - c<b/\c<e+m - 1)/\(∀c,I<=c->c<=r0->m<=e+m - c/\e+m - c<=b/\e<=e+m - c):=by
   by_cases N:e<m
   ·rw[ab N]at C D;exact⟨qZ,qZ,qZ,qZ,λc G f=>qZ,λc G f=>qZ⟩
   ·rw[aa N]at C D;exact⟨qZ,qZ,qZ,qZ,λc G f=>qZ,λc G f=>qZ⟩
  refine Gs.j1 (gI I,gI r0,()) (λJ n=>?_) ?_
  ·refine au ?_;refine Gs.I (λN=>?_) λN=>?_
   ·rw[C,D,ab qZ,ab qZ,Int.ofNat_sub qZ,jx]at n;refine au ?_;exact n
   ·rw[C,D,aa qZ,aa qZ]at n;exact n
  refine Gs.z (au ?_);refine Gs.l (λx:Nat×Nat=>(Value.int .i64 x.2,Value.int .i64 x.1,())) (λx=>x.2 - x.1) (λ_=>[sk zK s l,B]) (λx=>(I<=x.1/\x.1<=x.2/\x.2<=r0)/\bsG (λc=> !ltAt (qv w) l (e+m - 1 - c) c) x.1 x.2=bsG (λc=> !ltAt (qv w) l (e+m - 1 - c) c) I r0) (I,r0) rfl ⟨by dsimp only;omega,rfl⟩ ?_ .refl;rintro⟨i,j⟩ ⟨G,f⟩ K1 o
  dsimp only at G f o|-
  refine Gs.z (au ?_);refine Gs.I (λX=>?_) λX=>?_
  ·rw[bsG_go (i:=i) (j:=j) qZ]at f;refine au ?_;obtain⟨q,O⟩:=dW ((i+j) / 2);rw[<-O]at f;rw[show((i:Int)+j) / 2=(q:Nat) by omega];have hqb:=W.2.2.2.2.1 q qZ qZ;refine Gs.kr (k:=zK) (l:=l) (e+m - 1 - q) λP=>?_;refine Gs.kr (k:=zK) (l:=l) q λE=>?_;refine R (S _) (S _) ?_ (by repeat first|(with_reducible exact cF)|(with_reducible apply cS));refine au ?_;rw[ltAt_eq _ P E]at f;refine Gs.Ib (λp=>?_) λp=>?_
   ·rw[ab p]at f;refine au ?_;exact o (q+1,j) ⟨by dsimp only;omega,f⟩ (by dsimp only;omega)
   ·rw[aa (by rw[p];decide)]at f;exact o (i,q) ⟨by dsimp only;omega,f⟩ (by dsimp only;omega)
  rw[bsG_end (i:=i) (j:=j) qZ,<-Z]at f;rw[<-f]at r;clear o;have hib:=W.2.2.2.2.2 i qZ qZ;refine au ?_;obtain⟨z,hen⟩:=dW (e+m - i)
  dsimp only at r
  rw[<-hen]at r hib;rw[show(e:Int)+m - i=(z:Nat) by omega];obtain⟨H,v⟩:=dW (if i<m/\m<z then rot m l (m - i) (z - m)else l);rw[<-v]at r
  have p1:H.Perm Q:=by
   rw[v];split
   ·exact(rot_perm _ _ _ _).trans hp
   ·exact hp
  refine Gs.j (λ_:Unit=>()) (λ_=>[sk zK s H,B]) (λ_=>True) (λJ n=>?_) λ_ _=>?_
  ·have n:=n () trivial;refine Gs.j1 (.bool (decide (i<m/\m<z)),()) (λJ n=>?_) ?_
   ·refine au ?_;refine Gs.I (λg=>?_) λg=>?_
    ·refine au ?_;rw[show decide (i<m/\m<z)=decide (m<z) by rw[bT,ax,ax];omega]at n;exact n
    ·rw[aG qZ]at n;exact n
   refine Gs.z ?_;refine Gs.I (λg=>?_) λg=>?_
   ·rw[ab g]at v;refine zR i m z qZ ?_;rw[<-v];exact n
   ·rw[aa g]at v;rw[<-v];exact n
  refine Gs.z ?_;obtain⟨l2,y⟩:=dW (if h:a<i/\i<e then symM (qv w) a i e H else H);rw[<-y]at r
  have p2:l2.Perm Q:=by
   rw[y];split
   ·exact(symM_perm _ _ _ _ _).trans p1
   ·exact p1
  refine Gs.j (λ_:Unit=>()) (λ_=>[sk zK s l2,B]) (λ_=>True) (λJ n=>?_) λ_ _=>?_
  ·have n:=n () trivial;refine Gs.j1 (.bool (decide (a<i/\i<e)),()) (λJ n=>?_) ?_
   ·refine au ?_;refine Gs.I (λg=>?_) λg=>?_
    ·refine au ?_;rw[show decide (a<i/\i<e)=decide (i<e) by rw[bT,ax,ax];omega]at n;exact n
    ·rw[aG qZ]at n;exact n
   refine Gs.z ?_;refine Gs.I (λg=>?_) λg=>?_
   ·rw[kU g]at y;refine ih a i e R p1 qZ ?_;rw[<-y];exact n
   ·rw[dif_neg g]at y;rw[<-y];exact n
  refine Gs.z ?_;refine Gs.j1 (.bool (decide (e<z/\z<b)),()) (λJ n=>?_) ?_
  ·refine au ?_;refine Gs.I (λg=>?_) λg=>?_
   ·refine au ?_;rw[show decide (e<z/\z<b)=decide (z<b) by rw[bT,ax,ax];omega]at n;exact n
   ·rw[aG qZ]at n;exact n
  refine Gs.z ?_;refine Gs.I (λg=>?_) λg=>?_
  ·rw[kU ⟨g.1,g.2,T.1⟩]at r;exact ih e z b R p2 qZ r
  ·rw[dif_neg (λh=>g ⟨h.1,h.2.1⟩)]at r;exact r):φ:=h
def KT{φ:Prop}(h:φ:=by
  rintro B s fv d e K z S t;obtain⟨n,w⟩:=dW e.length;have A:Srt.stable (qv d) e=mrg (qv d) n 20 (blk (qv d) n 0 20 e):=by rw[w];rfl
  rw[A]at t;rw[<-w]at S|-;refine sN zF ?_;refine Gs.l (λx:Nat×List _=>(Value.int .i64 x.1,Value.int .i64 (x.1+20:Nat),())) (n - ·.1) (λx=>[sk zK s x.2,B]) (λx=>x.1<=n/\x.2.Perm e/\blk (qv d) n x.1 (x.1+20) x.2=blk (qv d) n 0 20 e) (0,e) rfl ⟨aw n,.refl _,rfl⟩ ?_ .refl;rintro⟨a,E⟩ ⟨P,m,f⟩ V i
  dsimp only at P m f i|-
  have Y:=m.length_eq;rw[blk]at f;refine Gs.z (au ?_);refine Gs.I (λT=>?_) λT=>?_
  ·rw[ab qZ]at f;refine zI a (a+20) z m qZ ?_;refine au ?_;exact i (a+20,insSort (qv d) a (a+20) E) ⟨by dsimp only;omega,(insFrom_perm _ _ _ _ _).trans m,f⟩ (by dsimp only;omega)
  rw[aa qZ]at f;refine zI a n z m qZ ?_;rw[f];rw[<-f]at t;have F:(insSort (qv d) a n E).Perm e:=(insFrom_perm _ _ _ _ _).trans m;rw[<-f];generalize insSort (qv d) a n E=N at t F|-;clear i;refine Gs.l (λx:Nat×(Value×Value)×List _=>(Value.int .i64 x.1,x.2.1.1,x.2.1.2,())) (2*n+20 - ·.1) (λx=>[sk zK s x.2.2,B]) (λx=>(0<x.1/\x.1<=2*n+20)/\x.2.2.Perm e/\mrg (qv d) n x.1 x.2.2=mrg (qv d) n 20 N) (20,(_,_),N) rfl ⟨by dsimp only;omega,F,rfl⟩ ?_ .refl;rintro⟨b,⟨u,X⟩,I⟩ ⟨C,H,j⟩ U v
  dsimp only at C H j v|-
  rw[mrg]at j;refine Gs.z (au ?_);refine Gs.I (λG=>?_) λG=>?_
  ·rw[ab ⟨qZ,C.1⟩]at j;refine au ?_;refine Gs.l (λx:Nat×List _=>(Value.int .i64 x.1,Value.int .i64 (x.1+2*b:Nat),())) (n - ·.1) (λx=>[sk zK s x.2,B]) (λx=>x.1<=n/\x.2.Perm e/\mrgPass (qv d) b n x.1 (x.1+2*b) x.2=mrgPass (qv d) b n 0 (2*b) I) (0,I) (by simp) ⟨aw n,H,by simp⟩ ?_ .refl;rintro⟨c,o⟩ ⟨Q,g,p⟩ W r
   dsimp only at Q g p r|-
   rw[mrgPass]at p;have R:=g.length_eq;refine Gs.z (au ?_);refine Gs.I (λy=>?_) λy=>?_
   ·rw[ab ⟨qZ,C.1⟩]at p;refine au ?_;refine zY (2*b) c (c+b) (c+2*b) z g qZ ?_;refine au ?_;rw[show(c:Int)+2*b+2*b=(c+2*b+2*b:Nat) by omega];exact r (c+2*b,_) ⟨by dsimp only;omega,(symM_perm _ _ _ _ _).trans g,p⟩ (by dsimp only;omega)
   ·rw[aa (λh=>y qZ)]at p;rw[<-p]at j
    have O:(if c+b<n then symM (qv d) c (c+b) n o else o).Perm e:=by
     split
     ·exact(symM_perm _ _ _ _ _).trans g
     ·exact g
    refine Gs.j (λ_:Unit=>()) (λ_=>[sk zK s (if c+b<n then symM (qv d) c (c+b) n o else o),B]) (λ_=>True) (λJ q=>?_) λ_ _=>?_
    ·have q:=q () trivial;refine au ?_;refine Gs.I (λD=>?_) λD=>?_
     ·rw[ab qZ]at q;exact zY (2*b) c (c+b) n z g qZ q
     ·rw[aa qZ]at q;exact q
    refine Gs.z (au ?_);have:=v (b*2,(gI (c+2*b:Nat),gI c),if c+b<n then symM (qv d) c (c+b) n o else o) ⟨by dsimp only;omega,O,j⟩ (by dsimp only;omega)
    dsimp only at this
    rw[d9]at this;exact this
  ·rw[aa (λh=>G qZ)]at j;rw[<-j]at t;exact t):φ:=h
def GG{φ:Prop}(h:φ:=by
  intro w s fv j l K h f g e;obtain⟨a,c,rfl,-⟩:=h.isSl;refine(Gs.from (φ:=Cw pQ _ _ K) (A:=sk zK (.slice a l.length c) l) (F:=aQ (.slice a l.length c)) ⟨h,λ_=>aI⟩ ?_ :);refine sN zF ?_;refine au ?_;refine zS (Y8 g) f ⟨λb z=>?_⟩;obtain⟨i,d,m,-⟩:=z.frz;exact e b d.1 m):φ:=h
def Me:Tryz.prog.underlying 23=some (.slice 3):=cH
def af8:Tryz.prog.cellsOf 3=0+1:=cH
def ZC:fj pQ 3 1 8=true:=cH
abbrev IE(w:Wt_)(sl:Vt_)(l:List Int):Prop:=il w 3 1 sl l.length (l.flatMap sj)
def CC(l:List Int):l.flatMap sj=l.map λx=>gI x:=by
 induction l with
 |nil=>rfl
 |cons x l a=>rw[aT,a];rfl
def IE.el{w:Wt_}{sl:Vt_}{l:List Int}(h:IE w sl l){i:Nat}(hi:i<l.length):
  ∃p,(∀W,(iX 23 sl (gI (i:Int))).run pQ W=.ok p W)/\∀(W:Wt_) (c:List Int),IE W sl c->∀d:i<c.length,
   (iL 3 p).run pQ W=.ok (gI c[i]) W/\∀x:Int,∃n,(iS 3 p (gI x)).run pQ W=.ok () n/\IE n sl (c.set i x)/\bn (aQ sl) W n:=by
 obtain⟨b,e,rest,rfl,A,y,z⟩:=h.pos qZ;refine⟨.pointer (some ⟨b,i,none⟩),λW=>by simp[go_sem,hi,bQ,Me,Program.elem,Go.Vc.kY af8],λW c u d=>?_⟩;obtain⟨t,g,a,v,o,f,m,q⟩:=u.pos qZ;obtain⟨rfl,j,rfl⟩:b=t/\l.length=c.length/\e=g:=by simpa using v
 have r:(c.flatMap sj++a)[i]? =some (gI c[i]):=by
  rw[CC,bP (by simpa using d),bY,ao d];rfl
 refine⟨by simp[go_sem,cO f,r],λx=>⟨W.setCell ⟨b,i,none⟩ (gI x),by simp[go_sem,cO f,r],⟨by rw[tU oD,aZ],.inr ⟨b,e,a,by rw[aZ,j],by rw[aZ];exact o,?_,by rw[aZ];exact m,q⟩⟩,(bn.refl _ W).setCell (.inl (show aQ (.slice (some ⟨b,0,none⟩) l.length e) b from rfl)) _ _⟩⟩;rw[jp,ab rfl,f,iN,dI,dQ _ _ (by rw[tU oD];omega),CC,CC,fU]
def sZ.el{w:Wt_}{sl:Vt_}{l:List Od}(h:sZ w sl l){i:Nat}(hi:i<l.length):
  ∃p,(∀W,(iX 146 sl (gI (i:Int))).run pQ W=.ok p W)/\∀(W:Wt_) (d:List Od),sZ W sl d->∀f:i<d.length,
   (iL kQ p).run pQ W=.ok (mi d[i]) W/\∀x:Od,∃q,(iS kQ p (mi x)).run pQ W=.ok () q/\sZ q sl (d.set i x)/\bn (aQ sl) W q:=by
 obtain⟨b,c,rest,rfl,G,E,F⟩:=h.pos qZ;refine⟨.pointer (some ⟨b,i*5,none⟩),λW=>by simp[go_sem,hi,bQ,gR],λW d r f=>?_⟩;obtain⟨B,j,a,D,t,n,o,y⟩:=id (r.pos qZ);obtain⟨rfl,g,rfl⟩:b=B/\l.length=d.length/\c=j:=by simpa using D
 obtain⟨C,wZ,m,A,z⟩:=r.load f;have v:b=C/\c=wZ:=by rw[g]at m;simpa using m
 obtain⟨rfl,rfl⟩:=v;have u:=r.1;refine⟨z,λx=>⟨W.setRow b (ji (d.flatMap dp++a) (i*5) (dp x)).toArray,ZY (cO n) (by rw[dC,ad,u];omega),⟨by rw[tU dH,aZ],.inr ⟨b,c,a,by rw[aZ,g],by rw[aZ];exact t,?_,by rw[aZ];exact o,y⟩⟩,(bn.refl _ W).setRow (.inl (show aQ (.slice (some ⟨b,0,none⟩) l.length c) b from rfl)) _⟩⟩;rw[eU,ab rfl,n]
 have e:ji (d.flatMap dp++a) (i*5) (dp x)=(d.set i x).flatMap dp++a:=by
  unfold ji;rw[aP (by rw[u];omega),Tu dH,dH,cT (by rw[u];omega),show i*5+5=(i+1)*5 by omega,Wx dH,List.set_eq_take_append_cons_drop,ab f];simp
 rw[e]
def z9:MR Int:=⟨3,23,1,sj,λx=>gI x,by kernel_rfl,IE.el⟩
def Pb:MR Od:=⟨130,146,5,dp,mi,by kernel_rfl,sZ.el⟩
def aj7:ae9 z9 384:=by
 have zF:=Tryz.func384;let zK:=z9;exact K4
def ak2:ac6 z9 390:=by
 have zF:=Tryz.func390;let zK:=z9;exact KI
def am5:ai7 z9 388:=by
 have zF:=Tryz.func388;let zK:=z9;have zS:= @ak2;exact MA
def ak8:aa5 z9 385:=by
 have zF:=Tryz.func385;let zK:=z9;have zR:= @am5;exact K6
def ak6:ai6 z9 378:=by
 have zF:=Tryz.func378;let zK:=z9;have zI:= @aj7;have zY:= @ak8;exact KT
def af2:ag5 z9 357:=by
 have zF:=Tryz.func357;let zK:=z9;have zS:= @ak6;exact GG
def ap9:ae9 Pb 379:=by
 have zF:=Tryz.func379;let zK:=Pb;exact K4
def ap6:ac6 Pb 389:=by
 have zF:=Tryz.func389;let zK:=Pb;exact KI
def ao3:ai7 Pb 386:=by
 have zF:=Tryz.func386;let zK:=Pb;have zS:= @ap6;exact MA
def ao1:aa5 Pb 380:=by
 have zF:=Tryz.func380;let zK:=Pb;have zR:= @ao3;exact K6
def ao2:ai6 Pb 361:=by
 have zF:=Tryz.func361;let zK:=Pb;have zI:= @ap9;have zY:= @ao1;exact KT
def aa0:ag5 Pb 316:=by
 have zF:=Tryz.func316;let zK:=Pb;have zS:= @ao2;exact GG
end Go.Proofs
namespace Go.Proofs
open Go Go.Vc Go.Srt
attribute [local congr] bj
variable {l:List Int}{s:Nat}{w:Wt_}{K:be}
def P3:Tryz.prog.cellsOf 2=0+1:=cH
def ad8:Tryz.prog.cellsOf 37=0+1:=cH
abbrev tx(w:Wt_)(sl:Vt_)(l:List Int):Prop:=il w 2 1 sl l.length (l.flatMap sj)
abbrev Bb(w:Wt_)(sl:Vt_)(l:List Int):Prop:=il w 37 1 sl l.length (l.flatMap oy)
def KO(l:List Int):l.flatMap oy=l.map λx=>gQ x:=by
 induction l with
 |nil=>rfl
 |cons x l a=>rw[aT,a];rfl
def tx.el{sl:Vt_}(h:tx w sl l){i:Nat}(hi:i<l.length):
  ∃p,(∀(k:IntKind) W,(iX 297 sl (.int k (i:Int))).run pQ W=.ok p W)/\∀(W:Wt_) (c:List Int),tx W sl c->∀d:i<c.length,
   (iL 2 p).run pQ W=.ok (gI c[i]) W/\∀x:Int,∃j,(iS 2 p (gI x)).run pQ W=.ok () j/\tx j sl (c.set i x)/\bn (aQ sl) W j:=by
 obtain⟨b,e,rest,rfl,z,v,y⟩:=h.pos qZ;refine⟨.pointer (some ⟨b,i,none⟩),λk W=>by simp[go_sem,hi,bQ,xB,Program.elem,Go.Vc.kY P3],λW c s d=>?_⟩;obtain⟨r,g,a,u,t,f,q,m⟩:=s.pos qZ;obtain⟨rfl,o,rfl⟩:b=r/\l.length=c.length/\e=g:=by simpa using u
 have n:(c.flatMap sj++a)[i]? =some (gI c[i]):=by
  rw[CC,bP (by simpa using d),bY,ao d];rfl
 refine⟨by simp[go_sem,cO f,n],λx=>⟨W.setCell ⟨b,i,none⟩ (gI x),by simp[go_sem,cO f,n],⟨by rw[tU oD,aZ],.inr ⟨b,e,a,by grind,by grind,?_,by grind,m⟩⟩,(bn.refl _ W).setCell (.inl (show aQ (.slice (some ⟨b,0,none⟩) l.length e) b from rfl)) _ _⟩⟩;rw[jp,ab rfl,f,iN,dI,dQ _ _ (by rw[tU oD];omega),CC,CC,fU]
def IC(x:Int):(oy x).length=1:=rfl
def Bb.el{sl:Vt_}(h:Bb w sl l){i:Nat}(hi:i<l.length):
  ∃p,(∀(k:IntKind) W,(iX 39 sl (.int k (i:Int))).run pQ W=.ok p W)/\∀(W:Wt_) (c:List Int),Bb W sl c->∀d:i<c.length,
   (iL 37 p).run pQ W=.ok (gQ c[i]) W/\∀x:Int,∃j,(iS 37 p (gQ x)).run pQ W=.ok () j/\Bb j sl (c.set i x)/\bn (aQ sl) W j:=by
 obtain⟨b,e,rest,rfl,z,v,y⟩:=h.pos qZ;refine⟨.pointer (some ⟨b,i,none⟩),λk W=>by simp[go_sem,hi,bQ,Ce,Program.elem,Go.Vc.kY ad8],λW c s d=>?_⟩;obtain⟨r,g,a,u,t,f,q,m⟩:=s.pos qZ;obtain⟨rfl,o,rfl⟩:b=r/\l.length=c.length/\e=g:=by simpa using u
 have n:(c.flatMap oy++a)[i]? =some (gQ c[i]):=by
  rw[KO,bP (by simpa using d),bY,ao d];rfl
 refine⟨by simp[go_sem,cO f,n],λx=>⟨W.setCell ⟨b,i,none⟩ (gQ x),by simp[go_sem,cO f,n],⟨by rw[tU IC,aZ],.inr ⟨b,e,a,by grind,by grind,?_,by grind,m⟩⟩,(bn.refl _ W).setCell (.inl (show aQ (.slice (some ⟨b,0,none⟩) l.length e) b from rfl)) _ _⟩⟩;rw[jp,ab rfl,f,iN,dI,dQ _ _ (by rw[tU IC];omega),KO,KO,fU]
def mkZ{t e:TypeId}{by_:Nat}{z:Vt_}{n:Nat}(h:Tryz.prog.underlying t=some (.slice e))(l:fj pQ e 1 by_=true)(k:(Tryz.prog.info? e).bind (·.zero)=some z)(g:z.cells= #[z])(j:z.oneCell' =true)(f:by_<=1000)(m:n<=1000000)
  (i:∀a c,il c e 1 a n (List.replicate n z)->M0 w c->(∀b,aQ a b->w.heap.size<=b)->K a c):rx pQ (Ed t (gI (n:Int)) (gI (n:Int))) w K:=by
 have d:(by_:Int)*(n:Int)<=281474976710656:=by
  have:by_*n<=1000*1000000:=gj f m;omega
 apply LM (z:=z) h (dG l) qZ qZ d k;rw[show(n:Int).toNat=n from rfl]
 have o:madeCells z.cells (n*1)=(List.replicate n z).toArray:=by
  apply jU;rw[g,toList_madeCells_one,mq]
 rw[o];refine i _ _ ⟨by simp,.inr ⟨w.heap.size,n,[],rfl,aB _,by rw[dZ,ab rfl,aC],by simp,rfl⟩⟩ nl λb d=>?_;have:b=w.heap.size:=by cases d;rfl
 omega
def ZB(n:Nat):(List.replicate n (gI 0):LV_)=(List.replicate n (0:Int)).flatMap sj:=by rw[CC,List.map_replicate]
def ao6(n:Nat):(List.replicate n (gQ 0):LV_)=(List.replicate n (0:Int)).flatMap oy:=by rw[KO,List.map_replicate]
def N5{x:Int}(a:K (.bool (decide (x<0))) w):Ca pQ 354 #[.int .i64 x] w K:=by
 refine cN Tryz.func354 ?_;exact Kj (.bool (decide (x<0))) a
def Nm{s:Vt_}(h:Rd w 1 s l.length (l.flatMap sj))(H:l.length<=1000000)(g:K (.bool (l.any λx=>decide (x<0))) w):
  Ca pQ 353 #[s,.func (.func 354) #[] #[]] w K:=by
 refine cN Tryz.func353 ?_
 have m:Ca pQ 376 #[s,.func (.func 354) #[] #[]] w λv q=>rv pQ (nV .geq 3 true v (gI 0)) q λy r=>K y r:=by
  refine cN Tryz.func376 ?_;obtain⟨a,c,z⟩:=h.isSl;apply ke (gI (l.length:Int)) w (by rw[z];simp[go_sem])
  refine iz (λst W=>∃(i:Nat) (x:Vt_),i<=l.length/\st=(x,gI i,())/\W=w/\∀j:Nat,∀k:j<l.length,j<i->¬l[j]<0)
   (λst _=>match st.2.1 with| .int _ i=>l.length - i.toNat|_=>0) ⟨0,gI 0,qZ,rfl,rfl,λj _ h=>qZ⟩ ?_
  rintro⟨_,_⟩ W ⟨i,x,G,⟨⟩,rfl,n⟩ D o;refine rT ?_;intro _;by_cases e:i<l.length
  ·have f:(i:Int)<(l.length:Int):=qZ;refine ee f ?_;obtain⟨b,u,A,C,F,E,hC,p⟩:=Kk oD h rfl xB P3 e rfl;apply dy (A .i64);refine nm hC p ?_;simp only[iI];apply N5;by_cases d:l[i]<0
   ·rw[zZ d];have:(l.any λx=>decide (x<0))=true:=ia.2 ⟨_,ar e,by simpa using d⟩;rw[this]at g;exact Kj (.bool true) g
   ·rw[JV d];apply az (gI ((i+1:Nat):Int)) W (by simp[go_sem];rw[mL]);refine o _ _ ⟨i+1,_,qZ,rfl,rfl,λj k t=>?_⟩ (by grind);by_cases B:j=i
    ·subst B;exact d
    ·grind
  ·obtain rfl:i=l.length:=qZ;refine fh ?_
   have:(l.any λx=>decide (x<0))=false:=by
    rw[List.any_eq_false];intro x d;obtain⟨j,k,rfl⟩:=bI d;simpa using n j k k
   rw[this]at g;exact Kj (.bool false) g
 exact m
def oT(t s:Nat)(ws:List Nat):List Nat:=ws.map λx=>t*x / s
def qz(t s:Nat)(ws:List Nat):List Nat:=ws.map λx=>t*x%s
def LD(t s:Nat)(ws:List Nat):s*(oT t s ws).sum+(qz t s ws).sum=t*ws.sum:=by
 induction ws with
 |nil=>simp[oT,qz]
 |cons x ws a=>
  unfold oT qz at*;simp only[aH,bp];have:=lm (t*x) s;rw[l8,l8];omega
def TM(hs:0<s)(t:Nat)(ws:List Nat):(qz t s ws).sum<=ws.length*s:=by
 induction ws with
 |nil=>simp[qz]
 |cons x ws a=>
  unfold qz at*;simp only[aH,bp,aR];have:=fV (t*x) hs;rw[nH];omega
def FD(hs:0<s)(t:Nat){ws:List Nat}(h:ws.sum<=s):(oT t s ws).sum<=t:=by
 have c:=LD t s ws;have b:t*ws.sum<=t*s:=lh t h;have a:s*(oT t s ws).sum<=s*t:=by grind
 exact Nat.le_of_mul_le_mul_left a hs
def Iv(hs:0<s)(t:Nat){ws:List Nat}(h:ws.sum=s):t - (oT t s ws).sum<=ws.length:=by
 have a:=LD t s ws;have c:=TM hs t ws;rw[h,eb t s]at a
 have b:s*(t - (oT t s ws).sum)<=s*ws.length:=by
  rw[Nat.mul_sub,eb s ws.length];omega
 exact Nat.le_of_mul_le_mul_left b hs
def yC(r:List Nat)(i k:Int):Int:=if r.getD k.toNat 0<r.getD i.toNat 0 then -1 else if r.getD i.toNat 0<r.getD k.toNat 0 then 1 else 0
def uO(r:List Nat):List Int:=Srt.stable (qv (yC r)) ((List.range r.length).map λi:Nat=>(i:Int))
def qo:List Int->List Int->List Int
 | [],p=>p
 |i::ix,p=>qo ix (p.set i.toNat (p.getD i.toNat 0+1))
def sI(t:Nat)(ws:List Nat):List Int:=
 qo ((uO (qz t ws.sum ws)).take (t - (oT t ws.sum ws).sum)) ((oT t ws.sum ws).map λx:Nat=>(x:Int))
def fq(t:Int)(l:List Int):List Int×Int:=
 if 1000<l.length then([],3)
 else if t<0\/(l.any λx=>decide (x<0))=true then([],2)
 else if¬dM l.sum then([],6)
 else if t=0 then(List.replicate l.length 0,0)
 else if l.sum=0 then([],10)
 else(sI t.toNat (l.map Int.toNat),0)
def OB{n:Nat}{T:TypeId}{rs:Vt_}{r:List Nat}{i k:Nat}(j:hC w n #[rs] T)(g:Bb w rs (r.map λx:Nat=>(x:Int)))(hi:i<r.length)(o:k<r.length)
  (e:∀t,M0 w t->K (gI (yC r (i:Int) (k:Int))) t):Ca pQ 358 #[.int .i64 (i:Int),gI (k:Int),.pointer (some ⟨n,0,none⟩)] w K:=by
 refine cN Tryz.func358 ?_;obtain⟨a,c,z,-⟩:=g.isSl;obtain⟨p,v,y⟩:=g.el (i:=i) (by simpa using hi);obtain⟨q,u,A⟩:=g.el (i:=k) (by simpa using o);have d:∀W,M0 w W->(iL 39 (cU n 0)).run pQ W=.ok rs W:=λW m=>by have:=m.hpk j id;rw[z]at this|-;simp[go_sem,this]
 have h:∀W,M0 w W->(iL 37 p).run pQ W=.ok (gQ ((r[i]:Nat):Int)) W:=λW m=>by
  have:=(y W _ (g.mod m eI) (by simpa using hi)).1;simpa using this
 have f:∀W,M0 w W->(iL 37 q).run pQ W=.ok (gQ ((r[k]:Nat):Int)) W:=λW m=>by
  have:=(A W _ (g.mod m eI) (by simpa using o)).1;simpa using this
 have md:M0 w w.drew:=wl;have b:M0 w w.drew.drew:=md.drew
 have B:yC r (i:Int) (k:Int)=if r[k]<r[i]then -1 else if r[i]<r[k]then 1 else 0:=by
  unfold yC;rw[fS,fS,iR,iR,ao hi,ao o,cR,cR]
 rw[B]at e;refine gC (d _ md) (gP (λW=>v .i64 W) (gC (h _ md) (gC (d _ md) (gP (λW=>u .i64 W) (gC (f _ md) ?_)))));refine vn ?_;by_cases s:r[k]<r[i]
 ·rw[zZ s];rw[ab s]at e;exact e _ md
 ·rw[bG,aa (by grind)];rw[aa s]at e;refine gC (d _ b) (gP (λW=>v .i64 W) (gC (h _ b) (gC (d _ b) (gP (λW=>u .i64 W) (gC (f _ b) ?_)))));refine vn ?_;by_cases l:r[i]<r[k]
  ·rw[zZ l];rw[ab l]at e;exact e _ b
  ·rw[bG,aa (by grind)];rw[aa l]at e;exact e _ b
end Go.Proofs
