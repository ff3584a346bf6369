/- Part of a proof. -/
import Derived.Laws.BitsAllLaws
import Derived.Test.YtekbnpagidkbbaaGreatT27
set_option linter.all false
set_option maxRecDepth 100000
set_option maxHeartbeats 4000000
namespace Go.Proofs
open Go Go.Vc Go.Shelf
open Go.Sort (swp ltInt breakPatterns breakStep breakStep_permIn xorNext xorNextN xorNext_toNat xorNextN_lt bitsLen two_pow_bitsLen_le)
def U7:∀n,n<50->Lib.bitLen n=bitsLen n:=by
 have h:(List.range 50).all (λn=>Lib.bitLen n==bitsLen n)=true:=cH;intro n e;simpa using aW.1 h n (d8.2 e)
def Fg:∀n,n<50->bitsLen n<=6:=by
 have h:(List.range 50).all (λn=>decide (bitsLen n<=6))=true:=cH;intro n e;simpa using aW.1 h n (d8.2 e)
section
variable{L M:List As}{K:Value->WP}{k0:WP}{s:Vt_}{d:Array Int}{x y a b c n q:Nat}
def Mv(k:n<50)(h:Gs L (K (gI (bitsLen n:Nat)))):Gs L (Cw pQ 233 #[.int .u64 (n:Int)] K):=by
 refine sN Tryz.func233 ?_
 exact⟨λw y=>⟨(Any.bits_Len64 (P:=pQ) (ρ:=Tryz.lays134_ren) {Tryz.lays134 with} (n:Int) w qZ qZ).mono λe i ⟨j,g⟩=>⟨_,j,by
  subst g;rw[fS,U7 n k];exact h.go i y⟩⟩⟩
def Xj(f:n<50)(e:Gs L (K (gQ ((1<<<bitsLen n:Nat):Int)))):Gs L (Cw pQ 325 #[.int .i64 (n:Int)] K):=by
 refine sN Tryz.func325 ?_;refine au ?_;refine Mv f ?_;have g:=Fg n f;generalize bitsLen n=k at g e|-;refine Gs.V (v:=gQ ((1<<<k:Nat):Int)) (λw _=>?_) e;rcases(by omega:k=0\/k=1\/k=2\/k=3\/k=4\/k=5\/k=6)with rfl|rfl|rfl|rfl|rfl|rfl|rfl<;>(simp[go_sem];try decide)
def ZK(f:x<18446744073709551616)(h:Gs (pt q [.int .u64 (xorNextN x:Nat)] 436::M) (K (gQ (xorNextN x:Nat))))(p:bL L (pt q [.int .u64 (x:Int)] 436::M):=by repeat first|(with_reducible exact cF)|(with_reducible apply cS)):Gs L (Cw pQ 326 #[.pointer (some ⟨q,0,none⟩)] K):=by
 refine Gs.pk ?_ p;refine sN Tryz.func326 ?_;have l:∀x:Nat,IntKind.u64.wrap ((x:Int)*8192)=((x*8192%18446744073709551616:Nat):Int):=λx=>by rw[IntKind.wrap_u64];omega
 have r:∀x:Nat,IntKind.u64.wrap ((x:Int)*131072)=((x*131072%18446744073709551616:Nat):Int):=λx=>by rw[IntKind.wrap_u64];omega
 have m:∀x:Nat,(x:Int) / 128=((x / 128:Nat):Int):=λx=>by omega
 have i:∀{x y:Nat},x<18446744073709551616->y<18446744073709551616->x ^^^ y<18446744073709551616:=λf k=>Nat.xor_lt_two_pow (n:=64) f k;have g:=λx=>fV x (show 0<18446744073709551616 by decide);unfold xorNextN at h
 dsimp only at h
 refine au ?_;have j:=i f (g (x*8192));have o:=i j (show(x ^^^ (x*8192%18446744073709551616)) / 128<18446744073709551616 by omega);rw[l,u64_xor_nat _ _ f (g _),m,u64_xor_nat _ _ j qZ,r,u64_xor_nat _ _ o (g _)];exact h
def bpR(f:UInt64×Array Int->Nat->UInt64×Array Int):Nat->Nat->UInt64×Array Int->UInt64×Array Int
 |_,0,x=>x
 |i,n+1,x=>bpR f (i+1) n (f x i)
def Xl(t:Gs (ua s (breakPatterns d a b)::M) (K (.tuple #[])))(p:bL L (ua s d::M):=by repeat first|(with_reducible exact cF)|(with_reducible apply cS))(h:12<b - a/\b<=d.size/\d.size<=49:=by omega):Gs L (Cw pQ 339 #[s,gI a,gI b] K):=by
 refine Gs.pk ?_ p;refine sN Tryz.func339 ?_;have Q:(b:Int) - a=((b - a:Nat):Int):=qZ;refine Gs.V (v:=gI ((b - a:Nat):Int)) (λw _=>by simp[go_sem];rw[Q,ie qZ qZ]) ?_;refine au ?_;refine Gs.I1 qZ ?_;refine au ?_;intro q;refine au ?_;refine Xj qZ ?_;have U:=fW (b - a) 4;have I:3<=(b - a) / 4:=qZ;refine au ?_
 have e:breakPatterns d a b=(bpR (breakStep a (b - a) (1<<<bitsLen (b - a))) (a+(b - a) / 4*2 - 1) 3 (UInt64.ofNat (b - a),d)).2:=by
  unfold breakPatterns
  dsimp only
  rw[ab qZ];rfl
 rw[e]at t;have hp:=λ(st:UInt64×Array Int) (z:Nat)=>breakStep_permIn a b st z qZ;have A:=two_pow_bitsLen_le (n:=b - a) qZ;have F:=Fg (b - a) qZ;have H:(1<<<bitsLen (b - a):Nat)<=2*(b - a)/\1<=(1<<<bitsLen (b - a):Nat):=by rw[Nat.one_shiftLeft];exact⟨A,jw _⟩
 generalize(1<<<bitsLen (b - a):Nat)=N at t hp H|-;generalize E:bpR (breakStep a (b - a) N) (a+(b - a) / 4*2 - 1) 3 (UInt64.ofNat (b - a),d)=R at t
 refine Gs.l (λx:Nat×UInt64×Array Int=>(gI (x.1:Nat),())) (λx=>a+(b - a) / 4*2+2 - x.1) (λx=>pt q [.int .u64 (x.2.1.toNat:Nat)] 436::ua s x.2.2::M) (λx=>(a<=x.1/\x.1<=a+(b - a) / 4*2+2)/\x.2.2.size=d.size/\bpR (breakStep a (b - a) N) x.1 (a+(b - a) / 4*2+2 - x.1) x.2=R) (a+(b - a) / 4*2 - 1,UInt64.ofNat (b - a),d)
  (dP (λv=>(Value.int .i64 v,())) qZ) ⟨by dsimp only;omega,rfl,by rw[<-E];congr 1;dsimp only;omega⟩ ?_ (by rw[show(UInt64.ofNat (b - a)).toNat=b - a by simp;omega];exact .refl)
 clear E;rintro⟨i,r,f⟩ ⟨C,G,j⟩ T l
 dsimp only at C G j l|-
 refine Gs.z (au ?_);refine Gs.I (λP=>?_) λP=>?_
 ·obtain⟨m,A⟩:∃m,a+(b - a) / 4*2+2 - i=m+1:=⟨a+(b - a) / 4*2+2 - i - 1,qZ⟩
  rw[A]at j;have k:=(hp (r,f) i (by dsimp only;omega) C.1 qZ).1;refine ZK (UInt64.toNat_lt r) ?_;rw[<-xorNext_toNat];change bpR (breakStep a (b - a) N) (i+1) m (breakStep a (b - a) N (r,f) i)=R at j;unfold breakStep at j k
  dsimp only at j k
  have O:(xorNext r).toNat&&& (N - 1)<=N - 1:=Nat.and_le_right;refine Gs.V (v:=gQ ((N - 1:Nat):Int)) (λw _=>by simp[go_sem];rw[show(N:Int) - 1=((N - 1:Nat):Int) by omega,nr qZ qZ]) ?_;refine Gs.V (v:=gQ (((xorNext r).toNat&&& (N - 1):Nat):Int)) (λw _=>by simp only[go_sem];simp[go_sem];rw[u64_and_nat _ _ (UInt64.toNat_lt _) qZ]) ?_;generalize(xorNext r).toNat&&& (N - 1)=o at j O k|-;refine au ?_;refine Gs.j1 (gI ((if o≥b - a then o - (b - a)else o:Nat):Int),()) (λJ u=>?_) ?_
  ·refine au ?_;refine Gs.I (λS=>?_) λS=>?_
   ·rw[ab qZ]at u;refine Gs.V (v:=gI ((o - (b - a):Nat):Int)) (λw _=>by simp[go_sem];rw[show(o:Int) - (b - a:Nat)=((o - (b - a):Nat):Int) by omega,ie qZ qZ]) ?_;exact u
   ·rw[aa qZ]at u;exact u
  have B:(if o≥b - a then o - (b - a)else o)<b - a:=by split<;>omega
  generalize(if o≥b - a then o - (b - a)else o)=D at j k B|-;refine Gs.z (au ?_);refine Gs.sw i (a+D) ?_;refine au ?_;exact(l (i+1,xorNext r,swp f i (a+D)) ⟨by dsimp only;omega,by dsimp only;omega,by dsimp only;rw[show a+(b - a) / 4*2+2 - (i+1)=m by omega];exact j⟩ (by dsimp only;omega)).fin
 ·rw[show a+(b - a) / 4*2+2 - i=0 by omega]at j;obtain rfl:(r,f)=R:=j;exact t.fin
end
end Go.Proofs
namespace Go.Proofs
open Go Go.Vc
open Go.Sort (ltInt swo_ltInt Hint PermIn SortedIn Below permIn_trans permIn_refl insertionSort_holds heapSort_holds breakPatterns breakPatterns_holds reverseRange reverseRange_holds choosePivot choosePivot_holds partialInsertionSort_holds partitionEqual partitionEqual_holds partition partition_holds round_eq round_part)
structure PI(s:Vt_)(M:List As)(K:Value->WP)(a b:Nat)(d:Array Int):Prop where
 sz:b<=d.size/\d.size<=49
 bl:Below ltInt a b d
 go:∀R,PermIn a b d R->SortedIn ltInt a b R->Gs (ua s R::M) (K (.tuple #[]))
def PI.perm{s:Vt_}{M:List As}{K:Value->WP}{a b:Nat}{d e:Array Int}(h:PI s M K a b d)(p:PermIn a b d e):PI s M K a b e:=
 ⟨by rw[p.1];exact h.sz,h.bl.perm h.sz.1 p,λR c f=>h.go R (permIn_trans _ _ _ a b p c) f⟩
def Xn:∀n,∀{M:List As} {K:Value->WP} {s:Vt_} {d:Array Int} {a b e:Nat},b - a<=n->a<=b->e<=100->PI s M K a b d->Gs (ua s d::M) (Cw pQ 298 #[s,gI (a:Nat),gI (b:Nat),gI (e:Nat)] K):=by
 intro n;induction n using Nat.strongRecOn with
 |_ n X=>
 intro M K s d a b e D i m f;refine sN Tryz.func298 ?_;refine Gs.l (λx:Array Int×Nat×Nat×Nat×Bool×Bool=>(gI x.2.2.2.1,gI x.2.2.1,gI x.2.1,.bool x.2.2.2.2.1,.bool x.2.2.2.2.2,())) (λx=>x.2.2.1 - x.2.1) (λx=>ua s x.1::M) (λx=>(x.2.1<=x.2.2.1/\x.2.2.1 - x.2.1<=n/\x.2.2.2.1<=100)/\PI s M K x.2.1 x.2.2.1 x.1) (d,a,b,e,true,true) rfl ⟨⟨i,D,m⟩,f⟩ ?_ .refl;clear D i m f d a b e;rintro⟨d,a,b,e,C,P⟩ ⟨⟨i,D,m⟩,f⟩ K1 p
 dsimp only at i D m f p|-
 have k:=f.sz;refine Gs.z ?_;refine Gs.V (v:=gI ((b - a:Nat):Int)) (λw _=>by simp[go_sem];rw[show(b:Int) - a=((b - a:Nat):Int) by omega,ie qZ qZ]) ?_;refine au ?_;refine Gs.I (λI=>?_) λI=>?_
 ·refine Vr ?_;obtain⟨O,G⟩:=insertionSort_holds swo_ltInt d a b i k.1;exact f.go _ O G
 refine au ?_;refine Gs.Ib (λH=>?_) λH=>?_
 ·refine Ua ?_;obtain⟨O,G⟩:=heapSort_holds swo_ltInt d a b i k.1;exact f.go _ O G
 have S:1<=e:=by simp at H;omega
 refine Gs.j (λx:Array Int×Nat=>(gI x.2,())) (λx=>ua s x.1::M) (λx=>x.2<=100/\PI s M K a b x.1) (λJ g=>?_) ?_
 ·cases C
  ·refine au ?_;refine Xl ?_;refine au ?_;have:=g (breakPatterns d a b,e - 1) ⟨by dsimp only;omega,f.perm (breakPatterns_holds d a b i k.1)⟩
   dsimp only at this
   rw[show((e - 1:Nat):Int)=e - 1 by omega]at this;exact this
  ·refine au ?_;exact g (d,e) ⟨m,f⟩
 clear k f m S H d e;rintro⟨d,e⟩ ⟨m,f⟩
 dsimp only at m f|-
 have k:=f.sz;refine Gs.z ?_;refine XQ ?_;have l:=choosePivot_holds ltInt d a b qZ;generalize choosePivot ltInt d a b=c at l|-;obtain⟨c,h⟩:=c
 dsimp only at l|-
 refine au ?_;refine Gs.j (λx:Array Int×Nat×Hint=>(gI x.2.1,gI (zW x.2.2),())) (λx=>ua s x.1::M) (λx=>(a<=x.2.1/\x.2.1<b)/\PI s M K a b x.1) (λJ g=>?_) ?_
 ·cases h
  ·refine Gs.V (v:=.bool false) (λw _=>by simp[go_sem,zW]) (Gs.If ?_);exact g (d,c,.unknown) ⟨l,f⟩
  ·refine Gs.V (v:=.bool false) (λw _=>by simp[go_sem,zW]) (Gs.If ?_);exact g (d,c,.increasing) ⟨l,f⟩
  ·refine Gs.V (v:=.bool true) (λw _=>by simp[go_sem,zW]) (Gs.It ?_);refine Y1 ?_;refine au ?_;have:=g (reverseRange d a b,(b - 1) - (c - a),.increasing) ⟨by dsimp only;omega,f.perm (reverseRange_holds d a b i k.1)⟩
   dsimp only at this
   rw[show(((b - 1) - (c - a):Nat):Int)=b - 1 - (c - a) by omega]at this;exact this
 clear k f l d c h;rintro⟨d,c,h⟩ ⟨l,f⟩
 dsimp only at l f|-
 have k:=f.sz;refine Gs.z ?_;refine Gs.j1 () (λJ g=>?_) ?_
 ·refine Gs.j1 (.bool (C&& P&& decide (h=.increasing)),()) (λJ g=>?_) ?_
  ·cases C
   ·exact Gs.If g
   ·cases P
    ·exact Gs.It (Gs.If g)
    ·refine Gs.It (Gs.It ?_);cases h
     ·exact Gs.V (v:=.bool false) (λw _=>by simp[go_sem,zW]) g
     ·exact Gs.V (v:=.bool true) (λw _=>by simp[go_sem,zW]) g
     ·exact Gs.V (v:=.bool false) (λw _=>by simp[go_sem,zW]) g
  refine Gs.z ?_;refine Gs.Ib (λo=>?_) λo=>?_
  ·refine Xi ?_;refine Gs.Ib (λhp=>?_) λhp=>?_
   ·have q:=(partialInsertionSort_holds swo_ltInt d a b qZ k.1 f.bl).2;rw[X5 qZ]at q;exact f.go d (permIn_refl d a b) (q hp)
   ·exact g
  ·exact g
 refine Gs.z ?_;refine Gs.j1 (.bool (decide (0<a)&& !ltInt d[a - 1]! d[c]!),()) (λJ g=>?_) ?_
 ·refine au ?_;refine Gs.Ib (λo=>?_) λo=>?_
  ·have ha:0<a:=by simp at o;omega
   rw[aA ha,cK]at g;refine au ?_;refine Gs.ir (a - 1) ?_;refine Gs.ir c ?_;refine nL ?_;refine au ?_;exact g
  ·rw[aG (by simp at o;omega),bh]at g;exact g
 refine Gs.z ?_;refine Gs.Ib (λo=>?_) λo=>?_
 ·refine Vf ?_;simp only[ah,ax,Bool.not_eq_true']at o;generalize Q:partitionEqual ltInt d a b c=r;obtain⟨j,W⟩:=r;obtain⟨U,T,F,N,E⟩:=round_eq swo_ltInt (partitionEqual_holds ltInt) o.1 l.1 l.2 k.1 f.bl o.2 Q;exact p (W,j,b,e,C,P) ⟨by dsimp only;omega,by rw[F];exact k,N,λR t y=>f.go R (E R t y).1 (E R t y).2⟩ (by dsimp only;omega)
 ·refine UC ?_;generalize Q:partition ltInt d a b c=r;obtain⟨j,Y,W⟩:=r;obtain⟨U,T,F,N,E,Z,g7⟩:=round_part swo_ltInt (partition_holds ltInt) l.1 l.2 k.1 f.bl Q
  dsimp only
  refine au ?_;refine Gs.I (λhm=>?_) λhm=>?_
  ·refine au ?_;refine X (j - a) qZ (aB _) U m ⟨qZ,N,λR t y=>?_⟩;obtain⟨L,B⟩:=Z R t y;refine au ?_;exact p (R,j+1,b,e,_,Y) ⟨by dsimp only;omega,by rw[t.1,F];exact k,L,λu A z=>f.go u (B u A z).1 (B u A z).2⟩ (by dsimp only;omega)
  ·refine au ?_;refine X (b - (j+1)) qZ (a:=j+1) (aB _) T m ⟨qZ,E,λR t y=>?_⟩;obtain⟨L,B⟩:=g7 R t y;exact p (R,a,j,e,_,Y) ⟨by dsimp only;omega,by dsimp only;rw[t.1,F];omega,L,λu A z=>f.go u (B u A z).1 (B u A z).2⟩ (by dsimp only;omega)
def Tz{M L:List As}{K:Value->WP}{s:Vt_}{z:List Int}(j:z.length<=49)(g:Gs (ow s 37 1 z.length ((z.mergeSort λx y=>decide (x<=y)).flatMap oy)::M) (K (.tuple #[])))(p:bL L (ow s 37 1 z.length (z.flatMap oy)::M):=by repeat first|(with_reducible exact cF)|(with_reducible apply cS)):Gs L (Cw pQ 242 #[s] K):=by
 refine Gs.pk ?_ p;refine Gs.isSl (λa c e=>?_) cF;subst e;refine sN Tryz.func242 ?_;refine au ?_;refine Mv (n:=z.length) qZ ?_;have k:=Fg z.length qZ;refine Xn z.length (d:=z.toArray) (a:=0) (by simp) (aw _) qZ ⟨by simp;omega,.inl rfl,λR f b=>?_⟩;have e:=Go.Sort.sorted_unique_holds swo_ltInt (λx y f b=>by simp only[ltInt,fQ]at f b;omega) z.toArray R (by simpa using f) (by simpa using b)
 have i:(λx y=> !ltInt y x)=λx y:Int=>decide (x<=y):=by
  funext x y;unfold ltInt;by_cases h:x<=y<;>simp[h]<;>omega
 rw[i]at e;refine Gs.turn (A' :=ow (.slice a z.length c) 37 1 z.length ((z.mergeSort λx y=>decide (x<=y)).flatMap oy)) (λw F h=>?_) g;unfold ua at h;rw[e,List.length_mergeSort]at h;exact h
end Go.Proofs
namespace Go.Proofs
open Go Go.Vc
section
variable{L L0 M:List As}{K:Value->WP}{mm:Nat}{D:List (Int×(Int×Value))}
def SQ(G:D.length<=49)(w:∀(s:Vt_) (ks:List Int),ks.Perm (D.map (·.1))->ks.Pairwise (·<= ·)->Gs (ow s 37 1 ks.length (ks.flatMap oy)::Pa mm D::M) (K s))(p:bL L (Pa mm D::M):=by repeat first|(with_reducible exact cF)|(with_reducible apply cS)):
  Gs L (Cw pQ 172 #[.map (some mm)] λv=>Cw pQ 171 #[v] K):=by
 refine Gs.pk ?_ p;refine sN Tryz.func172 ?_;refine au ?_;intro c;refine sN Tryz.func171 ?_;refine sN Tryz.func241 ?_;refine sN Tryz.func297 ?_;refine au ?_;intro q;refine Gs.rfI rfl λd r o hp Y=>?_;refine sN Tryz.func243 ?_;refine au ?_;refine Gs.rng DQ (λit=>?_) (by repeat first|(with_reducible exact cF)|(with_reducible apply cS));refine Gs.nil 37 1 ?_;refine Gs.l (λ_:List (Int×(Int×Value))×Option (Int×(Int×Value))×List Int×(Option Addr×Nat)=>()) (·.1.length) (λx=>ME qa wK mm D it x.1 x.2.1::ow (eM x.2.2.2 x.2.2.1.length) 37 1 x.2.2.1.length (x.2.2.1.flatMap oy)::pt q [eM x.2.2.2 x.2.2.1.length] 39::pJ (d+1) r::HA d::pt c [.map (some mm)] 158::M) (λx=>(x.2.2.1++x.1.map (·.1)).Perm (D.map (·.1))) (D,none,[],(none,0)) rfl (.refl _) ?_ (by simp only[List.length_nil,bo,eM];exact(by repeat first|(with_reducible exact bL.refl)|((apply kp);(·repeat first|(with_reducible exact cF)|(with_reducible apply cS)))));rintro⟨R,J,A,sl⟩ g H j
 dsimp only at g j|-
 refine Gs.z ?_;refine Gs.nxt (λC=>?_) (λi e B=>?_) (by repeat first|(with_reducible exact cF)|(with_reducible apply cS))
 ·subst C;rw[ed,aC]at g;refine au ?_;refine Gs.xh o hp ?_;refine Gs.ak ?_;refine au ?_;refine Gs.tw ?_;have N:A.length=D.length:=by have:=g.length_eq;simpa using this
  refine Tz (z:=A) qZ ?_;have m:=List.mergeSort_perm A λx y=>decide (x<=y);have t:=List.pairwise_mergeSort (le:=λx y:Int=>decide (x<=y)) (by simp;omega) (by simp;omega) A;have:=w (eM sl A.length) (A.mergeSort λx y=>decide (x<=y)) (m.trans g) (t.imp λh=>by simpa using h);rw[List.length_mergeSort]at this;exact this.fin
 ·refine au ?_;refine Gs.ent ?_ (by repeat first|(with_reducible exact cF)|(with_reducible apply cS));refine au ?_;have E:A.length<=D.length:=by have:=g.length_eq;simp at this;omega
  have b:=(aF.1 B)
  refine Y rfl (λF I k=>?_) (by repeat first|(with_reducible exact cF)|(with_reducible apply cS));refine Gs.gw o ?_ cF;refine au ?_;refine Gs.push (l:=A) (x:=e.1) (f:=oy) qY ai3 (λ_=>rfl) rfl rfl qZ (by decide) (λa u=>?_) (by repeat first|(with_reducible exact cF)|(with_reducible apply cS));refine au ?_;refine k ?_ (by repeat first|(with_reducible exact cF)|(with_reducible apply cS));refine au ?_;refine(j (R.eraseIdx i,some e,A++[e.1],(a,u)) ?_ ?_).fin
  ·obtain⟨m,rfl⟩:=b
   have n:(R[i]::R.eraseIdx i).Perm R:=by
    conv=>rhs;rw[<-ce i R,bN m]
    rw[List.eraseIdx_eq_take_drop_succ];exact ky.symm
   replace n:=n.map (·.1);rw[ag];exact((db A).append n).trans g
  ·dsimp only
   rw[gh b.1];have:=b.1;omega
end
end Go.Proofs
namespace Go.Proofs
open Go Go.Vc
def Wl:∀{rows:List Tn} {k:Nat},wu k rows->rows.Pairwise (λa b=>a.c<b.c)/\∀o∈rows,k<=o.c
 | [],_,_=>⟨.nil,by simp⟩
 |o::r,k,h=>by
  obtain⟨g,j,l,f⟩:=h;obtain⟨i,d⟩:=Wl f;exact⟨bJ.2 ⟨λb c=>d b c,i⟩,λb c=>(aq.1 c).elim (λe=>e▸g) λc=>by have:=d b c;omega⟩
def Zf:jS pQ 156=some (wK (0,jq)):=cH
def wD:∀{rows:List Tn},(∀o∈rows,JJ o)->(rows.flatMap fl).length<=4000*rows.length
 | [],_=>aB _
 |o::r,h=>by
  have g:=wD λx c=>h x (.tail _ c);obtain⟨b,a,f⟩:=h o (.head _);have d:=fi b;have i:=fi a;have e:=fi (n:=o.b.length) qZ;simp only[aT,ad,aR,fl,fT];omega
section
variable{L L0 M:List As}{K:Value->WP}{m v mm:Nat}{S:ba}{z:Tn×Value}{Z:List (Tn×Value)}{D:List (Int×(Int×Value))}{φ:WP}{x:Vt_}
def C6(a:Gs L (K (.bool true)))(p:bL L (pt m [eE v,x] CQ::M):=by repeat first|(with_reducible exact cF)|(with_reducible apply cS)):Gs L (Cw pQ 71 #[mpt m] K):=by
 have a:=Gs.pk a p.symm;refine Gs.pk ?_ p;refine sN Tryz.func71 ?_;unfold eE at a|-;refine au ?_;exact a
def XY(p:bL L (Pa mm D::M):=by repeat first|(with_reducible exact cF)|(with_reducible apply cS)):∀w,Ss w L->(Builtin.len_ #[158] 3 #[.map (some mm)]).run pQ w=.ok (gI (D.length:Int)) w:=λw y=>(fg p y).elim λF h=>CE DQ h.1
def Yd(d:z∈Z)(h:∀a c,z.2=.slice a z.1.b.length c->Gs L φ)(p:bL L (z7 Z::M):=by repeat first|(with_reducible exact cF)|(with_reducible apply cS)):Gs L φ:=⟨λw y=>(fg p y).elim λF b=>(b.1 z d).rd.isSl.elim λa e=>e.elim λc e=>(h a c e).go w y⟩
def Xz(a:z∈Z)(hl:z.1.b.length<=3000):By (z7 Z) z.2 z.1.b:=⟨λh=>⟨(h.1 z a).rd,λb c=>(h.2 b).2 ⟨z,a,c.sl⟩⟩,qZ⟩
def OY(t:S.Ok)(hZ:wu 0 (Z.map (·.1)))(hn:Z.length<=20)(U:∀z∈Z,JJ z.1)
  (I:∀s,Gs (ju s (fT (lH S.state)++eF Z.length++(Z.map (·.1)).flatMap fl)::pt m [eE v,.map (some mm)] CQ::nB v S::Pa mm (Z.map z6)::z7 Z::M) (K s))
  (p:bL L (pt m [eE v,.map (some mm)] CQ::nB v S::Pa mm (Z.map z6)::z7 Z::M):=by repeat first|(with_reducible exact bL.refl)|((apply kp);(·repeat first|(with_reducible exact cF)|(with_reducible apply cS)))):Gs L (Cw pQ 26 #[mpt m] K):=by
 have h8:=A7 (qP t) (wV t);refine Gs.pk ?_ p;refine sN Tryz.func26 ?_;refine C6 ?_;refine au ?_;refine LJ t λs1=>?_;refine au ?_;have E:By (ju s1 (lH S.state)) s1 (lH S.state):=By.own qZ
 have A:(fT (lH S.state)++eF Z.length).length<=200000000:=by
  have h2:=fi (n:=(lH S.state).length) qZ;have h3:=fi (n:=Z.length) qZ;simp only[ad,fT];omega
 have ht9:(fT (lH S.state)).length<=200000000:=by rw[ad]at A;omega
 generalize C:fT (lH S.state)++eF Z.length=f at A I|-;refine Gs.j (λx:Nat×Option Addr×Nat=>(Value.pointer (some ⟨x.1,0,none⟩),())) (λx=>pt x.1 [.slice x.2.1 f.length x.2.2] 28::ju (.slice x.2.1 f.length x.2.2) f::pt m [eE v,.map (some mm)] CQ::nB v S::Pa mm (Z.map z6)::z7 Z::M) (λ_=>True) (λJ y=>?_) ?_
 ·have y:=λq a c=>y (q,a,c) trivial
  have V:∀{L:List As} {K:Value->WP},(∀W,Gs (ju W (fT (lH S.state))::ju s1 (lH S.state)::L) (K W))->Gs (ju s1 (lH S.state)::L) (Cw pQ 73 #[.slice none 0 0,s1] K):=λh=>by
   refine Gs.nil 5 1 ?_;exact Cs (l:=[]) qZ E h cF .refl (by simp)
  have wn:∀{L:List As} {K:Value->WP} {s},(∀a c,Gs (ju (.slice a f.length c) f::L) (K (.slice a f.length c)))->Gs (ju s (fT (lH S.state))::L) (Cw pQ 72 #[s,gQ Z.length] K):=λh=>by
   refine rI (n:=Z.length) qZ λs3=>?_;rw[C];refine Gs.isSl (λa c e=>?_) cF;subst e;exact h a c
  dsimp only at y
  refine au ?_;refine Gs.An ?_ ?_
  ·refine V λX=>?_;refine au ?_;refine Gs.W XY ?_;rw[af];refine au ?_;refine Gs.An ?_ ?_
   ·refine wn λa c=>?_;refine au ?_;intro q;refine au ?_;exact(y q a c).fin
   ·refine au ?_;intro q;refine au ?_;refine Gs.E (af z6▸XY) ?_;refine au ?_;refine Gs.pk (wn λa c=>?_);refine au ?_;exact(y q a c).fin
  ·refine au ?_;intro q;refine au ?_;refine Gs.pk (V λX=>?_);refine au ?_;refine Gs.W XY ?_;rw[af];refine au ?_;refine wn λa c=>?_;refine au ?_;exact(y q a c).fin
 rintro⟨q,a,c⟩ -
 dsimp only
 refine Gs.z ?_;refine sN Tryz.func74 ?_;refine au ?_;intro cb;refine Gs.rfI rfl λd r hr hp Y=>?_;refine sN Tryz.func170 ?_;refine au ?_;refine SQ (D:=Z.map z6) (by rw[af];omega) λs ks B P=>?_;obtain⟨R,-⟩:=Wl hZ;rw[dA]at R
 have e:ks=Z.map λz=>(z.1.c:Int):=by
  have e1:(Z.map z6).map (·.1)=Z.map λz=>(z.1.c:Int):=by rw[da];rfl
  rw[e1]at B;exact B.eq_of_pairwise (λa b _ _ h1 h2=>qZ) P (dA.2 (R.imp λh=>qZ))
 subst e
 have T:((Z.map z6).map (·.1)).Nodup:=by
  rw[da,List.nodup_iff_pairwise_ne,dA]
  exact R.imp λ{a b} h h' =>by
   have:(a.1.c:Int)=(b.1.c:Int):=h';omega
 rw[af];refine Gs.len qY (mZ (by repeat first|(with_reducible exact cF)|(with_reducible apply cS))) ?_;refine Gs.l (λx:Nat×Option Addr×Nat=>(Value.int .i64 x.1,())) (Z.length - ·.1) (λx=>pt q [.slice x.2.1 (f++((Z.map (·.1)).take x.1).flatMap fl).length x.2.2] 28::ju (.slice x.2.1 (f++((Z.map (·.1)).take x.1).flatMap fl).length x.2.2) (f++((Z.map (·.1)).take x.1).flatMap fl)::pJ (d+1) r::HA d::ow s 37 1 Z.length ((Z.map λz=>(z.1.c:Int)).flatMap oy)::pt cb [mpt m] 65::pt m [eE v,.map (some mm)] CQ::nB v S::Pa mm (Z.map z6)::z7 Z::M) (λx=>x.1<=Z.length) (0,a,c) rfl (aw _) ?_ (by simp only[bS,bo,aC];exact(by repeat first|(with_reducible exact bL.refl)|((apply kp);(·repeat first|(with_reducible exact cF)|(with_reducible apply cS)))));rintro⟨i,a1,c1⟩ hi K1 j
 dsimp only at hi j|-
 refine Gs.z (au ?_);refine Gs.I (λh=>?_) λh=>?_
 ·have u:i<Z.length:=qZ;refine Gs.it (l:=Z.map λz=>(z.1.c:Int)) qY Kx (λ_=>rfl) Bj (mZ (by repeat first|(with_reducible exact cF)|(with_reducible apply cS))) (by simp) (by simpa using u) ?_;rw[cn];refine au ?_;refine Gs.look (enc:=qa) (ev:=wK) (D:=Z.map z6) (x:=(Z[i].1.c:Int)) (wK (0,jq)) DQ CO Zf ?_ (by repeat first|(with_reducible exact cF)|(with_reducible apply cS));have k:Z[i]∈Z:=ar u;have F:lk (Z.map z6) (Z[i].1.c:Int)=some ((Z[i].1.q:Int),Z[i].2):=rN T (aD.2 ⟨Z[i],k,rfl⟩);rw[F]
  have h40:(((Z.map (·.1)).take i).flatMap fl).length<=100000:=by
   have:=wD (rows:=(Z.map (·.1)).take i) λo ho=>by
    obtain⟨z,k,rfl⟩:=aD.1 (bm ho);exact U z k
   have h3:((Z.map (·.1)).take i).length<=20:=by rw[av,af];omega
   omega
  have w:=U _ k
  have g:f++((Z.map (·.1)).take i).flatMap fl++eF Z[i].1.c++eF Z[i].1.q++fT Z[i].1.b=f++((Z.map (·.1)).take (i+1)).flatMap fl:=by
   rw[List.take_succ,bD,bY,ao u];simp[fl]
  have h9:(f++((Z.map (·.1)).take i).flatMap fl).length<=300000000:=by rw[ad];omega
  have j:=λa c=>j (i+1,a,c) (by dsimp only;omega) (by dsimp only;omega)
  dsimp only at j
  generalize f++((Z.map (·.1)).take i).flatMap fl=acc at g h9|-;generalize f++((Z.map (·.1)).take (i+1)).flatMap fl=acc' at g j;refine Yd k (λta tc N=>?_) (by repeat first|(with_reducible exact cF)|(with_reducible apply cS));have O:=Xz k w.2.2;generalize Z[i]=z at N O k w g|-;obtain⟨⟨zc,zq,zb⟩,zt⟩:=z;obtain⟨Q,G,f3⟩:=w
  dsimp only at N O Q G f3 g|-
  subst N;have c10:=fi Q;have q10:=fi G;refine Y rfl (λKN KJ H=>?_) (by repeat first|(with_reducible exact cF)|(with_reducible apply cS));simp only[List.getD_cons_succ,List.getD_cons_zero,wK,Option.elim];refine au ?_;intro kb;refine au ?_;refine Gs.gw hr ?_;refine au ?_;refine rI (n:=zc) Q λX=>?_;refine au ?_;refine rI (n:=zq) G λs3=>?_;refine au ?_;refine Cs (b:=zb) qZ O λs4=>?_;rw[g];refine Gs.isSl (λa2 c2 e2=>?_) cF;subst e2;refine au ?_;refine H ?_ (by repeat first|(with_reducible exact cF)|(with_reducible apply cS));refine au ?_;exact(j a2 c2).fin
 ·have:i=Z.length:=qZ;subst this;rw[ay (by simp)];generalize f++(Z.map (·.1)).flatMap fl=acc at I|-;refine Gs.xh hr hp ?_;refine Gs.ak ?_;refine au ?_;refine Gs.tw ?_;exact(I (.slice a1 acc.length c1)).fin
end
end Go.Proofs
namespace Go.Proofs
open Go Go.Vc
def rda(s:Vt_)(l:List UInt8):As:=⟨λw F=>Rd w 1 s l.length (bv l)/\∀b,F b↔vP s b,λh hb=>h.1.lt ((h.2 _).1 hb),λh m hg=>⟨h.1.mod m λb hb=>hg b ((h.2 b).2 hb),h.2⟩⟩
def By.rda{s:Vt_}{l:List UInt8}(h:l.length<=1000000000):By (rda s l) s l:=⟨λh=>⟨h.1,λb a=>(h.2 b).2 a⟩,h⟩
section
variable{L L0 M:List As}{K:Value->WP}{m v mm:Nat}{S:ba}
def an6(g:∀b,Gs (rda (.slice (some ⟨b,0,none⟩) 1 1) [120]::L) (K (.slice (some ⟨b,0,none⟩) 1 1))):Gs L (Xw pQ (qL 28 1 [(0,gB 120)]) λv=>Xw pQ (sn 28 28 v) K):=⟨λw y=>by
 refine oE [.int .u8 120] vE (dG O5) rfl rfl (by simp[Value.cells]) qZ ?_;have f:(([.int .u8 120]:LV_).flatMap (·.cells.toList)).toArray= #[.int .u8 120]:=rfl;rw[f];have d:(w.alloc (.cells #[.int .u8 120] 5)).heap[w.heap.size]? =some (.cells #[.int .u8 120] 5 (0,0)):=by rw[dZ,ab rfl]
 refine T6 vE cH d ?_;refine(g _).go _ (y.new (((bn.refl _ w).alloc _).freeze (.inr (aB _)) _) (F' :=vP (.slice (some ⟨w.heap.size,0,none⟩) 1 1)) ⟨⟨rfl,.inr ⟨_,0,1,rfl,aB _,⟨#[.int .u8 120],5,Q8 (0,0) 1,?_,by simp,rfl⟩⟩⟩,λ_=>aI⟩ λb ⟨a,n,c,e,_,h⟩=>?_)
 ·rw[wC,ab rfl,d];rfl
 ·cases e;exact Nat.le_of_eq h⟩
def Ki(k:Gs L (K (.bool true))):Gs L (Cw pQ 21 #[] K):=by
 refine sN Tryz.func21 ?_;refine an6 λb=>?_;have o:By (rda (.slice (some ⟨b,0,none⟩) 1 1) [120]) (.slice (some ⟨b,0,none⟩) 1 1) [120]:=.rda (by decide);have g:eF 1=[1]:=mU (by decide);have j:eF 2=[2]:=mU (by decide);refine au ?_;refine sN Tryz.func63 ?_;refine au ?_;intro q;refine au ?_
 have may:∀{L:List As} {K:Value->WP} {a c} (n:Nat),n<=2000->Gs L (K (.bool true))->Gs L (Cw pQ 167 #[.agg #[.int .u64 1,gQ 2,.slice a n c]] K):=λn A h=>by
  refine sN Tryz.func167 ?_;refine au ?_;intro q;refine au ?_;rw[aA (by omega:(n:Int)<=2000)];exact h.drop
 refine may 1 (by decide) ?_;refine au ?_;refine Gs.nil 5 1 ?_;refine rI (l:=[]) (n:=1) (by decide) (λs1=>?_) .refl (by decide);refine au ?_;refine rI (n:=2) (by decide) (λs=>?_) .refl (by simp[g]);refine au ?_;refine Cs (b:=[120]) (by decide) o (λi=>?_) .refl (by repeat first|(with_reducible exact cF)|(with_reducible apply cS)) (by simp[g,j]);rw[g,j,show([]++[1]++[2]++fT [120]:List UInt8)=[1,2,1,120] by simp[fT,mU]];refine au ?_;refine K5 λv m mm=>?_;refine sN Tryz.func28 ?_;refine sN Tryz.func75 ?_;refine au ?_;intro B;have d:By (ju i [1,2,1,120]) i [1,2,1,120]:=.own (by decide);refine EG d λr=>?_;refine xO d ?_;rw[show cL [1,2,1,120] Kr ⟨0,0⟩=(1,⟨1,0⟩)from rfl]
 dsimp only
 refine xO d ?_;rw[show cL [1,2,1,120] Kr ⟨1,0⟩=(2,⟨([1,2]:List UInt8).length,0⟩)from rfl]
 dsimp only
 refine yV (a:=[1,2]) (b:=[120]) (c:=[]) (most:=2000) d (by simp[fT,mU]) rfl (by decide) (by decide) λt=>?_;refine Gs.isSl (λu p e=>?_) cF;subst e;refine au ?_;intro y;refine au ?_;refine Gs.j1 (.bool false,()) (λJ f=>?_) ?_
 ·refine wB d ?_;rw[show kO [1,2,1,120] (⟨(([1,2]:List UInt8)++fT [120]).length,0⟩:Rs)=0 by simp[kO,fT,mU]];refine au ?_;refine may 1 (by decide) ?_;refine au ?_;exact f
 refine Gs.z (au ?_);intro z;refine au ?_;refine Gs.j1 (.bool false,()) (λJ f=>?_) ?_
 ·refine C6 ?_;refine au ?_;exact f
 refine Gs.z (au ?_);refine Gs.lookD (enc:=qa) (ev:=wK) (D:=[]) (x:=1) (wK (0,jq)) DQ CO Zf ?_ (by repeat first|(with_reducible exact cF)|(with_reducible apply cS));unfold wK;refine au ?_;refine Gs.j1 (.bool true,()) (λJ f=>?_) ?_
 ·refine au ?_;exact f
 refine Gs.z (au ?_);refine Gs.str ?_;refine Gs.V (v:=.bool true) (λw _=>by simp[go_sem,qy]) (Gs.It ?_);refine au ?_;refine sN Tryz.func64 ?_;refine au ?_;refine Gs.look (enc:=qa) (ev:=wK) (D:=[]) (x:=1) (wK (0,jq)) DQ CO Zf ?_ (by repeat first|(with_reducible exact cF)|(with_reducible apply cS));unfold wK;refine au ?_;exact k.fin
end
end Go.Proofs
namespace Go.Proofs
open Go Go.Vc
section
variable{L L0 M M2:List As}{B:As}{K:Value->WP}{v:Nat}{S:ba}{s t:Vt_}{l b:List UInt8}
def Gs.cat8(e:∀d,Gs (ju d (l++b)::M) (K d))(f:By B t b)(hl:l.length+b.length<=2000000000)(p:bL L (ju s l::M):=by repeat first|(with_reducible exact cF)|(with_reducible apply cS))(q:bL M (B::M2):=by repeat first|(with_reducible exact cF)|(with_reducible apply cS)):Gs L (Xw pQ (ff #[28,28] 28 [s,t]) K):=by
 refine Gs.pk ?_ p;refine Gs.app (by_:=1) vE vE O5 (λw y=>(fg (cS q) y).elim λF h=>(f.of h).1) (yI _) qZ (λa c=>?_) cF;have:=e (.slice a (l.length+b.length) c);unfold ju at this;rw[ad,sX]at this;exact this
def Ax(n:Nat):∀{L:List As} {K:Value->WP},n<18446744073709551616->(∀s,Gs (ju s (eF n)::L) (K s))->Gs L (Cw pQ 24 #[.int .u64 n] K):=by
 induction n using Nat.strongRecOn with
 |_ n g=>
  intro L K j a;refine sN Tryz.func24 ?_;refine au ?_
  have lit:∀{L:List As} {K:Value->WP} (u:UInt8) (i:Int),i=u.toNat->(∀s,Gs (ju s [u]::L) (K s))->Gs L (Xw pQ (qL 28 1 [(0,gB i)]) K):=λu i e h=>by
   subst e;exact Gs.lit1 vE O5 rfl rfl (by decide) λb=>h _
  refine Gs.I (λh=>?_) λh=>?_
  ·rw[mU qZ]at a;refine au ?_;refine lit (UInt8.ofNat n) _ (by rw[DW qZ,iC];omega) a
  ·have f:¬n<128:=qZ;rw[xS f]at a;refine Gs.V (v:=gQ ((n%128:Nat):Int)) (λw _=>by simp[go_sem];try rw[gi qZ]) ?_;refine Gs.V (v:=gB ((n%128:Nat):Int)) (λw _=>by simp[go_sem];rw[iC];omega) ?_;refine Gs.V (v:=gB ((UInt8.ofNat (n%128+128)).toNat:Int)) (λw _=>by rw[DW qZ];simp[go_sem];rw[iC];omega) ?_;refine lit _ _ rfl λs=>?_;refine Gs.V (v:=gQ ((n / 128:Nat):Int)) (λw _=>by simp[go_sem];try rw[nr qZ qZ]) ?_;refine g (n / 128) qZ qZ λt=>?_;have d:=fi (n:=n / 128) qZ;refine Gs.cat8 (l:=[UInt8.ofNat (n%128+128)]) (b:=eF (n / 128)) (λc=>?_) (By.own qZ) (by simp only[dq];omega);have a:=a c;rw[<-jY (x:=UInt8.ofNat _)]at a;exact a.fin
def HI(a:By B t b)(c:∀s,Gs (ju s (fT b)::M) (K s))(p:bL M (B::M2):=by repeat first|(with_reducible exact cF)|(with_reducible apply cS)):Gs M (Cw pQ 22 #[t] K):=by
 have e:=a.len;have d:=fi (n:=b.length) qZ;refine sN Tryz.func22 ?_;refine Gs.len vE (λw y=>(fg p y).elim λF h=>(a.of h).1) ?_;refine au ?_;refine Ax b.length qZ λs=>?_;exact Gs.cat8 c a qZ cF p
def PC(a:S.Ok)(c:∀s,Gs (ju s (lH S.state)::nB v S::L) (K s))(p:bL L0 (nB v S::L):=by repeat first|(with_reducible exact cF)|(with_reducible apply cS)):Gs L0 (Cw pQ 23 #[eE v] K):=by
 refine Gs.pk ?_ p;refine sN Tryz.func23 ?_;refine LJ a λs=>?_;refine au ?_;exact c s
end
end Go.Proofs
namespace Go.Proofs
open Go Go.Vc
section
variable{N:Int->Prop}
def PN(N:Int->Prop)(p:Pm):Prop:=(∀t∈p.trades,N t.num)/\∀g∈p.gone,N g
def VN(N:Int->Prop)(S:ba):Prop:=∀n,(∀d,∀o∈S.bk n d,N o.num)/\∀o∈S.bd n,N o.num
structure RN(N:Int->Prop)(r:Rp):Prop where
 n:N r.num
 t:∀t∈r.trades,N t.num
 g:∀g∈r.gone,N g
def VN.sub{S T:ba}(h:VN N S)(s:mM S T):VN N T:=λn=>⟨λd o a=>(h n).1 d o ((s.bk n d).mem a),λo a=>by
 obtain⟨x,c,b⟩:=aD.1 ((s.bd n).mem (aV (f:=Od.key) a));rw[<-nJ b];exact(h n).2 x c⟩
def Wu{o:Od}:∀(l:List Od) (left:Int),(∀b∈l,N b.num)->(∀t∈(eu o left l).2.2.1,N t.num)/\∀g∈(eu o left l).2.2.2.1,N g
 | [],_,_=>by unfold eu;simp
 |b::r,left,h=>by
  have c:=h b ai;have a:=λleft=>Wu (o:=o) r left λx i=>h x (ae _ i);unfold eu;split
  ·simp
  ·split
   ·exact⟨(a left).1,λg f=>(aq.1 f).elim (λe=>e▸c) ((a left).2 g)⟩
   ·split
    ·simp[c]
    ·exact⟨λt d=>(aq.1 d).elim (λe=>e▸c) ((a _).1 t),(a _).2⟩
def Wc{B:Bk}{o:Od}{r:Bool}(h:∀d,∀b∈B d,N b.num):PN N (eP B o r).2:=by
 have:=Wu (o:=o) (B !o.buy) o.left (h _);unfold eP
 dsimp only
 split<;>exact this
def pn0{f l:Int}:PN N ⟨[],[],f,l⟩:=⟨by simp,by simp⟩
def Zh{B:Bk}{o:Od}{k:Int}(h:∀d,∀b∈B d,N b.num):PN N (cE B o k).2.2:=by
 unfold cE
 repeat (split;·exact pn0)
 exact Wc h
def ag1{B:Bk}{n p l:Int}(h:∀d,∀b∈B d,N b.num):PN N (co B n p l).2.2:=by
 unfold co;split
 ·exact pn0
 ·split
  ·exact pn0
  ·split
   ·exact pn0
   ·refine Wc λd b a=>?_;unfold Bk.set at a;split at a
    ·rename_i e
     subst e;exact h _ b ((xW _ _).mem a)
    ·exact h d b a
def Wi:∀(l:List Od) (q p:Int),(∀b∈l,N b.num)->∀f∈(kE q l p).1,N f.num
 | [],q,p,h=>by unfold kE;simp
 |b::l,q,p,h=>by
  unfold kE;split
  ·simp
  ·exact λf a=>(aq.1 a).elim (λe=>e▸h b ai) (Wi l _ _ (λx c=>h x (ae _ c)) f)
def ai4{s:Bool}{q:Int}{l:List Od}(h:∀b∈l,N b.num):∀f∈(ij s q l).2.1,N f.num:=by
 unfold ij;split
 ·simp
 ·split
  ·simp
  ·exact Wi _ _ _ λb a=>h b ((Srt.stable_perm (qv (nN s)) l).mem_iff.1 a)
variable(h0:N 0)
include h0
def rn0(e:Int):RN N {jo with err:=e}:=⟨h0,by simp[jo],by simp[jo]⟩
def rz:RN N jo:=⟨h0,by simp[jo],by simp[jo]⟩
omit h0
def Wd(a:Int):∀(e:List Int) (x:List Int×ba),(∀g∈x.1,N g)->VN N x.2->∀g∈(e.foldl (rQ a) x).1,N g
 | [],x,h,_=>h
 |n::e,x,h,d=>by
  refine Wd a e (rQ a x n) (λg b=>?_) (d.sub (Lo a x n));unfold rQ at b;rcases aN.1 b with b|b
  ·rcases aN.1 b with b|b
   ·exact h g b
   ·obtain⟨o,c,rfl⟩:=aD.1 b;have c:=(aM.1 c).1;unfold Bk.all at c;exact(aN.1 c).elim (λh=>(d n).1 _ o h) λh=>(d n).1 _ o h
  ·obtain⟨o,c,rfl⟩:=aD.1 b;exact(d n).2 o (aM.1 c).1
def Sc{S:ba}(b:VN N S)(a k:Int):∀g∈(S.clear a k).1,N g:=Wd a _ ([],S) (by simp) b
def Te:∀(l:List Sd) (r:Rp) (S:ba),VN N S->RN N r->RN N (mf l r S).2.1
 | [],r,S,b,a=>a
 |s::l,r,S,b,a=>by
  unfold mf
  dsimp only
  cases s.dfl
  ·rw[aa fG,aa fG];split
   ·exact a
   ·exact Te l _ _ b a
  ·rw[ab rfl,ab rfl];have c:RN N {r with accts:=r.accts++[s.acct],gone:=r.gone++(S.clear s.acct 0).1}:=⟨a.n,a.t,λg d=>(aN.1 d).elim (a.g g) (Sc b _ _ g)⟩
   split
   ·exact c
   ·exact Te l _ _ (b.sub ((vm S s.acct 0).led _)) c
def KL{S:ba}{n:Int}{o:Od}{p:Pm}(h0:N 0)(a:N o.num)(hp:PN N p):RN N (S.traded n o p).2.1:=by
 unfold ba.traded
 dsimp only
 split
 ·exact rz h0
 ·exact⟨a,hp.1,hp.2⟩
def Lu{n a:Int}{long:Bool}{price:Int}:∀(l:List Fl) (left:Int) (r:Rp) (S:ba),(∀f∈l,N f.num)->RN N r->RN N (lq n a long price l left r S).2.2.1
 | [],left,r,S,c,b=>b
 |f::l,left,r,S,c,b=>by
  unfold lq
  dsimp only
  split
  ·exact b
  ·exact Lu l _ _ _ (λx e=>c x (ae _ e)) ⟨b.n,λt d=>(aN.1 d).elim (b.t t) λh=>by rw[bX.1 h];exact c f ai,b.g⟩
def Mg{n a:Int}{long:Bool}{price:Int}(h0:N 0):∀(l:List Hd) (r:Rp) (S:ba),RN N r->RN N (lE n a long price l r S).2.1
 | [],r,S,b=>b
 |f::l,r,S,b=>by
  unfold lE
  dsimp only
  split
  ·exact b
  ·exact Mg h0 l _ _ ⟨b.n,λt c=>(aN.1 c).elim (b.t t) λh=>by rw[bX.1 h];exact h0,b.g⟩
def We{S:ba}{k:Ct}{a q:Int}{r:Rp}(h0:N 0)(h:VN N S)(c:RN N r):RN N (S.sell k a q r).2.1:=by
 unfold ba.sell
 dsimp only
 have e:=ai4 (N:=N) (s:=decide (0<q)) (q:=max q (-q)) (l:=(S.bd k.spec.num).filter λo=>o.buy==decide (0<q)) λb i=>(h _).2 b (aM.1 i).1;generalize ij _ _ _=X at e|-;generalize g:lq _ _ _ _ _ _ _ _=f;have d:RN N f.2.2.1:=g▸Lu X.2.1 _ r S e c;generalize jE _ _=p
 repeat' split
 all_goals first|exact c|exact d|exact Mg h0 _ _ _ d
def Jk(h0:N 0)(a:Int):∀(l:List Ct) (r:Rp) (S:ba),VN N S->RN N r->RN N (og a l r S).2.1
 | [],r,S,b,c=>c
 |k::l,r,S,b,c=>by
  unfold og
  dsimp only
  split
  ·exact Jk h0 a l r S b c
  ·split
   ·exact We h0 b c
   ·exact Jk h0 a l _ _ (b.sub (Cz S k a _ r)) (We h0 b c)
def XG{S:ba}{won:Int->Int}(h0:N 0)(a:VN N S):RN N (S.pay won).2.1:=by
 unfold ba.pay
 dsimp only
 split
 ·exact rz h0
 ·have:=Te (gK S.led.fund (S.dues won)).1 jo S a (rz h0);split<;>exact this
def TX{S:ba}(h0:N 0)(a:VN N S):RN N S.settle.2.1:=by
 unfold ba.settle
 dsimp only
 split
 ·exact rz h0
 ·split
  ·exact rz h0
  ·split<;>exact XG h0 a
def U0{S:ba}{n:Int}(h0:N 0)(c:VN N S):RN N (S.expire n).2.1:=by
 unfold ba.expire
 dsimp only
 split
 ·exact rz h0
 ·split
  ·exact rz h0
  ·split
   ·exact XG h0 c
   ·generalize hp:ba.pay _ _=p;have e:RN N p.2.1:=hp▸XG h0 c
    have d:VN N p.2.2:=by
     rw[<-hp];exact VN.sub (S:={S with cal:=(eX S.cal n).2,led:=(S.led.mark (dw S.cal.l n).1.spec.num (dw S.cal.l n).1.price true).2.2}) c (xJ _ _)
    refine⟨e.n,e.t,λg a=>?_⟩;rcases aN.1 a with a|a
    ·rcases aN.1 a with a|a
     ·exact e.g g a
     ·obtain⟨o,b,rfl⟩:=aD.1 a;have b:=(aM.1 b).1;unfold Bk.all at b;exact(aN.1 b).elim (λh=>(d n).1 _ o h) λh=>(d n).1 _ o h
    ·obtain⟨o,b,rfl⟩:=aD.1 a;exact(d n).2 o b
def Ra{S:ba}{a m n:Int}{o:Od}(h:S.find a m=some (o,n)):o.num=m:=by
 unfold ba.find at h;obtain⟨x,-,b⟩:=List.exists_of_findSome?_eq_some h;unfold uy at b;split at b
 ·rename_i e d c
  split at b
  ·cases b;exact(xg c).2
  ·cases b
 ·cases b
def Zb{S:ba}{c:Cm}(h0:N 0)(a:N S.next):N (S.order c).2.1.num/\(S.order c).2.2.bk=S.bk:=by
 unfold ba.order
 dsimp only
 split
 ·exact⟨h0,rfl⟩
 ·split
  ·exact⟨h0,rfl⟩
  ·exact⟨a,rfl⟩
def qJ{p:Prop} [Decidable p]{a b:Int×Rp×ba}(c:RN N a.2.1)(d:RN N b.2.1):RN N (if p then a else b).2.1:=by
 by_cases h:p
 ·rw[ab h];exact c
 ·rw[aa h];exact d
def VX{S:ba}{c:Cm}(h0:N 0)(a:N c.num):RN N (S.cancel c).2.1:=by
 unfold ba.cancel
 repeat' split
 all_goals first|exact rz h0|exact⟨a,by simp[jo],by simp[jo]⟩
def Sx{S:ba}{c:Cm}(h0:N 0)(b:VN N S)(e:N c.num):RN N (S.replace c).2.1:=by
 unfold ba.replace;split
 ·exact rz h0
 ·rename_i o n a
  exact qJ (rz h0) (qJ (rz h0) (KL h0 (Ra a▸e) (ag1 λd=>(b _).1 d)))
def pbN{S:ba}{c:Cm}(h0:N 0)(b:VN N S)(e:N S.next):RN N (S.place c).2.1/\RN N (S.bid c).2.1:=by
 have a:=Zb (c:=c) h0 e;exact⟨qJ (rz h0) (qJ (rz h0) (KL h0 a.1 (Zh λd=>by rw[a.2];exact(b _).1 d))),qJ (rz h0) (qJ (rz h0) ⟨a.1,by simp,by simp⟩)⟩
def ac4{S:ba}{c:Cm}(h0:N 0)(d:VN N S)(g:N S.next)(f:N c.num):RN N (S.done c).2.1:=by
 have b:=rz h0;have e:∀a k,RN N {jo with gone:=(S.clear a k).1}:=λa k=>⟨h0,by simp[jo],Sc d _ _⟩
 refine qJ b <| qJ b <| qJ b <| qJ b <| qJ b <| qJ (TX h0 d) <| qJ (U0 h0 d) <| qJ b <| qJ (VX h0 f) <| qJ (Sx h0 d f) <| qJ b <| qJ (pbN h0 d g).1 <| qJ (pbN h0 d g).2 <| qJ (qJ b (e _ _)) <| qJ ?_ <| qJ (qJ b (Jk h0 _ _ _ _ d b)) b
 show RN N (if c.on=true then _ else jo);split
 ·exact e _ _
 ·exact b
def Xd{S:ba}{c:Cm}(h0:N 0)(b:VN N S)(e:N S.next)(d:N c.num):RN N (S.apply c).1:=by
 have a:=ac4 h0 b e d;unfold ba.apply;generalize S.done c=x at a|-
 dsimp only
 repeat' split
 all_goals first|exact rn0 h0 _|exact a
def Uo{S:ba}{c:Cm}(h:S.Ok)(b:c.Fit):RN sB (S.apply c).1:=by
 have e:=h.next;unfold ll at e;exact Xd ⟨by decide,by decide⟩ (λn=>⟨λd o a=>(h.ord.std n o (g8 a)).fit.1,λo a=>(h.ord.std n o (iV a)).fit.1⟩) ⟨qZ,qZ⟩ b.2.2.2.1
end
end Go.Proofs
namespace Go.Proofs
open Go Go.Vc
def RY(x:Int):Nat:=(bits .xor .u64 (IntKind.u64.wrap (IntKind.u64.wrap x*2)) (IntKind.u64.wrap (x / 9223372036854775808))).toNat
def ix(x:Int):List UInt8:=eF (RY x)
abbrev ux(x:Int):List UInt8:=dL (IntKind.u64.wrap x)
def WF(a b:Int):0<=bits .xor .u64 a b/\bits .xor .u64 a b<18446744073709551616:=by
 show 0<=IntKind.u64.wrap _/\IntKind.u64.wrap _<_;rw[IntKind.wrap_u64];omega
def EQ(x:Int):0<=IntKind.u64.wrap x/\IntKind.u64.wrap x<18446744073709551616:=by
 rw[IntKind.wrap_u64];omega
def RB(x:Int):RY x<18446744073709551616:=by
 have:=WF (IntKind.u64.wrap (IntKind.u64.wrap x*2)) (IntKind.u64.wrap (x / 9223372036854775808));unfold RY;omega
def Bu(x:Int):(ix x).length<=10:=fi (RB x)
def Sk(x:Int):(ux x).length<=10:=fi (by have:=EQ x;omega)
def X6(t:Td):List UInt8:=ix t.price++(ix t.qty++(dL t.num++ux t.acct))
def rpB(r:Rp):List UInt8:=if r.err=0 then ux 0++(dL r.num++(ix r.filled++(ix r.left++(vy X6 r.trades++(vy dL r.gone++vy ux r.accts)))))else ux r.err
def rpE(r:Rp):Bool:=decide (r.num=0)&& decide (r.filled=0)&& decide (r.left=0)&& decide (r.trades.length+r.gone.length+r.accts.length=0)
def ZZ(r:Rp):Bool:= !(decide (r.err<0)||decide (999<r.err)||(!decide (r.err=0)&& !rpE r))&& decide (r.trades.length<=4000)&& decide (r.gone.length<=4000)&& decide (r.accts.length<=4000)
section
variable{L L0 M M2:List As}{B:As}{K:Value->WP}{s t fv:Vt_}{l b g:List UInt8}{n:Nat}{x y:Int}{r:Rp}{tr go ac:Option Addr×Nat}
def FY(d:∀a,Gs (ju a (l++ix x)::M) (K a))(p:bL L (ju s l::M):=by repeat first|(with_reducible exact cF)|(with_reducible apply cS))(c:l.length<=1000000000:=by(try simp only[ad]);omega):Gs L (Cw pQ 95 #[s,gI x] K):=by
 refine Gs.pk ?_ p;refine sN Tryz.func95 ?_;refine sN Tryz.func192 ?_;refine au ?_;exact jh (WF _ _) d cF c
def FZ(c:∀a,Gs (ju a (l++ix x++ix y)::M) (K a))(p:bL L (ju s l::M):=by repeat first|(with_reducible exact cF)|(with_reducible apply cS))(d:l.length<=999999990:=by(try simp only[ad]);omega):Gs L (Cw pQ 122 #[s,gI x,gI y] K):=by
 refine Gs.pk ?_ p;refine sN Tryz.func122 ?_;have:=Bu x;refine FY λs=>?_;exact FY c
def Yz{x:Td}(c:sB x.num)(hl:l.length<=900000000)(d:∀a,Gs (ju a (l++X6 x)::M) (K a))(p:bL L (ju s l::M):=by repeat first|(with_reducible exact cF)|(with_reducible apply cS)):Gs L (Cw pQ 124 #[s,Zm x] K):=by
 refine Gs.pk ?_ p;refine sN Tryz.func124 ?_;have e:=Bu x.price;have f:=Bu x.qty;have h:=gV x.num (by have:=c.2;omega);unfold Zm Gv;refine au ?_;intro q;refine au ?_;refine FZ λs=>?_;refine au ?_;refine jh c λs=>?_;refine au ?_;refine jh (EQ _) λs=>?_;have:=d s;unfold X6 at this;simp only[<-ag]at this;exact this.fin
def WZ{x:Int}(hl:l.length<=900000000)(c:∀a,Gs (ju a (l++ux x)::M) (K a))(p:bL L (ju s l::M):=by repeat first|(with_reducible exact cF)|(with_reducible apply cS)):Gs L (Cw pQ 127 #[s,gU x] K):=by
 refine Gs.pk ?_ p;refine sN Tryz.func127 ?_;refine au ?_;exact jh (EQ _) c
def G1c(tS tE:TypeId)(t i:Vt_)(k:Value->WP):WP:=Vw pQ (iX tS t i) λv=>Vw pQ (iL tE v) λv=>k v
def PS{x:Td}(a:sB x.num):(X6 x).length<=300:=by
 have d:=Bu x.price;have e:=Bu x.qty;have f:=gV x.num (by have:=a.2;omega);have c:=Sk x.acct;unfold X6;simp only[ad];omega
def af3{α:Type}{g:α->List UInt8}{L:List α}(a:∀x∈L,(g x).length<=300)(e:L.length<=4000):(vy g L).length<=1200010:=by
 have d:=rq a;have c:=fi (n:=L.length) qZ;unfold vy;rw[ad];omega
def Y5{A:List Td}(j:A.length<=4000)(e:∀x∈A,sB x.num)(a:∀d,Gs (ju d (l++vy X6 A)::Ey t A::M) (K d))(p:bL L (ju s l::Ey t A::M):=by repeat first|(with_reducible exact bL.refl)|((apply kp);(·repeat first|(with_reducible exact cF)|(with_reducible apply cS))))(c:l.length<=100000000:=by(try simp only[ad]);omega):
  Gs L (Cw pQ 123 #[s,t,.func (.func 124) #[] #[]] K):=by
 refine sN Tryz.func123 ?_;refine BJ (B:=Ey t A) (tE:=148) (G:=Gsm 38 148 t) cH (λh=>h.1.rd) j (λx h=>PS (e x h)) c (λi f L k o h=>?_) (λx m s l K c a=>Gs.fw (Yz (e x m) c a)) a p;refine Gs.it JL nTd Ms WS o rfl f ?_;unfold Zm Gv at h|-;refine au ?_;intro b;refine au ?_;exact h.drop
def Xe{A:List Int}(j:A.length<=4000)(e:∀x∈A,sB x)(a:∀c,Gs (ju c (l++vy dL A)::tX t A::M) (K c))(p:bL L (ju s l::tX t A::M):=by repeat first|(with_reducible exact bL.refl)|((apply kp);(·repeat first|(with_reducible exact cF)|(with_reducible apply cS))))(d:l.length<=100000000:=by(try simp only[ad]);omega):
  Gs L (Cw pQ 125 #[s,t,.func (.func 72) #[] #[]] K):=by
 refine sN Tryz.func125 ?_;refine BJ (B:=tX t A) (tE:=37) (xv:=λx=>gQ x) (G:=G1c 39 37 t) cH (λh=>h.1.rd) j (λx h=>bK (gV x (by have:=(e x h).2;omega)) (by decide)) d (λi f L k o h=>Gs.it cH Kx (λ_=>rfl) Bj o rfl f h) (λx m s l K d a=>Gs.fw (jh (e x m) a)) a p
def Xu{A:List Int}(j:A.length<=4000)(a:∀d,Gs (ju d (l++vy ux A)::CM t A::M) (K d))(p:bL L (ju s l::CM t A::M):=by repeat first|(with_reducible exact bL.refl)|((apply kp);(·repeat first|(with_reducible exact cF)|(with_reducible apply cS))))(c:l.length<=100000000:=by(try simp only[ad]);omega):
  Gs L (Cw pQ 126 #[s,t,.func (.func 127) #[] #[]] K):=by
 refine sN Tryz.func126 ?_;refine BJ (B:=CM t A) (tE:=45) (xv:=λx=>gU x) (G:=G1c 40 45 t) cH (λh=>h.1.rd) j (λx h=>bK (Sk x) (by decide)) c (λi f L k e h=>Gs.it cH an2 (λ_=>rfl) Z1 e rfl f h) (λx m s l K c a=>Gs.fw (WZ c a)) a p
abbrev rpL(r:Rp)(tr go ac:Option Addr×Nat)(L:List As):List As:=Ey (eM tr r.trades.length) r.trades::tX (eM go r.gone.length) r.gone::CM (eM ac r.accts.length) r.accts::L
def Vo(c:Yr r)(a:Gs L (K (.bool (rpE r)))):Gs L (Cw pQ 194 #[Ka r (eM tr r.trades.length) (eM go r.gone.length) (eM ac r.accts.length)] K):=by
 obtain⟨d,f,i⟩:=c;refine sN Tryz.func194 ?_;unfold rpE at a;unfold Ka;refine au ?_;intro q;refine au ?_;refine Gs.I (λh=>?_) λh=>?_
 ·rw[aA h,cK]at a;refine au ?_;refine Gs.I (λh=>?_) λh=>?_
  ·rw[aA h,cK]at a;refine au ?_;refine Gs.I (λh=>?_) λh=>?_
   ·rw[aA h,cK]at a;refine au ?_
    have e:((r.trades.length:Int)+r.gone.length+r.accts.length==0)=decide (r.trades.length+r.gone.length+r.accts.length=0):=by
     rw[bT,beq_iff_eq,ax];omega
    rw[e];exact a.drop
   ·rw[aG h,bh]at a;exact a.drop
  ·rw[aG h,bh,bh]at a;exact a.drop
 ·rw[aG h,bh,bh,bh]at a;exact a.drop
def UG(d:Yr r)(a:Gs L (K (.bool (ZZ r)))):Gs L (Cw pQ 121 #[Ka r (eM tr r.trades.length) (eM go r.gone.length) (eM ac r.accts.length)] K):=by
 refine sN Tryz.func121 ?_;unfold ZZ at a;unfold Ka;refine au ?_;intro q;refine Gs.j1 (.bool (decide (r.err<0)||decide (999<r.err)||(!decide (r.err=0)&& !rpE r)),()) (λJ c=>?_) ?_
 ·refine au ?_;refine Gs.I (λh=>?_) λh=>?_
  ·rw[aA h,Bool.true_or,Bool.true_or]at c;exact c
  rw[aG h,eZ]at c;refine au ?_;refine Gs.I (λh=>?_) λh=>?_
  ·rw[aA h,Bool.true_or]at c;exact c
  rw[aG h,eZ]at c;refine au ?_;refine Gs.Ib (λh=>?_) λh=>?_
  ·rw[aG (by simpa using h),Bool.not_false,cK]at c;refine au ?_;refine Vo d ?_;refine au ?_;exact c
  ·rw[aA (by simpa using h),iE,bh]at c;exact c
 refine Gs.z ?_;refine Gs.Ib (λh=>?_) λh=>?_
 ·rw[h,iE,bh,bh,bh]at a;exact a.drop
 rw[h,Bool.not_false,cK]at a;refine au ?_;refine Gs.Ib (λh=>?_) λh=>?_
 ·rw[aA (by simp at h;omega),cK]at a;refine au ?_;refine Gs.Ib (λh=>?_) λh=>?_
  ·rw[aA (by simp at h;omega),cK]at a;refine au ?_;have e:decide ((r.accts.length:Int)<=4000)=decide (r.accts.length<=4000):=kC.2 qZ;rw[e];exact a.drop
  ·rw[aG (by simp at h;omega),bh]at a;exact a.drop
 ·rw[aG (by simp at h;omega),bh,bh]at a;exact a.drop
def rpR(r:Rp):List UInt8×Int:=if ZZ r then(rpB r,0)else([],2)
def Qb(i:Yr r)(d:RN sB r)(a:∀s,Gs (ju s (rpR r).1::L) (K (.tuple #[s,gI (rpR r).2])))(p:bL L0 (rpL r tr go ac L):=by repeat first|(with_reducible exact bL.refl)|((apply kp);(·repeat first|(with_reducible exact cF)|(with_reducible apply cS)))):Gs L0 (Cw pQ 44 #[Ka r (eM tr r.trades.length) (eM go r.gone.length) (eM ac r.accts.length)] K):=by
 refine Gs.pk ?_ p;refine sN Tryz.func44 ?_;unfold rpR at a;unfold Ka;refine au ?_;intro q;refine au ?_;refine UG i ?_;refine au ?_;refine Gs.Ib (λh=>?_) λh=>?_
 ·rw[aa (by simpa using h)]at a;refine Gs.nil 5 1 ?_;exact(show Gs (ow (.slice none 0 0) 5 1 0 []::L) _ from a _).fin
 rw[ab (by simpa using h)]at a;have c:ZZ r=true:=by simpa using h
 unfold ZZ at c;simp only[ah,ax]at c;refine au ?_;refine Gs.nil 5 1 ?_;refine jh (l:=[]) (EQ _) (p:=cF) (hl:=by decide) λs=>?_;rw[cX];have f:(dL (IntKind.u64.wrap r.err)).length<=10:=Sk r.err;unfold rpB at a;refine au ?_;refine Gs.Ib (λh=>?_) λh=>?_
 ·rw[aa (by simpa using h)]at a;exact(a _).fin
 rw[ab (by simpa using h)]at a;rw[show r.err=0 by simpa using h]at f|-;have k:=gV r.num (by have:=d.n.2;omega);have m:=Bu r.filled;have u:=Bu r.left;refine au ?_;refine jh d.n λs=>?_;refine au ?_;refine FZ λs=>?_;refine au ?_;refine Y5 c.1.1.2 d.t λs=>?_;have j:=af3 (g:=X6) (λx e=>PS (d.t x e)) c.1.1.2;have o:=af3 (g:=dL) (λx e=>bK (gV x (by have:=(d.g x e).2;omega)) (by decide)) c.1.2;refine au ?_;refine Xe c.1.2 d.g λs=>?_;refine au ?_;refine Xu c.2 λs=>?_;have:=a s;simp only[<-ag]at this;exact this.fin
end
end Go.Proofs
namespace Go.Proofs
open Go Go.Vc
def Eo(S:ba)(l:List UInt8):Rp×ba:=match Fv l with
 |some c=>S.apply c
 |none=>(uw 160,S)
def PQ{S:ba}{l:List UInt8}(h:S.Ok):(Eo S l).2.Ok/\(ut S->ut (Eo S l).2)/\RN sB (Eo S l).1:=by
 unfold Eo;cases b:Fv l with
 |none=>exact⟨h,id,rn0 ⟨by decide,by decide⟩ _⟩
 |some c=>
  have a:=(Hz b).1;exact⟨R6 h a,λd=>Ty h d _,Uo h a⟩
section
variable{L L0 M M2:List As}{B:As}{K:Value->WP}{v:Nat}{S:ba}{s:Vt_}{l:List UInt8}
def VG(a:Gs L (K (.bool true)))(p:bL L (nB v S::M):=by repeat first|(with_reducible exact cF)|(with_reducible apply cS)):Gs L (Cw pQ 42 #[eE v] K):=
 Gs.pk (wN λc l mb md A D b=>sK (pM (C:=S.cal) b (Gs.pk a p.symm)) cF) p
def Yh(b:S.Ok)(j:By B s l)(f:∀t,Gs (ju t (rpR (Eo S l).1).1::nB v (Eo S l).2::B::M) (K t))(p:bL L (nB v S::B::M):=by repeat first|(with_reducible exact bL.refl)|((apply kp);(·repeat first|(with_reducible exact cF)|(with_reducible apply cS)))):Gs L (Cw pQ 13 #[eE v,s] K):=by
 refine Gs.pk ?_ p;refine sN Tryz.func13 ?_;unfold eE;refine uT ?_;refine au ?_;intro q;refine au ?_;refine Gs.j (λ_:(Option Addr×Nat)×(Option Addr×Nat)×(Option Addr×Nat)=>()) (λx=>pt q (rpC (Eo S l).1 (eM x.1 (Eo S l).1.trades.length) (eM x.2.1 (Eo S l).1.gone.length) (eM x.2.2 (Eo S l).1.accts.length)) 42::rpL (Eo S l).1 x.1 x.2.1 x.2.2 (nB v (Eo S l).2::B::M)) (λ_=>Yr (Eo S l).1) (λJ a=>?_) ?_
 ·refine VG ?_;refine au ?_;refine OG j ?_;refine au ?_;refine Gs.bvar (xs:=jI ((Fv l).getD Fj)) VT Am (dV _) (by rw[Ep];exact dV _) (tj _) (λy=>?_);refine uT ?_;refine au ?_;unfold rpC at a;cases e:Fv l with
  |none=>
   rw[show Eo S l=(uw 160,S) by unfold Eo;rw[e]]at a;refine Gs.Ib (λh=>by cases h) λ_=>?_;refine Gs.tdn (Gs.idn (Gs.uin ?_));have:=a ((none,0),(none,0),(none,0)) ⟨aw _,aw _,aw _⟩
   dsimp only[uw,jo,List.length_nil,rpL]at this|-
   exact this.fin
  |some c=>
   rw[show Eo S l=S.apply c by unfold Eo;rw[e]]at a;refine Gs.Ib (λ_=>?_) λh=>by cases h
   dsimp only[Option.getD_some]
   refine Gs.X (eG (cs:=jI c) (by repeat first|(with_reducible exact cF)|(with_reducible apply cS)) FN Am (dV _)) ?_;refine Xp b (Hz e).1 λt g u d=>?_;unfold Ka;refine au ?_;exact(a (t,g,u) d).fin
 rintro⟨t,g,u⟩ d;have i:=(PQ (l:=l) b).2.2
 dsimp only
 generalize Eo S l=R at d i f|-;unfold rpC;refine Gs.z (au ?_);refine Qb d i λs=>?_;refine au ?_;exact(f s).fin
end
end Go.Proofs
