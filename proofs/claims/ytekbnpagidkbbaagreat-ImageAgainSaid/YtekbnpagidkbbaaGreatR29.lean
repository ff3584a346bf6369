/- Part of a proof. -/
import Derived.Test.YtekbnpagidkbbaaGreatR28
set_option linter.all false
set_option maxRecDepth 100000
set_option maxHeartbeats 4000000
namespace Go.Proofs
open Go Go.Vc
attribute [local congr] bj
variable {a b t lo bd e c g f:Int}{d:LV_}{xs:List Int}{k:Nat}
def zu(l:List UInt8):∀(n:Nat) (s:Rs),ii l (n+1) s=((ii l n s).1++[(kB l (ii l n s).2).1],(kB l (ii l n s).2).2)
 |0,s=>rfl
 |n+1,s=>by
  have a:=zu l n (kB l s).2;have e:ii l (n+1+1) s=((kB l s).1::(ii l (n+1) (kB l s).2).1,(ii l (n+1) (kB l s).2).2):=rfl;rw[e,a];rfl
def rH(l:List UInt8)(most:Nat)(s:Rs):0<=(eH l most s).1/\(eH l most s).1<=most:=by
 have:=ut (l:=l) (most:=most) (s:=s);unfold eH;simp only;omega
def Dz(l:List UInt8)(s:Rs):ed (kB l s).1:=by
 have:=ut (l:=l) (most:=18446744073709551615) (s:=s);exact Vb qZ
def By(l:List UInt8):∀(n:Nat) (s:Rs),∀x∈(ii l n s).1,ed x
 |0,s,x,a=>by cases a
 |n+1,s,x,a=>by
  rcases ax.1 a with rfl|a
  ·exact Dz l s
  ·exact By l n _ x a
def AU(l:List UInt8)(s:Rs):iU (eH l FN s).1:=by
 have:=rH l FN s;unfold FN at*;exact⟨this.1,qZ⟩
def ry(l:List UInt8)(s:Rs):ed (eH l oP s).1:=by
 have:=rH l oP s;unfold oP at*;constructor<;>omega
def R6(l:List UInt8)(s:Rs):0<=(eH l 255 s).1/\(eH l 255 s).1<256:=by
 have:=rH l 255 s;omega
def NP(l:List UInt8)(s:Rs):(tI l s).1.Fit:=
 ⟨AU ..,R6 ..,ry ..,ry ..,ry ..,ry ..,λx a=>By l 16 _ x (by simpa [tI]using a),ry ..,AU ..,ry ..⟩
def TI:uv.Fit:=by
 refine⟨?_,?_,?_,?_,?_,?_,λx a=>?_,?_,?_,?_⟩
 all_goals first|(have:x=0:=(by simpa [uv]using a);rw[this];decide)|decide
def FQ(a b t lo bd li:Int)(sh:LV_)(c la f:Int):List Value:=[.int .u32 a,gB b,gI t,gI lo,gI bd,gI li]++(sh++[.int .i64 c,gU la,gI f])
def Ze(s:Sp):eV s=FQ s.num s.route s.tick s.lot s.band s.limit (vD s.shifts) s.credit s.last s.first:=rfl
def E9:jf pQ 48=eV uv:=cV
def Zb:nj pQ 48=true:=cV
def Sk(a b:Int):Tryz.prog.built 48 [(0,gU a),(1,gB b)]=some (eV {uv with num:=a,route:=b}).toArray:=by
 have h1:∀c,Tryz.prog.built 48 c=Instr.fill (λi=>#[(0,1),(1,1),(2,1),(3,1),(4,1),(5,1),(6,16),(22,1),(23,1),(24,1)][i]?) (jf pQ 48).toArray c:=λc=>by kernel_rfl
 rw[h1,E9];rw[qi (off:=0) (size:=1) rfl rfl (by rw[br];omega),qi (off:=1) (size:=1) rfl rfl (by have:(Value.int .u32 a).cells.size=1:=rfl;simp[br,jp];omega),B6];rfl
def Qe:Tryz.prog.built 48 []=some (eV uv).toArray:=cV
def uPt:Tryz.prog.underlying 300=some (.slice 299):=cV
def ePt:fY pQ 299 1 8=true:=cV
abbrev nX:TypeId:=48
abbrev tH(W:Wt_)(p:Nat)(C:LV_):Prop:=hp W p=some (.cells C.toArray nX (0,0))
def stI{W:Wt_}{p i:Nat}{C C' :LV_}{y x:Int}(h:tH W p C)(c:C[i]? =some (gI y))(hs:C.set i (gI x)=C'):
  ∃a,(iS 2 (bO p i) (gI x)).run pQ W=.ok () a/\tH a p C' /\aR (λb=>b=p) W a:=
 ⟨W.setCell ⟨p,i,none⟩ (gI x),by simp[go_sem,h,c],by rw[<-hs];show hp _ _=_;simp[go_sem,h],(aR.refl (λb=>b=p) W).setCell (.inl rfl) _ _⟩
def aa0{W:Wt_}{p i:Nat}{C C' :LV_}{y x:Int}(h:tH W p C)(c:C[i]? =some (gU y))(hs:C.set i (gU x)=C'):
  ∃a,(iS 45 (bO p i) (gU x)).run pQ W=.ok () a/\tH a p C' /\aR (λb=>b=p) W a:=
 ⟨W.setCell ⟨p,i,none⟩ (gU x),by simp[go_sem,h,c],by rw[<-hs];show hp _ _=_;simp[go_sem,h],(aR.refl (λb=>b=p) W).setCell (.inl rfl) _ _⟩
def HF(xs:List Int)(k:Nat):List Value:=xs.map (λn=>gI n)++List.replicate (16 - k) (gI 0)
def ES(h:xs.length=k)(a:k<=16):(HF xs k).length=16:=by simp[HF,h];omega
def UH(h:xs.length=k)(a:k<16):(HF xs k)[k]? =some (gI 0):=by
 unfold HF;rw[bp (by simp[h])];simp only[ah,h,ou];rw[List.getElem?_replicate,ae qZ]
def TM(h:xs.length=k)(a:k<16)(x:Int):(HF xs k).set k (gI x)=HF (xs++[x]) (k+1):=by
 unfold HF;rw[cI _ _ (by simp[h]),show 16 - k=(16 - (k+1))+1 by omega,List.replicate_succ];simp[h]
def P2(i:d.length=16)(h:k<16):(FQ a b t lo bd e d c g f)[6+k]? =d[k]? :=by
 unfold FQ;rw[bp (by simp),cg (by simp;omega)];congr 1;simp
def Ro(i:d.length=16)(h:k<16)(x:Vt_):(FQ a b t lo bd e d c g f).set (6+k) x=FQ a b t lo bd e (d.set k x) c g f:=by
 unfold FQ;rw[cI _ _ (by simp),dX _ _ (by simp;omega)];congr 3;simp
def O8{d:Int}{e:LV_}(h:e.length=16):(FQ a b t lo bd g e c d f)[22+k]? =([.int .i64 c,gU d,gI f]:LV_)[k]? :=by
 unfold FQ;rw[bp (by simp;omega),bp (by simp;omega)];congr 1;simp[h];omega
def QH(h:d.length=16)(x:Vt_):(FQ a b t lo bd e d c g f).set (22+k) x=[.int .u32 a,gB b,gI t,gI lo,gI bd,gI e]++(d++([.int .i64 c,gU g,gI f]:LV_).set k x):=by
 unfold FQ;rw[cI _ _ (by simp;omega),cI _ _ (by simp;omega)];congr 3;simp[h];omega
section
attribute [local irreducible] eH ii
def XT{l:List UInt8}{s:Rs}{i e f b j d h c a:Int×Rs}{g:List Int×Rs}(h1:i=eH l FN s)(k:e=eH l 255 i.2)(q:f=eH l oP e.2)(o:b=eH l oP f.2)(p:j=eH l oP b.2)(r:d=eH l oP j.2)
  (n:g=ii l 16 d.2)(t:h=eH l oP g.2)(m:c=eH l FN h.2)(u:a=eH l oP c.2):
  (tI l s).2=a.2/\FQ i.1 e.1 f.1 b.1 j.1 d.1 (HF g.1 16) h.1 c.1 a.1=eV (tI l s).1:=by
 subst h1 k q o p r n t m u;rw[Ze];unfold tI vD HF;simp
end
def Up{w:Wt_}{K:aZ}{r:Nat}{v:Vt_}{l:List UInt8}{s:Rs}(h:gJ w r v l s)
  (hK:∀w',gJ w' r v l (CM l s).2->aR (λb=>b=r) w w' ->K (.agg (eV (CM l s).1).toArray) w'):Ca pQ 113 #[iW r] w K:=by
 unfold iW;refine cN Tryz.func113 ?_;have hrl:=h.lt;have Q:∀b,tq v b->b<w.heap.size:=λb A=>h.rd.lt A;refine rC Zb ?_;rw[E9];obtain⟨z,hz⟩:=di w.heap.size;have m1:M0 w (w.alloc (.cells (eV uv).toArray nX)):=(aR.refl _ w).alloc _;have b1:tH (w.alloc (.cells (eV uv).toArray nX)) z (eV uv):=by show hp _ _=_;rw[hz];simp[go_sem]
 rw[<-hz];generalize w.alloc (.cells (eV uv).toArray nX)=w1 at m1 b1|-;have r1:=h.mod m1 id d9;refine qD r1 (most:=4294967295) qZ λw2 r2 m2=>?_;have hz1:=aB b1;have b2:=m2.hpk b1 qZ;have n1:=AU l s;obtain⟨a,hx1⟩:=di (eH l FN s);have e1:(((fd l 4294967295 s).1:Nat):Int)=a.1/\(fd l 4294967295 s).2=a.2:=by rw[hx1];exact⟨rfl,rfl⟩
 rw[e1.1];rw[e1.2]at r2;rw[<-hx1]at n1;refine ao (gU a.1) w2 (by simp[go_sem];rw[IntKind.wrap_u32'];omega) ?_;refine qD r2 (most:=255) qZ λw3 r3 m3=>?_;have b3:=m3.hpk b2 qZ;have n2:=R6 l a.2;obtain⟨j,hx2⟩:=di (eH l 255 a.2);have e2:(((fd l 255 a.2).1:Nat):Int)=j.1/\(fd l 255 a.2).2=j.2:=by rw[hx2];exact⟨rfl,rfl⟩
 rw[e2.1];rw[e2.2]at r3;rw[<-hx2]at n2;refine ao (gB j.1) w3 (by simp[go_sem];rw[IntKind.wrap_u8'];omega) ?_;refine xH (Sk a.1 j.1) ?_;refine rC Zb ?_;rw[E9];obtain⟨p,hp0⟩:=di w3.heap.size;have m4:M0 w3 (w3.alloc (.cells (eV uv).toArray nX)):=(aR.refl _ w3).alloc _;have b4:tH (w3.alloc (.cells (eV uv).toArray nX)) p (eV uv):=by show hp _ _=_;rw[hp0];simp[go_sem]
 rw[<-hp0];generalize w3.alloc (.cells (eV uv).toArray nX)=w4 at m4 b4|-;have r4:=r3.mod m4 id d9;have z4:=m4.hpk b3 id;have hz2:=m2.size;have hz3:=m3.size;have hzp:z<p:=qZ;have hh:w4.heap[p]? =some (.cells (eV uv).toArray nX (0,0)):=b4;refine uU we (br {uv with num:=a.1,route:=j.1}) hh (by rw[dv,br,br];omega) (qw _) ?_;have e5:jp (eV uv).toArray.toList 0 (eV {uv with num:=a.1,route:=j.1})=eV {uv with num:=a.1,route:=j.1}:=lF (by rw[br];simp[br]);rw[e5];have m5:aR (λb=>b=p) w4 (w4.setRow p (eV {uv with num:=a.1,route:=j.1}).toArray):=(aR.refl (λb=>b=p) w4).setRow (.inl rfl) _
 have b5:tH (w4.setRow p (eV {uv with num:=a.1,route:=j.1}).toArray) p (FQ a.1 j.1 0 0 0 0 (HF [] 0) 0 0 0):=by
  show(w4.setRow p _).heap[p]? =_;rw[eK,ae rfl,hh];rfl
 generalize w4.setRow p (eV {uv with num:=a.1,route:=j.1}).toArray=U at m5 b5|-;have r5:=r4.mod m5 qZ λb A e=>by have:=Q b A;omega
 have z5:=m5.hpk z4 qZ;have M5:aR (λb=>b=r) w U:=(((m1.to (G:=λb=>b=r)).trans (m2.trans m3)).on m4 λ_ h=>h.elim).on m5 λb A=>.inr qZ;refine ao (bO p 2) U (by simp[go_sem]) ?_;refine ao (bO p 3) U (by simp[go_sem]) ?_;refine ao (bO p 4) U (by simp[go_sem]) ?_;refine ao (bO p 5) U (by simp[go_sem]) ?_;refine nI [.pointer (some ⟨p,2,none⟩),.pointer (some ⟨p,3,none⟩),.pointer (some ⟨p,4,none⟩),.pointer (some ⟨p,5,none⟩)] uPt (dB ePt) rfl rfl (by intro x hx;simp at hx;rcases hx with rfl|rfl|rfl|rfl<;>rfl) qZ ?_;have e6:(([.pointer (some ⟨p,2,none⟩),.pointer (some ⟨p,3,none⟩),.pointer (some ⟨p,4,none⟩),.pointer (some ⟨p,5,none⟩)]:LV_).flatMap (·.cells.toList)).toArray= #[.pointer (some ⟨p,2,none⟩),.pointer (some ⟨p,3,none⟩),.pointer (some ⟨p,4,none⟩),.pointer (some ⟨p,5,none⟩)]:=rfl;rw[e6];obtain⟨q,hq⟩:=di U.heap.size;have m6:M0 U (U.alloc (.cells #[.pointer (some ⟨p,2,none⟩),.pointer (some ⟨p,3,none⟩),.pointer (some ⟨p,4,none⟩),.pointer (some ⟨p,5,none⟩)] 299)):=(aR.refl _ _).alloc _;have q6:hp (U.alloc (.cells #[.pointer (some ⟨p,2,none⟩),.pointer (some ⟨p,3,none⟩),.pointer (some ⟨p,4,none⟩),.pointer (some ⟨p,5,none⟩)] 299)) q=some (.cells #[.pointer (some ⟨p,2,none⟩),.pointer (some ⟨p,3,none⟩),.pointer (some ⟨p,4,none⟩),.pointer (some ⟨p,5,none⟩)] 299 (0,0)):=by rw[hq];simp[go_sem]
 rw[<-hq];generalize U.alloc (.cells #[.pointer (some ⟨p,2,none⟩),.pointer (some ⟨p,3,none⟩),.pointer (some ⟨p,4,none⟩),.pointer (some ⟨p,5,none⟩)] 299)=w6 at m6 q6|-;have r6:=r5.mod m6 id d9;have b6:=m6.hpk b5 id;have z6:=m6.hpk z5 id;have M6:=M5.on m6 λ_ h=>h.elim;have hpq:p<q:=by have:=aB b5;omega
 refine iI (gI ((4:Nat):Int)) w6 (by simp[go_sem]) ?_;obtain⟨S,hS⟩:=di (λk=>Nat.rec j.2 (λ_ t=>(eH l oP t).2) k:Nat->Rs);have hS0:S 0=j.2:=by subst hS;rfl
 have O:∀k,S (k+1)=(eH l oP (S k)).2:=λk=>by subst hS;rfl
 obtain⟨g,hg⟩:=di (λk i=>if k<i then(eH l oP (S k)).1 else 0:Nat->Nat->Int);have g0:∀k,g k 0=0:=λk=>by rw[hg];rfl
 have n:∀k i,k<i->g k i=(eH l oP (S k)).1:=λk i h=>by rw[hg];exact ae h
 have N:∀k i,¬k<i->g k i=0:=λk i h=>by rw[hg];exact aa h
 have B:∀{W W' :Wt_},aR (λb=>b=r\/b=p) W W' ->aR (λb=>b=r) w W->aR (λb=>b=r) w W' :=λm M=>M.on m λb A=>A.elim .inl λA=>.inr qZ
 refine d8 (λst W=>∃i:Nat,i<=4/\st=(gI i,())/\gJ W r v l (S i)/\tH W p (FQ a.1 j.1 (g 0 i) (g 1 i) (g 2 i) (g 3 i) (HF [] 0) 0 0 0)/\aR (λb=>b=r\/b=p) w6 W)
  (λst _=>match st.1 with| .int _ i=>4 - i.toNat|_=>0) ⟨0,qZ,rfl,by rw[hS0];exact r6,by rw[g0,g0,g0,g0];exact b6,aR.refl _ _⟩ ?_
 rintro⟨_,_⟩ W ⟨i,hi,⟨⟩,rW,bW,mW⟩ KN hKN;refine lV ?_;intro _;refine bo (aj8 _ 4 _) ?_;by_cases hlt:i<4
 ·rw[ay,ae (by simpa using hlt)];have qW:=mW.hpk q6 qZ;have hlt' :¬(4:Int)<=(i:Int):=qZ;refine ao (bO q i) W (by simp[go_sem,hlt',bK]<;>omega) ?_;refine ao (bO p (2+i)) W (by rcases(show i=0\/i=1\/i=2\/i=3 by omega)with rfl|rfl|rfl|rfl<;>simp[go_sem,qW]) ?_;refine qD rW (most:=9223372036854775807) qZ λW1 rW1 mW1=>?_;have nb:=ry l (S i);have ex:(((fd l 9223372036854775807 (S i)).1:Nat):Int)=(eH l oP (S i)).1/\(fd l 9223372036854775807 (S i)).2=S (i+1):=by rw[O];exact⟨rfl,rfl⟩
  have n0:=(rH l oP (S i)).1;rw[ex.1];rw[ex.2]at rW1;obtain⟨y,hy⟩:=di ((eH l oP (S i)).1);rw[<-hy]at nb n0|-;refine ao (gI y) W1 (by simp[go_sem];rw[ew qZ qZ]) ?_;rw[bU];have bW1:=mW1.hpk bW qZ
  have hset:∃C',(FQ a.1 j.1 (g 0 i) (g 1 i) (g 2 i) (g 3 i) (HF [] 0) 0 0 0).set (2+i) (gI y)=C' /\C' =FQ a.1 j.1 (g 0 (i+1)) (g 1 (i+1)) (g 2 (i+1)) (g 3 (i+1)) (HF [] 0) 0 0 0/\∃o,(FQ a.1 j.1 (g 0 i) (g 1 i) (g 2 i) (g 3 i) (HF [] 0) 0 0 0)[2+i]? =some (gI o):=by
   rcases(show i=0\/i=1\/i=2\/i=3 by omega)with rfl|rfl|rfl|rfl
   ·exact⟨_,rfl,by rw[n 0 1 qZ,<-hy,N 1 1 qZ,N 2 1 qZ,N 3 1 qZ,g0,g0,g0,g0];rfl,_,rfl⟩
   ·exact⟨_,rfl,by rw[n 0 2 qZ,n 1 2 qZ,<-hy,N 2 2 qZ,N 3 2 qZ,n 0 1 qZ,N 1 1 qZ,N 2 1 qZ,N 3 1 qZ];rfl,_,rfl⟩
   ·exact⟨_,rfl,by rw[n 0 3 qZ,n 1 3 qZ,n 2 3 qZ,<-hy,N 3 3 qZ,n 0 2 qZ,n 1 2 qZ,N 2 2 qZ,N 3 2 qZ];rfl,_,rfl⟩
   ·exact⟨_,rfl,by rw[n 0 4 qZ,n 1 4 qZ,n 2 4 qZ,n 3 4 qZ,<-hy,n 0 3 qZ,n 1 3 qZ,n 2 3 qZ,N 3 3 qZ];rfl,_,rfl⟩
  obtain⟨C',hs1,hs2,o,hgo⟩:=hset;obtain⟨W2,e2',bW2,mW2⟩:=stI bW1 hgo hs1;refine iE e2' ?_;refine bo (ad3 qZ _) ?_;refine hKN _ _ ⟨i+1,qZ,rfl,rW1.mod mW2 qZ λb A e=>by have:=Q b A;omega,by rw[<-hs2];exact bW2,(mW.trans (mW1.mono λ_ _ h=>.inl h)).trans (mW2.mono λ_ _ h=>.inr h)⟩ (by show 4 - (i+1)<4 - i;omega)
 obtain rfl:i=4:=qZ;rw[ay,aa (by simp)];clear hKN;rw[n 0 4 qZ,n 1 4 qZ,n 2 4 qZ,n 3 4 qZ]at bW;have MW:=B mW M6;have zW:=mW.hpk z6 qZ;obtain⟨G,hG⟩:=di (λE c L f k=>FQ a.1 j.1 (eH l oP (S 0)).1 (eH l oP (S 1)).1 (eH l oP (S 2)).1 (eH l oP (S 3)).1 (HF E k) c L f:List Int->Int->Int->Int->Nat->List Value);have d:∀E c L f k,FQ a.1 j.1 (eH l oP (S 0)).1 (eH l oP (S 1)).1 (eH l oP (S 2)).1 (eH l oP (S 3)).1 (HF E k) c L f=G E c L f k:=λE c L f k=>by rw[hG]
 rw[d]at bW
 refine d8 (λst X=>∃k:Nat,k<=16/\st=(gI k,())/\gJ X r v l (ii l k (S 4)).2/\tH X p (G (ii l k (S 4)).1 0 0 0 k)/\aR (λb=>b=r\/b=p) W X)
  (λst _=>match st.1 with| .int _ i=>16 - i.toNat|_=>0) ⟨0,qZ,rfl,rW,bW,aR.refl _ _⟩ ?_
 rintro⟨_,_⟩ X ⟨k,V,⟨⟩,rX,bX,mX⟩ KN2 hKN2;refine lV ?_;intro _;have I:=wZ l k (S 4);refine ao (.bool (decide (k<16))) X (by simp[go_sem];omega) ?_;by_cases u:k<16
 ·rw[ay,ae (by simpa using u)];refine Lp rX λX1 R D=>?_;have hsn:=zu l k (S 4);have hfi:=Dz l (ii l k (S 4)).2;have e7:(kB l (ii l k (S 4)).2).2=(ii l (k+1) (S 4)).2:=by rw[hsn]
  rw[e7]at R;have bX1:=D.hpk bX qZ;refine ao (bO p 6) X1 (by simp[go_sem]) ?_;have hlt3:¬(16:Int)<=(k:Int):=qZ;refine ao (bO p (6+k)) X1 (by simp[go_sem,u,hlt3,bK]<;>omega) ?_
  have hgk:(G (ii l k (S 4)).1 0 0 0 k)[6+k]? =some (gI 0):=by
   rw[<-d,P2 (ES I qZ) u,UH I u]
  obtain⟨X2,e8,Y,J⟩:=stI (x:=(kB l (ii l k (S 4)).2).1) bX1 hgk rfl;refine iE e8 ?_;refine bo (ad3 qZ _) ?_;refine hKN2 _ _ ⟨k+1,qZ,rfl,R.mod J qZ λb A e=>by have:=Q b A;omega,?_,(mX.trans (D.mono λ_ _ h=>.inl h)).trans (J.mono λ_ _ h=>.inr h)⟩ (by show 16 - (k+1)<16 - k;omega);rw[<-d,Ro (ES I qZ) u,TM I u]at Y;rw[hsn,<-d];exact Y
 obtain rfl:k=16:=qZ;rw[ay,aa (by simp)];clear hKN2;have MX:=B mX MW;have zX:=mX.hpk zW qZ;have P:=ES I qZ;obtain⟨E,hxs⟩:=di ((ii l 16 (S 4)).1);obtain⟨T,hT⟩:=di ((ii l 16 (S 4)).2);rw[<-hxs]at I P bX;rw[<-hT]at rX;have gE:∀c L f k,(G E c L f 16)[22+k]? =([.int .i64 c,gU L,gI f]:LV_)[k]? :=λc L f k=>by rw[<-d];exact O8 P
 have sE:∀c L f k x,(G E c L f 16).set (22+k) x=[.int .u32 a.1,gB j.1,gI (eH l oP (S 0)).1,gI (eH l oP (S 1)).1,gI (eH l oP (S 2)).1,gI (eH l oP (S 3)).1]++(HF E 16++([.int .i64 c,gU L,gI f]:LV_).set k x):=λc L f k x=>by rw[<-d];exact QH P x
 have hvr:∀{X X' :Wt_} {t:Rs},gJ X r v l t->aR (λb=>b=p) X X' ->gJ X' r v l t:=λh m=>h.mod m qZ λb A e=>by have:=Q b A;omega
 refine qD rX (most:=9223372036854775807) qZ λX1 R D=>?_;have nA:=ry l T;have nA0:=(rH l oP T).1;obtain⟨C,hya⟩:∃y,y=eH l oP T:=⟨_,rfl⟩
 have exA:(((fd l 9223372036854775807 T).1:Nat):Int)=C.1/\(fd l 9223372036854775807 T).2=C.2:=by rw[hya];exact⟨rfl,rfl⟩
 rw[exA.1];rw[exA.2]at R;rw[<-hya]at nA nA0;refine ao (gI C.1) X1 (by simp[go_sem];rw[ew qZ qZ]) ?_;refine ao (bO p (22+0)) X1 (by simp[go_sem]) ?_;obtain⟨X2,f2,Y,J⟩:=stI (x:=C.1) (D.hpk bX qZ) (gE 0 0 0 0) (C' :=G E C.1 0 0 16) ((sE 0 0 0 0 _).trans (by rw[<-d];rfl));refine iE f2 ?_;have rX2:=hvr R J;refine qD rX2 (most:=4294967295) qZ λX3 rX3 mX3=>?_;have nB:=AU l C.2;obtain⟨F,hyb⟩:∃y,y=eH l FN C.2:=⟨_,rfl⟩
 have exB:(((fd l 4294967295 C.2).1:Nat):Int)=F.1/\(fd l 4294967295 C.2).2=F.2:=by rw[hyb];exact⟨rfl,rfl⟩
 rw[exB.1];rw[exB.2]at rX3;rw[<-hyb]at nB;refine ao (gU F.1) X3 (by simp[go_sem];rw[IntKind.wrap_u32'];omega) ?_;refine ao (bO p (22+1)) X3 (by simp[go_sem]) ?_;obtain⟨X4,f4,bX4,mX4⟩:=aa0 (x:=F.1) (mX3.hpk Y qZ) (gE C.1 0 0 1) (C' :=G E C.1 F.1 0 16) ((sE _ _ _ 1 _).trans (by rw[<-d];rfl));refine iE f4 ?_;have rX4:=hvr rX3 mX4;refine qD rX4 (most:=9223372036854775807) qZ λX5 rX5 mX5=>?_;have nC:=ry l F.2;have nC0:=(rH l oP F.2).1;obtain⟨yc,hyc⟩:∃y,y=eH l oP F.2:=⟨_,rfl⟩
 have IY:(((fd l 9223372036854775807 F.2).1:Nat):Int)=yc.1/\(fd l 9223372036854775807 F.2).2=yc.2:=by rw[hyc];exact⟨rfl,rfl⟩
 rw[IY.1];rw[IY.2]at rX5;rw[<-hyc]at nC nC0;refine ao (gI yc.1) X5 (by simp[go_sem];rw[ew qZ qZ]) ?_;refine ao (bO p (22+2)) X5 (by simp[go_sem]) ?_;obtain⟨X6,f6,bX6,mX6⟩:=stI (x:=yc.1) (mX5.hpk bX4 qZ) (gE C.1 F.1 0 2) (C' :=G E C.1 F.1 yc.1 16) ((sE _ _ _ 2 _).trans (by rw[<-d];rfl));refine iE f6 ?_;have rX6:=hvr rX5 mX6;have MX6:aR (λb=>b=r) w X6:=B ((((((D.mono λ_ _ h=>.inl h).trans (J.mono λ_ _ h=>.inr h)).trans (mX3.mono λ_ _ h=>.inl h)).trans (mX4.mono λ_ _ h=>.inr h)).trans (mX5.mono λ_ _ h=>.inl h)).trans (mX6.mono λ_ _ h=>.inr h)) MX;have zX6:=mX6.hpk (mX5.hpk (mX4.hpk (mX3.hpk (J.hpk (D.hpk zX qZ) qZ) qZ) qZ) qZ) qZ
 have hsp:(tI l s).2=yc.2/\G E C.1 F.1 yc.1 16=eV (tI l s).1:=by
  rw[<-d];have hS1:S 1=(eH l oP (S 0)).2:=O 0;have hS2:S 2=(eH l oP (S 1)).2:=O 1;have hS3:S 3=(eH l oP (S 2)).2:=O 2;have hS4:S 4=(eH l oP (S 3)).2:=O 3;rw[hxs];exact XT hx1 hx2 (by rw[hS0]) (by rw[hS1]) (by rw[hS2]) (by rw[hS3]) (by rw[hS4]) (by rw[hya,hT]) hyb hyc
 obtain⟨Z,hZ⟩:=di (tI l s);have hzf:Z.1.Fit:=by rw[hZ];exact NP l s
 rw[<-hZ]at hsp;rw[hsp.2]at bX6;rw[<-hsp.1]at rX6;have V:=hK;unfold CM at V;rw[<-hZ]at V;refine fH (eV Z.1) 24 zi we (br _) (At.all bX6) ?_;refine qF hzf λX7 mX7=>?_;refine ao (.bool (!Z.1.may)) X7 (by simp[go_sem]) ?_;have rX7:=rX6.mod mX7 id d9;have bX7:=mX7.hpk bX6 id;have zX7:=mX7.hpk zX6 id;have MX7:=MX6.on mX7 λ_ h=>h.elim
 have fin:∀(H:Wt_) (t:Sp) (rs:Rs),gJ H r v l rs->aR (λb=>b=r) w H->tH H z (eV uv)->(∀w',gJ w' r v l rs->aR (λb=>b=r) w w' ->K (.agg (eV t).toArray) w')->
   yS pQ (rS nX (bO z 0) (.agg (eV t).toArray)) H λw9=>ID pQ (qE nX (bO z 0)) w9 λv9=>K v9 w9:=by
  intro H t rs hr hm A V;have hh:H.heap[z]? =some (.cells (eV uv).toArray nX (0,0)):=A;refine uU we (br t) hh (by rw[dv,br,br];omega) (qw _) ?_;have e5:jp (eV uv).toArray.toList 0 (eV t)=eV t:=lF (by rw[br];simp[br]);rw[e5];have m9:aR (λb=>b=z) H (H.setRow z (eV t).toArray):=(aR.refl (λb=>b=z) H).setRow (.inl rfl) _
  have b9:tH (H.setRow z (eV t).toArray) z (eV t):=by
   show(H.setRow z _).heap[z]? =_;rw[eK,ae rfl,hh]
  refine kA (eV t) 24 zi we (br _) (At.all b9) ?_;exact V _ (hr.mod m9 qZ λb A e=>by have:=Q b A;omega) (hm.on m9 λb A=>.inr qZ)
 cases hmay:Z.1.may with
 |false=>
  rw[hmay]at V;rw[show(!false)=true from rfl,ay,ae rfl];refine Sh (e:=5) rX7 λH rX8 mX8=>?_;refine xH Qe ?_;exact fin H uv _ rX8 (MX7.trans mX8) (mX8.hpk zX7 qZ) (by simpa using V)
 |true=>
  rw[hmay]at V;rw[show(!true)=false from rfl,ay,aa dp];refine fH (eV Z.1) 24 zi we (br _) (At.all bX7) ?_;exact fin X7 Z.1 _ rX7 MX7 zX7 (by simpa using V)
end Go.Proofs
namespace Go.Proofs
open Go Go.Vc
attribute [local congr] bj
section
variable{w w' :Wt_}{K:aZ}{c r:Nat}{v:Vt_}{l:List UInt8}{s:Rs}
def WW{W:Wt_}{p:Nat}{a b:Ac}(h:hp W p=some (.cells (cY a).toArray 100 (0,0))):(iL 100 (bO p 0)).run pQ W=.ok (jX a) W/\
  ∃d,(iS 100 (bO p 0) (jX b)).run pQ W=.ok () d/\hp d p=some (.cells (cY b).toArray 100 (0,0))/\aR (λy=>y=p) W d:=by
 simp only[cY]at h|-;exact⟨by simp[go_sem,h,jX],(((W.setCell ⟨p,0,none⟩ (gU b.num)).setCell ⟨p,1,none⟩ (gI b.cash)).setCell ⟨p,2,none⟩ (.bool b.kil)).setCell ⟨p,3,none⟩ (.bool b.dfl),by simp[go_sem,h,jX],by simp[go_sem,h],((((aR.refl (λy=>y=p) W).setCell (.inl rfl) _ _).setCell (.inl rfl) _ _).setCell (.inl rfl) _ _).setCell (.inl rfl) _ _⟩
def XP{W:Wt_}{p:Nat}{a b:Po}(h:hp W p=some (.cells (dy a).toArray 124 (0,0))):(iL 124 (bO p 0)).run pQ W=.ok (nh a) W/\
  ∃d,(iS 124 (bO p 0) (nh b)).run pQ W=.ok () d/\hp d p=some (.cells (dy b).toArray 124 (0,0))/\aR (λy=>y=p) W d:=by
 simp only[dy]at h|-;exact⟨by simp[go_sem,h,nh],(((W.setCell ⟨p,0,none⟩ (gU b.c)).setCell ⟨p,1,none⟩ (gU b.a)).setCell ⟨p,2,none⟩ (gI b.q)).setCell ⟨p,3,none⟩ (gI b.b),by simp[go_sem,h,nh],by simp[go_sem,h],((((aR.refl (λy=>y=p) W).setCell (.inl rfl) _ _).setCell (.inl rfl) _ _).setCell (.inl rfl) _ _).setCell (.inl rfl) _ _⟩
attribute [local irreducible] eH kB rQ CM
end
end Go.Proofs
namespace Go.Proofs
open Go Go.Vc
attribute [local congr] bj
def ac0{a:Ac}{W:Wt_}{p:Nat}(h:hp W p=some (.cells (cY a).toArray 100 (0,0))):(iL 100 (bO p 0)).run pQ W=.ok (jX a) W:=(WW (b:=⟨0,0,false,false⟩) h).1
def af5{a:Po}{W:Wt_}{p:Nat}(h:hp W p=some (.cells (dy a).toArray 124 (0,0))):(iL 124 (bO p 0)).run pQ W=.ok (nh a) W:=(XP (b:=⟨0,0,0,0⟩) h).1
end Go.Proofs
namespace Go.Proofs
open Go Go.Vc
attribute [local congr] bj
section
attribute [local irreducible] eH kB rQ CM Jb
end
section
variable{w:Wt_}{K:aZ}{v:Vt_}{l:List UInt8}
end
end Go.Proofs
namespace Go.Proofs
open Go Go.Vc
attribute [local congr] bj
def V8:iM 0=[0]:=by unfold iM;rfl
def ae9:iM 1=[1]:=by unfold iM;rfl
def ZX:lS 0=[0]:=by unfold lS;exact V8
def b8:List UInt8:=[0,1,0,0,0,0,0,0]
def Vg:Cm:={LG with kind:=1,acct:=1,amt:=5}
def Rk:Vg.Fit:=⟨⟨by decide,by decide⟩,⟨by decide,by decide⟩,⟨by decide,by decide⟩,⟨by decide,by decide⟩,⟨by decide,by decide⟩,TI,⟨by decide,by decide⟩,⟨by decide,by decide⟩,⟨by decide,by decide⟩⟩
def af3:Tryz.prog.built tA [(0,gB 1),(1,gU 1),(4,gI 5)]=some (ny Vg).toArray:=cV
def Yx{w:Wt_}{K:aZ}(a:K (zF Vg) w):rx pQ (CA tA #[(0,gB 1),(1,gU 1),(4,gI 5)]) w K:=xH af3 a
def Xi(r:Rp)(sT sG a:Vt_)(W:Wt_):(Instr.field 42 (O0 r sT sG a) 0).run pQ W=.ok (gI r.err) W:=by
 simp[Instr.field,go_sem,part,isAgg,asAgg,O0]
end Go.Proofs
namespace Go.Proofs
open Go Go.Vc
attribute [local congr] bj
variable {l:List UInt8}{s v fv:Vt_}{w:Wt_}{K:aZ}
def pD{α:Type}{g:α->List UInt8}{m:Nat}:∀{L:List α},(∀x∈L,(g x).length<=m)->(L.flatMap g).length<=m*L.length
 | [],_=>aH _
 |x::L,h=>by
  have h1:=h x aw;have b:=pD (L:=L) λy a=>h y (ag _ a);rw[bm,af,be,mJ];omega
def pY{n:Nat}(h:n<18446744073709551616):(iM n).length<=10:=BD 9 n qZ
def ab0{W:Wt_}{L:List Ac}(h:Rd W 4 s L.length (L.flatMap cY)){i:Nat}(hi:i<L.length):
  ∃b a,(iX 53 s (gI (i:Int))).run pQ W=.ok (bO b a) W/\(iL 100 (bO b a)).run pQ W=.ok (jX L[i]) W:=by
 obtain⟨b,a,e,c,d,f⟩:=h.item (show∀x,(cY x).length=4 from λ_=>rfl) hi rfl;have u:Tryz.prog.underlying 53=some (.slice 100):=cV;refine⟨b,a+i*4,by rw[c];simp[go_sem,hi,bK,u],?_⟩;exact jh (P:=pQ) (t:=100) cV (show Tryz.prog.cellsOf 100=3+1 by kernel_rfl) rfl f
def NU{L:List (Ac)}{g:Ac->List UInt8}(h:jF w s l)(J:Rd w 4 v L.length (L.flatMap cY))(f:∀y,tq v y->¬aF s y)(hl:l.length<=100000000)(hn:L.length<=3200)(S:∀x∈L,(g x).length<=300)
  (c:∀W a q x (F:aZ),x∈L->jF W a q->q.length<=900000000->(∀e B,jF B e (q++g x)->aR (aF a) W B->(∀b,aF e b->aF a b\/W.heap.size<=b)->F e B)->lA pQ fv [a,jX x] W F)
  (hK:∀a C,jF C a (l++xf g L)->aR (aF s) w C->(∀b,aF a b->aF s b\/w.heap.size<=b)->K a C):Ca pQ 96 #[s,v,fv] w K:=by
 refine cN Tryz.func96 ?_;obtain⟨va,vc,Z⟩:=J.isSl;have I:∀W,(builtin .len #[53] 3 #[false] #[v]).run pQ W=.ok (.value (gI (L.length:Int))) W:=λW=>by rw[Z];simp[go_sem]
 refine uz (I _) (ao (gQ (L.length:Int)) w (by simp[go_sem];rw[ly qZ qZ]) ?_);have H:(iM L.length).length<=10:=pY qZ;refine tQ (n:=L.length) h qZ qZ λs1 w1 o1 Y V=>?_;refine uz (I _) ?_
 have T:∀k,((L.take k).flatMap g).length<=960000:=λk=>by
  have h1:=pD (m:=300) (g:=g) (L:=L.take k) λx o=>S x (bF o);have h2:(L.take k).length<=L.length:=by grind
  omega
 refine d8 (λst W=>∃(k:Nat) (a:Vt_),k<=L.length/\st=(a,gI k,())/\jF W a (l++iM L.length++(L.take k).flatMap g)/\aR (aF s) w W/\∀b,aF a b->aF s b\/w.heap.size<=b)
  (λst _=>match st.2.1 with| .int _ k=>L.length - k.toNat|_=>0) ⟨0,s1,qZ,rfl,by grind,Y,V⟩ ?_
 rintro _ W ⟨k,a,hk,rfl,r,p,t⟩ KN u;refine lV ?_;intro _;by_cases d:k<L.length
 ·have j:(k:Int)<(L.length:Int):=qZ;refine bo (v:=.bool true) (by simp[go_sem,j]<;>first|exact⟨rfl,rfl⟩|exact rfl) ?_;rw[kJ];have z:=J.mod p f;have i:=aq d;have htk:=bR d;obtain⟨eb,eo,Q,X⟩:=ab0 z d;refine bo Q (bo X ?_);obtain⟨x,o⟩:=di (L[k]);rw[<-o];obtain⟨W2,E,P,f3,N,D⟩:=Qp x W;refine bo P (iE f3 (bo (ac0 N) ?_));refine c E a _ x _ (o▸i) (r.mod D d9) (by grind) λs2 U o4 R n4=>?_;refine ao (gI ((k+1:Nat):Int)) U (by simp[go_sem];rw[ew qZ qZ]) ?_;have hz:=p.size;have O:=D.size;have A:aR (aF s) w E:=p.trans (D.to);refine u _ _ ⟨k+1,s2,qZ,rfl,?_,A.on R t,λb M=>?_⟩ (by grind)
  ·grind
  ·rcases n4 b M with G|G
   ·exact t b G
   ·exact .inr qZ
 ·obtain rfl:k=L.length:=qZ;refine bo (v:=.bool false) (by simp[go_sem]<;>first|exact⟨rfl,rfl⟩|exact rfl) ?_;rw[jO];rw[aK,ar]at r;exact hK _ _ r p t
def ZE(k:Ct):Value:=.agg (dA k).toArray
def NZ{L:List (Ct)}{g:Ct->List UInt8}(h:jF w s l)(S:Rd w 27 v L.length (L.flatMap dA))(f:∀y,tq v y->¬aF s y)(hl:l.length<=100000000)(hn:L.length<=3200)(Z:∀x∈L,(g x).length<=300)
  (d:∀W a t x (O:aZ),x∈L->jF W a t->t.length<=900000000->(∀e E,jF E e (t++g x)->aR (aF a) W E->(∀b,aF e b->aF a b\/W.heap.size<=b)->O e E)->lA pQ fv [a,ZE x] W O)
  (hK:∀a F,jF F a (l++xf g L)->aR (aF s) w F->(∀b,aF a b->aF s b\/w.heap.size<=b)->K a F):Ca pQ 99 #[s,v,fv] w K:=by
 refine cN Tryz.func99 ?_;obtain⟨va,vc,hv⟩:=S.isSl;have R:∀W,(builtin .len #[54] 3 #[false] #[v]).run pQ W=.ok (.value (gI (L.length:Int))) W:=λW=>by rw[hv];simp[go_sem]
 refine uz (R _) (ao (gQ (L.length:Int)) w (by simp[go_sem];rw[ly qZ qZ]) ?_);have Q:(iM L.length).length<=10:=pY qZ;refine tQ (n:=L.length) h qZ qZ λs1 w1 o1 m1 n1=>?_;refine uz (R _) ?_
 have hfl:∀k,((L.take k).flatMap g).length<=960000:=λk=>by
  have h1:=pD (m:=300) (g:=g) (L:=L.take k) λx o=>Z x (bF o);have h2:(L.take k).length<=L.length:=by grind
  omega
 refine d8 (λst W=>∃(k:Nat) (a:Vt_),k<=L.length/\st=(a,gI k,())/\jF W a (l++iM L.length++(L.take k).flatMap g)/\aR (aF s) w W/\∀b,aF a b->aF s b\/w.heap.size<=b)
  (λst _=>match st.2.1 with| .int _ k=>L.length - k.toNat|_=>0) ⟨0,s1,qZ,rfl,by grind,m1,n1⟩ ?_
 rintro _ W ⟨k,a,hk,rfl,u,q,z⟩ KN A;refine lV ?_;intro _;by_cases c:k<L.length
 ·have j:(k:Int)<(L.length:Int):=qZ;refine bo (v:=.bool true) (by simp[go_sem,j]<;>first|exact⟨rfl,rfl⟩|exact rfl) ?_;rw[kJ];have C:=S.mod q f;have i:=aq c;have htk:=bR c;obtain⟨b,B,cap,G,J,N⟩:=C.item bM c rfl;obtain⟨x,o⟩:=di (L[k]);rw[<-o]at N;refine ao (bO b (B+k*27)) W (by rw[G];simp[go_sem,c,bK,qM]) ?_;refine fH (dA x) 26 CP sI (bM x) N ?_;refine yD _ λw5 M V=>?_;obtain⟨p,I⟩:=di W.heap.size;rw[<-I]at M|-;refine JQ (k' :=x) M λr U m3=>?_;have H:M0 W r:=V.on m3 λy hy=>.inr qZ;refine fH (dA x) 26 CP sI (bM x) (At.all U) ?_;refine d r a _ x _ (o▸i) (u.mod H d9) (by grind) λs2 W4 o4 Y n4=>?_;refine ao (gI ((k+1:Nat):Int)) W4 (by simp[go_sem];rw[ew qZ qZ]) ?_;have hz:=q.size;have X:=H.size;have D:aR (aF s) w r:=q.trans (H.to);refine A _ _ ⟨k+1,s2,qZ,rfl,?_,D.on Y z,λb T=>?_⟩ (by grind)
  ·grind
  ·rcases n4 b T with P|P
   ·exact z b P
   ·exact .inr qZ
 ·obtain rfl:k=L.length:=qZ;refine bo (v:=.bool false) (by simp[go_sem]<;>first|exact⟨rfl,rfl⟩|exact rfl) ?_;rw[jO];rw[aK,ar]at u;exact hK _ _ u q z
def NO{L:List (Po)}{g:Po->List UInt8}(h:jF w s l)(J:Rd w 4 v L.length (L.flatMap dy))(f:∀y,tq v y->¬aF s y)(hl:l.length<=100000000)(hn:L.length<=3200)(S:∀x∈L,(g x).length<=300)
  (c:∀W a q x (F:aZ),x∈L->jF W a q->q.length<=900000000->(∀e B,jF B e (q++g x)->aR (aF a) W B->(∀b,aF e b->aF a b\/W.heap.size<=b)->F e B)->lA pQ fv [a,nh x] W F)
  (hK:∀a C,jF C a (l++xf g L)->aR (aF s) w C->(∀b,aF a b->aF s b\/w.heap.size<=b)->K a C):Ca pQ 102 #[s,v,fv] w K:=by
 refine cN Tryz.func102 ?_;obtain⟨va,vc,Z⟩:=J.isSl;have I:∀W,(builtin .len #[55] 3 #[false] #[v]).run pQ W=.ok (.value (gI (L.length:Int))) W:=λW=>by rw[Z];simp[go_sem]
 refine uz (I _) (ao (gQ (L.length:Int)) w (by simp[go_sem];rw[ly qZ qZ]) ?_);have H:(iM L.length).length<=10:=pY qZ;refine tQ (n:=L.length) h qZ qZ λs1 w1 o1 Y V=>?_;refine uz (I _) ?_
 have T:∀k,((L.take k).flatMap g).length<=960000:=λk=>by
  have h1:=pD (m:=300) (g:=g) (L:=L.take k) λx o=>S x (bF o);have h2:(L.take k).length<=L.length:=by grind
  omega
 refine d8 (λst W=>∃(k:Nat) (a:Vt_),k<=L.length/\st=(a,gI k,())/\jF W a (l++iM L.length++(L.take k).flatMap g)/\aR (aF s) w W/\∀b,aF a b->aF s b\/w.heap.size<=b)
  (λst _=>match st.2.1 with| .int _ k=>L.length - k.toNat|_=>0) ⟨0,s1,qZ,rfl,by grind,Y,V⟩ ?_
 rintro _ W ⟨k,a,hk,rfl,r,p,t⟩ KN u;refine lV ?_;intro _;by_cases d:k<L.length
 ·have j:(k:Int)<(L.length:Int):=qZ;refine bo (v:=.bool true) (by simp[go_sem,j]<;>first|exact⟨rfl,rfl⟩|exact rfl) ?_;rw[kJ];have z:=J.mod p f;have i:=aq d;have htk:=bR d;obtain⟨eb,eo,Q,X⟩:=Zi z d;refine bo Q (bo X ?_);obtain⟨x,o⟩:=di (L[k]);rw[<-o];obtain⟨W2,E,P,f3,N,D⟩:=Pp x W;refine bo P (iE f3 (bo (af5 N) ?_));refine c E a _ x _ (o▸i) (r.mod D d9) (by grind) λs2 U o4 R n4=>?_;refine ao (gI ((k+1:Nat):Int)) U (by simp[go_sem];rw[ew qZ qZ]) ?_;have hz:=p.size;have O:=D.size;have A:aR (aF s) w E:=p.trans (D.to);refine u _ _ ⟨k+1,s2,qZ,rfl,?_,A.on R t,λb M=>?_⟩ (by grind)
  ·grind
  ·rcases n4 b M with G|G
   ·exact t b G
   ·exact .inr qZ
 ·obtain rfl:k=L.length:=qZ;refine bo (v:=.bool false) (by simp[go_sem]<;>first|exact⟨rfl,rfl⟩|exact rfl) ?_;rw[jO];rw[aK,ar]at r;exact hK _ _ r p t
def De{L:List (Int×Od)}{g:Int×Od->List UInt8}(h:jF w s l)(J:Rd w 6 v L.length (L.flatMap kC))(f:∀y,tq v y->¬aF s y)(hl:l.length<=100000000)(hn:L.length<=3200)(R:∀x∈L,(g x).length<=300)
  (c:∀W a q x (F:aZ),x∈L->jF W a q->q.length<=900000000->(∀e B,jF B e (q++g x)->aR (aF a) W B->(∀b,aF e b->aF a b\/W.heap.size<=b)->F e B)->lA pQ fv [a,CU x] W F)
  (hK:∀a C,jF C a (l++xf g L)->aR (aF s) w C->(∀b,aF a b->aF s b\/w.heap.size<=b)->K a C):Ca pQ 104 #[s,v,fv] w K:=by
 refine cN Tryz.func104 ?_;obtain⟨va,vc,Z⟩:=J.isSl;have I:∀W,(builtin .len #[56] 3 #[false] #[v]).run pQ W=.ok (.value (gI (L.length:Int))) W:=λW=>by rw[Z];simp[go_sem]
 refine uz (I _) (ao (gQ (L.length:Int)) w (by simp[go_sem];rw[ly qZ qZ]) ?_);have H:(iM L.length).length<=10:=pY qZ;refine tQ (n:=L.length) h qZ qZ λs1 w1 o1 Y V=>?_;refine uz (I _) ?_
 have T:∀k,((L.take k).flatMap g).length<=960000:=λk=>by
  have h1:=pD (m:=300) (g:=g) (L:=L.take k) λx o=>R x (bF o);have h2:(L.take k).length<=L.length:=by grind
  omega
 refine d8 (λst W=>∃(k:Nat) (a:Vt_),k<=L.length/\st=(a,gI k,())/\jF W a (l++iM L.length++(L.take k).flatMap g)/\aR (aF s) w W/\∀b,aF a b->aF s b\/w.heap.size<=b)
  (λst _=>match st.2.1 with| .int _ k=>L.length - k.toNat|_=>0) ⟨0,s1,qZ,rfl,by grind,Y,V⟩ ?_
 rintro _ W ⟨k,a,hk,rfl,r,p,t⟩ KN u;refine lV ?_;intro _;by_cases d:k<L.length
 ·have j:(k:Int)<(L.length:Int):=qZ;refine bo (v:=.bool true) (by simp[go_sem,j]<;>first|exact⟨rfl,rfl⟩|exact rfl) ?_;rw[kJ];have z:=J.mod p f;have i:=aq d;have htk:=bR d;obtain⟨eb,eo,X,S⟩:=N6 z d;refine bo (X W _) (bo (vn S) ?_);obtain⟨x,o⟩:=di (L[k]);rw[<-o];obtain⟨W2,E,P,f3,N,D⟩:=Jn x W;refine bo P (iE f3 (bo (vn (At.all N)) ?_));refine c E a _ x _ (o▸i) (r.mod D d9) (by grind) λs2 U o4 Q n4=>?_;refine ao (gI ((k+1:Nat):Int)) U (by simp[go_sem];rw[ew qZ qZ]) ?_;have hz:=p.size;have O:=D.size;have A:aR (aF s) w E:=p.trans (D.to);refine u _ _ ⟨k+1,s2,qZ,rfl,?_,A.on Q t,λb M=>?_⟩ (by grind)
  ·grind
  ·rcases n4 b M with G|G
   ·exact t b G
   ·exact .inr qZ
 ·obtain rfl:k=L.length:=qZ;refine bo (v:=.bool false) (by simp[go_sem]<;>first|exact⟨rfl,rfl⟩|exact rfl) ?_;rw[jO];rw[aK,ar]at r;exact hK _ _ r p t
end Go.Proofs
namespace Go.Proofs
open Go Go.Vc
attribute [local congr] bj
structure yz(w:Wt_)(s:Vt_)(w' :Wt_)(s' :Vt_)(l:List UInt8):Prop where
 own:jF w' s' l
 md:aR (aF s) w w'
 nw:∀b,aF s' b->aF s b\/w.heap.size<=b
section
variable{w w1 w2:Wt_}{s s1 s2:Vt_}{l l1 l2:List UInt8}{K:aZ}
def yz.zero(h:jF w s l)(m:M0 w w1):yz w s w1 s l:=⟨h.mod m d9,m.to,λb a=>.inl a⟩
def yz.go(h:yz w s w1 s1 l1)(o:jF w2 s2 l2)(m:aR (aF s1) w1 w2)(n:∀b,aF s2 b->aF s1 b\/w1.heap.size<=b):yz w s w2 s2 l2:=
 ⟨o,h.md.on m h.nw,λb c=>by
  rcases n b c with a|a
  ·exact h.nw b a
  ·have:=h.md.size;exact .inr qZ⟩
def yz.dr(h:yz w s w1 s1 l1)(m:M0 w1 w2):yz w s w2 s1 l1:=⟨h.own.mod m d9,h.md.trans (m.to),h.nw⟩
def yz.np(h:yz w s w1 s1 l1){p:Nat}(h1:¬aF s p)(c:p<w.heap.size):¬aF s1 p:=λb=>by
 rcases h.nw p b with a|a
 ·exact h1 a
 ·omega
def yz.back{a:Wt_}(h:yz w s w1 s1 l1)(m:M0 a w):aR (aF s) a w1/\∀b,aF s1 b->aF s b\/a.heap.size<=b:=
 ⟨(m.to).trans h.md,λb c=>(h.nw b c).imp id λd=>by have:=m.size;omega⟩
def nv{x:Int}(h:jF w s l)(f:0<=x/\x<18446744073709551616)(d:l.length<=1000000000)
  (e:∀a c,jF c a (l++dJ x)->aR (aF s) w c->(∀b,aF a b->aF s b\/w.heap.size<=b)->K a c):Ca pQ 72 #[s,gQ x] w K:=by
 obtain⟨n,rfl⟩:=Int.eq_ofNat_of_zero_le f.1;exact tQ h qZ d e
def jz(x:Int)(h:x<18446744073709551616):(dJ x).length<=10:=pY qZ
def qf{x:Int}(h:ed x):(lS x).length<=10:=pY (EI h)
def WF(x:Ac)(w:Wt_):∃w1,(Instr.box 100 (jX x)).run pQ w=.ok (bO w.heap.size 0) w1/\O1 w1 w.heap.size x/\M0 w w1:=
 ⟨w.alloc (.cells (cY x).toArray 100),rfl,by show hp _ _=_;simp[go_sem],(aR.refl _ w).alloc _⟩
def TC(i:Nat)(hi:i<4)(p:Nat)(W:Wt_):(iF 100 (bO p 0) i).run pQ W=.ok (bO p i) W:=by
 rcases(show i=0\/i=1\/i=2\/i=3 by omega)with rfl|rfl|rfl|rfl<;>simp[go_sem]
def Yo{W:Wt_}{p:Nat}{a:Ac}(h:O1 W p a):(iL 45 (bO p 0)).run pQ W=.ok (gU a.num) W/\(iL 2 (bO p 1)).run pQ W=.ok (gI a.cash) W:=by
 have b:hp W p=some (.cells (cY a).toArray 100 (0,0)):=h;simp only[cY]at b;exact⟨by simp[go_sem,b],by simp[go_sem,b]⟩
def vq{x:Int}(a:iU x)(W:Wt_):(convert 45 37 (gU x)).run pQ W=.ok (gQ x) W:=by
 obtain⟨h1,b⟩:=a;simp[go_sem];rw[ly qZ qZ]
def QG{x:Ac}(h:jF w s l)(f:iU x.num/\ed x.cash)(V:l.length<=900000000)
  (O:∀i m,jF m i (l++Gr x)->aR (aF s) w m->(∀b,aF i b->aF s b\/w.heap.size<=b)->K i m):Ca pQ 97 #[s,jX x] w K:=by
 refine cN Tryz.func97 ?_;obtain⟨w1,C,r,R⟩:=WF x w;obtain⟨p,o⟩:=di w.heap.size;rw[<-o]at C r;have np:¬aF s p:=λT=>by have:=h.lt T;omega
 refine bo C ?_;have g:=R.trans (aR.refl (λ_=>False) w1).drew;have a:O1 w1.drew p x:=((aR.refl (λ_=>False) w1).drew).hpk r id;have j:jF w1.drew s l:=h.mod g d9;generalize w1.drew=w2 at g a j|-;have c:p<w2.heap.size:=aB a;have r0:yz w2 s w2 s l:=yz.zero j (aR.refl _ _);have l1:=jz x.num (by grind);have l2:=qf f.2;refine cx (λW=>TC 0 qZ p W) (cK (Yo a).1 (cK (vq f.1 _) ?_));refine cx (λW=>TC 1 qZ p W) (cK (Yo a).2 ?_);refine cx (λW=>TC 2 qZ p W) (cK (Eo a).1 ?_);refine cx (λW=>TC 3 qZ p W) (cK (Eo a).2 ?_);refine nv j ⟨f.1.1,by grind⟩ qZ λX J z t M=>?_;have q:=r0.go z t M;have d:O1 J p x:=t.hpk a np;refine⟨(Eo d).2,(Eo d).1,(Yo d).2,?_⟩;refine sU z f.2 (by grind) λU E B D N=>?_;have v:=q.go B D N;have n:O1 E p x:=D.hpk d (q.np np c);refine⟨(Eo n).2,(Eo n).1,?_⟩;refine Ce B (by grind) λY S y A I=>?_;have P:=v.go y A I;have H:O1 S p x:=A.hpk n (v.np np c);refine⟨(Eo H).2,?_⟩;refine Ce y (by simp only[af,qO,ee];omega) λF L k G Q=>?_;have u:=P.go k G Q;have e:l++dJ x.num++lS x.cash++qO x.kil++qO x.dfl=l++Gr x:=by unfold Gr;simp only[ar]
 rw[e]at k;exact O F L k (u.back g).1 (u.back g).2
def Xo(x:Po)(w:Wt_):∃w1,(Instr.box 124 (nh x)).run pQ w=.ok (bO w.heap.size 0) w1/\WK w1 w.heap.size x/\M0 w w1:=
 ⟨w.alloc (.cells (dy x).toArray 124),rfl,by show hp _ _=_;simp[go_sem],(aR.refl _ w).alloc _⟩
def UZ(i:Nat)(hi:i<4)(p:Nat)(W:Wt_):(iF 124 (bO p 0) i).run pQ W=.ok (bO p i) W:=by
 rcases(show i=0\/i=1\/i=2\/i=3 by omega)with rfl|rfl|rfl|rfl<;>simp[go_sem]
def Er{W:Wt_}{p:Nat}{a:Po}(h:WK W p a):(iL 45 (bO p 1)).run pQ W=.ok (gU a.a) W/\(iL 2 (bO p 2)).run pQ W=.ok (gI a.q) W/\(iL 2 (bO p 3)).run pQ W=.ok (gI a.b) W:=by
 have b:hp W p=some (.cells (dy a).toArray 124 (0,0)):=h;simp only[dy]at b;exact⟨by simp[go_sem,b],by simp[go_sem,b],by simp[go_sem,b]⟩
def Pz{x:Po}(h:jF w s l)(V:(iU x.c/\iU x.a)/\ed x.q/\ed x.b)(hl:l.length<=900000000)
  (R:∀j n,jF n j (l++GK x)->aR (aF s) w n->(∀b,aF j b->aF s b\/w.heap.size<=b)->K j n):Ca pQ 103 #[s,nh x] w K:=by
 obtain⟨⟨c,f⟩,z,P⟩:=V;refine cN Tryz.func103 ?_;obtain⟨w1,E,t,U⟩:=Xo x w;obtain⟨p,q⟩:=di w.heap.size;rw[<-q]at E t;have np:¬aF s p:=λc=>by have:=h.lt c;omega
 refine bo E ?_;have i:=U.trans (aR.refl (λ_=>False) w1).drew;have a:WK w1.drew p x:=((aR.refl (λ_=>False) w1).drew).hpk t id;have k:jF w1.drew s l:=h.mod i d9;generalize w1.drew=w2 at i a k|-;have d:p<w2.heap.size:=aB a;have r0:yz w2 s w2 s l:=yz.zero k (aR.refl _ _);have l1:=jz x.c (by have:=c.2;omega);have l2:=jz x.a (by have:=f.2;omega);have Z:=qf z;refine cx (λW=>UZ 0 qZ p W) (cK (ab8 a) (cK (vq c _) ?_));refine cx (λW=>UZ 1 qZ p W) (cK (Er a).1 (cK (vq f _) ?_));refine cx (λW=>UZ 2 qZ p W) (cK (Er a).2.1 ?_);refine cx (λW=>UZ 3 qZ p W) (cK (Er a).2.2 ?_);refine nv k ⟨c.1,by have:=c.2;omega⟩ qZ λs3 M B u O=>?_;have r:=r0.go B u O;have g:WK M p x:=u.hpk a np;refine⟨(Er g).2.2,(Er g).2.1,vq f _,(Er g).1,?_⟩;refine nv B ⟨f.1,by have:=f.2;omega⟩ (by grind) λY G D F Q=>?_;have y:=r.go D F Q;have o:WK G p x:=F.hpk g (r.np np d);refine⟨(Er o).2.2,(Er o).2.1,?_⟩;refine sU D z (by grind) λs5 X A C L=>?_;have S:=y.go A C L;have J:WK X p x:=C.hpk o (y.np np d);refine⟨(Er J).2.2,?_⟩;refine sU A P (by grind) λH N m I T=>?_;have v:=S.go m I T;have e:l++dJ x.c++dJ x.a++lS x.q++lS x.b=l++GK x:=by unfold GK;simp only[ar]
 rw[e]at m;exact R H N m (v.back i).1 (v.back i).2
def RR(i:Nat)(hi:i<5)(p:Nat)(W:Wt_):(iF jG (bO p 1) i).run pQ W=.ok (bO p (1+i)) W:=by
 rcases(show i=0\/i=1\/i=2\/i=3\/i=4 by omega)with rfl|rfl|rfl|rfl|rfl<;>simp[go_sem,bK]
def BM{W:Wt_}{p:Nat}{x:Int×Od}(h:Ah W p x):(iL 37 (bO p (1+0))).run pQ W=.ok (gQ x.2.num) W/\(iL 45 (bO p (1+1))).run pQ W=.ok (gU x.2.acct) W/\(iL 4 (bO p (1+2))).run pQ W=.ok (.bool x.2.buy) W/\
  (iL 2 (bO p (1+3))).run pQ W=.ok (gI x.2.price) W/\(iL 2 (bO p (1+4))).run pQ W=.ok (gI x.2.left) W:=by
 have a:hp W p=some (.cells (kC x).toArray vl (0,0)):=h;simp only[kC,dF]at a;exact⟨by simp[go_sem,a],by simp[go_sem,a],by simp[go_sem,a],by simp[go_sem,a],by simp[go_sem,a]⟩
def DV{x:Int×Od}(h:jF w s l)(V:iU x.1/\x.2.Fit)(hl:l.length<=900000000)
  (hK:∀u v,jF v u (l++Cs x)->aR (aF s) w v->(∀b,aF u b->aF s b\/w.heap.size<=b)->K u v):Ca pQ 105 #[s,CU x] w K:=by
 obtain⟨c,z,d,i,o⟩:=V;refine cN Tryz.func105 ?_;obtain⟨w1,D,F,m1⟩:=Wf x w;obtain⟨p,y⟩:=di w.heap.size;rw[<-y]at D F;have np:¬aF s p:=λc=>by have:=h.lt c;omega
 refine bo D ?_;have k:=m1.trans (aR.refl (λ_=>False) w1).drew;have f:Ah w1.drew p x:=((aR.refl (λ_=>False) w1).drew).hpk F id;have r:jF w1.drew s l:=h.mod k d9;generalize w1.drew=w2 at k f r|-;have a:p<w2.heap.size:=aB f;have r0:yz w2 s w2 s l:=yz.zero r (aR.refl _ _);have l1:=jz x.1 (by have:=c.2;omega);have l2:=jz x.2.num (by have:=z.2;omega);have l3:=jz x.2.acct (by have:=d.2;omega);have l4:=qf i;refine cx (λW=>(uX p W).1) (cK (BJ f) (cK (vq c _) ?_));refine cx (λW=>(uX p W).2) (cx (λW=>RR 0 qZ p W) (cK (BM f).1 ?_));refine cx (λW=>(uX p W).2) (cx (λW=>RR 1 qZ p W) (cK (BM f).2.1 (cK (vq d _) ?_)));refine nv r ⟨c.1,by have:=c.2;omega⟩ qZ λs3 Z B I n3=>?_;have H:=r0.go B I n3;have n:Ah Z p x:=I.hpk f np;refine⟨vq d _,(BM n).2.1,(BM n).1,?_⟩;refine nv B ⟨z.1,by have:=z.2;omega⟩ (by grind) λs4 w4 Q E n4=>?_;have N:=H.go Q E n4;have P:Ah w4 p x:=E.hpk n (H.np np a);refine⟨vq d _,(BM P).2.1,?_⟩;refine nv Q ⟨d.1,by have:=d.2;omega⟩ (by grind) λs5 m T C Y=>?_;have r5:=N.go T C Y;have X:Ah m p x:=C.hpk P (N.np np a);have md:=(aR.refl (λ_=>False) m).drew;have j:=r5.dr md;have g:Ah m.drew p x:=md.hpk X id;have J:=j.own;generalize m.drew=w6 at md j g J|-;refine cx (λW=>(uX p W).2) (cx (λW=>RR 2 qZ p W) (cK (BM g).2.2.1 ?_));refine cx (λW=>(uX p W).2) (cx (λW=>RR 3 qZ p W) (cK (BM g).2.2.2.1 ?_));refine cx (λW=>(uX p W).2) (cx (λW=>RR 4 qZ p W) (cK (BM g).2.2.2.2 ?_));refine Ce J (by grind) λs7 S L A U=>?_;have G:=j.go L A U;have t:Ah S p x:=A.hpk g (j.np np a);refine⟨(BM t).2.2.2.2,(BM t).2.2.2.1,?_⟩;refine sU L i (by simp only[af,qO,ee];omega) λs8 w8 O R n8=>?_;have r8:=G.go O R n8;have b8:Ah w8 p x:=R.hpk t (G.np np a);refine⟨(BM b8).2.2.2.2,?_⟩;refine sU O o (by simp only[af,qO,ee];omega) λs9 w9 q m9 n9=>?_;have M:=r8.go q m9 n9;have e:l++dJ x.1++dJ x.2.num++dJ x.2.acct++qO x.2.buy++lS x.2.price++lS x.2.left=l++Cs x:=by unfold Cs;simp only[ar]
 rw[e]at q;exact hK s9 w9 q (M.back k).1 (M.back k).2
end
end Go.Proofs
namespace Go.Proofs
open Go Go.Vc
attribute [local congr] bj
def ak4:fY pQ 2 1 8=true:=cV
def XL:Tryz.prog.underlying 297=some (.slice 2):=cV
def VP(x:Sp):(eV x)[0]? =some (gU x.num)/\(eV x)[1]? =some (gB x.route)/\(eV x)[2]? =some (gI x.tick)/\(eV x)[3]? =some (gI x.lot)/\(eV x)[4]? =some (gI x.band)/\(eV x)[5]? =some (gI x.limit)/\
  (eV x)[22]? =some (gI x.credit)/\(eV x)[23]? =some (gU x.last)/\(eV x)[24]? =some (gI x.first):=by
 have h:∀i:Nat,(eV x)[i]? =(eV x++[])[i]? :=λi=>by rw[aN]
 refine⟨rfl,rfl,rfl,rfl,rfl,rfl,?_,?_,?_⟩
 ·rw[h];exact R4 x []
 ·rw[h];exact Wy x []
 ·rw[h];exact SX x []
section
variable{w w' :Wt_}{s:Vt_}{l:List UInt8}{K:aZ}{p:Nat}{x:Sp}
def al1(h:tH w p (eV x)):(iL 45 (bO p 0)).run pQ w=.ok (gU x.num) w/\(iL 5 (bO p 1)).run pQ w=.ok (gB x.route) w/\
  (iL 2 (bO p 2)).run pQ w=.ok (gI x.tick) w/\(iL 2 (bO p 3)).run pQ w=.ok (gI x.lot) w/\
  (iL 2 (bO p 4)).run pQ w=.ok (gI x.band) w/\(iL 2 (bO p 5)).run pQ w=.ok (gI x.limit) w:=by
 have a:hp w p=some (.cells (eV x).toArray nX (0,0)):=h;obtain⟨f,e,c,g,b,d,i,j,k⟩:=VP x;exact⟨by simp[go_sem,a,f],by simp[go_sem,a,e],by simp[go_sem,a,c],by simp[go_sem,a,g],by simp[go_sem,a,b],by simp[go_sem,a,d]⟩
def Nn(h:tH w p (eV x)):(iL 2 (bO p 22)).run pQ w=.ok (gI x.credit) w/\(iL 45 (bO p 23)).run pQ w=.ok (gU x.last) w/\
  (iL 2 (bO p 24)).run pQ w=.ok (gI x.first) w:=by
 have a:hp w p=some (.cells (eV x).toArray nX (0,0)):=h;obtain⟨j,i,f,k,e,g,b,c,d⟩:=VP x;exact⟨by simp[go_sem,a,b],by simp[go_sem,a,c],by simp[go_sem,a,d]⟩
def Rb(p:Nat)(W:Wt_):(∀i,i<7->(iF nX (bO p 0) i).run pQ W=.ok (bO p i) W)/\(iF nX (bO p 0) 7).run pQ W=.ok (bO p 22) W/\
  (iF nX (bO p 0) 8).run pQ W=.ok (bO p 23) W/\(iF nX (bO p 0) 9).run pQ W=.ok (bO p 24) W:=by
 refine⟨λi a=>?_,by simp[go_sem],by simp[go_sem],by simp[go_sem]⟩;rcases(show i=0\/i=1\/i=2\/i=3\/i=4\/i=5\/i=6 by omega)with rfl|rfl|rfl|rfl|rfl|rfl|rfl<;>simp[go_sem]
def GY{x:Int}(a:0<=x)(h1:x<9223372036854775808)(W:Wt_):(convert 2 37 (gI x)).run pQ W=.ok (gQ x) W:=by
 simp[go_sem];rw[ly qZ qZ]
def oO(x:Sp):List Int:=[x.num,x.route,x.tick,x.lot,x.band,x.limit]
def GH(d:x.Fit)(b:x.may=true):(∀n∈oO x,0<=n/\n<9223372036854775808)/\(0<=x.credit/\x.credit<9223372036854775808)/\(0<=x.first/\x.first<9223372036854775808):=by
 obtain⟨o,t,v,u,q,r,m,c,y,a⟩:=d;unfold Sp.may wz aY at b;simp only[ai,aS]at b;obtain⟨⟨⟨⟨⟨⟨⟨⟨⟨⟨-,-⟩,-⟩,-⟩,-⟩,j⟩,g⟩,k⟩,h⟩,f⟩,i,-⟩:=b;refine⟨λn e=>?_,⟨qZ,c.2⟩,⟨qZ,a.2⟩⟩;have:n=x.num\/n=x.route\/n=x.tick\/n=x.lot\/n=x.band\/n=x.limit:=by simpa [oO]using e
 rcases this with rfl|rfl|rfl|rfl|rfl|rfl
 ·grind
 ·grind
 ·grind
 ·grind
 ·grind
 ·grind
def Ul(h:jF w s l)(Z:x.Fit)(hl:l.length<=900000000)
  (hK:∀z w',jF w' z (l++Jh x)->aR (aF s) w w' ->(∀b,aF z b->aF s b\/w.heap.size<=b)->K z w'):Ca pQ 101 #[s,.agg (eV x).toArray] w K:=by
 refine cN Tryz.func101 ?_;obtain⟨p,P⟩:=di w.heap.size;have m1:M0 w (w.alloc (.cells (eV x).toArray nX)):=(aR.refl _ w).alloc _;have b1:tH (w.alloc (.cells (eV x).toArray nX)) p (eV x):=by show hp _ _=_;rw[P];simp[go_sem]
 refine ao (bO p 0) (w.alloc (.cells (eV x).toArray nX)) (by rw[P];rfl) ?_;generalize w.alloc (.cells (eV x).toArray nX)=w1 at m1 b1|-;refine fH (eV x) 24 zi we (br _) (At.all b1) ?_;refine qF Z λf m2=>?_;refine ao (.bool (!x.may)) f (by simp[go_sem]) ?_;have T:=m1.trans m2;cases hm:x.may with
 |false=>
  rw[show(!false)=true from rfl,ay,ae rfl];have e:Jh x=[]:=by unfold Jh;rw[aa (by rw[hm];simp)]
  rw[e]at hK;exact hK s f (by rw[aN];exact h.mod T d9) (T.to) λb hb=>.inl hb
 |true=>
 rw[show(!true)=false from rfl,ay,aa dp];obtain⟨D,r,a⟩:=GH Z hm;have b2:tH f p (eV x):=m2.hpk b1 id;have Q:jF f s l:=h.mod T d9;have t:¬aF s p:=λhc=>by have:=h.lt hc;omega
 obtain⟨g0,g1,g2,g3,g4,g5⟩:=al1 b2;have F:=(Rb p f).1;obtain⟨n0,n1,n2,n3,n4,n5⟩:(0<=x.num/\x.num<9223372036854775808)/\(0<=x.route/\x.route<9223372036854775808)/\True/\True/\True/\True:=⟨D _ (by simp[oO]),D _ (by simp[oO]),trivial,trivial,trivial,trivial⟩
 refine bo (F 0 qZ) (bo g0 (ao (gI x.num) f (by simp[go_sem];rw[ew qZ qZ]) ?_));refine bo (F 1 qZ) (bo g1 (ao (gI x.route) f (by simp[go_sem];rw[ew qZ qZ]) ?_));refine bo (F 2 qZ) (bo g2 (bo (F 3 qZ) (bo g3 (bo (F 4 qZ) (bo g4 (bo (F 5 qZ) (bo g5 ?_)))))));obtain⟨q,hq⟩:=di f.heap.size;refine nI ((oO x).map λn=>gI n) XL (dB ak4) rfl rfl (by intro v hv;obtain⟨n,-,rfl⟩:=aL.1 hv;rfl) qZ ?_;rw[<-hq];have e0:((((oO x).map λn=>(gI n:Vt_)).flatMap (·.cells.toList)).toArray)=((oO x).map λn=>(gI n:Vt_)).toArray:=rfl;rw[e0];have R:M0 f (f.alloc (.cells ((oO x).map λn=>(gI n:Vt_)).toArray 2)):=(aR.refl _ f).alloc _;have bq:hp (f.alloc (.cells ((oO x).map λn=>(gI n:Vt_)).toArray 2)) q=some (.cells ((oO x).map λn=>(gI n:Vt_)).toArray 2 (0,0)):=by rw[hq];simp[go_sem]
 generalize f.alloc (.cells ((oO x).map λn=>(gI n:Vt_)).toArray 2)=E at R bq|-;have M3:=T.trans R;have h3:jF E s l:=Q.mod R d9;have Y:tH E p (eV x):=R.hpk b2 id;have hqs:¬aF s q:=λhc=>by have:=Q.lt hc;omega
 have H:p<E.heap.size:=aB Y;have hlen:(oO x).length=6:=rfl;have X:∀n∈oO x,(dJ n).length<=10:=λn y=>jz n (by have:=(D n y).2;omega);refine iI (gI 6) E (by simp[go_sem]) ?_
 refine d8 (λst W=>∃(i:Nat) (z:Vt_),i<=6/\st=(z,gI i,())/\yz E s W z (l++((oO x).take i).flatMap dJ))
  (λst _=>match st.2.1 with| .int _ i=>6 - i.toNat|_=>0) ⟨0,s,qZ,rfl,by rw[cU,cC,aN];exact yz.zero h3 (aR.refl _ _)⟩ ?_
 rintro _ W ⟨i,z,hi,rfl,G⟩ KN hKN;refine lV ?_;intro _
 have hfl:(((oO x).take i).flatMap dJ).length<=60:=by
  have h1:=pD (m:=10) (g:=dJ) (L:=(oO x).take i) λn y=>X n (bF y);have Q:((oO x).take i).length<=6:=by rw[az];omega
  omega
 by_cases k:i<6
 ·have o:(i:Int)<6:=qZ;have c:i<(oO x).length:=k;refine bo (v:=.bool true) (by simp[go_sem,o]<;>first|exact⟨rfl,rfl⟩|exact rfl) ?_;rw[kJ];obtain⟨n,y⟩:=di ((oO x)[i]);have d:n∈oO x:=y▸aq c;have bqW:=G.md.hpk bq hqs;have hgi:((oO x).map λn=>(gI n:Vt_))[i]? =some (gI n):=by rw[cz,av c,y];rfl
  have M:¬(6:Int)<=(i:Int):=qZ;refine ao (bO q i) W (by simp[go_sem,k,M,bK]) ?_;refine ao (gI n) W (by simp[go_sem,bqW,hgi]) ?_;refine bo (GY (D n d).1 (D n d).2 _) ?_;refine nv G.own ⟨(D n d).1,by have:=(D n d).2;omega⟩ (by simp only[af];omega) λN W2 o2 B A=>?_;refine ao (gI ((i+1:Nat):Int)) W2 (by simp[go_sem];rw[ew qZ qZ]) ?_;have r2:=G.go o2 B A;refine hKN _ _ ⟨i+1,N,qZ,rfl,?_⟩ (by show 6 - (((i+1:Nat):Int)).toNat<6 - ((i:Int)).toNat;omega);rw[bR c,<-y,cE,bm,cC,aN,<-ar];exact r2
 obtain rfl:i=6:=qZ;refine bo (v:=.bool false) (by simp[go_sem]<;>first|exact⟨rfl,rfl⟩|exact rfl) ?_;rw[jO];have b4:tH W p (eV x):=G.md.hpk Y t;refine bo ((Rb p W).1 6 qZ) ?_
 have hA:At W p 6 (vD x.shifts):=by
  have:=(At.all b4).sub 6 16 (by rw[br];omega);rw[ti]at this;simpa using this
 refine fH (vD x.shifts) 15 WO Xf (nt _) hA ?_;obtain⟨f1,f2,f3,f4,f5,f6,f7,f8,J,f10⟩:=Z;have hsl:x.shifts.toList.length=16:=by simp
 obtain⟨l6,C⟩:=di (l++((oO x).take 6).flatMap dJ);rw[<-C]at G;have hl6' :l6.length<=900000060:=by rw[C,af];omega
 refine d8 (λst W' =>∃(i:Nat) (N:Vt_),i<=16/\st=(N,gI i,())/\yz E s W' N (l6++(x.shifts.toList.take i).flatMap lS))
  (λst _=>match st.2.1 with| .int _ i=>16 - i.toNat|_=>0) ⟨0,z,qZ,rfl,by rw[cU,cC,aN];exact G⟩ ?_
 rintro _ V ⟨j,N,hj,rfl,U⟩ KN2 O;refine lV ?_;intro _
 have hfl2:((x.shifts.toList.take j).flatMap lS).length<=160:=by
  have h1:=pD (m:=10) (g:=lS) (L:=x.shifts.toList.take j) λn y=>qf (f7 n (bF y));have Q:(x.shifts.toList.take j).length<=16:=by rw[az];omega
  omega
 by_cases k:j<16
 ·have o:(j:Int)<16:=qZ;have c:j<x.shifts.toList.length:=qZ;refine bo (v:=.bool true) (by simp[go_sem,o]<;>first|exact⟨rfl,rfl⟩|exact rfl) ?_;rw[kJ];refine ao (gI x.shifts.toList[j]!) V (qx uSh U3 Tg U5 k (Au _ j k)) ?_;rw[fI x.shifts.toList j c];refine sU U.own (f7 _ (aq c)) (by simp only[af];omega) λs4 W2 o2 B A=>?_;refine ao (gI ((j+1:Nat):Int)) W2 (by simp[go_sem];rw[ew qZ qZ]) ?_;have r2:=U.go o2 B A;refine O _ _ ⟨j+1,s4,qZ,rfl,?_⟩ (by show 16 - (((j+1:Nat):Int)).toNat<16 - ((j:Int)).toNat;omega);rw[bR c,cE,bm,cC,aN,<-ar];exact r2
 obtain rfl:j=16:=qZ;refine bo (v:=.bool false) (by simp[go_sem]<;>first|exact⟨rfl,rfl⟩|exact rfl) ?_;rw[jO];have md:=(aR.refl (λ_=>False) V).drew;have S:=U.dr md;have I:tH V.drew p (eV x):=md.hpk (U.md.hpk Y t) id;have oD:=S.own;generalize V.drew=u at md S I oD|-;have c1:=jz x.credit (by have:=r.2;omega);have c2:=jz x.last (by have:=J.2;omega);refine cx (λW=>(Rb p W).2.1) (cK (Nn I).1 (cK (GY r.1 r.2 _) ?_));refine cx (λW=>(Rb p W).2.2.1) (cK (Nn I).2.1 (cK (vq J _) ?_));refine cx (λW=>(Rb p W).2.2.2) (cK (Nn I).2.2 (cK (GY a.1 a.2 _) ?_));refine nv oD ⟨r.1,by have:=r.2;omega⟩ (by simp only[af];omega) λs5 w5 o5 m5 n5=>?_;have r5:=S.go o5 m5 n5;have b6:tH w5 p (eV x):=m5.hpk I (S.np t H);refine⟨GY a.1 a.2 _,(Nn b6).2.2,vq J _,(Nn b6).2.1,?_⟩;refine nv o5 ⟨J.1,by have:=J.2;omega⟩ (by simp only[af];omega) λs6 w6 o6 m6 n6=>?_;have r6:=r5.go o6 m6 n6;have b7:tH w6 p (eV x):=m6.hpk b6 (r5.np t H);refine⟨GY a.1 a.2 _,(Nn b7).2.2,?_⟩;refine nv o6 ⟨a.1,by have:=a.2;omega⟩ (by simp only[af];omega) λs7 w7 o7 m7 n7=>?_;have r7:=r6.go o7 m7 n7
 have e:l6++(x.shifts.toList.take 16).flatMap lS++dJ x.credit++dJ x.last++dJ x.first=l++Jh x:=by
  rw[C,aC qZ,aC qZ];unfold Jh;rw[ae hm];simp[oO]
 rw[e]at o7;exact hK s7 w7 o7 (r7.back M3).1 (r7.back M3).2
def SM(e:x.Fit):(Jh x).length<=250:=by
 unfold Jh;by_cases f:x.may
 ·rw[ae f];obtain⟨q,c,d⟩:=GH e f;obtain⟨u,F,H,G,B,E,i,r,o,h⟩:=e;have a:∀n∈oO x,(dJ n).length<=10:=λn b=>jz n (by have:=(q n b).2;omega);have k:=pD (m:=10) (g:=lS) (L:=x.shifts.toList) λn b=>qf (i n b);have j:x.shifts.toList.length=16:=by simp
  have y:=a x.num (by simp[oO]);have z:=a x.route (by simp[oO]);have A:=a x.tick (by simp[oO]);have C:=a x.lot (by simp[oO]);have J:=a x.band (by simp[oO]);have D:=a x.limit (by simp[oO]);have I:=jz x.credit (by have:=c.2;omega);have v:=jz x.last (by have:=o.2;omega);have t:=jz x.first (by have:=d.2;omega);simp only[af];omega
 ·grind
end
section
variable{w:Wt_}{s:Vt_}{l:List UInt8}{K:aZ}
def PI{x:Ct}(h:jF w s l)(O:x.Fit)(T:l.length<=900000000)
  (L:∀k w',jF w' k (l++HL x)->aR (aF s) w w' ->(∀b,aF k b->aF s b\/w.heap.size<=b)->K k w'):Ca pQ 100 #[s,ZE x] w K:=by
 refine cN Tryz.func100 ?_;obtain⟨p,f⟩:=di w.heap.size;have B:M0 w (w.alloc (.cells (dA x).toArray jW)):=(aR.refl _ w).alloc _;have u:Dm (w.alloc (.cells (dA x).toArray jW)) p x:=by show hp _ _=_;rw[f];simp[go_sem]
 refine ao (bO p 0) (w.alloc (.cells (dA x).toArray jW)) (by rw[f];rfl) ?_;generalize w.alloc (.cells (dA x).toArray jW)=d at B u|-;have np:¬aF s p:=λQ=>by have:=h.lt Q;omega
 have j:=B.trans (aR.refl (λ_=>False) d).drew;have c:Dm d.drew p x:=((aR.refl (λ_=>False) d).drew).hpk u id;have m:jF d.drew s l:=h.mod j d9;generalize d.drew=t at j c m|-;have q:p<t.heap.size:=aB c;have r0:yz t s t s l:=yz.zero m (aR.refl _ _);obtain⟨i,a,r⟩:=O;have X:=SM i;have Y:=jz x.st (by have:=a.2;omega)
 have g:∀W,(convert 118 37 (gB x.st)).run pQ W=.ok (gQ x.st) W:=λW=>by
  obtain⟨V,Z⟩:=a;simp[go_sem];rw[ly qZ qZ]
 refine cx (λW=>(Gp p W).1) (kA (eV x.spec) 24 zi we (br _) (Es (At.all c)) ?_);refine cx (λW=>(Gp p W).2.1) (cK (Df c) (cK (g _) ?_));refine cx (λW=>(Gp p W).2.2.1) (cK (Lu c) ?_);refine Ul m i qZ λU G A y H=>?_;have v:=r0.go A y H;have n:Dm G p x:=y.hpk c np;refine⟨Lu n,g _,Df n,?_⟩;refine nv A ⟨a.1,by have:=a.2;omega⟩ (by simp only[af];omega) λS E C D I=>?_;have J:=v.go C D I;have N:Dm E p x:=D.hpk n (v.np np q);refine⟨Lu N,?_⟩;refine sU C r (by simp only[af];omega) λR P o M F=>?_;have z:=J.go o M F;have e:l++Jh x.spec++dJ x.st++lS x.price=l++HL x:=by unfold HL;simp only[ar]
 rw[e]at o;exact L R P o (z.back j).1 (z.back j).2
end
end Go.Proofs
namespace Go.Proofs
open Go Go.Vc
attribute [local congr] bj
def PL{x:Ac}(h:iU x.num/\ed x.cash):(Gr x).length<=300:=by
 have a:=jz x.num (by grind);have b:=qf h.2;unfold Gr qO;simp only[af,ee];omega
def Px{x:Po}(h:(iU x.c/\iU x.a)/\ed x.q/\ed x.b):(GK x).length<=300:=by
 have b:=jz x.c (by grind);have c:=jz x.a (by grind);have d:=qf h.2.1;have a:=qf h.2.2;unfold GK;simp only[af];omega
def RZ{x:Ct}(h:x.Fit):(HL x).length<=300:=by
 have a:=SM h.1;have b:=jz x.st (by have:=h.2.1.2;omega);have c:=qf h.2.2;unfold HL;simp only[af];omega
def Ej{x:Int×Od}(h:iU x.1/\x.2.Fit):(Cs x).length<=300:=by
 obtain⟨d,e,c,a,b⟩:=h;have g:=jz x.1 (by have:=d.2;omega);have i:=jz x.2.num (by have:=e.2;omega);have k:=jz x.2.acct (by have:=c.2;omega);have f:=qf a;have j:=qf b;unfold Cs qO;simp only[af,ee];omega
def tY{α:Type}{g:α->List UInt8}{L:List α}(a:∀x∈L,(g x).length<=300)(c:L.length<=3200):(xf g L).length<=960010:=by
 have h1:=pD a;have b:=pY (n:=L.length) qZ;unfold xf;rw[af];omega
section
variable{w:Wt_}{K:aZ}{ss:Nat->Value}{s:uR}
def RC(h:sX w ss s)(f:s.Fit)(hl:s.accts.length<=3200/\s.cts.length<=3200/\s.poss.length<=3200/\s.ords.length<=3200/\s.bids.length<=3200)
  (hK:∀n P,jF P n (tz s)->M0 w P->(∀b,aF n b->w.heap.size<=b)->K n P):Ca pQ 39 #[Fb s.day s.next s.fund ss] w K:=by
 obtain⟨hA,hC,hP,o,hB⟩:=hl;have a:=h.sl;have gA:∀x∈s.accts,(Gr x).length<=300:=λx d=>PL (f.accts x d);have gC:∀x∈s.cts,(HL x).length<=300:=λx d=>RZ (f.cts x d);have gP:∀x∈s.poss,(GK x).length<=300:=λx d=>Px (f.poss x d);have V:∀x∈s.ords,(Cs x).length<=300:=λx d=>Ej (f.ords x d);have gB:∀x∈s.bids,(Cs x).length<=300:=λx d=>Ej (f.bids x d);have n1:=jz s.day (by have:=f.day.2;omega);have n2:=jz s.next (by have:=f.next.2;omega);have n3:=qf f.fund;have n4:=tY gA hA;have n5:=tY gC hC;have n6:=tY gP hP;have n7:=tY V o;refine cN Tryz.func39 ?_;obtain⟨I,U,b1,m1⟩:=IT s.day s.next s.fund ss w;obtain⟨k,O⟩:∃p,p=w.heap.size:=⟨_,rfl⟩
 rw[<-O]at U b1;refine bo U ?_;have A:=m1.trans (aR.refl (λ_=>False) I).drew;have v:kw I.drew k s.day s.next s.fund ss:=((aR.refl (λ_=>False) I).drew).hpk b1 id;generalize I.drew=B at A v|-;have c:k<B.heap.size:=aB v;have nsb:¬aF gm k:=λN=>by cases N
 have r2:yz B gm B gm []:=yz.zero (ic.nil _ _ _) (aR.refl _ _)
 have m:∀{W:Wt_} {n:Vt_} {l:List UInt8},yz B gm W n l->∀i,3<=i->i<=7->∀y,tq (ss i) y->¬aF n y:=λr i h1 h2 y hy N=>by
  have:=(h i h1 h2).lt hy;have:=A.size;rcases r.nw y N with z|z
  ·cases z
  ·omega
 have q:∀{W:Wt_} {n:Vt_} {l:List UInt8},yz B gm W n l->sX W ss s:=λr=>h.md0 (A.trans (r.md.mono λ_ _ h=>by cases h));refine cx (λW=>rm k 0 qZ W) (cK (vC v).1 (cK (vq f.day _) ?_));refine cx (λW=>rm k 1 qZ W) (cK (vC v).2.1 ?_);refine cx (λW=>rm k 2 qZ W) (cK (vC v).2.2 ?_);refine nv r2.own ⟨f.day.1,by have:=f.day.2;omega⟩ (by simp) λs3 w3 S m3 k3=>?_;have r3:=r2.go S m3 k3;have M:kw w3 k s.day s.next s.fund ss:=m3.hpk v nsb;refine⟨(vC M).2.2,(vC M).2.1,?_⟩;refine nv S ⟨f.next.1,by have:=f.next.2;omega⟩ (by grind) λs4 w4 o4 X k4=>?_;have r4:=r3.go o4 X k4;have b4:kw w4 k s.day s.next s.fund ss:=X.hpk M (r3.np nsb c);refine⟨(vC b4).2.2,?_⟩;refine sU o4 f.fund (by grind) λs5 w5 Q T k5=>?_;have J:=r4.go Q T k5;have b5:kw w5 k s.day s.next s.fund ss:=T.hpk b4 (r4.np nsb c);refine bo (rm k 3 qZ _) (bo (uc b5 a).1 ?_);refine NU (g:=Gr) Q (q J).accts (m J 3 qZ qZ) (by grind) hA gA (λW n E x G d o j t=>by rw[eX];exact QG o (f.accts x d) j t) λs6 w6 o6 Z k6=>?_;have C:=J.go o6 Z k6;have b6:kw w6 k s.day s.next s.fund ss:=Z.hpk b5 (J.np nsb c);refine bo (rm k 4 qZ _) (bo (uc b6 a).2.1 ?_);refine NZ (g:=HL) o6 (q C).cts (m C 4 qZ qZ) (by grind) hC gC (λW n E x G d o j t=>by rw[eX];exact PI o (f.cts x d) j t) λs7 w7 o7 R k7=>?_;have F:=C.go o7 R k7;have b7:kw w7 k s.day s.next s.fund ss:=R.hpk b6 (C.np nsb c);refine bo (rm k 5 qZ _) (bo (uc b7 a).2.2 ?_);refine NO (g:=GK) o7 (q F).poss (m F 5 qZ qZ) (by grind) hP gP (λW n E x G d o j t=>by rw[eX];exact Pz o (f.poss x d) j t) λs8 H o8 m8 k8=>?_;have r8:=F.go o8 m8 k8;have b8:kw H k s.day s.next s.fund ss:=m8.hpk b7 (F.np nsb c);have md:=(aR.refl (λ_=>False) H).drew;have u:=r8.dr md;have D:kw H.drew k s.day s.next s.fund ss:=md.hpk b8 id;have o9:=u.own;generalize H.drew=w9 at md u D o9|-;refine cx (λW=>rm k 6 qZ W) (cK (wp D a).1 ?_);refine cx (λW=>rm k 7 qZ W) (cK (wp D a).2 ?_);refine De (g:=Cs) o9 (q u).ords (m u 6 qZ qZ) (by grind) o V (λW n E x G d o j t=>by rw[eX];exact DV o (f.ords x d) j t) λsa wa oa ma ka=>?_;have ra:=u.go oa ma ka;have ba:kw wa k s.day s.next s.fund ss:=ma.hpk D (u.np nsb c);refine⟨(wp ba a).2,?_⟩;refine De (g:=Cs) oa (q ra).bids (m ra 7 qZ qZ) (by grind) hB gB (λW n E x G d o j t=>by rw[eX];exact DV o (f.bids x d) j t) λsc wc L mc kc=>?_;have Y:=ra.go L mc kc;have e: []++dJ s.day++dJ s.next++lS s.fund++xf Gr s.accts++xf HL s.cts++xf GK s.poss++xf Cs s.ords++xf Cs s.bids=tz s:=by unfold tz;simp only[ar,dL]
 rw[e]at L;refine hK sc wc L (A.trans (Y.md.mono λ_ _ h=>by cases h)) λb hb=>?_;rcases Y.nw b hb with z|z
 ·cases z
 ·have:=A.size;omega
end
end Go.Proofs
