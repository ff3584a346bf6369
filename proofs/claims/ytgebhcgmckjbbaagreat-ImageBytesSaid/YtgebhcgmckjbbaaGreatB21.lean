/- Part of a proof. -/
import Derived.Test.YtgebhcgmckjbbaaGreatB20
set_option linter.all false
namespace Go.Proofs
open Go Go.Vc
attribute [local congr] cr
def rK(l:List UInt8):∀(n:Nat) (s:Rs),er l (n+1) s=((er l n s).1++[(dQ l (er l n s).2).1],(dQ l (er l n s).2).2)
 |0,s=>rfl
 |n+1,s=>by
  have a:=rK l n (dQ l s).2;have e:er l (n+1+1) s=((dQ l s).1::(er l (n+1) (dQ l s).2).1,(er l (n+1) (dQ l s).2).2):=rfl;rw[e,a];rfl
def ju(l:List UInt8)(most:Nat)(s:Rs):0<=(cM l most s).1/\(cM l most s).1<=most:=by
 have:=fB (l:=l) (most:=most) (s:=s);unfold cM;simp only;omega
def fP(l:List UInt8)(s:Rs):eQ (dQ l s).1:=by
 have:=fB (l:=l) (most:=18446744073709551615) (s:=s);exact IJ (by omega)
def tK(l:List UInt8):∀(n:Nat) (s:Rs),∀x∈(er l n s).1,eQ x
 |0,s,x,a=>by cases a
 |n+1,s,x,a=>by
  rcases List.mem_cons.1 a with rfl|a
  ·exact fP l s
  ·exact tK l n _ x a
def im(l:List UInt8)(s:Rs):fq (cM l jj s).1:=by
 have:=ju l jj s;unfold jj at*;exact⟨this.1,by omega⟩
def kf(l:List UInt8)(s:Rs):eQ (cM l iM s).1:=by
 have:=ju l iM s;unfold iM at*;constructor<;>omega
def wu(l:List UInt8)(s:Rs):ER (cM l xw s).1:=by
 have:=ju l xw s;unfold xw at*;exact⟨this.1,by omega⟩
def xh(l:List UInt8)(s:Rs):0<=(cM l 255 s).1/\(cM l 255 s).1<256:=by
 have:=ju l 255 s;omega
def vH(l:List UInt8)(s:Rs):(lQ l s).1.Fit:=
 ⟨im ..,xh ..,kf ..,kf ..,kf ..,kf ..,λx a=>tK l 16 _ x (by simpa [lQ]using a),kf ..,im ..,kf ..⟩
def Br:ng.Fit:=by
 refine⟨?_,?_,?_,?_,?_,?_,λx a=>?_,?_,?_,?_⟩
 all_goals first|(have:x=0:=(by simpa [ng]using a);rw[this];decide)|decide
def FT(l:List UInt8)(s:Rs):(lw l s).1.Fit:=by
 unfold lw;split
 ·exact vH l s
 ·exact Br
def xB(a b t lo bd li:Int)(sh:List Value)(c la f:Int):List Value:=[.int .u32 a,.int .u8 b,.int .i64 t,.int .i64 lo,.int .i64 bd,.int .i64 li]++(sh++[.int .i64 c,.int .u32 la,.int .i64 f])
def ML(s:Sp):dl s=xB s.num s.route s.tick s.lot s.band s.limit (zt s.shifts) s.credit s.last s.first:=rfl
def wS:kW Tryz.prog 38=dl ng:=by kernel_rfl
def MG:kX Tryz.prog 38=true:=by kernel_rfl
def GL(a b:Int):Tryz.prog.built 38 [(0,.int .u32 a),(1,.int .u8 b)]=some (dl {ng with num:=a,route:=b}).toArray:=by
 have h1:∀c,Tryz.prog.built 38 c=Instr.fill (λi=>#[(0,1),(1,1),(2,1),(3,1),(4,1),(5,1),(6,16),(22,1),(23,1),(24,1)][i]?) (kW Tryz.prog 38).toArray c:=λc=>by kernel_rfl
 rw[h1,wS];rw[oG (off:=0) (size:=1) rfl rfl (by rw[cL];omega),oG (off:=1) (size:=1) rfl rfl (by have:(Value.int .u32 a).cells.size=1:=rfl;simp[cL,iL];omega),t7];rfl
def Ez:Tryz.prog.built 38 []=some (dl ng).toArray:=by kernel_rfl
def Sv:Tryz.prog.underlying 252=some (.slice 251):=by kernel_rfl
def Sx:eN Tryz.prog 251 1 8=true:=by kernel_rfl
abbrev fO:TypeId:=38
abbrev jZ(W:World)(p:Nat)(C:List Value):Prop:=hp W p=some (.cells C.toArray fO (0,0))
def Qa{W:World}{p i:Nat}{C C' :List Value}{y x:Int}(h:jZ W p C)(d:C[i]? =some (.int .i64 y))(c:C.set i (.int .i64 x)=C'):
  ∃a,(Instr.storeAt 2 (.pointer (some ⟨p,i,none⟩)) (.int .i64 x)).run Tryz.prog W=.ok () a/\jZ a p C' /\cl (λb=>b=p) W a:=
 ⟨W.setCell ⟨p,i,none⟩ (.int .i64 x),by simp[go_sem,h,d],by rw[<-c];show hp _ _=_;simp[go_sem,h],(cl.refl (λb=>b=p) W).setCell (.inl rfl) _ _⟩
def Og{W:World}{p i:Nat}{C C' :List Value}{y x:Int}(h:jZ W p C)(d:C[i]? =some (.int .u32 y))(c:C.set i (.int .u32 x)=C'):
  ∃a,(Instr.storeAt 35 (.pointer (some ⟨p,i,none⟩)) (.int .u32 x)).run Tryz.prog W=.ok () a/\jZ a p C' /\cl (λb=>b=p) W a:=
 ⟨W.setCell ⟨p,i,none⟩ (.int .u32 x),by simp[go_sem,h,d],by rw[<-c];show hp _ _=_;simp[go_sem,h],(cl.refl (λb=>b=p) W).setCell (.inl rfl) _ _⟩
def yM(xs:List Int)(k:Nat):List Value:=xs.map (λn=>.int .i64 n)++List.replicate (16 - k) (.int .i64 0)
def wI{xs:List Int}{k:Nat}(h:xs.length=k)(a:k<=16):(yM xs k).length=16:=by simp[yM,h];omega
def Is{xs:List Int}{k:Nat}(h:xs.length=k)(a:k<16):(yM xs k)[k]? =some (.int .i64 0):=by
 unfold yM;rw[List.getElem?_append_right (by simp[h])];simp only[List.length_map,h,Nat.sub_self];rw[List.getElem?_replicate,if_pos (by omega)]
def HC{xs:List Int}{k:Nat}(h:xs.length=k)(a:k<16)(x:Int):(yM xs k).set k (.int .i64 x)=yM (xs++[x]) (k+1):=by
 unfold yM;rw[List.set_append_right _ _ (by simp[h]),show 16 - k=(16 - (k+1))+1 by omega,List.replicate_succ];simp[h]
def En{a b t lo bd e c g f:Int}{d:List Value}{k:Nat}(i:d.length=16)(h:k<16):(xB a b t lo bd e d c g f)[6+k]? =d[k]? :=by
 unfold xB;rw[List.getElem?_append_right (by simp),List.getElem?_append_left (by simp;omega)];congr 1;simp
def FH{a b t lo bd e c g f:Int}{d:List Value}{k:Nat}(i:d.length=16)(h:k<16)(x:Value):(xB a b t lo bd e d c g f).set (6+k) x=xB a b t lo bd e (d.set k x) c g f:=by
 unfold xB;rw[List.set_append_right _ _ (by simp),List.set_append_left _ _ (by simp;omega)];congr 3;simp
def Dr{a b t lo bd g c d f:Int}{e:List Value}{k:Nat}(h:e.length=16):(xB a b t lo bd g e c d f)[22+k]? =([.int .i64 c,.int .u32 d,.int .i64 f]:List Value)[k]? :=by
 unfold xB;rw[List.getElem?_append_right (by simp;omega),List.getElem?_append_right (by simp;omega)];congr 1;simp[h];omega
def EZ{a b t lo bd e c g f:Int}{d:List Value}{k:Nat}(h:d.length=16)(x:Value):(xB a b t lo bd e d c g f).set (22+k) x=[.int .u32 a,.int .u8 b,.int .i64 t,.int .i64 lo,.int .i64 bd,.int .i64 e]++(d++([.int .i64 c,.int .u32 g,.int .i64 f]:List Value).set k x):=by
 unfold xB;rw[List.set_append_right _ _ (by simp;omega),List.set_append_right _ _ (by simp;omega)];congr 3;simp[h];omega
section
attribute [local irreducible] cM er
def Lx{l:List UInt8}{s:Rs}{i e f b j d h c a:Int×Rs}{g:List Int×Rs}(h1:i=cM l jj s)(k:e=cM l 255 i.2)(q:f=cM l iM e.2)(o:b=cM l iM f.2)(p:j=cM l iM b.2)(r:d=cM l iM j.2)
  (n:g=er l 16 d.2)(t:h=cM l iM g.2)(m:c=cM l jj h.2)(u:a=cM l iM c.2):
  (lQ l s).2=a.2/\xB i.1 e.1 f.1 b.1 j.1 d.1 (yM g.1 16) h.1 c.1 a.1=dl (lQ l s).1:=by
 subst h1 k q o p r n t m u;rw[ML];unfold lQ zt yM;simp
end
set_option maxRecDepth 10000 in
set_option maxHeartbeats 4000000 in
def Ib{w:World}{K:cm}{r:Nat}{v:Value}{l:List UInt8}{s:Rs}(h:dz w r v l s)
  (hK:∀a,dz a r v l (lw l s).2->cl (λb=>b=r) w a->K (.agg (dl (lw l s).1).toArray) a):Ca Tryz.prog 68 #[fW r] w K:=by
 apply Qt;have hrl:=h.lt;have R:∀b,eM v b->b<w.heap.size:=λb B=>h.rd.lt B;refine kY MG ?_;rw[wS];obtain⟨z,hz⟩:∃z,z=w.heap.size:=⟨_,rfl⟩
 have m1:cl (λ_=>False) w (w.alloc (.cells (dl ng).toArray fO)):=(cl.refl _ w).alloc _;have b1:jZ (w.alloc (.cells (dl ng).toArray fO)) z (dl ng):=by show hp _ _=_;rw[hz];simp[go_sem]
 rw[<-hz];generalize w.alloc (.cells (dl ng).toArray fO)=w1 at m1 b1|-;have r1:=h.mod m1 id λ_ _ h=>h;refine fJ r1 (most:=4294967295) (by omega) λw2 r2 m2=>?_;have hz1:=cn b1;have b2:=m2.hpk b1 (by omega);have n1:=im l s;obtain⟨d,hx1⟩:∃d,d=cM l jj s:=⟨_,rfl⟩
 have e1:(((cN l 4294967295 s).1:Nat):Int)=d.1/\(cN l 4294967295 s).2=d.2:=by rw[hx1];exact⟨rfl,rfl⟩
 rw[e1.1];rw[e1.2]at r2;rw[<-hx1]at n1;refine ck (v:=.int .u32 d.1) (w' :=w2) (by simp[go_sem];rw[IntKind.wrap_u32'];omega) ?_;refine fJ r2 (most:=255) (by omega) λw3 r3 m3=>?_;have b3:=m3.hpk b2 (by omega);have n2:=xh l d.2;obtain⟨j,hx2⟩:∃j,j=cM l 255 d.2:=⟨_,rfl⟩
 have e2:(((cN l 255 d.2).1:Nat):Int)=j.1/\(cN l 255 d.2).2=j.2:=by rw[hx2];exact⟨rfl,rfl⟩
 rw[e2.1];rw[e2.2]at r3;rw[<-hx2]at n2;refine ck (v:=.int .u8 j.1) (w' :=w3) (by simp[go_sem];rw[IntKind.wrap_u8'];omega) ?_;refine oz (GL d.1 j.1) ?_;refine kY MG ?_;rw[wS];obtain⟨p,hp0⟩:∃p,p=w3.heap.size:=⟨_,rfl⟩
 have m4:cl (λ_=>False) w3 (w3.alloc (.cells (dl ng).toArray fO)):=(cl.refl _ w3).alloc _;have b4:jZ (w3.alloc (.cells (dl ng).toArray fO)) p (dl ng):=by show hp _ _=_;rw[hp0];simp[go_sem]
 rw[<-hp0];generalize w3.alloc (.cells (dl ng).toArray fO)=w4 at m4 b4|-;have r4:=r3.mod m4 id λ_ _ h=>h;have z4:=m4.hpk b3 id;have hz2:=m2.size;have hz3:=m3.size;have hzp:z<p:=by omega
 have hh:w4.heap[p]? =some (.cells (dl ng).toArray fO (0,0)):=b4;refine iO sm (cL {ng with num:=d.1,route:=j.1}) hh (by rw[List.size_toArray,cL,cL];omega) (lh _) ?_;have e5:iL (dl ng).toArray.toList 0 (dl {ng with num:=d.1,route:=j.1})=dl {ng with num:=d.1,route:=j.1}:=jI (by rw[cL];simp[cL]);rw[e5];have m5:cl (λb=>b=p) w4 (w4.setRow p (dl {ng with num:=d.1,route:=j.1}).toArray):=(cl.refl (λb=>b=p) w4).setRow (.inl rfl) _
 have b5:jZ (w4.setRow p (dl {ng with num:=d.1,route:=j.1}).toArray) p (xB d.1 j.1 0 0 0 0 (yM [] 0) 0 0 0):=by
  show(w4.setRow p _).heap[p]? =_;rw[dx,if_pos rfl,hh];rfl
 generalize w4.setRow p (dl {ng with num:=d.1,route:=j.1}).toArray=V at m5 b5|-;have r5:=r4.mod m5 (by omega) λb B e=>by have:=R b B;omega
 have z5:=m5.hpk z4 (by omega);have M5:cl (λb=>b=r) w V:=(((m1.mono (G:=λb=>b=r) λ_ _ h=>h.elim).trans (m2.trans m3)).on m4 λ_ h=>h.elim).on m5 λb B=>.inr (by omega);refine ck (v:=.pointer (some ⟨p,2,none⟩)) (w' :=V) (by simp[go_sem]) ?_;refine ck (v:=.pointer (some ⟨p,3,none⟩)) (w' :=V) (by simp[go_sem]) ?_;refine ck (v:=.pointer (some ⟨p,4,none⟩)) (w' :=V) (by simp[go_sem]) ?_;refine ck (v:=.pointer (some ⟨p,5,none⟩)) (w' :=V) (by simp[go_sem]) ?_;refine fg [.pointer (some ⟨p,2,none⟩),.pointer (some ⟨p,3,none⟩),.pointer (some ⟨p,4,none⟩),.pointer (some ⟨p,5,none⟩)] Sv (cI Sx) rfl rfl (by intro x hx;simp at hx;rcases hx with rfl|rfl|rfl|rfl<;>rfl) (by omega) ?_;have e6:(([.pointer (some ⟨p,2,none⟩),.pointer (some ⟨p,3,none⟩),.pointer (some ⟨p,4,none⟩),.pointer (some ⟨p,5,none⟩)]:List Value).flatMap (·.cells.toList)).toArray= #[.pointer (some ⟨p,2,none⟩),.pointer (some ⟨p,3,none⟩),.pointer (some ⟨p,4,none⟩),.pointer (some ⟨p,5,none⟩)]:=rfl;rw[e6];obtain⟨q,hq⟩:∃q,q=V.heap.size:=⟨_,rfl⟩
 have m6:cl (λ_=>False) V (V.alloc (.cells #[.pointer (some ⟨p,2,none⟩),.pointer (some ⟨p,3,none⟩),.pointer (some ⟨p,4,none⟩),.pointer (some ⟨p,5,none⟩)] 251)):=(cl.refl _ _).alloc _;have q6:hp (V.alloc (.cells #[.pointer (some ⟨p,2,none⟩),.pointer (some ⟨p,3,none⟩),.pointer (some ⟨p,4,none⟩),.pointer (some ⟨p,5,none⟩)] 251)) q=some (.cells #[.pointer (some ⟨p,2,none⟩),.pointer (some ⟨p,3,none⟩),.pointer (some ⟨p,4,none⟩),.pointer (some ⟨p,5,none⟩)] 251 (0,0)):=by rw[hq];simp[go_sem]
 rw[<-hq];generalize V.alloc (.cells #[.pointer (some ⟨p,2,none⟩),.pointer (some ⟨p,3,none⟩),.pointer (some ⟨p,4,none⟩),.pointer (some ⟨p,5,none⟩)] 251)=w6 at m6 q6|-;have r6:=r5.mod m6 id λ_ _ h=>h;have b6:=m6.hpk b5 id;have z6:=m6.hpk z5 id;have M6:=M5.on m6 λ_ h=>h.elim;have hpq:p<q:=by have:=cn b5;omega
 refine fi (v:=.int .i64 ((4:Nat):Int)) (w' :=w6) (by simp[go_sem]) ?_;obtain⟨S,hS⟩:∃S:Nat->Rs,S=λk=>Nat.rec j.2 (λ_ t=>(cM l iM t).2) k:=⟨_,rfl⟩
 have hS0:S 0=j.2:=by subst hS;rfl
 have P:∀k,S (k+1)=(cM l iM (S k)).2:=λk=>by subst hS;rfl
 obtain⟨g,hg⟩:∃g:Nat->Nat->Int,g=λk i=>if k<i then(cM l iM (S k)).1 else 0:=⟨_,rfl⟩
 have g0:∀k,g k 0=0:=λk=>by rw[hg];rfl
 have u:∀k i,k<i->g k i=(cM l iM (S k)).1:=λk i h=>by rw[hg];exact if_pos h
 have O:∀k i,¬k<i->g k i=0:=λk i h=>by rw[hg];exact if_neg h
 have C:∀{W W' :World},cl (λb=>b=r\/b=p) W W' ->cl (λb=>b=r) w W->cl (λb=>b=r) w W' :=λm M=>M.on m λb B=>B.elim .inl λB=>.inr (by omega)
 refine dp (λst W=>∃i:Nat,i<=4/\st=(.int .i64 i,())/\dz W r v l (S i)/\jZ W p (xB d.1 j.1 (g 0 i) (g 1 i) (g 2 i) (g 3 i) (yM [] 0) 0 0 0)/\cl (λb=>b=r\/b=p) w6 W)
  (λst _=>match st.1 with| .int _ i=>4 - i.toNat|_=>0) ⟨0,by omega,rfl,by rw[hS0];exact r6,by rw[g0,g0,g0,g0];exact b6,cl.refl _ _⟩ ?_
 rintro⟨_,_⟩ W ⟨i,hi,⟨⟩,rW,bW,mW⟩ KN hKN;unfold JP;intro _;refine ck (Rl _ 4 _) ?_;by_cases hlt:i<4
 ·rw[ci,if_pos (by simpa using hlt)];have qW:=mW.hpk q6 (by omega);have hlt' :¬(4:Int)<=(i:Int):=by omega
  refine ck (v:=.pointer (some ⟨q,i,none⟩)) (w' :=W) (by simp[go_sem,hlt',cC]<;>omega) ?_;refine ck (v:=.pointer (some ⟨p,2+i,none⟩)) (w' :=W) (by rcases(show i=0\/i=1\/i=2\/i=3 by omega)with rfl|rfl|rfl|rfl<;>simp[go_sem,qW]) ?_;refine fJ rW (most:=9223372036854775807) (by omega) λW1 rW1 mW1=>?_;have nb:=kf l (S i);have ex:(((cN l 9223372036854775807 (S i)).1:Nat):Int)=(cM l iM (S i)).1/\(cN l 9223372036854775807 (S i)).2=S (i+1):=by rw[P];exact⟨rfl,rfl⟩
  have n0:=(ju l iM (S i)).1;rw[ex.1];rw[ex.2]at rW1;obtain⟨y,hy⟩:∃y,y=(cM l iM (S i)).1:=⟨_,rfl⟩
  rw[<-hy]at nb n0|-;refine ck (v:=.int .i64 y) (w' :=W1) (by simp[go_sem];rw[cV (by omega) (by omega)]) ?_;rw[cw];have bW1:=mW1.hpk bW (by omega)
  have hset:∃C',(xB d.1 j.1 (g 0 i) (g 1 i) (g 2 i) (g 3 i) (yM [] 0) 0 0 0).set (2+i) (.int .i64 y)=C' /\C' =xB d.1 j.1 (g 0 (i+1)) (g 1 (i+1)) (g 2 (i+1)) (g 3 (i+1)) (yM [] 0) 0 0 0/\∃o,(xB d.1 j.1 (g 0 i) (g 1 i) (g 2 i) (g 3 i) (yM [] 0) 0 0 0)[2+i]? =some (.int .i64 o):=by
   rcases(show i=0\/i=1\/i=2\/i=3 by omega)with rfl|rfl|rfl|rfl
   ·exact⟨_,rfl,by rw[u 0 1 (by omega),<-hy,O 1 1 (by omega),O 2 1 (by omega),O 3 1 (by omega),g0,g0,g0,g0];rfl,_,rfl⟩
   ·exact⟨_,rfl,by rw[u 0 2 (by omega),u 1 2 (by omega),<-hy,O 2 2 (by omega),O 3 2 (by omega),u 0 1 (by omega),O 1 1 (by omega),O 2 1 (by omega),O 3 1 (by omega)];rfl,_,rfl⟩
   ·exact⟨_,rfl,by rw[u 0 3 (by omega),u 1 3 (by omega),u 2 3 (by omega),<-hy,O 3 3 (by omega),u 0 2 (by omega),u 1 2 (by omega),O 2 2 (by omega),O 3 2 (by omega)];rfl,_,rfl⟩
   ·exact⟨_,rfl,by rw[u 0 4 (by omega),u 1 4 (by omega),u 2 4 (by omega),u 3 4 (by omega),<-hy,u 0 3 (by omega),u 1 3 (by omega),u 2 3 (by omega),O 3 3 (by omega)];rfl,_,rfl⟩
  obtain⟨C',hs1,hs2,o,hgo⟩:=hset;obtain⟨W2,e2',bW2,mW2⟩:=Qa bW1 hgo hs1;refine dI e2' ?_;refine ck (Pe (by omega) _) ?_;refine hKN _ _ ⟨i+1,by omega,rfl,rW1.mod mW2 (by omega) λb B e=>by have:=R b B;omega,by rw[<-hs2];exact bW2,(mW.trans (mW1.mono λ_ _ h=>.inl h)).trans (mW2.mono λ_ _ h=>.inr h)⟩ (by show 4 - (i+1)<4 - i;omega)
 obtain rfl:i=4:=by omega
 rw[ci,if_neg (by simp)];clear hKN;rw[u 0 4 (by omega),u 1 4 (by omega),u 2 4 (by omega),u 3 4 (by omega)]at bW;have MW:=C mW M6;have zW:=mW.hpk z6 (by omega);obtain⟨G,hG⟩:∃G:List Int->Int->Int->Int->Nat->List Value,G=λD c N f k=>xB d.1 j.1 (cM l iM (S 0)).1 (cM l iM (S 1)).1 (cM l iM (S 2)).1 (cM l iM (S 3)).1 (yM D k) c N f:=⟨_,rfl⟩
 have n:∀D c N f k,xB d.1 j.1 (cM l iM (S 0)).1 (cM l iM (S 1)).1 (cM l iM (S 2)).1 (cM l iM (S 3)).1 (yM D k) c N f=G D c N f k:=λD c N f k=>by rw[hG]
 rw[n]at bW
 refine dp (λst X=>∃k:Nat,k<=16/\st=(.int .i64 k,())/\dz X r v l (er l k (S 4)).2/\jZ X p (G (er l k (S 4)).1 0 0 0 k)/\cl (λb=>b=r\/b=p) W X)
  (λst _=>match st.1 with| .int _ i=>16 - i.toNat|_=>0) ⟨0,by omega,rfl,rW,bW,cl.refl _ _⟩ ?_
 rintro⟨_,_⟩ X ⟨k,Y,⟨⟩,rX,bX,mX⟩ KN2 hKN2;unfold JW;intro _;have J:=pJ l k (S 4);refine ck (v:=.bool (decide (k<16))) (w' :=X) (by simp[go_sem];omega) ?_;by_cases A:k<16
 ·rw[ci,if_pos (by simpa using A)];refine lr rX λX1 U F=>?_;have hsn:=rK l k (S 4);have hfi:=fP l (er l k (S 4)).2;have e7:(dQ l (er l k (S 4)).2).2=(er l (k+1) (S 4)).2:=by rw[hsn]
  rw[e7]at U;have bX1:=F.hpk bX (by omega);refine ck (v:=.pointer (some ⟨p,6,none⟩)) (w' :=X1) (by simp[go_sem]) ?_;have hlt3:¬(16:Int)<=(k:Int):=by omega
  refine ck (v:=.pointer (some ⟨p,6+k,none⟩)) (w' :=X1) (by simp[go_sem,A,hlt3,cC]<;>omega) ?_
  have hgk:(G (er l k (S 4)).1 0 0 0 k)[6+k]? =some (.int .i64 0):=by
   rw[<-n,En (wI J (by omega)) A,Is J A]
  obtain⟨X2,e8,bX2,L⟩:=Qa (x:=(dQ l (er l k (S 4)).2).1) bX1 hgk rfl;refine dI e8 ?_;refine ck (Pe (by omega) _) ?_;refine hKN2 _ _ ⟨k+1,by omega,rfl,U.mod L (by omega) λb B e=>by have:=R b B;omega,?_,(mX.trans (F.mono λ_ _ h=>.inl h)).trans (L.mono λ_ _ h=>.inr h)⟩ (by show 16 - (k+1)<16 - k;omega);rw[<-n,FH (wI J (by omega)) A,HC J A]at bX2;rw[hsn,<-n];exact bX2
 obtain rfl:k=16:=by omega
 rw[ci,if_neg (by simp)];clear hKN2;have MX:=C mX MW;have zX:=mX.hpk zW (by omega);have Q:=wI J (by omega);obtain⟨D,hxs⟩:∃D,D=(er l 16 (S 4)).1:=⟨_,rfl⟩
 obtain⟨T,hT⟩:∃T,T=(er l 16 (S 4)).2:=⟨_,rfl⟩
 rw[<-hxs]at J Q bX;rw[<-hT]at rX;have gE:∀c N f k,(G D c N f 16)[22+k]? =([.int .i64 c,.int .u32 N,.int .i64 f]:List Value)[k]? :=λc N f k=>by rw[<-n];exact Dr Q
 have sE:∀c N f k x,(G D c N f 16).set (22+k) x=[.int .u32 d.1,.int .u8 j.1,.int .i64 (cM l iM (S 0)).1,.int .i64 (cM l iM (S 1)).1,.int .i64 (cM l iM (S 2)).1,.int .i64 (cM l iM (S 3)).1]++(yM D 16++([.int .i64 c,.int .u32 N,.int .i64 f]:List Value).set k x):=λc N f k x=>by rw[<-n];exact EZ Q x
 have hvr:∀{X X' :World} {t:Rs},dz X r v l t->cl (λb=>b=p) X X' ->dz X' r v l t:=λh m=>h.mod m (by omega) λb B e=>by have:=R b B;omega
 refine fJ rX (most:=9223372036854775807) (by omega) λX1 U F=>?_;have nA:=kf l T;have nA0:=(ju l iM T).1;obtain⟨E,hya⟩:∃y,y=cM l iM T:=⟨_,rfl⟩
 have exA:(((cN l 9223372036854775807 T).1:Nat):Int)=E.1/\(cN l 9223372036854775807 T).2=E.2:=by rw[hya];exact⟨rfl,rfl⟩
 rw[exA.1];rw[exA.2]at U;rw[<-hya]at nA nA0;refine ck (v:=.int .i64 E.1) (w' :=X1) (by simp[go_sem];rw[cV (by omega) (by omega)]) ?_;refine ck (v:=.pointer (some ⟨p,22+0,none⟩)) (w' :=X1) (by simp[go_sem]) ?_;obtain⟨X2,f2,bX2,L⟩:=Qa (x:=E.1) (F.hpk bX (by omega)) (gE 0 0 0 0) (C' :=G D E.1 0 0 16) ((sE 0 0 0 0 _).trans (by rw[<-n];rfl));refine dI f2 ?_;have rX2:=hvr U L;refine fJ rX2 (most:=4294967295) (by omega) λX3 rX3 mX3=>?_;have nB:=im l E.2;obtain⟨H,hyb⟩:∃y,y=cM l jj E.2:=⟨_,rfl⟩
 have exB:(((cN l 4294967295 E.2).1:Nat):Int)=H.1/\(cN l 4294967295 E.2).2=H.2:=by rw[hyb];exact⟨rfl,rfl⟩
 rw[exB.1];rw[exB.2]at rX3;rw[<-hyb]at nB;refine ck (v:=.int .u32 H.1) (w' :=X3) (by simp[go_sem];rw[IntKind.wrap_u32'];omega) ?_;refine ck (v:=.pointer (some ⟨p,22+1,none⟩)) (w' :=X3) (by simp[go_sem]) ?_;obtain⟨X4,f4,bX4,mX4⟩:=Og (x:=H.1) (mX3.hpk bX2 (by omega)) (gE E.1 0 0 1) (C' :=G D E.1 H.1 0 16) ((sE _ _ _ 1 _).trans (by rw[<-n];rfl));refine dI f4 ?_;have rX4:=hvr rX3 mX4;refine fJ rX4 (most:=9223372036854775807) (by omega) λX5 rX5 mX5=>?_;have nC:=kf l H.2;have nC0:=(ju l iM H.2).1;obtain⟨yc,hyc⟩:∃y,y=cM l iM H.2:=⟨_,rfl⟩
 have zJ:(((cN l 9223372036854775807 H.2).1:Nat):Int)=yc.1/\(cN l 9223372036854775807 H.2).2=yc.2:=by rw[hyc];exact⟨rfl,rfl⟩
 rw[zJ.1];rw[zJ.2]at rX5;rw[<-hyc]at nC nC0;refine ck (v:=.int .i64 yc.1) (w' :=X5) (by simp[go_sem];rw[cV (by omega) (by omega)]) ?_;refine ck (v:=.pointer (some ⟨p,22+2,none⟩)) (w' :=X5) (by simp[go_sem]) ?_;obtain⟨X6,f6,bX6,mX6⟩:=Qa (x:=yc.1) (mX5.hpk bX4 (by omega)) (gE E.1 H.1 0 2) (C' :=G D E.1 H.1 yc.1 16) ((sE _ _ _ 2 _).trans (by rw[<-n];rfl));refine dI f6 ?_;have rX6:=hvr rX5 mX6;have MX6:cl (λb=>b=r) w X6:=C ((((((F.mono λ_ _ h=>.inl h).trans (L.mono λ_ _ h=>.inr h)).trans (mX3.mono λ_ _ h=>.inl h)).trans (mX4.mono λ_ _ h=>.inr h)).trans (mX5.mono λ_ _ h=>.inl h)).trans (mX6.mono λ_ _ h=>.inr h)) MX;have zX6:=mX6.hpk (mX5.hpk (mX4.hpk (mX3.hpk (L.hpk (F.hpk zX (by omega)) (by omega)) (by omega)) (by omega)) (by omega)) (by omega)
 have hsp:(lQ l s).2=yc.2/\G D E.1 H.1 yc.1 16=dl (lQ l s).1:=by
  rw[<-n];have hS1:S 1=(cM l iM (S 0)).2:=P 0;have hS2:S 2=(cM l iM (S 1)).2:=P 1;have hS3:S 3=(cM l iM (S 2)).2:=P 2;have hS4:S 4=(cM l iM (S 3)).2:=P 3;rw[hxs];exact Lx hx1 hx2 (by rw[hS0]) (by rw[hS1]) (by rw[hS2]) (by rw[hS3]) (by rw[hS4]) (by rw[hya,hT]) hyb hyc
 obtain⟨Z,hZ⟩:∃Z,Z=lQ l s:=⟨_,rfl⟩
 have hzf:Z.1.Fit:=by rw[hZ];exact vH l s
 rw[<-hZ]at hsp;rw[hsp.2]at bX6;rw[<-hsp.1]at rX6;have Y:=hK;unfold lw at Y;rw[<-hZ]at Y;refine ey (dl Z.1) 24 uS sm (cL _) (At.all bX6) ?_;refine nJ hzf λX7 mX7=>?_;refine ck (v:=.bool (!Z.1.may)) (w' :=X7) (by simp[go_sem]) ?_;have rX7:=rX6.mod mX7 id λ_ _ h=>h;have bX7:=mX7.hpk bX6 id;have zX7:=mX7.hpk zX6 id;have MX7:=MX6.on mX7 λ_ h=>h.elim
 have fin:∀(I:World) (t:Sp) (rs:Rs),dz I r v l rs->cl (λb=>b=r) w I->jZ I z (dl ng)->(∀a,dz a r v l rs->cl (λb=>b=r) w a->K (.agg (dl t).toArray) a)->
   gh Tryz.prog (ew fO (.pointer (some ⟨z,0,none⟩)) (.agg (dl t).toArray)) I λw9=>iD Tryz.prog (dh fO (.pointer (some ⟨z,0,none⟩))) w9 λv9=>K v9 w9:=by
  intro I t rs hr hm B Y;have hh:I.heap[z]? =some (.cells (dl ng).toArray fO (0,0)):=B;refine iO sm (cL t) hh (by rw[List.size_toArray,cL,cL];omega) (lh _) ?_;have e5:iL (dl ng).toArray.toList 0 (dl t)=dl t:=jI (by rw[cL];simp[cL]);rw[e5];have m9:cl (λb=>b=z) I (I.setRow z (dl t).toArray):=(cl.refl (λb=>b=z) I).setRow (.inl rfl) _
  have b9:jZ (I.setRow z (dl t).toArray) z (dl t):=by
   show(I.setRow z _).heap[z]? =_;rw[dx,if_pos rfl,hh]
  refine eX (dl t) 24 uS sm (cL _) (At.all b9) ?_;exact Y _ (hr.mod m9 (by omega) λb B e=>by have:=R b B;omega) (hm.on m9 λb B=>.inr (by omega))
 cases hmay:Z.1.may with
 |false=>
  rw[hmay]at Y;rw[show(!false)=true from rfl,ci,if_pos rfl];refine GI (e:=5) rX7 λI rX8 mX8=>?_;refine oz Ez ?_;exact fin I ng _ rX8 (MX7.trans mX8) (mX8.hpk zX7 (by omega)) (by simpa using Y)
 |true=>
  rw[hmay]at Y;rw[show(!true)=false from rfl,ci,if_neg Bool.false_ne_true];refine ey (dl Z.1) 24 uS sm (cL _) (At.all bX7) ?_;exact fin X7 Z.1 _ rX7 MX7 zX7 (by simpa using Y)
abbrev xk:TypeId:=139
def CE(r:Nat):Value:=.agg #[fW r]
def L2(c:Nat):Value:=.pointer (some ⟨c,0,none⟩)
def xP(l:List UInt8)(m:Nat)(s:Rs):(((cN l m s).1:Nat):Int)=(cM l m s).1/\(cN l m s).2=(cM l m s).2:=⟨rfl,rfl⟩
abbrev ft(w:World)(c r:Nat):Prop:=hp w c=some (.cells #[fW r] xk (0,0))
def ny{W:World}{c r:Nat}(h:ft W c r):(Instr.loadAt 136 (.pointer (some ⟨c,0,none⟩))).run Tryz.prog W=.ok (fW r) W:=by
 have a:hp W c=some (.cells #[fW r] xk (0,0)):=h;simp only[fW]at a;simp[go_sem,a,fW]
def qm{W:World}{c r:Nat}(h:ft W c r):(Instr.loadAt xk (.pointer (some ⟨c,0,none⟩))).run Tryz.prog W=.ok (CE r) W:=by
 have a:hp W c=some (.cells #[fW r] xk (0,0)):=h;simp only[fW]at a;simp[go_sem,a,fW,CE]
def qR(W:World)(c:Nat):(Instr.fieldAt xk (.pointer (some ⟨c,0,none⟩)) 0).run Tryz.prog W=.ok (.pointer (some ⟨c,0,none⟩)) W:=by simp[go_sem]
def vL(r:Nat)(w:World):∃a,(Instr.box xk (CE r)).run Tryz.prog w=.ok (.pointer (some ⟨w.heap.size,0,none⟩)) a/\ft a w.heap.size r/\cl (λ_=>False) w a:=
 ⟨w.alloc (.cells #[fW r] xk),rfl,by show hp _ _=_;simp[go_sem],(cl.refl _ w).alloc _⟩
def lP{w:World}{K:cm}{r:Nat}{v:Value}{l:List UInt8}{s:Rs}(h:dz w r v l s)
  (a:∀w',dz w' r v l (cM l jj s).2->cl (λb=>b=r) w w' ->K (.int .u32 (cM l jj s).1) w'):Ca Tryz.prog 60 #[CE r] w K:=by
 apply Qj;obtain⟨o,m,i,d⟩:=vL r w;refine ck m (ck (qR _ _) (ck (ny i) ?_));refine fJ (h.mod d id λ_ _ h=>h) (most:=4294967295) (by omega) λn g j=>?_;have k:=im l s;obtain⟨x,f⟩:∃x,x=cM l jj s:=⟨_,rfl⟩
 have e:(((cN l 4294967295 s).1:Nat):Int)=x.1/\(cN l 4294967295 s).2=x.2:=by rw[f];exact xP _ _ _
 rw[e.1];rw[e.2]at g;rw[<-f]at k a;refine ck (v:=.int .u32 x.1) (w' :=n) (by simp[go_sem];rw[IntKind.wrap_u32'];omega) ?_;exact a _ g ((d.mono λ_ _ h=>h.elim).trans j)
def xD{w:World}{K:cm}{r:Nat}{v:Value}{l:List UInt8}{s:Rs}(h:dz w r v l s)
  (a:∀w',dz w' r v l (cM l xw s).2->cl (λb=>b=r) w w' ->K (.int .u64 (cM l xw s).1) w'):Ca Tryz.prog 61 #[fW r] w K:=BC h a
structure pH(w:World)(c r:Nat)(v:Value)(l:List UInt8)(s:Rs):Prop where
 at_:dz w r v l s
 var:ft w c r
 ne:c≠r
section
variable{w w' :World}{K:cm}{c r:Nat}{v:Value}{l:List UInt8}{s:Rs}
def pH.md0(h:pH w c r v l s)(m:cl (λ_=>False) w w'):pH w' c r v l s:=⟨h.at_.mod m id λ_ _ h=>h,m.hpk h.var id,h.ne⟩
def pH.to(h:pH w c r v l s){s' :Rs}(a:dz w' r v l s')(m:cl (λb=>b=r) w w'):pH w' c r v l s' :=⟨a,m.hpk h.var h.ne,h.ne⟩
def pH.lt(h:pH w c r v l s):r<w.heap.size/\c<w.heap.size/\∀b,eM v b->b<w.heap.size:=⟨h.at_.lt,cn h.var,λb a=>h.at_.rd.lt a⟩
def pH.st(h:pH w c r v l s){p:Nat}(f:r<p)(g:c<p)(a:∀b,eM v b->b<p)(m:cl (λy=>y=p) w w'):pH w' c r v l s:=
 ⟨h.at_.mod m (by omega) λb d e=>by have:=a b d;omega,m.hpk h.var (by omega),h.ne⟩
def Ie{W:World}{p:Nat}{a:Ac}(h:hp W p=some (.cells (cJ a).toArray 92 (0,0))):
  (∀x,∃b,(Instr.storeAt 35 (.pointer (some ⟨p,0,none⟩)) (.int .u32 x)).run Tryz.prog W=.ok () b/\hp b p=some (.cells (cJ {a with num:=x}).toArray 92 (0,0))/\cl (λy=>y=p) W b)/\
  (∀x,∃b,(Instr.storeAt 2 (.pointer (some ⟨p,1,none⟩)) (.int .i64 x)).run Tryz.prog W=.ok () b/\hp b p=some (.cells (cJ {a with cash:=x}).toArray 92 (0,0))/\cl (λy=>y=p) W b)/\
  (∀x,∃b,(Instr.storeAt 4 (.pointer (some ⟨p,2,none⟩)) (.bool x)).run Tryz.prog W=.ok () b/\hp b p=some (.cells (cJ {a with kil:=x}).toArray 92 (0,0))/\cl (λy=>y=p) W b)/\
  (∀x,∃b,(Instr.storeAt 4 (.pointer (some ⟨p,3,none⟩)) (.bool x)).run Tryz.prog W=.ok () b/\hp b p=some (.cells (cJ {a with dfl:=x}).toArray 92 (0,0))/\cl (λy=>y=p) W b):=by
 simp only[cJ]at h|-;refine⟨λx=>⟨W.setCell ⟨p,0,none⟩ (.int .u32 x),?_,?_,?_⟩,λx=>⟨W.setCell ⟨p,1,none⟩ (.int .i64 x),?_,?_,?_⟩,λx=>⟨W.setCell ⟨p,2,none⟩ (.bool x),?_,?_,?_⟩,λx=>⟨W.setCell ⟨p,3,none⟩ (.bool x),?_,?_,?_⟩⟩
 all_goals first|exact(cl.refl (λy=>y=p) W).setCell (.inl rfl) _ _|simp[go_sem,h]
def Ip{W:World}{p:Nat}{a:Po}(h:hp W p=some (.cells (cK a).toArray 112 (0,0))):
  (∀x,∃d,(Instr.storeAt 35 (.pointer (some ⟨p,0,none⟩)) (.int .u32 x)).run Tryz.prog W=.ok () d/\hp d p=some (.cells (cK {a with c:=x}).toArray 112 (0,0))/\cl (λy=>y=p) W d)/\
  (∀x,∃d,(Instr.storeAt 35 (.pointer (some ⟨p,1,none⟩)) (.int .u32 x)).run Tryz.prog W=.ok () d/\hp d p=some (.cells (cK {a with a:=x}).toArray 112 (0,0))/\cl (λy=>y=p) W d)/\
  (∀x,∃d,(Instr.storeAt 2 (.pointer (some ⟨p,2,none⟩)) (.int .i64 x)).run Tryz.prog W=.ok () d/\hp d p=some (.cells (cK {a with q:=x}).toArray 112 (0,0))/\cl (λy=>y=p) W d)/\
  (∀x,∃d,(Instr.storeAt 2 (.pointer (some ⟨p,3,none⟩)) (.int .i64 x)).run Tryz.prog W=.ok () d/\hp d p=some (.cells (cK {a with b:=x}).toArray 112 (0,0))/\cl (λy=>y=p) W d):=by
 simp only[cK]at h|-;refine⟨λx=>⟨W.setCell ⟨p,0,none⟩ (.int .u32 x),?_,?_,?_⟩,λx=>⟨W.setCell ⟨p,1,none⟩ (.int .u32 x),?_,?_,?_⟩,λx=>⟨W.setCell ⟨p,2,none⟩ (.int .i64 x),?_,?_,?_⟩,λx=>⟨W.setCell ⟨p,3,none⟩ (.int .i64 x),?_,?_,?_⟩⟩
 all_goals first|exact(cl.refl (λy=>y=p) W).setCell (.inl rfl) _ _|simp[go_sem,h]
def wq{W:World}{p:Nat}{a b:Ac}(h:hp W p=some (.cells (cJ a).toArray 92 (0,0))):(Instr.loadAt 92 (.pointer (some ⟨p,0,none⟩))).run Tryz.prog W=.ok (gR a) W/\
  ∃d,(Instr.storeAt 92 (.pointer (some ⟨p,0,none⟩)) (gR b)).run Tryz.prog W=.ok () d/\hp d p=some (.cells (cJ b).toArray 92 (0,0))/\cl (λy=>y=p) W d:=by
 simp only[cJ]at h|-;exact⟨by simp[go_sem,h,gR],(((W.setCell ⟨p,0,none⟩ (.int .u32 b.num)).setCell ⟨p,1,none⟩ (.int .i64 b.cash)).setCell ⟨p,2,none⟩ (.bool b.kil)).setCell ⟨p,3,none⟩ (.bool b.dfl),by simp[go_sem,h,gR],by simp[go_sem,h],((((cl.refl (λy=>y=p) W).setCell (.inl rfl) _ _).setCell (.inl rfl) _ _).setCell (.inl rfl) _ _).setCell (.inl rfl) _ _⟩
def uc{W:World}{p:Nat}{a b:Po}(h:hp W p=some (.cells (cK a).toArray 112 (0,0))):(Instr.loadAt 112 (.pointer (some ⟨p,0,none⟩))).run Tryz.prog W=.ok (kU a) W/\
  ∃d,(Instr.storeAt 112 (.pointer (some ⟨p,0,none⟩)) (kU b)).run Tryz.prog W=.ok () d/\hp d p=some (.cells (cK b).toArray 112 (0,0))/\cl (λy=>y=p) W d:=by
 simp only[cK]at h|-;exact⟨by simp[go_sem,h,kU],(((W.setCell ⟨p,0,none⟩ (.int .u32 b.c)).setCell ⟨p,1,none⟩ (.int .u32 b.a)).setCell ⟨p,2,none⟩ (.int .i64 b.q)).setCell ⟨p,3,none⟩ (.int .i64 b.b),by simp[go_sem,h,kU],by simp[go_sem,h],((((cl.refl (λy=>y=p) W).setCell (.inl rfl) _ _).setCell (.inl rfl) _ _).setCell (.inl rfl) _ _).setCell (.inl rfl) _ _⟩
def PY(i:Nat)(hi:i<4)(p:Nat)(W:World):(Instr.fieldAt 92 (.pointer (some ⟨p,0,none⟩)) i).run Tryz.prog W=.ok (.pointer (some ⟨p,i,none⟩)) W:=by
 have:i=0\/i=1\/i=2\/i=3:=by omega
 rcases this with rfl|rfl|rfl|rfl<;>simp[go_sem]
def P0(i:Nat)(hi:i<4)(p:Nat)(W:World):(Instr.fieldAt 112 (.pointer (some ⟨p,0,none⟩)) i).run Tryz.prog W=.ok (.pointer (some ⟨p,i,none⟩)) W:=by
 have:i=0\/i=1\/i=2\/i=3:=by omega
 rcases this with rfl|rfl|rfl|rfl<;>simp[go_sem]
set_option maxRecDepth 10000 in
def HZ(h:pH w c r v l s)(hK:∀w',pH w' c r v l (pv l s).2->cl (λb=>b=r) w w' ->K (gR (pv l s).1) w'):Ca Tryz.prog 64 #[L2 c] w K:=by
 apply Rm;unfold L2;obtain⟨hr0,T,D⟩:=h.lt;obtain⟨p,j⟩:∃p,p=w.heap.size:=⟨_,rfl⟩
 have E:cl (λ_=>False) w (w.alloc (.cells (cJ ⟨0,0,false,false⟩).toArray 92)):=(cl.refl _ w).alloc _;have H:hp (w.alloc (.cells (cJ ⟨0,0,false,false⟩).toArray 92)) p=some (.cells (cJ ⟨0,0,false,false⟩).toArray 92 (0,0)):=by rw[j];simp[go_sem]
 refine ck (v:=.pointer (some ⟨p,0,none⟩)) (w' :=w.alloc (.cells (cJ ⟨0,0,false,false⟩).toArray 92)) (by rw[j];simp[go_sem,cJ]) ?_;generalize w.alloc (.cells (cJ ⟨0,0,false,false⟩).toArray 92)=G at E H|-;have md:=(cl.refl (λ_=>False) G).drew;have h1:=h.md0 (E.trans md);have o:=md.hpk H id;have I:=E.trans md;generalize G.drew=u1 at h1 o I|-;have i:r<p:=by omega
 have n:c<p:=by omega
 have k:∀b,eM v b->b<p:=λb V=>by have:=D b V;omega
 have d:∀{W L:World},cl (λb=>b=r) w W->cl (λy=>y=p) W L->cl (λb=>b=r) w L:=λa b=>a.on b λy hy=>.inr (by omega);refine cx (qm h1.var) (cq (λW=>qR W c) (cx (ny h1.var) ?_));refine lP h1.at_ λw2 r2 u=>?_;have x:=h1.to r2 u;have b2:=u.hpk o (by omega);have M2:cl (λb=>b=r) w w2:=(I.mono λ_ _ h=>h.elim).trans u;refine⟨ny x.var,cq (λW=>PY 0 (by omega) p W) ?_⟩;refine lr x.at_ λw3 R z=>?_;have h3:=x.to R z;have X:=z.hpk b2 (by omega);obtain⟨w4,e4,b4,O⟩:=(Ie X).1 (cM l jj s).1;refine dI e4 (cq (λW=>PY 1 (by omega) p W) ?_);obtain⟨q,Q,S,N⟩:=(Ie b4).2.1 (dQ l (cM l jj s).2).1;refine dI Q ?_;have h5:=(h3.st i n k O).st i n k N;have Y:=d (d (M2.trans z) O) N;have e:=h5.md0 (cl.refl (λ_=>False) q).drew;have m:=((cl.refl (λ_=>False) q).drew).hpk S id;have f:=Y.on (cl.refl (λ_=>False) q).drew λ_ h=>h.elim;generalize q.drew=u5 at e m f|-;refine cq (λW=>qR W c) (cx (ny e.var) (cq (λW=>qR W c) (cx (ny e.var) ?_)));refine tm e.at_ λw6 r6 t=>?_;have F:=e.to r6 t;have U:=t.hpk m (by omega);refine⟨ny F.var,cq (λW=>PY 2 (by omega) p W) ?_⟩;refine tm F.at_ λw7 r7 C=>?_;have h7:=F.to r7 C;have b7:=C.hpk U (by omega);obtain⟨w8,e8,b8,P⟩:=(Ie b7).2.2.1 (gz l (dQ l (cM l jj s).2).2).1;refine dI e8 (cq (λW=>PY 3 (by omega) p W) ?_);obtain⟨w9,Z,M,J⟩:=(Ie b8).2.2.2 (gz l (gz l (dQ l (cM l jj s).2).2).2).1;refine dI Z (ck (wq (b:=⟨0,0,false,false⟩) M).1 ?_);obtain⟨w10,B,A,g⟩:=(wq (b:=(pv l s).1) M).2;refine dI B (cx (wq (b:=⟨0,0,false,false⟩) A).1 ?_);exact hK _ (((h7.st i n k P).st i n k J).st i n k g) (d (d (d ((f.trans t).trans C) P) J) g)
set_option maxRecDepth 10000 in
def Ix(h:pH w c r v l s)(hK:∀w',pH w' c r v l (pI l s).2->cl (λb=>b=r) w w' ->K (kU (pI l s).1) w'):Ca Tryz.prog 71 #[L2 c] w K:=by
 apply Qv;unfold L2;obtain⟨hr0,T,D⟩:=h.lt;obtain⟨p,j⟩:∃p,p=w.heap.size:=⟨_,rfl⟩
 have E:cl (λ_=>False) w (w.alloc (.cells (cK ⟨0,0,0,0⟩).toArray 112)):=(cl.refl _ w).alloc _;have H:hp (w.alloc (.cells (cK ⟨0,0,0,0⟩).toArray 112)) p=some (.cells (cK ⟨0,0,0,0⟩).toArray 112 (0,0)):=by rw[j];simp[go_sem]
 refine ck (v:=.pointer (some ⟨p,0,none⟩)) (w' :=w.alloc (.cells (cK ⟨0,0,0,0⟩).toArray 112)) (by rw[j];simp[go_sem,cK]) ?_;generalize w.alloc (.cells (cK ⟨0,0,0,0⟩).toArray 112)=G at E H|-;have md:=(cl.refl (λ_=>False) G).drew;have h1:=h.md0 (E.trans md);have o:=md.hpk H id;have I:=E.trans md;generalize G.drew=u1 at h1 o I|-;have i:r<p:=by omega
 have n:c<p:=by omega
 have k:∀b,eM v b->b<p:=λb V=>by have:=D b V;omega
 have d:∀{W L:World},cl (λb=>b=r) w W->cl (λy=>y=p) W L->cl (λb=>b=r) w L:=λa b=>a.on b λy hy=>.inr (by omega);refine cx (qm h1.var) (cx (qm h1.var) ?_);refine lP h1.at_ λw2 r2 u=>?_;have x:=h1.to r2 u;have b2:=u.hpk o (by omega);have M2:cl (λb=>b=r) w w2:=(I.mono λ_ _ h=>h.elim).trans u;refine⟨qm x.var,cq (λW=>P0 0 (by omega) p W) ?_⟩;refine lP x.at_ λw3 R z=>?_;have h3:=x.to R z;have X:=z.hpk b2 (by omega);obtain⟨w4,e4,b4,O⟩:=(Ip X).1 (cM l jj s).1;refine dI e4 (cq (λW=>P0 1 (by omega) p W) ?_);obtain⟨q,Q,S,N⟩:=(Ip b4).2.1 (cM l jj (cM l jj s).2).1;refine dI Q ?_;have h5:=(h3.st i n k O).st i n k N;have Y:=d (d (M2.trans z) O) N;have e:=h5.md0 (cl.refl (λ_=>False) q).drew;have m:=((cl.refl (λ_=>False) q).drew).hpk S id;have f:=Y.on (cl.refl (λ_=>False) q).drew λ_ h=>h.elim;generalize q.drew=u5 at e m f|-;refine cq (λW=>qR W c) (cx (ny e.var) (cq (λW=>qR W c) (cx (ny e.var) ?_)));refine lr e.at_ λw6 r6 t=>?_;have F:=e.to r6 t;have U:=t.hpk m (by omega);refine⟨ny F.var,cq (λW=>P0 2 (by omega) p W) ?_⟩;refine lr F.at_ λw7 r7 C=>?_;have h7:=F.to r7 C;have b7:=C.hpk U (by omega);obtain⟨w8,e8,b8,P⟩:=(Ip b7).2.2.1 (dQ l (cM l jj (cM l jj s).2).2).1;refine dI e8 (cq (λW=>P0 3 (by omega) p W) ?_);obtain⟨w9,Z,M,J⟩:=(Ip b8).2.2.2 (dQ l (dQ l (cM l jj (cM l jj s).2).2).2).1;refine dI Z (ck (uc (b:=⟨0,0,0,0⟩) M).1 ?_);obtain⟨w10,B,A,g⟩:=(uc (b:=(pI l s).1) M).2;refine dI B (cx (uc (b:=⟨0,0,0,0⟩) A).1 ?_);exact hK _ (((h7.st i n k P).st i n k J).st i n k g) (d (d (d ((f.trans t).trans C) P) J) g)
def PD:kX Tryz.prog gQ=true:=by kernel_rfl
abbrev su(W:World)(p:Nat)(k:Ct):Prop:=hp W p=some (.cells (dN k).toArray gQ (0,0))
def qN(k:Ct):(dN k).length=26+1:=cX k
def I2:Tryz.prog.cellsOf gQ=26+1:=by kernel_rfl
def LF:iA Tryz.prog gQ=true:=by kernel_rfl
def qa(k:Ct):(dN k).all (·.oneCell')=true:=by
 unfold dN;rw[List.all_append,lh];rfl
def QW(k:Ct):(dN k)[25]? =some (.int .u8 k.st)/\(dN k)[26]? =some (.int .i64 k.price):=by
 unfold dN;constructor<;>(rw[List.getElem?_append_right (by rw[cL];omega),cL];rfl)
def Sf(k:Ct)(x:Int):(dN k).set 25 (.int .u8 x)=dN {k with st:=x}/\(dN k).set 26 (.int .i64 x)=dN {k with price:=x}:=by
 unfold dN;constructor<;>(rw[List.set_append_right _ _ (by rw[cL];omega),cL];rfl)
def O9{W:World}{p:Nat}{k:Ct}(h:su W p k):
  (∀x,∃a,(Instr.storeAt 106 (.pointer (some ⟨p,25,none⟩)) (.int .u8 x)).run Tryz.prog W=.ok () a/\su a p {k with st:=x}/\cl (λy=>y=p) W a)/\
  (∀x,∃a,(Instr.storeAt 2 (.pointer (some ⟨p,26,none⟩)) (.int .i64 x)).run Tryz.prog W=.ok () a/\su a p {k with price:=x}/\cl (λy=>y=p) W a):=by
 have b:hp W p=some (.cells (dN k).toArray gQ (0,0)):=h;obtain⟨e,d⟩:=QW k;refine⟨λx=>⟨W.setCell ⟨p,25,none⟩ (.int .u8 x),by simp[go_sem,b,e],?_,(cl.refl (λy=>y=p) W).setCell (.inl rfl) _ _⟩,λx=>⟨W.setCell ⟨p,26,none⟩ (.int .i64 x),by simp[go_sem,b,d],?_,(cl.refl (λy=>y=p) W).setCell (.inl rfl) _ _⟩⟩
 ·show hp _ _=_;rw[<-(Sf k x).1];simp[go_sem,b]
 ·show hp _ _=_;rw[<-(Sf k x).2];simp[go_sem,b]
def Sn{W:World}{p:Nat}{k:Ct}{s:Sp}{K:World->Prop}(h:su W p k)(d:∀a,su a p {k with spec:=s}->cl (λy=>y=p) W a->K a):gh Tryz.prog (ew fO (.pointer (some ⟨p,0,none⟩)) (.agg (dl s).toArray)) W K:=by
 have b:W.heap[p]? =some (.cells (dN k).toArray gQ (0,0)):=h;refine iO sm (cL s) b (by rw[List.size_toArray,cL,cX];omega) (lh _) (d _ ?_ ((cl.refl (λy=>y=p) W).setRow (.inl rfl) _));show(W.setRow p _).heap[p]? =_;rw[dx,if_pos rfl,b]
 have:iL (dN k).toArray.toList 0 (dl s)=dN {k with spec:=s}:=by
  unfold iL dN;simp only[List.take_zero,List.nil_append,Nat.zero_add,cL];rw[List.drop_append_of_le_length (by rw[cL];exact Nat.le_refl _),List.drop_of_length_le (by rw[cL];exact Nat.le_refl _)];rfl
 rw[this]
def Mq{W:World}{p:Nat}{k k' :Ct}{K:World->Prop}(h:su W p k)(d:∀a,su a p k' ->cl (λy=>y=p) W a->K a):gh Tryz.prog (ew gQ (.pointer (some ⟨p,0,none⟩)) (.agg (dN k').toArray)) W K:=by
 have b:W.heap[p]? =some (.cells (dN k).toArray gQ (0,0)):=h;refine iO I2 (qN k') b (by rw[List.size_toArray,cX,cX];omega) (qa _) (d _ ?_ ((cl.refl (λy=>y=p) W).setRow (.inl rfl) _));show(W.setRow p _).heap[p]? =_;rw[dx,if_pos rfl,b,jI (by rw[cX];simp[cX])]
attribute [local irreducible] cM dQ gz lw
set_option maxRecDepth 10000 in
def ID(h:pH w c r v l s)(hK:∀w',pH w' c r v l (mJ l s).2->cl (λb=>b=r) w w' ->K (.agg (dN (mJ l s).1).toArray) w'):Ca Tryz.prog 67 #[L2 c] w K:=by
 apply RF;unfold L2;obtain⟨hr0,T,A⟩:=h.lt;refine kY PD ?_;rw[wH];obtain⟨p,f⟩:∃p,p=w.heap.size:=⟨_,rfl⟩
 have B:cl (λ_=>False) w (w.alloc (.cells (dN nU).toArray gQ)):=(cl.refl _ w).alloc _;have E:su (w.alloc (.cells (dN nU).toArray gQ)) p nU:=by show hp _ _=_;rw[f];simp[go_sem]
 rw[<-f];generalize w.alloc (.cells (dN nU).toArray gQ)=P at B E|-;have h1:=h.md0 B;have g:r<p:=by omega
 have k:c<p:=by omega
 have j:∀b,eM v b->b<p:=λb X=>by have:=A b X;omega
 have d:∀{W I:World},cl (λb=>b=r) w W->cl (λy=>y=p) W I->cl (λb=>b=r) w I:=λa b=>a.on b λy hy=>.inr (by omega);have Z:cl (λb=>b=r) w P:=B.mono λ_ _ h=>h.elim;refine ck (qR _ _) (ck (ny h1.var) ?_);refine Ib h1.at_ λN r2 o=>?_;have S:=h1.to r2 o;have b2:su N p nU:=o.hpk E (by omega);refine ck (v:=.pointer (some ⟨p,0,none⟩)) (w' :=N) (by simp[go_sem]) ?_;refine Sn b2 λw3 Y F=>?_;have C:=S.st g k j F;refine ck (qR _ _) (ck (ny C.var) ?_);refine fJ C.at_ (most:=255) (by omega) λm H D=>?_;have hn:=xh l (lw l s).2;obtain⟨x,i⟩:∃x,x=cM l 255 (lw l s).2:=⟨_,rfl⟩
 have e:(((cN l 255 (lw l s).2).1:Nat):Int)=x.1/\(cN l 255 (lw l s).2).2=x.2:=by rw[i];exact xP _ _ _
 rw[e.1];rw[e.2]at H;rw[<-i]at hn;have h4:=C.to H D;have b4:su m p _:=D.hpk Y (by omega);refine ck (v:=.int .u8 x.1) (w' :=m) (by simp[go_sem];rw[IntKind.wrap_u8'];omega) ?_;refine ck (v:=.pointer (some ⟨p,25,none⟩)) (w' :=m) (by simp[go_sem]) ?_;obtain⟨w5,Q,R,L⟩:=(O9 b4).1 x.1;refine dI Q ?_;have u:=h4.st g k j L;refine ck (qR _ _) (ck (ny u.var) ?_);refine lr u.at_ λG r6 n=>?_;have M:=u.to r6 n;have U:su G p _:=n.hpk R (by omega);refine ck (v:=.pointer (some ⟨p,26,none⟩)) (w' :=G) (by simp[go_sem]) ?_;obtain⟨w7,V,z,J⟩:=(O9 U).2 (dQ l x.2).1;refine dI V ?_;have t:({({({nU with spec:=(lw l s).1}:Ct)with st:=x.1}:Ct)with price:=(dQ l x.2).1}:Ct)=(mJ l s).1:=by rw[i];rfl
 rw[t]at z;refine ey (dN (mJ l s).1) 26 LF I2 (qN _) (At.all z) ?_;refine Mq (k' :=(mJ l s).1) z λw8 b8 O=>?_;refine eX (dN (mJ l s).1) 26 LF I2 (qN _) (At.all b8) ?_;have q:(dQ l x.2).2=(mJ l s).2:=by rw[i];rfl
 rw[q]at M;exact hK _ ((M.st g k j J).st g k j O) (d (d ((d ((d (Z.trans o) F).trans D) L).trans n) J) O)
abbrev wU:TypeId:=119
def xf(x:Int×Od):Value:=.agg #[.int .u32 x.1,.int .u64 x.2.num,.int .u32 x.2.acct,.bool x.2.buy,.int .i64 x.2.price,.int .i64 x.2.left]
abbrev lK(W:World)(p:Nat)(x:Int×Od):Prop:=hp W p=some (.cells #[.int .u32 x.1,.int .u64 x.2.num,.int .u32 x.2.acct,.bool x.2.buy,.int .i64 x.2.price,.int .i64 x.2.left] wU (0,0))
set_option maxRecDepth 10000 in
def C0{W:World}{p:Nat}{a:Int×Od}(h:lK W p a):
  (∀x,∃b,(Instr.storeAt 35 (.pointer (some ⟨p,0,none⟩)) (.int .u32 x)).run Tryz.prog W=.ok () b/\lK b p (x,a.2)/\cl (λy=>y=p) W b)/\
  (∀x,∃b,(Instr.storeAt 27 (.pointer (some ⟨p,1,none⟩)) (.int .u64 x)).run Tryz.prog W=.ok () b/\lK b p (a.1,{a.2 with num:=x})/\cl (λy=>y=p) W b)/\
  (∀x,∃b,(Instr.storeAt 35 (.pointer (some ⟨p,2,none⟩)) (.int .u32 x)).run Tryz.prog W=.ok () b/\lK b p (a.1,{a.2 with acct:=x})/\cl (λy=>y=p) W b)/\
  (∀x,∃b,(Instr.storeAt 4 (.pointer (some ⟨p,3,none⟩)) (.bool x)).run Tryz.prog W=.ok () b/\lK b p (a.1,{a.2 with buy:=x})/\cl (λy=>y=p) W b)/\
  (∀x,∃b,(Instr.storeAt 2 (.pointer (some ⟨p,4,none⟩)) (.int .i64 x)).run Tryz.prog W=.ok () b/\lK b p (a.1,{a.2 with price:=x})/\cl (λy=>y=p) W b)/\
  (∀x,∃b,(Instr.storeAt 2 (.pointer (some ⟨p,5,none⟩)) (.int .i64 x)).run Tryz.prog W=.ok () b/\lK b p (a.1,{a.2 with left:=x})/\cl (λy=>y=p) W b):=by
 have d:hp W p=some (.cells #[.int .u32 a.1,.int .u64 a.2.num,.int .u32 a.2.acct,.bool a.2.buy,.int .i64 a.2.price,.int .i64 a.2.left] wU (0,0)):=h;refine⟨λx=>⟨W.setCell ⟨p,0,none⟩ (.int .u32 x),?_,?_,?_⟩,λx=>⟨W.setCell ⟨p,1,none⟩ (.int .u64 x),?_,?_,?_⟩,λx=>⟨W.setCell ⟨p,2,none⟩ (.int .u32 x),?_,?_,?_⟩,λx=>⟨W.setCell ⟨p,3,none⟩ (.bool x),?_,?_,?_⟩,λx=>⟨W.setCell ⟨p,4,none⟩ (.int .i64 x),?_,?_,?_⟩,λx=>⟨W.setCell ⟨p,5,none⟩ (.int .i64 x),?_,?_,?_⟩⟩
 all_goals first|exact(cl.refl (λy=>y=p) W).setCell (.inl rfl) _ _|(show hp _ _=_;simp[go_sem,d])|simp[go_sem,d]
def K8{W:World}{p:Nat}{a:Int×Od}(h:lK W p a):(Instr.loadAt wU (.pointer (some ⟨p,0,none⟩))).run Tryz.prog W=.ok (xf a) W:=by
 have b:hp W p=some (.cells #[.int .u32 a.1,.int .u64 a.2.num,.int .u32 a.2.acct,.bool a.2.buy,.int .i64 a.2.price,.int .i64 a.2.left] wU (0,0)):=h;simp[go_sem,b,xf]
set_option maxRecDepth 10000 in
def OW{W:World}{p:Nat}{a b:Int×Od}(h:lK W p a):∃d,(Instr.storeAt wU (.pointer (some ⟨p,0,none⟩)) (xf b)).run Tryz.prog W=.ok () d/\lK d p b/\cl (λy=>y=p) W d:=by
 have e:hp W p=some (.cells #[.int .u32 a.1,.int .u64 a.2.num,.int .u32 a.2.acct,.bool a.2.buy,.int .i64 a.2.price,.int .i64 a.2.left] wU (0,0)):=h;exact⟨(((((W.setCell ⟨p,0,none⟩ (.int .u32 b.1)).setCell ⟨p,1,none⟩ (.int .u64 b.2.num)).setCell ⟨p,2,none⟩ (.int .u32 b.2.acct)).setCell ⟨p,3,none⟩ (.bool b.2.buy)).setCell ⟨p,4,none⟩ (.int .i64 b.2.price)).setCell ⟨p,5,none⟩ (.int .i64 b.2.left),by simp[go_sem,e,xf],by show hp _ _=_;simp[go_sem,e],((((((cl.refl (λy=>y=p) W).setCell (.inl rfl) _ _).setCell (.inl rfl) _ _).setCell (.inl rfl) _ _).setCell (.inl rfl) _ _).setCell (.inl rfl) _ _).setCell (.inl rfl) _ _⟩
def D9(w:World):∃a,(Instr.alloc wU true (.tuple #[])).run Tryz.prog w=.ok (.pointer (some ⟨w.heap.size,0,none⟩)) a/\lK a w.heap.size (0,fI)/\cl (λ_=>False) w a:=
 ⟨w.alloc (.cells #[.int .u32 0,.int .u64 0,.int .u32 0,.bool false,.int .i64 0,.int .i64 0] wU),by simp[go_sem],by show hp _ _=_;simp[go_sem,fI],(cl.refl _ w).alloc _⟩
def L3(i:Nat)(hi:i<2)(p:Nat)(W:World):(Instr.fieldAt wU (.pointer (some ⟨p,0,none⟩)) i).run Tryz.prog W=.ok (.pointer (some ⟨p,i,none⟩)) W:=by
 have:i=0\/i=1:=by omega
 rcases this with rfl|rfl<;>simp[go_sem]
def DU(i:Nat)(hi:i<5)(p:Nat)(W:World):(Instr.fieldAt 117 (.pointer (some ⟨p,1,none⟩)) i).run Tryz.prog W=.ok (.pointer (some ⟨p,1+i,none⟩)) W:=by
 have:i=0\/i=1\/i=2\/i=3\/i=4:=by omega
 rcases this with rfl|rfl|rfl|rfl|rfl<;>simp[go_sem,cC]
set_option maxRecDepth 10000 in
def I3(Y:dz w r v l s)(hK:∀w',dz w' r v l (kC l s).2->cl (λb=>b=r) w w' ->K (xf (kC l s).1) w'):Ca Tryz.prog 73 #[CE r] w K:=by
 apply QY;obtain⟨X,e1,E,m1⟩:=vL r w;have hr0:=Y.lt;have hv0:∀b,eM v b->b<w.heap.size:=λb B=>Y.rd.lt B;obtain⟨c,N⟩:∃c,c=w.heap.size:=⟨_,rfl⟩
 rw[<-N]at e1 E;have h1:pH X c r v l s:=⟨Y.mod m1 id λ_ _ h=>h,E,by omega⟩
 refine ck e1 ?_;obtain⟨w2,e2,b2,m2⟩:=D9 X;obtain⟨p,hp0⟩:∃p,p=X.heap.size:=⟨_,rfl⟩
 rw[<-hp0]at e2 b2;refine ck e2 ?_;have M:=h1.md0 m2;have hc1:=cn E;have o:r<p:=by omega
 have k:c<p:=by omega
 have hwp:w.heap.size<=p:=by omega
 have m:∀b,eM v b->b<p:=λb B=>by have:=hv0 b B;omega
 have d:∀{W W' :World},cl (λb=>b=r) w W->cl (λy=>y=p) W W' ->cl (λb=>b=r) w W' :=λa b=>a.on b λy hy=>.inr (by omega);have M2:cl (λb=>b=r) w w2:=(m1.trans m2).mono λ_ _ h=>h.elim;refine ck (qm M.var) ?_;refine lP M.at_ λw3 r3 O=>?_;have h3:=M.to r3 O;have b3:lK w3 p _:=O.hpk b2 (by omega);refine ck (L3 0 (by omega) p _) ?_;obtain⟨w4,e4,b4,m4⟩:=(C0 b3).1 (cM l jj s).1;refine dI e4 ?_;have T:=h3.st o k m m4;have M4:=d (M2.trans O) m4;refine ck (qR _ _) (ck (ny T.var) ?_);refine xD T.at_ λw5 r5 G=>?_;have h5:=T.to r5 G;have b5:lK w5 p _:=G.hpk b4 (by omega);refine ck (L3 1 (by omega) p _) (ck (DU 0 (by omega) p _) ?_);obtain⟨w6,e6,b6,m6⟩:=(C0 b5).2.1 (cM l xw (cM l jj s).2).1;refine dI e6 ?_;have h6:=h5.st o k m m6;have M6:=d (M4.trans G) m6;refine ck (qm h6.var) ?_;refine lP h6.at_ λw7 r7 F=>?_;have h7:=h6.to r7 F;have b7:lK w7 p _:=F.hpk b6 (by omega);refine ck (L3 1 (by omega) p _) (ck (DU 1 (by omega) p _) ?_);obtain⟨w8,e8,b8,m8⟩:=(C0 b7).2.2.1 (cM l jj (cM l xw (cM l jj s).2).2).1;refine dI e8 ?_;have V:=h7.st o k m m8;have M8:=d (M6.trans F) m8;refine ck (qR _ _) (ck (ny V.var) ?_);refine tm V.at_ λw9 r9 Z=>?_;have h9:=V.to r9 Z;have b9:lK w9 p _:=Z.hpk b8 (by omega);refine ck (L3 1 (by omega) p _) (ck (DU 2 (by omega) p _) ?_);obtain⟨f,U,Q,A⟩:=(C0 b9).2.2.2.1 (gz l (cM l jj (cM l xw (cM l jj s).2).2).2).1;refine dI U ?_;have e:=(h9.st o k m A).md0 (cl.refl (λ_=>False) f).drew;have g:lK f.drew p _:=((cl.refl (λ_=>False) f).drew).hpk Q id;have z:=(d (M8.trans Z) A).on (cl.refl (λ_=>False) f).drew λ_ h=>h.elim;generalize f.drew=u10 at e g z|-;refine cq (λW=>qR W c) (cx (ny e.var) (cq (λW=>qR W c) (cx (ny e.var) ?_)));refine lr e.at_ λL I j=>?_;have n:=e.to I j;have H:lK L p _:=j.hpk g (by omega);refine⟨ny n.var,cq (λW=>L3 1 (by omega) p W) (cq (λW=>DU 3 (by omega) p W) ?_)⟩;refine lr n.at_ λw12 r12 i=>?_;have S:=n.to r12 i;have b12:lK w12 p _:=i.hpk H (by omega);obtain⟨w13,D,R,u⟩:=(C0 b12).2.2.2.2.1 (dQ l (gz l (cM l jj (cM l xw (cM l jj s).2).2).2).2).1;refine dI D (cq (λW=>L3 1 (by omega) p W) (cq (λW=>DU 4 (by omega) p W) ?_));obtain⟨w14,P,x,t⟩:=(C0 R).2.2.2.2.2 (dQ l (dQ l (gz l (cM l jj (cM l xw (cM l jj s).2).2).2).2).2).1;refine dI P (ck (K8 x) ?_);obtain⟨w15,C,J,q⟩:=OW (b:=(kC l s).1) x;refine dI C (cx (K8 J) ?_);exact hK _ (((S.st o k m u).st o k m t).st o k m q).at_ (d (d (d ((z.trans j).trans i) u) t) q)
end
structure pz(w:World)(c:Nat)(F:Nat->Prop)(day:Int)(L:List Ct):Prop where
 out:∃sl,hp w c=some (.cells #[.int .u32 day,sl] 168 (0,0))/\Rd w 27 sl L.length (L.flatMap dN)/\(∀b,eM sl b->F b/\b≠c)
 self:F c
 lt:∀b,F b->b<w.heap.size
section
variable{w w' :World}{c:Nat}{F G:Nat->Prop}{day:Int}{L:List Ct}{K:cm}
def pz.mod(h:pz w c F day L)(a:cl G w w')(e:∀b,F b->¬G b):pz w' c F day L:=by
 obtain⟨⟨sl,h1,j,f⟩,g,i⟩:=h;exact⟨⟨sl,a.keep h1 (e c g),j.mod a λb d=>e b (f b d).1,f⟩,g,λb d=>Nat.lt_of_lt_of_le (i b d) a.size⟩
def pz.md0(h:pz w c F day L)(a:cl (λ_=>False) w w'):pz w' c F day L:=h.mod a λ_ _ h=>h
def AI:Tryz.prog.underlying 45=some (.slice 108):=by kernel_rfl
def pz.ld(h:pz w c F day L):∃sl,(∀i:Nat,i<2->∀W,(Instr.fieldAt 168 (.pointer (some ⟨c,0,none⟩)) i).run Tryz.prog W=.ok (.pointer (some ⟨c,i,none⟩)) W)/\(Instr.loadAt 35 (.pointer (some ⟨c,0,none⟩))).run Tryz.prog w=.ok (.int .u32 day) w/\
  (Instr.loadAt 45 (.pointer (some ⟨c,1,none⟩))).run Tryz.prog w=.ok sl w/\Rd w 27 sl L.length (L.flatMap dN)/\(∀b,eM sl b->F b/\b≠c)/\∀W,(builtin .len #[45] 3 #[false] #[sl]).run Tryz.prog W=.ok (.value (.int .i64 (L.length:Int))) W:=by
 obtain⟨⟨sl,h1,d,e⟩,g,f⟩:=h;obtain⟨a,n,rfl⟩:=d.isSl;refine⟨_,λi j W=>?_,by simp[go_sem,h1],by simp[go_sem,h1],d,e,λW=>by simp[go_sem]⟩;rcases(show i=0\/i=1 by omega)with rfl|rfl<;>simp[go_sem]
def AZ{w:World}{b off:Nat}{k:Ct}(h:At w b off (dN k)):(Instr.loadAt 35 (.pointer (some ⟨b,off,none⟩))).run Tryz.prog w=.ok (.int .u32 k.spec.num) w:=by
 obtain⟨C,e,f,h1,d⟩:=h.get;have a:=d 0 (.int .u32 k.spec.num) rfl;rw[Nat.add_zero]at a;simp[go_sem,h1,a]
def BM(L:List Ct)(n:Int):Option Nat:=L.findIdx? λk=>decide (k.spec.num=n)
def kP(L:List Ct)(n:Int):Int:=match BM L n with|some i=>i|none=> -1
def y8{n:Int}{i:Nat}(h:BM L n=some i):∃h:i<L.length,L[i].spec.num=n:=by
 unfold BM at h;obtain⟨h1,a,-⟩:=List.findIdx?_eq_some_iff_getElem.1 h;exact⟨h1,by simpa using a⟩
set_option maxRecDepth 10000 in
def ow{n:Int}(h:pz w c F day L)(E:L.length<=100000)(r:K (.int .i64 (kP L n)) w):Ca Tryz.prog 86 #[.pointer (some ⟨c,0,none⟩),.int .u32 n] w K:=by
 obtain⟨sl,t,-,q,B,-,C⟩:=h.ld;apply Rv
 refine dp (λst W=>∃(i:Nat) (x:Value),i<=L.length/\st=(x,.int .i64 i,())/\W=w/\∀j (a:j<L.length),j<i->L[j].spec.num≠n)
  (λst _=>match st.2.1 with| .int _ i=>L.length - i.toNat|_=>0) ⟨0,_,by omega,rfl,rfl,λj a h=>absurd h (Nat.not_lt_zero _)⟩ ?_
 rintro _ W ⟨i,x,H,rfl,rfl,d⟩ D o;unfold J0;intro _;rw[cw];refine ck (t 1 (by omega) _) (ck q (fi (C _) ?_));by_cases f:i<L.length
 ·have l:(i:Int)<(L.length:Int):=by omega
  refine ck (v:=.bool true) (by simp[go_sem,l]<;>first|exact⟨rfl,rfl⟩|exact rfl) ?_;rw[ci,if_pos rfl];rw[cw];obtain⟨b,g,z,m,s,A⟩:=B.item cX f rfl;refine ck (t 1 (by omega) _) (ck q (ck (v:=.pointer (some ⟨b,g+i*27,none⟩)) (w' :=W) (by rw[m];simp[go_sem,f,cC,AI]) ?_));refine ck (v:=.pointer (some ⟨b,g+i*27,none⟩)) (w' :=W) (by simp[go_sem,cC]) (ck (v:=.pointer (some ⟨b,g+i*27,none⟩)) (w' :=W) (by simp[go_sem,cC]) (ck (AZ A) ?_));by_cases e:L[i].spec.num=n
  ·refine ck (v:=.bool true) (w' :=W) (by simp[go_sem,e]) ?_;rw[ci,if_pos rfl]
   have:kP L n=i:=by
    unfold kP BM;rw[(List.findIdx?_eq_some_iff_getElem (i:=i)).2 ⟨f,by simpa using e,λj a=>by simpa using d j (by omega) a⟩]
   rw[<-this];exact r
  ·refine ck (v:=.bool false) (w' :=W) (by simp[go_sem,e]) ?_;rw[ci,if_neg Bool.false_ne_true];refine ck (v:=.int .i64 ((i+1:Nat):Int)) (w' :=W) (by simp[go_sem];rw[cV (by omega) (by omega)]) ?_;refine o _ _ ⟨i+1,_,by omega,rfl,rfl,λj a y=>?_⟩ (by show L.length - (((i+1:Nat):Int)).toNat<L.length - ((i:Int)).toNat;omega);by_cases p:j=i
   ·subst p;exact e
   ·exact d j a (by omega)
 ·obtain rfl:i=L.length:=by omega
  refine ck (v:=.bool false) (by simp[go_sem]<;>first|exact⟨rfl,rfl⟩|exact rfl) ?_;rw[ci,if_neg Bool.false_ne_true]
  have:kP L n= -1:=by
   unfold kP BM
   rw[List.findIdx?_eq_none_iff.2 λk u=>by
    obtain⟨j,a,rfl⟩:=List.getElem_of_mem u;simpa using d j a a]
  rw[<-this];exact r
end
def Bs{s:Sp}(b:s.Fit)(h:s.may=true):0<s.num:=by
 have h1:=sR s;rw[h]at h1;have a:=((Bool.and_eq_true ..).mp h1.symm).1;unfold Sp.pre at a;simp only[Bool.and_eq_true,decide_eq_true_eq]at a;have:=b.1.1;have:=a.1;omega
set_option maxRecDepth 10000 in
set_option maxHeartbeats 1000000 in
def zk{w:World}{K:cm}{sl:Value}{day:Int}{l:List Ct}(h:Rd w 27 sl l.length (l.flatMap dN))(hl:l.length<=100000)(hf:∀k∈l,k.Fit)
  (Y:l.length<=16->kM 0 l=true->∀c F w',pz w' c F day l->cl (λ_=>False) w w' ->(∀b,F b->w.heap.size<=b)->K (.tuple #[.pointer (some ⟨c,0,none⟩),.int .i64 0]) w')
  (I:¬(l.length<=16/\kM 0 l=true)->∀w',cl (λ_=>False) w w' ->K (.tuple #[.pointer none,.int .i64 2]) w'):Ca Tryz.prog 83 #[.int .u32 day,sl] w K:=by
 obtain⟨sa,sc,hsl⟩:=h.isSl;apply QJ;have ln:∀W,(builtin .len #[45] 3 #[false] #[sl]).run Tryz.prog W=.ok (.value (.int .i64 (l.length:Int))) W:=λW=>by rw[hsl];simp[go_sem]
 refine fi (ln _) ?_;refine ck (v:=.bool (decide (16<l.length))) (w' :=w) (by simp[go_sem];omega) ?_;by_cases E:16<l.length
 ·rw[ci,if_pos (by simpa using E)];exact I (λg=>by omega) _ (cl.refl _ _)
 rw[ci,if_neg (by simpa using E)]
 refine dp (λst W=>∃(i:Nat) (last:Int) (x y:Value),i<=l.length/\st=(x,y,.int .i64 i,())/\kM 0 l=kM last (l.drop i)/\(i=0->last=0)/\(∀h:i - 1<l.length,0<i->l[i - 1].spec.num=last)/\cl (λ_=>False) w W)
  (λst _=>match st.2.2.1 with| .int _ i=>l.length - i.toNat|_=>0) ⟨0,0,_,_,by omega,rfl,rfl,λ_=>rfl,λ_ h=>absurd h (Nat.lt_irrefl _),cl.refl _ _⟩ ?_
 rintro _ W ⟨i,last,x,y,hi,rfl,d,hz0,z,T⟩ KN hKN;unfold Ki;intro _;refine fi (ln _) ?_;have t:=h.mod T λ_ _ h=>h;by_cases m:i<l.length
 ·have O:(i:Int)<(l.length:Int):=by omega
  refine ck (v:=.bool true) (by simp[go_sem,O]<;>first|exact⟨rfl,rfl⟩|exact rfl) ?_;rw[ci,if_pos rfl];obtain⟨b,off,cap,hse,hcap,hA⟩:=t.item cX m rfl;have e:=hf l[i] (List.getElem_mem m);have hup0:=d;rw[List.drop_eq_getElem_cons m]at d;obtain⟨k,J⟩:∃k,k=l[i]:=⟨_,rfl⟩
  rw[<-J]at hA e d;refine ck (v:=.pointer (some ⟨b,off+i*27,none⟩)) (w' :=W) (by rw[hse];simp[go_sem,m,cC,AI]) ?_;refine ey (dN k) 26 zV xz (cX k) hA ?_;refine nE _ λo b1 U=>?_;obtain⟨p,hp0⟩:∃p,p=W.heap.size:=⟨_,rfl⟩
  rw[<-hp0]at b1|-;refine wW (k' :=k) b1 λr Q D=>?_;have M2:cl (λ_=>False) W r:=U.on D λy hy=>.inr (by omega);rw[ti]at d;refine cB.at (λst W' =>∃V:Bool,st=(.bool V,())/\cl (λ_=>False) r.drew W' /\((V=false/\(decide (last<k.spec.num)&& (decide (1<=k.st)&& (decide (k.st<=3)&& k.spec.isPrice k.price)))=true)\/(V=true/\(decide (last<k.spec.num)&& (decide (1<=k.st)&& (decide (k.st<=3)&& k.spec.isPrice k.price)))=false))) ?_ ?_
  ·have md:=(cl.refl (λ_=>False) r).drew;have B:sM r.drew p k:=md.hpk Q id;have M:=t.mod (M2.trans md) λ_ _ h=>h;generalize r.drew=w3 at md B M|-;by_cases hi0:i=0
   ·subst hi0;have hl0:last=0:=hz0 rfl;refine cq (v:=.bool false) (λW=>by simp[go_sem]) ?_;rw[ci,if_neg Bool.false_ne_true];refine cq (λW=>(kx p W).1) (eX (dl k.spec) 24 uS sm (cL _) (kz (At.all B)) ?_);refine sZ e.1 λw4 f=>?_;refine cq (v:=.bool (!k.spec.may)) (λW=>by simp[go_sem]) ?_;have q:sM w4 p k:=f.hpk B id;cases a:k.spec.may with
    |false=>
     rw[show(!false)=true from rfl,ci,if_pos rfl];exact⟨_,rfl,f,.inr ⟨rfl,(by simp[Sp.isPrice,a])⟩⟩
    |true=>
    rw[show(!true)=false from rfl,ci,if_neg Bool.false_ne_true];have R:=Bs e.1 a;refine cq (λW=>(kx p W).2.1) (cx (nz q) ?_);refine cq (v:=.bool (decide (k.st<1))) (λW=>by simp[go_sem]) ?_;by_cases H:k.st<1
    ·rw[decide_eq_true H,ci,if_pos rfl];exact⟨_,rfl,f,.inr ⟨rfl,(by rw[decide_eq_false (p:=1<=k.st) (by omega)];simp)⟩⟩
    rw[decide_eq_false H,ci,if_neg Bool.false_ne_true];refine cq (λW=>(kx p W).2.1) (cx (nz q) ?_);refine cq (v:=.bool (decide (3<k.st))) (λW=>by simp[go_sem]) ?_;by_cases N:3<k.st
    ·rw[decide_eq_true N,ci,if_pos rfl];exact⟨_,rfl,f,.inr ⟨rfl,(by rw[decide_eq_false (p:=k.st<=3) (by omega)];simp)⟩⟩
    rw[decide_eq_false N,ci,if_neg Bool.false_ne_true];refine cq (λW=>(kx p W).1) (eX (dl k.spec) 24 uS sm (cL _) (kz (At.all q)) ?_);refine cq (λW=>(kx p W).2.2.1) (cx (vM q) ?_);refine ot e.1 λw5 s=>?_;refine cq (v:=.bool (!k.spec.isPrice k.price)) (λW=>by simp[go_sem]) ?_;cases hpr:k.spec.isPrice k.price with
    |false=>exact⟨_,rfl,f.trans s,.inr ⟨rfl,(by simp)⟩⟩
    |true=>exact⟨_,rfl,f.trans s,.inl ⟨rfl,by rw[decide_eq_true (p:=last<k.spec.num) (by omega),decide_eq_true (p:=1<=k.st) (by omega),decide_eq_true (p:=k.st<=3) (by omega)];rfl⟩⟩
   ·have u:i - 1<l.length:=by omega
    have Z:=z u (by omega);obtain⟨b',j,cap',S,hcap',hA'⟩:=M.item cX u rfl;have hs:IntKind.i64.wrap ((i:Int) - 1)=((i - 1:Nat):Int):=by rw[IntKind.wrap_i64];omega
    refine cq (v:=.bool true) (λW=>by simp[go_sem];omega) ?_;rw[ci,if_pos rfl];refine cq (v:=.int .i64 ((i - 1:Nat):Int)) (λW=>by simp[go_sem,hs]) ?_;refine cq (v:=.pointer (some ⟨b',j+(i - 1)*27,none⟩)) (λW=>by rw[S];simp[go_sem,u,cC,AI]) ?_;refine cq (v:=.pointer (some ⟨b',j+(i - 1)*27,none⟩)) (λW=>by simp[go_sem,cC]) (cq (v:=.pointer (some ⟨b',j+(i - 1)*27,none⟩)) (λW=>by simp[go_sem,cC]) (cx (AZ hA') ?_));refine cq (λW=>(kx p W).1) (cq (λW=>(kx p W).2.2.2) (cx (Eu B) ?_));rw[Z];refine cq (v:=.bool (decide (k.spec.num<=last))) (λW=>by simp[go_sem]) ?_;by_cases n:k.spec.num<=last
    ·rw[decide_eq_true n,ci,if_pos rfl];exact⟨_,rfl,cl.refl _ _,.inr ⟨rfl,(by rw[decide_eq_false (p:=last<k.spec.num) (by omega)];simp)⟩⟩
    rw[decide_eq_false n,ci,if_neg Bool.false_ne_true];refine cq (λW=>(kx p W).1) (eX (dl k.spec) 24 uS sm (cL _) (kz (At.all B)) ?_);refine sZ e.1 λw4 f=>?_;refine cq (v:=.bool (!k.spec.may)) (λW=>by simp[go_sem]) ?_;have q:sM w4 p k:=f.hpk B id;cases a:k.spec.may with
    |false=>
     rw[show(!false)=true from rfl,ci,if_pos rfl];exact⟨_,rfl,f,.inr ⟨rfl,(by simp[Sp.isPrice,a])⟩⟩
    |true=>
    rw[show(!true)=false from rfl,ci,if_neg Bool.false_ne_true];have R:=Bs e.1 a;refine cq (λW=>(kx p W).2.1) (cx (nz q) ?_);refine cq (v:=.bool (decide (k.st<1))) (λW=>by simp[go_sem]) ?_;by_cases H:k.st<1
    ·rw[decide_eq_true H,ci,if_pos rfl];exact⟨_,rfl,f,.inr ⟨rfl,(by rw[decide_eq_false (p:=1<=k.st) (by omega)];simp)⟩⟩
    rw[decide_eq_false H,ci,if_neg Bool.false_ne_true];refine cq (λW=>(kx p W).2.1) (cx (nz q) ?_);refine cq (v:=.bool (decide (3<k.st))) (λW=>by simp[go_sem]) ?_;by_cases N:3<k.st
    ·rw[decide_eq_true N,ci,if_pos rfl];exact⟨_,rfl,f,.inr ⟨rfl,(by rw[decide_eq_false (p:=k.st<=3) (by omega)];simp)⟩⟩
    rw[decide_eq_false N,ci,if_neg Bool.false_ne_true];refine cq (λW=>(kx p W).1) (eX (dl k.spec) 24 uS sm (cL _) (kz (At.all q)) ?_);refine cq (λW=>(kx p W).2.2.1) (cx (vM q) ?_);refine ot e.1 λw5 s=>?_;refine cq (v:=.bool (!k.spec.isPrice k.price)) (λW=>by simp[go_sem]) ?_;cases hpr:k.spec.isPrice k.price with
    |false=>exact⟨_,rfl,f.trans s,.inr ⟨rfl,(by simp)⟩⟩
    |true=>exact⟨_,rfl,f.trans s,.inl ⟨rfl,by rw[decide_eq_true (p:=last<k.spec.num) (by omega),decide_eq_true (p:=1<=k.st) (by omega),decide_eq_true (p:=k.st<=3) (by omega)];rfl⟩⟩
  rintro _ w5 ⟨V,rfl,s,X⟩;unfold mO;intro _;have M5:=((T.trans M2).trans (cl.refl (λ_=>False) r).drew).trans s;rcases X with⟨rfl,g⟩|⟨rfl,g⟩
  ·rw[ci,if_neg Bool.false_ne_true];refine ck (v:=.int .i64 ((i+1:Nat):Int)) (w' :=w5) (by simp[go_sem];rw[cV (by omega) (by omega)]) ?_;refine hKN _ _ ⟨i+1,k.spec.num,_,_,by omega,rfl,?_,λh=>by omega,λ_ _=>?_,M5⟩ (by show l.length - (((i+1:Nat):Int)).toNat<l.length - ((i:Int)).toNat;omega)
   ·rw[d];simp only[Bool.and_eq_true]at g;rw[g.1,g.2.1,g.2.2.1,g.2.2.2];rfl
   ·rw[J];rfl
  ·rw[ci,if_pos rfl];refine I (λP=>?_) _ M5;rw[d]at P;have:=P.2;simp only[Bool.and_eq_true]at this;rw[this.1,this.2.1,this.2.2.1,this.2.2.2.1]at g;cases g
 ·obtain rfl:i=l.length:=by omega
  refine ck (v:=.bool false) (by simp[go_sem]<;>first|exact⟨rfl,rfl⟩|exact rfl) ?_;rw[ci,if_neg Bool.false_ne_true];rw[List.drop_length]at d;refine AF AI (cI (by kernel_rfl:eN Tryz.prog 108 27 208=true)) t (by simp only[List.all_flatMap];exact List.all_eq_true.2 λk _=>qa k) (by omega) λs' o o1 U n1=>?_;obtain⟨C,n,rfl,-⟩:=o1.isSl;obtain⟨c,g⟩:∃c,c=o.heap.size:=⟨_,rfl⟩
  refine ck (v:=.agg #[.int .u32 day,.slice C l.length n]) (w' :=o) (by simp[go_sem]) ?_;refine ck (v:=.pointer (some ⟨c,0,none⟩)) (w' :=o.alloc (.cells #[.int .u32 day,.slice C l.length n] 168)) (by rw[g];rfl) ?_;have D:cl (λ_=>False) o (o.alloc (.cells #[.int .u32 day,.slice C l.length n] 168)):=(cl.refl _ o).alloc _;have Q:hp (o.alloc (.cells #[.int .u32 day,.slice C l.length n] 168)) c=some (.cells #[.int .u32 day,.slice C l.length n] 168 (0,0)):=by rw[g];simp[go_sem]
  generalize o.alloc (.cells #[.int .u32 day,.slice C l.length n] 168)=r at D Q|-;have hs0:=T.size;have hs1:=U.size;refine Y (by omega) d c (λb=>w.heap.size<=b/\b<r.heap.size) r ⟨⟨_,Q,(o1.mod D λ_ _ h=>h).rd,λb A=>?_⟩,⟨by omega,cn Q⟩,λb A=>A.2⟩ ((T.trans U).trans D) λb A=>A.1;have h1:=n1 b (eM.sl A);have h2:=o1.lt (eM.sl A);have h3:=D.size;exact⟨⟨by omega,by omega⟩,by omega⟩
end Go.Proofs
