/- Part of a proof. -/
import Derived.Test.YtgebhcgmckjbbaaGreatP12
set_option linter.all false
namespace Go.Proofs
open Go Go.Vc
attribute [local congr] cq
def C7{l:List UInt8}{most:Nat}{s:Rs}(h:(cw l most s).2.e≠0):(cw l most s).1=0:=by
 unfold cw at h|-;by_cases a:s.e≠0
 ·rw[if_pos a]
 ·rw[if_neg a]at h|-;cases c:oZ (l.drop s.at_) 0 0 with
  |error e=>rfl
  |ok q=>
   obtain⟨n,k⟩:=q;rw[c]at h;simp only at h|-;by_cases b:most<n
   ·rw[if_pos b]
   ·rw[if_neg b]at h;exact absurd (by simpa using a) h
section
attribute [local irreducible] cz dO
def EN(l:List UInt8)(s:Rs):∃t,(eQ l s).2=(cz l iS t).2/\(eQ l s).1.first=(cz l iS t).1:=⟨_,rfl,rfl⟩
end
def JF{l:List UInt8}{s:Rs}(h:(eQ l s).2.e≠0):(eQ l s).1.may=false:=by
 obtain⟨t,h1,a⟩:=EN l s
 have e:(eQ l s).1.first=0:=by
  rw[h1]at h;rw[a];show(((cw l iS t).1:Nat):Int)=0;rw[C7 h];rfl
 unfold Sp.may mf cD;rw[e];simp
section
variable{w:World}{K:cm}{r:Nat}{v:Value}{l:List UInt8}{s:Rs}
def oR{p i:Nat}{C C' :List Value}{y:Int}(h:fg w r v l s)(I:iG w p C)(a:r≠p)(n:∀b,eh v b->b≠p)(L:C[i]? =some (.int .i64 y))(F:C.set i (.int .i64 (cz l iS s).1)=C'){K:World->Prop}{G:Sem Value}
  (q:∀W:World,G.run Tryz.prog W=.ok (.pointer (some ⟨p,i,none⟩)) W)
  (B:∀c,fg c r v l (cz l iS s).2->iG c p C' ->cl (λb=>b=r\/b=p) w c->K c):
  Ca Tryz.prog 75 #[dJ r,.int .u64 9223372036854775807] w λm o=>
  rv Tryz.prog (convert 27 2 m) o λg j=>
  rv Tryz.prog G j λk f=>
  ru Tryz.prog (Instr.storeAt 2 k g) f λd=>K d:=by
 refine fS h (most:=9223372036854775807) (by omega) λH A E=>?_;have nb:=jH l s;have M:=(iP l iS s).1;obtain⟨z,D⟩:∃z,z=cz l iS s:=⟨_,rfl⟩
 have t:(((cw l 9223372036854775807 s).1:Nat):Int)=z.1/\(cw l 9223372036854775807 s).2=z.2:=by rw[D];exact⟨rfl,rfl⟩
 rw[t.1];rw[t.2]at A;rw[<-D]at nb M F B;refine ck (v:=.int .i64 z.1) (w' :=H) (by simp[go_sem];rw[cS (by omega) (by omega)]) ?_;refine ck (q _) ?_;obtain⟨P,N,O,u⟩:=Ni (x:=z.1) (E.hpk I (λe=>a e.symm)) L F;refine dt N ?_;exact B _ (A.mod u a λb J=>n b J) O ((E.mono λ_ _ h=>.inl h).trans (u.mono λ_ _ h=>.inr h))
def CC{p i:Nat}{C C' :List Value}{y:Int}(h:fg w r v l s)(I:iG w p C)(a:r≠p)(n:∀b,eh v b->b≠p)(L:C[i]? =some (.int .u32 y))(F:C.set i (.int .u32 (cz l fF s).1)=C'){K:World->Prop}{G:Sem Value}
  (q:∀W:World,G.run Tryz.prog W=.ok (.pointer (some ⟨p,i,none⟩)) W)
  (B:∀c,fg c r v l (cz l fF s).2->iG c p C' ->cl (λb=>b=r\/b=p) w c->K c):
  Ca Tryz.prog 75 #[dJ r,.int .u64 4294967295] w λm o=>
  rv Tryz.prog (convert 27 35 m) o λg j=>
  rv Tryz.prog G j λk f=>
  ru Tryz.prog (Instr.storeAt 35 k g) f λd=>K d:=by
 refine fS h (most:=4294967295) (by omega) λH A E=>?_;have nb:=gg l s;obtain⟨z,D⟩:∃z,z=cz l fF s:=⟨_,rfl⟩
 have t:(((cw l 4294967295 s).1:Nat):Int)=z.1/\(cw l 4294967295 s).2=z.2:=by rw[D];exact⟨rfl,rfl⟩
 rw[t.1];rw[t.2]at A;rw[<-D]at nb F B;refine ck (v:=.int .u32 z.1) (w' :=H) (by simp[go_sem];rw[IntKind.wrap_u32'];omega) ?_;refine ck (q _) ?_;obtain⟨O,M,N,u⟩:=KP (x:=z.1) (E.hpk I (λe=>a e.symm)) L F;refine dt M ?_;exact B _ (A.mod u a λb J=>n b J) N ((E.mono λ_ _ h=>.inl h).trans (u.mono λ_ _ h=>.inr h))
set_option maxRecDepth 10000 in
set_option maxHeartbeats 4000000 in
def Ie(h:fg w r v l s)
  (hK:∀q,fg q r v l (ir l s).2->cl (λb=>b=r) w q->K (.agg (dl (ir l s).1).toArray) q):Ca Tryz.prog 79 #[dJ r] w K:=by
 apply SS;have hrl:r<w.heap.size:=by obtain⟨⟨vB,n,_⟩,_⟩:=h;exact cn n
 have hvl:∀b,eh v b->b<w.heap.size:=λb n=>h.rd.lt n;refine jI It ?_;rw[qP];obtain⟨z,hz⟩:∃z,z=w.heap.size:=⟨_,rfl⟩
 have m1:cl (λ_=>False) w (w.alloc (.cells (dl ke).toArray eS)):=(cl.refl _ w).alloc _;have b1:iG (w.alloc (.cells (dl ke).toArray eS)) z (dl ke):=by show hp _ _=_;rw[hz];simp[go_sem]
 rw[<-hz];generalize w.alloc (.cells (dl ke).toArray eS)=w1 at m1 b1|-;have r1:=h.mod m1 id λ_ _ h=>h;refine jI It ?_;rw[qP];obtain⟨p,hp0⟩:∃p,p=w1.heap.size:=⟨_,rfl⟩
 have hz1:=cn b1;have m2:cl (λ_=>False) w1 (w1.alloc (.cells (dl ke).toArray eS)):=(cl.refl _ w1).alloc _;have b2:iG (w1.alloc (.cells (dl ke).toArray eS)) p (dl ke):=by show hp _ _=_;rw[hp0];simp[go_sem]
 rw[<-hp0];generalize w1.alloc (.cells (dl ke).toArray eS)=w2 at m2 b2|-;have r2:=r1.mod m2 id λ_ _ h=>h;have z2:=m2.hpk b1 id;have M2:cl (λb=>b=r) w w2:=(m1.trans m2).mono λ_ _ h=>h.elim;have d:r≠p:=by omega
 have a:∀b,eh v b->b≠p:=λb n=>by have:=hvl b n;omega
 have b2' :iG w2 p (rh 0 0 0 0 0 0 (rf [] 0) 0 0 0):=b2;obtain⟨A,hx1⟩:∃A,A=cz l fF s:=⟨_,rfl⟩
 refine CC r2 b2' d a (i:=0) (C' :=rh A.1 0 0 0 0 0 (rf [] 0) 0 0 0) rfl (by rw[hx1];rfl) (λW=>by simp[go_sem]) λw3 r3 b3 m3=>?_;rw[<-hx1]at r3;refine fS r3 (most:=255) (by omega) λP r4 m4=>?_;have b4:=m4.hpk b3 (by omega);have n2:=se l A.2;obtain⟨o,hx2⟩:∃o,o=cz l 255 A.2:=⟨_,rfl⟩
 have e2:(((cw l 255 A.2).1:Nat):Int)=o.1/\(cw l 255 A.2).2=o.2:=by rw[hx2];exact⟨rfl,rfl⟩
 rw[e2.1];rw[e2.2]at r4;rw[<-hx2]at n2;refine ck (v:=.int .u8 o.1) (w' :=P) (by simp[go_sem];rw[IntKind.wrap_u8'];omega) ?_;refine ck (v:=.pointer (some ⟨p,1,none⟩)) (w' :=P) (by simp[go_sem]) ?_;have hg1:(rh A.1 0 0 0 0 0 (rf [] 0) 0 0 0)[1]? =some (.int .u8 0):=rfl;have e4:(Instr.storeAt 5 (.pointer (some ⟨p,1,none⟩)) (.int .u8 o.1)).run Tryz.prog P=.ok () (P.setCell ⟨p,1,none⟩ (.int .u8 o.1)):=by simp[go_sem,b4,hg1]
 refine dt e4 ?_
 have b5:iG (P.setCell ⟨p,1,none⟩ (.int .u8 o.1)) p (rh A.1 o.1 0 0 0 0 (rf [] 0) 0 0 0):=by
  show hp _ _=_;simp[go_sem,b4];rfl
 have m5:cl (λb=>b=p) P (P.setCell ⟨p,1,none⟩ (.int .u8 o.1)):=(cl.refl (λb=>b=p) P).setCell (.inl rfl) _ _;generalize P.setCell ⟨p,1,none⟩ (.int .u8 o.1)=w5 at b5 m5|-;have r5:=r4.mod m5 d λb n=>a b n;have M5:cl (λb=>b=r\/b=p) w2 w5:=(m3.trans (m4.mono λ_ _ h=>.inl h)).trans (m5.mono λ_ _ h=>.inr h);clear r1 r2 r3 r4 b1 b2 b2' b3 b4 m3 m4 m5 e4;obtain⟨y0,hy0⟩:∃y,y=cz l iS o.2:=⟨_,rfl⟩
 refine oR r5 b5 d a (i:=2) (C' :=rh A.1 o.1 y0.1 0 0 0 (rf [] 0) 0 0 0) rfl (by rw[hy0];rfl) (λW=>by simp[go_sem]) λw6 r6 b6 m6=>?_;rw[<-hy0]at r6;obtain⟨y1,hy1⟩:∃y,y=cz l iS y0.2:=⟨_,rfl⟩
 refine oR r6 b6 d a (i:=3) (C' :=rh A.1 o.1 y0.1 y1.1 0 0 (rf [] 0) 0 0 0) rfl (by rw[hy1];rfl) (λW=>by simp[go_sem]) λw7 r7 b7 m7=>?_;rw[<-hy1]at r7;obtain⟨y2,hy2⟩:∃y,y=cz l iS y1.2:=⟨_,rfl⟩
 refine oR r7 b7 d a (i:=4) (C' :=rh A.1 o.1 y0.1 y1.1 y2.1 0 (rf [] 0) 0 0 0) rfl (by rw[hy2];rfl) (λW=>by simp[go_sem]) λw8 r8 b8 m8=>?_;rw[<-hy2]at r8;obtain⟨B,hy3⟩:∃y,y=cz l iS y2.2:=⟨_,rfl⟩
 refine oR r8 b8 d a (i:=5) (C' :=rh A.1 o.1 y0.1 y1.1 y2.1 B.1 (rf [] 0) 0 0 0) rfl (by rw[hy3];rfl) (λW=>by simp[go_sem]) λw9 r9 b9 m9=>?_;rw[<-hy3]at r9;have M9:=(((M5.trans m6).trans m7).trans m8).trans m9;clear r5 r6 r7 r8 b5 b6 b7 b8 m6 m7 m8 m9 M5;obtain⟨G,hG⟩:∃G:List Int->Int->Int->Int->Nat->List Value,G=λu c E f k=>rh A.1 o.1 y0.1 y1.1 y2.1 B.1 (rf u k) c E f:=⟨_,rfl⟩
 have j:∀u c E f k,rh A.1 o.1 y0.1 y1.1 y2.1 B.1 (rf u k) c E f=G u c E f k:=λu c E f k=>by rw[hG]
 rw[j]at b9
 refine dp (λst X=>∃k:Nat,k<=16/\st=(.int .i64 k,())/\fg X r v l (dO l k B.2).2/\iG X p (G (dO l k B.2).1 0 0 0 k)/\cl (λb=>b=r\/b=p) w9 X)
  (λst _=>match st.1 with| .int _ i=>16 - i.toNat|_=>0) ⟨0,by omega,rfl,r9,b9,cl.refl _ _⟩ ?_
 rintro⟨_,_⟩ X ⟨k,N,⟨⟩,rX,bX,mX⟩ KN2 hKN2;unfold Lc;intro _;have D:=mP l k B.2;refine ck (v:=.bool (decide (k<16))) (w' :=X) (by simp[go_sem];omega) ?_;by_cases m:k<16
 ·rw[ci,if_pos (by simpa using m)];refine jO rX λX1 F H=>?_;have hsn:=nG l k B.2;have e7:(di l (dO l k B.2).2).2=(dO l (k+1) B.2).2:=by rw[hsn]
  rw[e7]at F;have R:=H.hpk bX (by omega);refine ck (v:=.pointer (some ⟨p,6,none⟩)) (w' :=X1) (by simp[go_sem]) ?_;have hlt3:¬(16:Int)<=(k:Int):=by omega
  refine ck (v:=.pointer (some ⟨p,6+k,none⟩)) (w' :=X1) (by simp[go_sem,m,hlt3,cE]<;>omega) ?_
  have hgk:(G (dO l k B.2).1 0 0 0 k)[6+k]? =some (.int .i64 0):=by
   rw[<-j,yz (oM D (by omega)) m,Cb D m]
  obtain⟨X2,e8,I,M⟩:=Ni (x:=(di l (dO l k B.2).2).1) R hgk rfl;refine dt e8 ?_;refine ck (MN (by omega) _) ?_;refine hKN2 _ _ ⟨k+1,by omega,rfl,F.mod M d λb n=>a b n,?_,(mX.trans (H.mono λ_ _ h=>.inl h)).trans (M.mono λ_ _ h=>.inr h)⟩ (by show 16 - (k+1)<16 - k;omega);rw[<-j,zh (oM D (by omega)) m,BR D m]at I;rw[hsn,<-j];exact I
 obtain rfl:k=16:=by omega
 rw[ci,if_neg (by simp)];clear hKN2;have J:=oM D (by omega);have hxs:∃u T,(u,T)=dO l 16 B.2:=⟨_,_,rfl⟩
 obtain⟨u,T,hxT⟩:=hxs;rw[<-hxT]at D J bX rX;have MX:=M9.trans mX;have gE:∀c E f k,(G u c E f 16)[22+k]? =([.int .i64 c,.int .u32 E,.int .i64 f]:List Value)[k]? :=λc E f k=>by rw[<-j];exact xT J
 have sE:∀c E f k x,(G u c E f 16).set (22+k) x=[.int .u32 A.1,.int .u8 o.1,.int .i64 y0.1,.int .i64 y1.1,.int .i64 y2.1,.int .i64 B.1]++(rf u 16++([.int .i64 c,.int .u32 E,.int .i64 f]:List Value).set k x):=λc E f k x=>by rw[<-j];exact yS J x
 obtain⟨ya,hya⟩:∃y,y=cz l iS T:=⟨_,rfl⟩
 refine oR rX bX d a (i:=22+0) (C' :=G u ya.1 0 0 16) (gE 0 0 0 0) (by rw[hya];exact(sE 0 0 0 0 _).trans (by rw[<-j];rfl)) (λW=>by simp[go_sem]) λX1 F R H=>?_;rw[<-hya]at F;obtain⟨yb,hyb⟩:∃y,y=cz l fF ya.2:=⟨_,rfl⟩
 refine CC F R d a (i:=22+1) (C' :=G u ya.1 yb.1 0 16) (gE ya.1 0 0 1) (by rw[hyb];exact(sE _ _ _ 1 _).trans (by rw[<-j];rfl)) (λW=>by simp[go_sem]) λX2 rX2 I M=>?_;rw[<-hyb]at rX2;obtain⟨yc,hyc⟩:∃y,y=cz l iS yb.2:=⟨_,rfl⟩
 refine oR rX2 I d a (i:=22+2) (C' :=G u ya.1 yb.1 yc.1 16) (gE ya.1 yb.1 0 2) (by rw[hyc];exact(sE _ _ _ 2 _).trans (by rw[<-j];rfl)) (λW=>by simp[go_sem]) λX6 L O mX6=>?_;rw[<-hyc]at L;have MX6:cl (λb=>b=r\/b=p) w2 X6:=((MX.trans H).trans M).trans mX6;have hs1:=m1.size;have U:cl (λb=>b=r) w X6:=M2.on MX6 λb n=>n.elim .inl λn=>.inr (by omega);have zX6:=MX6.hpk z2 (by omega);clear rX F rX2 bX R I mX H M mX6
 have hsp:(eQ l s).2=yc.2/\G u ya.1 yb.1 yc.1 16=dl (eQ l s).1:=by
  rw[<-j];exact GA (g:=(u,T)) hx1 hx2 hy0 hy1 hy2 hy3 hxT hya hyb hyc
 obtain⟨Z,hZ⟩:∃Z,Z=eQ l s:=⟨_,rfl⟩
 have hzf:Z.1.Fit:=by rw[hZ];exact rN l s
 have Y:=JF (l:=l) (s:=s);rw[<-hZ]at hsp Y;rw[hsp.2]at O;rw[<-hsp.1]at L;have N:=hK;unfold ir at N;rw[<-hZ]at N
 have fin:∀(C:World) (t:Sp) (rs:Rs),fg C r v l rs->cl (λb=>b=r) w C->iG C z (dl ke)->(∀q,fg q r v l rs->cl (λb=>b=r) w q->K (.agg (dl t).toArray) q)->
   fV Tryz.prog (ej eS (.pointer (some ⟨z,0,none⟩)) (.agg (dl t).toArray)) C λw9=>iw Tryz.prog (dm eS (.pointer (some ⟨z,0,none⟩))) w9 λv9=>K v9 w9:=by
  intro C t rs hr hm n N;have hh:C.heap[z]? =some (.cells (dl ke).toArray eS (0,0)):=n;refine iu ry (cJ t) hh (by rw[List.size_toArray,cJ,cJ];omega) (ko _) ?_;have e5:iJ (dl ke).toArray.toList 0 (dl t)=dl t:=iZ (by rw[cJ];simp[cJ]);rw[e5];have m9:cl (λb=>b=z) C (C.setRow z (dl t).toArray):=(cl.refl (λb=>b=z) C).setRow (.inl rfl) _
  have b9:iG (C.setRow z (dl t).toArray) z (dl t):=by
   show(C.setRow z _).heap[z]? =_;rw[dw,if_pos rfl,hh]
  refine eX (dl t) 24 ve ry (cJ _) (At.all b9) ?_;exact N _ (hr.mod m9 (by omega) λb n e=>by have:=hvl b n;omega) (hm.on m9 λb n=>.inr (by omega))
 refine cy.at (λst V=>st=(.bool (!Z.1.may),())/\fg V r v l Z.2/\iG V p (dl Z.1)/\iG V z (dl ke)/\cl (λb=>b=r) w V) ?_ ?_
 ·obtain⟨⟨vB,n,-⟩,-⟩:=id L;simp only[dJ,cr];refine ck (v:=.pointer (some ⟨r,1,none⟩)) (w' :=X6) (by simp[go_sem]) ?_;refine ck (v:=.int .i64 Z.2.e) (w' :=X6) (by simp[go_sem,n]) ?_;by_cases h0:Z.2.e=0
  ·refine ck (v:=.bool false) (w' :=X6) (by simp[go_sem,h0]) ?_;rw[ci,if_neg Bool.false_ne_true];refine eK (dl Z.1) 24 ve ry (cJ _) (At.all O) ?_;refine qR hzf λV Q=>?_;refine ck (v:=.bool (!Z.1.may)) (w' :=V) (by simp[go_sem]) ?_;exact⟨rfl,L.mod Q id λ_ _ h=>h,Q.hpk O id,Q.hpk zX6 id,U.on Q λ_ h=>h.elim⟩
  ·refine ck (v:=.bool true) (w' :=X6) (by simp[go_sem];omega) ?_;rw[ci,if_pos rfl];rw[Y h0];exact⟨rfl,L,O,zX6,U⟩
 rintro⟨_,_⟩ V ⟨⟨⟩,rX7,bX7,zX7,MX7⟩;unfold Kk;intro _;cases S:Z.1.may with
 |false=>
  rw[S]at N;rw[show(!false)=true from rfl,ci,if_pos rfl];refine DA (e:=5) rX7 λC rX8 mX8=>?_;refine mw yG ?_;exact fin C ke _ rX8 (MX7.trans mX8) (mX8.hpk zX7 (by omega)) (by simpa using N)
 |true=>
  rw[S]at N;rw[show(!true)=false from rfl,ci,if_neg Bool.false_ne_true];refine eK (dl Z.1) 24 ve ry (cJ _) (At.all bX7) ?_;exact fin V Z.1 _ rX7 MX7 zX7 (by simpa using N)
end
end Go.Proofs
namespace Go.Proofs
open Go Go.Vc
def fX{α:Type}(f:Rs->α×Rs):Nat->List α->Rs->List α×Rs
 |0,acc,s=>(acc,s)
 |n+1,acc,s=>if s.e≠0 then(acc,s)else fX f n (acc++[(f s).1]) (f s).2
def kO{α:Type}(l:List UInt8)(f:Rs->α×Rs)(most:Nat)(s:Rs):List α×Rs:=fX f (cw l most s).1 [] (cw l most s).2
def nI(l:List UInt8):iN×Rs:=
 let a:=cz l fF ⟨0,0⟩;let b:=cz l qa a.2;let c:=di l b.2;let d:=kO l (jY l) 64 c.2;let e:=kO l (gU l) 16 d.2;let f:=kO l (kd l) 1024 e.2;let g:=kO l (fe l) 3200 f.2;let h:=kO l (fe l) 800 g.2
 (⟨a.1,b.1,c.1,d.1,e.1,f.1,g.1,h.1⟩,h.2)
section
variable{α:Type}{l:List UInt8}{f:Rs->α×Rs}{g:α->List UInt8}
def yy(a:∀s,ie l s (f s).2 (g (f s).1)):∀(n:Nat) (acc:List α) (s:Rs),(fX f n acc s).2.e=0->s.e=0
 |0,acc,s,h=>h
 |n+1,acc,s,h=>by
  unfold fX at h;split at h
  ·exact h
  ·rename_i h1;simpa using h1
def y7(a:∀s,ie l s (f s).2 (g (f s).1)):∀(n:Nat) (acc:List α) (s:Rs),(fX f n acc s).2.e=0->dv l f n acc s=fX f n acc s
 |0,acc,s,h=>rfl
 |n+1,acc,s,h=>by
  have b:=yy a _ _ _ h
  have e:fX f (n+1) acc s=fX f n (acc++[(f s).1]) (f s).2:=by
   show(if s.e≠0 then _ else _)=_;rw[if_neg (by simpa using b)]
  rw[e]at h|-;have h1:=yy a _ _ _ h;unfold dv;rw[if_neg λc=>qZ c h1];exact y7 a n _ _ h
def wH(b:∀s,ie l s (f s).2 (g (f s).1)):∀(n:Nat) (acc:List α) (s:Rs),(dv l f n acc s).2.e=0->fX f n acc s=dv l f n acc s
 |0,acc,s,h=>rfl
 |n+1,acc,s,h=>by
  have c:s.e=0:=(oT b (n+1) acc s).choose_spec.1.ok h
  have e:fX f (n+1) acc s=fX f n (acc++[(f s).1]) (f s).2:=by
   show(if s.e≠0 then _ else _)=_;rw[if_neg (by simpa using c)]
  rw[e];unfold dv at h|-;split at h
  ·rename_i a;exact absurd h (qZ a)
  ·rename_i a
   rw[if_neg a];exact wH b n _ _ h
def nV(a:∀s,ie l s (f s).2 (g (f s).1)){most:Nat}{s:Rs}(h:(kO l f most s).2.e=0):kO l f most s=dG l f most s/\s.e=0:=by
 have e:kO l f most s=dG l f most s:=(y7 a _ _ _ h).symm;rw[e]at h;exact⟨e,(gC a most s).ok h⟩
def lR(a:∀s,ie l s (f s).2 (g (f s).1)){most:Nat}{s:Rs}(h:(dG l f most s).2.e=0):kO l f most s=dG l f most s/\s.e=0:=
 ⟨wH a _ _ _ h,(gC a most s).ok h⟩
end
section
attribute [local irreducible] ir jY gU kd fe dG kO
def Ik(l:List UInt8)(h:(nI l).2.e=0):nI l=dh l:=by
 unfold nI at h|-;unfold dh;simp only at h|-;generalize(di l (cz l qa (cz l fF ⟨0,0⟩).2).2).2=c at h|-;obtain⟨a,h1⟩:=nV (lu l) h;obtain⟨b,j⟩:=nV (lu l) h1;obtain⟨d,m⟩:=nV (tn l) j;obtain⟨e,k⟩:=nV (tA l) m;obtain⟨i,n⟩:=nV (wT l) k;rw[i]at e d b a|-;rw[e]at d b a|-;rw[d]at b a|-;rw[b]at a|-;rw[a]
def Et(l:List UInt8)(h:(dh l).2.e=0):nI l=dh l:=by
 unfold dh at h|-;unfold nI;simp only at h|-;generalize(di l (cz l qa (cz l fF ⟨0,0⟩).2).2).2=c at h|-;obtain⟨b,h1⟩:=lR (lu l) h;obtain⟨m,e⟩:=lR (lu l) h1;obtain⟨d,k⟩:=lR (tn l) e;obtain⟨j,i⟩:=lR (tA l) k;obtain⟨a,n⟩:=lR (wT l) i;rw[a,j,d,m,b]
end
def vU(l:List UInt8):(de l (nI l).2=0↔de l (dh l).2=0)/\(de l (nI l).2=0->nI l=dh l):=by
 have a:∀s:Rs,de l s=0->s.e=0:=λs h=>by
  unfold de at h;split at h
  ·cases h
  ·exact h
 have h1:de l (nI l).2=0->nI l=dh l:=λh=>Ik l (a _ h);refine⟨⟨λh=>by rw[<-h1 h];exact h,λh=>by rw[Et l (a _ h)];exact h⟩,h1⟩
def vO{α:Type}{l:List UInt8}{f:Rs->α×Rs}{g:α->List UInt8}(c:∀s,ie l s (f s).2 (g (f s).1)):∀(n:Nat) (acc:List α) (s:Rs),(dv l f n acc s).2.e=0->∀x∈(dv l f n acc s).1,x∈acc\/∃t,x=(f t).1/\(f t).2.e=0
 |0,acc,s,h,x,a=>.inl a
 |n+1,acc,s,h,x,a=>by
  unfold dv at h a;split at h
  ·rename_i b;exact absurd h (qZ b)
  ·rename_i b
   rw[if_neg b]at a;rcases vO c n _ _ h x a with a|a
   ·rcases List.mem_append.1 a with a|a
    ·exact .inl a
    ·refine .inr ⟨s,List.mem_singleton.1 a,?_⟩;obtain⟨t,h1,-⟩:=oT c n (acc++[(f s).1]) (f s).2;exact h1.ok h
   ·exact .inr a
def MO{l:List UInt8}{t:Rs}(h:(ir l t).2.e=0):(ir l t).1.may=true:=by
 unfold ir at h|-;by_cases a:(eQ l t).1.may
 ·rw[if_pos a];exact a
 ·rw[if_neg a]at h;unfold mq at h;simp only at h;split at h
  ·rename_i h1;exact absurd h h1
  ·cases h
section
attribute [local irreducible] ir cz di
def M0{l:List UInt8}{t:Rs}(h:(gU l t).2.e=0):(gU l t).1.spec.may=true:=by
 unfold gU at h|-;simp only at h|-;exact MO ((eD l 255 _).ok ((iV l _).ok h))
end
section
attribute [local irreducible] ir jY gU kd fe cz di
def Jy{l:List UInt8}(h:de l (dh l).2=0):∀k∈(dh l).1.cts,k.spec.may=true:=by
 have a:(dh l).2.e=0:=by
  unfold de at h;split at h
  ·cases h
  ·exact h
 unfold dh at a|-;simp only at a|-;generalize(di l (cz l qa (cz l fF ⟨0,0⟩).2).2).2=c at a|-;have h1:=(gC (lu l) 800 _).ok a;have d:=(gC (lu l) 3200 _).ok h1;have i:=(gC (tn l) 1024 _).ok d;intro k b;rcases vO (tA l) _ _ _ i k b with j|⟨t,rfl,e⟩
 ·cases j
 ·exact M0 e
end
section
variable{κ ν:Type} [DecidableEq κ]
def Bf{A B:List (κ×ν)}(c:(A.map (·.1)).Nodup)(b:(B.map (·.1)).Nodup)(h:∀k,lk A k=lk B k):A.Perm B:=by
 have nd:∀L:List (κ×ν),(L.map (·.1)).Nodup->L.Nodup:=λL d=>by
  rw[List.Nodup,List.pairwise_map]at d;exact d.imp λa e=>a (by rw[e])
 refine(List.perm_ext_iff_of_nodup (nd A c) (nd B b)).2 λ⟨k,v⟩=>?_;rw[<-HA c,<-HA b,h]
def zo{R:List (κ×ν)}(b:(R.map (·.1)).Nodup){i:Nat}{p:κ×ν}(h:R[i]? =some p):((R.eraseIdx i).map (·.1)).Nodup/\lk R p.1=some p.2/\lk (R.eraseIdx i) p.1=none/\∀k,k≠p.1->lk (R.eraseIdx i) k=lk R k:=by
 have hp:=iy h;have a:((p::R.eraseIdx i).map (·.1)).Nodup:=(hp.map _).nodup_iff.1 b;simp only[List.map_cons,List.nodup_cons]at a;refine⟨a.2,by rw[tB b hp];simp[lk],kY a.1,λk c=>?_⟩;rw[tB b hp];simp[lk,Ne.symm c]
def lY(A R C:List (κ×ν)):Prop:=(R.map (·.1)).Nodup/\∀k,(lk R k).or (lk C k)=lk A k
def lY.step{A R C:List (κ×ν)}(h:lY A R C){i:Nat}{p:κ×ν}(hi:R[i]? =some p):lY A (R.eraseIdx i) (put C p.1 p.2):=by
 obtain⟨f,a⟩:=h;obtain⟨h1,b,d,c⟩:=zo f hi;refine⟨h1,λk=>?_⟩;rw[lB];by_cases e:k=p.1
 ·subst e;rw[d,if_pos rfl,Option.none_or,<-a,b,Option.some_or]
 ·rw[c k e,if_neg (λh=>e h.symm)];exact a k
def lY.done{A C:List (κ×ν)}(h:lY A [] C)(b:(A.map (·.1)).Nodup)(a:(C.map (·.1)).Nodup):C.Perm A:=
 Bf a b λk=>by have:=h.2 k;simpa [lk]using this
end
def dM.empty:dM:=⟨0,[],[]⟩
def dM.empty_ok:dM.empty.Ok where
 fund:=by simp[dM.empty,MF]
 sa:=List.Pairwise.nil
 sp:=List.Pairwise.nil
 len:=by simp[dM.empty]
 acc:=by simp[dM.empty]
 pos:=by simp[dM.empty]
def Am{w:World}{K:cm}(j:∀d l F,iF d l F dM.empty->cl (λ_=>False) w d->(∀b,F b->w.heap.size<=b)->K (dn l) d):Ca Tryz.prog 36 #[] w K:=by
 apply Rb;simp[go_sem];have o:=cT.new (enc:=d9) (ev:=ii) w;refine fm (enc:=d9) (ev:=ii) (x:=0) (v:=⟨0,0,false,false⟩) lP pV o λa k h e=>?_;have n:cl (λ_=>False) w a:=((cl.refl (λ_=>False) w).alloc _).on h λb i=>.inr (by omega);have m:a.heap.size=w.heap.size+1:=by rw[e,World.size_alloc]
 (try simp[go_sem])
 generalize c:(a.alloc (.map #[] 0)).alloc _=g;have f:cl (λ_=>False) a g:=by subst c;exact((cl.refl _ a).alloc _).alloc _
 refine j g (a.heap.size+1) (λb=>b=a.heap.size+1\/b=w.heap.size\/b=a.heap.size) ⟨⟨w.heap.size,a.heap.size,_,[],?_,k.mod f id,?_,?_,List.Perm.refl _,λ_=>Iff.rfl,by omega,by omega,by omega⟩,dM.empty_ok⟩ (n.trans f) λb i=>by omega
 ·subst c;simp[go_sem,m]
 ·subst c;exact(cT.new (enc:=eU) (ev:=lK) a).mod ((cl.refl (λ_=>False) _).alloc _) id
 ·exact List.Perm.refl _
def iY{w:World}{l:Nat}{F:Nat->Prop}{S:dM}{K:cm}(h:iF w l F S)(hK:∀m e F',iF m e F' S->cl (λ_=>False) w m->(∀b,F' b->w.heap.size<=b)->K (dn e) m):Ca Tryz.prog 109 #[dn l] w K:=by
 have h0:=h;obtain⟨⟨m1,m2,A,B,h1,T,Y,h4,h5,h6,h7⟩,hok⟩:=h;apply Pb;refine lH h0 ?_;simp[go_sem];refine Am λw1 e F' q1 Z f1=>?_;obtain⟨⟨k1,k2,A',B',c1,c2,c3,c4,c5,c6,c7⟩,-⟩:=q1;have hk1:w.heap.size<=k1:=f1 k1 ((c6 k1).2 (.inr (.inl rfl)));have hk2:w.heap.size<=k2:=f1 k2 ((c6 k2).2 (.inr (.inr rfl)));have hl' :w.heap.size<=e:=f1 e ((c6 e).2 (.inl rfl));have e1:=Z.keep h1 id;have hlm1:=T.lt;have hlm2:=Y.lt;simp[go_sem,dn,cN e1];refine kN lP (T.mod Z id) λw2 Q n2=>?_;generalize hg:w1.heap.size=N at Q;have hitl:=cn c1;have hc2l:=c2.lt;have hc3l:=c3.lt
 refine jR (λs W=>∃(R C:List (Int×Ac)),s=()/\fN d9 ii W N m1 R/\cT d9 ii W k1 C/\lY A R C/\cl (λb=>b=N\/b=k1) w1 W)
  (λs W=>jw N m1 W) ⟨A,A',rfl,Q,c2.mod n2 id,⟨T.1,λk=>?_⟩,n2.mono λ_ _ h=>h.elim⟩ ?_
 ·have hA' :∀k,lk A' k=dM.empty.getO k:=λk=>iF.lkA c2 c4 k;rw[hA' k,iF.lkA T h4];unfold dM.getO;by_cases M:k=0
  ·simp[M]
  ·simp only[if_neg M];cases S.find k<;>simp[dM.find,dM.empty]
 rintro _ W ⟨R,C,rfl,E,cW,inv,mW⟩ KN hKN;unfold Gz;intro _;refine mR E ?_ ?_
 ·intro M m J hh;subst M;have j:cl (λb=>b=N\/b=k1) w1 m:=mW.trans (J.mono λ_ _ h=>h.elim);have e1' :=j.keep e1 (by have:=cn h1;omega);simp[go_sem,cN e1'];have mF:cl (λ_=>False) w m:=Z.on j λb c=>.inr (by have:=Z.size;omega);refine kN BI (Y.mod mF id) λw4 V n4=>?_;generalize hg4:m.heap.size=q at V;have cA:=((inv.done T.1 cW.1).trans h4)
  have cW4:=(cW.mod J id).mod n4 id
  have hjt:N<q/\k1<q/\k2<q/\e<q:=by
   have:=j.size;have:=E.lt.2;have:=J.size;omega
  have n:hp w4 e=some (.cells #[.map (some k1),.map (some k2)] 201 (0,0)):=n4.keep (j.keep c1 (by omega)) id
  refine jR (λs W=>∃(R C:List ((Int×Int)×Po)),s=()/\fN eU lK W q m2 R/\cT eU lK W k2 C/\lY B R C/\cl (λb=>b=q\/b=k2) w4 W)
   (λs W=>jw q m2 W) ⟨B,B',rfl,V,(c3.mod j (by omega)).mod n4 id,⟨Y.1,λk=>?_⟩,cl.refl _ _⟩ ?_
  ·have hB' :∀k,lk B' k=dM.empty.pos? k:=λk=>iF.lkP c3 c5 k;rw[hB' k];cases lk B k<;>simp[dM.pos?,dM.empty]
  rintro _ W5 ⟨R5,C5,rfl,u,H,t,I⟩ KN5 P;unfold El;intro _;refine mR u ?_ ?_
  ·intro M a d hh'';subst M;simp[go_sem];have g:cl (λb=>b=q\/b=k2) w4 a:=I.trans (d.mono λ_ _ h=>h.elim);refine hK a e F' ⟨⟨k1,k2,C,C5,g.keep n (by omega),cW4.mod g (by omega),H.mod d id,cA,(t.done Y.1 H.1).trans h5,c6,c7⟩,hok⟩ (mF.on ((n4.mono (G:=λb=>b=q\/b=k2) λ_ _ h=>h.elim).trans g) λb c=>.inr (by have:=mF.size;omega)) f1
  ·intro i p U a L f d hsz;simp[go_sem];refine kG f ?_;have r:=(I.on d λb c=>.inl (.inl c)).keep n (by show¬(_\/_);omega);have hlt:=cn r;have y:e≠a.heap.size:=by omega
   have X:e≠a.heap.size+1:=by omega
   simp[go_sem,lK,eU,dn,cN r,y,X];generalize z:World.drew _=w6;have D:cl (λ_=>False) a w6:=by subst z;exact(((cl.refl _ a).alloc _).alloc _).drew
   refine fm (enc:=eU) (ev:=lK) (x:=p.1) (v:=p.2) BI Nq ((H.mod d (by show¬_=_;omega)).mod D id) λw7 hA O hs7=>?_;have o:fN eU lK w7 q m2 (R5.eraseIdx i):=(L.mod D id id).mod O (by omega) (by omega);refine P _ _ ⟨_,_,rfl,o,hA,t.step U,((I.on d λb c=>.inl (.inl c)).on D λ_ h=>h.elim).on O λb c=>.inl (.inr c)⟩ ?_;rw[o.left,u.left,List.length_eraseIdx];have:i<R5.length:=(List.getElem?_eq_some_iff.1 U).1;rw[if_pos this];omega
 ·intro i p U m L f J hsz;simp[go_sem];refine kG f ?_;have n:=(mW.on J λb c=>.inl (.inl c)).keep c1 (by show¬(_\/_);omega);have hlt:=cn n;have y:e≠m.heap.size:=by omega
  simp[go_sem,ii,d9,dn,cN n,y];generalize z:World.drew _=w6;have D:cl (λ_=>False) m w6:=by subst z;exact((cl.refl _ m).alloc _).drew
  refine fm (enc:=d9) (ev:=ii) (x:=p.1) (v:=p.2) lP pV ((cW.mod J (by show¬_=_;omega)).mod D id) λw7 hA O hs7=>?_;have o:fN d9 ii w7 N m1 (R.eraseIdx i):=(L.mod D id id).mod O (by omega) (by omega);refine hKN _ _ ⟨_,_,rfl,o,hA,inv.step U,((mW.on J λb c=>.inl (.inl c)).on D λ_ h=>h.elim).on O λb c=>.inl (.inr c)⟩ ?_;rw[o.left,E.left,List.length_eraseIdx];have:i<R.length:=(List.getElem?_eq_some_iff.1 U).1;rw[if_pos this];omega
end Go.Proofs
namespace Go.Proofs
open Go Go.Vc
attribute [local congr] cq
inductive Pt where
 |v
 |cal
 |led
 |mb
 |md
 |bk (n:Int)
 |bd (n:Int)
 deriving DecidableEq
def eg(v:Nat):Value:=.pointer (some ⟨v,0,none⟩)
def vf(x:Value):Value:=x
abbrev pD:TypeId:=66
def rZ(D:List (Int×Value))(n:Int):Value:=(lk D n).getD cG
structure jf(w:World)(v c l mb md:Nat)(A:List (Int×Nat))(D:List (Int×Value))(fp:Pt->Nat->Prop)(S:dx):Prop where
 blk:hp w v=some (.cells #[dK c,dn l,.map (some mb),.map (some md),.int .u64 S.next] pD (0,0))
 cal:nM w c (fp .cal) S.cal
 led:iF w l (fp .led) S.led
 mbk:cT d9 eY w mb A
 mbd:cT d9 vf w md D
 bk:∀n b,lk A n=some b->eT w b (fp (.bk n)) (S.bk n)
 nbk:∀n,lk A n=none->S.bk n=Bk.empty/\∀x,¬fp (.bk n) x
 bd:∀n,kV w (rZ D n) (S.bd n)
 fv:∀x,fp .v x↔x=v
 fmb:∀x,fp .mb x↔x=mb
 fmd:∀x,fp .md x↔x=md
 fbd:∀n x,fp (.bd n) x↔cv (rZ D n) x
 dj:∀p q x,fp p x->fp q x->p=q
structure gT(w:World)(v c l mb md:Nat)(A:List (Int×Nat))(D:List (Int×Value))(fp:Pt->Nat->Prop)(S:dx):Prop extends jf w v c l mb md A D fp S where
 dom:∀n,(lk A n).isSome=(ek S.cal.l n).isSome
 dod:∀n,(lk D n).isSome=true->(ek S.cal.l n).isSome=true
def kj(w:World)(v:Nat)(F:Nat->Prop)(S:dx):Prop:=∃c l mb md A D fp,gT w v c l mb md A D fp S/\∀x,F x↔∃p,fp p x
def fy(fp:Pt->Nat->Prop):Nat->Prop:=λx=>∃p,fp p x
def ph(fp:Pt->Nat->Prop)(p:Pt)(G:Nat->Prop):Pt->Nat->Prop:=λq=>if q=p then G else fp q
def eG(fp:Pt->Nat->Prop)(p:Pt)(G:Nat->Prop):ph fp p G p=G:=if_pos rfl
def cZ{fp:Pt->Nat->Prop}{p q:Pt}{G:Nat->Prop}(h:q≠p):ph fp p G q=fp q:=if_neg h
section
variable{w w' :World}{v c l mb md:Nat}{A:List (Int×Nat)}{D:List (Int×Value)}{fp:Pt->Nat->Prop}{S:dx}
def gT.q(h:gT w v c l mb md A D fp S):kj w v (fy fp) S:=⟨c,l,mb,md,A,D,fp,h,λ_=>Iff.rfl⟩
def jf.lt(h:jf w v c l mb md A D fp S){p:Pt}{x:Nat}(a:fp p x):x<w.heap.size:=by
 cases p with
 |v=>rw[(h.fv x).1 a];exact cn h.blk
 |cal=>exact h.cal.lt a
 |led=>exact h.led.lt a
 |mb=>rw[(h.fmb x).1 a];exact h.mbk.lt
 |md=>rw[(h.fmd x).1 a];exact h.mbd.lt
 |bk n=>
  cases d:lk A n with
  |none=>exact absurd a ((h.nbk n d).2 x)
  |some b=>exact(h.bk n b d).lt a
 |bd n=>exact(h.bd n).lt ((h.fbd n x).1 a)
def jf.self(h:jf w v c l mb md A D fp S):fp .v v:=(h.fv v).2 rfl
def kj.self{F:Nat->Prop}(h:kj w v F S):F v:=by
 obtain⟨c,l,mb,md,A,D,fp,a,b⟩:=h;exact(b v).2 ⟨.v,a.self⟩
def jf.mod{G:Nat->Prop}(h:jf w v c l mb md A D fp S)(d:cl G w w')(a:∀p x,fp p x->¬G x):jf w' v c l mb md A D fp S where
 blk:=d.hpk h.blk (a .v v h.self)
 cal:=h.cal.mod d (a .cal)
 led:=h.led.mod d (a .led)
 mbk:=h.mbk.mod d (a .mb mb ((h.fmb mb).2 rfl))
 mbd:=h.mbd.mod d (a .md md ((h.fmd md).2 rfl))
 bk n b hl:=(h.bk n b hl).mod d (a (.bk n))
 nbk:=h.nbk
 bd n:=(h.bd n).mod d λx e=>a (.bd n) x ((h.fbd n x).2 e)
 fv:=h.fv
 fmb:=h.fmb
 fmd:=h.fmd
 fbd:=h.fbd
 dj:=h.dj
def gT.mod{G:Nat->Prop}(h:gT w v c l mb md A D fp S)(b:cl G w w')(a:∀p x,fp p x->¬G x):gT w' v c l mb md A D fp S:=⟨h.tojf.mod b a,h.dom,h.dod⟩
def kj.mod{F G:Nat->Prop}(h:kj w v F S)(d:cl G w w')(b:∀x,F x->¬G x):kj w' v F S:=by
 obtain⟨c,l,mb,md,A,D,fp,e,a⟩:=h;exact⟨c,l,mb,md,A,D,fp,e.mod d λp x f=>b x ((a x).2 ⟨p,f⟩),a⟩
def gT.md0(h:gT w v c l mb md A D fp S)(a:cl (λ_=>False) w w'):gT w' v c l mb md A D fp S:=h.mod a λ_ _ _ h=>h
def kj.md0{F:Nat->Prop}(h:kj w v F S)(a:cl (λ_=>False) w w'):kj w' v F S:=h.mod a λ_ _ h=>h
def jf.djU(h:jf w v c l mb md A D fp S){p:Pt}{G:Nat->Prop}(g:∀x,G x->fp p x\/w.heap.size<=x):∀q r x,ph fp p G q x->ph fp p G r x->q=r:=by
 have key:∀q x,q≠p->fp q x->¬G x:=λq x a e f=>by
  rcases g x f with h1|h1
  ·exact a (h.dj _ _ _ e h1)
  ·have:=h.lt e;omega
 intro q r x a d;by_cases h1:q=p
 ·by_cases b:r=p
  ·rw[h1,b]
  ·subst h1;rw[eG]at a;rw[cZ b]at d;exact absurd a (key r x b d)
 ·rw[cZ h1]at a;by_cases b:r=p
  ·subst b;rw[eG]at d;exact absurd d (key q x h1 a)
  ·rw[cZ b]at d;exact h.dj _ _ _ a d
def jf.ap(h:jf w v c l mb md A D fp S){p q:Pt}(a:q≠p):∀x,fp q x->¬fp p x:=λx h1 b=>a (h.dj _ _ _ h1 b)
def gT.setLed(h:gT w v c l mb md A D fp S){L:dM}(a:cl (fp .led) w w')(d:iF w' l (fp .led) L):gT w' v c l mb md A D fp {S with led:=L} where
 blk:=a.hpk h.blk (h.ap (by simp) _ h.self)
 cal:=h.cal.mod a (h.ap (by simp))
 led:=d
 mbk:=h.mbk.mod a (h.ap (by simp) _ ((h.fmb mb).2 rfl))
 mbd:=h.mbd.mod a (h.ap (by simp) _ ((h.fmd md).2 rfl))
 dom:=h.dom
 dod:=h.dod
 bk n b hl:=(h.bk n b hl).mod a (h.ap (by simp))
 nbk:=h.nbk
 bd n:=(h.bd n).mod a λx e=>h.ap (by simp) x ((h.fbd n x).2 e)
 fv:=h.fv
 fmb:=h.fmb
 fmd:=h.fmd
 fbd:=h.fbd
 dj:=h.dj
def gT.setBk(h:gT w v c l mb md A D fp S){n:Int}{b:Nat}{G:Nat->Prop}{B:Bk}(g:lk A n=some b)(f:cl (fp (.bk n)) w w')(i:eT w' b G B)(k:∀x,G x->fp (.bk n) x\/w.heap.size<=x):
  gT w' v c l mb md A D (ph fp (.bk n) G) {S with bk:=fU S.bk n B} where
 blk:=f.hpk h.blk (h.ap (by simp) _ h.self)
 cal:=by rw[cZ (by simp)];exact h.cal.mod f (h.ap (by simp))
 led:=by rw[cZ (by simp)];exact h.led.mod f (h.ap (by simp))
 mbk:=h.mbk.mod f (h.ap (by simp) _ ((h.fmb mb).2 rfl))
 mbd:=h.mbd.mod f (h.ap (by simp) _ ((h.fmd md).2 rfl))
 dom:=h.dom
 dod:=h.dod
 bk m b' hl:=by
  by_cases a:m=n
  ·subst a;rw[g]at hl;cases hl;show eT w' b _ (fU S.bk m B m);rw[eG,dI];exact i
  ·have d:Pt.bk m≠Pt.bk n:=by simpa using a
   show eT w' b' _ (fU S.bk n B m);rw[cZ d,eE _ _ _ a];exact(h.bk m b' hl).mod f (h.ap d)
 nbk m hl:=by
  have a:m≠n:=λe=>by subst e;rw[g]at hl;cases hl
  have d:Pt.bk m≠Pt.bk n:=by simpa using a
  show fU S.bk n B m=_/\_;rw[cZ d,eE _ _ _ a];exact h.nbk m hl
 bd m:=(h.bd m).mod f λx j=>h.ap (by simp) x ((h.fbd m x).2 j)
 fv:=by rw[cZ (by simp)];exact h.fv
 fmb:=by rw[cZ (by simp)];exact h.fmb
 fmd:=by rw[cZ (by simp)];exact h.fmd
 fbd m:=by rw[cZ (by simp)];exact h.fbd m
 dj:=h.djU k
def yL(D:List (Int×Value))(n m:Int)(x:Value):rZ (put D n x) m=if m=n then x else rZ D m:=by
 unfold rZ;rw[lB];by_cases a:m=n
 ·subst a;simp
 ·rw[if_neg λe=>a e.symm,if_neg a]
def jf.setBdG(h:jf w v c l mb md A D fp S){w1:World}{n:Int}{L:List Od}{sl:Value}{E:Nat->Prop}(r:cl E w w1)(t:∀p x,p≠ .bd n->fp p x->¬E x)(g:kV w1 sl L)(q:∀x,cv sl x->fp (.bd n) x\/w.heap.size<=x)
  (j:cT d9 vf w' md (put D n sl))(o:cl (λx=>x=md) w1 w'):jf w' v c l mb md A (put D n sl) (ph fp (.bd n) (cv sl)) {S with bd:=fU S.bd n L}:=by
 have u:=h.lt (p:=.md) ((h.fmd md).2 rfl);have s:=r.size;have i:cl (λx=>E x\/x=md) w w' :=(r.mono λx _ e=>.inl e).on o λx e=>.inl (.inr e)
 have d:∀p,p≠ .bd n->p≠ .md->∀x,fp p x->¬(E x\/x=md):=λp h1 j x e g=>by
  rcases g with g|g
  ·exact t p x h1 e g
  ·exact j (h.dj _ _ _ e ((h.fmd x).2 g))
 exact{
  blk:=i.hpk h.blk (d .v (by simp) (by simp) _ h.self)
  cal:=by rw[cZ (by simp)];exact h.cal.mod i (d .cal (by simp) (by simp))
  led:=by rw[cZ (by simp)];exact h.led.mod i (d .led (by simp) (by simp))
  mbk:=h.mbk.mod i (d .mb (by simp) (by simp) _ ((h.fmb mb).2 rfl))
  mbd:=j
  bk:=λm b k=>by rw[cZ (by simp)];exact(h.bk m b k).mod i (d (.bk m) (by simp) (by simp))
  nbk:=λm k=>by rw[cZ (by simp)];exact h.nbk m k
  bd:=λm=>by
   show kV w' _ (fU S.bd n L m);rw[yL];by_cases a:m=n
   ·subst a;rw[if_pos rfl,dI];refine g.mod o λx e y=>?_;rcases q x e with h1|h1
    ·exact absurd (h.dj _ _ _ h1 ((h.fmd x).2 y)) (by simp)
    ·omega
   ·have f:Pt.bd m≠Pt.bd n:=by simpa using a
    rw[if_neg a,eE _ _ _ a];exact(h.bd m).mod i λx e=>d (.bd m) f (by simp) x ((h.fbd m x).2 e)
  fv:=by rw[cZ (by simp)];exact h.fv
  fmb:=by rw[cZ (by simp)];exact h.fmb
  fmd:=by rw[cZ (by simp)];exact h.fmd
  fbd:=λm x=>by
   rw[yL];by_cases a:m=n
   ·subst a;rw[if_pos rfl,eG]
   ·have f:Pt.bd m≠Pt.bd n:=by simpa using a
    rw[if_neg a,cZ f];exact h.fbd m x
  dj:=h.djU q}
def jf.setBd(h:jf w v c l mb md A D fp S){w1:World}{n:Int}{L:List Od}{sl:Value}(a:cl (fp (.bd n)) w w1)(e:kV w1 sl L)(f:∀x,cv sl x->fp (.bd n) x\/w.heap.size<=x)
  (d:cT d9 vf w' md (put D n sl))(b:cl (λx=>x=md) w1 w'):jf w' v c l mb md A (put D n sl) (ph fp (.bd n) (cv sl)) {S with bd:=fU S.bd n L}:=
 h.setBdG a (λp x hp=>h.ap hp x) e f d b
def gT.setBd(h:gT w v c l mb md A D fp S){w1:World}{n:Int}{L:List Od}{sl:Value}(d:(ek S.cal.l n).isSome=true)(f:cl (fp (.bd n)) w w1)(j:kV w1 sl L)(k:∀x,cv sl x->fp (.bd n) x\/w.heap.size<=x)
  (g:cT d9 vf w' md (put D n sl))(i:cl (λx=>x=md) w1 w'):gT w' v c l mb md A (put D n sl) (ph fp (.bd n) (cv sl)) {S with bd:=fU S.bd n L}:=
 ⟨h.tojf.setBd f j k g i,h.dom,λm a=>by
  by_cases b:m=n
  ·subst b;exact d
  ·rw[lB,if_neg λe=>b e.symm]at a;exact h.dod m a⟩
def jf.addBk(h:jf w v c l mb md A D fp S){w1:World}{n:Int}{b:Nat}{G:Nat->Prop}{B:Bk}(C:lk A n=none)(t:cl (λ_=>False) w w1)(o:eT w1 b G B)(s:∀x,G x->w.heap.size<=x)
  (k:cT d9 eY w' mb (put A n b))(q:cl (λx=>x=mb) w1 w'):jf w' v c l mb md (put A n b) D (ph fp (.bk n) G) {S with bk:=fU S.bk n B}:=by
 have y:=h.lt (p:=.mb) ((h.fmb mb).2 rfl);have u:=t.size;have j:cl (λx=>x=mb) w w' :=(t.mono λ_ _ h=>h.elim).trans q;have d:∀p,p≠ .mb->∀x,fp p x->¬x=mb:=λp k x i o=>k (h.dj _ _ _ i ((h.fmb x).2 o));have z:∀x,G x->¬x=mb:=λx i e=>by have:=s x i;omega
 exact{
  blk:=j.hpk h.blk (d .v (by simp) _ h.self)
  cal:=by rw[cZ (by simp)];exact h.cal.mod j (d .cal (by simp))
  led:=by rw[cZ (by simp)];exact h.led.mod j (d .led (by simp))
  mbk:=k
  mbd:=h.mbd.mod j (d .md (by simp) _ ((h.fmd md).2 rfl))
  bk:=λm r f=>by
   rw[lB]at f;show eT w' r _ (fU S.bk n B m);by_cases a:m=n
   ·subst a;rw[if_pos rfl]at f;cases f;rw[eG,dI];exact o.mod q z
   ·have g:Pt.bk m≠Pt.bk n:=by simpa using a
    rw[if_neg λe=>a e.symm]at f;rw[cZ g,eE _ _ _ a];exact(h.bk m r f).mod j (d (.bk m) (by simp))
  nbk:=λm f=>by
   rw[lB]at f;show fU S.bk n B m=_/\_;by_cases a:m=n
   ·subst a;rw[if_pos rfl]at f;cases f
   ·have g:Pt.bk m≠Pt.bk n:=by simpa using a
    rw[if_neg λe=>a e.symm]at f;rw[cZ g,eE _ _ _ a];exact h.nbk m f
  bd:=λm=>(h.bd m).mod j λx i=>d (.bd m) (by simp) x ((h.fbd m x).2 i)
  fv:=by rw[cZ (by simp)];exact h.fv
  fmb:=by rw[cZ (by simp)];exact h.fmb
  fmd:=by rw[cZ (by simp)];exact h.fmd
  fbd:=λm x=>by rw[cZ (by simp)];exact h.fbd m x
  dj:=h.djU (p:=.bk n) λx i=>.inr (s x i)}
end
end Go.Proofs
namespace Go.Proofs
open Go Go.Vc
def Od.key(o:Od):Int×Int×Bool×Int:=(o.num,o.acct,o.buy,o.price)
def lm{o o' :Od}(h:o.key=o'.key):o.num=o'.num:=congrArg (·.1) h
def tY{o o' :Od}(h:o.key=o'.key):o.acct=o'.acct:=congrArg (·.2.1) h
def I9{o o' :Od}(h:o.key=o'.key):o.buy=o'.buy:=congrArg (·.2.2.1) h
def vP{o o' :Od}(h:o.key=o'.key):o.price=o'.price:=congrArg (·.2.2.2) h
structure qE(l' l:List Od):Prop where
 sub:(l'.map Od.key).Sublist (l.map Od.key)
 left:∀o∈l',1<=o.left/\o.left<=1000000
def fQ{o:Od}(h:o.may=true):1<=o.left/\o.left<=1000000:=Od.left_bd h
def wJ{o o' :Od}(h:o.key=o'.key)(a:o.may=true)(b:1<=o'.left/\o'.left<=1000000):o'.may=true:=by
 unfold Od.may at*;rw[<-lm h,<-tY h,<-vP h];simp only[Bool.and_eq_true]at a|-;exact⟨a.1,decide_eq_true b⟩
def qE.refl{l:List Od}(h:∀o∈l,o.may=true):qE l l:=⟨List.Sublist.refl _,λo a=>fQ (h o a)⟩
def qE.mem{l' l:List Od}(h:qE l' l){o:Od}(b:o∈l'):∃a∈l,a.key=o.key:=by
 have:=h.sub.mem (List.mem_map_of_mem (f:=Od.key) b);obtain⟨a,d,c⟩:=List.mem_map.1 this;exact⟨a,d,c⟩
def B7(l:List Od):l.map (·.num)=(l.map Od.key).map (·.1):=by rw[List.map_map];rfl
def qE.nums{l' l:List Od}(h:qE l' l):(l'.map (·.num)).Sublist (l.map (·.num)):=by
 rw[B7,B7];exact h.sub.map _
def qE.len{l' l:List Od}(h:qE l' l):l'.length<=l.length:=by
 have:=h.sub.length_le
 rwa[List.length_map,List.length_map]at this
structure MI(o:Od)(left:Int)(L:List Od)(x:Int×List Od×List Td×List Int×Int):Prop where
 sub:qE x.2.1 L
 rest:0<=x.1/\x.1<=left
 fill:x.2.2.2.2+x.1=left
 qty:(x.2.2.1.map (·.qty)).sum=x.2.2.2.2
 tr:∀t∈x.2.2.1,1<=t.qty/\t.qty<=1000000/\t.acct≠o.acct/\∃b∈L,b.num=t.num/\b.acct=t.acct/\b.price=t.price/\t.qty<=b.left/\ec o b.price=true
 gone:∀g∈x.2.2.2.1,∃b∈L,b.num=g/\b.acct=o.acct
def wW{o:Od}:∀{L:List Od} {left:Int},0<=left->(∀b∈L,b.may=true)->MI o left L (dY o left L)
 | [],left,l,m=>⟨⟨List.Sublist.refl _,by simp[dY]⟩,by simp[dY];omega,by simp[dY],by simp[dY],by simp[dY],by simp[dY]⟩
 |b::r,left,l,m=>by
  have v:=fQ (m b List.mem_cons_self);have u:∀x∈r,x.may=true:=λx B=>m x (List.mem_cons_of_mem _ B);by_cases h1:left<=0\/ec o b.price=false
  ·have e:dY o left (b::r)=(left,b::r,[],[],0):=by unfold dY;rw[if_pos h1]
   rw[e];exact⟨qE.refl m,⟨l,Int.le_refl _⟩,by simp,by simp,by simp,by simp⟩
  ·have y:ec o b.price=true:=by
    cases h:ec o b.price with
    |true=>rfl
    |false=>exact absurd (.inr h) h1
   by_cases j:b.acct=o.acct
   ·have c:=wW (o:=o) (L:=r) l u
    have e:dY o left (b::r)=((dY o left r).1,(dY o left r).2.1,(dY o left r).2.2.1,b.num::(dY o left r).2.2.2.1,(dY o left r).2.2.2.2):=by
     conv=>lhs;unfold dY
     rw[if_neg h1,if_pos j]
    rw[e];refine⟨⟨c.sub.sub.trans (List.sublist_cons_self _ _),c.sub.left⟩,c.rest,c.fill,c.qty,λt d=>?_,λg k=>?_⟩
    ·obtain⟨s,n,p,f,a,i⟩:=c.tr t d;exact⟨s,n,p,f,List.mem_cons_of_mem _ a,i⟩
    ·rcases List.mem_cons.1 k with rfl|k
     ·exact⟨b,List.mem_cons_self,rfl,j⟩
     ·obtain⟨f,a,i⟩:=c.gone g k;exact⟨f,List.mem_cons_of_mem _ a,i⟩
   ·by_cases w:left<b.left
    ·have e:dY o left (b::r)=(0,{b with left:=b.left - left}::r,[⟨b.price,left,b.num,b.acct⟩],[],left):=by unfold dY;rw[if_neg h1,if_neg j,if_pos w]
     rw[e];refine⟨⟨List.Sublist.refl _,λA q=>?_⟩,⟨Int.le_refl _,l⟩,by simp,by simp,λt d=>?_,by simp⟩
     ·rcases List.mem_cons.1 q with rfl|q
      ·show 1<=b.left - left/\b.left - left<=1000000;omega
      ·exact fQ (u A q)
     ·rw[List.mem_singleton.1 d];exact⟨by show 1<=left;omega,by show left<=1000000;omega,j,b,List.mem_cons_self,rfl,rfl,rfl,by show left<=b.left;omega,y⟩
    ·have c:=wW (o:=o) (L:=r) (left:=left - b.left) (by omega) u
     have e:dY o left (b::r)=((dY o (left - b.left) r).1,(dY o (left - b.left) r).2.1,⟨b.price,b.left,b.num,b.acct⟩::(dY o (left - b.left) r).2.2.1,(dY o (left - b.left) r).2.2.2.1,b.left+(dY o (left - b.left) r).2.2.2.2):=by
      conv=>lhs;unfold dY
      rw[if_neg h1,if_neg j,if_neg w]
     rw[e];have z:=c.rest;have C:=c.fill;refine⟨⟨c.sub.sub.trans (List.sublist_cons_self _ _),c.sub.left⟩,⟨z.1,by show _<=left;omega⟩,by show _+_+_=left;omega,?_,λt d=>?_,λg k=>?_⟩
     ·show(List.map _ (_::_)).sum=_;rw[List.map_cons,List.sum_cons,c.qty]
     ·rcases List.mem_cons.1 d with rfl|d
      ·exact⟨v.1,v.2,j,b,List.mem_cons_self,rfl,rfl,rfl,Int.le_refl _,y⟩
      ·obtain⟨s,n,p,f,a,i⟩:=c.tr t d;exact⟨s,n,p,f,List.mem_cons_of_mem _ a,i⟩
     ·obtain⟨f,a,i⟩:=c.gone g k;exact⟨f,List.mem_cons_of_mem _ a,i⟩
def He(B:Bk):Prop:=∀d,∀o∈B d,o.may=true/\o.buy=d
def kB(buy:Bool)(l:List Od)(o:Od):(jd buy l o).Perm (o::l):=by
 unfold jd;refine List.perm_middle.trans ?_;rw[List.take_append_drop]
def yE{buy:Bool}{l:List Od}{o:Od}(b:o.may=true)(d:o.buy=buy):
  ((jq buy l o).2=l/\(jq buy l o).1≠0)\/((jq buy l o).2.Perm (o::l)/\l.length<100/\(∀x∈l,x.num≠o.num)/\(jq buy l o).2=jd buy l o):=by
 unfold jq;rw[if_neg (by simp[b,d])];by_cases h1:(l.any λx=>decide (x.num=o.num))=true
 ·rw[if_pos h1];exact .inl ⟨rfl,by simp⟩
 ·rw[if_neg h1];by_cases a:100<=l.length
  ·rw[if_pos a];exact .inl ⟨rfl,by simp⟩
  ·rw[if_neg a];refine .inr ⟨kB _ _ _,by omega,λx e c=>h1 ?_,rfl⟩;rw[List.any_eq_true];exact⟨x,e,decide_eq_true c⟩
structure Mn(B:Bk)(o:Od)(x:Bk×Pm):Prop where
 opp:qE (x.1 (!o.buy)) (B !o.buy)
 own:x.1 o.buy=B o.buy\/(0<x.2.left/\x.1 o.buy=jd o.buy (B o.buy) {o with left:=x.2.left}/\(B o.buy).length<100/\∀y∈B o.buy,y.num≠o.num)
 fill:0<=x.2.left/\0<=x.2.filled/\x.2.filled+x.2.left<=o.left
 qty:(x.2.trades.map (·.qty)).sum=x.2.filled
 tr:∀t∈x.2.trades,1<=t.qty/\t.qty<=1000000/\t.acct≠o.acct/\∃b∈B !o.buy,b.num=t.num/\b.acct=t.acct/\b.price=t.price/\t.qty<=b.left/\ec o b.price=true
def Bk.set_ne(B:Bk){d e:Bool}(l:List Od)(h:e≠d):B.set d l e=B e:=if_neg h
def Cw{B:Bk}{o:Od}{rests:Bool}(m:He B)(f:o.may=true):Mn B o (fj B o rests):=by
 have r:=fQ f;have a:=wW (o:=o) (L:=B !o.buy) (left:=o.left) (by omega) λb h=>(m _ b h).1;obtain⟨x,g⟩:∃x,x=dY o o.left (B !o.buy):=⟨_,rfl⟩
 rw[<-g]at a;have n:=a.rest;have p:=a.fill;have q:0<=x.2.2.2.2:=by omega
 have c:o.buy≠ !o.buy:=by cases o.buy<;>simp
 unfold fj;simp only[<-g];by_cases d:rests=true/\0<x.1
 ·rw[if_pos d];have h1:=wJ (o:=o) (o' :={o with left:=x.1}) rfl f (by show 1<=x.1/\x.1<=1000000;omega);refine⟨?_,?_,by show 0<=x.1/\0<=x.2.2.2.2/\x.2.2.2.2+x.1<=o.left;omega,a.qty,a.tr⟩
  ·show qE (Bk.set _ _ _ _) _;rw[Bk.set_other,Bk.set_self];exact a.sub
  ·show Bk.set _ _ _ _=_\/(0<x.1/\Bk.set _ _ _ _=jd _ _ {o with left:=x.1}/\_);rw[Bk.set_self,Bk.set_ne _ _ c];rcases yE (l:=B o.buy) (buy:=o.buy) h1 rfl with⟨e,-⟩|⟨e,k,i,j⟩
   ·exact .inl e
   ·exact .inr ⟨d.2,j,k,i⟩
 ·rw[if_neg d];refine⟨?_,.inl ?_,by show(0:Int)<=0/\0<=x.2.2.2.2/\x.2.2.2.2+0<=o.left;omega,a.qty,a.tr⟩
  ·show qE (Bk.set _ _ _ _) _;rw[Bk.set_self];exact a.sub
  ·show Bk.set _ _ _ _=_;rw[Bk.set_ne _ _ c]
def BU{B:Bk}{o:Od}:o∈B.all↔∃d,o∈B d:=by
 unfold Bk.all;rw[List.mem_append];constructor
 ·rintro(h|h)
  ·exact⟨true,h⟩
  ·exact⟨false,h⟩
 ·rintro⟨d,h⟩;cases d
  ·exact .inr h
  ·exact .inl h
def AX(g:Po->Int)(l:List Po):Int:=(l.map g).sum
def zgq(c:Int)(p:Po):Int:=if p.c=c then p.q else 0
def QN(c:Int)(p:Po):Int:=if p.c=c then p.b else 0
def dM.Zero(S:dM):Prop:=∀c,AX (zgq c) S.held=0/\AX (QN c) S.held=0
def dM.empty_zero:dM.Zero ⟨0,[],[]⟩:=λc=>⟨rfl,rfl⟩
structure AA.Ok(C:AA):Prop where
 len:C.l.length<=16
 day:iC C.day
 ok:∀k∈C.l,k.Ok
 srt:ob C.l
def dx.ords(S:dx)(n:Int):List Od:=(S.bk n).all++S.bd n
def dM.Stands(L:dM)(a:Int):Prop:=∃x,L.find a=some x/\x.kil=false/\x.dfl=false
structure dx.Std(S:dx)(o:Od):Prop where
 may:o.may=true
 fit:o.Fit
 num:o.num<S.next
 acc:S.led.Stands o.acct
structure Bv(S:dx):Prop where
 out:∀n,dg S.cal.l n≠0->S.ords n=[]
 side:∀n d,(S.bk n d).length<=100/\∀o∈S.bk n d,o.buy=d
 std:∀n,∀o∈S.ords n,S.Std o
 nd:∀n,((S.ords n).map (·.num)).Nodup
 apart:∀n m o o',o∈S.ords n->o' ∈S.ords m->o.num=o'.num->n=m
 bdl:∀n,(S.bd n).length<=50
structure SY(C:AA)(L:dM):Prop where
 led:L.Ok
 held:∀p∈L.held,dg C.l p.c=0
 zero:L.Zero
structure dx.Ok(S:dx):Prop where
 cal:S.cal.Ok
 led:SY S.cal S.led
 ord:Bv S
 next:1<=S.next/\S.next<=jx+1
 fnd:S.led.funds<=MF
def kS{S:dx}{n:Int}{d:Bool}{o:Od}(h:o∈S.bk n d):o∈S.ords n:=List.mem_append_left _ (BU.2 ⟨d,h⟩)
def sj{S:dx}{n:Int}{o:Od}(h:o∈S.bd n):o∈S.ords n:=List.mem_append_right _ h
def qk{S:dx}{n:Int}{o:Od}(h:o∈S.ords n):(∃d,o∈S.bk n d)\/o∈S.bd n:=(List.mem_append.1 h).imp BU.1 id
def Bv.bkMay{S:dx}(h:Bv S)(n:Int):He (S.bk n):=λd o a=>⟨(h.std n o (kS a)).may,(h.side n d).2 o a⟩
def Bv.bdMay{S:dx}(h:Bv S)(n:Int):∀o∈S.bd n,o.may=true:=λo a=>(h.std n o (sj a)).may
def pK{a d b e c c' :List Int}(f:d.Sublist a)(g:e.Sublist b)(i:c'.Sublist c)(h:(a++b++c).Nodup):(d++e++c').Nodup:=h.sublist ((f.append g).append i)
def xY(S:dx)(n:Int):(S.ords n).map (·.num)=(S.bk n true).map (·.num)++(S.bk n false).map (·.num)++(S.bd n).map (·.num):=by
 unfold dx.ords Bk.all;rw[List.map_append,List.map_append]
def IX{o o' :Od}(h:o.key=o'.key)(a:o.Fit)(b:1<=o'.left/\o'.left<=1000000):o'.Fit:=by
 unfold Od.Fit at*;rw[<-lm h,<-tY h,<-vP h];exact⟨a.1,a.2.1,a.2.2.1,by constructor<;>omega⟩
def Bv.addBk{S:dx}(h:Bv S){n:Int}{x:Od}{B:Bk}{nx:Int}(I:dg S.cal.l n=0)(P:x.may=true)(N:x.Fit)(D:x.num<nx)(F:S.led.Stands x.acct)(q:∀m,∀o∈S.ords m,o.num≠x.num)
  (opp:qE (B !x.buy) (S.bk n !x.buy))(own:B x.buy=S.bk n x.buy\/((B x.buy).Perm (x::S.bk n x.buy)/\(S.bk n x.buy).length<100))(H:S.next<=nx):Bv {S with bk:=fU S.bk n B,next:=nx}:=by
 have p:=h.bkMay;have v:=h.bdMay
 have i:∀m,∀o∈({S with bk:=fU S.bk n B,next:=nx}:dx).ords m,(∃r∈S.ords m,r.key=o.key/\1<=o.left/\o.left<=1000000)\/(o=x/\m=n):=by
  intro m o k;by_cases c:m=n
  ·subst c;rcases qk k with⟨d,h1⟩|h1
   ·replace h1:o∈fU S.bk m B m d:=h1;rw[dI]at h1;by_cases t:d=x.buy
    ·subst t;rcases own with f|⟨f,-⟩
     ·rw[f]at h1;exact .inl ⟨o,kS h1,rfl,fQ (p m _ o h1).1⟩
     ·rcases List.mem_cons.1 (f.mem_iff.1 h1)with rfl|g
      ·exact .inr ⟨rfl,rfl⟩
      ·exact .inl ⟨o,kS g,rfl,fQ (p m _ o g).1⟩
    ·obtain rfl:d= !x.buy:=by cases d<;>cases D:x.buy<;>simp_all
     obtain⟨r,g,j⟩:=opp.mem h1;exact .inl ⟨r,kS g,j,opp.left o h1⟩
   ·exact .inl ⟨o,sj h1,rfl,fQ (v m o h1)⟩
  ·have:o∈S.ords m:=by
    have e:({S with bk:=fU S.bk n B,next:=nx}:dx).ords m=S.ords m:=by
     show(fU S.bk n B m).all++S.bd m=_;rw[eE _ _ _ c];rfl
    rwa[e]at k
   exact .inl ⟨o,this,rfl,fQ (h.std m o this).may⟩
 have l:∀d,((B d).map (·.num)).Sublist ((S.bk n d).map (·.num))\/(d=x.buy/\((B d).map (·.num)).Perm (x.num::(S.bk n d).map (·.num))):=λd=>by
  by_cases t:d=x.buy
  ·subst t;rcases own with f|⟨f,-⟩
   ·rw[f];exact .inl (List.Sublist.refl _)
   ·exact .inr ⟨rfl,f.map _⟩
  ·obtain rfl:d= !x.buy:=by cases d<;>cases D:x.buy<;>simp_all
   exact .inl opp.nums
 refine⟨λm u=>?_,λm d=>?_,λm o k=>?_,λm=>?_,λO K o M k w y=>?_,h.bdl⟩
 ·have c:m≠n:=λe=>by subst e;exact u I
  show(fU S.bk n B m).all++S.bd m=[]
  rw[eE _ _ _ c];exact h.out m u
 ·show(fU S.bk n B m d).length<=100/\∀o∈fU S.bk n B m d,_;by_cases c:m=n
  ·subst c;rw[dI];by_cases t:d=x.buy
   ·subst t;rcases own with f|⟨f,g⟩
    ·rw[f];exact h.side m _
    ·refine⟨by have:=f.length_eq;rw[List.length_cons]at this;omega,λo k=>?_⟩;rcases List.mem_cons.1 (f.mem_iff.1 k)with rfl|j
     ·rfl
     ·exact(h.side m _).2 o j
   ·obtain rfl:d= !x.buy:=by cases d<;>cases D:x.buy<;>simp_all
    refine⟨Nat.le_trans opp.len (h.side m _).1,λo k=>?_⟩;obtain⟨r,g,j⟩:=opp.mem k;rw[<-I9 j];exact(h.side m _).2 r g
  ·rw[eE _ _ _ c];exact h.side m d
 ·rcases i m o k with⟨r,f,g,j⟩|⟨rfl,rfl⟩
  ·have C:=h.std m r f;exact⟨wJ g C.may j,IX g C.fit j,by rw[<-lm g];exact Int.lt_of_lt_of_le C.num H,by rw[<-tY g];exact C.acc⟩
  ·exact⟨P,N,D,F⟩
 ·by_cases c:m=n
  ·subst c;rw[xY];show(List.map _ (fU S.bk m B m true)++List.map _ (fU S.bk m B m false)++List.map _ (S.bd m)).Nodup;rw[dI];have E:=h.nd m
   have z:x.num ∉ (S.ords m).map (·.num):=λQ=>by
    obtain⟨o,k,y⟩:=List.mem_map.1 Q;exact q m o k y
   rw[xY]at E z;have h1:(x.num::((S.bk m true).map (·.num)++(S.bk m false).map (·.num)++(S.bd m).map (·.num))).Nodup:=List.nodup_cons.2 ⟨z,E⟩;rcases l true with A|⟨L,A⟩
   ·rcases l false with s|⟨J,s⟩
    ·exact pK A s (List.Sublist.refl _) E
    ·have hp:((S.bk m true).map (·.num)++(B false).map (·.num)++(S.bd m).map (·.num)).Perm (x.num::((S.bk m true).map (·.num)++(S.bk m false).map (·.num)++(S.bd m).map (·.num))):=by
      refine((List.Perm.append_left _ s).append_right _).trans ?_;rw[List.append_assoc,List.append_assoc];exact List.perm_middle
     exact pK A (List.Sublist.refl _) (List.Sublist.refl _) (hp.nodup_iff.2 h1)
   ·rcases l false with s|⟨J,s⟩
    ·have hp:((B true).map (·.num)++(S.bk m false).map (·.num)++(S.bd m).map (·.num)).Perm (x.num::((S.bk m true).map (·.num)++(S.bk m false).map (·.num)++(S.bd m).map (·.num))):=
      (A.append_right _).append_right _
     exact pK (List.Sublist.refl _) s (List.Sublist.refl _) (hp.nodup_iff.2 h1)
    ·rw[<-J]at L;cases L
  ·show(((fU S.bk n B m).all++S.bd m).map (·.num)).Nodup;rw[eE _ _ _ c];exact h.nd m
 ·rcases i O o k with⟨a,f,g,-⟩|⟨rfl,rfl⟩
  ·rcases i K M w with⟨b,j,G,-⟩|⟨rfl,rfl⟩
   ·exact h.apart _ _ a b f j (by rw[lm g,lm G];exact y)
   ·exact absurd ((lm g).trans y) (q _ a f)
  ·rcases i K M w with⟨b,j,G,-⟩|⟨rfl,rfl⟩
   ·exact absurd ((lm G).trans y.symm) (q _ b j)
   ·rfl
def Bv.addBd{S:dx}(h:Bv S){n:Int}{x:Od}{nx:Int}(v:dg S.cal.l n=0)(C:x.may=true)(z:x.Fit)(B:x.num<nx)(r:S.led.Stands x.acct)(j:∀m,∀o∈S.ords m,o.num≠x.num)
  (E:(S.bd n).length<50)(t:S.next<=nx):Bv {S with bd:=fU S.bd n (S.bd n++[x]),next:=nx}:=by
 have f:∀m,∀o∈({S with bd:=fU S.bd n (S.bd n++[x]),next:=nx}:dx).ords m,o∈S.ords m\/(o=x/\m=n):=by
  intro m o i;by_cases c:m=n
  ·subst c;rcases qk i with⟨d,h1⟩|h1
   ·exact .inl (kS h1)
   ·replace h1:o∈fU S.bd m (S.bd m++[x]) m:=h1;rw[dI]at h1;rcases List.mem_append.1 h1 with g|g
    ·exact .inl (sj g)
    ·exact .inr ⟨List.mem_singleton.1 g,rfl⟩
  ·left
   have e:({S with bd:=fU S.bd n (S.bd n++[x]),next:=nx}:dx).ords m=S.ords m:=by
    show(S.bk m).all++fU S.bd n _ m=_;rw[eE _ _ _ c];rfl
   rwa[e]at i
 refine⟨λm k=>?_,h.side,λm o i=>?_,λm=>?_,λA w o q i l u=>?_,λm=>?_⟩
 ·have c:m≠n:=λe=>by subst e;exact k v
  show(S.bk m).all++fU S.bd n _ m=[]
  rw[eE _ _ _ c];exact h.out m k
 ·rcases f m o i with g|⟨rfl,rfl⟩
  ·have p:=h.std m o g;exact⟨p.may,p.fit,Int.lt_of_lt_of_le p.num t,p.acc⟩
  ·exact⟨C,z,B,r⟩
 ·by_cases c:m=n
  ·subst c;show(((S.bk m).all++fU S.bd m _ m).map (·.num)).Nodup;rw[dI,<-List.append_assoc,List.map_append,List.nodup_append];refine⟨h.nd m,by simp,λa D b y=>?_⟩;obtain⟨o,i,rfl⟩:=List.mem_map.1 D;rw[List.map_cons,List.map_nil,List.mem_singleton]at y;rw[y];exact j m o i
  ·show(((S.bk m).all++fU S.bd n _ m).map (·.num)).Nodup;rw[eE _ _ _ c];exact h.nd m
 ·rcases f A o i with g|⟨rfl,rfl⟩
  ·rcases f w q l with s|⟨rfl,rfl⟩
   ·exact h.apart _ _ o q g s u
   ·exact absurd u (j _ o g)
  ·rcases f w q l with s|⟨rfl,rfl⟩
   ·exact absurd u.symm (j _ q s)
   ·rfl
 ·show(fU S.bd n _ m).length<=50;by_cases c:m=n
  ·subst c;rw[dI,List.length_append];show(S.bd m).length+1<=50;omega
  ·rw[eE _ _ _ c];exact h.bdl m
def Ep{S:dx}{n:Int}(h:dg S.cal.l n=0):n∈S.nums:=by
 unfold dg at h;unfold dx.nums;cases a:ek S.cal.l n with
 |none=>rw[a]at h;cases h
 |some k=>
  have b:=List.find?_some a;exact List.mem_map.2 ⟨k,uD a,by simpa using b⟩
def oJ{l:List Ct}{n:Int}(h:dg l n=0):∃k,ek l n=some k/\k.st≠3/\k.spec.num=n/\k∈l:=by
 unfold dg at h;cases a:ek l n with
 |none=>rw[a]at h;cases h
 |some k=>
  rw[a]at h;refine⟨k,rfl,λb=>?_,by simpa using List.find?_some a,uD a⟩;simp only at h;rw[if_pos b]at h;cases h
def Fa{o:Od}(h:o.Fit){x:Int}(a:0<=x/\x<=1000000):({o with left:=x}:Od).Fit:=⟨h.1,h.2.1,h.2.2.1,by constructor<;>show _<;>simp only<;>omega⟩
def AU{S:dx}(h:Bv S){n:Int}{o:Od}{rests:Bool}{nx:Int}(d:dg S.cal.l n=0)(e:o.may=true)(g:o.Fit)(i:o.num<nx)(b:S.led.Stands o.acct)(a:∀m,∀y∈S.ords m,y.num≠o.num)(c:S.next<=nx):
  Bv {S with bk:=fU S.bk n (fj (S.bk n) o rests).1,next:=nx}:=by
 have f:=Cw (B:=S.bk n) (o:=o) (rests:=rests) (h.bkMay n) e;have q:=fQ e;rcases f.own with h1|⟨h1,j,k,p⟩
 ·exact h.addBk d e g i b a f.opp (.inl h1) c
 ·have l:=f.fill;refine h.addBk (x:={o with left:=(fj (S.bk n) o rests).2.left}) d (wJ (o:=o) rfl e ⟨h1,?_⟩) (Fa g ?_) i b a f.opp (.inr ⟨?_,k⟩) c
  ·show(fj (S.bk n) o rests).2.left<=1000000;omega
  ·omega
  ·show List.Perm ((fj (S.bk n) o rests).1 o.buy) _;rw[j];exact kB _ _ _
def CB{B:Bk}{o:Od}{k:Int}(h:(cY B o k).1=0):cY B o k=(0,fj B o (decide (k=1\/k=4)))/\o.may=true/\1<=k/\k<=4:=by
 unfold cY at h|-;split at h
 ·cases h
 ·rename_i h1
  rw[if_neg h1];split at h
  ·cases h
  ·rename_i a
   rw[if_neg a];split at h
   ·cases h
   ·rename_i d
    rw[if_neg d];split at h
    ·cases h
    ·rename_i b
     rw[if_neg b];split at h
     ·cases h
     ·rename_i c
      rw[if_neg c];simp only[not_or]at h1;exact⟨rfl,by simpa using h1.1,by omega,by omega⟩
def uF:dx.empty.Ok:=by
 refine⟨⟨by show(0:Nat)<=16;omega,⟨by show(0:Int)<=0;omega,by show(0:Int)<4294967296;omega⟩,λk c=>(by cases c),List.Pairwise.nil⟩,⟨⟨⟨by show(0:Int)<=0;omega,by show(0:Int)<=MF;unfold MF;omega⟩,List.Pairwise.nil,List.Pairwise.nil,by show(0:Nat)<=64;omega,λa e=>(by cases e),λp hp=>(by cases hp)⟩,λp hp=>(by cases hp),dM.empty_zero⟩,
  ⟨λn _=>rfl,λn d=>⟨by show(0:Nat)<=100;omega,λo b=>(by cases b)⟩,λn o b=>(by cases b),λn=>List.nodup_nil,λn m o f b=>(by cases b),λn=>(by show(0:Nat)<=50;omega)⟩,⟨by show(1:Int)<=1;omega,by show(1:Int)<=jx+1;unfold jx;omega⟩,by show(0+(0:Int))<=MF;unfold MF;omega⟩
end Go.Proofs
namespace Go.Proofs
open Go Go.Vc
attribute [local congr] cq
end Go.Proofs
