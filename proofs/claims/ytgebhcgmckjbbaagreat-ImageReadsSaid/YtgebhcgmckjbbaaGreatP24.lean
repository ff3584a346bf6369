/- Part of a proof. -/
import Derived.Test.YtgebhcgmckjbbaaGreatP23
set_option linter.all false
namespace Go.Proofs
open Go Go.Vc
attribute [local congr] cq
def pp(l:List UInt8):Int×Rs:=cz l fF ⟨0,0⟩
def pf(l:List UInt8):Int×Rs:=cz l qa (pp l).2
def mg(l:List UInt8):Int×Rs:=di l (pf l).2
def st3(l:List UInt8):List Ac×Rs:=kO l (jY l) 64 (mg l).2
def st4(l:List UInt8):List Ct×Rs:=kO l (gU l) 16 (st3 l).2
def st5(l:List UInt8):List Po×Rs:=kO l (kd l) 1024 (st4 l).2
def st6(l:List UInt8):List (Int×Od)×Rs:=kO l (fe l) 3200 (st5 l).2
def st7(l:List UInt8):List (Int×Od)×Rs:=kO l (fe l) 800 (st6 l).2
def Co(l:List UInt8):nI l=(⟨(pp l).1,(pf l).1,(mg l).1,(st3 l).1,(st4 l).1,(st5 l).1,(st6 l).1,(st7 l).1⟩,(st7 l).2):=rfl
def Mp(W:World):∃a,(Instr.alloc 112 true (.tuple #[])).run Tryz.prog W=.ok (.pointer (some ⟨W.heap.size,0,none⟩)) a/\Ke a W.heap.size ⟨0,0,0,0⟩/\cl (λ_=>False) W a:=
 ⟨W.alloc (.cells (cL ⟨0,0,0,0⟩).toArray 112),by simp[go_sem,cL],by show hp _ _=_;simp[go_sem],(cl.refl _ W).alloc _⟩
section
attribute [local irreducible] cz di ey ir cw
variable{w0 W:World}{r z q:Nat}{v:Value}{l:List UInt8}{ss:Nat->Value}{K:cm}
set_option maxRecDepth 10000 in
set_option maxHeartbeats 1000000 in
def To(E:∀W ss s Z,kM w0 W r z q v l (st7 l).2 (pp l).1 (pf l).1 (mg l).1 ss (st3 l).1 (st4 l).1 (st5 l).1 (st6 l).1 (st7 l).1->qC (.pointer (some ⟨q,0,none⟩)) (dJ r) s Z v (.pointer (some ⟨z,0,none⟩)) K (.bool false,()) W)
  (h:kM w0 W r z q v l (cw l 800 (st6 l).2).2 (pp l).1 (pf l).1 (mg l).1 ss (st3 l).1 (st4 l).1 (st5 l).1 (st6 l).1 []):
  cO (S:=Value×Unit) (FP (.int .u64 (((cw l 800 (st6 l).2).1:Nat):Int)) (dJ r) (.pointer (some ⟨q,0,none⟩)) v (.pointer (some ⟨z,0,none⟩)) K) (.int .u64 0,()) W:=by
 have Y:(cw l 800 (st6 l).2).1<=800:=dN;have x:fX (fe l) (cw l 800 (st6 l).2).1 [] (cw l 800 (st6 l).2).2=st7 l:=rfl;generalize(cw l 800 (st6 l).2).1=N at Y x|-;generalize(cw l 800 (st6 l).2).2=X at h x
 refine dp (λst p=>∃(i:Nat) (a:Nat->Value) (acc:List (Int×Od)) (t:Rs),i<=N/\st=(.int .u64 i,())/\kM w0 p r z q v l t (pp l).1 (pf l).1 (mg l).1 a (st3 l).1 (st4 l).1 (st5 l).1 (st6 l).1 acc/\fX (fe l) (N - i) acc t=st7 l/\acc.length=i)
  (λst _=>match st.1 with| .int _ i=>N - i.toNat|_=>0) ⟨0,ss,[],X,by omega,rfl,h,x,rfl⟩ ?_
 rintro _ V ⟨i,a,acc,t,hi,rfl,o,I,f⟩ J B;unfold FP;intro _;obtain⟨⟨vB,Q,-⟩,-⟩:=id o.rd;refine cy.at (λst p=>st=(.bool (decide (i<N/\t.e=0)),())/\V=p) ?_ ?_
 ·by_cases d:i<N
  ·refine ck (v:=.bool true) (w' :=V) (by simp[go_sem];omega) ?_;rw[ci,if_pos rfl];simp only[dJ,cr];refine ck (v:=.pointer (some ⟨r,1,none⟩)) (w' :=V) (by simp[go_sem]) ?_;refine ck (v:=.int .i64 t.e) (w' :=V) (by simp[go_sem,Q]) ?_;refine ck (v:=.bool (decide (t.e=0))) (w' :=V) (by by_cases A:t.e=0<;>simp[go_sem,A]) ?_;exact⟨by simp[d],rfl⟩
  ·refine ck (v:=.bool false) (w' :=V) (by simp[go_sem];omega) ?_;rw[ci,if_neg Bool.false_ne_true];exact⟨by simp[d],rfl⟩
 rintro _ p ⟨rfl,rfl⟩;by_cases m:i<N/\t.e=0
 ·rw[decide_eq_true m];unfold qC;intro _;rw[ci,if_pos rfl]
  have D:fX (fe l) (N - (i+1)) (acc++[(fe l t).1]) (fe l t).2=st7 l:=by
   rw[<-I,show N - i=(N - (i+1))+1 by omega];show _=(if t.e≠0 then _ else _)
   rw[if_neg (by simpa using m.2)]
  have go:∀n b,kM w0 n r z q v l (fe l t).2 (pp l).1 (pf l).1 (mg l).1 b (st3 l).1 (st4 l).1 (st5 l).1 (st6 l).1 (acc++[(fe l t).1])->rv Tryz.prog (nE .add 27 true (.int .u64 (i:Int)) (.int .u64 1)) n λv w=>J (v,()) w:=λn b O=>by
   refine ck (v:=.int .u64 ((i+1:Nat):Int)) (w' :=n) (by simp[go_sem];rw[eP (by omega) (by omega)]) ?_;exact B _ _ ⟨i+1,b,_,_,by omega,rfl,O,D,by simp[f]⟩ (by show N - (((i+1:Nat):Int)).toNat<N - ((i:Int)).toNat;omega)
  have T:∀y,Zr w0 r z q a y->y<V.heap.size:=λy U=>o.lt U;have R:r<V.heap.size:=T r (.inl rfl);have md:=(cl.refl (λ_=>False) V).drew;have j:=o.md0 md;generalize V.drew=u at md j|-;refine co (λW=>dX W 7 (by omega)) (cB (j.st.ld 7 (by omega) (by omega)) ?_);refine wv j.rd λw3 L P=>?_;have g:=j.rdr L P;refine⟨g.st.ld 7 (by omega) (by omega),?_⟩;refine Gg (i:=7) (by omega) (by omega) g.st (xv:=tg (fe l t).1) (c:=dB (fe l t).1) rfl rfl rfl (by show acc.length<=_;omega) g.md.size (Tj _ _ _ _ _ (fe l t).1) (Th _ _ _ _ _ _) λb M H G F=>?_;exact go _ _ (g.push H G F)
 ·have e:st7 l=(acc,t):=by
   rw[<-I];cases hn:N - i with
   |zero=>rfl
   |succ k=>
    show(if t.e≠0 then _ else _)=_;rw[if_pos λA=>m ⟨by omega,A⟩]
  have C:kM w0 V r z q v l (st7 l).2 (pp l).1 (pf l).1 (mg l).1 a (st3 l).1 (st4 l).1 (st5 l).1 (st6 l).1 (st7 l).1:=by rw[e];exact o
  rw[decide_eq_false m];exact E V a _ _ C
set_option maxRecDepth 10000 in
set_option maxHeartbeats 1000000 in
def Ts(E:∀W ss s Z,kM w0 W r z q v l (st7 l).2 (pp l).1 (pf l).1 (mg l).1 ss (st3 l).1 (st4 l).1 (st5 l).1 (st6 l).1 (st7 l).1->qC (.pointer (some ⟨q,0,none⟩)) (dJ r) s Z v (.pointer (some ⟨z,0,none⟩)) K (.bool false,()) W)
  (h:kM w0 W r z q v l (cw l 3200 (st5 l).2).2 (pp l).1 (pf l).1 (mg l).1 ss (st3 l).1 (st4 l).1 (st5 l).1 [] []):
  cO (S:=Value×Unit) (EZ (.int .u64 (((cw l 3200 (st5 l).2).1:Nat):Int)) (dJ r) (.pointer (some ⟨q,0,none⟩)) v (.pointer (some ⟨z,0,none⟩)) K) (.int .u64 0,()) W:=by
 have Y:(cw l 3200 (st5 l).2).1<=3200:=dN;have A:fX (fe l) (cw l 3200 (st5 l).2).1 [] (cw l 3200 (st5 l).2).2=st6 l:=rfl;generalize(cw l 3200 (st5 l).2).1=N at Y A|-;generalize(cw l 3200 (st5 l).2).2=X at h A
 refine dp (λst x=>∃(i:Nat) (a:Nat->Value) (acc:List (Int×Od)) (t:Rs),i<=N/\st=(.int .u64 i,())/\kM w0 x r z q v l t (pp l).1 (pf l).1 (mg l).1 a (st3 l).1 (st4 l).1 (st5 l).1 acc []/\fX (fe l) (N - i) acc t=st6 l/\acc.length=i)
  (λst _=>match st.1 with| .int _ i=>N - i.toNat|_=>0) ⟨0,ss,[],X,by omega,rfl,h,A,rfl⟩ ?_
 rintro _ V ⟨i,a,acc,t,hi,rfl,p,L,g⟩ M F;unfold EZ;intro _;obtain⟨⟨vB,Q,-⟩,-⟩:=id p.rd;refine cy.at (λst x=>st=(.bool (decide (i<N/\t.e=0)),())/\V=x) ?_ ?_
 ·by_cases d:i<N
  ·refine ck (v:=.bool true) (w' :=V) (by simp[go_sem];omega) ?_;rw[ci,if_pos rfl];simp only[dJ,cr];refine ck (v:=.pointer (some ⟨r,1,none⟩)) (w' :=V) (by simp[go_sem]) ?_;refine ck (v:=.int .i64 t.e) (w' :=V) (by simp[go_sem,Q]) ?_;refine ck (v:=.bool (decide (t.e=0))) (w' :=V) (by by_cases D:t.e=0<;>simp[go_sem,D]) ?_;exact⟨by simp[d],rfl⟩
  ·refine ck (v:=.bool false) (w' :=V) (by simp[go_sem];omega) ?_;rw[ci,if_neg Bool.false_ne_true];exact⟨by simp[d],rfl⟩
 rintro _ x ⟨rfl,rfl⟩;by_cases n:i<N/\t.e=0
 ·rw[decide_eq_true n];unfold E7;intro _;rw[ci,if_pos rfl]
  have G:fX (fe l) (N - (i+1)) (acc++[(fe l t).1]) (fe l t).2=st6 l:=by
   rw[<-L,show N - i=(N - (i+1))+1 by omega];show _=(if t.e≠0 then _ else _)
   rw[if_neg (by simpa using n.2)]
  have go:∀o b,kM w0 o r z q v l (fe l t).2 (pp l).1 (pf l).1 (mg l).1 b (st3 l).1 (st4 l).1 (st5 l).1 (acc++[(fe l t).1]) []->rv Tryz.prog (nE .add 27 true (.int .u64 (i:Int)) (.int .u64 1)) o λv w=>M (v,()) w:=λo b P=>by
   refine ck (v:=.int .u64 ((i+1:Nat):Int)) (w' :=o) (by simp[go_sem];rw[eP (by omega) (by omega)]) ?_;exact F _ _ ⟨i+1,b,_,_,by omega,rfl,P,G,by simp[g]⟩ (by show N - (((i+1:Nat):Int)).toNat<N - ((i:Int)).toNat;omega)
  have T:∀y,Zr w0 r z q a y->y<V.heap.size:=λy U=>p.lt U;have R:r<V.heap.size:=T r (.inl rfl);have md:=(cl.refl (λ_=>False) V).drew;have m:=p.md0 md;generalize V.drew=u at md m|-;refine co (λW=>dX W 6 (by omega)) (cB (m.st.ld 6 (by omega) (by omega)) ?_);refine wv m.rd λw3 B C=>?_;have j:=m.rdr B C;refine⟨j.st.ld 6 (by omega) (by omega),?_⟩;refine Gg (i:=6) (by omega) (by omega) j.st (xv:=tg (fe l t).1) (c:=dB (fe l t).1) rfl rfl rfl (by show acc.length<=_;omega) j.md.size (Tc _ _ _ _ _ (fe l t).1) (S5 _ _ _ _ _ _) λb O J I H=>?_;exact go _ _ (j.push J I H)
 ·have e:st6 l=(acc,t):=by
   rw[<-L];cases hn:N - i with
   |zero=>rfl
   |succ k=>
    show(if t.e≠0 then _ else _)=_;rw[if_pos λD=>n ⟨by omega,D⟩]
  have f:kM w0 V r z q v l (st6 l).2 (pp l).1 (pf l).1 (mg l).1 a (st3 l).1 (st4 l).1 (st5 l).1 (st6 l).1 []:=by rw[e];exact p
  rw[decide_eq_false n];unfold E7;intro _;rw[ci,if_neg Bool.false_ne_true];refine fS f.rd (most:=800) (by omega) λW3 B C=>?_;exact To E (f.rdr B C)
set_option maxRecDepth 10000 in
set_option maxHeartbeats 1000000 in
def Ty(E:∀W ss s K',kM w0 W r z q v l (st7 l).2 (pp l).1 (pf l).1 (mg l).1 ss (st3 l).1 (st4 l).1 (st5 l).1 (st6 l).1 (st7 l).1->qC (.pointer (some ⟨q,0,none⟩)) (dJ r) s K' v (.pointer (some ⟨z,0,none⟩)) K (.bool false,()) W)
  (h:kM w0 W r z q v l (cw l 1024 (st4 l).2).2 (pp l).1 (pf l).1 (mg l).1 ss (st3 l).1 (st4 l).1 [] [] []):
  cO (S:=Value×Unit) (Hk (.int .u64 (((cw l 1024 (st4 l).2).1:Nat):Int)) (dJ r) (.pointer (some ⟨q,0,none⟩)) v (.pointer (some ⟨z,0,none⟩)) K) (.int .u64 0,()) W:=by
 have hN:(cw l 1024 (st4 l).2).1<=1024:=dN;have P:fX (kd l) (cw l 1024 (st4 l).2).1 [] (cw l 1024 (st4 l).2).2=st5 l:=rfl;generalize(cw l 1024 (st4 l).2).1=N at hN P|-;generalize(cw l 1024 (st4 l).2).2=T0 at h P
 refine dp (λst C=>∃(i:Nat) (a:Nat->Value) (acc:List Po) (t:Rs),i<=N/\st=(.int .u64 i,())/\kM w0 C r z q v l t (pp l).1 (pf l).1 (mg l).1 a (st3 l).1 (st4 l).1 acc [] []/\fX (kd l) (N - i) acc t=st5 l/\acc.length=i)
  (λst _=>match st.1 with| .int _ i=>N - i.toNat|_=>0) ⟨0,ss,[],T0,by omega,rfl,h,P,rfl⟩ ?_
 rintro _ V ⟨i,a,acc,t,hi,rfl,B,Z,m⟩ KN H;unfold Hk;intro _;obtain⟨⟨vB,hb,-⟩,-⟩:=id B.rd;refine cy.at (λst C=>st=(.bool (decide (i<N/\t.e=0)),())/\V=C) ?_ ?_
 ·by_cases g:i<N
  ·refine ck (v:=.bool true) (w' :=V) (by simp[go_sem];omega) ?_;rw[ci,if_pos rfl];simp only[dJ,cr];refine ck (v:=.pointer (some ⟨r,1,none⟩)) (w' :=V) (by simp[go_sem]) ?_;refine ck (v:=.int .i64 t.e) (w' :=V) (by simp[go_sem,hb]) ?_;refine ck (v:=.bool (decide (t.e=0))) (w' :=V) (by by_cases Q:t.e=0<;>simp[go_sem,Q]) ?_;exact⟨by simp[g],rfl⟩
  ·refine ck (v:=.bool false) (w' :=V) (by simp[go_sem];omega) ?_;rw[ci,if_neg Bool.false_ne_true];exact⟨by simp[g],rfl⟩
 rintro _ C ⟨rfl,rfl⟩;by_cases o:i<N/\t.e=0
 ·rw[decide_eq_true o];unfold H9;intro _;rw[ci,if_pos rfl]
  have M:fX (kd l) (N - (i+1)) (acc++[(kd l t).1]) (kd l t).2=st5 l:=by
   rw[<-Z,show N - i=(N - (i+1))+1 by omega];show _=(if t.e≠0 then _ else _)
   rw[if_neg (by simpa using o.2)]
  have go:∀A d,kM w0 A r z q v l (kd l t).2 (pp l).1 (pf l).1 (mg l).1 d (st3 l).1 (st4 l).1 (acc++[(kd l t).1]) [] []->rv Tryz.prog (nE .add 27 true (.int .u64 (i:Int)) (.int .u64 1)) A λv w=>KN (v,()) w:=λA d u=>by
   refine ck (v:=.int .u64 ((i+1:Nat):Int)) (w' :=A) (by simp[go_sem];rw[eP (by omega) (by omega)]) ?_;exact H _ _ ⟨i+1,d,_,_,by omega,rfl,u,M,by simp[m]⟩ (by show N - (((i+1:Nat):Int)).toNat<N - ((i:Int)).toNat;omega)
  have f:∀y,Zr w0 r z q a y->y<V.heap.size:=λy hy=>B.lt hy;have R:r<V.heap.size:=f r (.inl rfl);obtain⟨w2,e2,b2,m2⟩:=Mp V;obtain⟨p,U⟩:∃p,p=V.heap.size:=⟨_,rfl⟩
  rw[<-U]at e2 b2 f R;refine ck e2 ?_;have u:=B.md0 m2;refine oU u.rd λw3 I x=>?_;have h3:=u.rdr I x;have b3:Ke w3 p _:=x.hpk b2 (by omega);refine ck (zn 0 (by omega) p _) ?_;obtain⟨w4,e4,b4,m4⟩:=(y8 b3).1 (cz l fF t).1;refine dt e4 ?_;have h4:=h3.loc f m4;refine oU h4.rd λw5 r5 Y=>?_;have h5:=h4.rdr r5 Y;have b5:Ke w5 p _:=Y.hpk b4 (by omega);refine ck (zn 1 (by omega) p _) ?_;obtain⟨w6,e6,b6,m6⟩:=(y8 b5).2.1 (cz l fF (cz l fF t).2).1;refine dt e6 ?_;have h6:=h5.loc f m6;refine jO h6.rd λw7 r7 X=>?_;have h7:=h6.rdr r7 X;have b7:Ke w7 p _:=X.hpk b6 (by omega);refine ck (zn 2 (by omega) p _) ?_;obtain⟨w8,e8,b8,m8⟩:=(y8 b7).2.2.1 (di l (cz l fF (cz l fF t).2).2).1;refine dt e8 ?_;have h8:=h7.loc f m8;refine jO h8.rd λw9 r9 m9=>?_;have h9:=h8.rdr r9 m9;have b9:Ke w9 p _:=m9.hpk b8 (by omega);refine ck (zn 3 (by omega) p _) ?_;obtain⟨O,L,J,T⟩:=(y8 b9).2.2.2 (di l (di l (cz l fF (cz l fF t).2).2).2).1;refine dt L ?_;have n:=h9.loc f T;have bX:Ke O p (kd l t).1:=J;refine ck (dX _ 5 (by omega)) (ck (n.st.ld 5 (by omega) (by omega)) (ck (rP (b:=⟨0,0,0,0⟩) bX).1 ?_));refine tQ (i:=5) (by omega) (by omega) n.st (c:=cL (kd l t).1) rfl rfl rfl (by show acc.length<=_;omega) n.md.size (S9 _ _ _ _ _ (kd l t).1) (SV _ _ _ _ _ _) λd w11 G F D=>?_;exact go _ _ (n.push G F D)
 ·have e:st5 l=(acc,t):=by
   rw[<-Z];cases hn:N - i with
   |zero=>rfl
   |succ k=>
    show(if t.e≠0 then _ else _)=_;rw[if_pos λQ=>o ⟨by omega,Q⟩]
  have j:kM w0 V r z q v l (st5 l).2 (pp l).1 (pf l).1 (mg l).1 a (st3 l).1 (st4 l).1 (st5 l).1 [] []:=by rw[e];exact B
  rw[decide_eq_false o];unfold H9;intro _;rw[ci,if_neg Bool.false_ne_true];refine fS j.rd (most:=3200) (by omega) λW3 I x=>?_;exact Ts E (j.rdr I x)
set_option maxRecDepth 10000 in
set_option maxHeartbeats 1000000 in
def TB(E:∀W ss s K',kM w0 W r z q v l (st7 l).2 (pp l).1 (pf l).1 (mg l).1 ss (st3 l).1 (st4 l).1 (st5 l).1 (st6 l).1 (st7 l).1->qC (.pointer (some ⟨q,0,none⟩)) (dJ r) s K' v (.pointer (some ⟨z,0,none⟩)) K (.bool false,()) W)
  (h:kM w0 W r z q v l (cw l 16 (st3 l).2).2 (pp l).1 (pf l).1 (mg l).1 ss (st3 l).1 [] [] [] []):
  cO (S:=Value×Unit) (EH (.int .u64 (((cw l 16 (st3 l).2).1:Nat):Int)) (dJ r) (.pointer (some ⟨q,0,none⟩)) v (.pointer (some ⟨z,0,none⟩)) K) (.int .u64 0,()) W:=by
 have hN:(cw l 16 (st3 l).2).1<=16:=dN;have P:fX (gU l) (cw l 16 (st3 l).2).1 [] (cw l 16 (st3 l).2).2=st4 l:=rfl;generalize(cw l 16 (st3 l).2).1=N at hN P|-;generalize(cw l 16 (st3 l).2).2=T0 at h P
 refine dp (λst D=>∃(i:Nat) (a:Nat->Value) (acc:List Ct) (t:Rs),i<=N/\st=(.int .u64 i,())/\kM w0 D r z q v l t (pp l).1 (pf l).1 (mg l).1 a (st3 l).1 acc [] [] []/\fX (gU l) (N - i) acc t=st4 l/\acc.length=i)
  (λst _=>match st.1 with| .int _ i=>N - i.toNat|_=>0) ⟨0,ss,[],T0,by omega,rfl,h,P,rfl⟩ ?_
 rintro _ V ⟨i,a,acc,t,hi,rfl,C,hT,m⟩ KN J;unfold EH;intro _;obtain⟨⟨vB,hb,-⟩,-⟩:=id C.rd;refine cy.at (λst D=>st=(.bool (decide (i<N/\t.e=0)),())/\V=D) ?_ ?_
 ·by_cases g:i<N
  ·refine ck (v:=.bool true) (w' :=V) (by simp[go_sem];omega) ?_;rw[ci,if_pos rfl];simp only[dJ,cr];refine ck (v:=.pointer (some ⟨r,1,none⟩)) (w' :=V) (by simp[go_sem]) ?_;refine ck (v:=.int .i64 t.e) (w' :=V) (by simp[go_sem,hb]) ?_;refine ck (v:=.bool (decide (t.e=0))) (w' :=V) (by by_cases Q:t.e=0<;>simp[go_sem,Q]) ?_;exact⟨by simp[g],rfl⟩
  ·refine ck (v:=.bool false) (w' :=V) (by simp[go_sem];omega) ?_;rw[ci,if_neg Bool.false_ne_true];exact⟨by simp[g],rfl⟩
 rintro _ D ⟨rfl,rfl⟩;by_cases o:i<N/\t.e=0
 ·rw[decide_eq_true o];unfold EB;intro _;rw[ci,if_pos rfl]
  have O:fX (gU l) (N - (i+1)) (acc++[(gU l t).1]) (gU l t).2=st4 l:=by
   rw[<-hT,show N - i=(N - (i+1))+1 by omega];show _=(if t.e≠0 then _ else _)
   rw[if_neg (by simpa using o.2)]
  have go:∀B b,kM w0 B r z q v l (gU l t).2 (pp l).1 (pf l).1 (mg l).1 b (st3 l).1 (acc++[(gU l t).1]) [] [] []->rv Tryz.prog (nE .add 27 true (.int .u64 (i:Int)) (.int .u64 1)) B λv w=>KN (v,()) w:=λB b u=>by
   refine ck (v:=.int .u64 ((i+1:Nat):Int)) (w' :=B) (by simp[go_sem];rw[eP (by omega) (by omega)]) ?_;exact J _ _ ⟨i+1,b,_,_,by omega,rfl,u,O,by simp[m]⟩ (by show N - (((i+1:Nat):Int)).toNat<N - ((i:Int)).toNat;omega)
  have f:∀y,Zr w0 r z q a y->y<V.heap.size:=λy hy=>C.lt hy;have R:r<V.heap.size:=f r (.inl rfl);refine nL V λw2 b2 m2=>?_;obtain⟨p,T⟩:∃p,p=V.heap.size:=⟨_,rfl⟩
  rw[<-T]at b2 f R|-;have u:=C.md0 m2;refine Ie u.rd λw3 L A=>?_;have h3:=u.rdr L A;have b3:tR w3 p mI:=A.hpk b2 (by omega);refine ck (v:=.pointer (some ⟨p,0,none⟩)) (w' :=w3) (by simp[go_sem]) ?_;refine S6 b3 λw4 b4 m4=>?_;have h4:=h3.loc f m4;refine fS h4.rd (most:=255) (by omega) λU r5 Z=>?_;have hn:=se l (ir l t).2;obtain⟨x,n⟩:∃x,x=cz l 255 (ir l t).2:=⟨_,rfl⟩
  have e:(((cw l 255 (ir l t).2).1:Nat):Int)=x.1/\(cw l 255 (ir l t).2).2=x.2:=by rw[n];exact tJ _ _ _
  rw[e.1];rw[e.2]at r5;rw[<-n]at hn;have h5:=h4.rdr r5 Z;have b5:tR U p _:=Z.hpk b4 (by omega);refine ck (v:=.int .u8 x.1) (w' :=U) (by simp[go_sem];rw[IntKind.wrap_u8'];omega) ?_;refine ck (v:=.pointer (some ⟨p,25,none⟩)) (w' :=U) (by simp[go_sem]) ?_;obtain⟨w6,e6,b6,m6⟩:=(JL b5).1 x.1;refine dt e6 ?_;have h6:=h5.loc f m6;refine jO h6.rd λX r7 Y=>?_;have h7:=h6.rdr r7 Y;have b7:tR X p _:=Y.hpk b6 (by omega);refine ck (v:=.pointer (some ⟨p,26,none⟩)) (w' :=X) (by simp[go_sem]) ?_;obtain⟨w8,e8,b8,m8⟩:=(JL b7).2 (di l x.2).1;refine dt e8 ?_;have d:=h7.loc f m8;have F:({({({mI with spec:=(ir l t).1}:Ct)with st:=x.1}:Ct)with price:=(di l x.2).1}:Ct)=(gU l t).1:=by rw[n];rfl
  rw[F]at b8;have M:(di l x.2).2=(gU l t).2:=by rw[n];rfl
  rw[M]at d;refine ck (dX _ 4 (by omega)) (ck (d.st.ld 4 (by omega) (by omega)) (eK (dU (gU l t).1) 26 JC HK (oq _) (At.all b8) ?_));refine tQ (i:=4) (by omega) (by omega) d.st (xv:=.agg (dU (gU l t).1).toArray) (c:=dU (gU l t).1) (by simp[Value.cells]) (cX _) (qx _) (by show acc.length<=_;omega) d.md.size (S7 _ _ _ _ _ (gU l t).1) (Tb _ _ _ _ _ _) λb w11 I H G=>?_;exact go _ _ (d.push I H G)
 ·have e:st4 l=(acc,t):=by
   rw[<-hT];cases hn:N - i with
   |zero=>rfl
   |succ k=>
    show(if t.e≠0 then _ else _)=_;rw[if_pos λQ=>o ⟨by omega,Q⟩]
  have j:kM w0 V r z q v l (st4 l).2 (pp l).1 (pf l).1 (mg l).1 a (st3 l).1 (st4 l).1 [] [] []:=by rw[e];exact C
  rw[decide_eq_false o];unfold EB;intro _;rw[ci,if_neg Bool.false_ne_true];refine fS j.rd (most:=1024) (by omega) λW3 L A=>?_;exact Ty E (j.rdr L A)
set_option maxRecDepth 10000 in
set_option maxHeartbeats 1000000 in
def Tu(E:∀W ss s K',kM w0 W r z q v l (st7 l).2 (pp l).1 (pf l).1 (mg l).1 ss (st3 l).1 (st4 l).1 (st5 l).1 (st6 l).1 (st7 l).1->qC (.pointer (some ⟨q,0,none⟩)) (dJ r) s K' v (.pointer (some ⟨z,0,none⟩)) K (.bool false,()) W)
  (h:kM w0 W r z q v l (cw l 64 (mg l).2).2 (pp l).1 (pf l).1 (mg l).1 ss [] [] [] [] []):
  cO (S:=Value×Unit) (AV (.int .u64 (((cw l 64 (mg l).2).1:Nat):Int)) (dJ r) (.pointer (some ⟨q,0,none⟩)) v (.pointer (some ⟨z,0,none⟩)) K) (.int .u64 0,()) W:=by
 have hN:(cw l 64 (mg l).2).1<=64:=dN;have P:fX (jY l) (cw l 64 (mg l).2).1 [] (cw l 64 (mg l).2).2=st3 l:=rfl;generalize(cw l 64 (mg l).2).1=N at hN P|-;generalize(cw l 64 (mg l).2).2=T0 at h P
 refine dp (λst C=>∃(i:Nat) (a:Nat->Value) (acc:List Ac) (t:Rs),i<=N/\st=(.int .u64 i,())/\kM w0 C r z q v l t (pp l).1 (pf l).1 (mg l).1 a acc [] [] [] []/\fX (jY l) (N - i) acc t=st3 l/\acc.length=i)
  (λst _=>match st.1 with| .int _ i=>N - i.toNat|_=>0) ⟨0,ss,[],T0,by omega,rfl,h,P,rfl⟩ ?_
 rintro _ V ⟨i,a,acc,t,hi,rfl,B,Z,m⟩ KN H;unfold AV;intro _;obtain⟨⟨vB,hb,-⟩,-⟩:=id B.rd;refine cy.at (λst C=>st=(.bool (decide (i<N/\t.e=0)),())/\V=C) ?_ ?_
 ·by_cases g:i<N
  ·refine ck (v:=.bool true) (w' :=V) (by simp[go_sem];omega) ?_;rw[ci,if_pos rfl];simp only[dJ,cr];refine ck (v:=.pointer (some ⟨r,1,none⟩)) (w' :=V) (by simp[go_sem]) ?_;refine ck (v:=.int .i64 t.e) (w' :=V) (by simp[go_sem,hb]) ?_;refine ck (v:=.bool (decide (t.e=0))) (w' :=V) (by by_cases Q:t.e=0<;>simp[go_sem,Q]) ?_;exact⟨by simp[g],rfl⟩
  ·refine ck (v:=.bool false) (w' :=V) (by simp[go_sem];omega) ?_;rw[ci,if_neg Bool.false_ne_true];exact⟨by simp[g],rfl⟩
 rintro _ C ⟨rfl,rfl⟩;by_cases o:i<N/\t.e=0
 ·rw[decide_eq_true o];unfold Fv;intro _;rw[ci,if_pos rfl]
  have M:fX (jY l) (N - (i+1)) (acc++[(jY l t).1]) (jY l t).2=st3 l:=by
   rw[<-Z,show N - i=(N - (i+1))+1 by omega];show _=(if t.e≠0 then _ else _)
   rw[if_neg (by simpa using o.2)]
  have go:∀A d,kM w0 A r z q v l (jY l t).2 (pp l).1 (pf l).1 (mg l).1 d (acc++[(jY l t).1]) [] [] [] []->rv Tryz.prog (nE .add 27 true (.int .u64 (i:Int)) (.int .u64 1)) A λv w=>KN (v,()) w:=λA d u=>by
   refine ck (v:=.int .u64 ((i+1:Nat):Int)) (w' :=A) (by simp[go_sem];rw[eP (by omega) (by omega)]) ?_;exact H _ _ ⟨i+1,d,_,_,by omega,rfl,u,M,by simp[m]⟩ (by show N - (((i+1:Nat):Int)).toNat<N - ((i:Int)).toNat;omega)
  have f:∀y,Zr w0 r z q a y->y<V.heap.size:=λy hy=>B.lt hy;have R:r<V.heap.size:=f r (.inl rfl);obtain⟨w2,e2,b2,m2⟩:=tL V;obtain⟨p,U⟩:∃p,p=V.heap.size:=⟨_,rfl⟩
  rw[<-U]at e2 b2 f R;refine ck e2 ?_;have u:=B.md0 m2;refine oU u.rd λw3 I x=>?_;have h3:=u.rdr I x;have b3:zZ w3 p _:=x.hpk b2 (by omega);refine ck (vj 0 (by omega) p _) ?_;obtain⟨w4,e4,b4,m4⟩:=(yZ b3).1 (cz l fF t).1;refine dt e4 ?_;have h4:=h3.loc f m4;refine jO h4.rd λw5 r5 Y=>?_;have h5:=h4.rdr r5 Y;have b5:zZ w5 p _:=Y.hpk b4 (by omega);refine ck (vj 1 (by omega) p _) ?_;obtain⟨w6,e6,b6,m6⟩:=(yZ b5).2.1 (di l (cz l fF t).2).1;refine dt e6 ?_;have h6:=h5.loc f m6;refine rI h6.rd λw7 r7 X=>?_;have h7:=h6.rdr r7 X;have b7:zZ w7 p _:=X.hpk b6 (by omega);refine ck (vj 2 (by omega) p _) ?_;obtain⟨w8,e8,b8,m8⟩:=(yZ b7).2.2.1 (ey l (di l (cz l fF t).2).2).1;refine dt e8 ?_;have h8:=h7.loc f m8;refine rI h8.rd λw9 r9 m9=>?_;have h9:=h8.rdr r9 m9;have b9:zZ w9 p _:=m9.hpk b8 (by omega);refine ck (vj 3 (by omega) p _) ?_;obtain⟨O,L,J,T⟩:=(yZ b9).2.2.2 (ey l (ey l (di l (cz l fF t).2).2).2).1;refine dt L ?_;have n:=h9.loc f T;have bX:zZ O p (jY l t).1:=J;refine ck (dX _ 3 (by omega)) (ck (n.st.ld 3 (by omega) (by omega)) (ck (tV (b:=⟨0,0,false,false⟩) bX).1 ?_));refine tQ (i:=3) (by omega) (by omega) n.st (c:=cM (jY l t).1) rfl rfl rfl (by show acc.length<=_;omega) n.md.size (Tp _ _ _ _ _ (jY l t).1) (Tx _ _ _ _ _ _) λd w11 G F D=>?_;exact go _ _ (n.push G F D)
 ·have e:st3 l=(acc,t):=by
   rw[<-Z];cases hn:N - i with
   |zero=>rfl
   |succ k=>
    show(if t.e≠0 then _ else _)=_;rw[if_pos λQ=>o ⟨by omega,Q⟩]
  have j:kM w0 V r z q v l (st3 l).2 (pp l).1 (pf l).1 (mg l).1 a (st3 l).1 [] [] [] []:=by rw[e];exact B
  rw[decide_eq_false o];unfold Fv;intro _;rw[ci,if_neg Bool.false_ne_true];refine fS j.rd (most:=16) (by omega) λW3 I x=>?_;exact TB E (j.rdr I x)
end
end Go.Proofs
namespace Go.Proofs
open Go Go.Vc
structure Aa(w:World)(r:Nat)(F:Nat->Prop)(R:dM):Prop where
 out:∃sA sH,hp w r=some (.cells #[.int .i64 R.fund,sA,sH] 269 (0,0))/\Rd w 4 sA R.all.length (R.all.flatMap cM)/\Rd w 4 sH R.held.length (R.held.flatMap cL)/\
  (∀b,eh sA b->F b/\b≠r)/\(∀b,eh sH b->F b/\b≠r)
 self:F r
 lt:∀b,F b->b<w.heap.size
def Aa.mod{F G:Nat->Prop}{w w' :World}{r:Nat}{R:dM}(h:Aa w r F R)(c:cl G w w')(d:∀b,F b->¬G b):Aa w' r F R:=by
 obtain⟨⟨j,k,h1,i,m,e,f⟩,g,l⟩:=h;exact⟨⟨j,k,c.keep h1 (d r g),i.mod c λb a=>d b (e b a).1,m.mod c λb a=>d b (f b a).1,e,f⟩,g,λb a=>Nat.lt_of_lt_of_le (l b a) c.size⟩
def Aa.modF{F:Nat->Prop}{w w' :World}{r:Nat}{R:dM}(h:Aa w r F R)(a:cl (λ_=>False) w w'):Aa w' r F R:=h.mod a λ_ _ h=>h
def js{n lo hi:Int}{w:World}{K:cm}(a:K (.bool (cD n lo hi)) w):Ca Tryz.prog 166 #[.int .i64 n,.int .i64 lo,.int .i64 hi] w K:=by
 apply Nn;simp[go_sem];unfold cD at a;split
 ·rename_i h
  have e:decide (lo<=n/\n<=hi)=decide (n<=hi):=by rw[decide_eq_decide];omega
  rw[<-e];exact a
 ·rename_i h
  have e:decide (lo<=n/\n<=hi)=false:=by rw[decide_eq_false_iff_not];omega
  rw[e]at a;exact a
def wM{α:Type}{l:List α}{p:α->Bool}(h:∀j (a:j<l.length),p l[j]=false):l.find? p=none:=by
 rw[List.find?_eq_none];intro x b;obtain⟨j,a,rfl⟩:=List.getElem_of_mem b;simp[h j a]
def qf{α:Type}{l:List α}{p:α->Bool}{i:Nat}(hi:i<l.length)(h:p l[i]=true)(a:∀j (b:j<l.length),j<i->p l[j]=false):l.find? p=some l[i]:=by
 rw[List.find?_eq_some_iff_getElem];exact⟨h,i,hi,rfl,λj b=>by simp[a j (by omega) b]⟩
def HT{w:World}{r:Nat}{F:Nat->Prop}{R:dM}{K:cm}{n:Int}(h:Aa w r F R)(Y:R.all.length<4294967296)
  (v:∀i:Int,(R.find n=none->i= -1)->(∀a,R.find n=some a->∃k:Nat,i=k/\R.all[k]? =some a)->K (.int .i64 i) w):Ca Tryz.prog 168 #[dn r,.int .u32 n] w K:=by
 obtain⟨⟨Q,V,h1,u,h3,P,S⟩,hs,H⟩:=h;obtain⟨M,B,t⟩:=u.isSl;apply Ob
 refine jR (λs W=>∃(x:Value) (i:Nat),i<=R.all.length/\s=(x,.int .i64 i,())/\W=w/\∀j (f:j<R.all.length),j<i->decide (R.all[j].num=n)=false)
  (λs _=>match s.2.1 with| .int _ i=>R.all.length - i.toNat|_=>0) ⟨_,0,by omega,rfl,rfl,λj f h=>absurd h (Nat.not_lt_zero _)⟩ ?_
 rintro⟨G,_⟩ W ⟨x,i,hi,⟨⟩,rfl,d⟩ N l;unfold Fo;intro _;have E:=jK (i:=i) (by omega);subst t;by_cases c:i<R.all.length
 ·obtain⟨b,q,o,C,e,O,m,z,D,U,X,Z⟩:=Av u c;obtain⟨rfl,-,rfl⟩:M=some ⟨b,q,none⟩/\True/\B=o:=by injection m with J T L;exact⟨J,trivial,L⟩
  simp[-Int.natCast_add,go_sem,dn,cN h1,c,z,D];by_cases e:R.all[i].num=n
  ·simp[e];refine v i (λy=>?_) λa g=>⟨i,rfl,?_⟩
   ·rw[show R.find n=R.all.find? _ from rfl,qf c (by simpa using e) d]at y;cases y
   ·rw[show R.find n=R.all.find? _ from rfl,qf c (by simpa using e) d]at g;rw[List.getElem?_eq_getElem c];exact g
  ·simp[-Int.natCast_add,e,E];refine l _ _ ⟨G,i+1,by omega,rfl,rfl,λj f A=>?_⟩ (by simp;omega);by_cases p:j=i
   ·subst p;simpa using e
   ·exact d j f (by omega)
 ·obtain rfl:i=R.all.length:=by omega
  simp[go_sem,dn,cN h1];have I:R.find n=none:=wM λj f=>d j f f;refine v _ (λ_=>rfl) λa g=>?_;rw[I]at g;cases g
def BZ{w:World}{r:Nat}{F:Nat->Prop}{R:dM}{K:cm}{n:Int}(h:Aa w r F R)(P:R.all.length<4294967296)
  (d:∀y,cl (λ_=>False) w y->K (.tuple #[ii (R.getV n).1,.int .i64 (R.getV n).2]) y):Ca Tryz.prog 170 #[dn r,.int .u32 n] w K:=by
 have J:=h;obtain⟨⟨X,sH,h1,z,h3,W,Y⟩,hs,Q⟩:=h;obtain⟨U,O,u⟩:=z.isSl;subst u;apply NG;have H:=cn h1;simp[go_sem];generalize j:World.alloc _ _=x;have f:cl (λ_=>False) w x:=by subst j;exact(cl.refl _ w).alloc _
 have c:hp x w.heap.size=some (.cells #[.int .u32 0,.int .i64 0,.bool false,.bool false] 92 (0,0)):=by subst j;simp[go_sem]
 have E:=f.keep h1 id;have L:=z.mod f λ_ _ h=>h;have N:=J.modF f;unfold dM.getV dM.getO at d;by_cases m:n=0
 ·simp only[if_pos m]at d;simp[m,dn,go_sem,cN E,cN c];refine d _ ?_;exact(((f.setCell (.inr (Nat.le_refl _)) _ _).setCell (.inr (Nat.le_refl _)) _ _).setCell (.inr (Nat.le_refl _)) _ _).setCell (.inr (Nat.le_refl _)) _ _
 ·simp only[if_neg m]at d;simp[m];refine HT N P λi v o=>?_;cases l:R.find n with
  |none=>
   rw[l]at d;obtain rfl:=v l;simp[go_sem,cN c];refine d _ ?_;exact(((f.setCell (.inr (Nat.le_refl _)) _ _).setCell (.inr (Nat.le_refl _)) _ _).setCell (.inr (Nat.le_refl _)) _ _).setCell (.inr (Nat.le_refl _)) _ _
  |some a=>
   rw[l]at d;obtain⟨k,rfl,M⟩:=o a l;obtain⟨g,p⟩:=List.getElem?_eq_some_iff.1 M;obtain⟨b,t,s,C,e,V,q,I,A,B,D,G⟩:=Av L g;obtain⟨rfl,-,rfl⟩:U=some ⟨b,t,none⟩/\True/\O=s:=by injection q with S Z T;exact⟨S,trivial,T⟩
   rw[p]at A B D G;simp[go_sem,dn,cN E,g,I,A,B,D,G,cN c];refine d _ ?_;exact(((f.setCell (.inr (Nat.le_refl _)) _ _).setCell (.inr (Nat.le_refl _)) _ _).setCell (.inr (Nat.le_refl _)) _ _).setCell (.inr (Nat.le_refl _)) _ _
def x7{w:World}{r:Nat}{F:Nat->Prop}{R:dM}{K:cm}{c:Int}(h:Aa w r F R)(hl:R.held.length<4294967200)
  (X:∀j v,d7 j 112 4 v (R.holders c).length ((R.holders c).flatMap cL)->(∀b,cv v b->w.heap.size<=b)->cl (λ_=>False) w j->K v j):Ca Tryz.prog 169 #[dn r,.int .u32 c] w K:=by
 obtain⟨⟨sA,sH,h1,h2,T,h4,h5⟩,L,hFl⟩:=h;obtain⟨aH,cH,y⟩:=T.isSl;subst y;apply Qw
 refine jR (λs W=>∃(v:Value) (i:Nat),i<=R.held.length/\s=(v,.int .i64 i,())/\d7 W 112 4 v ((R.held.take i).filter λp=>decide (p.c=c)).length (((R.held.take i).filter λp=>decide (p.c=c)).flatMap cL)/\
   cl (λ_=>False) w W/\∀b,cv v b->w.heap.size<=b)
  (λs _=>match s.2.1 with| .int _ i=>R.held.length - i.toNat|_=>0) ⟨_,0,by omega,rfl,(show d7 w _ 4 (.slice none 0 0) 0 []from d7.nil ..),cl.refl _ _,λb n=>by cases n⟩ ?_
 rintro⟨q,_⟩ W ⟨v,i,hi,⟨⟩,u,l,t⟩ KN A;have o:=l.keep h1 id;have g3:=T.mod l λ_ _ h=>h;have Y:=jK (i:=i) (by omega);have Z:((R.held.take i).filter λp=>decide (p.c=c)).length<=R.held.length:=Nat.le_trans (List.length_filter_le ..) (by rw[List.length_take];omega);unfold HM;intro _;by_cases a:i<R.held.length
 ·obtain⟨b,H,E,C,e,fz,D,N,O,P,Q,S⟩:=BC g3 a;obtain⟨rfl,-,rfl⟩:aH=some ⟨b,H,none⟩/\True/\cH=E:=by injection D with e1 e2 e3;exact⟨e1,trivial,e3⟩
  have m:R.held.take (i+1)=R.held.take i++[R.held[i]]:=List.take_succ_eq_append_getElem a;simp[-Int.natCast_add,go_sem,dn,cN o,a]
  let Je:(Value×Unit)->World->Prop:=λs M=>∃f:Value,s=(f,())/\d7 M 112 4 f ((R.held.take (i+1)).filter λp=>decide (p.c=c)).length (((R.held.take (i+1)).filter λp=>decide (p.c=c)).flatMap cL)/\
   cl (λ_=>False) w M/\∀b,cv f b->w.heap.size<=b
  refine cy.at Je ?_ ?_
  ·by_cases e:R.held[i].c=c
   ·have hx:R.held[i].c=c:=e;simp[-Int.natCast_add,go_sem,cN o,a,N,O,P,Q,S,e]
    have g:∀(K:cm),(∀f j,d7 j 112 4 f (((R.held.take i).filter λp=>decide (p.c=c))++[R.held[i]]).length ((((R.held.take i).filter λp=>decide (p.c=c))++[R.held[i]]).flatMap cL)->cl (cv q) W j->(∀b,cv f b->cv q b\/W.heap.size<=b)->K f j)->
      rx Tryz.prog (dQ 46 1 [(0,.agg (cL R.held[i]).toArray)]) W λJ G=>rx Tryz.prog (cx #[46,46] 46 [q,J]) G K:=λK V=>
     EM (d:=(R.held.take i).filter λp=>decide (p.c=c)) (enc:=cL) (x:=R.held[i]) (k:=3) MM Mi rfl rfl (by omega) (by omega) u (by omega) V
    simp only[cL,hx]at g;refine g _ λf w'' I z U=>?_;refine⟨f,rfl,?_,l.on z λb n=>.inr (t b n),λb n=>(U b n).elim (t b) λh=>Nat.le_trans l.size h⟩;rw[m,List.filter_append,show [R.held[i]].filter (λp=>decide (p.c=c))=[R.held[i]] by simp[e]];exact I
   ·simp[-Int.natCast_add,go_sem,cN o,a,N,O,P,Q,S,e];refine⟨q,rfl,?_,l,t⟩;rw[m,List.filter_append,show [R.held[i]].filter (λp=>decide (p.c=c))=[] by simp[e],List.append_nil];exact u
  ·rintro _ M ⟨f,rfl,I,m',B⟩;unfold xn;intro _;simp[-Int.natCast_add,go_sem,Y];exact A _ _ ⟨f,i+1,by omega,rfl,I,m',B⟩ (by simp;omega)
 ·obtain rfl:i=R.held.length:=by omega
  rw[List.take_of_length_le (Nat.le_refl _)]at u;simp[-Int.natCast_add,go_sem,dn,cN o];exact X _ _ u t l
end Go.Proofs
namespace Go.Proofs
open Go Go.Vc
attribute [local congr] cq
def xy{P:Program}{t e:TypeId}{sz g m:Nat}{w:World}{x:Value}{a:List Value}{K:cm}(i:P.underlying t=some (.slice e))(j:px P e sz g)(y:Rd w sz x m a)(h1:a.all (·.oneCell')=true)(c:m*g<=140737488355328)
  (r:∀d f,d7 f e sz d m a->cl (λ_=>False) w f->(∀b,cv d b->w.heap.size<=b)->K d f):
  rx P (dQ t 0 []) w λv p=>rx P (cx #[t,t] t [v,x]) p K:=by
 refine fE [] i j rfl rfl (by simp) (by omega) ?_;have k:∀o,cl (λ_=>False) w (w.alloc o):=λo=>(cl.refl _ w).alloc o;refine dz (n:=0) (m:=m) (cs:=[]) i i j ?_ (y.mod (k _) λ_ _ h=>h) h1 (by rw[Nat.zero_add];exact c) λd f s u q=>?_
 ·refine⟨by simp,.inr ⟨w.heap.size,0,[],rfl,Nat.le_refl _,?_,by simp⟩⟩;rw[cU,if_pos rfl];simp
 ·have l:∀b,cv (.slice (some ⟨w.heap.size,0,none⟩) 0 0) b->w.heap.size<=b:=λb c=>by
   simp only[cv,wE]at c;have:=Option.some.inj c;omega
  refine r d f (by simpa using s) ((k _).on u λb c=>.inr (l b c)) λb c=>?_;rcases q b c with h|h
  ·exact l b h
  ·rw[World.size_alloc]at h;omega
def AJ{w:World}{r:Nat}{F:Nat->Prop}{R:dM}{K:cm}(h:Aa w r F R)(q:R.all.length<=64)(j:0<=R.fund/\R.fund<=MF)(c:PA R.all)(u:K (.int .i64 R.funds) w):Ca Tryz.prog 167 #[dn r] w K:=by
 obtain⟨⟨L,P,h1,p,T,J,M⟩,U,z⟩:=h;obtain⟨E,v,n⟩:=p.isSl;subst n;apply Pp;simp[go_sem,dn,cN h1]
 refine jR (λs W=>∃(i:Nat),i<=R.all.length/\s=(.int .i64 (R.fund+((R.all.map (·.cash)).take i).sum),.int .i64 i,())/\W=w)
  (λs _=>match s.2.1 with| .int _ i=>R.all.length - i.toNat|_=>0) ⟨0,by omega,by simp,rfl⟩ ?_
 rintro⟨_,_⟩ W ⟨i,V,⟨⟩,rfl⟩ G f;unfold EQ;intro _;have y:=jK (i:=i) (by omega);by_cases d:i<R.all.length
 ·obtain⟨b,m,k,C,e,I,g,t,N,x,Q,S⟩:=Av p d;obtain⟨rfl,-,rfl⟩:E=some ⟨b,m,none⟩/\True/\v=k:=by injection g with A O B;exact⟨A,trivial,B⟩
  have H:((R.all.map (·.cash)).take (i+1)).sum=((R.all.map (·.cash)).take i).sum+R.all[i].cash:=by
   rw[List.take_add_one];simp[d]
  have hp:PA (R.all.take (i+1)):=⟨c.srt.sublist (List.take_sublist ..),λa D=>c.num a (List.mem_of_mem_take D)⟩
  have l:=hp.sum (by rw[List.length_take];omega);rw[List.map_take]at l;simp only[MF]at j
  have o:IntKind.i64.wrap (R.fund+((R.all.map (·.cash)).take i).sum+R.all[i].cash)=R.fund+((R.all.map (·.cash)).take (i+1)).sum:=by
   rw[IntKind.wrap_i64];omega
  simp[-Int.natCast_add,go_sem,dn,cN h1,d,t,x];rw[o,y];exact f _ _ ⟨i+1,by omega,rfl,rfl⟩ (by simp;omega)
 ·obtain rfl:i=R.all.length:=by omega
  simp[go_sem,dn,cN h1];rw[show R.fund+((R.all.map (·.cash)).take R.all.length).sum=R.funds by rw[List.take_of_length_le (by simp)];rfl];exact u
def wO{P:Program}{s:Sem Next}{w:World}{K:cm}{v:Value}{w' :World}(h:s.run P w=.ok (.value v) w')(a:K v w'):rn P s w K:=by
 rw[iX];unfold Dq;rw[h];exact a
def Iw(x y u v:Int):(!nu (x,y) (u,v))=(if u<x then true else if x=u then decide (v<=y)else false):=by
 unfold nu;by_cases h1:u<x
 ·rw[if_pos h1];simp;omega
 ·rw[if_neg h1];by_cases a:x=u
  ·rw[if_pos a,Bool.eq_iff_iff];simp;omega
  ·rw[if_neg a];simp;omega
def BD{P:List Po}{i:Nat}(hi:i<P.length)(h:kZ (P.take i))(f:∀(h:i - 1<P.length),0<i->nu P[i - 1].key P[i].key=true):kZ (P.take (i+1)):=by
 rw[fK hi];refine List.pairwise_append.2 ⟨h,List.pairwise_singleton ..,λx g y d=>?_⟩;rw[List.mem_singleton]at d;subst d;obtain⟨j,c,rfl⟩:=List.getElem_of_mem g;have b:=c;rw[List.length_take]at b;rw[List.getElem_take];have a:=f (by omega) (by omega);by_cases e:j=i - 1
 ·subst e;exact a
 ·have h1:=List.pairwise_iff_getElem.1 h j (i - 1) c (by rw[List.length_take];omega) (by omega);rw[List.getElem_take,List.getElem_take]at h1;exact rr h1 a
set_option maxRecDepth 10000 in
set_option maxHeartbeats 2000000 in
def Hv{w:World}{f:Int}{va vp:Value}{A:List Ac}{P:List Po}{K:cm}(hA:Rd w 4 va A.length (A.flatMap cM))(hP:Rd w 4 vp P.length (P.flatMap cL))(hn:A.length<4294967296)(hl:P.length<=1024)
  (uA:∀a∈A,iC a.num)(uP:∀p∈P,(iC p.c/\iC p.a)/\fW p.q/\fW p.b)
  (hok:lx f A P->∀u r G,Aa u r G ⟨f,A,P⟩->cl (λ_=>False) w u->(∀b,G b->w.heap.size<=b)->K (.tuple #[dn r,.int .i64 0]) u)
  (N:¬lx f A P->∀u,cl (λ_=>False) w u->K (.tuple #[.pointer none,.int .i64 2]) u):
  Ca Tryz.prog 84 #[.int .i64 f,va,vp] w K:=by
 obtain⟨aA,cA,rfl⟩:=hA.isSl;obtain⟨aP,cP,rfl⟩:=hP.isSl;apply SO;refine cy.at (λs W=>s=(.bool (!cD f 0 MF||decide (64<A.length)),())/\W=w) ?_ ?_
 ·refine js ?_;have hM:cD f 0 1000000000000000=cD f 0 MF:=rfl;rw[hM];cases hf:cD f 0 MF
  ·simp[go_sem]
  ·by_cases Z:64<A.length
   ·have h64' :(64:Int)<(A.length:Int):=by omega
    simp[go_sem,Z,h64']
   ·have h64' :¬(64:Int)<(A.length:Int):=by omega
    simp[go_sem,Z,h64']
 rintro _ w ⟨rfl,rfl⟩;unfold J9;intro _;by_cases j:(!cD f 0 MF||decide (64<A.length))=true
 ·rw[j];simp only[ci,if_true];refine N (λh=>?_) _ (cl.refl _ _);rw[h.fund]at j;have:=h.len;simp at j;omega
 rw[Bool.eq_false_iff.2 j];simp only[ci,Bool.false_eq_true,if_false]
 have Z:A.length<=64:=by
  apply Classical.byContradiction;intro h;apply j;simp;right;omega
 have hf:cD f 0 MF=true:=by
  cases hh:cD f 0 MF with
  |true=>rfl
  |false=>exact absurd (by rw[hh];rfl) j
 clear j;refine xy Qr (cK Pc) hA (by simp[cM,Value.oneCell']) (by omega) λsA w1 oA m1 nA=>?_;refine xy MM (cK Mi) (hP.mod m1 λ_ _ h=>h) (by simp[cL,Value.oneCell']) (by omega) λsH w2 oH m2 nH=>?_;obtain⟨bA,dA,rfl,-⟩:=oA.isSl;obtain⟨bH,dH,rfl,-⟩:=oH.isSl;obtain⟨r,hr⟩:∃r,r=w2.heap.size:=⟨_,rfl⟩
 refine dL (by simp[go_sem];first|exact⟨rfl,rfl⟩|exact rfl) ?_;refine dL (by simp[go_sem];first|exact⟨rfl,rfl⟩|exact rfl) ?_;rw[<-hr];generalize hw3:World.alloc _ _=w3;have m3:cl (λ_=>False) w2 w3:=by subst hw3;exact(cl.refl _ w2).alloc _
 have gr:hp w3 r=some (.cells #[.int .i64 f,.slice bA A.length dA,.slice bH P.length dH] 269 (0,0)):=by subst hw3 hr;simp[go_sem]
 have m03:cl (λ_=>False) w w3:=(m1.trans m2).trans m3;have oA2:=oA.mod m2 λ_ _ h=>h;have s1:=m1.size;have s2:=m2.size
 have hq:Aa w3 r (λb=>w.heap.size<=b/\b<=r) ⟨f,A,P⟩:=by
  refine⟨⟨_,_,gr,(oA2.mod m3 λ_ _ h=>h).rd,(oH.mod m3 λ_ _ h=>h).rd,λb R=>?_,λb R=>?_⟩,⟨by omega,Nat.le_refl _⟩,λb R=>?_⟩
  ·have h1:=nA b (eh.sl R);have S:=oA2.lt (eh.sl R);exact⟨⟨h1,by omega⟩,by omega⟩
  ·have h1:=nH b (eh.sl R);have S:=oH.lt (eh.sl R);exact⟨⟨by omega,by omega⟩,by omega⟩
  ·have:=cn gr;exact Nat.lt_of_le_of_lt R.2 this
 clear hw3 gr oA oH oA2 nA nH
 refine jR (λs W=>∃(i:Nat) (last:Int) (x1 x2:Value),i<=A.length/\s=(x1,x2,.int .i64 i,())/\pQ (A.take i) last/\(i=0->last=0)/\(∀(h:i - 1<A.length),0<i->A[i - 1].num=last)/\cl (λ_=>False) w3 W)
  (λs _=>match s.2.2.1 with| .int _ i=>A.length - i.toNat|_=>0) ⟨0,0,.pointer none,.int .i64 0,by omega,rfl,pQ.nil,λ_=>rfl,λ_ h=>by omega,cl.refl _ _⟩ ?_
 rintro⟨y1,y2,_⟩ W ⟨i,last,x1,x2,hi,⟨⟩,n,hz,hp,mW⟩ KN y;unfold KG;intro _;refine wO (v:=.int .i64 A.length) (w' :=W) (by simp[go_sem]) ?_;by_cases d:i<A.length
 ·have hAW:=hA.mod (m03.trans mW) λ_ _ h=>h;obtain⟨b,off,cap,C,e',fz,e,hC,c0,c1,c2,c3⟩:=Av hAW d;have hw:=jK (i:=i) (by omega);have hu:=uA _ (List.getElem_mem d);have h0:=n.pos;refine dL (v:=.bool true) (w' :=W) (by simp[go_sem,d]) ?_;rw[ci,if_pos rfl];refine cy.at (λs Q=>s=(.bool (decide (A[i].num<=last)|| !cD A[i].cash 0 MF),())/\Q=W.drew) ?_ ?_
  ·have hM:cD A[i].cash 0 1000000000000000=cD A[i].cash 0 MF:=rfl;by_cases M:A[i].num=0
   ·cases e;simp[-Int.natCast_add,go_sem,d,hC,c0,c1,M,h0]
   ·by_cases F:i=0
    ·subst F;have hl0:=hz rfl;subst hl0;have hnn:¬A[0].num<=0:=by have:=hu.1;omega
     cases e;simp at c0 c1;simp[-Int.natCast_add,go_sem,d,hC,c0,c1,M,hnn];refine js ?_;rw[hM];simp[go_sem]
    ·have o:i - 1<A.length:=by omega
     obtain⟨b',off',cap',C',e'',fz',e2,O,d0,d1,d2,d3⟩:=Av hAW o;have hpn:=hp o (by omega);cases e;cases e2;rw[hC]at O;obtain⟨rfl,rfl,rfl⟩:C=C' /\e' =e'' /\fz=fz' :=by injection O with h;injection h with h1 S h3;exact⟨h1,S,h3⟩
     have hs:IntKind.i64.wrap ((i:Int) - 1)=((i - 1:Nat):Int):=by rw[IntKind.wrap_i64];omega
     have m:0<i:=by omega
     rw[hpn]at d0;by_cases hle:A[i].num<=last
     ·simp[-Int.natCast_add,go_sem,d,o,hC,c0,c1,d0,M,m,hs,hle]
     ·simp[-Int.natCast_add,go_sem,d,o,hC,c0,c1,d0,M,m,hs,hle];refine js ?_;rw[hM];simp[go_sem]
  rintro _ _ ⟨rfl,rfl⟩;unfold J83_0;intro _;have mD:cl (λ_=>False) w3 W.drew:=mW.drew;by_cases j:(decide (A[i].num<=last)|| !cD A[i].cash 0 MF)=true
  ·rw[j];simp only[ci,if_true];refine N (λh=>?_) _ (m03.trans mD);refine absurd h.pa (pQ.bad d n ?_);rw[Bool.or_eq_true,decide_eq_true_eq]at j;rcases j with h|h
   ·exact .inl h
   ·exact .inr (by simpa using h)
  ·rw[Bool.eq_false_iff.2 j]
   have h1:last<A[i].num:=by
    apply Classical.byContradiction;intro h;apply j;simp;left;omega
   have S:cD A[i].cash 0 MF=true:=by
    cases hh:cD A[i].cash 0 MF with
    |true=>rfl
    |false=>exact absurd (by rw[hh];simp) j
   have hinv' :=n.step h1 S;rw[<-fK d]at hinv';simp only[ci,Bool.false_eq_true,if_false];simp[-Int.natCast_add,go_sem,hw];exact y _ _ ⟨i+1,A[i].num,_,_,by omega,rfl,hinv',λh=>by omega,λh _=>rfl,mD⟩ (by simp;omega)
 ·obtain rfl:i=A.length:=by omega
  clear y;rw[List.take_of_length_le (Nat.le_refl _)]at n;refine dL (v:=.bool false) (w' :=W) (by simp[go_sem]) ?_;rw[ci,if_neg Bool.false_ne_true];refine AJ (hq.modF mW) Z (ee.1 hf) n.pa ?_;have hfun:(dM.mk f A P).funds=f+(A.map (·.cash)).sum:=rfl;rw[hfun];by_cases L:f+(A.map (·.cash)).sum<=MF
  ·refine dL (v:=.bool false) (w' :=W) (by simp[go_sem,MF]at L|-;omega) ?_;rw[ci,if_neg Bool.false_ne_true];have hpa:=n.pa;clear hz hp n;have J:=m03.trans mW;have hqW:=hq.modF mW;generalize hwb:W=wb at J hqW;subst hwb;clear hq mW
   refine jR (λs Q=>∃(i:Nat) (x1 x2:Value),i<=P.length/\s=(x1,x2,.int .i64 i,())/\kZ (P.take i)/\(∀p∈P.take i,pw A p)/\cl (λ_=>False) W Q)
    (λs _=>match s.2.2.1 with| .int _ i=>P.length - i.toNat|_=>0) ⟨0,_,_,by omega,rfl,List.Pairwise.nil,by simp,cl.refl _ _⟩ ?_
   rintro⟨z1,z2,_⟩ W2 ⟨i,x1',x2',hi,⟨⟩,X,t,mW2⟩ KN y;have U:=hP.mod (J.trans mW2) λ_ _ h=>h;unfold Lw;intro _;refine wO (v:=.int .i64 P.length) (w' :=W2) (by simp[go_sem]) ?_;by_cases d:i<P.length
   ·obtain⟨b,off,cap,C,e',fz,e,hC,c0,c1,c2,c3⟩:=BC U d;cases e;have hw:=jK (i:=i) (by omega);have hmem:P[i]∈P:=List.getElem_mem d;have hu:=uP _ hmem;have hsn:=BD d X;have htk:=fK d
    obtain⟨kb,hk0,hk1⟩:∃kb:Bool,(i=0->kb=false)/\∀h:i - 1<P.length,0<i->kb= !nu P[i - 1].key P[i].key:=by
     by_cases F:i=0
     ·exact⟨false,λ_=>rfl,λ_ h=>by omega⟩
     ·exact⟨!nu (P[i - 1]'(by omega)).key P[i].key,λh=>absurd h F,λ_ _=>rfl⟩
    have hkey:P[i].key=(P[i].c,P[i].a):=rfl;refine dL (v:=.bool true) (w' :=W2) (by simp[go_sem,d]) ?_;rw[ci,if_pos rfl];refine dL (by simp[-Int.natCast_add,go_sem,d];first|exact⟨rfl,rfl⟩|exact rfl) ?_;refine dL (by simp[-Int.natCast_add,go_sem,d,hC,c0,c1,c2,c3];first|exact⟨rfl,rfl⟩|exact rfl) ?_;obtain⟨np,hnp⟩:∃np,np=W2.heap.size:=⟨_,rfl⟩
    refine dL (by simp[go_sem];first|exact⟨rfl,rfl⟩|exact rfl) ?_;refine xk (by simp[-Int.natCast_add,go_sem];first|exact⟨rfl,rfl⟩|exact rfl) ?_;rw[<-hnp];generalize hW3:W2.alloc _=W3;have mw3:cl (λ_=>False) W2 W3:=by subst hW3;exact(cl.refl _ W2).alloc _
    have g1:hp W3 np=some (.cells #[.int .u32 P[i].c,.int .u32 P[i].a,.int .i64 P[i].q,.int .i64 P[i].b] 112 (0,0)):=by subst hW3 hnp;simp[go_sem]
    have hPW3:=U.mod mw3 λ_ _ h=>h;clear hW3;refine cy.at (λs Q=>s=(.bool kb,())/\Q=W3.drew) ?_ ?_
    ·by_cases F:i=0
     ·have:=hk0 F;subst this;subst F;simp[-Int.natCast_add,go_sem]
     ·have o:i - 1<P.length:=by omega
      obtain⟨b',off',cap',C',e'',fz',e2,O,d0,d1,d2,d3⟩:=BC hPW3 o;cases e2;have hkk:=hk1 o (by omega);have hs:IntKind.i64.wrap ((i:Int) - 1)=((i - 1:Nat):Int):=by rw[IntKind.wrap_i64];omega
      have m:0<i:=by omega
      have hv:kb=(if P[i].c<P[i - 1].c then true else if P[i - 1].c=P[i].c then decide (P[i].a<=P[i - 1].a)else false):=by
       rw[hkk];exact Iw ..
      rw[hv];by_cases h1:P[i].c<P[i - 1].c
      ·simp[-Int.natCast_add,go_sem,d,o,O,d0,d1,cN g1,m,hs,h1]
      ·by_cases S:P[i - 1].c=P[i].c
       ·rw[S]at d0 h1;simp[-Int.natCast_add,go_sem,d,o,O,d0,d1,cN g1,m,hs,h1,S]
       ·simp[-Int.natCast_add,go_sem,d,o,O,d0,d1,cN g1,m,hs,h1,S]
    rintro _ _ ⟨rfl,rfl⟩;have mD:cl (λ_=>False) W W3.drew:=(mW2.trans mw3).drew;have gD:hp W3.drew np=some (.cells #[.int .u32 P[i].c,.int .u32 P[i].a,.int .i64 P[i].q,.int .i64 P[i].b] 112 (0,0)):=g1;have hqD:=hqW.modF mD;generalize W3.drew=W4 at mD gD hqD|-;generalize hpi:P[i]=p at*;unfold Kl;intro _;cases V:kb with
    |true=>
     simp only[ci,if_true];refine N (λh=>?_) _ (J.trans mD);have F:i≠0:=λe=>by rw[hk0 e]at V;cases V
     have h1:=hk1 (by omega) (by omega);have S:=List.pairwise_iff_getElem.1 h.srt (i - 1) i (by omega) d (by omega);rw[hpi]at S;rw[S]at h1;rw[h1]at V;cases V
    |false=>
     simp only[ci,Bool.false_eq_true,if_false];have eq1:cD p.q (-MP) MP=cD p.q (-10000000) 10000000:=rfl;have eq2:cD p.b (-MF) MF=cD p.b (-1000000000000000) 1000000000000000:=rfl;have hfd:(dM.mk f A P).find p.a=A.find? λx=>decide (x.num=p.a):=rfl;refine cy.at (λs Q=>s=(.bool (decide (p.c=0\/(dM.mk f A P).find p.a=none\/(p.q=0/\p.b=0))|| !cD p.q (-10000000) 10000000|| !cD p.b (-1000000000000000) 1000000000000000),())/\Q=W4) ?_ ?_
     ·by_cases a1:p.c=0
      ·simp[go_sem,cN gD,a1]
      ·simp[go_sem,cN gD,a1];refine HT hqD (by simp only;omega) λix hnone hsome=>?_;cases E:(dM.mk f A P).find p.a with
       |none=>
        have:=hnone E;subst this;simp[go_sem]
       |some a=>
        obtain⟨k,rfl,-⟩:=hsome a E;have Y:¬((k:Int)<0):=by omega
        by_cases a4:p.q=0
        ·by_cases a5:p.b=0
         ·simp[go_sem,cN gD,a4,a5,Y]
         ·simp[go_sem,cN gD,a4,a5,Y];refine js ?_;cases hq:cD 0 (-10000000) 10000000
          ·simp[go_sem]
          ·simp[go_sem,cN gD];refine js ?_;simp[go_sem]
        ·simp[go_sem,cN gD,a4,Y];refine js ?_;cases hq:cD p.q (-10000000) 10000000
         ·simp[go_sem]
         ·simp[go_sem,cN gD];refine js ?_;simp[go_sem]
     rintro _ W4 ⟨rfl,rfl⟩;unfold J83_0;intro _;by_cases hr:(decide (p.c=0\/(dM.mk f A P).find p.a=none\/(p.q=0/\p.b=0))|| !cD p.q (-10000000) 10000000|| !cD p.b (-1000000000000000) 1000000000000000)=true
     ·rw[hr];simp only[ci,if_true];refine N (λh=>?_) _ (J.trans mD);have g:=h.good _ hmem
      have e3:¬(p.c=0\/(dM.mk f A P).find p.a=none\/(p.q=0/\p.b=0)):=by
       rintro(h1|h1|h1)
       ·exact g.c h1
       ·obtain⟨x,z,hxa⟩:=g.there;rw[hfd,List.find?_eq_none]at h1;exact h1 x z (by simpa using hxa)
       ·have:=g.some;simp[Po.isZ,h1]at this
      rw[decide_eq_false e3,<-eq1,<-eq2,g.q,g.b]at hr;cases hr
     rw[Bool.eq_false_iff.2 hr];simp only[ci,Bool.false_eq_true,if_false];have hr' :=Bool.eq_false_iff.2 hr;rw[Bool.or_eq_false_iff,Bool.or_eq_false_iff,decide_eq_false_iff_not,Bool.not_eq_false',Bool.not_eq_false']at hr';obtain⟨⟨r1,r2⟩,r3⟩:=hr'
     have hth:∃x∈A,x.num=p.a:=by
      cases E:(dM.mk f A P).find p.a with
      |none=>exact absurd (.inr (.inl E)) r1
      |some a=>
       rw[hfd]at E;exact⟨a,List.mem_of_find?_eq_some E,by simpa using List.find?_some E⟩
     have hg:pw A p:=⟨λe=>r1 (.inl e),λe=>(by
      obtain⟨x,z,hxa⟩:=hth;have:=(hpa.num x z).1;omega),hth,by rw[Po.isZ,decide_eq_false_iff_not];exact λe=>r1 (.inr (.inr e)),eq1.trans r2,eq2.trans r3⟩
     simp[-Int.natCast_add,go_sem,hw];refine y _ _ ⟨i+1,_,_,by omega,rfl,hsn λh h' =>?_,λx z=>?_,mD⟩ (by simp;omega)
     ·have:=hk1 h h';rw[V]at this;cases I:nu P[i - 1].key p.key with
      |true=>rfl
      |false=>rw[I]at this;cases this
     ·rw[htk]at z;rcases List.mem_append.1 z with z|z
      ·exact t x z
      ·rw[List.mem_singleton]at z;subst z;exact hg
   ·obtain rfl:i=P.length:=by omega
    clear y;rw[List.take_of_length_le (Nat.le_refl _)]at X t;refine dL (v:=.bool false) (w' :=W2) (by simp[go_sem]) ?_;rw[ci,if_neg Bool.false_ne_true]
    refine jR (λs Q=>∃(i:Nat) (x1 x2:Value),i<=P.length/\s=(x1,x2,.int .i64 i,())/\(∀p∈P.take i,gy P p.c=0/\gz P p.c=0)/\cl (λ_=>False) W Q)
     (λs _=>match s.2.2.1 with| .int _ i=>P.length - i.toNat|_=>0) ⟨0,_,_,by omega,rfl,by simp,mW2⟩ ?_
    clear U mW2;rintro⟨u1,u2,_⟩ W3 ⟨i,x3,x4,hi,⟨⟩,hsum,T⟩ KN y;have U:=hP.mod (J.trans T) λ_ _ h=>h;unfold Ls;intro _;refine wO (v:=.int .i64 P.length) (w' :=W3) (by simp[go_sem]) ?_;by_cases d:i<P.length
    ·obtain⟨b,off,cap,C,e',fz,e,hC,c0,c1,c2,c3⟩:=BC U d;cases e;have hw:=jK (i:=i) (by omega);refine dL (v:=.bool true) (w' :=W3) (by simp[go_sem,d]) ?_;rw[ci,if_pos rfl];refine dL (by simp[-Int.natCast_add,go_sem,d];first|exact⟨rfl,rfl⟩|exact rfl) ?_;refine dL (by simp[-Int.natCast_add,go_sem];first|exact⟨rfl,rfl⟩|exact rfl) ?_;refine dL (by simp[-Int.natCast_add,go_sem,hC,c0];first|exact⟨rfl,rfl⟩|exact rfl) ?_;refine x7 (hqW.modF T) (by simp only;omega) λw4 vh oh fh m4=>?_;have hHd:(dM.mk f A P).holders P[i].c=P.filter λp=>decide (p.c=P[i].c):=rfl;rw[hHd]at oh;have hHg:∀p∈P.filter (λp=>decide (p.c=P[i].c)),pw A p:=λp hp=>t p (List.mem_filter.1 hp).1;have hHl:=List.length_filter_le (λp:Po=>decide (p.c=P[i].c)) P;have hQ:gy P P[i].c=((P.filter λp=>decide (p.c=P[i].c)).map (·.q)).sum:=rfl;have hB:gz P P[i].c=((P.filter λp=>decide (p.c=P[i].c)).map (·.b)).sum:=rfl;generalize P.filter (λp=>decide (p.c=P[i].c))=H at oh hHg hHl hQ hB;obtain⟨ah,ch,rfl,-⟩:=oh.isSl
     refine jR (λs Q=>∃k:Nat,k<=H.length/\s=(.int .i64 ((H.take k).map (·.q)).sum,.int .i64 ((H.take k).map (·.b)).sum,.int .i64 k,())/\Q=w4)
      (λs _=>match s.2.2.1 with| .int _ i=>H.length - i.toNat|_=>0) ⟨0,by omega,by simp,rfl⟩ ?_
     rintro⟨_,_⟩ w4 ⟨k,hk,⟨⟩,rfl⟩ KN2 hKN2;unfold KT;intro _;refine wO (v:=.int .i64 H.length) (w' :=w4) (by simp[go_sem]) ?_;by_cases I:k<H.length
     ·obtain⟨b',off',cap',D,e2',fz',e2,hD,d0,d1,d2,d3⟩:=BC oh.rd I;cases e2;have hw2:=jK (i:=k) (by omega);have g:=hHg _ (List.getElem_mem I);have t1:((H.take (k+1)).map (·.q)).sum=((H.take k).map (·.q)).sum+H[k].q:=by rw[fK I,List.map_append,List.sum_append];simp
      have t2:((H.take (k+1)).map (·.b)).sum=((H.take k).map (·.b)).sum+H[k].b:=by rw[fK I,List.map_append,List.sum_append];simp
      have b1:=qM (l:=(H.take (k+1)).map (·.q)) (B:=10000000) λx z=>by
       obtain⟨p,hp,rfl⟩:=List.mem_map.1 z;have:=ee.1 (hHg p (List.mem_of_mem_take hp)).q;simpa [MP]using this
      have b2:=qM (l:=(H.take (k+1)).map (·.b)) (B:=1000000000000000) λx z=>by
       obtain⟨p,hp,rfl⟩:=List.mem_map.1 z;have:=ee.1 (hHg p (List.mem_of_mem_take hp)).b;simpa [MF]using this
      rw[List.length_map,List.length_take]at b1 b2;have w1' :IntKind.i64.wrap (((H.take k).map (·.q)).sum+H[k].q)=((H.take (k+1)).map (·.q)).sum:=by rw[IntKind.wrap_i64,<-t1];omega
      have w2' :IntKind.i64.wrap (((H.take k).map (·.b)).sum+H[k].b)=((H.take (k+1)).map (·.b)).sum:=by rw[IntKind.wrap_i64,<-t2];omega
      simp[-Int.natCast_add,-List.map_take,go_sem,I,hD,d2,d3,w1',w2',hw2];exact hKN2 _ _ ⟨k+1,by omega,rfl,rfl⟩ (by simp;omega)
     ·obtain rfl:k=H.length:=by omega
      clear hKN2;rw[List.take_of_length_le (Nat.le_refl _),<-hQ,<-hB];refine dL (v:=.bool false) (w' :=w4) (by simp[go_sem]) ?_;rw[ci,if_neg Bool.false_ne_true];have m34:cl (λ_=>False) W w4:=T.trans m4;generalize hsq:gy P P[i].c=q;generalize hsb:gz P P[i].c=bb;refine cy.at (λs Q=>s=(.bool (decide (q≠0\/bb≠0)),())/\Q=w4) ?_ ?_
      ·by_cases hq:q=0
       ·by_cases R:bb=0
        ·simp[go_sem,hq,R]
        ·simp[go_sem,hq,R]
       ·simp[go_sem,hq]
      rintro _ w4 ⟨rfl,rfl⟩;unfold J83_0;intro _;by_cases hqb:q≠0\/bb≠0
      ·simp only[decide_eq_true hqb,ci,if_true];refine N (λh=>?_) _ (J.trans m34);have:=h.zero P[i].c;rw[hsq,hsb]at this;omega
      ·simp only[decide_eq_false hqb,ci,Bool.false_eq_true,if_false];simp[-Int.natCast_add,go_sem,hw];refine y _ _ ⟨i+1,_,_,by omega,rfl,λp hp=>?_,m34⟩ (by simp;omega);rw[fK d]at hp;rcases List.mem_append.1 hp with hp|hp
       ·exact hsum p hp
       ·rw[List.mem_singleton]at hp;rw[hp,hsq,hsb];omega
    ·obtain rfl:i=P.length:=by omega
     clear y;rw[List.take_of_length_le (Nat.le_refl _)]at hsum;refine dL (v:=.bool false) (w' :=W3) (by simp[go_sem]) ?_;rw[ci,if_neg Bool.false_ne_true]
     have ok:lx f A P:=⟨Z,hf,hpa,L,X,t,λc=>by
      by_cases hc:∃p∈P,p.c=c
      ·obtain⟨p,hp,rfl⟩:=hc;exact hsum p hp
      ·exact yU λp hp e=>hc ⟨p,hp,e⟩⟩
     exact hok ok _ r _ (hqW.modF T) (J.trans T) λb R=>R.1
  ·refine dL (v:=.bool true) (w' :=W) (by simp[go_sem,MF]at L|-;omega) ?_;rw[ci,if_pos rfl];exact N (λh=>L h.tot) _ (m03.trans mW)
end Go.Proofs
