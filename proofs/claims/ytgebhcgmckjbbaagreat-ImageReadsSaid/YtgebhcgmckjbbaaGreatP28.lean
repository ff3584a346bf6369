/- Part of a proof. -/
import Derived.Test.YtgebhcgmckjbbaaGreatP27
set_option linter.all false
namespace Go.Proofs
open Go Go.Vc
attribute [local congr] cq
section
variable{w0 W X:World}{K:cm}{s:iN}{sb:Nat}{ss:Nat->Value}{v c l:Nat}{sB sD:Value}{F F' G:Nat->Prop}{P:List Nat}{bD:Nat}
structure Nk(w0 W:World)(s:iN)(sb:Nat)(ss:Nat->Value)(v c l:Nat)(sB sD:Value)(F F' G:Nat->Prop)(P:List Nat)(bD:Nat):Prop where
 e:rE s sb ss W
 d:pi W v c l sB sD F F' (eR s) P (λ_ _=>[]) (λ_=>[]) (λ_=>.slice none 0 0) G
 arr:0<P.length->∃rest T,hp W bD=some (.cells (((List.range P.length).map λ_=>Value.slice none 0 0)++rest).toArray T (0,0))
 sp:Dk w0 bD v sb F F' G sB sD ss P
 sS:Nt v sb F F' G sB sD ss P bD w0
 g:∀y,W.heap.size<=y->G y
 m:cl (λ_=>False) w0 W
def Nk.md0(h:Nk w0 W s sb ss v c l sB sD F F' G P bD)(m:cl (λ_=>False) W X):Nk w0 X s sb ss v c l sB sD F F' G P bD:=
 ⟨h.e.md0 m,h.d.md0 m,λa=>by obtain⟨rest,T,e⟩:=h.arr a;exact⟨rest,T,m.hpk e id⟩,h.sp,h.sS,λy b=>h.g y (by have:=m.size;omega),h.m.trans m⟩
def AF{l:List (Int×Od)}{i:Nat}(hi:i<l.length)(h:((l.take i).map (·.2.num)).Nodup)(k:∀j (d:j<l.length),j<i->(l[j]).2.num≠(l[i]).2.num):((l.take (i+1)).map (·.2.num)).Nodup:=by
 rw[cV hi,List.map_append,List.nodup_append];refine⟨h,by simp,λa g b f e=>?_⟩;obtain⟨x,m,rfl⟩:=List.mem_map.1 g;obtain⟨j,d,rfl⟩:=List.getElem_of_mem m;rw[List.length_take]at d;rw[List.getElem_take]at e;simp only[List.map_cons,List.map_nil,List.mem_singleton]at f;exact k j (by omega) (by omega) (by rw[e,f])
set_option maxRecDepth 10000 in
set_option maxHeartbeats 4000000 in
def D5(hO:L4 s w0 K)(O:jW s)(C:s.ords.length<=3200/\s.bids.length<=800)(hpo:s.poss.length<=100000)(hac:s.accts.length<=100000)(h:Nk w0 W s sb ss v c l sB sD F F' G P bD){sA:Value}
  (Z:Rd W 6 sA (s.ords++s.bids).length ((s.ords++s.bids).flatMap dB)){x y:Value}:
  cO (S:=Value×Value×Value×Unit) (Gw sA (pt sb) (pt v) K (pt c)) (x,y,.int .i64 0,()) W:=by
 have E:=h.e.sta.sl;obtain⟨b,d⟩:∃b,b=s.ords++s.bids:=⟨_,rfl⟩
 have hALl:b.length=s.ords.length+s.bids.length:=by rw[d,List.length_append]
 rw[<-d]at Z;have L:=gG h.d.bks;have Q:=gG h.d.bds;have hlc:P.length=s.cts.length:=h.d.len;have n:=h.e.fit
 have hfx:∀x∈b,iC x.1/\x.2.Fit:=λx p=>by
  rw[d]at p;rcases List.mem_append.1 p with p|p
  ·exact n.ords x p
  ·exact n.bids x p
 have hln:∀W,(builtin .len #[47] 3 #[false] #[sA]).run Tryz.prog W=.ok (.value (.int .i64 (b.length:Int))) W:=λW=>by
  obtain⟨a,c,e⟩:=Z.isSl;rw[e];simp[go_sem]
 have t:K6 s->∀i (hi:i<b.length),(eR s).stnd (decide (i<s.ords.length)) [] b[i]=true:=λ⟨B',D',q⟩ i hi=>by
  by_cases r:i<s.ords.length
  ·rw[decide_eq_true r];have:b[i]=s.ords[i]:=by simp only[d];rw[List.getElem_append_left r]
   rw[this];exact q.ords _ (List.getElem_mem r)
  ·rw[decide_eq_false r];have hib:i - s.ords.length<s.bids.length:=by omega
   have:b[i]=s.bids[i - s.ords.length]:=by simp only[d];rw[List.getElem_append_right (by omega)]
   rw[this];exact q.bids _ (List.getElem_mem hib)
 refine dp (λst X=>∃(i:Nat) (x y:Value),i<=b.length/\st=(x,y,.int .i64 i,())/\(∀j (g:j<b.length),j<i->(eR s).stnd (decide (j<s.ords.length)) [] b[j]=true)/\((b.take i).map (·.2.num)).Nodup/\cl (λ_=>False) W X)
  (λst _=>match st.2.2.1 with| .int _ k=>b.length - k.toNat|_=>0) ⟨0,x,y,by omega,rfl,λj g h=>absurd h (Nat.not_lt_zero _),List.nodup_nil,cl.refl _ _⟩ ?_
 rintro _ X ⟨i,x,y,hi,rfl,u,z,mX⟩ KN hKN;unfold Gw;intro _;refine fI (hln _) ?_;by_cases m:i<b.length
 ·have N:(i:Int)<(b.length:Int):=by omega
  refine ck (v:=.bool true) (by simp[go_sem,N]<;>first|exact⟨rfl,rfl⟩|exact rfl) ?_;rw[ci,if_pos rfl];have md:=mX.drew;have f:=h.md0 md;have R:=Z.mod md λ_ _ h=>h;generalize X.drew=V at md f R|-;obtain⟨b1,o1,i1,A1⟩:=og R m;refine co (λW=>i1 W _) (cB (kL A1) ?_);refine co (λW=>dZ sb 6 (by omega) W) (cB (dR f.e.blk E 6 (by omega) (by omega)) ?_);refine cB (v:=.int .i64 (s.ords.length:Int)) (by obtain⟨a,c,e⟩:=(f.e.sta.ords).isSl;rw[e];simp[go_sem]) ?_;refine co (v:=.bool (decide (i<s.ords.length))) (λW=>by simp[go_sem]) ?_;refine BF (S:=eR s) f.d.vn L Q f.d.cal f.d.led n.cts (hfx _ (List.getElem_mem m)) (by show s.cts.length<=_;have:=O.len;omega) hac λw5 m5=>?_;have M5:=md.trans m5;refine co (v:=.bool (!(eR s).stnd (decide (i<s.ords.length)) [] b[i])) (λW=>by simp[go_sem]) ?_;cases A:(eR s).stnd (decide (i<s.ords.length)) [] b[i]with
  |false=>
   rw[show(!false)=true from rfl,ci,if_pos rfl];refine hO.2 (λo=>?_) _ (h.m.trans M5);rw[t o i m]at A;cases A
  |true=>
  rw[show(!true)=false from rfl,ci,if_neg Bool.false_ne_true]
  refine dp (λst Y=>∃(k:Nat) (x y:Value),k<=i/\st=(x,y,.int .i64 k,())/\(∀j (g:j<b.length),j<k->(b[j]).2.num≠(b[i]).2.num)/\cl (λ_=>False) W Y)
   (λst _=>match st.2.2.1 with| .int _ k=>i - k.toNat|_=>0) ⟨0,_,_,by omega,rfl,λj g h=>absurd h (Nat.not_lt_zero _),M5⟩ ?_
  rintro _ Y ⟨k,x',y',hki,rfl,B,mY⟩ KN2 T;unfold Kx;intro _;by_cases hkl:k<i
  ·have I:(k:Int)<(i:Int):=by omega
   refine ck (v:=.bool true) (by simp[go_sem,I]<;>first|exact⟨rfl,rfl⟩|exact rfl) ?_;rw[ci,if_pos rfl];have U:=mY.drew;have w:=Z.mod U λ_ _ h=>h;generalize Y.drew=V2 at U w|-;have M:k<b.length:=by omega
   obtain⟨b2,o2,i2,A2⟩:=og w M;obtain⟨b3,o3,i3,A3⟩:=og w m;refine co (λW=>i2 W _) (co (v:=.pointer (some ⟨b2,o2+1,none⟩)) (λW=>by simp[go_sem,cE]) (co (v:=.pointer (some ⟨b2,o2+1,none⟩)) (λW=>by simp[go_sem,cE]) (cB (xq A2) ?_)));refine co (λW=>i3 W _) (co (v:=.pointer (some ⟨b3,o3+1,none⟩)) (λW=>by simp[go_sem,cE]) (co (v:=.pointer (some ⟨b3,o3+1,none⟩)) (λW=>by simp[go_sem,cE]) (cB (xq A3) ?_)));refine co (v:=.bool (decide ((b[k]).2.num=(b[i]).2.num))) (λW=>by by_cases e:(b[k]).2.num=(b[i]).2.num<;>simp[go_sem,e]) ?_;by_cases e:(b[k]).2.num=(b[i]).2.num
   ·rw[decide_eq_true e,ci,if_pos rfl];refine hO.2 (λo=>?_) _ (h.m.trans U);obtain⟨B',D',q⟩:=o;have:=q.nums;rw[<-d]at this;have:=List.pairwise_iff_getElem.1 this k i (by simpa using M) (by simpa using m) hkl;simp only[List.getElem_map]at this;exact this e
   ·rw[decide_eq_false e,ci,if_neg Bool.false_ne_true];refine ck (v:=.int .i64 ((k+1:Nat):Int)) (w' :=V2) (by simp[go_sem];rw[cS (by omega) (by omega)]) ?_;refine T _ _ ⟨k+1,x',y',by omega,rfl,λj g D=>?_,U⟩ (by show i - (((k+1:Nat):Int)).toNat<i - ((k:Int)).toNat;omega);by_cases H:j=k
    ·subst H;exact e
    ·exact B j g (by omega)
  ·obtain rfl:k=i:=by omega
   refine ck (v:=.bool false) (by simp[go_sem]<;>first|exact⟨rfl,rfl⟩|exact rfl) ?_;rw[ci,if_neg Bool.false_ne_true];refine ck (v:=.int .i64 ((k+1:Nat):Int)) (w' :=Y) (by simp[go_sem];rw[cS (by omega) (by omega)]) ?_;refine hKN _ _ ⟨k+1,_,_,by omega,rfl,λj g J=>?_,AF m z λj g J=>B j g J,mY⟩ (by show b.length - (((k+1:Nat):Int)).toNat<b.length - ((k:Int)).toNat;omega);by_cases D:j=k
   ·subst D;exact A
   ·exact u j g (by omega)
 ·obtain rfl:i=b.length:=by omega
  refine ck (v:=.bool false) (by simp[go_sem]<;>first|exact⟨rfl,rfl⟩|exact rfl) ?_;rw[ci,if_neg Bool.false_ne_true];rw[List.take_length,d]at z;have f:=h.md0 mX;refine LZ hO ⟨O,C,λx p=>?_,λx p=>?_,z⟩ hpo f.sp f.sS f.g f.e f.d f.arr f.m
  ·obtain⟨j,g,rfl⟩:=List.getElem_of_mem p;have:=u j (by omega) (by omega);rw[decide_eq_true g]at this;have e:b[j]'(by omega)=s.ords[j]:=by simp only[d];rw[List.getElem_append_left g]
   rw[e]at this;exact this
  ·obtain⟨j,g,rfl⟩:=List.getElem_of_mem p;have:=u (s.ords.length+j) (by omega) (by omega);rw[decide_eq_false (by omega)]at this;have e:b[s.ords.length+j]'(by omega)=s.bids[j]:=by simp only[d];rw[List.getElem_append_right (by omega)];simp
   rw[e]at this;exact this
def OJ(e:∀v a,d7 a 119 6 v 0 []->cl (λ_=>False) W a->(∀b,cv v b->W.heap.size<=b)->K v a):rx Tryz.prog (dQ 47 0 []) W K:=by
 refine fE [] nj (cK (show eO Tryz.prog 119 6 40=true by kernel_rfl)) rfl rfl (by simp) (by omega) ?_;refine e _ _ ⟨by simp,.inr ⟨W.heap.size,0,[],rfl,Nat.le_refl _,by rw[cU,if_pos rfl];simp,by simp⟩⟩ ((cl.refl _ W).alloc _) λb d=>?_;simp only[cv,wE]at d;have:=Option.some.inj d;omega
def Ej(l:List (Int×Od)):(l.flatMap dB).all (·.oneCell')=true:=by
 rw[List.all_flatMap];exact List.all_eq_true.2 λx _=>rfl
set_option maxRecDepth 10000 in
set_option maxHeartbeats 4000000 in
def Ml(U:L4 s w0 K)(hf0:(∀p∈s.poss,dg s.cts p.c=0)->jW s)(hc16:s.cts.length<=16)(hpo:s.poss.length<=100000)(hac:s.accts.length<=100000)(h:Nk w0 W s sb ss v c l sB sD F F' G P bD){x y:Value}:
  cO (S:=Value×Value×Value×Unit) (Aw (pt sb) (pt c) K (pt v)) (x,y,.int .i64 0,()) W:=by
 have d:=h.e.sta.sl
 have Z:∀W,(builtin .len #[46] 3 #[false] #[ss 5]).run Tryz.prog W=.ok (.value (.int .i64 (s.poss.length:Int))) W:=λW=>by
  obtain⟨a,c,e⟩:=(h.e.sta.poss).isSl;rw[e];simp[go_sem]
 refine dp (λst X=>∃(i:Nat) (x y:Value),i<=s.poss.length/\st=(x,y,.int .i64 i,())/\(∀p∈s.poss.take i,dg s.cts p.c=0)/\cl (λ_=>False) W X)
  (λst _=>match st.2.2.1 with| .int _ k=>s.poss.length - k.toNat|_=>0) ⟨0,x,y,by omega,rfl,λp hp=>(by cases hp),cl.refl _ _⟩ ?_
 rintro _ X ⟨i,x,y,hi,rfl,A,R⟩ KN hKN;have u:=h.md0 R;unfold Aw;intro _;refine ck (dZ sb 5 (by omega) _) (ck (dR u.e.blk d 5 (by omega) (by omega)) (fI (Z _) ?_));by_cases r:i<s.poss.length
 ·have O:(i:Int)<(s.poss.length:Int):=by omega
  refine ck (v:=.bool true) (by simp[go_sem,O]<;>first|exact⟨rfl,rfl⟩|exact rfl) ?_;rw[ci,if_pos rfl];obtain⟨p,hp⟩:∃p,p=s.poss[i]:=⟨_,rfl⟩
  have L:p∈s.poss:=hp▸List.getElem_mem r;obtain⟨b,J,cap,C,e',fz,hse,hC,c0,-,-,-⟩:=BC u.e.sta.poss r;rw[<-hp]at c0;refine ck (dZ sb 5 (by omega) _) (ck (dR u.e.blk d 5 (by omega) (by omega)) ?_);refine ck (v:=.pointer (some ⟨b,J+i*4,none⟩)) (w' :=X) (by rw[hse];simp[go_sem,r,cE,FQ]) ?_;refine ck (v:=.pointer (some ⟨b,J+i*4,none⟩)) (w' :=X) (by simp[go_sem,cE]) ?_;refine ck (v:=.int .u32 p.c) (w' :=X) (by simp[go_sem,hC,c0]) ?_;refine oF u.d.cal (by show s.cts.length<=_;omega) ?_;have epl:kT (eR s).cal.l p.c=kT s.cts p.c:=rfl;rw[epl];have j:=xm s.cts p.c;obtain⟨sl,fl,-,ls,hR,-,ln⟩:=u.d.cal.ld;refine cy.at (λst N=>st=(.bool (decide (dg s.cts p.c≠0)),())/\X=N) ?_ ?_
  ·cases t:Ck s.cts p.c with
   |none=>
    rw[t]at j;have e:kT s.cts p.c= -1:=by unfold kT;rw[t]
    rw[e];refine ck (v:=.bool true) (w' :=X) (by simp[go_sem]) ?_;rw[ci,if_pos rfl];simp only at j;refine⟨?_,rfl⟩;unfold dg;rw[j];rfl
   |some k=>
    rw[t]at j;obtain⟨hk,w⟩:=j;obtain⟨B,H⟩:∃B,B=s.cts[k]:=⟨_,rfl⟩
    rw[<-H]at w;have e:kT s.cts p.c=(k:Int):=by unfold kT;rw[t]
    rw[e];refine ck (v:=.bool false) (w' :=X) (by simp[go_sem]) ?_;rw[ci,if_neg Bool.false_ne_true,cr];have I:k<(eR s).cal.l.length:=hk;obtain⟨b2,g,wZ,M,hcap2,hA2⟩:=hR.item cX I rfl;have hA3:At X b2 (g+k*27) (dU B):=by rw[H];exact hA2
    refine ck (fl 1 (by omega) _) (ck ls (ck (v:=.pointer (some ⟨b2,g+k*27,none⟩)) (w' :=X) (by rw[M];simp[go_sem,I,cE,Bl]) ?_));refine ck (v:=.pointer (some ⟨b2,g+k*27+25,none⟩)) (w' :=X) (by simp[go_sem,cE]) (ck (Cj hA3) ?_);refine ck (v:=.bool (decide (B.st=3))) (w' :=X) (by by_cases Q:B.st=3<;>simp[go_sem,Q]) ?_;refine⟨?_,rfl⟩;unfold dg;rw[w];by_cases Q:B.st=3
    ·simp[Q]
    ·simp[Q]
  rintro _ N ⟨rfl,rfl⟩;unfold J83_0;intro _;by_cases T:dg s.cts p.c=0
  ·rw[decide_eq_false (by simpa using T),ci,if_neg Bool.false_ne_true];refine ck (v:=.int .i64 ((i+1:Nat):Int)) (w' :=X) (by simp[go_sem];rw[cS (by omega) (by omega)]) ?_;refine hKN _ _ ⟨i+1,x,y,by omega,rfl,λq E=>?_,R⟩ (by show s.poss.length - (((i+1:Nat):Int)).toNat<s.poss.length - ((i:Int)).toNat;omega);rw[cV r,<-hp]at E;rcases List.mem_append.1 E with E|E
   ·exact A q E
   ·rw[List.mem_singleton.1 E];exact T
  ·rw[decide_eq_true T,ci,if_pos rfl];refine U.2 (λo=>?_) _ (h.m.trans R);obtain⟨B',D',z⟩:=o;exact T (z.from0.poss p L)
 ·obtain rfl:i=s.poss.length:=by omega
  refine ck (v:=.bool false) (by simp[go_sem]<;>first|exact⟨rfl,rfl⟩|exact rfl) ?_;rw[ci,if_neg Bool.false_ne_true];rw[List.take_length]at A;have h0:=hf0 A
  have lnO:∀W,(builtin .len #[47] 3 #[false] #[ss 6]).run Tryz.prog W=.ok (.value (.int .i64 (s.ords.length:Int))) W:=λW=>by
   obtain⟨a,c,e⟩:=(h.e.sta.ords).isSl;rw[e];simp[go_sem]
  have lnD:∀W,(builtin .len #[47] 3 #[false] #[ss 7]).run Tryz.prog W=.ok (.value (.int .i64 (s.bids.length:Int))) W:=λW=>by
   obtain⟨a,c,e⟩:=(h.e.sta.bids).isSl;rw[e];simp[go_sem]
  refine cy.at (λst N=>st=(.bool (decide (¬(s.ords.length<=3200/\s.bids.length<=800))),())/\X=N) ?_ ?_
  ·refine ck (dZ sb 6 (by omega) _) (ck (dR u.e.blk d 6 (by omega) (by omega)) (fI (lnO _) ?_));refine ck (v:=.bool (decide (3200<s.ords.length))) (w' :=X) (by simp[go_sem];omega) ?_;by_cases h1:3200<s.ords.length
   ·rw[decide_eq_true h1,ci,if_pos rfl];refine⟨?_,rfl⟩;rw[decide_eq_true (p:=¬(s.ords.length<=3200/\s.bids.length<=800)) (by omega)]
   rw[decide_eq_false h1,ci,if_neg Bool.false_ne_true];refine ck (dZ sb 7 (by omega) _) (ck (dR u.e.blk d 7 (by omega) (by omega)) (fI (lnD _) ?_));refine ck (v:=.bool (decide (800<s.bids.length))) (w' :=X) (by simp[go_sem];omega) ?_;refine⟨?_,rfl⟩;congr 2;rw[decide_eq_decide];omega
  rintro _ N ⟨rfl,rfl⟩;unfold KD;intro _;by_cases f:s.ords.length<=3200/\s.bids.length<=800
  rotate_left
  ·rw[decide_eq_true f,ci,if_pos rfl];refine U.2 (λo=>?_) _ (h.m.trans R);obtain⟨B',D',z⟩:=o;exact f z.len
  rw[decide_eq_false (by simpa using f),ci,if_neg Bool.false_ne_true];have md:=(cl.refl (λ_=>False) X).drew;have D:=u.md0 md;generalize X.drew=V at md D|-;refine co (λW=>dZ sb 6 (by omega) W) (cB (dR D.e.blk d 6 (by omega) (by omega)) ?_);refine co (λW=>dZ sb 7 (by omega) W) (cB (dR D.e.blk d 7 (by omega) (by omega)) ?_);refine OJ λv6 w7 o7 Y n7=>?_;have h7:=D.md0 Y;refine⟨dR h7.e.blk d 7 (by omega) (by omega),dR h7.e.blk d 6 (by omega) (by omega),?_⟩;refine dz (n:=0) (m:=s.ords.length) nj nj (cK (show eO Tryz.prog 119 6 40=true by kernel_rfl)) o7 h7.e.sta.ords (Ej _) (by omega) λv8 w9 o9 m9 n9=>?_;have M9:cl (λ_=>False) V w9:=Y.on m9 λy hy=>.inr (n7 y hy);have h9:=D.md0 M9;refine⟨dR h9.e.blk d 7 (by omega) (by omega),?_⟩;refine dz (n:=0+s.ords.length) (m:=s.bids.length) nj nj (cK (show eO Tryz.prog 119 6 40=true by kernel_rfl)) o9 h9.e.sta.bids (Ej _) (by omega) λv10 w11 o11 m11 n11=>?_;have hz7:=Y.size;have M11:cl (λ_=>False) V w11:=M9.on m11 λy hy=>.inr ((n9 y hy).elim (n7 y) λh=>by omega);refine D5 U h0 f hpo hac (D.md0 M11) ?_;have e1:(s.ords++s.bids).length=0+s.ords.length+s.bids.length:=by rw[List.length_append];omega
  have e2:(s.ords++s.bids).flatMap dB=[]++s.ords.flatMap dB++s.bids.flatMap dB:=by simp
  rw[e1,e2];exact o11.rd
end
section
variable{w0 w1 W X:World}{K:cm}{s:iN}{sb:Nat}{ss:Nat->Value}{v c l:Nat}{F F' :Nat->Prop}
abbrev Gp:TypeId:=169
structure CN(w1 X:World)(v c l:Nat)(nx:Int)(i:Nat)(P:List Nat)(sB sD:Value):Prop where
 len:P.length=i
 vn:AS X v c l sB sD nx
 oB:d7 X Gp 1 sB P.length (P.flatMap λp=>[pt p])
 oD:d7 X gO 1 sD P.length ((List.range P.length).flatMap λ_=>[Value.slice none 0 0])
 nB:∀y,cv sB y->v<y
 nD:∀y,cv sD y->v<y
 dj:∀y,cv sB y->¬cv sD y
 bk:∀k (h:k<P.length),hp X P[k]=some (.cells #[pt (pm P[k] true),pt (pm P[k] false)] zu (0,0))/\∀d,hp X (pm P[k] d)=some (.cells #[.bool d,.slice none 0 0] lA (0,0))
 gap:∀k (h:k<P.length),v+3<=P[k]
 up:P.Pairwise λa b=>a+3<=b
 sep:∀k (h:k<P.length) y,cv sB y\/cv sD y->y≠P[k]/\∀d,y≠pm P[k] d
 md:cl (λy=>y=v) w1 X
def tN{p:Nat}(h:2<=p)(d:Bool):pm p d<p/\p - 2<=pm p d/\(d=true->pm p d=p - 2)/\(d=false->pm p d=p - 1):=by
 unfold pm;cases d
 ·exact⟨by simp;omega,by simp;omega,λh=>(by cases h),λ_=>rfl⟩
 ·exact⟨by simp;omega,by simp,λ_=>rfl,λh=>(by cases h)⟩
def PZ{v c l:Nat}{f e s' :Value}{nx:Int}(h:AS W v c l f e nx)(h1:∃a n c,f=.slice a n c)(k:∃a n c,e=.slice a n c)(q:∃a n c,s' =.slice a n c):
  (∃b,(Instr.storeAt 163 (.pointer (some ⟨v,2,none⟩)) s').run Tryz.prog W=.ok () b/\AS b v c l s' e nx/\cl (λy=>y=v) W b)/\
  (∃b,(Instr.storeAt 164 (.pointer (some ⟨v,3,none⟩)) s').run Tryz.prog W=.ok () b/\AS b v c l f s' nx/\cl (λy=>y=v) W b):=by
 obtain⟨t,r,m,rfl⟩:=h1;obtain⟨o,u,p,rfl⟩:=k;obtain⟨i,g,j,rfl⟩:=q;have d:hp W v=some (.cells #[pt c,pt l,.slice t r m,.slice o u p,.int .u64 nx] J4 (0,0)):=h
 exact⟨⟨W.setCell ⟨v,2,none⟩ (.slice i g j),by simp[go_sem,d],by show hp _ _=_;simp[go_sem,d,If],(cl.refl (λy=>y=v) W).setCell (.inl rfl) _ _⟩,
  ⟨W.setCell ⟨v,3,none⟩ (.slice i g j),by simp[go_sem,d],by show hp _ _=_;simp[go_sem,d,If],(cl.refl (λy=>y=v) W).setCell (.inl rfl) _ _⟩⟩
def PJ:eO Tryz.prog Gp 1 8=true:=by kernel_rfl
def Ot:eO Tryz.prog gO 1 24=true:=by kernel_rfl
def CN.zero(h:AS X v c l (.slice none 0 0) (.slice none 0 0) s.next)(m:cl (λy=>y=v) w1 X):CN w1 X v c l s.next 0 [] (.slice none 0 0) (.slice none 0 0):=
 ⟨rfl,h,d7.nil _ _ _,d7.nil _ _ _,λy b=>(by cases b),λy b=>(by cases b),λy b=>(by cases b),λk a=>absurd a (Nat.not_lt_zero _),λk a=>absurd a (Nat.not_lt_zero _),List.Pairwise.nil,λk a=>absurd a (Nat.not_lt_zero _),m⟩
def CN.fr0{n:Nat}{P:List Nat}{Q B:Value}(h:CN w1 X v c l s.next n P Q B)(hn:P.length=s.cts.length)(J:rE s sb ss w1)(U:pO w1 c F s.day s.cts)(hL:Aa w1 l F' ⟨s.fund,s.accts,s.poss⟩)(hv0:w0.heap.size<=v)
  (x:∀y,F y->y<v)(w:∀y,F' y->y<v)(Y:sb<v)(z:∀i,3<=i->i<=7->∀y,eh (ss i) y->y<v)(m0:cl (λ_=>False) w0 w1)(hz:P.length=0->B=.slice none 0 0):
  ∃G u,Nk w0 X s sb ss v c l Q B F F' G P u:=by
 obtain⟨u,hb1,r,M⟩:∃u,v<u/\(0<P.length->cv B u/\∃o,P.length<=o/\B=.slice (some ⟨u,0,none⟩) P.length o/\∃rest,hp X u=some (.cells (((List.range P.length).map λ_=>Value.slice none 0 0)++rest).toArray gO (0,0)))/\(P.length=0->X.heap.size<=u):=by
  by_cases q:0<P.length
  ·obtain⟨b,o,rest,e,N,O,-⟩:=h.oD.pos q;have E:cv B b:=by rw[e];rfl
   refine⟨b,h.nD b E,λ_=>⟨E,o,N,e,rest,?_⟩,λh=>absurd h (by omega)⟩;rw[<-List.map_eq_flatMap]at O;exact cN O
  ·have:=cn h.vn;exact⟨X.heap.size,this,λh=>absurd h q,λ_=>Nat.le_refl _⟩
 have Z:=cn h.vn;have H:∀k (D:k<P.length),P[k]<X.heap.size:=λk D=>cn (h.bk k D).1
 have I:∀k (D:k<P.length) d,v<pm P[k] d/\pm P[k] d<P[k]:=λk D d=>by
  have:=h.gap k D;obtain⟨S,a2,-,-⟩:=tN (p:=P[k]) (by omega) d;exact⟨by omega,S⟩
 have mC:∀{y:Nat},y<v->¬y=v:=λh=>by omega
 refine⟨λy=>X.heap.size<=y,u,?_,?_,?_,?_,?_,λy f=>f,m0.on h.md λy f=>.inr (by omega)⟩
 ·exact⟨h.md.hpk J.blk (by omega),λi h1 A=>(J.sta i h1 A).mod h.md λy f e=>by have:=z i h1 A y f;omega,J.fit⟩
 ·refine⟨h.vn,U.mod h.md λy f e=>by have:=x y f;omega,hL.mod h.md λy f e=>by have:=w y f;omega,hn,h.oB.rd,h.oD.rd,λi g=>(h.bk i g).1,λi g b=>⟨_,(h.bk i g).2 b,⟨rfl,.inl ⟨rfl,_,_,rfl⟩⟩,λy f=>?_⟩,λi g=>⟨rfl,.inl ⟨rfl,_,_,rfl⟩⟩⟩;obtain⟨a,n,c,e,-,-⟩:=f;cases e
 ·intro q;obtain⟨-,o,-,-,rest,e⟩:=r q;exact⟨rest,_,e⟩
 ·refine⟨by omega,λy f=>by have:=x y f;omega,λy f=>by have:=w y f;omega,λy f e=>?_,λq y f e=>?_,by omega,λi h1 A y f=>by have:=z i h1 A y f;omega,λi g=>?_,by omega,λq=>?_⟩
  ·by_cases q:0<P.length
   ·exact h.dj y (eh.sl f) (e▸(r q).1)
   ·have:=M (by omega);have:=h.oB.lt (eh.sl f);omega
  ·have:=h.oD.lt (r q).1;have L:X.heap.size<=y:=f;omega
  ·have q:0<P.length:=by omega
   have:=h.sep i g u (.inr (r q).1);exact⟨λe=>this.1 e.symm,λd e=>this.2 d e.symm⟩
  ·obtain⟨-,o,N,e,-⟩:=r q;exact⟨o,N,e⟩
 ·refine⟨λi g d=>?_⟩;have q:0<P.length:=by omega
  obtain⟨S,a2⟩:=I i g d;have a3:=H i g;have a4:=h.gap i g;refine⟨by omega,by omega,λf=>by have:=x _ f;omega,λf=>by have:=w _ f;omega,λf=>?_,λf=>(h.sep i g _ (.inl (eh.sl f))).2 d rfl,λf=>(h.sep i g _ (.inr (eh.sl f))).2 d rfl,λe=>(h.sep i g u (.inr (r q).1)).2 d e.symm,by omega,λk h1 A f=>by have:=z k h1 A _ f;omega,λj C=>?_,λj C R e=>?_⟩
  ·have L:X.heap.size<=pm P[i] d:=f;omega
  ·by_cases t:i=j
   ·subst t;omega
   ·obtain⟨T,b2,-,-⟩:=tN (p:=P[i]) (by omega) d;rcases Nat.lt_or_gt_of_ne t with m|m
    ·have:=List.pairwise_iff_getElem.1 h.up i j g C m;omega
    ·have:=List.pairwise_iff_getElem.1 h.up j i C g m;omega
  ·obtain⟨T,b2,V,b4⟩:=tN (p:=P[i]) (by omega) d;have a5:=h.gap j C;obtain⟨c1,c2,c3,c4⟩:=tN (p:=P[j]) (by omega) R;by_cases t:i=j
   ·subst t;refine⟨rfl,?_⟩;cases d<;>cases R<;>first|rfl|(have x1:=b4 rfl;have x2:=c3 rfl;omega)|(have x1:=V rfl;have x2:=c4 rfl;omega)
   ·rcases Nat.lt_or_gt_of_ne t with m|m
    ·have:=List.pairwise_iff_getElem.1 h.up i j g C m;omega
    ·have:=List.pairwise_iff_getElem.1 h.up j i C g m;omega
set_option maxRecDepth 10000 in
set_option maxHeartbeats 4000000 in
def JO(hO:L4 s w0 K)(hf0:(∀p∈s.poss,dg s.cts p.c=0)->jW s)(hc16:s.cts.length<=16)(hpo:s.poss.length<=100000)(hac:s.accts.length<=100000)
  (hE:rE s sb ss W)(hC:pO W c F s.day s.cts)(hL:Aa W l F' ⟨s.fund,s.accts,s.poss⟩)(hvn:AS W v c l (.slice none 0 0) (.slice none 0 0) s.next)(hv0:w0.heap.size<=v)(hvW:W.heap.size=v+1)
  (hvF:∀y,F y->y<v)(hvF' :∀y,F' y->y<v)(hsb:sb<v)(hss:∀i,3<=i->i<=7->∀y,eh (ss i) y->y<v)(m0:cl (λ_=>False) w0 W):
  cO (S:=Value×Unit) (Ap (pt c) (pt v) (pt sb) K) (.int .i64 0,()) W:=by
 refine dp (λst X=>∃(i:Nat) (P:List Nat) (Q D:Value),i<=s.cts.length/\st=(.int .i64 i,())/\CN W X v c l s.next i P Q D/\(i=0->D=.slice none 0 0))
  (λst _=>match st.1 with| .int _ k=>s.cts.length - k.toNat|_=>0) ⟨0,[],_,_,by omega,rfl,CN.zero hvn (cl.refl _ _),λ_=>rfl⟩ ?_
 rintro _ X ⟨i,P,Q,D,hi,rfl,g,hz⟩ KN hKN;have hCX:pO X c F s.day s.cts:=hC.mod g.md λy f e=>by have:=hvF y f;omega
 obtain⟨sl,fl,-,ls,hR,-,ln⟩:=hCX.ld;unfold Ap;intro _;simp only[cr];refine ck (fl 1 (by omega) _) (ck ls (fI (ln _) ?_));by_cases hlt:i<s.cts.length
 ·have hlt' :(i:Int)<(s.cts.length:Int):=by omega
  refine ck (v:=.bool true) (by simp[go_sem,hlt']<;>first|exact⟨rfl,rfl⟩|exact rfl) ?_;rw[ci,if_pos rfl];have w:=gG g.oB.rd;have q:=gG g.oD.rd;have hPl:=g.len;have md:=(cl.refl (λ_=>False) X).drew;have j:AS X.drew v c l Q D s.next:=md.hpk g.vn id;have T:=g.oB.mod md λ_ _ h=>h;have oDV:=g.oD.mod md λ_ _ h=>h;have E:=λk r=>And.intro (md.hpk (g.bk k r).1 id) λd=>md.hpk ((g.bk k r).2 d) id;have mdV:cl (λy=>y=v) W X.drew:=g.md.trans (md.mono λ_ _ h=>h.elim);have hXz:=md.size;generalize X.drew=V at j T oDV E mdV hXz|-;clear md;refine co (λW=>rD v 2 (by omega) W) (cB (uZ j w q).2.2.1 ?_);refine yB λw7 hz7 c0 c1 c2 m7=>?_;obtain⟨nn,N⟩:∃nn,nn=V.heap.size:=⟨_,rfl⟩
  rw[<-N]at hz7 c0 c1 c2|-;refine⟨(uZ (m7.hpk j id) w q).2.2.1,?_⟩;have I:pm (nn+2) true=nn/\pm (nn+2) false=nn+1:=⟨rfl,rfl⟩
  refine fE [pt (nn+2)] JQ (cK PJ) rfl rfl (by intro v hv;rw[List.mem_singleton.1 hv];rfl) (by omega) ?_;have e0:(([pt (nn+2)]:List Value).flatMap (·.cells.toList)).toArray= #[pt (nn+2)]:=rfl;rw[e0];have m8:cl (λ_=>False) w7 (w7.alloc (.cells #[pt (nn+2)] Gp)):=(cl.refl _ w7).alloc _
  have r8:Rd (w7.alloc (.cells #[pt (nn+2)] Gp)) 1 (.slice (some ⟨w7.heap.size,0,none⟩) 1 1) 1 [pt (nn+2)]:=
   ⟨rfl,.inr ⟨_,0,1,rfl,Nat.le_refl _,At.all (cN (by rw[cU,if_pos rfl]))⟩⟩
  generalize w7.alloc (.cells #[pt (nn+2)] Gp)=w8 at m8 r8|-;have M8:=m7.trans m8;refine⟨(uZ (M8.hpk j id) w q).2.2.1,?_⟩;refine dz (n:=P.length) (m:=1) JQ JQ (cK PJ) (T.mod M8 λ_ _ h=>h) r8 rfl (by omega) λJ w9 o9 m9 n9=>?_;have hz8:=m8.size;have hnv9:¬cv Q v:=λf=>by have:=g.nB v f;omega
  have vn9:AS w9 v c l Q D s.next:=m9.hpk (M8.hpk j id) hnv9;obtain⟨x1,x2,R,-⟩:=o9.isSl;refine co (λW=>rD v 2 (by omega) W) ?_;obtain⟨x,e10,O,H⟩:=(PZ vn9 w q ⟨_,_,_,R⟩).1;refine dt e10 ?_;have C:∃a n c,J=.slice a n c:=⟨_,_,_,R⟩
  refine ck (rD v 3 (by omega) _) (ck (uZ O C q).2.2.2.1 ?_);refine fE [Value.slice none 0 0] HH (cK Ot) rfl rfl (by intro v hv;rw[List.mem_singleton.1 hv];rfl) (by omega) ?_;have e1:(([Value.slice none 0 0]:List Value).flatMap (·.cells.toList)).toArray= #[Value.slice none 0 0]:=rfl;rw[e1];have t:cl (λ_=>False) x (x.alloc (.cells #[Value.slice none 0 0] gO)):=(cl.refl _ x).alloc _
  have r11:Rd (x.alloc (.cells #[Value.slice none 0 0] gO)) 1 (.slice (some ⟨x.heap.size,0,none⟩) 1 1) 1 [Value.slice none 0 0]:=
   ⟨rfl,.inr ⟨_,0,1,rfl,Nat.le_refl _,At.all (cN (by rw[cU,if_pos rfl]))⟩⟩
  generalize x.alloc (.cells #[Value.slice none 0 0] gO)=w11 at t r11|-;have hz9:=m9.size;have hz10:=H.size;have hz11:=t.size;have nDv:¬cv D v:=λf=>by have:=g.nD v f;omega
  have oD9:d7 w9 gO 1 D P.length ((List.range P.length).flatMap λ_=>[Value.slice none 0 0]):=(oDV.mod M8 λ_ _ h=>h).mod m9 λy f hc=>g.dj y hc f;have oD11:=(oD9.mod H λy f e=>by have:=g.nD y f;omega).mod t λ_ _ h=>h;refine dz (n:=P.length) (m:=1) HH HH (cK Ot) oD11 r11 rfl (by omega) λsD' w12 o12 A L=>?_;have vn12:AS w12 v c l J D s.next:=A.hpk (t.hpk O id) nDv;obtain⟨y1,y2,hsD',-⟩:=o12.isSl;refine ck (rD v 3 (by omega) _) ?_;obtain⟨w13,e13,vn13,M⟩:=(PZ vn12 C q ⟨_,_,_,hsD'⟩).2;refine dt e13 ?_;refine ck (v:=.int .i64 ((i+1:Nat):Int)) (w' :=w13) (by simp[go_sem];rw[cS (by omega) (by omega)]) ?_;have hz12:=A.size;have hVv:=cn j;have U:∀y,cv J y->v<y:=λy f=>(n9 y f).elim (g.nB y) λh=>by omega
  have nD' :∀y,cv sD' y->v<y:=λy f=>(L y f).elim (g.nD y) λh=>by omega
  have keep:∀(b:Nat) (o:Obj),b≠v->¬cv Q b->¬cv D b->hp w8 b=some o->hp w13 b=some o:=λb o h1 Z h3 h=>M.hpk (A.hpk (t.hpk (H.hpk (m9.hpk h Z) h1) id) h3) h1;have Y:(P++[nn+2]).length=P.length+1:=by simp
  have gk:∀k (r:k<(P++[nn+2]).length),(∃h:k<P.length,(P++[nn+2])[k]=P[k])\/(k=P.length/\(P++[nn+2])[k]=nn+2):=λk r=>by
   by_cases h:k<P.length
   ·exact .inl ⟨h,List.getElem_append_left h⟩
   ·exact .inr ⟨by omega,by rw[List.getElem_append_right (by omega)];simp⟩
  have B:∀y,cv Q y->y<nn:=λy f=>by rw[N];exact T.lt f
  have z:∀y,cv D y->y<nn:=λy f=>by rw[N];exact oDV.lt f
  have hPk:∀k (r:k<P.length),P[k]<nn/\∀d,pm P[k] d<nn:=λk r=>by
   rw[N];exact⟨cn (E k r).1,λd=>cn ((E k r).2 d)⟩
  refine hKN _ _ ⟨i+1,P++[nn+2],J,sD',by omega,rfl,⟨by rw[Y];omega,vn13,?_,?_,U,nD',λy f hy' =>?_,λk r=>?_,λk r=>?_,?_,λk r y f=>?_,?_⟩,λh=>by omega⟩ (by show s.cts.length - (((i+1:Nat):Int)).toNat<s.cts.length - ((i:Int)).toNat;omega)
  ·rw[Y,List.flatMap_append];have o9' :=(o9.mod H λy f e=>by have:=U y f;omega).mod t λ_ _ h=>h;refine(o9'.mod A λy f hc=>?_).mod M λy f e=>by have:=U y f;omega
   rcases n9 y f with u|u
   ·exact g.dj y u hc
   ·have:=z y hc;omega
  ·rw[Y,pB];exact o12.mod M λy f e=>by have:=nD' y f;omega
  ·rcases n9 y f with h1|h1
   ·rcases L y hy' with Z|Z
    ·exact g.dj y h1 Z
    ·have:=B y h1;omega
   ·rcases L y hy' with Z|Z
    ·have:=z y Z;omega
    ·have:=o9.lt f;omega
  ·rcases gk k r with⟨h,e⟩|⟨h,e⟩
   ·rw[e];have g1:=g.gap k h;refine⟨keep _ _ (by omega) (λf=>(g.sep k h _ (.inl f)).1 rfl) (λf=>(g.sep k h _ (.inr f)).1 rfl) (M8.hpk (E k h).1 id),λd=>keep _ _ ?_ (λf=>(g.sep k h _ (.inl f)).2 d rfl) (λf=>(g.sep k h _ (.inr f)).2 d rfl) (M8.hpk ((E k h).2 d) id)⟩;obtain⟨a1,a2,-,-⟩:=tN (p:=P[k]) (by omega) d;omega
   ·rw[e];refine⟨keep _ _ (by omega) (λf=>by have:=B _ f;omega) (λf=>by have:=z _ f;omega) (m8.hpk c0 id),λd=>?_⟩;cases d
    ·exact keep _ _ (by rw[I.2];omega) (λf=>by have:=B _ f;rw[I.2]at this;omega) (λf=>by have:=z _ f;rw[I.2]at this;omega) (m8.hpk c2 id)
    ·exact keep _ _ (by rw[I.1];omega) (λf=>by have:=B _ f;rw[I.1]at this;omega) (λf=>by have:=z _ f;rw[I.1]at this;omega) (m8.hpk c1 id)
  ·rcases gk k r with⟨h,e⟩|⟨h,e⟩
   ·rw[e];exact g.gap k h
   ·rw[e];omega
  ·rw[List.pairwise_append];refine⟨g.up,List.pairwise_singleton _ _,λa ha b hb=>?_⟩;rw[List.mem_singleton.1 hb];obtain⟨k,r,rfl⟩:=List.getElem_of_mem ha;have:=(hPk k r).1;omega
  ·have hyc:y<nn/\(cv Q y\/cv D y)\/nn+3<=y:=by
    rcases f with f|f
    ·rcases n9 y f with u|u
     ·exact .inl ⟨B y u,.inl u⟩
     ·exact .inr (by omega)
    ·rcases L y f with u|u
     ·exact .inl ⟨z y u,.inr u⟩
     ·exact .inr (by omega)
   rcases gk k r with⟨h,e⟩|⟨h,e⟩
   ·rw[e];rcases hyc with⟨-,u⟩|u
    ·exact g.sep k h y u
    ·have a1:=(hPk k h).1;exact⟨by omega,λd=>by have:=(hPk k h).2 d;omega⟩
   ·rw[e];rcases hyc with⟨u,-⟩|u
    ·exact⟨by omega,λd=>by cases d;(rw[I.2];omega);(rw[I.1];omega)⟩
    ·exact⟨by omega,λd=>by cases d;(rw[I.2];omega);(rw[I.1];omega)⟩
  ·have a1:=(mdV.trans (M8.mono λ_ _ h=>h.elim)).on m9 λy f=>.inr (by have:=g.nB y f;omega);have a2:=(a1.trans H).trans (t.mono λ_ _ h=>h.elim);exact(a2.on A λy f=>.inr (by have:=g.nD y f;omega)).trans M
 ·obtain rfl:i=s.cts.length:=by omega
  refine ck (v:=.bool false) (by simp[go_sem]<;>first|exact⟨rfl,rfl⟩|exact rfl) ?_;rw[ci,if_neg Bool.false_ne_true];obtain⟨G,bD,hfr⟩:=g.fr0 (w0:=w0) g.len hE hC hL hv0 hvF hvF' hsb hss m0 λh=>hz (by rw[<-g.len];exact h);exact Ml hO hf0 hc16 hpo hac hfr
end
set_option maxRecDepth 10000 in
set_option maxHeartbeats 2000000 in
def Bh{w:World}{K:cm}{s:iN}{ss:Nat->Value}(h:eW w ss s)(C:s.Fit)(S:s.poss.length<=1024)(J:s.accts.length<=100000)(N:s.cts.length<=100000)
  (Q:K6 s->∀x b,cl (λ_=>False) w b->K (.tuple #[x,.int .i64 0]) b)(l:¬K6 s->∀b,cl (λ_=>False) w b->K (.tuple #[.pointer none,.int .i64 2]) b):
  Ca Tryz.prog 25 #[pU s.day s.next s.fund ss] w K:=by
 have hO:L4 s w K:=⟨Q,l⟩
 have j:=h.sl;apply RG;obtain⟨w1,e1,z,E⟩:=pC s.day s.next s.fund ss w;obtain⟨sb,P⟩:∃p,p=w.heap.size:=⟨_,rfl⟩
 rw[<-P]at e1 z;refine ck e1 ?_;have h1:=h.md0 E;refine ck (dZ sb 0 (by omega) _) (ck (gB z).1 (ck (dZ sb 4 (by omega) _) (ck (dR z j 4 (by omega) (by omega)) ?_)));have hsz1:=cn z;refine zP (day:=s.day) h1.cts N C.cts (λn L c F o hC q Y=>?_) λk o q=>?_
 rotate_left
 ·refine ck (v:=.pointer none) (w' :=o) (by simp[go_sem]) (ck (v:=.int .i64 2) (w' :=o) (by simp[go_sem]) ?_);refine ck (v:=.bool true) (w' :=o) (by simp[go_sem]) ?_;rw[ci,if_pos rfl];refine l (λe=>?_) _ (E.trans q);obtain⟨T,D',g⟩:=e;exact k ⟨g.from0.len,g.from0.cts⟩
 refine ck (v:=pt c) (w' :=o) (by simp[go_sem]) (ck (v:=.int .i64 0) (w' :=o) (by simp[go_sem]) ?_);refine ck (v:=.bool false) (w' :=o) (by simp[go_sem]) ?_;rw[ci,if_neg Bool.false_ne_true];have I:cR o sb s.day s.next s.fund ss:=q.hpk z id;have U:=h1.md0 q;refine ck (dZ sb 2 (by omega) _) (ck (gB I).2.2 (ck (dZ sb 3 (by omega) _) (ck (dR I j 3 (by omega) (by omega)) (ck (dZ sb 5 (by omega) _) (ck (dR I j 5 (by omega) (by omega)) ?_)))));refine Hv (f:=s.fund) U.accts U.poss (by omega) S (λa ha=>(C.accts a ha).1) C.poss (λO d r G Z t V=>?_) λk d t=>?_
 rotate_left
 ·refine ck (v:=.pointer none) (w' :=d) (by simp[go_sem]) (ck (v:=.int .i64 2) (w' :=d) (by simp[go_sem]) ?_);refine cy.at (λst W=>st=(.bool true,())/\d=W) ?_ ?_
  ·refine ck (v:=.bool true) (w' :=d) (by simp[go_sem]) ?_;rw[ci,if_pos rfl];exact⟨rfl,rfl⟩
  rintro _ W ⟨rfl,rfl⟩;unfold Ae;intro _;rw[ci,if_pos rfl];refine l (λe=>?_) _ ((E.trans q).trans t);obtain⟨T,D',g⟩:=e;exact k g.from0.led
 refine ck (v:=pt r) (w' :=d) (by simp[go_sem,dn]) (ck (v:=.int .i64 0) (w' :=d) (by simp[go_sem]) ?_);have H:cR d sb s.day s.next s.fund ss:=t.hpk I id;have M:=(E.trans q).trans t;have hn64:=C.next;refine cy.at (λst W=>st=(.bool (decide (¬(1<=s.next/\s.next<=jx+1))),())/\d=W) ?_ ?_
 ·refine ck (v:=.bool false) (w' :=d) (by simp[go_sem]) ?_;rw[ci,if_neg Bool.false_ne_true];refine ck (dZ sb 1 (by omega) _) (ck (gB H).2.1 ?_);refine ck (v:=.bool (decide (s.next<1))) (w' :=d) (by simp[go_sem]) ?_;by_cases A:s.next<1
  ·rw[decide_eq_true A,ci,if_pos rfl];refine⟨?_,rfl⟩;rw[decide_eq_true (p:=¬(1<=s.next/\s.next<=jx+1)) (by omega)]
  rw[decide_eq_false A,ci,if_neg Bool.false_ne_true];refine ck (dZ sb 1 (by omega) _) (ck (gB H).2.1 ?_);refine ck (v:=.bool (decide (4611686018427387905<s.next))) (w' :=d) (by simp[go_sem]) ?_;refine⟨?_,rfl⟩;congr 2;rw[decide_eq_decide];unfold jx;omega
 rintro _ W ⟨rfl,rfl⟩;unfold Ae;intro _;by_cases m:1<=s.next/\s.next<=jx+1
 rotate_left
 ·rw[decide_eq_true m,ci,if_pos rfl];refine l (λe=>?_) _ M;obtain⟨T,D',g⟩:=e;exact m g.from0.next
 rw[decide_eq_false (by simpa using m),ci,if_neg Bool.false_ne_true];refine ck (dZ sb 1 (by omega) _) (ck (gB H).2.1 ?_);refine ck (v:=.agg (If c r (.slice none 0 0) (.slice none 0 0) s.next)) (w' :=d) (by simp[go_sem,If]) ?_;obtain⟨v,R⟩:∃v,v=d.heap.size:=⟨_,rfl⟩
 have u:cl (λ_=>False) d (d.alloc (.cells (If c r (.slice none 0 0) (.slice none 0 0) s.next) J4)):=(cl.refl _ d).alloc _;have X:(d.alloc (.cells (If c r (.slice none 0 0) (.slice none 0 0) s.next) J4)).heap.size=v+1:=by rw[World.size_alloc,R]
 have b4:AS (d.alloc (.cells (If c r (.slice none 0 0) (.slice none 0 0) s.next) J4)) v c r (.slice none 0 0) (.slice none 0 0) s.next:=by show hp _ _=_;rw[R];simp[go_sem]
 refine ck (v:=pt v) (w' :=d.alloc (.cells (If c r (.slice none 0 0) (.slice none 0 0) s.next) J4)) (by rw[R];rfl) ?_;generalize d.alloc (.cells (If c r (.slice none 0 0) (.slice none 0 0) s.next) J4)=w4 at u X b4|-;have hm1:=E.size;have hm2:=q.size;have hm3:=t.size;have B:=hC.md0 t;refine JO hO (λhp=>⟨n,L,O,m,hp⟩) n (by omega) J ⟨u.hpk H id,h.md0 (M.trans u),C⟩ (B.md0 u) (Z.modF u) b4 (by omega) X (λy D=>by have:=B.lt y D;omega) (λy D=>by have:=Z.lt y D;omega) (by omega) (λi a1 a2 y D=>by have:=(h i a1 a2).lt D;omega) (M.trans u)
def yv:Tryz.prog.underlying 9=some .string:=by kernel_rfl
def Hu:Tryz.prog.underlying 5=some (.int .u8):=by kernel_rfl
def Ch(x y:List UInt8)(w:World):(nE .neq 9 false (.string (jV x)) (.string (jV y))).run Tryz.prog w=.ok (.bool (decide (x≠y))) w:=by
 simp[go_sem];by_cases h:x=y<;>simp[h]
def JX(l:List UInt8):Prop:=de l (dh l).2=0/\K6 (dh l).1
def y4{l:List UInt8}:JX l↔∃S,jr l=some ((dh l).1,S):=by
 unfold JX jr;by_cases a:de l (dh l).2=0
 ·rw[if_pos a];constructor
  ·rintro⟨-,h⟩;obtain⟨S,e⟩:=Mr (jD l) h;exact⟨S,by rw[e];rfl⟩
  ·rintro⟨S,e⟩;refine⟨a,?_⟩;cases b:gm (dh l).1 with
   |none=>rw[b]at e;cases e
   |some T=>exact Mj (jD l) b
 ·rw[if_neg a];exact⟨λh=>absurd h.1 a,λ⟨S,e⟩=>by cases e⟩
def EU{l:List UInt8}(h:¬JX l):jr l=none:=by
 cases a:jr l with
 |none=>rfl
 |some x=>
  exfalso;apply h;rw[y4];unfold jr at a|-;by_cases b:de l (dh l).2=0
  ·rw[if_pos b]at a|-;cases c:gm (dh l).1 with
   |none=>rw[c]at a;cases a
   |some T=>exact⟨T,rfl⟩
  ·rw[if_neg b]at a;cases a
section
attribute [local irreducible] nI dh pp pf mg st3 st4 st5 st6 st7 Da de
variable{w0 W:World}{r z q:Nat}{v:Value}{l:List UInt8}{ss:Nat->Value}{K:cm}
def Fx{X:World}(m:cR X z 0 0 0 (ij cG))(i:∀g,cl (λy=>y=z) X g->K (.tuple #[pU 0 0 0 (ij cG),.int .i64 5]) g):
  rv Tryz.prog (Instr.build kJ #[]) X λe b=>ru Tryz.prog (Instr.storeAt kJ (pt z) e) b λa=>sI Tryz.prog (Instr.loadAt kJ (pt z)) a λc=>K (.tuple #[c,.int .i64 5]) a:=by
 refine ck (G8 X) ?_;obtain⟨o,h,k,j⟩:=th (d:=0) (n:=0) (f:=0) (ss:=ij cG) m rfl oe;refine dt h (cB (mz k) ?_);exact i _ j
def yw(h:kM w0 W r z q v l (st7 l).2 (pp l).1 (pf l).1 (mg l).1 ss (st3 l).1 (st4 l).1 (st5 l).1 (st6 l).1 (st7 l).1)(a:de l (nI l).2=0):
  kM w0 W r z q v l (dh l).2 (dh l).1.day (dh l).1.next (dh l).1.fund ss (dh l).1.accts (dh l).1.cts (dh l).1.poss (dh l).1.ords (dh l).1.bids:=by
 have e:=(vU l).2 a;rw[Co]at e;rw[<-e];exact h
set_option maxRecDepth 10000 in
set_option maxHeartbeats 2000000 in
def SP(hl:l.length<=1000000000)(h:kM w0 W r z q v l (st7 l).2 (pp l).1 (pf l).1 (mg l).1 ss (st3 l).1 (st4 l).1 (st5 l).1 (st6 l).1 (st7 l).1){s:Value×Unit}{K' :Value×Unit->World->Prop}
  (Z:JX l->∀b F,eW b F (dh l).1->cl (λ_=>False) w0 b->K (.tuple #[Bc (dh l).1 F,.int .i64 0]) b)
  (Q:¬JX l->∀b,cl (λ_=>False) w0 b->K (.tuple #[pU 0 0 0 (ij cG),.int .i64 5]) b):
  qC (.pointer (some ⟨q,0,none⟩)) (dJ r) s K' v (.pointer (some ⟨z,0,none⟩)) K (.bool false,()) W:=by
 unfold qC;intro _;rw[ci,if_neg Bool.false_ne_true];have j:=vU l;have D:=h.ge;refine cy.at (λst X=>∃O:Bool,st=(.bool O,())/\cl (λ_=>False) W X/\(O=true↔de l (dh l).2≠0)) ?_ ?_
 ·have md:=(cl.refl (λ_=>False) W).drew;have T:=h.md0 md;generalize W.drew=V at md T|-;refine GH T.rd ?_;have e7:(st7 l).2=(nI l).2:=by rw[Co]
  rw[e7];refine co (v:=.bool (decide (de l (nI l).2≠0))) (λW=>by by_cases w:de l (nI l).2=0<;>simp[go_sem,w]) ?_;by_cases w:de l (nI l).2=0
  rotate_left
  ·rw[decide_eq_true w,ci,if_pos rfl];exact⟨true,rfl,md,⟨λ_ hc=>w (j.1.2 hc),λ_=>rfl⟩⟩
  rw[decide_eq_false (by simpa using w),ci,if_neg Bool.false_ne_true];have B:=j.1.1 w;have o:=yw T w;have m:=jD l;have H:=lX l;have g:eW V ss (dh l).1:=λi h1 p=>(o.st.own i h1 p).rd;refine cB (mz o.st.at_) ?_;refine wu ny Hu yv o.rd.rd ?_;have N:∀k∈(dh l).1.cts,k.spec.may=true:=Jy B;refine CJ g m ⟨by omega,by omega,by omega,by omega,by omega⟩ N λs' b U=>?_;refine⟨rK ny Hu yv (o.rd.rd.mod U.m0 λ_ _ h=>h),?_⟩;refine wu ny Hu yv U.own.rd ?_;rw[Eo B];refine co (v:=.bool false) (λW=>by rw[Ch];simp) ?_;exact⟨false,rfl,md.trans U.m0,⟨λh=>(by cases h),λh=>absurd B h⟩⟩
 rintro _ X ⟨O,rfl,mX,J⟩;unfold Lu;intro _;have S:=h.md0 mX
 have t:∀Y,cl (λ_=>False) X Y->¬JX l->rv Tryz.prog (Instr.build kJ #[]) Y λI G=>ru Tryz.prog (Instr.storeAt kJ (pt z) I) G λu=>sI Tryz.prog (Instr.loadAt kJ (pt z)) u λE=>K (.tuple #[E,.int .i64 5]) u:=λY mY hn=>by
  refine Fx ((S.md0 mY).rs) λb C=>?_;exact Q hn _ ((S.md0 mY).md.on C λy L=>.inr (by rw[L];exact D.2.1))
 cases O with
 |true=>
  rw[ci,if_pos rfl];exact t X (cl.refl _ _) λP=>J.1 rfl P.1
 |false=>
 rw[ci,if_neg Bool.false_ne_true]
 have B:de l (dh l).2=0:=by
  apply Classical.byContradiction;intro hc;cases J.2 hc
 have o:=yw S (j.1.2 B);have m:=jD l;have H:=lX l;have g:eW X ss (dh l).1:=λi h1 p=>(o.st.own i h1 p).rd;refine ck (mz o.st.at_) ?_;refine Bh g m (by omega) (by omega) (by omega) (λM x b C=>?_) λR b C=>?_
 ·refine ck (v:=x) (w' :=b) (by simp[go_sem]) (ck (v:=.int .i64 0) (w' :=b) (by simp[go_sem]) ?_);refine ck (v:=.bool false) (w' :=b) (by simp[go_sem]) ?_;rw[ci,if_neg Bool.false_ne_true];have A:=o.md0 C;refine ck (mz A.st.at_) ?_;obtain⟨w5,e5,b5,m5⟩:=th (d:=(dh l).1.day) (n:=(dh l).1.next) (f:=(dh l).1.fund) (ss:=ss) A.rs rfl (λi h1 p=>by obtain⟨a,c,e⟩:=(g i h1 p).isSl;exact⟨a,_,c,e⟩);refine dt e5 (cB (mz b5) ?_);refine Z ⟨B,M⟩ w5 ss (λi h1 p=>((g.md0 C) i h1 p).mod m5 λy L e=>?_) (A.md.on m5 λy L=>.inr (by rw[L];exact D.2.1));exact o.nz (.inr ⟨i,h1,p,e▸eh.sl L⟩)
 ·refine ck (v:=.pointer none) (w' :=b) (by simp[go_sem]) (ck (v:=.int .i64 2) (w' :=b) (by simp[go_sem]) ?_);refine ck (v:=.bool true) (w' :=b) (by simp[go_sem]) ?_;rw[ci,if_pos rfl];exact t b C λP=>R P.2
set_option maxRecDepth 10000 in
set_option maxHeartbeats 2000000 in
def yC{w:World}(h:Rd w 1 v l.length (bv l))(hl:l.length<=1000000000)
  (L:JX l->∀n B,eW n B (dh l).1->cl (λ_=>False) w n->K (.tuple #[Bc (dh l).1 B,.int .i64 0]) n)
  (M:¬JX l->∀n,cl (λ_=>False) w n->K (.tuple #[pU 0 0 0 (ij cG),.int .i64 5]) n):Ca Tryz.prog 19 #[v] w K:=by
 have C:∀b,eh v b->b<w.heap.size:=λb o=>h.lt o;apply RE;obtain⟨m,V,O,m1⟩:=kD w;obtain⟨z,hz⟩:∃z,z=w.heap.size:=⟨_,rfl⟩
 rw[<-hz]at V O;refine ck V ?_;obtain⟨va,vc,N⟩:=h.isSl;refine ck (v:=.agg #[v,.int .i64 0]) (w' :=m) (by rw[N];simp[go_sem]) ?_;obtain⟨r,hr⟩:∃r,r=m.heap.size:=⟨_,rfl⟩
 have F:cl (λ_=>False) m (m.alloc (.cells #[v,.int .i64 0] 154)):=(cl.refl _ m).alloc _;have S:hp (m.alloc (.cells #[v,.int .i64 0] 154)) r=some (.cells #[v,.int .i64 0] 154 (0,0)):=by rw[hr];simp[go_sem]
 refine ck (v:=.pointer (some ⟨r,0,none⟩)) (w' :=m.alloc (.cells #[v,.int .i64 0] 154)) (by rw[hr];rfl) ?_;generalize m.alloc (.cells #[v,.int .i64 0] 154)=w2 at F S|-;obtain⟨w3,e3,H,P⟩:=kD w2;obtain⟨q,hq⟩:∃q,q=w2.heap.size:=⟨_,rfl⟩
 rw[<-hq]at e3 H;refine ck e3 ?_;have hz1:=cn O;have hr2:=cn S;have hq3:=cn H;have hm1:=m1.size;have hm2:=F.size;have R:=(m1.trans F).trans P;have s0:=oe
 have A:∀{i:Nat} {y:Nat},3<=i->i<=7->¬cv (ij cG i) y:=λ{i y} h1 h2 c=>by
  unfold ij at c;split at c<;>cases c
 have G:∀i,3<=i->i<=7->d7 w3 (DU i) (AM i) (ij cG i) (LN [] [] [] [] [] i) (LC [] [] [] [] [] i):=λi h1 h2=>by
  rcases(show i=3\/i=4\/i=5\/i=6\/i=7 by omega)with rfl|rfl|rfl|rfl|rfl<;>exact d7.nil _ _ _
 have U:kM w w3 r z q v l ⟨0,0⟩ 0 0 0 (ij cG) [] [] [] [] []:=by
  refine⟨⟨⟨v,P.hpk S id,by simpa using h.mod R λ_ _ h=>h,λb o=>o⟩,Nat.zero_le _,λhv=>by have:=C r hv;omega,hl,h.mod R λ_ _ h=>h⟩,⟨H,G,λi j y f g a3 a4 c=>absurd c (A f g),λi y f g c=>absurd c (A f g)⟩,P.hpk (F.hpk O id) id,R,⟨by omega,by omega,by omega⟩,by omega,λk=>?_,λk=>?_,C⟩
  ·rcases k with k|⟨i,f,g,k⟩
   ·omega
   ·exact A f g k
  ·rcases k with k|⟨i,f,g,k⟩
   ·omega
   ·exact A f g k
 have u:∀{X Y:World} {t:Rs} {d Z T Q x p:Int},kM w X r z q v l t d Z T (ij cG) [] [] [] [] []->cR Y q Q x p (ij cG)->cl (λy=>y=q) X Y->kM w Y r z q v l t Q x p (ij cG) [] [] [] [] []:=λ{X Y t d Z T Q x p} a o E=>by
  have I:r≠q:=λe=>a.nr (.inl e);have J:z≠q:=λe=>a.nz (.inl e);exact⟨a.rd.mod E I λb o e=>by have:=a.vb b o;have:=a.ge.2.2;omega,⟨o,λi f g=>(a.st.own i f g).mod E λy c=>absurd c (A f g),a.st.dj,a.st.nw⟩,E.hpk a.rs J,a.md.on E λy c=>.inr (by rw[c];exact a.ge.2.2),a.ge,a.rz,a.nr,a.nz,a.vb⟩
 refine oU U.rd λw4 r4 m4=>?_;have h4:=U.rdr r4 m4;refine ck (dX _ 0 (by omega)) ?_;obtain⟨w5,e5,b5,m5⟩:=(rG h4.st.at_).1 (cz l fF ⟨0,0⟩).1;refine dt e5 ?_;have h5:=u h4 b5 m5;refine B2 h5.rd λw6 r6 m6=>?_;have h6:=h5.rdr r6 m6;refine ck (dX _ 1 (by omega)) ?_;obtain⟨w7,e7,b7,m7⟩:=(rG h6.st.at_).2.1 (cz l qa (cz l fF ⟨0,0⟩).2).1;refine dt e7 ?_;have h7:=u h6 b7 m7;refine jO h7.rd λw8 r8 m8=>?_;have h8:=h7.rdr r8 m8;refine ck (dX _ 2 (by omega)) ?_;obtain⟨w9,e9,b9,m9⟩:=(rG h8.st.at_).2.2 (di l (cz l qa (cz l fF ⟨0,0⟩).2).2).1;refine dt e9 ?_;have D:=u h8 b9 m9;have f0:cz l fF ⟨0,0⟩=pp l:=by unfold pp;rfl
 rw[f0]at D;have f1:cz l qa (pp l).2=pf l:=by unfold pf;rfl
 rw[f1]at D;have f2:di l (pf l).2=mg l:=by unfold mg;rfl
 rw[f2]at D;refine fS D.rd (most:=64) (by omega) λwA rA mA=>?_;exact Tu (λW ss s K' hE=>SP hl hE L M) (D.rdr rA mA)
end
end Go.Proofs
namespace Go.Proofs
open Go Go.Vc
def uQ{α β:Type}{f g:α->List β}:∀{l:List α},(∀x∈l,f x=g x)->l.flatMap f=l.flatMap g
 | [],_=>rfl
 |x::l,h=>by rw[List.flatMap_cons,List.flatMap_cons,h x List.mem_cons_self,uQ λy a=>h y (List.mem_cons_of_mem _ a)]
def wt:∀(ns:List Int) (H:List Po),ns.Pairwise (· < ·)->kZ H->(∀p∈H,p.c∈ns)->(ns.flatMap λn=>H.filter λp=>decide (p.c=n))=H
 | [],H,_,_,h=>by
  cases H with
  |nil=>rfl
  |cons p H=>exact absurd (h p List.mem_cons_self) (by simp)
 |n::ns,H,o,e,h=>by
  obtain⟨d,f⟩:=List.pairwise_cons.1 o
  have key:∀H:List Po,kZ H->(∀p∈H,p.c∈n::ns)->H=(H.filter λp=>decide (p.c=n))++H.filter λp=>decide (p.c≠n):=by
   intro H;induction H with
   |nil=>intro _ _;rfl
   |cons p H g=>
    intro e h;obtain⟨l,i⟩:=List.pairwise_cons.1 e;by_cases hp:p.c=n
    ·rw[List.filter_cons_of_pos (by simpa using hp),List.filter_cons_of_neg (by simpa using hp)];have:=g i λq a=>h q (List.mem_cons_of_mem _ a);rw[List.cons_append,<-this]
    ·have b:∀q∈H,q.c≠n:=λq a t=>by
      have h1:=l q a;rw[iB]at h1;simp only[Po.key]at h1;have c:=h p List.mem_cons_self;rcases List.mem_cons.1 c with c|c
      ·exact hp c
      ·have:=d _ c;omega
     rw[List.filter_cons_of_neg (by simpa using hp),List.filter_cons_of_pos (by simpa using hp)];have s:H.filter (λp=>decide (p.c=n))=[]:=List.filter_eq_nil_iff.2 λq a=>by simpa using b q a
     have j:H.filter (λp=>decide (p.c≠n))=H:=List.filter_eq_self.2 λq a=>by simpa using b q a
     rw[s,j];rfl
  have g:=wt ns (H.filter λp=>decide (p.c≠n)) f (e.sublist List.filter_sublist) λp hp=>by
   rw[List.mem_filter,decide_eq_true_eq]at hp;exact(List.mem_cons.1 (h p hp.1)).resolve_left hp.2
  rw[List.flatMap_cons]
  conv=>rhs;rw[key H e h]
  congr 1;rw[<-g];refine uQ λm r=>?_;have k:=d m r;rw[List.filter_filter];refine List.filter_congr λp _=>?_;by_cases hp:p.c=m
  ·simp[hp];omega
  ·simp[hp]
def DE{S:dx}(h:S.Ok):S.nums.Pairwise (· < ·):=by
 unfold dx.nums;exact List.pairwise_map.2 h.cal.srt
def AO{S:dx}(h:S.Ok):S.state.poss=S.led.held:=
 wt S.nums S.led.held (DE h) h.led.led.sp λp hp=>Ep (h.led.held p hp)
def zm{s:iN}{S:dx}(b:s.Fit)(h:gm s=some S):S.state=s:=by
 obtain⟨h1,c,g,d,f,a⟩:=sw b h;have hp:=AO h1;have e:S.state=⟨S.cal.day,S.next,S.led.fund,S.led.all,S.cal.l,S.state.poss,S.state.ords,S.state.bids⟩:=rfl;rw[e,hp,f,a,c,g,d]
end Go.Proofs
set_option maxRecDepth 100000
namespace Go.Proofs
open Go Go.Vc
def Hg(a:cm)(b c d:Value)(e:T1)(f:World):=NV->cC e.1 (a (.bool false) f) (gb .neq 26 true b (gI 0) f λg h=>cC g (gb .eql 23 true c (.pointer none) h λi j=>cC i (Ca Tryz.prog 17 #[] j a) (a (.bool false) j)) (df 49 d h.drew λk=>Ca Tryz.prog 14 #[c] h.drew λl m=>gk 49 d k m/\(Ca Tryz.prog 16 #[l,k] m λn o=>cC n (Ca Tryz.prog 17 #[] o a) (a (.bool false) o))))
def TA{a:Value}{b:World}{c:cm}(h0:gn 54 false a b λd e=>gb .gtr 3 true d (gI 30000) e λf g=>cC f (Ca Tryz.prog 17 #[] g c) (gx (dQ 54 0 []) g λh i=>gx (cx #[54,54] 54 [h,a]) i λj k=>gx (dQ 54 1 [(0,(.int .u8 77))]) k λl m=>gx (cx #[54,54] 54 [j,l]) m λn o=>gn 54 false a o λp q=>gr (Instr.sliceAt 54 n none (some p) none) q λr s=>Ca Tryz.prog 18 #[r] s λt u=>kU t u λv w x=>gv 49 v x λy z=>Ca Tryz.prog 19 #[a] z λA B=>kU A B λC D E=>gv 49 C E λF G=>Ca Tryz.prog 20 #[r] G λH I=>kU H I λJ K L=>cy (S:=T1) (λM=>gb .neq 26 false w D L λN O=>cC N (M ((.bool true),()) O) (gb .neq 26 false K D O λP Q=>cC P (M ((.bool true),()) Q) (gl 49 y Q λR S=>gl 49 F S λT U=>Ca Tryz.prog 16 #[R,T] U λV W=>gt V W λX Y=>cC X (M ((.bool true),()) Y) (gx (kE 54 9 r) Y λZ aa=>gx (kE 54 9 a) aa λab ac=>gb .neq 9 false Z ab ac λad ae=>cC ad (M ((.bool true),()) ae) (gn 54 false a ae λaf ag=>gb .add 3 true af (gI 1) ag λah ai=>gr (Instr.sliceAt 54 r none (some ah) none) ai λaj ak=>gn 54 false a ak λal am=>kv 54 aj al 5 am λan ao=>gb .neq 5 true an (.int .u8 77) ao λap aq=>M (ap,()) aq))))) (Hg c D J F))):Ca Tryz.prog 4 #[a] b c:=cj Tryz.func4 h0
end Go.Proofs
namespace Go.Proofs
open Go Go.Vc
attribute [local congr] cq
section
variable{w:World}{K:cm}{v:Value}{l:List UInt8}
def uM{s:iN}{S:dx}(h:jr l=some (s,S)):s=(dh l).1/\gm (dh l).1=some S:=by
 unfold jr at h;by_cases a:de l (dh l).2=0
 ·rw[if_pos a]at h;cases b:gm (dh l).1 with
  |none=>rw[b]at h;cases h
  |some T=>rw[b]at h;cases h;exact⟨rfl,rfl⟩
 ·rw[if_neg a]at h;cases h
def Be{x:Nat}{F:Nat->Prop}{S:dx}(h:kj w x F S)(d:S.Ok)(f:∀ss a,eW a ss S.state->cl (λ_=>False) w a->K (pU S.cal.day S.next S.led.fund ss) a):Ca Tryz.prog 14 #[eg x] w K:=by
 obtain⟨c,l,mb,md,A,D,k,j,-⟩:=h;exact rk j d λss b n a g _ m _=>f ss a (λi h1 e=>(g.own i h1 e).rd) m
def IC(d nx g:Int)(ss:Nat->Value)(W:World)(h:∀i,3<=i->i<=7->∃a n c,ss i=.slice a n c):∃e b,(Instr.alloc kJ true (.tuple #[])).run Tryz.prog W=.ok (.pointer (some ⟨W.heap.size,0,none⟩)) e/\(Instr.storeAt kJ (.pointer (some ⟨W.heap.size,0,none⟩)) (pU d nx g ss)).run Tryz.prog e=.ok () b/\cR b W.heap.size d nx g ss/\cl (λ_=>False) W b:=by
 obtain⟨e,q,j,p⟩:=kD W;obtain⟨b,m,o,k⟩:=th (d:=d) (n:=nx) (f:=g) (ss:=ss) j rfl h;exact⟨e,b,q,m,o,p.on k λy r=>.inr (by omega)⟩
def BK(W:World):eW W (ij cG) ⟨0,0,0,[],[],[],[],[]⟩:=λi h1 a=>by
 rcases(show i=3\/i=4\/i=5\/i=6\/i=7 by omega)with rfl|rfl|rfl|rfl|rfl<;>exact⟨rfl,.inl ⟨rfl,_,_,rfl⟩⟩
attribute [local irreducible] dh de Da jr
set_option maxRecDepth 10000 in
set_option maxHeartbeats 4000000 in
def vm(h:Rd w 1 v l.length (bv l))(hK:∀d,cl (λ_=>False) w d->K (.bool true) d):Ca Tryz.prog 4 #[v] w K:=by
 apply TA;obtain⟨a,c,hv⟩:=h.isSl;have ln:∀W,(builtin .len #[54] 3 #[false] #[v]).run Tryz.prog W=.ok (.value (.int .i64 (l.length:Int))) W:=λW=>by rw[hv];simp[go_sem]
 refine fI (ln _) ?_;refine ck (v:=.bool (decide (30000<l.length))) (w' :=w) (by simp[go_sem];omega) ?_;by_cases h3:30000<l.length
 ·rw[ci,if_pos (by simpa using h3)];exact pN λd m=>hK d m
 rw[ci,if_neg (by simpa using h3)];refine xy ny (cK zU) h (pS _) (by omega) λs1 w1 o1 m1 n1=>?_;show rx Tryz.prog (dQ 54 1 [(0,.int .u8 (((77:UInt8).toNat:Nat):Int))]) w1 _;refine xl [77] ny (cK zU) rfl rfl (by omega) λs2 w2 o2 m2 n2=>?_;refine dz (n:=l.length) (m:=1) ny ny (cK zU) (o1.mod m2 λ_ _ h=>h) o2.rd (pS _) (by omega) λs3 U o3 m3 n3=>?_;have M3:cl (λ_=>False) w U:=(m1.trans m2).on m3 λy hy=>.inr (n1 y hy);refine fI (ln _) ?_;obtain⟨b,P,rest,rfl,hcap,hb,-⟩:=o3.pos (by omega);have c8:Tryz.prog.cellsOf 5=0+1:=by kernel_rfl
 obtain⟨vi,J⟩:∃vi,vi=Value.slice (some ⟨b,0,none⟩) l.length P:=⟨_,rfl⟩
 refine ck (v:=vi) (w' :=U) (by rw[J];exact D9 ny c8 (by omega) (by omega) U) ?_;have hbw:hp U b=some (.cells (bv l++bv [77]++rest).toArray 5 (0,0)):=cN hb
 have hR:∀{X:World},cl (λ_=>False) U X->Rd X 1 vi l.length (bv l):=λm=>by
  refine⟨by simp,.inr ⟨b,0,P,J,by omega,_,_,_,m.hpk hbw id,by simp,by simp⟩⟩
 have i:l.length<=1000000000:=by omega
 have fin:∀(X:World) (sa O:Nat->Value) (t Z:iN) (pa pb:Nat) (e:Int) (lv:Value),t=Z->eW X sa t->eW X O Z->cR X pa t.day t.next t.fund sa->cR X pb Z.day Z.next Z.fund O->cl (λ_=>False) U X->
   (t.accts.length<=100000/\t.cts.length<=100000/\t.poss.length<=100000/\t.ords.length<=100000/\t.bids.length<=100000)->
   (∀Y,cl (λ_=>False) X Y->Hg K (.int .i64 e) lv (.pointer (some ⟨pb,0,none⟩)) (.bool false,()) Y)->
   cy (S:=Value×Unit) (λs=>
   rv Tryz.prog (nE .neq 26 false (.int .i64 e) (.int .i64 e)) X λv45 w46=>
   cC v45
   (s ((.bool true),()) w46)
   (rv Tryz.prog (nE .neq 26 false (.int .i64 e) (.int .i64 e)) w46 λv47 w48=>
   cC v47
   (s ((.bool true),()) w48)
   (rv Tryz.prog (Instr.loadAt 49 (.pointer (some ⟨pa,0,none⟩))) w48 λv49 w50=>
   rv Tryz.prog (Instr.loadAt 49 (.pointer (some ⟨pb,0,none⟩))) w50 λv51 w52=>
   Ca Tryz.prog 16 #[v49,v51] w52 λv53 w54=>
   rv Tryz.prog (Op.unary .not v53) w54 λv55 w56=>
   cC v55
   (s ((.bool true),()) w56)
   (rx Tryz.prog (kE 54 9 vi) w56 λv57 w58=>
   rx Tryz.prog (kE 54 9 v) w58 λv59 w60=>
   rv Tryz.prog (nE .neq 9 false v57 v59) w60 λv61 w62=>
   cC v61
   (s ((.bool true),()) w62)
   (rn Tryz.prog (builtin .len #[54] 3 #[false] #[v]) w62 λv63 w64=>
   rv Tryz.prog (nE .add 3 true v63 (.int .i64 1)) w64 λv65 w66=>
   rv Tryz.prog (Instr.sliceAt 54 vi none (some v65) none) w66 λv67 w68=>
   rn Tryz.prog (builtin .len #[54] 3 #[false] #[v]) w68 λv69 w70=>
   rv Tryz.prog (Instr.indexAt 54 v67 v69) w70 λv71 w72=>
   rv Tryz.prog (Instr.loadAt 5 v71) w72 λv73 w74=>
   rv Tryz.prog (nE .neq 5 true v73 (.int .u8 77)) w74 λv75 w76=>
   s (v75,()) w76)))))
   (Hg K (.int .i64 e) lv (.pointer (some ⟨pb,0,none⟩))):=by
  rintro X sa O t Z pa pb e lv rfl hsa g ba bb mX o hJ;refine cy.at (λst Y=>st=(.bool false,())/\cl (λ_=>False) X Y) ?_ λst Y ⟨e1,m⟩=>by rw[e1];exact hJ Y m
  refine ck (v:=.bool false) (w' :=X) (by simp[go_sem]) ?_;rw[ci,if_neg Bool.false_ne_true];refine ck (v:=.bool false) (w' :=X) (by simp[go_sem]) ?_;rw[ci,if_neg Bool.false_ne_true];refine ck (mz ba) (ck (mz bb) ?_);refine uV hsa g o λbo Y R L=>?_;rw[L.2 rfl];refine ck (v:=.bool false) (w' :=Y) (by simp[go_sem]) ?_;rw[ci,if_neg Bool.false_ne_true];have M:=mX.trans R;refine ui ny Hu yv (hR M) ?_;refine ui ny Hu yv (h.mod (M3.trans M) λ_ _ h=>h) ?_;refine ck (Ch _ _ _) ?_;rw[ci,if_neg (by simp)];refine fI (ln _) ?_;refine ck (v:=.int .i64 ((l.length+1:Nat):Int)) (w' :=Y) (by simp[go_sem];rw[cS (by omega) (by omega)]) ?_;refine ck (v:=.slice (some ⟨b,0,none⟩) (l.length+1) P) (w' :=Y) (by rw[J];exact D9 ny c8 (by omega) (by omega) Y) ?_;refine fI (ln _) ?_;have hbY:=M.hpk hbw id;have hll:(bv l).length=l.length:=by simp
  have p:(bv l++bv [77]++rest)[l.length]? =some (.int .u8 77):=by
   rw[List.append_assoc,List.getElem?_append_right (by rw[hll];exact Nat.le_refl _),hll,Nat.sub_self];rfl
  refine ck (v:=.pointer (some ⟨b,l.length,none⟩)) (w' :=Y) (by simp[go_sem,cE,ny];intro hq;omega) ?_;refine ck (v:=.int .u8 77) (w' :=Y) (by simp only[List.append_assoc]at hbY p;simp[go_sem,hbY,p]) ?_;refine ck (v:=.bool false) (w' :=Y) (by simp[go_sem]) ?_;exact⟨rfl,R⟩
 by_cases hd:JX l
 ·obtain⟨S,Q⟩:=y4.1 hd;obtain⟨-,C⟩:=uM Q;have r:=jD l;have o:=lX l;have k:=zm r C;obtain⟨hok,G,D,hnx,-,-⟩:=sw r C;obtain⟨st,z⟩:∃st,st=(dh l).1:=⟨_,rfl⟩
  rw[<-z]at C r o k Q G D hnx;have q:st.accts.length<=100000/\st.cts.length<=100000/\st.poss.length<=100000/\st.ords.length<=100000/\st.bids.length<=100000:=⟨by omega,by omega,by omega,by omega,by omega⟩
  refine tP (hR (cl.refl _ _)) i (λu S' ss A H N m4=>?_) λA H m4=>by rw[Q]at H;cases H
  have e1:=(uM H).1;rw[<-z]at e1;subst e1;have sl4:=N.sl;refine ck (v:=Bc u ss) (w' :=A) (by simp[go_sem]) (ck (v:=.int .i64 0) (w' :=A) (by simp[go_sem]) ?_);obtain⟨w5,w6,e5,e6,b6,m6⟩:=IC u.day u.next u.fund ss A sl4;refine ck e5 (dt e6 ?_);have M6:=m4.trans m6;refine yC (h.mod (M3.trans M6) λ_ _ h=>h) i (λ_ I O g T=>?_) λhn=>absurd hd hn;rw[<-z]at g|-;refine ck (v:=Bc u O) (w' :=I) (by simp[go_sem]) (ck (v:=.int .i64 0) (w' :=I) (by simp[go_sem]) ?_);obtain⟨w8,w9,e8,e9,b9,E⟩:=IC u.day u.next u.fund O I g.sl;refine ck e8 (dt e9 ?_);have M9:=(M6.trans T).trans E;refine xQ (hR M9) i (λx s2 S2 F B f hQ hF j=>?_) λB f j=>by rw[Q]at f;cases f
  have e2:=uM f;rw[<-z]at e2
  have e3:S2=S:=by
   have:=e2.2;rw[C]at this;cases this;rfl
  subst e3;refine ck (v:=eg x) (w' :=B) (by simp[go_sem]) (ck (v:=.int .i64 0) (w' :=B) (by simp[go_sem]) ?_);have MA:=M9.trans j;refine fin B ss O u u _ _ 0 (eg x) rfl (N.md0 ((m6.trans T).trans (E.trans j))) (g.md0 (E.trans j)) (((T.trans E).trans j).hpk b6 id) (j.hpk b9 id) MA q λY R=>?_;unfold Hg;intro _;rw[ci,if_neg Bool.false_ne_true];refine ck (v:=.bool false) (w' :=Y) (by simp[go_sem]) ?_;rw[ci,if_neg Bool.false_ne_true];have md:=R.trans (cl.refl (λ_=>False) Y).drew;generalize Y.drew=V at md|-;have bV:=md.hpk (j.hpk b9 id) id;have hQV:kj V x F S2:=hQ.md0 md;refine cB (mz bV) ?_;refine Be hQV hok λuu wB hu mB=>?_;refine⟨mz (mB.hpk bV id),?_⟩;rw[k]at hu;rw[G,D,hnx];refine uV hu (g.md0 ((E.trans j).trans (md.trans mB))) q λbo wC mC L=>?_;rw[L.2 rfl,ci,if_pos rfl];exact pN λwD mD=>hK wD (((M3.trans MA).trans (md.trans mB)).trans (mC.trans mD))
 ·have Q:=EU hd;refine tP (hR (cl.refl _ _)) i (λu S' ss A H N m4=>by rw[Q]at H;cases H) λA H m4=>?_;refine ck (v:=pU 0 0 0 (ij cG)) (w' :=A) (by simp[go_sem]) (ck (v:=.int .i64 5) (w' :=A) (by simp[go_sem]) ?_);obtain⟨w5,w6,e5,e6,b6,m6⟩:=IC 0 0 0 (ij cG) A oe;refine ck e5 (dt e6 ?_);have M6:=m4.trans m6;refine yC (h.mod (M3.trans M6) λ_ _ h=>h) i (λhn=>absurd hn hd) λ_ I T=>?_;refine ck (v:=pU 0 0 0 (ij cG)) (w' :=I) (by simp[go_sem]) (ck (v:=.int .i64 5) (w' :=I) (by simp[go_sem]) ?_);obtain⟨w8,w9,e8,e9,b9,E⟩:=IC 0 0 0 (ij cG) I oe;refine ck e8 (dt e9 ?_);have M9:=(M6.trans T).trans E;refine xQ (hR M9) i (λx s2 S2 F B f hQ hF j=>by rw[Q]at f;cases f) λB f j=>?_;refine ck (v:=.pointer none) (w' :=B) (by simp[go_sem]) (ck (v:=.int .i64 5) (w' :=B) (by simp[go_sem]) ?_);have MA:=M9.trans j;refine fin B (ij cG) (ij cG) ⟨0,0,0,[],[],[],[],[]⟩ ⟨0,0,0,[],[],[],[],[]⟩ _ _ 5 (.pointer none) rfl (BK _) (BK _) (((T.trans E).trans j).hpk b6 id) (j.hpk b9 id) MA ⟨by decide,by decide,by decide,by decide,by decide⟩ λY R=>?_;unfold Hg;intro _;rw[ci,if_neg Bool.false_ne_true];refine ck (v:=.bool true) (w' :=Y) (by simp[go_sem]) ?_;rw[ci,if_pos rfl];refine ck (v:=.bool true) (w' :=Y) (by simp[go_sem]) ?_;rw[ci,if_pos rfl];exact pN λwD mD=>hK wD ((M3.trans MA).trans (R.trans mD))
end
end Go.Proofs
