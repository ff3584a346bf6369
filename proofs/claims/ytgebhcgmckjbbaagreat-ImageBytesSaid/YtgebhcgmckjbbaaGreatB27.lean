/- Part of a proof. -/
import Derived.Test.YtgebhcgmckjbbaaGreatB26
set_option linter.all false
namespace Go.Proofs
open Go Go.Vc
attribute [local congr] cr
section
variable{w0 W X:World}{K:cm}{s:iq}{sb:Nat}{ss:Nat->Value}{v c l:Nat}{sB sD:Value}{F F' G:Nat->Prop}{P:List Nat}{bD:Nat}
structure L8(w0 W:World)(s:iq)(sb:Nat)(ss:Nat->Value)(v c l:Nat)(sB sD:Value)(F F' G:Nat->Prop)(P:List Nat)(bD:Nat):Prop where
 e:rg s sb ss W
 d:oN W v c l sB sD F F' (eZ s) P (λ_ _=>[]) (λ_=>[]) (λ_=>.slice none 0 0) G
 arr:0<P.length->∃rest T,hp W bD=some (.cells (((List.range P.length).map λ_=>Value.slice none 0 0)++rest).toArray T (0,0))
 sp:CK w0 bD v sb F F' G sB sD ss P
 sS:Mi v sb F F' G sB sD ss P bD w0
 g:∀y,W.heap.size<=y->G y
 m:cl (λ_=>False) w0 W
def L8.md0(h:L8 w0 W s sb ss v c l sB sD F F' G P bD)(m:cl (λ_=>False) W X):L8 w0 X s sb ss v c l sB sD F F' G P bD:=
 ⟨h.e.md0 m,h.d.md0 m,λa=>by obtain⟨rest,T,e⟩:=h.arr a;exact⟨rest,T,m.hpk e id⟩,h.sp,h.sS,λy b=>h.g y (by have:=m.size;omega),h.m.trans m⟩
def Ae{l:List (Int×Od)}{i:Nat}(hi:i<l.length)(h:((l.take i).map (·.2.num)).Nodup)(k:∀j (d:j<l.length),j<i->(l[j]).2.num≠(l[i]).2.num):((l.take (i+1)).map (·.2.num)).Nodup:=by
 rw[cQ hi,List.map_append,List.nodup_append];refine⟨h,by simp,λa g b f e=>?_⟩;obtain⟨x,m,rfl⟩:=List.mem_map.1 g;obtain⟨j,d,rfl⟩:=List.getElem_of_mem m;rw[List.length_take]at d;rw[List.getElem_take]at e;simp only[List.map_cons,List.map_nil,List.mem_singleton]at f;exact k j (by omega) (by omega) (by rw[e,f])
set_option maxRecDepth 10000 in
set_option maxHeartbeats 4000000 in
def Dx(hO:K6 s w0 K)(O:jV s)(C:s.ords.length<=3200/\s.bids.length<=800)(hpo:s.poss.length<=100000)(hac:s.accts.length<=100000)(h:L8 w0 W s sb ss v c l sB sD F F' G P bD){sA:Value}
  (Z:Rd W 6 sA (s.ords++s.bids).length ((s.ords++s.bids).flatMap du)){x y:Value}:
  cS (S:=Value×Value×Value×Unit) (FF sA (pt sb) (pt v) K (pt c)) (x,y,.int .i64 0,()) W:=by
 have E:=h.e.sta.sl;obtain⟨b,d⟩:∃b,b=s.ords++s.bids:=⟨_,rfl⟩
 have hALl:b.length=s.ords.length+s.bids.length:=by rw[d,List.length_append]
 rw[<-d]at Z;have L:=gH h.d.bks;have Q:=gH h.d.bds;have hlc:P.length=s.cts.length:=h.d.len;have n:=h.e.fit
 have hfx:∀x∈b,fq x.1/\x.2.Fit:=λx p=>by
  rw[d]at p;rcases List.mem_append.1 p with p|p
  ·exact n.ords x p
  ·exact n.bids x p
 have hln:∀W,(builtin .len #[47] 3 #[false] #[sA]).run Tryz.prog W=.ok (.value (.int .i64 (b.length:Int))) W:=λW=>by
  obtain⟨a,c,e⟩:=Z.isSl;rw[e];simp[go_sem]
 have t:Hn s->∀i (hi:i<b.length),(eZ s).stnd (decide (i<s.ords.length)) [] b[i]=true:=λ⟨B',D',q⟩ i hi=>by
  by_cases r:i<s.ords.length
  ·rw[decide_eq_true r];have:b[i]=s.ords[i]:=by simp only[d];rw[List.getElem_append_left r]
   rw[this];exact q.ords _ (List.getElem_mem r)
  ·rw[decide_eq_false r];have hib:i - s.ords.length<s.bids.length:=by omega
   have:b[i]=s.bids[i - s.ords.length]:=by simp only[d];rw[List.getElem_append_right (by omega)]
   rw[this];exact q.bids _ (List.getElem_mem hib)
 refine dp (λst X=>∃(i:Nat) (x y:Value),i<=b.length/\st=(x,y,.int .i64 i,())/\(∀j (g:j<b.length),j<i->(eZ s).stnd (decide (j<s.ords.length)) [] b[j]=true)/\((b.take i).map (·.2.num)).Nodup/\cl (λ_=>False) W X)
  (λst _=>match st.2.2.1 with| .int _ k=>b.length - k.toNat|_=>0) ⟨0,x,y,by omega,rfl,λj g h=>absurd h (Nat.not_lt_zero _),List.nodup_nil,cl.refl _ _⟩ ?_
 rintro _ X ⟨i,x,y,hi,rfl,u,z,mX⟩ KN hKN;unfold FF;intro _;refine fi (hln _) ?_;by_cases m:i<b.length
 ·have N:(i:Int)<(b.length:Int):=by omega
  refine ck (v:=.bool true) (by simp[go_sem,N]<;>first|exact⟨rfl,rfl⟩|exact rfl) ?_;rw[ci,if_pos rfl];have md:=mX.drew;have f:=h.md0 md;have R:=Z.mod md λ_ _ h=>h;generalize X.drew=V at md f R|-;obtain⟨b1,o1,i1,A1⟩:=nj R m;refine cq (λW=>i1 W _) (cx (jy A1) ?_);refine cq (λW=>dv sb 6 (by omega) W) (cx (dC f.e.blk E 6 (by omega) (by omega)) ?_);refine cx (v:=.int .i64 (s.ords.length:Int)) (by obtain⟨a,c,e⟩:=(f.e.sta.ords).isSl;rw[e];simp[go_sem]) ?_;refine cq (v:=.bool (decide (i<s.ords.length))) (λW=>by simp[go_sem]) ?_;refine Bg (S:=eZ s) f.d.vn L Q f.d.cal f.d.led n.cts (hfx _ (List.getElem_mem m)) (by show s.cts.length<=_;have:=O.len;omega) hac λw5 m5=>?_;have M5:=md.trans m5;refine cq (v:=.bool (!(eZ s).stnd (decide (i<s.ords.length)) [] b[i])) (λW=>by simp[go_sem]) ?_;cases A:(eZ s).stnd (decide (i<s.ords.length)) [] b[i]with
  |false=>
   rw[show(!false)=true from rfl,ci,if_pos rfl];refine hO.2 (λo=>?_) _ (h.m.trans M5);rw[t o i m]at A;cases A
  |true=>
  rw[show(!true)=false from rfl,ci,if_neg Bool.false_ne_true]
  refine dp (λst Y=>∃(k:Nat) (x y:Value),k<=i/\st=(x,y,.int .i64 k,())/\(∀j (g:j<b.length),j<k->(b[j]).2.num≠(b[i]).2.num)/\cl (λ_=>False) W Y)
   (λst _=>match st.2.2.1 with| .int _ k=>i - k.toNat|_=>0) ⟨0,_,_,by omega,rfl,λj g h=>absurd h (Nat.not_lt_zero _),M5⟩ ?_
  rintro _ Y ⟨k,x',y',hki,rfl,B,mY⟩ KN2 T;unfold JF;intro _;by_cases hkl:k<i
  ·have I:(k:Int)<(i:Int):=by omega
   refine ck (v:=.bool true) (by simp[go_sem,I]<;>first|exact⟨rfl,rfl⟩|exact rfl) ?_;rw[ci,if_pos rfl];have U:=mY.drew;have w:=Z.mod U λ_ _ h=>h;generalize Y.drew=V2 at U w|-;have M:k<b.length:=by omega
   obtain⟨b2,o2,i2,A2⟩:=nj w M;obtain⟨b3,o3,i3,A3⟩:=nj w m;refine cq (λW=>i2 W _) (cq (v:=.pointer (some ⟨b2,o2+1,none⟩)) (λW=>by simp[go_sem,cC]) (cq (v:=.pointer (some ⟨b2,o2+1,none⟩)) (λW=>by simp[go_sem,cC]) (cx (wR A2) ?_)));refine cq (λW=>i3 W _) (cq (v:=.pointer (some ⟨b3,o3+1,none⟩)) (λW=>by simp[go_sem,cC]) (cq (v:=.pointer (some ⟨b3,o3+1,none⟩)) (λW=>by simp[go_sem,cC]) (cx (wR A3) ?_)));refine cq (v:=.bool (decide ((b[k]).2.num=(b[i]).2.num))) (λW=>by by_cases e:(b[k]).2.num=(b[i]).2.num<;>simp[go_sem,e]) ?_;by_cases e:(b[k]).2.num=(b[i]).2.num
   ·rw[decide_eq_true e,ci,if_pos rfl];refine hO.2 (λo=>?_) _ (h.m.trans U);obtain⟨B',D',q⟩:=o;have:=q.nums;rw[<-d]at this;have:=List.pairwise_iff_getElem.1 this k i (by simpa using M) (by simpa using m) hkl;simp only[List.getElem_map]at this;exact this e
   ·rw[decide_eq_false e,ci,if_neg Bool.false_ne_true];refine ck (v:=.int .i64 ((k+1:Nat):Int)) (w' :=V2) (by simp[go_sem];rw[cV (by omega) (by omega)]) ?_;refine T _ _ ⟨k+1,x',y',by omega,rfl,λj g D=>?_,U⟩ (by show i - (((k+1:Nat):Int)).toNat<i - ((k:Int)).toNat;omega);by_cases H:j=k
    ·subst H;exact e
    ·exact B j g (by omega)
  ·obtain rfl:k=i:=by omega
   refine ck (v:=.bool false) (by simp[go_sem]<;>first|exact⟨rfl,rfl⟩|exact rfl) ?_;rw[ci,if_neg Bool.false_ne_true];refine ck (v:=.int .i64 ((k+1:Nat):Int)) (w' :=Y) (by simp[go_sem];rw[cV (by omega) (by omega)]) ?_;refine hKN _ _ ⟨k+1,_,_,by omega,rfl,λj g J=>?_,Ae m z λj g J=>B j g J,mY⟩ (by show b.length - (((k+1:Nat):Int)).toNat<b.length - ((k:Int)).toNat;omega);by_cases D:j=k
   ·subst D;exact A
   ·exact u j g (by omega)
 ·obtain rfl:i=b.length:=by omega
  refine ck (v:=.bool false) (by simp[go_sem]<;>first|exact⟨rfl,rfl⟩|exact rfl) ?_;rw[ci,if_neg Bool.false_ne_true];rw[List.take_length,d]at z;have f:=h.md0 mX;refine K0 hO ⟨O,C,λx p=>?_,λx p=>?_,z⟩ hpo f.sp f.sS f.g f.e f.d f.arr f.m
  ·obtain⟨j,g,rfl⟩:=List.getElem_of_mem p;have:=u j (by omega) (by omega);rw[decide_eq_true g]at this;have e:b[j]'(by omega)=s.ords[j]:=by simp only[d];rw[List.getElem_append_left g]
   rw[e]at this;exact this
  ·obtain⟨j,g,rfl⟩:=List.getElem_of_mem p;have:=u (s.ords.length+j) (by omega) (by omega);rw[decide_eq_false (by omega)]at this;have e:b[s.ords.length+j]'(by omega)=s.bids[j]:=by simp only[d];rw[List.getElem_append_right (by omega)];simp
   rw[e]at this;exact this
def NK(e:∀v a,dW a 119 6 v 0 []->cl (λ_=>False) W a->(∀b,co v b->W.heap.size<=b)->K v a):rx Tryz.prog (dP 47 0 []) W K:=by
 refine fg [] mZ (cI (show eN Tryz.prog 119 6 40=true by kernel_rfl)) rfl rfl (by simp) (by omega) ?_;refine e _ _ ⟨by simp,.inr ⟨W.heap.size,0,[],rfl,Nat.le_refl _,by rw[cY,if_pos rfl];simp,by simp⟩⟩ ((cl.refl _ W).alloc _) λb d=>?_;simp only[co,uw]at d;have:=Option.some.inj d;omega
def wi(l:List (Int×Od)):(l.flatMap du).all (·.oneCell')=true:=by
 rw[List.all_flatMap];exact List.all_eq_true.2 λx _=>rfl
set_option maxRecDepth 10000 in
set_option maxHeartbeats 4000000 in
def Lm(U:K6 s w0 K)(hf0:(∀p∈s.poss,di s.cts p.c=0)->jV s)(hc16:s.cts.length<=16)(hpo:s.poss.length<=100000)(hac:s.accts.length<=100000)(h:L8 w0 W s sb ss v c l sB sD F F' G P bD){x y:Value}:
  cS (S:=Value×Value×Value×Unit) (zT (pt sb) (pt c) K (pt v)) (x,y,.int .i64 0,()) W:=by
 have d:=h.e.sta.sl
 have Z:∀W,(builtin .len #[46] 3 #[false] #[ss 5]).run Tryz.prog W=.ok (.value (.int .i64 (s.poss.length:Int))) W:=λW=>by
  obtain⟨a,c,e⟩:=(h.e.sta.poss).isSl;rw[e];simp[go_sem]
 refine dp (λst X=>∃(i:Nat) (x y:Value),i<=s.poss.length/\st=(x,y,.int .i64 i,())/\(∀p∈s.poss.take i,di s.cts p.c=0)/\cl (λ_=>False) W X)
  (λst _=>match st.2.2.1 with| .int _ k=>s.poss.length - k.toNat|_=>0) ⟨0,x,y,by omega,rfl,λp hp=>(by cases hp),cl.refl _ _⟩ ?_
 rintro _ X ⟨i,x,y,hi,rfl,A,R⟩ KN hKN;have u:=h.md0 R;unfold zT;intro _;refine ck (dv sb 5 (by omega) _) (ck (dC u.e.blk d 5 (by omega) (by omega)) (fi (Z _) ?_));by_cases r:i<s.poss.length
 ·have O:(i:Int)<(s.poss.length:Int):=by omega
  refine ck (v:=.bool true) (by simp[go_sem,O]<;>first|exact⟨rfl,rfl⟩|exact rfl) ?_;rw[ci,if_pos rfl];obtain⟨p,hp⟩:∃p,p=s.poss[i]:=⟨_,rfl⟩
  have L:p∈s.poss:=hp▸List.getElem_mem r;obtain⟨b,J,cap,C,e',fz,hse,hC,c0,-,-,-⟩:=Bb u.e.sta.poss r;rw[<-hp]at c0;refine ck (dv sb 5 (by omega) _) (ck (dC u.e.blk d 5 (by omega) (by omega)) ?_);refine ck (v:=.pointer (some ⟨b,J+i*4,none⟩)) (w' :=X) (by rw[hse];simp[go_sem,r,cC,E9]) ?_;refine ck (v:=.pointer (some ⟨b,J+i*4,none⟩)) (w' :=X) (by simp[go_sem,cC]) ?_;refine ck (v:=.int .u32 p.c) (w' :=X) (by simp[go_sem,hC,c0]) ?_;refine ow u.d.cal (by show s.cts.length<=_;omega) ?_;have epl:kP (eZ s).cal.l p.c=kP s.cts p.c:=rfl;rw[epl];have j:=wN s.cts p.c;obtain⟨sl,fl,-,ls,hR,-,ln⟩:=u.d.cal.ld;refine cB.at (λst N=>st=(.bool (decide (di s.cts p.c≠0)),())/\X=N) ?_ ?_
  ·cases t:BM s.cts p.c with
   |none=>
    rw[t]at j;have e:kP s.cts p.c= -1:=by unfold kP;rw[t]
    rw[e];refine ck (v:=.bool true) (w' :=X) (by simp[go_sem]) ?_;rw[ci,if_pos rfl];simp only at j;refine⟨?_,rfl⟩;unfold di;rw[j];rfl
   |some k=>
    rw[t]at j;obtain⟨hk,w⟩:=j;obtain⟨B,H⟩:∃B,B=s.cts[k]:=⟨_,rfl⟩
    rw[<-H]at w;have e:kP s.cts p.c=(k:Int):=by unfold kP;rw[t]
    rw[e];refine ck (v:=.bool false) (w' :=X) (by simp[go_sem]) ?_;rw[ci,if_neg Bool.false_ne_true,cw];have I:k<(eZ s).cal.l.length:=hk;obtain⟨b2,g,wz,M,hcap2,hA2⟩:=hR.item cX I rfl;have hA3:At X b2 (g+k*27) (dN B):=by rw[H];exact hA2
    refine ck (fl 1 (by omega) _) (ck ls (ck (v:=.pointer (some ⟨b2,g+k*27,none⟩)) (w' :=X) (by rw[M];simp[go_sem,I,cC,AI]) ?_));refine ck (v:=.pointer (some ⟨b2,g+k*27+25,none⟩)) (w' :=X) (by simp[go_sem,cC]) (ck (BL hA3) ?_);refine ck (v:=.bool (decide (B.st=3))) (w' :=X) (by by_cases Q:B.st=3<;>simp[go_sem,Q]) ?_;refine⟨?_,rfl⟩;unfold di;rw[w];by_cases Q:B.st=3
    ·simp[Q]
    ·simp[Q]
  rintro _ N ⟨rfl,rfl⟩;unfold mO;intro _;by_cases T:di s.cts p.c=0
  ·rw[decide_eq_false (by simpa using T),ci,if_neg Bool.false_ne_true];refine ck (v:=.int .i64 ((i+1:Nat):Int)) (w' :=X) (by simp[go_sem];rw[cV (by omega) (by omega)]) ?_;refine hKN _ _ ⟨i+1,x,y,by omega,rfl,λq E=>?_,R⟩ (by show s.poss.length - (((i+1:Nat):Int)).toNat<s.poss.length - ((i:Int)).toNat;omega);rw[cQ r,<-hp]at E;rcases List.mem_append.1 E with E|E
   ·exact A q E
   ·rw[List.mem_singleton.1 E];exact T
  ·rw[decide_eq_true T,ci,if_pos rfl];refine U.2 (λo=>?_) _ (h.m.trans R);obtain⟨B',D',z⟩:=o;exact T (z.from0.poss p L)
 ·obtain rfl:i=s.poss.length:=by omega
  refine ck (v:=.bool false) (by simp[go_sem]<;>first|exact⟨rfl,rfl⟩|exact rfl) ?_;rw[ci,if_neg Bool.false_ne_true];rw[List.take_length]at A;have h0:=hf0 A
  have lnO:∀W,(builtin .len #[47] 3 #[false] #[ss 6]).run Tryz.prog W=.ok (.value (.int .i64 (s.ords.length:Int))) W:=λW=>by
   obtain⟨a,c,e⟩:=(h.e.sta.ords).isSl;rw[e];simp[go_sem]
  have lnD:∀W,(builtin .len #[47] 3 #[false] #[ss 7]).run Tryz.prog W=.ok (.value (.int .i64 (s.bids.length:Int))) W:=λW=>by
   obtain⟨a,c,e⟩:=(h.e.sta.bids).isSl;rw[e];simp[go_sem]
  refine cB.at (λst N=>st=(.bool (decide (¬(s.ords.length<=3200/\s.bids.length<=800))),())/\X=N) ?_ ?_
  ·refine ck (dv sb 6 (by omega) _) (ck (dC u.e.blk d 6 (by omega) (by omega)) (fi (lnO _) ?_));refine ck (v:=.bool (decide (3200<s.ords.length))) (w' :=X) (by simp[go_sem];omega) ?_;by_cases h1:3200<s.ords.length
   ·rw[decide_eq_true h1,ci,if_pos rfl];refine⟨?_,rfl⟩;rw[decide_eq_true (p:=¬(s.ords.length<=3200/\s.bids.length<=800)) (by omega)]
   rw[decide_eq_false h1,ci,if_neg Bool.false_ne_true];refine ck (dv sb 7 (by omega) _) (ck (dC u.e.blk d 7 (by omega) (by omega)) (fi (lnD _) ?_));refine ck (v:=.bool (decide (800<s.bids.length))) (w' :=X) (by simp[go_sem];omega) ?_;refine⟨?_,rfl⟩;congr 2;rw[decide_eq_decide];omega
  rintro _ N ⟨rfl,rfl⟩;unfold JK;intro _;by_cases f:s.ords.length<=3200/\s.bids.length<=800
  rotate_left
  ·rw[decide_eq_true f,ci,if_pos rfl];refine U.2 (λo=>?_) _ (h.m.trans R);obtain⟨B',D',z⟩:=o;exact f z.len
  rw[decide_eq_false (by simpa using f),ci,if_neg Bool.false_ne_true];have md:=(cl.refl (λ_=>False) X).drew;have D:=u.md0 md;generalize X.drew=V at md D|-;refine cq (λW=>dv sb 6 (by omega) W) (cx (dC D.e.blk d 6 (by omega) (by omega)) ?_);refine cq (λW=>dv sb 7 (by omega) W) (cx (dC D.e.blk d 7 (by omega) (by omega)) ?_);refine NK λv6 w7 o7 Y n7=>?_;have h7:=D.md0 Y;refine⟨dC h7.e.blk d 7 (by omega) (by omega),dC h7.e.blk d 6 (by omega) (by omega),?_⟩;refine dt (n:=0) (m:=s.ords.length) mZ mZ (cI (show eN Tryz.prog 119 6 40=true by kernel_rfl)) o7 h7.e.sta.ords (wi _) (by omega) λv8 w9 o9 m9 n9=>?_;have M9:cl (λ_=>False) V w9:=Y.on m9 λy hy=>.inr (n7 y hy);have h9:=D.md0 M9;refine⟨dC h9.e.blk d 7 (by omega) (by omega),?_⟩;refine dt (n:=0+s.ords.length) (m:=s.bids.length) mZ mZ (cI (show eN Tryz.prog 119 6 40=true by kernel_rfl)) o9 h9.e.sta.bids (wi _) (by omega) λv10 w11 o11 m11 n11=>?_;have hz7:=Y.size;have M11:cl (λ_=>False) V w11:=M9.on m11 λy hy=>.inr ((n9 y hy).elim (n7 y) λh=>by omega);refine Dx U h0 f hpo hac (D.md0 M11) ?_;have e1:(s.ords++s.bids).length=0+s.ords.length+s.bids.length:=by rw[List.length_append];omega
  have e2:(s.ords++s.bids).flatMap du=[]++s.ords.flatMap du++s.bids.flatMap du:=by simp
  rw[e1,e2];exact o11.rd
end
section
variable{w0 w1 W X:World}{K:cm}{s:iq}{sb:Nat}{ss:Nat->Value}{v c l:Nat}{F F' :Nat->Prop}
abbrev Fz:TypeId:=169
structure Ce(w1 X:World)(v c l:Nat)(nx:Int)(i:Nat)(P:List Nat)(sB sD:Value):Prop where
 len:P.length=i
 vn:Ap X v c l sB sD nx
 oB:dW X Fz 1 sB P.length (P.flatMap λp=>[pt p])
 oD:dW X gU 1 sD P.length ((List.range P.length).flatMap λ_=>[Value.slice none 0 0])
 nB:∀y,co sB y->v<y
 nD:∀y,co sD y->v<y
 dj:∀y,co sB y->¬co sD y
 bk:∀k (h:k<P.length),hp X P[k]=some (.cells #[pt (oR P[k] true),pt (oR P[k] false)] yT (0,0))/\∀d,hp X (oR P[k] d)=some (.cells #[.bool d,.slice none 0 0] lA (0,0))
 gap:∀k (h:k<P.length),v+3<=P[k]
 up:P.Pairwise λa b=>a+3<=b
 sep:∀k (h:k<P.length) y,co sB y\/co sD y->y≠P[k]/\∀d,y≠oR P[k] d
 md:cl (λy=>y=v) w1 X
def tv{p:Nat}(h:2<=p)(d:Bool):oR p d<p/\p - 2<=oR p d/\(d=true->oR p d=p - 2)/\(d=false->oR p d=p - 1):=by
 unfold oR;cases d
 ·exact⟨by simp;omega,by simp;omega,λh=>(by cases h),λ_=>rfl⟩
 ·exact⟨by simp;omega,by simp,λ_=>rfl,λh=>(by cases h)⟩
def Pb{v c l:Nat}{f e s' :Value}{nx:Int}(h:Ap W v c l f e nx)(h1:∃a n c,f=.slice a n c)(k:∃a n c,e=.slice a n c)(q:∃a n c,s' =.slice a n c):
  (∃b,(Instr.storeAt 163 (.pointer (some ⟨v,2,none⟩)) s').run Tryz.prog W=.ok () b/\Ap b v c l s' e nx/\cl (λy=>y=v) W b)/\
  (∃b,(Instr.storeAt 164 (.pointer (some ⟨v,3,none⟩)) s').run Tryz.prog W=.ok () b/\Ap b v c l f s' nx/\cl (λy=>y=v) W b):=by
 obtain⟨t,r,m,rfl⟩:=h1;obtain⟨o,u,p,rfl⟩:=k;obtain⟨i,g,j,rfl⟩:=q;have d:hp W v=some (.cells #[pt c,pt l,.slice t r m,.slice o u p,.int .u64 nx] I8 (0,0)):=h
 exact⟨⟨W.setCell ⟨v,2,none⟩ (.slice i g j),by simp[go_sem,d],by show hp _ _=_;simp[go_sem,d,Hl],(cl.refl (λy=>y=v) W).setCell (.inl rfl) _ _⟩,
  ⟨W.setCell ⟨v,3,none⟩ (.slice i g j),by simp[go_sem,d],by show hp _ _=_;simp[go_sem,d,Hl],(cl.refl (λy=>y=v) W).setCell (.inl rfl) _ _⟩⟩
def OU:eN Tryz.prog Fz 1 8=true:=by kernel_rfl
def Nq:eN Tryz.prog gU 1 24=true:=by kernel_rfl
def Ce.zero(h:Ap X v c l (.slice none 0 0) (.slice none 0 0) s.next)(m:cl (λy=>y=v) w1 X):Ce w1 X v c l s.next 0 [] (.slice none 0 0) (.slice none 0 0):=
 ⟨rfl,h,dW.nil _ _ _,dW.nil _ _ _,λy b=>(by cases b),λy b=>(by cases b),λy b=>(by cases b),λk a=>absurd a (Nat.not_lt_zero _),λk a=>absurd a (Nat.not_lt_zero _),List.Pairwise.nil,λk a=>absurd a (Nat.not_lt_zero _),m⟩
def Ce.fr0{n:Nat}{P:List Nat}{Q B:Value}(h:Ce w1 X v c l s.next n P Q B)(hn:P.length=s.cts.length)(J:rg s sb ss w1)(U:pz w1 c F s.day s.cts)(hL:zu w1 l F' ⟨s.fund,s.accts,s.poss⟩)(hv0:w0.heap.size<=v)
  (x:∀y,F y->y<v)(w:∀y,F' y->y<v)(Y:sb<v)(z:∀i,3<=i->i<=7->∀y,eM (ss i) y->y<v)(m0:cl (λ_=>False) w0 w1)(hz:P.length=0->B=.slice none 0 0):
  ∃G u,L8 w0 X s sb ss v c l Q B F F' G P u:=by
 obtain⟨u,hb1,r,M⟩:∃u,v<u/\(0<P.length->co B u/\∃o,P.length<=o/\B=.slice (some ⟨u,0,none⟩) P.length o/\∃rest,hp X u=some (.cells (((List.range P.length).map λ_=>Value.slice none 0 0)++rest).toArray gU (0,0)))/\(P.length=0->X.heap.size<=u):=by
  by_cases q:0<P.length
  ·obtain⟨b,o,rest,e,N,O,-⟩:=h.oD.pos q;have E:co B b:=by rw[e];rfl
   refine⟨b,h.nD b E,λ_=>⟨E,o,N,e,rest,?_⟩,λh=>absurd h (by omega)⟩;rw[<-List.map_eq_flatMap]at O;exact cO O
  ·have:=cn h.vn;exact⟨X.heap.size,this,λh=>absurd h q,λ_=>Nat.le_refl _⟩
 have Z:=cn h.vn;have H:∀k (D:k<P.length),P[k]<X.heap.size:=λk D=>cn (h.bk k D).1
 have I:∀k (D:k<P.length) d,v<oR P[k] d/\oR P[k] d<P[k]:=λk D d=>by
  have:=h.gap k D;obtain⟨S,a2,-,-⟩:=tv (p:=P[k]) (by omega) d;exact⟨by omega,S⟩
 have mC:∀{y:Nat},y<v->¬y=v:=λh=>by omega
 refine⟨λy=>X.heap.size<=y,u,?_,?_,?_,?_,?_,λy f=>f,m0.on h.md λy f=>.inr (by omega)⟩
 ·exact⟨h.md.hpk J.blk (by omega),λi h1 A=>(J.sta i h1 A).mod h.md λy f e=>by have:=z i h1 A y f;omega,J.fit⟩
 ·refine⟨h.vn,U.mod h.md λy f e=>by have:=x y f;omega,hL.mod h.md λy f e=>by have:=w y f;omega,hn,h.oB.rd,h.oD.rd,λi g=>(h.bk i g).1,λi g b=>⟨_,(h.bk i g).2 b,⟨rfl,.inl ⟨rfl,_,_,rfl⟩⟩,λy f=>?_⟩,λi g=>⟨rfl,.inl ⟨rfl,_,_,rfl⟩⟩⟩;obtain⟨a,n,c,e,-,-⟩:=f;cases e
 ·intro q;obtain⟨-,o,-,-,rest,e⟩:=r q;exact⟨rest,_,e⟩
 ·refine⟨by omega,λy f=>by have:=x y f;omega,λy f=>by have:=w y f;omega,λy f e=>?_,λq y f e=>?_,by omega,λi h1 A y f=>by have:=z i h1 A y f;omega,λi g=>?_,by omega,λq=>?_⟩
  ·by_cases q:0<P.length
   ·exact h.dj y (eM.sl f) (e▸(r q).1)
   ·have:=M (by omega);have:=h.oB.lt (eM.sl f);omega
  ·have:=h.oD.lt (r q).1;have L:X.heap.size<=y:=f;omega
  ·have q:0<P.length:=by omega
   have:=h.sep i g u (.inr (r q).1);exact⟨λe=>this.1 e.symm,λd e=>this.2 d e.symm⟩
  ·obtain⟨-,o,N,e,-⟩:=r q;exact⟨o,N,e⟩
 ·refine⟨λi g d=>?_⟩;have q:0<P.length:=by omega
  obtain⟨S,a2⟩:=I i g d;have a3:=H i g;have a4:=h.gap i g;refine⟨by omega,by omega,λf=>by have:=x _ f;omega,λf=>by have:=w _ f;omega,λf=>?_,λf=>(h.sep i g _ (.inl (eM.sl f))).2 d rfl,λf=>(h.sep i g _ (.inr (eM.sl f))).2 d rfl,λe=>(h.sep i g u (.inr (r q).1)).2 d e.symm,by omega,λk h1 A f=>by have:=z k h1 A _ f;omega,λj C=>?_,λj C R e=>?_⟩
  ·have L:X.heap.size<=oR P[i] d:=f;omega
  ·by_cases t:i=j
   ·subst t;omega
   ·obtain⟨T,b2,-,-⟩:=tv (p:=P[i]) (by omega) d;rcases Nat.lt_or_gt_of_ne t with m|m
    ·have:=List.pairwise_iff_getElem.1 h.up i j g C m;omega
    ·have:=List.pairwise_iff_getElem.1 h.up j i C g m;omega
  ·obtain⟨T,b2,V,b4⟩:=tv (p:=P[i]) (by omega) d;have a5:=h.gap j C;obtain⟨c1,c2,c3,c4⟩:=tv (p:=P[j]) (by omega) R;by_cases t:i=j
   ·subst t;refine⟨rfl,?_⟩;cases d<;>cases R<;>first|rfl|(have x1:=b4 rfl;have x2:=c3 rfl;omega)|(have x1:=V rfl;have x2:=c4 rfl;omega)
   ·rcases Nat.lt_or_gt_of_ne t with m|m
    ·have:=List.pairwise_iff_getElem.1 h.up i j g C m;omega
    ·have:=List.pairwise_iff_getElem.1 h.up j i C g m;omega
set_option maxRecDepth 10000 in
set_option maxHeartbeats 4000000 in
def IT(hO:K6 s w0 K)(hf0:(∀p∈s.poss,di s.cts p.c=0)->jV s)(hc16:s.cts.length<=16)(hpo:s.poss.length<=100000)(hac:s.accts.length<=100000)
  (hE:rg s sb ss W)(hC:pz W c F s.day s.cts)(hL:zu W l F' ⟨s.fund,s.accts,s.poss⟩)(hvn:Ap W v c l (.slice none 0 0) (.slice none 0 0) s.next)(hv0:w0.heap.size<=v)(hvW:W.heap.size=v+1)
  (hvF:∀y,F y->y<v)(hvF' :∀y,F' y->y<v)(hsb:sb<v)(hss:∀i,3<=i->i<=7->∀y,eM (ss i) y->y<v)(m0:cl (λ_=>False) w0 W):
  cS (S:=Value×Unit) (zK (pt c) (pt v) (pt sb) K) (.int .i64 0,()) W:=by
 refine dp (λst X=>∃(i:Nat) (P:List Nat) (Q D:Value),i<=s.cts.length/\st=(.int .i64 i,())/\Ce W X v c l s.next i P Q D/\(i=0->D=.slice none 0 0))
  (λst _=>match st.1 with| .int _ k=>s.cts.length - k.toNat|_=>0) ⟨0,[],_,_,by omega,rfl,Ce.zero hvn (cl.refl _ _),λ_=>rfl⟩ ?_
 rintro _ X ⟨i,P,Q,D,hi,rfl,g,hz⟩ KN hKN;have hCX:pz X c F s.day s.cts:=hC.mod g.md λy f e=>by have:=hvF y f;omega
 obtain⟨sl,fl,-,ls,hR,-,ln⟩:=hCX.ld;unfold zK;intro _;simp only[cw];refine ck (fl 1 (by omega) _) (ck ls (fi (ln _) ?_));by_cases hlt:i<s.cts.length
 ·have hlt' :(i:Int)<(s.cts.length:Int):=by omega
  refine ck (v:=.bool true) (by simp[go_sem,hlt']<;>first|exact⟨rfl,rfl⟩|exact rfl) ?_;rw[ci,if_pos rfl];have w:=gH g.oB.rd;have q:=gH g.oD.rd;have hPl:=g.len;have md:=(cl.refl (λ_=>False) X).drew;have j:Ap X.drew v c l Q D s.next:=md.hpk g.vn id;have T:=g.oB.mod md λ_ _ h=>h;have oDV:=g.oD.mod md λ_ _ h=>h;have E:=λk r=>And.intro (md.hpk (g.bk k r).1 id) λd=>md.hpk ((g.bk k r).2 d) id;have mdV:cl (λy=>y=v) W X.drew:=g.md.trans (md.mono λ_ _ h=>h.elim);have hXz:=md.size;generalize X.drew=V at j T oDV E mdV hXz|-;clear md;refine cq (λW=>rf v 2 (by omega) W) (cx (uI j w q).2.2.1 ?_);refine yg λw7 hz7 c0 c1 c2 m7=>?_;obtain⟨nn,N⟩:∃nn,nn=V.heap.size:=⟨_,rfl⟩
  rw[<-N]at hz7 c0 c1 c2|-;refine⟨(uI (m7.hpk j id) w q).2.2.1,?_⟩;have I:oR (nn+2) true=nn/\oR (nn+2) false=nn+1:=⟨rfl,rfl⟩
  refine fg [pt (nn+2)] IU (cI OU) rfl rfl (by intro v hv;rw[List.mem_singleton.1 hv];rfl) (by omega) ?_;have e0:(([pt (nn+2)]:List Value).flatMap (·.cells.toList)).toArray= #[pt (nn+2)]:=rfl;rw[e0];have m8:cl (λ_=>False) w7 (w7.alloc (.cells #[pt (nn+2)] Fz)):=(cl.refl _ w7).alloc _
  have r8:Rd (w7.alloc (.cells #[pt (nn+2)] Fz)) 1 (.slice (some ⟨w7.heap.size,0,none⟩) 1 1) 1 [pt (nn+2)]:=
   ⟨rfl,.inr ⟨_,0,1,rfl,Nat.le_refl _,At.all (cO (by rw[cY,if_pos rfl]))⟩⟩
  generalize w7.alloc (.cells #[pt (nn+2)] Fz)=w8 at m8 r8|-;have M8:=m7.trans m8;refine⟨(uI (M8.hpk j id) w q).2.2.1,?_⟩;refine dt (n:=P.length) (m:=1) IU IU (cI OU) (T.mod M8 λ_ _ h=>h) r8 rfl (by omega) λJ w9 o9 m9 n9=>?_;have hz8:=m8.size;have hnv9:¬co Q v:=λf=>by have:=g.nB v f;omega
  have vn9:Ap w9 v c l Q D s.next:=m9.hpk (M8.hpk j id) hnv9;obtain⟨x1,x2,R,-⟩:=o9.isSl;refine cq (λW=>rf v 2 (by omega) W) ?_;obtain⟨x,e10,O,H⟩:=(Pb vn9 w q ⟨_,_,_,R⟩).1;refine dI e10 ?_;have C:∃a n c,J=.slice a n c:=⟨_,_,_,R⟩
  refine ck (rf v 3 (by omega) _) (ck (uI O C q).2.2.2.1 ?_);refine fg [Value.slice none 0 0] GW (cI Nq) rfl rfl (by intro v hv;rw[List.mem_singleton.1 hv];rfl) (by omega) ?_;have e1:(([Value.slice none 0 0]:List Value).flatMap (·.cells.toList)).toArray= #[Value.slice none 0 0]:=rfl;rw[e1];have t:cl (λ_=>False) x (x.alloc (.cells #[Value.slice none 0 0] gU)):=(cl.refl _ x).alloc _
  have r11:Rd (x.alloc (.cells #[Value.slice none 0 0] gU)) 1 (.slice (some ⟨x.heap.size,0,none⟩) 1 1) 1 [Value.slice none 0 0]:=
   ⟨rfl,.inr ⟨_,0,1,rfl,Nat.le_refl _,At.all (cO (by rw[cY,if_pos rfl]))⟩⟩
  generalize x.alloc (.cells #[Value.slice none 0 0] gU)=w11 at t r11|-;have hz9:=m9.size;have hz10:=H.size;have hz11:=t.size;have nDv:¬co D v:=λf=>by have:=g.nD v f;omega
  have oD9:dW w9 gU 1 D P.length ((List.range P.length).flatMap λ_=>[Value.slice none 0 0]):=(oDV.mod M8 λ_ _ h=>h).mod m9 λy f hc=>g.dj y hc f;have oD11:=(oD9.mod H λy f e=>by have:=g.nD y f;omega).mod t λ_ _ h=>h;refine dt (n:=P.length) (m:=1) GW GW (cI Nq) oD11 r11 rfl (by omega) λsD' w12 o12 A L=>?_;have vn12:Ap w12 v c l J D s.next:=A.hpk (t.hpk O id) nDv;obtain⟨y1,y2,hsD',-⟩:=o12.isSl;refine ck (rf v 3 (by omega) _) ?_;obtain⟨w13,e13,vn13,M⟩:=(Pb vn12 C q ⟨_,_,_,hsD'⟩).2;refine dI e13 ?_;refine ck (v:=.int .i64 ((i+1:Nat):Int)) (w' :=w13) (by simp[go_sem];rw[cV (by omega) (by omega)]) ?_;have hz12:=A.size;have hVv:=cn j;have U:∀y,co J y->v<y:=λy f=>(n9 y f).elim (g.nB y) λh=>by omega
  have nD' :∀y,co sD' y->v<y:=λy f=>(L y f).elim (g.nD y) λh=>by omega
  have keep:∀(b:Nat) (o:Obj),b≠v->¬co Q b->¬co D b->hp w8 b=some o->hp w13 b=some o:=λb o h1 Z h3 h=>M.hpk (A.hpk (t.hpk (H.hpk (m9.hpk h Z) h1) id) h3) h1;have Y:(P++[nn+2]).length=P.length+1:=by simp
  have gk:∀k (r:k<(P++[nn+2]).length),(∃h:k<P.length,(P++[nn+2])[k]=P[k])\/(k=P.length/\(P++[nn+2])[k]=nn+2):=λk r=>by
   by_cases h:k<P.length
   ·exact .inl ⟨h,List.getElem_append_left h⟩
   ·exact .inr ⟨by omega,by rw[List.getElem_append_right (by omega)];simp⟩
  have B:∀y,co Q y->y<nn:=λy f=>by rw[N];exact T.lt f
  have z:∀y,co D y->y<nn:=λy f=>by rw[N];exact oDV.lt f
  have hPk:∀k (r:k<P.length),P[k]<nn/\∀d,oR P[k] d<nn:=λk r=>by
   rw[N];exact⟨cn (E k r).1,λd=>cn ((E k r).2 d)⟩
  refine hKN _ _ ⟨i+1,P++[nn+2],J,sD',by omega,rfl,⟨by rw[Y];omega,vn13,?_,?_,U,nD',λy f hy' =>?_,λk r=>?_,λk r=>?_,?_,λk r y f=>?_,?_⟩,λh=>by omega⟩ (by show s.cts.length - (((i+1:Nat):Int)).toNat<s.cts.length - ((i:Int)).toNat;omega)
  ·rw[Y,List.flatMap_append];have o9' :=(o9.mod H λy f e=>by have:=U y f;omega).mod t λ_ _ h=>h;refine(o9'.mod A λy f hc=>?_).mod M λy f e=>by have:=U y f;omega
   rcases n9 y f with u|u
   ·exact g.dj y u hc
   ·have:=z y hc;omega
  ·rw[Y,pk];exact o12.mod M λy f e=>by have:=nD' y f;omega
  ·rcases n9 y f with h1|h1
   ·rcases L y hy' with Z|Z
    ·exact g.dj y h1 Z
    ·have:=B y h1;omega
   ·rcases L y hy' with Z|Z
    ·have:=z y Z;omega
    ·have:=o9.lt f;omega
  ·rcases gk k r with⟨h,e⟩|⟨h,e⟩
   ·rw[e];have g1:=g.gap k h;refine⟨keep _ _ (by omega) (λf=>(g.sep k h _ (.inl f)).1 rfl) (λf=>(g.sep k h _ (.inr f)).1 rfl) (M8.hpk (E k h).1 id),λd=>keep _ _ ?_ (λf=>(g.sep k h _ (.inl f)).2 d rfl) (λf=>(g.sep k h _ (.inr f)).2 d rfl) (M8.hpk ((E k h).2 d) id)⟩;obtain⟨a1,a2,-,-⟩:=tv (p:=P[k]) (by omega) d;omega
   ·rw[e];refine⟨keep _ _ (by omega) (λf=>by have:=B _ f;omega) (λf=>by have:=z _ f;omega) (m8.hpk c0 id),λd=>?_⟩;cases d
    ·exact keep _ _ (by rw[I.2];omega) (λf=>by have:=B _ f;rw[I.2]at this;omega) (λf=>by have:=z _ f;rw[I.2]at this;omega) (m8.hpk c2 id)
    ·exact keep _ _ (by rw[I.1];omega) (λf=>by have:=B _ f;rw[I.1]at this;omega) (λf=>by have:=z _ f;rw[I.1]at this;omega) (m8.hpk c1 id)
  ·rcases gk k r with⟨h,e⟩|⟨h,e⟩
   ·rw[e];exact g.gap k h
   ·rw[e];omega
  ·rw[List.pairwise_append];refine⟨g.up,List.pairwise_singleton _ _,λa ha b hb=>?_⟩;rw[List.mem_singleton.1 hb];obtain⟨k,r,rfl⟩:=List.getElem_of_mem ha;have:=(hPk k r).1;omega
  ·have hyc:y<nn/\(co Q y\/co D y)\/nn+3<=y:=by
    rcases f with f|f
    ·rcases n9 y f with u|u
     ·exact .inl ⟨B y u,.inl u⟩
     ·exact .inr (by omega)
    ·rcases L y f with u|u
     ·exact .inl ⟨z y u,.inr u⟩
     ·exact .inr (by omega)
   rcases gk k r with⟨h,e⟩|⟨h,e⟩
   ·rw[e];rcases hyc with⟨-,u⟩|u
    ·exact g.sep k h y u
    ·have a1:=(hPk k h).1;exact⟨by omega,λd=>by have:=(hPk k h).2 d;omega⟩
   ·rw[e];rcases hyc with⟨u,-⟩|u
    ·exact⟨by omega,λd=>by cases d;(rw[I.2];omega);(rw[I.1];omega)⟩
    ·exact⟨by omega,λd=>by cases d;(rw[I.2];omega);(rw[I.1];omega)⟩
  ·have a1:=(mdV.trans (M8.mono λ_ _ h=>h.elim)).on m9 λy f=>.inr (by have:=g.nB y f;omega);have a2:=(a1.trans H).trans (t.mono λ_ _ h=>h.elim);exact(a2.on A λy f=>.inr (by have:=g.nD y f;omega)).trans M
 ·obtain rfl:i=s.cts.length:=by omega
  refine ck (v:=.bool false) (by simp[go_sem]<;>first|exact⟨rfl,rfl⟩|exact rfl) ?_;rw[ci,if_neg Bool.false_ne_true];obtain⟨G,bD,hfr⟩:=g.fr0 (w0:=w0) g.len hE hC hL hv0 hvF hvF' hsb hss m0 λh=>hz (by rw[<-g.len];exact h);exact Lm hO hf0 hc16 hpo hac hfr
end
set_option maxRecDepth 10000 in
set_option maxHeartbeats 2000000 in
def ub{w:World}{K:cm}{s:iq}{ss:Nat->Value}(h:eS w ss s)(C:s.Fit)(S:s.poss.length<=1024)(J:s.accts.length<=100000)(N:s.cts.length<=100000)
  (Q:Hn s->∀x b,cl (λ_=>False) w b->K (.tuple #[x,.int .i64 0]) b)(l:¬Hn s->∀b,cl (λ_=>False) w b->K (.tuple #[.pointer none,.int .i64 2]) b):
  Ca Tryz.prog 25 #[oJ s.day s.next s.fund ss] w K:=by
 have hO:K6 s w K:=⟨Q,l⟩
 have j:=h.sl;apply QO;obtain⟨w1,e1,z,E⟩:=js s.day s.next s.fund ss w;obtain⟨sb,P⟩:∃p,p=w.heap.size:=⟨_,rfl⟩
 rw[<-P]at e1 z;refine ck e1 ?_;have h1:=h.md0 E;refine ck (dv sb 0 (by omega) _) (ck (fe z).1 (ck (dv sb 4 (by omega) _) (ck (dC z j 4 (by omega) (by omega)) ?_)));have hsz1:=cn z;refine zk (day:=s.day) h1.cts N C.cts (λn L c F o hC q Y=>?_) λk o q=>?_
 rotate_left
 ·refine ck (v:=.pointer none) (w' :=o) (by simp[go_sem]) (ck (v:=.int .i64 2) (w' :=o) (by simp[go_sem]) ?_);refine ck (v:=.bool true) (w' :=o) (by simp[go_sem]) ?_;rw[ci,if_pos rfl];refine l (λe=>?_) _ (E.trans q);obtain⟨T,D',g⟩:=e;exact k ⟨g.from0.len,g.from0.cts⟩
 refine ck (v:=pt c) (w' :=o) (by simp[go_sem]) (ck (v:=.int .i64 0) (w' :=o) (by simp[go_sem]) ?_);refine ck (v:=.bool false) (w' :=o) (by simp[go_sem]) ?_;rw[ci,if_neg Bool.false_ne_true];have I:cR o sb s.day s.next s.fund ss:=q.hpk z id;have U:=h1.md0 q;refine ck (dv sb 2 (by omega) _) (ck (fe I).2.2 (ck (dv sb 3 (by omega) _) (ck (dC I j 3 (by omega) (by omega)) (ck (dv sb 5 (by omega) _) (ck (dC I j 5 (by omega) (by omega)) ?_)))));refine GJ (f:=s.fund) U.accts U.poss (by omega) S (λa ha=>(C.accts a ha).1) C.poss (λO d r G Z t V=>?_) λk d t=>?_
 rotate_left
 ·refine ck (v:=.pointer none) (w' :=d) (by simp[go_sem]) (ck (v:=.int .i64 2) (w' :=d) (by simp[go_sem]) ?_);refine cB.at (λst W=>st=(.bool true,())/\d=W) ?_ ?_
  ·refine ck (v:=.bool true) (w' :=d) (by simp[go_sem]) ?_;rw[ci,if_pos rfl];exact⟨rfl,rfl⟩
  rintro _ W ⟨rfl,rfl⟩;unfold zy;intro _;rw[ci,if_pos rfl];refine l (λe=>?_) _ ((E.trans q).trans t);obtain⟨T,D',g⟩:=e;exact k g.from0.led
 refine ck (v:=pt r) (w' :=d) (by simp[go_sem,dm]) (ck (v:=.int .i64 0) (w' :=d) (by simp[go_sem]) ?_);have H:cR d sb s.day s.next s.fund ss:=t.hpk I id;have M:=(E.trans q).trans t;have hn64:=C.next;refine cB.at (λst W=>st=(.bool (decide (¬(1<=s.next/\s.next<=jz+1))),())/\d=W) ?_ ?_
 ·refine ck (v:=.bool false) (w' :=d) (by simp[go_sem]) ?_;rw[ci,if_neg Bool.false_ne_true];refine ck (dv sb 1 (by omega) _) (ck (fe H).2.1 ?_);refine ck (v:=.bool (decide (s.next<1))) (w' :=d) (by simp[go_sem]) ?_;by_cases A:s.next<1
  ·rw[decide_eq_true A,ci,if_pos rfl];refine⟨?_,rfl⟩;rw[decide_eq_true (p:=¬(1<=s.next/\s.next<=jz+1)) (by omega)]
  rw[decide_eq_false A,ci,if_neg Bool.false_ne_true];refine ck (dv sb 1 (by omega) _) (ck (fe H).2.1 ?_);refine ck (v:=.bool (decide (4611686018427387905<s.next))) (w' :=d) (by simp[go_sem]) ?_;refine⟨?_,rfl⟩;congr 2;rw[decide_eq_decide];unfold jz;omega
 rintro _ W ⟨rfl,rfl⟩;unfold zy;intro _;by_cases m:1<=s.next/\s.next<=jz+1
 rotate_left
 ·rw[decide_eq_true m,ci,if_pos rfl];refine l (λe=>?_) _ M;obtain⟨T,D',g⟩:=e;exact m g.from0.next
 rw[decide_eq_false (by simpa using m),ci,if_neg Bool.false_ne_true];refine ck (dv sb 1 (by omega) _) (ck (fe H).2.1 ?_);refine ck (v:=.agg (Hl c r (.slice none 0 0) (.slice none 0 0) s.next)) (w' :=d) (by simp[go_sem,Hl]) ?_;obtain⟨v,R⟩:∃v,v=d.heap.size:=⟨_,rfl⟩
 have u:cl (λ_=>False) d (d.alloc (.cells (Hl c r (.slice none 0 0) (.slice none 0 0) s.next) I8)):=(cl.refl _ d).alloc _;have X:(d.alloc (.cells (Hl c r (.slice none 0 0) (.slice none 0 0) s.next) I8)).heap.size=v+1:=by rw[World.size_alloc,R]
 have b4:Ap (d.alloc (.cells (Hl c r (.slice none 0 0) (.slice none 0 0) s.next) I8)) v c r (.slice none 0 0) (.slice none 0 0) s.next:=by show hp _ _=_;rw[R];simp[go_sem]
 refine ck (v:=pt v) (w' :=d.alloc (.cells (Hl c r (.slice none 0 0) (.slice none 0 0) s.next) I8)) (by rw[R];rfl) ?_;generalize d.alloc (.cells (Hl c r (.slice none 0 0) (.slice none 0 0) s.next) I8)=w4 at u X b4|-;have hm1:=E.size;have hm2:=q.size;have hm3:=t.size;have B:=hC.md0 t;refine IT hO (λhp=>⟨n,L,O,m,hp⟩) n (by omega) J ⟨u.hpk H id,h.md0 (M.trans u),C⟩ (B.md0 u) (Z.modF u) b4 (by omega) X (λy D=>by have:=B.lt y D;omega) (λy D=>by have:=Z.lt y D;omega) (by omega) (λi a1 a2 y D=>by have:=(h i a1 a2).lt D;omega) (M.trans u)
end Go.Proofs
set_option maxRecDepth 100000
namespace Go.Proofs
open Go Go.Vc
def Sw{a:Value}{b:World}{c:cm}(h0:gq 49 a b λd e=>gl 49 d e λf g=>Ca Tryz.prog 22 #[f] g λh i=>cz h (Ca Tryz.prog 17 #[] i c) (gl 49 d i λj k=>Ca Tryz.prog 23 #[j] k λl m=>gv 49 l m λn o=>gl 49 n o λp q=>Ca Tryz.prog 24 #[p] q λr s=>kS r s λt u v=>gl 49 d v λw x=>Ca Tryz.prog 25 #[w] x λy z=>kS y z λA B C=>gl 49 n C λD E=>gl 49 d E λF G=>Ca Tryz.prog 16 #[D,F] G λH I=>gt H I λJ K=>cz J (c (.bool false) K) (gb .neq 26 true B (gI 0) K λL M=>cz L (gn 54 false t M λN O=>gb .eql 3 true N (gI 0) O λP Q=>cz P (gb .eql 26 true u (gI 2) Q λR S=>cz R (Ca Tryz.prog 17 #[] S c) (c (.bool false) S)) (c (.bool false) Q)) (Ca Tryz.prog 18 #[t] M λT U=>kS T U λV W X=>gv 49 V X λY Z=>ia .eql 26 true u (gI 0) λaa=>cz aa (ia .eql 26 true W (gI 0) λab=>cz ab (iD Tryz.prog (nK 54 9 t) Z.drew λac=>de 49 d Z.drew λad=>Ca Tryz.prog 26 #[ad] Z.drew λae af=>Sem.run Tryz.prog (nK 54 9 t) af=.ok ac af/\(iD Tryz.prog (nK 54 9 ae) af λag=>ia .eql 9 false ac ag λah=>cz ah (de 49 Y af λai=>de 49 d af λaj=>Ca Tryz.prog 16 #[ai,aj] af λak al=>cz ak (Ca Tryz.prog 17 #[] al c) (c (.bool false) al)) (c (.bool false) af))) (c (.bool false) Z.drew)) (c (.bool false) Z.drew))))):Ca Tryz.prog 7 #[a] b c:=cj Tryz.func7 h0
def Rw{a:Value}{b:World}{c:cm}(H:gq 49 a b λd e=>cG 49 d 3 44 e λf g=>gn 44 false f g λh i=>gb .gtr 3 true h (gI 100) i λj k=>cz j (c (.bool true) k) (cG 49 d 4 45 k λl m=>gn 45 false l m λn o=>gb .gtr 3 true n (gI 100) o λp q=>cz p (c (.bool true) q) (cG 49 d 5 46 q λr s=>gn 46 false r s λt u=>gb .gtr 3 true t (gI 300) u λv w=>cz v (c (.bool true) w) (cG 49 d 6 47 w λx y=>gn 47 false x y λz A=>gb .gtr 3 true z (gI 300) A λB C=>cz B (c (.bool true) C) (cG 49 d 7 47 C λD E=>gn 47 false D E λF G=>gb .gtr 3 true F (gI 300) G c))))):Ca Tryz.prog 22 #[a] b c:=cj Tryz.func22 H
end Go.Proofs
namespace Go.Proofs
open Go Go.Vc
attribute [local congr] cr
section
variable{w W:World}{K:cm}{s:iq}{ss tt:Nat->Value}{sb i n:Nat}{d nx fu:Int}{cs:List Value}
def PR(hi:3<=i)(E:i<=7)(h:cR W sb d nx fu tt)(C:∀i,3<=i->i<=7->∃a n c,tt i=.slice a n c)(V:Rd W (wA i) (tt i) n cs)(g:cs.all (·.oneCell')=true)(hn:n<=100000){K:World->Prop}
  (O:∀k l,dW l (Cb i) (wA i) k n cs->cR l sb d nx fu (dg tt i k)->cl (λy=>y=sb) W l->(∀b,co k b->W.heap.size<=b)->K l):
  rx Tryz.prog (dP (rL i) 0 []) W λT P=>rv Tryz.prog (Instr.fieldAt lY (.pointer (some ⟨sb,0,none⟩)) i) P λI M=>rv Tryz.prog (Instr.loadAt (rL i) I) M λZ X=>rx Tryz.prog (cv #[rL i,rL i] (rL i) [T,Z]) X λo p=>rv Tryz.prog (Instr.fieldAt lY (.pointer (some ⟨sb,0,none⟩)) i) p λq t=>ru Tryz.prog (Instr.storeAt (rL i) q o) t K:=by
 have u:=Nc i;refine fg [] (L6 i) (cI (Ic i)) rfl rfl (by simp) (by omega) ?_;have j:cl (λ_=>False) W (W.alloc (.cells (([]:List Value).flatMap (·.cells.toList)).toArray (Cb i))):=(cl.refl _ W).alloc _
 have D:dW (W.alloc (.cells (([]:List Value).flatMap (·.cells.toList)).toArray (Cb i))) (Cb i) (wA i) (.slice (some ⟨W.heap.size,0,none⟩) 0 0) 0 []:=by
  refine⟨by simp,.inr ⟨W.heap.size,0,[],rfl,Nat.le_refl _,?_,by simp⟩⟩;rw[cY,if_pos rfl];simp
 have F:∀b,co (.slice (some ⟨W.heap.size,0,none⟩) 0 0) b->W.heap.size<=b:=λb f=>by
  simp only[co,uw]at f;have:=Option.some.inj f;omega
 generalize W.alloc (.cells (([]:List Value).flatMap (·.cells.toList)).toArray (Cb i))=w1 at j D|-;have G:=j.hpk h id;refine ck (dv sb i (by omega) _) (ck (dC G C i hi E) ?_);refine dt (n:=0) (m:=n) (L6 i) (L6 i) (cI (Ic i)) D (V.mod j λ_ _ h=>h) g (Nat.le_trans (Nat.mul_le_mul (show 0+n<=100000 by omega) u.2) (by decide)) λr Y z H N=>?_;have B:cl (λ_=>False) W Y:=j.on H λb f=>.inr (F b f);have R:=j.size;have v:∀b,co r b->W.heap.size<=b:=λb f=>(N b f).elim (F b) λh=>by omega
 obtain⟨a,c,e,-⟩:=z.isSl;obtain⟨J,U,L,x⟩:=nv (B.hpk h id) C i hi E (s' :=r) ⟨_,_,_,e⟩;refine ck (dv sb i (by omega) _) (dI U ?_);have Q:=cn h;have A:=z.mod x λy S e=>by have:=v y S;omega
 rw[Nat.zero_add,List.nil_append]at A;exact O r J A L ((B.mono λ_ _ h=>h.elim).trans x) v
def uD(s:iq):∀i,3<=i->i<=7->(LC s.accts s.cts s.poss s.ords s.bids i).all (·.oneCell')=true:=λi h1 a=>by
 rcases(show i=3\/i=4\/i=5\/i=6\/i=7 by omega)with rfl|rfl|rfl|rfl|rfl
 ·show(s.accts.flatMap cJ).all _=true;rw[List.all_flatMap];exact List.all_eq_true.2 λx _=>rfl
 ·show(s.cts.flatMap dN).all _=true;rw[List.all_flatMap];exact List.all_eq_true.2 λx _=>qa x
 ·show(s.poss.flatMap cK).all _=true;rw[List.all_flatMap];exact List.all_eq_true.2 λx _=>rfl
 ·exact wi s.ords
 ·exact wi s.bids
set_option maxRecDepth 10000 in
def DR(h:eS w ss s)(B:s.accts.length<=100000/\s.cts.length<=100000/\s.poss.length<=100000/\s.ords.length<=100000/\s.bids.length<=100000)
  (hK:∀C R,eS R C s->cl (λ_=>False) w R->K (oJ s.day s.next s.fund C) R):Ca Tryz.prog 23 #[oJ s.day s.next s.fund ss] w K:=by
 have l:=h.sl;apply QK;obtain⟨w1,Z,M,m1⟩:=js s.day s.next s.fund ss w;obtain⟨sb,P⟩:∃p,p=w.heap.size:=⟨_,rfl⟩
 rw[<-P]at Z M;refine ck Z ?_;obtain⟨t,e2,S,m2⟩:=kV w1;obtain⟨z,hz⟩:∃z,z=w1.heap.size:=⟨_,rfl⟩
 rw[<-hz]at e2 S;refine ck e2 ?_;have Q:=m1.trans m2;have b2:cR t sb s.day s.next s.fund ss:=m2.hpk M id;have hsz:=cn M;have J:cR t z 0 0 0 (jY cF):=S;have hzl:=cn S
 have a:∀i,3<=i->i<=7->LN s.accts s.cts s.poss s.ords s.bids i<=100000:=λi F H=>by
  rcases(show i=3\/i=4\/i=5\/i=6\/i=7 by omega)with rfl|rfl|rfl|rfl|rfl
  ·exact B.1
  ·exact B.2.1
  ·exact B.2.2.1
  ·exact B.2.2.2.1
  ·exact B.2.2.2.2
 have g:∀{X:World} (i:Nat),3<=i->i<=7->cl (λy=>y=sb) t X->Rd X (wA i) (ss i) (LN s.accts s.cts s.poss s.ords s.bids i) (LC s.accts s.cts s.poss s.ords s.bids i):=λi F H m=>((h i F H).mod Q λ_ _ h=>h).mod m λy q e=>by have:=(h i F H).lt q;omega
 have k0:=cl.refl (λy=>y=sb) t
 have r3:Rd t (wA 3) (ss 3) (LN s.accts s.cts s.poss s.ords s.bids 3) (LC s.accts s.cts s.poss s.ords s.bids 3):=by
  rw[show ss 3=ss 3 from rfl];exact g 3 (by omega) (by omega) k0
 refine PR (i:=3) (by omega) (by omega) b2 l r3 (uD s 3 (by omega) (by omega)) (a 3 (by omega) (by omega)) λj u3 Y v3 n3 g3=>?_;obtain⟨x3,y3,q3,-⟩:=Y.isSl;have u:=iw l 3 (s' :=j) ⟨_,_,_,q3⟩;have k3:=k0.trans n3;have zz3:=k3.size
 have r4:Rd u3 (wA 4) ((dg (ss) 3 j) 4) (LN s.accts s.cts s.poss s.ords s.bids 4) (LC s.accts s.cts s.poss s.ords s.bids 4):=by
  rw[show(dg (ss) 3 j) 4=ss 4 from rfl];exact g 4 (by omega) (by omega) k3
 refine PR (i:=4) (by omega) (by omega) v3 u r4 (uD s 4 (by omega) (by omega)) (a 4 (by omega) (by omega)) λo u4 o4 v4 n4 g4=>?_;obtain⟨x4,y4,q4,-⟩:=o4.isSl;have A:=iw u 4 (s' :=o) ⟨_,_,_,q4⟩;have k4:=k3.trans n4;have zz4:=k4.size
 have r5:Rd u4 (wA 5) ((dg (dg (ss) 3 j) 4 o) 5) (LN s.accts s.cts s.poss s.ords s.bids 5) (LC s.accts s.cts s.poss s.ords s.bids 5):=by
  rw[show(dg (dg (ss) 3 j) 4 o) 5=ss 5 from rfl];exact g 5 (by omega) (by omega) k4
 refine PR (i:=5) (by omega) (by omega) v4 A r5 (uD s 5 (by omega) (by omega)) (a 5 (by omega) (by omega)) λr u5 U v5 N g5=>?_;obtain⟨x5,y5,q5,-⟩:=U.isSl;have D:=iw A 5 (s' :=r) ⟨_,_,_,q5⟩;have k5:=k4.trans N;have zz5:=k5.size
 have r6:Rd u5 (wA 6) ((dg (dg (dg (ss) 3 j) 4 o) 5 r) 6) (LN s.accts s.cts s.poss s.ords s.bids 6) (LC s.accts s.cts s.poss s.ords s.bids 6):=by
  rw[show(dg (dg (dg (ss) 3 j) 4 o) 5 r) 6=ss 6 from rfl];exact g 6 (by omega) (by omega) k5
 refine PR (i:=6) (by omega) (by omega) v5 D r6 (uD s 6 (by omega) (by omega)) (a 6 (by omega) (by omega)) λG u6 o6 v6 I g6=>?_;obtain⟨x6,y6,q6,-⟩:=o6.isSl;have E:=iw D 6 (s' :=G) ⟨_,_,_,q6⟩;have k6:=k5.trans I;have zz6:=k6.size
 have r7:Rd u6 (wA 7) ((dg (dg (dg (dg (ss) 3 j) 4 o) 5 r) 6 G) 7) (LN s.accts s.cts s.poss s.ords s.bids 7) (LC s.accts s.cts s.poss s.ords s.bids 7):=by
  rw[show(dg (dg (dg (dg (ss) 3 j) 4 o) 5 r) 6 G) 7=ss 7 from rfl];exact g 7 (by omega) (by omega) k6
 refine PR (i:=7) (by omega) (by omega) v6 E r7 (uD s 7 (by omega) (by omega)) (a 7 (by omega) (by omega)) λc7 u7 o7 v7 v g7=>?_;obtain⟨x7,y7,q7,-⟩:=o7.isSl;have O:=iw E 7 (s' :=c7) ⟨_,_,_,q7⟩;have k7:=k6.trans v;have zz7:=k7.size;have L:z≠sb:=by omega
 refine ck (sq v7) ?_;obtain⟨w8,e8,b8,m8⟩:=uH (d:=s.day) (n:=s.next) (f:=s.fund) (ss:=dg (dg (dg (dg (dg (ss) 3 j) 4 o) 5 r) 6 G) 7 c7) (k7.hpk J L) rfl O;refine dI e8 (cx (sq b8) ?_);have hw2:=Q.size;have x:∀{c:Value} {X:World} {n:Nat} {cs:List Value} {T:TypeId} {V:Nat},dW X T V c n cs->(∀b,co c b->t.heap.size<=b)->cl (λy=>y=sb) X u7->Rd w8 V c n cs:=λho hg m=>((ho.mod m λy q e=>by have:=hg y q;omega).mod m8 λy q e=>by have:=hg y q;omega).rd;refine hK _ w8 (λi F H=>?_) ((Q.on k7 λy q=>.inr (by omega)).on m8 λy q=>.inr (by omega));rcases(show i=3\/i=4\/i=5\/i=6\/i=7 by omega)with rfl|rfl|rfl|rfl|rfl
 ·exact x Y (λb k=>g3 b k) (((n4.trans N).trans I).trans v)
 ·exact x o4 (λb k=>by have:=g4 b k;omega) ((N.trans I).trans v)
 ·exact x U (λb k=>by have:=g5 b k;omega) (I.trans v)
 ·exact x o6 (λb k=>by have:=g6 b k;omega) v
 ·exact x o7 (λb k=>by have:=g7 b k;omega) (cl.refl _ _)
def DX(s:iq):Bool:=decide (100<s.accts.length)||(decide (100<s.cts.length)||(decide (300<s.poss.length)||(decide (300<s.ords.length)||decide (300<s.bids.length))))
set_option maxRecDepth 10000 in
def CN(h:eS w ss s)(f:∀g,cl (λ_=>False) w g->K (.bool (DX s)) g):Ca Tryz.prog 22 #[oJ s.day s.next s.fund ss] w K:=by
 have b:=h.sl;apply Rw;obtain⟨j,t,k,u⟩:=js s.day s.next s.fund ss w;have f:=f _ u;obtain⟨sb,o⟩:∃p,p=w.heap.size:=⟨_,rfl⟩
 rw[<-o]at t k;refine ck t ?_;unfold DX at f;refine ck (dv sb 3 (by omega) _) (ck (dC k b 3 (by omega) (by omega)) (fi (v:=.int .i64 (s.accts.length:Int)) (w' :=j) (by obtain⟨a,c,e⟩:=h.accts.isSl;rw[e];simp[go_sem]) ?_));refine ck (v:=.bool (decide (100<s.accts.length))) (w' :=j) (by simp[go_sem];omega) ?_;by_cases q:100<s.accts.length
 ·rw[decide_eq_true q]at f|-;rw[ci,if_pos rfl];exact f
 rw[decide_eq_false q,Bool.false_or]at f;rw[decide_eq_false q,ci,if_neg Bool.false_ne_true];refine ck (dv sb 4 (by omega) _) (ck (dC k b 4 (by omega) (by omega)) (fi (v:=.int .i64 (s.cts.length:Int)) (w' :=j) (by obtain⟨a,c,e⟩:=h.cts.isSl;rw[e];simp[go_sem]) ?_));refine ck (v:=.bool (decide (100<s.cts.length))) (w' :=j) (by simp[go_sem];omega) ?_;by_cases l:100<s.cts.length
 ·rw[decide_eq_true l]at f|-;rw[ci,if_pos rfl];exact f
 rw[decide_eq_false l,Bool.false_or]at f;rw[decide_eq_false l,ci,if_neg Bool.false_ne_true];refine ck (dv sb 5 (by omega) _) (ck (dC k b 5 (by omega) (by omega)) (fi (v:=.int .i64 (s.poss.length:Int)) (w' :=j) (by obtain⟨a,c,e⟩:=h.poss.isSl;rw[e];simp[go_sem]) ?_));refine ck (v:=.bool (decide (300<s.poss.length))) (w' :=j) (by simp[go_sem];omega) ?_;by_cases m:300<s.poss.length
 ·rw[decide_eq_true m]at f|-;rw[ci,if_pos rfl];exact f
 rw[decide_eq_false m,Bool.false_or]at f;rw[decide_eq_false m,ci,if_neg Bool.false_ne_true];refine ck (dv sb 6 (by omega) _) (ck (dC k b 6 (by omega) (by omega)) (fi (v:=.int .i64 (s.ords.length:Int)) (w' :=j) (by obtain⟨a,c,e⟩:=h.ords.isSl;rw[e];simp[go_sem]) ?_));refine ck (v:=.bool (decide (300<s.ords.length))) (w' :=j) (by simp[go_sem];omega) ?_;by_cases r:300<s.ords.length
 ·rw[decide_eq_true r]at f|-;rw[ci,if_pos rfl];exact f
 rw[decide_eq_false r,Bool.false_or]at f;rw[decide_eq_false r,ci,if_neg Bool.false_ne_true];refine ck (dv sb 7 (by omega) _) (ck (dC k b 7 (by omega) (by omega)) (fi (v:=.int .i64 (s.bids.length:Int)) (w' :=j) (by obtain⟨a,c,e⟩:=h.bids.isSl;rw[e];simp[go_sem]) ?_));refine ck (v:=.bool (decide (300<s.bids.length))) (w' :=j) (by simp[go_sem];omega) ?_;exact f
end
end Go.Proofs
namespace Go.Proofs
open Go Go.Vc
def JV{α:Type}(f:Rs->α×Rs):Nat->List α->Rs->List α×Rs
 |0,acc,s=>(acc,s)
 |n+1,acc,s=>if s.e≠0 then(acc,s)else JV f n (acc++[(f s).1]) (f s).2
def og{α:Type}(l:List UInt8)(f:Rs->α×Rs)(most:Nat)(s:Rs):List α×Rs:=JV f (cN l most s).1 [] (cN l most s).2
def Qn(l:List UInt8):iq×Rs:=
 let a:=cM l jj ⟨0,0⟩;let b:=cM l xw a.2;let c:=dQ l b.2;let d:=og l (pv l) 64 c.2;let e:=og l (mJ l) 16 d.2;let f:=og l (pI l) 1024 e.2;let g:=og l (kC l) 3200 f.2;let h:=og l (kC l) 800 g.2
 (⟨a.1,b.1,c.1,d.1,e.1,f.1,g.1,h.1⟩,h.2)
section
variable{α:Type}{l:List UInt8}{f:Rs->α×Rs}{g:α->List UInt8}
end
section
attribute [local irreducible] lw pv mJ pI kC dO og
end
section
attribute [local irreducible] lw cM dQ
end
section
attribute [local irreducible] lw pv mJ pI kC cM dQ
end
def lm{α:Type}(f:List UInt8->Rs->α×Rs)(x:α)(b:List UInt8):Prop:=∀L a r,L=a++(b++r)->f L ⟨a.length,0⟩=(x,⟨(a++b).length,0⟩)
def oe{n most:Nat}(h:n<=most)(c:n<18446744073709551616):lm (λl=>cN l most) n (eG n):=λL a r b=>by
 show cN L most ⟨a.length,0⟩=_;unfold cN;rw[if_neg (by simp)];simp only;have e:L.drop a.length=eG n++r:=by rw[b,List.drop_left]
 rw[e,Dq r c];simp only;rw[if_neg (by omega),List.length_append]
def ee{x:Int}{most:Nat}(b:0<=x)(h:x<=most)(d:most<18446744073709551616):lm (λl=>cM l most) x (cE x):=λL a r c=>by
 have:=oe (n:=x.toNat) (most:=most) (by omega) (by omega) L a r c;simp only at this;show cM L most ⟨a.length,0⟩=_;unfold cM;rw[this];simp only;rw[Int.toNat_of_nonneg b];rfl
def iK{x:Int}(h:eQ x):lm dQ x (dG x):=λL a r b=>by
 have:=oe (n:=xR x) (most:=18446744073709551615) (by have:=tM h;omega) (tM h) L a r b;simp only at this;unfold dQ;rw[this];simp only;rw[Ja];rfl
def pL(f:Bool):lm gz f (eK f):=λL a r b=>by
 unfold gz;rw[if_neg (by simp)];have d:L.length=a.length+(1+r.length):=by rw[b];simp[eK];omega
 rw[if_neg (by simp only;omega)]
 have c:L.getD a.length 0=if f then 1 else 0:=by
  rw[b];simp[List.getD,eK]
 simp only;rw[c];cases f
 ·rw[if_neg (by decide)];simp[eK]
  try omega
 ·rw[if_neg (by decide)];simp[eK]
  try omega
def ra{a b c r:List UInt8}:a++(b++c++r)=(a++b)++(c++r):=by simp
def uj:∀v:List Int,(∀x∈v,eQ x)->lm (λl=>er l v.length) v (v.flatMap dG)
 | [],h=>λL a r b=>by simp[er]
 |x::v,h=>λL a r b=>by
  have h1:=iK (h x (by simp)) L a (v.flatMap dG++r) (by rw[b];simp);have c:=uj v (λy d=>h y (by simp[d])) L (a++dG x) r (by rw[b];simp);simp only at c;show((dQ L ⟨a.length,0⟩).1::(er L v.length (dQ L ⟨a.length,0⟩).2).1,(er L v.length (dQ L ⟨a.length,0⟩).2).2)=_;rw[h1];simp only;rw[c];simp
def tY{α:Type}{f:List UInt8->Rs->α×Rs}{g:α->List UInt8}:∀(v acc:List α),(∀x∈v,lm f x (g x))->lm (λl=>dY l (f l) v.length acc) (acc++v) (v.flatMap g)
 | [],acc,h=>λL a r b=>by simp[dY]
 |x::v,acc,h=>λL a r b=>by
  have h1:=h x (by simp) L a (v.flatMap g++r) (by rw[b];simp);have c:=tY v (acc++[x]) (λy e=>h y (by simp[e])) L (a++g x) r (by rw[b];simp);simp only at c;show dY L (f L) (v.length+1) acc ⟨a.length,0⟩=_;unfold dY;rw[h1];simp only;rw[c,if_neg]
  ·simp
  ·intro d;refine d.2 ?_;have:=d.1;have i:L.length=(a++g x).length+((v.flatMap g).length+r.length):=by rw[b];simp;omega
   unfold en;rw[if_neg (by simp only;omega)]
def kH{α:Type}{f:List UInt8->Rs->α×Rs}{g:α->List UInt8}{v:List α}{most:Nat}(h:v.length<=most)(e:most<18446744073709551616)(d:∀x∈v,lm f x (g x)):lm (λl=>dO l (f l) most) v (gG g v):=λL a r c=>by
 have h1:=oe (n:=v.length) (most:=most) h (by omega) L a (v.flatMap g++r) (by rw[c];simp[gG]);have b:=tY v [] d L (a++eG v.length) r (by rw[c];simp[gG]);simp only at h1 b;show dO L (f L) most ⟨a.length,0⟩=_;unfold dO;rw[h1];simp only;rw[b];simp[gG]
def Fp{x:Ac}(e:fq x.num)(f:eQ x.cash):lm pv x (qQ x):=λL a r b=>by
 obtain⟨n,c,k,d⟩:=x;simp only[qQ]at b|-;simp only at e f;have h1:=ee (x:=n) (most:=jj) e.1 (by have:=e.2;unfold jj;omega) (by decide) L a (dG c++(eK k++eK d)++r) (by rw[b];simp);have g:=iK f L (a++cE n) ((eK k++eK d)++r) (by rw[b];simp);have i:=pL k L (a++cE n++dG c) (eK d++r) (by rw[b];simp);have h:=pL d L (a++cE n++dG c++eK k) r (by rw[b];simp);simp only at h1;unfold pv;simp only[h1,g,i,h];simp
def DA{x:Po}(h:(fq x.c/\fq x.a)/\eQ x.q/\eQ x.b):lm pI x (pM x):=λL a r b=>by
 obtain⟨n,c,k,d⟩:=x;simp only[pM]at b|-;obtain⟨⟨f,e⟩,g,j⟩:=h;simp only at f e g j;have h1:=ee (x:=n) (most:=jj) f.1 (by have:=f.2;unfold jj;omega) (by decide) L a (cE c++(dG k++dG d)++r) (by rw[b];simp);have i:=ee (x:=c) (most:=jj) e.1 (by have:=e.2;unfold jj;omega) (by decide) L (a++cE n) ((dG k++dG d)++r) (by rw[b];simp);have m:=iK g L (a++cE n++cE c) (dG d++r) (by rw[b];simp);have l:=iK j L (a++cE n++cE c++dG k) r (by rw[b];simp);simp only at h1 i;unfold pI;simp only[h1,i,m,l];simp
def xT{x:Int×Od}(e:fq x.1)(h:x.2.Fit):lm kC x (jl x):=λL a r b=>by
 obtain⟨n,⟨m,t,y,p,q⟩⟩:=x;simp only[jl]at b|-;obtain⟨d,c,j,g⟩:=h;simp only at e d c j g;have h1:=ee (x:=n) (most:=jj) e.1 (by have:=e.2;unfold jj;omega) (by decide) L a (cE m++(cE t++(eK y++(dG p++dG q)))++r) (by rw[b];simp);have f:=ee (x:=m) (most:=xw) d.1 (by have:=d.2;unfold xw;omega) (by decide) L (a++cE n) (cE t++(eK y++(dG p++dG q))++r) (by rw[b];simp);have i:=ee (x:=t) (most:=jj) c.1 (by have:=c.2;unfold jj;omega) (by decide) L (a++cE n++cE m) (eK y++(dG p++dG q)++r) (by rw[b];simp);have k:=pL y L (a++cE n++cE m++cE t) (dG p++dG q++r) (by rw[b];simp);have l:=iK j L (a++cE n++cE m++cE t++eK y) (dG q++r) (by rw[b];simp);have o:=iK g L (a++cE n++cE m++cE t++eK y++dG p) r (by rw[b];simp);simp only at h1 f i;unfold kC;simp only[h1,f,i,k,l,o];simp
def NA(x:Sp)(h:x.shifts.toList.toArray.size=16):(⟨x.num,x.route,x.tick,x.lot,x.band,x.limit,⟨x.shifts.toList.toArray,h⟩,x.credit,x.last,x.first⟩:Sp)=x:=by
 obtain⟨_,_,_,_,_,_,⟨⟨b⟩,a⟩,_,_,_⟩:=x;rfl
def DV{x:Sp}(A:x.Fit)(c:x.may=true):lm lw x (vu x):=λL a r b=>by
 obtain⟨k,E,G,F,B,D,z,v,t,h⟩:=A;have I:=Sp.may_tick c;have d:=c;unfold Sp.may mg cy at d;simp only[Bool.and_eq_true,decide_eq_true_eq]at d;have H:0<=x.credit:=by omega
 have i:0<=x.first:=by omega
 unfold vu at b|-;rw[if_pos c]at b|-;unfold eQ at G F B D v h;have y:x.tick<=(iM:Nat):=by unfold iM;omega
 have C:x.lot<=(iM:Nat):=by unfold iM;omega
 have u:x.band<=(iM:Nat):=by unfold iM;omega
 have w:x.limit<=(iM:Nat):=by unfold iM;omega
 have b8:x.credit<=(iM:Nat):=by unfold iM;omega
 have g:x.first<=(iM:Nat):=by unfold iM;omega
 have h1:=ee (x:=x.num) (most:=jj) k.1 (by have:=k.2;unfold jj;omega) (by decide) L a (cE x.route++(cE x.tick++(cE x.lot++(cE x.band++(cE x.limit++(x.shifts.toList.flatMap dG++(cE x.credit++(cE x.last++(cE x.first++r))))))))) (by rw[b];simp);have j:=ee (x:=x.route) (most:=255) E.1 (by omega) (by decide) L (a++cE x.num) (cE x.tick++(cE x.lot++(cE x.band++(cE x.limit++(x.shifts.toList.flatMap dG++(cE x.credit++(cE x.last++(cE x.first++r)))))))) (by rw[b];simp);have p:=ee (x:=x.tick) (most:=iM) (by omega) y (by decide) L (a++cE x.num++cE x.route) (cE x.lot++(cE x.band++(cE x.limit++(x.shifts.toList.flatMap dG++(cE x.credit++(cE x.last++(cE x.first++r))))))) (by rw[b];simp);have l:=ee (x:=x.lot) (most:=iM) (by omega) C (by decide) L (a++cE x.num++cE x.route++cE x.tick) (cE x.band++(cE x.limit++(x.shifts.toList.flatMap dG++(cE x.credit++(cE x.last++(cE x.first++r)))))) (by rw[b];simp);have n:=ee (x:=x.band) (most:=iM) (by omega) u (by decide) L (a++cE x.num++cE x.route++cE x.tick++cE x.lot) (cE x.limit++(x.shifts.toList.flatMap dG++(cE x.credit++(cE x.last++(cE x.first++r))))) (by rw[b];simp);have q:=ee (x:=x.limit) (most:=iM) (by omega) w (by decide) L (a++cE x.num++cE x.route++cE x.tick++cE x.lot++cE x.band) (x.shifts.toList.flatMap dG++(cE x.credit++(cE x.last++(cE x.first++r)))) (by rw[b];simp);have m:=uj x.shifts.toList z L (a++cE x.num++cE x.route++cE x.tick++cE x.lot++cE x.band++cE x.limit) (cE x.credit++(cE x.last++(cE x.first++r))) (by rw[b];simp);have o:=ee (x:=x.credit) (most:=iM) H b8 (by decide) L (a++cE x.num++cE x.route++cE x.tick++cE x.lot++cE x.band++cE x.limit++x.shifts.toList.flatMap dG) (cE x.last++(cE x.first++r)) (by rw[b];simp);have s:=ee (x:=x.last) (most:=jj) t.1 (by have:=t.2;unfold jj;omega) (by decide) L (a++cE x.num++cE x.route++cE x.tick++cE x.lot++cE x.band++cE x.limit++x.shifts.toList.flatMap dG++cE x.credit) (cE x.first++r) (by rw[b];simp);have f:=ee (x:=x.first) (most:=iM) i g (by decide) L (a++cE x.num++cE x.route++cE x.tick++cE x.lot++cE x.band++cE x.limit++x.shifts.toList.flatMap dG++cE x.credit++cE x.last) r (by rw[b];simp);simp only[Vector.length_toList]at h1 j p l n q m o s f
 have e:lQ L ⟨a.length,0⟩=(x,⟨(a++vu x).length,0⟩):=by
  unfold lQ;simp only[h1,j,p,l,n,q,m,o,s,f];unfold vu;rw[if_pos c];simp;exact NA x _
 unfold lw;rw[e];simp only;rw[if_pos c];unfold vu;rw[if_pos c]
def DS{x:Ct}(h:x.Fit)(c:x.spec.may=true):lm mJ x (qD x):=λL a r b=>by
 obtain⟨s,n,p⟩:=x;simp only[qD]at b|-;obtain⟨e,d,g⟩:=h;simp only at e d g c;have h1:=DV e c L a (cE n++dG p++r) (by rw[b];simp);have f:=ee (x:=n) (most:=255) d.1 (by omega) (by decide) L (a++vu s) (dG p++r) (by rw[b];simp);have i:=iK g L (a++vu s++cE n) r (by rw[b];simp);simp only at f;unfold mJ;simp only[h1,f,i];simp
attribute [local irreducible] lw pv mJ pI kC dO in
def Co{s:iq}(D:s.Fit)(t:s.accts.length<=64/\s.cts.length<=16/\s.poss.length<=1024/\s.ords.length<=3200/\s.bids.length<=800)(w:∀k∈s.cts,k.spec.may=true):jq (kF s)=(s,⟨(kF s).length,0⟩):=by
 obtain⟨d,n,c,ac,ct,po,od,f⟩:=s;obtain⟨i,l,z,m,u,v,h,g⟩:=D;simp only at i l z m u v h g t w;obtain⟨F,G,B,C,A⟩:=t;obtain⟨L,b⟩:∃L,L=kF ⟨d,n,c,ac,ct,po,od,f⟩:=⟨_,rfl⟩
 rw[<-b];unfold kF at b;simp only at b;have h1:=ee (x:=d) (most:=jj) i.1 (by have:=i.2;unfold jj;omega) (by decide) L [] (cE n++(dG c++(gG qQ ac++(gG qD ct++(gG pM po++(gG jl od++gG jl f)))))) (by rw[b];simp);have o:=ee (x:=n) (most:=xw) l.1 (by have:=l.2;unfold xw;omega) (by decide) L (cE d) (dG c++(gG qQ ac++(gG qD ct++(gG pM po++(gG jl od++gG jl f))))) (by rw[b]);have E:=iK z L (cE d++cE n) (gG qQ ac++(gG qD ct++(gG pM po++(gG jl od++gG jl f)))) (by rw[b];simp);have p:=kH F (by decide) (λx a=>Fp (m x a).1 (m x a).2) L (cE d++cE n++dG c) (gG qD ct++(gG pM po++(gG jl od++gG jl f))) (by rw[b];simp);have r:=kH G (by decide) (λx a=>DS (u x a) (w x a)) L (cE d++cE n++dG c++gG qQ ac) (gG pM po++(gG jl od++gG jl f)) (by rw[b];simp);have y:=kH B (by decide) (λx a=>DA (v x a)) L (cE d++cE n++dG c++gG qQ ac++gG qD ct) (gG jl od++gG jl f) (by rw[b];simp);have q:=kH C (by decide) (λx a=>xT (h x a).1 (h x a).2) L (cE d++cE n++dG c++gG qQ ac++gG qD ct++gG pM po) (gG jl f) (by rw[b];simp);have j:=kH A (by decide) (λx a=>xT (g x a).1 (g x a).2) L (cE d++cE n++dG c++gG qQ ac++gG qD ct++gG pM po++gG jl od) [] (by rw[b];simp);simp only[List.nil_append,List.length_nil]at h1 o;simp only at p r y q j;have e:cE d++cE n++dG c++gG qQ ac++gG qD ct++gG pM po++gG jl od++gG jl f=L:=by rw[b];simp
 rw[e]at j;unfold jq;simp only[h1,o,E,p,r,y,q,j]
end Go.Proofs
namespace Go.Proofs
open Go Go.Vc
def Cr{s:iq}(h:jV s):∀k∈s.cts,k.spec.may=true:=λk b=>by
 obtain⟨c,d,e,a⟩:=(iE h.cts).1 k b;unfold Sp.isPrice at a;exact(Bool.and_eq_true _ _▸a).1
def vU{s:iq}{S:dF}(h:fZ s=some S):s.accts.length<=64/\s.cts.length<=16/\∀k∈s.cts,k.spec.may=true:=by
 obtain⟨a,-,-,-⟩:=It h;exact⟨a.led.len,a.len,Cr a⟩
def zL{s:iq}{S:dF}(c:s.Fit)(a:s.poss.length<=1024/\s.ords.length<=3200/\s.bids.length<=800)(h:fZ s=some S):lu (kF s)=some (s,S):=by
 obtain⟨h1,d,f⟩:=vU h;have e:=Co c ⟨h1,d,a.1,a.2.1,a.2.2⟩ f;unfold lu;rw[e]
 have b:en (kF s) ⟨(kF s).length,0⟩=0:=by
  unfold en;rw[if_neg (by simp)]
 rw[if_pos b];simp only;rw[h];rfl
end Go.Proofs
namespace Go.Proofs
open Go Go.Vc
attribute [local congr] cr
section
attribute [local irreducible] cM er
end
section
variable{w:World}{K:cm}{r:Nat}{v:Value}{l:List UInt8}{s:Rs}
end
section
variable{w:World}{K:cm}{r:Nat}{v:Value}{l:List UInt8}{s:Rs}
end
section
variable{w:World}{b lo:Nat}{d nx fu:Int}{ss:Nat->Value}{A:List Ac}{C:List Ct}{P:List Po}{O B:List (Int×Od)}
variable{w0 W W' :World}{r z q:Nat}{v:Value}{l:List UInt8}{t t' :Rs}
end
def Sg(l:List UInt8):Int×Rs:=cM l jj ⟨0,0⟩
def RV(l:List UInt8):Int×Rs:=cM l xw (Sg l).2
def RW(l:List UInt8):Int×Rs:=dQ l (RV l).2
def st3(l:List UInt8):List Ac×Rs:=og l (pv l) 64 (RW l).2
def st4(l:List UInt8):List Ct×Rs:=og l (mJ l) 16 (st3 l).2
def st5(l:List UInt8):List Po×Rs:=og l (pI l) 1024 (st4 l).2
def st6(l:List UInt8):List (Int×Od)×Rs:=og l (kC l) 3200 (st5 l).2
def st7(l:List UInt8):List (Int×Od)×Rs:=og l (kC l) 800 (st6 l).2
section
attribute [local irreducible] cM dQ gz lw cN
variable{w0 W:World}{r z q:Nat}{v:Value}{l:List UInt8}{ss:Nat->Value}{K:cm}
end
def Eg:Tryz.prog.underlying 9=some .string:=by kernel_rfl
def LU:Tryz.prog.underlying 5=some (.int .u8):=by kernel_rfl
def Hs(x y:List UInt8)(w:World):(tf .eql 9 false (.string (jT x)) (.string (jT y))).run Tryz.prog w=.ok (.bool (decide (x=y))) w:=by
 simp[go_sem];by_cases h:x=y<;>simp[h]
section
attribute [local irreducible] Qn jq Sg RV RW st3 st4 st5 st6 st7 kF en
variable{w0 W:World}{r z q:Nat}{v:Value}{l:List UInt8}{ss:Nat->Value}{K:cm}
end
end Go.Proofs
