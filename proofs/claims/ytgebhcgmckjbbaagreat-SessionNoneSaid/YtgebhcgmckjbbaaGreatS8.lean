/- Part of a proof. -/
import Derived.Test.YtgebhcgmckjbbaaGreatS6
import Derived.Test.YtgebhcgmckjbbaaGreatS7
set_option linter.all false
namespace Go.Proofs
open Go Go.Vc
attribute [local congr] Ca_congV
theorem ca_wtext{w:World}{K:Kont}{s x:Value}{k m:Nat}{l t:List UInt8}(h:Own w 5 1 s k (bv l))(hx:Rd w 1 x m (bv t))(hd:∀b,inSl s b→¬inRd x b)(hm:m≤1000000000)(hk:k≤900000000)
  (hK:∀s' w',Own w' 5 1 s' (k+(textB t).length) (bv (l++textB t))→Mod (inSl s) w w' →(∀b,inSl s' b→inSl s b∨w.heap.size≤b)→K s' w'):
  Ca Tryz.prog 101 #[s,x] w K:=by
 have hl:=hx.len_eq
 apply ca101
 unfold F101
 obtain⟨a,c,rfl⟩:=hx.isSl
 refine rnS (v:=.int .i64 (m:Int)) (w' :=w) (by simp[go_sem]) ?_
 refine rvS (v:=.int .u64 (m:Int)) (w' :=w) (by simp[go_sem,wrapU (n:=(m:Int)) (by omega) (by omega)]) ?_
 refine ca_wnat h (by omega) (by omega) λs2 w2 o2 m2 n2=>?_
 have hlen:=natB_len10 (n:=m) (by omega)
 have hx2:=hx.mod m2 λb hb hs=>hd b hs hb
 refine rx_append uBs uBs (elemT_of u8E) o2 hx2 (bv_one _) (by omega) λs3 w3 o3 m3 n3=>?_
 refine hK _ _ ?_ (m2.on m3 n2) ?_
 ·rw[←bv_append,List.append_assoc]at o3
  unfold textB
  rw[hl]
  have e:k+(natB m++t).length=k+(natB m).length+m:=by simp[hl];omega
  rw[e];exact o3
 ·intro b hb
  rcases n3 b hb with h1|h1
  ·exact n2 b h1
  ·have:=m2.size;omega
set_option maxRecDepth 10000 in
theorem ca_text{w:World}{K:Kont}{r most:Nat}{v:Value}{l:List UInt8}{s:Rs}(h:RdrAt w r v l s)(hmost:most<9223372036854775808)
  (hK:∀v2 w',RdrAt w' r v l (rsText l most s).2→Own w' 5 1 v2 (rsText l most s).1.length (bv (rsText l most s).1)→Mod (λb=>b=r) w w' →(∀b,inSl v2 b→w.heap.size≤b)→K v2 w'):
  Ca Tryz.prog 177 #[rptr r,.int .i64 most] w K:=by
 apply ca177
 unfold F177
 refine ca_off h ?_
 have hnil:∀W,Own W 5 1 (.slice none 0 0) 0 (bv []):=λW=>Own.nil W _ 1
 have hnn:∀b,inSl (.slice none 0 0) b→w.heap.size≤b:=λb hb=>by cases hb
 by_cases he:s.e≠0
 ·rw[ifB_bool,if_pos (by simpa using he)]
  have hr:rsText l most s=([],s):=by unfold rsText;rw[if_pos he]
  rw[hr]at hK
  exact hK _ _ h (hnil _) (Mod.refl _ _) hnn
 rw[ifB_bool,if_neg (by simpa using he)]
 have he0:s.e=0:=by omega
 have hr:rsText l most s=match rdN (l.drop s.at_) 0 0 with
  | .error e=>([],{s with e:=e})
  | .ok (n,k)=>if most<n then([],{s with e:=3})else if l.length - (s.at_+k)<n then([],{s with e:=4})else((l.drop (s.at_+k)).take n,{s with at_:=s.at_+k+n}):=by
   unfold rsText;rw[if_neg he];cases rdN (l.drop s.at_) 0 0<;>rfl
 have hle:=h.le
 have hlen:=h.len
 refine ca_nat h λw1 m1=>?_
 have h1:=h.mod m1 id λ_ _ h=>h
 have bad:∀(e:Nat) (v4 v6:Value),e≠0→rsText l most s=([],{s with e:=e})→J177_0 (rptr r) K v4 v6 (.int .i64 e,()) w1:=by
  intro e v4 v6 h0 hc
  rw[hc]at hK
  unfold J177_0
  intro _
  have h0' :¬(e:Int)=0:=by omega
  refine rvS (v:=.bool true) (w' :=w1) (by simp[go_sem,h0'];omega) ?_
  rw[ifB_bool,if_pos rfl]
  obtain⟨hA,hM⟩:=h1.fault e
  simp only[rptr,nilK_ptr]
  refine rvS (v:=.pointer (some ⟨r,2,none⟩)) (w' :=w1) (by simp[go_sem]) ?_
  refine ruS (w' :=w1.setCell ⟨r,2,none⟩ (.int .i64 e)) (by simp[go_sem,h1.blk]) ?_
  exact hK _ _ hA (hnil _) ((m1.mono λ_ _ h=>h.elim).trans hM) hnn
 have hb1:=h1.blk
 obtain⟨a,c,hve⟩:=h.rd.isSl
 cases hrd:rdN (l.drop s.at_) 0 0 with
 |error e=>
  have he5:=rdN_err hrd
  unfold natV
  rw[hrd]at hr⊢
  simp only at hr⊢
  refine rvS (v:=.int .u64 0) (w' :=w1) (by simp[go_sem]) ?_
  refine rvS (v:=.int .i64 0) (w' :=w1) (by simp[go_sem]) ?_
  refine rvS (v:=.int .i64 e) (w' :=w1) (by simp[go_sem]) ?_
  refine JoinW.at (λst W=>st=(.int .i64 e,())∧W=w1) ?_ ?_
  ·refine rvS (v:=.bool true) (w' :=w1) (by simp[go_sem];omega) ?_
   rw[ifB_bool,if_pos rfl]
   exact⟨rfl,rfl⟩
  ·rintro _ _ ⟨rfl,rfl⟩
   exact bad e _ _ (by omega) hr
 |ok p=>
  obtain⟨n,k⟩:=p
  have hf:=rdN_form hrd
  rw[List.length_drop]at hf
  unfold natV
  rw[hrd]at hr⊢
  simp only at hr⊢
  refine rvS (v:=.int .u64 n) (w' :=w1) (by simp[go_sem]) ?_
  refine rvS (v:=.int .i64 (s.at_+k:Nat)) (w' :=w1) (by simp[go_sem]) ?_
  refine rvS (v:=.int .i64 0) (w' :=w1) (by simp[go_sem]) ?_
  refine JoinW.at (λst W=>st=(.int .i64 (if most<n then 3 else if l.length - (s.at_+k)<n then 4 else 0:Nat),())∧W=w1) ?_ ?_
  ·refine rvS (v:=.bool false) (w' :=w1) (by simp[go_sem]) ?_
   rw[ifB_bool,if_neg Bool.false_ne_true]
   refine rnS (v:=.int .i64 most) (w' :=w1) (by simp[go_sem];omega) ?_
   refine rvS (v:=.int .u64 most) (w' :=w1) (by simp[go_sem,bits7 hmost]) ?_
   refine rvS (v:=.bool (decide (most<n))) (w' :=w1) (by simp[go_sem]) ?_
   by_cases hmn:most<n
   ·rw[ifB_bool,if_pos (by simpa using hmn),if_pos hmn]
    simp
   rw[ifB_bool,if_neg (by simpa using hmn),if_neg hmn]
   simp only[rptr,nilK_ptr]
   refine rvS (v:=.pointer (some ⟨r,0,none⟩)) (w' :=w1) (by simp[go_sem]) ?_
   refine rvS (v:=v) (w' :=w1) (by simp[go_sem,hb1]) ?_
   refine rnS (v:=.int .i64 l.length) (w' :=w1) (by rw[hve];simp[go_sem]) ?_
   refine rvS (v:=.int .i64 (l.length - (s.at_+k):Nat)) (w' :=w1) (by simp only[go_sem];simp[-Int.natCast_add];rw[wrapI (by omega) (by omega)];omega) ?_
   refine rvS (v:=.int .u64 (l.length - (s.at_+k):Nat)) (w' :=w1) (by simp[go_sem,bits7 (n:=l.length - (s.at_+k)) (by omega)]) ?_
   refine rvS (v:=.bool (decide (l.length - (s.at_+k)<n))) (w' :=w1) (by simp[go_sem]) ?_
   by_cases hs:l.length - (s.at_+k)<n
   ·rw[ifB_bool,if_pos (by simpa using hs),if_pos hs]
    simp
   ·rw[ifB_bool,if_neg (by simpa using hs),if_neg hs]
    simp
  rintro _ w1 ⟨rfl,rfl⟩
  by_cases hmn:most<n
  ·rw[if_pos hmn]at hr⊢
   exact bad 3 _ _ (by omega) hr
  rw[if_neg hmn]at hr⊢
  by_cases hs:l.length - (s.at_+k)<n
  ·rw[if_pos hs]at hr⊢
   exact bad 4 _ _ (by omega) hr
  rw[if_neg hs]at hr⊢
  rw[hr]at hK
  unfold J177_0
  intro _
  refine rvS (v:=.bool false) (w' :=w1) (by simp[go_sem]) ?_
  rw[ifB_bool,if_neg Bool.false_ne_true]
  refine rvS (v:=.int .i64 n) (w' :=w1) (by simp[go_sem,wrapI (n:=(n:Int)) (by omega) (by omega)]) ?_
  refine rvS (v:=.int .i64 (s.at_+k+n:Nat)) (w' :=w1) (by simp only[go_sem];simp;rw[wrapI (by omega) (by omega)];omega) ?_
  obtain⟨hA,hM⟩:=h1.go (s.at_+k+n) (by omega)
  simp only[rptr,nilK_ptr]
  refine rvS (v:=.pointer (some ⟨r,1,none⟩)) (w' :=w1) (by simp[go_sem]) ?_
  refine ruS (w' :=w1.setCell ⟨r,1,none⟩ (.int .i64 (s.at_+k+n:Nat))) (by simp[-Int.natCast_add,go_sem,hb1]) ?_
  have m2:Mod (λb=>b=r) w (w1.setCell ⟨r,1,none⟩ (.int .i64 (s.at_+k+n:Nat))).drew:=((m1.mono λ_ _ h=>h.elim).trans hM).drew
  replace hA:RdrAt (w1.setCell ⟨r,1,none⟩ (.int .i64 (s.at_+k+n:Nat))).drew r v l {s with at_:=s.at_+k+n}:=hA.mod (F:=λ_=>False) (Mod.refl _ _).drew id λ_ _ h=>h
  generalize(w1.setCell ⟨r,1,none⟩ (.int .i64 (s.at_+k+n:Nat))).drew=w2 at hA m2⊢
  have hb2:=hA.blk
  refine rdPS (v:=.pointer (some ⟨r,0,none⟩)) (λW=>by simp[go_sem]) ?_
  refine rdWS (v:=v) (by simp[go_sem,hb2]) ?_
  refine rdPS (v:=.pointer (some ⟨r,1,none⟩)) (λW=>by simp[go_sem]) ?_
  refine rdWS (v:=.int .i64 (s.at_+k+n:Nat)) (by simp[go_sem,hb2]) ?_
  obtain⟨v',hrun,hd,hin⟩:=hA.rd.part (P:=Tryz.prog) (lo:=s.at_+k) (hi:=s.at_+k+n) uBs u8C (by omega) (by omega) .i64 .i64
  refine rdPS (v:=v') hrun ?_
  refine litV [] uBs (elemT_of u8E) rfl rfl (by omega) λv5 w3 o3 m3 n3=>?_
  have hb3:hp w3 r=some (.cells #[v,.int .i64 (s.at_+k+n:Nat),.int .i64 s.e] 248 (0,0)):=m3.keep hb2 id
  refine⟨by simp[go_sem,hb3],by simp[go_sem,hb3],?_⟩
  have hnd:((bv l).drop ((s.at_+k)*(0+1))).take ((s.at_+k+n - (s.at_+k))*(0+1))=bv ((l.drop (s.at_+k)).take n):=by
   simp only[Nat.zero_add,Nat.mul_one]
   rw[show s.at_+k+n - (s.at_+k)=n by omega,bv_drop,bv_take]
  rw[hnd,show s.at_+k+n - (s.at_+k)=n by omega]at hd
  have hd3:Rd w3 1 v' n (bv ((l.drop (s.at_+k)).take n)):=hd.mod m3 λ_ _ h=>h
  refine rx_append uBs uBs (elemT_of u8E) o3 hd3 (bv_one _) (by omega) λv6 w4 o4 m4 n4=>?_
  have hnl:((l.drop (s.at_+k)).take n).length=n:=by rw[List.length_take,List.length_drop];omega
  have hsz:=m2.size
  have hsz3:=m3.size
  refine hK _ _ ?_ ?_ ((m2.trans (m3.mono λ_ _ h=>h.elim)).on m4 λb hb=>.inr (by have:=(n3 b hb).1;omega)) ?_
  ·have h3:=hA.mod m3 id λ_ _ h=>h
   have hlt:=hA.lt
   refine h3.mod m4 (λhb=>by have:=(n3 _ hb).1;omega) λb hb hb' =>?_
   have h5:=(n3 _ hb').1
   have h6:=hA.rd.lt hb
   omega
  ·simp only
   rw[hnl]
   simpa using o4
  ·intro b hb
   rcases n4 b hb with h5|h5
   ·have:=(n3 b h5).1;omega
   ·omega
def tnV(c q:Nat)(v:Value):Value:=.agg #[.int .u64 c,.int .u64 q,v]
def nilS:Value:=.slice none 0 0
theorem ca_smay{w:World}{K:Kont}{o:Tn}{v:Value}(hv:Rd w 1 v o.b.length (bv o.b))(hl:o.b.length≤1000000000)
  (hK:∀w',Mod (λ_=>False) w w' →K (.bool (decide o.May)) w'):Ca Tryz.prog 176 #[tnV o.c o.q v] w K:=by
 obtain⟨a,c,rfl⟩:=hv.isSl
 have hm:Mod (λ_=>False) w (w.alloc (.cells #[.int .u64 o.c,.int .u64 o.q,.slice a o.b.length c] 186)):=(Mod.refl _ w).alloc _
 have hK' :=hK _ hm
 apply ca176
 unfold F176 tnV
 simp only[Tn.May]at hK'
 by_cases h1:o.c<64
 ·have h1i:(o.c:Int)<64:=by omega
  by_cases h2:o.q=0
  ·simp[h1,h2]at hK'
   simp[-Int.natCast_add,go_sem,h1,h1i,h2]
   simpa [h2]using hK'
  ·simp[h1,h2]at hK'
   simp[-Int.natCast_add,go_sem,h1,h1i,h2]
   have e:decide ((o.b.length:Int)≤2000)=decide (o.b.length≤2000):=by rw[decide_eq_decide];omega
   first
    |exact hK'
    |(rw[e];exact hK')
    |(simpa [h1,h2,e]using hK')
 ·have h1i:¬(o.c:Int)<64:=by omega
  simp[h1]at hK'
  simp[-Int.natCast_add,go_sem,h1,h1i]
  exact hK'
theorem ca_sbytes{w:World}{K:Kont}{o:Tn}{v:Value}(hv:Rd w 1 v o.b.length (bv o.b))(hl:o.b.length≤100000000)(hc:o.c<18446744073709551616)(hq:o.q<18446744073709551616)
  (hK:∀s (l:List UInt8) (e:Nat) w',(if o.May then l=turnB o∧e=0 else l=[]∧e=2)→Own w' 5 1 s l.length (bv l)→Mod (λ_=>False) w w' →(∀b,inSl s b→w.heap.size≤b)→K (.tuple #[s,.int .i64 e]) w'):
  Ca Tryz.prog 96 #[tnV o.c o.q v] w K:=by
 apply ca96
 unfold F96 tnV
 have hm:Mod (λ_=>False) w (w.alloc (.cells #[.int .u64 o.c,.int .u64 o.q,v] 186)):=(Mod.refl _ w).alloc _
 refine rvS (v:=.pointer (some ⟨w.heap.size,0,none⟩)) (w' :=w.alloc (.cells #[.int .u64 o.c,.int .u64 o.q,v] 186)) (by simp[go_sem]) ?_
 obtain⟨p,hp0⟩:∃p,p=w.heap.size:=⟨_,rfl⟩
 have hb:hp (w.alloc (.cells #[.int .u64 o.c,.int .u64 o.q,v] 186)) p=some (.cells #[.int .u64 o.c,.int .u64 o.q,v] 186 (0,0)):=by rw[hp0];simp[go_sem]
 rw[←hp0]
 generalize w.alloc (.cells #[.int .u64 o.c,.int .u64 o.q,v] 186)=w1 at hm hb⊢
 have hv1:=hv.mod hm λ_ _ h=>h
 refine rvS (v:=.agg #[.int .u64 o.c,.int .u64 o.q,v]) (w' :=w1) (by simp[go_sem,hb]) ?_
 refine ca_smay hv1 (by omega) λw2 m2=>?_
 have hb2:=m2.keep hb id
 have hv2:=hv1.mod m2 λ_ _ h=>h
 by_cases hmay:o.May
 ·refine rvS (v:=.bool false) (w' :=w2) (by simp[go_sem,hmay]) ?_
  rw[ifB_bool,if_neg Bool.false_ne_true]
  have m3:Mod (λ_=>False) w2 w2.drew:=(Mod.refl _ w2).drew
  have ld:∀W,Mod (λ_=>False) w2 W→hp W p=some (.cells #[.int .u64 o.c,.int .u64 o.q,v] 186 (0,0)):=λW m=>m.keep hb2 id
  refine rdPS (v:=.pointer (some ⟨p,0,none⟩)) (λW=>by simp[go_sem]) ?_
  refine rdWS (v:=.int .u64 o.c) (by simp[go_sem,ld _ m3]) ?_
  refine rdPS (v:=.pointer (some ⟨p,1,none⟩)) (λW=>by simp[go_sem]) ?_
  refine rdWS (v:=.int .u64 o.q) (by simp[go_sem,ld _ m3]) ?_
  refine rdPS (v:=.pointer (some ⟨p,2,none⟩)) (λW=>by simp[go_sem]) ?_
  refine rdWS (v:=v) (by simp[go_sem,ld _ m3]) ?_
  refine ca_wnat (k:=0) (l:=[]) (Own.nil _ _ 1) hc (by omega) λs4 w4 o4 m4 n4=>?_
  have m4' :Mod (λ_=>False) w2 w4:=m3.trans (m4.mono λb _ h=>by cases h)
  have n4' :∀b,inSl s4 b→w2.heap.size≤b:=λb hb=>by rcases n4 b hb with h|h;cases h;exact Nat.le_trans m3.size h
  refine⟨by simp[go_sem,ld _ m4'],by simp[go_sem,ld _ m4'],?_⟩
  have l1:=natB_len10 hc
  have l2:=natB_len10 hq
  refine ca_wnat (l:=natB o.c) (by simpa using o4) hq (by omega) λs5 w5 o5 m5 n5=>?_
  have m5' :Mod (λ_=>False) w2 w5:=m4'.on m5 λb hb=>.inr (n4' b hb)
  have n5' :∀b,inSl s5 b→w2.heap.size≤b:=λb hb=>by rcases n5 b hb with h|h;exact n4' b h;exact Nat.le_trans m4'.size h
  refine⟨by simp[go_sem,ld _ m5'],?_⟩
  have hv5:=hv2.mod m5' λ_ _ h=>h
  refine ca_wtext (l:=natB o.c++natB o.q) o5 hv5 (λb hb hi=>by have h1:=n5' b hb;have h2:=hv2.lt hi;omega) (by omega) (by omega) λs6 w6 o6 m6 n6=>?_
  refine hK s6 (turnB o) 0 w6 (by rw[if_pos hmay];exact⟨rfl,rfl⟩) ?_ ((hm.trans m2).trans (m5'.on m6 λb hb=>.inr (n5' b hb))) ?_
  ·unfold turnB
   have e:(natB o.c++natB o.q++textB o.b).length=(natB o.c).length+(natB o.q).length+(textB o.b).length:=by simp[Nat.add_assoc]
   rw[e];simpa using o6
  ·intro b hb
   have h1:=hm.size
   have h2:=m2.size
   have h3:=m5'.size
   rcases n6 b hb with h|h
   ·have:=n5' b h;omega
   ·omega
 ·refine rvS (v:=.bool true) (w' :=w2) (by simp[go_sem,hmay]) ?_
  rw[ifB_bool,if_pos rfl]
  exact hK nilS [] 2 w2 (by rw[if_neg hmay];exact⟨rfl,rfl⟩) (Own.nil _ _ 1) (hm.trans m2) λb hb=>by cases hb
def rdT(l:List UInt8):Tn×Nat:=
 match turnR l with
 |some o=>(o,0)
 |none=>(⟨0,0,[]⟩,5)
theorem stTn{W:World}{p x y:Nat}{x0 x1 x2 v:Value}(h:hp W p=some (.cells #[x0,x1,x2] 186 (0,0)))(hv:∃a n c,v=.slice a n c):
  ∃w8,((Instr.storeAt 186 (.pointer (some ⟨p,0,none⟩)) (tnV x y v)).run Tryz.prog W=.ok () w8)∧hp w8 p=some (.cells #[.int .u64 x,.int .u64 y,v] 186 (0,0))∧Mod (λb=>b=p) W w8:=by
 obtain⟨a,n,c,rfl⟩:=hv
 refine⟨((W.setCell ⟨p,0,none⟩ (.int .u64 x)).setCell ⟨p,1,none⟩ (.int .u64 y)).setCell ⟨p,2,none⟩ (.slice a n c),?_,?_,?_⟩
 ·simp[go_sem,tnV,h]
 ·simp[go_sem,h]
 ·exact(((Mod.refl (λb=>b=p) W).setCell (.inl rfl) _ _).setCell (.inl rfl) _ _).setCell (.inl rfl) _ _
theorem turnO_lt(l:List UInt8):(turnO l).1.c<18446744073709551616∧(turnO l).1.q<18446744073709551616∧(turnO l).1.b.length≤2000:=by
 unfold turnO
 exact⟨Nat.lt_succ_of_le rsSmall_most,Nat.lt_succ_of_le rsSmall_most,rsText_most⟩
set_option maxRecDepth 10000 in
theorem ca_sread{w:World}{K:Kont}{v:Value}{l:List UInt8}(hv:Rd w 1 v l.length (bv l))(hl:l.length≤1000000000)
  (hK:∀v2 w',Own w' 5 1 v2 (rdT l).1.b.length (bv (rdT l).1.b)→Mod (λ_=>False) w w' →(∀b,inSl v2 b→w.heap.size≤b)→K (.tuple #[tnV (rdT l).1.c (rdT l).1.q v2,.int .i64 (rdT l).2]) w'):
  Ca Tryz.prog 97 #[v] w K:=by
 apply ca97
 unfold F97
 have hm1:Mod (λ_=>False) w (w.alloc (.cells #[.int .u64 0,.int .u64 0,.slice none 0 0] 186)):=(Mod.refl _ w).alloc _
 refine rvS (v:=.pointer (some ⟨w.heap.size,0,none⟩)) (w' :=w.alloc (.cells #[.int .u64 0,.int .u64 0,.slice none 0 0] 186)) (by simp[go_sem]) ?_
 obtain⟨p,hp0⟩:∃p,p=w.heap.size:=⟨_,rfl⟩
 have hb1:hp (w.alloc (.cells #[.int .u64 0,.int .u64 0,.slice none 0 0] 186)) p=some (.cells #[.int .u64 0,.int .u64 0,.slice none 0 0] 186 (0,0)):=by rw[hp0];simp[go_sem]
 rw[←hp0]
 have hsz1:=hm1.size
 generalize w.alloc (.cells #[.int .u64 0,.int .u64 0,.slice none 0 0] 186)=w1 at hm1 hb1 hsz1⊢
 have hv1:=hv.mod hm1 λ_ _ h=>h
 refine ca_newReader hv1 hl λw2 r2 m2=>?_
 obtain⟨r,hr0⟩:∃r,r=w1.heap.size:=⟨_,rfl⟩
 rw[←hr0]at r2⊢
 have hrw:w.heap.size≤r:=by omega
 have hpr:p≠r:=by have:=lt_of_heap hb1;omega
 have toN:∀{W W' :World},Mod (λ_=>False) w W→Mod (λb=>b=r) W W' →Mod (λ_=>False) w W' :=λm m' =>m.on m' λb hb=>.inr (by rw[hb];exact hrw)
 have M2:=hm1.trans m2
 have b2:=m2.hpk hb1 id
 refine ca_rnat r2 λw3 r3 m3=>?_
 have M3:=toN M2 m3
 have b3:=m3.hpk b2 hpr
 refine ca_rnat r3 λw4 r4 m4=>?_
 have M4:=toN M3 m4
 have b4:=m4.hpk b3 hpr
 refine ca_text r4 (by decide) λv5 w5 r5 o5 m5 n5=>?_
 have M5:=toN M4 m5
 have b5:=m5.hpk b4 hpr
 have hO:turnO l=(⟨(rsSmall l 18446744073709551615 ⟨0,0⟩).1,(rsSmall l 18446744073709551615 (rsSmall l 18446744073709551615 ⟨0,0⟩).2).1,(rsText l 2000 (rsSmall l 18446744073709551615 (rsSmall l 18446744073709551615 ⟨0,0⟩).2).2).1⟩,(rsText l 2000 (rsSmall l 18446744073709551615 (rsSmall l 18446744073709551615 ⟨0,0⟩).2).2).2):=rfl
 have hlt:=turnO_lt l
 generalize hx:(rsSmall l 18446744073709551615 ⟨0,0⟩).1=x at*
 generalize hy:(rsSmall l 18446744073709551615 (rsSmall l 18446744073709551615 ⟨0,0⟩).2).1=y at*
 generalize hz:(rsText l 2000 (rsSmall l 18446744073709551615 (rsSmall l 18446744073709551615 ⟨0,0⟩).2).2)=z at*
 have n5w:∀b,inSl v5 b→w.heap.size≤b:=λb hb=>Nat.le_trans M4.size (n5 b hb)
 obtain⟨a5,c5,hv5,-⟩:=o5.isSl
 refine rvS (v:=tnV x y v5) (w' :=w5) (by rw[hv5];simp[go_sem,tnV]) ?_
 have m6:Mod (λ_=>False) w5 (w5.alloc (.cells #[.int .u64 0,.int .u64 0,.slice none 0 0] 186)):=(Mod.refl _ w5).alloc _
 refine rvS (v:=.pointer (some ⟨w5.heap.size,0,none⟩)) (w' :=w5.alloc (.cells #[.int .u64 0,.int .u64 0,.slice none 0 0] 186)) (by simp[go_sem]) ?_
 obtain⟨q,hq0⟩:∃q,q=w5.heap.size:=⟨_,rfl⟩
 have hb6:hp (w5.alloc (.cells #[.int .u64 0,.int .u64 0,.slice none 0 0] 186)) q=some (.cells #[.int .u64 0,.int .u64 0,.slice none 0 0] 186 (0,0)):=by rw[hq0];simp[go_sem]
 rw[←hq0]
 generalize w5.alloc (.cells #[.int .u64 0,.int .u64 0,.slice none 0 0] 186)=w6 at m6 hb6⊢
 have hpq:p≠q:=by have:=lt_of_heap b5;omega
 have hrq:r≠q:=by have:=r5.lt;omega
 have o6:=o5.mod m6 λ_ _ h=>h
 have r6:=r5.mod m6 id λ_ _ h=>h
 have b6:=m6.hpk b5 id
 have hvq:∀b,inSl v5 b→b≠q:=λb hb=>by have:=o5.lt hb;omega
 have hqw:w.heap.size≤q:=by have:=M5.size;omega
 obtain⟨w7,hs7,b7,m7⟩:=stTn (x:=x) (y:=y) (v:=v5) hb6 ⟨_,_,_,hv5⟩
 refine ruS hs7 ?_
 have r7:=r6.mod m7 hrq λb hb e=>by have:=hv.lt hb;omega
 have o7:=o6.mod m7 hvq
 have p7:=m7.hpk b6 hpq
 have M7:Mod (λ_=>False) w w7:=(M5.trans m6).on m7 λb hb=>.inr (by rw[hb];exact hqw)
 have hr7:=r7.le
 refine JoinW.at (λst W=>st=(.bool (decide (¬(rsDone l z.2=0∧(⟨x,y,z.1⟩:Tn).May))),())∧Mod (λ_=>False) w7 W) ?_ ?_
 ·refine ca_done r7 λw8 m8=>?_
  have b8:=m8.hpk b7 id
  by_cases hd:rsDone l z.2=0
  ·refine rvS (v:=.bool false) (w' :=w8) (by simp[go_sem,hd]) ?_
   rw[ifB_bool,if_neg Bool.false_ne_true]
   refine rvS (v:=tnV x y v5) (w' :=w8) (by simp[go_sem,b8,tnV]) ?_
   refine ca_smay (o:=⟨x,y,z.1⟩) (o7.mod m8 λ_ _ h=>h).rd (by rw[hO]at hlt;have:=hlt.2.2;simp only at this⊢;omega) λw9 m9=>?_
   refine rvS (v:=.bool (!decide (⟨x,y,z.1⟩:Tn).May)) (w' :=w9) (by simp[go_sem]) ?_
   refine⟨?_,m8.trans m9⟩
   by_cases hmay:(⟨x,y,z.1⟩:Tn).May<;>simp[hd,hmay]
  ·refine rvS (v:=.bool true) (w' :=w8) (by simp[go_sem];omega) ?_
   rw[ifB_bool,if_pos rfl]
   refine⟨?_,m8⟩
   simp[hd]
 rintro _ W ⟨rfl,mW⟩
 unfold J97_0
 intro _
 have MW:=M7.trans mW
 have pW:=mW.hpk p7 id
 have bW:=mW.hpk b7 id
 have oW:=o7.mod mW λ_ _ h=>h
 have hpw:w.heap.size≤p:=by omega
 by_cases hok:rsDone l z.2=0∧(⟨x,y,z.1⟩:Tn).May
 ·rw[ifB_bool,if_neg (by rw[decide_eq_true_eq];exact λh=>h hok)]
  have hR:rdT l=(⟨x,y,z.1⟩,0):=by
   unfold rdT turnR
   rw[hO]
   simp only
   rw[if_pos hok]
  rw[hR]at hK
  refine rvS (v:=tnV x y v5) (w' :=W) (by simp[go_sem,bW,tnV]) ?_
  obtain⟨w8,hs8,b8,m8⟩:=stTn (x:=x) (y:=y) (v:=v5) pW ⟨_,_,_,hv5⟩
  refine ruS hs8 ?_
  refine rdWS (v:=tnV x y v5) (by simp[go_sem,b8,tnV]) ?_
  refine hK v5 w8 (oW.mod m8 λb hb e=>?_) (MW.on m8 λb hb=>.inr (by rw[hb];exact hpw)) n5w
  have h1:=n5 b hb
  have h2:=lt_of_heap b4
  omega
 ·rw[ifB_bool,if_pos (by rw[decide_eq_true_eq];exact hok)]
  have hR:rdT l=(⟨0,0,[]⟩,5):=by
   unfold rdT turnR
   rw[hO]
   simp only
   rw[if_neg hok]
  rw[hR]at hK
  refine rvS (v:=tnV 0 0 nilS) (w' :=W) (by simp[go_sem,tnV,nilS]) ?_
  obtain⟨w8,hs8,b8,m8⟩:=stTn (x:=0) (y:=0) (v:=nilS) pW ⟨_,_,_,rfl⟩
  refine ruS hs8 ?_
  refine rdWS (v:=tnV 0 0 nilS) (by simp[go_sem,b8,tnV]) ?_
  exact hK nilS w8 (Own.nil _ _ 1) (MW.on m8 λb hb=>.inr (by rw[hb];exact hpw)) λb hb=>by cases hb
end Go.Proofs
namespace Go.Proofs
open Go Go.Vc
section
variable{κ ν:Type} [DecidableEq κ]
theorem mem_lk{L:List (κ×ν)}(hn:(L.map (·.1)).Nodup){k:κ}{v:ν}(h:(k,v)∈L):lk L k=some v:=by
 induction L with
 |nil=>cases h
 |cons p L ih=>
  obtain⟨a,b⟩:=p
  simp only[List.map_cons,List.nodup_cons]at hn
  rcases List.mem_cons.1 h with h|h
  ·cases h;simp[lk]
  ·have:a≠k:=λe=>hn.1 (e▸List.mem_map_of_mem (f:=(·.1)) h)
   simp only[lk,if_neg this]
   exact ih hn.2 h
theorem lk_iff{L:List (κ×ν)}(hn:(L.map (·.1)).Nodup){k:κ}{v:ν}:lk L k=some v↔(k,v)∈L:=⟨lk_mem,mem_lk hn⟩
theorem lk_perm{A L:List (κ×ν)}(hn:(A.map (·.1)).Nodup)(h:A.Perm L)(k:κ):lk A k=lk L k:=by
 have hn' :(L.map (·.1)).Nodup:=(h.map _).nodup_iff.1 hn
 cases hA:lk A k with
 |some v=>exact(mem_lk hn' (h.mem_iff.1 (lk_mem hA))).symm
 |none=>
  cases hL:lk L k with
  |none=>rfl
  |some v=>rw[mem_lk hn (h.mem_iff.2 (lk_mem hL))]at hA;cases hA
theorem put_perm' {L:List (κ×ν)}(hn:(L.map (·.1)).Nodup)(k:κ)(v:ν):(put L k v).Perm ((k,v)::L.filter (λp=>p.1≠k)):=by
 induction L with
 |nil=>exact List.Perm.refl _
 |cons p L ih=>
  obtain⟨a,b⟩:=p
  simp only[List.map_cons,List.nodup_cons]at hn
  simp only[put]
  by_cases h:a=k
  ·subst h
   rw[if_pos rfl,List.filter_cons_of_neg (by simp)]
   refine List.Perm.cons _ ?_
   rw[List.filter_eq_self.2 λx hx=>?_]
   have:x.1≠a:=λe=>hn.1 (e▸List.mem_map_of_mem hx)
   simpa using this
  ·rw[if_neg h,List.filter_cons_of_pos (by simpa using h)]
   exact((ih hn.2).cons _).trans (List.Perm.swap ..)
theorem put_perm{A L:List (κ×ν)}(hn:(A.map (·.1)).Nodup)(h:A.Perm L)(k:κ)(v:ν):(put A k v).Perm ((k,v)::L.filter (λp=>p.1≠k)):=
 (put_perm' hn k v).trans ((h.filter _).cons _)
end
theorem perm_sum{l l' :List Int}(h:l.Perm l'):l.sum=l'.sum:=by
 induction h with
 |nil=>rfl
 |cons x _ ih=>simp[ih]
 |swap x y l=>simp;omega
 |trans _ _ h1 h2=>exact h1.trans h2
structure Ac where
 num:Int
 cash:Int
 kil:Bool
 dfl:Bool
 deriving DecidableEq
structure Po where
 c:Int
 a:Int
 q:Int
 b:Int
 deriving DecidableEq
structure Led where
 fund:Int
 all:List Ac
 held:List Po
instance:Inhabited Ac:=⟨⟨0,0,false,false⟩⟩
instance:Inhabited Po:=⟨⟨0,0,0,0⟩⟩
def Po.key(p:Po):Int×Int:=(p.c,p.a)
def Po.isZ(p:Po):Bool:=decide (p.q=0∧p.b=0)
def klt(x y:Int×Int):Bool:=decide (x.1<y.1∨(x.1=y.1∧x.2<y.2))
theorem klt_iff{x y:Int×Int}:klt x y=true↔(x.1<y.1∨(x.1=y.1∧x.2<y.2)):=by simp[klt]
theorem klt_tri(x y:Int×Int):klt x y=true∨x=y∨klt y x=true:=by
 rw[klt_iff,klt_iff,Prod.ext_iff];omega
theorem klt_trans{x y z:Int×Int}(h:klt x y=true)(h' :klt y z=true):klt x z=true:=by
 rw[klt_iff]at*;omega
theorem klt_irr{x:Int×Int}:klt x x=false:=by
 rw[Bool.eq_false_iff,Ne,klt_iff];omega
theorem klt_ne{x y:Int×Int}(h:klt x y=true):x≠y:=by
 intro e;subst e;rw[klt_irr]at h;cases h
theorem klt_asymm{x y:Int×Int}(h:klt x y=true):klt y x=false:=by
 rw[klt_iff]at h;rw[Bool.eq_false_iff,Ne,klt_iff];omega
def insA(l:List Ac)(a:Ac):List Ac:=l.filter (λx=>decide (x.num<a.num))++a::l.filter (λx=>decide (a.num<x.num))
def SortA(l:List Ac):Prop:=l.Pairwise λx y=>x.num<y.num
def SortP(l:List Po):Prop:=l.Pairwise λx y=>klt x.key y.key=true
theorem mem_insA{l:List Ac}{a x:Ac}:x∈insA l a↔(x∈l∧x.num≠a.num)∨x=a:=by
 simp only[insA,List.mem_append,List.mem_cons,List.mem_filter,decide_eq_true_eq]
 constructor
 ·rintro(⟨h,h'⟩|h|⟨h,h'⟩)
  ·exact .inl ⟨h,by omega⟩
  ·exact .inr h
  ·exact .inl ⟨h,by omega⟩
 ·rintro(⟨h,h'⟩|h)
  ·rcases Int.lt_or_gt_of_ne h' with h2|h2
   ·exact .inl ⟨h,h2⟩
   ·exact .inr (.inr ⟨h,h2⟩)
  ·exact .inr (.inl h)
theorem insA_sort{l:List Ac}(h:SortA l)(a:Ac):SortA (insA l a):=by
 unfold SortA insA
 rw[List.pairwise_append,List.pairwise_cons]
 refine⟨h.filter _,⟨λx hx=>by simpa using(List.mem_filter.1 hx).2,h.filter _⟩,λx hx y hy=>?_⟩
 have h1:x.num<a.num:=by simpa using(List.mem_filter.1 hx).2
 rcases List.mem_cons.1 hy with rfl|hy
 ·exact h1
 ·have h2:a.num<y.num:=by simpa using(List.mem_filter.1 hy).2
  omega
theorem SortA.nodup{l:List Ac}(h:SortA l):(l.map (·.num)).Nodup:=by
 rw[List.Nodup,List.pairwise_map]
 exact h.imp λh=>by omega
theorem SortP.nodup{l:List Po}(h:SortP l):(l.map Po.key).Nodup:=by
 rw[List.Nodup,List.pairwise_map]
 exact h.imp λh=>klt_ne h
theorem filter_split{α:Type}(l:List α)(p q:α→Bool)(h:∀x∈l,p x=true→q x=false):(l.filter p++l.filter q).Perm (l.filter λx=>p x||q x):=by
 induction l with
 |nil=>exact List.Perm.refl _
 |cons x l ih=>
  have ih:=ih λy hy=>h y (List.mem_cons_of_mem _ hy)
  cases hp:p x with
  |true=>
   have hq:=h x List.mem_cons_self hp
   rw[List.filter_cons_of_pos hp,List.filter_cons_of_neg (by simp[hq]),List.filter_cons_of_pos (by simp[hp])]
   exact ih.cons x
  |false=>
   cases hq:q x with
   |true=>
    rw[List.filter_cons_of_neg (by simp[hp]),List.filter_cons_of_pos hq,List.filter_cons_of_pos (by simp[hq])]
    exact List.perm_middle.trans (ih.cons x)
   |false=>
    rw[List.filter_cons_of_neg (by simp[hp]),List.filter_cons_of_neg (by simp[hq]),List.filter_cons_of_neg (by simp[hp,hq])]
    exact ih
theorem insA_perm(l:List Ac)(a:Ac):(insA l a).Perm (a::l.filter λx=>decide (x.num≠a.num)):=by
 refine List.perm_middle.trans (List.Perm.cons _ ((filter_split l _ _ λx _ h=>?_).trans (List.Perm.of_eq (List.filter_congr λx _=>?_))))
 ·have:x.num<a.num:=by simpa using h
  simp;omega
 ·rw[Bool.eq_iff_iff];simp;omega
def Led.find(S:Led)(n:Int):Option Ac:=S.all.find? λx=>decide (x.num=n)
def Led.pos? (S:Led)(k:Int×Int):Option Po:=S.held.find? λx=>decide (x.key=k)
def fundAc(f:Int):Ac:=⟨0,f,false,false⟩
def Led.getO(S:Led)(n:Int):Option Ac:=if n=0 then some (fundAc S.fund)else S.find n
def Led.funds(S:Led):Int:=S.fund+(S.all.map (·.cash)).sum
def Led.putA(S:Led)(a:Ac):Led:=if a.num=0 then{S with fund:=a.cash}else{S with all:=insA S.all a}
def amongB(n lo hi:Int):Bool:=decide (lo≤n∧n≤hi)
def MF:Int:=1000000000000000
def MP:Int:=10000000
def Led.deposit(S:Led)(n m:Int):Int×Led:=
 if amongB m 1 MF then
  if S.getO n=none∧64≤S.all.length then(9,S)
  else if S.funds+m>MF then(6,S)
  else(0,S.putA {(S.getO n).getD ⟨0,0,false,false⟩with num:=n,cash:=((S.getO n).getD ⟨0,0,false,false⟩).cash+m})
 else(2,S)
def Led.withdraw(S:Led)(n m:Int):Int×Led:=
 if n=0∨amongB m 1 MF=false then(2,S)
 else match S.find n with
  |none=>(7,S)
  |some a=>if a.cash<m then(90,S)else(0,S.putA {a with cash:=a.cash - m})
def Led.set(S:Led)(a:Ac):Int×Led:=
 if amongB a.cash 0 MF=false∨(a.num=0∧(a.kil=true∨a.dfl=true))then(2,S)
 else if S.getO a.num=none then(7,S)else(0,S.putA a)
def Led.holders(S:Led)(c:Int):List Po:=S.held.filter λp=>decide (p.c=c)
structure Led.Ok(S:Led):Prop where
 fund:0≤S.fund∧S.fund≤MF
 sa:SortA S.all
 sp:SortP S.held
 len:S.all.length≤64
 acc:∀a∈S.all,0<a.num∧a.num<4294967296∧0≤a.cash∧a.cash≤MF
 pos:∀p∈S.held,0<p.c∧p.c<4294967296∧p.isZ=false∧ -MP≤p.q∧p.q≤MP∧ -MF≤p.b∧p.b≤MF∧∃a∈S.all,a.num=p.a
def Led.accs(S:Led):List (Int×Ac):=(0,fundAc S.fund)::S.all.map λa=>(a.num,a)
def Led.poss(S:Led):List ((Int×Int)×Po):=S.held.map λp=>(p.key,p)
theorem lk_mapA(l:List Ac)(n:Int):lk (l.map λa=>(a.num,a)) n=l.find? λx=>decide (x.num=n):=by
 induction l with
 |nil=>rfl
 |cons a l ih=>
  simp only[List.map_cons,lk,ih,List.find?_cons]
  by_cases h:a.num=n<;>simp[h]
theorem lk_mapP(l:List Po)(k:Int×Int):lk (l.map λp=>(p.key,p)) k=l.find? λx=>decide (x.key=k):=by
 induction l with
 |nil=>rfl
 |cons a l ih=>
  simp only[List.map_cons,lk,ih,List.find?_cons]
  by_cases h:a.key=k<;>simp[h]
theorem Led.lk_accs(S:Led)(n:Int):lk S.accs n=S.getO n:=by
 simp only[Led.accs,lk,lk_mapA,Led.getO,Led.find]
 by_cases h:n=0
 ·simp[h]
 ·rw[if_neg (λe=>h e.symm),if_neg h]
theorem Led.lk_poss(S:Led)(k:Int×Int):lk S.poss k=S.pos? k:=lk_mapP _ _
theorem filter_mapA(l:List Ac)(n:Int):(l.map λa=>(a.num,a)).filter (λp=>decide (p.1≠n))=(l.filter λx=>decide (x.num≠n)).map λa=>(a.num,a):=by
 rw[List.filter_map];rfl
theorem Led.Ok.put_accs{S:Led}(h:S.Ok){A:List (Int×Ac)}(hn:(A.map (·.1)).Nodup)(hp:A.Perm S.accs)(a:Ac)(h0:a.num=0→a=fundAc a.cash):(put A a.num a).Perm (S.putA a).accs:=by
 refine(put_perm hn hp _ _).trans ?_
 unfold Led.putA
 by_cases hz:a.num=0
 ·rw[if_pos hz]
  simp only[Led.accs]
  rw[List.filter_cons_of_neg (by simp[hz]),filter_mapA,hz]
  rw[List.filter_eq_self.2 λx hx=>by have:=(h.acc x hx).1;simp;omega]
  rw[←h0 hz]
 ·rw[if_neg hz]
  simp only[Led.accs]
  rw[List.filter_cons_of_pos (by simpa using λe=>hz e.symm),filter_mapA]
  refine(List.Perm.swap ..).trans (List.Perm.cons _ ?_)
  exact((insA_perm S.all a).map λa=>(a.num,a)).symm
theorem Led.find_mem{S:Led}{n:Int}{a:Ac}(h:S.find n=some a):a∈S.all∧a.num=n:=by
 unfold Led.find at h
 exact⟨List.mem_of_find?_eq_some h,by simpa using List.find?_some h⟩
theorem Led.find_some{S:Led}(h:SortA S.all){a:Ac}(ha:a∈S.all):S.find a.num=some a:=by
 unfold Led.find
 rw[←lk_mapA]
 exact mem_lk (by rw[List.map_map];exact h.nodup) (List.mem_map_of_mem (f:=λa:Ac=>(a.num,a)) ha)
theorem Led.pos_some{S:Led}(h:SortP S.held){p:Po}(hp:p∈S.held):S.pos? p.key=some p:=by
 unfold Led.pos?
 rw[←lk_mapP]
 exact mem_lk (by rw[List.map_map];exact h.nodup) (List.mem_map_of_mem (f:=λp:Po=>(p.key,p)) hp)
theorem length_insA_le(l:List Ac)(a:Ac):(insA l a).length≤l.length+1:=by
 rw[(insA_perm l a).length_eq]
 simp only[List.length_cons]
 exact Nat.succ_le_succ (List.length_filter_le ..)
theorem length_insA_of{l:List Ac}{a:Ac}(h:∃x∈l,x.num=a.num):(insA l a).length≤l.length:=by
 rw[(insA_perm l a).length_eq]
 obtain⟨x,hx,e⟩:=h
 simp only[List.length_cons]
 exact List.length_filter_lt_length_iff_exists.2 ⟨x,hx,by simp[e]⟩
theorem Led.Ok.putA{S:Led}(h:S.Ok){a:Ac}(h1:0≤a.num∧a.num<4294967296)(h2:0≤a.cash∧a.cash≤MF)(h3:S.find a.num≠none∨S.all.length<64∨a.num=0):(S.putA a).Ok:=by
 unfold Led.putA
 by_cases hz:a.num=0
 ·rw[if_pos hz]
  exact{h with fund:=h2}
 ·rw[if_neg hz]
  refine{fund:=h.fund,sa:=insA_sort h.sa a,sp:=h.sp,len:=?_,acc:=λx hx=>?_,pos:=λp hp=>?_}
  ·rcases h3 with h3|h3|h3
   ·obtain⟨x,hx⟩:=Option.ne_none_iff_exists'.1 h3
    obtain⟨hx1,hx2⟩:=Led.find_mem hx
    exact Nat.le_trans (length_insA_of ⟨x,hx1,hx2⟩) h.len
   ·exact Nat.le_trans (length_insA_le ..) h3
   ·exact absurd h3 hz
  ·rcases mem_insA.1 hx with⟨hx,_⟩|rfl
   ·exact h.acc x hx
   ·exact⟨by omega,h1.2,h2⟩
  ·obtain⟨g1,g2,g3,g4,g5,g6,g7,x,hx,hxa⟩:=h.pos p hp
   refine⟨g1,g2,g3,g4,g5,g6,g7,?_⟩
   by_cases he:x.num=a.num
   ·exact⟨a,mem_insA.2 (.inr rfl),he.symm.trans hxa⟩
   ·exact⟨x,mem_insA.2 (.inl ⟨hx,he⟩),hxa⟩
theorem Led.Ok.getO{S:Led}(h:S.Ok){n:Int}{a:Ac}(hg:S.getO n=some a):a.num=n∧0≤a.num∧a.num<4294967296∧0≤a.cash∧a.cash≤MF∧(a.num=0→a=fundAc a.cash):=by
 unfold Led.getO at hg
 split at hg
 ·rename_i hz
  cases hg
  exact⟨by simp[fundAc,hz],by simp[fundAc],by simp[fundAc],h.fund.1,h.fund.2,λ_=>rfl⟩
 ·obtain⟨h1,h2⟩:=Led.find_mem hg
  obtain⟨a1,a2,a3,a4⟩:=h.acc a h1
  exact⟨h2,by omega,a2,a3,a4,by omega⟩
theorem Led.Ok.funds{S:Led}(h:S.Ok):0≤S.funds∧S.funds≤MF*65:=by
 have key:∀l:List Ac,(∀a∈l,0≤a.cash∧a.cash≤MF)→0≤(l.map (·.cash)).sum∧(l.map (·.cash)).sum≤MF*l.length:=by
  intro l hl
  induction l with
  |nil=>simp
  |cons a l ih=>
   have h1:=hl a List.mem_cons_self
   have h2:=ih λx hx=>hl x (List.mem_cons_of_mem _ hx)
   simp only[List.map_cons,List.sum_cons,List.length_cons,MF]at*
   omega
 have h1:=key S.all λa ha=>(h.acc a ha).2.2
 have h2:=h.fund
 have h3:=h.len
 unfold Led.funds
 simp only[MF]at*
 omega
theorem sum_ge{l:List Ac}(h:∀a∈l,0≤a.cash):0≤(l.map (·.cash)).sum∧∀a∈l,a.cash≤(l.map (·.cash)).sum:=by
 induction l with
 |nil=>simp
 |cons a l ih=>
  have h1:=h a List.mem_cons_self
  obtain⟨h2,h3⟩:=ih λx hx=>h x (List.mem_cons_of_mem _ hx)
  simp only[List.map_cons,List.sum_cons]
  refine⟨by omega,λx hx=>?_⟩
  rcases List.mem_cons.1 hx with rfl|hx
  ·omega
  ·have:=h3 x hx;omega
theorem Led.Ok.cash_le{S:Led}(h:S.Ok){n:Int}{a:Ac}(hg:S.getO n=some a):a.cash≤S.funds:=by
 have hs:=sum_ge (l:=S.all) λa ha=>(h.acc a ha).2.2.1
 have hf:=h.fund
 unfold Led.funds
 unfold Led.getO at hg
 split at hg
 ·cases hg
  simp only[fundAc]
  omega
 ·have:=hs.2 a (Led.find_mem hg).1
  omega
theorem amongB_iff{n lo hi:Int}:amongB n lo hi=true↔lo≤n∧n≤hi:=by simp[amongB]
end Go.Proofs
