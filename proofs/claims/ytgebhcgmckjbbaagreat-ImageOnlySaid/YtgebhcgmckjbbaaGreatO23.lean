/- The statement ImageOnly: for every input the law returns true; arguments stay. Conditions: none. -/
import Derived.Test.YtgebhcgmckjbbaaGreatO22
import Derived.Test.YtgebhcgmckjbbaaGreatO24
set_option linter.all false
namespace Go.Proofs
open Go Go.Vc
attribute [local congr] Ca_congV
theorem flat_leF{α:Type}{g:α→List UInt8}{m:Nat}:∀{L:List α},(∀x∈L,(g x).length≤m)→(L.flatMap g).length≤m*L.length
 | [],_=>Nat.zero_le _
 |x::L,h=>by
  have h1:=h x List.mem_cons_self
  have h2:=flat_leF (L:=L) λy hy=>h y (List.mem_cons_of_mem _ hy)
  rw[List.flatMap_cons,List.length_append,List.length_cons,Nat.mul_add]
  omega
theorem natB_le10{n:Nat}(h:n<18446744073709551616):(natB n).length≤10:=natB_len 9 n (by omega)
theorem acItF{W:World}{s:Value}{L:List Ac}(h:Rd W 4 s L.length (L.flatMap cellsAc)){i:Nat}(hi:i<L.length):
  ∃b off,(Instr.indexAt 44 s (.int .i64 (i:Int))).run Tryz.prog W=.ok (.pointer (some ⟨b,off,none⟩)) W∧(Instr.loadAt 92 (.pointer (some ⟨b,off,none⟩))).run Tryz.prog W=.ok (acV L[i]) W:=by
 obtain⟨b,off,cap,hse,hcap,hA⟩:=h.item (show∀x,(cellsAc x).length=4 from λ_=>rfl) hi rfl
 have u:Tryz.prog.underlying 44=some (.slice 92):=by kernel_rfl
 refine⟨b,off+i*4,by rw[hse];simp[go_sem,hi,addr_add,u],?_⟩
 exact run_bigS (P:=Tryz.prog) (t:=92) (by kernel_rfl) (show Tryz.prog.cellsOf 92=3+1 by kernel_rfl) rfl hA
set_option maxRecDepth 10000 in
set_option maxHeartbeats 1000000 in
theorem ca_listAc{w:World}{K:Kont}{s v fv:Value}{l:List UInt8}{L:List (Ac)}{g:Ac→List UInt8}(h:OwnB w s l)(hR:Rd w 4 v L.length (L.flatMap cellsAc))(hsep:∀y,inRd v y→¬inSl s y)(hl:l.length≤100000000)(hn:L.length≤3200)(hg:∀x∈L,(g x).length≤300)
  (hcall:∀W s' l' x (K' :Kont),x∈L→OwnB W s' l' →l'.length≤900000000→(∀s'' W',OwnB W' s'' (l' ++g x)→Mod (inSl s') W W' →(∀b,inSl s'' b→inSl s' b∨W.heap.size≤b)→K' s'' W')→callV Tryz.prog fv [s',acV x] W K')
  (hK:∀s' w',OwnB w' s' (l++lsB g L)→Mod (inSl s) w w' →(∀b,inSl s' b→inSl s b∨w.heap.size≤b)→K s' w'):Ca Tryz.prog 155 #[s,v,fv] w K:=by
 apply ca155
 unfold F155
 obtain⟨va,vc,hv⟩:=hR.isSl
 have ln:∀W,(builtin .len #[44] 3 #[false] #[v]).run Tryz.prog W=.ok (.value (.int .i64 (L.length:Int))) W:=λW=>by rw[hv];simp[go_sem]
 refine rnS (ln _) (rvS (v:=.int .u64 (L.length:Int)) (w' :=w) (by simp[go_sem];rw[wrapU (by omega) (by omega)]) ?_)
 have hn10:(natB L.length).length≤10:=natB_le10 (by omega)
 refine ca_wnatB (n:=L.length) h (by omega) (by omega) λs1 w1 o1 m1 n1=>?_
 refine rnS (ln _) ?_
 have hfl:∀k,((L.take k).flatMap g).length≤960000:=λk=>by
  have h1:=flat_leF (m:=300) (g:=g) (L:=L.take k) λx hx=>hg x (List.mem_of_mem_take hx)
  have h2:(L.take k).length≤L.length:=by rw[List.length_take];omega
  omega
 refine loopV (λst W=>∃(k:Nat) (s' :Value),k≤L.length∧st=(s',.int .i64 k,())∧OwnB W s' (l++natB L.length++(L.take k).flatMap g)∧Mod (inSl s) w W∧∀b,inSl s' b→inSl s b∨w.heap.size≤b)
  (λst _=>match st.2.1 with| .int _ k=>L.length - k.toNat|_=>0) ⟨0,s1,by omega,rfl,by rw[List.take_zero,List.flatMap_nil,List.append_nil];exact o1,m1,n1⟩ ?_
 rintro _ W ⟨k,s',hk,rfl,oW,mW,nW⟩ KN hKN
 unfold L155_0
 intro _
 by_cases hlt:k<L.length
 ·have hlt' :(k:Int)<(L.length:Int):=by omega
  refine rvS (v:=.bool true) (by simp[go_sem,hlt']<;>first|exact⟨rfl,rfl⟩|exact rfl) ?_
  rw[ifB_bool,if_pos rfl]
  have hRW:=hR.mod mW hsep
  have hmem:=List.getElem_mem hlt
  have htk:=take_succ' hlt
  obtain⟨eb,eo,e1,e2⟩:=acItF hRW hlt
  refine rvS e1 (rvS e2 ?_)
  obtain⟨x,hx⟩:∃x,x=L[k]:=⟨_,rfl⟩
  rw[←hx]
  obtain⟨W2,W3,f2,f3,b3,M3⟩:=acVar x W
  refine rvS f2 (ruS f3 (rvS (acLdI b3) ?_))
  refine hcall W3 s' _ x _ (hx▸hmem) (oW.mod M3 λ_ _ h=>h) (by simp only[List.length_append];have:=hfl k;omega) λs2 W4 o4 m4 n4=>?_
  refine rvS (v:=.int .i64 ((k+1:Nat):Int)) (w' :=W4) (by simp[go_sem];rw[wrapI (by omega) (by omega)]) ?_
  have hz:=mW.size
  have hz3:=M3.size
  have MW3:Mod (inSl s) w W3:=mW.trans (M3.mono λ_ _ h=>h.elim)
  refine hKN _ _ ⟨k+1,s2,by omega,rfl,?_,MW3.on m4 nW,λb hb=>?_⟩ (by show L.length - (((k+1:Nat):Int)).toNat<L.length - ((k:Int)).toNat;omega)
  ·rw[htk,←hx,List.flatMap_append,List.flatMap_cons,List.flatMap_nil,List.append_nil,←List.append_assoc];exact o4
  ·rcases n4 b hb with h' |h'
   ·exact nW b h'
   ·exact .inr (by omega)
 ·obtain rfl:k=L.length:=by omega
  refine rvS (v:=.bool false) (by simp[go_sem]<;>first|exact⟨rfl,rfl⟩|exact rfl) ?_
  rw[ifB_bool,if_neg Bool.false_ne_true]
  rw[List.take_length,List.append_assoc]at oW
  exact hK _ _ oW mW nW
def ctVF(k:Ct):Value:=.agg (ctC k).toArray
set_option maxRecDepth 10000 in
set_option maxHeartbeats 1000000 in
theorem ca_listCt{w:World}{K:Kont}{s v fv:Value}{l:List UInt8}{L:List (Ct)}{g:Ct→List UInt8}(h:OwnB w s l)(hR:Rd w 27 v L.length (L.flatMap ctC))(hsep:∀y,inRd v y→¬inSl s y)(hl:l.length≤100000000)(hn:L.length≤3200)(hg:∀x∈L,(g x).length≤300)
  (hcall:∀W s' l' x (K' :Kont),x∈L→OwnB W s' l' →l'.length≤900000000→(∀s'' W',OwnB W' s'' (l' ++g x)→Mod (inSl s') W W' →(∀b,inSl s'' b→inSl s' b∨W.heap.size≤b)→K' s'' W')→callV Tryz.prog fv [s',ctVF x] W K')
  (hK:∀s' w',OwnB w' s' (l++lsB g L)→Mod (inSl s) w w' →(∀b,inSl s' b→inSl s b∨w.heap.size≤b)→K s' w'):Ca Tryz.prog 158 #[s,v,fv] w K:=by
 apply ca158
 unfold F158
 obtain⟨va,vc,hv⟩:=hR.isSl
 have ln:∀W,(builtin .len #[45] 3 #[false] #[v]).run Tryz.prog W=.ok (.value (.int .i64 (L.length:Int))) W:=λW=>by rw[hv];simp[go_sem]
 refine rnS (ln _) (rvS (v:=.int .u64 (L.length:Int)) (w' :=w) (by simp[go_sem];rw[wrapU (by omega) (by omega)]) ?_)
 have hn10:(natB L.length).length≤10:=natB_le10 (by omega)
 refine ca_wnatB (n:=L.length) h (by omega) (by omega) λs1 w1 o1 m1 n1=>?_
 refine rnS (ln _) ?_
 have hfl:∀k,((L.take k).flatMap g).length≤960000:=λk=>by
  have h1:=flat_leF (m:=300) (g:=g) (L:=L.take k) λx hx=>hg x (List.mem_of_mem_take hx)
  have h2:(L.take k).length≤L.length:=by rw[List.length_take];omega
  omega
 refine loopV (λst W=>∃(k:Nat) (s' :Value),k≤L.length∧st=(s',.int .i64 k,())∧OwnB W s' (l++natB L.length++(L.take k).flatMap g)∧Mod (inSl s) w W∧∀b,inSl s' b→inSl s b∨w.heap.size≤b)
  (λst _=>match st.2.1 with| .int _ k=>L.length - k.toNat|_=>0) ⟨0,s1,by omega,rfl,by rw[List.take_zero,List.flatMap_nil,List.append_nil];exact o1,m1,n1⟩ ?_
 rintro _ W ⟨k,s',hk,rfl,oW,mW,nW⟩ KN hKN
 unfold L158_0
 intro _
 by_cases hlt:k<L.length
 ·have hlt' :(k:Int)<(L.length:Int):=by omega
  refine rvS (v:=.bool true) (by simp[go_sem,hlt']<;>first|exact⟨rfl,rfl⟩|exact rfl) ?_
  rw[ifB_bool,if_pos rfl]
  have hRW:=hR.mod mW hsep
  have hmem:=List.getElem_mem hlt
  have htk:=take_succ' hlt
  obtain⟨b,off,cap,hse,hcap,hA⟩:=hRW.item ctC_len hlt rfl
  obtain⟨x,hx⟩:∃x,x=L[k]:=⟨_,rfl⟩
  rw[←hx]at hA
  refine rvS (v:=.pointer (some ⟨b,off+k*27,none⟩)) (w' :=W) (by rw[hse];simp[go_sem,hlt,addr_add,uCts]) ?_
  refine rx_bigS (ctC x) 26 aCt nCt (ctC_len x) hA ?_
  refine newCtB _ λw5 b5 m5=>?_
  obtain⟨p,hp0⟩:∃p,p=W.heap.size:=⟨_,rfl⟩
  rw[←hp0]at b5⊢
  refine ctBU (k' :=x) b5 λW3 b3 m3=>?_
  have M3:Mod (λ_=>False) W W3:=m5.on m3 λy hy=>.inr (by omega)
  refine rx_bigS (ctC x) 26 aCt nCt (ctC_len x) (At.all b3) ?_
  refine hcall W3 s' _ x _ (hx▸hmem) (oW.mod M3 λ_ _ h=>h) (by simp only[List.length_append];have:=hfl k;omega) λs2 W4 o4 m4 n4=>?_
  refine rvS (v:=.int .i64 ((k+1:Nat):Int)) (w' :=W4) (by simp[go_sem];rw[wrapI (by omega) (by omega)]) ?_
  have hz:=mW.size
  have hz3:=M3.size
  have MW3:Mod (inSl s) w W3:=mW.trans (M3.mono λ_ _ h=>h.elim)
  refine hKN _ _ ⟨k+1,s2,by omega,rfl,?_,MW3.on m4 nW,λb hb=>?_⟩ (by show L.length - (((k+1:Nat):Int)).toNat<L.length - ((k:Int)).toNat;omega)
  ·rw[htk,←hx,List.flatMap_append,List.flatMap_cons,List.flatMap_nil,List.append_nil,←List.append_assoc];exact o4
  ·rcases n4 b hb with h' |h'
   ·exact nW b h'
   ·exact .inr (by omega)
 ·obtain rfl:k=L.length:=by omega
  refine rvS (v:=.bool false) (by simp[go_sem]<;>first|exact⟨rfl,rfl⟩|exact rfl) ?_
  rw[ifB_bool,if_neg Bool.false_ne_true]
  rw[List.take_length,List.append_assoc]at oW
  exact hK _ _ oW mW nW
set_option maxRecDepth 10000 in
set_option maxHeartbeats 1000000 in
theorem ca_listPo{w:World}{K:Kont}{s v fv:Value}{l:List UInt8}{L:List (Po)}{g:Po→List UInt8}(h:OwnB w s l)(hR:Rd w 4 v L.length (L.flatMap cellsPo))(hsep:∀y,inRd v y→¬inSl s y)(hl:l.length≤100000000)(hn:L.length≤3200)(hg:∀x∈L,(g x).length≤300)
  (hcall:∀W s' l' x (K' :Kont),x∈L→OwnB W s' l' →l'.length≤900000000→(∀s'' W',OwnB W' s'' (l' ++g x)→Mod (inSl s') W W' →(∀b,inSl s'' b→inSl s' b∨W.heap.size≤b)→K' s'' W')→callV Tryz.prog fv [s',poV x] W K')
  (hK:∀s' w',OwnB w' s' (l++lsB g L)→Mod (inSl s) w w' →(∀b,inSl s' b→inSl s b∨w.heap.size≤b)→K s' w'):Ca Tryz.prog 161 #[s,v,fv] w K:=by
 apply ca161
 unfold F161
 obtain⟨va,vc,hv⟩:=hR.isSl
 have ln:∀W,(builtin .len #[46] 3 #[false] #[v]).run Tryz.prog W=.ok (.value (.int .i64 (L.length:Int))) W:=λW=>by rw[hv];simp[go_sem]
 refine rnS (ln _) (rvS (v:=.int .u64 (L.length:Int)) (w' :=w) (by simp[go_sem];rw[wrapU (by omega) (by omega)]) ?_)
 have hn10:(natB L.length).length≤10:=natB_le10 (by omega)
 refine ca_wnatB (n:=L.length) h (by omega) (by omega) λs1 w1 o1 m1 n1=>?_
 refine rnS (ln _) ?_
 have hfl:∀k,((L.take k).flatMap g).length≤960000:=λk=>by
  have h1:=flat_leF (m:=300) (g:=g) (L:=L.take k) λx hx=>hg x (List.mem_of_mem_take hx)
  have h2:(L.take k).length≤L.length:=by rw[List.length_take];omega
  omega
 refine loopV (λst W=>∃(k:Nat) (s' :Value),k≤L.length∧st=(s',.int .i64 k,())∧OwnB W s' (l++natB L.length++(L.take k).flatMap g)∧Mod (inSl s) w W∧∀b,inSl s' b→inSl s b∨w.heap.size≤b)
  (λst _=>match st.2.1 with| .int _ k=>L.length - k.toNat|_=>0) ⟨0,s1,by omega,rfl,by rw[List.take_zero,List.flatMap_nil,List.append_nil];exact o1,m1,n1⟩ ?_
 rintro _ W ⟨k,s',hk,rfl,oW,mW,nW⟩ KN hKN
 unfold L161_0
 intro _
 by_cases hlt:k<L.length
 ·have hlt' :(k:Int)<(L.length:Int):=by omega
  refine rvS (v:=.bool true) (by simp[go_sem,hlt']<;>first|exact⟨rfl,rfl⟩|exact rfl) ?_
  rw[ifB_bool,if_pos rfl]
  have hRW:=hR.mod mW hsep
  have hmem:=List.getElem_mem hlt
  have htk:=take_succ' hlt
  obtain⟨eb,eo,e1,e2⟩:=poIt hRW hlt
  refine rvS e1 (rvS e2 ?_)
  obtain⟨x,hx⟩:∃x,x=L[k]:=⟨_,rfl⟩
  rw[←hx]
  obtain⟨W2,W3,f2,f3,b3,M3⟩:=poVar x W
  refine rvS f2 (ruS f3 (rvS (poLdI b3) ?_))
  refine hcall W3 s' _ x _ (hx▸hmem) (oW.mod M3 λ_ _ h=>h) (by simp only[List.length_append];have:=hfl k;omega) λs2 W4 o4 m4 n4=>?_
  refine rvS (v:=.int .i64 ((k+1:Nat):Int)) (w' :=W4) (by simp[go_sem];rw[wrapI (by omega) (by omega)]) ?_
  have hz:=mW.size
  have hz3:=M3.size
  have MW3:Mod (inSl s) w W3:=mW.trans (M3.mono λ_ _ h=>h.elim)
  refine hKN _ _ ⟨k+1,s2,by omega,rfl,?_,MW3.on m4 nW,λb hb=>?_⟩ (by show L.length - (((k+1:Nat):Int)).toNat<L.length - ((k:Int)).toNat;omega)
  ·rw[htk,←hx,List.flatMap_append,List.flatMap_cons,List.flatMap_nil,List.append_nil,←List.append_assoc];exact o4
  ·rcases n4 b hb with h' |h'
   ·exact nW b h'
   ·exact .inr (by omega)
 ·obtain rfl:k=L.length:=by omega
  refine rvS (v:=.bool false) (by simp[go_sem]<;>first|exact⟨rfl,rfl⟩|exact rfl) ?_
  rw[ifB_bool,if_neg Bool.false_ne_true]
  rw[List.take_length,List.append_assoc]at oW
  exact hK _ _ oW mW nW
set_option maxRecDepth 10000 in
set_option maxHeartbeats 1000000 in
theorem ca_listSd{w:World}{K:Kont}{s v fv:Value}{l:List UInt8}{L:List (Int×Od)}{g:Int×Od→List UInt8}(h:OwnB w s l)(hR:Rd w 6 v L.length (L.flatMap sdOC))(hsep:∀y,inRd v y→¬inSl s y)(hl:l.length≤100000000)(hn:L.length≤3200)(hg:∀x∈L,(g x).length≤300)
  (hcall:∀W s' l' x (K' :Kont),x∈L→OwnB W s' l' →l'.length≤900000000→(∀s'' W',OwnB W' s'' (l' ++g x)→Mod (inSl s') W W' →(∀b,inSl s'' b→inSl s' b∨W.heap.size≤b)→K' s'' W')→callV Tryz.prog fv [s',sdVF x] W K')
  (hK:∀s' w',OwnB w' s' (l++lsB g L)→Mod (inSl s) w w' →(∀b,inSl s' b→inSl s b∨w.heap.size≤b)→K s' w'):Ca Tryz.prog 163 #[s,v,fv] w K:=by
 apply ca163
 unfold F163
 obtain⟨va,vc,hv⟩:=hR.isSl
 have ln:∀W,(builtin .len #[47] 3 #[false] #[v]).run Tryz.prog W=.ok (.value (.int .i64 (L.length:Int))) W:=λW=>by rw[hv];simp[go_sem]
 refine rnS (ln _) (rvS (v:=.int .u64 (L.length:Int)) (w' :=w) (by simp[go_sem];rw[wrapU (by omega) (by omega)]) ?_)
 have hn10:(natB L.length).length≤10:=natB_le10 (by omega)
 refine ca_wnatB (n:=L.length) h (by omega) (by omega) λs1 w1 o1 m1 n1=>?_
 refine rnS (ln _) ?_
 have hfl:∀k,((L.take k).flatMap g).length≤960000:=λk=>by
  have h1:=flat_leF (m:=300) (g:=g) (L:=L.take k) λx hx=>hg x (List.mem_of_mem_take hx)
  have h2:(L.take k).length≤L.length:=by rw[List.length_take];omega
  omega
 refine loopV (λst W=>∃(k:Nat) (s' :Value),k≤L.length∧st=(s',.int .i64 k,())∧OwnB W s' (l++natB L.length++(L.take k).flatMap g)∧Mod (inSl s) w W∧∀b,inSl s' b→inSl s b∨w.heap.size≤b)
  (λst _=>match st.2.1 with| .int _ k=>L.length - k.toNat|_=>0) ⟨0,s1,by omega,rfl,by rw[List.take_zero,List.flatMap_nil,List.append_nil];exact o1,m1,n1⟩ ?_
 rintro _ W ⟨k,s',hk,rfl,oW,mW,nW⟩ KN hKN
 unfold L163_0
 intro _
 by_cases hlt:k<L.length
 ·have hlt' :(k:Int)<(L.length:Int):=by omega
  refine rvS (v:=.bool true) (by simp[go_sem,hlt']<;>first|exact⟨rfl,rfl⟩|exact rfl) ?_
  rw[ifB_bool,if_pos rfl]
  have hRW:=hR.mod mW hsep
  have hmem:=List.getElem_mem hlt
  have htk:=take_succ' hlt
  obtain⟨eb,eo,ei,hA⟩:=sdIt hRW hlt
  refine rvS (ei W _) (rvS (sdLdAt hA) ?_)
  obtain⟨x,hx⟩:∃x,x=L[k]:=⟨_,rfl⟩
  rw[←hx]
  obtain⟨W2,W3,f2,f3,b3,M3⟩:=sdVarF x W
  refine rvS f2 (ruS f3 (rvS (sdLdAt (At.all b3)) ?_))
  refine hcall W3 s' _ x _ (hx▸hmem) (oW.mod M3 λ_ _ h=>h) (by simp only[List.length_append];have:=hfl k;omega) λs2 W4 o4 m4 n4=>?_
  refine rvS (v:=.int .i64 ((k+1:Nat):Int)) (w' :=W4) (by simp[go_sem];rw[wrapI (by omega) (by omega)]) ?_
  have hz:=mW.size
  have hz3:=M3.size
  have MW3:Mod (inSl s) w W3:=mW.trans (M3.mono λ_ _ h=>h.elim)
  refine hKN _ _ ⟨k+1,s2,by omega,rfl,?_,MW3.on m4 nW,λb hb=>?_⟩ (by show L.length - (((k+1:Nat):Int)).toNat<L.length - ((k:Int)).toNat;omega)
  ·rw[htk,←hx,List.flatMap_append,List.flatMap_cons,List.flatMap_nil,List.append_nil,←List.append_assoc];exact o4
  ·rcases n4 b hb with h' |h'
   ·exact nW b h'
   ·exact .inr (by omega)
 ·obtain rfl:k=L.length:=by omega
  refine rvS (v:=.bool false) (by simp[go_sem]<;>first|exact⟨rfl,rfl⟩|exact rfl) ?_
  rw[ifB_bool,if_neg Bool.false_ne_true]
  rw[List.take_length,List.append_assoc]at oW
  exact hK _ _ oW mW nW
end Go.Proofs
namespace Go.Proofs
open Go Go.Vc
attribute [local congr] Ca_congV
structure Wrt(w:World)(s:Value)(w' :World)(s' :Value)(l:List UInt8):Prop where
 own:OwnB w' s' l
 md:Mod (inSl s) w w'
 nw:∀b,inSl s' b→inSl s b∨w.heap.size≤b
section
variable{w w1 w2:World}{s s1 s2:Value}{l l1 l2:List UInt8}{K:Kont}
theorem Wrt.zero(h:OwnB w s l)(m:Mod (λ_=>False) w w1):Wrt w s w1 s l:=⟨h.mod m λ_ _ h=>h,m.mono λ_ _ h=>h.elim,λb hb=>.inl hb⟩
theorem Wrt.go(h:Wrt w s w1 s1 l1)(o:OwnB w2 s2 l2)(m:Mod (inSl s1) w1 w2)(n:∀b,inSl s2 b→inSl s1 b∨w1.heap.size≤b):Wrt w s w2 s2 l2:=
 ⟨o,h.md.on m h.nw,λb hb=>by
  rcases n b hb with h' |h'
  ·exact h.nw b h'
  ·have:=h.md.size;exact .inr (by omega)⟩
theorem Wrt.dr(h:Wrt w s w1 s1 l1)(m:Mod (λ_=>False) w1 w2):Wrt w s w2 s1 l1:=⟨h.own.mod m λ_ _ h=>h,h.md.trans (m.mono λ_ _ h=>h.elim),h.nw⟩
theorem Wrt.np(h:Wrt w s w1 s1 l1){p:Nat}(h1:¬inSl s p)(h2:p<w.heap.size):¬inSl s1 p:=λhc=>by
 rcases h.nw p hc with h' |h'
 ·exact h1 h'
 ·omega
theorem Wrt.back{w0:World}(h:Wrt w s w1 s1 l1)(m:Mod (λ_=>False) w0 w):Mod (inSl s) w0 w1∧∀b,inSl s1 b→inSl s b∨w0.heap.size≤b:=
 ⟨(m.mono λ_ _ h=>h.elim).trans h.md,λb hb=>(h.nw b hb).imp id λh' =>by have:=m.size;omega⟩
theorem ca_wnum{x:Int}(h:OwnB w s l)(hx:0≤x∧x<18446744073709551616)(hk:l.length≤1000000000)
  (hK:∀s' w',OwnB w' s' (l++numB x)→Mod (inSl s) w w' →(∀b,inSl s' b→inSl s b∨w.heap.size≤b)→K s' w'):Ca Tryz.prog 100 #[s,.int .u64 x] w K:=by
 obtain⟨n,rfl⟩:=Int.eq_ofNat_of_zero_le hx.1
 exact ca_wnatB h (by omega) hk hK
theorem num_le(x:Int)(h:x<18446744073709551616):(numB x).length≤10:=natB_le10 (by omega)
theorem int_le{x:Int}(h:R64' x):(intB x).length≤10:=natB_le10 (zig_lt h)
theorem boxAcF(x:Ac)(w:World):∃w1,(Instr.box 92 (acV x)).run Tryz.prog w=.ok (.pointer (some ⟨w.heap.size,0,none⟩)) w1∧AcB w1 w.heap.size x∧Mod (λ_=>False) w w1:=
 ⟨w.alloc (.cells (cellsAc x).toArray 92),rfl,by show hp _ _=_;simp[go_sem],(Mod.refl _ w).alloc _⟩
theorem acFF(i:Nat)(hi:i<4)(p:Nat)(W:World):(Instr.fieldAt 92 (.pointer (some ⟨p,0,none⟩)) i).run Tryz.prog W=.ok (.pointer (some ⟨p,i,none⟩)) W:=by
 rcases(show i=0∨i=1∨i=2∨i=3 by omega)with rfl|rfl|rfl|rfl<;>simp[go_sem]
theorem acLF{W:World}{p:Nat}{a:Ac}(h:AcB W p a):(Instr.loadAt 35 (.pointer (some ⟨p,0,none⟩))).run Tryz.prog W=.ok (.int .u32 a.num) W∧(Instr.loadAt 2 (.pointer (some ⟨p,1,none⟩))).run Tryz.prog W=.ok (.int .i64 a.cash) W:=by
 have h' :hp W p=some (.cells (cellsAc a).toArray 92 (0,0)):=h
 simp only[cellsAc]at h'
 exact⟨by simp[go_sem,h'],by simp[go_sem,h']⟩
theorem cvU32{x:Int}(hx:U32' x)(W:World):(convert 35 27 (.int .u32 x)).run Tryz.prog W=.ok (.int .u64 x) W:=by
 obtain⟨h1,h2⟩:=hx
 simp[go_sem];rw[wrapU (by omega) (by omega)]
set_option maxRecDepth 10000 in
theorem ca_form1{x:Ac}(h:OwnB w s l)(hx:U32' x.num∧R64' x.cash)(hl:l.length≤900000000)
  (hK:∀s' w',OwnB w' s' (l++acB x)→Mod (inSl s) w w' →(∀b,inSl s' b→inSl s b∨w.heap.size≤b)→K s' w'):Ca Tryz.prog 156 #[s,acV x] w K:=by
 apply ca156
 unfold F156
 obtain⟨w1,e1,b1,m1⟩:=boxAcF x w
 obtain⟨p,hp0⟩:∃p,p=w.heap.size:=⟨_,rfl⟩
 rw[←hp0]at e1 b1
 have np:¬inSl s p:=λhc=>by have:=h.lt hc;omega
 refine rvS e1 ?_
 have mm:=m1.trans (Mod.refl (λ_=>False) w1).drew
 have b2:AcB w1.drew p x:=((Mod.refl (λ_=>False) w1).drew).hpk b1 id
 have h2:OwnB w1.drew s l:=h.mod mm λ_ _ h=>h
 generalize w1.drew=w2 at mm b2 h2⊢
 have hp2:p<w2.heap.size:=lt_of_heap b2
 have r0:Wrt w2 s w2 s l:=Wrt.zero h2 (Mod.refl _ _)
 have l1:=num_le x.num (by have:=hx.1.2;omega)
 have l2:=int_le hx.2
 refine rdPS (λW=>acFF 0 (by omega) p W) (rdWS (acLF b2).1 (rdWS (cvU32 hx.1 _) ?_))
 refine rdPS (λW=>acFF 1 (by omega) p W) (rdWS (acLF b2).2 ?_)
 refine rdPS (λW=>acFF 2 (by omega) p W) (rdWS (acBL b2).1 ?_)
 refine rdPS (λW=>acFF 3 (by omega) p W) (rdWS (acBL b2).2 ?_)
 refine ca_wnum h2 ⟨hx.1.1,by have:=hx.1.2;omega⟩ (by omega) λs3 w3 o3 m3 n3=>?_
 have r3:=r0.go o3 m3 n3
 have b3:AcB w3 p x:=m3.hpk b2 np
 refine⟨(acBL b3).2,(acBL b3).1,(acLF b3).2,?_⟩
 refine ca_wint o3 hx.2 (by simp only[List.length_append];omega) λs4 w4 o4 m4 n4=>?_
 have r4:=r3.go o4 m4 n4
 have b4:AcB w4 p x:=m4.hpk b3 (r3.np np hp2)
 refine⟨(acBL b4).2,(acBL b4).1,?_⟩
 refine ca_wflag o4 (by simp only[List.length_append];omega) λs5 w5 o5 m5 n5=>?_
 have r5:=r4.go o5 m5 n5
 have b5:AcB w5 p x:=m5.hpk b4 (r4.np np hp2)
 refine⟨(acBL b5).2,?_⟩
 refine ca_wflag o5 (by simp only[List.length_append,flagB,List.length_singleton];omega) λs6 w6 o6 m6 n6=>?_
 have r6:=r5.go o6 m6 n6
 have e:l++numB x.num++intB x.cash++flagB x.kil++flagB x.dfl=l++acB x:=by unfold acB;simp only[List.append_assoc]
 rw[e]at o6
 exact hK s6 w6 o6 (r6.back mm).1 (r6.back mm).2
theorem boxPoF(x:Po)(w:World):∃w1,(Instr.box 112 (poV x)).run Tryz.prog w=.ok (.pointer (some ⟨w.heap.size,0,none⟩)) w1∧PoB w1 w.heap.size x∧Mod (λ_=>False) w w1:=
 ⟨w.alloc (.cells (cellsPo x).toArray 112),rfl,by show hp _ _=_;simp[go_sem],(Mod.refl _ w).alloc _⟩
theorem poFF(i:Nat)(hi:i<4)(p:Nat)(W:World):(Instr.fieldAt 112 (.pointer (some ⟨p,0,none⟩)) i).run Tryz.prog W=.ok (.pointer (some ⟨p,i,none⟩)) W:=by
 rcases(show i=0∨i=1∨i=2∨i=3 by omega)with rfl|rfl|rfl|rfl<;>simp[go_sem]
theorem poLF{W:World}{p:Nat}{a:Po}(h:PoB W p a):(Instr.loadAt 35 (.pointer (some ⟨p,1,none⟩))).run Tryz.prog W=.ok (.int .u32 a.a) W∧(Instr.loadAt 2 (.pointer (some ⟨p,2,none⟩))).run Tryz.prog W=.ok (.int .i64 a.q) W∧(Instr.loadAt 2 (.pointer (some ⟨p,3,none⟩))).run Tryz.prog W=.ok (.int .i64 a.b) W:=by
 have h' :hp W p=some (.cells (cellsPo a).toArray 112 (0,0)):=h
 simp only[cellsPo]at h'
 exact⟨by simp[go_sem,h'],by simp[go_sem,h'],by simp[go_sem,h']⟩
set_option maxRecDepth 10000 in
theorem ca_form3{x:Po}(h:OwnB w s l)(hx:(U32' x.c∧U32' x.a)∧R64' x.q∧R64' x.b)(hl:l.length≤900000000)
  (hK:∀s' w',OwnB w' s' (l++poB x)→Mod (inSl s) w w' →(∀b,inSl s' b→inSl s b∨w.heap.size≤b)→K s' w'):Ca Tryz.prog 162 #[s,poV x] w K:=by
 obtain⟨⟨hc,ha⟩,hq,hb⟩:=hx
 apply ca162
 unfold F162
 obtain⟨w1,e1,b1,m1⟩:=boxPoF x w
 obtain⟨p,hp0⟩:∃p,p=w.heap.size:=⟨_,rfl⟩
 rw[←hp0]at e1 b1
 have np:¬inSl s p:=λhc=>by have:=h.lt hc;omega
 refine rvS e1 ?_
 have mm:=m1.trans (Mod.refl (λ_=>False) w1).drew
 have b2:PoB w1.drew p x:=((Mod.refl (λ_=>False) w1).drew).hpk b1 id
 have h2:OwnB w1.drew s l:=h.mod mm λ_ _ h=>h
 generalize w1.drew=w2 at mm b2 h2⊢
 have hp2:p<w2.heap.size:=lt_of_heap b2
 have r0:Wrt w2 s w2 s l:=Wrt.zero h2 (Mod.refl _ _)
 have l1:=num_le x.c (by have:=hc.2;omega)
 have l2:=num_le x.a (by have:=ha.2;omega)
 have l3:=int_le hq
 refine rdPS (λW=>poFF 0 (by omega) p W) (rdWS (poB0 b2) (rdWS (cvU32 hc _) ?_))
 refine rdPS (λW=>poFF 1 (by omega) p W) (rdWS (poLF b2).1 (rdWS (cvU32 ha _) ?_))
 refine rdPS (λW=>poFF 2 (by omega) p W) (rdWS (poLF b2).2.1 ?_)
 refine rdPS (λW=>poFF 3 (by omega) p W) (rdWS (poLF b2).2.2 ?_)
 refine ca_wnum h2 ⟨hc.1,by have:=hc.2;omega⟩ (by omega) λs3 w3 o3 m3 n3=>?_
 have r3:=r0.go o3 m3 n3
 have b3:PoB w3 p x:=m3.hpk b2 np
 refine⟨(poLF b3).2.2,(poLF b3).2.1,cvU32 ha _,(poLF b3).1,?_⟩
 refine ca_wnum o3 ⟨ha.1,by have:=ha.2;omega⟩ (by simp only[List.length_append];omega) λs4 w4 o4 m4 n4=>?_
 have r4:=r3.go o4 m4 n4
 have b4:PoB w4 p x:=m4.hpk b3 (r3.np np hp2)
 refine⟨(poLF b4).2.2,(poLF b4).2.1,?_⟩
 refine ca_wint o4 hq (by simp only[List.length_append];omega) λs5 w5 o5 m5 n5=>?_
 have r5:=r4.go o5 m5 n5
 have b5:PoB w5 p x:=m5.hpk b4 (r4.np np hp2)
 refine⟨(poLF b5).2.2,?_⟩
 refine ca_wint o5 hb (by simp only[List.length_append];omega) λs6 w6 o6 m6 n6=>?_
 have r6:=r5.go o6 m6 n6
 have e:l++numB x.c++numB x.a++intB x.q++intB x.b=l++poB x:=by unfold poB;simp only[List.append_assoc]
 rw[e]at o6
 exact hK s6 w6 o6 (r6.back mm).1 (r6.back mm).2
theorem odBG(i:Nat)(hi:i<5)(p:Nat)(W:World):(Instr.fieldAt tOd (.pointer (some ⟨p,1,none⟩)) i).run Tryz.prog W=.ok (.pointer (some ⟨p,1+i,none⟩)) W:=by
 rcases(show i=0∨i=1∨i=2∨i=3∨i=4 by omega)with rfl|rfl|rfl|rfl|rfl<;>simp[go_sem,addr_add]
theorem sdLF{W:World}{p:Nat}{x:Int×Od}(h:SdB W p x):(Instr.loadAt 27 (.pointer (some ⟨p,1+0,none⟩))).run Tryz.prog W=.ok (.int .u64 x.2.num) W∧(Instr.loadAt 35 (.pointer (some ⟨p,1+1,none⟩))).run Tryz.prog W=.ok (.int .u32 x.2.acct) W∧(Instr.loadAt 4 (.pointer (some ⟨p,1+2,none⟩))).run Tryz.prog W=.ok (.bool x.2.buy) W∧
  (Instr.loadAt 2 (.pointer (some ⟨p,1+3,none⟩))).run Tryz.prog W=.ok (.int .i64 x.2.price) W∧(Instr.loadAt 2 (.pointer (some ⟨p,1+4,none⟩))).run Tryz.prog W=.ok (.int .i64 x.2.left) W:=by
 have h' :hp W p=some (.cells (sdOC x).toArray tSdF (0,0)):=h
 simp only[sdOC,odC]at h'
 exact⟨by simp[go_sem,h'],by simp[go_sem,h'],by simp[go_sem,h'],by simp[go_sem,h'],by simp[go_sem,h']⟩
set_option maxRecDepth 10000 in
theorem ca_stoodF{x:Int×Od}(h:OwnB w s l)(hx:U32' x.1∧x.2.Fit)(hl:l.length≤900000000)
  (hK:∀s' w',OwnB w' s' (l++odB x)→Mod (inSl s) w w' →(∀b,inSl s' b→inSl s b∨w.heap.size≤b)→K s' w'):Ca Tryz.prog 164 #[s,sdVF x] w K:=by
 obtain⟨hc,hn,ha,hpr,hle⟩:=hx
 apply ca164
 unfold F164
 obtain⟨w1,e1,b1,m1⟩:=boxSd x w
 obtain⟨p,hp0⟩:∃p,p=w.heap.size:=⟨_,rfl⟩
 rw[←hp0]at e1 b1
 have np:¬inSl s p:=λhc=>by have:=h.lt hc;omega
 refine rvS e1 ?_
 have mm:=m1.trans (Mod.refl (λ_=>False) w1).drew
 have b2:SdB w1.drew p x:=((Mod.refl (λ_=>False) w1).drew).hpk b1 id
 have h2:OwnB w1.drew s l:=h.mod mm λ_ _ h=>h
 generalize w1.drew=w2 at mm b2 h2⊢
 have hp2:p<w2.heap.size:=lt_of_heap b2
 have r0:Wrt w2 s w2 s l:=Wrt.zero h2 (Mod.refl _ _)
 have l1:=num_le x.1 (by have:=hc.2;omega)
 have l2:=num_le x.2.num (by have:=hn.2;omega)
 have l3:=num_le x.2.acct (by have:=ha.2;omega)
 have l4:=int_le hpr
 refine rdPS (λW=>(sdBF p W).1) (rdWS (sdB0 b2) (rdWS (cvU32 hc _) ?_))
 refine rdPS (λW=>(sdBF p W).2) (rdPS (λW=>odBG 0 (by omega) p W) (rdWS (sdLF b2).1 ?_))
 refine rdPS (λW=>(sdBF p W).2) (rdPS (λW=>odBG 1 (by omega) p W) (rdWS (sdLF b2).2.1 (rdWS (cvU32 ha _) ?_)))
 refine ca_wnum h2 ⟨hc.1,by have:=hc.2;omega⟩ (by omega) λs3 w3 o3 m3 n3=>?_
 have r3:=r0.go o3 m3 n3
 have b3:SdB w3 p x:=m3.hpk b2 np
 refine⟨cvU32 ha _,(sdLF b3).2.1,(sdLF b3).1,?_⟩
 refine ca_wnum o3 ⟨hn.1,by have:=hn.2;omega⟩ (by simp only[List.length_append];omega) λs4 w4 o4 m4 n4=>?_
 have r4:=r3.go o4 m4 n4
 have b4:SdB w4 p x:=m4.hpk b3 (r3.np np hp2)
 refine⟨cvU32 ha _,(sdLF b4).2.1,?_⟩
 refine ca_wnum o4 ⟨ha.1,by have:=ha.2;omega⟩ (by simp only[List.length_append];omega) λs5 w5 o5 m5 n5=>?_
 have r5:=r4.go o5 m5 n5
 have b5:SdB w5 p x:=m5.hpk b4 (r4.np np hp2)
 have md:=(Mod.refl (λ_=>False) w5).drew
 have r6:=r5.dr md
 have b6:SdB w5.drew p x:=md.hpk b5 id
 have o6:=r6.own
 generalize w5.drew=w6 at md r6 b6 o6⊢
 refine rdPS (λW=>(sdBF p W).2) (rdPS (λW=>odBG 2 (by omega) p W) (rdWS (sdLF b6).2.2.1 ?_))
 refine rdPS (λW=>(sdBF p W).2) (rdPS (λW=>odBG 3 (by omega) p W) (rdWS (sdLF b6).2.2.2.1 ?_))
 refine rdPS (λW=>(sdBF p W).2) (rdPS (λW=>odBG 4 (by omega) p W) (rdWS (sdLF b6).2.2.2.2 ?_))
 refine ca_wflag o6 (by simp only[List.length_append];omega) λs7 w7 o7 m7 n7=>?_
 have r7:=r6.go o7 m7 n7
 have b7:SdB w7 p x:=m7.hpk b6 (r6.np np hp2)
 refine⟨(sdLF b7).2.2.2.2,(sdLF b7).2.2.2.1,?_⟩
 refine ca_wint o7 hpr (by simp only[List.length_append,flagB,List.length_singleton];omega) λs8 w8 o8 m8 n8=>?_
 have r8:=r7.go o8 m8 n8
 have b8:SdB w8 p x:=m8.hpk b7 (r7.np np hp2)
 refine⟨(sdLF b8).2.2.2.2,?_⟩
 refine ca_wint o8 hle (by simp only[List.length_append,flagB,List.length_singleton];omega) λs9 w9 o9 m9 n9=>?_
 have r9:=r8.go o9 m9 n9
 have e:l++numB x.1++numB x.2.num++numB x.2.acct++flagB x.2.buy++intB x.2.price++intB x.2.left=l++odB x:=by unfold odB;simp only[List.append_assoc]
 rw[e]at o9
 exact hK s9 w9 o9 (r9.back mm).1 (r9.back mm).2
end
end Go.Proofs
namespace Go.Proofs
open Go Go.Vc
attribute [local congr] Ca_congV
theorem e64F:elemOk Tryz.prog 2 1 8=true:=by kernel_rfl
theorem uI64sF:Tryz.prog.underlying 333=some (.slice 2):=by kernel_rfl
theorem spGet(x:Sp):(spC x)[0]? =some (.int .u32 x.num)∧(spC x)[1]? =some (.int .u8 x.route)∧(spC x)[2]? =some (.int .i64 x.tick)∧(spC x)[3]? =some (.int .i64 x.lot)∧(spC x)[4]? =some (.int .i64 x.band)∧(spC x)[5]? =some (.int .i64 x.limit)∧
  (spC x)[22]? =some (.int .i64 x.credit)∧(spC x)[23]? =some (.int .u32 x.last)∧(spC x)[24]? =some (.int .i64 x.first):=by
 have h:∀i:Nat,(spC x)[i]? =(spC x++[])[i]? :=λi=>by rw[List.append_nil]
 refine⟨rfl,rfl,rfl,rfl,rfl,rfl,?_,?_,?_⟩
 ·rw[h];exact spG22 x []
 ·rw[h];exact spG23 x []
 ·rw[h];exact spG24 x []
section
variable{w w' :World}{s:Value}{l:List UInt8}{K:Kont}{p:Nat}{x:Sp}
theorem spLd(h:SpAt w p (spC x)):(Instr.loadAt 35 (.pointer (some ⟨p,0,none⟩))).run Tryz.prog w=.ok (.int .u32 x.num) w∧(Instr.loadAt 5 (.pointer (some ⟨p,1,none⟩))).run Tryz.prog w=.ok (.int .u8 x.route) w∧
  (Instr.loadAt 2 (.pointer (some ⟨p,2,none⟩))).run Tryz.prog w=.ok (.int .i64 x.tick) w∧(Instr.loadAt 2 (.pointer (some ⟨p,3,none⟩))).run Tryz.prog w=.ok (.int .i64 x.lot) w∧
  (Instr.loadAt 2 (.pointer (some ⟨p,4,none⟩))).run Tryz.prog w=.ok (.int .i64 x.band) w∧(Instr.loadAt 2 (.pointer (some ⟨p,5,none⟩))).run Tryz.prog w=.ok (.int .i64 x.limit) w:=by
 have h' :hp w p=some (.cells (spC x).toArray tSpec (0,0)):=h
 obtain⟨g0,g1,g2,g3,g4,g5,g6,g7,g8⟩:=spGet x
 exact⟨by simp[go_sem,h',g0],by simp[go_sem,h',g1],by simp[go_sem,h',g2],by simp[go_sem,h',g3],by simp[go_sem,h',g4],by simp[go_sem,h',g5]⟩
theorem spLe(h:SpAt w p (spC x)):(Instr.loadAt 2 (.pointer (some ⟨p,22,none⟩))).run Tryz.prog w=.ok (.int .i64 x.credit) w∧(Instr.loadAt 35 (.pointer (some ⟨p,23,none⟩))).run Tryz.prog w=.ok (.int .u32 x.last) w∧
  (Instr.loadAt 2 (.pointer (some ⟨p,24,none⟩))).run Tryz.prog w=.ok (.int .i64 x.first) w:=by
 have h' :hp w p=some (.cells (spC x).toArray tSpec (0,0)):=h
 obtain⟨g0,g1,g2,g3,g4,g5,g6,g7,g8⟩:=spGet x
 exact⟨by simp[go_sem,h',g6],by simp[go_sem,h',g7],by simp[go_sem,h',g8]⟩
theorem spFd(p:Nat)(W:World):(∀i,i<7→(Instr.fieldAt tSpec (.pointer (some ⟨p,0,none⟩)) i).run Tryz.prog W=.ok (.pointer (some ⟨p,i,none⟩)) W)∧(Instr.fieldAt tSpec (.pointer (some ⟨p,0,none⟩)) 7).run Tryz.prog W=.ok (.pointer (some ⟨p,22,none⟩)) W∧
  (Instr.fieldAt tSpec (.pointer (some ⟨p,0,none⟩)) 8).run Tryz.prog W=.ok (.pointer (some ⟨p,23,none⟩)) W∧(Instr.fieldAt tSpec (.pointer (some ⟨p,0,none⟩)) 9).run Tryz.prog W=.ok (.pointer (some ⟨p,24,none⟩)) W:=by
 refine⟨λi hi=>?_,by simp[go_sem],by simp[go_sem],by simp[go_sem]⟩
 rcases(show i=0∨i=1∨i=2∨i=3∨i=4∨i=5∨i=6 by omega)with rfl|rfl|rfl|rfl|rfl|rfl|rfl<;>simp[go_sem]
theorem cvI64{x:Int}(h0:0≤x)(h1:x<9223372036854775808)(W:World):(convert 2 27 (.int .i64 x)).run Tryz.prog W=.ok (.int .u64 x) W:=by
 simp[go_sem];rw[wrapU (by omega) (by omega)]
def spNs(x:Sp):List Int:=[x.num,x.route,x.tick,x.lot,x.band,x.limit]
theorem spBounds(hx:x.Fit)(hm:x.may=true):(∀n∈spNs x,0≤n∧n<9223372036854775808)∧(0≤x.credit∧x.credit<9223372036854775808)∧(0≤x.first∧x.first<9223372036854775808):=by
 obtain⟨f1,f2,f3,f4,f5,f6,f7,f8,f9,f10⟩:=hx
 unfold Sp.may priceB amongB at hm
 simp only[Bool.and_eq_true,decide_eq_true_eq]at hm
 obtain⟨⟨⟨⟨⟨⟨⟨⟨⟨⟨-,-⟩,-⟩,-⟩,-⟩,ht⟩,hlo⟩,hb⟩,hli⟩,hcr⟩,hfi,-⟩:=hm
 refine⟨λn hn=>?_,⟨by omega,f8.2⟩,⟨by omega,f10.2⟩⟩
 have:n=x.num∨n=x.route∨n=x.tick∨n=x.lot∨n=x.band∨n=x.limit:=by simpa [spNs]using hn
 rcases this with rfl|rfl|rfl|rfl|rfl|rfl
 ·exact⟨f1.1,by have:=f1.2;omega⟩
 ·exact⟨f2.1,by have:=f2.2;omega⟩
 ·exact⟨by omega,f3.2⟩
 ·exact⟨by omega,f4.2⟩
 ·exact⟨by omega,f5.2⟩
 ·exact⟨by omega,f6.2⟩
set_option maxRecDepth 10000 in
set_option maxHeartbeats 2000000 in
theorem ca_putF(h:OwnB w s l)(hx:x.Fit)(hl:l.length≤900000000)
  (hK:∀s' w',OwnB w' s' (l++spB x)→Mod (inSl s) w w' →(∀b,inSl s' b→inSl s b∨w.heap.size≤b)→K s' w'):Ca Tryz.prog 160 #[s,.agg (spC x).toArray] w K:=by
 apply ca160
 unfold F160
 obtain⟨p,hp0⟩:∃p,p=w.heap.size:=⟨_,rfl⟩
 have m1:Mod (λ_=>False) w (w.alloc (.cells (spC x).toArray tSpec)):=(Mod.refl _ w).alloc _
 have b1:SpAt (w.alloc (.cells (spC x).toArray tSpec)) p (spC x):=by show hp _ _=_;rw[hp0];simp[go_sem]
 refine rvS (v:=.pointer (some ⟨p,0,none⟩)) (w' :=w.alloc (.cells (spC x).toArray tSpec)) (by rw[hp0];rfl) ?_
 generalize w.alloc (.cells (spC x).toArray tSpec)=w1 at m1 b1⊢
 refine rx_bigS (spC x) 24 aSp nSp (spC_len _) (At.all b1) ?_
 refine ca_smayS hx λw2 m2=>?_
 refine rvS (v:=.bool (!x.may)) (w' :=w2) (by simp[go_sem]) ?_
 have M2:=m1.trans m2
 cases hm:x.may with
 |false=>
  rw[show(!false)=true from rfl,ifB_bool,if_pos rfl]
  have e:spB x=[]:=by unfold spB;rw[if_neg (by rw[hm];simp)]
  rw[e]at hK
  exact hK s w2 (by rw[List.append_nil];exact h.mod M2 λ_ _ h=>h) (M2.mono λ_ _ h=>h.elim) λb hb=>.inl hb
 |true=>
 rw[show(!true)=false from rfl,ifB_bool,if_neg Bool.false_ne_true]
 obtain⟨hN,hcr,hfi⟩:=spBounds hx hm
 have b2:SpAt w2 p (spC x):=m2.hpk b1 id
 have h2:OwnB w2 s l:=h.mod M2 λ_ _ h=>h
 have hps:¬inSl s p:=λhc=>by have:=h.lt hc;omega
 obtain⟨g0,g1,g2,g3,g4,g5⟩:=spLd b2
 have hf:=(spFd p w2).1
 obtain⟨n0,n1,n2,n3,n4,n5⟩:(0≤x.num∧x.num<9223372036854775808)∧(0≤x.route∧x.route<9223372036854775808)∧True∧True∧True∧True:=⟨hN _ (by simp[spNs]),hN _ (by simp[spNs]),trivial,trivial,trivial,trivial⟩
 refine rvS (hf 0 (by omega)) (rvS g0 (rvS (v:=.int .i64 x.num) (w' :=w2) (by simp[go_sem];rw[wrapI (by omega) (by omega)]) ?_))
 refine rvS (hf 1 (by omega)) (rvS g1 (rvS (v:=.int .i64 x.route) (w' :=w2) (by simp[go_sem];rw[wrapI (by omega) (by omega)]) ?_))
 refine rvS (hf 2 (by omega)) (rvS g2 (rvS (hf 3 (by omega)) (rvS g3 (rvS (hf 4 (by omega)) (rvS g4 (rvS (hf 5 (by omega)) (rvS g5 ?_)))))))
 obtain⟨q,hq⟩:∃q,q=w2.heap.size:=⟨_,rfl⟩
 refine rx_lit ((spNs x).map λn=>.int .i64 n) uI64sF (elemT_of e64F) rfl rfl (by intro v hv;obtain⟨n,-,rfl⟩:=List.mem_map.1 hv;rfl) (by omega) ?_
 rw[←hq]
 have e0:((((spNs x).map λn=>(.int .i64 n:Value)).flatMap (·.cells.toList)).toArray)=((spNs x).map λn=>(.int .i64 n:Value)).toArray:=rfl
 rw[e0]
 have m3:Mod (λ_=>False) w2 (w2.alloc (.cells ((spNs x).map λn=>(.int .i64 n:Value)).toArray 2)):=(Mod.refl _ w2).alloc _
 have bq:hp (w2.alloc (.cells ((spNs x).map λn=>(.int .i64 n:Value)).toArray 2)) q=some (.cells ((spNs x).map λn=>(.int .i64 n:Value)).toArray 2 (0,0)):=by rw[hq];simp[go_sem]
 generalize w2.alloc (.cells ((spNs x).map λn=>(.int .i64 n:Value)).toArray 2)=w3 at m3 bq⊢
 have M3:=M2.trans m3
 have h3:OwnB w3 s l:=h2.mod m3 λ_ _ h=>h
 have b3:SpAt w3 p (spC x):=m3.hpk b2 id
 have hqs:¬inSl s q:=λhc=>by have:=h2.lt hc;omega
 have hp3:p<w3.heap.size:=lt_of_heap b3
 have hq3:q<w3.heap.size:=lt_of_heap bq
 have hlen:(spNs x).length=6:=rfl
 have l10:∀n∈spNs x,(numB n).length≤10:=λn hn=>num_le n (by have:=(hN n hn).2;omega)
 refine rnS (v:=.int .i64 6) (w' :=w3) (by simp[go_sem]) ?_
 refine loopV (λst W=>∃(i:Nat) (s' :Value),i≤6∧st=(s',.int .i64 i,())∧Wrt w3 s W s' (l++((spNs x).take i).flatMap numB))
  (λst _=>match st.2.1 with| .int _ i=>6 - i.toNat|_=>0) ⟨0,s,by omega,rfl,by rw[List.take_zero,List.flatMap_nil,List.append_nil];exact Wrt.zero h3 (Mod.refl _ _)⟩ ?_
 rintro _ W ⟨i,s',hi,rfl,rW⟩ KN hKN
 unfold L160_1
 intro _
 have hfl:(((spNs x).take i).flatMap numB).length≤60:=by
  have h1:=flat_leF (m:=10) (g:=numB) (L:=(spNs x).take i) λn hn=>l10 n (List.mem_of_mem_take hn)
  have h2:((spNs x).take i).length≤6:=by rw[List.length_take];omega
  omega
 by_cases hlt:i<6
 ·have hlt' :(i:Int)<6:=by omega
  have hil:i<(spNs x).length:=hlt
  refine rvS (v:=.bool true) (by simp[go_sem,hlt']<;>first|exact⟨rfl,rfl⟩|exact rfl) ?_
  rw[ifB_bool,if_pos rfl]
  obtain⟨n,hn⟩:∃n,n=(spNs x)[i]:=⟨_,rfl⟩
  have hmem:n∈spNs x:=hn▸List.getElem_mem hil
  have bqW:=rW.md.hpk bq hqs
  have hgi:((spNs x).map λn=>(.int .i64 n:Value))[i]? =some (.int .i64 n):=by rw[List.getElem?_map,List.getElem?_eq_getElem hil,hn];rfl
  have hlt6:¬(6:Int)≤(i:Int):=by omega
  refine rvS (v:=.pointer (some ⟨q,i,none⟩)) (w' :=W) (by simp[go_sem,hlt,hlt6,addr_add]) ?_
  refine rvS (v:=.int .i64 n) (w' :=W) (by simp[go_sem,bqW,hgi]) ?_
  refine rvS (cvI64 (hN n hmem).1 (hN n hmem).2 _) ?_
  refine ca_wnum rW.own ⟨(hN n hmem).1,by have:=(hN n hmem).2;omega⟩ (by simp only[List.length_append];omega) λs2 W2 o2 m2' n2' =>?_
  refine rvS (v:=.int .i64 ((i+1:Nat):Int)) (w' :=W2) (by simp[go_sem];rw[wrapI (by omega) (by omega)]) ?_
  have r2:=rW.go o2 m2' n2'
  refine hKN _ _ ⟨i+1,s2,by omega,rfl,?_⟩ (by show 6 - (((i+1:Nat):Int)).toNat<6 - ((i:Int)).toNat;omega)
  rw[take_succ' hil,←hn,List.flatMap_append,List.flatMap_cons,List.flatMap_nil,List.append_nil,←List.append_assoc]
  exact r2
 obtain rfl:i=6:=by omega
 refine rvS (v:=.bool false) (by simp[go_sem]<;>first|exact⟨rfl,rfl⟩|exact rfl) ?_
 rw[ifB_bool,if_neg Bool.false_ne_true]
 have b4:SpAt W p (spC x):=rW.md.hpk b3 hps
 refine rvS ((spFd p W).1 6 (by omega)) ?_
 have hA:At W p 6 (shC x.shifts):=by
  have:=(At.all b4).sub 6 16 (by rw[spC_len];omega)
  rw[spC_shift]at this
  simpa using this
 refine rx_bigS (shC x.shifts) 15 aSh nSh (shC_len _) hA ?_
 obtain⟨f1,f2,f3,f4,f5,f6,f7,f8,f9,f10⟩:=hx
 have hsl:x.shifts.toList.length=16:=by simp
 obtain⟨l6,hl6⟩:∃l6,l6=l++((spNs x).take 6).flatMap numB:=⟨_,rfl⟩
 rw[←hl6]at rW
 have hl6' :l6.length≤900000060:=by rw[hl6,List.length_append];omega
 refine loopV (λst W' =>∃(i:Nat) (s2:Value),i≤16∧st=(s2,.int .i64 i,())∧Wrt w3 s W' s2 (l6++(x.shifts.toList.take i).flatMap intB))
  (λst _=>match st.2.1 with| .int _ i=>16 - i.toNat|_=>0) ⟨0,s',by omega,rfl,by rw[List.take_zero,List.flatMap_nil,List.append_nil];exact rW⟩ ?_
 rintro _ V ⟨j,s2,hj,rfl,rV⟩ KN2 hKN2
 unfold L160_0
 intro _
 have hfl2:((x.shifts.toList.take j).flatMap intB).length≤160:=by
  have h1:=flat_leF (m:=10) (g:=intB) (L:=x.shifts.toList.take j) λn hn=>int_le (f7 n (List.mem_of_mem_take hn))
  have h2:(x.shifts.toList.take j).length≤16:=by rw[List.length_take];omega
  omega
 by_cases hlt:j<16
 ·have hlt' :(j:Int)<16:=by omega
  have hil:j<x.shifts.toList.length:=by omega
  refine rvS (v:=.bool true) (by simp[go_sem,hlt']<;>first|exact⟨rfl,rfl⟩|exact rfl) ?_
  rw[ifB_bool,if_pos rfl]
  refine rvS (v:=.int .i64 x.shifts.toList[j]!) (w' :=V) (run_index_one uSh aI64 sI64 nI64 hlt (shC_get _ j hlt)) ?_
  rw[getElem!_pos x.shifts.toList j hil]
  refine ca_wint rV.own (f7 _ (List.getElem_mem hil)) (by simp only[List.length_append];omega) λs4 W2 o2 m2' n2' =>?_
  refine rvS (v:=.int .i64 ((j+1:Nat):Int)) (w' :=W2) (by simp[go_sem];rw[wrapI (by omega) (by omega)]) ?_
  have r2:=rV.go o2 m2' n2'
  refine hKN2 _ _ ⟨j+1,s4,by omega,rfl,?_⟩ (by show 16 - (((j+1:Nat):Int)).toNat<16 - ((j:Int)).toNat;omega)
  rw[take_succ' hil,List.flatMap_append,List.flatMap_cons,List.flatMap_nil,List.append_nil,←List.append_assoc]
  exact r2
 obtain rfl:j=16:=by omega
 refine rvS (v:=.bool false) (by simp[go_sem]<;>first|exact⟨rfl,rfl⟩|exact rfl) ?_
 rw[ifB_bool,if_neg Bool.false_ne_true]
 have md:=(Mod.refl (λ_=>False) V).drew
 have rD:=rV.dr md
 have b5:SpAt V.drew p (spC x):=md.hpk (rV.md.hpk b3 hps) id
 have oD:=rD.own
 generalize V.drew=u at md rD b5 oD⊢
 have c1:=num_le x.credit (by have:=hcr.2;omega)
 have c2:=num_le x.last (by have:=f9.2;omega)
 refine rdPS (λW=>(spFd p W).2.1) (rdWS (spLe b5).1 (rdWS (cvI64 hcr.1 hcr.2 _) ?_))
 refine rdPS (λW=>(spFd p W).2.2.1) (rdWS (spLe b5).2.1 (rdWS (cvU32 f9 _) ?_))
 refine rdPS (λW=>(spFd p W).2.2.2) (rdWS (spLe b5).2.2 (rdWS (cvI64 hfi.1 hfi.2 _) ?_))
 refine ca_wnum oD ⟨hcr.1,by have:=hcr.2;omega⟩ (by simp only[List.length_append];omega) λs5 w5 o5 m5 n5=>?_
 have r5:=rD.go o5 m5 n5
 have b6:SpAt w5 p (spC x):=m5.hpk b5 (rD.np hps hp3)
 refine⟨cvI64 hfi.1 hfi.2 _,(spLe b6).2.2,cvU32 f9 _,(spLe b6).2.1,?_⟩
 refine ca_wnum o5 ⟨f9.1,by have:=f9.2;omega⟩ (by simp only[List.length_append];omega) λs6 w6 o6 m6 n6=>?_
 have r6:=r5.go o6 m6 n6
 have b7:SpAt w6 p (spC x):=m6.hpk b6 (r5.np hps hp3)
 refine⟨cvI64 hfi.1 hfi.2 _,(spLe b7).2.2,?_⟩
 refine ca_wnum o6 ⟨hfi.1,by have:=hfi.2;omega⟩ (by simp only[List.length_append];omega) λs7 w7 o7 m7 n7=>?_
 have r7:=r6.go o7 m7 n7
 have e:l6++(x.shifts.toList.take 16).flatMap intB++numB x.credit++numB x.last++numB x.first=l++spB x:=by
  rw[hl6,List.take_of_length_le (by omega),List.take_of_length_le (by omega)]
  unfold spB
  rw[if_pos hm]
  simp[spNs]
 rw[e]at o7
 exact hK s7 w7 o7 (r7.back M3).1 (r7.back M3).2
theorem spB_le(hx:x.Fit):(spB x).length≤250:=by
 unfold spB
 by_cases hm:x.may
 ·rw[if_pos hm]
  obtain⟨hN,hcr,hfi⟩:=spBounds hx hm
  obtain⟨f1,f2,f3,f4,f5,f6,f7,f8,f9,f10⟩:=hx
  have l10:∀n∈spNs x,(numB n).length≤10:=λn hn=>num_le n (by have:=(hN n hn).2;omega)
  have hsh:=flat_leF (m:=10) (g:=intB) (L:=x.shifts.toList) λn hn=>int_le (f7 n hn)
  have hsl:x.shifts.toList.length=16:=by simp
  have c0:=l10 x.num (by simp[spNs])
  have c1:=l10 x.route (by simp[spNs])
  have c2:=l10 x.tick (by simp[spNs])
  have c3:=l10 x.lot (by simp[spNs])
  have c4:=l10 x.band (by simp[spNs])
  have c5:=l10 x.limit (by simp[spNs])
  have c6:=num_le x.credit (by have:=hcr.2;omega)
  have c7:=num_le x.last (by have:=f9.2;omega)
  have c8:=num_le x.first (by have:=hfi.2;omega)
  simp only[List.length_append]
  omega
 ·rw[if_neg hm];exact Nat.zero_le _
end
section
variable{w:World}{s:Value}{l:List UInt8}{K:Kont}
set_option maxRecDepth 10000 in
theorem ca_form2{x:Ct}(h:OwnB w s l)(hx:x.Fit)(hl:l.length≤900000000)
  (hK:∀s' w',OwnB w' s' (l++ctB x)→Mod (inSl s) w w' →(∀b,inSl s' b→inSl s b∨w.heap.size≤b)→K s' w'):Ca Tryz.prog 159 #[s,ctVF x] w K:=by
 apply ca159
 unfold F159
 obtain⟨p,hp0⟩:∃p,p=w.heap.size:=⟨_,rfl⟩
 have m1:Mod (λ_=>False) w (w.alloc (.cells (ctC x).toArray tCt)):=(Mod.refl _ w).alloc _
 have b1:CtB (w.alloc (.cells (ctC x).toArray tCt)) p x:=by show hp _ _=_;rw[hp0];simp[go_sem]
 refine rvS (v:=.pointer (some ⟨p,0,none⟩)) (w' :=w.alloc (.cells (ctC x).toArray tCt)) (by rw[hp0];rfl) ?_
 generalize w.alloc (.cells (ctC x).toArray tCt)=w1 at m1 b1⊢
 have np:¬inSl s p:=λhc=>by have:=h.lt hc;omega
 have mm:=m1.trans (Mod.refl (λ_=>False) w1).drew
 have b2:CtB w1.drew p x:=((Mod.refl (λ_=>False) w1).drew).hpk b1 id
 have h2:OwnB w1.drew s l:=h.mod mm λ_ _ h=>h
 generalize w1.drew=w2 at mm b2 h2⊢
 have hp2:p<w2.heap.size:=lt_of_heap b2
 have r0:Wrt w2 s w2 s l:=Wrt.zero h2 (Mod.refl _ _)
 obtain⟨hsp,hst,hpr⟩:=hx
 have l1:=spB_le hsp
 have l2:=num_le x.st (by have:=hst.2;omega)
 have cv8:∀W,(convert 106 27 (.int .u8 x.st)).run Tryz.prog W=.ok (.int .u64 x.st) W:=λW=>by
  obtain⟨a1,a2⟩:=hst
  simp[go_sem];rw[wrapU (by omega) (by omega)]
 refine rdPS (λW=>(ctBF p W).1) (rdX_bigS (spC x.spec) 24 aSp nSp (spC_len _) (ctAtSp (At.all b2)) ?_)
 refine rdPS (λW=>(ctBF p W).2.1) (rdWS (ctB25 b2) (rdWS (cv8 _) ?_))
 refine rdPS (λW=>(ctBF p W).2.2.1) (rdWS (ctB26 b2) ?_)
 refine ca_putF h2 hsp (by omega) λs3 w3 o3 m3 n3=>?_
 have r3:=r0.go o3 m3 n3
 have b3:CtB w3 p x:=m3.hpk b2 np
 refine⟨ctB26 b3,cv8 _,ctB25 b3,?_⟩
 refine ca_wnum o3 ⟨hst.1,by have:=hst.2;omega⟩ (by simp only[List.length_append];omega) λs4 w4 o4 m4 n4=>?_
 have r4:=r3.go o4 m4 n4
 have b4:CtB w4 p x:=m4.hpk b3 (r3.np np hp2)
 refine⟨ctB26 b4,?_⟩
 refine ca_wint o4 hpr (by simp only[List.length_append];omega) λs5 w5 o5 m5 n5=>?_
 have r5:=r4.go o5 m5 n5
 have e:l++spB x.spec++numB x.st++intB x.price=l++ctB x:=by unfold ctB;simp only[List.append_assoc]
 rw[e]at o5
 exact hK s5 w5 o5 (r5.back mm).1 (r5.back mm).2
end
end Go.Proofs
namespace Go.Proofs
open Go Go.Vc
attribute [local congr] Ca_congV
theorem acB_le{x:Ac}(h:U32' x.num∧R64' x.cash):(acB x).length≤300:=by
 have l1:=num_le x.num (by have:=h.1.2;omega)
 have l2:=int_le h.2
 unfold acB flagB
 simp only[List.length_append,List.length_singleton]
 omega
theorem poB_le{x:Po}(h:(U32' x.c∧U32' x.a)∧R64' x.q∧R64' x.b):(poB x).length≤300:=by
 have l1:=num_le x.c (by have:=h.1.1.2;omega)
 have l2:=num_le x.a (by have:=h.1.2.2;omega)
 have l3:=int_le h.2.1
 have l4:=int_le h.2.2
 unfold poB
 simp only[List.length_append]
 omega
theorem ctB_le{x:Ct}(h:x.Fit):(ctB x).length≤300:=by
 have l1:=spB_le h.1
 have l2:=num_le x.st (by have:=h.2.1.2;omega)
 have l3:=int_le h.2.2
 unfold ctB
 simp only[List.length_append]
 omega
theorem odB_le{x:Int×Od}(h:U32' x.1∧x.2.Fit):(odB x).length≤300:=by
 obtain⟨hc,hn,ha,hpr,hle⟩:=h
 have l1:=num_le x.1 (by have:=hc.2;omega)
 have l2:=num_le x.2.num (by have:=hn.2;omega)
 have l3:=num_le x.2.acct (by have:=ha.2;omega)
 have l4:=int_le hpr
 have l5:=int_le hle
 unfold odB flagB
 simp only[List.length_append,List.length_singleton]
 omega
theorem lsB_le{α:Type}{g:α→List UInt8}{L:List α}(hg:∀x∈L,(g x).length≤300)(hn:L.length≤3200):(lsB g L).length≤960010:=by
 have h1:=flat_leF hg
 have h2:=natB_le10 (n:=L.length) (by omega)
 unfold lsB
 rw[List.length_append]
 omega
section
variable{w:World}{K:Kont}{ss:Nat→Value}{s:Sta}
set_option maxRecDepth 10000 in
set_option maxHeartbeats 2000000 in
theorem ca_formF(h:StaR w ss s)(hf:s.Fit)(hl:s.accts.length≤3200∧s.cts.length≤3200∧s.poss.length≤3200∧s.ords.length≤3200∧s.bids.length≤3200)
  (hK:∀s' w',OwnB w' s' (staB s)→Mod (λ_=>False) w w' →(∀b,inSl s' b→w.heap.size≤b)→K s' w'):Ca Tryz.prog 82 #[stV s.day s.next s.fund ss] w K:=by
 obtain⟨hA,hC,hP,hO,hB⟩:=hl
 have hssl:=h.sl
 have gA:∀x∈s.accts,(acB x).length≤300:=λx hx=>acB_le (hf.accts x hx)
 have gC:∀x∈s.cts,(ctB x).length≤300:=λx hx=>ctB_le (hf.cts x hx)
 have gP:∀x∈s.poss,(poB x).length≤300:=λx hx=>poB_le (hf.poss x hx)
 have gO:∀x∈s.ords,(odB x).length≤300:=λx hx=>odB_le (hf.ords x hx)
 have gB:∀x∈s.bids,(odB x).length≤300:=λx hx=>odB_le (hf.bids x hx)
 have n1:=num_le s.day (by have:=hf.day.2;omega)
 have n2:=num_le s.next (by have:=hf.next.2;omega)
 have n3:=int_le hf.fund
 have n4:=lsB_le gA hA
 have n5:=lsB_le gC hC
 have n6:=lsB_le gP hP
 have n7:=lsB_le gO hO
 apply ca82
 unfold F82
 obtain⟨w1,e1,b1,m1⟩:=boxStI s.day s.next s.fund ss w
 obtain⟨sb,hsb⟩:∃p,p=w.heap.size:=⟨_,rfl⟩
 rw[←hsb]at e1 b1
 refine rvS e1 ?_
 have mm:=m1.trans (Mod.refl (λ_=>False) w1).drew
 have b2:StBlk w1.drew sb s.day s.next s.fund ss:=((Mod.refl (λ_=>False) w1).drew).hpk b1 id
 generalize w1.drew=w2 at mm b2⊢
 have hsb2:sb<w2.heap.size:=lt_of_heap b2
 have nsb:¬inSl nilV sb:=λhc=>by cases hc
 have r2:Wrt w2 nilV w2 nilV []:=Wrt.zero (Own.nil _ _ _) (Mod.refl _ _)
 have hsep:∀{W:World} {s' :Value} {l:List UInt8},Wrt w2 nilV W s' l→∀i,3≤i→i≤7→∀y,inRd (ss i) y→¬inSl s' y:=λr i h1 h2 y hy hc=>by
  have:=(h i h1 h2).lt hy
  have:=mm.size
  rcases r.nw y hc with h' |h'
  ·cases h'
  ·omega
 have hst:∀{W:World} {s' :Value} {l:List UInt8},Wrt w2 nilV W s' l→StaR W ss s:=λr=>h.md0 (mm.trans (r.md.mono λ_ _ h=>by cases h))
 refine rdPS (λW=>stFl sb 0 (by omega) W) (rdWS (stLdN b2).1 (rdWS (cvU32 hf.day _) ?_))
 refine rdPS (λW=>stFl sb 1 (by omega) W) (rdWS (stLdN b2).2.1 ?_)
 refine rdPS (λW=>stFl sb 2 (by omega) W) (rdWS (stLdN b2).2.2 ?_)
 refine ca_wnum r2.own ⟨hf.day.1,by have:=hf.day.2;omega⟩ (by simp) λs3 w3 o3 m3 k3=>?_
 have r3:=r2.go o3 m3 k3
 have b3:StBlk w3 sb s.day s.next s.fund ss:=m3.hpk b2 nsb
 refine⟨(stLdN b3).2.2,(stLdN b3).2.1,?_⟩
 refine ca_wnum o3 ⟨hf.next.1,by have:=hf.next.2;omega⟩ (by simp only[List.length_append,List.length_nil];omega) λs4 w4 o4 m4 k4=>?_
 have r4:=r3.go o4 m4 k4
 have b4:StBlk w4 sb s.day s.next s.fund ss:=m4.hpk b3 (r3.np nsb hsb2)
 refine⟨(stLdN b4).2.2,?_⟩
 refine ca_wint o4 hf.fund (by simp only[List.length_append,List.length_nil];omega) λs5 w5 o5 m5 k5=>?_
 have r5:=r4.go o5 m5 k5
 have b5:StBlk w5 sb s.day s.next s.fund ss:=m5.hpk b4 (r4.np nsb hsb2)
 refine rvS (stFl sb 3 (by omega) _) (rvS (stLd345 b5 hssl).1 ?_)
 refine ca_listAc (g:=acB) o5 (hst r5).accts (hsep r5 3 (by omega) (by omega)) (by simp only[List.length_append,List.length_nil];omega) hA gA (λW s' l' x K' hx hO hl' hk=>by rw[callV_func];exact ca_form1 hO (hf.accts x hx) hl' hk) λs6 w6 o6 m6 k6=>?_
 have r6:=r5.go o6 m6 k6
 have b6:StBlk w6 sb s.day s.next s.fund ss:=m6.hpk b5 (r5.np nsb hsb2)
 refine rvS (stFl sb 4 (by omega) _) (rvS (stLd345 b6 hssl).2.1 ?_)
 refine ca_listCt (g:=ctB) o6 (hst r6).cts (hsep r6 4 (by omega) (by omega)) (by simp only[List.length_append,List.length_nil];omega) hC gC (λW s' l' x K' hx hO hl' hk=>by rw[callV_func];exact ca_form2 hO (hf.cts x hx) hl' hk) λs7 w7 o7 m7 k7=>?_
 have r7:=r6.go o7 m7 k7
 have b7:StBlk w7 sb s.day s.next s.fund ss:=m7.hpk b6 (r6.np nsb hsb2)
 refine rvS (stFl sb 5 (by omega) _) (rvS (stLd345 b7 hssl).2.2 ?_)
 refine ca_listPo (g:=poB) o7 (hst r7).poss (hsep r7 5 (by omega) (by omega)) (by simp only[List.length_append,List.length_nil];omega) hP gP (λW s' l' x K' hx hO hl' hk=>by rw[callV_func];exact ca_form3 hO (hf.poss x hx) hl' hk) λs8 w8 o8 m8 k8=>?_
 have r8:=r7.go o8 m8 k8
 have b8:StBlk w8 sb s.day s.next s.fund ss:=m8.hpk b7 (r7.np nsb hsb2)
 have md:=(Mod.refl (λ_=>False) w8).drew
 have r9:=r8.dr md
 have b9:StBlk w8.drew sb s.day s.next s.fund ss:=md.hpk b8 id
 have o9:=r9.own
 generalize w8.drew=w9 at md r9 b9 o9⊢
 refine rdPS (λW=>stFl sb 6 (by omega) W) (rdWS (stLd6 b9 hssl).1 ?_)
 refine rdPS (λW=>stFl sb 7 (by omega) W) (rdWS (stLd6 b9 hssl).2 ?_)
 refine ca_listSd (g:=odB) o9 (hst r9).ords (hsep r9 6 (by omega) (by omega)) (by simp only[List.length_append,List.length_nil];omega) hO gO (λW s' l' x K' hx hO hl' hk=>by rw[callV_func];exact ca_stoodF hO (hf.ords x hx) hl' hk) λsa wa oa ma ka=>?_
 have ra:=r9.go oa ma ka
 have ba:StBlk wa sb s.day s.next s.fund ss:=ma.hpk b9 (r9.np nsb hsb2)
 refine⟨(stLd6 ba hssl).2,?_⟩
 refine ca_listSd (g:=odB) oa (hst ra).bids (hsep ra 7 (by omega) (by omega)) (by simp only[List.length_append,List.length_nil];omega) hB gB (λW s' l' x K' hx hO hl' hk=>by rw[callV_func];exact ca_stoodF hO (hf.bids x hx) hl' hk) λsc wc oc mc kc=>?_
 have rc:=ra.go oc mc kc
 have e: []++numB s.day++numB s.next++intB s.fund++lsB acB s.accts++lsB ctB s.cts++lsB poB s.poss++lsB odB s.ords++lsB odB s.bids=staB s:=by unfold staB;simp only[List.append_assoc,List.nil_append]
 rw[e]at oc
 refine hK sc wc oc (mm.trans (rc.md.mono λ_ _ h=>by cases h)) λb hb=>?_
 rcases rc.nw b hb with h' |h'
 ·cases h'
 ·have:=mm.size;omega
theorem ca_bytes{S:Ven}(h:StaR w ss s)(hf:s.Fit)(hl:s.accts.length≤64∧s.cts.length≤16∧s.poss.length≤1024∧s.ords.length≤3200∧s.bids.length≤800)(hfr:fromR s=some S)
  (hK:∀s' w',OwnB w' s' (staB s)→Mod (λ_=>False) w w' →K (.tuple #[s',.int .i64 0]) w'):Ca Tryz.prog 24 #[stV s.day s.next s.fund ss] w K:=by
 have hssl:=h.sl
 apply ca24
 unfold F24
 obtain⟨w1,e1,b1,m1⟩:=boxStI s.day s.next s.fund ss w
 obtain⟨sb,hsb⟩:∃p,p=w.heap.size:=⟨_,rfl⟩
 rw[←hsb]at e1 b1
 refine rvS e1 (rvS (stLdW b1 hssl) ?_)
 refine ca_vfrom (s:=s) (h.md0 m1) hf ⟨by omega,by omega,by omega,by omega,by omega⟩ λx e w2 m2 hx=>?_
 rw[hfr]at hx
 obtain⟨rfl,v,F,rfl,-,-⟩:=hx
 refine rvS (v:=vptr v) (w' :=w2) (by simp[go_sem]) (rvS (v:=.int .i64 0) (w' :=w2) (by simp[go_sem]) ?_)
 refine rvS (v:=.bool false) (w' :=w2) (by simp[go_sem]) ?_
 rw[ifB_bool,if_neg Bool.false_ne_true]
 have b2:StBlk w2 sb s.day s.next s.fund ss:=m2.hpk b1 id
 refine rvS (stLdW b2 hssl) ?_
 refine ca_formF (h.md0 (m1.trans m2)) hf ⟨by omega,by omega,by omega,by omega,by omega⟩ λs' w3 o3 m3 n3=>?_
 exact hK s' w3 o3 ((m1.trans m2).trans m3)
end
theorem cutB{w:World}{v:Value}{l:List UInt8}(h:Rd w 1 v l.length (bv l))(hp:0<l.length):
  ∃v',(∀W,(Instr.sliceAt 54 v none (some (.int .i64 ((l.length - 1:Nat):Int))) none).run Tryz.prog W=.ok v' W)∧Rd w 1 v' (l.take (l.length - 1)).length (bv (l.take (l.length - 1))):=by
 have hu:Tryz.prog.underlying 54=some (.slice 5):=uBs
 have hc:Tryz.prog.cellsOf 5=0+1:=by kernel_rfl
 obtain⟨v',e',r',-⟩:=Rd.part hu hc h (lo:=0) (hi:=l.length - 1) (by omega) (by omega) .i64 .i64
 obtain⟨hE,he⟩:=elem_slice hu
 obtain⟨-,⟨h0,-⟩|⟨b,off,cap,rfl,hcap,-⟩⟩:=h
 ·omega
 refine⟨v',λW=>?_,?_⟩
 ·rw[←e' W,run_sliceAt_slice W _ _ _ _ _ hE,run_sliceAt_slice W _ _ _ _ _ hE,run_slice_h W _ _ _ cap hE .i64 _ (by omega) (by omega),run_slice_lh W _ _ _ cap hE .i64 .i64 _ _ (by omega) (by omega) (by omega)]
  rfl
 ·have e:(l.take (l.length - 1)).length=l.length - 1 - 0:=by rw[List.length_take];omega
  have e2:((bv l).drop (0*(0+1))).take ((l.length - 1 - 0)*(0+1))=bv (l.take (l.length - 1)):=by
   rw[Nat.zero_mul,List.drop_zero,Nat.zero_add,Nat.mul_one,Nat.sub_zero]
   unfold bv
   rw[List.map_take]
  rw[e2]at r'
  rw[e]
  exact r'
section
variable{w:World}{K:Kont}{v:Value}{l:List UInt8}
set_option maxRecDepth 10000 in
set_option maxHeartbeats 2000000 in
theorem ca_imageOnly{u:UInt8}(h:Rd w 1 v l.length (bv l))(hK:∀w',Mod (λ_=>False) w w' →K (.bool true) w'):Ca Tryz.prog 8 #[v,.int .u8 (u.toNat:Int)] w K:=by
 apply ca8
 unfold F8
 obtain⟨a,c,hv⟩:=h.isSl
 have ln:∀W,(builtin .len #[54] 3 #[false] #[v]).run Tryz.prog W=.ok (.value (.int .i64 (l.length:Int))) W:=λW=>by rw[hv];simp[go_sem]
 refine rnS (ln _) ?_
 refine rvS (v:=.bool (decide (30000<l.length))) (w' :=w) (by simp[go_sem];omega) ?_
 by_cases h3:30000<l.length
 ·rw[ifB_bool,if_pos (by simpa using h3)]
  exact ca_known17 λw' m=>hK w' m
 rw[ifB_bool,if_neg (by simpa using h3)]
 have lay:∀(d nx fu:Int) (ss:Nat→Value) (W:World),(∀i,3≤i→i≤7→∃a n c,ss i=.slice a n c)→∃W1 W2,(Instr.alloc tSt true (.tuple #[])).run Tryz.prog W=.ok (.pointer (some ⟨W.heap.size,0,none⟩)) W1∧(Instr.storeAt tSt (.pointer (some ⟨W.heap.size,0,none⟩)) (stV d nx fu ss)).run Tryz.prog W1=.ok () W2∧StBlk W2 W.heap.size d nx fu ss∧Mod (λ_=>False) W W2:=λd nx fu ss W hss=>by
  obtain⟨W1,e1,b1,m1⟩:=newSt W
  obtain⟨W2,e2,b2,m2⟩:=stSt (d:=d) (n:=nx) (f:=fu) (ss:=ss) b1 rfl hss
  exact⟨W1,W2,e1,e2,b2,m1.on m2 λy hy=>.inr (by omega)⟩
 refine ca_iread h (by omega) (λs S ss w1 hr hst m1=>?_) λw1 hr m1=>?_
 rotate_left
 ·refine rvS (v:=stV 0 0 0 (ss0 nilV)) (w' :=w1) (by simp[go_sem]) (rvS (v:=.int .i64 5) (w' :=w1) (by simp[go_sem]) ?_)
  obtain⟨w2,w3,e2,e3,b3,m3⟩:=lay 0 0 0 (ss0 nilV) w1 ss0_sl
  refine rvS e2 (ruS e3 ?_)
  refine rvS (v:=.bool true) (w' :=w3) (by simp[go_sem]) ?_
  rw[ifB_bool,if_pos rfl]
  exact ca_known17 λw' m=>hK w' ((m1.trans m3).trans m)
 have hssl:=hst.sl
 have hfr:fromR s=some S∧s=(rsSta l).1∧rsDone l (rsSta l).2=0:=by
  unfold readR at hr
  by_cases hd:rsDone l (rsSta l).2=0
  ·rw[if_pos hd]at hr
   cases hf:fromR (rsSta l).1 with
   |none=>rw[hf]at hr;cases hr
   |some T=>rw[hf]at hr;cases hr;exact⟨hf,rfl,hd⟩
  ·rw[if_neg hd]at hr;cases hr
 obtain⟨hfs,hse,hd⟩:=hfr
 have hfit:s.Fit:=by rw[hse];exact rsSta_fit l
 have hlen:=rsSta_len l
 rw[←hse]at hlen
 have hform:staB s=l:=by rw[hse];exact sta_form hd
 have hpos:=sta_pos hd
 have hmore:readR (l++[u])=none:=by unfold readR;rw[if_neg (sta_more hd u)]
 have hless:readR (l.take (l.length - 1))=none:=by unfold readR;rw[if_neg (sta_less hd hpos)]
 refine rvS (v:=staV s ss) (w' :=w1) (by simp[go_sem]) (rvS (v:=.int .i64 0) (w' :=w1) (by simp[go_sem]) ?_)
 obtain⟨w2,w3,e2,e3,b3,m3⟩:=lay s.day s.next s.fund ss w1 hssl
 refine rvS e2 (ruS e3 ?_)
 refine rvS (v:=.bool false) (w' :=w3) (by simp[go_sem]) ?_
 rw[ifB_bool,if_neg Bool.false_ne_true]
 refine rvS (stLdW b3 hssl) ?_
 refine ca_bytes (hst.md0 m3) hfit hlen hfs λsB w4 oB m4=>?_
 rw[hform]at oB
 refine rvS (v:=sB) (w' :=w4) (by simp[go_sem]) (rvS (v:=.int .i64 0) (w' :=w4) (by simp[go_sem]) ?_)
 have M4:=(m1.trans m3).trans m4
 refine litV [] uBs (elemT_of u8E) rfl rfl (by omega) λv5 w5 o5 m5 n5=>?_
 have h5:Rd w5 1 v l.length (bv l):=h.mod (M4.trans m5) λ_ _ h=>h
 refine rx_append (m:=l.length) uBs uBs (elemT_of u8E) o5 h5 (bv_one _) (by omega) λs6 w6 o6 m6 n6=>?_
 have z5:=m5.size
 have M6:Mod (λ_=>False) w w6:=(M4.trans m5).on m6 λy hy=>.inr (by have:=(n5 y hy).1;have:=M4.size;omega)
 have N6:∀y,inSl s6 y→w4.heap.size≤y:=λy hy=>by
  rcases n6 y hy with h' |h'
  ·exact(n5 y h').1
  ·omega
 refine litV [u] uBs (elemT_of u8E) rfl rfl (by omega) λv7 w7 o7 m7 n7=>?_
 refine rx_append (m:=1) uBs uBs (elemT_of u8E) (o6.mod m7 λ_ _ h=>h) o7.rd (bv_one _) (by omega) λs8 w8 o8 m8 n8=>?_
 have M8:Mod (λ_=>False) w w8:=(M6.trans m7).on m8 λy hy=>.inr (by have:=N6 y hy;have:=M4.size;omega)
 have r8:Rd w8 1 s8 (l++[u]).length (bv (l++[u])):=by
  have:=o8.rd
  have e:bv []++bv l++bv [u]=bv (l++[u]):=by rw[bv_append];rfl
  rw[e,Nat.zero_add]at this
  rw[List.length_append,List.length_singleton]
  exact this
 refine ca_iread r8 (by rw[List.length_append,List.length_singleton];omega) (λs' S' ss' w9 hr' hst' m9=>by rw[hmore]at hr';cases hr') λw9 hr9 m9=>?_
 refine rvS (v:=stV 0 0 0 (ss0 nilV)) (w' :=w9) (by simp[go_sem]) (rvS (v:=.int .i64 5) (w' :=w9) (by simp[go_sem]) ?_)
 obtain⟨wa,wb,ea,eb,bb,mb⟩:=lay 0 0 0 (ss0 nilV) w9 ss0_sl
 refine rvS ea (ruS eb ?_)
 have Mb:=(M8.trans m9).trans mb
 refine rnS (ln _) ?_
 refine rvS (v:=.int .i64 ((l.length - 1:Nat):Int)) (w' :=wb) (by simp[go_sem];rw[wrapI (by omega) (by omega)];omega) ?_
 obtain⟨vc,ec,hc⟩:=cutB (h.mod Mb λ_ _ h=>h) hpos
 refine rvS (ec _) ?_
 refine ca_iread hc (by rw[List.length_take];omega) (λs' S' ss' w9 hr' hst' m9=>by rw[hless]at hr';cases hr') λwc hrc mc=>?_
 refine rvS (v:=stV 0 0 0 (ss0 nilV)) (w' :=wc) (by simp[go_sem]) (rvS (v:=.int .i64 5) (w' :=wc) (by simp[go_sem]) ?_)
 obtain⟨wd,we,ed,ee,be,me⟩:=lay 0 0 0 (ss0 nilV) wc ss0_sl
 refine rvS ed (ruS ee ?_)
 have Me:=(Mb.trans mc).trans me
 have oE:OwnB we sB l:=by
  have k1:OwnB w5 sB l:=oB.mod m5 λ_ _ h=>h
  have k2:OwnB w6 sB l:=k1.mod m6 λy hy hc=>by have:=(n5 y hc).1;have:=oB.lt hy;omega
  have k3:OwnB w7 sB l:=k2.mod m7 λ_ _ h=>h
  have k4:OwnB w8 sB l:=k3.mod m8 λy hy hc=>by have:=N6 y hc;have:=oB.lt hy;omega
  exact k4.mod (((m9.trans mb).trans mc).trans me) λ_ _ h=>h
 refine rvS (v:=.bool true) (w' :=we) (by simp[go_sem]) ?_
 rw[ifB_bool,if_pos rfl]
 refine rx_toStr (l:=l) uBs (by kernel_rfl) (by kernel_rfl) oE.rd ?_
 refine rx_toStr (l:=l) uBs (by kernel_rfl) (by kernel_rfl) (h.mod Me λ_ _ h=>h) ?_
 refine rvS (v:=.bool true) (w' :=we) (by simp[go_sem]) ?_
 rw[ifB_bool,if_pos rfl]
 refine rvS (v:=.bool true) (w' :=we) (by simp[go_sem]) ?_
 rw[ifB_bool,if_pos rfl]
 refine rvS (v:=.bool true) (w' :=we) (by simp[go_sem]) ?_
 rw[ifB_bool,if_pos rfl]
 exact ca_known17 λw' m=>hK w' (Me.trans m)
end
end Go.Proofs
namespace Go.Proofs.YtgebhcgmckjbbaaGreat.imageOnly
open Go Go.Vc Go.Proofs Go.ChangeShapes Go.WideShapes Go.ChangeAt Go.RowKit
set_option maxRecDepth 100000 in
theorem lifted(os:Os)(started:os.Started)(H:Type)(enc:TypeId×Value→H):
  ReturnsInHanded {} Tryz.checked os 8 .any (Rows.imageOnlySpec.pre6 enc Tryz.prog Tryz.f8 Rows.imageOnlyRow.domain false) (Rows.imageOnlySpec.post enc Tryz.prog Tryz.f8 false true false false):=by
 refine returnsInHanded_of_change_sized (C:=Tryz.checked) own started (by kernel_rfl) Tryz.func8
  (ChangeSpec.witness6 (enc:=enc) (C:=Tryz.checked) false ⟨#[],#[.slice none 0 0,.int .u8 0],[]⟩ 8 (by kernel_rfl) (by kernel_rfl) (by kernel_rfl) (by kernel_rfl)) ?_
 intro W base args ds gs before hval0 hW hcnd hwt0 _
 have hval:∀(j:Nat) t v,Tryz.f8.params[j]? =some t→args[j]? =some v→Value.okWide Tryz.prog W .any base t v:=hval0
 have hwt:(DataW.weightsEach Tryz.prog (Tryz.f8.params.toList++[]) (ds++gs)).all (·≤reachBytes)=true:=hwt0
 have hW' :=hW
 obtain⟨p,q,hA0,hV,rfl,hfz,hnd⟩:=hW
 have hA:DataW.TrodAll enc Tryz.prog W 0 (λ_=>true) true Tryz.f8.params.toList args.toList ds p:=hA0
 rw[Tryz.params8]at hA hval hwt
 obtain⟨v0,vs0,d0,ds0,p0,q0,hargs,rfl,rfl,h0,r0⟩:=trodAll_cons hA
 obtain⟨v1,vs1,d1,ds1,p1,q1,rfl,rfl,rfl,h1,r1⟩:=trodAll_cons r0
 obtain⟨rfl,rfl,rfl⟩:=trodAll_nil r1
 obtain rfl:args= #[v0,v1]:=by cases args;simp_all
 obtain⟨rfl,rfl⟩:=trodVars_none hV
 obtain⟨b0,hb0⟩:=open_bs Tryz.underlying54 Tryz.underlying5 (by kernel_rfl) (hval 0 54 v0 rfl rfl) h0
 obtain⟨a1,rfl,rfl,rfl,w1⟩:=open_int Tryz.underlying5 (hval 1 5 v1 rfl rfl) h1
 obtain⟨u1,rfl⟩:=wf8I w1
 clear hA0 hval0
 refine Calls.mono (ca_imageOnly (K:=λv w' =>v=.bool true∧Mod (λ_=>False) W w') hb0 λw' hm=>⟨rfl,hm⟩).out ?_
 rintro e W' ⟨v,rfl,rfl,hm⟩
 exact⟨_,rfl,post_of_mod laidOut (by kernel_rfl) rfl hW' hm (by kernel_rfl) Tryz.underlying4 rfl⟩
theorem holds:Rows.ImageOnlySaid:=
 OpenClaim.holds_of_wide 8 Tryz.f8 rfl rfl rfl rfl rfl rfl rfl ⟨rfl,rfl,rfl,rfl,rfl⟩ rfl rfl rfl rfl rfl (by kernel_rfl) Tryz.func8 closed
  (of_decide_eq_true (by kernel_rfl)) (by unfold Func.isWrapper;first|(rw[if_pos (by decide+kernel)];kernel_rfl)|(rw[if_neg (by decide+kernel)];exact⟨rfl,rfl⟩))
  (λos started H enc _=>lifted os started H enc)
end Go.Proofs.YtgebhcgmckjbbaaGreat.imageOnly
