/- Part of a proof. -/
import Derived.Laws.BitsAllLaws
import Derived.Laws.DeepNot64
import Derived.Test.YtgebhcgmckjbbaaGreatO5
set_option linter.all false
namespace Go.Proofs
open Go Go.Vc
attribute [local congr] Ca_congV
theorem u8E:elemOk Tryz.prog 5 1 1=true:=by kernel_rfl
theorem u8C:Tryz.prog.cellsOf 5=0+1:=by kernel_rfl
abbrev tBs:TypeId:=54
theorem uBs:Tryz.prog.underlying tBs=some (.slice 5):=Tryz.underlying54
set_option maxRecDepth 100000 in
theorem lowByte(n:Nat):bits .or .u8 (IntKind.u8.wrap (n:Int)) 128=((UInt8.ofNat (n%128+128)).toNat:Int):=by
 have e1:IntKind.u8.wrap (n:Int)=((n%256:Nat):Int):=by rw[IntKind.wrap_u8];omega
 have e2:(UInt8.ofNat (n%128+128)).toNat=n%128+128:=u8_of (by omega)
 rw[e1,show(128:Int)=((128:Nat):Int)from rfl,u8_or_nat _ _ (by omega) (by omega),e2]
 congr 1
 have h:∀m:Fin 256,m.val|||128=m.val%128+128:=by decide
 have:=h ⟨n%256,by omega⟩
 simp only at this
 rw[this];omega
theorem ca_wnat{w:World}{K:Kont}{s:Value}{k n:Nat}{l:List UInt8}(h:Own w 5 1 s k (bv l))(hn:n<18446744073709551616)(hk:k≤1000000000)
  (hK:∀s' w',Own w' 5 1 s' (k+(natB n).length) (bv (l++natB n))→Mod (inSl s) w w' →(∀b,inSl s' b→inSl s b∨w.heap.size≤b)→K s' w'):
  Ca Tryz.prog 100 #[s,.int .u64 n] w K:=by
 apply ca100
 unfold F100
 refine loopV (λst W=>∃(m:Nat) (pre:List UInt8) (s' :Value),natB n=pre++natB m∧m≤n∧st=(.int .u64 (m:Int),s',())∧Own W 5 1 s' (k+pre.length) (bv (l++pre))∧Mod (inSl s) w W∧(∀b,inSl s' b→inSl s b∨w.heap.size≤b))
  (λst _=>match st.1 with| .int _ i=>i.toNat|_=>0) ⟨n,[],s,rfl,Nat.le_refl _,rfl,by simpa using h,Mod.refl _ _,λb hb=>.inl hb⟩ ?_
 rintro⟨_,_⟩ W ⟨m,pre,s',hpre,hm,⟨⟩,hO,mW,hb'⟩ KN hKN
 unfold L100_0
 intro _
 have hlen:=natB_len10 hn
 rw[hpre,List.length_append]at hlen
 by_cases hge:128≤m
 ·have hge' :(128:Int)≤(m:Int):=by omega
  refine rvS (v:=.bool true) (w' :=W) (by simp[go_sem,hge']) ?_
  rw[ifB_bool,if_pos rfl]
  refine rvS (v:=.int .u8 (IntKind.u8.wrap (m:Int))) (w' :=W) (by simp[go_sem]) ?_
  refine rvS (v:=.int .u8 (bits .or .u8 (IntKind.u8.wrap (m:Int)) 128)) (w' :=W) (by simp[go_sem]) ?_
  rw[lowByte]
  refine litV [UInt8.ofNat (m%128+128)] uBs (elemT_of u8E) rfl rfl (by omega) λv W2 o2 m2 n2=>?_
  refine rx_append (m:=1) uBs uBs (elemT_of u8E) (hO.mod m2 λ_ _ h=>h) o2.rd (bv_one _) (by omega) λs3 W3 o3 m3 n3=>?_
  refine rvS (v:=.int .u64 ((m / 128:Nat):Int)) (w' :=W3) (by simp[go_sem]) ?_
  have hx:natB m=UInt8.ofNat (m%128+128)::natB (m / 128):=natB_ge (by omega)
  refine hKN _ _ ⟨m / 128,pre++[UInt8.ofNat (m%128+128)],s3,by rw[hpre,hx];simp,by omega,rfl,?_,?_,?_⟩ ?_
  ·rw[←bv_append,List.append_assoc]at o3
   have e:k+(pre++[UInt8.ofNat (m%128+128)]).length=k+pre.length+1:=by simp;omega
   rw[e];exact o3
  ·exact(mW.on m2 λ_ h=>h.elim).on m3 hb'
  ·intro b hb
   rcases n3 b hb with h1|h1
   ·exact hb' b h1
   ·have:=(mW.on m2 (G:=λ_=>False) λ_ h=>h.elim).size
    omega
  ·show(((m / 128:Nat):Int)).toNat<((m:Int)).toNat
   omega
 ·have hge' :¬(128:Int)≤(m:Int):=by omega
  refine rvS (v:=.bool false) (w' :=W) (by simp[go_sem,hge']) ?_
  rw[ifB_bool,if_neg Bool.false_ne_true]
  have e1:IntKind.u8.wrap (m:Int)=((UInt8.ofNat m).toNat:Int):=by
   rw[u8_of (by omega),IntKind.wrap_u8];omega
  refine rvS (v:=.int .u8 (IntKind.u8.wrap (m:Int))) (w' :=W) (by simp[go_sem]) ?_
  rw[e1]
  refine litV [UInt8.ofNat m] uBs (elemT_of u8E) rfl rfl (by omega) λv W2 o2 m2 n2=>?_
  refine rx_append (m:=1) uBs uBs (elemT_of u8E) (hO.mod m2 λ_ _ h=>h) o2.rd (bv_one _) (by omega) λs3 W3 o3 m3 n3=>?_
  have hx:natB m=[UInt8.ofNat m]:=natB_lt (by omega)
  refine hK _ _ ?_ ((mW.on m2 λ_ h=>h.elim).on m3 hb') ?_
  ·rw[hpre,hx]
   rw[←bv_append,List.append_assoc]at o3
   have e:k+(pre++[UInt8.ofNat m]).length=k+pre.length+1:=by simp;omega
   rw[e];exact o3
  ·intro b hb
   rcases n3 b hb with h1|h1
   ·exact hb' b h1
   ·have:=(mW.on m2 (G:=λ_=>False) λ_ h=>h.elim).size
    omega
def rptr(r:Nat):Value:=.pointer (some ⟨r,0,none⟩)
structure RdrAt(w:World)(r:Nat)(v:Value)(l:List UInt8)(s:Rs):Prop where
 blk:hp w r=some (.cells #[v,.int .i64 s.at_,.int .i64 s.e] 248 (0,0))
 rd:Rd w 1 v l.length (bv l)
 le:s.at_≤l.length
 ne:¬inRd v r
 len:l.length≤1000000000
theorem RdrAt.mod{F:Nat→Prop}{w w' :World}{r:Nat}{v:Value}{l:List UInt8}{s:Rs}(h:RdrAt w r v l s)(hm:Mod F w w')(h1:¬F r)(h2:∀b,inRd v b→¬F b):RdrAt w' r v l s:=
 ⟨hm.keep h.blk h1,h.rd.mod hm h2,h.le,h.ne,h.len⟩
theorem RdrAt.lt{w:World}{r:Nat}{v:Value}{l:List UInt8}{s:Rs}(h:RdrAt w r v l s):r<w.heap.size:=lt_of_heap h.blk
theorem ca_newReader{w:World}{K:Kont}{v:Value}{l:List UInt8}(h:Rd w 1 v l.length (bv l))(hl:l.length≤1000000000)
  (hK:∀w',RdrAt w' w.heap.size v l ⟨0,0⟩→Mod (λ_=>False) w w' →K (rptr w.heap.size) w'):Ca Tryz.prog 59 #[v] w K:=by
 obtain⟨a,c,rfl⟩:=h.isSl
 apply ca59
 unfold F59
 simp[go_sem]
 refine hK _ ⟨?_,h.mod ((Mod.refl _ w).alloc _) (λ_ _ h=>h),Nat.zero_le _,λhb=>Nat.lt_irrefl _ (h.lt hb),hl⟩ ((Mod.refl _ w).alloc _)
 simp[go_sem]
theorem ca_off{w:World}{K:Kont}{r:Nat}{v:Value}{l:List UInt8}{s:Rs}(h:RdrAt w r v l s)(hK:K (.bool (decide (s.e≠0))) w):Ca Tryz.prog 148 #[rptr r] w K:=by
 apply ca148
 unfold F148
 have hb:=h.blk
 simp[go_sem,rptr,hb]
 have e:((s.e:Int) != 0)=decide (s.e≠0):=by
  by_cases h0:s.e=0<;>simp[h0]
 first
  |exact hK
  |(rw[e];exact hK)
  |(simpa using hK)
def natV(l:List UInt8)(at_:Nat):Value:=
 match rdN (l.drop at_) 0 0 with
 | .error e=>.tuple #[.int .u64 0,.int .i64 0,.int .i64 e]
 | .ok (n,k)=>.tuple #[.int .u64 n,.int .i64 (at_+k:Nat),.int .i64 0]
theorem pow7(k:Nat):(2:Int) ^ (7*k)=((128 ^ k:Nat):Int):=by
 rw[Int.pow_mul];simp
set_option maxRecDepth 10000 in
theorem ca_nat{w:World}{K:Kont}{r:Nat}{v:Value}{l:List UInt8}{s:Rs}(h:RdrAt w r v l s)(hK:∀w',Mod (λ_=>False) w w' →K (natV l s.at_) w'):Ca Tryz.prog 150 #[rptr r] w K:=by
 have hb:=h.blk
 have hle:=h.le
 have hlen:=h.len
 obtain⟨v',hrun,hd,hin⟩:=h.rd.from_ (P:=Tryz.prog) uBs u8C h.le .i64
 simp only[Nat.zero_add,Nat.mul_one]at hd
 rw[bv_drop]at hd
 apply ca150
 unfold F150
 simp only[rptr,nilK_ptr]
 refine rdPS (v:=.pointer (some ⟨r,0,none⟩)) (λW=>by simp[go_sem]) ?_
 refine rdWS (v:=v) (by simp[go_sem,hb]) ?_
 refine rdPS (v:=.pointer (some ⟨r,1,none⟩)) (λW=>by simp[go_sem]) ?_
 refine rdWS (v:=.int .i64 s.at_) (by simp[go_sem,hb]) ?_
 refine rdPS (v:=v') hrun ?_
 obtain⟨a',c',hv'⟩:=hd.isSl
 refine rdWS (v:=.int .i64 ((l.length - s.at_:Nat):Int)) (by rw[hv'];simp[go_sem]) ?_
 have hd1:=hd.mod (Mod.refl (λ_=>False) w).drew λ_ _ h=>h
 generalize hw1:w.drew=w1 at hd1⊢
 have hm1:Mod (λ_=>False) w w1:=by subst hw1;exact(Mod.refl _ w).drew
 have hb1:hp w1 r=some (.cells #[v,.int .i64 s.at_,.int .i64 s.e] 248 (0,0)):=hm1.keep hb id
 obtain⟨L,hL⟩:∃L,L=l.drop s.at_:=⟨_,rfl⟩
 rw[←hL]at hd1
 have hLl:L.length=l.length - s.at_:=by rw[hL];simp
 refine loopV (λst W=>∃(i acc:Nat),i≤L.length∧i≤9∧acc<128 ^ i∧rdN L 0 0=rdN (L.drop i) i acc∧(∃x1 x2:Value,st=(.int .u64 (acc:Int),x1,x2,.int .i64 (i:Int),()))∧W=w1)
  (λst _=>match st.2.2.2.1 with| .int _ i=>10 - i.toNat|_=>0) ⟨0,0,by omega,by omega,by decide,rfl,⟨_,_,rfl⟩,rfl⟩ ?_
 rintro⟨_,_⟩ W ⟨i,acc,hi,hi9,hacc,hrd,⟨x1,x2,⟨⟩⟩,rfl⟩ KN hKN
 unfold L150_2
 intro _
 by_cases hlt:i<L.length
 ·obtain⟨b,off,cap,C,e,fz,hv2,hcap,hC,hCi⟩:=hd1.byte (i:=i) (by omega) hlt
  have hx:=(L[i]).toNat_lt
  have hdr:L.drop i=L[i]::L.drop (i+1):=List.drop_eq_getElem_cons hlt
  have hlt1:(i:Int)<((l.length - s.at_:Nat):Int):=by omega
  refine rvS (v:=.bool true) (w' :=W) (by simp[go_sem,hlt1]) ?_
  rw[ifB_bool,if_pos rfl,hv2]
  have hlt2:i<l.length - s.at_:=by omega
  refine rvS (v:=.pointer (some ⟨b,off+i,none⟩)) (w' :=W) (by simp[go_sem,hlt2,addr_add]) ?_
  refine rvS (v:=.int .u8 ((L[i]).toNat:Int)) (w' :=W) (by simp[go_sem,hC,hCi]) ?_
  obtain⟨x,hxe⟩:∃x,x=(L[i]).toNat:=⟨_,rfl⟩
  rw[←hxe]
  rw[←hxe]at hx
  have hrd' :rdN L 0 0=if i=9∧1<x∨9<i then .error 5
    else if x<128 then(if x=0∧0<i then .error 5 else .ok (acc+x%128*128 ^ i,i+1))
    else rdN (L.drop (i+1)) (i+1) (acc+x%128*128 ^ i):=by
   rw[hrd,hdr];simp only[rdN];rw[←hxe]
  refine JoinW.at (λst W' =>st=(.bool (decide (i=9∧1<x∨9<i)),())∧W' =W) ?_ ?_
  ·by_cases h9:i=9
   ·subst h9
    refine rvS (v:=.bool true) (w' :=W) (by simp[go_sem]) ?_
    rw[ifB_bool,if_pos rfl]
    by_cases h1:1<x
    ·have h1' :(1:Int)<(x:Int):=by omega
     refine rvS (v:=.bool true) (w' :=W) (by simp[go_sem,h1']) ?_
     rw[ifB_bool,if_pos rfl]
     exact⟨by simp[h1],rfl⟩
    ·have h1' :¬(1:Int)<(x:Int):=by omega
     refine rvS (v:=.bool false) (w' :=W) (by simp[go_sem,h1']) ?_
     rw[ifB_bool,if_neg Bool.false_ne_true]
     refine rvS (v:=.bool false) (w' :=W) (by simp[go_sem]) ?_
     exact⟨by simp[h1],rfl⟩
   ·have h9' :¬(i:Int)=9:=by omega
    have h9'' :¬(9:Int)<(i:Int):=by omega
    refine rvS (v:=.bool false) (w' :=W) (by simp[go_sem,h9']) ?_
    rw[ifB_bool,if_neg Bool.false_ne_true]
    refine rvS (v:=.bool false) (w' :=W) (by simp[go_sem,h9'']) ?_
    exact⟨by simp[h9];omega,rfl⟩
  rintro _ W ⟨rfl,rfl⟩
  unfold J150_1
  intro _
  by_cases hbad:i=9∧1<x∨9<i
  ·rw[if_pos hbad]at hrd'
   simp only[hbad,decide_true,ifB_bool,if_true]
   have:=hK _ hm1
   unfold natV at this
   rw[←hL,hrd']at this
   exact this
  rw[if_neg hbad]at hrd'
  simp only[hbad,decide_false,ifB_bool,Bool.false_eq_true,if_false]
  have ea:bits .and .u8 (x:Int) 127=((x%128:Nat):Int):=by
   rw[show(127:Int)=((127:Nat):Int)from rfl,u8_and_nat _ _ (by omega) (by omega)]
   congr 1
   exact Nat.and_two_pow_sub_one_eq_mod x 7
  have hs:x%128*128 ^ i<18446744073709551616:=by
   by_cases h9:i=9
   ·subst h9
    have:x≤1:=by omega
    have e9:(128:Nat) ^ 9=9223372036854775808:=by decide
    rw[e9];omega
   ·have h8:128 ^ i≤128 ^ 8:=Nat.pow_le_pow_right (by decide) (by omega)
    have h7:=Nat.mul_le_mul (show x%128≤127 by omega) h8
    have e8:(127:Nat)*128 ^ 8<18446744073709551616:=by decide
    omega
  have hacc' :acc<18446744073709551616:=by
   have h8:128 ^ i≤128 ^ 9:=Nat.pow_le_pow_right (by decide) hi9
   have e9:(128:Nat) ^ 9=9223372036854775808:=by decide
   omega
  have eo:acc|||(x%128*128 ^ i)=acc+x%128*128 ^ i:=by
   have e1:(128:Nat) ^ i=2 ^ (7*i):=by rw[Nat.pow_mul]
   have:=Nat.two_pow_add_eq_or_of_lt (i:=7*i) (b:=acc) (by rw[←e1];exact hacc) (x%128)
   rw[←e1,Nat.mul_comm (128 ^ i)]at this
   rw[Nat.or_comm,←this,Nat.add_comm]
  have hsum:acc+x%128*128 ^ i<18446744073709551616:=by
   rw[←eo];exact Nat.or_lt_two_pow (n:=64) hacc' hs
  refine rvS (v:=.int .u8 ((x%128:Nat):Int)) (w' :=W) (by simp only[go_sem];simp[-Int.natCast_emod,go_sem,ea]) ?_
  refine rvS (v:=.int .u64 ((x%128:Nat):Int)) (w' :=W) (by simp[-Int.natCast_emod,go_sem,wrapU (n:=((x%128:Nat):Int)) (by omega) (by omega)]) ?_
  refine rvS (v:=.int .i64 ((7*i:Nat):Int)) (w' :=W) (by simp[go_sem];rw[wrapI (by omega) (by omega)]) ?_
  refine rvS (v:=.int .u64 ((x%128*128 ^ i:Nat):Int)) (w' :=W) ?_ ?_
  ·have e7:((7*i:Nat):Int).toNat=7*i:=by omega
   have e8:¬((7*i:Nat):Int)<0:=by omega
   simp[-Int.natCast_mul,-Int.natCast_emod,go_sem,e7,e8]
   rw[pow7,←Int.natCast_mul,wrapU (by omega) (by omega)]
  refine rvS (v:=.int .u64 ((acc+x%128*128 ^ i:Nat):Int)) (w' :=W) ?_ ?_
  ·simp only[go_sem]
   simp[-Int.natCast_add,-Int.natCast_mul,-Int.natCast_emod,go_sem]
   rw[u64_or_nat _ _ hacc' hs,eo]
  by_cases h128:x<128
  ·have h128' :(x:Int)<128:=by omega
   rw[if_pos h128]at hrd'
   refine rvS (v:=.bool true) (w' :=W) (by simp[go_sem,h128']) ?_
   rw[ifB_bool,if_pos rfl]
   refine JoinW.at (λst W' =>st=(.bool (decide (x=0∧0<i)),())∧W' =W) ?_ ?_
   ·by_cases h0:x=0
    ·refine rvS (v:=.bool true) (w' :=W) (by simp[go_sem,h0]) ?_
     rw[ifB_bool,if_pos rfl]
     refine rvS (v:=.bool (decide ((0:Int)<(i:Int)))) (w' :=W) (by simp[go_sem]) ?_
     refine⟨?_,rfl⟩
     have e:decide ((0:Int)<(i:Int))=decide (x=0∧0<i):=by rw[decide_eq_decide];omega
     rw[e]
    ·have h0' :¬(x:Int)=0:=by omega
     refine rvS (v:=.bool false) (w' :=W) (by simp[go_sem,h0]) ?_
     rw[ifB_bool,if_neg Bool.false_ne_true]
     exact⟨by simp[h0],rfl⟩
   rintro _ W ⟨rfl,rfl⟩
   unfold J150_0
   intro _
   by_cases hz:x=0∧0<i
   ·rw[if_pos hz]at hrd'
    simp only[hz,and_self,decide_true,ifB_bool,if_true]
    have:=hK _ hm1
    unfold natV at this
    rw[←hL,hrd']at this
    exact this
   rw[if_neg hz]at hrd'
   simp only[hz,decide_false,ifB_bool,Bool.false_eq_true,if_false]
   have hat:s.at_+i+1<9223372036854775808:=by omega
   simp only[rptr,nilK_ptr]
   refine rdPS (v:=.pointer (some ⟨r,1,none⟩)) (λW=>by simp[go_sem]) ?_
   have hld:∀W2,W2.heap=W.heap→(Instr.loadAt 3 (.pointer (some ⟨r,1,none⟩))).run Tryz.prog W2=.ok (.int .i64 s.at_) W2:=λW2 e=>by
    have hb2:hp W2 r=some (.cells #[v,.int .i64 s.at_,.int .i64 s.e] 248 (0,0)):=by unfold hp;rw[e];exact hb1
    simp[go_sem,hb2]
   refine rdWS (v:=.int .i64 s.at_) (hld _ rfl) ?_
   refine rdPS (v:=.int .i64 ((s.at_+i:Nat):Int)) (λW=>by simp[go_sem];rw[wrapI (by omega) (by omega)]) ?_
   refine rdPS (v:=.int .i64 ((s.at_+(i+1):Nat):Int)) (λW=>by simp[go_sem];rw[wrapI (by omega) (by omega)];omega) ?_
   refine⟨hld _ rfl,?_⟩
   have:=hK _ hm1.drew
   unfold natV at this
   rw[←hL,hrd']at this
   exact this
  ·have h128' :¬(x:Int)<128:=by omega
   rw[if_neg h128]at hrd'
   refine rvS (v:=.bool false) (w' :=W) (by simp[go_sem,h128']) ?_
   rw[ifB_bool,if_neg Bool.false_ne_true]
   refine rvS (v:=.int .i64 ((i+1:Nat):Int)) (w' :=W) (by simp[go_sem];rw[wrapI (by omega) (by omega)]) ?_
   have hi9' :i≠9:=λe=>hbad (.inl ⟨e,by omega⟩)
   refine hKN _ _ ⟨i+1,_,by omega,by omega,?_,hrd',⟨_,_,rfl⟩,rfl⟩ ?_
   ·rw[Nat.pow_succ]
    have:x%128*128 ^ i≤127*128 ^ i:=Nat.mul_le_mul_right _ (by omega)
    omega
   ·show 10 - (((i+1:Nat):Int)).toNat<10 - ((i:Int)).toNat
    omega
 ·have hlt1:¬(i:Int)<((l.length - s.at_:Nat):Int):=by omega
  refine rvS (v:=.bool false) (w' :=W) (by simp[go_sem,hlt1]) ?_
  rw[ifB_bool,if_neg Bool.false_ne_true]
  have hrd' :rdN L 0 0=.error 4:=by
   rw[hrd,List.drop_eq_nil_of_le (by omega)];rfl
  have:=hK _ hm1
  unfold natV at this
  rw[←hL,hrd']at this
  exact this
end Go.Proofs
namespace Go.Proofs
open Go Go.Vc
attribute [local congr] Ca_congV
theorem rdN_err{l:List UInt8}:∀{k acc e:Nat},rdN l k acc=.error e→e=4∨e=5:=by
 induction l with
 |nil=>intro k acc e h;cases h;exact .inl rfl
 |cons x r ih=>
  intro k acc e h
  simp only[rdN]at h
  split at h
  ·cases h;exact .inr rfl
  ·split at h
   ·split at h
    ·cases h;exact .inr rfl
    ·cases h
   ·exact ih h
theorem RdrAt.fault{w:World}{r:Nat}{v:Value}{l:List UInt8}{s:Rs}(h:RdrAt w r v l s)(e:Nat):
  RdrAt (w.setCell ⟨r,2,none⟩ (.int .i64 e)) r v l {s with e:=e}∧Mod (λb=>b=r) w (w.setCell ⟨r,2,none⟩ (.int .i64 e)):=by
 have hm:Mod (λb=>b=r) w (w.setCell ⟨r,2,none⟩ (.int .i64 e)):=(Mod.refl (λb=>b=r) w).setCell (.inl rfl) _ _
 exact⟨⟨by simp[go_sem,h.blk],h.rd.mod hm λb hb e=>h.ne (by rw[←e];exact hb),h.le,h.ne,h.len⟩,hm⟩
theorem RdrAt.go{w:World}{r:Nat}{v:Value}{l:List UInt8}{s:Rs}(h:RdrAt w r v l s)(a:Nat)(ha:a≤l.length):
  RdrAt (w.setCell ⟨r,1,none⟩ (.int .i64 a)) r v l {s with at_:=a}∧Mod (λb=>b=r) w (w.setCell ⟨r,1,none⟩ (.int .i64 a)):=by
 have hm:Mod (λb=>b=r) w (w.setCell ⟨r,1,none⟩ (.int .i64 a)):=(Mod.refl (λb=>b=r) w).setCell (.inl rfl) _ _
 exact⟨⟨by simp[go_sem,h.blk],h.rd.mod hm λb hb e=>h.ne (by rw[←e];exact hb),ha,h.ne,h.len⟩,hm⟩
theorem ca_small{w:World}{K:Kont}{r most:Nat}{v:Value}{l:List UInt8}{s:Rs}(h:RdrAt w r v l s)(hmost:most<18446744073709551616)
  (hK:∀w',RdrAt w' r v l (rsSmall l most s).2→Mod (λb=>b=r) w w' →K (.int .u64 (rsSmall l most s).1) w'):Ca Tryz.prog 69 #[rptr r,.int .u64 most] w K:=by
 apply ca69
 unfold F69
 refine ca_off h ?_
 by_cases he:s.e≠0
 ·rw[ifB_bool,if_pos (by simpa using he)]
  have hr:rsSmall l most s=(0,s):=by unfold rsSmall;rw[if_pos he]
  rw[hr]at hK
  exact hK _ h (Mod.refl _ _)
 rw[ifB_bool,if_neg (by simpa using he)]
 have he0:s.e=0:=by omega
 have hr:rsSmall l most s=match rdN (l.drop s.at_) 0 0 with
  | .error e=>(0,{s with e:=e})
  | .ok (n,k)=>if most<n then(0,{s with e:=5})else(n,{s with at_:=s.at_+k}):=by unfold rsSmall;rw[if_neg he];cases rdN (l.drop s.at_) 0 0<;>rfl
 refine ca_nat h λw1 m1=>?_
 have h1:=h.mod m1 id λ_ _ h=>h
 have tail:∀(e n k:Nat) (w1:World),RdrAt w1 r v l s→Mod (λ_=>False) w w1→s.at_+k≤l.length→
   (if e≠0 then rsSmall l most s=(0,{s with e:=e})else rsSmall l most s=(n,{s with at_:=s.at_+k}))→
   J69_1 (rptr r) K (.int .i64 (s.at_+k:Nat)) (.int .u64 n) (.int .i64 e,()) w1:=by
  intro e n k w1 h1 m1 hk hc
  unfold J69_1
  intro _
  have mm:∀w2,Mod (λb=>b=r) w1 w2→Mod (λb=>b=r) w w2:=λw2 m2=>(m1.mono λ_ _ h=>h.elim).trans m2
  by_cases h0:e≠0
  ·rw[if_pos h0]at hc
   rw[hc]at hK
   have h0' :¬(e:Int)=0:=by omega
   refine rvS (v:=.bool true) (w' :=w1) (by simp[go_sem,h0'];omega) ?_
   rw[ifB_bool,if_pos rfl]
   obtain⟨hA,hM⟩:=h1.fault e
   simp only[rptr,nilK_ptr]
   refine rvS (v:=.pointer (some ⟨r,2,none⟩)) (w' :=w1) (by simp[go_sem]) ?_
   refine ruS (w' :=w1.setCell ⟨r,2,none⟩ (.int .i64 e)) (by simp[go_sem,h1.blk]) ?_
   exact hK _ hA (mm _ hM)
  ·rw[if_neg h0]at hc
   rw[hc]at hK
   have h0' :(e:Int)=0:=by omega
   refine rvS (v:=.bool false) (w' :=w1) (by simp[go_sem,h0']) ?_
   rw[ifB_bool,if_neg Bool.false_ne_true]
   obtain⟨hA,hM⟩:=h1.go (s.at_+k) hk
   simp only[rptr,nilK_ptr]
   refine rvS (v:=.pointer (some ⟨r,1,none⟩)) (w' :=w1) (by simp[go_sem]) ?_
   refine ruS (w' :=w1.setCell ⟨r,1,none⟩ (.int .i64 (s.at_+k:Nat))) (by simp[-Int.natCast_add,go_sem,h1.blk]) ?_
   exact hK _ hA (mm _ hM)
 cases hrd:rdN (l.drop s.at_) 0 0 with
 |error e=>
  have he5:=rdN_err hrd
  unfold natV
  rw[hrd]at hr⊢
  simp only at hr⊢
  refine rvS (v:=.int .u64 0) (w' :=w1) (by simp[go_sem]) ?_
  refine rvS (v:=.int .i64 0) (w' :=w1) (by simp[go_sem]) ?_
  refine rvS (v:=.int .i64 e) (w' :=w1) (by simp[go_sem]) ?_
  refine JoinW.at (λst W=>st=(.int .i64 e,())∧W=w1) ?_ ?_
  ·refine JoinW.at (λst W=>st=(.bool false,())∧W=w1) ?_ ?_
   ·have h0' :¬(e:Int)=0:=by omega
    refine rvS (v:=.bool false) (w' :=w1) (by simp[go_sem];omega) ?_
    rw[ifB_bool,if_neg Bool.false_ne_true]
    exact⟨rfl,rfl⟩
   ·rintro _ w1 ⟨rfl,rfl⟩
    unfold J69_0
    intro _
    rw[ifB_bool,if_neg Bool.false_ne_true]
    exact⟨rfl,rfl⟩
  ·rintro _ w1 ⟨rfl,rfl⟩
   have e0:e≠0:=by omega
   unfold J69_1
   intro _
   rw[hr]at hK
   refine rvS (v:=.bool true) (w' :=w1) (by simp[go_sem];omega) ?_
   rw[ifB_bool,if_pos rfl]
   obtain⟨hA,hM⟩:=h1.fault e
   simp only[rptr,nilK_ptr]
   refine rvS (v:=.pointer (some ⟨r,2,none⟩)) (w' :=w1) (by simp[go_sem]) ?_
   refine ruS (w' :=w1.setCell ⟨r,2,none⟩ (.int .i64 e)) (by simp[go_sem,h1.blk]) ?_
   exact hK _ hA ((m1.mono λ_ _ h=>h.elim).trans hM)
 |ok p=>
  obtain⟨n,k⟩:=p
  have hf:=rdN_form hrd
  have hle:=h.le
  rw[List.length_drop]at hf
  unfold natV
  rw[hrd]at hr⊢
  simp only at hr⊢
  refine rvS (v:=.int .u64 n) (w' :=w1) (by simp[go_sem]) ?_
  refine rvS (v:=.int .i64 (s.at_+k:Nat)) (w' :=w1) (by simp[go_sem]) ?_
  refine rvS (v:=.int .i64 0) (w' :=w1) (by simp[go_sem]) ?_
  refine JoinW.at (λst W=>st=(.int .i64 (if most<n then 5 else 0:Nat),())∧W=w1) ?_ ?_
  ·refine JoinW.at (λst W=>st=(.bool (decide (most<n)),())∧W=w1) ?_ ?_
   ·refine rvS (v:=.bool true) (w' :=w1) (by simp[go_sem]) ?_
    rw[ifB_bool,if_pos rfl]
    refine rvS (v:=.bool (decide (most<n))) (w' :=w1) (by simp[go_sem]) ?_
    exact⟨rfl,rfl⟩
   ·rintro _ w1 ⟨rfl,rfl⟩
    unfold J69_0
    intro _
    by_cases hmn:most<n
    ·rw[ifB_bool,if_pos (by simpa using hmn),if_pos hmn]
     simp
    ·rw[ifB_bool,if_neg (by simpa using hmn),if_neg hmn]
     simp
  ·rintro _ w1 ⟨rfl,rfl⟩
   refine tail (if most<n then 5 else 0) n k _ h1 m1 (by omega) ?_
   by_cases hmn:most<n
   ·rw[if_pos hmn]at hr⊢
    rw[if_pos (by decide)]
    exact hr
   ·rw[if_neg hmn]at hr⊢
    rw[if_neg (by simp)]
    exact hr
theorem ca_rnat{w:World}{K:Kont}{r:Nat}{v:Value}{l:List UInt8}{s:Rs}(h:RdrAt w r v l s)
  (hK:∀w',RdrAt w' r v l (rsSmall l 18446744073709551615 s).2→Mod (λb=>b=r) w w' →K (.int .u64 (rsSmall l 18446744073709551615 s).1) w'):Ca Tryz.prog 61 #[rptr r] w K:=by
 apply ca61
 unfold F61
 exact ca_small h (by decide) hK
theorem ca_done{w:World}{K:Kont}{r:Nat}{v:Value}{l:List UInt8}{s:Rs}(h:RdrAt w r v l s)
  (hK:∀w',Mod (λ_=>False) w w' →K (.int .i64 (rsDone l s)) w'):Ca Tryz.prog 74 #[rptr r] w K:=by
 have hb:=h.blk
 obtain⟨a,c,rfl⟩:=h.rd.isSl
 apply ca74
 unfold F74
 refine rvS (v:=.bool false) (w' :=w) (by simp[go_sem,rptr]) ?_
 rw[ifB_bool,if_neg Bool.false_ne_true]
 refine JoinW.at (λst W=>st=(.bool (decide (s.e=0∧s.at_<l.length)),())∧W=w.drew) ?_ ?_
 ·simp only[rptr,nilK_ptr]
  refine rdPS (v:=.pointer (some ⟨r,2,none⟩)) (λW=>by simp[go_sem]) ?_
  refine rdWS (v:=.int .i64 s.e) (by simp[go_sem,hb]) ?_
  by_cases h0:s.e=0
  ·refine rdPS (v:=.bool true) (λW=>by simp[go_sem,h0]) ?_
   rw[ifB_bool,if_pos rfl]
   refine rdPS (v:=.pointer (some ⟨r,1,none⟩)) (λW=>by simp[go_sem]) ?_
   refine rdWS (v:=.int .i64 s.at_) (by simp[go_sem,hb]) ?_
   refine rdPS (v:=.pointer (some ⟨r,0,none⟩)) (λW=>by simp[go_sem]) ?_
   refine rdWS (v:=.slice a l.length c) (by simp[go_sem,hb]) ?_
   refine rdWS (v:=.int .i64 l.length) (by simp[go_sem]) ?_
   refine rdPS (v:=.bool (decide (s.at_<l.length))) (λW=>by simp[go_sem]) ?_
   simp[h0]
  ·refine rdPS (v:=.bool false) (λW=>by simp[go_sem];omega) ?_
   rw[ifB_bool,if_neg Bool.false_ne_true]
   simp[h0]
 rintro _ _ ⟨rfl,rfl⟩
 unfold J74_0
 intro _
 have hm:Mod (λ_=>False) w w.drew:=(Mod.refl _ w).drew
 by_cases hc:s.e=0∧s.at_<l.length
 ·rw[ifB_bool,if_pos (by simpa using hc)]
  have:=hK _ hm
  unfold rsDone at this
  rw[if_pos hc]at this
  exact this
 ·rw[ifB_bool,if_neg (by simpa using hc)]
  have:=hK _ hm
  unfold rsDone at this
  rw[if_neg hc]at this
  simp only[rptr,nilK_ptr]
  refine rvS (v:=.pointer (some ⟨r,2,none⟩)) (w' :=w.drew) (by simp[go_sem]) ?_
  refine rvS (v:=.int .i64 s.e) (w' :=w.drew) (by simp[go_sem,hb]) ?_
  exact this
end Go.Proofs
namespace Go.Proofs
open Go Go.Vc
section
variable{κ ν:Type} [DecidableEq κ]
theorem mem_lk{L:List (κ×ν)}(hn:(L.map (·.1)).Nodup){k:κ}{v:ν}(h:(k,v)∈L):lk L k=some v:=by
 induction L with
 |nil=>cases h
 |cons p L ih=>
  obtain⟨a,b⟩:=p
  simp only[List.map_cons,List.nodup_cons]at hn
  rcases List.mem_cons.1 h with h|h
  ·cases h;simp[lk]
  ·have:a≠k:=λe=>hn.1 (e▸List.mem_map_of_mem (f:=(·.1)) h)
   simp only[lk,if_neg this]
   exact ih hn.2 h
theorem lk_iff{L:List (κ×ν)}(hn:(L.map (·.1)).Nodup){k:κ}{v:ν}:lk L k=some v↔(k,v)∈L:=⟨lk_mem,mem_lk hn⟩
theorem lk_perm{A L:List (κ×ν)}(hn:(A.map (·.1)).Nodup)(h:A.Perm L)(k:κ):lk A k=lk L k:=by
 have hn' :(L.map (·.1)).Nodup:=(h.map _).nodup_iff.1 hn
 cases hA:lk A k with
 |some v=>exact(mem_lk hn' (h.mem_iff.1 (lk_mem hA))).symm
 |none=>
  cases hL:lk L k with
  |none=>rfl
  |some v=>rw[mem_lk hn (h.mem_iff.2 (lk_mem hL))]at hA;cases hA
theorem put_perm' {L:List (κ×ν)}(hn:(L.map (·.1)).Nodup)(k:κ)(v:ν):(put L k v).Perm ((k,v)::L.filter (λp=>p.1≠k)):=by
 induction L with
 |nil=>exact List.Perm.refl _
 |cons p L ih=>
  obtain⟨a,b⟩:=p
  simp only[List.map_cons,List.nodup_cons]at hn
  simp only[put]
  by_cases h:a=k
  ·subst h
   rw[if_pos rfl,List.filter_cons_of_neg (by simp)]
   refine List.Perm.cons _ ?_
   rw[List.filter_eq_self.2 λx hx=>?_]
   have:x.1≠a:=λe=>hn.1 (e▸List.mem_map_of_mem hx)
   simpa using this
  ·rw[if_neg h,List.filter_cons_of_pos (by simpa using h)]
   exact((ih hn.2).cons _).trans (List.Perm.swap ..)
theorem put_perm{A L:List (κ×ν)}(hn:(A.map (·.1)).Nodup)(h:A.Perm L)(k:κ)(v:ν):(put A k v).Perm ((k,v)::L.filter (λp=>p.1≠k)):=
 (put_perm' hn k v).trans ((h.filter _).cons _)
end
theorem perm_sum{l l' :List Int}(h:l.Perm l'):l.sum=l'.sum:=by
 induction h with
 |nil=>rfl
 |cons x _ ih=>simp[ih]
 |swap x y l=>simp;omega
 |trans _ _ h1 h2=>exact h1.trans h2
structure Ac where
 num:Int
 cash:Int
 kil:Bool
 dfl:Bool
 deriving DecidableEq
structure Po where
 c:Int
 a:Int
 q:Int
 b:Int
 deriving DecidableEq
structure Led where
 fund:Int
 all:List Ac
 held:List Po
instance:Inhabited Ac:=⟨⟨0,0,false,false⟩⟩
instance:Inhabited Po:=⟨⟨0,0,0,0⟩⟩
def Po.key(p:Po):Int×Int:=(p.c,p.a)
def Po.isZ(p:Po):Bool:=decide (p.q=0∧p.b=0)
def klt(x y:Int×Int):Bool:=decide (x.1<y.1∨(x.1=y.1∧x.2<y.2))
theorem klt_iff{x y:Int×Int}:klt x y=true↔(x.1<y.1∨(x.1=y.1∧x.2<y.2)):=by simp[klt]
theorem klt_tri(x y:Int×Int):klt x y=true∨x=y∨klt y x=true:=by
 rw[klt_iff,klt_iff,Prod.ext_iff];omega
theorem klt_trans{x y z:Int×Int}(h:klt x y=true)(h' :klt y z=true):klt x z=true:=by
 rw[klt_iff]at*;omega
theorem klt_irr{x:Int×Int}:klt x x=false:=by
 rw[Bool.eq_false_iff,Ne,klt_iff];omega
theorem klt_ne{x y:Int×Int}(h:klt x y=true):x≠y:=by
 intro e;subst e;rw[klt_irr]at h;cases h
theorem klt_asymm{x y:Int×Int}(h:klt x y=true):klt y x=false:=by
 rw[klt_iff]at h;rw[Bool.eq_false_iff,Ne,klt_iff];omega
def insA(l:List Ac)(a:Ac):List Ac:=l.filter (λx=>decide (x.num<a.num))++a::l.filter (λx=>decide (a.num<x.num))
def SortA(l:List Ac):Prop:=l.Pairwise λx y=>x.num<y.num
def SortP(l:List Po):Prop:=l.Pairwise λx y=>klt x.key y.key=true
theorem mem_insA{l:List Ac}{a x:Ac}:x∈insA l a↔(x∈l∧x.num≠a.num)∨x=a:=by
 simp only[insA,List.mem_append,List.mem_cons,List.mem_filter,decide_eq_true_eq]
 constructor
 ·rintro(⟨h,h'⟩|h|⟨h,h'⟩)
  ·exact .inl ⟨h,by omega⟩
  ·exact .inr h
  ·exact .inl ⟨h,by omega⟩
 ·rintro(⟨h,h'⟩|h)
  ·rcases Int.lt_or_gt_of_ne h' with h2|h2
   ·exact .inl ⟨h,h2⟩
   ·exact .inr (.inr ⟨h,h2⟩)
  ·exact .inr (.inl h)
theorem insA_sort{l:List Ac}(h:SortA l)(a:Ac):SortA (insA l a):=by
 unfold SortA insA
 rw[List.pairwise_append,List.pairwise_cons]
 refine⟨h.filter _,⟨λx hx=>by simpa using(List.mem_filter.1 hx).2,h.filter _⟩,λx hx y hy=>?_⟩
 have h1:x.num<a.num:=by simpa using(List.mem_filter.1 hx).2
 rcases List.mem_cons.1 hy with rfl|hy
 ·exact h1
 ·have h2:a.num<y.num:=by simpa using(List.mem_filter.1 hy).2
  omega
theorem SortA.nodup{l:List Ac}(h:SortA l):(l.map (·.num)).Nodup:=by
 rw[List.Nodup,List.pairwise_map]
 exact h.imp λh=>by omega
theorem SortP.nodup{l:List Po}(h:SortP l):(l.map Po.key).Nodup:=by
 rw[List.Nodup,List.pairwise_map]
 exact h.imp λh=>klt_ne h
theorem filter_split{α:Type}(l:List α)(p q:α→Bool)(h:∀x∈l,p x=true→q x=false):(l.filter p++l.filter q).Perm (l.filter λx=>p x||q x):=by
 induction l with
 |nil=>exact List.Perm.refl _
 |cons x l ih=>
  have ih:=ih λy hy=>h y (List.mem_cons_of_mem _ hy)
  cases hp:p x with
  |true=>
   have hq:=h x List.mem_cons_self hp
   rw[List.filter_cons_of_pos hp,List.filter_cons_of_neg (by simp[hq]),List.filter_cons_of_pos (by simp[hp])]
   exact ih.cons x
  |false=>
   cases hq:q x with
   |true=>
    rw[List.filter_cons_of_neg (by simp[hp]),List.filter_cons_of_pos hq,List.filter_cons_of_pos (by simp[hq])]
    exact List.perm_middle.trans (ih.cons x)
   |false=>
    rw[List.filter_cons_of_neg (by simp[hp]),List.filter_cons_of_neg (by simp[hq]),List.filter_cons_of_neg (by simp[hp,hq])]
    exact ih
theorem insA_perm(l:List Ac)(a:Ac):(insA l a).Perm (a::l.filter λx=>decide (x.num≠a.num)):=by
 refine List.perm_middle.trans (List.Perm.cons _ ((filter_split l _ _ λx _ h=>?_).trans (List.Perm.of_eq (List.filter_congr λx _=>?_))))
 ·have:x.num<a.num:=by simpa using h
  simp;omega
 ·rw[Bool.eq_iff_iff];simp;omega
def Led.find(S:Led)(n:Int):Option Ac:=S.all.find? λx=>decide (x.num=n)
def Led.pos? (S:Led)(k:Int×Int):Option Po:=S.held.find? λx=>decide (x.key=k)
def fundAc(f:Int):Ac:=⟨0,f,false,false⟩
def Led.getO(S:Led)(n:Int):Option Ac:=if n=0 then some (fundAc S.fund)else S.find n
def Led.funds(S:Led):Int:=S.fund+(S.all.map (·.cash)).sum
def Led.putA(S:Led)(a:Ac):Led:=if a.num=0 then{S with fund:=a.cash}else{S with all:=insA S.all a}
def amongB(n lo hi:Int):Bool:=decide (lo≤n∧n≤hi)
def MF:Int:=1000000000000000
def MP:Int:=10000000
def Led.deposit(S:Led)(n m:Int):Int×Led:=
 if amongB m 1 MF then
  if S.getO n=none∧64≤S.all.length then(9,S)
  else if S.funds+m>MF then(6,S)
  else(0,S.putA {(S.getO n).getD ⟨0,0,false,false⟩with num:=n,cash:=((S.getO n).getD ⟨0,0,false,false⟩).cash+m})
 else(2,S)
def Led.holders(S:Led)(c:Int):List Po:=S.held.filter λp=>decide (p.c=c)
structure Led.Ok(S:Led):Prop where
 fund:0≤S.fund∧S.fund≤MF
 sa:SortA S.all
 sp:SortP S.held
 len:S.all.length≤64
 acc:∀a∈S.all,0<a.num∧a.num<4294967296∧0≤a.cash∧a.cash≤MF
 pos:∀p∈S.held,0<p.c∧p.c<4294967296∧p.isZ=false∧ -MP≤p.q∧p.q≤MP∧ -MF≤p.b∧p.b≤MF∧∃a∈S.all,a.num=p.a
def Led.accs(S:Led):List (Int×Ac):=(0,fundAc S.fund)::S.all.map λa=>(a.num,a)
def Led.poss(S:Led):List ((Int×Int)×Po):=S.held.map λp=>(p.key,p)
theorem lk_mapA(l:List Ac)(n:Int):lk (l.map λa=>(a.num,a)) n=l.find? λx=>decide (x.num=n):=by
 induction l with
 |nil=>rfl
 |cons a l ih=>
  simp only[List.map_cons,lk,ih,List.find?_cons]
  by_cases h:a.num=n<;>simp[h]
theorem lk_mapP(l:List Po)(k:Int×Int):lk (l.map λp=>(p.key,p)) k=l.find? λx=>decide (x.key=k):=by
 induction l with
 |nil=>rfl
 |cons a l ih=>
  simp only[List.map_cons,lk,ih,List.find?_cons]
  by_cases h:a.key=k<;>simp[h]
theorem Led.lk_accs(S:Led)(n:Int):lk S.accs n=S.getO n:=by
 simp only[Led.accs,lk,lk_mapA,Led.getO,Led.find]
 by_cases h:n=0
 ·simp[h]
 ·rw[if_neg (λe=>h e.symm),if_neg h]
theorem Led.lk_poss(S:Led)(k:Int×Int):lk S.poss k=S.pos? k:=lk_mapP _ _
theorem filter_mapA(l:List Ac)(n:Int):(l.map λa=>(a.num,a)).filter (λp=>decide (p.1≠n))=(l.filter λx=>decide (x.num≠n)).map λa=>(a.num,a):=by
 rw[List.filter_map];rfl
theorem Led.Ok.put_accs{S:Led}(h:S.Ok){A:List (Int×Ac)}(hn:(A.map (·.1)).Nodup)(hp:A.Perm S.accs)(a:Ac)(h0:a.num=0→a=fundAc a.cash):(put A a.num a).Perm (S.putA a).accs:=by
 refine(put_perm hn hp _ _).trans ?_
 unfold Led.putA
 by_cases hz:a.num=0
 ·rw[if_pos hz]
  simp only[Led.accs]
  rw[List.filter_cons_of_neg (by simp[hz]),filter_mapA,hz]
  rw[List.filter_eq_self.2 λx hx=>by have:=(h.acc x hx).1;simp;omega]
  rw[←h0 hz]
 ·rw[if_neg hz]
  simp only[Led.accs]
  rw[List.filter_cons_of_pos (by simpa using λe=>hz e.symm),filter_mapA]
  refine(List.Perm.swap ..).trans (List.Perm.cons _ ?_)
  exact((insA_perm S.all a).map λa=>(a.num,a)).symm
theorem Led.find_mem{S:Led}{n:Int}{a:Ac}(h:S.find n=some a):a∈S.all∧a.num=n:=by
 unfold Led.find at h
 exact⟨List.mem_of_find?_eq_some h,by simpa using List.find?_some h⟩
theorem Led.find_some{S:Led}(h:SortA S.all){a:Ac}(ha:a∈S.all):S.find a.num=some a:=by
 unfold Led.find
 rw[←lk_mapA]
 exact mem_lk (by rw[List.map_map];exact h.nodup) (List.mem_map_of_mem (f:=λa:Ac=>(a.num,a)) ha)
theorem Led.pos_some{S:Led}(h:SortP S.held){p:Po}(hp:p∈S.held):S.pos? p.key=some p:=by
 unfold Led.pos?
 rw[←lk_mapP]
 exact mem_lk (by rw[List.map_map];exact h.nodup) (List.mem_map_of_mem (f:=λp:Po=>(p.key,p)) hp)
theorem length_insA_le(l:List Ac)(a:Ac):(insA l a).length≤l.length+1:=by
 rw[(insA_perm l a).length_eq]
 simp only[List.length_cons]
 exact Nat.succ_le_succ (List.length_filter_le ..)
theorem length_insA_of{l:List Ac}{a:Ac}(h:∃x∈l,x.num=a.num):(insA l a).length≤l.length:=by
 rw[(insA_perm l a).length_eq]
 obtain⟨x,hx,e⟩:=h
 simp only[List.length_cons]
 exact List.length_filter_lt_length_iff_exists.2 ⟨x,hx,by simp[e]⟩
theorem Led.Ok.putA{S:Led}(h:S.Ok){a:Ac}(h1:0≤a.num∧a.num<4294967296)(h2:0≤a.cash∧a.cash≤MF)(h3:S.find a.num≠none∨S.all.length<64∨a.num=0):(S.putA a).Ok:=by
 unfold Led.putA
 by_cases hz:a.num=0
 ·rw[if_pos hz]
  exact{h with fund:=h2}
 ·rw[if_neg hz]
  refine{fund:=h.fund,sa:=insA_sort h.sa a,sp:=h.sp,len:=?_,acc:=λx hx=>?_,pos:=λp hp=>?_}
  ·rcases h3 with h3|h3|h3
   ·obtain⟨x,hx⟩:=Option.ne_none_iff_exists'.1 h3
    obtain⟨hx1,hx2⟩:=Led.find_mem hx
    exact Nat.le_trans (length_insA_of ⟨x,hx1,hx2⟩) h.len
   ·exact Nat.le_trans (length_insA_le ..) h3
   ·exact absurd h3 hz
  ·rcases mem_insA.1 hx with⟨hx,_⟩|rfl
   ·exact h.acc x hx
   ·exact⟨by omega,h1.2,h2⟩
  ·obtain⟨g1,g2,g3,g4,g5,g6,g7,x,hx,hxa⟩:=h.pos p hp
   refine⟨g1,g2,g3,g4,g5,g6,g7,?_⟩
   by_cases he:x.num=a.num
   ·exact⟨a,mem_insA.2 (.inr rfl),he.symm.trans hxa⟩
   ·exact⟨x,mem_insA.2 (.inl ⟨hx,he⟩),hxa⟩
theorem Led.Ok.getO{S:Led}(h:S.Ok){n:Int}{a:Ac}(hg:S.getO n=some a):a.num=n∧0≤a.num∧a.num<4294967296∧0≤a.cash∧a.cash≤MF∧(a.num=0→a=fundAc a.cash):=by
 unfold Led.getO at hg
 split at hg
 ·rename_i hz
  cases hg
  exact⟨by simp[fundAc,hz],by simp[fundAc],by simp[fundAc],h.fund.1,h.fund.2,λ_=>rfl⟩
 ·obtain⟨h1,h2⟩:=Led.find_mem hg
  obtain⟨a1,a2,a3,a4⟩:=h.acc a h1
  exact⟨h2,by omega,a2,a3,a4,by omega⟩
theorem Led.Ok.funds{S:Led}(h:S.Ok):0≤S.funds∧S.funds≤MF*65:=by
 have key:∀l:List Ac,(∀a∈l,0≤a.cash∧a.cash≤MF)→0≤(l.map (·.cash)).sum∧(l.map (·.cash)).sum≤MF*l.length:=by
  intro l hl
  induction l with
  |nil=>simp
  |cons a l ih=>
   have h1:=hl a List.mem_cons_self
   have h2:=ih λx hx=>hl x (List.mem_cons_of_mem _ hx)
   simp only[List.map_cons,List.sum_cons,List.length_cons,MF]at*
   omega
 have h1:=key S.all λa ha=>(h.acc a ha).2.2
 have h2:=h.fund
 have h3:=h.len
 unfold Led.funds
 simp only[MF]at*
 omega
theorem sum_ge{l:List Ac}(h:∀a∈l,0≤a.cash):0≤(l.map (·.cash)).sum∧∀a∈l,a.cash≤(l.map (·.cash)).sum:=by
 induction l with
 |nil=>simp
 |cons a l ih=>
  have h1:=h a List.mem_cons_self
  obtain⟨h2,h3⟩:=ih λx hx=>h x (List.mem_cons_of_mem _ hx)
  simp only[List.map_cons,List.sum_cons]
  refine⟨by omega,λx hx=>?_⟩
  rcases List.mem_cons.1 hx with rfl|hx
  ·omega
  ·have:=h3 x hx;omega
theorem Led.Ok.cash_le{S:Led}(h:S.Ok){n:Int}{a:Ac}(hg:S.getO n=some a):a.cash≤S.funds:=by
 have hs:=sum_ge (l:=S.all) λa ha=>(h.acc a ha).2.2.1
 have hf:=h.fund
 unfold Led.funds
 unfold Led.getO at hg
 split at hg
 ·cases hg
  simp only[fundAc]
  omega
 ·have:=hs.2 a (Led.find_mem hg).1
  omega
theorem amongB_iff{n lo hi:Int}:amongB n lo hi=true↔lo≤n∧n≤hi:=by simp[amongB]
end Go.Proofs
set_option maxRecDepth 100000
namespace Go.Proofs
open Go Go.Vc
def F36(w:World)(K:Kont):Prop:=
 rv Tryz.prog (Instr.makeMap 198 none) w λv0 w1=>
 rv Tryz.prog (Instr.build 92 #[]) w1 λv2 w3=>
 rux Tryz.prog (xMapUp 198 v0 (.int .u32 0) v2) w3 λw4=>
 rv Tryz.prog (Instr.makeMap 199 none) w4 λv5 w6=>
 rv Tryz.prog (Instr.build 201 #[(0,v0),(1,v5)]) w6 λv7 w8=>
 rv Tryz.prog (Instr.box 201 v7) w8 λv9 w10=>
 K v9 w10
theorem F36_eq(w:World)(K:Kont):vcFnJ Tryz.prog Tryz.f36 [] w K=F36 w K:=by kernel_rfl
theorem F36_ok:okF Tryz.prog Tryz.f36 0=true:=by kernel_rfl
theorem ca36{w:World}{K:Kont}(h:F36 w K):Ca Tryz.prog 36 #[] w K:=
 ca_of_vcJ Tryz.noNum Tryz.func36 F36_ok (by rw[F36_eq];exact h)
def F136(a0:Value)(w:World)(K:Kont):Prop:=
 rv Tryz.prog (bin .neq 62 true a0 (.pointer none)) w λv0 w1=>
 ifB v0
 (nilK a0 λv2=>rv Tryz.prog (Instr.fieldAt 201 v2 0) w1 λv3 w4=>
 rv Tryz.prog (Instr.loadAt 198 v3) w4 λv5 w6=>
 rv Tryz.prog (bin .neq 198 true v5 (.map none)) w6 λv7 w8=>
 K v7 w8)
 (K (.bool false) w1)
theorem F136_eq(a0:Value)(w:World)(K:Kont):vcFnJ Tryz.prog Tryz.f136 [a0] w K=F136 a0 w K:=by kernel_rfl
theorem F136_ok:okF Tryz.prog Tryz.f136 1=true:=by kernel_rfl
theorem ca136{a0:Value}{w:World}{K:Kont}(h:F136 a0 w K):Ca Tryz.prog 136 #[a0] w K:=
 ca_of_vcJ Tryz.noNum Tryz.func136 F136_ok (by rw[F136_eq];exact h)
def F194(a0 a1 a2:Value)(w:World)(K:Kont):Prop:=
 rv Tryz.prog (bin .geq 2 false a0 a1) w λv0 w1=>
 ifB v0
 (rv Tryz.prog (bin .leq 2 false a0 a2) w1 λv2 w3=>
 K v2 w3)
 (K (.bool false) w1)
theorem F194_eq(a0 a1 a2:Value)(w:World)(K:Kont):vcFnJ Tryz.prog Tryz.f194 [a0,a1,a2] w K=F194 a0 a1 a2 w K:=by kernel_rfl
theorem F194_ok:okF Tryz.prog Tryz.f194 3=true:=by kernel_rfl
theorem ca194{a0 a1 a2:Value}{w:World}{K:Kont}(h:F194 a0 a1 a2 w K):Ca Tryz.prog 194 #[a0,a1,a2] w K:=
 ca_of_vcJ Tryz.noNum Tryz.func194 F194_ok (by rw[F194_eq];exact h)
def J112_0(K:Kont)(a0:Value)(a2:Value)(v15:Value)(a1:Value)(s22:Value×Unit)(w23:World):Prop:=
 ∀_:Nat→Value,
 ifB s22.1
 (K (.int .i64 9) w23)
 (Ca Tryz.prog 195 #[a0] w23 λv36 w37=>
 rv Tryz.prog (bin .add 2 false v36 a2) w37 λv38 w39=>
 rv Tryz.prog (bin .gtr 2 true v38 (.int .i64 1000000000000000)) w39 λv40 w41=>
 ifB v40
 (K (.int .i64 6) w41)
 (rv Tryz.prog (Instr.fieldAt 92 v15 0) w41 λv42 w43=>
 ru Tryz.prog (Instr.storeAt 35 v42 a1) w43 λw44=>
 rv Tryz.prog (Instr.fieldAt 92 v15 1) w44 λv45 w46=>
 rv Tryz.prog (Instr.loadAt 2 v45) w46 λv47 w48=>
 rv Tryz.prog (bin .add 2 false v47 a2) w48 λv49 w50=>
 rv Tryz.prog (Instr.fieldAt 92 v15 1) w50 λv51 w52=>
 ru Tryz.prog (Instr.storeAt 2 v51 v49) w52 λw53=>
 nilK a0 λv54=>rdP Tryz.prog (Instr.fieldAt 201 v54 0) λv55=>
 rdW Tryz.prog (Instr.loadAt 198 v55) w53.drew λv56=>
 rdW Tryz.prog (Instr.loadAt 92 v15) w53.drew λv57=>
 rux Tryz.prog (xMapUp 198 v56 a1 v57) w53.drew λw58=>
 K (.int .i64 0) w58))
def F112(a0 a1 a2:Value)(w:World)(K:Kont):Prop:=
 Ca Tryz.prog 136 #[a0] w λv0 w1=>
 rv Tryz.prog (Op.unary .not v0) w1 λv2 w3=>
 ifB v2
 (K (.int .i64 1) w3)
 (nilK a0 λv4=>rv Tryz.prog (Instr.fieldAt 201 v4 0) w3 λv5 w6=>
 rv Tryz.prog (Instr.loadAt 198 v5) w6 λv7 w8=>
 rx Tryz.prog (xLook 198 v7 a1 true) w8 λv9 w10=>
 rv Tryz.prog (Instr.extract v9 0) w10 λv11 w12=>
 rv Tryz.prog (Instr.extract v9 1) w12 λv13 w14=>
 rv Tryz.prog (Instr.alloc 92 true (.tuple #[])) w14 λv15 w16=>
 ru Tryz.prog (Instr.storeAt 92 v15 v11) w16 λw17=>
 Ca Tryz.prog 194 #[a2,(.int .i64 1),(.int .i64 1000000000000000)] w17 λv18 w19=>
 rv Tryz.prog (Op.unary .not v18) w19 λv20 w21=>
 ifB v20
 (K (.int .i64 2) w21)
 (JoinW (S:=Value×Unit) (λJ24=>
 rv Tryz.prog (Op.unary .not v13) w21 λv25 w26=>
 ifB v25
 (nilK a0 λv27=>rv Tryz.prog (Instr.fieldAt 201 v27 0) w26 λv28 w29=>
 rv Tryz.prog (Instr.loadAt 198 v28) w29 λv30 w31=>
 rn Tryz.prog (builtin .len #[198] 3 #[false] #[v30]) w31 λv32 w33=>
 rv Tryz.prog (bin .gtr 3 true v32 (.int .i64 64)) w33 λv34 w35=>
 J24 (v34,()) w35)
 (J24 ((.bool false),()) w26))
 (J112_0 K a0 a2 v15 a1)))
theorem F112_eq(a0 a1 a2:Value)(w:World)(K:Kont):vcFnJ Tryz.prog Tryz.f112 [a0,a1,a2] w K=F112 a0 a1 a2 w K:=by kernel_rfl
theorem F112_ok:okF Tryz.prog Tryz.f112 3=true:=by kernel_rfl
theorem ca112{a0 a1 a2:Value}{w:World}{K:Kont}(h:F112 a0 a1 a2 w K):Ca Tryz.prog 112 #[a0,a1,a2] w K:=
 ca_of_vcJ Tryz.noNum Tryz.func112 F112_ok (by rw[F112_eq];exact h)
def F52(a0 a1:Value)(w:World)(K:Kont):Prop:=
 rv Tryz.prog (Instr.alloc 92 true (.tuple #[])) w λv0 w1=>
 Ca Tryz.prog 136 #[a0] w1 λv2 w3=>
 rv Tryz.prog (Op.unary .not v2) w3 λv4 w5=>
 ifB v4
 (rv Tryz.prog (Instr.build 92 #[]) w5 λv6 w7=>
 ru Tryz.prog (Instr.storeAt 92 v0 v6) w7 λw8=>
 rdW Tryz.prog (Instr.loadAt 92 v0) w8 λv9=>
 K (.tuple #[v9,(.int .i64 1)]) w8)
 (nilK a0 λv10=>rv Tryz.prog (Instr.fieldAt 201 v10 0) w5 λv11 w12=>
 rv Tryz.prog (Instr.loadAt 198 v11) w12 λv13 w14=>
 rx Tryz.prog (xLook 198 v13 a1 true) w14 λv15 w16=>
 rv Tryz.prog (Instr.extract v15 0) w16 λv17 w18=>
 rv Tryz.prog (Instr.extract v15 1) w18 λv19 w20=>
 rv Tryz.prog (Instr.alloc 92 true (.tuple #[])) w20 λv21 w22=>
 ru Tryz.prog (Instr.storeAt 92 v21 v17) w22 λw23=>
 rv Tryz.prog (Op.unary .not v19) w23 λv24 w25=>
 ifB v24
 (rv Tryz.prog (Instr.build 92 #[]) w25 λv26 w27=>
 ru Tryz.prog (Instr.storeAt 92 v0 v26) w27 λw28=>
 rdW Tryz.prog (Instr.loadAt 92 v0) w28 λv29=>
 K (.tuple #[v29,(.int .i64 7)]) w28)
 (rv Tryz.prog (Instr.loadAt 92 v21) w25 λv30 w31=>
 ru Tryz.prog (Instr.storeAt 92 v0 v30) w31 λw32=>
 rdW Tryz.prog (Instr.loadAt 92 v0) w32 λv33=>
 K (.tuple #[v33,(.int .i64 0)]) w32))
theorem F52_eq(a0 a1:Value)(w:World)(K:Kont):vcFnJ Tryz.prog Tryz.f52 [a0,a1] w K=F52 a0 a1 w K:=by kernel_rfl
theorem F52_ok:okF Tryz.prog Tryz.f52 2=true:=by kernel_rfl
theorem ca52{a0 a1:Value}{w:World}{K:Kont}(h:F52 a0 a1 w K):Ca Tryz.prog 52 #[a0,a1] w K:=
 ca_of_vcJ Tryz.noNum Tryz.func52 F52_ok (by rw[F52_eq];exact h)
def F221(a0:Value)(w:World)(K:Kont):Prop:=
 rv Tryz.prog (bin .lss 2 true a0 (.int .i64 0)) w λv0 w1=>
 ifB v0
 (rv Tryz.prog (convert 2 27 a0) w1 λv2 w3=>
 rv Tryz.prog (Op.unary .neg v2) w3 λv4 w5=>
 K (.tuple #[v4,(.bool true)]) w5)
 (rv Tryz.prog (convert 2 27 a0) w1 λv6 w7=>
 K (.tuple #[v6,(.bool false)]) w7)
theorem F221_eq(a0:Value)(w:World)(K:Kont):vcFnJ Tryz.prog Tryz.f221 [a0] w K=F221 a0 w K:=by kernel_rfl
theorem F221_ok:okF Tryz.prog Tryz.f221 1=true:=by kernel_rfl
theorem ca221{a0:Value}{w:World}{K:Kont}(h:F221 a0 w K):Ca Tryz.prog 221 #[a0] w K:=
 ca_of_vcJ Tryz.noNum Tryz.func221 F221_ok (by rw[F221_eq];exact h)
def F130(a0 a1:Value)(w:World)(K:Kont):Prop:=
 Ca Tryz.prog 221 #[a0] w λv0 w1=>
 rv Tryz.prog (Instr.extract v0 0) w1 λv2 w3=>
 rv Tryz.prog (Instr.extract v0 1) w3 λv4 w5=>
 rv Tryz.prog (bin .geq 2 true a1 (.int .i64 0)) w5 λv6 w7=>
 ifB v6
 (rv Tryz.prog (convert 2 27 a1) w7 λv8 w9=>
 rv Tryz.prog (bin .leq 27 false v2 v8) w9 λv10 w11=>
 K v10 w11)
 (K (.bool false) w7)
theorem F130_eq(a0 a1:Value)(w:World)(K:Kont):vcFnJ Tryz.prog Tryz.f130 [a0,a1] w K=F130 a0 a1 w K:=by kernel_rfl
theorem F130_ok:okF Tryz.prog Tryz.f130 2=true:=by kernel_rfl
theorem ca130{a0 a1:Value}{w:World}{K:Kont}(h:F130 a0 a1 w K):Ca Tryz.prog 130 #[a0,a1] w K:=
 ca_of_vcJ Tryz.noNum Tryz.func130 F130_ok (by rw[F130_eq];exact h)
def L195_0(v9:Value)(K:Kont)(s11:Value×Unit)(w12:World)(K13:Value×Unit→World→Prop):Prop:=
 ∀_:Nat→Value,
 rx Tryz.prog (xNext v9 false 0) w12 λv14 w15=>
 rv Tryz.prog (Instr.extract v14 0) w15 λv16 w17=>
 ifB v16
 (rx Tryz.prog (xEntry v9) w17 λv18 w19=>
 rv Tryz.prog (Instr.extract v18 1) w19 λv20 w21=>
 rv Tryz.prog (Instr.alloc 92 true (.tuple #[])) w21 λv22 w23=>
 ru Tryz.prog (Instr.storeAt 92 v22 v20) w23 λw24=>
 rv Tryz.prog (Instr.fieldAt 92 v22 1) w24 λv25 w26=>
 rv Tryz.prog (Instr.loadAt 2 v25) w26 λv27 w28=>
 rv Tryz.prog (bin .add 2 false s11.1 v27) w28 λv29 w30=>
 K13 (v29,()) w30)
 (K s11.1 w17)
def F195(a0:Value)(w:World)(K:Kont):Prop:=
 Ca Tryz.prog 136 #[a0] w λv0 w1=>
 rv Tryz.prog (Op.unary .not v0) w1 λv2 w3=>
 ifB v2
 (K (.int .i64 0) w3)
 (nilK a0 λv4=>rv Tryz.prog (Instr.fieldAt 201 v4 0) w3 λv5 w6=>
 rv Tryz.prog (Instr.loadAt 198 v5) w6 λv7 w8=>
 rx Tryz.prog (xRange 198 v7) w8 λv9 w10=>
 LoopW (S:=Value×Unit) (L195_0 v9 K) ((.int .i64 0),()) w10)
theorem F195_eq(a0:Value)(w:World)(K:Kont):vcFnJ Tryz.prog Tryz.f195 [a0] w K=F195 a0 w K:=by kernel_rfl
theorem F195_ok:okF Tryz.prog Tryz.f195 1=true:=by kernel_rfl
theorem ca195{a0:Value}{w:World}{K:Kont}(h:F195 a0 w K):Ca Tryz.prog 195 #[a0] w K:=
 ca_of_vcJ Tryz.noNum Tryz.func195 F195_ok (by rw[F195_eq];exact h)
def F141(a0:Value)(w:World)(K:Kont):Prop:=
 rv Tryz.prog (Instr.box 44 a0) w λv0 w1=>
 K (.func (.func 231) #[] #[v0]) w1
theorem F141_eq(a0:Value)(w:World)(K:Kont):vcFnJ Tryz.prog Tryz.f141 [a0] w K=F141 a0 w K:=by kernel_rfl
theorem F141_ok:okF Tryz.prog Tryz.f141 1=true:=by kernel_rfl
theorem ca141{a0:Value}{w:World}{K:Kont}(h:F141 a0 w K):Ca Tryz.prog 141 #[a0] w K:=
 ca_of_vcJ Tryz.noNum Tryz.func141 F141_ok (by rw[F141_eq];exact h)
def L231_0(v2:Value)(v0:Value)(a0:Value)(K:Kont)(s4:Value×Unit)(w5:World)(K6:Value×Unit→World→Prop):Prop:=
 ∀_:Nat→Value,
 rv Tryz.prog (bin .lss 3 false s4.1 v2) w5 λv7 w8=>
 ifB v7
 (rv Tryz.prog (Instr.indexAt 44 v0 s4.1) w8 λv9 w10=>
 rv Tryz.prog (Instr.loadAt 92 v9) w10 λv11 w12=>
 rv Tryz.prog (Instr.alloc 92 true (.tuple #[])) w12 λv13 w14=>
 ru Tryz.prog (Instr.storeAt 92 v13 v11) w14 λw15=>
 rv Tryz.prog (Instr.loadAt 92 v13) w15 λv16 w17=>
 callV Tryz.prog a0 [v16] w17 λv18 w19=>
 rv Tryz.prog (Op.unary .not v18) w19 λv20 w21=>
 ifB v20
 (K (.tuple #[]) w21)
 (rv Tryz.prog (bin .add 3 true s4.1 (.int .i64 1)) w21 λv22 w23=>
 K6 (v22,()) w23))
 (K (.tuple #[]) w8)
def F231(a0 a1:Value)(w:World)(K:Kont):Prop:=
 rv Tryz.prog (Instr.loadAt 44 a1) w λv0 w1=>
 rn Tryz.prog (builtin .len #[44] 3 #[false] #[v0]) w1 λv2 w3=>
 LoopW (S:=Value×Unit) (L231_0 v2 v0 a0 K) ((.int .i64 0),()) w3
theorem F231_eq(a0 a1:Value)(w:World)(K:Kont):vcFnJ Tryz.prog Tryz.f231 [a0,a1] w K=F231 a0 a1 w K:=by kernel_rfl
theorem F231_ok:okF Tryz.prog Tryz.f231 2=true:=by kernel_rfl
theorem ca231{a0 a1:Value}{w:World}{K:Kont}(h:F231 a0 a1 w K):Ca Tryz.prog 231 #[a0,a1] w K:=
 ca_of_vcJ Tryz.noNum Tryz.func231 F231_ok (by rw[F231_eq];exact h)
def F235(a0:Value)(w:World)(K:Kont):Prop:=
 rv Tryz.prog (Instr.box 46 a0) w λv0 w1=>
 K (.func (.func 286) #[] #[v0]) w1
theorem F235_eq(a0:Value)(w:World)(K:Kont):vcFnJ Tryz.prog Tryz.f235 [a0] w K=F235 a0 w K:=by kernel_rfl
theorem F235_ok:okF Tryz.prog Tryz.f235 1=true:=by kernel_rfl
theorem ca235{a0:Value}{w:World}{K:Kont}(h:F235 a0 w K):Ca Tryz.prog 235 #[a0] w K:=
 ca_of_vcJ Tryz.noNum Tryz.func235 F235_ok (by rw[F235_eq];exact h)
def L286_0(v2:Value)(v0:Value)(a0:Value)(K:Kont)(s4:Value×Unit)(w5:World)(K6:Value×Unit→World→Prop):Prop:=
 ∀_:Nat→Value,
 rv Tryz.prog (bin .lss 3 false s4.1 v2) w5 λv7 w8=>
 ifB v7
 (rv Tryz.prog (Instr.indexAt 46 v0 s4.1) w8 λv9 w10=>
 rv Tryz.prog (Instr.loadAt 112 v9) w10 λv11 w12=>
 rv Tryz.prog (Instr.alloc 112 true (.tuple #[])) w12 λv13 w14=>
 ru Tryz.prog (Instr.storeAt 112 v13 v11) w14 λw15=>
 rv Tryz.prog (Instr.loadAt 112 v13) w15 λv16 w17=>
 callV Tryz.prog a0 [v16] w17 λv18 w19=>
 rv Tryz.prog (Op.unary .not v18) w19 λv20 w21=>
 ifB v20
 (K (.tuple #[]) w21)
 (rv Tryz.prog (bin .add 3 true s4.1 (.int .i64 1)) w21 λv22 w23=>
 K6 (v22,()) w23))
 (K (.tuple #[]) w8)
def F286(a0 a1:Value)(w:World)(K:Kont):Prop:=
 rv Tryz.prog (Instr.loadAt 46 a1) w λv0 w1=>
 rn Tryz.prog (builtin .len #[46] 3 #[false] #[v0]) w1 λv2 w3=>
 LoopW (S:=Value×Unit) (L286_0 v2 v0 a0 K) ((.int .i64 0),()) w3
theorem F286_eq(a0 a1:Value)(w:World)(K:Kont):vcFnJ Tryz.prog Tryz.f286 [a0,a1] w K=F286 a0 a1 w K:=by kernel_rfl
theorem F286_ok:okF Tryz.prog Tryz.f286 2=true:=by kernel_rfl
theorem ca286{a0 a1:Value}{w:World}{K:Kont}(h:F286 a0 a1 w K):Ca Tryz.prog 286 #[a0,a1] w K:=
 ca_of_vcJ Tryz.noNum Tryz.func286 F286_ok (by rw[F286_eq];exact h)
def F55(a0:Value)(w:World)(K:Kont):Prop:=
 rv Tryz.prog (Instr.box 62 a0) w λv0 w1=>
 K (.func (.func 138) #[] #[v0]) w1
theorem F55_eq(a0:Value)(w:World)(K:Kont):vcFnJ Tryz.prog Tryz.f55 [a0] w K=F55 a0 w K:=by kernel_rfl
theorem F55_ok:okF Tryz.prog Tryz.f55 1=true:=by kernel_rfl
theorem ca55{a0:Value}{w:World}{K:Kont}(h:F55 a0 w K):Ca Tryz.prog 55 #[a0] w K:=
 ca_of_vcJ Tryz.noNum Tryz.func55 F55_ok (by rw[F55_eq];exact h)
def L138_0(v14:Value)(J2:Value×Unit→World→Prop)(s16:Value×Unit)(w17:World)(K18:Value×Unit→World→Prop):Prop:=
 ∀_:Nat→Value,
 rx Tryz.prog (xNext v14 false 0) w17 λv19 w20=>
 rv Tryz.prog (Instr.extract v19 0) w20 λv21 w22=>
 ifB v21
 (rx Tryz.prog (xEntry v14) w22 λv23 w24=>
 rv Tryz.prog (Instr.extract v23 0) w24 λv25 w26=>
 rv Tryz.prog (Instr.extract v23 1) w26 λv27 w28=>
 rv Tryz.prog (Instr.alloc 92 true (.tuple #[])) w28 λv29 w30=>
 ru Tryz.prog (Instr.storeAt 92 v29 v27) w30 λw31=>
 rv Tryz.prog (bin .neq 35 true v25 (.int .u32 0)) w31 λv32 w33=>
 ifB v32
 (rv Tryz.prog (Instr.loadAt 92 v29) w33 λv34 w35=>
 rx Tryz.prog (xLit 44 1 [(0,v34)]) w35 λv36 w37=>
 rx Tryz.prog (xAppend #[44,44] 44 [s16.1,v36]) w37 λv38 w39=>
 K18 (v38,()) w39)
 (K18 (s16.1,()) w33))
 (J2 (s16.1,()) w22)
def J138_1(a0:Value)(K:Kont)(s0:Value×Unit)(w1:World):Prop:=
 ∀_:Nat→Value,
 Ca Tryz.prog 139 #[s0.1,(.func (.func 140) #[] #[])] w1 λv40 w41=>
 Ca Tryz.prog 141 #[s0.1] w41 λv42 w43=>
 callV Tryz.prog v42 [a0] w43 λv44 w45=>
 K (.tuple #[]) w45
def F138(a0 a1:Value)(w:World)(K:Kont):Prop:=
 JoinW (S:=Value×Unit) (λJ2=>
 rv Tryz.prog (Instr.loadAt 62 a1) w λv3 w4=>
 Ca Tryz.prog 136 #[v3] w4 λv5 w6=>
 ifB v5
 (rv Tryz.prog (Instr.loadAt 62 a1) w6 λv7 w8=>
 nilK v7 λv9=>rv Tryz.prog (Instr.fieldAt 201 v9 0) w8 λv10 w11=>
 rv Tryz.prog (Instr.loadAt 198 v10) w11 λv12 w13=>
 rx Tryz.prog (xRange 198 v12) w13 λv14 w15=>
 LoopW (S:=Value×Unit) (L138_0 v14 J2) ((.slice none 0 0),()) w15)
 (J2 ((.slice none 0 0),()) w6))
 (J138_1 a0 K)
theorem F138_eq(a0 a1:Value)(w:World)(K:Kont):vcFnJ Tryz.prog Tryz.f138 [a0,a1] w K=F138 a0 a1 w K:=by kernel_rfl
theorem F138_ok:okF Tryz.prog Tryz.f138 2=true:=by kernel_rfl
theorem ca138{a0 a1:Value}{w:World}{K:Kont}(h:F138 a0 a1 w K):Ca Tryz.prog 138 #[a0,a1] w K:=
 ca_of_vcJ Tryz.noNum Tryz.func138 F138_ok (by rw[F138_eq];exact h)
def F140(a0 a1:Value)(w:World)(K:Kont):Prop:=
 rv Tryz.prog (Instr.box 92 a0) w λv0 w1=>
 rv Tryz.prog (Instr.box 92 a1) w1 λv2 w3=>
 rv Tryz.prog (Instr.fieldAt 92 v0 0) w3 λv4 w5=>
 rv Tryz.prog (Instr.loadAt 35 v4) w5 λv6 w7=>
 rv Tryz.prog (Instr.fieldAt 92 v2 0) w7 λv8 w9=>
 rv Tryz.prog (Instr.loadAt 35 v8) w9 λv10 w11=>
 rv Tryz.prog (bin .lss 35 false v6 v10) w11 λv12 w13=>
 ifB v12
 (K (.int .i64 (-1)) w13)
 (K (.int .i64 1) w13)
theorem F140_eq(a0 a1:Value)(w:World)(K:Kont):vcFnJ Tryz.prog Tryz.f140 [a0,a1] w K=F140 a0 a1 w K:=by kernel_rfl
theorem F140_ok:okF Tryz.prog Tryz.f140 2=true:=by kernel_rfl
theorem ca140{a0 a1:Value}{w:World}{K:Kont}(h:F140 a0 a1 w K):Ca Tryz.prog 140 #[a0,a1] w K:=
 ca_of_vcJ Tryz.noNum Tryz.func140 F140_ok (by rw[F140_eq];exact h)
def F142(a0 a1:Value)(w:World)(K:Kont):Prop:=
 rv Tryz.prog (Instr.box 62 a0) w λv0 w1=>
 rv Tryz.prog (Instr.box 244 a1) w1 λv2 w3=>
 K (.func (.func 232) #[] #[v0,v2]) w3
theorem F142_eq(a0 a1:Value)(w:World)(K:Kont):vcFnJ Tryz.prog Tryz.f142 [a0,a1] w K=F142 a0 a1 w K:=by kernel_rfl
theorem F142_ok:okF Tryz.prog Tryz.f142 2=true:=by kernel_rfl
theorem ca142{a0 a1:Value}{w:World}{K:Kont}(h:F142 a0 a1 w K):Ca Tryz.prog 142 #[a0,a1] w K:=
 ca_of_vcJ Tryz.noNum Tryz.func142 F142_ok (by rw[F142_eq];exact h)
def L232_0(v14:Value)(a2:Value)(J2:Value×Unit→World→Prop)(s16:Value×Unit)(w17:World)(K18:Value×Unit→World→Prop):Prop:=
 ∀_:Nat→Value,
 rx Tryz.prog (xNext v14 false 0) w17 λv19 w20=>
 rv Tryz.prog (Instr.extract v19 0) w20 λv21 w22=>
 ifB v21
 (rx Tryz.prog (xEntry v14) w22 λv23 w24=>
 rv Tryz.prog (Instr.extract v23 1) w24 λv25 w26=>
 rv Tryz.prog (Instr.alloc 112 true (.tuple #[])) w26 λv27 w28=>
 ru Tryz.prog (Instr.storeAt 112 v27 v25) w28 λw29=>
 rv Tryz.prog (Instr.loadAt 244 a2) w29 λv30 w31=>
 rv Tryz.prog (Instr.loadAt 112 v27) w31 λv32 w33=>
 callV Tryz.prog v30 [v32] w33 λv34 w35=>
 ifB v34
 (rv Tryz.prog (Instr.loadAt 112 v27) w35 λv36 w37=>
 rx Tryz.prog (xLit 46 1 [(0,v36)]) w37 λv38 w39=>
 rx Tryz.prog (xAppend #[46,46] 46 [s16.1,v38]) w39 λv40 w41=>
 K18 (v40,()) w41)
 (K18 (s16.1,()) w35))
 (J2 (s16.1,()) w22)
def J232_1(a0:Value)(K:Kont)(s0:Value×Unit)(w1:World):Prop:=
 ∀_:Nat→Value,
 Ca Tryz.prog 233 #[s0.1,(.func (.func 234) #[] #[])] w1 λv42 w43=>
 Ca Tryz.prog 235 #[s0.1] w43 λv44 w45=>
 callV Tryz.prog v44 [a0] w45 λv46 w47=>
 K (.tuple #[]) w47
def F232(a0 a1 a2:Value)(w:World)(K:Kont):Prop:=
 JoinW (S:=Value×Unit) (λJ2=>
 rv Tryz.prog (Instr.loadAt 62 a1) w λv3 w4=>
 Ca Tryz.prog 136 #[v3] w4 λv5 w6=>
 ifB v5
 (rv Tryz.prog (Instr.loadAt 62 a1) w6 λv7 w8=>
 nilK v7 λv9=>rv Tryz.prog (Instr.fieldAt 201 v9 1) w8 λv10 w11=>
 rv Tryz.prog (Instr.loadAt 199 v10) w11 λv12 w13=>
 rx Tryz.prog (xRange 199 v12) w13 λv14 w15=>
 LoopW (S:=Value×Unit) (L232_0 v14 a2 J2) ((.slice none 0 0),()) w15)
 (J2 ((.slice none 0 0),()) w6))
 (J232_1 a0 K)
theorem F232_eq(a0 a1 a2:Value)(w:World)(K:Kont):vcFnJ Tryz.prog Tryz.f232 [a0,a1,a2] w K=F232 a0 a1 a2 w K:=by kernel_rfl
theorem F232_ok:okF Tryz.prog Tryz.f232 3=true:=by kernel_rfl
theorem ca232{a0 a1 a2:Value}{w:World}{K:Kont}(h:F232 a0 a1 a2 w K):Ca Tryz.prog 232 #[a0,a1,a2] w K:=
 ca_of_vcJ Tryz.noNum Tryz.func232 F232_ok (by rw[F232_eq];exact h)
def J234_0(K:Kont)(v0:Value)(v2:Value)(s4:Value×Unit)(w5:World):Prop:=
 ∀_:Nat→Value,
 ifB s4.1
 (K (.int .i64 (-1)) w5)
 (rv Tryz.prog (Instr.loadAt 112 v0) w5 λv37 w38=>
 rv Tryz.prog (Instr.loadAt 112 v2) w38 λv39 w40=>
 rv Tryz.prog (bin .eql 112 false v37 v39) w40 λv41 w42=>
 ifB v41
 (K (.int .i64 0) w42)
 (K (.int .i64 1) w42))
def F234(a0 a1:Value)(w:World)(K:Kont):Prop:=
 rv Tryz.prog (Instr.box 112 a0) w λv0 w1=>
 rv Tryz.prog (Instr.box 112 a1) w1 λv2 w3=>
 JoinW (S:=Value×Unit) (λJ6=>
 rv Tryz.prog (Instr.fieldAt 112 v0 0) w3 λv7 w8=>
 rv Tryz.prog (Instr.loadAt 35 v7) w8 λv9 w10=>
 rv Tryz.prog (Instr.fieldAt 112 v2 0) w10 λv11 w12=>
 rv Tryz.prog (Instr.loadAt 35 v11) w12 λv13 w14=>
 rv Tryz.prog (bin .lss 35 false v9 v13) w14 λv15 w16=>
 ifB v15
 (J6 ((.bool true),()) w16)
 (rv Tryz.prog (Instr.fieldAt 112 v0 0) w16 λv17 w18=>
 rv Tryz.prog (Instr.loadAt 35 v17) w18 λv19 w20=>
 rv Tryz.prog (Instr.fieldAt 112 v2 0) w20 λv21 w22=>
 rv Tryz.prog (Instr.loadAt 35 v21) w22 λv23 w24=>
 rv Tryz.prog (bin .eql 35 false v19 v23) w24 λv25 w26=>
 ifB v25
 (rv Tryz.prog (Instr.fieldAt 112 v0 1) w26 λv27 w28=>
 rv Tryz.prog (Instr.loadAt 35 v27) w28 λv29 w30=>
 rv Tryz.prog (Instr.fieldAt 112 v2 1) w30 λv31 w32=>
 rv Tryz.prog (Instr.loadAt 35 v31) w32 λv33 w34=>
 rv Tryz.prog (bin .lss 35 false v29 v33) w34 λv35 w36=>
 J6 (v35,()) w36)
 (J6 ((.bool false),()) w26)))
 (J234_0 K v0 v2)
theorem F234_eq(a0 a1:Value)(w:World)(K:Kont):vcFnJ Tryz.prog Tryz.f234 [a0,a1] w K=F234 a0 a1 w K:=by kernel_rfl
theorem F234_ok:okF Tryz.prog Tryz.f234 2=true:=by kernel_rfl
theorem ca234{a0 a1:Value}{w:World}{K:Kont}(h:F234 a0 a1 w K):Ca Tryz.prog 234 #[a0,a1] w K:=
 ca_of_vcJ Tryz.noNum Tryz.func234 F234_ok (by rw[F234_eq];exact h)
def F56(a0 a1:Value)(w:World)(K:Kont):Prop:=
 rv Tryz.prog (Instr.box 35 a1) w λv0 w1=>
 Ca Tryz.prog 142 #[a0,(.func (.func 143) #[] #[v0])] w1 λv2 w3=>
 K v2 w3
theorem F56_eq(a0 a1:Value)(w:World)(K:Kont):vcFnJ Tryz.prog Tryz.f56 [a0,a1] w K=F56 a0 a1 w K:=by kernel_rfl
theorem F56_ok:okF Tryz.prog Tryz.f56 2=true:=by kernel_rfl
theorem ca56{a0 a1:Value}{w:World}{K:Kont}(h:F56 a0 a1 w K):Ca Tryz.prog 56 #[a0,a1] w K:=
 ca_of_vcJ Tryz.noNum Tryz.func56 F56_ok (by rw[F56_eq];exact h)
def F143(a0 a1:Value)(w:World)(K:Kont):Prop:=
 rv Tryz.prog (Instr.box 112 a0) w λv0 w1=>
 rv Tryz.prog (Instr.fieldAt 112 v0 0) w1 λv2 w3=>
 rv Tryz.prog (Instr.loadAt 35 v2) w3 λv4 w5=>
 rv Tryz.prog (Instr.loadAt 35 a1) w5 λv6 w7=>
 rv Tryz.prog (bin .eql 35 false v4 v6) w7 λv8 w9=>
 K v8 w9
theorem F143_eq(a0 a1:Value)(w:World)(K:Kont):vcFnJ Tryz.prog Tryz.f143 [a0,a1] w K=F143 a0 a1 w K:=by kernel_rfl
theorem F143_ok:okF Tryz.prog Tryz.f143 2=true:=by kernel_rfl
theorem ca143{a0 a1:Value}{w:World}{K:Kont}(h:F143 a0 a1 w K):Ca Tryz.prog 143 #[a0,a1] w K:=
 ca_of_vcJ Tryz.noNum Tryz.func143 F143_ok (by rw[F143_eq];exact h)
def L109_0(v39:Value)(v4:Value)(K:Kont)(s41:Unit)(w42:World)(K43:Unit→World→Prop):Prop:=
 ∀_:Nat→Value,
 rx Tryz.prog (xNext v39 false 0) w42 λv44 w45=>
 rv Tryz.prog (Instr.extract v44 0) w45 λv46 w47=>
 ifB v46
 (rx Tryz.prog (xEntry v39) w47 λv48 w49=>
 rv Tryz.prog (Instr.extract v48 0) w49 λv50 w51=>
 rv Tryz.prog (Instr.extract v48 1) w51 λv52 w53=>
 rv Tryz.prog (Instr.alloc 224 true (.tuple #[])) w53 λv54 w55=>
 rv Tryz.prog (Instr.alloc 112 true (.tuple #[])) w55 λv56 w57=>
 ru Tryz.prog (Instr.storeAt 224 v54 v50) w57 λw58=>
 ru Tryz.prog (Instr.storeAt 112 v56 v52) w58 λw59=>
 nilK v4 λv60=>rdP Tryz.prog (Instr.fieldAt 201 v60 1) λv61=>
 rdW Tryz.prog (Instr.loadAt 199 v61) w59.drew λv62=>
 rdW Tryz.prog (Instr.loadAt 224 v54) w59.drew λv63=>
 rdW Tryz.prog (Instr.loadAt 112 v56) w59.drew λv64=>
 rux Tryz.prog (xMapUp 199 v62 v63 v64) w59.drew λw65=>
 K43 (()) w65)
 (K v4 w47)
def L109_1(v11:Value)(v4:Value)(a0:Value)(K:Kont)(s13:Unit)(w14:World)(K15:Unit→World→Prop):Prop:=
 ∀_:Nat→Value,
 rx Tryz.prog (xNext v11 false 0) w14 λv16 w17=>
 rv Tryz.prog (Instr.extract v16 0) w17 λv18 w19=>
 ifB v18
 (rx Tryz.prog (xEntry v11) w19 λv20 w21=>
 rv Tryz.prog (Instr.extract v20 0) w21 λv22 w23=>
 rv Tryz.prog (Instr.extract v20 1) w23 λv24 w25=>
 rv Tryz.prog (Instr.alloc 92 true (.tuple #[])) w25 λv26 w27=>
 ru Tryz.prog (Instr.storeAt 92 v26 v24) w27 λw28=>
 nilK v4 λv29=>rdP Tryz.prog (Instr.fieldAt 201 v29 0) λv30=>
 rdW Tryz.prog (Instr.loadAt 198 v30) w28.drew λv31=>
 rdW Tryz.prog (Instr.loadAt 92 v26) w28.drew λv32=>
 rux Tryz.prog (xMapUp 198 v31 v22 v32) w28.drew λw33=>
 K15 (()) w33)
 (nilK a0 λv34=>rv Tryz.prog (Instr.fieldAt 201 v34 1) w19 λv35 w36=>
 rv Tryz.prog (Instr.loadAt 199 v35) w36 λv37 w38=>
 rx Tryz.prog (xRange 199 v37) w38 λv39 w40=>
 LoopW (S:=Unit) (L109_0 v39 v4 K) (()) w40)
def F109(a0:Value)(w:World)(K:Kont):Prop:=
 Ca Tryz.prog 136 #[a0] w λv0 w1=>
 rv Tryz.prog (Op.unary .not v0) w1 λv2 w3=>
 ifB v2
 (K (.pointer none) w3)
 (Ca Tryz.prog 36 #[] w3 λv4 w5=>
 nilK a0 λv6=>rv Tryz.prog (Instr.fieldAt 201 v6 0) w5 λv7 w8=>
 rv Tryz.prog (Instr.loadAt 198 v7) w8 λv9 w10=>
 rx Tryz.prog (xRange 198 v9) w10 λv11 w12=>
 LoopW (S:=Unit) (L109_1 v11 v4 a0 K) (()) w12)
theorem F109_eq(a0:Value)(w:World)(K:Kont):vcFnJ Tryz.prog Tryz.f109 [a0] w K=F109 a0 w K:=by kernel_rfl
theorem F109_ok:okF Tryz.prog Tryz.f109 1=true:=by kernel_rfl
theorem ca109{a0:Value}{w:World}{K:Kont}(h:F109 a0 w K):Ca Tryz.prog 109 #[a0] w K:=
 ca_of_vcJ Tryz.noNum Tryz.func109 F109_ok (by rw[F109_eq];exact h)
end Go.Proofs
