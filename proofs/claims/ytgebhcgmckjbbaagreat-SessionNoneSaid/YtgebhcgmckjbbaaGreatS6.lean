/- Part of a proof. -/
import Derived.Laws.BitsAllLaws
import Derived.Laws.DeepNot64
import Derived.Test.YtgebhcgmckjbbaaGreatS5
set_option linter.all false
namespace Go.Proofs
open Go Go.Vc
attribute [local congr] Ca_congV
theorem u8E:elemOk Tryz.prog 5 1 1=true:=by kernel_rfl
theorem u8C:Tryz.prog.cellsOf 5=0+1:=by kernel_rfl
abbrev tBs:TypeId:=54
theorem uBs:Tryz.prog.underlying tBs=some (.slice 5):=Tryz.underlying54
set_option maxRecDepth 100000 in
theorem lowByte(n:Nat):bits .or .u8 (IntKind.u8.wrap (n:Int)) 128=((UInt8.ofNat (n%128+128)).toNat:Int):=by
 have e1:IntKind.u8.wrap (n:Int)=((n%256:Nat):Int):=by rw[IntKind.wrap_u8];omega
 have e2:(UInt8.ofNat (n%128+128)).toNat=n%128+128:=u8_of (by omega)
 rw[e1,show(128:Int)=((128:Nat):Int)from rfl,u8_or_nat _ _ (by omega) (by omega),e2]
 congr 1
 have h:∀m:Fin 256,m.val|||128=m.val%128+128:=by decide
 have:=h ⟨n%256,by omega⟩
 simp only at this
 rw[this];omega
theorem ca_wnat{w:World}{K:Kont}{s:Value}{k n:Nat}{l:List UInt8}(h:Own w 5 1 s k (bv l))(hn:n<18446744073709551616)(hk:k≤1000000000)
  (hK:∀s' w',Own w' 5 1 s' (k+(natB n).length) (bv (l++natB n))→Mod (inSl s) w w' →(∀b,inSl s' b→inSl s b∨w.heap.size≤b)→K s' w'):
  Ca Tryz.prog 100 #[s,.int .u64 n] w K:=by
 apply ca100
 unfold F100
 refine loopV (λst W=>∃(m:Nat) (pre:List UInt8) (s' :Value),natB n=pre++natB m∧m≤n∧st=(.int .u64 (m:Int),s',())∧Own W 5 1 s' (k+pre.length) (bv (l++pre))∧Mod (inSl s) w W∧(∀b,inSl s' b→inSl s b∨w.heap.size≤b))
  (λst _=>match st.1 with| .int _ i=>i.toNat|_=>0) ⟨n,[],s,rfl,Nat.le_refl _,rfl,by simpa using h,Mod.refl _ _,λb hb=>.inl hb⟩ ?_
 rintro⟨_,_⟩ W ⟨m,pre,s',hpre,hm,⟨⟩,hO,mW,hb'⟩ KN hKN
 unfold L100_0
 intro _
 have hlen:=natB_len10 hn
 rw[hpre,List.length_append]at hlen
 by_cases hge:128≤m
 ·have hge' :(128:Int)≤(m:Int):=by omega
  refine rvS (v:=.bool true) (w' :=W) (by simp[go_sem,hge']) ?_
  rw[ifB_bool,if_pos rfl]
  refine rvS (v:=.int .u8 (IntKind.u8.wrap (m:Int))) (w' :=W) (by simp[go_sem]) ?_
  refine rvS (v:=.int .u8 (bits .or .u8 (IntKind.u8.wrap (m:Int)) 128)) (w' :=W) (by simp[go_sem]) ?_
  rw[lowByte]
  refine litV [UInt8.ofNat (m%128+128)] uBs (elemT_of u8E) rfl rfl (by omega) λv W2 o2 m2 n2=>?_
  refine rx_append (m:=1) uBs uBs (elemT_of u8E) (hO.mod m2 λ_ _ h=>h) o2.rd (bv_one _) (by omega) λs3 W3 o3 m3 n3=>?_
  refine rvS (v:=.int .u64 ((m / 128:Nat):Int)) (w' :=W3) (by simp[go_sem]) ?_
  have hx:natB m=UInt8.ofNat (m%128+128)::natB (m / 128):=natB_ge (by omega)
  refine hKN _ _ ⟨m / 128,pre++[UInt8.ofNat (m%128+128)],s3,by rw[hpre,hx];simp,by omega,rfl,?_,?_,?_⟩ ?_
  ·rw[←bv_append,List.append_assoc]at o3
   have e:k+(pre++[UInt8.ofNat (m%128+128)]).length=k+pre.length+1:=by simp;omega
   rw[e];exact o3
  ·exact(mW.on m2 λ_ h=>h.elim).on m3 hb'
  ·intro b hb
   rcases n3 b hb with h1|h1
   ·exact hb' b h1
   ·have:=(mW.on m2 (G:=λ_=>False) λ_ h=>h.elim).size
    omega
  ·show(((m / 128:Nat):Int)).toNat<((m:Int)).toNat
   omega
 ·have hge' :¬(128:Int)≤(m:Int):=by omega
  refine rvS (v:=.bool false) (w' :=W) (by simp[go_sem,hge']) ?_
  rw[ifB_bool,if_neg Bool.false_ne_true]
  have e1:IntKind.u8.wrap (m:Int)=((UInt8.ofNat m).toNat:Int):=by
   rw[u8_of (by omega),IntKind.wrap_u8];omega
  refine rvS (v:=.int .u8 (IntKind.u8.wrap (m:Int))) (w' :=W) (by simp[go_sem]) ?_
  rw[e1]
  refine litV [UInt8.ofNat m] uBs (elemT_of u8E) rfl rfl (by omega) λv W2 o2 m2 n2=>?_
  refine rx_append (m:=1) uBs uBs (elemT_of u8E) (hO.mod m2 λ_ _ h=>h) o2.rd (bv_one _) (by omega) λs3 W3 o3 m3 n3=>?_
  have hx:natB m=[UInt8.ofNat m]:=natB_lt (by omega)
  refine hK _ _ ?_ ((mW.on m2 λ_ h=>h.elim).on m3 hb') ?_
  ·rw[hpre,hx]
   rw[←bv_append,List.append_assoc]at o3
   have e:k+(pre++[UInt8.ofNat m]).length=k+pre.length+1:=by simp;omega
   rw[e];exact o3
  ·intro b hb
   rcases n3 b hb with h1|h1
   ·exact hb' b h1
   ·have:=(mW.on m2 (G:=λ_=>False) λ_ h=>h.elim).size
    omega
def rptr(r:Nat):Value:=.pointer (some ⟨r,0,none⟩)
structure RdrAt(w:World)(r:Nat)(v:Value)(l:List UInt8)(s:Rs):Prop where
 blk:hp w r=some (.cells #[v,.int .i64 s.at_,.int .i64 s.e] 248 (0,0))
 rd:Rd w 1 v l.length (bv l)
 le:s.at_≤l.length
 ne:¬inRd v r
 len:l.length≤1000000000
theorem RdrAt.mod{F:Nat→Prop}{w w' :World}{r:Nat}{v:Value}{l:List UInt8}{s:Rs}(h:RdrAt w r v l s)(hm:Mod F w w')(h1:¬F r)(h2:∀b,inRd v b→¬F b):RdrAt w' r v l s:=
 ⟨hm.keep h.blk h1,h.rd.mod hm h2,h.le,h.ne,h.len⟩
theorem RdrAt.lt{w:World}{r:Nat}{v:Value}{l:List UInt8}{s:Rs}(h:RdrAt w r v l s):r<w.heap.size:=lt_of_heap h.blk
theorem ca_newReader{w:World}{K:Kont}{v:Value}{l:List UInt8}(h:Rd w 1 v l.length (bv l))(hl:l.length≤1000000000)
  (hK:∀w',RdrAt w' w.heap.size v l ⟨0,0⟩→Mod (λ_=>False) w w' →K (rptr w.heap.size) w'):Ca Tryz.prog 59 #[v] w K:=by
 obtain⟨a,c,rfl⟩:=h.isSl
 apply ca59
 unfold F59
 simp[go_sem]
 refine hK _ ⟨?_,h.mod ((Mod.refl _ w).alloc _) (λ_ _ h=>h),Nat.zero_le _,λhb=>Nat.lt_irrefl _ (h.lt hb),hl⟩ ((Mod.refl _ w).alloc _)
 simp[go_sem]
theorem ca_off{w:World}{K:Kont}{r:Nat}{v:Value}{l:List UInt8}{s:Rs}(h:RdrAt w r v l s)(hK:K (.bool (decide (s.e≠0))) w):Ca Tryz.prog 148 #[rptr r] w K:=by
 apply ca148
 unfold F148
 have hb:=h.blk
 simp[go_sem,rptr,hb]
 have e:((s.e:Int) != 0)=decide (s.e≠0):=by
  by_cases h0:s.e=0<;>simp[h0]
 first
  |exact hK
  |(rw[e];exact hK)
  |(simpa using hK)
def natV(l:List UInt8)(at_:Nat):Value:=
 match rdN (l.drop at_) 0 0 with
 | .error e=>.tuple #[.int .u64 0,.int .i64 0,.int .i64 e]
 | .ok (n,k)=>.tuple #[.int .u64 n,.int .i64 (at_+k:Nat),.int .i64 0]
theorem pow7(k:Nat):(2:Int) ^ (7*k)=((128 ^ k:Nat):Int):=by
 rw[Int.pow_mul];simp
set_option maxRecDepth 10000 in
theorem ca_nat{w:World}{K:Kont}{r:Nat}{v:Value}{l:List UInt8}{s:Rs}(h:RdrAt w r v l s)(hK:∀w',Mod (λ_=>False) w w' →K (natV l s.at_) w'):Ca Tryz.prog 150 #[rptr r] w K:=by
 have hb:=h.blk
 have hle:=h.le
 have hlen:=h.len
 obtain⟨v',hrun,hd,hin⟩:=h.rd.from_ (P:=Tryz.prog) uBs u8C h.le .i64
 simp only[Nat.zero_add,Nat.mul_one]at hd
 rw[bv_drop]at hd
 apply ca150
 unfold F150
 simp only[rptr,nilK_ptr]
 refine rdPS (v:=.pointer (some ⟨r,0,none⟩)) (λW=>by simp[go_sem]) ?_
 refine rdWS (v:=v) (by simp[go_sem,hb]) ?_
 refine rdPS (v:=.pointer (some ⟨r,1,none⟩)) (λW=>by simp[go_sem]) ?_
 refine rdWS (v:=.int .i64 s.at_) (by simp[go_sem,hb]) ?_
 refine rdPS (v:=v') hrun ?_
 obtain⟨a',c',hv'⟩:=hd.isSl
 refine rdWS (v:=.int .i64 ((l.length - s.at_:Nat):Int)) (by rw[hv'];simp[go_sem]) ?_
 have hd1:=hd.mod (Mod.refl (λ_=>False) w).drew λ_ _ h=>h
 generalize hw1:w.drew=w1 at hd1⊢
 have hm1:Mod (λ_=>False) w w1:=by subst hw1;exact(Mod.refl _ w).drew
 have hb1:hp w1 r=some (.cells #[v,.int .i64 s.at_,.int .i64 s.e] 248 (0,0)):=hm1.keep hb id
 obtain⟨L,hL⟩:∃L,L=l.drop s.at_:=⟨_,rfl⟩
 rw[←hL]at hd1
 have hLl:L.length=l.length - s.at_:=by rw[hL];simp
 refine loopV (λst W=>∃(i acc:Nat),i≤L.length∧i≤9∧acc<128 ^ i∧rdN L 0 0=rdN (L.drop i) i acc∧(∃x1 x2:Value,st=(.int .u64 (acc:Int),x1,x2,.int .i64 (i:Int),()))∧W=w1)
  (λst _=>match st.2.2.2.1 with| .int _ i=>10 - i.toNat|_=>0) ⟨0,0,by omega,by omega,by decide,rfl,⟨_,_,rfl⟩,rfl⟩ ?_
 rintro⟨_,_⟩ W ⟨i,acc,hi,hi9,hacc,hrd,⟨x1,x2,⟨⟩⟩,rfl⟩ KN hKN
 unfold L150_2
 intro _
 by_cases hlt:i<L.length
 ·obtain⟨b,off,cap,C,e,fz,hv2,hcap,hC,hCi⟩:=hd1.byte (i:=i) (by omega) hlt
  have hx:=(L[i]).toNat_lt
  have hdr:L.drop i=L[i]::L.drop (i+1):=List.drop_eq_getElem_cons hlt
  have hlt1:(i:Int)<((l.length - s.at_:Nat):Int):=by omega
  refine rvS (v:=.bool true) (w' :=W) (by simp[go_sem,hlt1]) ?_
  rw[ifB_bool,if_pos rfl,hv2]
  have hlt2:i<l.length - s.at_:=by omega
  refine rvS (v:=.pointer (some ⟨b,off+i,none⟩)) (w' :=W) (by simp[go_sem,hlt2,addr_add]) ?_
  refine rvS (v:=.int .u8 ((L[i]).toNat:Int)) (w' :=W) (by simp[go_sem,hC,hCi]) ?_
  obtain⟨x,hxe⟩:∃x,x=(L[i]).toNat:=⟨_,rfl⟩
  rw[←hxe]
  rw[←hxe]at hx
  have hrd' :rdN L 0 0=if i=9∧1<x∨9<i then .error 5
    else if x<128 then(if x=0∧0<i then .error 5 else .ok (acc+x%128*128 ^ i,i+1))
    else rdN (L.drop (i+1)) (i+1) (acc+x%128*128 ^ i):=by
   rw[hrd,hdr];simp only[rdN];rw[←hxe]
  refine JoinW.at (λst W' =>st=(.bool (decide (i=9∧1<x∨9<i)),())∧W' =W) ?_ ?_
  ·by_cases h9:i=9
   ·subst h9
    refine rvS (v:=.bool true) (w' :=W) (by simp[go_sem]) ?_
    rw[ifB_bool,if_pos rfl]
    by_cases h1:1<x
    ·have h1' :(1:Int)<(x:Int):=by omega
     refine rvS (v:=.bool true) (w' :=W) (by simp[go_sem,h1']) ?_
     rw[ifB_bool,if_pos rfl]
     exact⟨by simp[h1],rfl⟩
    ·have h1' :¬(1:Int)<(x:Int):=by omega
     refine rvS (v:=.bool false) (w' :=W) (by simp[go_sem,h1']) ?_
     rw[ifB_bool,if_neg Bool.false_ne_true]
     refine rvS (v:=.bool false) (w' :=W) (by simp[go_sem]) ?_
     exact⟨by simp[h1],rfl⟩
   ·have h9' :¬(i:Int)=9:=by omega
    have h9'' :¬(9:Int)<(i:Int):=by omega
    refine rvS (v:=.bool false) (w' :=W) (by simp[go_sem,h9']) ?_
    rw[ifB_bool,if_neg Bool.false_ne_true]
    refine rvS (v:=.bool false) (w' :=W) (by simp[go_sem,h9'']) ?_
    exact⟨by simp[h9];omega,rfl⟩
  rintro _ W ⟨rfl,rfl⟩
  unfold J150_1
  intro _
  by_cases hbad:i=9∧1<x∨9<i
  ·rw[if_pos hbad]at hrd'
   simp only[hbad,decide_true,ifB_bool,if_true]
   have:=hK _ hm1
   unfold natV at this
   rw[←hL,hrd']at this
   exact this
  rw[if_neg hbad]at hrd'
  simp only[hbad,decide_false,ifB_bool,Bool.false_eq_true,if_false]
  have ea:bits .and .u8 (x:Int) 127=((x%128:Nat):Int):=by
   rw[show(127:Int)=((127:Nat):Int)from rfl,u8_and_nat _ _ (by omega) (by omega)]
   congr 1
   exact Nat.and_two_pow_sub_one_eq_mod x 7
  have hs:x%128*128 ^ i<18446744073709551616:=by
   by_cases h9:i=9
   ·subst h9
    have:x≤1:=by omega
    have e9:(128:Nat) ^ 9=9223372036854775808:=by decide
    rw[e9];omega
   ·have h8:128 ^ i≤128 ^ 8:=Nat.pow_le_pow_right (by decide) (by omega)
    have h7:=Nat.mul_le_mul (show x%128≤127 by omega) h8
    have e8:(127:Nat)*128 ^ 8<18446744073709551616:=by decide
    omega
  have hacc' :acc<18446744073709551616:=by
   have h8:128 ^ i≤128 ^ 9:=Nat.pow_le_pow_right (by decide) hi9
   have e9:(128:Nat) ^ 9=9223372036854775808:=by decide
   omega
  have eo:acc|||(x%128*128 ^ i)=acc+x%128*128 ^ i:=by
   have e1:(128:Nat) ^ i=2 ^ (7*i):=by rw[Nat.pow_mul]
   have:=Nat.two_pow_add_eq_or_of_lt (i:=7*i) (b:=acc) (by rw[←e1];exact hacc) (x%128)
   rw[←e1,Nat.mul_comm (128 ^ i)]at this
   rw[Nat.or_comm,←this,Nat.add_comm]
  have hsum:acc+x%128*128 ^ i<18446744073709551616:=by
   rw[←eo];exact Nat.or_lt_two_pow (n:=64) hacc' hs
  refine rvS (v:=.int .u8 ((x%128:Nat):Int)) (w' :=W) (by simp only[go_sem];simp[-Int.natCast_emod,go_sem,ea]) ?_
  refine rvS (v:=.int .u64 ((x%128:Nat):Int)) (w' :=W) (by simp[-Int.natCast_emod,go_sem,wrapU (n:=((x%128:Nat):Int)) (by omega) (by omega)]) ?_
  refine rvS (v:=.int .i64 ((7*i:Nat):Int)) (w' :=W) (by simp[go_sem];rw[wrapI (by omega) (by omega)]) ?_
  refine rvS (v:=.int .u64 ((x%128*128 ^ i:Nat):Int)) (w' :=W) ?_ ?_
  ·have e7:((7*i:Nat):Int).toNat=7*i:=by omega
   have e8:¬((7*i:Nat):Int)<0:=by omega
   simp[-Int.natCast_mul,-Int.natCast_emod,go_sem,e7,e8]
   rw[pow7,←Int.natCast_mul,wrapU (by omega) (by omega)]
  refine rvS (v:=.int .u64 ((acc+x%128*128 ^ i:Nat):Int)) (w' :=W) ?_ ?_
  ·simp only[go_sem]
   simp[-Int.natCast_add,-Int.natCast_mul,-Int.natCast_emod,go_sem]
   rw[u64_or_nat _ _ hacc' hs,eo]
  by_cases h128:x<128
  ·have h128' :(x:Int)<128:=by omega
   rw[if_pos h128]at hrd'
   refine rvS (v:=.bool true) (w' :=W) (by simp[go_sem,h128']) ?_
   rw[ifB_bool,if_pos rfl]
   refine JoinW.at (λst W' =>st=(.bool (decide (x=0∧0<i)),())∧W' =W) ?_ ?_
   ·by_cases h0:x=0
    ·refine rvS (v:=.bool true) (w' :=W) (by simp[go_sem,h0]) ?_
     rw[ifB_bool,if_pos rfl]
     refine rvS (v:=.bool (decide ((0:Int)<(i:Int)))) (w' :=W) (by simp[go_sem]) ?_
     refine⟨?_,rfl⟩
     have e:decide ((0:Int)<(i:Int))=decide (x=0∧0<i):=by rw[decide_eq_decide];omega
     rw[e]
    ·have h0' :¬(x:Int)=0:=by omega
     refine rvS (v:=.bool false) (w' :=W) (by simp[go_sem,h0]) ?_
     rw[ifB_bool,if_neg Bool.false_ne_true]
     exact⟨by simp[h0],rfl⟩
   rintro _ W ⟨rfl,rfl⟩
   unfold J150_0
   intro _
   by_cases hz:x=0∧0<i
   ·rw[if_pos hz]at hrd'
    simp only[hz,and_self,decide_true,ifB_bool,if_true]
    have:=hK _ hm1
    unfold natV at this
    rw[←hL,hrd']at this
    exact this
   rw[if_neg hz]at hrd'
   simp only[hz,decide_false,ifB_bool,Bool.false_eq_true,if_false]
   have hat:s.at_+i+1<9223372036854775808:=by omega
   simp only[rptr,nilK_ptr]
   refine rdPS (v:=.pointer (some ⟨r,1,none⟩)) (λW=>by simp[go_sem]) ?_
   have hld:∀W2,W2.heap=W.heap→(Instr.loadAt 3 (.pointer (some ⟨r,1,none⟩))).run Tryz.prog W2=.ok (.int .i64 s.at_) W2:=λW2 e=>by
    have hb2:hp W2 r=some (.cells #[v,.int .i64 s.at_,.int .i64 s.e] 248 (0,0)):=by unfold hp;rw[e];exact hb1
    simp[go_sem,hb2]
   refine rdWS (v:=.int .i64 s.at_) (hld _ rfl) ?_
   refine rdPS (v:=.int .i64 ((s.at_+i:Nat):Int)) (λW=>by simp[go_sem];rw[wrapI (by omega) (by omega)]) ?_
   refine rdPS (v:=.int .i64 ((s.at_+(i+1):Nat):Int)) (λW=>by simp[go_sem];rw[wrapI (by omega) (by omega)];omega) ?_
   refine⟨hld _ rfl,?_⟩
   have:=hK _ hm1.drew
   unfold natV at this
   rw[←hL,hrd']at this
   exact this
  ·have h128' :¬(x:Int)<128:=by omega
   rw[if_neg h128]at hrd'
   refine rvS (v:=.bool false) (w' :=W) (by simp[go_sem,h128']) ?_
   rw[ifB_bool,if_neg Bool.false_ne_true]
   refine rvS (v:=.int .i64 ((i+1:Nat):Int)) (w' :=W) (by simp[go_sem];rw[wrapI (by omega) (by omega)]) ?_
   have hi9' :i≠9:=λe=>hbad (.inl ⟨e,by omega⟩)
   refine hKN _ _ ⟨i+1,_,by omega,by omega,?_,hrd',⟨_,_,rfl⟩,rfl⟩ ?_
   ·rw[Nat.pow_succ]
    have:x%128*128 ^ i≤127*128 ^ i:=Nat.mul_le_mul_right _ (by omega)
    omega
   ·show 10 - (((i+1:Nat):Int)).toNat<10 - ((i:Int)).toNat
    omega
 ·have hlt1:¬(i:Int)<((l.length - s.at_:Nat):Int):=by omega
  refine rvS (v:=.bool false) (w' :=W) (by simp[go_sem,hlt1]) ?_
  rw[ifB_bool,if_neg Bool.false_ne_true]
  have hrd' :rdN L 0 0=.error 4:=by
   rw[hrd,List.drop_eq_nil_of_le (by omega)];rfl
  have:=hK _ hm1
  unfold natV at this
  rw[←hL,hrd']at this
  exact this
end Go.Proofs
namespace Go.Proofs
open Go Go.Vc
attribute [local congr] Ca_congV
theorem rdN_err{l:List UInt8}:∀{k acc e:Nat},rdN l k acc=.error e→e=4∨e=5:=by
 induction l with
 |nil=>intro k acc e h;cases h;exact .inl rfl
 |cons x r ih=>
  intro k acc e h
  simp only[rdN]at h
  split at h
  ·cases h;exact .inr rfl
  ·split at h
   ·split at h
    ·cases h;exact .inr rfl
    ·cases h
   ·exact ih h
theorem RdrAt.fault{w:World}{r:Nat}{v:Value}{l:List UInt8}{s:Rs}(h:RdrAt w r v l s)(e:Nat):
  RdrAt (w.setCell ⟨r,2,none⟩ (.int .i64 e)) r v l {s with e:=e}∧Mod (λb=>b=r) w (w.setCell ⟨r,2,none⟩ (.int .i64 e)):=by
 have hm:Mod (λb=>b=r) w (w.setCell ⟨r,2,none⟩ (.int .i64 e)):=(Mod.refl (λb=>b=r) w).setCell (.inl rfl) _ _
 exact⟨⟨by simp[go_sem,h.blk],h.rd.mod hm λb hb e=>h.ne (by rw[←e];exact hb),h.le,h.ne,h.len⟩,hm⟩
theorem RdrAt.go{w:World}{r:Nat}{v:Value}{l:List UInt8}{s:Rs}(h:RdrAt w r v l s)(a:Nat)(ha:a≤l.length):
  RdrAt (w.setCell ⟨r,1,none⟩ (.int .i64 a)) r v l {s with at_:=a}∧Mod (λb=>b=r) w (w.setCell ⟨r,1,none⟩ (.int .i64 a)):=by
 have hm:Mod (λb=>b=r) w (w.setCell ⟨r,1,none⟩ (.int .i64 a)):=(Mod.refl (λb=>b=r) w).setCell (.inl rfl) _ _
 exact⟨⟨by simp[go_sem,h.blk],h.rd.mod hm λb hb e=>h.ne (by rw[←e];exact hb),ha,h.ne,h.len⟩,hm⟩
theorem ca_small{w:World}{K:Kont}{r most:Nat}{v:Value}{l:List UInt8}{s:Rs}(h:RdrAt w r v l s)(hmost:most<18446744073709551616)
  (hK:∀w',RdrAt w' r v l (rsSmall l most s).2→Mod (λb=>b=r) w w' →K (.int .u64 (rsSmall l most s).1) w'):Ca Tryz.prog 69 #[rptr r,.int .u64 most] w K:=by
 apply ca69
 unfold F69
 refine ca_off h ?_
 by_cases he:s.e≠0
 ·rw[ifB_bool,if_pos (by simpa using he)]
  have hr:rsSmall l most s=(0,s):=by unfold rsSmall;rw[if_pos he]
  rw[hr]at hK
  exact hK _ h (Mod.refl _ _)
 rw[ifB_bool,if_neg (by simpa using he)]
 have he0:s.e=0:=by omega
 have hr:rsSmall l most s=match rdN (l.drop s.at_) 0 0 with
  | .error e=>(0,{s with e:=e})
  | .ok (n,k)=>if most<n then(0,{s with e:=5})else(n,{s with at_:=s.at_+k}):=by unfold rsSmall;rw[if_neg he];cases rdN (l.drop s.at_) 0 0<;>rfl
 refine ca_nat h λw1 m1=>?_
 have h1:=h.mod m1 id λ_ _ h=>h
 have tail:∀(e n k:Nat) (w1:World),RdrAt w1 r v l s→Mod (λ_=>False) w w1→s.at_+k≤l.length→
   (if e≠0 then rsSmall l most s=(0,{s with e:=e})else rsSmall l most s=(n,{s with at_:=s.at_+k}))→
   J69_1 (rptr r) K (.int .i64 (s.at_+k:Nat)) (.int .u64 n) (.int .i64 e,()) w1:=by
  intro e n k w1 h1 m1 hk hc
  unfold J69_1
  intro _
  have mm:∀w2,Mod (λb=>b=r) w1 w2→Mod (λb=>b=r) w w2:=λw2 m2=>(m1.mono λ_ _ h=>h.elim).trans m2
  by_cases h0:e≠0
  ·rw[if_pos h0]at hc
   rw[hc]at hK
   have h0' :¬(e:Int)=0:=by omega
   refine rvS (v:=.bool true) (w' :=w1) (by simp[go_sem,h0'];omega) ?_
   rw[ifB_bool,if_pos rfl]
   obtain⟨hA,hM⟩:=h1.fault e
   simp only[rptr,nilK_ptr]
   refine rvS (v:=.pointer (some ⟨r,2,none⟩)) (w' :=w1) (by simp[go_sem]) ?_
   refine ruS (w' :=w1.setCell ⟨r,2,none⟩ (.int .i64 e)) (by simp[go_sem,h1.blk]) ?_
   exact hK _ hA (mm _ hM)
  ·rw[if_neg h0]at hc
   rw[hc]at hK
   have h0' :(e:Int)=0:=by omega
   refine rvS (v:=.bool false) (w' :=w1) (by simp[go_sem,h0']) ?_
   rw[ifB_bool,if_neg Bool.false_ne_true]
   obtain⟨hA,hM⟩:=h1.go (s.at_+k) hk
   simp only[rptr,nilK_ptr]
   refine rvS (v:=.pointer (some ⟨r,1,none⟩)) (w' :=w1) (by simp[go_sem]) ?_
   refine ruS (w' :=w1.setCell ⟨r,1,none⟩ (.int .i64 (s.at_+k:Nat))) (by simp[-Int.natCast_add,go_sem,h1.blk]) ?_
   exact hK _ hA (mm _ hM)
 cases hrd:rdN (l.drop s.at_) 0 0 with
 |error e=>
  have he5:=rdN_err hrd
  unfold natV
  rw[hrd]at hr⊢
  simp only at hr⊢
  refine rvS (v:=.int .u64 0) (w' :=w1) (by simp[go_sem]) ?_
  refine rvS (v:=.int .i64 0) (w' :=w1) (by simp[go_sem]) ?_
  refine rvS (v:=.int .i64 e) (w' :=w1) (by simp[go_sem]) ?_
  refine JoinW.at (λst W=>st=(.int .i64 e,())∧W=w1) ?_ ?_
  ·refine JoinW.at (λst W=>st=(.bool false,())∧W=w1) ?_ ?_
   ·have h0' :¬(e:Int)=0:=by omega
    refine rvS (v:=.bool false) (w' :=w1) (by simp[go_sem];omega) ?_
    rw[ifB_bool,if_neg Bool.false_ne_true]
    exact⟨rfl,rfl⟩
   ·rintro _ w1 ⟨rfl,rfl⟩
    unfold J69_0
    intro _
    rw[ifB_bool,if_neg Bool.false_ne_true]
    exact⟨rfl,rfl⟩
  ·rintro _ w1 ⟨rfl,rfl⟩
   have e0:e≠0:=by omega
   unfold J69_1
   intro _
   rw[hr]at hK
   refine rvS (v:=.bool true) (w' :=w1) (by simp[go_sem];omega) ?_
   rw[ifB_bool,if_pos rfl]
   obtain⟨hA,hM⟩:=h1.fault e
   simp only[rptr,nilK_ptr]
   refine rvS (v:=.pointer (some ⟨r,2,none⟩)) (w' :=w1) (by simp[go_sem]) ?_
   refine ruS (w' :=w1.setCell ⟨r,2,none⟩ (.int .i64 e)) (by simp[go_sem,h1.blk]) ?_
   exact hK _ hA ((m1.mono λ_ _ h=>h.elim).trans hM)
 |ok p=>
  obtain⟨n,k⟩:=p
  have hf:=rdN_form hrd
  have hle:=h.le
  rw[List.length_drop]at hf
  unfold natV
  rw[hrd]at hr⊢
  simp only at hr⊢
  refine rvS (v:=.int .u64 n) (w' :=w1) (by simp[go_sem]) ?_
  refine rvS (v:=.int .i64 (s.at_+k:Nat)) (w' :=w1) (by simp[go_sem]) ?_
  refine rvS (v:=.int .i64 0) (w' :=w1) (by simp[go_sem]) ?_
  refine JoinW.at (λst W=>st=(.int .i64 (if most<n then 5 else 0:Nat),())∧W=w1) ?_ ?_
  ·refine JoinW.at (λst W=>st=(.bool (decide (most<n)),())∧W=w1) ?_ ?_
   ·refine rvS (v:=.bool true) (w' :=w1) (by simp[go_sem]) ?_
    rw[ifB_bool,if_pos rfl]
    refine rvS (v:=.bool (decide (most<n))) (w' :=w1) (by simp[go_sem]) ?_
    exact⟨rfl,rfl⟩
   ·rintro _ w1 ⟨rfl,rfl⟩
    unfold J69_0
    intro _
    by_cases hmn:most<n
    ·rw[ifB_bool,if_pos (by simpa using hmn),if_pos hmn]
     simp
    ·rw[ifB_bool,if_neg (by simpa using hmn),if_neg hmn]
     simp
  ·rintro _ w1 ⟨rfl,rfl⟩
   refine tail (if most<n then 5 else 0) n k _ h1 m1 (by omega) ?_
   by_cases hmn:most<n
   ·rw[if_pos hmn]at hr⊢
    rw[if_pos (by decide)]
    exact hr
   ·rw[if_neg hmn]at hr⊢
    rw[if_neg (by simp)]
    exact hr
theorem ca_rnat{w:World}{K:Kont}{r:Nat}{v:Value}{l:List UInt8}{s:Rs}(h:RdrAt w r v l s)
  (hK:∀w',RdrAt w' r v l (rsSmall l 18446744073709551615 s).2→Mod (λb=>b=r) w w' →K (.int .u64 (rsSmall l 18446744073709551615 s).1) w'):Ca Tryz.prog 61 #[rptr r] w K:=by
 apply ca61
 unfold F61
 exact ca_small h (by decide) hK
theorem ca_done{w:World}{K:Kont}{r:Nat}{v:Value}{l:List UInt8}{s:Rs}(h:RdrAt w r v l s)
  (hK:∀w',Mod (λ_=>False) w w' →K (.int .i64 (rsDone l s)) w'):Ca Tryz.prog 74 #[rptr r] w K:=by
 have hb:=h.blk
 obtain⟨a,c,rfl⟩:=h.rd.isSl
 apply ca74
 unfold F74
 refine rvS (v:=.bool false) (w' :=w) (by simp[go_sem,rptr]) ?_
 rw[ifB_bool,if_neg Bool.false_ne_true]
 refine JoinW.at (λst W=>st=(.bool (decide (s.e=0∧s.at_<l.length)),())∧W=w.drew) ?_ ?_
 ·simp only[rptr,nilK_ptr]
  refine rdPS (v:=.pointer (some ⟨r,2,none⟩)) (λW=>by simp[go_sem]) ?_
  refine rdWS (v:=.int .i64 s.e) (by simp[go_sem,hb]) ?_
  by_cases h0:s.e=0
  ·refine rdPS (v:=.bool true) (λW=>by simp[go_sem,h0]) ?_
   rw[ifB_bool,if_pos rfl]
   refine rdPS (v:=.pointer (some ⟨r,1,none⟩)) (λW=>by simp[go_sem]) ?_
   refine rdWS (v:=.int .i64 s.at_) (by simp[go_sem,hb]) ?_
   refine rdPS (v:=.pointer (some ⟨r,0,none⟩)) (λW=>by simp[go_sem]) ?_
   refine rdWS (v:=.slice a l.length c) (by simp[go_sem,hb]) ?_
   refine rdWS (v:=.int .i64 l.length) (by simp[go_sem]) ?_
   refine rdPS (v:=.bool (decide (s.at_<l.length))) (λW=>by simp[go_sem]) ?_
   simp[h0]
  ·refine rdPS (v:=.bool false) (λW=>by simp[go_sem];omega) ?_
   rw[ifB_bool,if_neg Bool.false_ne_true]
   simp[h0]
 rintro _ _ ⟨rfl,rfl⟩
 unfold J74_0
 intro _
 have hm:Mod (λ_=>False) w w.drew:=(Mod.refl _ w).drew
 by_cases hc:s.e=0∧s.at_<l.length
 ·rw[ifB_bool,if_pos (by simpa using hc)]
  have:=hK _ hm
  unfold rsDone at this
  rw[if_pos hc]at this
  exact this
 ·rw[ifB_bool,if_neg (by simpa using hc)]
  have:=hK _ hm
  unfold rsDone at this
  rw[if_neg hc]at this
  simp only[rptr,nilK_ptr]
  refine rvS (v:=.pointer (some ⟨r,2,none⟩)) (w' :=w.drew) (by simp[go_sem]) ?_
  refine rvS (v:=.int .i64 s.e) (w' :=w.drew) (by simp[go_sem,hb]) ?_
  exact this
theorem bits7{n:Nat}(h:n<9223372036854775808):IntKind.u64.wrap (n:Int)=n:=wrapU (by omega) (by omega)
end Go.Proofs
