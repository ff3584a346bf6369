/- Part of a proof. -/
import Derived.Test.YtgebhcgmckjbbaaGreatProg
import Derived.Test.YtgebhcgmckjbbaaGreatO3
set_option linter.all false
namespace Go.Vc
open Go
theorem loopV{S:Type}{body:S→World→(S→World→Prop)→Prop}{s:S}{w:World}(I:S→World→Prop)(m:S→World→Nat)(h0:I s w)
  (h:∀s w,I s w→∀KN:S→World→Prop,(∀s' w',I s' w' →m s' w' <m s w→KN s' w')→body s w KN):LoopW body s w:=
 ⟨⟨I,m,h0,λs w hi=>h s w hi _ λ_ _ h1 h2=>⟨h1,h2⟩⟩⟩
theorem Ca_congV{P:Program}{f:FuncId}{args args' :Array Value}{w w' :World}{K:Kont}(h1:args=args')(h2:w=w'):Ca P f args w K=Ca P f args' w' K:=by subst h1 h2;rfl
theorem rvS{P:Program}{s:Sem Value}{w:World}{K:Kont}{v:Value}{w' :World}(h:s.run P w=.ok v w')(hK:K v w'):rv P s w K:=by
 rw[rv_iff];unfold rvD;rw[h];exact hK
theorem ruS{P:Program}{s:Sem Unit}{w:World}{K:World→Prop}{w' :World}(h:s.run P w=.ok () w')(hK:K w'):ru P s w K:=by
 rw[ru_iff];unfold ruD;rw[h];exact hK
theorem rnS{P:Program}{s:Sem Next}{w:World}{K:Kont}{v:Value}{w' :World}(h:s.run P w=.ok (.value v) w')(hK:K v w'):rn P s w K:=by
 rw[rn_iff];unfold rnD;rw[h];exact hK
theorem rdWS{P:Program}{s:Sem Value}{w:World}{K:Value→Prop}{v:Value}(h:s.run P w=.ok v w)(hK:K v):rdW P s w K:=by
 rw[rdW_iff];unfold rdWD;rw[h];exact⟨rfl,hK⟩
theorem rdPS{P:Program}{s:Sem Value}{K:Value→Prop}{v:Value}(h:∀w,s.run P w=.ok v w)(hK:K v):rdP P s K:=⟨⟨v,h,hK⟩⟩
theorem elem_slice{P:Program}{t e:TypeId}(h:P.underlying t=some (.slice e)):P.underlying t=some (.slice (P.elem t))∧P.elem t=e:=by
 have:P.elem t=e:=by simp[Program.elem,h]
 rw[this];exact⟨h,rfl⟩
theorem Rd.part{P:Program}{t e:TypeId}{w:World}{sz n:Nat}{v:Value}{cs:List Value}(hu:P.underlying t=some (.slice e))(hc:P.cellsOf e=sz+1)(h:Rd w (sz+1) v n cs)
  {lo hi:Nat}(h1:lo≤hi)(h2:hi≤n)(kl kh:IntKind):
  ∃v',(∀W,(Instr.sliceAt t v (some (.int kl (lo:Int))) (some (.int kh (hi:Int))) none).run P W=.ok v' W)∧Rd w (sz+1) v' (hi - lo) ((cs.drop (lo*(sz+1))).take ((hi - lo)*(sz+1)))∧(∀b,inRd v' b→inRd v b):=by
 obtain⟨hE,he⟩:=elem_slice hu
 obtain⟨hl,hv⟩:=h
 obtain⟨a,cap,rfl,hcap⟩:∃a cap,v=.slice a n cap∧(n≤cap∨n=0):=by
  rcases hv with⟨rfl,a,c,rfl⟩|⟨b,off,cap,rfl,hc,_⟩
  ·exact⟨a,c,rfl,.inr rfl⟩
  ·exact⟨_,cap,rfl,.inl hc⟩
 have hcap' :hi≤cap:=by rcases hcap with h|h<;>omega
 refine⟨sliced a lo hi cap (sz+1),λW=>?_,?_,?_⟩
 ·rw[run_sliceAt_slice W t _ _ _ _ hE,run_slice_lh W t a n cap hE kl kh lo hi (by omega) (by omega) (by omega),he,run_sizeOf hc]
  simp[Result.andThen]
 ·refine⟨?_,?_⟩
  ·rw[List.length_take,List.length_drop,hl]
   have:=Nat.mul_le_mul_right (sz+1) h2
   rw[Nat.sub_mul];omega
  ·by_cases h0:hi - lo=0
   ·left
    exact⟨h0,_,_,by unfold sliced;rw[h0]⟩
   ·rcases hv with⟨hn0,_⟩|⟨b,off,cap',he',hc',hA⟩
    ·omega
    injection he' with e1 e2 e3
    subst e1;subst e3
    right
    refine⟨b,off+lo*(sz+1),cap - lo,?_,by omega,?_⟩
    ·unfold sliced
     rw[if_neg (by omega)]
     simp[addr_add]
    ·have:=hA.sub (lo*(sz+1)) ((hi - lo)*(sz+1)) (by
      rw[hl,←Nat.add_mul]
      exact Nat.mul_le_mul_right _ (by omega))
     exact this
 ·rintro b ⟨a',m,c',hs,hm,rfl⟩
  unfold sliced at hs
  injection hs with e1 e2 e3
  by_cases hcl:cap=lo
  ·rw[if_pos hcl]at e1
   exact⟨a',n,cap,by rw[e1],by omega,rfl⟩
  ·rw[if_neg hcl]at e1
   cases a with
   |none=>cases e1
   |some a0=>
    simp only[Option.map_some,Option.some.injEq]at e1
    refine⟨a0,n,cap,rfl,by omega,?_⟩
    rcases hv with⟨hn0,_⟩|⟨b,off,cap',he',hc',hA⟩
    ·omega
    ·injection he' with e4
     injection e4 with e4
     subst e4
     rw[←e1,addr_add]
theorem Rd.from_{P:Program}{t e:TypeId}{w:World}{sz n:Nat}{v:Value}{cs:List Value}(hu:P.underlying t=some (.slice e))(hc:P.cellsOf e=sz+1)(h:Rd w (sz+1) v n cs)
  {lo:Nat}(h1:lo≤n)(kl:IntKind):
  ∃v',(∀W,(Instr.sliceAt t v (some (.int kl (lo:Int))) none none).run P W=.ok v' W)∧Rd w (sz+1) v' (n - lo) (cs.drop (lo*(sz+1)))∧(∀b,inRd v' b→inRd v b):=by
 obtain⟨v',hr,hd,hb⟩:=h.part hu hc h1 (Nat.le_refl n) kl .i64
 obtain⟨hE,he⟩:=elem_slice hu
 refine⟨v',λW=>?_,?_,hb⟩
 ·rw[←hr W]
  obtain⟨hl,hv⟩:=h
  obtain⟨a,cap,rfl,hcap⟩:∃a cap,v=.slice a n cap∧(n≤cap∨n=0):=by
   rcases hv with⟨rfl,a,c,rfl⟩|⟨b,off,cap,rfl,hc,_⟩
   ·exact⟨a,c,rfl,.inr rfl⟩
   ·exact⟨_,cap,rfl,.inl hc⟩
  have hcap' :n≤cap:=by rcases hcap with h|h<;>omega
  rw[run_sliceAt_slice W t _ _ _ _ hE,run_sliceAt_slice W t _ _ _ _ hE,run_slice_lh W t a n cap hE kl .i64 lo n (by omega) (by omega) (by omega),run_slice_l W t a n cap hE kl lo (by omega) (by omega)]
  rfl
 ·have e:(cs.drop (lo*(sz+1))).take ((n - lo)*(sz+1))=cs.drop (lo*(sz+1)):=by
   rw[List.take_of_length_le]
   rw[List.length_drop,h.1,Nat.sub_mul];omega
  rwa[e]at hd
theorem Rd.byte{w:World}{v:Value}{n:Nat}{l:List UInt8}(h:Rd w 1 v n (bv l)){i:Nat}(hi:i<n)(hl:i<l.length):
  ∃b off cap C e fz,v=.slice (some ⟨b,off,none⟩) n cap∧n≤cap∧hp w b=some (.cells C e fz)∧C[off+i]? =some (.int .u8 (l[i].toNat:Int)):=by
 obtain⟨_,⟨h0,_⟩|⟨b,off,cap,rfl,hc,hA⟩⟩:=h
 ·omega
 ·obtain⟨C,e,fz,hC,hg⟩:=hA.get
  exact⟨b,off,cap,C,e,fz,rfl,hc,hC,hg i _ (by rw[bv,List.getElem?_map,List.getElem?_eq_getElem hl];rfl)⟩
theorem dupV{P:Program}{t e:TypeId}{sz by_ m:Nat}{w:World}{x:Value}{news:List Value}{K:Kont}(ht:P.underlying t=some (.slice e))(hE:ElemT P e sz by_)(hx:Rd w sz x m news)(h1:news.all (·.oneCell')=true)(hb:m*by_≤140737488355328)
  (hK:∀s' w',Own w' e sz s' m news→Mod (λ_=>False) w w' →(∀b,inSl s' b→w.heap.size≤b)→K s' w'):
  rx P (xLit t 0 []) w λv w1=>rx P (xAppend #[t,t] t [v,x]) w1 K:=by
 refine rx_lit [] ht hE rfl rfl (by simp) (by omega) ?_
 have mA:∀o,Mod (λ_=>False) w (w.alloc o):=λo=>(Mod.refl _ w).alloc o
 refine rx_append (n:=0) (m:=m) (cs:=[]) ht ht hE ?_ (hx.mod (mA _) λ_ _ h=>h) h1 (by rw[Nat.zero_add];exact hb) λs' w' o' m' n' =>?_
 ·refine⟨by simp,.inr ⟨w.heap.size,0,[],rfl,Nat.le_refl _,?_,by simp⟩⟩
  rw[heap_alloc,if_pos rfl]
  simp
 ·have hS:∀b,inSl (.slice (some ⟨w.heap.size,0,none⟩) 0 0) b→w.heap.size≤b:=λb hb=>by
   simp only[inSl,slBlk]at hb
   have:=Option.some.inj hb
   omega
  refine hK s' w' (by simpa using o') ((mA _).on m' λb hb=>.inr (hS b hb)) λb hb=>?_
  rcases n' b hb with h|h
  ·exact hS b h
  ·rw[World.size_alloc]at h;omega
theorem bv_cellsV:∀us:List UInt8,(bv us).flatMap (·.cells.toList)=bv us
 | []=>rfl
 |u::us=>by
  show(Value.cells (Value.int .u8 u.toNat)).toList++(bv us).flatMap (λv=>v.cells.toList)=_
  rw[bv_cellsV us]
  rfl
theorem litV{P:Program}{t e:TypeId}{w:World}{K:Kont}{n:Nat}{parts:List (Nat×Value)}(us:List UInt8)(ht:P.underlying t=some (.slice e))(hE:ElemT P e 1 1)(hpa:parts=us.zipIdx.map λp=>(p.2,.int .u8 p.1.toNat))(hn:us.length=n)(hb:n≤1000)
  (hK:∀v w',Own w' e 1 v n (bv us)→Mod (λ_=>False) w w' →(∀b,inSl v b→w.heap.size≤b∧b<w'.heap.size)→K v w'):rx P (xLit t n parts) w K:=by
 have e' :parts=(bv us).zipIdx.map λp=>(p.2,p.1):=by
  rw[hpa,bv,List.zipIdx_map,List.map_map]
  rfl
 have hf:=bv_cellsV us
 refine rx_lit (bv us) ht hE e' (by simpa using hn) (λv hv=>by
  obtain⟨u,_,rfl⟩:=List.mem_map.1 hv
  rfl) (by omega) ?_
 rw[hf]
 refine hK _ _ ⟨by simpa using hn,.inr ⟨_,n,[],rfl,Nat.le_refl _,by show hp _ _=_;simp[go_sem],by simp,by simp⟩⟩ ((Mod.refl _ w).alloc _) λb hb=>?_
 have:b=w.heap.size:=by cases hb;rfl
 rw[World.size_alloc]
 omega
theorem Mod.hpk{F:Nat→Prop}{w w' :World}(h:Mod F w w'){b:Nat}{o:Obj}(ho:hp w b=some o)(hf:¬F b):hp w' b=some o:=h.keep ho hf
theorem wrapI{n:Int}(h0: -9223372036854775808≤n)(h1:n<9223372036854775808):IntKind.i64.wrap n=n:=by rw[IntKind.wrap_i64];omega
theorem wrapU{n:Int}(h0:0≤n)(h1:n<18446744073709551616):IntKind.u64.wrap n=n:=by rw[IntKind.wrap_u64];omega
end Go.Vc
namespace Go.Vc
def natB(n:Nat):List UInt8:=if n<128 then [UInt8.ofNat n]else UInt8.ofNat (n%128+128)::natB (n / 128)
 termination_by n
 decreasing_by omega
theorem natB_lt{n:Nat}(h:n<128):natB n=[UInt8.ofNat n]:=by rw[natB,if_pos h]
theorem natB_ge{n:Nat}(h:¬n<128):natB n=UInt8.ofNat (n%128+128)::natB (n / 128):=by rw[natB,if_neg h]
theorem natB_len:∀(k n:Nat),n<128 ^ (k+1)→(natB n).length≤k+1
 |0,n,h=>by rw[natB_lt (by simpa using h)];simp
 |k+1,n,h=>by
  by_cases h1:n<128
  ·rw[natB_lt h1];simp
  ·rw[natB_ge h1]
   have:=natB_len k (n / 128) (by rw[Nat.div_lt_iff_lt_mul (by decide)];rw[Nat.pow_succ]at h;exact h)
   simp only[List.length_cons];omega
theorem natB_len10{n:Nat}(h:n<18446744073709551616):(natB n).length≤10:=natB_len 9 n (Nat.lt_of_lt_of_le h (by decide))
theorem natB_pos(n:Nat):0<(natB n).length:=by
 rw[natB];split<;>simp
theorem u8_of{n:Nat}(h:n<256):(UInt8.ofNat n).toNat=n:=by simp;omega
def rdN:List UInt8→Nat→Nat→Except Nat (Nat×Nat)
 | [],_,_=>.error 4
 |x::r,k,acc=>
  if k=9∧1<x.toNat∨9<k then .error 5
  else if x.toNat<128 then(if x.toNat=0∧0<k then .error 5 else .ok (acc+x.toNat%128*128 ^ k,k+1))
  else rdN r (k+1) (acc+x.toNat%128*128 ^ k)
theorem rdN_form_aux:∀(l:List UInt8) (k acc n m:Nat),rdN l k acc=.ok (n,m)→k≤9→
  ∃d,n=acc+d*128 ^ k∧m=k+(natB d).length∧(natB d).length≤l.length∧l.take (natB d).length=natB d∧(0<d∨k=0)∧d*128 ^ k<18446744073709551616
 | [],_,_,_,_,h,_=>by cases h
 |x::r,k,acc,n,m,h,hk=>by
  have hx:=x.toNat_lt
  simp only[rdN]at h
  by_cases h9:k=9∧1<x.toNat∨9<k
  ·rw[if_pos h9]at h;cases h
  rw[if_neg h9]at h
  have hxo:UInt8.ofNat x.toNat=x:=by simp
  have hpw:128 ^ k*128 ^ (9 - k)=9223372036854775808:=by
   rw[←Nat.pow_add,show k+(9 - k)=9 by omega]
  by_cases h1:x.toNat<128
  ·rw[if_pos h1]at h
   by_cases h2:x.toNat=0∧0<k
   ·rw[if_pos h2]at h;cases h
   rw[if_neg h2]at h
   cases h
   refine⟨x.toNat,by rw[Nat.mod_eq_of_lt h1],?_,?_,?_,by omega,?_⟩
   ·rw[natB_lt h1];rfl
   ·rw[natB_lt h1];simp
   ·rw[natB_lt h1,hxo];simp
   ·by_cases hk9:k=9
    ·subst hk9
     have:x.toNat≤1:=by omega
     have:=Nat.mul_le_mul_right (128 ^ 9) this
     have e:(128:Nat) ^ 9=9223372036854775808:=by decide
     omega
    ·have h8:128 ^ k≤128 ^ 8:=Nat.pow_le_pow_right (by decide) (by omega)
     have h7:=Nat.mul_le_mul (show x.toNat≤127 by omega) h8
     have e:(127:Nat)*128 ^ 8<18446744073709551616:=by decide
     omega
  ·rw[if_neg h1]at h
   have hk8:k≠9:=λe=>h9 (.inl ⟨e,by omega⟩)
   obtain⟨d,hd1,hd2,hd3,hd4,hd5,hd6⟩:=rdN_form_aux r (k+1) _ n m h (by omega)
   have hdp:0<d:=by omega
   have hq:(x.toNat%128+d*128) / 128=d:=by omega
   have hq2:(x.toNat%128+d*128)%128+128=x.toNat:=by omega
   have hnb:natB (x.toNat%128+d*128)=x::natB d:=by rw[natB_ge (by omega),hq,hq2,hxo]
   have he:(x.toNat%128+d*128)*128 ^ k=x.toNat%128*128 ^ k+d*128 ^ (k+1):=by
    rw[Nat.add_mul,Nat.pow_succ,Nat.mul_comm (128 ^ k) 128,Nat.mul_assoc]
   refine⟨x.toNat%128+d*128,?_,?_,?_,?_,by omega,?_⟩
   ·rw[hd1,he];omega
   ·rw[hnb,hd2,List.length_cons];omega
   ·rw[hnb];simpa using hd3
   ·rw[hnb];simp[hd4]
   ·rw[he]
    have h1' :x.toNat%128*128 ^ k<128 ^ (k+1):=by
     rw[Nat.pow_succ,Nat.mul_comm]
     exact Nat.mul_lt_mul_of_pos_left (Nat.mod_lt _ (by decide)) (Nat.pow_pos (by decide))
    have h2' :128 ^ (k+1)*128 ^ (8 - k)=9223372036854775808:=by
     rw[←Nat.pow_add,show k+1+(8 - k)=9 by omega]
    have h3' :d<2*128 ^ (8 - k):=by
     apply Classical.byContradiction
     intro hc
     have:=Nat.mul_le_mul_right (128 ^ (k+1)) (Nat.le_of_not_lt hc)
     rw[Nat.mul_assoc,Nat.mul_comm (128 ^ (8 - k)),h2']at this
     omega
    have h4' :=Nat.mul_le_mul_right (128 ^ (k+1)) (show d+1≤2*128 ^ (8 - k)from h3')
    rw[Nat.mul_assoc,Nat.mul_comm (128 ^ (8 - k)),h2',Nat.add_mul]at h4'
    omega
theorem rdN_form{l:List UInt8}{n m:Nat}(h:rdN l 0 0=.ok (n,m)):m=(natB n).length∧m≤l.length∧l.take m=natB n∧n<18446744073709551616:=by
 obtain⟨d,h1,h2,h3,h4,_,h6⟩:=rdN_form_aux l 0 0 n m h (by omega)
 simp only[Nat.pow_zero,Nat.mul_one,Nat.zero_add]at h1 h2 h6
 subst h1;subst h2
 exact⟨rfl,h3,h4,h6⟩
structure Rs where
 at_:Nat
 e:Nat
def rsSmall(l:List UInt8)(most:Nat)(s:Rs):Nat×Rs:=
 if s.e≠0 then(0,s)else
 match rdN (l.drop s.at_) 0 0 with
 | .error e=>(0,{s with e:=e})
 | .ok (n,k)=>if most<n then(0,{s with e:=5})else(n,{s with at_:=s.at_+k})
def rsDone(l:List UInt8)(s:Rs):Nat:=if s.e=0∧s.at_<l.length then 5 else s.e
theorem rsSmall_le{l:List UInt8}{most:Nat}{s:Rs}(h:s.at_≤l.length):(rsSmall l most s).2.at_≤l.length:=by
 unfold rsSmall
 split
 ·exact h
 ·split
  ·exact h
  ·rename_i n k hr
   have:=(rdN_form hr).2.1
   rw[List.length_drop]at this
   split
   ·exact h
   ·show s.at_+k≤l.length
    omega
theorem rsSmall_most{l:List UInt8}{most:Nat}{s:Rs}:(rsSmall l most s).1≤most:=by
 unfold rsSmall
 split
 ·exact Nat.zero_le _
 ·split
  ·exact Nat.zero_le _
  ·split
   ·exact Nat.zero_le _
   ·rename_i h;exact Nat.le_of_not_lt h
structure Tn where
 c:Nat
 q:Nat
 b:List UInt8
def Tn.May(o:Tn):Prop:=o.c<64∧o.q≠0∧o.b.length≤2000
instance(o:Tn):Decidable o.May:=by unfold Tn.May;infer_instance
end Go.Vc
namespace Go.Proofs
open Go Go.Vc
theorem Tryz.noNum:NoNum Tryz.prog=true:=by kernel_rfl
end Go.Proofs
