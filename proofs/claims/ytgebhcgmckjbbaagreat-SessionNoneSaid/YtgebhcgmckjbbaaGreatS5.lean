/- Part of a proof. -/
import Derived.Test.YtgebhcgmckjbbaaGreatProg
import Derived.Test.YtgebhcgmckjbbaaGreatS4
set_option linter.all false
namespace Go.Vc
open Go
theorem loopV{S:Type}{body:S→World→(S→World→Prop)→Prop}{s:S}{w:World}(I:S→World→Prop)(m:S→World→Nat)(h0:I s w)
  (h:∀s w,I s w→∀KN:S→World→Prop,(∀s' w',I s' w' →m s' w' <m s w→KN s' w')→body s w KN):LoopW body s w:=
 ⟨⟨I,m,h0,λs w hi=>h s w hi _ λ_ _ h1 h2=>⟨h1,h2⟩⟩⟩
theorem Ca_congV{P:Program}{f:FuncId}{args args' :Array Value}{w w' :World}{K:Kont}(h1:args=args')(h2:w=w'):Ca P f args w K=Ca P f args' w' K:=by subst h1 h2;rfl
theorem rvS{P:Program}{s:Sem Value}{w:World}{K:Kont}{v:Value}{w' :World}(h:s.run P w=.ok v w')(hK:K v w'):rv P s w K:=by
 rw[rv_iff];unfold rvD;rw[h];exact hK
theorem ruS{P:Program}{s:Sem Unit}{w:World}{K:World→Prop}{w' :World}(h:s.run P w=.ok () w')(hK:K w'):ru P s w K:=by
 rw[ru_iff];unfold ruD;rw[h];exact hK
theorem rnS{P:Program}{s:Sem Next}{w:World}{K:Kont}{v:Value}{w' :World}(h:s.run P w=.ok (.value v) w')(hK:K v w'):rn P s w K:=by
 rw[rn_iff];unfold rnD;rw[h];exact hK
theorem rdWS{P:Program}{s:Sem Value}{w:World}{K:Value→Prop}{v:Value}(h:s.run P w=.ok v w)(hK:K v):rdW P s w K:=by
 rw[rdW_iff];unfold rdWD;rw[h];exact⟨rfl,hK⟩
theorem rdPS{P:Program}{s:Sem Value}{K:Value→Prop}{v:Value}(h:∀w,s.run P w=.ok v w)(hK:K v):rdP P s K:=⟨⟨v,h,hK⟩⟩
theorem elem_slice{P:Program}{t e:TypeId}(h:P.underlying t=some (.slice e)):P.underlying t=some (.slice (P.elem t))∧P.elem t=e:=by
 have:P.elem t=e:=by simp[Program.elem,h]
 rw[this];exact⟨h,rfl⟩
theorem Rd.part{P:Program}{t e:TypeId}{w:World}{sz n:Nat}{v:Value}{cs:List Value}(hu:P.underlying t=some (.slice e))(hc:P.cellsOf e=sz+1)(h:Rd w (sz+1) v n cs)
  {lo hi:Nat}(h1:lo≤hi)(h2:hi≤n)(kl kh:IntKind):
  ∃v',(∀W,(Instr.sliceAt t v (some (.int kl (lo:Int))) (some (.int kh (hi:Int))) none).run P W=.ok v' W)∧Rd w (sz+1) v' (hi - lo) ((cs.drop (lo*(sz+1))).take ((hi - lo)*(sz+1)))∧(∀b,inRd v' b→inRd v b):=by
 obtain⟨hE,he⟩:=elem_slice hu
 obtain⟨hl,hv⟩:=h
 obtain⟨a,cap,rfl,hcap⟩:∃a cap,v=.slice a n cap∧(n≤cap∨n=0):=by
  rcases hv with⟨rfl,a,c,rfl⟩|⟨b,off,cap,rfl,hc,_⟩
  ·exact⟨a,c,rfl,.inr rfl⟩
  ·exact⟨_,cap,rfl,.inl hc⟩
 have hcap' :hi≤cap:=by rcases hcap with h|h<;>omega
 refine⟨sliced a lo hi cap (sz+1),λW=>?_,?_,?_⟩
 ·rw[run_sliceAt_slice W t _ _ _ _ hE,run_slice_lh W t a n cap hE kl kh lo hi (by omega) (by omega) (by omega),he,run_sizeOf hc]
  simp[Result.andThen]
 ·refine⟨?_,?_⟩
  ·rw[List.length_take,List.length_drop,hl]
   have:=Nat.mul_le_mul_right (sz+1) h2
   rw[Nat.sub_mul];omega
  ·by_cases h0:hi - lo=0
   ·left
    exact⟨h0,_,_,by unfold sliced;rw[h0]⟩
   ·rcases hv with⟨hn0,_⟩|⟨b,off,cap',he',hc',hA⟩
    ·omega
    injection he' with e1 e2 e3
    subst e1;subst e3
    right
    refine⟨b,off+lo*(sz+1),cap - lo,?_,by omega,?_⟩
    ·unfold sliced
     rw[if_neg (by omega)]
     simp[addr_add]
    ·have:=hA.sub (lo*(sz+1)) ((hi - lo)*(sz+1)) (by
      rw[hl,←Nat.add_mul]
      exact Nat.mul_le_mul_right _ (by omega))
     exact this
 ·rintro b ⟨a',m,c',hs,hm,rfl⟩
  unfold sliced at hs
  injection hs with e1 e2 e3
  by_cases hcl:cap=lo
  ·rw[if_pos hcl]at e1
   exact⟨a',n,cap,by rw[e1],by omega,rfl⟩
  ·rw[if_neg hcl]at e1
   cases a with
   |none=>cases e1
   |some a0=>
    simp only[Option.map_some,Option.some.injEq]at e1
    refine⟨a0,n,cap,rfl,by omega,?_⟩
    rcases hv with⟨hn0,_⟩|⟨b,off,cap',he',hc',hA⟩
    ·omega
    ·injection he' with e4
     injection e4 with e4
     subst e4
     rw[←e1,addr_add]
theorem Rd.from_{P:Program}{t e:TypeId}{w:World}{sz n:Nat}{v:Value}{cs:List Value}(hu:P.underlying t=some (.slice e))(hc:P.cellsOf e=sz+1)(h:Rd w (sz+1) v n cs)
  {lo:Nat}(h1:lo≤n)(kl:IntKind):
  ∃v',(∀W,(Instr.sliceAt t v (some (.int kl (lo:Int))) none none).run P W=.ok v' W)∧Rd w (sz+1) v' (n - lo) (cs.drop (lo*(sz+1)))∧(∀b,inRd v' b→inRd v b):=by
 obtain⟨v',hr,hd,hb⟩:=h.part hu hc h1 (Nat.le_refl n) kl .i64
 obtain⟨hE,he⟩:=elem_slice hu
 refine⟨v',λW=>?_,?_,hb⟩
 ·rw[←hr W]
  obtain⟨hl,hv⟩:=h
  obtain⟨a,cap,rfl,hcap⟩:∃a cap,v=.slice a n cap∧(n≤cap∨n=0):=by
   rcases hv with⟨rfl,a,c,rfl⟩|⟨b,off,cap,rfl,hc,_⟩
   ·exact⟨a,c,rfl,.inr rfl⟩
   ·exact⟨_,cap,rfl,.inl hc⟩
  have hcap' :n≤cap:=by rcases hcap with h|h<;>omega
  rw[run_sliceAt_slice W t _ _ _ _ hE,run_sliceAt_slice W t _ _ _ _ hE,run_slice_lh W t a n cap hE kl .i64 lo n (by omega) (by omega) (by omega),run_slice_l W t a n cap hE kl lo (by omega) (by omega)]
  rfl
 ·have e:(cs.drop (lo*(sz+1))).take ((n - lo)*(sz+1))=cs.drop (lo*(sz+1)):=by
   rw[List.take_of_length_le]
   rw[List.length_drop,h.1,Nat.sub_mul];omega
  rwa[e]at hd
theorem Rd.byte{w:World}{v:Value}{n:Nat}{l:List UInt8}(h:Rd w 1 v n (bv l)){i:Nat}(hi:i<n)(hl:i<l.length):
  ∃b off cap C e fz,v=.slice (some ⟨b,off,none⟩) n cap∧n≤cap∧hp w b=some (.cells C e fz)∧C[off+i]? =some (.int .u8 (l[i].toNat:Int)):=by
 obtain⟨_,⟨h0,_⟩|⟨b,off,cap,rfl,hc,hA⟩⟩:=h
 ·omega
 ·obtain⟨C,e,fz,hC,hg⟩:=hA.get
  exact⟨b,off,cap,C,e,fz,rfl,hc,hC,hg i _ (by rw[bv,List.getElem?_map,List.getElem?_eq_getElem hl];rfl)⟩
theorem Rd.len_eq{w:World}{v:Value}{n:Nat}{l:List UInt8}(h:Rd w 1 v n (bv l)):l.length=n:=by simpa using h.1
theorem dupV{P:Program}{t e:TypeId}{sz by_ m:Nat}{w:World}{x:Value}{news:List Value}{K:Kont}(ht:P.underlying t=some (.slice e))(hE:ElemT P e sz by_)(hx:Rd w sz x m news)(h1:news.all (·.oneCell')=true)(hb:m*by_≤140737488355328)
  (hK:∀s' w',Own w' e sz s' m news→Mod (λ_=>False) w w' →(∀b,inSl s' b→w.heap.size≤b)→K s' w'):
  rx P (xLit t 0 []) w λv w1=>rx P (xAppend #[t,t] t [v,x]) w1 K:=by
 refine rx_lit [] ht hE rfl rfl (by simp) (by omega) ?_
 have mA:∀o,Mod (λ_=>False) w (w.alloc o):=λo=>(Mod.refl _ w).alloc o
 refine rx_append (n:=0) (m:=m) (cs:=[]) ht ht hE ?_ (hx.mod (mA _) λ_ _ h=>h) h1 (by rw[Nat.zero_add];exact hb) λs' w' o' m' n' =>?_
 ·refine⟨by simp,.inr ⟨w.heap.size,0,[],rfl,Nat.le_refl _,?_,by simp⟩⟩
  rw[heap_alloc,if_pos rfl]
  simp
 ·have hS:∀b,inSl (.slice (some ⟨w.heap.size,0,none⟩) 0 0) b→w.heap.size≤b:=λb hb=>by
   simp only[inSl,slBlk]at hb
   have:=Option.some.inj hb
   omega
  refine hK s' w' (by simpa using o') ((mA _).on m' λb hb=>.inr (hS b hb)) λb hb=>?_
  rcases n' b hb with h|h
  ·exact hS b h
  ·rw[World.size_alloc]at h;omega
theorem bv_cellsV:∀us:List UInt8,(bv us).flatMap (·.cells.toList)=bv us
 | []=>rfl
 |u::us=>by
  show(Value.cells (Value.int .u8 u.toNat)).toList++(bv us).flatMap (λv=>v.cells.toList)=_
  rw[bv_cellsV us]
  rfl
theorem litV{P:Program}{t e:TypeId}{w:World}{K:Kont}{n:Nat}{parts:List (Nat×Value)}(us:List UInt8)(ht:P.underlying t=some (.slice e))(hE:ElemT P e 1 1)(hpa:parts=us.zipIdx.map λp=>(p.2,.int .u8 p.1.toNat))(hn:us.length=n)(hb:n≤1000)
  (hK:∀v w',Own w' e 1 v n (bv us)→Mod (λ_=>False) w w' →(∀b,inSl v b→w.heap.size≤b∧b<w'.heap.size)→K v w'):rx P (xLit t n parts) w K:=by
 have e' :parts=(bv us).zipIdx.map λp=>(p.2,p.1):=by
  rw[hpa,bv,List.zipIdx_map,List.map_map]
  rfl
 have hf:=bv_cellsV us
 refine rx_lit (bv us) ht hE e' (by simpa using hn) (λv hv=>by
  obtain⟨u,_,rfl⟩:=List.mem_map.1 hv
  rfl) (by omega) ?_
 rw[hf]
 refine hK _ _ ⟨by simpa using hn,.inr ⟨_,n,[],rfl,Nat.le_refl _,by show hp _ _=_;simp[go_sem],by simp,by simp⟩⟩ ((Mod.refl _ w).alloc _) λb hb=>?_
 have:b=w.heap.size:=by cases hb;rfl
 rw[World.size_alloc]
 omega
theorem Mod.hpk{F:Nat→Prop}{w w' :World}(h:Mod F w w'){b:Nat}{o:Obj}(ho:hp w b=some o)(hf:¬F b):hp w' b=some o:=h.keep ho hf
theorem wrapI{n:Int}(h0: -9223372036854775808≤n)(h1:n<9223372036854775808):IntKind.i64.wrap n=n:=by rw[IntKind.wrap_i64];omega
theorem wrapU{n:Int}(h0:0≤n)(h1:n<18446744073709551616):IntKind.u64.wrap n=n:=by rw[IntKind.wrap_u64];omega
end Go.Vc
namespace Go.Vc
def natB(n:Nat):List UInt8:=if n<128 then [UInt8.ofNat n]else UInt8.ofNat (n%128+128)::natB (n / 128)
 termination_by n
 decreasing_by omega
theorem natB_lt{n:Nat}(h:n<128):natB n=[UInt8.ofNat n]:=by rw[natB,if_pos h]
theorem natB_ge{n:Nat}(h:¬n<128):natB n=UInt8.ofNat (n%128+128)::natB (n / 128):=by rw[natB,if_neg h]
theorem natB_len:∀(k n:Nat),n<128 ^ (k+1)→(natB n).length≤k+1
 |0,n,h=>by rw[natB_lt (by simpa using h)];simp
 |k+1,n,h=>by
  by_cases h1:n<128
  ·rw[natB_lt h1];simp
  ·rw[natB_ge h1]
   have:=natB_len k (n / 128) (by rw[Nat.div_lt_iff_lt_mul (by decide)];rw[Nat.pow_succ]at h;exact h)
   simp only[List.length_cons];omega
theorem natB_len10{n:Nat}(h:n<18446744073709551616):(natB n).length≤10:=natB_len 9 n (Nat.lt_of_lt_of_le h (by decide))
theorem u8_of{n:Nat}(h:n<256):(UInt8.ofNat n).toNat=n:=by simp;omega
def rdN:List UInt8→Nat→Nat→Except Nat (Nat×Nat)
 | [],_,_=>.error 4
 |x::r,k,acc=>
  if k=9∧1<x.toNat∨9<k then .error 5
  else if x.toNat<128 then(if x.toNat=0∧0<k then .error 5 else .ok (acc+x.toNat%128*128 ^ k,k+1))
  else rdN r (k+1) (acc+x.toNat%128*128 ^ k)
theorem rdN_natB_aux:∀(j n k acc:Nat) (r:List UInt8),n<128 ^ (j+1)→k+j=9→n*128 ^ k<18446744073709551616→(0<n∨k=0)→rdN (natB n++r) k acc=.ok (acc+n*128 ^ k,k+(natB n).length)
 |j,n,k,acc,r,hn,hk,hb,h0=>by
  by_cases h1:n<128
  ·rw[natB_lt h1]
   simp only[List.cons_append,List.nil_append,rdN,u8_of (show n<256 by omega),List.length_singleton]
   have h9:¬(k=9∧1<n∨9<k):=by
    rintro(⟨rfl,h⟩|h)
    ·have:2*128 ^ 9≤n*128 ^ 9:=Nat.mul_le_mul_right _ h
     have e:(2:Nat)*128 ^ 9=18446744073709551616:=by decide
     omega
    ·omega
   rw[if_neg h9,if_pos h1,if_neg (by omega),Nat.mod_eq_of_lt h1]
  ·rw[natB_ge h1]
   cases j with
   |zero=>simp at hn;omega
   |succ j=>
    have h9:¬(k=9∧1<n%128+128∨9<k):=by omega
    have hm:(n%128+128)%128=n%128:=by omega
    simp only[List.cons_append,rdN,u8_of (show n%128+128<256 by omega),List.length_cons]
    rw[if_neg h9,if_neg (by omega),hm]
    have e:n%128*128 ^ k+n / 128*128 ^ (k+1)=n*128 ^ k:=by
     rw[Nat.pow_succ,Nat.mul_comm (128 ^ k) 128,←Nat.mul_assoc,←Nat.add_mul]
     congr 1;omega
    rw[rdN_natB_aux j (n / 128) (k+1) _ r (by rw[Nat.div_lt_iff_lt_mul (by decide)];rw[Nat.pow_succ]at hn;exact hn) (by omega) (by omega) (by omega),Nat.add_assoc,e]
    congr 2;omega
theorem rdN_natB{n:Nat}(r:List UInt8)(h:n<18446744073709551616):rdN (natB n++r) 0 0=.ok (n,(natB n).length):=by
 have:=rdN_natB_aux 9 n 0 0 r (Nat.lt_of_lt_of_le h (by decide)) rfl (by simpa using h) (.inr rfl)
 simpa using this
theorem rdN_form_aux:∀(l:List UInt8) (k acc n m:Nat),rdN l k acc=.ok (n,m)→k≤9→
  ∃d,n=acc+d*128 ^ k∧m=k+(natB d).length∧(natB d).length≤l.length∧l.take (natB d).length=natB d∧(0<d∨k=0)∧d*128 ^ k<18446744073709551616
 | [],_,_,_,_,h,_=>by cases h
 |x::r,k,acc,n,m,h,hk=>by
  have hx:=x.toNat_lt
  simp only[rdN]at h
  by_cases h9:k=9∧1<x.toNat∨9<k
  ·rw[if_pos h9]at h;cases h
  rw[if_neg h9]at h
  have hxo:UInt8.ofNat x.toNat=x:=by simp
  have hpw:128 ^ k*128 ^ (9 - k)=9223372036854775808:=by
   rw[←Nat.pow_add,show k+(9 - k)=9 by omega]
  by_cases h1:x.toNat<128
  ·rw[if_pos h1]at h
   by_cases h2:x.toNat=0∧0<k
   ·rw[if_pos h2]at h;cases h
   rw[if_neg h2]at h
   cases h
   refine⟨x.toNat,by rw[Nat.mod_eq_of_lt h1],?_,?_,?_,by omega,?_⟩
   ·rw[natB_lt h1];rfl
   ·rw[natB_lt h1];simp
   ·rw[natB_lt h1,hxo];simp
   ·by_cases hk9:k=9
    ·subst hk9
     have:x.toNat≤1:=by omega
     have:=Nat.mul_le_mul_right (128 ^ 9) this
     have e:(128:Nat) ^ 9=9223372036854775808:=by decide
     omega
    ·have h8:128 ^ k≤128 ^ 8:=Nat.pow_le_pow_right (by decide) (by omega)
     have h7:=Nat.mul_le_mul (show x.toNat≤127 by omega) h8
     have e:(127:Nat)*128 ^ 8<18446744073709551616:=by decide
     omega
  ·rw[if_neg h1]at h
   have hk8:k≠9:=λe=>h9 (.inl ⟨e,by omega⟩)
   obtain⟨d,hd1,hd2,hd3,hd4,hd5,hd6⟩:=rdN_form_aux r (k+1) _ n m h (by omega)
   have hdp:0<d:=by omega
   have hq:(x.toNat%128+d*128) / 128=d:=by omega
   have hq2:(x.toNat%128+d*128)%128+128=x.toNat:=by omega
   have hnb:natB (x.toNat%128+d*128)=x::natB d:=by rw[natB_ge (by omega),hq,hq2,hxo]
   have he:(x.toNat%128+d*128)*128 ^ k=x.toNat%128*128 ^ k+d*128 ^ (k+1):=by
    rw[Nat.add_mul,Nat.pow_succ,Nat.mul_comm (128 ^ k) 128,Nat.mul_assoc]
   refine⟨x.toNat%128+d*128,?_,?_,?_,?_,by omega,?_⟩
   ·rw[hd1,he];omega
   ·rw[hnb,hd2,List.length_cons];omega
   ·rw[hnb];simpa using hd3
   ·rw[hnb];simp[hd4]
   ·rw[he]
    have h1' :x.toNat%128*128 ^ k<128 ^ (k+1):=by
     rw[Nat.pow_succ,Nat.mul_comm]
     exact Nat.mul_lt_mul_of_pos_left (Nat.mod_lt _ (by decide)) (Nat.pow_pos (by decide))
    have h2' :128 ^ (k+1)*128 ^ (8 - k)=9223372036854775808:=by
     rw[←Nat.pow_add,show k+1+(8 - k)=9 by omega]
    have h3' :d<2*128 ^ (8 - k):=by
     apply Classical.byContradiction
     intro hc
     have:=Nat.mul_le_mul_right (128 ^ (k+1)) (Nat.le_of_not_lt hc)
     rw[Nat.mul_assoc,Nat.mul_comm (128 ^ (8 - k)),h2']at this
     omega
    have h4' :=Nat.mul_le_mul_right (128 ^ (k+1)) (show d+1≤2*128 ^ (8 - k)from h3')
    rw[Nat.mul_assoc,Nat.mul_comm (128 ^ (8 - k)),h2',Nat.add_mul]at h4'
    omega
theorem rdN_form{l:List UInt8}{n m:Nat}(h:rdN l 0 0=.ok (n,m)):m=(natB n).length∧m≤l.length∧l.take m=natB n∧n<18446744073709551616:=by
 obtain⟨d,h1,h2,h3,h4,_,h6⟩:=rdN_form_aux l 0 0 n m h (by omega)
 simp only[Nat.pow_zero,Nat.mul_one,Nat.zero_add]at h1 h2 h6
 subst h1;subst h2
 exact⟨rfl,h3,h4,h6⟩
structure Rs where
 at_:Nat
 e:Nat
def rsSmall(l:List UInt8)(most:Nat)(s:Rs):Nat×Rs:=
 if s.e≠0 then(0,s)else
 match rdN (l.drop s.at_) 0 0 with
 | .error e=>(0,{s with e:=e})
 | .ok (n,k)=>if most<n then(0,{s with e:=5})else(n,{s with at_:=s.at_+k})
def rsText(l:List UInt8)(most:Nat)(s:Rs):List UInt8×Rs:=
 if s.e≠0 then([],s)else
 match rdN (l.drop s.at_) 0 0 with
 | .error e=>([],{s with e:=e})
 | .ok (n,k)=>if most<n then([],{s with e:=3})else if l.length - (s.at_+k)<n then([],{s with e:=4})else((l.drop (s.at_+k)).take n,{s with at_:=s.at_+k+n})
def rsDone(l:List UInt8)(s:Rs):Nat:=if s.e=0∧s.at_<l.length then 5 else s.e
theorem rsSmall_most{l:List UInt8}{most:Nat}{s:Rs}:(rsSmall l most s).1≤most:=by
 unfold rsSmall
 split
 ·exact Nat.zero_le _
 ·split
  ·exact Nat.zero_le _
  ·split
   ·exact Nat.zero_le _
   ·rename_i h;exact Nat.le_of_not_lt h
theorem rsText_most{l:List UInt8}{most:Nat}{s:Rs}:(rsText l most s).1.length≤most:=by
 unfold rsText
 split
 ·exact Nat.zero_le _
 ·split
  ·exact Nat.zero_le _
  ·split
   ·exact Nat.zero_le _
   ·split
    ·exact Nat.zero_le _
    ·rename_i h _
     simp only[List.length_take]
     omega
structure Tn where
 c:Nat
 q:Nat
 b:List UInt8
def Tn.May(o:Tn):Prop:=o.c<64∧o.q≠0∧o.b.length≤2000
instance(o:Tn):Decidable o.May:=by unfold Tn.May;infer_instance
def textB(b:List UInt8):List UInt8:=natB b.length++b
def turnB(o:Tn):List UInt8:=natB o.c++natB o.q++textB o.b
def turnO(l:List UInt8):Tn×Rs:=
 let x:=rsSmall l 18446744073709551615 ⟨0,0⟩
 let y:=rsSmall l 18446744073709551615 x.2
 let z:=rsText l 2000 y.2
 (⟨x.1,y.1,z.1⟩,z.2)
def turnR(l:List UInt8):Option Tn:=if rsDone l (turnO l).2=0∧(turnO l).1.May then some (turnO l).1 else none
theorem rsSmall_ok{l:List UInt8}{s:Rs}{n:Nat}{a r:List UInt8}(hl:l=a++(natB n++r))(ha:s.at_=a.length)(he:s.e=0)(hn:n<18446744073709551616):
  rsSmall l 18446744073709551615 s=(n,⟨(a++natB n).length,0⟩):=by
 have hd:l.drop s.at_=natB n++r:=by rw[hl,ha,List.drop_left]
 unfold rsSmall
 rw[if_neg (by simp[he]),hd,rdN_natB r hn]
 simp only
 rw[if_neg (by omega),ha,List.length_append,he]
theorem rsText_ok{l:List UInt8}{s:Rs}{b a r:List UInt8}{most:Nat}(hl:l=a++(natB b.length++(b++r)))(ha:s.at_=a.length)(he:s.e=0)(hn:b.length≤most)(hm:most<18446744073709551616):
  rsText l most s=(b,⟨(a++natB b.length++b).length,0⟩):=by
 have hd:l.drop s.at_=natB b.length++(b++r):=by rw[hl,ha,List.drop_left]
 have hd2:l.drop (s.at_+(natB b.length).length)=b++r:=by rw[←List.drop_drop,hd,List.drop_left]
 unfold rsText
 rw[if_neg (by simp[he]),hd,rdN_natB _ (by omega)]
 simp only
 have hll:l.length=a.length+((natB b.length).length+(b.length+r.length)):=by rw[hl];simp
 rw[if_neg (by omega),if_neg (by omega),hd2,List.take_left,ha,he]
 simp[Nat.add_assoc]
theorem turnR_of{o:Tn}(h:o.May)(hq:o.q<18446744073709551616):turnR (turnB o)=some o:=by
 obtain⟨c,q,b⟩:=o
 obtain⟨h1,h2,h3⟩:=h
 simp only at h1 h2 h3 hq
 have e1:rsSmall (turnB ⟨c,q,b⟩) 18446744073709551615 ⟨0,0⟩=(c,⟨(natB c).length,0⟩):=by
  have:=rsSmall_ok (l:=turnB ⟨c,q,b⟩) (s:=⟨0,0⟩) (n:=c) (a:=[]) (r:=natB q++textB b) (by simp[turnB,List.append_assoc]) rfl rfl (by omega)
  simpa using this
 have e2:rsSmall (turnB ⟨c,q,b⟩) 18446744073709551615 ⟨(natB c).length,0⟩=(q,⟨(natB c++natB q).length,0⟩):=
  rsSmall_ok (s:=⟨(natB c).length,0⟩) (n:=q) (a:=natB c) (r:=textB b) (by simp[turnB,List.append_assoc]) rfl rfl hq
 have e3:rsText (turnB ⟨c,q,b⟩) 2000 ⟨(natB c++natB q).length,0⟩=(b,⟨(natB c++natB q++natB b.length++b).length,0⟩):=
  rsText_ok (s:=⟨(natB c++natB q).length,0⟩) (a:=natB c++natB q) (r:=[]) (by simp[turnB,textB,List.append_assoc]) rfl rfl h3 (by omega)
 have e4:turnO (turnB ⟨c,q,b⟩)=(⟨c,q,b⟩,⟨(natB c++natB q++natB b.length++b).length,0⟩):=by
  unfold turnO
  simp only[e1,e2,e3]
 unfold turnR
 rw[e4]
 have e5:rsDone (turnB ⟨c,q,b⟩) ⟨(natB c++natB q++natB b.length++b).length,0⟩=0:=by
  unfold rsDone
  rw[if_neg]
  simp[turnB,textB,Nat.add_assoc]
 simp only
 rw[if_pos ⟨e5,h1,h2,h3⟩]
end Go.Vc
namespace Go.Proofs
open Go Go.Vc
theorem Tryz.noNum:NoNum Tryz.prog=true:=by kernel_rfl
end Go.Proofs
set_option maxRecDepth 100000
namespace Go.Proofs
open Go Go.Vc
def F59(a0:Value)(w:World)(K:Kont):Prop:=
 rv Tryz.prog (Instr.build 248 #[(0,a0)]) w λv0 w1=>
 rv Tryz.prog (Instr.box 248 v0) w1 λv2 w3=>
 K v2 w3
theorem F59_eq(a0:Value)(w:World)(K:Kont):vcFnJ Tryz.prog Tryz.f59 [a0] w K=F59 a0 w K:=by kernel_rfl
theorem F59_ok:okF Tryz.prog Tryz.f59 1=true:=by kernel_rfl
theorem ca59{a0:Value}{w:World}{K:Kont}(h:F59 a0 w K):Ca Tryz.prog 59 #[a0] w K:=
 ca_of_vcJ Tryz.noNum Tryz.func59 F59_ok (by rw[F59_eq];exact h)
def F148(a0:Value)(w:World)(K:Kont):Prop:=
 rv Tryz.prog (bin .eql 136 true a0 (.pointer none)) w λv0 w1=>
 ifB v0
 (K (.bool true) w1)
 (nilK a0 λv2=>rv Tryz.prog (Instr.fieldAt 248 v2 2) w1 λv3 w4=>
 rv Tryz.prog (Instr.loadAt 26 v3) w4 λv5 w6=>
 rv Tryz.prog (bin .neq 26 true v5 (.int .i64 0)) w6 λv7 w8=>
 K v7 w8)
theorem F148_eq(a0:Value)(w:World)(K:Kont):vcFnJ Tryz.prog Tryz.f148 [a0] w K=F148 a0 w K:=by kernel_rfl
theorem F148_ok:okF Tryz.prog Tryz.f148 1=true:=by kernel_rfl
theorem ca148{a0:Value}{w:World}{K:Kont}(h:F148 a0 w K):Ca Tryz.prog 148 #[a0] w K:=
 ca_of_vcJ Tryz.noNum Tryz.func148 F148_ok (by rw[F148_eq];exact h)
def J150_0(K:Kont)(a0:Value)(s8:Value×Value×Value×Value×Unit)(v36:Value)(s40:Value×Unit)(w41:World):Prop:=
 ∀_:Nat→Value,
 ifB s40.1
 (K (.tuple #[(.int .u64 0),(.int .i64 0),(.int .i64 5)]) w41)
 (nilK a0 λv47=>rdP Tryz.prog (Instr.fieldAt 248 v47 1) λv48=>
 rdW Tryz.prog (Instr.loadAt 3 v48) w41.drew λv49=>
 rdP Tryz.prog (bin .add 3 false v49 s8.2.2.2.1) λv50=>
 rdP Tryz.prog (bin .add 3 true v50 (.int .i64 1)) λv51=>
 Sem.run Tryz.prog (Instr.loadAt 3 v48) w41.drew=.ok v49 w41.drew∧
 (K (.tuple #[v36,v51,(.int .i64 0)]) w41.drew))
def J150_1(K:Kont)(v15:Value)(s8:Value×Value×Value×Value×Unit)(a0:Value)(K10:Value×Value×Value×Value×Unit→World→Prop)(s17:Value×Unit)(w18:World):Prop:=
 ∀_:Nat→Value,
 ifB s17.1
 (K (.tuple #[(.int .u64 0),(.int .i64 0),(.int .i64 5)]) w18)
 (rv Tryz.prog (bin .and 5 true v15 (.int .u8 127)) w18 λv28 w29=>
 rv Tryz.prog (convert 5 27 v28) w29 λv30 w31=>
 rv Tryz.prog (bin .mul 3 true (.int .i64 7) s8.2.2.2.1) w31 λv32 w33=>
 rv Tryz.prog (bin .shl 27 false v30 v32) w33 λv34 w35=>
 rv Tryz.prog (bin .or 27 false s8.1 v34) w35 λv36 w37=>
 rv Tryz.prog (bin .lss 5 true v15 (.int .u8 128)) w37 λv38 w39=>
 ifB v38
 (JoinW (S:=Value×Unit) (λJ42=>
 rv Tryz.prog (bin .eql 5 true v15 (.int .u8 0)) w39 λv43 w44=>
 ifB v43
 (rv Tryz.prog (bin .gtr 3 true s8.2.2.2.1 (.int .i64 0)) w44 λv45 w46=>
 J42 (v45,()) w46)
 (J42 ((.bool false),()) w44))
 (J150_0 K a0 s8 v36))
 (rv Tryz.prog (bin .add 3 true s8.2.2.2.1 (.int .i64 1)) w39 λv52 w53=>
 K10 (v36,s8.2.1,s8.2.2.1,v52,()) w53))
def L150_2(v7:Value)(v6:Value)(K:Kont)(a0:Value)(s8:Value×Value×Value×Value×Unit)(w9:World)(K10:Value×Value×Value×Value×Unit→World→Prop):Prop:=
 ∀_:Nat→Value,
 rv Tryz.prog (bin .lss 3 false s8.2.2.2.1 v7) w9 λv11 w12=>
 ifB v11
 (rv Tryz.prog (Instr.indexAt 54 v6 s8.2.2.2.1) w12 λv13 w14=>
 rv Tryz.prog (Instr.loadAt 5 v13) w14 λv15 w16=>
 JoinW (S:=Value×Unit) (λJ19=>
 rv Tryz.prog (bin .eql 3 true s8.2.2.2.1 (.int .i64 9)) w16 λv20 w21=>
 ifB v20
 (rv Tryz.prog (bin .gtr 5 true v15 (.int .u8 1)) w21 λv22 w23=>
 ifB v22
 (J19 ((.bool true),()) w23)
 (rv Tryz.prog (bin .gtr 3 true s8.2.2.2.1 (.int .i64 9)) w23 λv24 w25=>
 J19 (v24,()) w25))
 (rv Tryz.prog (bin .gtr 3 true s8.2.2.2.1 (.int .i64 9)) w21 λv26 w27=>
 J19 (v26,()) w27))
 (J150_1 K v15 s8 a0 K10))
 (K (.tuple #[(.int .u64 0),(.int .i64 0),(.int .i64 4)]) w12)
def F150(a0:Value)(w:World)(K:Kont):Prop:=
 nilK a0 λv0=>rdP Tryz.prog (Instr.fieldAt 248 v0 0) λv1=>
 rdW Tryz.prog (Instr.loadAt 54 v1) w.drew λv2=>
 nilK a0 λv3=>rdP Tryz.prog (Instr.fieldAt 248 v3 1) λv4=>
 rdW Tryz.prog (Instr.loadAt 3 v4) w.drew λv5=>
 rdP Tryz.prog (Instr.sliceAt 54 v2 (some v5) none none) λv6=>
 rdW Tryz.prog (Builtin.len_ #[54] 3 #[v6]) w.drew λv7=>
 LoopW (S:=Value×Value×Value×Value×Unit) (L150_2 v7 v6 K a0) ((.int .u64 0),(.int .i64 0),(.int .i64 0),(.int .i64 0),()) w.drew
theorem F150_eq(a0:Value)(w:World)(K:Kont):vcFnJ Tryz.prog Tryz.f150 [a0] w K=F150 a0 w K:=by kernel_rfl
theorem F150_ok:okF Tryz.prog Tryz.f150 1=true:=by kernel_rfl
theorem ca150{a0:Value}{w:World}{K:Kont}(h:F150 a0 w K):Ca Tryz.prog 150 #[a0] w K:=
 ca_of_vcJ Tryz.noNum Tryz.func150 F150_ok (by rw[F150_eq];exact h)
def F61(a0:Value)(w:World)(K:Kont):Prop:=
 Ca Tryz.prog 69 #[a0,(.int .u64 18446744073709551615)] w λv0 w1=>
 K v0 w1
theorem F61_eq(a0:Value)(w:World)(K:Kont):vcFnJ Tryz.prog Tryz.f61 [a0] w K=F61 a0 w K:=by kernel_rfl
theorem F61_ok:okF Tryz.prog Tryz.f61 1=true:=by kernel_rfl
theorem ca61{a0:Value}{w:World}{K:Kont}(h:F61 a0 w K):Ca Tryz.prog 61 #[a0] w K:=
 ca_of_vcJ Tryz.noNum Tryz.func61 F61_ok (by rw[F61_eq];exact h)
def J69_0(J12:Value×Unit→World→Prop)(v8:Value)(s13:Value×Unit)(w14:World):Prop:=
 ∀_:Nat→Value,
 ifB s13.1
 (J12 ((.int .i64 5),()) w14)
 (J12 (v8,()) w14)
def J69_1(a0:Value)(K:Kont)(v6:Value)(v4:Value)(s10:Value×Unit)(w11:World):Prop:=
 ∀_:Nat→Value,
 rv Tryz.prog (bin .neq 26 true s10.1 (.int .i64 0)) w11 λv20 w21=>
 ifB v20
 (nilK a0 λv22=>rv Tryz.prog (Instr.fieldAt 248 v22 2) w21 λv23 w24=>
 ru Tryz.prog (Instr.storeAt 26 v23 s10.1) w24 λw25=>
 K (.int .u64 0) w25)
 (nilK a0 λv26=>rv Tryz.prog (Instr.fieldAt 248 v26 1) w21 λv27 w28=>
 ru Tryz.prog (Instr.storeAt 3 v27 v6) w28 λw29=>
 K v4 w29)
def F69(a0 a1:Value)(w:World)(K:Kont):Prop:=
 Ca Tryz.prog 148 #[a0] w λv0 w1=>
 ifB v0
 (K (.int .u64 0) w1)
 (Ca Tryz.prog 150 #[a0] w1 λv2 w3=>
 rv Tryz.prog (Instr.extract v2 0) w3 λv4 w5=>
 rv Tryz.prog (Instr.extract v2 1) w5 λv6 w7=>
 rv Tryz.prog (Instr.extract v2 2) w7 λv8 w9=>
 JoinW (S:=Value×Unit) (λJ12=>
 JoinW (S:=Value×Unit) (λJ15=>
 rv Tryz.prog (bin .eql 26 true v8 (.int .i64 0)) w9 λv16 w17=>
 ifB v16
 (rv Tryz.prog (bin .gtr 27 false v4 a1) w17 λv18 w19=>
 J15 (v18,()) w19)
 (J15 ((.bool false),()) w17))
 (J69_0 J12 v8))
 (J69_1 a0 K v6 v4))
theorem F69_eq(a0 a1:Value)(w:World)(K:Kont):vcFnJ Tryz.prog Tryz.f69 [a0,a1] w K=F69 a0 a1 w K:=by kernel_rfl
theorem F69_ok:okF Tryz.prog Tryz.f69 2=true:=by kernel_rfl
theorem ca69{a0 a1:Value}{w:World}{K:Kont}(h:F69 a0 a1 w K):Ca Tryz.prog 69 #[a0,a1] w K:=
 ca_of_vcJ Tryz.noNum Tryz.func69 F69_ok (by rw[F69_eq];exact h)
def F62(a0:Value)(w:World)(K:Kont):Prop:=
 Ca Tryz.prog 61 #[a0] w λv0 w1=>
 rv Tryz.prog (bin .shr 27 true v0 (.int .u64 1)) w1 λv2 w3=>
 rv Tryz.prog (convert 27 2 v2) w3 λv4 w5=>
 rv Tryz.prog (bin .and 27 true v0 (.int .u64 1)) w5 λv6 w7=>
 rv Tryz.prog (convert 27 2 v6) w7 λv8 w9=>
 rv Tryz.prog (Op.unary .neg v8) w9 λv10 w11=>
 rv Tryz.prog (bin .xor 2 false v4 v10) w11 λv12 w13=>
 K v12 w13
theorem F62_eq(a0:Value)(w:World)(K:Kont):vcFnJ Tryz.prog Tryz.f62 [a0] w K=F62 a0 w K:=by kernel_rfl
theorem F62_ok:okF Tryz.prog Tryz.f62 1=true:=by kernel_rfl
theorem ca62{a0:Value}{w:World}{K:Kont}(h:F62 a0 w K):Ca Tryz.prog 62 #[a0] w K:=
 ca_of_vcJ Tryz.noNum Tryz.func62 F62_ok (by rw[F62_eq];exact h)
def F65(a0:Value)(w:World)(K:Kont):Prop:=
 Ca Tryz.prog 148 #[a0] w λv0 w1=>
 ifB v0
 (K (.bool false) w1)
 (nilK a0 λv2=>rdP Tryz.prog (Instr.fieldAt 248 v2 1) λv3=>
 rdW Tryz.prog (Instr.loadAt 3 v3) w1.drew λv4=>
 nilK a0 λv5=>rdP Tryz.prog (Instr.fieldAt 248 v5 0) λv6=>
 rdW Tryz.prog (Instr.loadAt 54 v6) w1.drew λv7=>
 rdW Tryz.prog (Builtin.len_ #[54] 3 #[v7]) w1.drew λv8=>
 rdP Tryz.prog (bin .eql 3 false v4 v8) λv9=>
 ifB v9
 (nilK a0 λv10=>rv Tryz.prog (Instr.fieldAt 248 v10 2) w1.drew λv11 w12=>
 ru Tryz.prog (Instr.storeAt 26 v11 (.int .i64 4)) w12 λw13=>
 K (.bool false) w13)
 (nilK a0 λv14=>rdP Tryz.prog (Instr.fieldAt 248 v14 0) λv15=>
 rdW Tryz.prog (Instr.loadAt 54 v15) w1.drew.drew λv16=>
 nilK a0 λv17=>rdP Tryz.prog (Instr.fieldAt 248 v17 1) λv18=>
 rdW Tryz.prog (Instr.loadAt 3 v18) w1.drew.drew λv19=>
 rdP Tryz.prog (Instr.indexAt 54 v16 v19) λv20=>
 rdW Tryz.prog (Instr.loadAt 5 v20) w1.drew.drew λv21=>
 rdP Tryz.prog (bin .gtr 5 true v21 (.int .u8 1)) λv22=>
 ifB v22
 (nilK a0 λv23=>rv Tryz.prog (Instr.fieldAt 248 v23 2) w1.drew.drew λv24 w25=>
 ru Tryz.prog (Instr.storeAt 26 v24 (.int .i64 5)) w25 λw26=>
 K (.bool false) w26)
 (nilK a0 λv27=>rv Tryz.prog (Instr.fieldAt 248 v27 1) w1.drew.drew λv28 w29=>
 rv Tryz.prog (Instr.loadAt 3 v28) w29 λv30 w31=>
 rv Tryz.prog (bin .add 3 true v30 (.int .i64 1)) w31 λv32 w33=>
 nilK a0 λv34=>rv Tryz.prog (Instr.fieldAt 248 v34 1) w33 λv35 w36=>
 ru Tryz.prog (Instr.storeAt 3 v35 v32) w36 λw37=>
 nilK a0 λv38=>rdP Tryz.prog (Instr.fieldAt 248 v38 0) λv39=>
 rdW Tryz.prog (Instr.loadAt 54 v39) w37.drew λv40=>
 nilK a0 λv41=>rdP Tryz.prog (Instr.fieldAt 248 v41 1) λv42=>
 rdW Tryz.prog (Instr.loadAt 3 v42) w37.drew λv43=>
 rdP Tryz.prog (bin .sub 3 true v43 (.int .i64 1)) λv44=>
 rdP Tryz.prog (Instr.indexAt 54 v40 v44) λv45=>
 rdW Tryz.prog (Instr.loadAt 5 v45) w37.drew λv46=>
 rdP Tryz.prog (bin .eql 5 true v46 (.int .u8 1)) λv47=>
 K v47 w37.drew)))
theorem F65_eq(a0:Value)(w:World)(K:Kont):vcFnJ Tryz.prog Tryz.f65 [a0] w K=F65 a0 w K:=by kernel_rfl
theorem F65_ok:okF Tryz.prog Tryz.f65 1=true:=by kernel_rfl
theorem ca65{a0:Value}{w:World}{K:Kont}(h:F65 a0 w K):Ca Tryz.prog 65 #[a0] w K:=
 ca_of_vcJ Tryz.noNum Tryz.func65 F65_ok (by rw[F65_eq];exact h)
def F149(a0 a1:Value)(w:World)(K:Kont):Prop:=
 Ca Tryz.prog 148 #[a0] w λv0 w1=>
 rv Tryz.prog (Op.unary .not v0) w1 λv2 w3=>
 ifB v2
 (nilK a0 λv4=>rv Tryz.prog (Instr.fieldAt 248 v4 2) w3 λv5 w6=>
 ru Tryz.prog (Instr.storeAt 26 v5 a1) w6 λw7=>
 K (.tuple #[]) w7)
 (K (.tuple #[]) w3)
theorem F149_eq(a0 a1:Value)(w:World)(K:Kont):vcFnJ Tryz.prog Tryz.f149 [a0,a1] w K=F149 a0 a1 w K:=by kernel_rfl
theorem F149_ok:okF Tryz.prog Tryz.f149 2=true:=by kernel_rfl
theorem ca149{a0 a1:Value}{w:World}{K:Kont}(h:F149 a0 a1 w K):Ca Tryz.prog 149 #[a0,a1] w K:=
 ca_of_vcJ Tryz.noNum Tryz.func149 F149_ok (by rw[F149_eq];exact h)
def J74_0(K:Kont)(a0:Value)(s2:Value×Unit)(w3:World):Prop:=
 ∀_:Nat→Value,
 ifB s2.1
 (K (.int .i64 5) w3)
 (nilK a0 λv17=>rv Tryz.prog (Instr.fieldAt 248 v17 2) w3 λv18 w19=>
 rv Tryz.prog (Instr.loadAt 26 v18) w19 λv20 w21=>
 K v20 w21)
def F74(a0:Value)(w:World)(K:Kont):Prop:=
 rv Tryz.prog (bin .eql 136 true a0 (.pointer none)) w λv0 w1=>
 ifB v0
 (K (.int .i64 1) w1)
 (JoinW (S:=Value×Unit) (λJ4=>
 nilK a0 λv5=>rdP Tryz.prog (Instr.fieldAt 248 v5 2) λv6=>
 rdW Tryz.prog (Instr.loadAt 26 v6) w1.drew λv7=>
 rdP Tryz.prog (bin .eql 26 true v7 (.int .i64 0)) λv8=>
 ifB v8
 (nilK a0 λv9=>rdP Tryz.prog (Instr.fieldAt 248 v9 1) λv10=>
 rdW Tryz.prog (Instr.loadAt 3 v10) w1.drew λv11=>
 nilK a0 λv12=>rdP Tryz.prog (Instr.fieldAt 248 v12 0) λv13=>
 rdW Tryz.prog (Instr.loadAt 54 v13) w1.drew λv14=>
 rdW Tryz.prog (Builtin.len_ #[54] 3 #[v14]) w1.drew λv15=>
 rdP Tryz.prog (bin .lss 3 false v11 v15) λv16=>
 J4 (v16,()) w1.drew)
 (J4 ((.bool false),()) w1.drew))
 (J74_0 K a0))
theorem F74_eq(a0:Value)(w:World)(K:Kont):vcFnJ Tryz.prog Tryz.f74 [a0] w K=F74 a0 w K:=by kernel_rfl
theorem F74_ok:okF Tryz.prog Tryz.f74 1=true:=by kernel_rfl
theorem ca74{a0:Value}{w:World}{K:Kont}(h:F74 a0 w K):Ca Tryz.prog 74 #[a0] w K:=
 ca_of_vcJ Tryz.noNum Tryz.func74 F74_ok (by rw[F74_eq];exact h)
def L100_0(K:Kont)(s0:Value×Value×Unit)(w1:World)(K2:Value×Value×Unit→World→Prop):Prop:=
 ∀_:Nat→Value,
 rv Tryz.prog (bin .geq 27 true s0.1 (.int .u64 128)) w1 λv3 w4=>
 ifB v3
 (rv Tryz.prog (convert 27 5 s0.1) w4 λv5 w6=>
 rv Tryz.prog (bin .or 5 true v5 (.int .u8 128)) w6 λv7 w8=>
 rx Tryz.prog (xLit 54 1 [(0,v7)]) w8 λv9 w10=>
 rx Tryz.prog (xAppend #[54,54] 54 [s0.2.1,v9]) w10 λv11 w12=>
 rv Tryz.prog (bin .shr 27 true s0.1 (.int .u64 7)) w12 λv13 w14=>
 K2 (v13,v11,()) w14)
 (rv Tryz.prog (convert 27 5 s0.1) w4 λv15 w16=>
 rx Tryz.prog (xLit 54 1 [(0,v15)]) w16 λv17 w18=>
 rx Tryz.prog (xAppend #[54,54] 54 [s0.2.1,v17]) w18 λv19 w20=>
 K v19 w20)
def F100(a0 a1:Value)(w:World)(K:Kont):Prop:=
 LoopW (S:=Value×Value×Unit) (L100_0 K) (a1,a0,()) w
theorem F100_eq(a0 a1:Value)(w:World)(K:Kont):vcFnJ Tryz.prog Tryz.f100 [a0,a1] w K=F100 a0 a1 w K:=by kernel_rfl
theorem F100_ok:okF Tryz.prog Tryz.f100 2=true:=by kernel_rfl
theorem ca100{a0 a1:Value}{w:World}{K:Kont}(h:F100 a0 a1 w K):Ca Tryz.prog 100 #[a0,a1] w K:=
 ca_of_vcJ Tryz.noNum Tryz.func100 F100_ok (by rw[F100_eq];exact h)
def F240(a0:Value)(w:World)(K:Kont):Prop:=
 rv Tryz.prog (convert 2 27 a0) w λv0 w1=>
 rv Tryz.prog (bin .shl 27 true v0 (.int .u64 1)) w1 λv2 w3=>
 rv Tryz.prog (bin .shr 2 true a0 (.int .u64 63)) w3 λv4 w5=>
 rv Tryz.prog (convert 2 27 v4) w5 λv6 w7=>
 rv Tryz.prog (bin .xor 27 false v2 v6) w7 λv8 w9=>
 K v8 w9
theorem F240_eq(a0:Value)(w:World)(K:Kont):vcFnJ Tryz.prog Tryz.f240 [a0] w K=F240 a0 w K:=by kernel_rfl
theorem F240_ok:okF Tryz.prog Tryz.f240 1=true:=by kernel_rfl
theorem ca240{a0:Value}{w:World}{K:Kont}(h:F240 a0 w K):Ca Tryz.prog 240 #[a0] w K:=
 ca_of_vcJ Tryz.noNum Tryz.func240 F240_ok (by rw[F240_eq];exact h)
def F154(a0 a1:Value)(w:World)(K:Kont):Prop:=
 Ca Tryz.prog 240 #[a1] w λv0 w1=>
 Ca Tryz.prog 100 #[a0,v0] w1 λv2 w3=>
 K v2 w3
theorem F154_eq(a0 a1:Value)(w:World)(K:Kont):vcFnJ Tryz.prog Tryz.f154 [a0,a1] w K=F154 a0 a1 w K:=by kernel_rfl
theorem F154_ok:okF Tryz.prog Tryz.f154 2=true:=by kernel_rfl
theorem ca154{a0 a1:Value}{w:World}{K:Kont}(h:F154 a0 a1 w K):Ca Tryz.prog 154 #[a0,a1] w K:=
 ca_of_vcJ Tryz.noNum Tryz.func154 F154_ok (by rw[F154_eq];exact h)
def F157(a0 a1:Value)(w:World)(K:Kont):Prop:=
 ifB a1
 (rx Tryz.prog (xLit 54 1 [(0,(.int .u8 1))]) w λv0 w1=>
 rx Tryz.prog (xAppend #[54,54] 54 [a0,v0]) w1 λv2 w3=>
 K v2 w3)
 (rx Tryz.prog (xLit 54 1 [(0,(.int .u8 0))]) w λv4 w5=>
 rx Tryz.prog (xAppend #[54,54] 54 [a0,v4]) w5 λv6 w7=>
 K v6 w7)
theorem F157_eq(a0 a1:Value)(w:World)(K:Kont):vcFnJ Tryz.prog Tryz.f157 [a0,a1] w K=F157 a0 a1 w K:=by kernel_rfl
theorem F157_ok:okF Tryz.prog Tryz.f157 2=true:=by kernel_rfl
theorem ca157{a0 a1:Value}{w:World}{K:Kont}(h:F157 a0 a1 w K):Ca Tryz.prog 157 #[a0,a1] w K:=
 ca_of_vcJ Tryz.noNum Tryz.func157 F157_ok (by rw[F157_eq];exact h)
def L68_0(a0:Value)(v12:Value)(v0:Value)(K:Kont)(s44:Value×Unit)(w45:World)(K46:Value×Unit→World→Prop):Prop:=
 ∀_:Nat→Value,
 rv Tryz.prog (bin .lss 3 true s44.1 (.int .i64 16)) w45 λv47 w48=>
 ifB v47
 (Ca Tryz.prog 62 #[a0] w48 λv49 w50=>
 rv Tryz.prog (Instr.fieldAt 38 v12 6) w50 λv51 w52=>
 rv Tryz.prog (Instr.indexAt 36 v51 s44.1) w52 λv53 w54=>
 ru Tryz.prog (Instr.storeAt 2 v53 v49) w54 λw55=>
 rv Tryz.prog (bin .add 3 true s44.1 (.int .i64 1)) w55 λv56 w57=>
 K46 (v56,()) w57)
 (Ca Tryz.prog 69 #[a0,(.int .u64 9223372036854775807)] w48 λv58 w59=>
 rv Tryz.prog (convert 27 2 v58) w59 λv60 w61=>
 rv Tryz.prog (Instr.fieldAt 38 v12 7) w61 λv62 w63=>
 ru Tryz.prog (Instr.storeAt 2 v62 v60) w63 λw64=>
 Ca Tryz.prog 69 #[a0,(.int .u64 4294967295)] w64 λv65 w66=>
 rv Tryz.prog (convert 27 35 v65) w66 λv67 w68=>
 rv Tryz.prog (Instr.fieldAt 38 v12 8) w68 λv69 w70=>
 ru Tryz.prog (Instr.storeAt 35 v69 v67) w70 λw71=>
 Ca Tryz.prog 69 #[a0,(.int .u64 9223372036854775807)] w71 λv72 w73=>
 rv Tryz.prog (convert 27 2 v72) w73 λv74 w75=>
 rv Tryz.prog (Instr.fieldAt 38 v12 9) w75 λv76 w77=>
 ru Tryz.prog (Instr.storeAt 2 v76 v74) w77 λw78=>
 rx Tryz.prog (bigS 38 v12) w78 λv79 w80=>
 Ca Tryz.prog 107 #[v79] w80 λv81 w82=>
 rv Tryz.prog (Op.unary .not v81) w82 λv83 w84=>
 ifB v83
 (Ca Tryz.prog 149 #[a0,(.int .i64 5)] w84 λv85 w86=>
 rx Tryz.prog (bigB 38 #[]) w86 λv87 w88=>
 rux Tryz.prog (bigU 38 v0 v87) w88 λw89=>
 rdX Tryz.prog (bigS 38 v0) w89 λv90=>
 K v90 w89)
 (rx Tryz.prog (bigS 38 v12) w84 λv91 w92=>
 rux Tryz.prog (bigU 38 v0 v91) w92 λw93=>
 rdX Tryz.prog (bigS 38 v0) w93 λv94=>
 K v94 w93))
def L68_1(v25:Value)(v23:Value)(a0:Value)(v12:Value)(v0:Value)(K:Kont)(s27:Value×Unit)(w28:World)(K29:Value×Unit→World→Prop):Prop:=
 ∀_:Nat→Value,
 rv Tryz.prog (bin .lss 3 false s27.1 v25) w28 λv30 w31=>
 ifB v30
 (rv Tryz.prog (Instr.indexAt 252 v23 s27.1) w31 λv32 w33=>
 rv Tryz.prog (Instr.loadAt 251 v32) w33 λv34 w35=>
 Ca Tryz.prog 69 #[a0,(.int .u64 9223372036854775807)] w35 λv36 w37=>
 rv Tryz.prog (convert 27 2 v36) w37 λv38 w39=>
 nilK v34 λv40=>ru Tryz.prog (Instr.storeAt 2 v40 v38) w39 λw41=>
 rv Tryz.prog (bin .add 3 true s27.1 (.int .i64 1)) w41 λv42 w43=>
 K29 (v42,()) w43)
 (LoopW (S:=Value×Unit) (L68_0 a0 v12 v0 K) ((.int .i64 0),()) w31)
def F68(a0:Value)(w:World)(K:Kont):Prop:=
 rx Tryz.prog (bigA 38) w λv0 w1=>
 Ca Tryz.prog 69 #[a0,(.int .u64 4294967295)] w1 λv2 w3=>
 rv Tryz.prog (convert 27 35 v2) w3 λv4 w5=>
 Ca Tryz.prog 69 #[a0,(.int .u64 255)] w5 λv6 w7=>
 rv Tryz.prog (convert 27 5 v6) w7 λv8 w9=>
 rx Tryz.prog (bigB 38 #[(0,v4),(1,v8)]) w9 λv10 w11=>
 rx Tryz.prog (bigA 38) w11 λv12 w13=>
 rux Tryz.prog (bigU 38 v12 v10) w13 λw14=>
 rv Tryz.prog (Instr.fieldAt 38 v12 2) w14 λv15 w16=>
 rv Tryz.prog (Instr.fieldAt 38 v12 3) w16 λv17 w18=>
 rv Tryz.prog (Instr.fieldAt 38 v12 4) w18 λv19 w20=>
 rv Tryz.prog (Instr.fieldAt 38 v12 5) w20 λv21 w22=>
 rx Tryz.prog (xLit 252 4 [(0,v15),(1,v17),(2,v19),(3,v21)]) w22 λv23 w24=>
 rn Tryz.prog (builtin .len #[252] 3 #[false] #[v23]) w24 λv25 w26=>
 LoopW (S:=Value×Unit) (L68_1 v25 v23 a0 v12 v0 K) ((.int .i64 0),()) w26
theorem F68_eq(a0:Value)(w:World)(K:Kont):vcFnJ Tryz.prog Tryz.f68 [a0] w K=F68 a0 w K:=by kernel_rfl
theorem F68_ok:okF Tryz.prog Tryz.f68 1=true:=by kernel_rfl
theorem ca68{a0:Value}{w:World}{K:Kont}(h:F68 a0 w K):Ca Tryz.prog 68 #[a0] w K:=
 ca_of_vcJ Tryz.noNum Tryz.func68 F68_ok (by rw[F68_eq];exact h)
def L160_0(v57:Value)(v0:Value)(K:Kont)(s59:Value×Value×Unit)(w60:World)(K61:Value×Value×Unit→World→Prop):Prop:=
 ∀_:Nat→Value,
 rv Tryz.prog (bin .lss 3 true s59.2.1 (.int .i64 16)) w60 λv62 w63=>
 ifB v62
 (rv Tryz.prog (Instr.index 36 v57 s59.2.1) w63 λv64 w65=>
 Ca Tryz.prog 154 #[s59.1,v64] w65 λv66 w67=>
 rv Tryz.prog (bin .add 3 true s59.2.1 (.int .i64 1)) w67 λv68 w69=>
 K61 (v66,v68,()) w69)
 (rdP Tryz.prog (Instr.fieldAt 38 v0 7) λv70=>
 rdW Tryz.prog (Instr.loadAt 2 v70) w63.drew λv71=>
 rdW Tryz.prog (convert 2 27 v71) w63.drew λv72=>
 rdP Tryz.prog (Instr.fieldAt 38 v0 8) λv73=>
 rdW Tryz.prog (Instr.loadAt 35 v73) w63.drew λv74=>
 rdW Tryz.prog (convert 35 27 v74) w63.drew λv75=>
 rdP Tryz.prog (Instr.fieldAt 38 v0 9) λv76=>
 rdW Tryz.prog (Instr.loadAt 2 v76) w63.drew λv77=>
 rdW Tryz.prog (convert 2 27 v77) w63.drew λv78=>
 Ca Tryz.prog 100 #[s59.1,v72] w63.drew λv79 w80=>
 Sem.run Tryz.prog (convert 2 27 v77) w80=.ok v78 w80∧Sem.run Tryz.prog (Instr.loadAt 2 v76) w80=.ok v77 w80∧Sem.run Tryz.prog (convert 35 27 v74) w80=.ok v75 w80∧Sem.run Tryz.prog (Instr.loadAt 35 v73) w80=.ok v74 w80∧
 (Ca Tryz.prog 100 #[v79,v75] w80 λv81 w82=>
 Sem.run Tryz.prog (convert 2 27 v77) w82=.ok v78 w82∧Sem.run Tryz.prog (Instr.loadAt 2 v76) w82=.ok v77 w82∧
 (Ca Tryz.prog 100 #[v81,v78] w82 λv83 w84=>
 K v83 w84)))
def L160_1(v38:Value)(v36:Value)(v0:Value)(K:Kont)(s40:Value×Value×Unit)(w41:World)(K42:Value×Value×Unit→World→Prop):Prop:=
 ∀_:Nat→Value,
 rv Tryz.prog (bin .lss 3 false s40.2.1 v38) w41 λv43 w44=>
 ifB v43
 (rv Tryz.prog (Instr.indexAt 333 v36 s40.2.1) w44 λv45 w46=>
 rv Tryz.prog (Instr.loadAt 2 v45) w46 λv47 w48=>
 rv Tryz.prog (convert 2 27 v47) w48 λv49 w50=>
 Ca Tryz.prog 100 #[s40.1,v49] w50 λv51 w52=>
 rv Tryz.prog (bin .add 3 true s40.2.1 (.int .i64 1)) w52 λv53 w54=>
 K42 (v51,v53,()) w54)
 (rv Tryz.prog (Instr.fieldAt 38 v0 6) w44 λv55 w56=>
 rx Tryz.prog (bigS 36 v55) w56 λv57 w58=>
 LoopW (S:=Value×Value×Unit) (L160_0 v57 v0 K) (s40.1,(.int .i64 0),()) w58)
def F160(a0 a1:Value)(w:World)(K:Kont):Prop:=
 rv Tryz.prog (Instr.box 38 a1) w λv0 w1=>
 rx Tryz.prog (bigS 38 v0) w1 λv2 w3=>
 Ca Tryz.prog 107 #[v2] w3 λv4 w5=>
 rv Tryz.prog (Op.unary .not v4) w5 λv6 w7=>
 ifB v6
 (K a0 w7)
 (rv Tryz.prog (Instr.fieldAt 38 v0 0) w7 λv8 w9=>
 rv Tryz.prog (Instr.loadAt 35 v8) w9 λv10 w11=>
 rv Tryz.prog (convert 35 2 v10) w11 λv12 w13=>
 rv Tryz.prog (Instr.fieldAt 38 v0 1) w13 λv14 w15=>
 rv Tryz.prog (Instr.loadAt 5 v14) w15 λv16 w17=>
 rv Tryz.prog (convert 5 2 v16) w17 λv18 w19=>
 rv Tryz.prog (Instr.fieldAt 38 v0 2) w19 λv20 w21=>
 rv Tryz.prog (Instr.loadAt 2 v20) w21 λv22 w23=>
 rv Tryz.prog (Instr.fieldAt 38 v0 3) w23 λv24 w25=>
 rv Tryz.prog (Instr.loadAt 2 v24) w25 λv26 w27=>
 rv Tryz.prog (Instr.fieldAt 38 v0 4) w27 λv28 w29=>
 rv Tryz.prog (Instr.loadAt 2 v28) w29 λv30 w31=>
 rv Tryz.prog (Instr.fieldAt 38 v0 5) w31 λv32 w33=>
 rv Tryz.prog (Instr.loadAt 2 v32) w33 λv34 w35=>
 rx Tryz.prog (xLit 333 6 [(0,v12),(1,v18),(2,v22),(3,v26),(4,v30),(5,v34)]) w35 λv36 w37=>
 rn Tryz.prog (builtin .len #[333] 3 #[false] #[v36]) w37 λv38 w39=>
 LoopW (S:=Value×Value×Unit) (L160_1 v38 v36 v0 K) (a0,(.int .i64 0),()) w39)
theorem F160_eq(a0 a1:Value)(w:World)(K:Kont):vcFnJ Tryz.prog Tryz.f160 [a0,a1] w K=F160 a0 a1 w K:=by kernel_rfl
theorem F160_ok:okF Tryz.prog Tryz.f160 2=true:=by kernel_rfl
theorem ca160{a0 a1:Value}{w:World}{K:Kont}(h:F160 a0 a1 w K):Ca Tryz.prog 160 #[a0,a1] w K:=
 ca_of_vcJ Tryz.noNum Tryz.func160 F160_ok (by rw[F160_eq];exact h)
def F21(a0:Value)(w:World)(K:Kont):Prop:=
 Ca Tryz.prog 43 #[a0] w λv0 w1=>
 rv Tryz.prog (bin .eql 23 true v0 (.pointer none)) w1 λv2 w3=>
 ifB v2
 (K (.tuple #[(.slice none 0 0),(.int .i64 1)]) w3)
 (Ca Tryz.prog 14 #[a0] w3 λv4 w5=>
 Ca Tryz.prog 82 #[v4] w5 λv6 w7=>
 K (.tuple #[v6,(.int .i64 0)]) w7)
theorem F21_eq(a0:Value)(w:World)(K:Kont):vcFnJ Tryz.prog Tryz.f21 [a0] w K=F21 a0 w K:=by kernel_rfl
theorem F21_ok:okF Tryz.prog Tryz.f21 1=true:=by kernel_rfl
theorem ca21{a0:Value}{w:World}{K:Kont}(h:F21 a0 w K):Ca Tryz.prog 21 #[a0] w K:=
 ca_of_vcJ Tryz.noNum Tryz.func21 F21_ok (by rw[F21_eq];exact h)
def F82(a0:Value)(w:World)(K:Kont):Prop:=
 rv Tryz.prog (Instr.box 49 a0) w λv0 w1=>
 rdP Tryz.prog (Instr.fieldAt 49 v0 0) λv2=>
 rdW Tryz.prog (Instr.loadAt 35 v2) w1.drew λv3=>
 rdW Tryz.prog (convert 35 27 v3) w1.drew λv4=>
 rdP Tryz.prog (Instr.fieldAt 49 v0 1) λv5=>
 rdW Tryz.prog (Instr.loadAt 27 v5) w1.drew λv6=>
 rdP Tryz.prog (Instr.fieldAt 49 v0 2) λv7=>
 rdW Tryz.prog (Instr.loadAt 2 v7) w1.drew λv8=>
 Ca Tryz.prog 100 #[(.slice none 0 0),v4] w1.drew λv9 w10=>
 Sem.run Tryz.prog (Instr.loadAt 2 v7) w10=.ok v8 w10∧Sem.run Tryz.prog (Instr.loadAt 27 v5) w10=.ok v6 w10∧
 (Ca Tryz.prog 100 #[v9,v6] w10 λv11 w12=>
 Sem.run Tryz.prog (Instr.loadAt 2 v7) w12=.ok v8 w12∧
 (Ca Tryz.prog 154 #[v11,v8] w12 λv13 w14=>
 rv Tryz.prog (Instr.fieldAt 49 v0 3) w14 λv15 w16=>
 rv Tryz.prog (Instr.loadAt 44 v15) w16 λv17 w18=>
 Ca Tryz.prog 155 #[v13,v17,(.func (.func 156) #[] #[])] w18 λv19 w20=>
 rv Tryz.prog (Instr.fieldAt 49 v0 4) w20 λv21 w22=>
 rv Tryz.prog (Instr.loadAt 45 v21) w22 λv23 w24=>
 Ca Tryz.prog 158 #[v19,v23,(.func (.func 159) #[] #[])] w24 λv25 w26=>
 rv Tryz.prog (Instr.fieldAt 49 v0 5) w26 λv27 w28=>
 rv Tryz.prog (Instr.loadAt 46 v27) w28 λv29 w30=>
 Ca Tryz.prog 161 #[v25,v29,(.func (.func 162) #[] #[])] w30 λv31 w32=>
 rdP Tryz.prog (Instr.fieldAt 49 v0 6) λv33=>
 rdW Tryz.prog (Instr.loadAt 47 v33) w32.drew λv34=>
 rdP Tryz.prog (Instr.fieldAt 49 v0 7) λv35=>
 rdW Tryz.prog (Instr.loadAt 47 v35) w32.drew λv36=>
 Ca Tryz.prog 163 #[v31,v34,(.func (.func 164) #[] #[])] w32.drew λv37 w38=>
 Sem.run Tryz.prog (Instr.loadAt 47 v35) w38=.ok v36 w38∧
 (Ca Tryz.prog 163 #[v37,v36,(.func (.func 164) #[] #[])] w38 λv39 w40=>
 K v39 w40)))
theorem F82_eq(a0:Value)(w:World)(K:Kont):vcFnJ Tryz.prog Tryz.f82 [a0] w K=F82 a0 w K:=by kernel_rfl
theorem F82_ok:okF Tryz.prog Tryz.f82 1=true:=by kernel_rfl
theorem ca82{a0:Value}{w:World}{K:Kont}(h:F82 a0 w K):Ca Tryz.prog 82 #[a0] w K:=
 ca_of_vcJ Tryz.noNum Tryz.func82 F82_ok (by rw[F82_eq];exact h)
def F156(a0 a1:Value)(w:World)(K:Kont):Prop:=
 rv Tryz.prog (Instr.box 92 a1) w λv0 w1=>
 rdP Tryz.prog (Instr.fieldAt 92 v0 0) λv2=>
 rdW Tryz.prog (Instr.loadAt 35 v2) w1.drew λv3=>
 rdW Tryz.prog (convert 35 27 v3) w1.drew λv4=>
 rdP Tryz.prog (Instr.fieldAt 92 v0 1) λv5=>
 rdW Tryz.prog (Instr.loadAt 2 v5) w1.drew λv6=>
 rdP Tryz.prog (Instr.fieldAt 92 v0 2) λv7=>
 rdW Tryz.prog (Instr.loadAt 4 v7) w1.drew λv8=>
 rdP Tryz.prog (Instr.fieldAt 92 v0 3) λv9=>
 rdW Tryz.prog (Instr.loadAt 4 v9) w1.drew λv10=>
 Ca Tryz.prog 100 #[a0,v4] w1.drew λv11 w12=>
 Sem.run Tryz.prog (Instr.loadAt 4 v9) w12=.ok v10 w12∧Sem.run Tryz.prog (Instr.loadAt 4 v7) w12=.ok v8 w12∧Sem.run Tryz.prog (Instr.loadAt 2 v5) w12=.ok v6 w12∧
 (Ca Tryz.prog 154 #[v11,v6] w12 λv13 w14=>
 Sem.run Tryz.prog (Instr.loadAt 4 v9) w14=.ok v10 w14∧Sem.run Tryz.prog (Instr.loadAt 4 v7) w14=.ok v8 w14∧
 (Ca Tryz.prog 157 #[v13,v8] w14 λv15 w16=>
 Sem.run Tryz.prog (Instr.loadAt 4 v9) w16=.ok v10 w16∧
 (Ca Tryz.prog 157 #[v15,v10] w16 λv17 w18=>
 K v17 w18)))
theorem F156_eq(a0 a1:Value)(w:World)(K:Kont):vcFnJ Tryz.prog Tryz.f156 [a0,a1] w K=F156 a0 a1 w K:=by kernel_rfl
theorem F156_ok:okF Tryz.prog Tryz.f156 2=true:=by kernel_rfl
theorem ca156{a0 a1:Value}{w:World}{K:Kont}(h:F156 a0 a1 w K):Ca Tryz.prog 156 #[a0,a1] w K:=
 ca_of_vcJ Tryz.noNum Tryz.func156 F156_ok (by rw[F156_eq];exact h)
def F159(a0 a1:Value)(w:World)(K:Kont):Prop:=
 rv Tryz.prog (Instr.box 108 a1) w λv0 w1=>
 rdP Tryz.prog (Instr.fieldAt 108 v0 0) λv2=>
 rdX Tryz.prog (bigS 38 v2) w1.drew λv3=>
 rdP Tryz.prog (Instr.fieldAt 108 v0 1) λv4=>
 rdW Tryz.prog (Instr.loadAt 106 v4) w1.drew λv5=>
 rdW Tryz.prog (convert 106 27 v5) w1.drew λv6=>
 rdP Tryz.prog (Instr.fieldAt 108 v0 2) λv7=>
 rdW Tryz.prog (Instr.loadAt 2 v7) w1.drew λv8=>
 Ca Tryz.prog 160 #[a0,v3] w1.drew λv9 w10=>
 Sem.run Tryz.prog (Instr.loadAt 2 v7) w10=.ok v8 w10∧Sem.run Tryz.prog (convert 106 27 v5) w10=.ok v6 w10∧Sem.run Tryz.prog (Instr.loadAt 106 v4) w10=.ok v5 w10∧
 (Ca Tryz.prog 100 #[v9,v6] w10 λv11 w12=>
 Sem.run Tryz.prog (Instr.loadAt 2 v7) w12=.ok v8 w12∧
 (Ca Tryz.prog 154 #[v11,v8] w12 λv13 w14=>
 K v13 w14))
theorem F159_eq(a0 a1:Value)(w:World)(K:Kont):vcFnJ Tryz.prog Tryz.f159 [a0,a1] w K=F159 a0 a1 w K:=by kernel_rfl
theorem F159_ok:okF Tryz.prog Tryz.f159 2=true:=by kernel_rfl
theorem ca159{a0 a1:Value}{w:World}{K:Kont}(h:F159 a0 a1 w K):Ca Tryz.prog 159 #[a0,a1] w K:=
 ca_of_vcJ Tryz.noNum Tryz.func159 F159_ok (by rw[F159_eq];exact h)
def F162(a0 a1:Value)(w:World)(K:Kont):Prop:=
 rv Tryz.prog (Instr.box 112 a1) w λv0 w1=>
 rdP Tryz.prog (Instr.fieldAt 112 v0 0) λv2=>
 rdW Tryz.prog (Instr.loadAt 35 v2) w1.drew λv3=>
 rdW Tryz.prog (convert 35 27 v3) w1.drew λv4=>
 rdP Tryz.prog (Instr.fieldAt 112 v0 1) λv5=>
 rdW Tryz.prog (Instr.loadAt 35 v5) w1.drew λv6=>
 rdW Tryz.prog (convert 35 27 v6) w1.drew λv7=>
 rdP Tryz.prog (Instr.fieldAt 112 v0 2) λv8=>
 rdW Tryz.prog (Instr.loadAt 2 v8) w1.drew λv9=>
 rdP Tryz.prog (Instr.fieldAt 112 v0 3) λv10=>
 rdW Tryz.prog (Instr.loadAt 2 v10) w1.drew λv11=>
 Ca Tryz.prog 100 #[a0,v4] w1.drew λv12 w13=>
 Sem.run Tryz.prog (Instr.loadAt 2 v10) w13=.ok v11 w13∧Sem.run Tryz.prog (Instr.loadAt 2 v8) w13=.ok v9 w13∧Sem.run Tryz.prog (convert 35 27 v6) w13=.ok v7 w13∧Sem.run Tryz.prog (Instr.loadAt 35 v5) w13=.ok v6 w13∧
 (Ca Tryz.prog 100 #[v12,v7] w13 λv14 w15=>
 Sem.run Tryz.prog (Instr.loadAt 2 v10) w15=.ok v11 w15∧Sem.run Tryz.prog (Instr.loadAt 2 v8) w15=.ok v9 w15∧
 (Ca Tryz.prog 154 #[v14,v9] w15 λv16 w17=>
 Sem.run Tryz.prog (Instr.loadAt 2 v10) w17=.ok v11 w17∧
 (Ca Tryz.prog 154 #[v16,v11] w17 λv18 w19=>
 K v18 w19)))
theorem F162_eq(a0 a1:Value)(w:World)(K:Kont):vcFnJ Tryz.prog Tryz.f162 [a0,a1] w K=F162 a0 a1 w K:=by kernel_rfl
theorem F162_ok:okF Tryz.prog Tryz.f162 2=true:=by kernel_rfl
theorem ca162{a0 a1:Value}{w:World}{K:Kont}(h:F162 a0 a1 w K):Ca Tryz.prog 162 #[a0,a1] w K:=
 ca_of_vcJ Tryz.noNum Tryz.func162 F162_ok (by rw[F162_eq];exact h)
def F164(a0 a1:Value)(w:World)(K:Kont):Prop:=
 rv Tryz.prog (Instr.box 119 a1) w λv0 w1=>
 rdP Tryz.prog (Instr.fieldAt 119 v0 0) λv2=>
 rdW Tryz.prog (Instr.loadAt 35 v2) w1.drew λv3=>
 rdW Tryz.prog (convert 35 27 v3) w1.drew λv4=>
 rdP Tryz.prog (Instr.fieldAt 119 v0 1) λv5=>
 rdP Tryz.prog (Instr.fieldAt 117 v5 0) λv6=>
 rdW Tryz.prog (Instr.loadAt 27 v6) w1.drew λv7=>
 rdP Tryz.prog (Instr.fieldAt 119 v0 1) λv8=>
 rdP Tryz.prog (Instr.fieldAt 117 v8 1) λv9=>
 rdW Tryz.prog (Instr.loadAt 35 v9) w1.drew λv10=>
 rdW Tryz.prog (convert 35 27 v10) w1.drew λv11=>
 Ca Tryz.prog 100 #[a0,v4] w1.drew λv12 w13=>
 Sem.run Tryz.prog (convert 35 27 v10) w13=.ok v11 w13∧Sem.run Tryz.prog (Instr.loadAt 35 v9) w13=.ok v10 w13∧Sem.run Tryz.prog (Instr.loadAt 27 v6) w13=.ok v7 w13∧
 (Ca Tryz.prog 100 #[v12,v7] w13 λv14 w15=>
 Sem.run Tryz.prog (convert 35 27 v10) w15=.ok v11 w15∧Sem.run Tryz.prog (Instr.loadAt 35 v9) w15=.ok v10 w15∧
 (Ca Tryz.prog 100 #[v14,v11] w15 λv16 w17=>
 rdP Tryz.prog (Instr.fieldAt 119 v0 1) λv18=>
 rdP Tryz.prog (Instr.fieldAt 117 v18 2) λv19=>
 rdW Tryz.prog (Instr.loadAt 4 v19) w17.drew λv20=>
 rdP Tryz.prog (Instr.fieldAt 119 v0 1) λv21=>
 rdP Tryz.prog (Instr.fieldAt 117 v21 3) λv22=>
 rdW Tryz.prog (Instr.loadAt 2 v22) w17.drew λv23=>
 rdP Tryz.prog (Instr.fieldAt 119 v0 1) λv24=>
 rdP Tryz.prog (Instr.fieldAt 117 v24 4) λv25=>
 rdW Tryz.prog (Instr.loadAt 2 v25) w17.drew λv26=>
 Ca Tryz.prog 157 #[v16,v20] w17.drew λv27 w28=>
 Sem.run Tryz.prog (Instr.loadAt 2 v25) w28=.ok v26 w28∧Sem.run Tryz.prog (Instr.loadAt 2 v22) w28=.ok v23 w28∧
 (Ca Tryz.prog 154 #[v27,v23] w28 λv29 w30=>
 Sem.run Tryz.prog (Instr.loadAt 2 v25) w30=.ok v26 w30∧
 (Ca Tryz.prog 154 #[v29,v26] w30 λv31 w32=>
 K v31 w32))))
theorem F164_eq(a0 a1:Value)(w:World)(K:Kont):vcFnJ Tryz.prog Tryz.f164 [a0,a1] w K=F164 a0 a1 w K:=by kernel_rfl
theorem F164_ok:okF Tryz.prog Tryz.f164 2=true:=by kernel_rfl
theorem ca164{a0 a1:Value}{w:World}{K:Kont}(h:F164 a0 a1 w K):Ca Tryz.prog 164 #[a0,a1] w K:=
 ca_of_vcJ Tryz.noNum Tryz.func164 F164_ok (by rw[F164_eq];exact h)
def L155_0(v6:Value)(a1:Value)(a2:Value)(K:Kont)(s8:Value×Value×Unit)(w9:World)(K10:Value×Value×Unit→World→Prop):Prop:=
 ∀_:Nat→Value,
 rv Tryz.prog (bin .lss 3 false s8.2.1 v6) w9 λv11 w12=>
 ifB v11
 (rv Tryz.prog (Instr.indexAt 44 a1 s8.2.1) w12 λv13 w14=>
 rv Tryz.prog (Instr.loadAt 92 v13) w14 λv15 w16=>
 rv Tryz.prog (Instr.alloc 92 true (.tuple #[])) w16 λv17 w18=>
 ru Tryz.prog (Instr.storeAt 92 v17 v15) w18 λw19=>
 rv Tryz.prog (Instr.loadAt 92 v17) w19 λv20 w21=>
 callV Tryz.prog a2 [s8.1,v20] w21 λv22 w23=>
 rv Tryz.prog (bin .add 3 true s8.2.1 (.int .i64 1)) w23 λv24 w25=>
 K10 (v22,v24,()) w25)
 (K s8.1 w12)
def F155(a0 a1 a2:Value)(w:World)(K:Kont):Prop:=
 rn Tryz.prog (builtin .len #[44] 3 #[false] #[a1]) w λv0 w1=>
 rv Tryz.prog (convert 3 27 v0) w1 λv2 w3=>
 Ca Tryz.prog 100 #[a0,v2] w3 λv4 w5=>
 rn Tryz.prog (builtin .len #[44] 3 #[false] #[a1]) w5 λv6 w7=>
 LoopW (S:=Value×Value×Unit) (L155_0 v6 a1 a2 K) (v4,(.int .i64 0),()) w7
theorem F155_eq(a0 a1 a2:Value)(w:World)(K:Kont):vcFnJ Tryz.prog Tryz.f155 [a0,a1,a2] w K=F155 a0 a1 a2 w K:=by kernel_rfl
theorem F155_ok:okF Tryz.prog Tryz.f155 3=true:=by kernel_rfl
theorem ca155{a0 a1 a2:Value}{w:World}{K:Kont}(h:F155 a0 a1 a2 w K):Ca Tryz.prog 155 #[a0,a1,a2] w K:=
 ca_of_vcJ Tryz.noNum Tryz.func155 F155_ok (by rw[F155_eq];exact h)
def L158_0(v6:Value)(a1:Value)(a2:Value)(K:Kont)(s8:Value×Value×Unit)(w9:World)(K10:Value×Value×Unit→World→Prop):Prop:=
 ∀_:Nat→Value,
 rv Tryz.prog (bin .lss 3 false s8.2.1 v6) w9 λv11 w12=>
 ifB v11
 (rv Tryz.prog (Instr.indexAt 45 a1 s8.2.1) w12 λv13 w14=>
 rx Tryz.prog (bigS 108 v13) w14 λv15 w16=>
 rx Tryz.prog (bigA 108) w16 λv17 w18=>
 rux Tryz.prog (bigU 108 v17 v15) w18 λw19=>
 rx Tryz.prog (bigS 108 v17) w19 λv20 w21=>
 callV Tryz.prog a2 [s8.1,v20] w21 λv22 w23=>
 rv Tryz.prog (bin .add 3 true s8.2.1 (.int .i64 1)) w23 λv24 w25=>
 K10 (v22,v24,()) w25)
 (K s8.1 w12)
def F158(a0 a1 a2:Value)(w:World)(K:Kont):Prop:=
 rn Tryz.prog (builtin .len #[45] 3 #[false] #[a1]) w λv0 w1=>
 rv Tryz.prog (convert 3 27 v0) w1 λv2 w3=>
 Ca Tryz.prog 100 #[a0,v2] w3 λv4 w5=>
 rn Tryz.prog (builtin .len #[45] 3 #[false] #[a1]) w5 λv6 w7=>
 LoopW (S:=Value×Value×Unit) (L158_0 v6 a1 a2 K) (v4,(.int .i64 0),()) w7
theorem F158_eq(a0 a1 a2:Value)(w:World)(K:Kont):vcFnJ Tryz.prog Tryz.f158 [a0,a1,a2] w K=F158 a0 a1 a2 w K:=by kernel_rfl
theorem F158_ok:okF Tryz.prog Tryz.f158 3=true:=by kernel_rfl
theorem ca158{a0 a1 a2:Value}{w:World}{K:Kont}(h:F158 a0 a1 a2 w K):Ca Tryz.prog 158 #[a0,a1,a2] w K:=
 ca_of_vcJ Tryz.noNum Tryz.func158 F158_ok (by rw[F158_eq];exact h)
def L161_0(v6:Value)(a1:Value)(a2:Value)(K:Kont)(s8:Value×Value×Unit)(w9:World)(K10:Value×Value×Unit→World→Prop):Prop:=
 ∀_:Nat→Value,
 rv Tryz.prog (bin .lss 3 false s8.2.1 v6) w9 λv11 w12=>
 ifB v11
 (rv Tryz.prog (Instr.indexAt 46 a1 s8.2.1) w12 λv13 w14=>
 rv Tryz.prog (Instr.loadAt 112 v13) w14 λv15 w16=>
 rv Tryz.prog (Instr.alloc 112 true (.tuple #[])) w16 λv17 w18=>
 ru Tryz.prog (Instr.storeAt 112 v17 v15) w18 λw19=>
 rv Tryz.prog (Instr.loadAt 112 v17) w19 λv20 w21=>
 callV Tryz.prog a2 [s8.1,v20] w21 λv22 w23=>
 rv Tryz.prog (bin .add 3 true s8.2.1 (.int .i64 1)) w23 λv24 w25=>
 K10 (v22,v24,()) w25)
 (K s8.1 w12)
def F161(a0 a1 a2:Value)(w:World)(K:Kont):Prop:=
 rn Tryz.prog (builtin .len #[46] 3 #[false] #[a1]) w λv0 w1=>
 rv Tryz.prog (convert 3 27 v0) w1 λv2 w3=>
 Ca Tryz.prog 100 #[a0,v2] w3 λv4 w5=>
 rn Tryz.prog (builtin .len #[46] 3 #[false] #[a1]) w5 λv6 w7=>
 LoopW (S:=Value×Value×Unit) (L161_0 v6 a1 a2 K) (v4,(.int .i64 0),()) w7
theorem F161_eq(a0 a1 a2:Value)(w:World)(K:Kont):vcFnJ Tryz.prog Tryz.f161 [a0,a1,a2] w K=F161 a0 a1 a2 w K:=by kernel_rfl
theorem F161_ok:okF Tryz.prog Tryz.f161 3=true:=by kernel_rfl
theorem ca161{a0 a1 a2:Value}{w:World}{K:Kont}(h:F161 a0 a1 a2 w K):Ca Tryz.prog 161 #[a0,a1,a2] w K:=
 ca_of_vcJ Tryz.noNum Tryz.func161 F161_ok (by rw[F161_eq];exact h)
def L163_0(v6:Value)(a1:Value)(a2:Value)(K:Kont)(s8:Value×Value×Unit)(w9:World)(K10:Value×Value×Unit→World→Prop):Prop:=
 ∀_:Nat→Value,
 rv Tryz.prog (bin .lss 3 false s8.2.1 v6) w9 λv11 w12=>
 ifB v11
 (rv Tryz.prog (Instr.indexAt 47 a1 s8.2.1) w12 λv13 w14=>
 rv Tryz.prog (Instr.loadAt 119 v13) w14 λv15 w16=>
 rv Tryz.prog (Instr.alloc 119 true (.tuple #[])) w16 λv17 w18=>
 ru Tryz.prog (Instr.storeAt 119 v17 v15) w18 λw19=>
 rv Tryz.prog (Instr.loadAt 119 v17) w19 λv20 w21=>
 callV Tryz.prog a2 [s8.1,v20] w21 λv22 w23=>
 rv Tryz.prog (bin .add 3 true s8.2.1 (.int .i64 1)) w23 λv24 w25=>
 K10 (v22,v24,()) w25)
 (K s8.1 w12)
def F163(a0 a1 a2:Value)(w:World)(K:Kont):Prop:=
 rn Tryz.prog (builtin .len #[47] 3 #[false] #[a1]) w λv0 w1=>
 rv Tryz.prog (convert 3 27 v0) w1 λv2 w3=>
 Ca Tryz.prog 100 #[a0,v2] w3 λv4 w5=>
 rn Tryz.prog (builtin .len #[47] 3 #[false] #[a1]) w5 λv6 w7=>
 LoopW (S:=Value×Value×Unit) (L163_0 v6 a1 a2 K) (v4,(.int .i64 0),()) w7
theorem F163_eq(a0 a1 a2:Value)(w:World)(K:Kont):vcFnJ Tryz.prog Tryz.f163 [a0,a1,a2] w K=F163 a0 a1 a2 w K:=by kernel_rfl
theorem F163_ok:okF Tryz.prog Tryz.f163 3=true:=by kernel_rfl
theorem ca163{a0 a1 a2:Value}{w:World}{K:Kont}(h:F163 a0 a1 a2 w K):Ca Tryz.prog 163 #[a0,a1,a2] w K:=
 ca_of_vcJ Tryz.noNum Tryz.func163 F163_ok (by rw[F163_eq];exact h)
end Go.Proofs
