/- Part of a proof. -/
import Derived.Test.YtgebhcgmckjbbaaGreatO12
set_option linter.all false
namespace Go.Proofs
open Go Go.Vc
def zig(x:Int):Nat:=if 0≤x then 2*x.toNat else 2*(-x - 1).toNat+1
def zag(n:Nat):Int:=if n%2=0 then(n / 2:Nat)else -((n / 2:Nat):Int) - 1
theorem zig_zag(n:Nat):zig (zag n)=n:=by
 unfold zag
 by_cases h:n%2=0
 ·rw[if_pos h];unfold zig;rw[if_pos (by omega)];omega
 ·rw[if_neg h];unfold zig;rw[if_neg (by omega)];omega
theorem zig_lt{x:Int}(h:R64' x):zig x<18446744073709551616:=by
 unfold zig;split<;>omega
theorem zag_fit{n:Nat}(h:n<18446744073709551616):R64' (zag n):=by
 unfold zag;split<;>(constructor<;>omega)
def numB(x:Int):List UInt8:=natB x.toNat
def intB(x:Int):List UInt8:=natB (zig x)
def flagB(f:Bool):List UInt8:=[if f then 1 else 0]
def spB(s:Sp):List UInt8:=
 if s.may then numB s.num++(numB s.route++(numB s.tick++(numB s.lot++(numB s.band++numB s.limit))))++s.shifts.toList.flatMap intB++(numB s.credit++(numB s.last++numB s.first))else []
def acB(a:Ac):List UInt8:=numB a.num++(intB a.cash++(flagB a.kil++flagB a.dfl))
def ctB(k:Ct):List UInt8:=spB k.spec++(numB k.st++intB k.price)
def poB(p:Po):List UInt8:=numB p.c++(numB p.a++(intB p.q++intB p.b))
def odB(x:Int×Od):List UInt8:=numB x.1++(numB x.2.num++(numB x.2.acct++(flagB x.2.buy++(intB x.2.price++intB x.2.left))))
def lsB{α:Type}(f:α→List UInt8)(l:List α):List UInt8:=natB l.length++l.flatMap f
def staB(s:Sta):List UInt8:=numB s.day++(numB s.next++(intB s.fund++(lsB acB s.accts++(lsB ctB s.cts++(lsB poB s.poss++(lsB odB s.ords++lsB odB s.bids))))))
def rsNum(l:List UInt8)(most:Nat)(s:Rs):Int×Rs:=((rsSmall l most s).1,(rsSmall l most s).2)
def rsInt(l:List UInt8)(s:Rs):Int×Rs:=(zag (rsSmall l 18446744073709551615 s).1,(rsSmall l 18446744073709551615 s).2)
def rsFlag(l:List UInt8)(s:Rs):Bool×Rs:=
 if s.e≠0 then(false,s)else if s.at_=l.length then(false,{s with e:=4})
 else if 1<(l.getD s.at_ 0).toNat then(false,{s with e:=5})else(decide ((l.getD s.at_ 0).toNat=1),{s with at_:=s.at_+1})
def rsFail(e:Nat)(s:Rs):Rs:=if s.e≠0 then s else{s with e:=e}
def rsInts(l:List UInt8):Nat→Rs→List Int×Rs
 |0,s=>([],s)
 |n+1,s=>((rsInt l s).1::(rsInts l n (rsInt l s).2).1,(rsInts l n (rsInt l s).2).2)
theorem rsInts_len(l:List UInt8):∀(n:Nat) (s:Rs),(rsInts l n s).1.length=n
 |0,s=>rfl
 |n+1,s=>by simp only[rsInts,List.length_cons,rsInts_len l n]
def W32:Nat:=4294967295
def W63:Nat:=9223372036854775807
def W64:Nat:=18446744073709551615
def rsSp0(l:List UInt8)(s:Rs):Sp×Rs:=
 let a:=rsNum l W32 s
 let b:=rsNum l 255 a.2
 let c:=rsNum l W63 b.2
 let d:=rsNum l W63 c.2
 let e:=rsNum l W63 d.2
 let f:=rsNum l W63 e.2
 let g:=rsInts l 16 f.2
 let h:=rsNum l W63 g.2
 let i:=rsNum l W32 h.2
 let j:=rsNum l W63 i.2
 (⟨a.1,b.1,c.1,d.1,e.1,f.1,⟨g.1.toArray,by simp[g,rsInts_len]⟩,h.1,i.1,j.1⟩,j.2)
def rsSp(l:List UInt8)(s:Rs):Sp×Rs:=if(rsSp0 l s).1.may then rsSp0 l s else(zSp,rsFail 5 (rsSp0 l s).2)
def rsAc(l:List UInt8)(s:Rs):Ac×Rs:=
 let a:=rsNum l W32 s
 let b:=rsInt l a.2
 let c:=rsFlag l b.2
 let d:=rsFlag l c.2
 (⟨a.1,b.1,c.1,d.1⟩,d.2)
def rsCt(l:List UInt8)(s:Rs):Ct×Rs:=
 let a:=rsSp l s
 let b:=rsNum l 255 a.2
 let c:=rsInt l b.2
 (⟨a.1,b.1,c.1⟩,c.2)
def rsPo(l:List UInt8)(s:Rs):Po×Rs:=
 let a:=rsNum l W32 s
 let b:=rsNum l W32 a.2
 let c:=rsInt l b.2
 let d:=rsInt l c.2
 (⟨a.1,b.1,c.1,d.1⟩,d.2)
def rsOd(l:List UInt8)(s:Rs):(Int×Od)×Rs:=
 let a:=rsNum l W32 s
 let b:=rsNum l W64 a.2
 let c:=rsNum l W32 b.2
 let d:=rsFlag l c.2
 let e:=rsInt l d.2
 let f:=rsInt l e.2
 ((a.1,⟨b.1,c.1,d.1,e.1,f.1⟩),f.2)
def rsTake{α:Type}(l:List UInt8)(f:Rs→α×Rs):Nat→List α→Rs→List α×Rs
 |0,acc,s=>(acc,s)
 |n+1,acc,s=>if l.length - (f s).2.at_=0∧rsDone l (f s).2≠0 then([],(f s).2)else rsTake l f n (acc++[(f s).1]) (f s).2
def rsList{α:Type}(l:List UInt8)(f:Rs→α×Rs)(most:Nat)(s:Rs):List α×Rs:=rsTake l f (rsSmall l most s).1 [] (rsSmall l most s).2
def rsSta(l:List UInt8):Sta×Rs:=
 let a:=rsNum l W32 ⟨0,0⟩
 let b:=rsNum l W64 a.2
 let c:=rsInt l b.2
 let d:=rsList l (rsAc l) 64 c.2
 let e:=rsList l (rsCt l) 16 d.2
 let f:=rsList l (rsPo l) 1024 e.2
 let g:=rsList l (rsOd l) 3200 f.2
 let h:=rsList l (rsOd l) 800 g.2
 (⟨a.1,b.1,c.1,d.1,e.1,f.1,g.1,h.1⟩,h.2)
theorem rdN_er{l:List UInt8}:∀{k acc e:Nat},rdN l k acc=.error e→e=4∨e=5:=by
 induction l with
 |nil=>intro k acc e h;cases h;exact .inl rfl
 |cons x r ih=>
  intro k acc e h
  simp only[rdN]at h
  split at h
  ·cases h;exact .inr rfl
  ·split at h
   ·split at h
    ·cases h;exact .inr rfl
    ·cases h
   ·exact ih h
structure Gone(l:List UInt8)(s s' :Rs)(b:List UInt8):Prop where
 le:s.at_≤l.length→s'.at_≤l.length
 ok:s'.e=0→s.e=0
 eq:s.at_≤l.length→s'.e=0→l.drop s.at_=b++l.drop s'.at_
theorem Gone.trans{l:List UInt8}{s s' s'' :Rs}{b b' :List UInt8}(h:Gone l s s' b)(h' :Gone l s' s'' b'):Gone l s s'' (b++b') where
 le h0:=h'.le (h.le h0)
 ok h0:=h.ok (h'.ok h0)
 eq h0 h1:=by rw[h.eq h0 (h'.ok h1),h'.eq (h.le h0) h1,List.append_assoc]
theorem Gone.nil(l:List UInt8)(s:Rs):Gone l s s []:=⟨id,id,λ_ _=>rfl⟩
theorem Gone.cast{l:List UInt8}{s s' :Rs}{b b' :List UInt8}(h:Gone l s s' b)(e:s'.e=0→b=b'):Gone l s s' b' :=⟨h.le,h.ok,λh0 h1=>by rw[←e h1];exact h.eq h0 h1⟩
theorem gone_small(l:List UInt8)(most:Nat)(s:Rs):Gone l s (rsSmall l most s).2 (natB (rsSmall l most s).1):=by
 refine⟨rsSmall_le,λh=>?_,λh0 h1=>?_⟩
 ·unfold rsSmall at h
  by_cases he:s.e≠0
  ·rw[if_pos he]at h;exact h
  ·simpa using he
 ·unfold rsSmall at h1⊢
  by_cases he:s.e≠0
  ·rw[if_pos he]at h1;exact absurd h1 he
  rw[if_neg he]at h1⊢
  cases hr:rdN (l.drop s.at_) 0 0 with
  |error e=>
   rw[hr]at h1
   rcases(show e=4∨e=5 from rdN_er hr)with rfl|rfl<;>cases h1
  |ok p=>
   obtain⟨n,k⟩:=p
   rw[hr]at h1
   simp only at h1⊢
   by_cases hm:most<n
   ·rw[if_pos hm]at h1;cases h1
   rw[if_neg hm]
   have hf:=rdN_form hr
   show _=natB n++l.drop (s.at_+k)
   rw[←hf.2.2.1,←List.drop_drop,List.take_append_drop]
theorem gone_num(l:List UInt8)(most:Nat)(s:Rs):Gone l s (rsNum l most s).2 (numB (rsNum l most s).1):=by
 have:=gone_small l most s
 unfold numB rsNum
 simpa using this
theorem gone_int(l:List UInt8)(s:Rs):Gone l s (rsInt l s).2 (intB (rsInt l s).1):=by
 have:=gone_small l W64 s
 unfold intB rsInt
 rw[zig_zag]
 exact this
theorem gone_flag(l:List UInt8)(s:Rs):Gone l s (rsFlag l s).2 (flagB (rsFlag l s).1):=by
 unfold rsFlag
 by_cases he:s.e≠0
 ·rw[if_pos he]
  exact⟨id,id,λ_ h=>absurd h he⟩
 rw[if_neg he]
 have he0:s.e=0:=by simpa using he
 by_cases h1:s.at_=l.length
 ·rw[if_pos h1]
  exact⟨id,λh=>(by cases h),λ_ h=>(by cases h)⟩
 rw[if_neg h1]
 by_cases h2:1<(l.getD s.at_ 0).toNat
 ·rw[if_pos h2]
  exact⟨id,λh=>(by cases h),λ_ h=>(by cases h)⟩
 rw[if_neg h2]
 refine⟨λh=>by show s.at_+1≤_;omega,λ_=>he0,λh _=>?_⟩
 have hlt:s.at_<l.length:=by omega
 show l.drop s.at_=flagB _++l.drop (s.at_+1)
 rw[List.drop_eq_getElem_cons hlt]
 have hg:l.getD s.at_ 0=l[s.at_]:=by simp[hlt]
 rw[hg]at h2⊢
 unfold flagB
 have hx:(if decide (l[s.at_].toNat=1)=true then(1:UInt8)else 0)=l[s.at_]:=by
  apply UInt8.toNat.inj
  by_cases h3:l[s.at_].toNat=1
  ·simp[h3]
  ·have:l[s.at_].toNat=0:=by omega
   simp[this]
 rw[hx];rfl
theorem gone_ints(l:List UInt8):∀(n:Nat) (s:Rs),Gone l s (rsInts l n s).2 ((rsInts l n s).1.flatMap intB)
 |0,s=>Gone.nil l s
 |n+1,s=>by
  simp only[rsInts,List.flatMap_cons]
  exact(gone_int l s).trans (gone_ints l n _)
theorem rdN_ext{m:List UInt8}:∀{l:List UInt8} {k a:Nat} {p:Nat×Nat},rdN l k a=.ok p→rdN (l++m) k a=.ok p
 | [],k,a,p,h=>by cases h
 |x::r,k,a,p,h=>by
  simp only[List.cons_append,rdN]at h⊢
  by_cases h1:k=9∧1<x.toNat∨9<k
  ·rw[if_pos h1]at h;cases h
  rw[if_neg h1]at h⊢
  by_cases h2:x.toNat<128
  ·rw[if_pos h2]at h⊢;exact h
  ·rw[if_neg h2]at h⊢;exact rdN_ext h
def Ext{α:Type}(l:List UInt8)(f g:Rs→α×Rs):Prop:=∀s,s.at_≤l.length→(f s).2.e=0→g s=f s
theorem ext_small(l m:List UInt8)(most:Nat):Ext l (rsSmall l most) (rsSmall (l++m) most):=by
 intro s h0 h1
 unfold rsSmall at h1⊢
 by_cases he:s.e≠0
 ·rw[if_pos he]at h1;exact absurd h1 he
 rw[if_neg he]at h1⊢
 rw[if_neg he]
 cases hr:rdN (l.drop s.at_) 0 0 with
 |error e=>
  rw[hr]at h1
  rcases(show e=4∨e=5 from rdN_er hr)with rfl|rfl<;>cases h1
 |ok p=>
  rw[List.drop_append_of_le_length h0,rdN_ext hr]
theorem ext_num(l m:List UInt8)(most:Nat):Ext l (rsNum l most) (rsNum (l++m) most):=λs h0 h1=>by
 unfold rsNum;rw[ext_small l m most s h0 h1]
theorem ext_int(l m:List UInt8):Ext l (rsInt l) (rsInt (l++m)):=λs h0 h1=>by
 unfold rsInt;rw[ext_small l m _ s h0 h1]
theorem ext_flag(l m:List UInt8):Ext l (rsFlag l) (rsFlag (l++m)):=by
 intro s h0 h1
 unfold rsFlag at h1⊢
 by_cases he:s.e≠0
 ·rw[if_pos he,if_pos he]
 rw[if_neg he]at h1⊢
 rw[if_neg he]
 by_cases h2:s.at_=l.length
 ·rw[if_pos h2]at h1;cases h1
 have hg:(l++m).getD s.at_ 0=l.getD s.at_ 0:=by
  have:s.at_<l.length:=by omega
  simp[List.getElem?_append_left this]
 rw[if_neg h2,if_neg (by rw[List.length_append];omega),hg]
theorem ext_ints(l m:List UInt8):∀n,Ext l (rsInts l n) (rsInts (l++m) n)
 |0,s,_,_=>rfl
 |n+1,s,h0,h1=>by
  simp only[rsInts]at h1⊢
  have h2:=(gone_ints l n _).ok h1
  rw[ext_int l m s h0 h2,ext_ints l m n _ ((gone_int l s).le h0) h1]
attribute [local irreducible] rsNum rsInt rsFlag rsInts
theorem gone_sp0(l:List UInt8)(s:Rs):Gone l s (rsSp0 l s).2 (numB (rsSp0 l s).1.num++(numB (rsSp0 l s).1.route++(numB (rsSp0 l s).1.tick++(numB (rsSp0 l s).1.lot++(numB (rsSp0 l s).1.band++numB (rsSp0 l s).1.limit))))++(rsSp0 l s).1.shifts.toList.flatMap intB++(numB (rsSp0 l s).1.credit++(numB (rsSp0 l s).1.last++numB (rsSp0 l s).1.first))):=by
 have h1:=(gone_num l W32 s).trans ((gone_num l 255 _).trans ((gone_num l W63 _).trans ((gone_num l W63 _).trans ((gone_num l W63 _).trans (gone_num l W63 _)))))
 have H:=(h1.trans (gone_ints l 16 _)).trans ((gone_num l W63 _).trans ((gone_num l W32 _).trans (gone_num l W63 _)))
 unfold rsSp0
 simp only
 exact H
theorem gone_sp(l:List UInt8)(s:Rs):Gone l s (rsSp l s).2 (spB (rsSp l s).1):=by
 have h:=gone_sp0 l s
 unfold rsSp
 by_cases hm:(rsSp0 l s).1.may=true
 ·rw[if_pos hm]
  unfold spB
  rw[if_pos hm]
  exact h
 ·rw[if_neg hm]
  refine⟨λh0=>?_,λh0=>?_,λ_ h0=>?_⟩
  ·unfold rsFail;split
   ·exact h.le h0
   ·exact h.le h0
  ·exfalso;unfold rsFail at h0;split at h0
   ·exact absurd h0 (by assumption)
   ·cases h0
  ·exfalso;unfold rsFail at h0;split at h0
   ·exact absurd h0 (by assumption)
   ·cases h0
theorem gone_ac(l:List UInt8)(s:Rs):Gone l s (rsAc l s).2 (acB (rsAc l s).1):=by
 have H:=(gone_num l W32 s).trans ((gone_int l _).trans ((gone_flag l _).trans (gone_flag l _)))
 unfold rsAc
 simp only
 exact H
theorem gone_ct(l:List UInt8)(s:Rs):Gone l s (rsCt l s).2 (ctB (rsCt l s).1):=by
 have H:=(gone_sp l s).trans ((gone_num l 255 _).trans (gone_int l _))
 unfold rsCt
 simp only
 exact H
theorem gone_po(l:List UInt8)(s:Rs):Gone l s (rsPo l s).2 (poB (rsPo l s).1):=by
 have H:=(gone_num l W32 s).trans ((gone_num l W32 _).trans ((gone_int l _).trans (gone_int l _)))
 unfold rsPo
 simp only
 exact H
theorem gone_od(l:List UInt8)(s:Rs):Gone l s (rsOd l s).2 (odB (rsOd l s).1):=by
 have H:=(gone_num l W32 s).trans ((gone_num l W64 _).trans ((gone_num l W32 _).trans ((gone_flag l _).trans ((gone_int l _).trans (gone_int l _)))))
 unfold rsOd
 simp only
 exact H
theorem done_ne{l:List UInt8}{s:Rs}(h:l.length - s.at_=0∧rsDone l s≠0):s.e≠0:=by
 intro he
 apply h.2
 unfold rsDone
 rw[if_neg (by omega)];exact he
theorem take_len{α:Type}{l:List UInt8}{f:Rs→α×Rs}{g:α→List UInt8}(hf:∀s,Gone l s (f s).2 (g (f s).1)):∀(n:Nat) (acc:List α) (s:Rs),(rsTake l f n acc s).2.e=0→(rsTake l f n acc s).1.length=acc.length+n
 |0,acc,s,h=>rfl
 |n+1,acc,s,h=>by
  unfold rsTake at h⊢
  by_cases hd:l.length - (f s).2.at_=0∧rsDone l (f s).2≠0
  ·rw[if_pos hd]at h
   exact absurd h (done_ne hd)
  ·rw[if_neg hd]at h⊢
   rw[take_len hf n _ _ h,List.length_append,List.length_singleton];omega
theorem gone_take{α:Type}{l:List UInt8}{f:Rs→α×Rs}{g:α→List UInt8}(hf:∀s,Gone l s (f s).2 (g (f s).1)):∀(n:Nat) (acc:List α) (s:Rs),
  ∃t,Gone l s (rsTake l f n acc s).2 (t.flatMap g)∧((rsTake l f n acc s).2.e=0→(rsTake l f n acc s).1=acc++t)
 |0,acc,s=>⟨[],Gone.nil l s,λ_=>(List.append_nil acc).symm⟩
 |n+1,acc,s=>by
  unfold rsTake
  by_cases hd:l.length - (f s).2.at_=0∧rsDone l (f s).2≠0
  ·rw[if_pos hd]
   exact⟨[(f s).1],by simpa using hf s,λh=>absurd h (done_ne hd)⟩
  ·rw[if_neg hd]
   obtain⟨t,h1,h2⟩:=gone_take hf n (acc++[(f s).1]) (f s).2
   refine⟨(f s).1::t,by rw[List.flatMap_cons];exact(hf s).trans h1,λh=>?_⟩
   rw[h2 h,List.append_assoc];rfl
theorem gone_list{α:Type}{l:List UInt8}{f:Rs→α×Rs}{g:α→List UInt8}(hf:∀s,Gone l s (f s).2 (g (f s).1))(most:Nat)(s:Rs):Gone l s (rsList l f most s).2 (lsB g (rsList l f most s).1):=by
 unfold rsList
 obtain⟨t,h1,h2⟩:=gone_take hf (rsSmall l most s).1 [] (rsSmall l most s).2
 refine((gone_small l most s).trans h1).cast λh=>?_
 have hl:=take_len hf (rsSmall l most s).1 [] (rsSmall l most s).2 h
 have ht:=h2 h
 rw[List.nil_append]at ht
 unfold lsB
 rw[hl,ht]
 simp
attribute [local irreducible] rsSp rsAc rsCt rsPo rsOd rsList
theorem gone_sta(l:List UInt8):Gone l ⟨0,0⟩ (rsSta l).2 (staB (rsSta l).1):=by
 have H:=(gone_num l W32 ⟨0,0⟩).trans ((gone_num l W64 _).trans ((gone_int l _).trans ((gone_list (gone_ac l) 64 _).trans ((gone_list (gone_ct l) 16 _).trans ((gone_list (gone_po l) 1024 _).trans ((gone_list (gone_od l) 3200 _).trans (gone_list (gone_od l) 800 _)))))))
 unfold rsSta
 simp only
 exact H
theorem sta_form{l:List UInt8}(h:rsDone l (rsSta l).2=0):staB (rsSta l).1=l:=by
 have hg:=gone_sta l
 unfold rsDone at h
 by_cases hc:(rsSta l).2.e=0∧(rsSta l).2.at_<l.length
 ·rw[if_pos hc]at h;cases h
 rw[if_neg hc]at h
 have h1:=hg.le (Nat.zero_le _)
 have h2:=hg.eq (Nat.zero_le _) h
 rw[List.drop_zero,show(rsSta l).2.at_=l.length by omega,List.drop_length,List.append_nil]at h2
 exact h2.symm
theorem ext_sp0(l m:List UInt8):Ext l (rsSp0 l) (rsSp0 (l++m)):=by
 intro s h0 h1
 unfold rsSp0 at h1⊢
 simp only at h1⊢
 have a1:s.at_≤l.length:=h0
 have a2:=(gone_num l W32 s).le a1
 have a3:=(gone_num l 255 _).le a2
 have a4:=(gone_num l W63 _).le a3
 have a5:=(gone_num l W63 _).le a4
 have a6:=(gone_num l W63 _).le a5
 have a7:=(gone_num l W63 _).le a6
 have a8:=(gone_ints l 16 _).le a7
 have a9:=(gone_num l W63 _).le a8
 have a10:=(gone_num l W32 _).le a9
 have b10:=(gone_num l W63 _).ok h1
 have b9:=(gone_num l W32 _).ok b10
 have b8:=(gone_num l W63 _).ok b9
 have b7:=(gone_ints l 16 _).ok b8
 have b6:=(gone_num l W63 _).ok b7
 have b5:=(gone_num l W63 _).ok b6
 have b4:=(gone_num l W63 _).ok b5
 have b3:=(gone_num l W63 _).ok b4
 have b2:=(gone_num l 255 _).ok b3
 simp only[ext_num l m _ _ a1 b2,ext_num l m _ _ a2 b3,ext_num l m _ _ a3 b4,ext_num l m _ _ a4 b5,ext_num l m _ _ a5 b6,ext_num l m _ _ a6 b7,ext_ints l m _ _ a7 b8,ext_num l m _ _ a8 b9,ext_num l m _ _ a9 b10,ext_num l m _ _ a10 h1]
theorem ext_sp(l m:List UInt8):Ext l (rsSp l) (rsSp (l++m)):=by
 intro s h0 h1
 unfold rsSp at h1⊢
 by_cases hm:(rsSp0 l s).1.may=true
 ·rw[if_pos hm]at h1
  rw[ext_sp0 l m s h0 h1,if_pos hm]
 ·rw[if_neg hm]at h1
  exfalso;unfold rsFail at h1;split at h1
  ·exact absurd h1 (by assumption)
  ·cases h1
theorem ext_ac(l m:List UInt8):Ext l (rsAc l) (rsAc (l++m)):=by
 intro s a1 h1
 unfold rsAc at h1⊢
 simp only at h1⊢
 have a2:=(gone_num l W32 s).le a1
 have a3:=(gone_int l _).le a2
 have a4:=(gone_flag l _).le a3
 have b4:=(gone_flag l _).ok h1
 have b3:=(gone_flag l _).ok b4
 have b2:=(gone_int l _).ok b3
 simp only[ext_num l m _ _ a1 b2,ext_int l m _ a2 b3,ext_flag l m _ a3 b4,ext_flag l m _ a4 h1]
theorem ext_ct(l m:List UInt8):Ext l (rsCt l) (rsCt (l++m)):=by
 intro s a1 h1
 unfold rsCt at h1⊢
 simp only at h1⊢
 have a2:=(gone_sp l s).le a1
 have a3:=(gone_num l 255 _).le a2
 have b3:=(gone_int l _).ok h1
 have b2:=(gone_num l 255 _).ok b3
 simp only[ext_sp l m _ a1 b2,ext_num l m _ _ a2 b3,ext_int l m _ a3 h1]
theorem ext_po(l m:List UInt8):Ext l (rsPo l) (rsPo (l++m)):=by
 intro s a1 h1
 unfold rsPo at h1⊢
 simp only at h1⊢
 have a2:=(gone_num l W32 s).le a1
 have a3:=(gone_num l W32 _).le a2
 have a4:=(gone_int l _).le a3
 have b4:=(gone_int l _).ok h1
 have b3:=(gone_int l _).ok b4
 have b2:=(gone_num l W32 _).ok b3
 simp only[ext_num l m _ _ a1 b2,ext_num l m _ _ a2 b3,ext_int l m _ a3 b4,ext_int l m _ a4 h1]
theorem ext_od(l m:List UInt8):Ext l (rsOd l) (rsOd (l++m)):=by
 intro s a1 h1
 unfold rsOd at h1⊢
 simp only at h1⊢
 have a2:=(gone_num l W32 s).le a1
 have a3:=(gone_num l W64 _).le a2
 have a4:=(gone_num l W32 _).le a3
 have a5:=(gone_flag l _).le a4
 have a6:=(gone_int l _).le a5
 have b6:=(gone_int l _).ok h1
 have b5:=(gone_int l _).ok b6
 have b4:=(gone_flag l _).ok b5
 have b3:=(gone_num l W32 _).ok b4
 have b2:=(gone_num l W64 _).ok b3
 simp only[ext_num l m _ _ a1 b2,ext_num l m _ _ a2 b3,ext_num l m _ _ a3 b4,ext_flag l m _ a4 b5,ext_int l m _ a5 b6,ext_int l m _ a6 h1]
theorem ext_take{α:Type}{l m:List UInt8}{f g:Rs→α×Rs}{c:α→List UInt8}(hx:Ext l f g)(hf:∀s,Gone l s (f s).2 (c (f s).1)):∀(n:Nat) (acc:List α) (s:Rs),s.at_≤l.length→(rsTake l f n acc s).2.e=0→rsTake (l++m) g n acc s=rsTake l f n acc s
 |0,acc,s,h0,h1=>rfl
 |n+1,acc,s,h0,h1=>by
  unfold rsTake at h1⊢
  by_cases hd:l.length - (f s).2.at_=0∧rsDone l (f s).2≠0
  ·rw[if_pos hd]at h1
   exact absurd h1 (done_ne hd)
  ·rw[if_neg hd]at h1⊢
   obtain⟨t,g1,g2⟩:=gone_take hf n (acc++[(f s).1]) (f s).2
   have he:=g1.ok h1
   rw[hx s h0 he]
   rw[if_neg λhc=>done_ne hc he]
   exact ext_take hx hf n _ _ ((hf s).le h0) h1
theorem ext_list{α:Type}{l m:List UInt8}{f g:Rs→α×Rs}{c:α→List UInt8}(hx:Ext l f g)(hf:∀s,Gone l s (f s).2 (c (f s).1))(most:Nat):Ext l (rsList l f most) (rsList (l++m) g most):=by
 intro s h0 h1
 unfold rsList at h1⊢
 obtain⟨t,g1,g2⟩:=gone_take hf (rsSmall l most s).1 [] (rsSmall l most s).2
 rw[ext_small l m most s h0 (g1.ok h1)]
 exact ext_take hx hf _ _ _ ((gone_small l most s).le h0) h1
theorem ext_sta{l:List UInt8}(m:List UInt8)(h1:(rsSta l).2.e=0):rsSta (l++m)=rsSta l:=by
 unfold rsSta at h1⊢
 simp only at h1⊢
 have a1:(⟨0,0⟩:Rs).at_≤l.length:=Nat.zero_le _
 have a2:=(gone_num l W32 _).le a1
 have a3:=(gone_num l W64 _).le a2
 have a4:=(gone_int l _).le a3
 have a5:=(gone_list (gone_ac l) 64 _).le a4
 have a6:=(gone_list (gone_ct l) 16 _).le a5
 have a7:=(gone_list (gone_po l) 1024 _).le a6
 have a8:=(gone_list (gone_od l) 3200 _).le a7
 have b8:=(gone_list (gone_od l) 800 _).ok h1
 have b7:=(gone_list (gone_od l) 3200 _).ok b8
 have b6:=(gone_list (gone_po l) 1024 _).ok b7
 have b5:=(gone_list (gone_ct l) 16 _).ok b6
 have b4:=(gone_list (gone_ac l) 64 _).ok b5
 have b3:=(gone_int l _).ok b4
 have b2:=(gone_num l W64 _).ok b3
 simp only[ext_num l m _ _ a1 b2,ext_num l m _ _ a2 b3,ext_int l m _ a3 b4,ext_list (ext_ac l m) (gone_ac l) _ _ a4 b5,ext_list (ext_ct l m) (gone_ct l) _ _ a5 b6,ext_list (ext_po l m) (gone_po l) _ _ a6 b7,ext_list (ext_od l m) (gone_od l) _ _ a7 b8,ext_list (ext_od l m) (gone_od l) _ _ a8 h1]
theorem done0{l:List UInt8}{s:Rs}(h:rsDone l s=0):s.e=0∧l.length≤s.at_:=by
 unfold rsDone at h
 by_cases hc:s.e=0∧s.at_<l.length
 ·rw[if_pos hc]at h;cases h
 ·rw[if_neg hc]at h;omega
theorem sta_more{l:List UInt8}(h:rsDone l (rsSta l).2=0)(x:UInt8):rsDone (l++[x]) (rsSta (l++[x])).2≠0:=by
 have h0:=done0 h
 rw[ext_sta [x] h0.1]
 have:=(gone_sta l).le (Nat.zero_le _)
 unfold rsDone
 rw[if_pos ⟨h0.1,by rw[List.length_append,List.length_singleton];omega⟩]
 decide
theorem sta_less{l:List UInt8}(h:rsDone l (rsSta l).2=0)(hl:0<l.length):rsDone (l.take (l.length - 1)) (rsSta (l.take (l.length - 1))).2≠0:=by
 intro hc
 have e:l=l.take (l.length - 1)++[l[l.length - 1]]:=by
  conv=>lhs;rw[←List.take_append_drop (l.length - 1) l]
  rw[List.drop_eq_getElem_cons (by omega),List.drop_eq_nil_of_le (by omega)]
 have:=sta_more hc l[l.length - 1]
 rw[←e]at this
 exact this h
theorem sta_pos{l:List UInt8}(h:rsDone l (rsSta l).2=0):0<l.length:=by
 rw[←sta_form h]
 unfold staB numB
 rw[List.length_append]
 have:=natB_pos (rsSta l).1.day.toNat
 omega
end Go.Proofs
namespace Go.Proofs
open Go Go.Vc
attribute [local congr] Ca_congV
theorem ltIg(a b:Nat)(W:World):(bin .lss 3 false (.int .i64 (a:Int)) (.int .i64 (b:Int))).run Tryz.prog W=.ok (.bool (decide (a<b))) W:=by simp[go_sem]
theorem addI{i:Nat}(h:i<1000000)(W:World):(bin .add 3 true (.int .i64 (i:Int)) (.int .i64 1)).run Tryz.prog W=.ok (.int .i64 ((i+1:Nat):Int)) W:=by
 simp[go_sem];rw[wrapI (by omega) (by omega)]
theorem i64_xor0(a:Nat)(ha:a<9223372036854775808):bits .xor .i64 (a:Int) 0=(a:Int):=by
 show IntKind.i64.wrap ((BitVec.ofInt 64 (a:Int) ^^^ BitVec.ofInt 64 0).toNat:Int)=_
 have h1:BitVec.ofInt 64 0=0#64:=by decide
 rw[h1,BitVec.xor_zero,ofInt_u64 a (by omega)]
 simp[IntKind.wrap,IntKind.bits,IntKind.signed]
 omega
theorem i64_xorm(a:Nat)(ha:a<9223372036854775808):bits .xor .i64 (a:Int) (-1)= -1 - (a:Int):=by
 rw[←i64_not a ha]
 show IntKind.i64.wrap ((BitVec.ofInt 64 (a:Int) ^^^ BitVec.ofInt 64 (-1)).toNat:Int)=IntKind.i64.wrap ((BitVec.ofInt 64 (-1) ^^^ BitVec.ofInt 64 (a:Int)).toNat:Int)
 rw[BitVec.xor_comm]
theorem u64_xorm(a:Nat)(ha:a<18446744073709551616):bits .xor .u64 (a:Int) 18446744073709551615=((18446744073709551615 - a:Nat):Int):=by
 show IntKind.u64.wrap ((BitVec.ofInt 64 (a:Int) ^^^ BitVec.ofInt 64 18446744073709551615).toNat:Int)=_
 have h1:BitVec.ofInt 64 18446744073709551615=BitVec.allOnes 64:=by decide
 rw[h1,BitVec.xor_allOnes,BitVec.toNat_not,ofInt_u64 a ha,IntKind.wrap_u64]
 omega
theorem u64_xor0(a:Nat)(ha:a<18446744073709551616):bits .xor .u64 (a:Int) 0=(a:Int):=by
 have:=u64_xor_nat a 0 ha (by omega)
 simpa using this
theorem ca_rint{w:World}{K:Kont}{r:Nat}{v:Value}{l:List UInt8}{s:Rs}(h:RdrAt w r v l s)
  (hK:∀w',RdrAt w' r v l (rsInt l s).2→Mod (λb=>b=r) w w' →K (.int .i64 (rsInt l s).1) w'):Ca Tryz.prog 62 #[rptr r] w K:=by
 apply ca62
 unfold F62
 refine ca_rnat h λw1 h1 m1=>?_
 have hk:=hK w1 h1 m1
 unfold rsInt at hk
 simp only at hk
 have hn:(rsSmall l 18446744073709551615 s).1≤18446744073709551615:=rsSmall_most
 generalize(rsSmall l 18446744073709551615 s).1=n at hk hn⊢
 refine rvS (v:=.int .u64 ((n / 2:Nat):Int)) (w' :=w1) (by simp[go_sem]) ?_
 refine rvS (v:=.int .i64 ((n / 2:Nat):Int)) (w' :=w1) (by simp[-Int.natCast_ediv,go_sem];rw[wrapI (by omega) (by omega)]) ?_
 refine rvS (v:=.int .u64 ((n%2:Nat):Int)) (w' :=w1) (by simp only[go_sem];simp[-Int.natCast_emod,go_sem];rw[show(1:Int)=((1:Nat):Int)from rfl,u64_and_nat _ _ (by omega) (by omega),nat_mask1]) ?_
 refine rvS (v:=.int .i64 ((n%2:Nat):Int)) (w' :=w1) (by simp[-Int.natCast_emod,go_sem];rw[wrapI (by omega) (by omega)]) ?_
 by_cases h2:n%2=0
 ·rw[h2]
  refine rvS (v:=.int .i64 0) (w' :=w1) (by simp[go_sem];decide) ?_
  refine rvS (v:=.int .i64 ((n / 2:Nat):Int)) (w' :=w1) (by simp only[go_sem];simp[-Int.natCast_ediv,go_sem];rw[i64_xor0 _ (by omega)]) ?_
  unfold zag at hk
  rw[if_pos h2]at hk
  exact hk
 ·rw[show n%2=1 by omega]
  refine rvS (v:=.int .i64 (-1)) (w' :=w1) (by simp[go_sem];decide) ?_
  refine rvS (v:=.int .i64 (-((n / 2:Nat):Int) - 1)) (w' :=w1) (by simp only[go_sem];simp[-Int.natCast_ediv,go_sem];rw[i64_xorm _ (by omega)];omega) ?_
  unfold zag at hk
  rw[if_neg h2]at hk
  exact hk
theorem rdrL(W:World){r:Nat}{v:Value}{l:List UInt8}{s:Rs}(h:RdrAt W r v l s):(Instr.loadAt 54 (.pointer (some ⟨r,0,none⟩))).run Tryz.prog W=.ok v W∧(Instr.loadAt 3 (.pointer (some ⟨r,1,none⟩))).run Tryz.prog W=.ok (.int .i64 s.at_) W:=by
 obtain⟨a,c,rfl⟩:=h.rd.isSl
 have hb:=h.blk
 exact⟨by simp[go_sem,hb],by simp[go_sem,hb]⟩
theorem rdrF(i:Nat)(hi:i<3)(W:World){r:Nat}:(Instr.fieldAt 248 (.pointer (some ⟨r,0,none⟩)) i).run Tryz.prog W=.ok (.pointer (some ⟨r,i,none⟩)) W:=by
 have:i=0∨i=1∨i=2:=by omega
 rcases this with rfl|rfl|rfl<;>simp[go_sem]
theorem RdrAt.drew{w:World}{r:Nat}{v:Value}{l:List UInt8}{s:Rs}(h:RdrAt w r v l s):RdrAt w.drew r v l s:=h.mod (Mod.refl (λ_=>False) w).drew id λ_ _ h=>h
set_option maxRecDepth 10000 in
theorem ca_rflag{w:World}{K:Kont}{r:Nat}{v:Value}{l:List UInt8}{s:Rs}(h:RdrAt w r v l s)
  (hK:∀w',RdrAt w' r v l (rsFlag l s).2→Mod (λb=>b=r) w w' →K (.bool (rsFlag l s).1) w'):Ca Tryz.prog 65 #[rptr r] w K:=by
 have hle:=h.le
 have hlen:=h.len
 apply ca65
 unfold F65
 refine ca_off h ?_
 unfold rsFlag at hK
 by_cases he:s.e≠0
 ·rw[ifB_bool,if_pos (by simpa using he)]
  rw[if_pos he]at hK
  exact hK _ h (Mod.refl _ _)
 rw[ifB_bool,if_neg (by simpa using he)]
 rw[if_neg he]at hK
 obtain⟨va,vc,hv⟩:=h.rd.isSl
 have h1:=h.drew
 have m1:Mod (λb=>b=r) w w.drew:=(Mod.refl _ w).drew
 simp only[rptr,nilK_ptr]
 refine rdPS (λW=>rdrF 1 (by omega) W) (rdWS (rdrL _ h1).2 ?_)
 refine rdPS (λW=>rdrF 0 (by omega) W) (rdWS (rdrL _ h1).1 ?_)
 refine rdWS (v:=.int .i64 l.length) (by rw[hv];simp[go_sem]) ?_
 refine rdPS (v:=.bool (decide (s.at_=l.length))) (λW=>by simp[go_sem];rw[Bool.eq_iff_iff];simp;omega) ?_
 by_cases hend:s.at_=l.length
 ·rw[if_pos hend]at hK
  rw[ifB_bool,if_pos (by simpa using hend)]
  obtain⟨hA,hM⟩:=h1.fault 4
  refine rvS (rdrF 2 (by omega) _) (ruS (w' :=w.drew.setCell ⟨r,2,none⟩ (.int .i64 4)) (by simp[go_sem,h1.blk]) ?_)
  exact hK _ hA (m1.trans hM)
 rw[if_neg hend]at hK
 rw[ifB_bool,if_neg (by simpa using hend)]
 have hlt:s.at_<l.length:=by omega
 have h2:=h1.drew
 have m2:Mod (λb=>b=r) w w.drew.drew:=m1.drew
 generalize w.drew.drew=w2 at h2 m2⊢
 obtain⟨b,off,cap,C,e',fz,hve,hcap,hC,hg⟩:=Rd.byte h2.rd hlt hlt
 have hgd:l.getD s.at_ 0=l[s.at_]:=by simp[hlt]
 rw[hgd]at hK
 generalize l[s.at_]=x at hg hK
 refine rdPS (λW=>rdrF 0 (by omega) W) (rdWS (rdrL _ h2).1 ?_)
 refine rdPS (λW=>rdrF 1 (by omega) W) (rdWS (rdrL _ h2).2 ?_)
 have hlt1:¬(l.length:Int)≤(s.at_:Int):=by omega
 refine rdPS (v:=.pointer (some ⟨b,off+s.at_,none⟩)) (λW=>by rw[hve];simp[go_sem,hlt1,hlt,addr_add]) ?_
 refine rdWS (v:=.int .u8 (x.toNat:Int)) (by simp[go_sem,hC,hg]) ?_
 refine rdPS (v:=.bool (decide (1<x.toNat))) (λW=>by simp[go_sem];omega) ?_
 by_cases h1x:1<x.toNat
 ·rw[if_pos h1x]at hK
  rw[ifB_bool,if_pos (by simpa using h1x)]
  obtain⟨hA,hM⟩:=h2.fault 5
  refine rvS (rdrF 2 (by omega) _) (ruS (w' :=w2.setCell ⟨r,2,none⟩ (.int .i64 5)) (by simp[go_sem,h2.blk]) ?_)
  exact hK _ hA (m2.trans hM)
 rw[if_neg h1x]at hK
 rw[ifB_bool,if_neg (by simpa using h1x)]
 refine rvS (rdrF 1 (by omega) _) (rvS (rdrL _ h2).2 ?_)
 refine rvS (v:=.int .i64 ((s.at_+1:Nat):Int)) (w' :=w2) (by simp[go_sem];rw[wrapI (by omega) (by omega)]) ?_
 obtain⟨hA,hM⟩:=h2.go (s.at_+1) (by omega)
 refine rvS (rdrF 1 (by omega) _) (ruS (w' :=w2.setCell ⟨r,1,none⟩ (.int .i64 (s.at_+1:Nat))) (by simp[-Int.natCast_add,go_sem,h2.blk]) ?_)
 have h3:=hA.drew
 have m3:Mod (λb=>b=r) w (w2.setCell ⟨r,1,none⟩ (.int .i64 (s.at_+1:Nat))).drew:=(m2.trans hM).drew
 have hbr:b≠r:=λe=>h2.ne (by rw[hve,←e];exact⟨_,_,_,rfl,by omega,rfl⟩)
 have hC3:hp (w2.setCell ⟨r,1,none⟩ (.int .i64 (s.at_+1:Nat))).drew b=some (.cells C e' fz):=(hM.drew).hpk hC hbr
 generalize(w2.setCell ⟨r,1,none⟩ (.int .i64 (s.at_+1:Nat))).drew=w3 at h3 m3 hC3⊢
 refine rdPS (λW=>rdrF 0 (by omega) W) (rdWS (rdrL _ h3).1 ?_)
 refine rdPS (λW=>rdrF 1 (by omega) W) (rdWS (rdrL _ h3).2 ?_)
 refine rdPS (v:=.int .i64 (s.at_:Int)) (λW=>by simp[go_sem];rw[wrapI (by omega) (by omega)]) ?_
 refine rdPS (v:=.pointer (some ⟨b,off+s.at_,none⟩)) (λW=>by rw[hve];simp[go_sem,hlt1,hlt,addr_add]) ?_
 refine rdWS (v:=.int .u8 (x.toNat:Int)) (by simp[go_sem,hC3,hg]) ?_
 refine rdPS (v:=.bool (decide (x.toNat=1))) (λW=>by simp[go_sem];rw[Bool.eq_iff_iff];simp;omega) ?_
 exact hK _ h3 m3
theorem ca_rleft{w:World}{K:Kont}{r:Nat}{v:Value}{l:List UInt8}{s:Rs}(h:RdrAt w r v l s)
  (hK:∀w',Mod (λ_=>False) w w' →K (.int .i64 ((l.length - s.at_:Nat):Int)) w'):Ca Tryz.prog 147 #[rptr r] w K:=by
 have hle:=h.le
 have hlen:=h.len
 apply ca147
 unfold F147
 refine rvS (v:=.bool false) (w' :=w) (by simp[go_sem,rptr]) ?_
 rw[ifB_bool,if_neg Bool.false_ne_true]
 simp only[rptr,nilK_ptr]
 have h1:=h.drew
 obtain⟨va,vc,hv⟩:=h.rd.isSl
 refine rdPS (λW=>rdrF 0 (by omega) W) (rdWS (rdrL _ h1).1 ?_)
 refine rdWS (v:=.int .i64 l.length) (by rw[hv];simp[go_sem]) ?_
 refine rdPS (λW=>rdrF 1 (by omega) W) (rdWS (rdrL _ h1).2 ?_)
 refine rdPS (v:=.int .i64 ((l.length - s.at_:Nat):Int)) (λW=>by simp[go_sem];rw[wrapI (by omega) (by omega)];omega) ?_
 exact hK _ (Mod.refl _ w).drew
theorem ca_rfail{w:World}{K:Kont}{r e:Nat}{v:Value}{l:List UInt8}{s:Rs}(h:RdrAt w r v l s)
  (hK:∀w',RdrAt w' r v l (rsFail e s)→Mod (λb=>b=r) w w' →K (.tuple #[]) w'):Ca Tryz.prog 149 #[rptr r,.int .i64 e] w K:=by
 apply ca149
 unfold F149
 refine ca_off h ?_
 refine rvS (v:=.bool (decide (s.e=0))) (w' :=w) (by simp[go_sem]) ?_
 unfold rsFail at hK
 by_cases he:s.e≠0
 ·rw[if_pos he]at hK
  rw[ifB_bool,if_neg (by simpa using he)]
  exact hK _ h (Mod.refl _ _)
 ·rw[if_neg he]at hK
  rw[ifB_bool,if_pos (by simpa using he)]
  simp only[rptr,nilK_ptr]
  obtain⟨hA,hM⟩:=h.fault e
  refine rvS (rdrF 2 (by omega) _) (ruS (w' :=w.setCell ⟨r,2,none⟩ (.int .i64 e)) (by simp[go_sem,h.blk]) ?_)
  exact hK _ hA hM
theorem ca_folded{x:Int}{w:World}{K:Kont}(h:R64' x)(hK:K (.int .u64 (zig x:Int)) w):Ca Tryz.prog 240 #[.int .i64 x] w K:=by
 apply ca240
 unfold F240
 by_cases h0:0≤x
 ·obtain⟨n,rfl⟩:=Int.eq_ofNat_of_zero_le h0
  have hz:zig ((n:Nat):Int)=2*n:=by unfold zig;rw[if_pos h0];simp
  rw[hz]at hK
  refine rvS (v:=.int .u64 (n:Int)) (w' :=w) (by simp[go_sem];rw[wrapU (by omega) (by omega)]) ?_
  refine rvS (v:=.int .u64 ((2*n:Nat):Int)) (w' :=w) (by simp[-Int.natCast_mul,go_sem];rw[wrapU (by omega) (by omega)];omega) ?_
  refine rvS (v:=.int .i64 0) (w' :=w) (by simp[go_sem];omega) ?_
  refine rvS (v:=.int .u64 0) (w' :=w) (by simp[go_sem];decide) ?_
  refine rvS (v:=.int .u64 ((2*n:Nat):Int)) (w' :=w) (by simp only[go_sem];simp[-Int.natCast_mul,go_sem];rw[u64_xor0 _ (by omega)]) ?_
  exact hK
 ·have hz:(zig x:Int)= -2*x - 1:=by unfold zig;rw[if_neg h0];omega
  rw[hz]at hK
  obtain⟨m,hm⟩:∃m:Nat,(m:Int)=18446744073709551616+2*x:=⟨(18446744073709551616+2*x).toNat,by omega⟩
  refine rvS (v:=.int .u64 (18446744073709551616+x)) (w' :=w) (by simp[go_sem];rw[IntKind.wrap_u64];omega) ?_
  refine rvS (v:=.int .u64 (m:Int)) (w' :=w) (by simp[go_sem];rw[IntKind.wrap_u64];omega) ?_
  refine rvS (v:=.int .i64 (-1)) (w' :=w) (by simp[go_sem];omega) ?_
  refine rvS (v:=.int .u64 18446744073709551615) (w' :=w) (by simp[go_sem];decide) ?_
  refine rvS (v:=.int .u64 (-2*x - 1)) (w' :=w) (by simp only[go_sem];simp[go_sem];rw[u64_xorm _ (by omega)];omega) ?_
  exact hK
abbrev OwnB(w:World)(s:Value)(l:List UInt8):Prop:=Own w 5 1 s l.length (bv l)
theorem ca_wnatB{w:World}{K:Kont}{s:Value}{n:Nat}{l:List UInt8}(h:OwnB w s l)(hn:n<18446744073709551616)(hk:l.length≤1000000000)
  (hK:∀s' w',OwnB w' s' (l++natB n)→Mod (inSl s) w w' →(∀b,inSl s' b→inSl s b∨w.heap.size≤b)→K s' w'):Ca Tryz.prog 100 #[s,.int .u64 n] w K:=
 ca_wnat h hn hk λs' w' o m n' =>hK s' w' (by unfold OwnB;rw[List.length_append];exact o) m n'
theorem ca_wint{w:World}{K:Kont}{s:Value}{x:Int}{l:List UInt8}(h:OwnB w s l)(hx:R64' x)(hk:l.length≤1000000000)
  (hK:∀s' w',OwnB w' s' (l++intB x)→Mod (inSl s) w w' →(∀b,inSl s' b→inSl s b∨w.heap.size≤b)→K s' w'):Ca Tryz.prog 154 #[s,.int .i64 x] w K:=by
 apply ca154
 unfold F154
 refine ca_folded hx ?_
 exact ca_wnatB h (zig_lt hx) hk hK
theorem ca_wflag{w:World}{K:Kont}{s:Value}{f:Bool}{l:List UInt8}(h:OwnB w s l)(hk:l.length≤1000000000)
  (hK:∀s' w',OwnB w' s' (l++flagB f)→Mod (inSl s) w w' →(∀b,inSl s' b→inSl s b∨w.heap.size≤b)→K s' w'):Ca Tryz.prog 157 #[s,.bool f] w K:=by
 have push:∀u:UInt8,flagB f=[u]→rx Tryz.prog (xLit tBs 1 [(0,.int .u8 u.toNat)]) w λv1 w2=>rx Tryz.prog (xAppend #[tBs,tBs] tBs [s,v1]) w2 K:=λu hu=>by
  refine litV [u] uBs (elemT_of u8E) rfl rfl (by omega) λv W2 o2 m2 n2=>?_
  refine rx_append (m:=1) uBs uBs (elemT_of u8E) (h.mod m2 λ_ _ h=>h) o2.rd (bv_one _) (by omega) λs3 W3 o3 m3 n3=>?_
  refine hK s3 W3 ?_ ((m2.mono λ_ _ h=>h.elim).trans m3) λb hb=>(n3 b hb).imp id λh=>by have:=m2.size;omega
  rw[hu]
  unfold OwnB
  rw[←bv_append]at o3
  rw[List.length_append]
  exact o3
 apply ca157
 unfold F157
 cases f with
 |true=>rw[ifB_bool,if_pos rfl];exact push 1 rfl
 |false=>rw[ifB_bool,if_neg Bool.false_ne_true];exact push 0 rfl
end Go.Proofs
namespace Go.Proofs
open Go Go.Vc
attribute [local congr] Ca_congV
theorem rsInts_snoc(l:List UInt8):∀(n:Nat) (s:Rs),rsInts l (n+1) s=((rsInts l n s).1++[(rsInt l (rsInts l n s).2).1],(rsInt l (rsInts l n s).2).2)
 |0,s=>rfl
 |n+1,s=>by
  have ih:=rsInts_snoc l n (rsInt l s).2
  have e:rsInts l (n+1+1) s=((rsInt l s).1::(rsInts l (n+1) (rsInt l s).2).1,(rsInts l (n+1) (rsInt l s).2).2):=rfl
  rw[e,ih]
  rfl
theorem rsNum_fit(l:List UInt8)(most:Nat)(s:Rs):0≤(rsNum l most s).1∧(rsNum l most s).1≤most:=by
 have:=rsSmall_most (l:=l) (most:=most) (s:=s)
 unfold rsNum
 simp only
 omega
theorem rsInt_fit(l:List UInt8)(s:Rs):R64' (rsInt l s).1:=by
 have:=rsSmall_most (l:=l) (most:=18446744073709551615) (s:=s)
 exact zag_fit (by omega)
theorem rsInts_fit(l:List UInt8):∀(n:Nat) (s:Rs),∀x∈(rsInts l n s).1,R64' x
 |0,s,x,hx=>by cases hx
 |n+1,s,x,hx=>by
  rcases List.mem_cons.1 hx with rfl|hx
  ·exact rsInt_fit l s
  ·exact rsInts_fit l n _ x hx
theorem num_u32(l:List UInt8)(s:Rs):U32' (rsNum l W32 s).1:=by
 have:=rsNum_fit l W32 s
 unfold W32 at*
 exact⟨this.1,by omega⟩
theorem num_r64(l:List UInt8)(s:Rs):R64' (rsNum l W63 s).1:=by
 have:=rsNum_fit l W63 s
 unfold W63 at*
 constructor<;>omega
theorem num_u64(l:List UInt8)(s:Rs):U64' (rsNum l W64 s).1:=by
 have:=rsNum_fit l W64 s
 unfold W64 at*
 exact⟨this.1,by omega⟩
theorem num_u8(l:List UInt8)(s:Rs):0≤(rsNum l 255 s).1∧(rsNum l 255 s).1<256:=by
 have:=rsNum_fit l 255 s
 omega
theorem rsSp0_fit(l:List UInt8)(s:Rs):(rsSp0 l s).1.Fit:=
 ⟨num_u32 ..,num_u8 ..,num_r64 ..,num_r64 ..,num_r64 ..,num_r64 ..,λx hx=>rsInts_fit l 16 _ x (by simpa [rsSp0]using hx),num_r64 ..,num_u32 ..,num_r64 ..⟩
theorem zSp_fit:zSp.Fit:=by
 refine⟨?_,?_,?_,?_,?_,?_,λx hx=>?_,?_,?_,?_⟩
 all_goals first|(have:x=0:=(by simpa [zSp]using hx);rw[this];decide)|decide
theorem rsSp_fit(l:List UInt8)(s:Rs):(rsSp l s).1.Fit:=by
 unfold rsSp
 split
 ·exact rsSp0_fit l s
 ·exact zSp_fit
def spL(a b t lo bd li:Int)(sh:List Value)(c la f:Int):List Value:=[.int .u32 a,.int .u8 b,.int .i64 t,.int .i64 lo,.int .i64 bd,.int .i64 li]++(sh++[.int .i64 c,.int .u32 la,.int .i64 f])
theorem spC_L(s:Sp):spC s=spL s.num s.route s.tick s.lot s.band s.limit (shC s.shifts) s.credit s.last s.first:=rfl
theorem zeroSp0:zeroC Tryz.prog 38=spC zSp:=by kernel_rfl
theorem hzSp:hasZero Tryz.prog 38=true:=by kernel_rfl
theorem builtSpA(a b:Int):Tryz.prog.built 38 [(0,.int .u32 a),(1,.int .u8 b)]=some (spC {zSp with num:=a,route:=b}).toArray:=by
 have h1:∀parts,Tryz.prog.built 38 parts=Instr.fill (λi=>#[(0,1),(1,1),(2,1),(3,1),(4,1),(5,1),(6,16),(22,1),(23,1),(24,1)][i]?) (zeroC Tryz.prog 38).toArray parts:=λparts=>by kernel_rfl
 rw[h1,zeroSp0]
 rw[fill_part (off:=0) (size:=1) rfl rfl (by rw[spC_len];omega),fill_part (off:=1) (size:=1) rfl rfl (by have:(Value.int .u32 a).cells.size=1:=rfl;simp[spC_len,lay];omega),fill_nil]
 rfl
theorem builtSpZ:Tryz.prog.built 38 []=some (spC zSp).toArray:=by kernel_rfl
theorem uPt:Tryz.prog.underlying 252=some (.slice 251):=by kernel_rfl
theorem ePt:elemOk Tryz.prog 251 1 8=true:=by kernel_rfl
abbrev tSpec:TypeId:=38
abbrev SpAt(W:World)(p:Nat)(C:List Value):Prop:=hp W p=some (.cells C.toArray tSpec (0,0))
theorem stI{W:World}{p i:Nat}{C C' :List Value}{y x:Int}(h:SpAt W p C)(hg:C[i]? =some (.int .i64 y))(hs:C.set i (.int .i64 x)=C'):
  ∃W',(Instr.storeAt 2 (.pointer (some ⟨p,i,none⟩)) (.int .i64 x)).run Tryz.prog W=.ok () W' ∧SpAt W' p C' ∧Mod (λb=>b=p) W W' :=
 ⟨W.setCell ⟨p,i,none⟩ (.int .i64 x),by simp[go_sem,h,hg],by rw[←hs];show hp _ _=_;simp[go_sem,h],(Mod.refl (λb=>b=p) W).setCell (.inl rfl) _ _⟩
theorem stU32{W:World}{p i:Nat}{C C' :List Value}{y x:Int}(h:SpAt W p C)(hg:C[i]? =some (.int .u32 y))(hs:C.set i (.int .u32 x)=C'):
  ∃W',(Instr.storeAt 35 (.pointer (some ⟨p,i,none⟩)) (.int .u32 x)).run Tryz.prog W=.ok () W' ∧SpAt W' p C' ∧Mod (λb=>b=p) W W' :=
 ⟨W.setCell ⟨p,i,none⟩ (.int .u32 x),by simp[go_sem,h,hg],by rw[←hs];show hp _ _=_;simp[go_sem,h],(Mod.refl (λb=>b=p) W).setCell (.inl rfl) _ _⟩
def shL(xs:List Int)(k:Nat):List Value:=xs.map (λn=>.int .i64 n)++List.replicate (16 - k) (.int .i64 0)
theorem shL_len{xs:List Int}{k:Nat}(h:xs.length=k)(hk:k≤16):(shL xs k).length=16:=by simp[shL,h];omega
theorem shL_get{xs:List Int}{k:Nat}(h:xs.length=k)(hk:k<16):(shL xs k)[k]? =some (.int .i64 0):=by
 unfold shL
 rw[List.getElem?_append_right (by simp[h])]
 simp only[List.length_map,h,Nat.sub_self]
 rw[List.getElem?_replicate,if_pos (by omega)]
theorem shL_set{xs:List Int}{k:Nat}(h:xs.length=k)(hk:k<16)(x:Int):(shL xs k).set k (.int .i64 x)=shL (xs++[x]) (k+1):=by
 unfold shL
 rw[List.set_append_right _ _ (by simp[h]),show 16 - k=(16 - (k+1))+1 by omega,List.replicate_succ]
 simp[h]
theorem spL_getS{a b t lo bd li c la f:Int}{sh:List Value}{k:Nat}(hl:sh.length=16)(hk:k<16):(spL a b t lo bd li sh c la f)[6+k]? =sh[k]? :=by
 unfold spL
 rw[List.getElem?_append_right (by simp),List.getElem?_append_left (by simp;omega)]
 congr 1;simp
theorem spL_setS{a b t lo bd li c la f:Int}{sh:List Value}{k:Nat}(hl:sh.length=16)(hk:k<16)(x:Value):(spL a b t lo bd li sh c la f).set (6+k) x=spL a b t lo bd li (sh.set k x) c la f:=by
 unfold spL
 rw[List.set_append_right _ _ (by simp),List.set_append_left _ _ (by simp;omega)]
 congr 3;simp
theorem spL_getE{a b t lo bd li c la f:Int}{sh:List Value}{k:Nat}(hl:sh.length=16):(spL a b t lo bd li sh c la f)[22+k]? =([.int .i64 c,.int .u32 la,.int .i64 f]:List Value)[k]? :=by
 unfold spL
 rw[List.getElem?_append_right (by simp;omega),List.getElem?_append_right (by simp;omega)]
 congr 1;simp[hl];omega
theorem spL_setE{a b t lo bd li c la f:Int}{sh:List Value}{k:Nat}(hl:sh.length=16)(x:Value):(spL a b t lo bd li sh c la f).set (22+k) x=[.int .u32 a,.int .u8 b,.int .i64 t,.int .i64 lo,.int .i64 bd,.int .i64 li]++(sh++([.int .i64 c,.int .u32 la,.int .i64 f]:List Value).set k x):=by
 unfold spL
 rw[List.set_append_right _ _ (by simp;omega),List.set_append_right _ _ (by simp;omega)]
 congr 3;simp[hl];omega
section
attribute [local irreducible] rsNum rsInts
theorem sp0_of{l:List UInt8}{s:Rs}{x1 x2 y0 y1 y2 y3 ya yb yc:Int×Rs}{g:List Int×Rs}(h1:x1=rsNum l W32 s)(h2:x2=rsNum l 255 x1.2)(h3:y0=rsNum l W63 x2.2)(h4:y1=rsNum l W63 y0.2)(h5:y2=rsNum l W63 y1.2)(h6:y3=rsNum l W63 y2.2)
  (hg:g=rsInts l 16 y3.2)(ha:ya=rsNum l W63 g.2)(hb:yb=rsNum l W32 ya.2)(hc:yc=rsNum l W63 yb.2):
  (rsSp0 l s).2=yc.2∧spL x1.1 x2.1 y0.1 y1.1 y2.1 y3.1 (shL g.1 16) ya.1 yb.1 yc.1=spC (rsSp0 l s).1:=by
 subst h1 h2 h3 h4 h5 h6 hg ha hb hc
 rw[spC_L]
 unfold rsSp0 shC shL
 simp
end
set_option maxRecDepth 10000 in
set_option maxHeartbeats 4000000 in
theorem ca_take{w:World}{K:Kont}{r:Nat}{v:Value}{l:List UInt8}{s:Rs}(h:RdrAt w r v l s)
  (hK:∀w',RdrAt w' r v l (rsSp l s).2→Mod (λb=>b=r) w w' →K (.agg (spC (rsSp l s).1).toArray) w'):Ca Tryz.prog 68 #[rptr r] w K:=by
 apply ca68
 unfold F68
 have hrl:=h.lt
 have hvl:∀b,inRd v b→b<w.heap.size:=λb hb=>h.rd.lt hb
 refine rx_bigA hzSp ?_
 rw[zeroSp0]
 obtain⟨z,hz⟩:∃z,z=w.heap.size:=⟨_,rfl⟩
 have m1:Mod (λ_=>False) w (w.alloc (.cells (spC zSp).toArray tSpec)):=(Mod.refl _ w).alloc _
 have b1:SpAt (w.alloc (.cells (spC zSp).toArray tSpec)) z (spC zSp):=by show hp _ _=_;rw[hz];simp[go_sem]
 rw[←hz]
 generalize w.alloc (.cells (spC zSp).toArray tSpec)=w1 at m1 b1⊢
 have r1:=h.mod m1 id λ_ _ h=>h
 refine ca_small r1 (most:=4294967295) (by omega) λw2 r2 m2=>?_
 have hz1:=lt_of_heap b1
 have b2:=m2.hpk b1 (by omega)
 have n1:=num_u32 l s
 obtain⟨x1,hx1⟩:∃x1,x1=rsNum l W32 s:=⟨_,rfl⟩
 have e1:(((rsSmall l 4294967295 s).1:Nat):Int)=x1.1∧(rsSmall l 4294967295 s).2=x1.2:=by rw[hx1];exact⟨rfl,rfl⟩
 rw[e1.1]
 rw[e1.2]at r2
 rw[←hx1]at n1
 refine rvS (v:=.int .u32 x1.1) (w' :=w2) (by simp[go_sem];rw[IntKind.wrap_u32'];omega) ?_
 refine ca_small r2 (most:=255) (by omega) λw3 r3 m3=>?_
 have b3:=m3.hpk b2 (by omega)
 have n2:=num_u8 l x1.2
 obtain⟨x2,hx2⟩:∃x2,x2=rsNum l 255 x1.2:=⟨_,rfl⟩
 have e2:(((rsSmall l 255 x1.2).1:Nat):Int)=x2.1∧(rsSmall l 255 x1.2).2=x2.2:=by rw[hx2];exact⟨rfl,rfl⟩
 rw[e2.1]
 rw[e2.2]at r3
 rw[←hx2]at n2
 refine rvS (v:=.int .u8 x2.1) (w' :=w3) (by simp[go_sem];rw[IntKind.wrap_u8'];omega) ?_
 refine rx_bigB (builtSpA x1.1 x2.1) ?_
 refine rx_bigA hzSp ?_
 rw[zeroSp0]
 obtain⟨p,hp0⟩:∃p,p=w3.heap.size:=⟨_,rfl⟩
 have m4:Mod (λ_=>False) w3 (w3.alloc (.cells (spC zSp).toArray tSpec)):=(Mod.refl _ w3).alloc _
 have b4:SpAt (w3.alloc (.cells (spC zSp).toArray tSpec)) p (spC zSp):=by show hp _ _=_;rw[hp0];simp[go_sem]
 rw[←hp0]
 generalize w3.alloc (.cells (spC zSp).toArray tSpec)=w4 at m4 b4⊢
 have r4:=r3.mod m4 id λ_ _ h=>h
 have z4:=m4.hpk b3 id
 have hz2:=m2.size
 have hz3:=m3.size
 have hzp:z<p:=by omega
 have hh:w4.heap[p]? =some (.cells (spC zSp).toArray tSpec (0,0)):=b4
 refine rux_bigU nSp (spC_len {zSp with num:=x1.1,route:=x2.1}) hh (by rw[List.size_toArray,spC_len,spC_len];omega) (spC_one _) ?_
 have e5:lay (spC zSp).toArray.toList 0 (spC {zSp with num:=x1.1,route:=x2.1})=spC {zSp with num:=x1.1,route:=x2.1}:=lay_all (by rw[spC_len];simp[spC_len])
 rw[e5]
 have m5:Mod (λb=>b=p) w4 (w4.setRow p (spC {zSp with num:=x1.1,route:=x2.1}).toArray):=(Mod.refl (λb=>b=p) w4).setRow (.inl rfl) _
 have b5:SpAt (w4.setRow p (spC {zSp with num:=x1.1,route:=x2.1}).toArray) p (spL x1.1 x2.1 0 0 0 0 (shL [] 0) 0 0 0):=by
  show(w4.setRow p _).heap[p]? =_
  rw[heap_setRow,if_pos rfl,hh]
  rfl
 generalize w4.setRow p (spC {zSp with num:=x1.1,route:=x2.1}).toArray=w5 at m5 b5⊢
 have r5:=r4.mod m5 (by omega) λb hb e=>by have:=hvl b hb;omega
 have z5:=m5.hpk z4 (by omega)
 have M5:Mod (λb=>b=r) w w5:=(((m1.mono (G:=λb=>b=r) λ_ _ h=>h.elim).trans (m2.trans m3)).on m4 λ_ h=>h.elim).on m5 λb hb=>.inr (by omega)
 refine rvS (v:=.pointer (some ⟨p,2,none⟩)) (w' :=w5) (by simp[go_sem]) ?_
 refine rvS (v:=.pointer (some ⟨p,3,none⟩)) (w' :=w5) (by simp[go_sem]) ?_
 refine rvS (v:=.pointer (some ⟨p,4,none⟩)) (w' :=w5) (by simp[go_sem]) ?_
 refine rvS (v:=.pointer (some ⟨p,5,none⟩)) (w' :=w5) (by simp[go_sem]) ?_
 refine rx_lit [.pointer (some ⟨p,2,none⟩),.pointer (some ⟨p,3,none⟩),.pointer (some ⟨p,4,none⟩),.pointer (some ⟨p,5,none⟩)] uPt (elemT_of ePt) rfl rfl (by intro x hx;simp at hx;rcases hx with rfl|rfl|rfl|rfl<;>rfl) (by omega) ?_
 have e6:(([.pointer (some ⟨p,2,none⟩),.pointer (some ⟨p,3,none⟩),.pointer (some ⟨p,4,none⟩),.pointer (some ⟨p,5,none⟩)]:List Value).flatMap (·.cells.toList)).toArray= #[.pointer (some ⟨p,2,none⟩),.pointer (some ⟨p,3,none⟩),.pointer (some ⟨p,4,none⟩),.pointer (some ⟨p,5,none⟩)]:=rfl
 rw[e6]
 obtain⟨q,hq⟩:∃q,q=w5.heap.size:=⟨_,rfl⟩
 have m6:Mod (λ_=>False) w5 (w5.alloc (.cells #[.pointer (some ⟨p,2,none⟩),.pointer (some ⟨p,3,none⟩),.pointer (some ⟨p,4,none⟩),.pointer (some ⟨p,5,none⟩)] 251)):=(Mod.refl _ _).alloc _
 have q6:hp (w5.alloc (.cells #[.pointer (some ⟨p,2,none⟩),.pointer (some ⟨p,3,none⟩),.pointer (some ⟨p,4,none⟩),.pointer (some ⟨p,5,none⟩)] 251)) q=some (.cells #[.pointer (some ⟨p,2,none⟩),.pointer (some ⟨p,3,none⟩),.pointer (some ⟨p,4,none⟩),.pointer (some ⟨p,5,none⟩)] 251 (0,0)):=by rw[hq];simp[go_sem]
 rw[←hq]
 generalize w5.alloc (.cells #[.pointer (some ⟨p,2,none⟩),.pointer (some ⟨p,3,none⟩),.pointer (some ⟨p,4,none⟩),.pointer (some ⟨p,5,none⟩)] 251)=w6 at m6 q6⊢
 have r6:=r5.mod m6 id λ_ _ h=>h
 have b6:=m6.hpk b5 id
 have z6:=m6.hpk z5 id
 have M6:=M5.on m6 λ_ h=>h.elim
 have hpq:p<q:=by have:=lt_of_heap b5;omega
 refine rnS (v:=.int .i64 ((4:Nat):Int)) (w' :=w6) (by simp[go_sem]) ?_
 obtain⟨S,hS⟩:∃S:Nat→Rs,S=λk=>Nat.rec x2.2 (λ_ t=>(rsNum l W63 t).2) k:=⟨_,rfl⟩
 have hS0:S 0=x2.2:=by subst hS;rfl
 have hSs:∀k,S (k+1)=(rsNum l W63 (S k)).2:=λk=>by subst hS;rfl
 obtain⟨g,hg⟩:∃g:Nat→Nat→Int,g=λk i=>if k<i then(rsNum l W63 (S k)).1 else 0:=⟨_,rfl⟩
 have g0:∀k,g k 0=0:=λk=>by rw[hg];rfl
 have gK:∀k i,k<i→g k i=(rsNum l W63 (S k)).1:=λk i h=>by rw[hg];exact if_pos h
 have gN:∀k i,¬k<i→g k i=0:=λk i h=>by rw[hg];exact if_neg h
 have keepR:∀{W W' :World},Mod (λb=>b=r∨b=p) W W' →Mod (λb=>b=r) w W→Mod (λb=>b=r) w W' :=λm M=>M.on m λb hb=>hb.elim .inl λhb=>.inr (by omega)
 refine loopV (λst W=>∃i:Nat,i≤4∧st=(.int .i64 i,())∧RdrAt W r v l (S i)∧SpAt W p (spL x1.1 x2.1 (g 0 i) (g 1 i) (g 2 i) (g 3 i) (shL [] 0) 0 0 0)∧Mod (λb=>b=r∨b=p) w6 W)
  (λst _=>match st.1 with| .int _ i=>4 - i.toNat|_=>0) ⟨0,by omega,rfl,by rw[hS0];exact r6,by rw[g0,g0,g0,g0];exact b6,Mod.refl _ _⟩ ?_
 rintro⟨_,_⟩ W ⟨i,hi,⟨⟩,rW,bW,mW⟩ KN hKN
 unfold L68_1
 intro _
 refine rvS (ltIg _ 4 _) ?_
 by_cases hlt:i<4
 ·rw[ifB_bool,if_pos (by simpa using hlt)]
  have qW:=mW.hpk q6 (by omega)
  have hlt' :¬(4:Int)≤(i:Int):=by omega
  refine rvS (v:=.pointer (some ⟨q,i,none⟩)) (w' :=W) (by simp[go_sem,hlt',addr_add]<;>omega) ?_
  refine rvS (v:=.pointer (some ⟨p,2+i,none⟩)) (w' :=W) (by rcases(show i=0∨i=1∨i=2∨i=3 by omega)with rfl|rfl|rfl|rfl<;>simp[go_sem,qW]) ?_
  refine ca_small rW (most:=9223372036854775807) (by omega) λW1 rW1 mW1=>?_
  have nb:=num_r64 l (S i)
  have ex:(((rsSmall l 9223372036854775807 (S i)).1:Nat):Int)=(rsNum l W63 (S i)).1∧(rsSmall l 9223372036854775807 (S i)).2=S (i+1):=by rw[hSs];exact⟨rfl,rfl⟩
  have n0:=(rsNum_fit l W63 (S i)).1
  rw[ex.1]
  rw[ex.2]at rW1
  obtain⟨y,hy⟩:∃y,y=(rsNum l W63 (S i)).1:=⟨_,rfl⟩
  rw[←hy]at nb n0⊢
  refine rvS (v:=.int .i64 y) (w' :=W1) (by simp[go_sem];rw[wrapI (by omega) (by omega)]) ?_
  rw[nilK_ptr]
  have bW1:=mW1.hpk bW (by omega)
  have hset:∃C',(spL x1.1 x2.1 (g 0 i) (g 1 i) (g 2 i) (g 3 i) (shL [] 0) 0 0 0).set (2+i) (.int .i64 y)=C' ∧C' =spL x1.1 x2.1 (g 0 (i+1)) (g 1 (i+1)) (g 2 (i+1)) (g 3 (i+1)) (shL [] 0) 0 0 0∧∃o,(spL x1.1 x2.1 (g 0 i) (g 1 i) (g 2 i) (g 3 i) (shL [] 0) 0 0 0)[2+i]? =some (.int .i64 o):=by
   rcases(show i=0∨i=1∨i=2∨i=3 by omega)with rfl|rfl|rfl|rfl
   ·exact⟨_,rfl,by rw[gK 0 1 (by omega),←hy,gN 1 1 (by omega),gN 2 1 (by omega),gN 3 1 (by omega),g0,g0,g0,g0];rfl,_,rfl⟩
   ·exact⟨_,rfl,by rw[gK 0 2 (by omega),gK 1 2 (by omega),←hy,gN 2 2 (by omega),gN 3 2 (by omega),gK 0 1 (by omega),gN 1 1 (by omega),gN 2 1 (by omega),gN 3 1 (by omega)];rfl,_,rfl⟩
   ·exact⟨_,rfl,by rw[gK 0 3 (by omega),gK 1 3 (by omega),gK 2 3 (by omega),←hy,gN 3 3 (by omega),gK 0 2 (by omega),gK 1 2 (by omega),gN 2 2 (by omega),gN 3 2 (by omega)];rfl,_,rfl⟩
   ·exact⟨_,rfl,by rw[gK 0 4 (by omega),gK 1 4 (by omega),gK 2 4 (by omega),gK 3 4 (by omega),←hy,gK 0 3 (by omega),gK 1 3 (by omega),gK 2 3 (by omega),gN 3 3 (by omega)];rfl,_,rfl⟩
  obtain⟨C',hs1,hs2,o,hgo⟩:=hset
  obtain⟨W2,e2',bW2,mW2⟩:=stI bW1 hgo hs1
  refine ruS e2' ?_
  refine rvS (addI (by omega) _) ?_
  refine hKN _ _ ⟨i+1,by omega,rfl,rW1.mod mW2 (by omega) λb hb e=>by have:=hvl b hb;omega,by rw[←hs2];exact bW2,(mW.trans (mW1.mono λ_ _ h=>.inl h)).trans (mW2.mono λ_ _ h=>.inr h)⟩ (by show 4 - (i+1)<4 - i;omega)
 obtain rfl:i=4:=by omega
 rw[ifB_bool,if_neg (by simp)]
 clear hKN
 rw[gK 0 4 (by omega),gK 1 4 (by omega),gK 2 4 (by omega),gK 3 4 (by omega)]at bW
 have MW:=keepR mW M6
 have zW:=mW.hpk z6 (by omega)
 obtain⟨G,hG⟩:∃G:List Int→Int→Int→Int→Nat→List Value,G=λxs c la f k=>spL x1.1 x2.1 (rsNum l W63 (S 0)).1 (rsNum l W63 (S 1)).1 (rsNum l W63 (S 2)).1 (rsNum l W63 (S 3)).1 (shL xs k) c la f:=⟨_,rfl⟩
 have hGe:∀xs c la f k,spL x1.1 x2.1 (rsNum l W63 (S 0)).1 (rsNum l W63 (S 1)).1 (rsNum l W63 (S 2)).1 (rsNum l W63 (S 3)).1 (shL xs k) c la f=G xs c la f k:=λxs c la f k=>by rw[hG]
 rw[hGe]at bW
 refine loopV (λst X=>∃k:Nat,k≤16∧st=(.int .i64 k,())∧RdrAt X r v l (rsInts l k (S 4)).2∧SpAt X p (G (rsInts l k (S 4)).1 0 0 0 k)∧Mod (λb=>b=r∨b=p) W X)
  (λst _=>match st.1 with| .int _ i=>16 - i.toNat|_=>0) ⟨0,by omega,rfl,rW,bW,Mod.refl _ _⟩ ?_
 rintro⟨_,_⟩ X ⟨k,hk,⟨⟩,rX,bX,mX⟩ KN2 hKN2
 unfold L68_0
 intro _
 have hkl:=rsInts_len l k (S 4)
 refine rvS (v:=.bool (decide (k<16))) (w' :=X) (by simp[go_sem];omega) ?_
 by_cases hlt2:k<16
 ·rw[ifB_bool,if_pos (by simpa using hlt2)]
  refine ca_rint rX λX1 rX1 mX1=>?_
  have hsn:=rsInts_snoc l k (S 4)
  have hfi:=rsInt_fit l (rsInts l k (S 4)).2
  have e7:(rsInt l (rsInts l k (S 4)).2).2=(rsInts l (k+1) (S 4)).2:=by rw[hsn]
  rw[e7]at rX1
  have bX1:=mX1.hpk bX (by omega)
  refine rvS (v:=.pointer (some ⟨p,6,none⟩)) (w' :=X1) (by simp[go_sem]) ?_
  have hlt3:¬(16:Int)≤(k:Int):=by omega
  refine rvS (v:=.pointer (some ⟨p,6+k,none⟩)) (w' :=X1) (by simp[go_sem,hlt2,hlt3,addr_add]<;>omega) ?_
  have hgk:(G (rsInts l k (S 4)).1 0 0 0 k)[6+k]? =some (.int .i64 0):=by
   rw[←hGe,spL_getS (shL_len hkl (by omega)) hlt2,shL_get hkl hlt2]
  obtain⟨X2,e8,bX2,mX2⟩:=stI (x:=(rsInt l (rsInts l k (S 4)).2).1) bX1 hgk rfl
  refine ruS e8 ?_
  refine rvS (addI (by omega) _) ?_
  refine hKN2 _ _ ⟨k+1,by omega,rfl,rX1.mod mX2 (by omega) λb hb e=>by have:=hvl b hb;omega,?_,(mX.trans (mX1.mono λ_ _ h=>.inl h)).trans (mX2.mono λ_ _ h=>.inr h)⟩ (by show 16 - (k+1)<16 - k;omega)
  rw[←hGe,spL_setS (shL_len hkl (by omega)) hlt2,shL_set hkl hlt2]at bX2
  rw[hsn,←hGe]
  exact bX2
 obtain rfl:k=16:=by omega
 rw[ifB_bool,if_neg (by simp)]
 clear hKN2
 have MX:=keepR mX MW
 have zX:=mX.hpk zW (by omega)
 have hl16:=shL_len hkl (by omega)
 obtain⟨xs,hxs⟩:∃xs,xs=(rsInts l 16 (S 4)).1:=⟨_,rfl⟩
 obtain⟨T,hT⟩:∃T,T=(rsInts l 16 (S 4)).2:=⟨_,rfl⟩
 rw[←hxs]at hkl hl16 bX
 rw[←hT]at rX
 have gE:∀c la f k,(G xs c la f 16)[22+k]? =([.int .i64 c,.int .u32 la,.int .i64 f]:List Value)[k]? :=λc la f k=>by rw[←hGe];exact spL_getE hl16
 have sE:∀c la f k x,(G xs c la f 16).set (22+k) x=[.int .u32 x1.1,.int .u8 x2.1,.int .i64 (rsNum l W63 (S 0)).1,.int .i64 (rsNum l W63 (S 1)).1,.int .i64 (rsNum l W63 (S 2)).1,.int .i64 (rsNum l W63 (S 3)).1]++(shL xs 16++([.int .i64 c,.int .u32 la,.int .i64 f]:List Value).set k x):=λc la f k x=>by rw[←hGe];exact spL_setE hl16 x
 have hvr:∀{X X' :World} {t:Rs},RdrAt X r v l t→Mod (λb=>b=p) X X' →RdrAt X' r v l t:=λh m=>h.mod m (by omega) λb hb e=>by have:=hvl b hb;omega
 refine ca_small rX (most:=9223372036854775807) (by omega) λX1 rX1 mX1=>?_
 have nA:=num_r64 l T
 have nA0:=(rsNum_fit l W63 T).1
 obtain⟨ya,hya⟩:∃y,y=rsNum l W63 T:=⟨_,rfl⟩
 have exA:(((rsSmall l 9223372036854775807 T).1:Nat):Int)=ya.1∧(rsSmall l 9223372036854775807 T).2=ya.2:=by rw[hya];exact⟨rfl,rfl⟩
 rw[exA.1]
 rw[exA.2]at rX1
 rw[←hya]at nA nA0
 refine rvS (v:=.int .i64 ya.1) (w' :=X1) (by simp[go_sem];rw[wrapI (by omega) (by omega)]) ?_
 refine rvS (v:=.pointer (some ⟨p,22+0,none⟩)) (w' :=X1) (by simp[go_sem]) ?_
 obtain⟨X2,f2,bX2,mX2⟩:=stI (x:=ya.1) (mX1.hpk bX (by omega)) (gE 0 0 0 0) (C' :=G xs ya.1 0 0 16) ((sE 0 0 0 0 _).trans (by rw[←hGe];rfl))
 refine ruS f2 ?_
 have rX2:=hvr rX1 mX2
 refine ca_small rX2 (most:=4294967295) (by omega) λX3 rX3 mX3=>?_
 have nB:=num_u32 l ya.2
 obtain⟨yb,hyb⟩:∃y,y=rsNum l W32 ya.2:=⟨_,rfl⟩
 have exB:(((rsSmall l 4294967295 ya.2).1:Nat):Int)=yb.1∧(rsSmall l 4294967295 ya.2).2=yb.2:=by rw[hyb];exact⟨rfl,rfl⟩
 rw[exB.1]
 rw[exB.2]at rX3
 rw[←hyb]at nB
 refine rvS (v:=.int .u32 yb.1) (w' :=X3) (by simp[go_sem];rw[IntKind.wrap_u32'];omega) ?_
 refine rvS (v:=.pointer (some ⟨p,22+1,none⟩)) (w' :=X3) (by simp[go_sem]) ?_
 obtain⟨X4,f4,bX4,mX4⟩:=stU32 (x:=yb.1) (mX3.hpk bX2 (by omega)) (gE ya.1 0 0 1) (C' :=G xs ya.1 yb.1 0 16) ((sE _ _ _ 1 _).trans (by rw[←hGe];rfl))
 refine ruS f4 ?_
 have rX4:=hvr rX3 mX4
 refine ca_small rX4 (most:=9223372036854775807) (by omega) λX5 rX5 mX5=>?_
 have nC:=num_r64 l yb.2
 have nC0:=(rsNum_fit l W63 yb.2).1
 obtain⟨yc,hyc⟩:∃y,y=rsNum l W63 yb.2:=⟨_,rfl⟩
 have exC:(((rsSmall l 9223372036854775807 yb.2).1:Nat):Int)=yc.1∧(rsSmall l 9223372036854775807 yb.2).2=yc.2:=by rw[hyc];exact⟨rfl,rfl⟩
 rw[exC.1]
 rw[exC.2]at rX5
 rw[←hyc]at nC nC0
 refine rvS (v:=.int .i64 yc.1) (w' :=X5) (by simp[go_sem];rw[wrapI (by omega) (by omega)]) ?_
 refine rvS (v:=.pointer (some ⟨p,22+2,none⟩)) (w' :=X5) (by simp[go_sem]) ?_
 obtain⟨X6,f6,bX6,mX6⟩:=stI (x:=yc.1) (mX5.hpk bX4 (by omega)) (gE ya.1 yb.1 0 2) (C' :=G xs ya.1 yb.1 yc.1 16) ((sE _ _ _ 2 _).trans (by rw[←hGe];rfl))
 refine ruS f6 ?_
 have rX6:=hvr rX5 mX6
 have MX6:Mod (λb=>b=r) w X6:=keepR ((((((mX1.mono λ_ _ h=>.inl h).trans (mX2.mono λ_ _ h=>.inr h)).trans (mX3.mono λ_ _ h=>.inl h)).trans (mX4.mono λ_ _ h=>.inr h)).trans (mX5.mono λ_ _ h=>.inl h)).trans (mX6.mono λ_ _ h=>.inr h)) MX
 have zX6:=mX6.hpk (mX5.hpk (mX4.hpk (mX3.hpk (mX2.hpk (mX1.hpk zX (by omega)) (by omega)) (by omega)) (by omega)) (by omega)) (by omega)
 have hsp:(rsSp0 l s).2=yc.2∧G xs ya.1 yb.1 yc.1 16=spC (rsSp0 l s).1:=by
  rw[←hGe]
  have hS1:S 1=(rsNum l W63 (S 0)).2:=hSs 0
  have hS2:S 2=(rsNum l W63 (S 1)).2:=hSs 1
  have hS3:S 3=(rsNum l W63 (S 2)).2:=hSs 2
  have hS4:S 4=(rsNum l W63 (S 3)).2:=hSs 3
  rw[hxs]
  exact sp0_of hx1 hx2 (by rw[hS0]) (by rw[hS1]) (by rw[hS2]) (by rw[hS3]) (by rw[hS4]) (by rw[hya,hT]) hyb hyc
 obtain⟨Z,hZ⟩:∃Z,Z=rsSp0 l s:=⟨_,rfl⟩
 have hzf:Z.1.Fit:=by rw[hZ];exact rsSp0_fit l s
 rw[←hZ]at hsp
 rw[hsp.2]at bX6
 rw[←hsp.1]at rX6
 have hk:=hK
 unfold rsSp at hk
 rw[←hZ]at hk
 refine rx_bigS (spC Z.1) 24 aSp nSp (spC_len _) (At.all bX6) ?_
 refine ca_smayS hzf λX7 mX7=>?_
 refine rvS (v:=.bool (!Z.1.may)) (w' :=X7) (by simp[go_sem]) ?_
 have rX7:=rX6.mod mX7 id λ_ _ h=>h
 have bX7:=mX7.hpk bX6 id
 have zX7:=mX7.hpk zX6 id
 have MX7:=MX6.on mX7 λ_ h=>h.elim
 have fin:∀(X8:World) (t:Sp) (rs:Rs),RdrAt X8 r v l rs→Mod (λb=>b=r) w X8→SpAt X8 z (spC zSp)→(∀w',RdrAt w' r v l rs→Mod (λb=>b=r) w w' →K (.agg (spC t).toArray) w')→
   rux Tryz.prog (bigU tSpec (.pointer (some ⟨z,0,none⟩)) (.agg (spC t).toArray)) X8 λw9=>rdX Tryz.prog (bigS tSpec (.pointer (some ⟨z,0,none⟩))) w9 λv9=>K v9 w9:=by
  intro X8 t rs hr hm hb hk
  have hh:X8.heap[z]? =some (.cells (spC zSp).toArray tSpec (0,0)):=hb
  refine rux_bigU nSp (spC_len t) hh (by rw[List.size_toArray,spC_len,spC_len];omega) (spC_one _) ?_
  have e5:lay (spC zSp).toArray.toList 0 (spC t)=spC t:=lay_all (by rw[spC_len];simp[spC_len])
  rw[e5]
  have m9:Mod (λb=>b=z) X8 (X8.setRow z (spC t).toArray):=(Mod.refl (λb=>b=z) X8).setRow (.inl rfl) _
  have b9:SpAt (X8.setRow z (spC t).toArray) z (spC t):=by
   show(X8.setRow z _).heap[z]? =_
   rw[heap_setRow,if_pos rfl,hh]
  refine rdX_bigS (spC t) 24 aSp nSp (spC_len _) (At.all b9) ?_
  exact hk _ (hr.mod m9 (by omega) λb hb e=>by have:=hvl b hb;omega) (hm.on m9 λb hb=>.inr (by omega))
 cases hmay:Z.1.may with
 |false=>
  rw[hmay]at hk
  rw[show(!false)=true from rfl,ifB_bool,if_pos rfl]
  refine ca_rfail (e:=5) rX7 λX8 rX8 mX8=>?_
  refine rx_bigB builtSpZ ?_
  exact fin X8 zSp _ rX8 (MX7.trans mX8) (mX8.hpk zX7 (by omega)) (by simpa using hk)
 |true=>
  rw[hmay]at hk
  rw[show(!true)=false from rfl,ifB_bool,if_neg Bool.false_ne_true]
  refine rx_bigS (spC Z.1) 24 aSp nSp (spC_len _) (At.all bX7) ?_
  exact fin X7 Z.1 _ rX7 MX7 zX7 (by simpa using hk)
end Go.Proofs
namespace Go.Proofs
open Go Go.Vc
section
variable{κ ν:Type} [DecidableEq κ]
theorem perm_of_lk{A B:List (κ×ν)}(hA:(A.map (·.1)).Nodup)(hB:(B.map (·.1)).Nodup)(h:∀k,lk A k=lk B k):A.Perm B:=by
 have nd:∀L:List (κ×ν),(L.map (·.1)).Nodup→L.Nodup:=λL hL=>by
  rw[List.Nodup,List.pairwise_map]at hL
  exact hL.imp λhne e=>hne (by rw[e])
 refine(List.perm_ext_iff_of_nodup (nd A hA) (nd B hB)).2 λ⟨k,v⟩=>?_
 rw[←lk_iff hA,←lk_iff hB,h]
theorem lk_eraseIdx{R:List (κ×ν)}(hn:(R.map (·.1)).Nodup){i:Nat}{p:κ×ν}(h:R[i]? =some p):((R.eraseIdx i).map (·.1)).Nodup∧lk R p.1=some p.2∧lk (R.eraseIdx i) p.1=none∧∀k,k≠p.1→lk (R.eraseIdx i) k=lk R k:=by
 have hp:=perm_eraseIdx h
 have hn' :((p::R.eraseIdx i).map (·.1)).Nodup:=(hp.map _).nodup_iff.1 hn
 simp only[List.map_cons,List.nodup_cons]at hn'
 refine⟨hn'.2,by rw[lk_perm hn hp];simp[lk],lk_none_of_notMem hn'.1,λk hk=>?_⟩
 rw[lk_perm hn hp]
 simp[lk,Ne.symm hk]
def CopyInv(A R C:List (κ×ν)):Prop:=(R.map (·.1)).Nodup∧∀k,(lk R k).or (lk C k)=lk A k
theorem CopyInv.step{A R C:List (κ×ν)}(h:CopyInv A R C){i:Nat}{p:κ×ν}(hi:R[i]? =some p):CopyInv A (R.eraseIdx i) (put C p.1 p.2):=by
 obtain⟨hn,hk⟩:=h
 obtain⟨h1,h2,h3,h4⟩:=lk_eraseIdx hn hi
 refine⟨h1,λk=>?_⟩
 rw[lk_put]
 by_cases e:k=p.1
 ·subst e
  rw[h3,if_pos rfl,Option.none_or,←hk,h2,Option.some_or]
 ·rw[h4 k e,if_neg (λh=>e h.symm)]
  exact hk k
theorem CopyInv.done{A C:List (κ×ν)}(h:CopyInv A [] C)(hA:(A.map (·.1)).Nodup)(hC:(C.map (·.1)).Nodup):C.Perm A:=
 perm_of_lk hC hA λk=>by have:=h.2 k;simpa [lk]using this
end
def Led.empty:Led:=⟨0,[],[]⟩
theorem Led.empty_ok:Led.empty.Ok where
 fund:=by simp[Led.empty,MF]
 sa:=List.Pairwise.nil
 sp:=List.Pairwise.nil
 len:=by simp[Led.empty]
 acc:=by simp[Led.empty]
 pos:=by simp[Led.empty]
theorem ca_new{w:World}{K:Kont}(hK:∀w' l F,LedQ w' l F Led.empty→Mod (λ_=>False) w w' →(∀b,F b→w.heap.size≤b)→K (lptr l) w'):Ca Tryz.prog 36 #[] w K:=by
 apply ca36
 unfold F36
 simp[go_sem]
 have hm:=MapAt.new (enc:=encU) (ev:=acV) w
 refine rux_mapUp (enc:=encU) (ev:=acV) (x:=0) (v:=⟨0,0,false,false⟩) uMapA kU32 hm λw2 hA m2 hs2=>?_
 have mA:Mod (λ_=>False) w w2:=((Mod.refl (λ_=>False) w).alloc _).on m2 λb hb=>.inr (by omega)
 have hs:w2.heap.size=w.heap.size+1:=by rw[hs2,World.size_alloc]
 (try simp[go_sem])
 generalize hw3:(w2.alloc (.map #[] 0)).alloc _=w3
 have m3:Mod (λ_=>False) w2 w3:=by subst hw3;exact((Mod.refl _ w2).alloc _).alloc _
 refine hK w3 (w2.heap.size+1) (λb=>b=w2.heap.size+1∨b=w.heap.size∨b=w2.heap.size) ⟨⟨w.heap.size,w2.heap.size,_,[],?_,hA.mod m3 id,?_,?_,List.Perm.refl _,λ_=>Iff.rfl,by omega,by omega,by omega⟩,Led.empty_ok⟩ (mA.trans m3) λb hb=>by omega
 ·subst hw3;simp[go_sem,hs]
 ·subst hw3
  exact(MapAt.new (enc:=encKey) (ev:=poV) w2).mod ((Mod.refl (λ_=>False) _).alloc _) id
 ·exact List.Perm.refl _
theorem ca_copy{w:World}{l:Nat}{F:Nat→Prop}{S:Led}{K:Kont}(h:LedQ w l F S)(hK:∀w' l' F',LedQ w' l' F' S→Mod (λ_=>False) w w' →(∀b,F' b→w.heap.size≤b)→K (lptr l') w'):Ca Tryz.prog 109 #[lptr l] w K:=by
 have h0:=h
 obtain⟨⟨m1,m2,A,B,h1,h2,h3,h4,h5,h6,h7⟩,hok⟩:=h
 apply ca109
 unfold F109
 refine ca_ready h0 ?_
 simp[go_sem]
 refine ca_new λw1 l' F' q1 n1 f1=>?_
 obtain⟨⟨k1,k2,A',B',c1,c2,c3,c4,c5,c6,c7⟩,-⟩:=q1
 have hk1:w.heap.size≤k1:=f1 k1 ((c6 k1).2 (.inr (.inl rfl)))
 have hk2:w.heap.size≤k2:=f1 k2 ((c6 k2).2 (.inr (.inr rfl)))
 have hl' :w.heap.size≤l' :=f1 l' ((c6 l').2 (.inl rfl))
 have e1:=n1.keep h1 id
 have hlm1:=h2.lt
 have hlm2:=h3.lt
 simp[go_sem,lptr,hp_of e1]
 refine rx_range uMapA (h2.mod n1 id) λw2 it2 n2=>?_
 generalize hg:w1.heap.size=it at it2
 have hitl:=lt_of_heap c1
 have hc2l:=c2.lt
 have hc3l:=c3.lt
 refine loopK (λs W=>∃(R C:List (Int×Ac)),s=()∧MapIt encU acV W it m1 R∧MapAt encU acV W k1 C∧CopyInv A R C∧Mod (λb=>b=it∨b=k1) w1 W)
  (λs W=>itLeft it m1 W) ⟨A,A',rfl,it2,c2.mod n2 id,⟨h2.1,λk=>?_⟩,n2.mono λ_ _ h=>h.elim⟩ ?_
 ·have hA' :∀k,lk A' k=Led.empty.getO k:=λk=>LedQ.lkA c2 c4 k
  rw[hA' k,LedQ.lkA h2 h4]
  unfold Led.getO
  by_cases hz:k=0
  ·simp[hz]
  ·simp only[if_neg hz]
   cases S.find k<;>simp[Led.find,Led.empty]
 rintro _ W ⟨R,C,rfl,itW,cW,inv,mW⟩ KN hKN
 unfold L109_1
 intro _
 refine rx_next itW ?_ ?_
 ·intro hz w' m' hh
  subst hz
  have mW' :Mod (λb=>b=it∨b=k1) w1 w' :=mW.trans (m'.mono λ_ _ h=>h.elim)
  have e1' :=mW'.keep e1 (by have:=lt_of_heap h1;omega)
  simp[go_sem,hp_of e1']
  have mF:Mod (λ_=>False) w w' :=n1.on mW' λb hb=>.inr (by have:=n1.size;omega)
  refine rx_range uMapP (h3.mod mF id) λw4 it4 n4=>?_
  generalize hg4:w'.heap.size=jt at it4
  have cA:=((inv.done h2.1 cW.1).trans h4)
  have cW4:=(cW.mod m' id).mod n4 id
  have hjt:it<jt∧k1<jt∧k2<jt∧l' <jt:=by
   have:=mW'.size
   have:=itW.lt.2
   have:=m'.size
   omega
  have c1' :hp w4 l' =some (.cells #[.map (some k1),.map (some k2)] 201 (0,0)):=n4.keep (mW'.keep c1 (by omega)) id
  refine loopK (λs W=>∃(R C:List ((Int×Int)×Po)),s=()∧MapIt encKey poV W jt m2 R∧MapAt encKey poV W k2 C∧CopyInv B R C∧Mod (λb=>b=jt∨b=k2) w4 W)
   (λs W=>itLeft jt m2 W) ⟨B,B',rfl,it4,(c3.mod mW' (by omega)).mod n4 id,⟨h3.1,λk=>?_⟩,Mod.refl _ _⟩ ?_
  ·have hB' :∀k,lk B' k=Led.empty.pos? k:=λk=>LedQ.lkP c3 c5 k
   rw[hB' k]
   cases lk B k<;>simp[Led.pos?,Led.empty]
  rintro _ W5 ⟨R5,C5,rfl,itW5,cW5,inv5,mW5⟩ KN5 hKN5
  unfold L109_0
  intro _
  refine rx_next itW5 ?_ ?_
  ·intro hz w'' m'' hh''
   subst hz
   simp[go_sem]
   have mW5' :Mod (λb=>b=jt∨b=k2) w4 w'' :=mW5.trans (m''.mono λ_ _ h=>h.elim)
   refine hK w'' l' F' ⟨⟨k1,k2,C,C5,mW5'.keep c1' (by omega),cW4.mod mW5' (by omega),cW5.mod m'' id,cA,(inv5.done h3.1 cW5.1).trans h5,c6,c7⟩,hok⟩ (mF.on ((n4.mono (G:=λb=>b=jt∨b=k2) λ_ _ h=>h.elim).trans mW5') λb hb=>.inr (by have:=mF.size;omega)) f1
  ·intro i p hi w'' it' cur' m'' hsz
   simp[go_sem]
   refine rx_entry cur' ?_
   have c1'' :=(mW5.on m'' λb hb=>.inl (.inl hb)).keep c1' (by show¬(_∨_);omega)
   have hlt:=lt_of_heap c1''
   have hne:l' ≠w''.heap.size:=by omega
   have hne2:l' ≠w''.heap.size+1:=by omega
   simp[go_sem,poV,encKey,lptr,hp_of c1'',hne,hne2]
   generalize hw6:World.drew _=w6
   have m6:Mod (λ_=>False) w'' w6:=by subst hw6;exact(((Mod.refl _ w'').alloc _).alloc _).drew
   refine rux_mapUp (enc:=encKey) (ev:=poV) (x:=p.1) (v:=p.2) uMapP kKey ((cW5.mod m'' (by show¬_=_;omega)).mod m6 id) λw7 hA m7 hs7=>?_
   have it7:MapIt encKey poV w7 jt m2 (R5.eraseIdx i):=(it'.mod m6 id id).mod m7 (by omega) (by omega)
   refine hKN5 _ _ ⟨_,_,rfl,it7,hA,inv5.step hi,((mW5.on m'' λb hb=>.inl (.inl hb)).on m6 λ_ h=>h.elim).on m7 λb hb=>.inl (.inr hb)⟩ ?_
   rw[it7.left,itW5.left,List.length_eraseIdx]
   have:i<R5.length:=(List.getElem?_eq_some_iff.1 hi).1
   rw[if_pos this];omega
 ·intro i p hi w' it' cur' m' hsz
  simp[go_sem]
  refine rx_entry cur' ?_
  have c1' :=(mW.on m' λb hb=>.inl (.inl hb)).keep c1 (by show¬(_∨_);omega)
  have hlt:=lt_of_heap c1'
  have hne:l' ≠w'.heap.size:=by omega
  simp[go_sem,acV,encU,lptr,hp_of c1',hne]
  generalize hw6:World.drew _=w6
  have m6:Mod (λ_=>False) w' w6:=by subst hw6;exact((Mod.refl _ w').alloc _).drew
  refine rux_mapUp (enc:=encU) (ev:=acV) (x:=p.1) (v:=p.2) uMapA kU32 ((cW.mod m' (by show¬_=_;omega)).mod m6 id) λw7 hA m7 hs7=>?_
  have it7:MapIt encU acV w7 it m1 (R.eraseIdx i):=(it'.mod m6 id id).mod m7 (by omega) (by omega)
  refine hKN _ _ ⟨_,_,rfl,it7,hA,inv.step hi,((mW.on m' λb hb=>.inl (.inl hb)).on m6 λ_ h=>h.elim).on m7 λb hb=>.inl (.inr hb)⟩ ?_
  rw[it7.left,itW.left,List.length_eraseIdx]
  have:i<R.length:=(List.getElem?_eq_some_iff.1 hi).1
  rw[if_pos this];omega
end Go.Proofs
