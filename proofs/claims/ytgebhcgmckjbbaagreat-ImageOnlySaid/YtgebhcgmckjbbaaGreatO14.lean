/- Part of a proof. -/
import Derived.Test.YtgebhcgmckjbbaaGreatO12
set_option linter.all false
namespace Go.Proofs
open Go Go.Vc
attribute [local congr] Ca_congV
inductive Pt where
 |v
 |cal
 |led
 |mb
 |md
 |bk (n:Int)
 |bd (n:Int)
 deriving DecidableEq
def vptr(v:Nat):Value:=.pointer (some ⟨v,0,none⟩)
def idV(x:Value):Value:=x
abbrev tVen:TypeId:=66
def slOf(D:List (Int×Value))(n:Int):Value:=(lk D n).getD nilV
structure VenW(w:World)(v c l mb md:Nat)(A:List (Int×Nat))(D:List (Int×Value))(fp:Pt→Nat→Prop)(S:Ven):Prop where
 blk:hp w v=some (.cells #[cptr c,lptr l,.map (some mb),.map (some md),.int .u64 S.next] tVen (0,0))
 cal:CalQ w c (fp .cal) S.cal
 led:LedQ w l (fp .led) S.led
 mbk:MapAt encU bptr w mb A
 mbd:MapAt encU idV w md D
 bk:∀n b,lk A n=some b→BookQ w b (fp (.bk n)) (S.bk n)
 nbk:∀n,lk A n=none→S.bk n=Bk.empty∧∀x,¬fp (.bk n) x
 bd:∀n,OdS w (slOf D n) (S.bd n)
 fv:∀x,fp .v x↔x=v
 fmb:∀x,fp .mb x↔x=mb
 fmd:∀x,fp .md x↔x=md
 fbd:∀n x,fp (.bd n) x↔inSl (slOf D n) x
 dj:∀p q x,fp p x→fp q x→p=q
structure VenR(w:World)(v c l mb md:Nat)(A:List (Int×Nat))(D:List (Int×Value))(fp:Pt→Nat→Prop)(S:Ven):Prop extends VenW w v c l mb md A D fp S where
 dom:∀n,(lk A n).isSome=(calGet S.cal.l n).isSome
 dod:∀n,(lk D n).isSome=true→(calGet S.cal.l n).isSome=true
def VenQ(w:World)(v:Nat)(F:Nat→Prop)(S:Ven):Prop:=∃c l mb md A D fp,VenR w v c l mb md A D fp S∧∀x,F x↔∃p,fp p x
def allP(fp:Pt→Nat→Prop):Nat→Prop:=λx=>∃p,fp p x
def updP(fp:Pt→Nat→Prop)(p:Pt)(G:Nat→Prop):Pt→Nat→Prop:=λq=>if q=p then G else fp q
theorem updP_self(fp:Pt→Nat→Prop)(p:Pt)(G:Nat→Prop):updP fp p G p=G:=if_pos rfl
theorem updP_ne{fp:Pt→Nat→Prop}{p q:Pt}{G:Nat→Prop}(h:q≠p):updP fp p G q=fp q:=if_neg h
section
variable{w w' :World}{v c l mb md:Nat}{A:List (Int×Nat)}{D:List (Int×Value)}{fp:Pt→Nat→Prop}{S:Ven}
theorem VenR.q(h:VenR w v c l mb md A D fp S):VenQ w v (allP fp) S:=⟨c,l,mb,md,A,D,fp,h,λ_=>Iff.rfl⟩
theorem VenW.lt(h:VenW w v c l mb md A D fp S){p:Pt}{x:Nat}(hx:fp p x):x<w.heap.size:=by
 cases p with
 |v=>rw[(h.fv x).1 hx];exact lt_of_heap h.blk
 |cal=>exact h.cal.lt hx
 |led=>exact h.led.lt hx
 |mb=>rw[(h.fmb x).1 hx];exact h.mbk.lt
 |md=>rw[(h.fmd x).1 hx];exact h.mbd.lt
 |bk n=>
  cases hl:lk A n with
  |none=>exact absurd hx ((h.nbk n hl).2 x)
  |some b=>exact(h.bk n b hl).lt hx
 |bd n=>exact(h.bd n).lt ((h.fbd n x).1 hx)
theorem VenW.self(h:VenW w v c l mb md A D fp S):fp .v v:=(h.fv v).2 rfl
theorem VenQ.self{F:Nat→Prop}(h:VenQ w v F S):F v:=by
 obtain⟨c,l,mb,md,A,D,fp,hr,hF⟩:=h
 exact(hF v).2 ⟨.v,hr.self⟩
theorem VenW.mod{G:Nat→Prop}(h:VenW w v c l mb md A D fp S)(hm:Mod G w w')(hd:∀p x,fp p x→¬G x):VenW w' v c l mb md A D fp S where
 blk:=hm.hpk h.blk (hd .v v h.self)
 cal:=h.cal.mod hm (hd .cal)
 led:=h.led.mod hm (hd .led)
 mbk:=h.mbk.mod hm (hd .mb mb ((h.fmb mb).2 rfl))
 mbd:=h.mbd.mod hm (hd .md md ((h.fmd md).2 rfl))
 bk n b hl:=(h.bk n b hl).mod hm (hd (.bk n))
 nbk:=h.nbk
 bd n:=(h.bd n).mod hm λx hx=>hd (.bd n) x ((h.fbd n x).2 hx)
 fv:=h.fv
 fmb:=h.fmb
 fmd:=h.fmd
 fbd:=h.fbd
 dj:=h.dj
theorem VenR.mod{G:Nat→Prop}(h:VenR w v c l mb md A D fp S)(hm:Mod G w w')(hd:∀p x,fp p x→¬G x):VenR w' v c l mb md A D fp S:=⟨h.toVenW.mod hm hd,h.dom,h.dod⟩
theorem VenQ.mod{F G:Nat→Prop}(h:VenQ w v F S)(hm:Mod G w w')(hd:∀x,F x→¬G x):VenQ w' v F S:=by
 obtain⟨c,l,mb,md,A,D,fp,hr,hF⟩:=h
 exact⟨c,l,mb,md,A,D,fp,hr.mod hm λp x hx=>hd x ((hF x).2 ⟨p,hx⟩),hF⟩
theorem VenR.md0(h:VenR w v c l mb md A D fp S)(hm:Mod (λ_=>False) w w'):VenR w' v c l mb md A D fp S:=h.mod hm λ_ _ _ h=>h
theorem VenQ.md0{F:Nat→Prop}(h:VenQ w v F S)(hm:Mod (λ_=>False) w w'):VenQ w' v F S:=h.mod hm λ_ _ h=>h
theorem VenW.djU(h:VenW w v c l mb md A D fp S){p:Pt}{G:Nat→Prop}(hn:∀x,G x→fp p x∨w.heap.size≤x):∀q r x,updP fp p G q x→updP fp p G r x→q=r:=by
 have key:∀q x,q≠p→fp q x→¬G x:=λq x hq hx hG=>by
  rcases hn x hG with h1|h1
  ·exact hq (h.dj _ _ _ hx h1)
  ·have:=h.lt hx;omega
 intro q r x hq hr
 by_cases h1:q=p
 ·by_cases h2:r=p
  ·rw[h1,h2]
  ·subst h1
   rw[updP_self]at hq
   rw[updP_ne h2]at hr
   exact absurd hq (key r x h2 hr)
 ·rw[updP_ne h1]at hq
  by_cases h2:r=p
  ·subst h2
   rw[updP_self]at hr
   exact absurd hr (key q x h1 hq)
  ·rw[updP_ne h2]at hr
   exact h.dj _ _ _ hq hr
theorem VenW.ap(h:VenW w v c l mb md A D fp S){p q:Pt}(hpq:q≠p):∀x,fp q x→¬fp p x:=λx h1 h2=>hpq (h.dj _ _ _ h1 h2)
theorem VenR.setLed(h:VenR w v c l mb md A D fp S){L:Led}(hm:Mod (fp .led) w w')(hc:LedQ w' l (fp .led) L):VenR w' v c l mb md A D fp {S with led:=L} where
 blk:=hm.hpk h.blk (h.ap (by simp) _ h.self)
 cal:=h.cal.mod hm (h.ap (by simp))
 led:=hc
 mbk:=h.mbk.mod hm (h.ap (by simp) _ ((h.fmb mb).2 rfl))
 mbd:=h.mbd.mod hm (h.ap (by simp) _ ((h.fmd md).2 rfl))
 dom:=h.dom
 dod:=h.dod
 bk n b hl:=(h.bk n b hl).mod hm (h.ap (by simp))
 nbk:=h.nbk
 bd n:=(h.bd n).mod hm λx hx=>h.ap (by simp) x ((h.fbd n x).2 hx)
 fv:=h.fv
 fmb:=h.fmb
 fmd:=h.fmd
 fbd:=h.fbd
 dj:=h.dj
theorem VenR.setBk(h:VenR w v c l mb md A D fp S){n:Int}{b:Nat}{G:Nat→Prop}{B:Bk}(hb:lk A n=some b)(hm:Mod (fp (.bk n)) w w')(hc:BookQ w' b G B)(hn:∀x,G x→fp (.bk n) x∨w.heap.size≤x):
  VenR w' v c l mb md A D (updP fp (.bk n) G) {S with bk:=upd S.bk n B} where
 blk:=hm.hpk h.blk (h.ap (by simp) _ h.self)
 cal:=by rw[updP_ne (by simp)];exact h.cal.mod hm (h.ap (by simp))
 led:=by rw[updP_ne (by simp)];exact h.led.mod hm (h.ap (by simp))
 mbk:=h.mbk.mod hm (h.ap (by simp) _ ((h.fmb mb).2 rfl))
 mbd:=h.mbd.mod hm (h.ap (by simp) _ ((h.fmd md).2 rfl))
 dom:=h.dom
 dod:=h.dod
 bk m b' hl:=by
  by_cases hmn:m=n
  ·subst hmn
   rw[hb]at hl
   cases hl
   show BookQ w' b _ (upd S.bk m B m)
   rw[updP_self,upd_self];exact hc
  ·have hne:Pt.bk m≠Pt.bk n:=by simpa using hmn
   show BookQ w' b' _ (upd S.bk n B m)
   rw[updP_ne hne,upd_ne _ _ _ hmn];exact(h.bk m b' hl).mod hm (h.ap hne)
 nbk m hl:=by
  have hmn:m≠n:=λe=>by subst e;rw[hb]at hl;cases hl
  have hne:Pt.bk m≠Pt.bk n:=by simpa using hmn
  show upd S.bk n B m=_∧_
  rw[updP_ne hne,upd_ne _ _ _ hmn];exact h.nbk m hl
 bd m:=(h.bd m).mod hm λx hx=>h.ap (by simp) x ((h.fbd m x).2 hx)
 fv:=by rw[updP_ne (by simp)];exact h.fv
 fmb:=by rw[updP_ne (by simp)];exact h.fmb
 fmd:=by rw[updP_ne (by simp)];exact h.fmd
 fbd m:=by rw[updP_ne (by simp)];exact h.fbd m
 dj:=h.djU hn
theorem slOf_put(D:List (Int×Value))(n m:Int)(x:Value):slOf (put D n x) m=if m=n then x else slOf D m:=by
 unfold slOf
 rw[lk_put]
 by_cases hmn:m=n
 ·subst hmn;simp
 ·rw[if_neg λe=>hmn e.symm,if_neg hmn]
theorem VenW.setBdG(h:VenW w v c l mb md A D fp S){w1:World}{n:Int}{L:List Od}{sl:Value}{E:Nat→Prop}(hm:Mod E w w1)(hE:∀p x,p≠ .bd n→fp p x→¬E x)(hc:OdS w1 sl L)(hn:∀x,inSl sl x→fp (.bd n) x∨w.heap.size≤x)
  (h2:MapAt encU idV w' md (put D n sl))(m2:Mod (λx=>x=md) w1 w'):VenW w' v c l mb md A (put D n sl) (updP fp (.bd n) (inSl sl)) {S with bd:=upd S.bd n L}:=by
 have hmd:=h.lt (p:=.md) ((h.fmd md).2 rfl)
 have hsz:=hm.size
 have hM:Mod (λx=>E x∨x=md) w w' :=(hm.mono λx _ hx=>.inl hx).on m2 λx hx=>.inl (.inr hx)
 have hap:∀p,p≠ .bd n→p≠ .md→∀x,fp p x→¬(E x∨x=md):=λp h1 h2 x hx hc=>by
  rcases hc with hc|hc
  ·exact hE p x h1 hx hc
  ·exact h2 (h.dj _ _ _ hx ((h.fmd x).2 hc))
 exact{
  blk:=hM.hpk h.blk (hap .v (by simp) (by simp) _ h.self)
  cal:=by rw[updP_ne (by simp)];exact h.cal.mod hM (hap .cal (by simp) (by simp))
  led:=by rw[updP_ne (by simp)];exact h.led.mod hM (hap .led (by simp) (by simp))
  mbk:=h.mbk.mod hM (hap .mb (by simp) (by simp) _ ((h.fmb mb).2 rfl))
  mbd:=h2
  bk:=λm b hl=>by rw[updP_ne (by simp)];exact(h.bk m b hl).mod hM (hap (.bk m) (by simp) (by simp))
  nbk:=λm hl=>by rw[updP_ne (by simp)];exact h.nbk m hl
  bd:=λm=>by
   show OdS w' _ (upd S.bd n L m)
   rw[slOf_put]
   by_cases hmn:m=n
   ·subst hmn
    rw[if_pos rfl,upd_self]
    refine hc.mod m2 λx hx he=>?_
    rcases hn x hx with h1|h1
    ·exact absurd (h.dj _ _ _ h1 ((h.fmd x).2 he)) (by simp)
    ·omega
   ·have hne:Pt.bd m≠Pt.bd n:=by simpa using hmn
    rw[if_neg hmn,upd_ne _ _ _ hmn]
    exact(h.bd m).mod hM λx hx=>hap (.bd m) hne (by simp) x ((h.fbd m x).2 hx)
  fv:=by rw[updP_ne (by simp)];exact h.fv
  fmb:=by rw[updP_ne (by simp)];exact h.fmb
  fmd:=by rw[updP_ne (by simp)];exact h.fmd
  fbd:=λm x=>by
   rw[slOf_put]
   by_cases hmn:m=n
   ·subst hmn;rw[if_pos rfl,updP_self]
   ·have hne:Pt.bd m≠Pt.bd n:=by simpa using hmn
    rw[if_neg hmn,updP_ne hne];exact h.fbd m x
  dj:=h.djU hn}
theorem VenW.setBd(h:VenW w v c l mb md A D fp S){w1:World}{n:Int}{L:List Od}{sl:Value}(hm:Mod (fp (.bd n)) w w1)(hc:OdS w1 sl L)(hn:∀x,inSl sl x→fp (.bd n) x∨w.heap.size≤x)
  (h2:MapAt encU idV w' md (put D n sl))(m2:Mod (λx=>x=md) w1 w'):VenW w' v c l mb md A (put D n sl) (updP fp (.bd n) (inSl sl)) {S with bd:=upd S.bd n L}:=
 h.setBdG hm (λp x hp=>h.ap hp x) hc hn h2 m2
theorem VenR.setBd(h:VenR w v c l mb md A D fp S){w1:World}{n:Int}{L:List Od}{sl:Value}(hk:(calGet S.cal.l n).isSome=true)(hm:Mod (fp (.bd n)) w w1)(hc:OdS w1 sl L)(hn:∀x,inSl sl x→fp (.bd n) x∨w.heap.size≤x)
  (h2:MapAt encU idV w' md (put D n sl))(m2:Mod (λx=>x=md) w1 w'):VenR w' v c l mb md A (put D n sl) (updP fp (.bd n) (inSl sl)) {S with bd:=upd S.bd n L}:=
 ⟨h.toVenW.setBd hm hc hn h2 m2,h.dom,λm hm' =>by
  by_cases hmn:m=n
  ·subst hmn;exact hk
  ·rw[lk_put,if_neg λe=>hmn e.symm]at hm';exact h.dod m hm'⟩
theorem VenW.addBk(h:VenW w v c l mb md A D fp S){w1:World}{n:Int}{b:Nat}{G:Nat→Prop}{B:Bk}(hb:lk A n=none)(hm:Mod (λ_=>False) w w1)(hc:BookQ w1 b G B)(hn:∀x,G x→w.heap.size≤x)
  (h2:MapAt encU bptr w' mb (put A n b))(m2:Mod (λx=>x=mb) w1 w'):VenW w' v c l mb md (put A n b) D (updP fp (.bk n) G) {S with bk:=upd S.bk n B}:=by
 have hmb:=h.lt (p:=.mb) ((h.fmb mb).2 rfl)
 have hsz:=hm.size
 have hM:Mod (λx=>x=mb) w w' :=(hm.mono λ_ _ h=>h.elim).trans m2
 have hap:∀p,p≠ .mb→∀x,fp p x→¬x=mb:=λp h2 x hx hc=>h2 (h.dj _ _ _ hx ((h.fmb x).2 hc))
 have hG:∀x,G x→¬x=mb:=λx hx e=>by have:=hn x hx;omega
 exact{
  blk:=hM.hpk h.blk (hap .v (by simp) _ h.self)
  cal:=by rw[updP_ne (by simp)];exact h.cal.mod hM (hap .cal (by simp))
  led:=by rw[updP_ne (by simp)];exact h.led.mod hM (hap .led (by simp))
  mbk:=h2
  mbd:=h.mbd.mod hM (hap .md (by simp) _ ((h.fmd md).2 rfl))
  bk:=λm b' hl=>by
   rw[lk_put]at hl
   show BookQ w' b' _ (upd S.bk n B m)
   by_cases hmn:m=n
   ·subst hmn
    rw[if_pos rfl]at hl
    cases hl
    rw[updP_self,upd_self];exact hc.mod m2 hG
   ·have hne:Pt.bk m≠Pt.bk n:=by simpa using hmn
    rw[if_neg λe=>hmn e.symm]at hl
    rw[updP_ne hne,upd_ne _ _ _ hmn];exact(h.bk m b' hl).mod hM (hap (.bk m) (by simp))
  nbk:=λm hl=>by
   rw[lk_put]at hl
   show upd S.bk n B m=_∧_
   by_cases hmn:m=n
   ·subst hmn;rw[if_pos rfl]at hl;cases hl
   ·have hne:Pt.bk m≠Pt.bk n:=by simpa using hmn
    rw[if_neg λe=>hmn e.symm]at hl
    rw[updP_ne hne,upd_ne _ _ _ hmn];exact h.nbk m hl
  bd:=λm=>(h.bd m).mod hM λx hx=>hap (.bd m) (by simp) x ((h.fbd m x).2 hx)
  fv:=by rw[updP_ne (by simp)];exact h.fv
  fmb:=by rw[updP_ne (by simp)];exact h.fmb
  fmd:=by rw[updP_ne (by simp)];exact h.fmd
  fbd:=λm x=>by rw[updP_ne (by simp)];exact h.fbd m x
  dj:=h.djU (p:=.bk n) λx hx=>.inr (hn x hx)}
end
end Go.Proofs
namespace Go.Proofs
open Go
def Od.key(o:Od):Int×Int×Bool×Int:=(o.num,o.acct,o.buy,o.price)
theorem key_num{o o' :Od}(h:o.key=o'.key):o.num=o'.num:=congrArg (·.1) h
theorem key_acct{o o' :Od}(h:o.key=o'.key):o.acct=o'.acct:=congrArg (·.2.1) h
theorem key_buy{o o' :Od}(h:o.key=o'.key):o.buy=o'.buy:=congrArg (·.2.2.1) h
theorem key_price{o o' :Od}(h:o.key=o'.key):o.price=o'.price:=congrArg (·.2.2.2) h
structure SubL(l' l:List Od):Prop where
 sub:(l'.map Od.key).Sublist (l.map Od.key)
 left:∀o∈l',1≤o.left∧o.left≤1000000
theorem may_left{o:Od}(h:o.may=true):1≤o.left∧o.left≤1000000:=Od.left_bd h
theorem may_key{o o' :Od}(h:o.key=o'.key)(hm:o.may=true)(hl:1≤o'.left∧o'.left≤1000000):o'.may=true:=by
 unfold Od.may at*
 rw[←key_num h,←key_acct h,←key_price h]
 simp only[Bool.and_eq_true]at hm⊢
 exact⟨hm.1,decide_eq_true hl⟩
theorem SubL.refl{l:List Od}(h:∀o∈l,o.may=true):SubL l l:=⟨List.Sublist.refl _,λo ho=>may_left (h o ho)⟩
theorem SubL.mem{l' l:List Od}(h:SubL l' l){o:Od}(ho:o∈l'):∃o0∈l,o0.key=o.key:=by
 have:=h.sub.mem (List.mem_map_of_mem (f:=Od.key) ho)
 obtain⟨o0,h0,he⟩:=List.mem_map.1 this
 exact⟨o0,h0,he⟩
theorem map_num(l:List Od):l.map (·.num)=(l.map Od.key).map (·.1):=by rw[List.map_map];rfl
theorem SubL.nums{l' l:List Od}(h:SubL l' l):(l'.map (·.num)).Sublist (l.map (·.num)):=by
 rw[map_num,map_num];exact h.sub.map _
theorem SubL.len{l' l:List Od}(h:SubL l' l):l'.length≤l.length:=by
 have:=h.sub.length_le
 rwa[List.length_map,List.length_map]at this
structure MeetOk(o:Od)(left:Int)(L:List Od)(x:Int×List Od×List Td×List Int×Int):Prop where
 sub:SubL x.2.1 L
 rest:0≤x.1∧x.1≤left
 fill:x.2.2.2.2+x.1=left
 qty:(x.2.2.1.map (·.qty)).sum=x.2.2.2.2
 tr:∀t∈x.2.2.1,1≤t.qty∧t.qty≤1000000∧t.acct≠o.acct∧∃b∈L,b.num=t.num∧b.acct=t.acct∧b.price=t.price∧t.qty≤b.left∧crossB o b.price=true
 gone:∀g∈x.2.2.2.1,∃b∈L,b.num=g∧b.acct=o.acct
theorem meet_ok{o:Od}:∀{L:List Od} {left:Int},0≤left→(∀b∈L,b.may=true)→MeetOk o left L (meetL o left L)
 | [],left,hl,hm=>⟨⟨List.Sublist.refl _,by simp[meetL]⟩,by simp[meetL];omega,by simp[meetL],by simp[meetL],by simp[meetL],by simp[meetL]⟩
 |b::r,left,hl,hm=>by
  have hb:=may_left (hm b List.mem_cons_self)
  have hr:∀x∈r,x.may=true:=λx hx=>hm x (List.mem_cons_of_mem _ hx)
  by_cases h1:left≤0∨crossB o b.price=false
  ·have e:meetL o left (b::r)=(left,b::r,[],[],0):=by unfold meetL;rw[if_pos h1]
   rw[e]
   exact⟨SubL.refl hm,⟨hl,Int.le_refl _⟩,by simp,by simp,by simp,by simp⟩
  ·have hc:crossB o b.price=true:=by
    cases h:crossB o b.price with
    |true=>rfl
    |false=>exact absurd (.inr h) h1
   by_cases h2:b.acct=o.acct
   ·have ih:=meet_ok (o:=o) (L:=r) hl hr
    have e:meetL o left (b::r)=((meetL o left r).1,(meetL o left r).2.1,(meetL o left r).2.2.1,b.num::(meetL o left r).2.2.2.1,(meetL o left r).2.2.2.2):=by
     conv=>lhs;unfold meetL
     rw[if_neg h1,if_pos h2]
    rw[e]
    refine⟨⟨ih.sub.sub.trans (List.sublist_cons_self _ _),ih.sub.left⟩,ih.rest,ih.fill,ih.qty,λt ht=>?_,λg hg=>?_⟩
    ·obtain⟨t1,t2,t3,b',hb',t4⟩:=ih.tr t ht
     exact⟨t1,t2,t3,b',List.mem_cons_of_mem _ hb',t4⟩
    ·rcases List.mem_cons.1 hg with rfl|hg
     ·exact⟨b,List.mem_cons_self,rfl,h2⟩
     ·obtain⟨b',hb',t4⟩:=ih.gone g hg
      exact⟨b',List.mem_cons_of_mem _ hb',t4⟩
   ·by_cases h3:left<b.left
    ·have e:meetL o left (b::r)=(0,{b with left:=b.left - left}::r,[⟨b.price,left,b.num,b.acct⟩],[],left):=by unfold meetL;rw[if_neg h1,if_neg h2,if_pos h3]
     rw[e]
     refine⟨⟨List.Sublist.refl _,λo' ho=>?_⟩,⟨Int.le_refl _,hl⟩,by simp,by simp,λt ht=>?_,by simp⟩
     ·rcases List.mem_cons.1 ho with rfl|ho
      ·show 1≤b.left - left∧b.left - left≤1000000
       omega
      ·exact may_left (hr o' ho)
     ·rw[List.mem_singleton.1 ht]
      exact⟨by show 1≤left;omega,by show left≤1000000;omega,h2,b,List.mem_cons_self,rfl,rfl,rfl,by show left≤b.left;omega,hc⟩
    ·have ih:=meet_ok (o:=o) (L:=r) (left:=left - b.left) (by omega) hr
     have e:meetL o left (b::r)=((meetL o (left - b.left) r).1,(meetL o (left - b.left) r).2.1,⟨b.price,b.left,b.num,b.acct⟩::(meetL o (left - b.left) r).2.2.1,(meetL o (left - b.left) r).2.2.2.1,b.left+(meetL o (left - b.left) r).2.2.2.2):=by
      conv=>lhs;unfold meetL
      rw[if_neg h1,if_neg h2,if_neg h3]
     rw[e]
     have i2:=ih.rest
     have i3:=ih.fill
     refine⟨⟨ih.sub.sub.trans (List.sublist_cons_self _ _),ih.sub.left⟩,⟨i2.1,by show _≤left;omega⟩,by show _+_+_=left;omega,?_,λt ht=>?_,λg hg=>?_⟩
     ·show(List.map _ (_::_)).sum=_
      rw[List.map_cons,List.sum_cons,ih.qty]
     ·rcases List.mem_cons.1 ht with rfl|ht
      ·exact⟨hb.1,hb.2,h2,b,List.mem_cons_self,rfl,rfl,rfl,Int.le_refl _,hc⟩
      ·obtain⟨t1,t2,t3,b',hb',t4⟩:=ih.tr t ht
       exact⟨t1,t2,t3,b',List.mem_cons_of_mem _ hb',t4⟩
     ·obtain⟨b',hb',t4⟩:=ih.gone g hg
      exact⟨b',List.mem_cons_of_mem _ hb',t4⟩
def BkMay(B:Bk):Prop:=∀d,∀o∈B d,o.may=true∧o.buy=d
theorem sdIns_perm(buy:Bool)(l:List Od)(o:Od):(sdIns buy l o).Perm (o::l):=by
 unfold sdIns
 refine List.perm_middle.trans ?_
 rw[List.take_append_drop]
theorem sdAdd_cases{buy:Bool}{l:List Od}{o:Od}(hm:o.may=true)(hb:o.buy=buy):
  ((sdAdd buy l o).2=l∧(sdAdd buy l o).1≠0)∨((sdAdd buy l o).2.Perm (o::l)∧l.length<100∧(∀x∈l,x.num≠o.num)∧(sdAdd buy l o).2=sdIns buy l o):=by
 unfold sdAdd
 rw[if_neg (by simp[hm,hb])]
 by_cases h1:(l.any λx=>decide (x.num=o.num))=true
 ·rw[if_pos h1];exact .inl ⟨rfl,by simp⟩
 ·rw[if_neg h1]
  by_cases h2:100≤l.length
  ·rw[if_pos h2];exact .inl ⟨rfl,by simp⟩
  ·rw[if_neg h2]
   refine .inr ⟨sdIns_perm _ _ _,by omega,λx hx he=>h1 ?_,rfl⟩
   rw[List.any_eq_true]
   exact⟨x,hx,decide_eq_true he⟩
structure ComeOk(B:Bk)(o:Od)(x:Bk×Pm):Prop where
 opp:SubL (x.1 (!o.buy)) (B !o.buy)
 own:x.1 o.buy=B o.buy∨(0<x.2.left∧x.1 o.buy=sdIns o.buy (B o.buy) {o with left:=x.2.left}∧(B o.buy).length<100∧∀y∈B o.buy,y.num≠o.num)
 fill:0≤x.2.left∧0≤x.2.filled∧x.2.filled+x.2.left≤o.left
 qty:(x.2.trades.map (·.qty)).sum=x.2.filled
 tr:∀t∈x.2.trades,1≤t.qty∧t.qty≤1000000∧t.acct≠o.acct∧∃b∈B !o.buy,b.num=t.num∧b.acct=t.acct∧b.price=t.price∧t.qty≤b.left∧crossB o b.price=true
theorem Bk.set_ne(B:Bk){d e:Bool}(l:List Od)(h:e≠d):B.set d l e=B e:=if_neg h
theorem come_ok{B:Bk}{o:Od}{rests:Bool}(hB:BkMay B)(ho:o.may=true):ComeOk B o (bkCome B o rests):=by
 have hl:=may_left ho
 have hm:=meet_ok (o:=o) (L:=B !o.buy) (left:=o.left) (by omega) λb hb=>(hB _ b hb).1
 obtain⟨x,hx⟩:∃x,x=meetL o o.left (B !o.buy):=⟨_,rfl⟩
 rw[←hx]at hm
 have m2:=hm.rest
 have m3:=hm.fill
 have hq:0≤x.2.2.2.2:=by omega
 have hne:o.buy≠ !o.buy:=by cases o.buy<;>simp
 unfold bkCome
 simp only[←hx]
 by_cases hr:rests=true∧0<x.1
 ·rw[if_pos hr]
  have h1:=may_key (o:=o) (o' :={o with left:=x.1}) rfl ho (by show 1≤x.1∧x.1≤1000000;omega)
  refine⟨?_,?_,by show 0≤x.1∧0≤x.2.2.2.2∧x.2.2.2.2+x.1≤o.left;omega,hm.qty,hm.tr⟩
  ·show SubL (Bk.set _ _ _ _) _
   rw[Bk.set_other,Bk.set_self];exact hm.sub
  ·show Bk.set _ _ _ _=_∨(0<x.1∧Bk.set _ _ _ _=sdIns _ _ {o with left:=x.1}∧_)
   rw[Bk.set_self,Bk.set_ne _ _ hne]
   rcases sdAdd_cases (l:=B o.buy) (buy:=o.buy) h1 rfl with⟨h2,-⟩|⟨h2,h3,h4,h5⟩
   ·exact .inl h2
   ·exact .inr ⟨hr.2,h5,h3,h4⟩
 ·rw[if_neg hr]
  refine⟨?_,.inl ?_,by show(0:Int)≤0∧0≤x.2.2.2.2∧x.2.2.2.2+0≤o.left;omega,hm.qty,hm.tr⟩
  ·show SubL (Bk.set _ _ _ _) _
   rw[Bk.set_self];exact hm.sub
  ·show Bk.set _ _ _ _=_
   rw[Bk.set_ne _ _ hne]
theorem mem_all{B:Bk}{o:Od}:o∈B.all↔∃d,o∈B d:=by
 unfold Bk.all
 rw[List.mem_append]
 constructor
 ·rintro(h|h)
  ·exact⟨true,h⟩
  ·exact⟨false,h⟩
 ·rintro⟨d,h⟩
  cases d
  ·exact .inr h
  ·exact .inl h
end Go.Proofs

namespace Go.Proofs
open Go Go.Vc
def sumF(g:Po→Int)(l:List Po):Int:=(l.map g).sum
def gq(c:Int)(p:Po):Int:=if p.c=c then p.q else 0
def gb(c:Int)(p:Po):Int:=if p.c=c then p.b else 0
def Led.Zero(S:Led):Prop:=∀c,sumF (gq c) S.held=0∧sumF (gb c) S.held=0
theorem Led.empty_zero:Led.Zero ⟨0,[],[]⟩:=λc=>⟨rfl,rfl⟩
end Go.Proofs
namespace Go.Proofs
open Go
structure Cal.Ok(C:Cal):Prop where
 len:C.l.length≤16
 day:U32' C.day
 ok:∀k∈C.l,k.Ok
 srt:Rising C.l
def Ven.ords(S:Ven)(n:Int):List Od:=(S.bk n).all++S.bd n
def Led.Stands(L:Led)(a:Int):Prop:=∃x,L.find a=some x∧x.kil=false∧x.dfl=false
structure Ven.Std(S:Ven)(o:Od):Prop where
 may:o.may=true
 fit:o.Fit
 num:o.num<S.next
 acc:S.led.Stands o.acct
structure OkO(S:Ven):Prop where
 out:∀n,calAlive S.cal.l n≠0→S.ords n=[]
 side:∀n d,(S.bk n d).length≤100∧∀o∈S.bk n d,o.buy=d
 std:∀n,∀o∈S.ords n,S.Std o
 nd:∀n,((S.ords n).map (·.num)).Nodup
 apart:∀n m o o',o∈S.ords n→o' ∈S.ords m→o.num=o'.num→n=m
 bdl:∀n,(S.bd n).length≤50
structure OkL(C:Cal)(L:Led):Prop where
 led:L.Ok
 held:∀p∈L.held,calAlive C.l p.c=0
 zero:L.Zero
structure Ven.Ok(S:Ven):Prop where
 cal:S.cal.Ok
 led:OkL S.cal S.led
 ord:OkO S
 next:1≤S.next∧S.next≤maxNum+1
 fnd:S.led.funds≤MF
theorem mem_bk{S:Ven}{n:Int}{d:Bool}{o:Od}(h:o∈S.bk n d):o∈S.ords n:=List.mem_append_left _ (mem_all.2 ⟨d,h⟩)
theorem mem_bd{S:Ven}{n:Int}{o:Od}(h:o∈S.bd n):o∈S.ords n:=List.mem_append_right _ h
theorem mem_ords{S:Ven}{n:Int}{o:Od}(h:o∈S.ords n):(∃d,o∈S.bk n d)∨o∈S.bd n:=(List.mem_append.1 h).imp mem_all.1 id
theorem OkO.bkMay{S:Ven}(h:OkO S)(n:Int):BkMay (S.bk n):=λd o ho=>⟨(h.std n o (mem_bk ho)).may,(h.side n d).2 o ho⟩
theorem OkO.bdMay{S:Ven}(h:OkO S)(n:Int):∀o∈S.bd n,o.may=true:=λo ho=>(h.std n o (mem_bd ho)).may
theorem nodup_sub3{a a' b b' c c' :List Int}(ha:a'.Sublist a)(hb:b'.Sublist b)(hc:c'.Sublist c)(h:(a++b++c).Nodup):(a' ++b' ++c').Nodup:=h.sublist ((ha.append hb).append hc)
theorem ords_map(S:Ven)(n:Int):(S.ords n).map (·.num)=(S.bk n true).map (·.num)++(S.bk n false).map (·.num)++(S.bd n).map (·.num):=by
 unfold Ven.ords Bk.all;rw[List.map_append,List.map_append]
theorem fit_key{o o' :Od}(h:o.key=o'.key)(hf:o.Fit)(hl:1≤o'.left∧o'.left≤1000000):o'.Fit:=by
 unfold Od.Fit at*
 rw[←key_num h,←key_acct h,←key_price h]
 exact⟨hf.1,hf.2.1,hf.2.2.1,by constructor<;>omega⟩
theorem OkO.addBk{S:Ven}(h:OkO S){n:Int}{x:Od}{B:Bk}{nx:Int}(hal:calAlive S.cal.l n=0)(hm:x.may=true)(hf:x.Fit)(hx:x.num<nx)(hst:S.led.Stands x.acct)(hfr:∀m,∀o∈S.ords m,o.num≠x.num)
  (opp:SubL (B !x.buy) (S.bk n !x.buy))(own:B x.buy=S.bk n x.buy∨((B x.buy).Perm (x::S.bk n x.buy)∧(S.bk n x.buy).length<100))(hnx:S.next≤nx):OkO {S with bk:=upd S.bk n B,next:=nx}:=by
 have hmay:=h.bkMay
 have hbdm:=h.bdMay
 have back:∀m,∀o∈({S with bk:=upd S.bk n B,next:=nx}:Ven).ords m,(∃o0∈S.ords m,o0.key=o.key∧1≤o.left∧o.left≤1000000)∨(o=x∧m=n):=by
  intro m o ho
  by_cases hmn:m=n
  ·subst hmn
   rcases mem_ords ho with⟨d,h1⟩|h1
   ·replace h1:o∈upd S.bk m B m d:=h1
    rw[upd_self]at h1
    by_cases hd:d=x.buy
    ·subst hd
     rcases own with h2|⟨h2,-⟩
     ·rw[h2]at h1;exact .inl ⟨o,mem_bk h1,rfl,may_left (hmay m _ o h1).1⟩
     ·rcases List.mem_cons.1 (h2.mem_iff.1 h1)with rfl|h3
      ·exact .inr ⟨rfl,rfl⟩
      ·exact .inl ⟨o,mem_bk h3,rfl,may_left (hmay m _ o h3).1⟩
    ·obtain rfl:d= !x.buy:=by cases d<;>cases hx:x.buy<;>simp_all
     obtain⟨o0,h3,h4⟩:=opp.mem h1
     exact .inl ⟨o0,mem_bk h3,h4,opp.left o h1⟩
   ·exact .inl ⟨o,mem_bd h1,rfl,may_left (hbdm m o h1)⟩
  ·have:o∈S.ords m:=by
    have e:({S with bk:=upd S.bk n B,next:=nx}:Ven).ords m=S.ords m:=by
     show(upd S.bk n B m).all++S.bd m=_
     rw[upd_ne _ _ _ hmn];rfl
    rwa[e]at ho
   exact .inl ⟨o,this,rfl,may_left (h.std m o this).may⟩
 have hsid:∀d,((B d).map (·.num)).Sublist ((S.bk n d).map (·.num))∨(d=x.buy∧((B d).map (·.num)).Perm (x.num::(S.bk n d).map (·.num))):=λd=>by
  by_cases hd:d=x.buy
  ·subst hd
   rcases own with h2|⟨h2,-⟩
   ·rw[h2];exact .inl (List.Sublist.refl _)
   ·exact .inr ⟨rfl,h2.map _⟩
  ·obtain rfl:d= !x.buy:=by cases d<;>cases hx:x.buy<;>simp_all
   exact .inl opp.nums
 refine⟨λm hm' =>?_,λm d=>?_,λm o ho=>?_,λm=>?_,λm1 m2 o o' ho ho' he=>?_,h.bdl⟩
 ·have hmn:m≠n:=λe=>by subst e;exact hm' hal
  show(upd S.bk n B m).all++S.bd m=[]
  rw[upd_ne _ _ _ hmn];exact h.out m hm'
 ·show(upd S.bk n B m d).length≤100∧∀o∈upd S.bk n B m d,_
  by_cases hmn:m=n
  ·subst hmn
   rw[upd_self]
   by_cases hd:d=x.buy
   ·subst hd
    rcases own with h2|⟨h2,h3⟩
    ·rw[h2];exact h.side m _
    ·refine⟨by have:=h2.length_eq;rw[List.length_cons]at this;omega,λo ho=>?_⟩
     rcases List.mem_cons.1 (h2.mem_iff.1 ho)with rfl|h4
     ·rfl
     ·exact(h.side m _).2 o h4
   ·obtain rfl:d= !x.buy:=by cases d<;>cases hx:x.buy<;>simp_all
    refine⟨Nat.le_trans opp.len (h.side m _).1,λo ho=>?_⟩
    obtain⟨o0,h3,h4⟩:=opp.mem ho
    rw[←key_buy h4];exact(h.side m _).2 o0 h3
  ·rw[upd_ne _ _ _ hmn];exact h.side m d
 ·rcases back m o ho with⟨o0,h2,h3,h4⟩|⟨rfl,rfl⟩
  ·have hs:=h.std m o0 h2
   exact⟨may_key h3 hs.may h4,fit_key h3 hs.fit h4,by rw[←key_num h3];exact Int.lt_of_lt_of_le hs.num hnx,by rw[←key_acct h3];exact hs.acc⟩
  ·exact⟨hm,hf,hx,hst⟩
 ·by_cases hmn:m=n
  ·subst hmn
   rw[ords_map]
   show(List.map _ (upd S.bk m B m true)++List.map _ (upd S.bk m B m false)++List.map _ (S.bd m)).Nodup
   rw[upd_self]
   have h0:=h.nd m
   have hfn:x.num ∉ (S.ords m).map (·.num):=λhc=>by
    obtain⟨o,ho,he⟩:=List.mem_map.1 hc
    exact hfr m o ho he
   rw[ords_map]at h0 hfn
   have h1:(x.num::((S.bk m true).map (·.num)++(S.bk m false).map (·.num)++(S.bd m).map (·.num))).Nodup:=List.nodup_cons.2 ⟨hfn,h0⟩
   rcases hsid true with ht|⟨et,ht⟩
   ·rcases hsid false with hF|⟨ef,hF⟩
    ·exact nodup_sub3 ht hF (List.Sublist.refl _) h0
    ·have hp:((S.bk m true).map (·.num)++(B false).map (·.num)++(S.bd m).map (·.num)).Perm (x.num::((S.bk m true).map (·.num)++(S.bk m false).map (·.num)++(S.bd m).map (·.num))):=by
      refine((List.Perm.append_left _ hF).append_right _).trans ?_
      rw[List.append_assoc,List.append_assoc]
      exact List.perm_middle
     exact nodup_sub3 ht (List.Sublist.refl _) (List.Sublist.refl _) (hp.nodup_iff.2 h1)
   ·rcases hsid false with hF|⟨ef,hF⟩
    ·have hp:((B true).map (·.num)++(S.bk m false).map (·.num)++(S.bd m).map (·.num)).Perm (x.num::((S.bk m true).map (·.num)++(S.bk m false).map (·.num)++(S.bd m).map (·.num))):=
      (ht.append_right _).append_right _
     exact nodup_sub3 (List.Sublist.refl _) hF (List.Sublist.refl _) (hp.nodup_iff.2 h1)
    ·rw[←ef]at et;cases et
  ·show(((upd S.bk n B m).all++S.bd m).map (·.num)).Nodup
   rw[upd_ne _ _ _ hmn];exact h.nd m
 ·rcases back m1 o ho with⟨a,h2,h3,-⟩|⟨rfl,rfl⟩
  ·rcases back m2 o' ho' with⟨b,h4,h5,-⟩|⟨rfl,rfl⟩
   ·exact h.apart _ _ a b h2 h4 (by rw[key_num h3,key_num h5];exact he)
   ·exact absurd ((key_num h3).trans he) (hfr _ a h2)
  ·rcases back m2 o' ho' with⟨b,h4,h5,-⟩|⟨rfl,rfl⟩
   ·exact absurd ((key_num h5).trans he.symm) (hfr _ b h4)
   ·rfl
theorem OkO.addBd{S:Ven}(h:OkO S){n:Int}{x:Od}{nx:Int}(hal:calAlive S.cal.l n=0)(hm:x.may=true)(hf:x.Fit)(hx:x.num<nx)(hst:S.led.Stands x.acct)(hfr:∀m,∀o∈S.ords m,o.num≠x.num)
  (hl:(S.bd n).length<50)(hnx:S.next≤nx):OkO {S with bd:=upd S.bd n (S.bd n++[x]),next:=nx}:=by
 have back:∀m,∀o∈({S with bd:=upd S.bd n (S.bd n++[x]),next:=nx}:Ven).ords m,o∈S.ords m∨(o=x∧m=n):=by
  intro m o ho
  by_cases hmn:m=n
  ·subst hmn
   rcases mem_ords ho with⟨d,h1⟩|h1
   ·exact .inl (mem_bk h1)
   ·replace h1:o∈upd S.bd m (S.bd m++[x]) m:=h1
    rw[upd_self]at h1
    rcases List.mem_append.1 h1 with h2|h2
    ·exact .inl (mem_bd h2)
    ·exact .inr ⟨List.mem_singleton.1 h2,rfl⟩
  ·left
   have e:({S with bd:=upd S.bd n (S.bd n++[x]),next:=nx}:Ven).ords m=S.ords m:=by
    show(S.bk m).all++upd S.bd n _ m=_
    rw[upd_ne _ _ _ hmn];rfl
   rwa[e]at ho
 refine⟨λm hm' =>?_,h.side,λm o ho=>?_,λm=>?_,λm1 m2 o o' ho ho' he=>?_,λm=>?_⟩
 ·have hmn:m≠n:=λe=>by subst e;exact hm' hal
  show(S.bk m).all++upd S.bd n _ m=[]
  rw[upd_ne _ _ _ hmn];exact h.out m hm'
 ·rcases back m o ho with h2|⟨rfl,rfl⟩
  ·have hs:=h.std m o h2
   exact⟨hs.may,hs.fit,Int.lt_of_lt_of_le hs.num hnx,hs.acc⟩
  ·exact⟨hm,hf,hx,hst⟩
 ·by_cases hmn:m=n
  ·subst hmn
   show(((S.bk m).all++upd S.bd m _ m).map (·.num)).Nodup
   rw[upd_self,←List.append_assoc,List.map_append,List.nodup_append]
   refine⟨h.nd m,by simp,λa ha b hb=>?_⟩
   obtain⟨o,ho,rfl⟩:=List.mem_map.1 ha
   rw[List.map_cons,List.map_nil,List.mem_singleton]at hb
   rw[hb];exact hfr m o ho
  ·show(((S.bk m).all++upd S.bd n _ m).map (·.num)).Nodup
   rw[upd_ne _ _ _ hmn];exact h.nd m
 ·rcases back m1 o ho with h2|⟨rfl,rfl⟩
  ·rcases back m2 o' ho' with h4|⟨rfl,rfl⟩
   ·exact h.apart _ _ o o' h2 h4 he
   ·exact absurd he (hfr _ o h2)
  ·rcases back m2 o' ho' with h4|⟨rfl,rfl⟩
   ·exact absurd he.symm (hfr _ o' h4)
   ·rfl
 ·show(upd S.bd n _ m).length≤50
  by_cases hmn:m=n
  ·subst hmn;rw[upd_self,List.length_append];show(S.bd m).length+1≤50;omega
  ·rw[upd_ne _ _ _ hmn];exact h.bdl m
end Go.Proofs

namespace Go.Proofs
open Go
theorem alive_get{l:List Ct}{n:Int}(h:calAlive l n=0):∃k,calGet l n=some k∧k.st≠3∧k.spec.num=n∧k∈l:=by
 unfold calAlive at h
 cases hg:calGet l n with
 |none=>rw[hg]at h;cases h
 |some k=>
  rw[hg]at h
  refine⟨k,rfl,λh3=>?_,by simpa using List.find?_some hg,calGet_mem hg⟩
  simp only at h
  rw[if_pos h3]at h;cases h
theorem fit_left{o:Od}(h:o.Fit){x:Int}(hx:0≤x∧x≤1000000):({o with left:=x}:Od).Fit:=⟨h.1,h.2.1,h.2.2.1,by constructor<;>show _<;>simp only<;>omega⟩
theorem come_addBk{S:Ven}(h:OkO S){n:Int}{o:Od}{rests:Bool}{nx:Int}(hal:calAlive S.cal.l n=0)(hm:o.may=true)(hf:o.Fit)(hx:o.num<nx)(hst:S.led.Stands o.acct)(hfr:∀m,∀y∈S.ords m,y.num≠o.num)(hnx:S.next≤nx):
  OkO {S with bk:=upd S.bk n (bkCome (S.bk n) o rests).1,next:=nx}:=by
 have hc:=come_ok (B:=S.bk n) (o:=o) (rests:=rests) (h.bkMay n) hm
 have hl:=may_left hm
 rcases hc.own with h1|⟨h1,h2,h3,h4⟩
 ·exact h.addBk hal hm hf hx hst hfr hc.opp (.inl h1) hnx
 ·have hf2:=hc.fill
  refine h.addBk (x:={o with left:=(bkCome (S.bk n) o rests).2.left}) hal (may_key (o:=o) rfl hm ⟨h1,?_⟩) (fit_left hf ?_) hx hst hfr hc.opp (.inr ⟨?_,h3⟩) hnx
  ·show(bkCome (S.bk n) o rests).2.left≤1000000
   omega
  ·omega
  ·show List.Perm ((bkCome (S.bk n) o rests).1 o.buy) _
   rw[h2];exact sdIns_perm _ _ _
theorem place_0{B:Bk}{o:Od}{k:Int}(h:(bkPlace B o k).1=0):bkPlace B o k=(0,bkCome B o (decide (k=1∨k=4)))∧o.may=true∧1≤k∧k≤4:=by
 unfold bkPlace at h⊢
 split at h
 ·cases h
 ·rename_i h1
  rw[if_neg h1]
  split at h
  ·cases h
  ·rename_i h2
   rw[if_neg h2]
   split at h
   ·cases h
   ·rename_i h3
    rw[if_neg h3]
    split at h
    ·cases h
    ·rename_i h4
     rw[if_neg h4]
     split at h
     ·cases h
     ·rename_i h5
      rw[if_neg h5]
      simp only[not_or]at h1
      exact⟨rfl,by simpa using h1.1,by omega,by omega⟩
end Go.Proofs



namespace Go.Proofs
open Go
theorem empty_ok:Ven.empty.Ok:=by
 refine⟨⟨by show(0:Nat)≤16;omega,⟨by show(0:Int)≤0;omega,by show(0:Int)<4294967296;omega⟩,λk hk=>(by cases hk),List.Pairwise.nil⟩,⟨⟨⟨by show(0:Int)≤0;omega,by show(0:Int)≤MF;unfold MF;omega⟩,List.Pairwise.nil,List.Pairwise.nil,by show(0:Nat)≤64;omega,λa ha=>(by cases ha),λp hp=>(by cases hp)⟩,λp hp=>(by cases hp),Led.empty_zero⟩,
  ⟨λn _=>rfl,λn d=>⟨by show(0:Nat)≤100;omega,λo ho=>(by cases ho)⟩,λn o ho=>(by cases ho),λn=>List.nodup_nil,λn m o o' ho=>(by cases ho),λn=>(by show(0:Nat)≤50;omega)⟩,⟨by show(1:Int)≤1;omega,by show(1:Int)≤maxNum+1;unfold maxNum;omega⟩,by show(0+(0:Int))≤MF;unfold MF;omega⟩
end Go.Proofs

