/- Part of a proof. -/
import Derived.Test.YtgebhcgmckjbbaaGreatO6
set_option linter.all false
namespace Go.Proofs
open Go Go.Vc
theorem loopK{S:Type}{body:S→World→(S→World→Prop)→Prop}{s:S}{w:World}(I:S→World→Prop)(m:S→World→Nat)(h0:I s w)
  (h:∀s w,I s w→∀KN:S→World→Prop,(∀s' w',I s' w' →m s' w' <m s w→KN s' w')→body s w KN):LoopW body s w:=
 ⟨⟨I,m,h0,λs w hi=>h s w hi _ λ_ _ h1 h2=>⟨h1,h2⟩⟩⟩
def lptr(l:Nat):Value:=.pointer (some ⟨l,0,none⟩)
def cellsAc(a:Ac):List Value:=[.int .u32 a.num,.int .i64 a.cash,.bool a.kil,.bool a.dfl]
def acV(a:Ac):Value:=.agg #[.int .u32 a.num,.int .i64 a.cash,.bool a.kil,.bool a.dfl]
def cellsPo(p:Po):List Value:=[.int .u32 p.c,.int .u32 p.a,.int .i64 p.q,.int .i64 p.b]
def poV(p:Po):Value:=.agg #[.int .u32 p.c,.int .u32 p.a,.int .i64 p.q,.int .i64 p.b]
def encU(n:Int):Value:=.int .u32 n
def encKey(k:Int×Int):Value:=.agg #[.int .u32 k.1,.int .u32 k.2]
theorem uU32:Tryz.prog.underlying 35=some (.int .u32):=by kernel_rfl
theorem kU32:KeyT Tryz.prog 35 encU:=KeyT.int uU32
theorem uKey:Tryz.prog.underlying 224=some (.struct (Tryz.prog.fieldsOf 224)):=by kernel_rfl
theorem fKey:Tryz.prog.fieldsOf 224= #[{name:= "contract",type:=35,offset:=0,embedded:=false,tag:= "",pkgPath:= "broadside/ledger",byteOffset:=0},{name:= "account",type:=35,offset:=1,embedded:=false,tag:= "",pkgPath:= "broadside/ledger",byteOffset:=4}]:=by kernel_rfl
theorem ckU32(b:Bool)(n:Nat)(k:IntKind)(f:Int)(w:World):(Instr.checkKey b (n+1) 35 (.int k f)).run Tryz.prog w=.ok () w:=by
 unfold Instr.checkKey
 simp[go_sem]
theorem eqKey(w:World)(x y:Int×Int):(Op.equal 224 (encKey x) (encKey y)).run Tryz.prog w=.ok (decide (x=y)) w:=by
 have h:Tryz.prog.stoodInHeld 224=false:=by kernel_rfl
 obtain⟨f,a⟩:=x
 obtain⟨f',a'⟩:=y
 unfold Op.equal Op.maxDepth encKey
 rw[run_equalIn_struct w 9999 224 _ _ uKey h,fKey]
 have e1:∀(x y:Int) (w:World),(Op.equalIn 9999 35 (.int .u32 x) (.int .u32 y)).run Tryz.prog w=.ok (x==y) w:=λx y w=>run_equalIn_int w 9998 35 .u32 .u32 x y (by kernel_rfl)
 simp[Op.eqFields,part,isAgg,go_sem,e1]
 by_cases h1:f=f' <;>by_cases h2:a=a' <;>simp_all
theorem ckKey(w:World)(b:Bool)(x:Int×Int):(Instr.checkKey b 10000 224 (encKey x)).run Tryz.prog w=.ok () w:=by
 obtain⟨f,a⟩:=x
 unfold Instr.checkKey encKey
 have e1:∀(x:Int) (w:World),(Instr.checkKey b 9999 35 (.int .u32 x)).run Tryz.prog w=.ok () w:=λx w=>ckU32 b 9998 .u32 x w
 simp[go_sem,uKey,fKey,e1]
theorem kKey:KeyT Tryz.prog 224 encKey:=
 KeyT.asking uKey (λx y=>rfl) eqKey ckKey (λx=>by simp[encKey,Instr.sameBits])
theorem uMapA:Tryz.prog.underlying 198=some (.map 35 92):=by kernel_rfl
theorem uMapP:Tryz.prog.underlying 199=some (.map 224 112):=by kernel_rfl
theorem zAc:zeroOfT Tryz.prog 92=some (acV ⟨0,0,false,false⟩):=by kernel_rfl
structure LedQ(w:World)(l:Nat)(F:Nat→Prop)(S:Led):Prop where
 out:∃m1 m2 A B,hp w l=some (.cells #[.map (some m1),.map (some m2)] 201 (0,0))∧MapAt encU acV w m1 A∧MapAt encKey poV w m2 B∧A.Perm S.accs∧B.Perm S.poss∧
  (∀b,F b↔b=l∨b=m1∨b=m2)∧l≠m1∧l≠m2∧m1≠m2
 ok:S.Ok
theorem LedQ.mod{F G:Nat→Prop}{w w' :World}{l:Nat}{S:Led}(h:LedQ w l F S)(hm:Mod G w w')(hd:∀b,F b→¬G b):LedQ w' l F S:=by
 obtain⟨⟨m1,m2,A,B,h1,h2,h3,h4,h5,h6,h7⟩,hok⟩:=h
 exact⟨⟨m1,m2,A,B,hm.keep h1 (hd l ((h6 l).2 (.inl rfl))),h2.mod hm (hd m1 ((h6 m1).2 (.inr (.inl rfl)))),h3.mod hm (hd m2 ((h6 m2).2 (.inr (.inr rfl)))),h4,h5,h6,h7⟩,hok⟩
theorem LedQ.lt{F:Nat→Prop}{w:World}{l:Nat}{S:Led}(h:LedQ w l F S){b:Nat}(hb:F b):b<w.heap.size:=by
 obtain⟨⟨m1,m2,A,B,h1,h2,h3,h4,h5,h6,h7⟩,hok⟩:=h
 rcases(h6 b).1 hb with rfl|rfl|rfl
 ·exact lt_of_heap h1
 ·exact h2.lt
 ·exact h3.lt
theorem ca_within{n lo hi:Int}{w:World}{K:Kont}(hK:K (.bool (amongB n lo hi)) w):Ca Tryz.prog 194 #[.int .i64 n,.int .i64 lo,.int .i64 hi] w K:=by
 apply ca194
 unfold F194
 simp[go_sem]
 unfold amongB at hK
 split
 ·rename_i h
  have e:decide (lo≤n∧n≤hi)=decide (n≤hi):=by rw[decide_eq_decide];omega
  rw[←e];exact hK
 ·rename_i h
  have e:decide (lo≤n∧n≤hi)=false:=by rw[decide_eq_false_iff_not];omega
  rw[e]at hK;exact hK
theorem ca_ready{w:World}{l:Nat}{F:Nat→Prop}{S:Led}{K:Kont}(h:LedQ w l F S)(hK:K (.bool true) w):Ca Tryz.prog 136 #[lptr l] w K:=by
 obtain⟨⟨m1,m2,A,B,h1,h2,h3,h4,h5,h6,h7⟩,hok⟩:=h
 apply ca136
 unfold F136
 simp[go_sem,lptr,h1]
 exact hK
theorem ca_funds{w:World}{l:Nat}{F:Nat→Prop}{S:Led}{K:Kont}(h:LedQ w l F S)(hK:∀w',Mod (λ_=>False) w w' →K (.int .i64 S.funds) w'):Ca Tryz.prog 195 #[lptr l] w K:=by
 have h0:=h
 obtain⟨⟨m1,m2,A,B,h1,h2,h3,h4,h5,h6,h7⟩,hok⟩:=h
 apply ca195
 unfold F195
 refine ca_ready h0 ?_
 simp[go_sem,lptr,h1]
 refine rx_range uMapA h2 λw1 it1 mod1=>?_
 generalize hg:w.heap.size=it at it1
 refine loopK (λs W=>∃(x:Int) (rest:List (Int×Ac)),s=(.int .i64 x,())∧MapIt encU acV W it m1 rest∧Mod (λ_=>False) w W∧x+(rest.map (·.2.cash)).sum=S.funds∧0≤x∧∀p∈rest,0≤p.2.cash)
  (λs W=>itLeft it m1 W) ?_ ?_
 ·refine⟨0,A,rfl,it1,mod1,?_,by omega,λp hp=>?_⟩
  ·rw[perm_sum (h4.map (·.2.cash))]
   simp[Led.accs,fundAc,Led.funds,Function.comp_def]
  ·have:=h4.mem_iff.1 hp
   simp only[Led.accs,List.mem_cons,List.mem_map]at this
   rcases this with rfl|⟨a,ha,rfl⟩
   ·exact hok.fund.1
   ·exact(hok.acc a ha).2.2.1
 ·rintro⟨_,_⟩ W ⟨x,rest,⟨⟩,itW,mW,hs,hx0,hr⟩ KN hKN
  unfold L195_0
  intro _
  refine rx_next itW ?_ ?_
  ·intro h0 w' m' _
   subst h0
   have:x=S.funds:=by simpa using hs
   simp[go_sem]
   rw[this]
   exact hK _ (mW.trans m')
  ·intro i p hi w' it' cur' m' hsz
   simp[go_sem]
   refine rx_entry cur' ?_
   simp[go_sem,acV]
   have hpe:=perm_eraseIdx hi
   have e1:p.2.cash+((rest.eraseIdx i).map (·.2.cash)).sum=(rest.map (·.2.cash)).sum:=by
    rw[perm_sum (hpe.map (·.2.cash))];simp
   have hp0:=hr p (List.mem_of_getElem? hi)
   have hr' :∀q∈rest.eraseIdx i,0≤q.2.cash:=λq hq=>hr q (List.mem_of_mem_eraseIdx hq)
   have hpos:0≤((rest.eraseIdx i).map (·.2.cash)).sum:=by
    clear hpe e1 hi it' hKN
    generalize rest.eraseIdx i=l at hr'
    induction l with
    |nil=>simp
    |cons q l ih=>
     have:=hr' q List.mem_cons_self
     have:=ih λy hy=>hr' y (List.mem_cons_of_mem _ hy)
     simp only[List.map_cons,List.sum_cons];omega
   have hfs:=hok.funds.2
   have hwr:IntKind.i64.wrap (x+p.2.cash)=x+p.2.cash:=by
    rw[IntKind.wrap_i64];simp only[MF]at hfs;omega
   rw[hwr]
   have mA:∀o,Mod (λ_=>False) w (w'.alloc o):=λo=>(mW.on m' λb hb=>.inr (by subst hb;omega)).alloc o
   have itA:∀o,MapIt encU acV (w'.alloc o) it m1 (rest.eraseIdx i):=λo=>it'.mod ((Mod.refl (λ_=>False) w').alloc o) id id
   refine hKN _ _ ⟨_,_,rfl,itA _,mA _,by omega,by omega,hr'⟩ ?_
   rw[(itA _).left,itW.left,List.length_eraseIdx]
   have:i<rest.length:=(List.getElem?_eq_some_iff.1 hi).1
   rw[if_pos this];omega
theorem elim_acV(o:Option Ac):o.elim (acV ⟨0,0,false,false⟩) acV=acV (o.getD ⟨0,0,false,false⟩):=by cases o<;>rfl
theorem LedQ.lkA{A:List (Int×Ac)}{S:Led}{w:World}{m1:Nat}(h2:MapAt encU acV w m1 A)(h4:A.Perm S.accs)(n:Int):lk A n=S.getO n:=by
 rw[lk_perm h2.1 h4,S.lk_accs]
theorem LedQ.lkP{B:List ((Int×Int)×Po)}{S:Led}{w:World}{m2:Nat}(h3:MapAt encKey poV w m2 B)(h5:B.Perm S.poss)(k:Int×Int):lk B k=S.pos? k:=by
 rw[lk_perm h3.1 h5,S.lk_poss]
theorem LedQ.putA{w w' :World}{l m1 m2:Nat}{F:Nat→Prop}{S:Led}{A:List (Int×Ac)}{B:List ((Int×Int)×Po)}(h1:hp w l=some (.cells #[.map (some m1),.map (some m2)] 201 (0,0)))
  (h2:MapAt encU acV w m1 A)(h3:MapAt encKey poV w m2 B)(h4:A.Perm S.accs)(h5:B.Perm S.poss)(h6:∀b,F b↔b=l∨b=m1∨b=m2)(h7:l≠m1∧l≠m2∧m1≠m2)(hok:S.Ok)(a:Ac)
  (ha:a.num=0→a=fundAc a.cash)(hok' :(S.putA a).Ok)(hA:MapAt encU acV w' m1 (put A a.num a))(hm:Mod (λb=>b=m1) w w'):LedQ w' l F (S.putA a):=by
 refine⟨⟨m1,m2,_,B,hm.keep h1 h7.1,hA,h3.mod hm (λe=>h7.2.2 e.symm),hok.put_accs h2.1 h4 a ha,?_,h6,h7⟩,hok'⟩
 rw[show(S.putA a).poss=S.poss by unfold Led.putA;split<;>rfl]
 exact h5
theorem ca_deposit{w:World}{l:Nat}{F:Nat→Prop}{S:Led}{K:Kont}{n m:Int}(h:LedQ w l F S)(hn:0≤n∧n<4294967296)
  (hK:∀w',LedQ w' l F (S.deposit n m).2→Mod F w w' →K (.int .i64 (S.deposit n m).1) w'):Ca Tryz.prog 112 #[lptr l,.int .u32 n,.int .i64 m] w K:=by
 have h0:=h
 obtain⟨⟨m1,m2,A,B,h1,h2,h3,h4,h5,h6,h7⟩,hok⟩:=h
 apply ca112
 unfold F112
 refine ca_ready h0 ?_
 simp[go_sem,lptr,h1]
 refine rx_look2 (enc:=encU) (ev:=acV) (x:=n) (acV ⟨0,0,false,false⟩) uMapA kU32 zAc (.inr ⟨m1,rfl,h2⟩) ?_
 rw[elim_acV,LedQ.lkA h2 h4]
 generalize hb:(S.getO n).getD ⟨0,0,false,false⟩=a
 simp[go_sem,acV]
 refine ca_within ?_
 have hlt:=lt_of_heap h1
 have hM:amongB m 1 1000000000000000=amongB m 1 MF:=rfl
 rw[hM]
 have hMF:MF=1000000000000000:=rfl
 generalize hw1:w.alloc (.cells #[.int .u32 a.num,.int .i64 a.cash,.bool a.kil,.bool a.dfl] 92)=w1
 have m1' :Mod (λ_=>False) w w1:=by subst hw1;exact(Mod.refl _ w).alloc _
 have hloc:hp w1 w.heap.size=some (.cells #[.int .u32 a.num,.int .i64 a.cash,.bool a.kil,.bool a.dfl] 92 (0,0)):=by subst hw1;simp[go_sem]
 have h1w:=m1'.keep h1 id
 have h2w:=h2.mod m1' id
 have q1:=h0.mod m1' λ_ _ h=>h
 simp[go_sem,hp_of h1w,run_lenMap uMapA h2w,(show Tryz.prog.underlying 3=some (.int .i64)from by kernel_rfl)]
 have hlen:A.length=S.all.length+1:=by rw[h4.length_eq];simp[Led.accs]
 unfold Led.deposit at hK
 by_cases hm:amongB m 1 MF=true
 ·have hmr:1≤m∧m≤1000000000000000:=amongB_iff.1 hm
  rw[if_pos hm]at hK⊢
  refine JoinW.at (λs W=>s=(.bool (decide (S.getO n=none∧64≤S.all.length)),())∧W=w1) ?_ ?_
  ·split
   ·rename_i hg
    refine⟨?_,rfl⟩
    congr 2
    rw[decide_eq_decide]
    simp[hg,hlen];omega
   ·rename_i hg
    refine⟨?_,rfl⟩
    simp[hg]
  rintro _ W ⟨rfl,rfl⟩
  unfold J112_0
  intro _
  by_cases hf:S.getO n=none∧64≤S.all.length
  ·rw[if_pos hf]at hK
   simp only[decide_eq_true hf,ifB_bool,if_true]
   exact hK _ q1 (m1'.mono λ_ _ h=>h.elim)
  ·rw[if_neg hf]at hK
   simp only[decide_eq_false hf,ifB_bool,Bool.false_eq_true,if_false]
   refine ca_funds q1 λw2 m2' =>?_
   have hfr:=hok.funds
   have hloc2:=m2'.keep hloc id
   have h1x:=m2'.keep h1w id
   have h2x:=h2w.mod m2' id
   have h3x:=(h3.mod m1' id).mod m2' id
   have m12:=m1'.trans m2'
   have hwr:IntKind.i64.wrap (S.funds+m)=S.funds+m:=by rw[IntKind.wrap_i64];omega
   simp[go_sem,hwr,hp_of hloc2,hp_of h1x]
   by_cases ho:S.funds+m>MF
   ·rw[if_pos ho]at hK
    rw[if_pos (by omega)]
    exact hK _ (q1.mod m2' λ_ _ h=>h) (m12.mono λ_ _ h=>h.elim)
   ·rw[if_neg ho]at hK
    rw[if_neg (by omega)]
    rw[hb]at hK
    have hac:0≤a.cash∧a.cash≤MF∧(n=0→a.kil=false∧a.dfl=false):=by
     cases hg:S.getO n with
     |none=>
      rw[hg]at hb;subst hb
      exact⟨by simp,by simp[MF],λ_=>⟨rfl,rfl⟩⟩
     |some x=>
      rw[hg]at hb
      simp only[Option.getD_some]at hb
      subst hb
      obtain⟨g1,g2,g3,g4,g5,g6⟩:=hok.getO hg
      refine⟨g4,g5,λhn=>?_⟩
      have:=g6 (g1.trans hn)
      rw[this];exact⟨rfl,rfl⟩
    have hwr2:IntKind.i64.wrap (a.cash+m)=a.cash+m:=by rw[IntKind.wrap_i64];omega
    have hne:l≠w.heap.size:=by omega
    simp[go_sem,hwr2,hp_of hloc2,hp_of h1x,hne]
    generalize hw3:(w2.setCell ⟨w.heap.size,0,none⟩ (.int .u32 n)).setCell ⟨w.heap.size,1,none⟩ (.int .i64 (a.cash+m))=w3
    have m3:Mod (λb=>b=w.heap.size) w2 w3:=by subst hw3;exact((Mod.refl _ w2).setCell (by simp) _ _).setCell (by simp) _ _
    have m13:Mod (λ_=>False) w w3:=m12.on m3 λb hb=>.inr (by omega)
    let a' :Ac:={a with num:=n,cash:=a.cash+m}
    refine rux_mapUp (enc:=encU) (ev:=acV) (x:=n) (v:=a') uMapA kU32 ((h2.mod m13 id).mod ((Mod.refl (λ_=>False) w3).drew) id) λw4 hA m4 hs4=>?_
    have m4' :Mod (λb=>b=m1) w3 w4:=((Mod.refl _ w3).drew).trans m4
    have hcash:a.cash≤S.funds:=by
     cases hg:S.getO n with
     |none=>rw[hg]at hb;subst hb;exact hfr.1
     |some x=>
      rw[hg]at hb
      simp only[Option.getD_some]at hb
      subst hb
      exact hok.cash_le hg
    refine hK w4 (LedQ.putA (a:=a') (m13.keep h1 id) (h2.mod m13 id) (h3.mod m13 id) h4 h5 h6 h7 hok ?_ ?_ hA m4') ?_
    ·intro hn0
     have:=hac.2.2 hn0
     simp only[fundAc,a',this,Ac.mk.injEq,and_true,true_and]
     exact hn0
    ·refine hok.putA hn ⟨by simp only[a'];omega,by simp only[a'];omega⟩ ?_
     simp only[a']
     by_cases hn0:n=0
     ·exact .inr (.inr hn0)
     ·by_cases hg:S.getO n=none
      ·exact .inr (.inl (Nat.lt_of_not_le λh=>hf ⟨hg,h⟩))
      ·refine .inl ?_
       unfold Led.getO at hg
       rwa[if_neg hn0]at hg
    ·exact(m13.mono λ_ _ h=>h.elim).on m4' λb hb=>.inl ((h6 b).2 (.inr (.inl hb)))
 ·simp only[Bool.not_eq_true]at hm
  rw[if_neg (by simp[hm])]at hK
  rw[if_neg (by simp[hm])]
  exact hK _ q1 (m1'.mono λ_ _ h=>h.elim)
end Go.Proofs
namespace Go.Proofs
open Go Go.Vc
def Led.getV(S:Led)(n:Int):Ac×Int:=((S.getO n).getD ⟨0,0,false,false⟩,if S.getO n=none then 7 else 0)
theorem ca_get{w:World}{l:Nat}{F:Nat→Prop}{S:Led}{K:Kont}{n:Int}(h:LedQ w l F S)
  (hK:∀w',Mod (λ_=>False) w w' →K (.tuple #[acV (S.getV n).1,.int .i64 (S.getV n).2]) w'):Ca Tryz.prog 52 #[lptr l,.int .u32 n] w K:=by
 have h0:=h
 obtain⟨⟨m1,m2,A,B,h1,h2,h3,h4,h5,h6,h7⟩,hok⟩:=h
 have hlt:=lt_of_heap h1
 apply ca52
 unfold F52
 simp[go_sem]
 generalize hw1:w.alloc _=w1
 have m1' :Mod (λ_=>False) w w1:=by subst hw1;exact(Mod.refl _ w).alloc _
 have hloc:hp w1 w.heap.size=some (.cells #[.int .u32 0,.int .i64 0,.bool false,.bool false] 92 (0,0)):=by subst hw1;simp[go_sem]
 have q1:=h0.mod m1' λ_ _ h=>h
 refine ca_ready q1 ?_
 have h1w:=m1'.keep h1 id
 have h2w:=h2.mod m1' id
 simp[go_sem,lptr,hp_of h1w]
 refine rx_look2 (enc:=encU) (ev:=acV) (x:=n) (acV ⟨0,0,false,false⟩) uMapA kU32 zAc (.inr ⟨m1,rfl,h2w⟩) ?_
 rw[elim_acV,LedQ.lkA h2 h4]
 have hlt1:=lt_of_heap hloc
 have hne:w.heap.size≠w1.heap.size:=by omega
 unfold Led.getV at hK
 cases hg:S.getO n with
 |none=>
  rw[hg]at hK
  simp[go_sem,acV,hp_of hloc,hne]
  refine hK _ ?_
  exact((((m1'.alloc _).setCell (.inr (Nat.le_refl _)) _ _).setCell (.inr (Nat.le_refl _)) _ _).setCell (.inr (Nat.le_refl _)) _ _).setCell (.inr (Nat.le_refl _)) _ _
 |some x=>
  rw[hg]at hK
  simp[go_sem,acV,hp_of hloc,hne]
  refine hK _ ?_
  exact((((m1'.alloc _).setCell (.inr (Nat.le_refl _)) _ _).setCell (.inr (Nat.le_refl _)) _ _).setCell (.inr (Nat.le_refl _)) _ _).setCell (.inr (Nat.le_refl _)) _ _
end Go.Proofs
namespace Go.Proofs
open Go Go.Vc
theorem ca_size{a:Int}{w:World}{K:Kont}(ha: -9223372036854775808≤a∧a<9223372036854775808)(hK:K (.tuple #[.int .u64 (if a<0 then -a else a),.bool (decide (a<0))]) w):Ca Tryz.prog 221 #[.int .i64 a] w K:=by
 apply ca221
 unfold F221
 simp[go_sem]
 by_cases h:a<0
 ·rw[if_pos h]at hK⊢
  have e1:IntKind.u64.wrap a=a+18446744073709551616:=by
   simp[IntKind.wrap,IntKind.bits,IntKind.signed];omega
  have e2:IntKind.u64.wrap (-(a+18446744073709551616))= -a:=by
   simp[IntKind.wrap,IntKind.bits,IntKind.signed];omega
  simp[e1,e2,h]at hK⊢
  exact hK
 ·rw[if_neg h]at hK⊢
  have e1:IntKind.u64.wrap a=a:=by
   simp[IntKind.wrap,IntKind.bits,IntKind.signed];omega
  simp[e1,h]at hK⊢
  exact hK
theorem ca_Within{a m:Int}{w:World}{K:Kont}(ha: -9223372036854775808≤a∧a<9223372036854775808)(hm:0≤m∧m<9223372036854775808)(hK:K (.bool (amongB a (-m) m)) w):Ca Tryz.prog 130 #[.int .i64 a,.int .i64 m] w K:=by
 apply ca130
 unfold F130
 refine ca_size ha ?_
 have e1:IntKind.u64.wrap m=m:=by
  simp[IntKind.wrap,IntKind.bits,IntKind.signed];omega
 simp[go_sem,e1,hm.1]
 have e:amongB a (-m) m=decide ((if a<0 then -a else a)≤m):=by
  unfold amongB
  rw[decide_eq_decide]
  split<;>omega
 rw[e]at hK
 exact hK
end Go.Proofs
set_option maxRecDepth 100000
namespace Go.Proofs
open Go Go.Vc
def F191(a0 a1 a2:Value)(w:World)(K:Kont):Prop:=
 rv Tryz.prog (bin .geq 2 false a0 a1) w λv0 w1=>
 ifB v0
 (rv Tryz.prog (bin .leq 2 false a0 a2) w1 λv2 w3=>
 K v2 w3)
 (K (.bool false) w1)
theorem F191_eq(a0 a1 a2:Value)(w:World)(K:Kont):vcFnJ Tryz.prog Tryz.f191 [a0,a1,a2] w K=F191 a0 a1 a2 w K:=by kernel_rfl
theorem F191_ok:okF Tryz.prog Tryz.f191 3=true:=by kernel_rfl
theorem ca191{a0 a1 a2:Value}{w:World}{K:Kont}(h:F191 a0 a1 a2 w K):Ca Tryz.prog 191 #[a0,a1,a2] w K:=
 ca_of_vcJ Tryz.noNum Tryz.func191 F191_ok (by rw[F191_eq];exact h)
def F192(a0 a1:Value)(w:World)(K:Kont):Prop:=
 Ca Tryz.prog 191 #[a1,(.int .i64 1),(.int .i64 10000000)] w λv0 w1=>
 ifB v0
 (rv Tryz.prog (bin .rem 2 false a1 a0) w1 λv2 w3=>
 rv Tryz.prog (bin .eql 2 true v2 (.int .i64 0)) w3 λv4 w5=>
 K v4 w5)
 (K (.bool false) w1)
theorem F192_eq(a0 a1:Value)(w:World)(K:Kont):vcFnJ Tryz.prog Tryz.f192 [a0,a1] w K=F192 a0 a1 w K:=by kernel_rfl
theorem F192_ok:okF Tryz.prog Tryz.f192 2=true:=by kernel_rfl
theorem ca192{a0 a1:Value}{w:World}{K:Kont}(h:F192 a0 a1 w K):Ca Tryz.prog 192 #[a0,a1] w K:=
 ca_of_vcJ Tryz.noNum Tryz.func192 F192_ok (by rw[F192_eq];exact h)
def L107_0(v4:Value)(K:Kont)(v0:Value)(s6:Value×Value×Value×Value×Unit)(w7:World)(K8:Value×Value×Value×Value×Unit→World→Prop):Prop:=
 ∀_:Nat→Value,
 rv Tryz.prog (bin .lss 3 true s6.2.2.2.1 (.int .i64 16)) w7 λv9 w10=>
 ifB v9
 (rv Tryz.prog (Instr.index 36 v4 s6.2.2.2.1) w10 λv11 w12=>
 Ca Tryz.prog 130 #[v11,(.int .i64 10000000)] w12 λv13 w14=>
 rv Tryz.prog (Op.unary .not v13) w14 λv15 w16=>
 ifB v15
 (K (.bool false) w16)
 (ifB s6.2.1
 (ifB s6.2.2.1
 (rv Tryz.prog (bin .add 3 true s6.2.2.2.1 (.int .i64 1)) w16 λv17 w18=>
 K8 (s6.1,(.bool true),(.bool true),v17,()) w18)
 (rv Tryz.prog (bin .lss 2 true v11 (.int .i64 0)) w16 λv19 w20=>
 rv Tryz.prog (bin .add 3 true s6.2.2.2.1 (.int .i64 1)) w20 λv21 w22=>
 K8 (s6.1,(.bool true),v19,v21,()) w22))
 (rv Tryz.prog (bin .gtr 2 true v11 (.int .i64 0)) w16 λv23 w24=>
 ifB s6.2.2.1
 (rv Tryz.prog (bin .add 3 true s6.2.2.2.1 (.int .i64 1)) w24 λv25 w26=>
 K8 (s6.1,v23,(.bool true),v25,()) w26)
 (rv Tryz.prog (bin .lss 2 true v11 (.int .i64 0)) w24 λv27 w28=>
 rv Tryz.prog (bin .add 3 true s6.2.2.2.1 (.int .i64 1)) w28 λv29 w30=>
 K8 (s6.1,v23,v27,v29,()) w30))))
 (ifB s6.2.1
 (ifB s6.2.2.1
 (rv Tryz.prog (Instr.fieldAt 38 v0 0) w10 λv31 w32=>
 rv Tryz.prog (Instr.loadAt 35 v31) w32 λv33 w34=>
 rv Tryz.prog (bin .neq 35 true v33 (.int .u32 0)) w34 λv35 w36=>
 ifB v35
 (rv Tryz.prog (Instr.fieldAt 38 v0 1) w36 λv37 w38=>
 rv Tryz.prog (Instr.loadAt 5 v37) w38 λv39 w40=>
 rv Tryz.prog (convert 5 2 v39) w40 λv41 w42=>
 Ca Tryz.prog 191 #[v41,(.int .i64 1),(.int .i64 8)] w42 λv43 w44=>
 ifB v43
 (rv Tryz.prog (Instr.fieldAt 38 v0 2) w44 λv45 w46=>
 rv Tryz.prog (Instr.loadAt 2 v45) w46 λv47 w48=>
 Ca Tryz.prog 191 #[v47,(.int .i64 1),(.int .i64 10000000)] w48 λv49 w50=>
 ifB v49
 (rv Tryz.prog (Instr.fieldAt 38 v0 3) w50 λv51 w52=>
 rv Tryz.prog (Instr.loadAt 2 v51) w52 λv53 w54=>
 Ca Tryz.prog 191 #[v53,(.int .i64 1),(.int .i64 1000000)] w54 λv55 w56=>
 ifB v55
 (rv Tryz.prog (Instr.fieldAt 38 v0 4) w56 λv57 w58=>
 rv Tryz.prog (Instr.loadAt 2 v57) w58 λv59 w60=>
 Ca Tryz.prog 191 #[v59,(.int .i64 0),(.int .i64 10000000)] w60 λv61 w62=>
 ifB v61
 (rv Tryz.prog (Instr.fieldAt 38 v0 5) w62 λv63 w64=>
 rv Tryz.prog (Instr.loadAt 2 v63) w64 λv65 w66=>
 Ca Tryz.prog 191 #[v65,(.int .i64 1),(.int .i64 10000000)] w66 λv67 w68=>
 ifB v67
 (rv Tryz.prog (Instr.fieldAt 38 v0 7) w68 λv69 w70=>
 rv Tryz.prog (Instr.loadAt 2 v69) w70 λv71 w72=>
 Ca Tryz.prog 191 #[v71,(.int .i64 0),(.int .i64 10000000)] w72 λv73 w74=>
 ifB v73
 (rv Tryz.prog (Instr.fieldAt 38 v0 2) w74 λv75 w76=>
 rv Tryz.prog (Instr.loadAt 2 v75) w76 λv77 w78=>
 rv Tryz.prog (Instr.fieldAt 38 v0 9) w78 λv79 w80=>
 rv Tryz.prog (Instr.loadAt 2 v79) w80 λv81 w82=>
 Ca Tryz.prog 192 #[v77,v81] w82 λv83 w84=>
 K v83 w84)
 (K (.bool false) w74))
 (K (.bool false) w68))
 (K (.bool false) w62))
 (K (.bool false) w56))
 (K (.bool false) w50))
 (K (.bool false) w44))
 (K (.bool false) w36))
 (K (.bool false) w10))
 (K (.bool false) w10))
def F107(a0:Value)(w:World)(K:Kont):Prop:=
 rv Tryz.prog (Instr.box 38 a0) w λv0 w1=>
 rv Tryz.prog (Instr.fieldAt 38 v0 6) w1 λv2 w3=>
 rx Tryz.prog (bigS 36 v2) w3 λv4 w5=>
 LoopW (S:=Value×Value×Value×Value×Unit) (L107_0 v4 K v0) ((.bool false),(.bool false),(.bool false),(.int .i64 0),()) w5
theorem F107_eq(a0:Value)(w:World)(K:Kont):vcFnJ Tryz.prog Tryz.f107 [a0] w K=F107 a0 w K:=by kernel_rfl
theorem F107_ok:okF Tryz.prog Tryz.f107 1=true:=by kernel_rfl
theorem ca107{a0:Value}{w:World}{K:Kont}(h:F107 a0 w K):Ca Tryz.prog 107 #[a0] w K:=
 ca_of_vcJ Tryz.noNum Tryz.func107 F107_ok (by rw[F107_eq];exact h)
def F127(a0 a1:Value)(w:World)(K:Kont):Prop:=
 rv Tryz.prog (Instr.box 38 a0) w λv0 w1=>
 rx Tryz.prog (bigS 38 v0) w1 λv2 w3=>
 Ca Tryz.prog 107 #[v2] w3 λv4 w5=>
 ifB v4
 (rv Tryz.prog (Instr.fieldAt 38 v0 2) w5 λv6 w7=>
 rv Tryz.prog (Instr.loadAt 2 v6) w7 λv8 w9=>
 Ca Tryz.prog 192 #[v8,a1] w9 λv10 w11=>
 K v10 w11)
 (K (.bool false) w5)
theorem F127_eq(a0 a1:Value)(w:World)(K:Kont):vcFnJ Tryz.prog Tryz.f127 [a0,a1] w K=F127 a0 a1 w K:=by kernel_rfl
theorem F127_ok:okF Tryz.prog Tryz.f127 2=true:=by kernel_rfl
theorem ca127{a0 a1:Value}{w:World}{K:Kont}(h:F127 a0 a1 w K):Ca Tryz.prog 127 #[a0,a1] w K:=
 ca_of_vcJ Tryz.noNum Tryz.func127 F127_ok (by rw[F127_eq];exact h)
def F223(a0 a1:Value)(w:World)(K:Kont):Prop:=
 rv Tryz.prog (Instr.box 38 a0) w λv0 w1=>
 rx Tryz.prog (bigS 38 v0) w1 λv2 w3=>
 Ca Tryz.prog 107 #[v2] w3 λv4 w5=>
 ifB v4
 (Ca Tryz.prog 191 #[a1,(.int .i64 1),(.int .i64 1000000)] w5 λv6 w7=>
 ifB v6
 (rv Tryz.prog (Instr.fieldAt 38 v0 3) w7 λv8 w9=>
 rv Tryz.prog (Instr.loadAt 2 v8) w9 λv10 w11=>
 rv Tryz.prog (bin .rem 2 false a1 v10) w11 λv12 w13=>
 rv Tryz.prog (bin .eql 2 true v12 (.int .i64 0)) w13 λv14 w15=>
 K v14 w15)
 (K (.bool false) w7))
 (K (.bool false) w5)
theorem F223_eq(a0 a1:Value)(w:World)(K:Kont):vcFnJ Tryz.prog Tryz.f223 [a0,a1] w K=F223 a0 a1 w K:=by kernel_rfl
theorem F223_ok:okF Tryz.prog Tryz.f223 2=true:=by kernel_rfl
theorem ca223{a0 a1:Value}{w:World}{K:Kont}(h:F223 a0 a1 w K):Ca Tryz.prog 223 #[a0,a1] w K:=
 ca_of_vcJ Tryz.noNum Tryz.func223 F223_ok (by rw[F223_eq];exact h)
def F222(a0:Value)(w:World)(K:Kont):Prop:=
 rv Tryz.prog (Instr.box 117 a0) w λv0 w1=>
 rv Tryz.prog (Instr.fieldAt 117 v0 0) w1 λv2 w3=>
 rv Tryz.prog (Instr.loadAt 27 v2) w3 λv4 w5=>
 rv Tryz.prog (bin .neq 27 true v4 (.int .u64 0)) w5 λv6 w7=>
 ifB v6
 (rv Tryz.prog (Instr.fieldAt 117 v0 1) w7 λv8 w9=>
 rv Tryz.prog (Instr.loadAt 35 v8) w9 λv10 w11=>
 rv Tryz.prog (bin .neq 35 true v10 (.int .u32 0)) w11 λv12 w13=>
 ifB v12
 (rv Tryz.prog (Instr.fieldAt 117 v0 3) w13 λv14 w15=>
 rv Tryz.prog (Instr.loadAt 2 v14) w15 λv16 w17=>
 rv Tryz.prog (bin .geq 2 true v16 (.int .i64 1)) w17 λv18 w19=>
 ifB v18
 (rv Tryz.prog (Instr.fieldAt 117 v0 3) w19 λv20 w21=>
 rv Tryz.prog (Instr.loadAt 2 v20) w21 λv22 w23=>
 rv Tryz.prog (bin .leq 2 true v22 (.int .i64 10000000)) w23 λv24 w25=>
 ifB v24
 (rv Tryz.prog (Instr.fieldAt 117 v0 4) w25 λv26 w27=>
 rv Tryz.prog (Instr.loadAt 2 v26) w27 λv28 w29=>
 rv Tryz.prog (bin .geq 2 true v28 (.int .i64 1)) w29 λv30 w31=>
 ifB v30
 (rv Tryz.prog (Instr.fieldAt 117 v0 4) w31 λv32 w33=>
 rv Tryz.prog (Instr.loadAt 2 v32) w33 λv34 w35=>
 rv Tryz.prog (bin .leq 2 true v34 (.int .i64 1000000)) w35 λv36 w37=>
 K v36 w37)
 (K (.bool false) w31))
 (K (.bool false) w25))
 (K (.bool false) w19))
 (K (.bool false) w13))
 (K (.bool false) w7)
theorem F222_eq(a0:Value)(w:World)(K:Kont):vcFnJ Tryz.prog Tryz.f222 [a0] w K=F222 a0 w K:=by kernel_rfl
theorem F222_ok:okF Tryz.prog Tryz.f222 1=true:=by kernel_rfl
theorem ca222{a0:Value}{w:World}{K:Kont}(h:F222 a0 w K):Ca Tryz.prog 222 #[a0] w K:=
 ca_of_vcJ Tryz.noNum Tryz.func222 F222_ok (by rw[F222_eq];exact h)
def F133(a0:Value)(w:World)(K:Kont):Prop:=
 rv Tryz.prog (Instr.build 320 #[(0,(.bool true)),(1,a0)]) w λv0 w1=>
 rv Tryz.prog (Instr.box 320 v0) w1 λv2 w3=>
 K v2 w3
theorem F133_eq(a0:Value)(w:World)(K:Kont):vcFnJ Tryz.prog Tryz.f133 [a0] w K=F133 a0 w K:=by kernel_rfl
theorem F133_ok:okF Tryz.prog Tryz.f133 1=true:=by kernel_rfl
theorem ca133{a0:Value}{w:World}{K:Kont}(h:F133 a0 w K):Ca Tryz.prog 133 #[a0] w K:=
 ca_of_vcJ Tryz.noNum Tryz.func133 F133_ok (by rw[F133_eq];exact h)
def F237(a0:Value)(w:World)(K:Kont):Prop:=
 rv Tryz.prog (bin .neq 228 true a0 (.pointer none)) w λv0 w1=>
 ifB v0
 (nilK a0 λv2=>rv Tryz.prog (Instr.fieldAt 320 v2 0) w1 λv3 w4=>
 rv Tryz.prog (Instr.loadAt 4 v3) w4 λv5 w6=>
 K v5 w6)
 (K (.bool false) w1)
theorem F237_eq(a0:Value)(w:World)(K:Kont):vcFnJ Tryz.prog Tryz.f237 [a0] w K=F237 a0 w K:=by kernel_rfl
theorem F237_ok:okF Tryz.prog Tryz.f237 1=true:=by kernel_rfl
theorem ca237{a0:Value}{w:World}{K:Kont}(h:F237 a0 w K):Ca Tryz.prog 237 #[a0] w K:=
 ca_of_vcJ Tryz.noNum Tryz.func237 F237_ok (by rw[F237_eq];exact h)
def F270(a0 a1 a2:Value)(w:World)(K:Kont):Prop:=
 nilK a0 λv0=>rv Tryz.prog (Instr.fieldAt 320 v0 1) w λv1 w2=>
 rv Tryz.prog (Instr.loadAt 4 v1) w2 λv3 w4=>
 ifB v3
 (rv Tryz.prog (bin .gtr 2 false a1 a2) w4 λv5 w6=>
 K v5 w6)
 (rv Tryz.prog (bin .lss 2 false a1 a2) w4 λv7 w8=>
 K v7 w8)
theorem F270_eq(a0 a1 a2:Value)(w:World)(K:Kont):vcFnJ Tryz.prog Tryz.f270 [a0,a1,a2] w K=F270 a0 a1 a2 w K:=by kernel_rfl
theorem F270_ok:okF Tryz.prog Tryz.f270 3=true:=by kernel_rfl
theorem ca270{a0 a1 a2:Value}{w:World}{K:Kont}(h:F270 a0 a1 a2 w K):Ca Tryz.prog 270 #[a0,a1,a2] w K:=
 ca_of_vcJ Tryz.noNum Tryz.func270 F270_ok (by rw[F270_eq];exact h)
def F310(a0 a1:Value)(w:World)(K:Kont):Prop:=
 rv Tryz.prog (Instr.box 27 a1) w λv0 w1=>
 nilK a0 λv2=>rv Tryz.prog (Instr.fieldAt 320 v2 2) w1 λv3 w4=>
 rv Tryz.prog (Instr.loadAt 133 v3) w4 λv5 w6=>
 Ca Tryz.prog 210 #[v5,(.func (.func 350) #[] #[v0])] w6 λv7 w8=>
 K v7 w8
theorem F310_eq(a0 a1:Value)(w:World)(K:Kont):vcFnJ Tryz.prog Tryz.f310 [a0,a1] w K=F310 a0 a1 w K:=by kernel_rfl
theorem F310_ok:okF Tryz.prog Tryz.f310 2=true:=by kernel_rfl
theorem ca310{a0 a1:Value}{w:World}{K:Kont}(h:F310 a0 a1 w K):Ca Tryz.prog 310 #[a0,a1] w K:=
 ca_of_vcJ Tryz.noNum Tryz.func310 F310_ok (by rw[F310_eq];exact h)
def F350(a0 a1:Value)(w:World)(K:Kont):Prop:=
 rv Tryz.prog (Instr.box 117 a0) w λv0 w1=>
 rv Tryz.prog (Instr.fieldAt 117 v0 0) w1 λv2 w3=>
 rv Tryz.prog (Instr.loadAt 27 v2) w3 λv4 w5=>
 rv Tryz.prog (Instr.loadAt 27 a1) w5 λv6 w7=>
 rv Tryz.prog (bin .eql 27 false v4 v6) w7 λv8 w9=>
 K v8 w9
theorem F350_eq(a0 a1:Value)(w:World)(K:Kont):vcFnJ Tryz.prog Tryz.f350 [a0,a1] w K=F350 a0 a1 w K:=by kernel_rfl
theorem F350_ok:okF Tryz.prog Tryz.f350 2=true:=by kernel_rfl
theorem ca350{a0 a1:Value}{w:World}{K:Kont}(h:F350 a0 a1 w K):Ca Tryz.prog 350 #[a0,a1] w K:=
 ca_of_vcJ Tryz.noNum Tryz.func350 F350_ok (by rw[F350_eq];exact h)
def J274_0(v0:Value)(v2:Value)(K:Kont)(s54:Value×Unit)(w55:World):Prop:=
 ∀_:Nat→Value,
 rdW Tryz.prog (Instr.loadAt 228 v0) w55.drew λv68=>
 rdW Tryz.prog (Instr.loadAt 228 v0) w55.drew λv69=>
 nilK v69 λv70=>rdP Tryz.prog (Instr.fieldAt 320 v70 2) λv71=>
 rdW Tryz.prog (Instr.loadAt 133 v71) w55.drew λv72=>
 rdW Tryz.prog (Instr.loadAt 117 v2) w55.drew λv73=>
 rx Tryz.prog (xLit 133 1 [(0,v73)]) w55.drew λv74 w75=>
 Sem.run Tryz.prog (Instr.loadAt 133 v71) w75=.ok v72 w75∧Sem.run Tryz.prog (Instr.loadAt 228 v0) w75=.ok v69 w75∧Sem.run Tryz.prog (Instr.loadAt 228 v0) w75=.ok v68 w75∧
 (Ca Tryz.prog 312 #[v72,s54.1,v74] w75 λv76 w77=>
 Sem.run Tryz.prog (Instr.loadAt 228 v0) w77=.ok v68 w77∧
 (nilK v68 λv78=>rdP Tryz.prog (Instr.fieldAt 320 v78 2) λv79=>
 ru Tryz.prog (Instr.storeAt 133 v79 v76) w77 λw80=>
 K (.int .i64 0) w80))
def J274_1(K:Kont)(v0:Value)(v2:Value)(s10:Value×Unit)(w11:World):Prop:=
 ∀_:Nat→Value,
 ifB s10.1
 (K (.int .i64 2) w11)
 (rv Tryz.prog (Instr.loadAt 228 v0) w11 λv24 w25=>
 rv Tryz.prog (Instr.fieldAt 117 v2 0) w25 λv26 w27=>
 rv Tryz.prog (Instr.loadAt 27 v26) w27 λv28 w29=>
 Ca Tryz.prog 310 #[v24,v28] w29 λv30 w31=>
 rv Tryz.prog (bin .geq 3 true v30 (.int .i64 0)) w31 λv32 w33=>
 ifB v32
 (K (.int .i64 8) w33)
 (rv Tryz.prog (Instr.loadAt 228 v0) w33 λv34 w35=>
 nilK v34 λv36=>rv Tryz.prog (Instr.fieldAt 320 v36 2) w35 λv37 w38=>
 rv Tryz.prog (Instr.loadAt 133 v37) w38 λv39 w40=>
 rn Tryz.prog (builtin .len #[133] 3 #[false] #[v39]) w40 λv41 w42=>
 rv Tryz.prog (bin .geq 3 true v41 (.int .i64 100)) w42 λv43 w44=>
 ifB v43
 (K (.int .i64 9) w44)
 (rv Tryz.prog (Instr.loadAt 228 v0) w44 λv45 w46=>
 nilK v45 λv47=>rv Tryz.prog (Instr.fieldAt 320 v47 2) w46 λv48 w49=>
 rv Tryz.prog (Instr.loadAt 133 v48) w49 λv50 w51=>
 Ca Tryz.prog 210 #[v50,(.func (.func 311) #[] #[v0,v2])] w51 λv52 w53=>
 JoinW (S:=Value×Unit) (λJ56=>
 rv Tryz.prog (bin .lss 3 true v52 (.int .i64 0)) w53 λv57 w58=>
 ifB v57
 (rv Tryz.prog (Instr.loadAt 228 v0) w58 λv59 w60=>
 nilK v59 λv61=>rv Tryz.prog (Instr.fieldAt 320 v61 2) w60 λv62 w63=>
 rv Tryz.prog (Instr.loadAt 133 v62) w63 λv64 w65=>
 rn Tryz.prog (builtin .len #[133] 3 #[false] #[v64]) w65 λv66 w67=>
 J56 (v66,()) w67)
 (J56 (v52,()) w58))
 (J274_0 v0 v2 K))))
def F274(a0 a1:Value)(w:World)(K:Kont):Prop:=
 rv Tryz.prog (Instr.box 228 a0) w λv0 w1=>
 rv Tryz.prog (Instr.box 117 a1) w1 λv2 w3=>
 rv Tryz.prog (Instr.loadAt 228 v0) w3 λv4 w5=>
 Ca Tryz.prog 237 #[v4] w5 λv6 w7=>
 rv Tryz.prog (Op.unary .not v6) w7 λv8 w9=>
 ifB v8
 (K (.int .i64 1) w9)
 (JoinW (S:=Value×Unit) (λJ12=>
 rdW Tryz.prog (Instr.loadAt 117 v2) w9.drew λv13=>
 Ca Tryz.prog 222 #[v13] w9.drew λv14 w15=>
 rdP Tryz.prog (Op.unary .not v14) λv16=>
 ifB v16
 (J12 ((.bool true),()) w15)
 (rdP Tryz.prog (Instr.fieldAt 117 v2 2) λv17=>
 rdW Tryz.prog (Instr.loadAt 4 v17) w15 λv18=>
 rdW Tryz.prog (Instr.loadAt 228 v0) w15 λv19=>
 nilK v19 λv20=>rdP Tryz.prog (Instr.fieldAt 320 v20 1) λv21=>
 rdW Tryz.prog (Instr.loadAt 4 v21) w15 λv22=>
 rdP Tryz.prog (bin .neq 4 false v18 v22) λv23=>
 J12 (v23,()) w15))
 (J274_1 K v0 v2))
theorem F274_eq(a0 a1:Value)(w:World)(K:Kont):vcFnJ Tryz.prog Tryz.f274 [a0,a1] w K=F274 a0 a1 w K:=by kernel_rfl
theorem F274_ok:okF Tryz.prog Tryz.f274 2=true:=by kernel_rfl
theorem ca274{a0 a1:Value}{w:World}{K:Kont}(h:F274 a0 a1 w K):Ca Tryz.prog 274 #[a0,a1] w K:=
 ca_of_vcJ Tryz.noNum Tryz.func274 F274_ok (by rw[F274_eq];exact h)
def F311(a0 a1 a2:Value)(w:World)(K:Kont):Prop:=
 rv Tryz.prog (Instr.box 117 a0) w λv0 w1=>
 rv Tryz.prog (Instr.loadAt 228 a1) w1 λv2 w3=>
 rv Tryz.prog (Instr.fieldAt 117 a2 3) w3 λv4 w5=>
 rv Tryz.prog (Instr.loadAt 2 v4) w5 λv6 w7=>
 rv Tryz.prog (Instr.fieldAt 117 v0 3) w7 λv8 w9=>
 rv Tryz.prog (Instr.loadAt 2 v8) w9 λv10 w11=>
 Ca Tryz.prog 270 #[v2,v6,v10] w11 λv12 w13=>
 K v12 w13
theorem F311_eq(a0 a1 a2:Value)(w:World)(K:Kont):vcFnJ Tryz.prog Tryz.f311 [a0,a1,a2] w K=F311 a0 a1 a2 w K:=by kernel_rfl
theorem F311_ok:okF Tryz.prog Tryz.f311 3=true:=by kernel_rfl
theorem ca311{a0 a1 a2:Value}{w:World}{K:Kont}(h:F311 a0 a1 a2 w K):Ca Tryz.prog 311 #[a0,a1,a2] w K:=
 ca_of_vcJ Tryz.noNum Tryz.func311 F311_ok (by rw[F311_eq];exact h)
def J271_0(v0:Value)(K:Kont)(a0:Value)(s2:Value×Unit)(w3:World):Prop:=
 ∀_:Nat→Value,
 ifB s2.1
 (rv Tryz.prog (Instr.build 117 #[]) w3 λv18 w19=>
 ru Tryz.prog (Instr.storeAt 117 v0 v18) w19 λw20=>
 rdW Tryz.prog (Instr.loadAt 117 v0) w20 λv21=>
 K (.tuple #[v21,(.bool false)]) w20)
 (nilK a0 λv22=>rv Tryz.prog (Instr.fieldAt 320 v22 2) w3 λv23 w24=>
 rv Tryz.prog (Instr.loadAt 133 v23) w24 λv25 w26=>
 rv Tryz.prog (Instr.indexAt 133 v25 (.int .i64 0)) w26 λv27 w28=>
 rv Tryz.prog (Instr.loadAt 117 v27) w28 λv29 w30=>
 ru Tryz.prog (Instr.storeAt 117 v0 v29) w30 λw31=>
 rdW Tryz.prog (Instr.loadAt 117 v0) w31 λv32=>
 K (.tuple #[v32,(.bool true)]) w31)
def F271(a0:Value)(w:World)(K:Kont):Prop:=
 rv Tryz.prog (Instr.alloc 117 true (.tuple #[])) w λv0 w1=>
 JoinW (S:=Value×Unit) (λJ4=>
 Ca Tryz.prog 237 #[a0] w1 λv5 w6=>
 rv Tryz.prog (Op.unary .not v5) w6 λv7 w8=>
 ifB v7
 (J4 ((.bool true),()) w8)
 (nilK a0 λv9=>rv Tryz.prog (Instr.fieldAt 320 v9 2) w8 λv10 w11=>
 rv Tryz.prog (Instr.loadAt 133 v10) w11 λv12 w13=>
 rn Tryz.prog (builtin .len #[133] 3 #[false] #[v12]) w13 λv14 w15=>
 rv Tryz.prog (bin .eql 3 true v14 (.int .i64 0)) w15 λv16 w17=>
 J4 (v16,()) w17))
 (J271_0 v0 K a0)
theorem F271_eq(a0:Value)(w:World)(K:Kont):vcFnJ Tryz.prog Tryz.f271 [a0] w K=F271 a0 w K:=by kernel_rfl
theorem F271_ok:okF Tryz.prog Tryz.f271 1=true:=by kernel_rfl
theorem ca271{a0:Value}{w:World}{K:Kont}(h:F271 a0 w K):Ca Tryz.prog 271 #[a0] w K:=
 ca_of_vcJ Tryz.noNum Tryz.func271 F271_ok (by rw[F271_eq];exact h)
def J273_0(v72:Value)(v0:Value)(K:Kont)(s75:Unit)(w76:World):Prop:=
 ∀_:Nat→Value,
 rv Tryz.prog (Instr.loadAt 117 v72) w76 λv95 w96=>
 ru Tryz.prog (Instr.storeAt 117 v0 v95) w96 λw97=>
 rdW Tryz.prog (Instr.loadAt 117 v0) w97 λv98=>
 K (.tuple #[v98,(.int .i64 0)]) w97
def J273_1(v0:Value)(K:Kont)(a0:Value)(a1:Value)(s23:Value×Unit)(w24:World):Prop:=
 ∀_:Nat→Value,
 ifB s23.1
 (rv Tryz.prog (Instr.build 117 #[]) w24 λv41 w42=>
 ru Tryz.prog (Instr.storeAt 117 v0 v41) w42 λw43=>
 rdW Tryz.prog (Instr.loadAt 117 v0) w43 λv44=>
 K (.tuple #[v44,(.int .i64 2)]) w43)
 (nilK a0 λv45=>rv Tryz.prog (Instr.fieldAt 320 v45 2) w24 λv46 w47=>
 rv Tryz.prog (Instr.loadAt 133 v46) w47 λv48 w49=>
 rv Tryz.prog (Instr.indexAt 133 v48 (.int .i64 0)) w49 λv50 w51=>
 rv Tryz.prog (Instr.fieldAt 117 v50 4) w51 λv52 w53=>
 rv Tryz.prog (Instr.loadAt 2 v52) w53 λv54 w55=>
 rv Tryz.prog (bin .sub 2 false v54 a1) w55 λv56 w57=>
 rv Tryz.prog (Instr.indexAt 133 v48 (.int .i64 0)) w57 λv58 w59=>
 rv Tryz.prog (Instr.fieldAt 117 v58 4) w59 λv60 w61=>
 ru Tryz.prog (Instr.storeAt 2 v60 v56) w61 λw62=>
 nilK a0 λv63=>rv Tryz.prog (Instr.fieldAt 320 v63 2) w62 λv64 w65=>
 rv Tryz.prog (Instr.loadAt 133 v64) w65 λv66 w67=>
 rv Tryz.prog (Instr.indexAt 133 v66 (.int .i64 0)) w67 λv68 w69=>
 rv Tryz.prog (Instr.loadAt 117 v68) w69 λv70 w71=>
 rv Tryz.prog (Instr.alloc 117 true (.tuple #[])) w71 λv72 w73=>
 ru Tryz.prog (Instr.storeAt 117 v72 v70) w73 λw74=>
 JoinW (S:=Unit) (λJ77=>
 rv Tryz.prog (Instr.fieldAt 117 v72 4) w74 λv78 w79=>
 rv Tryz.prog (Instr.loadAt 2 v78) w79 λv80 w81=>
 rv Tryz.prog (bin .eql 2 true v80 (.int .i64 0)) w81 λv82 w83=>
 ifB v82
 (nilK a0 λv84=>rv Tryz.prog (Instr.fieldAt 320 v84 2) w83 λv85 w86=>
 rv Tryz.prog (Instr.loadAt 133 v85) w86 λv87 w88=>
 Ca Tryz.prog 212 #[v87,(.int .i64 0),(.int .i64 1)] w88 λv89 w90=>
 nilK a0 λv91=>rv Tryz.prog (Instr.fieldAt 320 v91 2) w90 λv92 w93=>
 ru Tryz.prog (Instr.storeAt 133 v92 v89) w93 λw94=>
 J77 (()) w94)
 (J77 (()) w83))
 (J273_0 v72 v0 K))
def F273(a0 a1:Value)(w:World)(K:Kont):Prop:=
 rv Tryz.prog (Instr.alloc 117 true (.tuple #[])) w λv0 w1=>
 Ca Tryz.prog 237 #[a0] w1 λv2 w3=>
 rv Tryz.prog (Op.unary .not v2) w3 λv4 w5=>
 ifB v4
 (rv Tryz.prog (Instr.build 117 #[]) w5 λv6 w7=>
 ru Tryz.prog (Instr.storeAt 117 v0 v6) w7 λw8=>
 rdW Tryz.prog (Instr.loadAt 117 v0) w8 λv9=>
 K (.tuple #[v9,(.int .i64 1)]) w8)
 (nilK a0 λv10=>rv Tryz.prog (Instr.fieldAt 320 v10 2) w5 λv11 w12=>
 rv Tryz.prog (Instr.loadAt 133 v11) w12 λv13 w14=>
 rn Tryz.prog (builtin .len #[133] 3 #[false] #[v13]) w14 λv15 w16=>
 rv Tryz.prog (bin .eql 3 true v15 (.int .i64 0)) w16 λv17 w18=>
 ifB v17
 (rv Tryz.prog (Instr.build 117 #[]) w18 λv19 w20=>
 ru Tryz.prog (Instr.storeAt 117 v0 v19) w20 λw21=>
 rdW Tryz.prog (Instr.loadAt 117 v0) w21 λv22=>
 K (.tuple #[v22,(.int .i64 7)]) w21)
 (JoinW (S:=Value×Unit) (λJ25=>
 rv Tryz.prog (bin .lss 2 true a1 (.int .i64 1)) w18 λv26 w27=>
 ifB v26
 (J25 ((.bool true),()) w27)
 (nilK a0 λv28=>rv Tryz.prog (Instr.fieldAt 320 v28 2) w27 λv29 w30=>
 rv Tryz.prog (Instr.loadAt 133 v29) w30 λv31 w32=>
 rv Tryz.prog (Instr.indexAt 133 v31 (.int .i64 0)) w32 λv33 w34=>
 rv Tryz.prog (Instr.fieldAt 117 v33 4) w34 λv35 w36=>
 rv Tryz.prog (Instr.loadAt 2 v35) w36 λv37 w38=>
 rv Tryz.prog (bin .gtr 2 false a1 v37) w38 λv39 w40=>
 J25 (v39,()) w40))
 (J273_1 v0 K a0 a1)))
theorem F273_eq(a0 a1:Value)(w:World)(K:Kont):vcFnJ Tryz.prog Tryz.f273 [a0,a1] w K=F273 a0 a1 w K:=by kernel_rfl
theorem F273_ok:okF Tryz.prog Tryz.f273 2=true:=by kernel_rfl
theorem ca273{a0 a1:Value}{w:World}{K:Kont}(h:F273 a0 a1 w K):Ca Tryz.prog 273 #[a0,a1] w K:=
 ca_of_vcJ Tryz.noNum Tryz.func273 F273_ok (by rw[F273_eq];exact h)
def F299(a0 a1:Value)(w:World)(K:Kont):Prop:=
 Ca Tryz.prog 237 #[a0] w λv0 w1=>
 rv Tryz.prog (Op.unary .not v0) w1 λv2 w3=>
 ifB v2
 (K (.tuple #[(.int .i64 0),(.int .i64 1)]) w3)
 (Ca Tryz.prog 310 #[a0,a1] w3 λv4 w5=>
 rv Tryz.prog (bin .geq 3 true v4 (.int .i64 0)) w5 λv6 w7=>
 ifB v6
 (K (.tuple #[v4,(.int .i64 0)]) w7)
 (K (.tuple #[(.int .i64 0),(.int .i64 7)]) w7))
theorem F299_eq(a0 a1:Value)(w:World)(K:Kont):vcFnJ Tryz.prog Tryz.f299 [a0,a1] w K=F299 a0 a1 w K:=by kernel_rfl
theorem F299_ok:okF Tryz.prog Tryz.f299 2=true:=by kernel_rfl
theorem ca299{a0 a1:Value}{w:World}{K:Kont}(h:F299 a0 a1 w K):Ca Tryz.prog 299 #[a0,a1] w K:=
 ca_of_vcJ Tryz.noNum Tryz.func299 F299_ok (by rw[F299_eq];exact h)
def F259(a0 a1:Value)(w:World)(K:Kont):Prop:=
 rv Tryz.prog (Instr.alloc 117 true (.tuple #[])) w λv0 w1=>
 Ca Tryz.prog 299 #[a0,a1] w1 λv2 w3=>
 rv Tryz.prog (Instr.extract v2 0) w3 λv4 w5=>
 rv Tryz.prog (Instr.extract v2 1) w5 λv6 w7=>
 rv Tryz.prog (bin .neq 26 true v6 (.int .i64 0)) w7 λv8 w9=>
 ifB v8
 (rv Tryz.prog (Instr.build 117 #[]) w9 λv10 w11=>
 ru Tryz.prog (Instr.storeAt 117 v0 v10) w11 λw12=>
 rdW Tryz.prog (Instr.loadAt 117 v0) w12 λv13=>
 K (.tuple #[v13,v6]) w12)
 (nilK a0 λv14=>rv Tryz.prog (Instr.fieldAt 320 v14 2) w9 λv15 w16=>
 rv Tryz.prog (Instr.loadAt 133 v15) w16 λv17 w18=>
 rv Tryz.prog (Instr.indexAt 133 v17 v4) w18 λv19 w20=>
 rv Tryz.prog (Instr.loadAt 117 v19) w20 λv21 w22=>
 rv Tryz.prog (Instr.alloc 117 true (.tuple #[])) w22 λv23 w24=>
 ru Tryz.prog (Instr.storeAt 117 v23 v21) w24 λw25=>
 nilK a0 λv26=>rv Tryz.prog (Instr.fieldAt 320 v26 2) w25 λv27 w28=>
 rv Tryz.prog (Instr.loadAt 133 v27) w28 λv29 w30=>
 rv Tryz.prog (bin .add 3 true v4 (.int .i64 1)) w30 λv31 w32=>
 Ca Tryz.prog 212 #[v29,v4,v31] w32 λv33 w34=>
 nilK a0 λv35=>rv Tryz.prog (Instr.fieldAt 320 v35 2) w34 λv36 w37=>
 ru Tryz.prog (Instr.storeAt 133 v36 v33) w37 λw38=>
 rv Tryz.prog (Instr.loadAt 117 v23) w38 λv39 w40=>
 ru Tryz.prog (Instr.storeAt 117 v0 v39) w40 λw41=>
 rdW Tryz.prog (Instr.loadAt 117 v0) w41 λv42=>
 K (.tuple #[v42,(.int .i64 0)]) w41)
theorem F259_eq(a0 a1:Value)(w:World)(K:Kont):vcFnJ Tryz.prog Tryz.f259 [a0,a1] w K=F259 a0 a1 w K:=by kernel_rfl
theorem F259_ok:okF Tryz.prog Tryz.f259 2=true:=by kernel_rfl
theorem ca259{a0 a1:Value}{w:World}{K:Kont}(h:F259 a0 a1 w K):Ca Tryz.prog 259 #[a0,a1] w K:=
 ca_of_vcJ Tryz.noNum Tryz.func259 F259_ok (by rw[F259_eq];exact h)
def F269(a0 a1:Value)(w:World)(K:Kont):Prop:=
 rv Tryz.prog (Instr.alloc 117 true (.tuple #[])) w λv0 w1=>
 Ca Tryz.prog 299 #[a0,a1] w1 λv2 w3=>
 rv Tryz.prog (Instr.extract v2 0) w3 λv4 w5=>
 rv Tryz.prog (Instr.extract v2 1) w5 λv6 w7=>
 rv Tryz.prog (bin .neq 26 true v6 (.int .i64 0)) w7 λv8 w9=>
 ifB v8
 (rv Tryz.prog (Instr.build 117 #[]) w9 λv10 w11=>
 ru Tryz.prog (Instr.storeAt 117 v0 v10) w11 λw12=>
 rdW Tryz.prog (Instr.loadAt 117 v0) w12 λv13=>
 K (.tuple #[v13,v6]) w12)
 (nilK a0 λv14=>rv Tryz.prog (Instr.fieldAt 320 v14 2) w9 λv15 w16=>
 rv Tryz.prog (Instr.loadAt 133 v15) w16 λv17 w18=>
 rv Tryz.prog (Instr.indexAt 133 v17 v4) w18 λv19 w20=>
 rv Tryz.prog (Instr.loadAt 117 v19) w20 λv21 w22=>
 ru Tryz.prog (Instr.storeAt 117 v0 v21) w22 λw23=>
 rdW Tryz.prog (Instr.loadAt 117 v0) w23 λv24=>
 K (.tuple #[v24,(.int .i64 0)]) w23)
theorem F269_eq(a0 a1:Value)(w:World)(K:Kont):vcFnJ Tryz.prog Tryz.f269 [a0,a1] w K=F269 a0 a1 w K:=by kernel_rfl
theorem F269_ok:okF Tryz.prog Tryz.f269 2=true:=by kernel_rfl
theorem ca269{a0 a1:Value}{w:World}{K:Kont}(h:F269 a0 a1 w K):Ca Tryz.prog 269 #[a0,a1] w K:=
 ca_of_vcJ Tryz.noNum Tryz.func269 F269_ok (by rw[F269_eq];exact h)
def R226_0(v0:Value)(v2:Value)(v4:Value)(v6:Value)(l12:Nat)(x13:List Value)(w14:World)(KN15:World→Prop)(KJ16:Code→World→Prop):Prop:=
 rv Tryz.prog (Instr.alloc 117 true (.tuple #[])) w14 λv17 w18=>
 ru Tryz.prog (Instr.storeAt 117 v17 (x13.getD 0 undef)) w18 λw19=>
 beginK l12 w19 λw20=>
 rv Tryz.prog (Instr.loadAt 228 v0) w20 λv21 w22=>
 rv Tryz.prog (Instr.loadAt 2 v2) w22 λv23 w24=>
 rv Tryz.prog (Instr.fieldAt 117 v17 3) w24 λv25 w26=>
 rv Tryz.prog (Instr.loadAt 2 v25) w26 λv27 w28=>
 Ca Tryz.prog 270 #[v21,v23,v27] w28 λv29 w30=>
 ifB v29
 (KJ16 (.exit 0) w30)
 (rv Tryz.prog (Instr.fieldAt 117 v17 1) w30 λv31 w32=>
 rv Tryz.prog (Instr.loadAt 35 v31) w32 λv33 w34=>
 rv Tryz.prog (Instr.loadAt 35 v4) w34 λv35 w36=>
 rv Tryz.prog (bin .neq 35 false v33 v35) w36 λv37 w38=>
 ifB v37
 (rv Tryz.prog (Instr.loadAt 2 v6) w38 λv39 w40=>
 rv Tryz.prog (Instr.fieldAt 117 v17 4) w40 λv41 w42=>
 rv Tryz.prog (Instr.loadAt 2 v41) w42 λv43 w44=>
 rv Tryz.prog (bin .add 2 false v39 v43) w44 λv45 w46=>
 ru Tryz.prog (Instr.storeAt 2 v6 v45) w46 λw47=>
 KN15 w47)
 (KN15 w38))
def A226_1(v6:Value)(K:Kont)(mk48:List Nat)(pd49:Option Code)(w50:World):Prop:=
 afterK
 (λw51=>
 rv Tryz.prog (Instr.loadAt 2 v6) w51 λv52 w53=>
 ru Tryz.prog (Instr.storeAt 2 v6 v52) w53 λw54=>
 retD (mk48++[]) w54 λw55=>
 rdW Tryz.prog (Instr.loadAt 2 v6) w55 λv56=>
 K v56 w55)
 (λw57=>
 retD (mk48++[]) w57 λw58=>
 rdW Tryz.prog (Instr.loadAt 2 v6) w58 λv59=>
 K v59 w58)
 (λi61 w60=>
 bc (Nat.beq i61 0)
 (rv Tryz.prog (Instr.loadAt 2 v6) w60 λv62 w63=>
 ru Tryz.prog (Instr.storeAt 2 v6 v62) w63 λw64=>
 retD (mk48++[]) w64 λw65=>
 rdW Tryz.prog (Instr.loadAt 2 v6) w65 λv66=>
 K v66 w65)
 (False)) pd49 w50
def F226(a0 a1 a2:Value)(w:World)(K:Kont):Prop:=
 rv Tryz.prog (Instr.box 228 a0) w λv0 w1=>
 rv Tryz.prog (Instr.box 2 a1) w1 λv2 w3=>
 rv Tryz.prog (Instr.box 35 a2) w3 λv4 w5=>
 rv Tryz.prog (Instr.alloc 2 true (.tuple #[])) w5 λv6 w7=>
 rv Tryz.prog (Instr.loadAt 228 v0) w7 λv8 w9=>
 Ca Tryz.prog 146 #[v8] w9 λv10 w11=>
 RFW Tryz.prog none v10 w11 1 (R226_0 v0 v2 v4 v6) (A226_1 v6 K)
theorem F226_eq(a0 a1 a2:Value)(w:World)(K:Kont):vcFnJ Tryz.prog Tryz.f226 [a0,a1,a2] w K=F226 a0 a1 a2 w K:=by kernel_rfl
theorem F226_ok:okF Tryz.prog Tryz.f226 3=true:=by kernel_rfl
theorem ca226{a0 a1 a2:Value}{w:World}{K:Kont}(h:F226 a0 a1 a2 w K):Ca Tryz.prog 226 #[a0,a1,a2] w K:=
 ca_of_vcJ Tryz.noNum Tryz.func226 F226_ok (by rw[F226_eq];exact h)
def F146(a0:Value)(w:World)(K:Kont):Prop:=
 rv Tryz.prog (Instr.box 228 a0) w λv0 w1=>
 K (.func (.func 236) #[] #[v0]) w1
theorem F146_eq(a0:Value)(w:World)(K:Kont):vcFnJ Tryz.prog Tryz.f146 [a0] w K=F146 a0 w K:=by kernel_rfl
theorem F146_ok:okF Tryz.prog Tryz.f146 1=true:=by kernel_rfl
theorem ca146{a0:Value}{w:World}{K:Kont}(h:F146 a0 w K):Ca Tryz.prog 146 #[a0] w K:=
 ca_of_vcJ Tryz.noNum Tryz.func146 F146_ok (by rw[F146_eq];exact h)
def L236_0(v15:Value)(v13:Value)(a0:Value)(K:Kont)(s17:Value×Unit)(w18:World)(K19:Value×Unit→World→Prop):Prop:=
 ∀_:Nat→Value,
 rv Tryz.prog (bin .lss 3 false s17.1 v15) w18 λv20 w21=>
 ifB v20
 (rv Tryz.prog (Instr.indexAt 133 v13 s17.1) w21 λv22 w23=>
 rv Tryz.prog (Instr.loadAt 117 v22) w23 λv24 w25=>
 rv Tryz.prog (Instr.alloc 117 true (.tuple #[])) w25 λv26 w27=>
 ru Tryz.prog (Instr.storeAt 117 v26 v24) w27 λw28=>
 rv Tryz.prog (Instr.loadAt 117 v26) w28 λv29 w30=>
 callV Tryz.prog a0 [v29] w30 λv31 w32=>
 rv Tryz.prog (Op.unary .not v31) w32 λv33 w34=>
 ifB v33
 (K (.tuple #[]) w34)
 (rv Tryz.prog (bin .add 3 true s17.1 (.int .i64 1)) w34 λv35 w36=>
 K19 (v35,()) w36))
 (K (.tuple #[]) w21)
def F236(a0 a1:Value)(w:World)(K:Kont):Prop:=
 rv Tryz.prog (Instr.loadAt 228 a1) w λv0 w1=>
 Ca Tryz.prog 237 #[v0] w1 λv2 w3=>
 rv Tryz.prog (Op.unary .not v2) w3 λv4 w5=>
 ifB v4
 (K (.tuple #[]) w5)
 (rv Tryz.prog (Instr.loadAt 228 a1) w5 λv6 w7=>
 nilK v6 λv8=>rv Tryz.prog (Instr.fieldAt 320 v8 2) w7 λv9 w10=>
 rv Tryz.prog (Instr.loadAt 133 v9) w10 λv11 w12=>
 Ca Tryz.prog 111 #[v11] w12 λv13 w14=>
 rn Tryz.prog (builtin .len #[133] 3 #[false] #[v13]) w14 λv15 w16=>
 LoopW (S:=Value×Unit) (L236_0 v15 v13 a0 K) ((.int .i64 0),()) w16)
theorem F236_eq(a0 a1:Value)(w:World)(K:Kont):vcFnJ Tryz.prog Tryz.f236 [a0,a1] w K=F236 a0 a1 w K:=by kernel_rfl
theorem F236_ok:okF Tryz.prog Tryz.f236 2=true:=by kernel_rfl
theorem ca236{a0 a1:Value}{w:World}{K:Kont}(h:F236 a0 a1 w K):Ca Tryz.prog 236 #[a0,a1] w K:=
 ca_of_vcJ Tryz.noNum Tryz.func236 F236_ok (by rw[F236_eq];exact h)
def F227(a0:Value)(w:World)(K:Kont):Prop:=
 Ca Tryz.prog 237 #[a0] w λv0 w1=>
 rv Tryz.prog (Op.unary .not v0) w1 λv2 w3=>
 ifB v2
 (K (.int .i64 0) w3)
 (nilK a0 λv4=>rv Tryz.prog (Instr.fieldAt 320 v4 2) w3 λv5 w6=>
 rv Tryz.prog (Instr.loadAt 133 v5) w6 λv7 w8=>
 rn Tryz.prog (builtin .len #[133] 3 #[false] #[v7]) w8 λv9 w10=>
 K v9 w10)
theorem F227_eq(a0:Value)(w:World)(K:Kont):vcFnJ Tryz.prog Tryz.f227 [a0] w K=F227 a0 w K:=by kernel_rfl
theorem F227_ok:okF Tryz.prog Tryz.f227 1=true:=by kernel_rfl
theorem ca227{a0:Value}{w:World}{K:Kont}(h:F227 a0 w K):Ca Tryz.prog 227 #[a0] w K:=
 ca_of_vcJ Tryz.noNum Tryz.func227 F227_ok (by rw[F227_eq];exact h)
def F193(a0:Value)(w:World)(K:Kont):Prop:=
 Ca Tryz.prog 237 #[a0] w λv0 w1=>
 rv Tryz.prog (Op.unary .not v0) w1 λv2 w3=>
 ifB v2
 (K (.pointer none) w3)
 (nilK a0 λv4=>rdP Tryz.prog (Instr.fieldAt 320 v4 1) λv5=>
 rdW Tryz.prog (Instr.loadAt 4 v5) w3.drew λv6=>
 nilK a0 λv7=>rdP Tryz.prog (Instr.fieldAt 320 v7 2) λv8=>
 rdW Tryz.prog (Instr.loadAt 133 v8) w3.drew λv9=>
 Ca Tryz.prog 111 #[v9] w3.drew λv10 w11=>
 Sem.run Tryz.prog (Instr.loadAt 4 v5) w11=.ok v6 w11∧
 (rdP Tryz.prog (Instr.build 320 #[(0,(.bool true)),(1,v6),(2,v10)]) λv12=>
 rv Tryz.prog (Instr.box 320 v12) w11 λv13 w14=>
 K v13 w14))
theorem F193_eq(a0:Value)(w:World)(K:Kont):vcFnJ Tryz.prog Tryz.f193 [a0] w K=F193 a0 w K:=by kernel_rfl
theorem F193_ok:okF Tryz.prog Tryz.f193 1=true:=by kernel_rfl
theorem ca193{a0:Value}{w:World}{K:Kont}(h:F193 a0 w K):Ca Tryz.prog 193 #[a0] w K:=
 ca_of_vcJ Tryz.noNum Tryz.func193 F193_ok (by rw[F193_eq];exact h)
def L210_0(v0:Value)(a0:Value)(a1:Value)(K:Kont)(s2:Value×Value×Unit)(w3:World)(K4:Value×Value×Unit→World→Prop):Prop:=
 ∀_:Nat→Value,
 rv Tryz.prog (bin .lss 3 false s2.2.1 v0) w3 λv5 w6=>
 ifB v5
 (rv Tryz.prog (Instr.indexAt 133 a0 s2.2.1) w6 λv7 w8=>
 rv Tryz.prog (Instr.loadAt 117 v7) w8 λv9 w10=>
 callV Tryz.prog a1 [v9] w10 λv11 w12=>
 ifB v11
 (K s2.2.1 w12)
 (rv Tryz.prog (bin .add 3 true s2.2.1 (.int .i64 1)) w12 λv13 w14=>
 K4 (s2.1,v13,()) w14))
 (K (.int .i64 (-1)) w6)
def F210(a0 a1:Value)(w:World)(K:Kont):Prop:=
 rn Tryz.prog (builtin .len #[133] 3 #[false] #[a0]) w λv0 w1=>
 LoopW (S:=Value×Value×Unit) (L210_0 v0 a0 a1 K) ((.int .i64 0),(.int .i64 0),()) w1
theorem F210_eq(a0 a1:Value)(w:World)(K:Kont):vcFnJ Tryz.prog Tryz.f210 [a0,a1] w K=F210 a0 a1 w K:=by kernel_rfl
theorem F210_ok:okF Tryz.prog Tryz.f210 2=true:=by kernel_rfl
theorem ca210{a0 a1:Value}{w:World}{K:Kont}(h:F210 a0 a1 w K):Ca Tryz.prog 210 #[a0,a1] w K:=
 ca_of_vcJ Tryz.noNum Tryz.func210 F210_ok (by rw[F210_eq];exact h)
def F312(a0 a1 a2:Value)(w:World)(K:Kont):Prop:=
 rv Tryz.prog (Instr.sliceAt 133 a0 (some a1) none none) w λv0 w1=>
 rn Tryz.prog (builtin .len #[133] 3 #[false] #[a2]) w1 λv2 w3=>
 rv Tryz.prog (bin .eql 3 true v2 (.int .i64 0)) w3 λv4 w5=>
 ifB v4
 (K a0 w5)
 (rn Tryz.prog (builtin .len #[133] 3 #[false] #[a0]) w5 λv6 w7=>
 rv Tryz.prog (bin .eql 3 false a1 v6) w7 λv8 w9=>
 ifB v8
 (rx Tryz.prog (xAppend #[133,133] 133 [a0,a2]) w9 λv10 w11=>
 K v10 w11)
 (rv Tryz.prog (bin .add 3 false v6 v2) w9 λv12 w13=>
 rn Tryz.prog (builtin .cap #[133] 3 #[false] #[a0]) w13 λv14 w15=>
 rv Tryz.prog (bin .gtr 3 false v12 v14) w15 λv16 w17=>
 ifB v16
 (rv Tryz.prog (Instr.sliceAt 133 a0 none (some a1) none) w17 λv18 w19=>
 rv Tryz.prog (bin .add 3 false v6 v2) w19 λv20 w21=>
 rv Tryz.prog (bin .sub 3 false v20 a1) w21 λv22 w23=>
 rx Tryz.prog (xAppend #[133,3] 133 [v18,v22]) w23 λv24 w25=>
 rv Tryz.prog (Instr.sliceAt 133 v24 (some a1) none none) w25 λv26 w27=>
 rx Tryz.prog (xCopy #[133,133] 3 [v26,a2]) w27 λv28 w29=>
 rdP Tryz.prog (bin .add 3 false a1 v2) λv30=>
 rdP Tryz.prog (Instr.sliceAt 133 v24 (some v30) none none) λv31=>
 rdP Tryz.prog (Instr.sliceAt 133 a0 (some a1) none none) λv32=>
 rx Tryz.prog (xCopy #[133,133] 3 [v31,v32]) w29.drew λv33 w34=>
 K v24 w34)
 (rv Tryz.prog (bin .add 3 false v6 v2) w17 λv35 w36=>
 rv Tryz.prog (Instr.sliceAt 133 a0 none (some v35) none) w36 λv37 w38=>
 rv Tryz.prog (bin .add 3 false a1 v2) w38 λv39 w40=>
 rv Tryz.prog (Instr.sliceAt 133 v37 (some v39) none none) w40 λv41 w42=>
 rnx Tryz.prog 351 [a2,v41] w42 λv43 w44=>
 rv Tryz.prog (Op.unary .not v43) w44 λv45 w46=>
 ifB v45
 (rdP Tryz.prog (bin .add 3 false a1 v2) λv47=>
 rdP Tryz.prog (Instr.sliceAt 133 v37 (some v47) none none) λv48=>
 rdP Tryz.prog (Instr.sliceAt 133 v37 (some a1) none none) λv49=>
 rx Tryz.prog (xCopy #[133,133] 3 [v48,v49]) w46.drew λv50 w51=>
 rv Tryz.prog (Instr.sliceAt 133 v37 (some a1) none none) w51 λv52 w53=>
 rx Tryz.prog (xCopy #[133,133] 3 [v52,a2]) w53 λv54 w55=>
 K v37 w55)
 (rv Tryz.prog (Instr.sliceAt 133 v37 (some v6) none none) w46 λv56 w57=>
 rx Tryz.prog (xCopy #[133,133] 3 [v56,a2]) w57 λv58 w59=>
 rv Tryz.prog (Instr.sliceAt 133 v37 (some a1) none none) w59 λv60 w61=>
 Ca Tryz.prog 352 #[v60,v2] w61 λv62 w63=>
 K v37 w63))))
theorem F312_eq(a0 a1 a2:Value)(w:World)(K:Kont):vcFnJ Tryz.prog Tryz.f312 [a0,a1,a2] w K=F312 a0 a1 a2 w K:=by kernel_rfl
theorem F312_ok:okF Tryz.prog Tryz.f312 3=true:=by kernel_rfl
theorem ca312{a0 a1 a2:Value}{w:World}{K:Kont}(h:F312 a0 a1 a2 w K):Ca Tryz.prog 312 #[a0,a1,a2] w K:=
 ca_of_vcJ Tryz.noNum Tryz.func312 F312_ok (by rw[F312_eq];exact h)
def F212(a0 a1 a2:Value)(w:World)(K:Kont):Prop:=
 rn Tryz.prog (builtin .len #[133] 3 #[false] #[a0]) w λv0 w1=>
 rv Tryz.prog (Instr.sliceAt 133 a0 (some a1) (some a2) (some v0)) w1 λv2 w3=>
 rv Tryz.prog (bin .eql 3 false a1 a2) w3 λv4 w5=>
 ifB v4
 (K a0 w5)
 (rn Tryz.prog (builtin .len #[133] 3 #[false] #[a0]) w5 λv6 w7=>
 rdP Tryz.prog (Instr.sliceAt 133 a0 none (some a1) none) λv8=>
 rdP Tryz.prog (Instr.sliceAt 133 a0 (some a2) none none) λv9=>
 rx Tryz.prog (xAppend #[133,133] 133 [v8,v9]) w7.drew λv10 w11=>
 rn Tryz.prog (builtin .len #[133] 3 #[false] #[v10]) w11 λv12 w13=>
 rv Tryz.prog (Instr.sliceAt 133 v10 (some v12) (some v6) none) w13 λv14 w15=>
 rx Tryz.prog (xClear #[133] 0 [v14]) w15 λv16 w17=>
 K v10 w17)
theorem F212_eq(a0 a1 a2:Value)(w:World)(K:Kont):vcFnJ Tryz.prog Tryz.f212 [a0,a1,a2] w K=F212 a0 a1 a2 w K:=by kernel_rfl
theorem F212_ok:okF Tryz.prog Tryz.f212 3=true:=by kernel_rfl
theorem ca212{a0 a1 a2:Value}{w:World}{K:Kont}(h:F212 a0 a1 a2 w K):Ca Tryz.prog 212 #[a0,a1,a2] w K:=
 ca_of_vcJ Tryz.noNum Tryz.func212 F212_ok (by rw[F212_eq];exact h)
def F111(a0:Value)(w:World)(K:Kont):Prop:=
 rv Tryz.prog (bin .eql 133 true a0 (.slice none 0 0)) w λv0 w1=>
 ifB v0
 (K (.slice none 0 0) w1)
 (rx Tryz.prog (xLit 133 0 []) w1 λv2 w3=>
 rx Tryz.prog (xAppend #[133,133] 133 [v2,a0]) w3 λv4 w5=>
 K v4 w5)
theorem F111_eq(a0:Value)(w:World)(K:Kont):vcFnJ Tryz.prog Tryz.f111 [a0] w K=F111 a0 w K:=by kernel_rfl
theorem F111_ok:okF Tryz.prog Tryz.f111 1=true:=by kernel_rfl
theorem ca111{a0:Value}{w:World}{K:Kont}(h:F111 a0 w K):Ca Tryz.prog 111 #[a0] w K:=
 ca_of_vcJ Tryz.noNum Tryz.func111 F111_ok (by rw[F111_eq];exact h)
end Go.Proofs
namespace Go.Proofs
open Go Go.Vc
attribute [local congr] Ca_congV
abbrev R64' (n:Int):Prop:= -9223372036854775808≤n∧n<9223372036854775808
abbrev U32' (n:Int):Prop:=0≤n∧n<4294967296
abbrev U64' (n:Int):Prop:=0≤n∧n<18446744073709551616
structure Sp where
 num:Int
 route:Int
 tick:Int
 lot:Int
 band:Int
 limit:Int
 shifts:Vector Int 16
 credit:Int
 last:Int
 first:Int
 deriving DecidableEq
def Sp.Fit(s:Sp):Prop:=U32' s.num∧(0≤s.route∧s.route<256)∧R64' s.tick∧R64' s.lot∧R64' s.band∧R64' s.limit∧(∀x∈s.shifts.toList,R64' x)∧R64' s.credit∧U32' s.last∧R64' s.first
def shC(s:Vector Int 16):List Value:=s.toList.map λn=>.int .i64 n
def spC(s:Sp):List Value:=[.int .u32 s.num,.int .u8 s.route,.int .i64 s.tick,.int .i64 s.lot,.int .i64 s.band,.int .i64 s.limit]++(shC s.shifts++[.int .i64 s.credit,.int .u32 s.last,.int .i64 s.first])
theorem shC_len(s:Vector Int 16):(shC s).length=16:=by simp[shC]
theorem spC_len(s:Sp):(spC s).length=25:=by simp[spC,shC_len]
theorem spC_one(s:Sp):(spC s).all (·.oneCell')=true:=by simp[spC,shC,Value.oneCell']
theorem spC_shift(s:Sp):((spC s).drop 6).take 16=shC s.shifts:=by
 simp only[spC]
 rw[List.drop_append_of_le_length (by simp)]
 simp only[List.drop_succ_cons,List.drop_nil,List.drop_zero,List.nil_append]
 rw[List.take_append_of_le_length (by rw[shC_len];omega),List.take_of_length_le (by rw[shC_len];omega)]
theorem spG{s:Sp}{post:List Value}{i:Nat}(hi:i<3):(spC s++post)[22+i]? =([.int .i64 s.credit,.int .u32 s.last,.int .i64 s.first]:List Value)[i]? :=by
 rw[List.getElem?_append_left (by rw[spC_len];omega)]
 simp only[spC]
 rw[List.getElem?_append_right (by simp;omega)]
 rw[List.getElem?_append_right (by rw[shC_len];simp;omega)]
 congr 1
 rw[shC_len];simp;omega
theorem spG0(s:Sp)(post:List Value):(spC s++post)[0]? =some (.int .u32 s.num):=rfl
theorem spG1(s:Sp)(post:List Value):(spC s++post)[1]? =some (.int .u8 s.route):=rfl
theorem spG2(s:Sp)(post:List Value):(spC s++post)[2]? =some (.int .i64 s.tick):=rfl
theorem spG3(s:Sp)(post:List Value):(spC s++post)[3]? =some (.int .i64 s.lot):=rfl
theorem spG4(s:Sp)(post:List Value):(spC s++post)[4]? =some (.int .i64 s.band):=rfl
theorem spG5(s:Sp)(post:List Value):(spC s++post)[5]? =some (.int .i64 s.limit):=rfl
theorem spG22(s:Sp)(post:List Value):(spC s++post)[22]? =some (.int .i64 s.credit):=spG (i:=0) (by omega)
theorem spG23(s:Sp)(post:List Value):(spC s++post)[23]? =some (.int .u32 s.last):=spG (i:=1) (by omega)
theorem spG24(s:Sp)(post:List Value):(spC s++post)[24]? =some (.int .i64 s.first):=spG (i:=2) (by omega)
def priceB(tick n:Int):Bool:=amongB n 1 MP&& decide (n.tmod tick=0)
def shiftsB(l:List Int):Bool:=l.all λx=>amongB x (-MP) MP
def Sp.may(s:Sp):Bool:=
 shiftsB s.shifts.toList&& s.shifts.toList.any (λx=>decide (0<x))&& s.shifts.toList.any (λx=>decide (x<0))&& decide (s.num≠0)&& amongB s.route 1 8&& amongB s.tick 1 MP&& amongB s.lot 1 1000000&& amongB s.band 0 MP&& amongB s.limit 1 MP&& amongB s.credit 0 MP&& priceB s.tick s.first
def Sp.isPrice(s:Sp)(n:Int):Bool:=s.may&& priceB s.tick n
def Sp.isQty(s:Sp)(n:Int):Bool:=s.may&& (amongB n 1 1000000&& decide (n.tmod s.lot=0))
theorem ca_swithin{n lo hi:Int}{w:World}{K:Kont}(hK:K (.bool (amongB n lo hi)) w):Ca Tryz.prog 191 #[.int .i64 n,.int .i64 lo,.int .i64 hi] w K:=by
 apply ca191
 unfold F191
 unfold amongB at hK
 by_cases h:lo≤n
 ·simp[go_sem,h]at hK⊢
  exact hK
 ·simp[go_sem,h]at hK⊢
  exact hK
theorem ca_sprice{tick n:Int}{w:World}{K:Kont}(h0:0<tick)(hK:K (.bool (priceB tick n)) w):Ca Tryz.prog 192 #[.int .i64 tick,.int .i64 n] w K:=by
 apply ca192
 unfold F192
 refine ca_swithin ?_
 unfold priceB MP at hK
 have h0' :¬tick=0:=by omega
 cases h:amongB n 1 10000000 with
 |false=>
  rw[h]at hK
  simpa using hK
 |true=>
  rw[h]at hK
  have hn:=of_decide_eq_true h
  simp[go_sem,h0']at hK⊢
  have e:IntKind.i64.wrap (n.tmod tick)=n.tmod tick:=by
   have h1:=Int.emod_nonneg n h0'
   have h2:=Int.emod_lt_of_pos n h0
   have h3:n.tmod tick=n%tick:=Int.tmod_eq_emod_of_nonneg (by omega)
   have h4:n%tick≤n:=by
    by_cases hl:n<tick
    ·rw[Int.emod_eq_of_lt (by omega) hl];omega
    ·omega
   rw[h3,wrapI (by omega) (by omega)]
  first
   |exact hK
   |(rw[e];exact hK)
   |(simpa [e]using hK)
theorem uSh:Tryz.prog.underlying 36=some (.array 16 2):=by kernel_rfl
theorem aSh:isAggT Tryz.prog 36=true:=by kernel_rfl
theorem nSh:Tryz.prog.cellsOf 36=15+1:=by kernel_rfl
theorem aI64:isAggT Tryz.prog 2=false:=by kernel_rfl
theorem sI64:(Tryz.prog.underlying 2).isSome=true:=by kernel_rfl
theorem nI64:Tryz.prog.cellsOf 2=0+1:=by kernel_rfl
theorem aSp:isAggT Tryz.prog 38=true:=by kernel_rfl
theorem nSp:Tryz.prog.cellsOf 38=24+1:=by kernel_rfl
theorem shC_get(s:Vector Int 16)(i:Nat)(h:i<16):(shC s).toArray[i]? =some (.int .i64 s.toList[i]!):=by
 have hl:s.toList.length=16:=by simp
 simp[shC,List.getElem?_eq_getElem,hl,h]
theorem all_take{l:List Int}{p:Int→Bool}{i:Nat}(h:i<l.length):(l.take (i+1)).all p=((l.take i).all p&& p l[i]!):=by
 rw[List.take_add_one,List.getElem?_eq_getElem h,List.all_append]
 simp[h]
theorem any_take{l:List Int}{p:Int→Bool}{i:Nat}(h:i<l.length):(l.take (i+1)).any p=((l.take i).any p||p l[i]!):=by
 rw[List.take_add_one,List.getElem?_eq_getElem h,List.any_append]
 simp[h]
set_option maxRecDepth 10000 in
theorem ca_smayS{s:Sp}{w:World}{K:Kont}(hf:s.Fit)(hK:∀w',Mod (λ_=>False) w w' →K (.bool s.may) w'):Ca Tryz.prog 107 #[.agg (spC s).toArray] w K:=by
 apply ca107
 unfold F107
 obtain⟨p,hp0⟩:∃p,p=w.heap.size:=⟨_,rfl⟩
 have m1:Mod (λ_=>False) w (w.alloc (.cells (spC s).toArray 38)):=(Mod.refl _ w).alloc _
 refine rvS (v:=.pointer (some ⟨p,0,none⟩)) (w' :=w.alloc (.cells (spC s).toArray 38)) (by rw[hp0];rfl) ?_
 have b1:hp (w.alloc (.cells (spC s).toArray 38)) p=some (.cells (spC s).toArray 38 (0,0)):=by rw[hp0];simp[go_sem]
 generalize w.alloc (.cells (spC s).toArray 38)=w1 at m1 b1⊢
 refine rvS (v:=.pointer (some ⟨p,6,none⟩)) (w' :=w1) (by simp[go_sem]) ?_
 have hA:At w1 p 6 (shC s.shifts):=by
  have hA0:At w1 p 0 (spC s):=⟨_,_,_,b1,by simp,by simp⟩
  have:=hA0.sub 6 16 (by rw[spC_len];omega)
  rw[spC_shift]at this
  simpa using this
 refine rx_bigS (shC s.shifts) 15 aSh nSh (shC_len _) hA ?_
 have hl:s.shifts.toList.length=16:=by simp
 obtain⟨f1,f2,f3,f4,f5,f6,f7,f8,f9,f10⟩:=hf
 have hcell:∀i:Nat,(spC s)[i]? =(spC s++[])[i]? :=λi=>by rw[List.append_nil]
 refine loopV (λst W=>∃(i:Nat) (x:Value),i≤16∧st=(x,.bool ((s.shifts.toList.take i).any λx=>decide (0<x)),.bool ((s.shifts.toList.take i).any λx=>decide (x<0)),.int .i64 i,())∧W=w1∧shiftsB (s.shifts.toList.take i)=true)
  (λst _=>match st.2.2.2.1 with| .int _ i=>16 - i.toNat|_=>0) ⟨0,.bool false,by omega,rfl,rfl,rfl⟩ ?_
 rintro⟨_,_⟩ W ⟨i,x,hi,⟨⟩,rfl,hall⟩ KN hKN
 unfold L107_0
 intro _
 by_cases hlt:i<16
 ·have hlt' :(i:Int)<16:=by omega
  have hil:i<s.shifts.toList.length:=by omega
  have hx:R64' s.shifts.toList[i]! :=by
   rw[getElem!_pos s.shifts.toList i hil]
   exact f7 _ (List.getElem_mem hil)
  refine rvS (v:=.bool true) (by simp[go_sem,hlt']<;>first|exact⟨rfl,rfl⟩|exact rfl) ?_
  rw[ifB_bool,if_pos rfl]
  refine rvS (v:=.int .i64 s.shifts.toList[i]!) (w' :=W) (run_index_one uSh aI64 sI64 nI64 hlt (shC_get _ i hlt)) ?_
  generalize hy:s.shifts.toList[i]! =y at*
  refine ca_Within hx (by omega) ?_
  have hw:IntKind.i64.wrap ((i:Int)+1)=((i+1:Nat):Int):=by rw[wrapI (by omega) (by omega)];omega
  refine rvS (v:=.bool (!amongB y (-10000000) 10000000)) (w' :=W) (by simp[go_sem]) ?_
  cases hb:amongB y (-10000000) 10000000 with
  |false=>
   rw[ifB_bool,if_pos (show(!false)=true from rfl)]
   have:s.may=false:=by
    have h1:shiftsB s.shifts.toList=false:=by
     rw[Bool.eq_false_iff]
     intro hc
     have:=(List.all_eq_true.1 hc) y (by rw[←hy,getElem!_pos s.shifts.toList i hil];exact List.getElem_mem hil)
     unfold MP at this
     rw[hb]at this
     cases this
    unfold Sp.may
    rw[h1];simp
   rw[←this]
   exact hK _ m1
  |true=>
   rw[ifB_bool,if_neg (by simp)]
   have hall' :shiftsB (s.shifts.toList.take (i+1))=true:=by
    unfold shiftsB
    rw[all_take hil,hy]
    show(shiftsB _&& _)=true
    rw[hall]
    simpa [MP]using hb
   have nxt:∀(z:Value),KN (z,.bool ((s.shifts.toList.take (i+1)).any λx=>decide (0<x)),.bool ((s.shifts.toList.take (i+1)).any λx=>decide (x<0)),.int .i64 ((i+1:Nat):Int),()) W:=λz=>
    hKN _ _ ⟨i+1,z,by omega,rfl,rfl,hall'⟩ (by show 16 - (((i+1:Nat):Int)).toNat<16 - ((i:Int)).toNat;omega)
   rw[any_take hil,any_take hil,hy]at nxt
   cases hu:(s.shifts.toList.take i).any λx=>decide (0<x)<;>cases hd:(s.shifts.toList.take i).any λx=>decide (x<0)
   all_goals
    rw[hu,hd]at nxt
    simp only[ifB_bool,Bool.false_eq_true,if_false,if_true]
    simp[-Int.natCast_add,go_sem,hw]
    simpa using nxt _
 ·obtain rfl:i=16:=by omega
  rw[List.take_of_length_le (by omega)]at hall
  rw[List.take_of_length_le (by omega)]
  refine rvS (v:=.bool false) (by simp[go_sem]<;>first|exact⟨rfl,rfl⟩|exact rfl) ?_
  rw[ifB_bool,if_neg Bool.false_ne_true]
  have hm:∀b:Bool,b=s.may→K (.bool b) W:=λb h=>by rw[h];exact hK _ m1
  unfold Sp.may at hm
  rw[hall]at hm
  cases hu:s.shifts.toList.any λx=>decide (0<x)with
  |false=>
   rw[ifB_bool,if_neg Bool.false_ne_true]
   refine hm _ ?_
   rw[hu];simp
  |true=>
   rw[hu]at hm
   rw[ifB_bool,if_pos rfl]
   cases hd:s.shifts.toList.any λx=>decide (x<0)with
   |false=>
    rw[ifB_bool,if_neg Bool.false_ne_true]
    refine hm _ ?_
    rw[hd];simp
   |true=>
    rw[hd]at hm
    rw[ifB_bool,if_pos rfl]
    have g0:(spC s).toArray[0]? =some (.int .u32 s.num):=by rw[List.getElem?_toArray,hcell];exact spG0 s []
    have g1:(spC s).toArray[1]? =some (.int .u8 s.route):=by rw[List.getElem?_toArray,hcell];exact spG1 s []
    have g2:(spC s).toArray[2]? =some (.int .i64 s.tick):=by rw[List.getElem?_toArray,hcell];exact spG2 s []
    have g3:(spC s).toArray[3]? =some (.int .i64 s.lot):=by rw[List.getElem?_toArray,hcell];exact spG3 s []
    have g4:(spC s).toArray[4]? =some (.int .i64 s.band):=by rw[List.getElem?_toArray,hcell];exact spG4 s []
    have g5:(spC s).toArray[5]? =some (.int .i64 s.limit):=by rw[List.getElem?_toArray,hcell];exact spG5 s []
    have g22:(spC s).toArray[22]? =some (.int .i64 s.credit):=by rw[List.getElem?_toArray,hcell];exact spG22 s []
    have g24:(spC s).toArray[24]? =some (.int .i64 s.first):=by rw[List.getElem?_toArray,hcell];exact spG24 s []
    refine rvS (by simp[-Int.natCast_add,go_sem,b1,g0]<;>first|exact⟨rfl,rfl⟩|exact rfl) ?_
    refine rvS (by simp[-Int.natCast_add,go_sem,b1,g0]<;>first|exact⟨rfl,rfl⟩|exact rfl) ?_
    by_cases hn:s.num=0
    ·refine rvS (v:=.bool false) (by simp[go_sem,hn]<;>first|exact⟨rfl,rfl⟩|exact rfl) ?_
     rw[ifB_bool,if_neg Bool.false_ne_true]
     refine hm _ (by simp[hn])
    have hn' :decide (s.num≠0)=true:=by simpa using hn
    rw[hn']at hm
    refine rvS (v:=.bool true) (by simp[go_sem,hn]<;>first|exact⟨rfl,rfl⟩|exact rfl) ?_
    rw[ifB_bool,if_pos rfl]
    refine rvS (by simp[-Int.natCast_add,go_sem,b1,g1]<;>first|exact⟨rfl,rfl⟩|exact rfl) ?_
    refine rvS (by simp[-Int.natCast_add,go_sem,b1,g1]<;>first|exact⟨rfl,rfl⟩|exact rfl) ?_
    refine rvS (v:=.int .i64 s.route) (w' :=W) (by simp[go_sem,wrapI (n:=s.route) (by omega) (by omega)]) ?_
    refine ca_swithin ?_
    cases h1:amongB s.route 1 8 with
    |false=>rw[ifB_bool,if_neg Bool.false_ne_true];exact hm _ (by rw[h1];simp)
    |true=>
    rw[h1]at hm
    rw[ifB_bool,if_pos rfl]
    refine rvS (by simp[-Int.natCast_add,go_sem,b1,g2]<;>first|exact⟨rfl,rfl⟩|exact rfl) ?_
    refine rvS (by simp[-Int.natCast_add,go_sem,b1,g2]<;>first|exact⟨rfl,rfl⟩|exact rfl) ?_
    refine ca_swithin ?_
    unfold MP at hm
    cases h2:amongB s.tick 1 10000000 with
    |false=>rw[ifB_bool,if_neg Bool.false_ne_true];exact hm _ (by rw[h2];simp)
    |true=>
    rw[h2]at hm
    rw[ifB_bool,if_pos rfl]
    refine rvS (by simp[-Int.natCast_add,go_sem,b1,g3]<;>first|exact⟨rfl,rfl⟩|exact rfl) ?_
    refine rvS (by simp[-Int.natCast_add,go_sem,b1,g3]<;>first|exact⟨rfl,rfl⟩|exact rfl) ?_
    refine ca_swithin ?_
    cases h3:amongB s.lot 1 1000000 with
    |false=>rw[ifB_bool,if_neg Bool.false_ne_true];exact hm _ (by rw[h3];simp)
    |true=>
    rw[h3]at hm
    rw[ifB_bool,if_pos rfl]
    refine rvS (by simp[-Int.natCast_add,go_sem,b1,g4]<;>first|exact⟨rfl,rfl⟩|exact rfl) ?_
    refine rvS (by simp[-Int.natCast_add,go_sem,b1,g4]<;>first|exact⟨rfl,rfl⟩|exact rfl) ?_
    refine ca_swithin ?_
    cases h4:amongB s.band 0 10000000 with
    |false=>rw[ifB_bool,if_neg Bool.false_ne_true];exact hm _ (by rw[h4];simp)
    |true=>
    rw[h4]at hm
    rw[ifB_bool,if_pos rfl]
    refine rvS (by simp[-Int.natCast_add,go_sem,b1,g5]<;>first|exact⟨rfl,rfl⟩|exact rfl) ?_
    refine rvS (by simp[-Int.natCast_add,go_sem,b1,g5]<;>first|exact⟨rfl,rfl⟩|exact rfl) ?_
    refine ca_swithin ?_
    cases h5:amongB s.limit 1 10000000 with
    |false=>rw[ifB_bool,if_neg Bool.false_ne_true];exact hm _ (by rw[h5];simp)
    |true=>
    rw[h5]at hm
    rw[ifB_bool,if_pos rfl]
    refine rvS (by simp[-Int.natCast_add,go_sem,b1,g22]<;>first|exact⟨rfl,rfl⟩|exact rfl) ?_
    refine rvS (by simp[-Int.natCast_add,go_sem,b1,g22]<;>first|exact⟨rfl,rfl⟩|exact rfl) ?_
    refine ca_swithin ?_
    cases h6:amongB s.credit 0 10000000 with
    |false=>rw[ifB_bool,if_neg Bool.false_ne_true];exact hm _ (by rw[h6];simp)
    |true=>
    rw[h6]at hm
    rw[ifB_bool,if_pos rfl]
    refine rvS (by simp[-Int.natCast_add,go_sem,b1,g2]<;>first|exact⟨rfl,rfl⟩|exact rfl) ?_
    refine rvS (by simp[-Int.natCast_add,go_sem,b1,g2]<;>first|exact⟨rfl,rfl⟩|exact rfl) ?_
    refine rvS (by simp[-Int.natCast_add,go_sem,b1,g24]<;>first|exact⟨rfl,rfl⟩|exact rfl) ?_
    refine rvS (by simp[-Int.natCast_add,go_sem,b1,g24]<;>first|exact⟨rfl,rfl⟩|exact rfl) ?_
    have ht:=of_decide_eq_true h2
    refine ca_sprice (by omega) ?_
    exact hm _ (by simp)
end Go.Proofs
namespace Go.Proofs
open Go Go.Vc
attribute [local congr] Ca_congV
theorem spT2(s:Sp):(spC s)[2]? =some (.int .i64 s.tick):=rfl
theorem spT3(s:Sp):(spC s)[3]? =some (.int .i64 s.lot):=rfl
theorem boxSp(s:Sp)(w:World):∃w1,(Instr.box 38 (.agg (spC s).toArray)).run Tryz.prog w=.ok (.pointer (some ⟨w.heap.size,0,none⟩)) w1∧hp w1 w.heap.size=some (.cells (spC s).toArray 38 (0,0))∧Mod (λ_=>False) w w1:=
 ⟨w.alloc (.cells (spC s).toArray 38),rfl,by simp[go_sem],(Mod.refl _ w).alloc _⟩
theorem At.all{w:World}{b:Nat}{l:List Value}{T:TypeId}{fz:Nat×Nat}(h:hp w b=some (.cells l.toArray T fz)):At w b 0 l:=⟨_,_,_,h,by simp,by simp⟩
theorem Sp.may_tick{s:Sp}(h:s.may=true):1≤s.tick∧1≤s.lot∧0≤s.band∧1≤s.limit∧s.limit≤10000000∧s.band≤10000000∧s.lot≤1000000∧s.tick≤10000000:=by
 unfold Sp.may amongB MP at h
 simp only[Bool.and_eq_true,decide_eq_true_eq]at h
 omega
theorem ca_isPrice{s:Sp}{n:Int}{w:World}{K:Kont}(hf:s.Fit)(hK:∀w',Mod (λ_=>False) w w' →K (.bool (s.isPrice n)) w'):Ca Tryz.prog 127 #[.agg (spC s).toArray,.int .i64 n] w K:=by
 apply ca127
 unfold F127
 obtain⟨w1,e1,b1,m1⟩:=boxSp s w
 refine rvS e1 ?_
 refine rx_bigS (spC s) 24 aSp nSp (spC_len s) (At.all b1) ?_
 refine ca_smayS hf λw2 m2=>?_
 have b2:=m2.hpk b1 id
 unfold Sp.isPrice at hK
 cases hm:s.may with
 |false=>
  rw[hm]at hK
  rw[ifB_bool,if_neg Bool.false_ne_true]
  exact hK _ (m1.trans m2)
 |true=>
  rw[hm]at hK
  rw[ifB_bool,if_pos rfl]
  refine rvS (by simp[-Int.natCast_add,go_sem,b2]<;>first|exact⟨rfl,rfl⟩|exact rfl) ?_
  refine rvS (by simp[-Int.natCast_add,go_sem,b2,spT2]<;>first|exact⟨rfl,rfl⟩|exact rfl) ?_
  refine ca_sprice (by have:=Sp.may_tick hm;omega) ?_
  exact hK _ (m1.trans m2)
theorem ca_isQty{s:Sp}{n:Int}{w:World}{K:Kont}(hf:s.Fit)(hK:∀w',Mod (λ_=>False) w w' →K (.bool (s.isQty n)) w'):Ca Tryz.prog 223 #[.agg (spC s).toArray,.int .i64 n] w K:=by
 apply ca223
 unfold F223
 obtain⟨w1,e1,b1,m1⟩:=boxSp s w
 refine rvS e1 ?_
 refine rx_bigS (spC s) 24 aSp nSp (spC_len s) (At.all b1) ?_
 refine ca_smayS hf λw2 m2=>?_
 have b2:=m2.hpk b1 id
 unfold Sp.isQty at hK
 cases hm:s.may with
 |false=>
  rw[hm]at hK
  rw[ifB_bool,if_neg Bool.false_ne_true]
  exact hK _ (m1.trans m2)
 |true=>
  rw[hm]at hK
  rw[ifB_bool,if_pos rfl]
  refine ca_swithin ?_
  have hlot:=Sp.may_tick hm
  have h0:¬s.lot=0:=by omega
  cases hn:amongB n 1 1000000 with
  |false=>
   rw[hn]at hK
   rw[ifB_bool,if_neg Bool.false_ne_true]
   exact hK _ (m1.trans m2)
  |true=>
   rw[hn]at hK
   have hnb:=of_decide_eq_true hn
   rw[ifB_bool,if_pos rfl]
   refine rvS (by simp[-Int.natCast_add,go_sem,b2]<;>first|exact⟨rfl,rfl⟩|exact rfl) ?_
   refine rvS (by simp[-Int.natCast_add,go_sem,b2,spT3]<;>first|exact⟨rfl,rfl⟩|exact rfl) ?_
   have e:IntKind.i64.wrap (n.tmod s.lot)=n.tmod s.lot:=by
    have h1:=Int.emod_nonneg n h0
    have h2:=Int.emod_lt_of_pos n (show 0<s.lot by omega)
    have h3:n.tmod s.lot=n%s.lot:=Int.tmod_eq_emod_of_nonneg (by omega)
    rw[h3,wrapI (by omega) (by omega)]
   refine rvS (v:=.int .i64 (n.tmod s.lot)) (w' :=w2) (by simp[go_sem,h0,e]) ?_
   refine rvS (v:=.bool (decide (n.tmod s.lot=0))) (w' :=w2) (by simp[go_sem];rw[Bool.eq_iff_iff];simp) ?_
   have:=hK _ (m1.trans m2)
   simpa using this
structure Ct where
 spec:Sp
 st:Int
 price:Int
 deriving DecidableEq
def Ct.Fit(k:Ct):Prop:=k.spec.Fit∧(0≤k.st∧k.st<256)∧R64' k.price
def ctC(k:Ct):List Value:=spC k.spec++[.int .u8 k.st,.int .i64 k.price]
theorem ctC_len(k:Ct):(ctC k).length=27:=by simp[ctC,spC_len]
theorem ctC_one(k:Ct):(ctC k).all (·.oneCell')=true:=by
 rw[ctC,List.all_append,spC_one];rfl
theorem ctG25(k:Ct)(post:List Value):(ctC k++post)[25]? =some (.int .u8 k.st):=by
 rw[List.getElem?_append_left (by rw[ctC_len];omega),ctC,List.getElem?_append_right (by rw[spC_len];omega),spC_len];rfl
theorem ctG26(k:Ct)(post:List Value):(ctC k++post)[26]? =some (.int .i64 k.price):=by
 rw[List.getElem?_append_left (by rw[ctC_len];omega),ctC,List.getElem?_append_right (by rw[spC_len];omega),spC_len];rfl
end Go.Proofs

