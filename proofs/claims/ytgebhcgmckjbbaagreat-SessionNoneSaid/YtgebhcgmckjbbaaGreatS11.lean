/- Part of a proof. -/
import Derived.Ground.SlsfProg
import Derived.Test.YtgebhcgmckjbbaaGreatS10
set_option linter.all false
namespace Go.Proofs
open Go Go.Vc Go.Shelf Go.RowKit Go.Lib Go.Sort
theorem dk_{p:Prop}(h:p:=by first|kernel_rfl|(intro _;kernel_rfl)):p:=h
theorem de_{f:FuncId}{B:Func}(h:((Tryz.prog.funcs[f]?.elim "" (·.name))== "runtime.NumGoroutine")=false:=by kernel_rfl)(g:Tryz.prog.funcs[f]? =some {B with name:=Tryz.prog.funcs[f]?.elim "" (·.name)}:=by kernel_rfl):Bears Tryz.prog f B:=⟨_,h,g⟩
def Tryz.sortAc_ren:Ren:=⟨λ|6=>139|15=>230|14=>229|28=>283|29=>284|20=>275|21=>276|22=>277|23=>278|24=>279|25=>280|26=>281|27=>282|46=>313|47=>314|48=>315|49=>316|50=>317|57=>353|n=>n,λ|22=>44|24=>92|25=>241|3=>3|39=>249|0=>0|53=>35|55=>27|4=>4|46=>385|45=>384|50=>292|5=>5|9=>9|66=>421|70=>424|76=>453|77=>454|n=>n,λn=>n⟩
theorem Tryz.sortAc:SlLaysF0.n6 Tryz.prog Tryz.sortAc_ren:=by constructor<;>first|exact dk_|exact de_
def Tryz.sortPo_ren:Ren:=⟨λ|6=>233|15=>230|14=>285|28=>283|29=>284|20=>318|21=>319|22=>320|23=>321|24=>322|25=>323|26=>324|27=>325|46=>354|47=>314|48=>315|49=>355|50=>356|57=>370|n=>n,λ|22=>46|24=>112|25=>330|3=>3|39=>249|0=>0|53=>35|55=>27|4=>4|46=>385|45=>384|50=>292|5=>5|9=>9|66=>421|70=>424|76=>453|77=>454|n=>n,λn=>n⟩
theorem Tryz.sortPo:SlLaysF0.n6 Tryz.prog Tryz.sortPo_ren:=by constructor<;>first|exact dk_|exact de_
end Go.Proofs
namespace Go.Proofs
open Go Go.Vc Go.Sort
theorem grow_alloc2(W:World)(o o' :Obj):∃q os,(W.alloc o).alloc o' =grow (W.drewN q) os:=
 ⟨0,#[o]++ #[o'],by rw[alloc_eq_grow,alloc_eq_grow,grow_grow];rfl⟩
def cmpAc(x y:Ac):Int:=if x.num<y.num then -1 else 1
def cmpPo(x y:Po):Int:=if klt x.key y.key then -1 else if x=y then 0 else 1
theorem ltAc(x y:Ac):ltOf cmpAc x y=decide (x.num<y.num):=by
 unfold ltOf cmpAc
 split<;>simp_all
theorem ltPo(x y:Po):ltOf cmpPo x y=klt x.key y.key:=by
 unfold ltOf cmpPo
 cases h:klt x.key y.key
 ·by_cases h2:x=y<;>simp[h2]
 ·simp
theorem swoAc:SWO (ltOf cmpAc) where
 irrefl x:=by rw[ltAc];simp
 trans x y z h1 h2:=by rw[ltAc]at*;simp at*;omega
 ntrans x y z h1 h2:=by rw[ltAc]at*;simp at*;omega
theorem swoPo:SWO (ltOf cmpPo) where
 irrefl x:=by rw[ltPo];exact klt_irr
 trans x y z h1 h2:=by rw[ltPo]at*;exact klt_trans h1 h2
 ntrans x y z h1 h2:=by
  rw[ltPo]at*
  rw[Bool.eq_false_iff,Ne,klt_iff]at*;omega
theorem ca_cmpAc(x y:Ac)(W:World):Ca Tryz.prog 140 #[.agg (cellsAc x).toArray,.agg (cellsAc y).toArray] W λv w' =>v=.int .i64 (cmpAc x y)∧∃q os,w' =grow (W.drewN q) os:=by
 apply ca140
 unfold F140
 simp[go_sem,cellsAc]
 unfold cmpAc
 split
 ·exact⟨rfl,grow_alloc2 ..⟩
 ·exact⟨rfl,grow_alloc2 ..⟩
theorem ca_cmpPo(x y:Po)(W:World):Ca Tryz.prog 234 #[.agg (cellsPo x).toArray,.agg (cellsPo y).toArray] W λv w' =>v=.int .i64 (cmpPo x y)∧∃q os,w' =grow (W.drewN q) os:=by
 apply ca234
 unfold F234
 simp[go_sem,cellsPo]
 generalize hw1:World.alloc _ _=w1
 have hgr:∃q os,w1=grow (W.drewN q) os:=by subst hw1;exact grow_alloc2 ..
 have hx:hp w1 W.heap.size=some (.cells #[.int .u32 x.c,.int .u32 x.a,.int .i64 x.q,.int .i64 x.b] 112 (0,0)):=by subst hw1;simp[go_sem]
 have hy:hp w1 (W.heap.size+1)=some (.cells #[.int .u32 y.c,.int .u32 y.a,.int .i64 y.q,.int .i64 y.b] 112 (0,0)):=by subst hw1;simp[go_sem]
 refine JoinW.at (λs W' =>s=(.bool (klt x.key y.key),())∧W' =w1) ?_ ?_
 ·simp[go_sem,hp_of hx,hp_of hy]
  unfold klt Po.key
  by_cases h1:x.c<y.c
  ·simp[h1]
  ·by_cases h2:x.c=y.c
   ·simp[h1,h2]
   ·simp[h1,h2]
 rintro _ w1 ⟨rfl,rfl⟩
 unfold J234_0
 intro _
 cases hk:klt x.key y.key
 ·simp[go_sem,hp_of hx,hp_of hy]
  have hxy:x=y↔x.c=y.c∧x.a=y.a∧x.q=y.q∧x.b=y.b:=by
   obtain⟨c,a,q,b⟩:=x
   obtain⟨c',a',q',b'⟩:=y
   simp
  by_cases h1:x.c=y.c<;>by_cases h2:x.a=y.a<;>by_cases h3:x.q=y.q<;>by_cases h4:x.b=y.b<;>simp[h1,h2,h3,h4]<;>exact⟨by simp[cmpPo,hk,hxy,h1,h2,h3,h4],hgr⟩
 ·simp
  exact⟨by simp[cmpPo,hk],hgr⟩
theorem acE1:elemOk Tryz.prog 92 4 24=true:=by kernel_rfl
end Go.Proofs
namespace Go.Proofs
open Go Go.Vc Go.Sort
theorem ca_sortAc{w:World}{sl:Value}{n:Nat}{d:List Ac}{K:Kont}(ho:Own w 92 4 sl n (d.flatMap cellsAc))(hn:n<4611686018427387904)
  (hK:∀(w' :World) (d' :List Ac),Own w' 92 4 sl n (d'.flatMap cellsAc)→d'.Perm d→d'.Pairwise (λx y=>ltOf cmpAc y x=false)→Mod (inSl sl) w w' →K (.tuple #[]) w'):
  Ca Tryz.prog 139 #[sl,.func (.func 140) #[] #[]] w K:=
 ca_sortK (P:=Tryz.prog) (α:=Ac) Tryz.noNum Tryz.sortAc 3 (by kernel_rfl) (by kernel_rfl) cellsAc (λ_=>rfl) (λ_=>rfl) cmpAc swoAc 140 ca_cmpAc ho hn hK
theorem ca_told1Ac{y sl:Value}{b n:Nat}{T:TypeId}{xs:List Ac}(J:Nat→World→Prop)(Js:World→Prop){W:World}{K:Kont}(hb:hp W b=some (.cells #[sl] T (0,0)))(ho:Own W 92 4 sl n (xs.flatMap cellsAc))(hn:n<4611686018427387904)
  (h0:J 0 W)(hmod:∀i W W',J i W→Mod (λ_=>False) W W' →J i W')
  (hstep:∀i x W,xs[i]? =some x→J i W→∀K' :Kont,(∀W',J (i+1) W' →(∀b,inSl sl b→W'.heap[b]? =W.heap[b]?)→K' (.bool true) W')→(∀W',Js W' →K' (.bool false) W')→callV Tryz.prog y [acV x] W K')
  (hend:∀W,J xs.length W→K (.tuple #[]) W)(hex:∀W,Js W→K (.tuple #[]) W):Ca Tryz.prog 231 #[y,.pointer (some ⟨b,0,none⟩)] W K:=by
 have hln:xs.length=n:=by
  have:=ho.1
  rw[flat_len cellsAc 4 xs λx _=>rfl]at this
  omega
 obtain⟨sa,sc,rfl,hsc⟩:=ho.isSl
 apply ca231
 unfold F231
 simp[go_sem,hp_of hb]
 refine loopK (λs W' =>∃i:Nat,i≤n∧s=(.int .i64 i,())∧J i W' ∧Own W' 92 4 (.slice sa n sc) n (xs.flatMap cellsAc))
  (λs _=>match s.1 with| .int _ i=>n - i.toNat|_=>0) ⟨0,by omega,rfl,h0,ho⟩ ?_
 rintro⟨_,_⟩ W' ⟨i,hi,⟨⟩,hJ,hO⟩ KN hKN
 unfold L231_0
 intro _
 by_cases hlt:i<n
 ·obtain⟨b',cap,hsl,hAt⟩:=Own.elem hO hlt
  obtain⟨rfl,-,rfl⟩:sa=some ⟨b',0,none⟩∧True∧sc=cap:=by injection hsl with e1 e2 e3;exact⟨e1,trivial,e3⟩
  rw[flat_get cellsAc 4 _ _ (λ_ _=>rfl) (by omega)]at hAt
  obtain⟨C,e,fz,hC,hCg⟩:=hAt.get
  have hC0:=hCg 0 _ rfl
  have hC1:=hCg 1 _ rfl
  have hC2:=hCg 2 _ rfl
  have hC3:=hCg 3 _ rfl
  simp only[Nat.zero_add,Nat.add_zero]at hC0 hC1 hC2 hC3
  have hw1:IntKind.i64.wrap ((i:Int)+1)=((i+1:Nat):Int):=by rw[IntKind.wrap_i64];omega
  simp[-Int.natCast_add,go_sem,hlt,hC,hC0,hC1,hC2,hC3]
  have hx:xs[i]? =some xs[i]:=List.getElem?_eq_getElem (by omega)
  have mA:∀o,Mod (λ_=>False) W' (W'.alloc o):=λo=>(Mod.refl _ W').alloc o
  refine hstep i _ _ hx (hmod _ _ _ hJ (mA _)) _ (λW2 hJ2 hq=>?_) (λW2 hs=>?_)
  ·simp[-Int.natCast_add,go_sem,hw1]
   refine hKN _ _ ⟨i+1,by omega,rfl,hJ2,(hO.mod (mA _) λ_ _ h=>h).keep hq⟩ (by simp;omega)
  ·simp[go_sem]
   exact hex _ hs
 ·obtain rfl:i=n:=by omega
  simp[go_sem]
  exact hend _ (hln▸hJ)
theorem ca_sortPo{w:World}{sl:Value}{n:Nat}{d:List Po}{K:Kont}(ho:Own w 112 4 sl n (d.flatMap cellsPo))(hn:n<4611686018427387904)
  (hK:∀(w' :World) (d' :List Po),Own w' 112 4 sl n (d'.flatMap cellsPo)→d'.Perm d→d'.Pairwise (λx y=>ltOf cmpPo y x=false)→Mod (inSl sl) w w' →K (.tuple #[]) w'):
  Ca Tryz.prog 233 #[sl,.func (.func 234) #[] #[]] w K:=
 ca_sortK (P:=Tryz.prog) (α:=Po) Tryz.noNum Tryz.sortPo 3 (by kernel_rfl) (by kernel_rfl) cellsPo (λ_=>rfl) (λ_=>rfl) cmpPo swoPo 234 ca_cmpPo ho hn hK
theorem ca_told1Po{y sl:Value}{b n:Nat}{T:TypeId}{xs:List Po}(J:Nat→World→Prop)(Js:World→Prop){W:World}{K:Kont}(hb:hp W b=some (.cells #[sl] T (0,0)))(ho:Own W 112 4 sl n (xs.flatMap cellsPo))(hn:n<4611686018427387904)
  (h0:J 0 W)(hmod:∀i W W',J i W→Mod (λ_=>False) W W' →J i W')
  (hstep:∀i x W,xs[i]? =some x→J i W→∀K' :Kont,(∀W',J (i+1) W' →(∀b,inSl sl b→W'.heap[b]? =W.heap[b]?)→K' (.bool true) W')→(∀W',Js W' →K' (.bool false) W')→callV Tryz.prog y [poV x] W K')
  (hend:∀W,J xs.length W→K (.tuple #[]) W)(hex:∀W,Js W→K (.tuple #[]) W):Ca Tryz.prog 286 #[y,.pointer (some ⟨b,0,none⟩)] W K:=by
 have hln:xs.length=n:=by
  have:=ho.1
  rw[flat_len cellsPo 4 xs λx _=>rfl]at this
  omega
 obtain⟨sa,sc,rfl,hsc⟩:=ho.isSl
 apply ca286
 unfold F286
 simp[go_sem,hp_of hb]
 refine loopK (λs W' =>∃i:Nat,i≤n∧s=(.int .i64 i,())∧J i W' ∧Own W' 112 4 (.slice sa n sc) n (xs.flatMap cellsPo))
  (λs _=>match s.1 with| .int _ i=>n - i.toNat|_=>0) ⟨0,by omega,rfl,h0,ho⟩ ?_
 rintro⟨_,_⟩ W' ⟨i,hi,⟨⟩,hJ,hO⟩ KN hKN
 unfold L286_0
 intro _
 by_cases hlt:i<n
 ·obtain⟨b',cap,hsl,hAt⟩:=Own.elem hO hlt
  obtain⟨rfl,-,rfl⟩:sa=some ⟨b',0,none⟩∧True∧sc=cap:=by injection hsl with e1 e2 e3;exact⟨e1,trivial,e3⟩
  rw[flat_get cellsPo 4 _ _ (λ_ _=>rfl) (by omega)]at hAt
  obtain⟨C,e,fz,hC,hCg⟩:=hAt.get
  have hC0:=hCg 0 _ rfl
  have hC1:=hCg 1 _ rfl
  have hC2:=hCg 2 _ rfl
  have hC3:=hCg 3 _ rfl
  simp only[Nat.zero_add,Nat.add_zero]at hC0 hC1 hC2 hC3
  have hw1:IntKind.i64.wrap ((i:Int)+1)=((i+1:Nat):Int):=by rw[IntKind.wrap_i64];omega
  simp[-Int.natCast_add,go_sem,hlt,hC,hC0,hC1,hC2,hC3]
  have hx:xs[i]? =some xs[i]:=List.getElem?_eq_getElem (by omega)
  have mA:∀o,Mod (λ_=>False) W' (W'.alloc o):=λo=>(Mod.refl _ W').alloc o
  refine hstep i _ _ hx (hmod _ _ _ hJ (mA _)) _ (λW2 hJ2 hq=>?_) (λW2 hs=>?_)
  ·simp[-Int.natCast_add,go_sem,hw1]
   refine hKN _ _ ⟨i+1,by omega,rfl,hJ2,(hO.mod (mA _) λ_ _ h=>h).keep hq⟩ (by simp;omega)
  ·simp[go_sem]
   exact hex _ hs
 ·obtain rfl:i=n:=by omega
  simp[go_sem]
  exact hend _ (hln▸hJ)
end Go.Proofs
namespace Go.Proofs
open Go Go.Vc Go.Sort
theorem sortedA{d l:List Ac}(hl:SortA l)(hp:d.Perm l)(hd:d.Pairwise λx y=>ltOf cmpAc y x=false):d=l:=by
 refine hp.eq_of_pairwise (λa b ha hb h1 h2=>?_) hd (hl.imp λh=>?_)
 ·rw[ltAc]at h1 h2
  simp only[decide_eq_false_iff_not]at h1 h2
  have ha' :=hp.mem_iff.1 ha
  have e:a.num=b.num:=by omega
  have h3:=Led.find_some (S:=⟨0,l,[]⟩) hl ha'
  have h4:=Led.find_some (S:=⟨0,l,[]⟩) hl hb
  rw[e,h4]at h3
  exact(Option.some.inj h3).symm
 ·rw[ltAc]
  simp only[decide_eq_false_iff_not]
  omega
theorem sortedP{d l:List Po}(hl:SortP l)(hp:d.Perm l)(hd:d.Pairwise λx y=>ltOf cmpPo y x=false):d=l:=by
 refine hp.eq_of_pairwise (λa b ha hb h1 h2=>?_) hd (hl.imp λh=>?_)
 ·rw[ltPo]at h1 h2
  have ha' :=hp.mem_iff.1 ha
  have e:a.key=b.key:=by
   rcases klt_tri a.key b.key with h|h|h
   ·rw[h]at h2;cases h2
   ·exact h
   ·rw[h]at h1;cases h1
  have h3:=Led.pos_some (S:=⟨0,[],l⟩) hl ha'
  have h4:=Led.pos_some (S:=⟨0,[],l⟩) hl hb
  rw[e,h4]at h3
  exact(Option.some.inj h3).symm
 ·rw[ltPo]
  exact klt_asymm h
theorem push1{e ty tu:TypeId}{k by_:Nat}{α:Type}{enc:α→List Value}{w:World}{v:Value}{d:List α}{x:α}{K:Kont}(ht:Tryz.prog.underlying tu=some (.slice e))(hE:elemOk Tryz.prog e (k+1) by_=true)(hx:(enc x).length=k+1)(h1:(enc x).all (·.oneCell')=true)(hk:k<1000)(hby:by_≤10000)
  (ho:Own w e (k+1) v d.length (d.flatMap enc))(hd:d.length<4294967296)
  (hK:∀v' w',Own w' e (k+1) v' (d++[x]).length ((d++[x]).flatMap enc)→Mod (inSl v) w w' →(∀b,inSl v' b→inSl v b∨w.heap.size≤b)→K v' w'):
  rx Tryz.prog (xLit tu 1 [(0,.agg (enc x).toArray)]) w λv36 w37=>rx Tryz.prog (xAppend #[tu,tu] ty [v,v36]) w37 K:=by
 refine rx_lit (e:=e) (sz:=k+1) [.agg (enc x).toArray] ht (elemT_of hE) rfl rfl (by simp[Value.cells,hx]) (by omega) ?_
 have mA:∀o,Mod (λ_=>False) w (w.alloc o):=λo=>(Mod.refl _ w).alloc o
 have hr:Rd (w.alloc (.cells (([Value.agg (enc x).toArray].flatMap (·.cells.toList)).toArray) e)) (k+1) (.slice (some ⟨w.heap.size,0,none⟩) 1 1) 1 (enc x):=by
  refine⟨by rw[hx];omega,.inr ⟨_,0,1,rfl,Nat.le_refl _,⟨_,_,_,by rw[heap_alloc,if_pos rfl],?_,?_⟩⟩⟩
  ·simp[Value.cells]
  ·simp[Value.cells]
 refine rx_append (n:=d.length) (m:=1) ht ht (elemT_of hE) (ho.mod (mA _) λ_ _ h=>h) hr h1 ?_ λv' w' o' m' n' =>?_
 ·have:(d.length+1)*by_≤4294967296*10000:=Nat.mul_le_mul (by omega) hby
  omega
 ·refine hK v' w' ?_ (((mA _).mono λ_ _ h=>h.elim).trans m') λb hb=>?_
  ·simpa using o'
  ·rcases n' b hb with h|h
   ·exact .inl h
   ·rw[World.size_alloc]at h;exact .inr (by omega)
theorem tSlA:Tryz.prog.underlying 44=some (.slice 92):=by kernel_rfl
theorem tSlP:Tryz.prog.underlying 46=some (.slice 112):=by kernel_rfl
theorem it_accounts{l b:Nat}{S:Led}{T:TypeId}:IterN Tryz.prog (.func (.func 138) #[] #[.pointer (some ⟨b,0,none⟩)]) (S.all.map λa=>[acV a]) (λW=>hp W b=some (.cells #[lptr l] T (0,0))∧∃F,LedQ W l F S):=by
 refine⟨⟨_,_,_,rfl,?_⟩⟩
 rintro y J Js W K ⟨hb,F,hq⟩ hQ hmod hstep hend hex
 have hq0:=hq
 obtain⟨⟨m1,m2,A,B,h1,h2,h3,h4,h5,h6,h7⟩,hok⟩:=hq
 show Ca Tryz.prog _ #[y,.pointer (some ⟨b,0,none⟩)] W K
 apply ca138
 unfold F138
 refine JoinW.at (λs W' =>∃(d:List Ac) (v:Value),s=(v,())∧Own W' 92 4 v d.length (d.flatMap cellsAc)∧d.Perm S.all∧Mod (λ_=>False) W W' ∧∀b,inSl v b→W.heap.size≤b) ?_ ?_
 ·simp[go_sem,hp_of hb]
  refine ca_ready hq0 ?_
  simp[go_sem,hp_of hb,lptr,hp_of h1]
  refine rx_range uMapA h2 λw1 it1 mod1=>?_
  generalize hg:W.heap.size=it at it1
  refine loopK (λs W' =>∃(d:List Ac) (v:Value) (rest:List (Int×Ac)),s=(v,())∧Own W' 92 4 v d.length (d.flatMap cellsAc)∧MapIt encU acV W' it m1 rest∧(d++(rest.filter λp=>decide (p.1≠0)).map (·.2)).Perm S.all∧Mod (λ_=>False) W W' ∧∀b,inSl v b→it<b)
   (λs W=>itLeft it m1 W) ⟨[],_,A,rfl,Own.nil ..,it1,?_,mod1,λb hb=>by cases hb⟩ ?_
  ·have:=(h4.filter λp=>decide (p.1≠0)).map (·.2)
   refine this.trans (List.Perm.of_eq ?_)
   simp only[Led.accs]
   rw[List.filter_cons_of_neg (by simp),List.filter_eq_self.2 ?_,List.map_map]
   ·exact List.map_id _
   ·intro p hp
    obtain⟨a,ha,rfl⟩:=List.mem_map.1 hp
    have:=(hok.acc a ha).1
    simp;omega
  rintro⟨v,_⟩ W1 ⟨d,_,rest,⟨⟩,oW,itW,hp,mW,hv⟩ KN hKN
  unfold L138_0
  intro _
  refine rx_next itW ?_ ?_
  ·intro h0 w' m' hh
   subst h0
   simp[go_sem]
   exact⟨d,oW.mod m' λ_ _ h=>h,by simpa using hp,mW.trans m',λb hb=>by have:=hv b hb;omega⟩
  ·intro i p hi w' it' cur' m' hsz
   simp[go_sem]
   refine rx_entry cur' ?_
   simp[go_sem,acV,encU]
   have hpe:=perm_eraseIdx hi
   have mA:∀o,Mod (λ_=>False) W (w'.alloc o):=λo=>(mW.on m' λb hb=>.inr (by subst hb;omega)).alloc o
   have itA:∀o,MapIt encU acV (w'.alloc o) it m1 (rest.eraseIdx i):=λo=>it'.mod ((Mod.refl (λ_=>False) w').alloc o) id id
   have oA:∀o,Own (w'.alloc o) 92 4 v d.length (d.flatMap cellsAc):=λo=>(oW.mod m' λb hb e=>by have:=hv b hb;omega).mod ((Mod.refl (λ_=>False) w').alloc o) λ_ _ h=>h
   have hle:∀W',MapIt encU acV W' it m1 (rest.eraseIdx i)→itLeft it m1 W' <itLeft it m1 W1:=λW' h=>by
    rw[h.left,itW.left,List.length_eraseIdx]
    have:i<rest.length:=(List.getElem?_eq_some_iff.1 hi).1
    rw[if_pos this];omega
   have hdl:d.length≤64:=by
    have h1:=hp.length_eq
    have h2:=hok.len
    simp only[List.length_append]at h1
    omega
   by_cases hz:p.1=0
   ·rw[if_pos hz]
    refine hKN _ _ ⟨d,_,_,rfl,oA _,itA _,?_,mA _,hv⟩ (hle _ (itA _))
    refine(List.Perm.append_left d ?_).trans hp
    have:=(hpe.filter λp=>decide (p.1≠0)).map (·.2)
    rw[List.filter_cons_of_neg (by simp[hz])]at this
    exact this.symm
   ·rw[if_neg hz]
    refine push1 (d:=d) (enc:=cellsAc) (x:=p.2) (k:=3) tSlA acE1 rfl rfl (by omega) (by omega) (oA _) (by omega) λv' w'' o' m'' n' =>?_
    have hitv:¬inSl v it:=λh=>by have:=hv it h;omega
    have hmv:¬inSl v m1:=λh=>by have:=hv m1 h;have:=h2.lt;omega
    refine hKN _ _ ⟨d++[p.2],v',_,rfl,o',(itA _).mod m'' hmv hitv,?_,(mA _).on m'' λb hb=>.inr (by have:=hv b hb;omega),λb hb=>?_⟩ (hle _ ((itA _).mod m'' hmv hitv))
    ·have:=(hpe.filter λp=>decide (p.1≠0)).map (·.2)
     rw[List.filter_cons_of_pos (by simpa using hz),List.map_cons]at this
     rw[List.append_assoc]
     exact(List.Perm.append_left d this.symm).trans hp
    ·rcases n' b hb with h|h
     ·exact hv b h
     ·rw[World.size_alloc,hsz]at h
      have:=itW.lt.2
      omega
 rintro _ W1 ⟨d,v,rfl,oW,hp,mW,hv⟩
 unfold J138_1
 intro _
 have hdl:d.length≤64:=by
  have h1:=hp.length_eq
  have h2:=hok.len
  omega
 refine ca_sortAc oW (by omega) λw2 d' o2 p2 s2 m2' =>?_
 obtain rfl:d' =S.all:=sortedA hok.sa (p2.trans hp) s2
 obtain⟨sa,sc,rfl,hsc⟩:=o2.isSl
 apply ca141
 unfold F141
 simp[go_sem]
 have mW2:Mod (λ_=>False) W w2:=mW.on m2' λb hb=>.inr (hv b hb)
 have mA:∀o,Mod (λ_=>False) W (w2.alloc o):=λo=>mW2.alloc o
 refine ca_told1Ac (n:=d.length) (sl:=.slice sa d.length sc) (T:=44) (J (inSl (.slice sa d.length sc))) Js (by simp[go_sem]) (o2.mod ((Mod.refl (λ_=>False) w2).alloc _) λ_ _ h=>h) (by omega) (hQ _ _ (mA _) λb hb=>⟨hv b hb,?_⟩) (hmod _) ?_ ?_ hex
 ·have:=o2.lt hb
  rw[World.size_alloc];omega
 ·intro i x W' hx hJ K' hT hF
  exact hstep _ i [acV x] W' (by simp[hx]) hJ K' hT hF
 ·intro W' hJ
  exact hend _ W' (by simpa using hJ)
end Go.Proofs
namespace Go.Proofs
open Go Go.Vc Go.Sort
theorem it_some{l b b2 f:Nat}{cap:Array Value}{S:Led}{T T2:TypeId}{want:Po→Bool}{Wk:World→Prop}(hWk:∀W W',Wk W→Mod (λ_=>False) W W' →Wk W')
  (hwant:∀p W (K:Kont),Wk W→(∀W',Mod (λ_=>False) W W' →K (.bool (want p)) W')→Ca Tryz.prog f ⟨poV p::cap.toList⟩ W K):
  IterN Tryz.prog (.func (.func 232) #[] #[.pointer (some ⟨b,0,none⟩),.pointer (some ⟨b2,0,none⟩)]) ((S.held.filter want).map λa=>[poV a])
   (λW=>hp W b=some (.cells #[lptr l] T (0,0))∧hp W b2=some (.cells #[.func (.func f) #[] cap] T2 (0,0))∧Wk W∧S.held.length<4294967295∧∃F,LedQ W l F S):=by
 refine⟨⟨_,_,_,rfl,?_⟩⟩
 rintro y J Js W K ⟨hb,hb2,hwk,hlen,F,hq⟩ hQ hmod hstep hend hex
 have hq0:=hq
 obtain⟨⟨m1,m2,A,B,h1,h2,h3,h4,h5,h6,h7⟩,hok⟩:=hq
 show Ca Tryz.prog _ #[y,.pointer (some ⟨b,0,none⟩),.pointer (some ⟨b2,0,none⟩)] W K
 apply ca232
 unfold F232
 refine JoinW.at (λs W' =>∃(d:List Po) (v:Value),s=(v,())∧Own W' 112 4 v d.length (d.flatMap cellsPo)∧d.Perm (S.held.filter want)∧Mod (λ_=>False) W W' ∧∀b,inSl v b→W.heap.size≤b) ?_ ?_
 ·simp[go_sem,hp_of hb]
  refine ca_ready hq0 ?_
  simp[go_sem,hp_of hb,lptr,hp_of h1]
  refine rx_range uMapP h3 λw1 it1 mod1=>?_
  generalize hg:W.heap.size=it at it1
  refine loopK (λs W' =>∃(d:List Po) (v:Value) (rest:List ((Int×Int)×Po)),s=(v,())∧Own W' 112 4 v d.length (d.flatMap cellsPo)∧MapIt encKey poV W' it m2 rest∧(d++(rest.map (·.2)).filter want).Perm (S.held.filter want)∧Mod (λ_=>False) W W' ∧∀b,inSl v b→it<b)
   (λs W=>itLeft it m2 W) ⟨[],_,B,rfl,Own.nil ..,it1,?_,mod1,λb hb=>by cases hb⟩ ?_
  ·have:=(h5.map (·.2)).filter want
   refine this.trans (List.Perm.of_eq ?_)
   simp only[Led.poss,List.map_map]
   congr 1
   exact List.map_id _
  rintro⟨v,_⟩ W1 ⟨d,_,rest,⟨⟩,oW,itW,hpm,mW,hv⟩ KN hKN
  unfold L232_0
  intro _
  refine rx_next itW ?_ ?_
  ·intro h0 w' m' hh
   subst h0
   simp[go_sem]
   exact⟨d,oW.mod m' λ_ _ h=>h,by simpa using hpm,mW.trans m',λb hb=>by have:=hv b hb;omega⟩
  ·intro i p hi w' it' cur' m' hsz
   simp[go_sem]
   refine rx_entry cur' ?_
   have mA0:∀o,Mod (λ_=>False) W (w'.alloc o):=λo=>(mW.on m' λb hb=>.inr (by subst hb;omega)).alloc o
   have hb2' :=λo=>(mA0 o).keep hb2 id
   have hne2:b2≠w'.heap.size:=by
    have h1:=lt_of_heap hb2
    have h2:=mW.size
    omega
   have hb2w:w'.heap[b2]? =some (.cells #[.func (.func f) #[] cap] T2 (0,0)):=(mW.on (F:=λ_=>False) m' λb hb=>.inr (by subst hb;omega)).keep hb2 id
   simp[go_sem,poV,encKey,hp_of hb2w,hne2]
   have hpe:=perm_eraseIdx hi
   generalize hw2:World.alloc _ _=w2
   have mA:Mod (λ_=>False) W w2:=by subst hw2;exact mA0 _
   have hloc:hp w2 w'.heap.size=some (.cells #[.int .u32 p.2.c,.int .u32 p.2.a,.int .i64 p.2.q,.int .i64 p.2.b] 112 (0,0)):=by subst hw2;simp[go_sem]
   have m02:Mod (λ_=>False) w' w2:=by subst hw2;exact(Mod.refl _ w').alloc _
   refine hwant p.2 w2 _ (hWk _ _ hwk mA) λw3 m3=>?_
   have hloc3:=m3.keep hloc id
   have m03:=m02.trans m3
   have mA3:=mA.trans m3
   have it3:MapIt encKey poV w3 it m2 (rest.eraseIdx i):=it'.mod m03 id id
   have o3:Own w3 112 4 v d.length (d.flatMap cellsPo):=(oW.mod m' λb hb e=>by have:=hv b hb;omega).mod m03 λ_ _ h=>h
   have hle:∀W',MapIt encKey poV W' it m2 (rest.eraseIdx i)→itLeft it m2 W' <itLeft it m2 W1:=λW' h=>by
    rw[h.left,itW.left,List.length_eraseIdx]
    have:i<rest.length:=(List.getElem?_eq_some_iff.1 hi).1
    rw[if_pos this];omega
   have hdl:d.length<4294967295:=by
    have h1:=hpm.length_eq
    have h2:=List.length_filter_le want S.held
    simp only[List.length_append]at h1
    omega
   cases hz:want p.2
   ·simp
    refine hKN _ _ ⟨d,_,_,rfl,o3,it3,?_,mA3,hv⟩ (hle _ it3)
    refine(List.Perm.append_left d ?_).trans hpm
    have:=(hpe.map (·.2)).filter want
    rw[List.map_cons,List.filter_cons_of_neg (by simp[hz])]at this
    exact this.symm
   ·simp[go_sem,hp_of hloc3]
    refine push1 (d:=d) (enc:=cellsPo) (x:=p.2) (k:=3) tSlP poE1 rfl rfl (by omega) (by omega) o3 (by omega) λv' w'' o' m'' n' =>?_
    have hitv:¬inSl v it:=λh=>by have:=hv it h;omega
    have hmv:¬inSl v m2:=λh=>by have:=hv m2 h;have:=h3.lt;omega
    refine hKN _ _ ⟨d++[p.2],v',_,rfl,o',it3.mod m'' hmv hitv,?_,mA3.on m'' λb hb=>.inr (by have:=hv b hb;omega),λb hb=>?_⟩ (hle _ (it3.mod m'' hmv hitv))
    ·have:=(hpe.map (·.2)).filter want
     rw[List.map_cons,List.filter_cons_of_pos (by simpa using hz)]at this
     rw[List.append_assoc]
     exact(List.Perm.append_left d this.symm).trans hpm
    ·rcases n' b hb with h|h
     ·exact hv b h
     ·have:=it3.lt.2
      have:=m03.size
      have:=itW.lt.2
      omega
 rintro _ W1 ⟨d,v,rfl,oW,hp,mW,hv⟩
 unfold J232_1
 intro _
 have hdl:d.length<4294967295:=by
  have h1:=hp.length_eq
  have h2:=List.length_filter_le want S.held
  omega
 refine ca_sortPo oW (by omega) λw2 d' o2 p2 s2 m2' =>?_
 obtain rfl:d' =S.held.filter want:=sortedP (hok.sp.filter want) (p2.trans hp) s2
 obtain⟨sa,sc,rfl,hsc⟩:=o2.isSl
 apply ca235
 unfold F235
 simp[go_sem]
 have mW2:Mod (λ_=>False) W w2:=mW.on m2' λb hb=>.inr (hv b hb)
 have mA:∀o,Mod (λ_=>False) W (w2.alloc o):=λo=>mW2.alloc o
 refine ca_told1Po (n:=d.length) (sl:=.slice sa d.length sc) (T:=46) (J (inSl (.slice sa d.length sc))) Js (by simp[go_sem]) (o2.mod ((Mod.refl (λ_=>False) w2).alloc _) λ_ _ h=>h) (by omega) (hQ _ _ (mA _) λb hb=>⟨hv b hb,?_⟩) (hmod _) ?_ ?_ hex
 ·have:=o2.lt hb
  rw[World.size_alloc];omega
 ·intro i x W' hx hJ K' hT hF
  exact hstep _ i [poV x] W' (by simp[hx]) hJ K' hT hF
 ·intro W' hJ
  exact hend _ W' (by simpa using hJ)
structure Tells(gv:Value)(xs:List (List Value))(w:World):Prop where
 out:∃Ok,IterN Tryz.prog gv xs Ok∧∀W,Mod (λ_=>False) w W→Ok W
 fn:∃f cap,gv=.func (.func f) #[] cap
theorem ca_accounts{w:World}{l:Nat}{F:Nat→Prop}{S:Led}{K:Kont}(h:LedQ w l F S)
  (hK:∀gv w',Tells gv (S.all.map λa=>[acV a]) w' →Mod (λ_=>False) w w' →K gv w'):Ca Tryz.prog 55 #[lptr l] w K:=by
 apply ca55
 unfold F55
 simp[go_sem,lptr]
 refine hK _ _ ⟨⟨_,it_accounts (l:=l) (b:=w.heap.size) (T:=62),λW m=>⟨m.keep ?_ id,F,h.mod (((Mod.refl (λ_=>False) w).alloc _).trans m) λ_ _ h=>h⟩⟩,_,_,rfl⟩ ((Mod.refl _ w).alloc _)
 rw[heap_alloc,if_pos rfl]
 rfl
theorem ca_holders{w:World}{l:Nat}{F:Nat→Prop}{S:Led}{K:Kont}{c:Int}(h:LedQ w l F S)(hl:S.held.length<4294967295)
  (hK:∀gv w',Tells gv ((S.holders c).map λa=>[poV a]) w' →Mod (λ_=>False) w w' →K gv w'):Ca Tryz.prog 56 #[lptr l,.int .u32 c] w K:=by
 apply ca56
 unfold F56
 simp[go_sem]
 apply ca142
 unfold F142
 simp[go_sem,lptr]
 generalize hw2:World.alloc _ _=w2
 have m2:Mod (λ_=>False) w w2:=by subst hw2;exact(((Mod.refl _ w).alloc _).alloc _).alloc _
 have g0:hp w2 w.heap.size=some (.cells #[.int .u32 c] 35 (0,0)):=by subst hw2;simp[go_sem]
 have g1:hp w2 (w.heap.size+1)=some (.cells #[lptr l] 62 (0,0)):=by subst hw2;simp[go_sem,lptr]
 have g2:hp w2 (w.heap.size+2)=some (.cells #[.func (.func 143) #[] #[.pointer (some ⟨w.heap.size,0,none⟩)]] 244 (0,0)):=by subst hw2;simp[go_sem]
 refine hK _ _ ⟨⟨_,it_some (l:=l) (b:=w.heap.size+1) (b2:=w.heap.size+2) (f:=143) (cap:=#[.pointer (some ⟨w.heap.size,0,none⟩)]) (T:=62) (T2:=244) (Wk:=λW=>hp W w.heap.size=some (.cells #[.int .u32 c] 35 (0,0)))
  (want:=λp=>decide (p.c=c)) (λW W' hh m=>m.keep hh id) ?_,λW m=>⟨m.keep g1 id,m.keep g2 id,m.keep g0 id,hl,F,h.mod (m2.trans m) λ_ _ h=>h⟩⟩,_,_,rfl⟩ m2
 intro p W K hW hK
 apply ca143
 unfold F143
 have hlt:=lt_of_heap hW
 simp[go_sem,poV,hp_of hW,olds hlt]
 have:=hK _ ((Mod.refl _ W).alloc (.cells #[.int .u32 p.c,.int .u32 p.a,.int .i64 p.q,.int .i64 p.b] 112))
 rw[show(p.c==c)=decide (p.c=c) by rw[Bool.eq_iff_iff];simp]
 exact this
end Go.Proofs
namespace Go.Proofs
open Go Go.Vc Go.Sort
theorem retD_hp{d:Nat}{ds:List Nat}{w:World}{K:World→Prop}:retD (d::ds) w K↔hp w d=some (.deferred (some []))∧retD ds (w.putObj d (.deferred none)) K:=Iff.rfl
theorem retD_nil{w:World}{K:World→Prop}:retD [] w K↔K w:=Iff.rfl
end Go.Proofs
namespace Go.Proofs
open Go Go.Vc
attribute [local congr] Ca_congV
theorem retV{W:World}{K:World→Prop}:∀{ds:List Nat},ds.Nodup→(∀d∈ds,hp W d=some (.deferred (some [])))→(∀W',Mod (λb=>b∈ds) W W' →K W')→retD ds W K:=by
 intro ds
 induction ds generalizing W with
 |nil=>intro _ _ hK;exact retD_nil.2 (hK W (Mod.refl _ _))
 |cons d ds ih=>
  intro hn hd hK
  obtain⟨h1,h2⟩:=List.nodup_cons.1 hn
  refine retD_hp.2 ⟨hd d List.mem_cons_self,ih h2 (λx hx=>?_) λW' m=>hK W' ?_⟩
  ·rw[hp_putObj,if_neg (λe:x=d=>h1 (e▸hx))]
   exact hd x (List.mem_cons_of_mem _ hx)
  ·exact((Mod.refl (λb=>b∈d::ds) W).putObj (b:=d) (.inl List.mem_cons_self) _).trans (m.mono λb _ hb=>List.mem_cons_of_mem _ hb)
theorem it_sall{s b:Nat}{buy:Bool}{l:List Od}{T:TypeId}:IterN Tryz.prog (.func (.func 236) #[] #[.pointer (some ⟨b,0,none⟩)]) (l.map λo=>[odV o]) (λW=>hp W b=some (.cells #[sptr s] T (0,0))∧∃F,SideQ W s F buy l):=by
 refine⟨⟨_,_,_,rfl,?_⟩⟩
 rintro y J Js W K ⟨hb,F,hq⟩ hQ hmod hstep hend hex
 show Ca Tryz.prog _ #[y,.pointer (some ⟨b,0,none⟩)] W K
 apply ca236
 unfold F236
 refine rvS (v:=sptr s) (w' :=W) (by simp[go_sem,hb]) ?_
 refine ca_sready hq ?_
 refine rvS (v:=.bool false) (by simp[go_sem]<;>first|exact⟨rfl,rfl⟩|exact rfl) ?_
 rw[ifB_bool,if_neg Bool.false_ne_true]
 obtain⟨⟨sl,c1,c2,c3,c4⟩,c5,c6⟩:=id hq
 refine rvS (v:=sptr s) (w' :=W) (by simp[go_sem,hb]) ?_
 simp only[sptr,nilK_ptr]
 refine rvS (by simp[-Int.natCast_add,go_sem,c1]<;>first|exact⟨rfl,rfl⟩|exact rfl) ?_
 refine rvS (by simp[-Int.natCast_add,go_sem,c1]<;>first|exact⟨rfl,rfl⟩|exact rfl) ?_
 refine ca_cloneOd (l:=l) c2.rd (by omega) λs2 w2 o2 m2 n2=>?_
 obtain⟨sa,sc,hs2,-⟩:=o2.isSl
 refine rnS (v:=.int .i64 (l.length:Int)) (w' :=w2) (by rw[hs2];simp[go_sem]) ?_
 have hJ0:J (inSl s2) 0 w2:=hQ _ _ m2 λb hb=>⟨n2 b hb,o2.lt hb⟩
 refine loopV (λst W' =>∃i:Nat,i≤l.length∧st=(.int .i64 i,())∧J (inSl s2) i W' ∧OdS W' s2 l)
  (λst _=>match st.1 with| .int _ i=>l.length - i.toNat|_=>0) ⟨0,by omega,rfl,hJ0,o2⟩ ?_
 rintro⟨_,_⟩ W' ⟨i,hi,⟨⟩,hJ,hO⟩ KN hKN
 unfold L236_0
 intro _
 by_cases hlt:i<l.length
 ·have hlt' :(i:Int)<(l.length:Int):=by omega
  refine rvS (v:=.bool true) (by simp[go_sem,hlt']<;>first|exact⟨rfl,rfl⟩|exact rfl) ?_
  rw[ifB_bool,if_pos rfl]
  obtain⟨b',cap',hsl,hix,hld⟩:=hO.load hlt
  refine rvS (hix .i64) (rvS hld ?_)
  obtain⟨w3,e3,b3,m3⟩:=newOd W'
  refine rvS e3 ?_
  obtain⟨q,hq0⟩:∃q,q=W'.heap.size:=⟨_,rfl⟩
  rw[←hq0]at b3⊢
  obtain⟨w4,e4,b4,m4⟩:=setOd (o' :=l[i]) b3
  refine ruS e4 ?_
  have M4:Mod (λ_=>False) W' w4:=m3.on m4 λb hb=>.inr (by omega)
  refine rvS (ldOd (o:=l[i]) (At.all b4)) ?_
  have hO4:=hO.mod M4 λ_ _ h=>h
  refine hstep (inSl s2) i [odV l[i]] w4 (by simp[hlt]) (hmod _ _ _ _ hJ M4) _ (λW5 hJ5 hk5=>?_) λW5 hJ5=>?_
  ·refine rvS (v:=.bool false) (by simp[go_sem]<;>first|exact⟨rfl,rfl⟩|exact rfl) ?_
   rw[ifB_bool,if_neg Bool.false_ne_true]
   refine rvS (v:=.int .i64 ((i+1:Nat):Int)) (w' :=W5) (by simp[go_sem];rw[wrapI (by omega) (by omega)]) ?_
   exact hKN _ _ ⟨i+1,by omega,rfl,hJ5,hO4.keep hk5⟩ (by show l.length - (((i+1:Nat):Int)).toNat<l.length - ((i:Int)).toNat;omega)
  ·refine rvS (v:=.bool true) (by simp[go_sem]<;>first|exact⟨rfl,rfl⟩|exact rfl) ?_
   rw[ifB_bool,if_pos rfl]
   exact hex _ hJ5
 ·obtain rfl:i=l.length:=by omega
  refine rvS (v:=.bool false) (by simp[go_sem]<;>first|exact⟨rfl,rfl⟩|exact rfl) ?_
  rw[ifB_bool,if_neg Bool.false_ne_true]
  exact hend _ W' (by simpa using hJ)
theorem ca_sall{w:World}{K:Kont}{s:Nat}{F:Nat→Prop}{buy:Bool}{l:List Od}(h:SideQ w s F buy l)
  (hK:∀gv w',Tells gv (l.map λo=>[odV o]) w' →Mod (λ_=>False) w w' →K gv w'):Ca Tryz.prog 146 #[sptr s] w K:=by
 apply ca146
 unfold F146
 have m0:Mod (λ_=>False) w (w.alloc (.cells #[sptr s] 228)):=(Mod.refl _ w).alloc _
 refine rvS (v:=.pointer (some ⟨w.heap.size,0,none⟩)) (w' :=w.alloc (.cells #[sptr s] 228)) (by simp[go_sem,sptr]) ?_
 have b0:hp (w.alloc (.cells #[sptr s] 228)) w.heap.size=some (.cells #[sptr s] 228 (0,0)):=by simp[go_sem]
 exact hK _ _ ⟨⟨_,it_sall (s:=s) (b:=w.heap.size) (buy:=buy) (l:=l) (T:=228),λW m=>⟨m.hpk b0 id,F,h.mod (m0.trans m) λ_ _ h=>h⟩⟩,_,_,rfl⟩ m0
theorem Od.left_bd{o:Od}(h:o.may=true):1≤o.left∧o.left≤1000000:=by
 unfold Od.may at h
 simp only[Bool.and_eq_true]at h
 exact of_decide_eq_true h.2
end Go.Proofs
