/- Part of a proof. -/
import Derived.Test.YtgebhcgmckjbbaaGreatO16
set_option linter.all false
namespace Go.Proofs
open Go Go.Vc
attribute [local congr] Ca_congV
abbrev tCm:TypeId:=41
theorem cmC_len(c:Cm):(cmC c).length=35:=by simp[cmC,spC_len]
theorem cmC_one(c:Cm):(cmC c).all (·.oneCell')=true:=by rw[cmC,List.all_append,List.all_append,spC_one];rfl
theorem cm0(c:Cm):(cmC c)[0]? =some (.int .u8 c.kind):=rfl
theorem cm1(c:Cm):(cmC c)[1]? =some (.int .u32 c.acct):=rfl
theorem cm2(c:Cm):(cmC c)[2]? =some (.int .u32 c.ct):=rfl
theorem cm3(c:Cm):(cmC c)[3]? =some (.int .u64 c.num):=rfl
theorem cm4(c:Cm):(cmC c)[4]? =some (.int .i64 c.amt):=rfl
theorem cmHi(c:Cm)(i:Nat):(cmC c)[30+i]? =([.bool c.on,.bool c.buy,.int .u8 c.ty,.int .i64 c.price,.int .i64 c.qty]:List Value)[i]? :=by
 rw[cmC,List.getElem?_append_right (by show 5≤30+i;omega),List.getElem?_append_right (by rw[spC_len];simp;omega),spC_len]
 congr 1
 simp;omega
theorem cm30(c:Cm):(cmC c)[30]? =some (.bool c.on):=cmHi c 0
theorem cm31(c:Cm):(cmC c)[31]? =some (.bool c.buy):=cmHi c 1
theorem cm32(c:Cm):(cmC c)[32]? =some (.int .u8 c.ty):=cmHi c 2
theorem cm33(c:Cm):(cmC c)[33]? =some (.int .i64 c.price):=cmHi c 3
theorem cm34(c:Cm):(cmC c)[34]? =some (.int .i64 c.qty):=cmHi c 4
theorem aCm:isAggT Tryz.prog tCm=true:=by kernel_rfl
theorem nCm:Tryz.prog.cellsOf tCm=34+1:=by kernel_rfl
abbrev CmAt(W:World)(p:Nat)(c:Cm):Prop:=hp W p=some (.cells (cmC c).toArray tCm (0,0))
def cmV(c:Cm):Value:=.agg (cmC c).toArray
theorem boxCm(c:Cm)(w:World):∃w1,(Instr.box tCm (cmV c)).run Tryz.prog w=.ok (.pointer (some ⟨w.heap.size,0,none⟩)) w1∧CmAt w1 w.heap.size c∧Mod (λ_=>False) w w1:=
 ⟨w.alloc (.cells (cmC c).toArray tCm),rfl,by show hp _ _=_;simp[go_sem],(Mod.refl _ w).alloc _⟩
theorem cmLd{W:World}{p:Nat}{c:Cm}(h:CmAt W p c):(bigS tCm (.pointer (some ⟨p,0,none⟩))).run Tryz.prog W=.ok (cmV c) W:=run_bigS aCm nCm (cmC_len c) (At.all h)
section
variable{W:World}{p:Nat}{c:Cm}
theorem cmF1(W:World):(Instr.fieldAt tCm (.pointer (some ⟨p,0,none⟩)) 1).run Tryz.prog W=.ok (.pointer (some ⟨p,1,none⟩)) W:=by simp[go_sem]
theorem cmF2(W:World):(Instr.fieldAt tCm (.pointer (some ⟨p,0,none⟩)) 2).run Tryz.prog W=.ok (.pointer (some ⟨p,2,none⟩)) W:=by simp[go_sem]
theorem cmF3(W:World):(Instr.fieldAt tCm (.pointer (some ⟨p,0,none⟩)) 3).run Tryz.prog W=.ok (.pointer (some ⟨p,3,none⟩)) W:=by simp[go_sem]
theorem cmF4(W:World):(Instr.fieldAt tCm (.pointer (some ⟨p,0,none⟩)) 4).run Tryz.prog W=.ok (.pointer (some ⟨p,4,none⟩)) W:=by simp[go_sem]
theorem cmF6(W:World):(Instr.fieldAt tCm (.pointer (some ⟨p,0,none⟩)) 6).run Tryz.prog W=.ok (.pointer (some ⟨p,30,none⟩)) W:=by simp[go_sem]
theorem cmF7(W:World):(Instr.fieldAt tCm (.pointer (some ⟨p,0,none⟩)) 7).run Tryz.prog W=.ok (.pointer (some ⟨p,31,none⟩)) W:=by simp[go_sem]
theorem cmF9(W:World):(Instr.fieldAt tCm (.pointer (some ⟨p,0,none⟩)) 9).run Tryz.prog W=.ok (.pointer (some ⟨p,33,none⟩)) W:=by simp[go_sem]
theorem cmF10(W:World):(Instr.fieldAt tCm (.pointer (some ⟨p,0,none⟩)) 10).run Tryz.prog W=.ok (.pointer (some ⟨p,34,none⟩)) W:=by simp[go_sem]
theorem cmL1(h:CmAt W p c):(Instr.loadAt 35 (.pointer (some ⟨p,1,none⟩))).run Tryz.prog W=.ok (.int .u32 c.acct) W:=by simp[go_sem,h,cm1]
theorem cmL2(h:CmAt W p c):(Instr.loadAt 35 (.pointer (some ⟨p,2,none⟩))).run Tryz.prog W=.ok (.int .u32 c.ct) W:=by simp[go_sem,h,cm2]
theorem cmL3(h:CmAt W p c):(Instr.loadAt 27 (.pointer (some ⟨p,3,none⟩))).run Tryz.prog W=.ok (.int .u64 c.num) W:=by simp[go_sem,h,cm3]
theorem cmL4(h:CmAt W p c):(Instr.loadAt 2 (.pointer (some ⟨p,4,none⟩))).run Tryz.prog W=.ok (.int .i64 c.amt) W:=by simp[go_sem,h,cm4]
theorem cmL6(h:CmAt W p c):(Instr.loadAt 4 (.pointer (some ⟨p,30,none⟩))).run Tryz.prog W=.ok (.bool c.on) W:=by simp[go_sem,h,cm30]
theorem cmL7(h:CmAt W p c):(Instr.loadAt 4 (.pointer (some ⟨p,31,none⟩))).run Tryz.prog W=.ok (.bool c.buy) W:=by simp[go_sem,h,cm31]
theorem cmL9(h:CmAt W p c):(Instr.loadAt 2 (.pointer (some ⟨p,33,none⟩))).run Tryz.prog W=.ok (.int .i64 c.price) W:=by simp[go_sem,h,cm33]
theorem cmL10(h:CmAt W p c):(Instr.loadAt 2 (.pointer (some ⟨p,34,none⟩))).run Tryz.prog W=.ok (.int .i64 c.qty) W:=by simp[go_sem,h,cm34]
end
def Post(w:World)(v:Nat)(F:Nat→Prop)(x:Int×Rp×Ven)(K:Kont):Prop:=
 ∀sT sG sA F' w',VenQ w' v F' x.2.2→RpQ w' sT sG sA x.2.1→Mod F w w' →(∀y,F' y→F y∨w.heap.size≤y)→(∀y,inSl sT y∨inSl sG y∨inSl sA y→w.heap.size≤y∧¬F' y)→
  K (.tuple #[rpV x.2.1 sT sG sA,.int .i64 x.1]) w'
theorem Post.tell{w:World}{v:Nat}{F F' :Nat→Prop}{x:Int×Rp×Ven}{K:Kont}(h:Post w v F x K){e:Int}{r:Rp}{T:Ven}{sT sG sA:Value}{w' :World}(hx:x=(e,r,T))(h1:VenQ w' v F' T)(h2:RpQ w' sT sG sA r)(h3:Mod F w w')(h4:∀y,F' y→F y∨w.heap.size≤y)
  (h5:∀y,inSl sT y∨inSl sG y∨inSl sA y→w.heap.size≤y∧¬F' y):K (.tuple #[rpV r sT sG sA,.int .i64 e]) w' :=by
 have:=h sT sG sA F' w'
 rw[hx]at this
 exact this h1 h2 h3 h4 h5
theorem Post.nil{w:World}{v:Nat}{F F' :Nat→Prop}{x:Int×Rp×Ven}{K:Kont}(h:Post w v F x K){e:Int}{T:Ven}{w' :World}(hx:x=(e,zRp,T))(h1:VenQ w' v F' T)(h3:Mod F w w')(h4:∀y,F' y→F y∨w.heap.size≤y):K (.tuple #[rpV zRp nilV nilV nilV,.int .i64 e]) w' :=
 h.tell hx h1 (RpQ.nil _ 0) h3 h4 λy hy=>by rcases hy with hy|hy|hy<;>cases hy
theorem lookBk{W:World}{mb:Nat}{A:List (Int×Nat)}(h:MapAt encU bptr W mb A){n:Int}{b:Nat}(hb:lk A n=some b):(xLook 63 (.map (some mb)) (.int .u32 n) false).run Tryz.prog W=.ok (bptr b) W:=by
 have:=run_lookup (ok:=false) (x:=n) uMapB kU32 zBkP (.inr ⟨mb,rfl,h⟩:MapV encU bptr W (.map (some mb)) A)
 rw[hb]at this
 exact this
theorem lookBd{W:World}{md:Nat}{D:List (Int×Value)}(h:MapAt encU idV W md D)(n:Int):(xLook 64 (.map (some md)) (.int .u32 n) false).run Tryz.prog W=.ok (slOf D n) W:=by
 have:=run_lookup (ok:=false) (x:=n) uMapD kU32 zOdsP (.inr ⟨md,rfl,h⟩:MapV encU idV W (.map (some md)) D)
 unfold slOf
 cases hl:lk D n with
 |none=>rw[hl]at this;exact this
 |some x=>rw[hl]at this;exact this
theorem allocPl(W:World):∃w1,(Instr.alloc 235 true (.tuple #[])).run Tryz.prog W=.ok (.pointer (some ⟨W.heap.size,0,none⟩)) w1∧hp w1 W.heap.size=some (.cells (plC nilV nilV 0 0) 235 (0,0))∧Mod (λ_=>False) W w1:=
 ⟨W.alloc (.cells (plC nilV nilV 0 0) 235),by simp[go_sem,plC,nilV],by simp[go_sem],(Mod.refl _ W).alloc _⟩
theorem storePl{W:World}{q:Nat}{a b:Value}{f l:Int}(sT sG:Value)(f' l' :Int)(h:hp W q=some (.cells (plC a b f l) 235 (0,0)))(hT:∃a n c,sT=.slice a n c)(hG:∃a n c,sG=.slice a n c):
  ∃W',(Instr.storeAt 235 (.pointer (some ⟨q,0,none⟩)) (.agg (plC sT sG f' l'))).run Tryz.prog W=.ok () W' ∧hp W' q=some (.cells (plC sT sG f' l') 235 (0,0))∧Mod (λb=>b=q) W W' :=by
 obtain⟨a1,a2,a3,rfl⟩:=hT
 obtain⟨b1,b2,b3,rfl⟩:=hG
 unfold plC at h
 exact⟨(((W.setCell ⟨q,0,none⟩ (.slice a1 a2 a3)).setCell ⟨q,1,none⟩ (.slice b1 b2 b3)).setCell ⟨q,2,none⟩ (.int .i64 f')).setCell ⟨q,3,none⟩ (.int .i64 l'),by simp[go_sem,h,plC],by simp[go_sem,h,plC],((((Mod.refl (λx=>x=q) W).setCell (.inl rfl) _ _).setCell (.inl rfl) _ _).setCell (.inl rfl) _ _).setCell (.inl rfl) _ _⟩
theorem alive_some{l:List Ct}{n:Int}(h:calAlive l n=0):(calGet l n).isSome=true:=by
 obtain⟨k,hk,-⟩:=alive_get h
 rw[hk];rfl
end Go.Proofs
namespace Go.Proofs
open Go Go.Vc
attribute [local congr] Ca_congV
theorem litOd{o:Od}{w:World}{K:Kont}(hK:∀w1 b,b=w.heap.size→OdS w1 (.slice (some ⟨b,0,none⟩) 1 1) [o]→Mod (λ_=>False) w w1→K (.slice (some ⟨b,0,none⟩) 1 1) w1):rx Tryz.prog (xLit tOds 1 [(0,odV o)]) w K:=by
 refine rx_lit [odV o] uOds (elemT_of eOd) rfl rfl (by intro v hv;rw[List.mem_singleton.1 hv];rfl) (by omega) ?_
 have e0:(([odV o]:List Value).flatMap (·.cells.toList)).toArray=(odC o).toArray:=rfl
 rw[e0]
 exact hK _ _ rfl ⟨rfl,.inr ⟨_,1,[],rfl,Nat.le_refl _,by rw[heap_alloc,if_pos rfl];simp,by simp,by simp⟩⟩ ((Mod.refl _ w).alloc _)
theorem appOd{s s1:Value}{L:List Od}{o:Od}{w:World}{K:Kont}(h:OdS w s L)(h1:OdS w s1 [o])(hn:L.length≤100000)
  (hK:∀s' w',OdS w' s' (L++[o])→Mod (inSl s) w w' →(∀b,inSl s' b→inSl s b∨w.heap.size≤b)→K s' w'):rx Tryz.prog (xAppend #[tOds,tOds] tOds [s,s1]) w K:=by
 refine rx_append uOds uOds (elemT_of eOd) h h1.rd (by rw[flO odC_one]) (by show(L.length+1)*32≤_;omega) λs' w' o' m' n' =>hK s' w' ?_ m' n'
 rw[←List.flatMap_append]at o'
 show Own w' tOd 5 s' (L++[o]).length _
 rw[List.length_append]
 exact o'
theorem nums_get{S:Ven}{n:Int}:n∈S.nums↔(calGet S.cal.l n).isSome=true:=by
 unfold Ven.nums calGet
 rw[List.mem_map,List.find?_isSome]
 constructor
 ·rintro⟨k,hk,h⟩;exact⟨k,hk,by simpa using h⟩
 ·rintro⟨k,hk,h⟩;exact⟨k,hk,by simpa using h⟩
end Go.Proofs


namespace Go.Proofs
open Go Go.Vc
attribute [local congr] Ca_congV
theorem odRd{w:World}{s:Value}{L:List Od}(h:Rd w 5 s L.length (L.flatMap odC)){i:Nat}(hi:i<L.length):
  ∃p,(Instr.indexAt 133 s (.int .i64 (i:Int))).run Tryz.prog w=.ok p w∧(Instr.loadAt tOd p).run Tryz.prog w=.ok (odV L[i]) w:=by
 obtain⟨b,off,cap,hse,hcap,hA⟩:=h.item odC_len hi rfl
 obtain⟨C,e,fz,hC,hg⟩:=hA.get
 have g0:=hg 0 (.int .u64 L[i].num) rfl
 have g1:=hg 1 (.int .u32 L[i].acct) rfl
 have g2:=hg 2 (.bool L[i].buy) rfl
 have g3:=hg 3 (.int .i64 L[i].price) rfl
 have g4:=hg 4 (.int .i64 L[i].left) rfl
 simp only[Nat.add_assoc,Nat.add_zero]at g0 g1 g2 g3 g4
 exact⟨.pointer (some ⟨b,off+i*5,none⟩),by rw[hse];simp[go_sem,hi,addr_add],by simp[go_sem,hp_of hC,g0,g1,g2,g3,g4,odC,odV]⟩
end Go.Proofs

namespace Go.Proofs
open Go Go.Vc
attribute [local congr] Ca_congV
def i64v(n:Int):Value:=.int .i64 n
abbrev tAc:TypeId:=92
theorem acLd{W:World}{r:Nat}{a:Ac}(h:hp W r=some (.cells (cellsAc a).toArray tAc (0,0))):(Instr.loadAt tAc (.pointer (some ⟨r,0,none⟩))).run Tryz.prog W=.ok (acV a) W:=by
 unfold cellsAc at h
 simp[go_sem,h,acV]
end Go.Proofs

namespace Go.Proofs
open Go Go.Vc
attribute [local congr] Ca_congV
theorem nodup_len:∀{l m:List Int},l.Nodup→(∀x∈l,x∈m)→l.length≤m.length:=by
 intro l
 induction l with
 |nil=>intro m _ _;exact Nat.zero_le _
 |cons a l ih=>
  intro m hn hs
  rw[List.nodup_cons]at hn
  have ha:=hs a (List.mem_cons_self ..)
  have:=ih (m:=m.erase a) hn.2 λx hx=>by
   have hxa:x≠a:=λe=>hn.1 (e▸hx)
   exact(List.mem_erase_of_ne hxa).2 (hs x (List.mem_cons_of_mem _ hx))
  rw[List.length_erase_of_mem ha]at this
  have hpos:0<m.length:=List.length_pos_of_mem ha
  rw[List.length_cons]
  omega
theorem holders_len{L:Led}(h:L.Ok)(c:Int):(L.holders c).length≤64:=by
 have hn:((L.holders c).map (·.a)).Nodup:=by
  have hk:=(h.sp.nodup).sublist ((List.filter_sublist (p:=λp:Po=>decide (p.c=c))).map Po.key)
  show((L.held.filter λp=>decide (p.c=c)).map (·.a)).Nodup
  have e:(L.held.filter λp=>decide (p.c=c)).map Po.key=((L.held.filter λp=>decide (p.c=c)).map (·.a)).map λa=>(c,a):=by
   rw[List.map_map]
   refine List.map_congr_left λp hp=>?_
   have:=(List.mem_filter.1 hp).2
   rw[decide_eq_true_eq]at this
   show(p.c,p.a)=(c,p.a)
   rw[this]
  rw[e]at hk
  exact List.Pairwise.of_map (λa=>(c,a)) (λa b hab e=>hab (by rw[e])) hk
 have:=nodup_len (m:=L.all.map (·.num)) hn λx hx=>by
  obtain⟨p,hp,rfl⟩:=List.mem_map.1 hx
  obtain⟨a,ha,he⟩:=(h.pos p (List.mem_filter.1 hp).1).2.2.2.2.2.2.2
  exact List.mem_map.2 ⟨a,ha,he⟩
 rw[List.length_map,List.length_map]at this
 exact Nat.le_trans this h.len
theorem flt_len(p:Po→Bool):∀l:List Po,(l.filter p).length+(l.filter λx=> !p x).length=l.length:=by
 intro l
 induction l with
 |nil=>rfl
 |cons a l ih=>cases hp:p a<;>simp[hp]<;>omega
theorem held_le{L:Led}:∀(ns:List Int) (H:List Po),(∀p∈H,p.c∈ns)→H.length≤(ns.map λn=>(H.filter λp=>decide (p.c=n)).length).sum:=by
 intro ns
 induction ns with
 |nil=>intro H h;cases H with|nil=>simp|cons p H=>exact absurd (h p (List.mem_cons_self ..)) (by simp)
 |cons n ns ih=>
  intro H h
  have h1:=ih (H.filter λp=> !decide (p.c=n)) λp hp=>by
   obtain⟨hm,hc⟩:=List.mem_filter.1 hp
   rcases List.mem_cons.1 (h p hm)with e|e
   ·rw[e]at hc;simp at hc
   ·exact e
  have h2:(H.filter λp=>decide (p.c=n)).length+(H.filter λp=> !decide (p.c=n)).length=H.length:=by
   exact flt_len _ H
  have h3:(ns.map λm=>((H.filter λp=> !decide (p.c=n)).filter λp=>decide (p.c=m)).length).sum≤(ns.map λm=>(H.filter λp=>decide (p.c=m)).length).sum:=by
   clear ih h h1
   induction ns with
   |nil=>simp
   |cons m ns ih=>
    simp only[List.map_cons,List.sum_cons]
    have:((H.filter λp=> !decide (p.c=n)).filter λp=>decide (p.c=m)).length≤(H.filter λp=>decide (p.c=m)).length:=
     (List.filter_sublist.filter _).length_le
    omega
  simp only[List.map_cons,List.sum_cons]
  omega
theorem held_len{C:Cal}{L:Led}(hC:C.Ok)(h:OkL C L):L.held.length≤1024:=by
 have h1:=held_le (L:=L) (C.l.map (·.spec.num)) L.held λp hp=>by
  obtain⟨k,hk,-,hn,hm⟩:=alive_get (h.held p hp)
  exact List.mem_map.2 ⟨k,hm,hn⟩
 have h2:∀ns:List Int,(ns.map λn=>(L.held.filter λp=>decide (p.c=n)).length).sum≤64*ns.length:=by
  intro ns
  induction ns with
  |nil=>simp
  |cons n ns ih=>
   have:=holders_len h.led n
   unfold Led.holders at this
   simp only[List.map_cons,List.sum_cons,List.length_cons]
   omega
 have h3:=h2 (C.l.map (·.spec.num))
 have h4:=hC.len
 rw[List.length_map]at h3
 omega
end Go.Proofs





namespace Go.Proofs
open Go Go.Vc
attribute [local congr] Ca_congV
theorem zeroCm:zeroC Tryz.prog tCm=cmC zCm:=by kernel_rfl
theorem zCmA:hasZero Tryz.prog tCm=true:=by kernel_rfl
theorem cm0F{p:Nat}(W:World):(Instr.fieldAt tCm (.pointer (some ⟨p,0,none⟩)) 0).run Tryz.prog W=.ok (.pointer (some ⟨p,0,none⟩)) W:=by simp[go_sem]
theorem cm5F{p:Nat}(W:World):(Instr.fieldAt tCm (.pointer (some ⟨p,0,none⟩)) 5).run Tryz.prog W=.ok (.pointer (some ⟨p,5,none⟩)) W:=by simp[go_sem]
theorem cm0L{W:World}{p:Nat}{c:Cm}(h:CmAt W p c):(Instr.loadAt 34 (.pointer (some ⟨p,0,none⟩))).run Tryz.prog W=.ok (.int .u8 c.kind) W:=by simp[go_sem,h,cm0]
theorem cm5At{W:World}{p:Nat}{c:Cm}(h:CmAt W p c):At W p 5 (spC c.spec):=by
 have:=(At.all h).sub 5 25 (by rw[cmC_len];omega)
 have e:((cmC c).drop 5).take 25=spC c.spec:=by
  show(spC c.spec++_).take 25=_
  rw[←spC_len c.spec,List.take_left]
 rw[e]at this
 exact this
theorem cmHiSet(c:Cm)(i:Nat)(v:Value):(cmC c).set (30+i) v=[.int .u8 c.kind,.int .u32 c.acct,.int .u32 c.ct,.int .u64 c.num,.int .i64 c.amt]++(spC c.spec++([.bool c.on,.bool c.buy,.int .u8 c.ty,.int .i64 c.price,.int .i64 c.qty]:List Value).set i v):=by
 unfold cmC
 rw[List.set_append_right _ _ (by show 5≤30+i;omega),List.set_append_right _ _ (by rw[spC_len];show 25≤30+i - 5;omega),spC_len]
 have:30+i - [Value.int .u8 c.kind,.int .u32 c.acct,.int .u32 c.ct,.int .u64 c.num,.int .i64 c.amt].length - 25=i:=by show 30+i - 5 - 25=i;omega
 rw[this]
theorem cmS1{W:World}{p:Nat}{c:Cm}(x:Int)(h:CmAt W p c):∃W',(Instr.storeAt 35 (.pointer (some ⟨p,1,none⟩)) (.int .u32 x)).run Tryz.prog W=.ok () W' ∧CmAt W' p {c with acct:=x}∧Mod (λb=>b=p) W W' :=by
 refine⟨W.setCell ⟨p,1,none⟩ (.int .u32 x),by simp[go_sem,h,cm1],?_,(Mod.refl (λb=>b=p) W).setCell (.inl rfl) _ _⟩
 show hp _ p=_
 rw[hp_setCell,if_pos rfl,h,setObj1_cells,List.setIfInBounds_toArray]
 congr 3
theorem cmS2{W:World}{p:Nat}{c:Cm}(x:Int)(h:CmAt W p c):∃W',(Instr.storeAt 35 (.pointer (some ⟨p,2,none⟩)) (.int .u32 x)).run Tryz.prog W=.ok () W' ∧CmAt W' p {c with ct:=x}∧Mod (λb=>b=p) W W' :=by
 refine⟨W.setCell ⟨p,2,none⟩ (.int .u32 x),by simp[go_sem,h,cm2],?_,(Mod.refl (λb=>b=p) W).setCell (.inl rfl) _ _⟩
 show hp _ p=_
 rw[hp_setCell,if_pos rfl,h,setObj1_cells,List.setIfInBounds_toArray]
 congr 3
theorem cmS3{W:World}{p:Nat}{c:Cm}(x:Int)(h:CmAt W p c):∃W',(Instr.storeAt 27 (.pointer (some ⟨p,3,none⟩)) (.int .u64 x)).run Tryz.prog W=.ok () W' ∧CmAt W' p {c with num:=x}∧Mod (λb=>b=p) W W' :=by
 refine⟨W.setCell ⟨p,3,none⟩ (.int .u64 x),by simp[go_sem,h,cm3],?_,(Mod.refl (λb=>b=p) W).setCell (.inl rfl) _ _⟩
 show hp _ p=_
 rw[hp_setCell,if_pos rfl,h,setObj1_cells,List.setIfInBounds_toArray]
 congr 3
theorem cmS4{W:World}{p:Nat}{c:Cm}(x:Int)(h:CmAt W p c):∃W',(Instr.storeAt 2 (.pointer (some ⟨p,4,none⟩)) (.int .i64 x)).run Tryz.prog W=.ok () W' ∧CmAt W' p {c with amt:=x}∧Mod (λb=>b=p) W W' :=by
 refine⟨W.setCell ⟨p,4,none⟩ (.int .i64 x),by simp[go_sem,h,cm4],?_,(Mod.refl (λb=>b=p) W).setCell (.inl rfl) _ _⟩
 show hp _ p=_
 rw[hp_setCell,if_pos rfl,h,setObj1_cells,List.setIfInBounds_toArray]
 congr 3
theorem cmS6{W:World}{p:Nat}{c:Cm}(x:Bool)(h:CmAt W p c):∃W',(Instr.storeAt 4 (.pointer (some ⟨p,30,none⟩)) (.bool x)).run Tryz.prog W=.ok () W' ∧CmAt W' p {c with on:=x}∧Mod (λb=>b=p) W W' :=by
 refine⟨W.setCell ⟨p,30,none⟩ (.bool x),by simp[go_sem,h,cm30],?_,(Mod.refl (λb=>b=p) W).setCell (.inl rfl) _ _⟩
 show hp _ p=_
 rw[hp_setCell,if_pos rfl,h,setObj1_cells,List.setIfInBounds_toArray]
 congr 3
 rw[show 30=30+0 from rfl,cmHiSet];rfl
theorem cmS7{W:World}{p:Nat}{c:Cm}(x:Bool)(h:CmAt W p c):∃W',(Instr.storeAt 4 (.pointer (some ⟨p,31,none⟩)) (.bool x)).run Tryz.prog W=.ok () W' ∧CmAt W' p {c with buy:=x}∧Mod (λb=>b=p) W W' :=by
 refine⟨W.setCell ⟨p,31,none⟩ (.bool x),by simp[go_sem,h,cm31],?_,(Mod.refl (λb=>b=p) W).setCell (.inl rfl) _ _⟩
 show hp _ p=_
 rw[hp_setCell,if_pos rfl,h,setObj1_cells,List.setIfInBounds_toArray]
 congr 3
 rw[show 31=30+1 from rfl,cmHiSet];rfl
theorem cmS9{W:World}{p:Nat}{c:Cm}(x:Int)(h:CmAt W p c):∃W',(Instr.storeAt 2 (.pointer (some ⟨p,33,none⟩)) (.int .i64 x)).run Tryz.prog W=.ok () W' ∧CmAt W' p {c with price:=x}∧Mod (λb=>b=p) W W' :=by
 refine⟨W.setCell ⟨p,33,none⟩ (.int .i64 x),by simp[go_sem,h,cm33],?_,(Mod.refl (λb=>b=p) W).setCell (.inl rfl) _ _⟩
 show hp _ p=_
 rw[hp_setCell,if_pos rfl,h,setObj1_cells,List.setIfInBounds_toArray]
 congr 3
 rw[show 33=30+3 from rfl,cmHiSet];rfl
theorem cmS10{W:World}{p:Nat}{c:Cm}(x:Int)(h:CmAt W p c):∃W',(Instr.storeAt 2 (.pointer (some ⟨p,34,none⟩)) (.int .i64 x)).run Tryz.prog W=.ok () W' ∧CmAt W' p {c with qty:=x}∧Mod (λb=>b=p) W W' :=by
 refine⟨W.setCell ⟨p,34,none⟩ (.int .i64 x),by simp[go_sem,h,cm34],?_,(Mod.refl (λb=>b=p) W).setCell (.inl rfl) _ _⟩
 show hp _ p=_
 rw[hp_setCell,if_pos rfl,h,setObj1_cells,List.setIfInBounds_toArray]
 congr 3
 rw[show 34=30+4 from rfl,cmHiSet];rfl
theorem cmS5{W:World}{p:Nat}{c:Cm}{K:World→Prop}(s:Sp)(h:CmAt W p c)(hK:∀W',CmAt W' p {c with spec:=s}→Mod (λb=>b=p) W W' →K W'):rux Tryz.prog (bigU 38 (.pointer (some ⟨p,5,none⟩)) (.agg (spC s).toArray)) W K:=by
 refine rux_bigU nSp (spC_len s) h (by rw[List.size_toArray,cmC_len,spC_len];omega) (spC_one s) (hK _ ?_ ((Mod.refl (λb=>b=p) W).setRow (.inl rfl) _))
 show hp _ p=_
 have e:lay (cmC c).toArray.toList 5 (spC s)=cmC {c with spec:=s}:=by
  show lay (cmC c) 5 (spC s)=_
  have h2:(cmC c).drop (5+(spC s).length)=[.bool c.on,.bool c.buy,.int .u8 c.ty,.int .i64 c.price,.int .i64 c.qty]:=by
   rw[spC_len,←spC_len c.spec,←List.drop_drop]
   show(spC c.spec++_).drop _=_
   rw[List.drop_left]
  unfold lay
  rw[h2]
  rfl
 have h3:hp (W.setRow p (lay (cmC c).toArray.toList 5 (spC s)).toArray) p=some (.cells (lay (cmC c).toArray.toList 5 (spC s)).toArray tCm (0,0)):=by
  show(W.setRow p _).heap[p]? =_
  have hh:W.heap[p]? =some (.cells (cmC c).toArray tCm (0,0)):=h
  rw[heap_setRow,if_pos rfl,hh]
 rw[h3,e]
theorem cmAll{W:World}{p:Nat}{c:Cm}{K:World→Prop}(d:Cm)(h:CmAt W p c)(hK:∀W',CmAt W' p d→Mod (λb=>b=p) W W' →K W'):rux Tryz.prog (bigU tCm (.pointer (some ⟨p,0,none⟩)) (cmV d)) W K:=by
 refine rux_bigU nCm (cmC_len d) h (by rw[List.size_toArray,cmC_len,cmC_len];omega) (cmC_one d) (hK _ ?_ ((Mod.refl (λb=>b=p) W).setRow (.inl rfl) _))
 show hp _ p=_
 have h3:hp (W.setRow p (lay (cmC c).toArray.toList 0 (cmC d)).toArray) p=some (.cells (lay (cmC c).toArray.toList 0 (cmC d)).toArray tCm (0,0)):=by
  show(W.setRow p _).heap[p]? =_
  have hh:W.heap[p]? =some (.cells (cmC c).toArray tCm (0,0)):=h
  rw[heap_setRow,if_pos rfl,hh]
 rw[h3,lay_all (by show(cmC d).length=(cmC c).length;rw[cmC_len,cmC_len])]
theorem newCm{W:World}{K:Kont}(hK:∀W',CmAt W' W.heap.size zCm→Mod (λ_=>False) W W' →K (.pointer (some ⟨W.heap.size,0,none⟩)) W'):rx Tryz.prog (bigA tCm) W K:=by
 refine rx_bigA zCmA ?_
 rw[zeroCm]
 exact hK _ (by show hp _ _=_;simp[go_sem]) ((Mod.refl _ W).alloc _)
theorem builtCm(k:Int):Tryz.prog.built tCm [(0,.int .u8 k)]=some (cmC {zCm with kind:=k}).toArray:=by
 have h1:∀parts,Tryz.prog.built tCm parts=Instr.fill (λi=>#[(0,1),(1,1),(2,1),(3,1),(4,1),(5,25),(30,1),(31,1),(32,1),(33,1),(34,1)][i]?) (zeroC Tryz.prog tCm).toArray parts:=λparts=>by kernel_rfl
 rw[h1,zeroCm]
 rw[fill_part (off:=0) (size:=1) rfl rfl (by rw[cmC_len];omega),fill_nil]
 rfl
theorem builtSp0:Tryz.prog.built 38 []=some (spC zSp).toArray:=by kernel_rfl
set_option maxRecDepth 10000 in
set_option maxHeartbeats 4000000 in
theorem ca_bare{x:Cm}{w:World}{K:Kont}(hK:∀w',Mod (λ_=>False) w w' →K (cmV x.bare) w'):Ca Tryz.prog 106 #[cmV x] w K:=by
 apply ca106
 unfold F106
 obtain⟨w1,e1,b1,m1⟩:=boxCm x w
 refine rvS e1 ?_
 obtain⟨p,hp0⟩:∃p,p=w.heap.size:=⟨_,rfl⟩
 rw[←hp0]at b1⊢
 refine newCm λw2 b2 m2=>?_
 obtain⟨z,hz0⟩:∃z,z=w1.heap.size:=⟨_,rfl⟩
 rw[←hz0]at b2⊢
 have c2:CmAt w2 p x:=m2.hpk b1 id
 refine rvS (cm0F _) (rvS (cm0L c2) ?_)
 refine rx_bigB (builtCm x.kind) ?_
 refine newCm λw3 b3 m3=>?_
 obtain⟨q,hq0⟩:∃q,q=w2.heap.size:=⟨_,rfl⟩
 rw[←hq0]at b3⊢
 have hpz:p<z:=by have:=lt_of_heap b1;omega
 have hzq:z<q:=by have:=lt_of_heap b2;omega
 refine cmAll {zCm with kind:=x.kind} b3 λw4 b4 m4=>?_
 have c4:CmAt w4 p x:=m4.hpk (m3.hpk c2 id) (by omega)
 have z4:CmAt w4 z zCm:=m4.hpk (m3.hpk b2 id) (by omega)
 have M4:Mod (λy=>y=z∨y=q) w w4:=(((m1.trans m2).trans m3).mono λ_ _ h=>h.elim).trans (m4.mono λy _ hy=>.inr hy)
 clear b1 b2 b3 c2 e1 m1 m2 m3 m4
 refine rvS (cm0F _) (rvS (cm0L c4) ?_)
 have fin:∀(b:Cm) (W:World),x.bare=b→CmAt W q b→CmAt W z zCm→Mod (λy=>y=z∨y=q) w4 W→rx Tryz.prog (bigS tCm (.pointer (some ⟨q,0,none⟩))) W λv32 w33=>rux Tryz.prog (bigU tCm (.pointer (some ⟨z,0,none⟩)) v32) w33 λw34=>rdX Tryz.prog (bigS tCm (.pointer (some ⟨z,0,none⟩))) w34 λv35=>K v35 w34:=by
  intro b W hb h1 h2 hm
  refine rx_of (cmLd h1) ?_
  refine cmAll b h2 λW2 a2 n2=>?_
  refine rdX_of (cmLd a2) ?_
  rw[←hb]
  exact hK W2 ((Mod.refl (λ_=>False) w).on ((M4.trans hm).trans (n2.mono λy _ hy=>.inl hy)) λy hy=>.inr (by rcases hy with hy|hy<;>omega))
 have hzq' :z≠q:=by omega
 have hpq' :p≠q:=by omega
 refine JoinW.at (λst W=>st=(.bool (decide (x.kind=1∨x.kind=2)),())∧w4=W) ?_ ?_
 ·by_cases h1:x.kind=1
  ·refine rvS (v:=.bool true) (w' :=w4) (by simp[go_sem,h1]) ?_
   rw[ifB_bool,if_pos rfl]
   exact⟨by simp[h1],rfl⟩
  ·refine rvS (v:=.bool false) (w' :=w4) (by simp[go_sem,h1]) ?_
   rw[ifB_bool,if_neg Bool.false_ne_true]
   refine rvS (v:=.bool (decide (x.kind=2))) (w' :=w4) (by simp[go_sem];rfl) ?_
   exact⟨by simp[h1],rfl⟩
 rintro _ _ ⟨rfl,rfl⟩
 unfold J106_0
 intro _
 by_cases h12:x.kind=1∨x.kind=2
 ·rw[ifB_bool,if_pos (decide_eq_true h12)]
  have hbare:x.bare={zCm with kind:=x.kind,acct:=x.acct,amt:=x.amt}:=by unfold Cm.bare;simp only;rw[if_pos h12]
  have mdr:Mod (λ_=>False) w4 w4.drew:=(Mod.refl _ w4).drew
  have c5:CmAt w4.drew p x:=mdr.hpk c4 id
  have q5:CmAt w4.drew q {zCm with kind:=x.kind}:=mdr.hpk b4 id
  have z5:CmAt w4.drew z zCm:=mdr.hpk z4 id
  have M5:Mod (λy=>y=z∨y=q) w4 w4.drew:=mdr.mono λ_ _ h=>h.elim
  generalize w4.drew=w5 at mdr c5 q5 z5 M5⊢
  refine rdPS cmF1 (rdWS (cmL1 c5) ?_)
  refine rdPS cmF4 (rdWS (cmL4 c5) ?_)
  refine rdPS cmF1 ?_
  obtain⟨w6,e6,q6,m6⟩:=cmS1 x.acct q5
  have c6:CmAt w6 p x:=m6.hpk c5 hpq'
  have z6:CmAt w6 z zCm:=m6.hpk z5 hzq'
  have M6:Mod (λy=>y=z∨y=q) w4 w6:=M5.trans (m6.mono λy _ hy=>.inr hy)
  refine ruS e6 ⟨cmL4 c6,?_⟩
  refine rdPS cmF4 ?_
  obtain⟨w7,e7,q7,m7⟩:=cmS4 x.amt q6
  have c7:CmAt w7 p x:=m7.hpk c6 hpq'
  have z7:CmAt w7 z zCm:=m7.hpk z6 hzq'
  have M7:Mod (λy=>y=z∨y=q) w4 w7:=M6.trans (m7.mono λy _ hy=>.inr hy)
  refine ruS e7 ?_
  exact fin _ w7 hbare q7 z7 M7
 rw[ifB_bool,if_neg (by rw[decide_eq_true_eq];exact h12)]
 by_cases h3:x.kind=3
 ·refine rvS (v:=.bool true) (w' :=w4) (by simp[go_sem,h3]) ?_
  rw[ifB_bool,if_pos rfl]
  have hbare:x.bare={zCm with kind:=x.kind,spec:=x.spec}:=by unfold Cm.bare;simp only;rw[if_neg h12,if_pos h3]
  refine rvS (cm5F _) ?_
  refine rx_bigS (spC x.spec) 24 aSp nSp (spC_len _) (cm5At c4) ?_
  refine rvS (cm5F _) ?_
  refine cmS5 x.spec b4 λw6 q6 m6=>?_
  exact fin _ w6 hbare q6 (m6.hpk z4 hzq') (m6.mono λy _ hy=>.inr hy)
 refine rvS (v:=.bool false) (w' :=w4) (by simp[go_sem,h3]) ?_
 rw[ifB_bool,if_neg Bool.false_ne_true]
 by_cases h4:x.kind=4
 ·refine rvS (v:=.bool true) (w' :=w4) (by simp[go_sem,h4]) ?_
  rw[ifB_bool,if_pos rfl]
  have hbare:x.bare={zCm with kind:=x.kind,ct:=x.ct,on:=x.on}:=by unfold Cm.bare;simp only;rw[if_neg h12,if_neg h3,if_pos h4]
  have mdr:Mod (λ_=>False) w4 w4.drew:=(Mod.refl _ w4).drew
  have c5:CmAt w4.drew p x:=mdr.hpk c4 id
  have q5:CmAt w4.drew q {zCm with kind:=x.kind}:=mdr.hpk b4 id
  have z5:CmAt w4.drew z zCm:=mdr.hpk z4 id
  have M5:Mod (λy=>y=z∨y=q) w4 w4.drew:=mdr.mono λ_ _ h=>h.elim
  generalize w4.drew=w5 at mdr c5 q5 z5 M5⊢
  refine rdPS cmF2 (rdWS (cmL2 c5) ?_)
  refine rdPS cmF6 (rdWS (cmL6 c5) ?_)
  refine rdPS cmF2 ?_
  obtain⟨w6,e6,q6,m6⟩:=cmS2 x.ct q5
  have c6:CmAt w6 p x:=m6.hpk c5 hpq'
  have z6:CmAt w6 z zCm:=m6.hpk z5 hzq'
  have M6:Mod (λy=>y=z∨y=q) w4 w6:=M5.trans (m6.mono λy _ hy=>.inr hy)
  refine ruS e6 ⟨cmL6 c6,?_⟩
  refine rdPS cmF6 ?_
  obtain⟨w7,e7,q7,m7⟩:=cmS6 x.on q6
  have c7:CmAt w7 p x:=m7.hpk c6 hpq'
  have z7:CmAt w7 z zCm:=m7.hpk z6 hzq'
  have M7:Mod (λy=>y=z∨y=q) w4 w7:=M6.trans (m7.mono λy _ hy=>.inr hy)
  refine ruS e7 ?_
  exact fin _ w7 hbare q7 z7 M7
 refine rvS (v:=.bool false) (w' :=w4) (by simp[go_sem,h4]) ?_
 rw[ifB_bool,if_neg Bool.false_ne_true]
 by_cases h5:x.kind=5
 ·refine rvS (v:=.bool true) (w' :=w4) (by simp[go_sem,h5]) ?_
  rw[ifB_bool,if_pos rfl]
  have hbare:x.bare={x with num:=0,amt:=0,spec:=zSp,on:=false}:=by unfold Cm.bare;simp only;rw[if_neg h12,if_neg h3,if_neg h4,if_pos h5]
  refine rx_of (cmLd c4) ?_
  refine cmAll x b4 λw5 q5 m5=>?_
  refine rx_bigB builtSp0 ?_
  refine rvS (cmF3 _) ?_
  obtain⟨w6,e6,q6,m6⟩:=cmS3 0 q5
  refine ruS e6 (rvS (cmF4 _) ?_)
  obtain⟨w7,e7,q7,m7⟩:=cmS4 0 q6
  refine ruS e7 (rvS (cm5F _) ?_)
  refine cmS5 zSp q7 λw8 q8 m8=>?_
  refine rvS (cmF6 _) ?_
  obtain⟨w9,e9,q9,m9⟩:=cmS6 false q8
  refine ruS e9 ?_
  have M9:Mod (λy=>y=q) w4 w9:=(((m5.trans m6).trans m7).trans m8).trans m9
  exact fin _ w9 hbare q9 (M9.hpk z4 hzq') (M9.mono λy _ hy=>.inr hy)
 refine rvS (v:=.bool false) (w' :=w4) (by simp[go_sem,h5]) ?_
 rw[ifB_bool,if_neg Bool.false_ne_true]
 by_cases h6:x.kind=6
 ·refine rvS (v:=.bool true) (w' :=w4) (by simp[go_sem,h6]) ?_
  rw[ifB_bool,if_pos rfl]
  have hbare:x.bare={zCm with kind:=x.kind,acct:=x.acct,num:=x.num}:=by unfold Cm.bare;simp only;rw[if_neg h12,if_neg h3,if_neg h4,if_neg h5,if_pos h6]
  have mdr:Mod (λ_=>False) w4 w4.drew:=(Mod.refl _ w4).drew
  have c5:CmAt w4.drew p x:=mdr.hpk c4 id
  have q5:CmAt w4.drew q {zCm with kind:=x.kind}:=mdr.hpk b4 id
  have z5:CmAt w4.drew z zCm:=mdr.hpk z4 id
  have M5:Mod (λy=>y=z∨y=q) w4 w4.drew:=mdr.mono λ_ _ h=>h.elim
  generalize w4.drew=w5 at mdr c5 q5 z5 M5⊢
  refine rdPS cmF1 (rdWS (cmL1 c5) ?_)
  refine rdPS cmF3 (rdWS (cmL3 c5) ?_)
  refine rdPS cmF1 ?_
  obtain⟨w6,e6,q6,m6⟩:=cmS1 x.acct q5
  have c6:CmAt w6 p x:=m6.hpk c5 hpq'
  have z6:CmAt w6 z zCm:=m6.hpk z5 hzq'
  have M6:Mod (λy=>y=z∨y=q) w4 w6:=M5.trans (m6.mono λy _ hy=>.inr hy)
  refine ruS e6 ⟨cmL3 c6,?_⟩
  refine rdPS cmF3 ?_
  obtain⟨w7,e7,q7,m7⟩:=cmS3 x.num q6
  have c7:CmAt w7 p x:=m7.hpk c6 hpq'
  have z7:CmAt w7 z zCm:=m7.hpk z6 hzq'
  have M7:Mod (λy=>y=z∨y=q) w4 w7:=M6.trans (m7.mono λy _ hy=>.inr hy)
  refine ruS e7 ?_
  exact fin _ w7 hbare q7 z7 M7
 refine rvS (v:=.bool false) (w' :=w4) (by simp[go_sem,h6]) ?_
 rw[ifB_bool,if_neg Bool.false_ne_true]
 by_cases h7:x.kind=7
 ·refine rvS (v:=.bool true) (w' :=w4) (by simp[go_sem,h7]) ?_
  rw[ifB_bool,if_pos rfl]
  have hbare:x.bare={zCm with kind:=x.kind,acct:=x.acct,num:=x.num,price:=x.price,qty:=x.qty}:=by unfold Cm.bare;simp only;rw[if_neg h12,if_neg h3,if_neg h4,if_neg h5,if_neg h6,if_pos h7]
  have mdr:Mod (λ_=>False) w4 w4.drew:=(Mod.refl _ w4).drew
  have c5:CmAt w4.drew p x:=mdr.hpk c4 id
  have q5:CmAt w4.drew q {zCm with kind:=x.kind}:=mdr.hpk b4 id
  have z5:CmAt w4.drew z zCm:=mdr.hpk z4 id
  have M5:Mod (λy=>y=z∨y=q) w4 w4.drew:=mdr.mono λ_ _ h=>h.elim
  generalize w4.drew=w5 at mdr c5 q5 z5 M5⊢
  refine rdPS cmF1 (rdWS (cmL1 c5) ?_)
  refine rdPS cmF3 (rdWS (cmL3 c5) ?_)
  refine rdPS cmF9 (rdWS (cmL9 c5) ?_)
  refine rdPS cmF10 (rdWS (cmL10 c5) ?_)
  refine rdPS cmF1 ?_
  obtain⟨w6,e6,q6,m6⟩:=cmS1 x.acct q5
  have c6:CmAt w6 p x:=m6.hpk c5 hpq'
  have z6:CmAt w6 z zCm:=m6.hpk z5 hzq'
  have M6:Mod (λy=>y=z∨y=q) w4 w6:=M5.trans (m6.mono λy _ hy=>.inr hy)
  refine ruS e6 ⟨cmL10 c6,cmL9 c6,cmL3 c6,?_⟩
  refine rdPS cmF3 ?_
  obtain⟨w7,e7,q7,m7⟩:=cmS3 x.num q6
  have c7:CmAt w7 p x:=m7.hpk c6 hpq'
  have z7:CmAt w7 z zCm:=m7.hpk z6 hzq'
  have M7:Mod (λy=>y=z∨y=q) w4 w7:=M6.trans (m7.mono λy _ hy=>.inr hy)
  refine ruS e7 ⟨cmL10 c7,cmL9 c7,?_⟩
  refine rdPS cmF9 ?_
  obtain⟨w8,e8,q8,m8⟩:=cmS9 x.price q7
  have c8:CmAt w8 p x:=m8.hpk c7 hpq'
  have z8:CmAt w8 z zCm:=m8.hpk z7 hzq'
  have M8:Mod (λy=>y=z∨y=q) w4 w8:=M7.trans (m8.mono λy _ hy=>.inr hy)
  refine ruS e8 ⟨cmL10 c8,?_⟩
  refine rdPS cmF10 ?_
  obtain⟨w9,e9,q9,m9⟩:=cmS10 x.qty q8
  have c9:CmAt w9 p x:=m9.hpk c8 hpq'
  have z9:CmAt w9 z zCm:=m9.hpk z8 hzq'
  have M9:Mod (λy=>y=z∨y=q) w4 w9:=M8.trans (m9.mono λy _ hy=>.inr hy)
  refine ruS e9 ?_
  exact fin _ w9 hbare q9 z9 M9
 refine rvS (v:=.bool false) (w' :=w4) (by simp[go_sem,h7]) ?_
 rw[ifB_bool,if_neg Bool.false_ne_true]
 by_cases h8:x.kind=8
 ·refine rvS (v:=.bool true) (w' :=w4) (by simp[go_sem,h8]) ?_
  rw[ifB_bool,if_pos rfl]
  have hbare:x.bare={zCm with kind:=x.kind,acct:=x.acct,ct:=x.ct}:=by unfold Cm.bare;simp only;rw[if_neg h12,if_neg h3,if_neg h4,if_neg h5,if_neg h6,if_neg h7,if_pos h8]
  have mdr:Mod (λ_=>False) w4 w4.drew:=(Mod.refl _ w4).drew
  have c5:CmAt w4.drew p x:=mdr.hpk c4 id
  have q5:CmAt w4.drew q {zCm with kind:=x.kind}:=mdr.hpk b4 id
  have z5:CmAt w4.drew z zCm:=mdr.hpk z4 id
  have M5:Mod (λy=>y=z∨y=q) w4 w4.drew:=mdr.mono λ_ _ h=>h.elim
  generalize w4.drew=w5 at mdr c5 q5 z5 M5⊢
  refine rdPS cmF1 (rdWS (cmL1 c5) ?_)
  refine rdPS cmF2 (rdWS (cmL2 c5) ?_)
  refine rdPS cmF1 ?_
  obtain⟨w6,e6,q6,m6⟩:=cmS1 x.acct q5
  have c6:CmAt w6 p x:=m6.hpk c5 hpq'
  have z6:CmAt w6 z zCm:=m6.hpk z5 hzq'
  have M6:Mod (λy=>y=z∨y=q) w4 w6:=M5.trans (m6.mono λy _ hy=>.inr hy)
  refine ruS e6 ⟨cmL2 c6,?_⟩
  refine rdPS cmF2 ?_
  obtain⟨w7,e7,q7,m7⟩:=cmS2 x.ct q6
  have c7:CmAt w7 p x:=m7.hpk c6 hpq'
  have z7:CmAt w7 z zCm:=m7.hpk z6 hzq'
  have M7:Mod (λy=>y=z∨y=q) w4 w7:=M6.trans (m7.mono λy _ hy=>.inr hy)
  refine ruS e7 ?_
  exact fin _ w7 hbare q7 z7 M7
 refine rvS (v:=.bool false) (w' :=w4) (by simp[go_sem,h8]) ?_
 rw[ifB_bool,if_neg Bool.false_ne_true]
 by_cases h9:x.kind=9
 ·refine rvS (v:=.bool true) (w' :=w4) (by simp[go_sem,h9]) ?_
  rw[ifB_bool,if_pos rfl]
  have hbare:x.bare={zCm with kind:=x.kind,acct:=x.acct,ct:=x.ct,buy:=x.buy,price:=x.price,qty:=x.qty}:=by unfold Cm.bare;simp only;rw[if_neg h12,if_neg h3,if_neg h4,if_neg h5,if_neg h6,if_neg h7,if_neg h8,if_pos h9]
  have mdr:Mod (λ_=>False) w4 w4.drew:=(Mod.refl _ w4).drew
  have c5:CmAt w4.drew p x:=mdr.hpk c4 id
  have q5:CmAt w4.drew q {zCm with kind:=x.kind}:=mdr.hpk b4 id
  have z5:CmAt w4.drew z zCm:=mdr.hpk z4 id
  have M5:Mod (λy=>y=z∨y=q) w4 w4.drew:=mdr.mono λ_ _ h=>h.elim
  generalize w4.drew=w5 at mdr c5 q5 z5 M5⊢
  refine rdPS cmF1 (rdWS (cmL1 c5) ?_)
  refine rdPS cmF2 (rdWS (cmL2 c5) ?_)
  refine rdPS cmF7 (rdWS (cmL7 c5) ?_)
  refine rdPS cmF9 (rdWS (cmL9 c5) ?_)
  refine rdPS cmF10 (rdWS (cmL10 c5) ?_)
  refine rdPS cmF1 ?_
  obtain⟨w6,e6,q6,m6⟩:=cmS1 x.acct q5
  have c6:CmAt w6 p x:=m6.hpk c5 hpq'
  have z6:CmAt w6 z zCm:=m6.hpk z5 hzq'
  have M6:Mod (λy=>y=z∨y=q) w4 w6:=M5.trans (m6.mono λy _ hy=>.inr hy)
  refine ruS e6 ⟨cmL10 c6,cmL9 c6,cmL7 c6,cmL2 c6,?_⟩
  refine rdPS cmF2 ?_
  obtain⟨w7,e7,q7,m7⟩:=cmS2 x.ct q6
  have c7:CmAt w7 p x:=m7.hpk c6 hpq'
  have z7:CmAt w7 z zCm:=m7.hpk z6 hzq'
  have M7:Mod (λy=>y=z∨y=q) w4 w7:=M6.trans (m7.mono λy _ hy=>.inr hy)
  refine ruS e7 ⟨cmL10 c7,cmL9 c7,cmL7 c7,?_⟩
  refine rdPS cmF7 ?_
  obtain⟨w8,e8,q8,m8⟩:=cmS7 x.buy q7
  have c8:CmAt w8 p x:=m8.hpk c7 hpq'
  have z8:CmAt w8 z zCm:=m8.hpk z7 hzq'
  have M8:Mod (λy=>y=z∨y=q) w4 w8:=M7.trans (m8.mono λy _ hy=>.inr hy)
  refine ruS e8 ⟨cmL10 c8,cmL9 c8,?_⟩
  refine rdPS cmF9 ?_
  obtain⟨w9,e9,q9,m9⟩:=cmS9 x.price q8
  have c9:CmAt w9 p x:=m9.hpk c8 hpq'
  have z9:CmAt w9 z zCm:=m9.hpk z8 hzq'
  have M9:Mod (λy=>y=z∨y=q) w4 w9:=M8.trans (m9.mono λy _ hy=>.inr hy)
  refine ruS e9 ⟨cmL10 c9,?_⟩
  refine rdPS cmF10 ?_
  obtain⟨w10,e10,q10,m10⟩:=cmS10 x.qty q9
  have c10:CmAt w10 p x:=m10.hpk c9 hpq'
  have z10:CmAt w10 z zCm:=m10.hpk z9 hzq'
  have M10:Mod (λy=>y=z∨y=q) w4 w10:=M9.trans (m10.mono λy _ hy=>.inr hy)
  refine ruS e10 ?_
  exact fin _ w10 hbare q10 z10 M10
 refine rvS (v:=.bool false) (w' :=w4) (by simp[go_sem,h9]) ?_
 rw[ifB_bool,if_neg Bool.false_ne_true]
 by_cases h10:x.kind=10
 ·refine rvS (v:=.bool true) (w' :=w4) (by simp[go_sem,h10]) ?_
  rw[ifB_bool,if_pos rfl]
  have hbare:x.bare={zCm with kind:=x.kind,acct:=x.acct,on:=x.on}:=by unfold Cm.bare;simp only;rw[if_neg h12,if_neg h3,if_neg h4,if_neg h5,if_neg h6,if_neg h7,if_neg h8,if_neg h9,if_pos h10]
  have mdr:Mod (λ_=>False) w4 w4.drew:=(Mod.refl _ w4).drew
  have c5:CmAt w4.drew p x:=mdr.hpk c4 id
  have q5:CmAt w4.drew q {zCm with kind:=x.kind}:=mdr.hpk b4 id
  have z5:CmAt w4.drew z zCm:=mdr.hpk z4 id
  have M5:Mod (λy=>y=z∨y=q) w4 w4.drew:=mdr.mono λ_ _ h=>h.elim
  generalize w4.drew=w5 at mdr c5 q5 z5 M5⊢
  refine rdPS cmF1 (rdWS (cmL1 c5) ?_)
  refine rdPS cmF6 (rdWS (cmL6 c5) ?_)
  refine rdPS cmF1 ?_
  obtain⟨w6,e6,q6,m6⟩:=cmS1 x.acct q5
  have c6:CmAt w6 p x:=m6.hpk c5 hpq'
  have z6:CmAt w6 z zCm:=m6.hpk z5 hzq'
  have M6:Mod (λy=>y=z∨y=q) w4 w6:=M5.trans (m6.mono λy _ hy=>.inr hy)
  refine ruS e6 ⟨cmL6 c6,?_⟩
  refine rdPS cmF6 ?_
  obtain⟨w7,e7,q7,m7⟩:=cmS6 x.on q6
  have c7:CmAt w7 p x:=m7.hpk c6 hpq'
  have z7:CmAt w7 z zCm:=m7.hpk z6 hzq'
  have M7:Mod (λy=>y=z∨y=q) w4 w7:=M6.trans (m7.mono λy _ hy=>.inr hy)
  refine ruS e7 ?_
  exact fin _ w7 hbare q7 z7 M7
 refine rvS (v:=.bool false) (w' :=w4) (by simp[go_sem,h10]) ?_
 rw[ifB_bool,if_neg Bool.false_ne_true]
 by_cases h11:x.kind=11
 ·refine rvS (v:=.bool true) (w' :=w4) (by simp[go_sem,h11]) ?_
  rw[ifB_bool,if_pos rfl]
  have hbare:x.bare={zCm with kind:=x.kind,ct:=x.ct,price:=x.price}:=by unfold Cm.bare;simp only;rw[if_neg h12,if_neg h3,if_neg h4,if_neg h5,if_neg h6,if_neg h7,if_neg h8,if_neg h9,if_neg h10,if_pos h11]
  have mdr:Mod (λ_=>False) w4 w4.drew:=(Mod.refl _ w4).drew
  have c5:CmAt w4.drew p x:=mdr.hpk c4 id
  have q5:CmAt w4.drew q {zCm with kind:=x.kind}:=mdr.hpk b4 id
  have z5:CmAt w4.drew z zCm:=mdr.hpk z4 id
  have M5:Mod (λy=>y=z∨y=q) w4 w4.drew:=mdr.mono λ_ _ h=>h.elim
  generalize w4.drew=w5 at mdr c5 q5 z5 M5⊢
  refine rdPS cmF2 (rdWS (cmL2 c5) ?_)
  refine rdPS cmF9 (rdWS (cmL9 c5) ?_)
  refine rdPS cmF2 ?_
  obtain⟨w6,e6,q6,m6⟩:=cmS2 x.ct q5
  have c6:CmAt w6 p x:=m6.hpk c5 hpq'
  have z6:CmAt w6 z zCm:=m6.hpk z5 hzq'
  have M6:Mod (λy=>y=z∨y=q) w4 w6:=M5.trans (m6.mono λy _ hy=>.inr hy)
  refine ruS e6 ⟨cmL9 c6,?_⟩
  refine rdPS cmF9 ?_
  obtain⟨w7,e7,q7,m7⟩:=cmS9 x.price q6
  have c7:CmAt w7 p x:=m7.hpk c6 hpq'
  have z7:CmAt w7 z zCm:=m7.hpk z6 hzq'
  have M7:Mod (λy=>y=z∨y=q) w4 w7:=M6.trans (m7.mono λy _ hy=>.inr hy)
  refine ruS e7 ?_
  exact fin _ w7 hbare q7 z7 M7
 refine rvS (v:=.bool false) (w' :=w4) (by simp[go_sem,h11]) ?_
 rw[ifB_bool,if_neg Bool.false_ne_true]
 by_cases h13:x.kind=13
 ·refine rvS (v:=.bool true) (w' :=w4) (by simp[go_sem,h13]) ?_
  rw[ifB_bool,if_pos rfl]
  have hbare:x.bare={zCm with kind:=x.kind,acct:=x.acct}:=by unfold Cm.bare;simp only;rw[if_neg h12,if_neg h3,if_neg h4,if_neg h5,if_neg h6,if_neg h7,if_neg h8,if_neg h9,if_neg h10,if_neg h11,if_pos h13]
  refine rvS (cmF1 _) (rvS (cmL1 c4) (rvS (cmF1 _) ?_))
  obtain⟨w6,e6,q6,m6⟩:=cmS1 x.acct b4
  refine ruS e6 ?_
  exact fin _ w6 hbare q6 (m6.hpk z4 hzq') (m6.mono λy _ hy=>.inr hy)
 refine rvS (v:=.bool false) (w' :=w4) (by simp[go_sem,h13]) ?_
 rw[ifB_bool,if_neg Bool.false_ne_true]
 by_cases h14:x.kind=14
 ·refine rvS (v:=.bool true) (w' :=w4) (by simp[go_sem,h14]) ?_
  rw[ifB_bool,if_pos rfl]
  have hbare:x.bare={zCm with kind:=x.kind,ct:=x.ct}:=by unfold Cm.bare;simp only;rw[if_neg h12,if_neg h3,if_neg h4,if_neg h5,if_neg h6,if_neg h7,if_neg h8,if_neg h9,if_neg h10,if_neg h11,if_neg h13,if_pos h14]
  refine rvS (cmF2 _) (rvS (cmL2 c4) (rvS (cmF2 _) ?_))
  obtain⟨w6,e6,q6,m6⟩:=cmS2 x.ct b4
  refine ruS e6 ?_
  exact fin _ w6 hbare q6 (m6.hpk z4 hzq') (m6.mono λy _ hy=>.inr hy)
 refine rvS (v:=.bool false) (w' :=w4) (by simp[go_sem,h14]) ?_
 rw[ifB_bool,if_neg Bool.false_ne_true]
 have hbare:x.bare={zCm with kind:=x.kind}:=by unfold Cm.bare;simp only;rw[if_neg h12,if_neg h3,if_neg h4,if_neg h5,if_neg h6,if_neg h7,if_neg h8,if_neg h9,if_neg h10,if_neg h11,if_neg h13,if_neg h14]
 exact fin _ w4 hbare b4 z4 (Mod.refl _ _)
end Go.Proofs
namespace Go.Proofs
open Go Go.Vc
attribute [local congr] Ca_congV
theorem eqItems_i64{P:Program}{w:World}{e:TypeId}(he:P.underlying e=some (.int .i64))(d:Nat)(x y:List Int)(hl:x.length=y.length):∀(k i:Nat),i+k=x.length→
  (Op.eqItems (d+1) e 1 (x.map λn=>Value.int .i64 n).toArray (y.map λn=>Value.int .i64 n).toArray (List.range' i k)).run P w=.ok (decide (x.drop i=y.drop i)) w
 |0,i,h=>by
  have h1:x.drop i=[]:=List.drop_of_length_le (by omega)
  have h2:y.drop i=[]:=List.drop_of_length_le (by omega)
  simp[Op.eqItems,h1,h2]
 |k+1,i,h=>by
  have hx:i<x.length:=by omega
  have hy:i<y.length:=by omega
  have hpart:∀(z:List Int) (hz:i<z.length),(part e (z.map λn=>Value.int .i64 n).toArray (i*1)).run P w=.ok (.int .i64 z[i]) w:=by
   intro z hz
   have h1:(z.map λn=>Value.int .i64 n).toArray[i]? =some (.int .i64 z[i]):=by
    rw[List.getElem?_toArray,List.getElem?_map,List.getElem?_eq_getElem hz]
    rfl
   have h2:(isAgg e).run P w=.ok false w:=by
    unfold isAgg
    simp[run_underlying he,Result.andThen]
   simp[part,h2,Result.andThen,h1]
  rw[List.range'_succ]
  unfold Op.eqItems
  simp only[Sem.run_bind,hpart x hx,hpart y hy,Result.andThen]
  rw[run_equalIn_int w d e .i64 .i64 _ _ he]
  rw[List.drop_eq_getElem_cons hx,List.drop_eq_getElem_cons hy]
  by_cases hxy:x[i]=y[i]
  ·have e1:(x[i]==y[i])=true:=by simp[hxy]
   simp only[e1,hxy,List.cons.injEq,true_and]
   have:=eqItems_i64 (w:=w) he d x y hl k (i+1) (by omega)
   simpa using this
  ·have e1:(x[i]==y[i])=false:=by simpa using hxy
   simp only[e1,List.cons.injEq,hxy,false_and,decide_false]
   simp
set_option maxRecDepth 10000 in
theorem eq_sh(x y:Vector Int 16)(d:Nat)(w:World):(Op.equalIn (d+2) 36 (.agg (shC x).toArray) (.agg (shC y).toArray)).run Tryz.prog w=.ok (decide (x=y)) w:=by
 obtain⟨i2,h2,-⟩:=info_of_cells (P:=Tryz.prog) (t:=2) (n:=0) (by kernel_rfl)
 have hu:Tryz.prog.underlying 36=some (.array 16 2):=by kernel_rfl
 have hc:Tryz.prog.cellsOf 2=1:=by kernel_rfl
 rw[run_equalIn_array w (d+1) _ _ hu h2,hc]
 have:=eqItems_i64 (P:=Tryz.prog) (w:=w) (e:=2) (by kernel_rfl) d x.toList y.toList (by simp) 16 0 (by simp)
 rw[List.range_eq_range']
 show(Op.eqItems (d+1) _ 1 (x.toList.map λn=>Value.int .i64 n).toArray (y.toList.map λn=>Value.int .i64 n).toArray (List.range' 0 16)).run Tryz.prog w=_
 rw[this]
 congr 1
 have hxy:(x.toList=y.toList)↔x=y:=by
  constructor
  ·intro h
   exact Vector.toList_inj.1 h
  ·rintro rfl;rfl
 simp only[List.drop_zero]
 exact decide_eq_decide.2 hxy
theorem eqF_c{P:Program}{w:World}{dd:Nat}{xs ys:Array Value}{f:Field}{fs:List Field}{a b:Value}{r r' :Bool}(hn:f.name≠ "_")(h1:(part f.type xs f.offset).run P w=.ok a w)(h2:(part f.type ys f.offset).run P w=.ok b w)
  (h3:(Op.equalIn dd f.type a b).run P w=.ok r w)(h4:(Op.eqFields dd xs ys fs).run P w=.ok r' w):(Op.eqFields dd xs ys (f::fs)).run P w=.ok (r&& r') w:=by
 simp only[Op.eqFields,hn,ne_eq,not_false_eq_true,if_true,Sem.run_bind,h1,h2,h3,Result.andThen_ok]
 cases r
 ·simp
 ·simpa using h4
theorem eqF_n{P:Program}{w:World}{dd:Nat}{xs ys:Array Value}:(Op.eqFields dd xs ys []).run P w=.ok true w:=by simp[Op.eqFields]
theorem partS{P:Program}{w:World}{e:TypeId}{l:List Value}{off:Nat}{v:Value}(he:P.plainKey e=true)(h:l[off]? =some v):(part e l.toArray off).run P w=.ok v w:=run_part_plain w he (by simpa using h)
theorem partA{P:Program}{w:World}{e:TypeId}{l m:List Value}{off n:Nat}(ha:isAggT P e=true)(hn:P.cellsOf e=n+1)(h:(l.drop off).take (n+1)=m):(part e l.toArray off).run P w=.ok (.agg m.toArray) w:=by
 have e1:l.toArray.extract off (off+(n+1))=m.toArray:=by
  apply Array.ext'
  rw[Array.toList_extract]
  simp[List.extract,h]
 simp[part,run_isAgg ha,Go.Vc.run_sizeOf hn,Result.andThen,h]
theorem eqB(x y:Bool)(d:Nat)(w:World):(Op.equalIn (d+1) 4 (.bool x) (.bool y)).run Tryz.prog w=.ok (x==y) w:=by
 have hu:Tryz.prog.underlying 4=some .bool:=by kernel_rfl
 simp[Op.equalIn,run_underlying hu,Result.andThen]
set_option maxRecDepth 10000 in
theorem eq_sp(a b:Sp)(d:Nat)(w:World):(Op.equalIn (d+3) 38 (.agg (spC a).toArray) (.agg (spC b).toArray)).run Tryz.prog w=.ok (decide (a=b)) w:=by
 have u:Tryz.prog.underlying 38=some (.struct (Tryz.prog.fieldsOf 38)):=by kernel_rfl
 have h:Tryz.prog.stoodInHeld 38=false:=by kernel_rfl
 rw[run_equalIn_struct w (d+2) 38 _ _ u h]
 unfold Program.fieldsOf
 rw[Tryz.underlying38]
 have hsh:∀s:Sp,((spC s).drop 6).take 16=shC s.shifts:=spC_shift
 have g22:∀s:Sp,(spC s)[22]? =some (.int .i64 s.credit)∧(spC s)[23]? =some (.int .u32 s.last)∧(spC s)[24]? =some (.int .i64 s.first):=λs=>by
  have key:∀i,(spC s)[22+i]? =([.int .i64 s.credit,.int .u32 s.last,.int .i64 s.first]:List Value)[i]? :=λi=>by
   unfold spC
   rw[List.getElem?_append_right (by show 6≤22+i;omega),List.getElem?_append_right (by rw[shC_len];show 16≤22+i - 6;omega),shC_len]
   congr 1
   show 22+i - 6 - 16=i;omega
  exact⟨key 0,key 1,key 2⟩
 have ei:∀(t:TypeId) (q:IntKind) (x y:Int),Tryz.prog.underlying t=some (.int q)→(Op.equalIn (d+2) t (.int q x) (.int q y)).run Tryz.prog w=.ok (x==y) w:=λt q x y hu=>run_equalIn_int w (d+1) t q q x y hu
 have hfin:decide (a=b)=((a.num==b.num)&& ((a.route==b.route)&& ((a.tick==b.tick)&& ((a.lot==b.lot)&& ((a.band==b.band)&& ((a.limit==b.limit)&& (decide (a.shifts=b.shifts)&& ((a.credit==b.credit)&& ((a.last==b.last)&& ((a.first==b.first)&& true)))))))))):=by
  obtain⟨a1,a2,a3,a4,a5,a6,a7,a8,a9,a10⟩:=a
  obtain⟨b1,b2,b3,b4,b5,b6,b7,b8,b9,b10⟩:=b
  rw[Bool.eq_iff_iff]
  simp[Sp.mk.injEq]
 rw[hfin]
 refine eqF_c (by decide) (partS (by kernel_rfl) rfl) (partS (by kernel_rfl) rfl) (ei _ _ _ _ (by kernel_rfl)) ?_
 refine eqF_c (by decide) (partS (by kernel_rfl) rfl) (partS (by kernel_rfl) rfl) (ei _ _ _ _ (by kernel_rfl)) ?_
 refine eqF_c (by decide) (partS (by kernel_rfl) rfl) (partS (by kernel_rfl) rfl) (ei _ _ _ _ (by kernel_rfl)) ?_
 refine eqF_c (by decide) (partS (by kernel_rfl) rfl) (partS (by kernel_rfl) rfl) (ei _ _ _ _ (by kernel_rfl)) ?_
 refine eqF_c (by decide) (partS (by kernel_rfl) rfl) (partS (by kernel_rfl) rfl) (ei _ _ _ _ (by kernel_rfl)) ?_
 refine eqF_c (by decide) (partS (by kernel_rfl) rfl) (partS (by kernel_rfl) rfl) (ei _ _ _ _ (by kernel_rfl)) ?_
 refine eqF_c (by decide) (partA (n:=15) (by kernel_rfl) (by kernel_rfl) (hsh a)) (partA (n:=15) (by kernel_rfl) (by kernel_rfl) (hsh b)) (eq_sh a.shifts b.shifts d w) ?_
 refine eqF_c (by decide) (partS (by kernel_rfl) (g22 a).1) (partS (by kernel_rfl) (g22 b).1) (ei _ _ _ _ (by kernel_rfl)) ?_
 refine eqF_c (by decide) (partS (by kernel_rfl) (g22 a).2.1) (partS (by kernel_rfl) (g22 b).2.1) (ei _ _ _ _ (by kernel_rfl)) ?_
 refine eqF_c (by decide) (partS (by kernel_rfl) (g22 a).2.2) (partS (by kernel_rfl) (g22 b).2.2) (ei _ _ _ _ (by kernel_rfl)) ?_
 exact eqF_n
theorem cm5D(c:Cm):((cmC c).drop 5).take 25=spC c.spec:=by
 show(spC c.spec++_).take 25=_
 rw[←spC_len c.spec,List.take_left]
set_option maxRecDepth 100000 in
theorem eq_cm(a b:Cm)(w:World):(Op.equalIn 10000 tCm (cmV a) (cmV b)).run Tryz.prog w=.ok (decide (a=b)) w:=by
 have u:Tryz.prog.underlying tCm=some (.struct (Tryz.prog.fieldsOf tCm)):=by kernel_rfl
 have h:Tryz.prog.stoodInHeld tCm=false:=by kernel_rfl
 unfold cmV
 rw[run_equalIn_struct w 9999 tCm _ _ u h]
 unfold Program.fieldsOf
 rw[Tryz.underlying41]
 have ei:∀(t:TypeId) (q:IntKind) (x y:Int),Tryz.prog.underlying t=some (.int q)→(Op.equalIn 9999 t (.int q x) (.int q y)).run Tryz.prog w=.ok (x==y) w:=λt q x y hu=>run_equalIn_int w 9998 t q q x y hu
 have hfin:decide (a=b)=((a.kind==b.kind)&& ((a.acct==b.acct)&& ((a.ct==b.ct)&& ((a.num==b.num)&& ((a.amt==b.amt)&& (decide (a.spec=b.spec)&& ((a.on==b.on)&& ((a.buy==b.buy)&& ((a.ty==b.ty)&& ((a.price==b.price)&& ((a.qty==b.qty)&& true))))))))))):=by
  obtain⟨a1,a2,a3,a4,a5,a6,a7,a8,a9,a10,a11⟩:=a
  obtain⟨b1,b2,b3,b4,b5,b6,b7,b8,b9,b10,b11⟩:=b
  rw[Bool.eq_iff_iff]
  simp[Cm.mk.injEq]
 rw[hfin]
 refine eqF_c (by decide) (partS (by kernel_rfl) (cm0 a)) (partS (by kernel_rfl) (cm0 b)) (ei _ _ _ _ (by kernel_rfl)) ?_
 refine eqF_c (by decide) (partS (by kernel_rfl) (cm1 a)) (partS (by kernel_rfl) (cm1 b)) (ei _ _ _ _ (by kernel_rfl)) ?_
 refine eqF_c (by decide) (partS (by kernel_rfl) (cm2 a)) (partS (by kernel_rfl) (cm2 b)) (ei _ _ _ _ (by kernel_rfl)) ?_
 refine eqF_c (by decide) (partS (by kernel_rfl) (cm3 a)) (partS (by kernel_rfl) (cm3 b)) (ei _ _ _ _ (by kernel_rfl)) ?_
 refine eqF_c (by decide) (partS (by kernel_rfl) (cm4 a)) (partS (by kernel_rfl) (cm4 b)) (ei _ _ _ _ (by kernel_rfl)) ?_
 refine eqF_c (by decide) (partA (n:=24) (by kernel_rfl) (by kernel_rfl) (cm5D a)) (partA (n:=24) (by kernel_rfl) (by kernel_rfl) (cm5D b)) (eq_sp a.spec b.spec 9996 w) ?_
 refine eqF_c (by decide) (partS (by kernel_rfl) (cm30 a)) (partS (by kernel_rfl) (cm30 b)) (eqB _ _ 9998 w) ?_
 refine eqF_c (by decide) (partS (by kernel_rfl) (cm31 a)) (partS (by kernel_rfl) (cm31 b)) (eqB _ _ 9998 w) ?_
 refine eqF_c (by decide) (partS (by kernel_rfl) (cm32 a)) (partS (by kernel_rfl) (cm32 b)) (ei _ _ _ _ (by kernel_rfl)) ?_
 refine eqF_c (by decide) (partS (by kernel_rfl) (cm33 a)) (partS (by kernel_rfl) (cm33 b)) (ei _ _ _ _ (by kernel_rfl)) ?_
 refine eqF_c (by decide) (partS (by kernel_rfl) (cm34 a)) (partS (by kernel_rfl) (cm34 b)) (ei _ _ _ _ (by kernel_rfl)) ?_
 exact eqF_n
theorem eql_cm(a b:Cm)(w:World):(bin .eql tCm false (cmV a) (cmV b)).run Tryz.prog w=.ok (.bool (decide (a=b))) w:=by
 have:=eq_cm a b w
 unfold cmV at this⊢
 generalize(cmC a).toArray=A at this
 generalize(cmC b).toArray=B at this
 simp[go_sem,this,Result.andThen]
theorem ca_mayC{x:Cm}{w:World}{K:Kont}(hx:x.Fit)(hK:∀w',Mod (λ_=>False) w w' →K (.bool x.may) w'):Ca Tryz.prog 42 #[cmV x] w K:=by
 apply ca42
 unfold F42
 obtain⟨w1,e1,b1,m1⟩:=boxCm x w
 refine rvS e1 ?_
 obtain⟨p,hp0⟩:∃p,p=w.heap.size:=⟨_,rfl⟩
 rw[←hp0]at b1⊢
 have mdr:Mod (λ_=>False) w1 w1.drew:=(Mod.refl _ w1).drew
 have c2:CmAt w1.drew p x:=mdr.hpk b1 id
 have M2:=m1.trans mdr
 generalize w1.drew=w2 at mdr c2 M2⊢
 have hk:=hK
 unfold Cm.may at hK
 refine rdPS cm0F (rdWS (cm0L c2) ?_)
 by_cases h1:1≤x.kind
 ·refine rdPS (v:=.bool true) (λ_=>by simp[go_sem];omega) ?_
  rw[ifB_bool,if_pos rfl]
  refine rdPS cm0F (rdWS (cm0L c2) ?_)
  by_cases h2:x.kind≤14
  ·refine rdPS (v:=.bool true) (λ_=>by simp[go_sem];omega) ?_
   rw[ifB_bool,if_pos rfl]
   refine rdX_of (cmLd c2) (rdX_of (cmLd c2) ?_)
   refine ca_bare λw3 m3=>?_
   have c3:CmAt w3 p x:=m3.hpk c2 id
   refine⟨cmLd c3,?_⟩
   have M3:=M2.trans m3
   refine rdPS (eql_cm x x.bare) ?_
   by_cases h3:x=x.bare
   ·rw[ifB_bool,if_pos (decide_eq_true h3)]
    refine rdPS cm0F (rdWS (cm0L c3) ?_)
    refine rdPS (v:=.bool (decide (x.kind≠3))) (λ_=>by simp[go_sem];rfl) ?_
    by_cases h4:x.kind≠3
    ·rw[ifB_bool,if_pos (decide_eq_true h4)]
     have:=hK w3 M3
     rw[decide_eq_true ⟨h1,h2⟩,decide_eq_true h3,decide_eq_true h4]at this
     exact this
    ·rw[ifB_bool,if_neg (by rw[decide_eq_true_eq];exact h4)]
     refine rdPS cm5F ?_
     refine rdX_bigS (spC x.spec) 24 aSp nSp (spC_len _) (cm5At c3) ?_
     refine ca_smayS hx.2.2.2.2.2.1 λw4 m4=>?_
     have:=hK w4 (M3.trans m4)
     rw[decide_eq_true ⟨h1,h2⟩,decide_eq_true h3,decide_eq_false h4]at this
     simpa using this
   ·rw[ifB_bool,if_neg (by rw[decide_eq_true_eq];exact h3)]
    have:=hK w3 M3
    rw[decide_eq_false h3,Bool.and_false,Bool.false_and]at this
    exact this
  ·refine rdPS (v:=.bool false) (λ_=>by simp[go_sem];omega) ?_
   rw[ifB_bool,if_neg Bool.false_ne_true]
   have:=hK w2 M2
   rw[decide_eq_false (λh=>h2 h.2),Bool.false_and,Bool.false_and]at this
   exact this
 ·refine rdPS (v:=.bool false) (λ_=>by simp[go_sem];omega) ?_
  rw[ifB_bool,if_neg Bool.false_ne_true]
  have:=hK w2 M2
  rw[decide_eq_false (λh=>h1 h.1),Bool.false_and,Bool.false_and]at this
  exact this
end Go.Proofs

namespace Go.Proofs
open Go Go.Vc
attribute [local congr] Ca_congV
theorem VenR.move{w w' :World}{v u c l mb md:Nat}{A:List (Int×Nat)}{D:List (Int×Value)}{fp:Pt→Nat→Prop}{S:Ven}(h:VenR w u c l mb md A D fp S)(hv:∀p,p≠ .v→¬fp p v)(hb:hp w' v=some (.cells #[cptr c,lptr l,.map (some mb),.map (some md),.int .u64 S.next] tVen (0,0)))(hm:Mod (λy=>y=v) w w'):
  VenR w' v c l mb md A D (updP fp .v λy=>y=v) S:=by
 have hn:∀p,p≠ .v→∀y,fp p y→¬y=v:=λp hp y hy e=>hv p hp (e▸hy)
 refine⟨{
  blk:=hb
  cal:=by rw[updP_ne (by simp)];exact h.cal.mod hm (hn .cal (by simp))
  led:=by rw[updP_ne (by simp)];exact h.led.mod hm (hn .led (by simp))
  mbk:=h.mbk.mod hm (hn .mb (by simp) _ ((h.fmb mb).2 rfl))
  mbd:=h.mbd.mod hm (hn .md (by simp) _ ((h.fmd md).2 rfl))
  bk:=λn b hl=>by rw[updP_ne (by simp)];exact(h.bk n b hl).mod hm (hn (.bk n) (by simp))
  nbk:=λn hl=>by rw[updP_ne (by simp)];exact h.nbk n hl
  bd:=λn=>(h.bd n).mod hm λx hx=>hn (.bd n) (by simp) x ((h.fbd n x).2 hx)
  fv:=λx=>by rw[updP_self]
  fmb:=by rw[updP_ne (by simp)];exact h.fmb
  fmd:=by rw[updP_ne (by simp)];exact h.fmd
  fbd:=λn x=>by rw[updP_ne (by simp)];exact h.fbd n x
  dj:=?_},h.dom,h.dod⟩
 intro a b x ha hb'
 by_cases h1:a=.v
 ·by_cases h2:b=.v
  ·rw[h1,h2]
  ·rw[h1,updP_self]at ha
   rw[updP_ne h2]at hb'
   exact absurd (ha▸hb') (hv b h2)
 ·by_cases h2:b=.v
  ·rw[h2,updP_self]at hb'
   rw[updP_ne h1]at ha
   exact absurd (hb' ▸ha) (hv a h1)
  ·rw[updP_ne h1]at ha
   rw[updP_ne h2]at hb'
   exact h.dj _ _ _ ha hb'
theorem ldVen{W:World}{v c l mb md:Nat}{n:Int}(h:hp W v=some (.cells #[cptr c,lptr l,.map (some mb),.map (some md),.int .u64 n] tVen (0,0))):(Instr.loadAt tVen (.pointer (some ⟨v,0,none⟩))).run Tryz.prog W=.ok (.agg #[cptr c,lptr l,.map (some mb),.map (some md),.int .u64 n]) W:=by
 simp only[cptr,lptr]at h⊢
 simp[go_sem,h]
theorem stVen{W:World}{v c l mb md c' l' mb' md' :Nat}{n n' :Int}(h:hp W v=some (.cells #[cptr c,lptr l,.map (some mb),.map (some md),.int .u64 n] tVen (0,0))):
  ∃W',(Instr.storeAt tVen (.pointer (some ⟨v,0,none⟩)) (.agg #[cptr c',lptr l',.map (some mb'),.map (some md'),.int .u64 n'])).run Tryz.prog W=.ok () W' ∧hp W' v=some (.cells #[cptr c',lptr l',.map (some mb'),.map (some md'),.int .u64 n'] tVen (0,0))∧Mod (λy=>y=v) W W' :=by
 simp only[cptr,lptr]at h⊢
 exact⟨((((W.setCell ⟨v,0,none⟩ (cptr c')).setCell ⟨v,1,none⟩ (lptr l')).setCell ⟨v,2,none⟩ (.map (some mb'))).setCell ⟨v,3,none⟩ (.map (some md'))).setCell ⟨v,4,none⟩ (.int .u64 n'),
  by simp[go_sem,h,cptr,lptr],by simp[go_sem,h,cptr,lptr],(((((Mod.refl (λy=>y=v) W).setCell (.inl rfl) _ _).setCell (.inl rfl) _ _).setCell (.inl rfl) _ _).setCell (.inl rfl) _ _).setCell (.inl rfl) _ _⟩
end Go.Proofs
namespace Go.Proofs
open Go Go.Vc
attribute [local congr] Ca_congV
theorem uAcs:Tryz.prog.underlying 44=some (.slice 92):=by kernel_rfl
theorem eAcc:elemOk Tryz.prog 92 4 24=true:=by kernel_rfl
theorem ca_collect{w:World}{K:Kont}{gv:Value}{L:List Ac}(ht:TellsM gv (L.map λa=>[acV a]) w)(hl:L.length≤100000)
  (hK:∀s' w',Own w' 92 4 s' L.length (L.flatMap cellsAc)→Mod (λ_=>False) w w' →(∀y,inSl s' y→w.heap.size≤y)→K s' w'):Ca Tryz.prog 54 #[gv] w K:=by
 apply ca54
 unfold F54
 apply ca137
 unfold F137
 obtain⟨p,hp0⟩:∃p,p=w.heap.size:=⟨_,rfl⟩
 have m1:Mod (λ_=>False) w (w.alloc (.cells #[nilV] 44)):=(Mod.refl _ w).alloc _
 have b1:hp (w.alloc (.cells #[nilV] 44)) p=some (.cells #[nilV] 44 (0,0)):=by rw[hp0];simp[go_sem]
 refine rvS (v:=.pointer (some ⟨p,0,none⟩)) (w' :=w.alloc (.cells #[nilV] 44)) (by rw[hp0];simp[go_sem,nilV]) ?_
 generalize w.alloc (.cells #[nilV] 44)=w1 at m1 b1⊢
 have hpl:=lt_of_heap b1
 let I:(Nat→Prop)→Nat→World→Prop:=λX i W=>∃sl,hp W p=some (.cells #[sl] 44 (0,0))∧Own W 92 4 sl (L.take i).length ((L.take i).flatMap cellsAc)∧(∀y,X y↔y=p∨inSl sl y)∧∀y,inSl sl y→p<y
 delta R137_0
 refine RF_list (X0:=λx=>x=p) (T:=tAc) (fc:=cellsAc) (ht.mod m1) VarOk.ac I (λ_ _ _=>False) ?_ (λ_ _ _ _ _ h=>h.elim) (λx hx=>by omega) ⟨nilV,b1,Own.nil _ _ _,λy=>⟨.inl,λhy=>hy.elim id λhy=>by cases hy⟩,λy hy=>(by cases hy)⟩ ?_ ?_ (λ_ _ _ _ _ h=>h.elim)
 ·rintro X i W W' H ⟨sl,i1,i2,i3,i4⟩ hm hX
  exact⟨sl,hm.hpk i1 (hX _ ((i3 _).2 (.inl rfl))),i2.mod hm λy hy=>hX y ((i3 y).2 (.inr hy)),i3,i4⟩
 ·rintro X i hi W r ⟨sl,i1,i2,i3,i4⟩ mW hX hdq hqW gq KN KJ hKN hKJ
  obtain⟨sa,sc,hsl,-⟩:=i2.isSl
  have htk:=take_succ' hi
  refine rvS (v:=sl) (w' :=W) (by rw[hsl]at i1⊢;simp[go_sem,i1]) ?_
  refine rvS (acLd gq) ?_
  have hl64:(L.take i).length≤100000:=by rw[List.length_take];omega
  refine pushV1 (x:=L[i]) (f:=cellsAc) uAcs (elemT_of eAcc) (λ_=>rfl) rfl rfl i2 (by omega) (by omega) λs' W1 o1 mo n1=>?_
  obtain⟨ta,tc,hs',-⟩:=o1.isSl
  have hpW:=lt_of_heap i1
  have z1:=mo.hpk i1 λhc=>by have:=i4 _ hc;omega
  refine ruS (w' :=W1.setCell ⟨p,0,none⟩ s') (by rw[hs'];simp[go_sem,z1]) ?_
  have mS:Mod (λy=>y=p) W1 (W1.setCell ⟨p,0,none⟩ s'):=(Mod.refl (λy=>y=p) W1).setCell (.inl rfl) _ _
  have bS:hp (W1.setCell ⟨p,0,none⟩ s') p=some (.cells #[s'] 44 (0,0)):=by simp[go_sem,z1]
  generalize W1.setCell ⟨p,0,none⟩ s' =W2 at mS bS⊢
  have hsW:=mo.size
  have hs2W:=mS.size
  have hn4:∀y,inSl s' y→p<y:=λy hy=>by
   rcases n1 y hy with h' |h'
   ·exact i4 y h'
   ·omega
  refine hKN (λy=>y=p∨inSl s' y) W2 ⟨s',bS,?_,λy=>Iff.rfl,hn4⟩ ((mo.mono λy _ hy=>(i3 y).2 (.inr hy)).trans (mS.mono λy _ hy=>(i3 y).2 (.inl hy))) λy hy=>?_
  ·rw[htk]
   exact o1.mod mS λy hy e=>by have:=hn4 y hy;omega
  ·rcases hy with rfl|hy
   ·exact⟨.inl ((i3 _).2 (.inl rfl)),by omega⟩
   ·refine⟨(n1 y hy).imp (λh' =>(i3 y).2 (.inr h')) id,?_⟩
    have:=o1.lt hy;omega
 ·rintro X W d hd ⟨sl,i1,i2,i3,i4⟩ mW hdef hX
  replace i2:Own W 92 4 sl (L.take L.length).length ((L.take L.length).flatMap cellsAc):=i2
  rw[List.take_length]at i2
  obtain⟨sa,sc,hsl,-⟩:=i2.isSl
  unfold A137_1
  simp only[afterK]
  refine rvS (v:=sl) (w' :=W) (by rw[hsl]at i1⊢;simp[go_sem,i1]) ?_
  refine retV1 hdef λW2 m2=>?_
  refine hK sl W2 (i2.mod m2 λy hy e=>?_) (((m1.on mW λy hy=>.inr (by omega))).on m2 λy hy=>.inr (by omega)) λy hy=>by have:=i4 y hy;omega
  rcases(hX y ((i3 y).2 (.inr hy))).2 with h' |h'
  ·have:=i4 y hy;omega
  ·omega
abbrev tSt:TypeId:=49
def stE:Nat→TypeId
 |3=>92
 |4=>108
 |5=>112
 |_=>119
def stS:Nat→TypeId
 |3=>44
 |4=>45
 |5=>46
 |_=>47
def stK:Nat→Nat
 |3=>4
 |4=>27
 |5=>4
 |_=>6
def stB:Nat→Nat
 |3=>24
 |4=>208
 |5=>24
 |_=>40
theorem stU(i:Nat):Tryz.prog.underlying (stS i)=some (.slice (stE i)):=by
 unfold stS stE
 split<;>kernel_rfl
theorem stEl(i:Nat):elemOk Tryz.prog (stE i) (stK i) (stB i)=true:=by
 unfold stE stK stB
 split<;>kernel_rfl
theorem stBd(i:Nat):stK i≤27∧stB i≤208:=by
 unfold stK stB
 split<;>exact⟨by omega,by omega⟩
def stC(d n f:Int)(ss:Nat→Value):List Value:=[.int .u32 d,.int .u64 n,.int .i64 f,ss 3,ss 4,ss 5,ss 6,ss 7]
def stV(d n f:Int)(ss:Nat→Value):Value:=.agg (stC d n f ss).toArray
def updN{α:Type}(f:Nat→α)(i:Nat)(x:α):Nat→α:=λj=>if j=i then x else f j
structure StB(w:World)(b:Nat)(d nx fu:Int)(ss:Nat→Value)(n:Nat→Nat)(cs:Nat→List Value)(lo:Nat):Prop where
 at_:hp w b=some (.cells (stC d nx fu ss).toArray tSt (0,0))
 own:∀i,3≤i→i≤7→Own w (stE i) (stK i) (ss i) (n i) (cs i)
 dj:∀i j y,3≤i→i≤7→3≤j→j≤7→inSl (ss i) y→inSl (ss j) y→i=j
 nw:∀i y,3≤i→i≤7→inSl (ss i) y→lo≤y∧y≠b
theorem StB.mod{F:Nat→Prop}{w w' :World}{b lo:Nat}{d nx fu:Int}{ss:Nat→Value}{n:Nat→Nat}{cs:Nat→List Value}(h:StB w b d nx fu ss n cs lo)(hm:Mod F w w')(h1:¬F b)(h2:∀i y,3≤i→i≤7→inSl (ss i) y→¬F y):StB w' b d nx fu ss n cs lo:=
 ⟨hm.hpk h.at_ h1,λi hi hj=>(h.own i hi hj).mod hm λy hy=>h2 i y hi hj hy,h.dj,h.nw⟩
theorem stFld(W:World){b:Nat}(i:Nat)(hi:i<8):(Instr.fieldAt tSt (.pointer (some ⟨b,0,none⟩)) i).run Tryz.prog W=.ok (.pointer (some ⟨b,i,none⟩)) W:=by
 have:i=0∨i=1∨i=2∨i=3∨i=4∨i=5∨i=6∨i=7:=by omega
 rcases this with rfl|rfl|rfl|rfl|rfl|rfl|rfl|rfl<;>simp[go_sem]
theorem StB.ld{w:World}{b lo:Nat}{d nx fu:Int}{ss:Nat→Value}{n:Nat→Nat}{cs:Nat→List Value}(h:StB w b d nx fu ss n cs lo)(i:Nat)(hi:3≤i)(hj:i≤7):(Instr.loadAt (stS i) (.pointer (some ⟨b,i,none⟩))).run Tryz.prog w=.ok (ss i) w:=by
 obtain⟨a,c,hs,-⟩:=(h.own i hi hj).isSl
 have hat:=h.at_
 have:i=3∨i=4∨i=5∨i=6∨i=7:=by omega
 rcases this with rfl|rfl|rfl|rfl|rfl<;>(simp only[stS];rw[hs];simp only[stC]at hat;rw[hs]at hat;simp[go_sem,hat])
theorem pushSt{w:World}{b lo:Nat}{d nx fu:Int}{ss:Nat→Value}{n:Nat→Nat}{cs:Nat→List Value}(h:StB w b d nx fu ss n cs lo)(i:Nat)(hi:3≤i)(hj:i≤7){xv:Value}{c:List Value}{K:World→Prop}(hx:xv.cells.toList=c)(hc:c.length=stK i)(hone:c.all (·.oneCell')=true)(hn:n i≤1000000)(hlo:lo≤w.heap.size)
  (hK:∀s' w',StB w' b d nx fu (updN ss i s') (updN n i (n i+1)) (updN cs i (cs i++c)) lo→Mod (λy=>y=b∨inSl (ss i) y) w w' →(∀y,inSl s' y→inSl (ss i) y∨w.heap.size≤y)→K w'):
  rx Tryz.prog (xLit (stS i) 1 [(0,xv)]) w λv w1=>rx Tryz.prog (xAppend #[stS i,stS i] (stS i) [ss i,v]) w1 λv2 w2=>rv Tryz.prog (Instr.fieldAt tSt (.pointer (some ⟨b,0,none⟩)) i) w2 λv3 w3=>ru Tryz.prog (Instr.storeAt (stS i) v3 v2) w3 K:=by
 have hcz:xv.cells.size=stK i:=by rw[←Array.length_toList,hx,hc]
 have hbd:=stBd i
 refine rx_lit [xv] (stU i) (elemT_of (stEl i)) rfl rfl (by intro v hv;rw[List.mem_singleton.1 hv];exact hcz) (by omega) ?_
 have e0:(([xv]:List Value).flatMap (·.cells.toList)).toArray=c.toArray:=by simp[hx]
 rw[e0]
 have m1:Mod (λ_=>False) w (w.alloc (.cells c.toArray (stE i))):=(Mod.refl _ w).alloc _
 have r1:Rd (w.alloc (.cells c.toArray (stE i))) (stK i) (.slice (some ⟨w.heap.size,0,none⟩) 1 1) 1 c:=
  ⟨by rw[hc];omega,.inr ⟨_,0,1,rfl,Nat.le_refl _,At.all (hp_of (by rw[heap_alloc,if_pos rfl]))⟩⟩
 have hown:=h.own i hi hj
 have hbl:b<w.heap.size:=lt_of_heap h.at_
 refine rx_append (stU i) (stU i) (elemT_of (stEl i)) (hown.mod m1 λ_ _ h=>h) r1 hone (Nat.le_trans (Nat.mul_le_mul (show n i+1≤1000001 by omega) hbd.2) (by decide)) λs' w' o' m' n' =>?_
 refine rvS (stFld w' i (by omega)) ?_
 have hsz:(w.alloc (.cells c.toArray (stE i))).heap.size=w.heap.size+1:=World.size_alloc ..
 have M' :Mod (inSl (ss i)) w w' :=(m1.mono (G:=inSl (ss i)) λ_ _ h=>h.elim).trans m'
 have n'' :∀y,inSl s' y→inSl (ss i) y∨w.heap.size≤y:=λy hy=>by
  rcases n' y hy with h' |h'
  ·exact .inl h'
  ·exact .inr (by omega)
 have at' :=M'.hpk h.at_ λhc=>(h.nw i b hi hj hc).2 rfl
 obtain⟨a,cc,hs',-⟩:=o'.isSl
 have hst:(Instr.storeAt (stS i) (.pointer (some ⟨b,i,none⟩)) s').run Tryz.prog w' =.ok () (w'.setCell ⟨b,i,none⟩ s')∧hp (w'.setCell ⟨b,i,none⟩ s') b=some (.cells (stC d nx fu (updN ss i s')).toArray tSt (0,0)):=by
  obtain⟨a0,c0,hs0,-⟩:=hown.isSl
  have:i=3∨i=4∨i=5∨i=6∨i=7:=by omega
  rcases this with rfl|rfl|rfl|rfl|rfl<;>(simp only[stC]at at';rw[hs0]at at';refine⟨by simp only[stS];rw[hs'];simp[go_sem,at'],by rw[hs'];simp[go_sem,at',stC,updN]⟩)
 refine ruS hst.1 ?_
 have mS:Mod (λy=>y=b) w' (w'.setCell ⟨b,i,none⟩ s'):=(Mod.refl (λy=>y=b) w').setCell (.inl rfl) _ _
 have hs'n:∀y,inSl s' y→lo≤y∧y≠b:=λy hy=>by
  rcases n'' y hy with h' |h'
  ·exact h.nw i y hi hj h'
  ·exact⟨by omega,by omega⟩
 refine hK s' _ ⟨hst.2,λj hj1 hj2=>?_,λj1 j2 y a1 a2 a3 a4 y1 y2=>?_,λj y hj1 hj2 hy=>?_⟩ ((M'.mono λy _ hy=>.inr hy).trans (mS.mono λy _ hy=>.inl hy)) n''
 ·unfold updN
  by_cases hji:j=i
  ·subst hji
   rw[if_pos rfl,if_pos rfl,if_pos rfl]
   exact o'.mod mS λy hy e=>(hs'n y hy).2 e
  ·rw[if_neg hji,if_neg hji,if_neg hji]
   exact((h.own j hj1 hj2).mod M' λy hy hc=>hji (h.dj j i y hj1 hj2 hi hj hy hc)).mod mS λy hy e=>(h.nw j y hj1 hj2 hy).2 e
 ·unfold updN at y1 y2
  have hlt:∀j,3≤j→j≤7→inSl (ss j) y→y<w.heap.size:=λj b1 b2 hy=>(h.own j b1 b2).lt hy
  by_cases h1:j1=i
  ·by_cases h2:j2=i
   ·rw[h1,h2]
   ·rw[if_pos h1]at y1
    rw[if_neg h2]at y2
    rcases n'' y y1 with h' |h'
    ·rw[h1];exact h.dj i j2 y hi hj a3 a4 h' y2
    ·have:=hlt j2 a3 a4 y2;omega
  ·rw[if_neg h1]at y1
   by_cases h2:j2=i
   ·rw[if_pos h2]at y2
    rcases n'' y y2 with h' |h'
    ·rw[h2];exact h.dj j1 i y a1 a2 hi hj y1 h'
    ·have:=hlt j1 a1 a2 y1;omega
   ·rw[if_neg h2]at y2
    exact h.dj j1 j2 y a1 a2 a3 a4 y1 y2
 ·unfold updN at hy
  by_cases hji:j=i
  ·rw[if_pos hji]at hy;exact hs'n y hy
  ·rw[if_neg hji]at hy;exact h.nw j y hj1 hj2 hy
end Go.Proofs
namespace Go.Proofs
open Go Go.Vc
attribute [local congr] Ca_congV
def sdOC(x:Int×Od):List Value:=.int .u32 x.1::odC x.2
def LN(A:List Ac)(C:List Ct)(P:List Po)(O B:List (Int×Od)):Nat→Nat
 |3=>A.length
 |4=>C.length
 |5=>P.length
 |6=>O.length
 |7=>B.length
 |_=>0
def LC(A:List Ac)(C:List Ct)(P:List Po)(O B:List (Int×Od)):Nat→List Value
 |3=>A.flatMap cellsAc
 |4=>C.flatMap ctC
 |5=>P.flatMap cellsPo
 |6=>O.flatMap sdOC
 |7=>B.flatMap sdOC
 |_=>[]
abbrev SB(w:World)(b:Nat)(d nx fu:Int)(ss:Nat→Value)(A:List Ac)(C:List Ct)(P:List Po)(O B:List (Int×Od))(lo:Nat):Prop:=StB w b d nx fu ss (LN A C P O B) (LC A C P O B) lo
def XS(ss:Nat→Value)(b:Nat):Nat→Prop:=λy=>y=b∨∃i,3≤i∧i≤7∧inSl (ss i) y
section
variable{w:World}{b lo:Nat}{d nx fu:Int}{ss:Nat→Value}{A:List Ac}{C:List Ct}{P:List Po}{O B:List (Int×Od)}
theorem SB.modX{H:Nat→Prop}{w' :World}(h:SB w b d nx fu ss A C P O B lo)(hm:Mod H w w')(hx:∀y,XS ss b y→¬H y):SB w' b d nx fu ss A C P O B lo:=
 h.mod hm (hx b (.inl rfl)) λi y hi hj hy=>hx y (.inr ⟨i,hi,hj,hy⟩)
theorem SB.ltX(h:SB w b d nx fu ss A C P O B lo){y:Nat}(hy:XS ss b y):y<w.heap.size:=by
 rcases hy with rfl|⟨i,hi,hj,hy⟩
 ·exact lt_of_heap h.at_
 ·exact(h.own i hi hj).lt hy
theorem pushX{i:Nat}(hi:3≤i)(hj:i≤7){xv:Value}{c:List Value}{A' :List Ac}{C' :List Ct}{P' :List Po}{O' B' :List (Int×Od)}{K:World→Prop}(h:SB w b d nx fu ss A C P O B lo)(hx:xv.cells.toList=c)(hc:c.length=stK i)(hone:c.all (·.oneCell')=true)(hn:LN A C P O B i≤1000000)(hlo:lo≤w.heap.size)
  (e1:updN (LN A C P O B) i (LN A C P O B i+1)=LN A' C' P' O' B')(e2:updN (LC A C P O B) i (LC A C P O B i++c)=LC A' C' P' O' B')
  (hK:∀ss' w',SB w' b d nx fu ss' A' C' P' O' B' lo→Mod (XS ss b) w w' →(∀y,XS ss' b y→XS ss b y∨w.heap.size≤y)→K w'):
  rx Tryz.prog (xLit (stS i) 1 [(0,xv)]) w λv w1=>rx Tryz.prog (xAppend #[stS i,stS i] (stS i) [ss i,v]) w1 λv2 w2=>rv Tryz.prog (Instr.fieldAt tSt (.pointer (some ⟨b,0,none⟩)) i) w2 λv3 w3=>ru Tryz.prog (Instr.storeAt (stS i) v3 v2) w3 K:=by
 refine pushSt h i hi hj hx hc hone hn hlo λs' w' h' m' n' =>hK (updN ss i s') w' ?_ (m'.mono λy _ hy=>hy.imp id λhy=>⟨i,hi,hj,hy⟩) λy hy=>?_
 ·rw[e1,e2]at h'
  exact h'
 ·rcases hy with hy|⟨j,hj1,hj2,hy⟩
  ·exact .inl (.inl hy)
  ·unfold updN at hy
   by_cases hji:j=i
   ·rw[if_pos hji]at hy
    exact(n' y hy).imp (λh=>.inr ⟨i,hi,hj,h⟩) id
   ·rw[if_neg hji]at hy
    exact .inl (.inr ⟨j,hj1,hj2,hy⟩)
end
theorem updN_ext{α:Type}{f g:Nat→α}{i:Nat}{x:α}(h1:g i=x)(h2:∀j,j≠i→g j=f j):updN f i x=g:=by
 funext j
 unfold updN
 by_cases h:j=i
 ·rw[if_pos h,h,h1]
 ·rw[if_neg h,h2 j h]
theorem LN4(A:List Ac)(C:List Ct)(P:List Po)(O B:List (Int×Od))(k:Ct):updN (LN A C P O B) 4 (LN A C P O B 4+1)=LN A (C++[k]) P O B:=
 updN_ext (by simp[LN]) λj hj=>by unfold LN;split<;>first|rfl|exact absurd rfl hj
theorem LC4(A:List Ac)(C:List Ct)(P:List Po)(O B:List (Int×Od))(k:Ct):updN (LC A C P O B) 4 (LC A C P O B 4++ctC k)=LC A (C++[k]) P O B:=
 updN_ext (by simp[LC]) λj hj=>by unfold LC;split<;>first|rfl|exact absurd rfl hj
theorem LN5(A:List Ac)(C:List Ct)(P:List Po)(O B:List (Int×Od))(k:Po):updN (LN A C P O B) 5 (LN A C P O B 5+1)=LN A C (P++[k]) O B:=
 updN_ext (by simp[LN]) λj hj=>by unfold LN;split<;>first|rfl|exact absurd rfl hj
theorem LC5(A:List Ac)(C:List Ct)(P:List Po)(O B:List (Int×Od))(k:Po):updN (LC A C P O B) 5 (LC A C P O B 5++cellsPo k)=LC A C (P++[k]) O B:=
 updN_ext (by simp[LC]) λj hj=>by unfold LC;split<;>first|rfl|exact absurd rfl hj
theorem LN6(A:List Ac)(C:List Ct)(P:List Po)(O B:List (Int×Od))(k:Int×Od):updN (LN A C P O B) 6 (LN A C P O B 6+1)=LN A C P (O++[k]) B:=
 updN_ext (by simp[LN]) λj hj=>by unfold LN;split<;>first|rfl|exact absurd rfl hj
theorem LC6(A:List Ac)(C:List Ct)(P:List Po)(O B:List (Int×Od))(k:Int×Od):updN (LC A C P O B) 6 (LC A C P O B 6++sdOC k)=LC A C P (O++[k]) B:=
 updN_ext (by simp[LC]) λj hj=>by unfold LC;split<;>first|rfl|exact absurd rfl hj
theorem LN7(A:List Ac)(C:List Ct)(P:List Po)(O B:List (Int×Od))(k:Int×Od):updN (LN A C P O B) 7 (LN A C P O B 7+1)=LN A C P O (B++[k]):=
 updN_ext (by simp[LN]) λj hj=>by unfold LN;split<;>first|rfl|exact absurd rfl hj
theorem LC7(A:List Ac)(C:List Ct)(P:List Po)(O B:List (Int×Od))(k:Int×Od):updN (LC A C P O B) 7 (LC A C P O B 7++sdOC k)=LC A C P O (B++[k]):=
 updN_ext (by simp[LC]) λj hj=>by unfold LC;split<;>first|rfl|exact absurd rfl hj
theorem bldSd(n:Int)(o:Od)(W:World):(Instr.build 119 #[(0,.int .u32 n),(1,odV o)]).run Tryz.prog W=.ok (.agg (sdOC (n,o)).toArray) W:=by
 simp[go_sem,odV,odC,sdOC]
theorem stLd{W:World}{p:Nat}{d n f:Int}{ss:Nat→Value}(h:hp W p=some (.cells (stC d n f ss).toArray tSt (0,0))):(Instr.loadAt tSt (.pointer (some ⟨p,0,none⟩))).run Tryz.prog W=.ok (stV d n f ss) W:=
 run_bigS (P:=Tryz.prog) (t:=tSt) (n:=7) (by kernel_rfl) (by kernel_rfl) rfl (At.all h)
theorem stSt{W:World}{p:Nat}{cs:Array Value}{d n f:Int}{ss:Nat→Value}(h:hp W p=some (.cells cs tSt (0,0)))(hc:cs.size=8)(hs:∀i,3≤i→i≤7→∃a n c,ss i=.slice a n c):
  ∃W',(Instr.storeAt tSt (.pointer (some ⟨p,0,none⟩)) (stV d n f ss)).run Tryz.prog W=.ok () W' ∧hp W' p=some (.cells (stC d n f ss).toArray tSt (0,0))∧Mod (λb=>b=p) W W' :=by
 have h7:cs.toList.length=8:=by simpa using hc
 have hn:Tryz.prog.cellsOf tSt=7+1:=by kernel_rfl
 have hone:(stC d n f ss).all (·.oneCell')=true:=by
  obtain⟨_,_,_,e3⟩:=hs 3 (by omega) (by omega)
  obtain⟨_,_,_,e4⟩:=hs 4 (by omega) (by omega)
  obtain⟨_,_,_,e5⟩:=hs 5 (by omega) (by omega)
  obtain⟨_,_,_,e6⟩:=hs 6 (by omega) (by omega)
  obtain⟨_,_,_,e7⟩:=hs 7 (by omega) (by omega)
  unfold stC
  rw[e3,e4,e5,e6,e7]
  rfl
 have e:=run_bigU (P:=Tryz.prog) (t:=tSt) (b:=p) (off:=0) (cs:=stC d n f ss) hn rfl h (by show 0+8≤cs.size;omega) hone
 refine⟨W.setRow p (lay cs.toList 0 (stC d n f ss)).toArray,?_,?_,(Mod.refl (λb=>b=p) W).setRow (.inl rfl) _⟩
 ·have:(bigU tSt (.pointer (some ⟨p,0,none⟩)) (stV d n f ss)).run Tryz.prog W=_:=e
  unfold bigU at this
  exact this
 ·rw[hp_setRow,if_pos rfl,h,lay_all (by rw[h7];rfl)]
def ss0(s:Value):Nat→Value:=λi=>if i=3 then s else nilV
theorem newSt(W:World):∃W',(Instr.alloc tSt true (.tuple #[])).run Tryz.prog W=.ok (.pointer (some ⟨W.heap.size,0,none⟩)) W' ∧hp W' W.heap.size=some (.cells (stC 0 0 0 (ss0 nilV)).toArray tSt (0,0))∧Mod (λ_=>False) W W' :=
 ⟨W.alloc (.cells (stC 0 0 0 (ss0 nilV)).toArray tSt),by simp[go_sem,stC,ss0,nilV],by simp[go_sem],(Mod.refl _ W).alloc _⟩
theorem bldSt(d n f:Int)(s:Value)(W:World)(hs:∃a n c,s=.slice a n c):(Instr.build tSt #[(0,.int .u32 d),(1,.int .u64 n),(2,.int .i64 f),(3,s)]).run Tryz.prog W=.ok (stV d n f (ss0 s)) W:=by
 obtain⟨_,_,_,rfl⟩:=hs
 simp[go_sem,stV,stC,ss0,nilV]
end Go.Proofs
