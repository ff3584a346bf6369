/- Part of a proof. -/
import Derived.Test.YtgebhcgmckjbbaaGreatS18
set_option linter.all false
namespace Go.Proofs
open Go Go.Vc
attribute [local congr] Ca_congV
theorem VenW.setCal{w w' :World}{v c l mb md:Nat}{A:List (Int×Nat)}{D:List (Int×Value)}{fp:Pt→Nat→Prop}{S:Ven}(h:VenW w v c l mb md A D fp S){G:Nat→Prop}{C:Cal}(hm:Mod (fp .cal) w w')(hc:CalQ w' c G C)(hn:∀x,G x→fp .cal x∨w.heap.size≤x):VenW w' v c l mb md A D (updP fp .cal G) {S with cal:=C} where
 blk:=hm.hpk h.blk (h.ap (by simp) _ h.self)
 cal:=by rw[updP_self];exact hc
 led:=by rw[updP_ne (by simp)];exact h.led.mod hm (h.ap (by simp))
 mbk:=h.mbk.mod hm (h.ap (by simp) _ ((h.fmb mb).2 rfl))
 mbd:=h.mbd.mod hm (h.ap (by simp) _ ((h.fmd md).2 rfl))
 bk n b hl:=by rw[updP_ne (by simp)];exact(h.bk n b hl).mod hm (h.ap (by simp))
 nbk n hl:=by rw[updP_ne (by simp)];exact h.nbk n hl
 bd n:=(h.bd n).mod hm λx hx=>h.ap (by simp) x ((h.fbd n x).2 hx)
 fv:=by rw[updP_ne (by simp)];exact h.fv
 fmb:=by rw[updP_ne (by simp)];exact h.fmb
 fmd:=by rw[updP_ne (by simp)];exact h.fmd
 fbd n x:=by rw[updP_ne (by simp)];exact h.fbd n x
 dj:=h.djU hn
theorem calList_0{C:Cal}{s:Sp}(h:(calList C s).1=0):calGet C.l s.num=none∧∀m,calGet (calList C s).2.l m=if s.num=m then some (newCt s)else calGet C.l m:=by
 unfold calList at h⊢
 split at h
 ·cases h
 ·split at h
  ·cases h
  ·split at h
   ·cases h
   ·split at h
    ·cases h
    ·rename_i h1 h2 h3 h4
     have hg:calGet C.l s.num=none:=by
      cases hc:calGet C.l s.num with
      |none=>rfl
      |some k=>rw[hc]at h2;exact absurd rfl h2
     refine⟨hg,λm=>?_⟩
     rw[if_neg h1,if_neg h2,if_neg h3,if_neg h4]
     exact calGet_ins (k:=newCt s) hg _ m
theorem calList_e{C:Cal}{s:Sp}(h:(calList C s).1≠0):(calList C s).2=C:=by
 unfold calList at h⊢
 split
 ·rfl
 ·split
  ·rfl
  ·split
   ·rfl
   ·split
    ·rfl
    ·rename_i h1 h2 h3 h4
     rw[if_neg h1,if_neg h2,if_neg h3,if_neg h4]at h
     exact absurd rfl h
theorem halt_get(C:Cal)(n:Int)(on:Bool)(m:Int):(calGet (calHalt C n on).2.l m).isSome=(calGet C.l m).isSome:=by
 unfold calHalt
 split
 ·rfl
 ·show(calGet (calSet C.l n _) m).isSome=_
  rw[calGet_set (f:=λk=>{k with st:=if on then 2 else 1}) λ_ _=>rfl,Option.isSome_map]
theorem publish_get(C:Cal)(n p:Int)(m:Int):(calGet (calPublish C n p).2.l m).isSome=(calGet C.l m).isSome:=by
 unfold calPublish
 split
 ·rfl
 ·split
  ·rfl
  ·split
   ·rfl
   ·show(calGet (calSet C.l n λk=>{k with price:=p}) m).isSome=_
    rw[calGet_set (f:=λk=>{k with price:=p}) λ_ _=>rfl,Option.isSome_map]
end Go.Proofs
namespace Go.Proofs
open Go Go.Vc
attribute [local congr] Ca_congV
theorem VenR.move{w w' :World}{v u c l mb md:Nat}{A:List (Int×Nat)}{D:List (Int×Value)}{fp:Pt→Nat→Prop}{S:Ven}(h:VenR w u c l mb md A D fp S)(hv:∀p,p≠ .v→¬fp p v)(hb:hp w' v=some (.cells #[cptr c,lptr l,.map (some mb),.map (some md),.int .u64 S.next] tVen (0,0)))(hm:Mod (λy=>y=v) w w'):
  VenR w' v c l mb md A D (updP fp .v λy=>y=v) S:=by
 have hn:∀p,p≠ .v→∀y,fp p y→¬y=v:=λp hp y hy e=>hv p hp (e▸hy)
 refine⟨{
  blk:=hb
  cal:=by rw[updP_ne (by simp)];exact h.cal.mod hm (hn .cal (by simp))
  led:=by rw[updP_ne (by simp)];exact h.led.mod hm (hn .led (by simp))
  mbk:=h.mbk.mod hm (hn .mb (by simp) _ ((h.fmb mb).2 rfl))
  mbd:=h.mbd.mod hm (hn .md (by simp) _ ((h.fmd md).2 rfl))
  bk:=λn b hl=>by rw[updP_ne (by simp)];exact(h.bk n b hl).mod hm (hn (.bk n) (by simp))
  nbk:=λn hl=>by rw[updP_ne (by simp)];exact h.nbk n hl
  bd:=λn=>(h.bd n).mod hm λx hx=>hn (.bd n) (by simp) x ((h.fbd n x).2 hx)
  fv:=λx=>by rw[updP_self]
  fmb:=by rw[updP_ne (by simp)];exact h.fmb
  fmd:=by rw[updP_ne (by simp)];exact h.fmd
  fbd:=λn x=>by rw[updP_ne (by simp)];exact h.fbd n x
  dj:=?_},h.dom,h.dod⟩
 intro a b x ha hb'
 by_cases h1:a=.v
 ·by_cases h2:b=.v
  ·rw[h1,h2]
  ·rw[h1,updP_self]at ha
   rw[updP_ne h2]at hb'
   exact absurd (ha▸hb') (hv b h2)
 ·by_cases h2:b=.v
  ·rw[h2,updP_self]at hb'
   rw[updP_ne h1]at ha
   exact absurd (hb' ▸ha) (hv a h1)
  ·rw[updP_ne h1]at ha
   rw[updP_ne h2]at hb'
   exact h.dj _ _ _ ha hb'
theorem ldVen{W:World}{v c l mb md:Nat}{n:Int}(h:hp W v=some (.cells #[cptr c,lptr l,.map (some mb),.map (some md),.int .u64 n] tVen (0,0))):(Instr.loadAt tVen (.pointer (some ⟨v,0,none⟩))).run Tryz.prog W=.ok (.agg #[cptr c,lptr l,.map (some mb),.map (some md),.int .u64 n]) W:=by
 simp only[cptr,lptr]at h⊢
 simp[go_sem,h]
theorem stVen{W:World}{v c l mb md c' l' mb' md' :Nat}{n n' :Int}(h:hp W v=some (.cells #[cptr c,lptr l,.map (some mb),.map (some md),.int .u64 n] tVen (0,0))):
  ∃W',(Instr.storeAt tVen (.pointer (some ⟨v,0,none⟩)) (.agg #[cptr c',lptr l',.map (some mb'),.map (some md'),.int .u64 n'])).run Tryz.prog W=.ok () W' ∧hp W' v=some (.cells #[cptr c',lptr l',.map (some mb'),.map (some md'),.int .u64 n'] tVen (0,0))∧Mod (λy=>y=v) W W' :=by
 simp only[cptr,lptr]at h⊢
 exact⟨((((W.setCell ⟨v,0,none⟩ (cptr c')).setCell ⟨v,1,none⟩ (lptr l')).setCell ⟨v,2,none⟩ (.map (some mb'))).setCell ⟨v,3,none⟩ (.map (some md'))).setCell ⟨v,4,none⟩ (.int .u64 n'),
  by simp[go_sem,h,cptr,lptr],by simp[go_sem,h,cptr,lptr],(((((Mod.refl (λy=>y=v) W).setCell (.inl rfl) _ _).setCell (.inl rfl) _ _).setCell (.inl rfl) _ _).setCell (.inl rfl) _ _).setCell (.inl rfl) _ _⟩
end Go.Proofs
namespace Go.Proofs
open Go Go.Vc
attribute [local congr] Ca_congV
theorem RF_nil{gv:Value}{w:World}{np:Nat}{rnd:Nat→List Value→World→(World→Prop)→(Code→World→Prop)→Prop}{after:List Nat→Option Code→World→Prop}(ht:TellsM gv [] w)
  (hend:∀W d,d=w.heap.size→Mod (λ_=>False) w W→hp W d=some (.deferred (some []))→after [d] none W):RFW Tryz.prog none gv w np rnd after:=by
 obtain⟨⟨Ok,hit,hok⟩,-⟩:=ht
 obtain⟨f,first,captured,rfl,hit0⟩:=hit.out
 refine RFW_iff.2 ?_
 show∀rec:Loop,_
 intro rec hready hpend hD hY
 obtain⟨d,hd0⟩:∃d,d=w.heap.size:=⟨_,rfl⟩
 have hsz:(w.alloc (.deferred (some []))).heap.size=d+1:=by rw[World.size_alloc,hd0]
 obtain⟨wr,hwr⟩:∃wr,wr=(w.alloc (.deferred (some []))).alloc (.loop rec):=⟨_,rfl⟩
 have hrec0:wr.heap[d+1]? =some (.loop rec):=by rw[hwr,heap_alloc,if_pos hsz.symm]
 have hdef0:hp wr d=some (.deferred (some [])):=by rw[hwr];simp[go_sem,hd0]
 have hmr:Mod (λ_=>False) w wr:=by rw[hwr];exact((Mod.refl _ w).alloc _).alloc _
 rw[hsz]at hY⊢
 rw[←hwr]
 refine hit0 _ (λQ i W=>i=0∧Mod (λ_=>False) w W∧hp W d=some (.deferred (some []))∧W.heap[d+1]? =some (.loop rec)∧∀b,Q b→d+1<b) (λ_ _=>False) _ _ (hok _ hmr) ?_ ?_ ?_ ?_ ?_ ?_
 ·intro Q W1 hm hQ
  refine⟨rfl,hmr.trans hm,hm.hpk hdef0 id,hm.keep hrec0 id,λb hb=>?_⟩
  have h1:wr.heap.size=d+2:=by rw[hwr,World.size_alloc,hsz]
  have:=hQ b hb
  omega
 ·rintro Q Q' i W W' ⟨h0,h1,h2,h3,h4⟩ hm hQ'
  have hl:=lt_of_heap h3
  refine⟨h0,h1.on hm λb hb=>.inr (by have:=h4 b hb;omega),hm.hpk h2 λhb=>by have:=h4 _ hb;omega,hm.keep h3 λhb=>by have:=h4 _ hb;omega,λb hb=>?_⟩
  rcases(hQ' b hb).1 with h|h
  ·exact h4 b h
  ·omega
 ·rintro Q Q' W W' h
  exact h.elim
 ·rintro Q i x W hx
  cases hx
 ·rintro Q W ⟨h0,h1,h2,h3,h4⟩
  refine⟨rec,h3,by rw[hready];decide,?_⟩
  rw[←hd0]
  have hm:Mod (λb=>b=d+1) W (W.putObj (d+1) (.loop {rec with state:=.exhausted})):=(Mod.refl (λb=>b=d+1) W).putObj (b:=d+1) (.inl rfl) _
  generalize W.putObj (d+1) (.loop {rec with state:=.exhausted})=W8 at hm⊢
  rw[hpend]
  exact hend _ d hd0 (h1.on hm λb hb=>.inr (by omega)) (hm.hpk h2 (by omega))
 ·rintro Q W h
  exact h.elim
theorem ca_sum0{w:World}{K:Kont}(hK:K (.tuple #[.int .i64 0,.int .i64 0]) w):Ca Tryz.prog 291 #[nilV] w K:=by
 apply ca291
 unfold F291
 refine rnS (v:=.int .i64 0) (w' :=w) (by simp[go_sem,nilV]) ?_
 refine loopV (λst W=>st=(.int .u64 0,.int .i64 0,.int .i64 0,())∧w=W) (λ_ _=>0) ⟨rfl,rfl⟩ ?_
 rintro _ _ ⟨rfl,rfl⟩ KN hKN
 unfold L291_0
 intro _
 refine rvS (v:=.bool false) (w' :=w) (by simp[go_sem]) ?_
 rw[ifB_bool,if_neg Bool.false_ne_true]
 refine rvS (v:=.int .i64 0) (w' :=w) (by simp[go_sem]<;>decide) ?_
 refine rvS (v:=.int .i64 0) (w' :=w) (by simp[go_sem]<;>decide) ?_
 refine rvS (v:=.bool false) (w' :=w) (by simp[go_sem]) ?_
 rw[ifB_bool,if_neg Bool.false_ne_true]
 refine rvS (v:=.int .i64 0) (w' :=w) (by simp[go_sem]<;>decide) ?_
 exact hK
theorem ca_split0{w:World}{K:Kont}(hK:∀s w',Mod (λ_=>False) w w' →K (.tuple #[s,.int .i64 0]) w'):Ca Tryz.prog 295 #[.int .i64 0,nilV] w K:=by
 apply ca295
 unfold F295
 refine rnS (v:=.int .i64 0) (w' :=w) (by simp[go_sem,nilV]) ?_
 refine rvS (v:=.bool false) (w' :=w) (by simp[go_sem]) ?_
 rw[ifB_bool,if_neg Bool.false_ne_true]
 refine JoinW.at (λst W=>st=(.bool false,())∧w=W) ?_ ?_
 ·refine rvS (v:=.bool false) (w' :=w) (by simp[go_sem]) ?_
  rw[ifB_bool,if_neg Bool.false_ne_true]
  apply ca341
  unfold F341
  apply ca364
  unfold F364
  refine rnS (v:=.int .i64 0) (w' :=w) (by simp[go_sem,nilV]) ?_
  refine loopV (λst W=>st=(.int .i64 0,.int .i64 0,())∧w=W) (λ_ _=>0) ⟨rfl,rfl⟩ ?_
  rintro _ _ ⟨rfl,rfl⟩ KN hKN
  unfold L364_0
  intro _
  refine rvS (v:=.bool false) (w' :=w) (by simp[go_sem]) ?_
  rw[ifB_bool,if_neg Bool.false_ne_true]
  refine rvS (v:=.bool false) (w' :=w) (by simp[go_sem]) ?_
  exact⟨rfl,rfl⟩
 rintro _ _ ⟨rfl,rfl⟩
 unfold J295_2
 intro _
 rw[ifB_bool,if_neg Bool.false_ne_true]
 refine ca_sum0 ?_
 refine rvS (v:=.int .i64 0) (w' :=w) (by simp[go_sem]) (rvS (v:=.int .i64 0) (w' :=w) (by simp[go_sem]) ?_)
 refine rvS (v:=.bool false) (w' :=w) (by simp[go_sem]) ?_
 rw[ifB_bool,if_neg Bool.false_ne_true]
 refine rnS (v:=.int .i64 0) (w' :=w) (by simp[go_sem,nilV]) ?_
 refine rx_make (z:=.int .i64 0) (sz:=1) (by_:=8) (e:=2) (by kernel_rfl) (elemT_of (by kernel_rfl)) (Int.le_refl 0) (Int.le_refl 0) (by omega) (by kernel_rfl) ?_
 have m1:Mod (λ_=>False) w (w.alloc (.cells (madeCells (Value.int .i64 0).cells (Int.toNat 0*1)) 2)):=(Mod.refl _ w).alloc _
 generalize w.alloc (.cells (madeCells (Value.int .i64 0).cells (Int.toNat 0*1)) 2)=w1 at m1⊢
 refine rvS (v:=.bool true) (w' :=w1) (by simp[go_sem]) ?_
 rw[ifB_bool,if_pos rfl]
 exact hK _ w1 m1
theorem ca_settle0{w:World}{K:Kont}(hK:∀a w',Mod (λ_=>False) w w' →K (.tuple #[.slice a 0 0,.int .i64 0,.int .i64 0]) w'):Ca Tryz.prog 254 #[.int .i64 0,nilV] w K:=by
 apply ca254
 unfold F254
 have ln:∀W,(builtin .len #[351] 3 #[false] #[nilV]).run Tryz.prog W=.ok (.value (.int .i64 0)) W:=λW=>by simp[go_sem,nilV]
 refine rnS (ln _) ?_
 refine rvS (v:=.bool false) (w' :=w) (by simp[go_sem]) ?_
 rw[ifB_bool,if_neg Bool.false_ne_true]
 apply ca294
 unfold F294
 refine rnS (ln _) ?_
 refine loopV (λst W=>st=(.bool false,.int .u32 0,.int .i64 0,())∧w=W) (λ_ _=>0) ⟨rfl,rfl⟩ ?_
 rintro _ _ ⟨rfl,rfl⟩ KN hKN
 unfold L294_1
 intro _
 refine rvS (v:=.bool false) (w' :=w) (by simp[go_sem]) ?_
 rw[ifB_bool,if_neg Bool.false_ne_true]
 rw[callV_func]
 show Ca Tryz.prog 340 #[.int .i64 0] w _
 apply ca340
 unfold F340
 refine rvS (v:=.bool true) (w' :=w) (by simp[go_sem]) ?_
 rw[ifB_bool,if_pos rfl]
 refine rvS (v:=.bool true) (w' :=w) (by simp[go_sem]) ?_
 refine rvS (v:=.bool false) (w' :=w) (by simp[go_sem]) ?_
 rw[ifB_bool,if_neg Bool.false_ne_true]
 refine rnS (ln _) ?_
 refine rx_make (z:=sdV zSd) (sz:=4) (by_:=32) (e:=358) uSds (elemT_of eSd) (Int.le_refl 0) (Int.le_refl 0) (by omega) (by kernel_rfl) ?_
 have m1:Mod (λ_=>False) w (w.alloc (.cells (madeCells (sdV zSd).cells (Int.toNat 0*4)) 358)):=(Mod.refl _ w).alloc _
 generalize w.alloc (.cells (madeCells (sdV zSd).cells (Int.toNat 0*4)) 358)=w1 at m1⊢
 refine rnS (ln _) ?_
 refine loopV (λst W=>st=(nilV,nilV,nilV,.int .i64 0,.int .i64 0,())∧w1=W) (λ_ _=>0) ⟨rfl,rfl⟩ ?_
 rintro _ _ ⟨rfl,rfl⟩ KM hKM
 unfold L254_3
 intro _
 refine rvS (v:=.bool false) (w' :=w1) (by simp[go_sem]) ?_
 rw[ifB_bool,if_neg Bool.false_ne_true]
 refine ca_sum0 ?_
 refine rvS (v:=.int .i64 0) (w' :=w1) (by simp[go_sem]) (rvS (v:=.int .i64 0) (w' :=w1) (by simp[go_sem]) ?_)
 refine JoinW.at (λst W=>st=(.bool false,())∧w1=W) ?_ ?_
 ·refine rvS (v:=.bool false) (w' :=w1) (by simp[go_sem]) ?_
  rw[ifB_bool,if_neg Bool.false_ne_true]
  refine rvS (v:=.bool false) (w' :=w1) (by simp[go_sem]) ?_
  exact⟨rfl,rfl⟩
 rintro _ _ ⟨rfl,rfl⟩
 unfold J254_2
 intro _
 rw[ifB_bool,if_neg Bool.false_ne_true]
 refine rnS (v:=.int .i64 0) (w' :=w1) (by simp[go_sem]) ?_
 refine rvS (v:=.int .i64 0) (w' :=w1) (by simp[go_sem]<;>decide) ?_
 refine ca_split0 λs w2 m2=>?_
 refine rvS (v:=s) (w' :=w2) (by simp[go_sem]) (rvS (v:=.int .i64 0) (w' :=w2) (by simp[go_sem]) ?_)
 refine rvS (v:=.bool false) (w' :=w2) (by simp[go_sem]) ?_
 rw[ifB_bool,if_neg Bool.false_ne_true]
 refine rnS (v:=.int .i64 0) (w' :=w2) (by simp[go_sem,nilV]) ?_
 refine loopV (λst W=>st=(.int .i64 0,())∧w2=W) (λ_ _=>0) ⟨rfl,rfl⟩ ?_
 rintro _ _ ⟨rfl,rfl⟩ KO hKO
 unfold L254_1
 intro _
 refine rvS (v:=.bool false) (w' :=w2) (by simp[go_sem]) ?_
 rw[ifB_bool,if_neg Bool.false_ne_true]
 refine rvS (v:=.int .i64 0) (w' :=w2) (by simp[go_sem]<;>decide) ?_
 exact hK _ w2 (m1.trans m2)
def noLed:Led:=⟨0,[],[]⟩
theorem set_no:noLed.set ⟨0,0,false,false⟩=(0,noLed):=by rfl
set_option maxRecDepth 10000 in
set_option maxHeartbeats 4000000 in
theorem ca_vpay0{w:World}{K:Kont}{v c l mb md mw:Nat}{A:List (Int×Nat)}{D:List (Int×Value)}{fp:Pt→Nat→Prop}{S:Ven}(h:VenR w v c l mb md A D fp S)(hL:S.led=noLed)
  (hK:∀w',VenR w' v c l mb md A D fp S→Mod (allP fp) w w' →K (.tuple #[rpV zRp nilV nilV nilV,.int .i64 0]) w'):
  Ca Tryz.prog 203 #[vptr v,.map (some mw)] w K:=by
 apply ca203
 unfold F203
 obtain⟨n0,hn0⟩:∃n0,n0=w.heap.size:=⟨_,rfl⟩
 have hlay:∃w1,w.alloc (.cells #[.map (some mw)] 298)=w1∧w1.heap.size=n0+1∧Mod (λ_=>False) w w1∧hp w1 n0=some (.cells #[.map (some mw)] 298 (0,0)):=by
  refine⟨_,rfl,by simp[go_sem,hn0],(Mod.refl _ w).alloc _,?_⟩
  simp[go_sem,hn0]
 obtain⟨w1,hw1,hsz1,m1,b1⟩:=hlay
 refine rvS (v:=.pointer (some ⟨n0,0,none⟩)) (w' :=w1) (by rw[←hw1,hn0];simp[go_sem]) ?_
 clear hw1
 obtain⟨w2,e2,b2,m2⟩:=newRp w1
 refine rvS e2 ?_
 obtain⟨q,hq⟩:∃q,q=n0+1:=⟨_,rfl⟩
 rw[hsz1,←hq]at b2⊢
 have hsz2:q<w2.heap.size:=lt_of_heap b2
 obtain⟨p4,hp4⟩:∃p,p=w2.heap.size:=⟨_,rfl⟩
 have m3:Mod (λ_=>False) w2 (w2.alloc (.cells #[nilV] 351)):=(Mod.refl _ w2).alloc _
 have b3:hp (w2.alloc (.cells #[nilV] 351)) p4=some (.cells #[nilV] 351 (0,0)):=by rw[hp4];simp[go_sem]
 refine rvS (v:=.pointer (some ⟨p4,0,none⟩)) (w' :=w2.alloc (.cells #[nilV] 351)) (by rw[hp4];simp[go_sem,nilV]) ?_
 generalize w2.alloc (.cells #[nilV] 351)=w3 at m3 b3⊢
 have M3:=(m1.trans m2).trans m3
 have h3:=h.md0 M3
 simp only[vptr,nilK_ptr]
 refine rvS (fldV 1 (by omega) _) (rvS (ld1 _ h3.blk) ?_)
 refine ca_accounts h3.led λgv w5 ht m5=>?_
 rw[hL]at ht
 have M5:=M3.trans m5
 have g2:=m5.hpk (m3.hpk b2 id) id
 have g3:=m5.hpk b3 id
 have hfl:∀pt x,fp pt x→x<n0:=λpt x hx=>by rw[hn0];exact h.lt hx
 have hs5:p4<w5.heap.size:=lt_of_heap g3
 refine RF_nil ht.m λW d hd mW hdef=>?_
 unfold A203_7
 simp only[afterK]
 have q6:=mW.hpk g2 id
 have p6:=mW.hpk g3 id
 have h6:=h.md0 (M5.trans mW)
 simp only[nilK_ptr]
 refine rvS (fldV 1 (by omega) _) (rvS (ld1 _ h6.blk) ?_)
 refine ca_get h6.led λw7 m7=>?_
 have hg0:S.led.getV 0=(⟨0,0,false,false⟩,0):=by rw[hL];rfl
 rw[hg0]
 refine rvS (by simp[-Int.natCast_add,go_sem]<;>first|exact⟨rfl,rfl⟩|exact rfl) ?_
 refine rvS (by simp[-Int.natCast_add,go_sem]<;>first|exact⟨rfl,rfl⟩|exact rfl) ?_
 obtain⟨w8,w9,e8,e9,b9,m9⟩:=acVar ⟨0,0,false,false⟩ w7
 obtain⟨ra,hra⟩:∃ra,ra=w7.heap.size:=⟨_,rfl⟩
 refine rvS e8 (ruS e9 ?_)
 rw[←hra]at b9⊢
 unfold cellsAc at b9
 have M79:=m7.trans m9
 have z9:=M79.hpk p6 id
 refine rvS (v:=.pointer (some ⟨ra,1,none⟩)) (w' :=w9) (by simp[go_sem]) (rvS (v:=.int .i64 0) (w' :=w9) (by simp[go_sem,b9]) ?_)
 refine rvS (v:=nilV) (w' :=w9) (by simp[go_sem,z9,nilV]) ?_
 refine ca_settle0 λsa w10 m10=>?_
 refine rvS (by simp[-Int.natCast_add,go_sem]<;>first|exact⟨rfl,rfl⟩|exact rfl) ?_
 refine rvS (by simp[-Int.natCast_add,go_sem]<;>first|exact⟨rfl,rfl⟩|exact rfl) ?_
 refine rvS (by simp[-Int.natCast_add,go_sem]<;>first|exact⟨rfl,rfl⟩|exact rfl) ?_
 refine rvS (v:=.bool false) (w' :=w10) (by simp[go_sem]) ?_
 rw[ifB_bool,if_neg Bool.false_ne_true]
 have M10:=(((M5.trans mW).trans M79).trans m10)
 have h10:=h.md0 M10
 have q10:=m10.hpk (M79.hpk q6 id) id
 have d10:=m10.hpk (M79.hpk hdef id) id
 refine rnS (v:=.int .i64 0) (w' :=w10) (by simp[go_sem]) ?_
 refine loopV (λst W=>st=(.int .i64 0,.int .i64 0,())∧w10=W) (λ_ _=>0) ⟨rfl,rfl⟩ ?_
 rintro _ _ ⟨rfl,rfl⟩ KM hKM
 unfold L203_2
 intro _
 refine rvS (v:=.bool false) (w' :=w10) (by simp[go_sem]) ?_
 rw[ifB_bool,if_neg Bool.false_ne_true]
 have mdr:Mod (λ_=>False) w10 w10.drew:=(Mod.refl _ w10).drew
 have h11:=h10.md0 mdr
 have q11:=mdr.hpk q10 id
 have d11:=mdr.hpk d10 id
 have M11:=M10.trans mdr
 have hs10:=M10.size
 generalize w10.drew=w11 at mdr h11 q11 d11 M11⊢
 refine rdWS (ldRp q11) ?_
 simp only[nilK_ptr]
 refine rdPS (fldV 1 (by omega)) (rdWS (ld1 _ h11.blk) ?_)
 refine rdPS (v:=acV ⟨0,0,false,false⟩) (λ_=>by simp[go_sem,acV]) ?_
 refine ca_set h11.led (by decide) λw12 q12 m12=>?_
 rw[hL,set_no]at q12⊢
 have hqd:∀{y},n0≤y→¬fp .led y:=λhy hc=>by have:=hfl _ _ hc;omega
 have hdl:n0≤d:=by have:=M5.size;omega
 have r12:=m12.hpk q11 (hqd (by omega))
 have d12:=m12.hpk d11 (hqd hdl)
 have v12:VenR w12 v c l mb md A D fp S:=by
  have:=h11.setLed m12 q12
  have e:({S with led:=noLed}:Ven)=S:=by rw[←hL]
  rw[e]at this
  exact this
 refine⟨ldRp r12,?_⟩
 obtain⟨w13,e13,b13,m13⟩:=stRp (r:=zRp) (sT:=nilV) (sG:=nilV) (sA:=nilV) r12 rfl ⟨nilSlV,nilSlV,nilSlV⟩
 refine ruS e13 ?_
 have hdq:q≠d:=by have:=lt_of_heap g2;omega
 refine retV1 (m13.hpk d12 (by omega)) λw14 m14=>?_
 refine rdWS (ldRp (m14.hpk b13 hdq)) ?_
 refine hK w14 ((v12.mod m13 λpt y hy e=>by have:=hfl pt y hy;omega).mod m14 λpt y hy e=>by have:=hfl pt y hy;omega) ?_
 exact((((M11.mono (G:=allP fp) λ_ _ h=>h.elim).trans (m12.mono λy _ hy=>⟨_,hy⟩)).on m13 λy hy=>.inr (by omega)).on m14 λy hy=>.inr (by omega))
set_option maxRecDepth 10000 in
set_option maxHeartbeats 4000000 in
theorem ca_vsettle0{w:World}{K:Kont}{v:Nat}{F:Nat→Prop}{S:Ven}(h:VenQ w v F S)(hc0:S.cal=⟨0,[]⟩)(hL:S.led=noLed)(hK:Post w v F (0,zRp,{S with cal:=⟨1,[]⟩}) K):Ca Tryz.prog 117 #[vptr v] w K:=by
 obtain⟨c,l,mb,md,A,D,fp,hr,hF⟩:=h
 apply ca117
 unfold F117
 obtain⟨n0,hn0⟩:∃n0,n0=w.heap.size:=⟨_,rfl⟩
 have hlay:∃w1,w.alloc (.cells #[vptr v] 23)=w1∧w1.heap.size=n0+1∧Mod (λ_=>False) w w1∧hp w1 n0=some (.cells #[vptr v] 23 (0,0)):=by
  refine⟨_,rfl,by simp[go_sem,hn0],(Mod.refl _ w).alloc _,?_⟩
  simp[go_sem,hn0]
 obtain⟨w1,hw1,hsz1,m1,b1⟩:=hlay
 refine rvS (v:=.pointer (some ⟨n0,0,none⟩)) (w' :=w1) (by rw[←hw1,hn0];rfl) ?_
 clear hw1
 obtain⟨w2,e2,b2,m2⟩:=newRp w1
 refine rvS e2 ?_
 obtain⟨q,hq⟩:∃q,q=n0+1:=⟨_,rfl⟩
 rw[hsz1,←hq]at b2⊢
 obtain⟨w3,e3,b3,m3⟩:=newEr w2
 refine rvS e3 ?_
 obtain⟨e4,he4⟩:∃e4,e4=w2.heap.size:=⟨_,rfl⟩
 rw[←he4]at b3⊢
 have hqe:q<e4:=by have:=lt_of_heap b2;omega
 have M3:=(m1.trans m2).trans m3
 have h3:=hr.md0 M3
 have g0:=m3.hpk (m2.hpk b1 id) id
 have g1:=m3.hpk b2 id
 have hfl:∀pt x,fp pt x→x<n0:=λpt x hx=>by rw[hn0];exact hr.lt hx
 have haf:∀x,allP fp x→x<n0:=λx ⟨pt,hx⟩=>hfl pt x hx
 have hFa:∀x,allP fp x↔F x:=λx=>(hF x).symm
 have lv0:∀{W},hp W n0=some (.cells #[vptr v] 23 (0,0))→(Instr.loadAt 23 (.pointer (some ⟨n0,0,none⟩))).run Tryz.prog W=.ok (vptr v) W:=λhW=>by simp[go_sem,hW,vptr]
 refine rvS (lv0 g0) ?_
 simp only[vptr,nilK_ptr]
 refine rvS (fldV 0 (by omega) _) (rvS (ld0 _ h3.blk) ?_)
 obtain⟨C,hC⟩:∃C,C=calNext S.cal:=⟨_,rfl⟩
 refine ca_cnext h3.cal λw4 q4 m4=>?_
 rw[←hC]at q4⊢
 have hCl:C.2.l=S.cal.l:=by rw[hC];exact next_l _
 have h4:=h3.setCal m4 q4 (λx hx=>.inl hx) (λn=>by rw[hCl])
 rw[updP_same]at h4
 obtain⟨S0,hS0⟩:∃S0:Ven,S0={S with cal:=C.2}:=⟨_,rfl⟩
 rw[←hS0]at h4
 have hnc:∀{y},n0≤y→¬fp .cal y:=λhy hc=>by have:=hfl _ _ hc;omega
 have k0:=m4.hpk g0 (hnc (by omega))
 have k1:=m4.hpk g1 (hnc (by omega))
 have k3:=m4.hpk b3 (hnc (by omega))
 obtain⟨w5,e5,b5,m5⟩:=stEr C.1 k3
 refine ruS e5 (rvS (ldEr b5) ?_)
 have hne:∀pt y,fp pt y→y≠e4:=λpt y hy e=>by have:=hfl pt y hy;omega
 have h5:=h4.mod m5 λpt y hy e=>hne pt y hy e
 have l0:=m5.hpk k0 (by omega)
 have l1:=m5.hpk k1 (by omega)
 have M5:Mod (allP fp) w w5:=((M3.mono (G:=allP fp) λ_ _ h=>h.elim).trans (m4.mono λy _ hy=>⟨_,hy⟩)).on m5 λy hy=>.inr (by omega)
 have hse4:e4<w5.heap.size:=lt_of_heap b5
 have tellR:∀(e:Int) (r:Rp) (T:Ven) (D' :List (Int×Value)) (fp' :Pt→Nat→Prop) (sG sA:Value) (W:World) (ds:List Nat),((0:Int),zRp,({S with cal:=⟨1,[]⟩}:Ven))=(e,r,T)→VenR W v c l mb md A D' fp' T→RpP W q sG sA r (n0+2) (allP fp')→ErAt W e4 e→Mod (allP fp) w W→(∀y,allP fp' y→(allP fp y∨e4<y)∧y ∉ ds)→(∀y,inSl sG y∨inSl sA y→e4<y∧y ∉ ds)→ds.Nodup→(∀d∈ds,hp W d=some (.deferred (some []))∧e4<d)→
   retD ds W λw83=>rdW Tryz.prog (Instr.loadAt tRp (.pointer (some ⟨q,0,none⟩))) w83 λv84=>rdW Tryz.prog (Instr.loadAt 26 (.pointer (some ⟨e4,0,none⟩))) w83 λv85=>K (.tuple #[v84,v85]) w83:=by
  intro e r T D' fp' sG sA W ds he a b er m hup hds hnd hdW
  refine retV hnd (λd hd=>(hdW d hd).1) λW' m' =>?_
  have hdq:∀d∈ds,e4<d:=λd hd=>(hdW d hd).2
  refine rdWS (ldRp (m'.hpk b.at_ λhc=>by have:=hdq q hc;omega)) (rdWS (ldEr (m'.hpk er λhc=>by have:=hdq e4 hc;omega)) ?_)
  refine hK.tell (F' :=allP fp') he (a.mod m' λpt y hy hc=>(hup y ⟨pt,hy⟩).2 hc).q (b.rp.mod m' λy hy hc=>?_) ((m.mono λy _ hy=>(hFa y).1 hy).on m' λy hy=>.inr (by have:=hdq y hy;omega)) (λy hy=>(hup y hy).1.imp (hFa y).1 λh' =>by omega) λy hy=>?_
  ·rcases hy with hy|hy
   ·cases hy
   ·exact(hds y hy).2 hc
  ·rcases hy with hy|hy
   ·cases hy
   ·exact⟨by have:=(hds y hy).1;omega,(b.nw y hy).2.2⟩
 have rp0' :∀{W},hp W q=some (.cells (rpC zRp nilV nilV nilV).toArray tRp (0,0))→RpP W q nilV nilV zRp (n0+2) (allP fp):=λhW=>⟨hW,RpQ.nil _ 0,λy hy=>by rcases hy with hy|hy<;>cases hy⟩
 have nilH:∀{ds:List Nat} y,inSl nilV y∨inSl nilV y→e4<y∧y ∉ ds:=λy hy=>by rcases hy with hy|hy<;>cases hy
 have hCv:C=(0,⟨1,[]⟩):=by rw[hC,hc0];rfl
 have hC0:C.1=0:=by rw[hCv]
 refine rvS (v:=.bool false) (w' :=w5) (by simp[go_sem,hC0]) ?_
 rw[ifB_bool,if_neg Bool.false_ne_true]
 rw[hC0]at b5
 obtain⟨mw,hmw⟩:∃mw,mw=w5.heap.size:=⟨_,rfl⟩
 have m6:Mod (λ_=>False) w5 (w5.alloc (.map #[] 0)):=(Mod.refl _ w5).alloc _
 refine rvS (v:=.map (some mw)) (w' :=w5.alloc (.map #[] 0)) (by rw[hmw];simp[go_sem]) ?_
 have hs6:(w5.alloc (.map #[] 0)).heap.size=mw+1:=by rw[hmw];simp[go_sem]
 generalize w5.alloc (.map #[] 0)=w6 at m6 hs6⊢
 have hlay2:∃w7,(w6.alloc (.cells #[.map none] 298)).setCell ⟨mw+1,0,none⟩ (.map (some mw))=w7∧Mod (λ_=>False) w6 w7∧hp w7 (mw+1)=some (.cells #[.map (some mw)] 298 (0,0)):=by
  refine⟨_,rfl,((Mod.refl _ w6).alloc _).setCell (.inr (by show w6.heap.size≤mw+1;omega)) _ _,?_⟩
  rw[←hs6]
  simp[go_sem]
 obtain⟨w7,hw7,m7,b7⟩:=hlay2
 refine rvS (v:=.pointer (some ⟨mw+1,0,none⟩)) (w' :=w6.alloc (.cells #[.map none] 298)) (by rw[←hs6];simp[go_sem]) ?_
 refine ruS (w' :=w7) (by rw[←hw7,←hs6];simp[go_sem]) ?_
 clear hw7
 have M67:=m6.trans m7
 have h7:=h5.md0 M67
 have p0:=M67.hpk l0 id
 have p1:=M67.hpk l1 id
 have p3:=M67.hpk b5 id
 have M7:=M5.trans (M67.mono (G:=allP fp) λ_ _ h=>h.elim)
 have hs7:mw+1<w7.heap.size:=lt_of_heap b7
 refine rvS (lv0 p0) ?_
 simp only[vptr,nilK_ptr]
 refine rvS (fldV 0 (by omega) _) (rvS (ld0 _ h7.blk) ?_)
 refine ca_call h7.cal λgv w8 ht m8=>?_
 have hnil:S0.cal.l=[]:=by rw[hS0,hCv]
 rw[hnil]at ht
 have hs8:=m8.size
 refine RF_nil ht λW d hd mW hdef=>?_
 have m8W:=m8.trans mW
 have v8:=h7.md0 m8W
 have f0:=m8W.hpk p0 id
 have f1:=m8W.hpk p1 id
 have f3:=m8W.hpk p3 id
 have f7:=m8W.hpk b7 id
 have M8:=M7.trans (m8W.mono (G:=allP fp) λ_ _ h=>h.elim)
 unfold A117_13
 simp only[afterK]
 refine rvS (lv0 f0) ?_
 refine rvS (v:=.map (some mw)) (w' :=W) (by simp[go_sem,f7]) ?_
 show Ca Tryz.prog _ #[vptr v,_] W _
 have hL0:S0.led=noLed:=by rw[hS0];exact hL
 have hdW:d<W.heap.size:=lt_of_heap hdef
 have hnf:∀{y},n0≤y→¬allP fp y:=λhy hc=>by have:=haf _ hc;omega
 refine ca_vpay0 v8 hL0 λW1 v1 mp1=>?_
 refine rvS (by simp[-Int.natCast_add,go_sem]<;>first|exact⟨rfl,rfl⟩|exact rfl) ?_
 refine rvS (by simp[-Int.natCast_add,go_sem]<;>first|exact⟨rfl,rfl⟩|exact rfl) ?_
 have q1:=mp1.hpk f1 (hnf (by omega))
 have e1:=mp1.hpk f3 (hnf (by omega))
 have d1:=mp1.hpk hdef (hnf (by omega))
 have z0:=mp1.hpk f0 (hnf (by omega))
 obtain⟨W2,f2,x2,m2'⟩:=stRp (r:=zRp) (sT:=nilV) (sG:=nilV) (sA:=nilV) q1 rfl ⟨nilSlV,nilSlV,nilSlV⟩
 refine ruS f2 ?_
 have hlt:∀pt y,fp pt y→y≠q∧y≠e4∧y≠d:=λpt y hy=>by have:=hfl pt y hy;omega
 obtain⟨W3,g3,x3,m3'⟩:=stEr 0 (m2'.hpk e1 (by omega))
 refine ruS g3 (rvS (ldEr x3) ?_)
 have v3:=(v1.mod m2' λpt y hy e=>(hlt pt y hy).1 e).mod m3' λpt y hy e=>(hlt pt y hy).2.1 e
 have r3:=m3'.hpk x2 (by omega)
 have d3:=m3'.hpk (m2'.hpk d1 (by omega)) (by omega)
 have y0:=m3'.hpk (m2'.hpk z0 (by omega)) (by omega)
 have M3' :Mod (allP fp) w W3:=((M8.trans mp1).on m2' λy hy=>.inr (by omega)).on m3' λy hy=>.inr (by omega)
 refine rvS (v:=.bool false) (w' :=W3) (by simp[go_sem]) ?_
 rw[ifB_bool,if_neg Bool.false_ne_true]
 refine rvS (lv0 y0) ?_
 simp only[vptr,nilK_ptr]
 refine rvS (fldV 1 (by omega) _) (rvS (ld1 _ v3.blk) ?_)
 refine ca_accounts v3.led λgv2 W4 ht2 m4' =>?_
 rw[hL0]at ht2
 have hdW4:d<W4.heap.size:=by have:=m4'.size;have:=lt_of_heap d3;omega
 refine RF_nil ht2.m λW5 d5 hd5 mW5 hdef5=>?_
 have m45:=m4'.trans mW5
 unfold A117_5
 simp only[afterK]
 have v5:=v3.md0 m45
 have r5:=m45.hpk r3 id
 have x5:=m45.hpk x3 id
 have d35:=m45.hpk d3 id
 have M5' :=M3'.trans (m45.mono (G:=allP fp) λ_ _ h=>h.elim)
 have mdr:Mod (λ_=>False) W5 W5.drew:=(Mod.refl _ W5).drew
 have v6:=v5.md0 mdr
 have r6:=mdr.hpk r5 id
 have x6:=mdr.hpk x5 id
 have d36:=mdr.hpk d35 id
 have d56:=mdr.hpk hdef5 id
 have M6' :=M5'.trans (mdr.mono (G:=allP fp) λ_ _ h=>h.elim)
 generalize W5.drew=W6 at mdr v6 r6 x6 d36 d56 M6' ⊢
 refine rdWS (ldRp r6) (rdWS (ldEr x6) ?_)
 obtain⟨W7,g7,r7,m7'⟩:=stRp (r:=zRp) (sT:=nilV) (sG:=nilV) (sA:=nilV) r6 rfl ⟨nilSlV,nilSlV,nilSlV⟩
 refine ruS g7 ⟨ldEr (m7'.hpk x6 (by omega)),?_⟩
 obtain⟨W8,g8,x8,m8'⟩:=stEr 0 (m7'.hpk x6 (by omega))
 refine ruS g8 ?_
 have hd57:d5≠q∧d5≠e4:=by omega
 refine tellR 0 zRp S0 D fp nilV nilV W8 [d5,d] ?_ ((v6.mod m7' λpt y hy e=>(hlt pt y hy).1 e).mod m8' λpt y hy e=>(hlt pt y hy).2.1 e) (rp0' (m8'.hpk r7 (by omega))) x8 ((M6'.on m7' λy hy=>.inr (by omega)).on m8' λy hy=>.inr (by omega)) (λy hy=>⟨.inl hy,?_⟩) (λy hy=>nilH y hy) (by simp;omega) (λx hx=>?_)
 ·rw[hS0,hCv]
 ·have:=haf y hy
  simp
  omega
 ·rcases List.mem_cons.1 hx with rfl|hx
  ·exact⟨m8'.hpk (m7'.hpk d56 (by omega)) (by omega),by omega⟩
  ·rw[List.mem_singleton.1 hx]
   exact⟨m8'.hpk (m7'.hpk d36 (by omega)) (by omega),by omega⟩
end Go.Proofs
namespace Go.Proofs
open Go Go.Vc
attribute [local congr] Ca_congV
def Ven.done0(S:Ven)(c:Cm):Int×Rp×Ven:=
 if c.kind=1 then((S.led.deposit c.acct c.amt).1,zRp,{S with led:=(S.led.deposit c.acct c.amt).2})
 else if c.kind=2 then((S.led.withdraw c.acct c.amt).1,zRp,{S with led:=(S.led.withdraw c.acct c.amt).2})
 else if c.kind=3 then
  let x:=calList S.cal c.spec
  (x.1,zRp,if x.1=0 then{S with cal:=x.2,bk:=upd S.bk c.spec.num Bk.empty}else{S with cal:=x.2})
 else if c.kind=4 then((calHalt S.cal c.ct c.on).1,zRp,{S with cal:=(calHalt S.cal c.ct c.on).2})
 else if c.kind=11 then((calPublish S.cal c.ct c.price).1,zRp,{S with cal:=(calPublish S.cal c.ct c.price).2})
 else if c.kind=12 then(0,zRp,{S with cal:=⟨1,[]⟩})
 else if c.kind=14 then(7,zRp,S)
 else if c.acct=0 then(2,zRp,S)
 else(7,zRp,S)
def Ven.app0(S:Ven)(x:Cm):Rp×Ven:=if x.may=false then(failR 160,S)else if(S.done0 x).1≠0 then(failR (S.done0 x).1,S)else((S.done0 x).2.1,(S.done0 x).2.2)
section
variable{w:World}{K:Kont}{v c l mb md:Nat}{A:List (Int×Nat)}{D:List (Int×Value)}{fp:Pt→Nat→Prop}{S:Ven}
theorem wd_no(a m:Int):(noLed.withdraw a m).1≠0:=by
 unfold Led.withdraw
 split
 ·show(2:Int)≠0;decide
 ·show(7:Int)≠0;decide
set_option maxRecDepth 10000 in
theorem ca_vwithdraw0{x:Cm}(h:VenR w v c l mb md A D fp S)(hL:S.led=noLed)(hx:x.Fit)
  (hK:∀w',VenR w' v c l mb md A D fp {S with led:=(S.led.withdraw x.acct x.amt).2}→Mod (fp .led) w w' →K (.int .i64 (S.led.withdraw x.acct x.amt).1) w'):Ca Tryz.prog 113 #[vptr v,cmV x] w K:=by
 apply ca113
 unfold F113
 obtain⟨w1,e1,b1,m1⟩:=boxCm x w
 refine rvS e1 ?_
 obtain⟨p,hp0⟩:∃p,p=w.heap.size:=⟨_,rfl⟩
 rw[←hp0]at b1⊢
 have hu:=hx.2.1
 obtain⟨X,hX⟩:∃X,X=S.led.withdraw x.acct x.amt:=⟨_,rfl⟩
 rw[←hX]at hK
 have mdr:Mod (λ_=>False) w1 w1.drew:=(Mod.refl _ w1).drew
 have h2:=(h.md0 m1).md0 mdr
 have c2:CmAt w1.drew p x:=mdr.hpk b1 id
 have M2:=m1.trans mdr
 generalize w1.drew=w2 at mdr h2 c2 M2⊢
 simp only[vptr,nilK_ptr]
 refine rdPS (fldV 1 (by omega)) (rdWS (ld1 _ h2.blk) ?_)
 refine rdPS cmF1 (rdWS (cmL1 c2) ?_)
 refine rdPS cmF4 (rdWS (cmL4 c2) ?_)
 refine ca_withdraw h2.led hu λw3 q3 m3=>?_
 rw[←hX]at q3⊢
 have hFp:∀{pt y},fp pt y→y<p:=λhy=>by have:=h.lt hy;omega
 have h3:=h2.setLed m3 q3
 have M3:=(M2.mono (G:=fp .led) λ_ _ h=>h.elim).trans m3
 have c3:CmAt w3 p x:=m3.hpk c2 λhc=>by have:=hFp hc;omega
 have he:X.1≠0:=by rw[hX,hL];exact wd_no _ _
 refine rvS (v:=.bool true) (w' :=w3) (by simp[go_sem,he]) ?_
 rw[ifB_bool,if_pos rfl]
 exact hK w3 h3 M3
theorem no_bk(h:VenR w v c l mb md A D fp S)(hc0:S.cal=⟨0,[]⟩):A=[]∧D=[]:=by
 constructor
 ·cases A with
  |nil=>rfl
  |cons p A=>
   have:=h.dom p.1
   rw[hc0]at this
   simp[lk,calGet]at this
 ·cases D with
  |nil=>rfl
  |cons p D=>
   have:=h.dod p.1
   rw[hc0]at this
   simp[lk,calGet]at this
theorem ca_vfind0{a num:Int}(h:VenR w v c l mb md A D fp S)(hc0:S.cal=⟨0,[]⟩)
  (hK:∀w',Mod (λ_=>False) w w' →K (.tuple #[odV zOd,.int .u32 0]) w'):Ca Tryz.prog 208 #[vptr v,.int .u32 a,.int .u64 num] w K:=by
 obtain⟨rfl,rfl⟩:=no_bk h hc0
 apply ca208
 unfold F208
 obtain⟨w1,e1,b1,m1⟩:=newOd w
 refine rvS e1 ?_
 obtain⟨q,hq0⟩:∃q,q=w.heap.size:=⟨_,rfl⟩
 rw[←hq0]at b1⊢
 simp only[vptr,nilK_ptr]
 have h1:=h.md0 m1
 refine rvS (fldV 2 (by omega) _) (rvS (ld2 _ h1.blk) ?_)
 refine rx_range uMapB h1.mbk λw2 it2 m2=>?_
 have b2:=m2.hpk b1 id
 refine loopV (λst W=>st=(.int .u32 0,())∧w2=W) (λ_ _=>0) ⟨rfl,rfl⟩ ?_
 rintro _ _ ⟨rfl,rfl⟩ KN hKN
 unfold L208_1
 intro _
 refine rx_next it2 ?_ ?_
 ·intro hz W1 m1' hh
  refine rvS (by simp[-Int.natCast_add,go_sem]<;>first|exact⟨rfl,rfl⟩|exact rfl) ?_
  rw[ifB_bool,if_neg Bool.false_ne_true]
  refine rvS (v:=odV zOd) (w' :=W1) (by simp[go_sem,odV,odC,zOd]) ?_
  obtain⟨w6,e6,b6,m6⟩:=setOd (o' :=zOd) (m1'.hpk b2 id)
  refine ruS e6 (rdWS (ldOd (o:=zOd) (At.all b6)) ?_)
  exact hK w6 (((m1.trans m2).trans m1').on m6 λy hy=>.inr (by omega))
 ·intro i p hp0
  cases hp0
end
theorem ca_vcancel0{w:World}{K:Kont}{v:Nat}{F:Nat→Prop}{S:Ven}{x:Cm}(h:VenQ w v F S)(hc0:S.cal=⟨0,[]⟩)(hK:Post w v F (7,zRp,S) K):Ca Tryz.prog 119 #[vptr v,cmV x] w K:=by
 obtain⟨c,l,mb,md,A,D,fp,hr,hF⟩:=h
 obtain⟨rfl,rfl⟩:=no_bk hr hc0
 apply ca119
 unfold F119
 obtain⟨w1,e1,b1,m1⟩:=boxCm x w
 refine rvS e1 ?_
 obtain⟨p,hp0⟩:∃p,p=w.heap.size:=⟨_,rfl⟩
 rw[←hp0]at b1⊢
 obtain⟨w2,e2,b2,m2⟩:=newRp w1
 refine rvS e2 ?_
 obtain⟨q,hq0⟩:∃q,q=w1.heap.size:=⟨_,rfl⟩
 rw[←hq0]at b2⊢
 have hpq:p<q:=by have:=lt_of_heap b1;omega
 have M2:=m1.trans m2
 have c2:CmAt w2 p x:=m2.hpk b1 id
 have hFl:∀y,F y→y<p:=λy hy=>by obtain⟨pt,hp⟩:=(hF y).1 hy;have:=hr.lt hp;omega
 have hfpF:∀pt y,fp pt y→F y:=λpt y hy=>(hF y).2 ⟨_,hy⟩
 refine rvS (cmF1 _) (rvS (cmL1 c2) ?_)
 refine rvS (cmF3 _) (rvS (cmL3 c2) ?_)
 refine ca_vfind0 (hr.md0 M2) hc0 λw3 m3=>?_
 have M3:=M2.trans m3
 have b3:=m3.hpk b2 id
 refine rvS (by simp[-Int.natCast_add,go_sem]<;>first|exact⟨rfl,rfl⟩|exact rfl) ?_
 refine rvS (by simp[-Int.natCast_add,go_sem]<;>first|exact⟨rfl,rfl⟩|exact rfl) ?_
 obtain⟨w4,e4,b4,m4⟩:=newOd w3
 refine rvS e4 ?_
 obtain⟨w5,e5,b5,m5⟩:=setOd (o' :=zOd) b4
 refine ruS e5 ?_
 have hs3:=m3.size
 have hs2:=M2.size
 have hq2:=lt_of_heap b2
 have M35:Mod (λ_=>False) w3 w5:=m4.on m5 λb hb=>.inr (by omega)
 have M5:=M3.trans M35
 have h5:=hr.md0 M5
 have r5:=M35.hpk b3 id
 refine rvS (v:=.bool false) (w' :=w5) (by simp[go_sem]) ?_
 rw[ifB_bool,if_neg Bool.false_ne_true]
 simp only[vptr,nilK_ptr]
 refine rvS (fldV 3 (by omega) _) (rvS (ld3 _ h5.blk) ?_)
 refine rx_range uMapD h5.mbd λw6 it6 m6=>?_
 have r6:=m6.hpk r5 id
 refine loopV (λst W=>st=(.int .i64 0,())∧w6=W) (λ_ _=>0) ⟨rfl,rfl⟩ ?_
 rintro _ _ ⟨rfl,rfl⟩ KN hKN
 unfold L119_0
 intro _
 refine rx_next it6 ?_ ?_
 ·intro hz W1 m1' hh
  refine rvS (by simp[-Int.natCast_add,go_sem]<;>first|exact⟨rfl,rfl⟩|exact rfl) ?_
  rw[ifB_bool,if_neg Bool.false_ne_true]
  have r7:=m1'.hpk r6 id
  refine rvS (ldRp r7) ?_
  obtain⟨W2,f2,x2,m2'⟩:=stRp (r:=zRp) (sT:=nilV) (sG:=nilV) (sA:=nilV) r7 rfl ⟨nilSlV,nilSlV,nilSlV⟩
  refine ruS f2 (rdWS (ldRp x2) ?_)
  have M7:=(M5.trans m6).trans m1'
  exact hK.nil (F' :=F) rfl ⟨c,l,mb,md,[],[],fp,(hr.md0 M7).mod m2' λpt y hy e=>by have:=hFl y (hfpF pt y hy);omega,hF⟩ ((M7.mono (G:=F) λ_ _ h=>h.elim).on m2' λy hy=>.inr (by have:=m1.size;omega)) λy hy=>.inl hy
 ·intro i p hp0
  cases hp0
theorem ca_vreplace0{w:World}{K:Kont}{v:Nat}{F:Nat→Prop}{S:Ven}{x:Cm}(h:VenQ w v F S)(hc0:S.cal=⟨0,[]⟩)(hK:Post w v F (7,zRp,S) K):Ca Tryz.prog 120 #[vptr v,cmV x] w K:=by
 obtain⟨c,l,mb,md,A,D,fp,hr,hF⟩:=h
 apply ca120
 unfold F120
 obtain⟨w1,e1,b1,m1⟩:=boxCm x w
 refine rvS e1 ?_
 obtain⟨p,hp0⟩:∃p,p=w.heap.size:=⟨_,rfl⟩
 rw[←hp0]at b1⊢
 obtain⟨w2,e2,b2,m2⟩:=newRp w1
 refine rvS e2 ?_
 obtain⟨q,hq0⟩:∃q,q=w1.heap.size:=⟨_,rfl⟩
 rw[←hq0]at b2⊢
 have hpq:p<q:=by have:=lt_of_heap b1;omega
 have M2:=m1.trans m2
 have c2:CmAt w2 p x:=m2.hpk b1 id
 have hFl:∀y,F y→y<p:=λy hy=>by obtain⟨pt,hp⟩:=(hF y).1 hy;have:=hr.lt hp;omega
 have hfpF:∀pt y,fp pt y→F y:=λpt y hy=>(hF y).2 ⟨_,hy⟩
 refine rvS (cmF1 _) (rvS (cmL1 c2) ?_)
 refine rvS (cmF3 _) (rvS (cmL3 c2) ?_)
 refine ca_vfind0 (hr.md0 M2) hc0 λw3 m3=>?_
 have M3:=M2.trans m3
 have b3:=m3.hpk b2 id
 refine rvS (by simp[-Int.natCast_add,go_sem]<;>first|exact⟨rfl,rfl⟩|exact rfl) ?_
 refine rvS (by simp[-Int.natCast_add,go_sem]<;>first|exact⟨rfl,rfl⟩|exact rfl) ?_
 obtain⟨w4,e4,b4,m4⟩:=newOd w3
 refine rvS e4 ?_
 obtain⟨w5,e5,b5,m5⟩:=setOd (o' :=zOd) b4
 refine ruS e5 ?_
 have hs3:=m3.size
 have hs2:=M2.size
 have hq2:=lt_of_heap b2
 have M35:Mod (λ_=>False) w3 w5:=m4.on m5 λb hb=>.inr (by omega)
 have M5:=M3.trans M35
 have r5:=M35.hpk b3 id
 refine rvS (v:=.bool true) (w' :=w5) (by simp[go_sem]) ?_
 rw[ifB_bool,if_pos rfl]
 refine rvS (ldRp r5) ?_
 obtain⟨W2,f2,x2,m2'⟩:=stRp (r:=zRp) (sT:=nilV) (sG:=nilV) (sA:=nilV) r5 rfl ⟨nilSlV,nilSlV,nilSlV⟩
 refine ruS f2 (rdWS (ldRp x2) ?_)
 exact hK.nil (F' :=F) rfl ⟨c,l,mb,md,A,D,fp,(hr.md0 M5).mod m2' λpt y hy e=>by have:=hFl y (hfpF pt y hy);omega,hF⟩ ((M5.mono (G:=F) λ_ _ h=>h.elim).on m2' λy hy=>.inr (by have:=m1.size;omega)) λy hy=>.inl hy
theorem ca_vexpire0{w:World}{K:Kont}{v:Nat}{F:Nat→Prop}{S:Ven}{n:Int}(h:VenQ w v F S)(hc0:S.cal=⟨0,[]⟩)(hK:Post w v F (7,zRp,S) K):Ca Tryz.prog 118 #[vptr v,.int .u32 n] w K:=by
 obtain⟨c,l,mb,md,A,D,fp,hr,hF⟩:=h
 apply ca118
 unfold F118
 obtain⟨w1,e1,b1,m1⟩:=newRp w
 refine rvS e1 ?_
 obtain⟨q,hq⟩:∃q,q=w.heap.size:=⟨_,rfl⟩
 rw[←hq]at b1⊢
 have h1:=hr.md0 m1
 have hqW1:=lt_of_heap b1
 have hfl:∀pt x,fp pt x→x<q:=λpt x hx=>by rw[hq];exact hr.lt hx
 simp only[vptr,nilK_ptr]
 refine rvS (fldV 0 (by omega) _) (rvS (ld0 _ h1.blk) ?_)
 obtain⟨k,hk⟩:∃k,k=(calGetR S.cal.l n).1:=⟨_,rfl⟩
 refine ca_cget h1.cal λw2 m2=>?_
 rw[←hk]
 refine rvS (by simp[-Int.natCast_add,go_sem]<;>first|exact⟨rfl,rfl⟩|exact rfl) ?_
 refine rvS (by simp[-Int.natCast_add,go_sem]<;>first|exact⟨rfl,rfl⟩|exact rfl) ?_
 refine ctVar λw3 b3 m3=>?_
 have M3:=(m1.trans m2).trans m3
 have h3:=hr.md0 M3
 have r3:=m3.hpk (m2.hpk b1 id) id
 refine rvS (fldV 0 (by omega) _) (rvS (ld0 _ h3.blk) ?_)
 refine ca_cexpire h3.cal λw4 q4 m4=>?_
 have hx7:calExpire S.cal n=(7,S.cal):=by rw[hc0];rfl
 rw[hx7]at q4⊢
 have h4:=h3.setCal m4 q4 (λx hx=>.inl hx) (λm=>rfl)
 rw[updP_same]at h4
 have r4:=m4.hpk r3 λhc=>by have:=hfl _ _ hc;omega
 refine rvS (v:=.bool true) (w' :=w4) (by simp[go_sem]) ?_
 rw[ifB_bool,if_pos rfl]
 refine rvS (ldRp r4) ?_
 obtain⟨W2,f2,x2,m2'⟩:=stRp (r:=zRp) (sT:=nilV) (sG:=nilV) (sA:=nilV) r4 rfl ⟨nilSlV,nilSlV,nilSlV⟩
 refine ruS f2 (rdWS (ldRp x2) ?_)
 have h4' :VenR w4 v c l mb md A D fp S:=h4
 have M4:Mod F w w4:=(M3.mono (G:=F) λ_ _ h=>h.elim).trans (m4.mono λy _ hy=>(hF y).2 ⟨_,hy⟩)
 exact hK.nil (F' :=F) rfl ⟨c,l,mb,md,A,D,fp,h4'.mod m2' λpt y hy e=>by have:=hfl pt y hy;omega,hF⟩ (M4.on m2' λy hy=>.inr (by omega)) λy hy=>.inl hy
set_option maxRecDepth 10000 in
set_option maxHeartbeats 8000000 in
theorem ca_vapply0{w:World}{K:Kont}{v:Nat}{F:Nat→Prop}{S:Ven}{x:Cm}(h:VenQ w v F S)(hc0:S.cal=⟨0,[]⟩)(hL:S.led=noLed)(hx:x.Fit)(hK:Post w v F (S.done0 x) K):Ca Tryz.prog 44 #[vptr v,cmV x] w K:=by
 have hQ:=h
 obtain⟨c,l,mb,md,A,D,fp,hr,hF⟩:=h
 apply ca44
 unfold F44
 obtain⟨w1,e1,b1,m1⟩:=boxCm x w
 refine rvS e1 ?_
 obtain⟨p,hp0⟩:∃p,p=w.heap.size:=⟨_,rfl⟩
 rw[←hp0]at b1⊢
 obtain⟨w3,e3,b3,m3⟩:=newRp w1
 refine rvS e3 ?_
 obtain⟨q,hq0⟩:∃q,q=w1.heap.size:=⟨_,rfl⟩
 rw[←hq0]at b3⊢
 have hpq:p<q:=by have:=lt_of_heap b1;omega
 have M3:=m1.trans m3
 have c3:CmAt w3 p x:=m3.hpk b1 id
 have h3:=hr.md0 M3
 have Q3:=hQ.md0 M3
 have hFl:∀y,F y→y<p:=λy hy=>by obtain⟨pt,hp⟩:=(hF y).1 hy;have:=hr.lt hp;omega
 have hfpF:∀pt y,fp pt y→F y:=λpt y hy=>(hF y).2 ⟨_,hy⟩
 have hallF:∀y,allP fp y↔F y:=λy=>(hF y).symm
 have hq3:q<w3.heap.size:=lt_of_heap b3
 have hnq:∀{pt y},fp pt y→y≠q∧y≠p:=λhy=>by have:=hFl _ (hfpF _ _ hy);omega
 obtain⟨f1,f2,f3,f4,f5,f6,f7,f8,f9⟩:=id hx
 have tellZ:∀(e:Int) (T:Ven) (F' :Nat→Prop) (W:World),S.done0 x=(e,zRp,T)→VenQ W v F' T→hp W q=some (.cells (rpC zRp nilV nilV nilV).toArray tRp (0,0))→Mod F w W→(∀y,F' y→(F y∨w.heap.size≤y)∧y≠q)→
   ru Tryz.prog (Instr.storeAt tRp (.pointer (some ⟨q,0,none⟩)) (rpV zRp nilV nilV nilV)) W λw20=>rdW Tryz.prog (Instr.loadAt tRp (.pointer (some ⟨q,0,none⟩))) w20 λv21=>K (.tuple #[v21,.int .i64 e]) w20:=by
  intro e T F' W he a b m hn
  obtain⟨W1,g1,x1,y1⟩:=stRp (r:=zRp) b rfl ⟨nilSlV,nilSlV,nilSlV⟩
  refine ruS g1 (rdWS (ldRp x1) ?_)
  exact hK.nil he (a.mod y1 λy hy e=>(hn y hy).2 e) (m.on y1 λy hy=>.inr (by omega)) λy hy=>(hn y hy).1
 have callR:∀(Y:Int×Rp×Ven) (W:World),S.done0 x=Y→Mod (λ_=>False) w3 W→Post W v F Y (λt w1=>rv Tryz.prog (Instr.extract t 0) w1 λv188 w189=>rv Tryz.prog (Instr.extract t 1) w189 λv190 w191=>ru Tryz.prog (Instr.storeAt tRp (.pointer (some ⟨q,0,none⟩)) v188) w191 λw192=>rdW Tryz.prog (Instr.loadAt tRp (.pointer (some ⟨q,0,none⟩))) w192 λv193=>K (.tuple #[v193,v190]) w192):=by
  intro Y W hY mW sT sG sA F' w' a1 a2 a3 a4 a5
  refine rvS (by simp[-Int.natCast_add,go_sem]<;>first|exact⟨rfl,rfl⟩|exact rfl) ?_
  refine rvS (by simp[-Int.natCast_add,go_sem]<;>first|exact⟨rfl,rfl⟩|exact rfl) ?_
  have hsW:=mW.size
  have qW:=a3.hpk (mW.hpk b3 id) λhc=>by have:=hFl q hc;omega
  obtain⟨t1,t2,t3⟩:=a2.isSl
  obtain⟨W1,g1,x1,y1⟩:=stRp (r:=Y.2.1) qW rfl ⟨t1,t2,t3⟩
  refine ruS g1 (rdWS (ldRp x1) ?_)
  have hw3:=M3.size
  refine hK.tell (F' :=F') hY (a1.mod y1 λy hy e=>?_) (a2.mod y1 λy hy e=>?_) (((M3.trans mW).mono (G:=F) λ_ _ h=>h.elim).trans a3 |>.on y1 λy hy=>.inr (by omega)) (λy hy=>(a4 y hy).imp id λh' =>by omega) λy hy=>⟨by have:=(a5 y hy).1;omega,(a5 y hy).2⟩
  ·rcases a4 y hy with h' |h'
   ·have:=hFl y h';omega
   ·omega
  ·have:=(a5 y hy).1;omega
 refine rvS (cm0F _) (rvS (cm0L c3) ?_)
 have kq:∀{W W' :World} {pt:Pt},Mod (fp pt) W W' →hp W q=some (.cells (rpC zRp nilV nilV nilV).toArray tRp (0,0))→hp W' q=some (.cells (rpC zRp nilV nilV nilV).toArray tRp (0,0)):=λm hh=>m.hpk hh λhc=>(hnq hc).1 rfl
 have mdr:Mod (λ_=>False) w3 w3.drew:=(Mod.refl _ w3).drew
 have hd:=h3.md0 mdr
 have cd:CmAt w3.drew p x:=mdr.hpk c3 id
 have bd:=mdr.hpk b3 id
 have Md:=M3.trans mdr
 have hFQ:∀{W T},VenR W v c l mb md A D fp T→VenQ W v F T:=λa=>⟨c,l,mb,md,A,D,fp,a,hF⟩
 have hsame:∀y,F y→(F y∨w.heap.size≤y)∧y≠q:=λy hy=>⟨.inl hy,by have:=hFl y hy;omega⟩
 have MF:∀{W:World} {pt:Pt},Mod (fp pt) w3.drew W→Mod F w W:=λm=>(Md.mono λ_ _ h=>h.elim).trans (m.mono λy _ hy=>hfpF _ y hy)
 by_cases k1:x.kind=1
 ·refine rvS (v:=.bool true) (w' :=w3) (by simp[go_sem,k1]) ?_
  rw[ifB_bool,if_pos rfl]
  simp only[vptr,nilK_ptr]
  refine rdWS (ldRp bd) ?_
  refine rdPS (fldV 1 (by omega)) (rdWS (ld1 _ hd.blk) ?_)
  refine rdPS cmF1 (rdWS (cmL1 cd) ?_)
  refine rdPS cmF4 (rdWS (cmL4 cd) ?_)
  refine ca_deposit hd.led f2 λw4 q4 m4=>?_
  have b4:=kq m4 bd
  refine⟨ldRp b4,?_⟩
  exact tellZ _ {S with led:=(S.led.deposit x.acct x.amt).2} F w4 (by unfold Ven.done0;rw[if_pos k1]) (hFQ (hd.setLed m4 q4)) b4 (MF m4) hsame
 refine rvS (v:=.bool false) (w' :=w3) (by simp[go_sem,k1]) ?_
 rw[ifB_bool,if_neg Bool.false_ne_true]
 by_cases k2:x.kind=2
 ·refine rvS (v:=.bool true) (w' :=w3) (by simp[go_sem,k2]) ?_
  rw[ifB_bool,if_pos rfl]
  refine rdWS (ldRp bd) (rdX_of (cmLd cd) ?_)
  refine ca_vwithdraw0 hd hL hx λw4 v4 m4=>?_
  have b4:=kq m4 bd
  refine⟨ldRp b4,?_⟩
  exact tellZ _ {S with led:=(S.led.withdraw x.acct x.amt).2} F w4 (by unfold Ven.done0;rw[if_neg k1,if_pos k2]) (hFQ v4) b4 (MF m4) hsame
 refine rvS (v:=.bool false) (w' :=w3) (by simp[go_sem,k2]) ?_
 rw[ifB_bool,if_neg Bool.false_ne_true]
 by_cases k3:x.kind=3
 ·refine rvS (v:=.bool true) (w' :=w3) (by simp[go_sem,k3]) ?_
  rw[ifB_bool,if_pos rfl]
  obtain⟨C,hC⟩:∃C,C=calList S.cal x.spec:=⟨_,rfl⟩
  have hdone:S.done0 x=(C.1,zRp,if C.1=0 then{S with cal:=C.2,bk:=upd S.bk x.spec.num Bk.empty}else{S with cal:=C.2}):=by
   unfold Ven.done0;rw[if_neg k1,if_neg k2,if_pos k3,hC]
  refine JoinW.at (λst W=>st=(.int .i64 C.1,())∧hp W q=some (.cells (rpC zRp nilV nilV nilV).toArray tRp (0,0))∧Mod F w W∧∃F',VenQ W v F' (if C.1=0 then{S with cal:=C.2,bk:=upd S.bk x.spec.num Bk.empty}else{S with cal:=C.2})∧∀y,F' y→(F y∨w.heap.size≤y)∧y≠q) ?_ ?_
  ·simp only[vptr,nilK_ptr]
   refine rdPS (fldV 0 (by omega)) (rdWS (ld0 _ hd.blk) ?_)
   refine rdPS cm5F ?_
   refine rdX_bigS (spC x.spec) 24 aSp nSp (spC_len _) (cm5At cd) ?_
   refine ca_clist hd.cal f6 λG w4 q4 m4 n4=>?_
   rw[←hC]at q4⊢
   have b4:=kq m4 bd
   have c4:CmAt w4 p x:=m4.hpk cd λhc=>(hnq hc).2 rfl
   have hsd:=Md.size
   have hqd:q<w3.drew.heap.size:=lt_of_heap bd
   have hup:∀y,allP (updP fp .cal G) y→F y∨w3.drew.heap.size≤y:=λy hy=>by
    rcases allP_upd n4 y hy with h' |h'
    ·exact .inl ((hallF y).1 h')
    ·exact .inr h'
   have hs4:=m4.size
   by_cases hCe:C.1=0
   ·refine rvS (v:=.bool true) (w' :=w4) (by simp[go_sem,hCe]) ?_
    rw[ifB_bool,if_pos rfl]
    obtain⟨g1,g2⟩:=calList_0 (hC▸hCe:(calList S.cal x.spec).1=0)
    rw[←hC]at g2
    have v4:=hd.toVenW.setCal m4 q4 n4
    have mdr4:Mod (λ_=>False) w4 w4.drew:=(Mod.refl _ w4).drew
    have v5:=v4.mod mdr4 λ_ _ _ h=>h
    have b5:=mdr4.hpk b4 id
    have c5:CmAt w4.drew p x:=mdr4.hpk c4 id
    have hs5:w4.drew.heap.size=w4.heap.size:=rfl
    have M5:Mod F w w4.drew:=(MF m4).trans (mdr4.mono λ_ _ h=>h.elim)
    generalize w4.drew=w5 at mdr4 v5 b5 c5 hs5 M5⊢
    simp only[nilK_ptr]
    refine rdPS (fldV 2 (by omega)) (rdWS (ld2 _ v5.blk) ?_)
    refine rdPS cm5F (rdPS (v:=.pointer (some ⟨p,5,none⟩)) (λ_=>by simp[go_sem]) ?_)
    have cm5n:∀{W:World},CmAt W p x→(Instr.loadAt 35 (.pointer (some ⟨p,5,none⟩))).run Tryz.prog W=.ok (.int .u32 x.spec.num) W:=λhW=>by
     have h5:(cmC x)[5]? =some (.int .u32 x.spec.num):=rfl
     simp[go_sem,hW,h5]
    refine rdWS (cm5n c5) ?_
    refine ca_bknew λnb Gb w6 q6 m6 n6=>?_
    have v6:=v5.mod m6 λ_ _ _ h=>h
    have c6:CmAt w6 p x:=m6.hpk c5 id
    refine⟨cm5n c6,ld2 _ v6.blk,?_⟩
    have hA:lk A x.spec.num=none:=by
     have:=hr.dom x.spec.num
     rw[g1]at this
     cases hl:lk A x.spec.num with
     |none=>rfl
     |some b=>rw[hl]at this;cases this
    refine rux_mapUp (enc:=encU) (ev:=bptr) (x:=x.spec.num) (v:=nb) uMapB kU32 v6.mbk λw7 a7 m7 hs7=>?_
    have v7:=v5.addBk (n:=x.spec.num) hA m6 q6 n6 a7 m7
    have hmbF:F mb:=hfpF _ _ ((hr.fmb mb).2 rfl)
    have v7' :VenR w7 v c l mb md (put A x.spec.num nb) D (updP (updP fp .cal G) (.bk x.spec.num) Gb) {S with cal:=C.2,bk:=upd S.bk x.spec.num Bk.empty}:=⟨v7,λm=>by
     rw[lk_put,g2 m]
     by_cases hm:x.spec.num=m
     ·rw[if_pos hm,if_pos hm];rfl
     ·rw[if_neg hm,if_neg hm];exact hr.dom m,λm hm=>by
     rw[g2 m]
     by_cases hmm:x.spec.num=m
     ·rw[if_pos hmm];rfl
     ·rw[if_neg hmm];exact hr.dod m hm⟩
    have hs6:=m6.size
    refine⟨by first|rfl|trivial,m7.hpk (m6.hpk b5 id) (λe=>by have:=hFl mb hmbF;omega),(M5.trans (m6.mono λ_ _ h=>h.elim)).trans (m7.mono λy _ hy=>by rw[hy];exact hmbF),_,by rw[if_pos hCe];exact v7'.q,λy hy=>?_⟩
    rcases allP_upd (n:=w5.heap.size) (λy hy=>.inr (n6 y hy)) y hy with h' |h'
    ·rcases hup y h' with h'' |h''
     ·exact⟨.inl h'',by have:=hFl y h'';omega⟩
     ·exact⟨.inr (by omega),by omega⟩
    ·exact⟨.inr (by omega),by omega⟩
   ·refine rvS (v:=.bool false) (w' :=w4) (by simp[go_sem,hCe]) ?_
    rw[ifB_bool,if_neg Bool.false_ne_true]
    have hCs:C.2=S.cal:=by rw[hC];exact calList_e (by rw[←hC];exact hCe)
    have v4:=hd.setCal m4 q4 n4 λm=>by rw[hCs]
    refine⟨rfl,b4,MF m4,_,by rw[if_neg hCe];exact v4.q,λy hy=>?_⟩
    rcases hup y hy with h'' |h''
    ·exact⟨.inl h'',by have:=hFl y h'';omega⟩
    ·exact⟨.inr (by omega),by omega⟩
  rintro _ W ⟨rfl,j1,j2,F',j3,j4⟩
  unfold J44_0
  intro _
  refine rvS (ldRp j1) ?_
  exact tellZ C.1 _ F' W hdone j3 j1 j2 j4
 refine rvS (v:=.bool false) (w' :=w3) (by simp[go_sem,k3]) ?_
 rw[ifB_bool,if_neg Bool.false_ne_true]
 by_cases k4:x.kind=4
 ·refine rvS (v:=.bool true) (w' :=w3) (by simp[go_sem,k4]) ?_
  rw[ifB_bool,if_pos rfl]
  simp only[vptr,nilK_ptr]
  refine rdWS (ldRp bd) ?_
  refine rdPS (fldV 0 (by omega)) (rdWS (ld0 _ hd.blk) ?_)
  refine rdPS cmF2 (rdWS (cmL2 cd) ?_)
  refine rdPS cmF6 (rdWS (cmL6 cd) ?_)
  refine ca_chalt hd.cal λw4 q4 m4=>?_
  have b4:=kq m4 bd
  refine⟨ldRp b4,?_⟩
  have v4:=hd.setCal m4 q4 (λy hy=>.inl hy) λm=>halt_get _ _ _ m
  rw[updP_same]at v4
  exact tellZ _ {S with cal:=(calHalt S.cal x.ct x.on).2} F w4 (by unfold Ven.done0;rw[if_neg k1,if_neg k2,if_neg k3,if_pos k4]) (hFQ v4) b4 (MF m4) hsame
 refine rvS (v:=.bool false) (w' :=w3) (by simp[go_sem,k4]) ?_
 rw[ifB_bool,if_neg Bool.false_ne_true]
 by_cases k11:x.kind=11
 ·refine rvS (v:=.bool true) (w' :=w3) (by simp[go_sem,k11]) ?_
  rw[ifB_bool,if_pos rfl]
  simp only[vptr,nilK_ptr]
  refine rdWS (ldRp bd) ?_
  refine rdPS (fldV 0 (by omega)) (rdWS (ld0 _ hd.blk) ?_)
  refine rdPS cmF2 (rdWS (cmL2 cd) ?_)
  refine rdPS cmF9 (rdWS (cmL9 cd) ?_)
  refine ca_cpublish hd.cal λw4 q4 m4=>?_
  have b4:=kq m4 bd
  refine⟨ldRp b4,?_⟩
  have v4:=hd.setCal m4 q4 (λy hy=>.inl hy) λm=>publish_get _ _ _ m
  rw[updP_same]at v4
  exact tellZ _ {S with cal:=(calPublish S.cal x.ct x.price).2} F w4 (by unfold Ven.done0;rw[if_neg k1,if_neg k2,if_neg k3,if_neg k4,if_pos k11]) (hFQ v4) b4 (MF m4) hsame
 refine rvS (v:=.bool false) (w' :=w3) (by simp[go_sem,k11]) ?_
 rw[ifB_bool,if_neg Bool.false_ne_true]
 by_cases k12:x.kind=12
 ·refine rvS (v:=.bool true) (w' :=w3) (by simp[go_sem,k12]) ?_
  rw[ifB_bool,if_pos rfl]
  exact ca_vsettle0 Q3 hc0 hL (callR (0,zRp,{S with cal:=⟨1,[]⟩}) w3 (by unfold Ven.done0;rw[if_neg k1,if_neg k2,if_neg k3,if_neg k4,if_neg k11,if_pos k12]) (Mod.refl _ _))
 refine rvS (v:=.bool false) (w' :=w3) (by simp[go_sem,k12]) ?_
 rw[ifB_bool,if_neg Bool.false_ne_true]
 have call7:∀W:World,S.done0 x=(7,zRp,S)→Mod (λ_=>False) w3 W→Post W v F (7,zRp,S) (λt w1=>rv Tryz.prog (Instr.extract t 0) w1 λv188 w189=>rv Tryz.prog (Instr.extract t 1) w189 λv190 w191=>ru Tryz.prog (Instr.storeAt tRp (.pointer (some ⟨q,0,none⟩)) v188) w191 λw192=>rdW Tryz.prog (Instr.loadAt tRp (.pointer (some ⟨q,0,none⟩))) w192 λv193=>K (.tuple #[v193,v190]) w192):=λW hY mW=>callR (7,zRp,S) W hY mW
 by_cases k14:x.kind=14
 ·refine rvS (v:=.bool true) (w' :=w3) (by simp[go_sem,k14]) ?_
  rw[ifB_bool,if_pos rfl]
  refine rvS (cmF2 _) (rvS (cmL2 c3) ?_)
  exact ca_vexpire0 Q3 hc0 (call7 w3 (by unfold Ven.done0;rw[if_neg k1,if_neg k2,if_neg k3,if_neg k4,if_neg k11,if_neg k12,if_pos k14]) (Mod.refl _ _))
 refine rvS (v:=.bool false) (w' :=w3) (by simp[go_sem,k14]) ?_
 rw[ifB_bool,if_neg Bool.false_ne_true]
 refine rvS (cmF1 _) (rvS (cmL1 c3) ?_)
 have hZ:∀{W:World},Mod (λ_=>False) w3 W→hp W q=some (.cells (rpC zRp nilV nilV nilV).toArray tRp (0,0)):=λm=>m.hpk b3 id
 have tellS:∀(e:Int) (W:World),S.done0 x=(e,zRp,S)→Mod (λ_=>False) w3 W→rv Tryz.prog (Instr.loadAt tRp (.pointer (some ⟨q,0,none⟩))) W λv115 w116=>ru Tryz.prog (Instr.storeAt tRp (.pointer (some ⟨q,0,none⟩)) v115) w116 λw20=>rdW Tryz.prog (Instr.loadAt tRp (.pointer (some ⟨q,0,none⟩))) w20 λv21=>K (.tuple #[v21,.int .i64 e]) w20:=λe W he m=>
  rvS (ldRp (hZ m)) (tellZ e S F W he (Q3.md0 m) (hZ m) ((M3.trans m).mono λ_ _ h=>h.elim) hsame)
 by_cases ha0:x.acct=0
 ·refine rvS (v:=.bool true) (w' :=w3) (by simp[go_sem,ha0]) ?_
  rw[ifB_bool,if_pos rfl]
  exact tellS 2 w3 (by unfold Ven.done0;rw[if_neg k1,if_neg k2,if_neg k3,if_neg k4,if_neg k11,if_neg k12,if_neg k14,if_pos ha0]) (Mod.refl _ _)
 refine rvS (v:=.bool false) (w' :=w3) (by simp[go_sem,ha0]) ?_
 rw[ifB_bool,if_neg Bool.false_ne_true]
 refine rvS (cm0F _) (rvS (cm0L c3) ?_)
 have h7:S.done0 x=(7,zRp,S):=by unfold Ven.done0;rw[if_neg k1,if_neg k2,if_neg k3,if_neg k4,if_neg k11,if_neg k12,if_neg k14,if_neg ha0]
 by_cases k6:x.kind=6
 ·refine rvS (v:=.bool true) (w' :=w3) (by simp[go_sem,k6]) ?_
  rw[ifB_bool,if_pos rfl]
  refine rx_of (cmLd c3) ?_
  exact ca_vcancel0 Q3 hc0 (call7 w3 h7 (Mod.refl _ _))
 refine rvS (v:=.bool false) (w' :=w3) (by simp[go_sem,k6]) ?_
 rw[ifB_bool,if_neg Bool.false_ne_true]
 by_cases k7:x.kind=7
 ·refine rvS (v:=.bool true) (w' :=w3) (by simp[go_sem,k7]) ?_
  rw[ifB_bool,if_pos rfl]
  refine rx_of (cmLd c3) ?_
  exact ca_vreplace0 Q3 hc0 (call7 w3 h7 (Mod.refl _ _))
 refine rvS (v:=.bool false) (w' :=w3) (by simp[go_sem,k7]) ?_
 rw[ifB_bool,if_neg Bool.false_ne_true]
 have hg:S.led.getO x.acct=none:=by rw[hL];show(if x.acct=0 then _ else _)=none;rw[if_neg ha0];rfl
 obtain⟨E,hE⟩:∃E:Int,E=if S.led.getO x.acct=none then 7 else 0:=⟨_,rfl⟩
 refine JoinW.at (λst W=>∃ra,st=(.pointer (some ⟨ra,0,none⟩),.int .i64 E,())∧hp W ra=some (.cells (cellsAc (S.acc x.acct)).toArray tAc (0,0))∧q<ra∧Mod (λ_=>False) w3 W) ?_ ?_
 ·have hsd:w3.drew.heap.size=w3.heap.size:=rfl
  simp only[vptr,nilK_ptr]
  clear hx k1 k2 k3 k4 k6 k7 k11 k12 k14 tellS
  generalize w3.drew=u at mdr hd cd hsd⊢
  refine rdPS (fldV 1 (by omega)) (rdWS (ld1 _ hd.blk) ?_)
  refine rdPS cmF1 (rdWS (cmL1 cd) ?_)
  refine⟨?_,?_⟩
  ·refine ca_get hd.led λu2 mu2=>?_
   rw[acc_getV,←hE]
   refine rdPS (v:=acV (S.acc x.acct)) (λ_=>by simp[go_sem]) ?_
   refine rdPS (v:=.int .i64 E) (λ_=>by simp[go_sem]) ?_
   obtain⟨u3,u4,x1,x2,x3,x4⟩:=acVar (S.acc x.acct) u2
   refine rvS x1 (ruS x2 ?_)
   exact⟨_,rfl,x3,by have:=mu2.size;omega,(mdr.trans mu2).trans x4⟩
  ·obtain⟨u2,x1,x2,mu2⟩:=allocAc u
   refine rvS x1 ?_
   have h5' :=hd.md0 mu2
   refine⟨cmL1 (mu2.hpk cd id),ld1 _ h5'.blk,?_⟩
   refine ca_get h5'.led λu3 mu3=>?_
   rw[acc_getV,←hE]
   refine rdPS (v:=acV (S.acc x.acct)) (λ_=>by simp[go_sem]) ?_
   refine rdPS (v:=.int .i64 E) (λ_=>by simp[go_sem]) ?_
   obtain⟨u4,y1,y2,y3⟩:=storeAc (S.acc x.acct) (mu3.hpk x2 id)
   refine ruS y1 ?_
   exact⟨_,rfl,y2,by omega,((mdr.trans mu2).trans mu3).on y3 λb hb=>.inr (by omega)⟩
 rintro _ W ⟨ra,rfl,ba,hra,mW⟩
 unfold J44_5
 intro _
 have hW:=h3.md0 mW
 have QW:=Q3.md0 mW
 have cW:CmAt W p x:=mW.hpk c3 id
 have bW:=mW.hpk b3 id
 have MW:=M3.trans mW
 have hsW:=mW.size
 have hraW:=lt_of_heap ba
 rw[if_pos hg]at hE
 subst hE
 refine rvS (v:=.bool true) (w' :=W) (by simp[go_sem]) ?_
 rw[ifB_bool,if_pos rfl]
 exact tellS 7 W h7 mW
set_option maxRecDepth 10000 in
set_option maxHeartbeats 2000000 in
theorem ca_vApply0{w:World}{K:Kont}{v:Nat}{F:Nat→Prop}{S:Ven}{x:Cm}(h:VenQ w v F S)(hok:S.Ok)(hc0:S.cal=⟨0,[]⟩)(hL:S.led=noLed)(hx:x.Fit)
  (hK:∀sT sG sA F' w',VenQ w' v F' (S.app0 x).2→RpQ w' sT sG sA (S.app0 x).1→Mod F w w' →(∀y,F' y→F y∨w.heap.size≤y)→(∀y,inSl sT y∨inSl sG y∨inSl sA y→w.heap.size≤y∧¬F' y)→K (rpV (S.app0 x).1 sT sG sA) w'):
  Ca Tryz.prog 12 #[vptr v,cmV x] w K:=by
 have hQ:=h
 obtain⟨c,l,mb,md,A,D,fp,hr,hF⟩:=h
 apply ca12
 unfold F12
 obtain⟨w1,e1,b1,m1⟩:=boxCm x w
 refine rvS e1 ?_
 obtain⟨p,hp0⟩:∃p,p=w.heap.size:=⟨_,rfl⟩
 rw[←hp0]at b1⊢
 obtain⟨w3,e3,b3,m3⟩:=newRp w1
 refine rvS e3 ?_
 obtain⟨q,hq0⟩:∃q,q=w1.heap.size:=⟨_,rfl⟩
 rw[←hq0]at b3⊢
 have hpq:p<q:=by have:=lt_of_heap b1;omega
 have M3:=m1.trans m3
 have c3:CmAt w3 p x:=m3.hpk b1 id
 have h3:=hr.md0 M3
 have hFl:∀y,F y→y<p:=λy hy=>by obtain⟨pt,hp⟩:=(hF y).1 hy;have:=hr.lt hp;omega
 have hq3:q<w3.heap.size:=lt_of_heap b3
 have fail:∀(e:Int) (W:World),S.app0 x=(failR e,S)→Mod (λ_=>False) w W→hp W q=some (.cells (rpC zRp nilV nilV nilV).toArray tRp (0,0))→
   Ca Tryz.prog 41 #[.int .i64 e] W λv8 w9=>ru Tryz.prog (Instr.storeAt tRp (.pointer (some ⟨q,0,none⟩)) v8) w9 λw10=>rdW Tryz.prog (Instr.loadAt tRp (.pointer (some ⟨q,0,none⟩))) w10 λv11=>K v11 w10:=by
  intro e W he m b
  refine ca_failed λW1 mW1=>?_
  obtain⟨W2,g2,x2,y2⟩:=stRp (r:=failR e) (sT:=nilV) (sG:=nilV) (sA:=nilV) (mW1.hpk b id) rfl ⟨nilSlV,nilSlV,nilSlV⟩
  refine ruS g2 (rdWS (ldRp x2) ?_)
  have hk:=hK nilV nilV nilV F W2
  rw[he]at hk
  refine hk ((hQ.md0 (m.trans mW1)).mod y2 λy hy e=>by have:=hFl y hy;omega) (RpQ.nil _ e) (((m.trans mW1).mono λ_ _ h=>h.elim).on y2 λy hy=>.inr (by have:=m1.size;omega)) (λy hy=>.inl hy) λy hy=>?_
  rcases hy with hy|hy|hy<;>cases hy
 refine ca_vready h3.blk ?_
 refine rvS (v:=.bool false) (w' :=w3) (by simp[go_sem]) ?_
 rw[ifB_bool,if_neg Bool.false_ne_true]
 refine rx_of (cmLd c3) ?_
 refine ca_mayC hx λw4 m4=>?_
 have M4:=M3.trans m4
 have c4:CmAt w4 p x:=m4.hpk c3 id
 have b4:=m4.hpk b3 id
 refine rvS (v:=.bool (!x.may)) (w' :=w4) (by simp[go_sem]) ?_
 cases hmay:x.may with
 |false=>
  rw[show(!false)=true from rfl,ifB_bool,if_pos rfl]
  exact fail 160 w4 (by unfold Ven.app0;rw[if_pos hmay]) M4 b4
 |true=>
  rw[show(!true)=false from rfl,ifB_bool,if_neg Bool.false_ne_true]
  refine ca_vcopy (hr.md0 M4) hok λu Fu w5 Q5 m5 n5=>?_
  have M5:=M4.trans m5
  have c5:CmAt w5 p x:=m5.hpk c4 id
  have b5:=m5.hpk b4 id
  have v5:=m5.hpk (m4.hpk h3.blk id) id
  have hs5:=M4.size
  have hq4:q<w4.heap.size:=lt_of_heap b4
  have hs45:=m5.size
  refine rx_of (cmLd c5) ?_
  refine ca_vapply0 Q5 hc0 hL hx λsT sG sA F6 w6 a1 a2 a3 a4 a5=>?_
  obtain⟨Y,hY⟩:∃Y,Y=S.done0 x:=⟨_,rfl⟩
  rw[←hY]at a1 a2⊢
  refine rvS (by simp[-Int.natCast_add,go_sem]<;>first|exact⟨rfl,rfl⟩|exact rfl) ?_
  refine rvS (by simp[-Int.natCast_add,go_sem]<;>first|exact⟨rfl,rfl⟩|exact rfl) ?_
  have hF6:∀y,F6 y→w4.heap.size≤y:=λy hy=>by
   rcases a4 y hy with h' |h'
   ·exact n5 y h'
   ·omega
  have hFu:∀{y},y<w4.heap.size→¬Fu y:=λh1 h2=>by have:=n5 _ h2;omega
  have b6:=a3.hpk b5 (hFu hq4)
  have hvw:v<w.heap.size:=by have:=hFl v hQ.self;omega
  have v6:=a3.hpk v5 (hFu (by omega))
  have M6:Mod (λ_=>False) w w6:=M5.on a3 λy hy=>.inr (by have:=n5 y hy;omega)
  obtain⟨w7,e7,b7,m7⟩:=newRp w6
  refine rvS e7 ?_
  obtain⟨z,hz⟩:∃z,z=w6.heap.size:=⟨_,rfl⟩
  rw[←hz]at b7⊢
  obtain⟨t1,t2,t3⟩:=a2.isSl
  obtain⟨w8,e8,b8,m8⟩:=stRp (r:=Y.2.1) b7 rfl ⟨t1,t2,t3⟩
  refine ruS e8 ?_
  have M8:Mod (λ_=>False) w6 w8:=m7.on m8 λy hy=>.inr (by omega)
  have M08:=M6.trans M8
  have Q8:=a1.md0 M8
  have R8:=a2.mod M8 λ_ _ h=>h
  have b8q:=M8.hpk b6 id
  have v8:=M8.hpk v6 id
  have hap:S.app0 x=if Y.1≠0 then(failR Y.1,S)else(Y.2.1,Y.2.2):=by unfold Ven.app0;rw[if_neg (by rw[hmay];simp),hY]
  by_cases hYe:Y.1≠0
  ·rw[if_pos hYe]at hap
   refine rvS (v:=.bool true) (w' :=w8) (by simp[go_sem,hYe]) ?_
   rw[ifB_bool,if_pos rfl]
   exact fail Y.1 w8 hap M08 b8q
  rw[if_neg hYe]at hap
  have hY0:Y.1=0:=by simpa using hYe
  refine rvS (v:=.bool false) (w' :=w8) (by simp[go_sem,hY0]) ?_
  rw[ifB_bool,if_neg Bool.false_ne_true]
  obtain⟨c6,l6,mb6,md6,A6,D6,fp6,hr6,hF6'⟩:=Q8
  simp only[vptr,nilK_ptr]
  refine rvS (ldVen hr6.blk) ?_
  obtain⟨w9,e9,b9,m9⟩:=stVen (c' :=c6) (l' :=l6) (mb' :=mb6) (md' :=md6) (n' :=Y.2.2.next) v8
  refine ruS e9 ?_
  have hv6:∀pt,¬fp6 pt v:=λpt hc=>by have:=hF6 v ((hF6' v).2 ⟨pt,hc⟩);omega
  have h9:=hr6.move (λpt _=>hv6 pt) b9 m9
  have R9:=R8.mod m9 λy hy e=>by have:=(a5 y hy).1;omega
  have b9z:=m9.hpk b8 (by have:=M6.size;omega)
  have b9q:=m9.hpk b8q (by omega)
  refine rvS (ldRp b9z) ?_
  obtain⟨w10,e10,b10,m10⟩:=stRp (r:=Y.2.1) b9q rfl ⟨t1,t2,t3⟩
  refine ruS e10 (rdWS (ldRp b10) ?_)
  have hsub:∀y,allP (updP fp6 .v λy=>y=v) y→y=v∨F6 y:=λy ⟨pt,hy⟩=>by
   by_cases hpt:pt=.v
   ·subst hpt;rw[updP_self]at hy;exact .inl hy
   ·rw[updP_ne hpt]at hy;exact .inr ((hF6' y).2 ⟨pt,hy⟩)
  have hk:=hK sT sG sA (allP (updP fp6 .v λy=>y=v)) w10
  rw[hap]at hk
  refine hk (h9.mod m10 λpt y hy e=>?_).q (R9.mod m10 λy hy e=>?_) (((M08.mono (G:=F) λ_ _ h=>h.elim).trans (m9.mono λy _ hy=>by rw[hy];exact hQ.self)).on m10 λy hy=>.inr (by omega)) (λy hy=>?_) λy hy=>⟨?_,λhc=>?_⟩
  ·rcases hsub y ⟨pt,hy⟩with h' |h'
   ·omega
   ·have:=hF6 y h';omega
  ·have:=(a5 y hy).1;omega
  ·rcases hsub y hy with h' |h'
   ·exact .inl (h' ▸hQ.self)
   ·exact .inr (by have:=hF6 y h';omega)
  ·have:=(a5 y hy).1;omega
  ·rcases hsub y hc with h' |h'
   ·have:=(a5 y hy).1;omega
   ·exact(a5 y hy).2 h'
end Go.Proofs
