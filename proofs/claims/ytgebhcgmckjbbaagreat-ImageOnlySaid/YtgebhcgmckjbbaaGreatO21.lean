/- Part of a proof. -/
import Derived.Test.YtgebhcgmckjbbaaGreatO20
set_option linter.all false
namespace Go.Proofs
open Go Go.Vc
attribute [local congr] Ca_congV
theorem nSdF:Tryz.prog.cellsOf tSdF=5+1:=by kernel_rfl
theorem uSdsF:Tryz.prog.underlying 47=some (.slice tSdF):=by kernel_rfl
theorem sdLdAt{W:World}{p off:Nat}{x:Int×Od}(h:At W p off (sdOC x)):(Instr.loadAt tSdF (.pointer (some ⟨p,off,none⟩))).run Tryz.prog W=.ok (sdVF x) W:=
 run_bigS (P:=Tryz.prog) (t:=tSdF) (by kernel_rfl) nSdF rfl h
theorem sdVarF(x:Int×Od)(W:World):∃w1 w2,(Instr.alloc tSdF true (.tuple #[])).run Tryz.prog W=.ok (.pointer (some ⟨W.heap.size,0,none⟩)) w1∧(Instr.storeAt tSdF (.pointer (some ⟨W.heap.size,0,none⟩)) (sdVF x)).run Tryz.prog w1=.ok () w2∧SdB w2 W.heap.size x∧Mod (λ_=>False) W w2:=by
 obtain⟨p,hp0⟩:∃p,p=W.heap.size:=⟨_,rfl⟩
 obtain⟨w1,hw1⟩:∃w1,w1=W.alloc (.cells #[.int .u32 0,.int .u64 0,.int .u32 0,.bool false,.int .i64 0,.int .i64 0] tSdF):=⟨_,rfl⟩
 have m1:Mod (λ_=>False) W w1:=by rw[hw1];exact(Mod.refl _ W).alloc _
 have b1:hp w1 p=some (.cells #[.int .u32 0,.int .u64 0,.int .u32 0,.bool false,.int .i64 0,.int .i64 0] tSdF (0,0)):=by rw[hw1,hp0];simp[go_sem]
 rw[←hp0]
 refine⟨w1,(((((w1.setCell ⟨p,0,none⟩ (.int .u32 x.1)).setCell ⟨p,1,none⟩ (.int .u64 x.2.num)).setCell ⟨p,2,none⟩ (.int .u32 x.2.acct)).setCell ⟨p,3,none⟩ (.bool x.2.buy)).setCell ⟨p,4,none⟩ (.int .i64 x.2.price)).setCell ⟨p,5,none⟩ (.int .i64 x.2.left),by rw[hw1,hp0];simp[go_sem],by simp[go_sem,b1,sdVF,sdOC,odC],by show hp _ _=_;simp[go_sem,b1,sdOC,odC],?_⟩
 exact m1.on (((((((Mod.refl (λy=>y=p) w1).setCell (.inl rfl) _ _).setCell (.inl rfl) _ _).setCell (.inl rfl) _ _).setCell (.inl rfl) _ _).setCell (.inl rfl) _ _).setCell (.inl rfl) _ _) λy hy=>.inr (by omega)
theorem sdBN{W:World}{p:Nat}{x:Int×Od}(h:SdB W p x):(Instr.loadAt 27 (.pointer (some ⟨p,1,none⟩))).run Tryz.prog W=.ok (.int .u64 x.2.num) W:=by
 have h' :hp W p=some (.cells (sdOC x).toArray tSdF (0,0)):=h
 simp only[sdOC,odC]at h'
 simp[go_sem,h']
theorem odBF1(p:Nat)(W:World):(Instr.fieldAt tOd (.pointer (some ⟨p,1,none⟩)) 0).run Tryz.prog W=.ok (.pointer (some ⟨p,1,none⟩)) W:=by simp[go_sem]
theorem sdIt{W:World}{s:Value}{L:List (Int×Od)}(h:Rd W 6 s L.length (L.flatMap sdOC)){i:Nat}(hi:i<L.length):
  ∃b off,(∀W2 k,(Instr.indexAt 47 s (.int k (i:Int))).run Tryz.prog W2=.ok (.pointer (some ⟨b,off,none⟩)) W2)∧At W b off (sdOC L[i]):=by
 obtain⟨b,off,cap,hse,hcap,hA⟩:=h.item (show∀x,(sdOC x).length=6 from λ_=>rfl) hi rfl
 exact⟨b,off+i*6,λW2 k=>by rw[hse];simp[go_sem,hi,addr_add,uSdsF],hA⟩
theorem sdAt0{W:World}{b off:Nat}{x:Int×Od}(h:At W b off (sdOC x)):(Instr.loadAt 35 (.pointer (some ⟨b,off,none⟩))).run Tryz.prog W=.ok (.int .u32 x.1) W:=by
 obtain⟨C,e,fz,hC,hg⟩:=h.get
 have g0:=hg 0 (.int .u32 x.1) rfl
 rw[Nat.add_zero]at g0
 simp[go_sem,hp_of hC,g0]
theorem NumAt.new(W:World):NumAt (W.alloc (.map #[] 0)) W.heap.size []:=⟨[],MapAt.new W,λn=>rfl⟩
theorem stFl(b i:Nat)(hi:i≤7)(W:World):(Instr.fieldAt tSt (.pointer (some ⟨b,0,none⟩)) i).run Tryz.prog W=.ok (.pointer (some ⟨b,i,none⟩)) W:=by
 rcases(show i=0∨i=1∨i=2∨i=3∨i=4∨i=5∨i=6∨i=7 by omega)with rfl|rfl|rfl|rfl|rfl|rfl|rfl|rfl<;>simp[go_sem]
theorem stLd6{w:World}{b:Nat}{d nx fu:Int}{ss:Nat→Value}(h:StBlk w b d nx fu ss)(hs:∀i,3≤i→i≤7→∃a n c,ss i=.slice a n c):(Instr.loadAt 47 (.pointer (some ⟨b,6,none⟩))).run Tryz.prog w=.ok (ss 6) w∧(Instr.loadAt 47 (.pointer (some ⟨b,7,none⟩))).run Tryz.prog w=.ok (ss 7) w:=
 ⟨stLdI h hs 6 (by omega) (by omega),stLdI h hs 7 (by omega) (by omega)⟩
theorem loadGone{W:World}{q:Nat}{sT sG:Value}{f l:Int}(h:hp W q=some (.cells (plC sT sG f l) 235 (0,0)))(hT:∃a n c,sT=.slice a n c)(hG:∃a n c,sG=.slice a n c):(Instr.fieldAt 235 (.pointer (some ⟨q,0,none⟩)) 1).run Tryz.prog W=.ok (.pointer (some ⟨q,1,none⟩)) W∧(Instr.loadAt 29 (.pointer (some ⟨q,1,none⟩))).run Tryz.prog W=.ok sG W:=by
 obtain⟨a1,a2,a3,rfl⟩:=hT
 obtain⟨b1,b2,b3,rfl⟩:=hG
 unfold plC at h
 exact⟨by simp[go_sem],by simp[go_sem,h]⟩
theorem fillO_cons(x:Int×Od)(l:List (Int×Od))(U:List Int)(S:Ven):fillO (x::l) U S=if S.stnd true U x=false then none
  else if(bkPlace (S.bk x.1) x.2 4).1≠0∨(bkPlace (S.bk x.1) x.2 4).2.2.gone≠ []then none
  else fillO l (x.2.num::U) {S with bk:=upd S.bk x.1 (bkPlace (S.bk x.1) x.2 4).2.1}:=rfl
theorem fillB_cons(x:Int×Od)(l:List (Int×Od))(pc:Option Int)(n:Int)(U:List Int)(S:Ven):fillB (x::l) pc n U S=if S.stnd false U x=false then none
  else if x.2.num≤(if pc≠none∧pc≠some x.1 then 0 else n)then none
  else if 50≤(S.bd x.1).length then none
  else fillB l (some x.1) x.2.num (x.2.num::U) {S with bd:=upd S.bd x.1 (S.bd x.1++[x.2])}:=rfl
def pcOf(l:List (Int×Od))(i:Nat):Option Int:=if i=0 then none else l[i - 1]?.map (·.1)
theorem pcOf_succ{l:List (Int×Od)}{i:Nat}(h:i<l.length):pcOf l (i+1)=some l[i].1:=by
 unfold pcOf
 rw[if_neg (by omega),Nat.add_sub_cancel,List.getElem?_eq_getElem h]
 rfl
section
variable{w:World}{K:Kont}{v c l mb md mn sb:Nat}{A:List (Int×Nat)}{D:List (Int×Value)}{fp:Pt→Nat→Prop}{S0:Ven}{ss:Nat→Value}{s:Sta}
structure FillW(w:World)(v c l mb md mn sb:Nat)(A:List (Int×Nat))(fp:Pt→Nat→Prop)(S0:Ven)(ss:Nat→Value)(s:Sta)(W:World)(D' :List (Int×Value))(U:List Int)(T:Ven)(fp' :Pt→Nat→Prop):Prop where
 ven:VenR W v c l mb md A D' fp' T
 num:NumAt W mn U
 inv:FillI S0 T U
 st:StBlk W sb s.day s.next s.fund ss
 up:∀y,allP fp' y→allP fp y∨mn<y
 md:Mod (allP fp) w W
theorem FillW.nmn{W:World}{D' :List (Int×Value)}{U:List Int}{T:Ven}{fp' :Pt→Nat→Prop}(h:FillW w v c l mb md mn sb A fp S0 ss s W D' U T fp')(hFl:∀y,allP fp y→y<w.heap.size)(h1:w.heap.size≤mn):¬allP fp' mn:=λhc=>by
 rcases h.up mn hc with h2|h2
 ·have:=hFl mn h2;omega
 ·omega
theorem FillW.nsb{W:World}{D' :List (Int×Value)}{U:List Int}{T:Ven}{fp' :Pt→Nat→Prop}(h:FillW w v c l mb md mn sb A fp S0 ss s W D' U T fp')(hFl:∀y,allP fp y→y<w.heap.size)(h1:w.heap.size≤sb)(h2:sb<mn):¬allP fp' sb:=λhc=>by
 rcases h.up sb hc with h3|h3
 ·have:=hFl sb h3;omega
 ·omega
theorem FillW.md0{W W' :World}{D' :List (Int×Value)}{U:List Int}{T:Ven}{fp' :Pt→Nat→Prop}(h:FillW w v c l mb md mn sb A fp S0 ss s W D' U T fp')(m:Mod (λ_=>False) W W'):FillW w v c l mb md mn sb A fp S0 ss s W' D' U T fp' :=
 ⟨h.ven.md0 m,h.num.mod m id,h.inv,m.hpk h.st id,h.up,h.md.trans (m.mono λ_ _ h=>h.elim)⟩
set_option maxRecDepth 10000 in
set_option maxHeartbeats 8000000 in
theorem ca_vfillB{U0:List Int}{T0:Ven}{fp0:Pt→Nat→Prop}{W0:World}(hFl:∀y,allP fp y→y<w.heap.size)(hs:StaR w ss s)(hf:s.Fit)(hlb:s.bids.length≤100000)(hsb:w.heap.size≤sb)(hsm:sb<mn)
  (hap:∀i y,3≤i→i≤7→inRd (ss i) y→¬allP fp y)(h0:FillW w v c l mb md mn sb A fp S0 ss s W0 D U0 T0 fp0)
  (hK1:∀T D' fp' U w',fillB s.bids none 0 U0 T0=some T→FillW w v c l mb md mn sb A fp S0 ss s w' D' U T fp' →K (.bool true) w')
  (hK0:∀w',fillB s.bids none 0 U0 T0=none→Mod (allP fp) w w' →K (.bool false) w'):
  LoopW (S:=Value×Value×Value×Unit) (L50_5 (.int .i64 (s.bids.length:Int)) (ss 7) (.pointer (some ⟨sb,0,none⟩)) (vptr v) (.map (some mn)) K) (.bool false,.int .u64 0,.int .i64 0,()) W0:=by
 have hssl:=hs.sl
 refine loopV (λst W=>∃(i:Nat) (last:Int) (D' :List (Int×Value)) (U:List Int) (T:Ven) (fp' :Pt→Nat→Prop),i≤s.bids.length∧st=(.bool false,.int .u64 last,.int .i64 i,())∧fillB s.bids none 0 U0 T0=fillB (s.bids.drop i) (pcOf s.bids i) last U T∧FillW w v c l mb md mn sb A fp S0 ss s W D' U T fp')
  (λst _=>match st.2.2.1 with| .int _ i=>s.bids.length - i.toNat|_=>0) ⟨0,0,D,U0,T0,fp0,by omega,rfl,rfl,h0⟩ ?_
 rintro _ W ⟨i,last,D',U,T,fp',hi,rfl,hfe,hW⟩ KN hKN
 unfold L50_5
 intro _
 by_cases hlt:i<s.bids.length
 ·have hlt' :(i:Int)<(s.bids.length:Int):=by omega
  refine rvS (v:=.bool true) (by simp[go_sem,hlt']<;>first|exact⟨rfl,rfl⟩|exact rfl) ?_
  rw[ifB_bool,if_pos rfl]
  have hR:Rd W 6 (ss 7) s.bids.length (s.bids.flatMap sdOC):=hs.bids.mod hW.md λy hy=>hap 7 y (by omega) (by omega) hy
  obtain⟨eb,eo,ei,hA⟩:=sdIt hR hlt
  have hpcs:=pcOf_succ hlt
  have hxf:=hf.bids s.bids[i] (List.getElem_mem hlt)
  rw[List.drop_eq_getElem_cons hlt]at hfe
  obtain⟨x,hx⟩:∃x,x=s.bids[i]:=⟨_,rfl⟩
  rw[←hx]at hA hfe hpcs hxf
  refine rvS (ei W _) (rvS (sdLdAt hA) ?_)
  obtain⟨w1,w2,e1,e2,b2,m2⟩:=sdVarF x W
  obtain⟨p,hp0⟩:∃p,p=W.heap.size:=⟨_,rfl⟩
  rw[←hp0]at e1 e2 b2
  refine rvS e1 (ruS e2 ?_)
  have h2:=hW.md0 m2
  obtain⟨pc,hpc⟩:∃pc,pc=pcOf s.bids i:=⟨_,rfl⟩
  rw[←hpc]at hfe
  obtain⟨la,hla⟩:∃la:Int,la=if pc≠none∧pc≠some x.1 then 0 else last:=⟨_,rfl⟩
  rw[fillB_cons]at hfe
  rw[←hla]at hfe
  refine JoinW.at (λst W' =>st=(.int .u64 la,())∧Mod (λ_=>False) w2 W') ?_ ?_
  ·refine JoinW.at (λst W' =>st=(.bool (decide (pc≠none∧pc≠some x.1)),())∧Mod (λ_=>False) w2 W') ?_ ?_
   ·have mdr:=(Mod.refl (λ_=>False) w2).drew
    have h3:=h2.md0 mdr
    have b3:SdB w2.drew p x:=mdr.hpk b2 id
    generalize w2.drew=w3 at mdr h3 b3⊢
    cases i with
    |zero=>
     refine rdPS (v:=.bool false) (λW=>by simp[go_sem]) ?_
     rw[ifB_bool,if_neg Bool.false_ne_true]
     have:pc=none:=by rw[hpc];rfl
     exact⟨by simp[this],mdr⟩
    |succ j=>
     refine rdPS (v:=.bool true) (λW=>by simp[go_sem]<;>omega) ?_
     rw[ifB_bool,if_pos rfl]
     have hj:j<s.bids.length:=by omega
     have hR3:Rd w3 6 (ss 7) s.bids.length (s.bids.flatMap sdOC):=hs.bids.mod h3.md λy hy=>hap 7 y (by omega) (by omega) hy
     obtain⟨jb,jo,je,jA⟩:=sdIt hR3 hj
     have hpj:=pcOf_succ hj
     rw[←hpc]at hpj
     refine rdPS (λW=>(sdBF p W).1) (rdWS (sdB0 b3) ?_)
     refine rdPS (λW=>stFl sb 7 (by omega) W) (rdWS (stLd6 h3.st hssl).2 ?_)
     refine rdPS (v:=.int .i64 (j:Int)) (λW=>by simp[go_sem];rw[wrapI (by omega) (by omega)]) ?_
     refine rdPS (λW=>je W _) ?_
     refine rdPS (v:=.pointer (some ⟨jb,jo,none⟩)) (λW=>by simp[go_sem]) (rdWS (sdAt0 jA) ?_)
     refine rdPS (v:=.bool (decide (x.1≠s.bids[j].1))) (λW=>by simp[go_sem];rfl) ?_
     refine⟨?_,mdr⟩
     have e:decide (pc≠none∧pc≠some x.1)=decide (x.1≠s.bids[j].1):=by
      rw[hpj]
      by_cases hc:x.1=s.bids[j].1<;>simp[hc,eq_comm]
     rw[e]
   ·rintro _ w3 ⟨rfl,m3⟩
    unfold J50_2
    intro _
    by_cases hc:pc≠none∧pc≠some x.1
    ·rw[if_pos hc]at hla
     simp only[decide_eq_true hc]
     rw[ifB_bool,if_pos rfl]
     exact⟨by rw[hla],m3⟩
    ·rw[if_neg hc]at hla
     simp only[decide_eq_false hc]
     rw[ifB_bool,if_neg Bool.false_ne_true]
     exact⟨by rw[hla],m3⟩
  rintro _ w3 ⟨rfl,m3⟩
  unfold J50_4
  intro _
  have h3:=h2.md0 m3
  have b3:SdB w3 p x:=m3.hpk b2 id
  have hpW:W.heap.size≤p:=by omega
  have M3:=m2.trans m3
  have hnum:mn<W.heap.size:=hW.num.lt
  refine JoinW.at (λst W' =>∃bad,st=(.bool bad,())∧SdB W' p x∧(bad=true→fillB s.bids none 0 U0 T0=none∧Mod (allP fp) w W')∧(bad=false→T.stnd false U x=true∧¬x.2.num≤la∧¬50≤(T.bd x.1).length∧VenR W' v c l mb md A D' fp' T∧NumAt W' mn (x.2.num::U)∧Mod (λy=>y=mn) W W')) ?_ ?_
  ·have mdr:=(Mod.refl (λ_=>False) w3).drew
   have h4:=h3.md0 mdr
   have b4:SdB w3.drew p x:=mdr.hpk b3 id
   have M4:=M3.trans mdr
   generalize w3.drew=w4 at mdr h4 b4 M4⊢
   refine rdWS (sdLdAt (At.all b4)) ?_
   refine ca_vstands h4.ven h4.num (h4.nmn hFl (by omega)) (λhst w5 v5 n5 m5=>?_) λhst w5 m5=>?_
   rotate_left
   ·refine rdPS (v:=.bool true) (λW=>by simp[go_sem]) ?_
    rw[ifB_bool,if_pos rfl]
    rw[if_pos hst]at hfe
    exact⟨true,rfl,m5.hpk b4 id,λ_=>⟨hfe,h4.md.trans (m5.mono λ_ _ h=>h.elim)⟩,λh=>(by cases h)⟩
   refine rdPS (v:=.bool false) (λW=>by simp[go_sem]) ?_
   rw[ifB_bool,if_neg Bool.false_ne_true]
   rw[if_neg (by rw[hst];simp)]at hfe
   have b5:SdB w5 p x:=m5.hpk b4 (by omega)
   have hm5:Mod (allP fp) w w5:=h4.md.on m5 λy hy=>.inr (by omega)
   have hm5' :Mod (λy=>y=mn) W w5:=(M4.mono λ_ _ h=>h.elim).trans m5
   refine rdPS (λW=>(sdBF p W).2) (rdPS (λW=>odBF1 p W) (rdWS (sdBN b5) ?_))
   refine rdPS (v:=.bool (decide (x.2.num≤la))) (λW=>by simp[go_sem]) ?_
   by_cases hle:x.2.num≤la
   ·rw[ifB_bool,if_pos (by simpa using hle)]
    rw[if_pos hle]at hfe
    exact⟨true,rfl,b5,λ_=>⟨hfe,hm5⟩,λh=>(by cases h)⟩
   rw[ifB_bool,if_neg (by simpa using hle)]
   rw[if_neg hle]at hfe
   simp only[vptr,nilK_ptr]
   refine rdPS (λW=>fldV 3 (by omega) W) (rdWS (ld3 _ v5.blk) ?_)
   refine rdPS (λW=>(sdBF p W).1) (rdWS (sdB0 b5) ?_)
   refine rdX_of (lookBd v5.mbd x.1) ?_
   obtain⟨sa,sc,hsl,-⟩:=(v5.bd x.1).isSl
   refine rdWS (v:=.int .i64 ((T.bd x.1).length:Int)) (by rw[hsl];simp[go_sem]) ?_
   refine rdPS (v:=.bool (decide (50≤(T.bd x.1).length))) (λ_=>by simp[go_sem];omega) ?_
   refine⟨_,rfl,b5,λhb=>?_,λhb=>?_⟩
   ·rw[if_pos (of_decide_eq_true hb)]at hfe
    exact⟨hfe,hm5⟩
   ·exact⟨hst,hle,of_decide_eq_false hb,v5,n5,hm5'⟩
  rintro _ w5 ⟨bad,rfl,b5,hbt,hbf⟩
  unfold J50_3
  intro _
  cases bad with
  |true=>
   rw[ifB_bool,if_pos rfl]
   exact hK0 _ (hbt rfl).1 (hbt rfl).2
  |false=>
  rw[ifB_bool,if_neg Bool.false_ne_true]
  obtain⟨hst,hle,h50,v5,n5,m5⟩:=hbf rfl
  rw[if_neg (by rw[hst];simp),if_neg hle,if_neg h50]at hfe
  have hstn:=stnd_ok hst
  refine rvS (sdBF p _).2 (rvS (odBF1 p _) (rvS (sdBN b5) ?_))
  have mdr:=(Mod.refl (λ_=>False) w5).drew
  have v6:=v5.md0 mdr
  have n6:=n5.mod mdr id
  have b6:SdB w5.drew p x:=mdr.hpk b5 id
  have M6:Mod (λy=>y=mn) W w5.drew:=m5.trans (mdr.mono λ_ _ h=>h.elim)
  generalize w5.drew=w6 at mdr v6 n6 b6 M6⊢
  simp only[vptr,nilK_ptr]
  refine rdPS (λW=>fldV 3 (by omega) W) (rdWS (ld3 _ v6.blk) ?_)
  refine rdPS (λW=>(sdBF p W).1) (rdWS (sdB0 b6) ?_)
  refine rdPS (λW=>fldV 3 (by omega) W) (rdWS (ld3 _ v6.blk) ?_)
  refine rdPS (λW=>(sdBF p W).1) (rdWS (sdB0 b6) ?_)
  refine rdX_of (lookBd v6.mbd x.1) ?_
  refine rdPS (λW=>(sdBF p W).2) (rdWS (sdB1 b6) ?_)
  refine litOd λw7 g hg l7 m7=>?_
  have v7:=v6.md0 m7
  have b7:SdB w7 p x:=m7.hpk b6 id
  refine⟨lookBd v7.mbd x.1,sdB0 b7,ld3 _ v7.blk,sdB0 b7,ld3 _ v7.blk,?_⟩
  refine appOd (v7.bd x.1) l7 (by omega) λs' w8 o8 m8 n8=>?_
  have m8' :Mod (fp' (.bd x.1)) w7 w8:=m8.mono λy _ hy=>(v7.fbd x.1 y).2 hy
  have hpn:¬fp' (.bd x.1) p:=λhc=>by have:=hW.ven.lt hc;omega
  have b8:SdB w8 p x:=m8'.hpk b7 hpn
  have blk8:=m8'.hpk v7.blk (v7.ap (by simp) _ v7.self)
  refine⟨sdB0 b8,ld3 _ blk8,?_⟩
  have mbd8:=v7.mbd.mod m8' (v7.ap (by simp) _ ((v7.fmd md).2 rfl))
  refine rux_mapUp (enc:=encU) (ev:=idV) (x:=x.1) (v:=s') uMapD kU32 mbd8 λw9 a9 m9 hs9=>?_
  have hmdF:fp' .md md:=(v7.fmd md).2 rfl
  have v9:=v7.setBd (n:=x.1) (alive_some hstn.alive) m8' o8 (λy hy=>(n8 y hy).imp (λh' =>(v7.fbd x.1 y).2 h') id) a9 m9
  have hnmn:¬allP fp' mn:=hW.nmn hFl (by omega)
  have n9:NumAt w9 mn (x.2.num::U):=((n6.mod m7 id).mod m8' λhc=>hnmn ⟨_,hc⟩).mod m9 λe=>hnmn ⟨_,e▸hmdF⟩
  have hnsb:¬allP fp' sb:=hW.nsb hFl hsb hsm
  have t9:StBlk w9 sb s.day s.next s.fund ss:=m9.hpk (m8'.hpk (m7.hpk (M6.hpk hW.st (by omega)) id) λhc=>hnsb ⟨_,hc⟩) λe=>hnsb ⟨_,e▸hmdF⟩
  have hM6:=M6.size
  have hM7:=m7.size
  have hwW:=hW.md.size
  have hupT:∀y,allP fp' y→allP fp y∨w.heap.size≤y:=λy hy=>(hW.up y hy).imp id λh=>by omega
  refine rvS (v:=.int .i64 ((i+1:Nat):Int)) (w' :=w9) (by simp[go_sem];rw[wrapI (by omega) (by omega)]) ?_
  refine hKN _ _ ⟨i+1,x.2.num,put D' x.1 s',x.2.num::U,{T with bd:=upd T.bd x.1 (T.bd x.1++[x.2])},updP fp' (.bd x.1) (inSl s'),by omega,rfl,?_,?_⟩ (by show s.bids.length - (((i+1:Nat):Int)).toNat<s.bids.length - ((i:Int)).toNat;omega)
  rotate_left 1
  ·refine⟨v9,n9,hW.inv.bid hstn hxf.2 (by omega),t9,λy ⟨pt,hy⟩=>?_,?_⟩
   ·by_cases hpt:pt=.bd x.1
    ·subst hpt
     rw[updP_self]at hy
     rcases n8 y hy with h' |h'
     ·exact hW.up y ⟨_,(v7.fbd x.1 y).2 h'⟩
     ·exact .inr (by omega)
    ·rw[updP_ne hpt]at hy
     exact hW.up y ⟨_,hy⟩
   ·exact(((hW.md.on M6 λy hy=>.inr (by omega)).trans (m7.mono λ_ _ h=>h.elim)).on m8' λy hy=>hupT y ⟨_,hy⟩).on m9 λy hy=>hupT y ⟨.md,hy▸hmdF⟩
  ·rw[hpcs];exact hfe
 ·obtain rfl:i=s.bids.length:=by omega
  refine rvS (v:=.bool false) (by simp[go_sem]<;>first|exact⟨rfl,rfl⟩|exact rfl) ?_
  rw[ifB_bool,if_neg Bool.false_ne_true]
  rw[List.drop_length]at hfe
  exact hK1 T D' fp' U W hfe hW
set_option maxRecDepth 10000 in
set_option maxHeartbeats 8000000 in
theorem ca_vfill(h:VenR w v c l mb md A D fp S0)(hi0:FillI S0 S0 [])(hs:StaR w ss s)(hf:s.Fit)(hlo:s.ords.length≤100000)(hlb:s.bids.length≤100000)
  (hap:∀i y,3≤i→i≤7→inRd (ss i) y→¬allP fp y)
  (hK1:∀T D' fp' w',((fillO s.ords [] S0).bind λx=>fillB s.bids none 0 x.1 x.2)=some T→VenR w' v c l mb md A D' fp' T→(∃U,FillI S0 T U)→Mod (allP fp) w w' →(∀y,allP fp' y→allP fp y∨w.heap.size≤y)→K (.bool true) w')
  (hK0:∀w',((fillO s.ords [] S0).bind λx=>fillB s.bids none 0 x.1 x.2)=none→Mod (allP fp) w w' →K (.bool false) w'):Ca Tryz.prog 50 #[vptr v,staV s ss] w K:=by
 have hssl:=hs.sl
 have hFl:∀y,allP fp y→y<w.heap.size:=λy ⟨p,hy⟩=>h.lt hy
 apply ca50
 unfold F50
 obtain⟨w1,e1,b1,m1⟩:=boxStI s.day s.next s.fund ss w
 obtain⟨sb,hsb⟩:∃p,p=w.heap.size:=⟨_,rfl⟩
 rw[←hsb]at e1 b1
 refine rvS e1 ?_
 obtain⟨mn,hmn⟩:∃p,p=w1.heap.size:=⟨_,rfl⟩
 have hsm:sb<mn:=by have:=lt_of_heap b1;omega
 have m2:Mod (λ_=>False) w1 (w1.alloc (.map #[] 0)):=(Mod.refl _ w1).alloc _
 have N2:NumAt (w1.alloc (.map #[] 0)) mn []:=by rw[hmn];exact NumAt.new w1
 refine rvS (v:=.map (some mn)) (w' :=w1.alloc (.map #[] 0)) (by rw[hmn];simp[go_sem]) ?_
 generalize w1.alloc (.map #[] 0)=w2 at m2 N2⊢
 have M2:=m1.trans m2
 have b2:StBlk w2 sb s.day s.next s.fund ss:=m2.hpk b1 id
 have f2:FillW w v c l mb md mn sb A fp S0 ss s w2 D [] S0 fp:=⟨h.md0 M2,N2,hi0,b2,λy hy=>.inl hy,M2.mono λ_ _ h=>h.elim⟩
 refine rvS (stFl sb 6 (by omega) _) (rvS (stLd6 b2 hssl).1 ?_)
 obtain⟨oa,oc,ho6⟩:=hs.ords.isSl
 refine rnS (v:=.int .i64 (s.ords.length:Int)) (w' :=w2) (by rw[ho6];simp[go_sem]) ?_
 refine loopV (λst W=>∃(i:Nat) (U:List Int) (T:Ven) (fp' :Pt→Nat→Prop),i≤s.ords.length∧st=(.bool false,.int .i64 i,())∧fillO s.ords [] S0=fillO (s.ords.drop i) U T∧FillW w v c l mb md mn sb A fp S0 ss s W D U T fp')
  (λst _=>match st.2.1 with| .int _ i=>s.ords.length - i.toNat|_=>0) ⟨0,[],S0,fp,by omega,rfl,rfl,f2⟩ ?_
 rintro _ W ⟨i,U,T,fp',hi,rfl,hfe,hW⟩ KN hKN
 unfold L50_6
 intro _
 by_cases hlt:i<s.ords.length
 ·have hlt' :(i:Int)<(s.ords.length:Int):=by omega
  refine rvS (v:=.bool true) (by simp[go_sem,hlt']<;>first|exact⟨rfl,rfl⟩|exact rfl) ?_
  rw[ifB_bool,if_pos rfl]
  have hR:Rd W 6 (ss 6) s.ords.length (s.ords.flatMap sdOC):=hs.ords.mod hW.md λy hy=>hap 6 y (by omega) (by omega) hy
  obtain⟨eb,eo,ei,hA⟩:=sdIt hR hlt
  have hxf:=hf.ords s.ords[i] (List.getElem_mem hlt)
  rw[List.drop_eq_getElem_cons hlt]at hfe
  obtain⟨x,hx⟩:∃x,x=s.ords[i]:=⟨_,rfl⟩
  rw[←hx]at hA hfe hxf
  refine rvS (ei W _) (rvS (sdLdAt hA) ?_)
  obtain⟨w1',w3,e1',e3,b3,m3⟩:=sdVarF x W
  obtain⟨p,hp0⟩:∃p,p=W.heap.size:=⟨_,rfl⟩
  rw[←hp0]at e1' e3 b3
  refine rvS e1' (ruS e3 ?_)
  have h3:=hW.md0 m3
  obtain⟨X,hX⟩:∃X,X=bkPlace (T.bk x.1) x.2 4:=⟨_,rfl⟩
  rw[fillO_cons]at hfe
  rw[←hX]at hfe
  refine rvS (sdLdAt (At.all b3)) ?_
  have hnmn:¬allP fp' mn:=hW.nmn hFl (by omega)
  have hnsb:¬allP fp' sb:=hW.nsb hFl (by omega) hsm
  have hnum:mn<W.heap.size:=hW.num.lt
  refine ca_vstands h3.ven h3.num hnmn (λhst w4 v4 n4 m4=>?_) λhst w4 m4=>?_
  rotate_left
  ·refine rvS (v:=.bool true) (w' :=w4) (by simp[go_sem]) ?_
   rw[ifB_bool,if_pos rfl]
   rw[if_pos hst]at hfe
   exact hK0 w4 (by rw[hfe];rfl) (h3.md.trans (m4.mono λ_ _ h=>h.elim))
  refine rvS (v:=.bool false) (w' :=w4) (by simp[go_sem]) ?_
  rw[ifB_bool,if_neg Bool.false_ne_true]
  rw[if_neg (by rw[hst];simp)]at hfe
  have hstn:=stnd_ok hst
  have b4:SdB w4 p x:=m4.hpk b3 (by omega)
  have M4:Mod (λy=>y=mn) W w4:=(m3.mono λ_ _ h=>h.elim).trans m4
  obtain⟨b,hb,-⟩:=lkB v4 (n:=x.1) (alive_some hstn.alive)
  refine JoinW.at (λst W' =>∃r sT sG G,st=(.pointer (some ⟨r,0,none⟩),.int .i64 X.1,())∧hp W' r=some (.cells (plC sT sG X.2.2.filled X.2.2.left) 235 (0,0))∧VenR W' v c l mb md A D (updP fp' (.bk x.1) G) {T with bk:=upd T.bk x.1 X.2.1}∧(∃a n c,sT=.slice a n c)∧(∃a c,sG=.slice a X.2.2.gone.length c)∧
   Mod (fp' (.bk x.1)) w4 W' ∧(∀y,G y→fp' (.bk x.1) y∨w4.heap.size≤y)) ?_ ?_
  ·have mdr:=(Mod.refl (λ_=>False) w4).drew
   have v6:=v4.md0 mdr
   have b6:SdB w4.drew p x:=mdr.hpk b4 id
   have hs6:w4.drew.heap.size=w4.heap.size:=rfl
   rw[←hs6]
   have md' :Mod (fp' (.bk x.1)) w4 w4.drew:=mdr.mono λ_ _ h=>h.elim
   generalize w4.drew=w6 at mdr v6 b6 md' hs6⊢
   have hB:=v6.bk x.1 b hb
   simp only[vptr,nilK_ptr]
   refine rdPS (λW=>fldV 2 (by omega) W) (rdWS (ld2 _ v6.blk) ?_)
   refine rdPS (λW=>(sdBF p W).1) (rdWS (sdB0 b6) ?_)
   refine rdX_of (lookBk v6.mbk hb) ?_
   refine rdPS (λW=>(sdBF p W).2) (rdWS (sdB1 b6) ?_)
   refine⟨?_,?_⟩
   ·refine ca_placeQ hB hxf.2 ⟨by omega,by omega⟩ λG sT sG w7 q7 p7 m7 n7 s7=>?_
    rw[←hX]at q7 p7⊢
    refine rdPS (v:=.agg (plC sT sG X.2.2.filled X.2.2.left)) (λ_=>by simp[go_sem]) ?_
    refine rdPS (v:=.int .i64 X.1) (λ_=>by simp[go_sem]) ?_
    obtain⟨w8,e8,b8,m8⟩:=allocPl w7
    refine rvS e8 ?_
    obtain⟨r,hr0⟩:∃r,r=w7.heap.size:=⟨_,rfl⟩
    rw[←hr0]at b8⊢
    obtain⟨ta,tc,hsT,-⟩:=p7.tr.isSl
    obtain⟨ga,gc,hsG,-⟩:=p7.go.isSl
    obtain⟨w9,e9,b9,m9⟩:=storePl sT sG X.2.2.filled X.2.2.left b8 ⟨_,_,_,hsT⟩ ⟨_,_,_,hsG⟩
    refine ruS e9 ?_
    have M79:Mod (λ_=>False) w7 w9:=m8.on m9 λb hb=>.inr (by omega)
    exact⟨r,sT,sG,G,rfl,b9,(v6.setBk hb m7 q7 n7).md0 M79,⟨_,_,_,hsT⟩,⟨_,_,hsG⟩,(md'.trans m7).trans (M79.mono λ_ _ h=>h.elim),n7⟩
   ·obtain⟨w7,e7,b7,m7⟩:=allocPl w6
    refine rvS e7 ?_
    obtain⟨r,hr0⟩:∃r,r=w6.heap.size:=⟨_,rfl⟩
    rw[←hr0]at b7⊢
    have v7:=v6.md0 m7
    have b7' :SdB w7 p x:=m7.hpk b6 id
    refine⟨sdB1 b7',lookBk v7.mbk hb,sdB0 b7',ld2 _ v7.blk,?_⟩
    have hs67:=m7.size
    have hrl:r<w7.heap.size:=lt_of_heap b7
    refine ca_placeQ (v7.bk x.1 b hb) hxf.2 ⟨by omega,by omega⟩ λG sT sG w8 q8 p8 m8 n8 s8=>?_
    rw[←hX]at q8 p8⊢
    refine rdPS (v:=.agg (plC sT sG X.2.2.filled X.2.2.left)) (λ_=>by simp[go_sem]) ?_
    refine rdPS (v:=.int .i64 X.1) (λ_=>by simp[go_sem]) ?_
    obtain⟨ta,tc,hsT,-⟩:=p8.tr.isSl
    obtain⟨ga,gc,hsG,-⟩:=p8.go.isSl
    have hrF:∀pt,¬fp' pt r:=λpt hc=>by have:=v6.lt hc;omega
    obtain⟨w9,e9,b9,m9⟩:=storePl sT sG X.2.2.filled X.2.2.left (m8.hpk b7 (hrF _)) ⟨_,_,_,hsT⟩ ⟨_,_,_,hsG⟩
    refine ruS e9 ?_
    have v8:=v7.setBk hb m8 q8 n8
    refine⟨r,sT,sG,G,rfl,b9,v8.mod m9 λpt y hy e=>?_,⟨_,_,_,hsT⟩,⟨_,_,hsG⟩,(((md'.trans (m7.mono λ_ _ h=>h.elim)).trans m8).on m9 λy hy=>.inr (by omega)),λy hy=>(n8 y hy).imp id (λh' =>by omega)⟩
    subst e
    by_cases hpt:pt=.bk x.1
    ·subst hpt
     rw[updP_self]at hy
     rcases n8 y hy with h' |h'
     ·exact hrF _ h'
     ·omega
    ·rw[updP_ne hpt]at hy;exact hrF _ hy
  rintro _ w6 ⟨r,sT,sG,G,rfl,i1,v6,iT,⟨ga,gc,hsG⟩,m6,hG⟩
  unfold J50_1
  intro _
  have hbad:(if X.1≠0∨X.2.2.gone≠ []then(none:Option (List Int×Ven))else fillO (s.ords.drop (i+1)) (x.2.num::U) {T with bk:=upd T.bk x.1 X.2.1})=fillO s.ords [] S0:=hfe.symm
  have hM4:=M4.size
  have hupT:∀y,allP fp' y→allP fp y∨w.heap.size≤y:=λy hy=>(hW.up y hy).imp id λh=>by have:=m1.size;omega
  have M6:Mod (allP fp) w w6:=(hW.md.on M4 λy hy=>.inr (by have:=m1.size;omega)).on m6 λy hy=>hupT y ⟨_,hy⟩
  refine JoinW.at (λst W' =>st=(.bool (decide (X.1≠0∨X.2.2.gone≠ [])),())∧W' =w6) ?_ ?_
  ·by_cases hX1:X.1≠0
   ·refine rvS (v:=.bool true) (w' :=w6) (by simp[go_sem,hX1]) ?_
    rw[ifB_bool,if_pos rfl]
    exact⟨by simp[hX1],rfl⟩
   have hX0:X.1=0:=by simpa using hX1
   refine rvS (v:=.bool false) (w' :=w6) (by simp[go_sem,hX0]) ?_
   rw[ifB_bool,if_neg Bool.false_ne_true]
   refine rvS (loadGone i1 iT ⟨_,_,_,hsG⟩).1 (rvS (loadGone i1 iT ⟨_,_,_,hsG⟩).2 ?_)
   refine rnS (v:=.int .i64 (X.2.2.gone.length:Int)) (w' :=w6) (by rw[hsG];simp[go_sem]) ?_
   refine rvS (v:=.bool (decide (X.1≠0∨X.2.2.gone≠ []))) (w' :=w6) ?_ ⟨rfl,rfl⟩
   cases hgn:X.2.2.gone with
   |nil=>simp[go_sem,hX0]
   |cons a b=>simp[go_sem,hX0]<;>omega
  rintro _ w6' ⟨rfl,hee⟩
  subst hee
  unfold J50_0
  intro _
  by_cases hc:X.1≠0∨X.2.2.gone≠ []
  ·simp only[decide_eq_true hc]
   rw[ifB_bool,if_pos rfl]
   rw[if_pos hc]at hbad
   exact hK0 _ (by rw[←hbad];rfl) M6
  simp only[decide_eq_false hc]
  rw[ifB_bool,if_neg Bool.false_ne_true]
  rw[if_neg hc]at hbad
  refine rvS (v:=.int .i64 ((i+1:Nat):Int)) (w' :=w6') (by simp[go_sem];rw[wrapI (by omega) (by omega)]) ?_
  refine hKN _ _ ⟨i+1,x.2.num::U,{T with bk:=upd T.bk x.1 X.2.1},updP fp' (.bk x.1) G,by omega,rfl,hbad.symm,?_⟩ (by show s.ords.length - (((i+1:Nat):Int)).toNat<s.ords.length - ((i:Int)).toNat;omega)
  have hinv:=hW.inv.order hstn hxf.2 (Classical.byContradiction λhcc=>hc (.inl (by rw[hX];exact hcc)))
  rw[←hX]at hinv
  refine⟨v6,n4.mod m6 λhcc=>hnmn ⟨_,hcc⟩,hinv,m6.hpk (M4.hpk hW.st (by omega)) λhcc=>hnsb ⟨_,hcc⟩,λy ⟨pt,hy⟩=>?_,M6⟩
  by_cases hpt:pt=.bk x.1
  ·subst hpt
   rw[updP_self]at hy
   rcases hG y hy with h' |h'
   ·exact hW.up y ⟨_,h'⟩
   ·exact .inr (by omega)
  ·rw[updP_ne hpt]at hy
   exact hW.up y ⟨_,hy⟩
 ·obtain rfl:i=s.ords.length:=by omega
  refine rvS (v:=.bool false) (by simp[go_sem]<;>first|exact⟨rfl,rfl⟩|exact rfl) ?_
  rw[ifB_bool,if_neg Bool.false_ne_true]
  rw[List.drop_length]at hfe
  have hfo:fillO s.ords [] S0=some (U,T):=hfe
  refine rvS (stFl sb 7 (by omega) _) (rvS (stLd6 hW.st hssl).2 ?_)
  obtain⟨ba,bc,hb7⟩:=hs.bids.isSl
  refine rnS (v:=.int .i64 (s.bids.length:Int)) (w' :=W) (by rw[hb7];simp[go_sem]) ?_
  have hbind:((fillO s.ords [] S0).bind λx=>fillB s.bids none 0 x.1 x.2)=fillB s.bids none 0 U T:=by rw[hfo];rfl
  rw[hbind]at hK1 hK0
  refine ca_vfillB hFl hs hf hlb (by omega) hsm hap hW (λT' D' fp'' U' w' e hw=>?_) hK0
  exact hK1 T' D' fp'' w' e hw.ven ⟨U',hw.inv⟩ hw.md λy hy=>(hw.up y hy).imp id λh=>by have:=m1.size;omega
end
end Go.Proofs
namespace Go.Proofs
open Go Go.Vc
attribute [local congr] Ca_congV
theorem wr_add1{i:Nat}(h:i<4294967296):IntKind.i64.wrap ((i:Int)+1)=((i+1:Nat):Int):=by rw[IntKind.wrap_i64];omega
theorem lfAc{w:World}{s:Value}{l:List Ac}(h:Rd w 4 s l.length (l.flatMap cellsAc)){i:Nat}(hi:i<l.length):
  ∃b off cap C e fz,s=.slice (some ⟨b,off,none⟩) l.length cap∧hp w b=some (.cells C e fz)∧C[off+i*4]? =some (.int .u32 l[i].num)∧C[off+(i*4+1)]? =some (.int .i64 l[i].cash)∧C[off+(i*4+2)]? =some (.bool l[i].kil)∧C[off+(i*4+3)]? =some (.bool l[i].dfl):=by
 obtain⟨b,off,cap,e,-,hA⟩:=h.item (show∀x,(cellsAc x).length=4 from λ_=>rfl) hi rfl
 obtain⟨C,e',fz,hC,hCg⟩:=hA.get
 refine⟨b,off,cap,C,e',fz,e,hC,hCg 0 _ rfl,?_,?_,?_⟩
 ·have:=hCg 1 _ rfl;rwa[Nat.add_assoc]at this
 ·have:=hCg 2 _ rfl;rwa[Nat.add_assoc]at this
 ·have:=hCg 3 _ rfl;rwa[Nat.add_assoc]at this
theorem lfPo{w:World}{s:Value}{l:List Po}(h:Rd w 4 s l.length (l.flatMap cellsPo)){i:Nat}(hi:i<l.length):
  ∃b off cap C e fz,s=.slice (some ⟨b,off,none⟩) l.length cap∧hp w b=some (.cells C e fz)∧C[off+i*4]? =some (.int .u32 l[i].c)∧C[off+(i*4+1)]? =some (.int .u32 l[i].a)∧C[off+(i*4+2)]? =some (.int .i64 l[i].q)∧C[off+(i*4+3)]? =some (.int .i64 l[i].b):=by
 obtain⟨b,off,cap,e,-,hA⟩:=h.item (show∀x,(cellsPo x).length=4 from λ_=>rfl) hi rfl
 obtain⟨C,e',fz,hC,hCg⟩:=hA.get
 refine⟨b,off,cap,C,e',fz,e,hC,hCg 0 _ rfl,?_,?_,?_⟩
 ·have:=hCg 1 _ rfl;rwa[Nat.add_assoc]at this
 ·have:=hCg 2 _ rfl;rwa[Nat.add_assoc]at this
 ·have:=hCg 3 _ rfl;rwa[Nat.add_assoc]at this
theorem rv_ok' {P:Program}{s:Sem Value}{w:World}{K:Kont}{v:Value}{w' :World}(h:s.run P w=.ok v w')(hK:K v w'):rv P s w K:=by
 rw[rv_iff];unfold rvD;rw[h];exact hK
theorem take_snoc{α:Type}{A:List α}{i:Nat}(hi:i<A.length):A.take (i+1)=A.take i++[A[i]]:=by
 rw[List.take_add_one,List.getElem?_eq_getElem hi];rfl
theorem takeA_sum{A:List Ac}{i:Nat}(hi:i<A.length):((A.take (i+1)).map (·.cash)).sum=((A.take i).map (·.cash)).sum+A[i].cash:=by
 rw[take_snoc hi,List.map_append,List.sum_append];simp
theorem PA.sum{A:List Ac}(h:PA A)(hl:A.length≤64):0≤(A.map (·.cash)).sum∧(A.map (·.cash)).sum≤64000000000000000:=by
 have h1:=sum_bd2 (l:=A.map (·.cash)) (B:=1000000000000000) λx hx=>by
  obtain⟨a,ha,rfl⟩:=List.mem_map.1 hx
  have:=amongB_iff'.1 (h.num a ha).2
  simp only[MF]at this;omega
 rw[List.length_map]at h1
 have h0:0≤(A.map (·.cash)).sum:=by
  clear h1 hl
  have:∀x∈A.map (·.cash),0≤x:=λx hx=>by
   obtain⟨a,ha,rfl⟩:=List.mem_map.1 hx
   exact(amongB_iff'.1 (h.num a ha).2).1
  generalize A.map (·.cash)=l at this
  induction l with
  |nil=>simp
  |cons x l ih=>
   have h1:=this x List.mem_cons_self
   have h2:=ih λy hy=>this y (List.mem_cons_of_mem _ hy)
   rw[List.sum_cons];omega
 omega
set_option maxRecDepth 10000 in
set_option maxHeartbeats 1000000 in
theorem ca_people{w:World}{f:Int}{v:Value}{A:List Ac}{K:Kont}(hA:Rd w 4 v A.length (A.flatMap cellsAc))(hn:A.length<4294967296)
  (hK:∀b w',Mod (λ_=>False) w w' →(b=true↔A.length≤64∧amongB f 0 MF=true∧PA A∧f+(A.map (·.cash)).sum≤MF)→K (.bool b) w'):
  Ca Tryz.prog 129 #[.int .i64 f,v] w K:=by
 obtain⟨va,vc,rfl⟩:=hA.isSl
 apply ca129
 unfold F129
 refine JoinW.at (λs W=>s=(.bool (decide (64<A.length)|| !amongB f 0 MF),())∧W=w) ?_ ?_
 ·by_cases hl:64<A.length
  ·have hl' :(64:Int)<(A.length:Int):=by omega
   simp[go_sem,hl,hl']
  ·have hl' :¬(64:Int)<(A.length:Int):=by omega
   simp[go_sem,hl,hl']
   refine ca_within ?_
   simp[go_sem,MF]
 rintro _ w' ⟨rfl,rfl⟩
 unfold J129_2
 intro _
 by_cases hbad:(decide (64<A.length)|| !amongB f 0 MF)=true
 ·rw[hbad]
  simp only[ifB_bool,if_true]
  refine hK false _ (Mod.refl _ _) ⟨λh=>(by cases h),λh=>?_⟩
  obtain⟨h1,h2,-,-⟩:=h
  rw[h2]at hbad
  simp at hbad;omega
 rw[Bool.eq_false_iff.2 hbad]
 simp only[ifB_bool,Bool.false_eq_true,if_false]
 have hl:A.length≤64:=by
  apply Classical.byContradiction;intro h;apply hbad;simp;left;omega
 have hf:amongB f 0 MF=true:=by
  cases hh:amongB f 0 MF with
  |true=>rfl
  |false=>exact absurd (by rw[hh];simp) hbad
 have hfb:=amongB_iff'.1 hf
 simp only[MF]at hfb
 clear hbad
 simp[go_sem]
 refine loopK (λs W=>∃(i:Nat) (last:Int) (x:Value),i≤A.length∧s=(.int .i64 (f+((A.take i).map (·.cash)).sum),x,.int .u32 last,.int .i64 i,())∧AInv (A.take i) last∧Mod (λ_=>False) w' W)
  (λs _=>match s.2.2.2.1 with| .int _ i=>A.length - i.toNat|_=>0) ⟨0,0,.bool false,by omega,by simp,AInv.nil,Mod.refl _ _⟩ ?_
 rintro⟨_,_⟩ W ⟨i,last,x,hi,⟨⟩,hinv,mW⟩ KN hKN
 unfold L129_1
 intro _
 by_cases hlt:i<A.length
 ·obtain⟨b,off,cap,C,e',fz,e,hC,c0,c1,c2,c3⟩:=lfAc (hA.mod mW λ_ _ h=>h) hlt
  cases e
  have hw:=wr_add1 (i:=i) (by omega)
  refine rv_ok' (v:=.bool true) (w' :=W) (by simp[go_sem,hlt]) ?_
  rw[ifB_bool,if_pos rfl]
  simp[-Int.natCast_add,go_sem,hlt,hC,c0,c1,c2,c3]
  generalize hw1:W.alloc _=W1
  have mw1:Mod (λ_=>False) W W1:=by subst hw1;exact(Mod.refl _ W).alloc _
  have hloc:hp W1 W.heap.size=some (.cells #[.int .u32 A[i].num,.int .i64 A[i].cash,.bool A[i].kil,.bool A[i].dfl] 92 (0,0)):=by subst hw1;simp[go_sem]
  refine JoinW.at (λs W' =>s=(.bool (decide (A[i].num≤last)|| !amongB A[i].cash 0 MF),())∧W' =W1) ?_ ?_
  ·by_cases h1:A[i].num≤last
   ·simp[go_sem,hp_of hloc,h1]
   ·simp[go_sem,hp_of hloc,h1]
    refine ca_within ?_
    simp[go_sem,MF]
  rintro _ _ ⟨rfl,rfl⟩
  unfold J129_0
  intro _
  by_cases hbad:(decide (A[i].num≤last)|| !amongB A[i].cash 0 MF)=true
  ·rw[hbad]
   simp only[ifB_bool,if_true]
   refine hK false _ (mW.trans mw1) ⟨λh=>(by cases h),λh=>?_⟩
   refine absurd h.2.2.1 (AInv.bad hlt hinv ?_)
   rw[Bool.or_eq_true,decide_eq_true_eq]at hbad
   rcases hbad with h|h
   ·exact .inl h
   ·exact .inr (by simpa using h)
  ·rw[Bool.eq_false_iff.2 hbad]
   have h1:last<A[i].num:=by
    apply Classical.byContradiction;intro h;apply hbad;simp;left;omega
   have h2:amongB A[i].cash 0 MF=true:=by
    cases hh:amongB A[i].cash 0 MF with
    |true=>rfl
    |false=>exact absurd (by rw[hh];simp) hbad
   have hinv' :=hinv.step h1 h2
   rw[←take_snoc hlt]at hinv'
   have hs:=hinv'.pa.sum (by rw[List.length_take];omega)
   have hws:IntKind.i64.wrap (f+((A.take i).map (·.cash)).sum+A[i].cash)=f+((A.take (i+1)).map (·.cash)).sum:=by
    rw[takeA_sum hlt]at hs⊢
    rw[IntKind.wrap_i64];omega
   simp only[ifB_bool,Bool.false_eq_true,if_false]
   simp[-Int.natCast_add,-List.map_take,go_sem,hp_of hloc]
   rw[←List.map_take,hws,hw]
   exact hKN _ _ ⟨i+1,_,_,by omega,rfl,hinv',mW.trans mw1⟩ (by simp;omega)
 ·obtain rfl:i=A.length:=by omega
  clear hKN
  rw[List.take_of_length_le (Nat.le_refl _)]at hinv⊢
  refine rv_ok' (v:=.bool false) (w' :=W) (by simp[go_sem]) ?_
  rw[ifB_bool,if_neg Bool.false_ne_true]
  simp[-Int.natCast_add,go_sem]
  refine hK _ _ mW ⟨λh=>⟨hl,hf,hinv.pa,?_⟩,λh=>?_⟩
  ·simpa [MF]using h
  ·have:=h.2.2.2
   simpa [MF]using this
end Go.Proofs
namespace Go.Proofs
open Go Go.Vc
attribute [local congr] Ca_congV
theorem ru_ok' {P:Program}{s:Sem Unit}{w:World}{K:World→Prop}{w' :World}(h:s.run P w=.ok () w')(hK:K w'):ru P s w K:=by
 rw[ru_iff];unfold ruD;rw[h];exact hK
theorem put_new{κ ν:Type} [DecidableEq κ]{L:List (κ×ν)}{k:κ}{v:ν}(h:∀p∈L,p.1≠k):put L k v=L++[(k,v)]:=by
 induction L with
 |nil=>rfl
 |cons p L ih=>
  obtain⟨a,b⟩:=p
  have h1:a≠k:=h (a,b) List.mem_cons_self
  simp only[put,if_neg h1,List.cons_append]
  rw[ih λx hx=>h x (List.mem_cons_of_mem _ hx)]
def accL(f:Int)(A:List Ac):List (Int×Ac):=(0,fundAc f)::A.map λa=>(a.num,a)
def posL(P:List Po):List ((Int×Int)×Po):=P.map λp=>(p.key,p)
theorem accL_step{f:Int}{A:List Ac}(h:PA A){i:Nat}(hi:i<A.length):put (accL f (A.take i)) A[i].num A[i]=accL f (A.take (i+1)):=by
 rw[put_new,take_snoc hi]
 ·simp only[accL,List.map_append,List.cons_append,List.map_cons,List.map_nil]
 ·intro p hp
  rcases List.mem_cons.1 hp with rfl|hp
  ·have:=(h.num A[i] (List.getElem_mem hi)).1
   simp only;omega
  ·obtain⟨a,ha,rfl⟩:=List.mem_map.1 hp
   have:a.num<A[i].num:=pw_take h.srt hi ha
   simp only;omega
theorem posL_step{P:List Po}{i:Nat}(hi:i<P.length){lc la q b:Int}(h:PInv (P.take i) lc la q b)(hk:klt (lc,la) P[i].key=true):put (posL (P.take i)) P[i].key P[i]=posL (P.take (i+1)):=by
 rw[put_new,take_snoc hi]
 ·simp only[posL,List.map_append,List.map_cons,List.map_nil]
 ·intro p hp
  obtain⟨a,ha,rfl⟩:=List.mem_map.1 hp
  exact klt_ne (klt_of_le (h.top a ha) hk)
structure FrQ(w W:World)(l m1 m2:Nat)(LA:List (Int×Ac))(LB:List ((Int×Int)×Po)):Prop where
 mod:Mod (λ_=>False) w W
 h1:hp W l=some (.cells #[.map (some m1),.map (some m2)] 201 (0,0))
 a:MapAt encU acV W m1 LA
 b:MapAt encKey poV W m2 LB
theorem FrQ.on{w W W' :World}{l m1 m2:Nat}{LA:List (Int×Ac)}{LB:List ((Int×Int)×Po)}(h:FrQ w W l m1 m2 LA LB)(m:Mod (λ_=>False) W W'):FrQ w W' l m1 m2 LA LB:=
 ⟨h.mod.trans m,m.keep h.h1 id,h.a.mod m id,h.b.mod m id⟩
theorem FrQ.upA{w W W' :World}{l m1 m2:Nat}{LA LA' :List (Int×Ac)}{LB:List ((Int×Int)×Po)}(h:FrQ w W l m1 m2 LA LB)(hd:l≠m1∧l≠m2∧m1≠m2)(hw:w.heap.size≤m1)(m:Mod (λb=>b=m1) W W')(ha:MapAt encU acV W' m1 LA'):FrQ w W' l m1 m2 LA' LB:=
 ⟨h.mod.on m λb hb=>.inr (by omega),m.keep h.h1 hd.1,ha,h.b.mod m hd.2.2.symm⟩
theorem FrQ.upB{w W W' :World}{l m1 m2:Nat}{LA:List (Int×Ac)}{LB LB' :List ((Int×Int)×Po)}(h:FrQ w W l m1 m2 LA LB)(hd:l≠m1∧l≠m2∧m1≠m2)(hw:w.heap.size≤m2)(m:Mod (λb=>b=m2) W W')(hb:MapAt encKey poV W' m2 LB'):FrQ w W' l m1 m2 LA LB' :=
 ⟨h.mod.on m λb hb=>.inr (by omega),m.keep h.h1 hd.2.1,h.a.mod m hd.2.2,hb⟩
theorem there_iff{f:Int}{A:List Ac}{n:Int}(hn:n≠0):(lk (accL f A) n).isSome=true↔∃x∈A,x.num=n:=by
 have:lk (accL f A) n=A.find? λx=>decide (x.num=n):=by
  rw[←lk_mapA]
  simp only[accL,lk,if_neg (Ne.symm hn)]
 rw[this,List.find?_isSome]
 simp
set_option maxRecDepth 10000 in
set_option maxHeartbeats 2000000 in
theorem ca_from{w:World}{f:Int}{va vp:Value}{A:List Ac}{P:List Po}{K:Kont}(hA:Rd w 4 va A.length (A.flatMap cellsAc))(hP:Rd w 4 vp P.length (P.flatMap cellsPo))(hn:A.length<4294967296)(hl:P.length≤1024)
  (uA:∀a∈A,0≤a.num∧a.num<4294967296)(uP:∀p∈P,((0≤p.c∧p.c<4294967296)∧(0≤p.a∧p.a<4294967296))∧(-9223372036854775808≤p.q∧p.q<9223372036854775808)∧(-9223372036854775808≤p.b∧p.b<9223372036854775808))
  (hok:FromOk f A P→∀w' l F,LedQ w' l F ⟨f,A,P⟩→Mod (λ_=>False) w w' →(∀b,F b→w.heap.size≤b)→K (.tuple #[lptr l,.int .i64 0]) w')
  (hno:¬FromOk f A P→∀w',Mod (λ_=>False) w w' →K (.tuple #[.pointer none,.int .i64 2]) w'):
  Ca Tryz.prog 46 #[.int .i64 f,va,vp] w K:=by
 obtain⟨aA,cA,rfl⟩:=hA.isSl
 obtain⟨aP,cP,rfl⟩:=hP.isSl
 apply ca46
 unfold F46
 refine ca_people hA hn λb w1 mo1 hb=>?_
 cases b with
 |false=>
  refine rv_ok' (v:=.bool true) (w' :=w1) (by simp[go_sem]) ?_
  rw[ifB_bool,if_pos rfl]
  exact hno (λh=>by have:=hb.2 ⟨h.len,h.fund,h.pa,h.tot⟩;cases this) _ mo1
 |true=>
  obtain⟨h64,hf,hpa,htot⟩:=hb.1 rfl
  refine rv_ok' (v:=.bool false) (w' :=w1) (by simp[go_sem]) ?_
  rw[ifB_bool,if_neg Bool.false_ne_true]
  refine ca_new λw2 l F q2 mo2 f2=>?_
  obtain⟨⟨m1,m2,A0,B0,h1,h2,h3,h4,h5,h6,h7⟩,-⟩:=q2
  obtain rfl:B0=[]:=List.Perm.eq_nil h5
  have hl0:=f2 l ((h6 l).2 (.inl rfl))
  have hm10:=f2 m1 ((h6 m1).2 (.inr (.inl rfl)))
  have hm20:=f2 m2 ((h6 m2).2 (.inr (.inr rfl)))
  have hs1:=mo1.size
  have fr0:FrQ w w2 l m1 m2 A0 []:=⟨mo1.trans mo2,h1,h2,h3⟩
  obtain rfl:A0=[(0,fundAc 0)]:=List.perm_singleton.1 h4
  simp[go_sem,lptr,hp_of h1]
  refine rux_mapUp (enc:=encU) (ev:=acV) (x:=0) (v:=fundAc f) uMapA kU32 h2 λw3 hA3 mo3 hs3=>?_
  have fr3:FrQ w w3 l m1 m2 (accL f []) []:=fr0.upA h7 (by omega) mo3 hA3
  (try simp[go_sem])
  refine loopK (λs W=>∃i:Nat,i≤A.length∧s=(.int .i64 i,())∧FrQ w W l m1 m2 (accL f (A.take i)) [])
   (λs _=>match s.1 with| .int _ i=>A.length - i.toNat|_=>0) ⟨0,by omega,rfl,fr3⟩ ?_
  rintro⟨_,_⟩ W ⟨i,hi,⟨⟩,fr⟩ KN hKN
  unfold L46_7
  intro _
  by_cases hlt:i<A.length
  ·obtain⟨b,off,cap,C,e',fz,e,hC,c0,c1,c2,c3⟩:=lfAc (hA.mod fr.mod λ_ _ h=>h) hlt
   cases e
   have hw:=wr_add1 (i:=i) (by omega)
   refine rv_ok' (v:=.bool true) (w' :=W) (by simp[go_sem,hlt]) ?_
   rw[ifB_bool,if_pos rfl]
   refine rv_ok' (by simp[-Int.natCast_add,go_sem,hlt];first|exact⟨rfl,rfl⟩|exact rfl) ?_
   refine rv_ok' (by simp[-Int.natCast_add,go_sem,hlt,hC,c0,c1,c2,c3];first|exact⟨rfl,rfl⟩|exact rfl) ?_
   refine rv_ok' (by simp[go_sem];first|exact⟨rfl,rfl⟩|exact rfl) ?_
   refine ru_ok' (by simp[-Int.natCast_add,go_sem];first|exact⟨rfl,rfl⟩|exact rfl) ?_
   have hlm:=lt_of_heap fr.h1
   generalize hW1:W.alloc _=W1
   have mw1:Mod (λ_=>False) W W1:=by subst hW1;exact(Mod.refl _ W).alloc _
   have hloc:hp W1 W.heap.size=some (.cells #[.int .u32 A[i].num,.int .i64 A[i].cash,.bool A[i].kil,.bool A[i].dfl] 92 (0,0)):=by subst hW1;simp[go_sem]
   have fr1:=fr.on (mw1.trans (Mod.refl _ W1).drew)
   simp[-Int.natCast_add,go_sem,lptr,hp_of hloc,hp_of (mw1.keep fr.h1 id)]
   refine rux_mapUp (enc:=encU) (ev:=acV) (x:=A[i].num) (v:=A[i]) uMapA kU32 fr1.a λW2 hA2 mo hs=>?_
   rw[accL_step hpa hlt]at hA2
   simp[-Int.natCast_add,go_sem,hw]
   exact hKN _ _ ⟨i+1,by omega,rfl,fr1.upA h7 (by omega) mo hA2⟩ (by simp;omega)
  ·obtain rfl:i=A.length:=by omega
   clear hKN
   rw[List.take_of_length_le (Nat.le_refl _)]at fr
   refine rv_ok' (v:=.bool false) (w' :=W) (by simp[go_sem]) ?_
   rw[ifB_bool,if_neg Bool.false_ne_true]
   obtain⟨nk,hnk⟩:∃nk,nk=W.heap.size:=⟨_,rfl⟩
   refine rv_ok' (by simp[go_sem];first|exact⟨rfl,rfl⟩|exact rfl) ?_
   rw[←hnk]
   generalize hW1:W.alloc _=W1
   have mw1:Mod (λ_=>False) W W1:=by subst hW1;exact(Mod.refl _ W).alloc _
   have gk:hp W1 nk=some (.cells #[.int .u32 0,.int .u32 0] 224 (0,0)):=by subst hW1 hnk;simp[go_sem]
   have fr1:=fr.on mw1
   have hkl:l<nk∧m1<nk∧m2<nk∧w.heap.size≤nk:=by
    have:=lt_of_heap fr.h1
    have:=fr.a.lt
    have:=fr.b.lt
    have:=fr.mod.size
    omega
   simp[go_sem]
   refine loopK (λs W=>∃(i:Nat) (lc la q b:Int) (x1 x2:Value),i≤P.length∧s=(x1,x2,.int .i64 q,.int .i64 b,.int .i64 i,())∧PInv (P.take i) lc la q b∧(∀p∈P.take i,GoodP A p)∧hp W nk=some (.cells #[.int .u32 lc,.int .u32 la] 224 (0,0))∧FrQ w W l m1 m2 (accL f A) (posL (P.take i)))
    (λs _=>match s.2.2.2.2.1 with| .int _ i=>P.length - i.toNat|_=>0) ⟨0,0,0,0,0,_,_,by omega,rfl,PInv.nil,by simp,gk,fr1⟩ ?_
   clear hW1 gk fr1 mw1 fr
   rintro⟨y1,_⟩ W ⟨i,lc,la,q,b,x1,x2,hi,⟨⟩,hinv,hgood,gk,fr⟩ KN hKN
   have hbd:=sum_bdQ hgood (by rw[List.length_take];omega) lc
   rw[←hinv.q,←hinv.b]at hbd
   unfold L46_6
   intro _
   by_cases hlt:i<P.length
   ·obtain⟨b0,off,cap,C,e',fz,e,hC,c0,c1,c2,c3⟩:=lfPo (hP.mod fr.mod λ_ _ h=>h) hlt
    cases e
    have hmem:P[i]∈P:=List.getElem_mem hlt
    have hu:=uP P[i] hmem
    have hw:=wr_add1 (i:=i) (by omega)
    have htk:=take_snoc hlt
    have hbs:= @PInv.bad_sum P i hlt lc la q b hinv
    have hbk:= @PInv.bad_key A P i hlt lc la q b hinv ⟨hu.1.1.1,hu.1.2.1⟩
    have hstep:= @PInv.step _ lc la q b hinv P[i]
    have hposl:=λh=> @posL_step P i hlt lc la q b hinv h
    rw[←htk]at hstep
    obtain⟨np,hnp⟩:∃np,np=W.heap.size:=⟨_,rfl⟩
    have lnk:=lt_of_heap gk
    have hgd:FromOk f A P→GoodP A P[i]:=λh=>h.good _ hmem
    have hpk:P[i].key=(P[i].c,P[i].a):=rfl
    rw[hpk]at hposl hbk hstep
    refine rv_ok' (v:=.bool true) (w' :=W) (by simp[go_sem,hlt]) ?_
    rw[ifB_bool,if_pos rfl]
    refine rv_ok' (by simp[-Int.natCast_add,go_sem,hlt];first|exact⟨rfl,rfl⟩|exact rfl) ?_
    refine rv_ok' (by simp[-Int.natCast_add,go_sem,hlt,hC,c0,c1,c2,c3];first|exact⟨rfl,rfl⟩|exact rfl) ?_
    refine rv_ok' (by simp[go_sem];first|exact⟨rfl,rfl⟩|exact rfl) ?_
    refine ru_ok' (by simp[-Int.natCast_add,go_sem];first|exact⟨rfl,rfl⟩|exact rfl) ?_
    rw[←hnp]
    generalize hp0:P[i]=p at*
    generalize hW1:W.alloc _=W1
    have mw1:Mod (λ_=>False) W W1:=by subst hW1;exact(Mod.refl _ W).alloc _
    have g1:hp W1 np=some (.cells #[.int .u32 p.c,.int .u32 p.a,.int .i64 p.q,.int .i64 p.b] 112 (0,0)):=by subst hW1 hnp;simp[go_sem]
    refine rv_ok' (by simp[go_sem];first|exact⟨rfl,rfl⟩|exact rfl) ?_
    refine rv_ok' (by simp[go_sem,hp_of g1];first|exact⟨rfl,rfl⟩|exact rfl) ?_
    refine rv_ok' (by simp[go_sem];first|exact⟨rfl,rfl⟩|exact rfl) ?_
    refine rv_ok' (by simp[go_sem,hp_of g1];first|exact⟨rfl,rfl⟩|exact rfl) ?_
    refine rv_ok' (by simp[go_sem];first|exact⟨rfl,rfl⟩|exact rfl) ?_
    obtain⟨nq,hnq⟩:∃nq,nq=W1.heap.size:=⟨_,rfl⟩
    refine rv_ok' (by simp[go_sem];first|exact⟨rfl,rfl⟩|exact rfl) ?_
    refine ru_ok' (by simp[go_sem];first|exact⟨rfl,rfl⟩|exact rfl) ?_
    rw[←hnq]
    generalize hW2:W1.alloc _=W2
    have mw2:Mod (λ_=>False) W1 W2:=by subst hW2;exact(Mod.refl _ W1).alloc _
    have g2:=mw2.keep g1 id
    have gq:hp W2 nq=some (.cells #[.int .u32 p.c,.int .u32 p.a] 224 (0,0)):=by subst hW2 hnq;simp[go_sem]
    have gk2:=(mw1.trans mw2).keep gk id
    have fr2:=fr.on (mw1.trans mw2)
    have lnp:=lt_of_heap g1
    have lnq:=lt_of_heap gq
    refine JoinW.at (λs W' =>s=(x2,y1,())∧W' =W2∧(p.c≠lc→q=0∧b=0)) ?_ ?_
    ·by_cases hc:p.c=lc
     ·simp[go_sem,hp_of gq,hp_of gk2,hc]
     ·simp[go_sem,hp_of gq,hp_of gk2,hc]
      refine JoinW.at (λs W' =>s=(.bool (decide (q≠0∨b≠0)),())∧W' =W2) ?_ ?_
      ·by_cases hq:q=0
       ·by_cases hb:b=0
        ·simp[go_sem,hq,hb]
        ·simp[go_sem,hq,hb]
       ·simp[go_sem,hq]
      rintro _ W2 ⟨rfl,rfl⟩
      unfold J46_0
      intro _
      by_cases hqb:q≠0∨b≠0
      ·simp only[decide_eq_true hqb,ifB_bool,if_true]
       exact hno (λh=>hbs hc hqb ⟨h.srt,h.zero⟩) _ fr2.mod
      ·simp only[decide_eq_false hqb,ifB_bool,Bool.false_eq_true,if_false]
       obtain⟨e1,e2⟩:q=0∧b=0:=by omega
       simp[e1,e2]
    rintro _ W2 ⟨rfl,rfl,hsum⟩
    unfold J46_4
    intro _
    simp[go_sem,lptr,hp_of fr2.h1,hp_of g2]
    have hl:∀W',Mod (λ_=>False) W2 W' →(xLook 198 (.map (some m1)) (.int .u32 p.a) true).run Tryz.prog W' =.ok (.tuple #[acV ((lk (accL f A) p.a).getD ⟨0,0,false,false⟩),.bool (lk (accL f A) p.a).isSome]) W' :=λW' m=>by
     have:=run_look2 (P:=Tryz.prog) (enc:=encU) (ev:=acV) (x:=p.a) uMapA kU32 zAc (.inr ⟨m1,rfl,(fr2.on m).a⟩)
     rw[elim_acV]at this
     exact this
    refine rdX_look2 (enc:=encU) (ev:=acV) (x:=p.a) (acV ⟨0,0,false,false⟩) uMapA kU32 zAc (.inr ⟨m1,rfl,(fr2.on ((Mod.refl _ W2).drew)).a⟩) ?_
    rw[elim_acV]
    generalize(lk (accL f A) p.a).getD ⟨0,0,false,false⟩=xa at hl⊢
    have ne1:np≠W2.heap.size:=by omega
    have ne2:l≠W2.heap.size:=by omega
    simp[go_sem,acV,hp_of fr2.h1,hp_of g2,ne1,ne2]
    refine⟨hl _ (((Mod.refl _ W2).alloc _).drew),?_⟩
    generalize hW3:(World.alloc _ _).drew=W3
    have mw3:Mod (λ_=>False) W2 W3:=by subst hW3;exact((Mod.refl _ W2).alloc _).drew
    have g3:=mw3.keep g2 id
    have gq3:=mw3.keep gq id
    have gk3:=mw3.keep gk2 id
    have fr3:=fr2.on mw3
    have ne3:nq≠W2.heap.size:=by omega
    have ne4:nk≠W2.heap.size:=by omega
    have hv:(!klt (lc,la) (p.c,p.a))=(if p.c<lc then true else if p.c=lc then decide (p.a≤la)else false):=by
     unfold klt
     by_cases h1:p.c<lc
     ·rw[if_pos h1];simp;omega
     ·rw[if_neg h1]
      by_cases h2:p.c=lc
      ·rw[if_pos h2,Bool.eq_iff_iff];simp;omega
      ·rw[if_neg h2];simp;omega
    refine JoinW.at (λs W' =>s=(.bool (!klt (lc,la) (p.c,p.a)),())∧W' =W3) ?_ ?_
    ·rw[hv]
     by_cases h1:p.c<lc
     ·simp[go_sem,hp_of gq3,hp_of gk3,hp_of gq,hp_of gk2,ne3,ne4,h1]
     ·by_cases h2:p.c=lc
      ·simp[go_sem,hp_of gq3,hp_of gk3,hp_of gq,hp_of gk2,ne3,ne4,h1,h2]
      ·simp[go_sem,hp_of gq3,hp_of gk3,hp_of gq,hp_of gk2,ne3,ne4,h1,h2]
    clear hW3
    rintro _ W3 ⟨rfl,rfl⟩
    unfold J46_3
    intro _
    cases hk:klt (lc,la) (p.c,p.a)with
    |false=>
     simp only[Bool.not_false,ifB_bool,if_true]
     exact hno (λh=>hbk hk ⟨h.srt,h.good⟩) _ fr3.mod
    |true=>
     simp only[Bool.not_true,ifB_bool,Bool.false_eq_true,if_false]
     refine JoinW.at (λs W' =>s=(.bool (decide (p.c=0∨p.a=0∨(lk (accL f A) p.a).isSome=false∨(p.q=0∧p.b=0))),())∧W' =W3) ?_ ?_
     ·by_cases a1:p.c=0
      ·simp[go_sem,hp_of g3,a1]
      ·by_cases a2:p.a=0
       ·simp[go_sem,hp_of g3,a1,a2]
       ·cases a3:(lk (accL f A) p.a).isSome
        ·simp[go_sem,hp_of g3,a1,a2,a3]
        ·by_cases a4:p.q=0
         ·by_cases a5:p.b=0
          ·simp[go_sem,hp_of g3,a1,a2,a3,a4,a5]
          ·simp[go_sem,hp_of g3,a1,a2,a3,a4,a5]
         ·simp[go_sem,hp_of g3,a1,a2,a3,a4]
     rintro _ W3 ⟨rfl,rfl⟩
     unfold J46_2
     intro _
     by_cases hz:p.c=0∨p.a=0∨(lk (accL f A) p.a).isSome=false∨(p.q=0∧p.b=0)
     ·simp only[decide_eq_true hz,ifB_bool,if_true]
      refine hno (λh=>?_) _ fr3.mod
      have g:=hgd h
      rcases hz with hz|hz|hz|hz
      ·exact g.c hz
      ·exact g.a hz
      ·rw[(there_iff g.a).2 g.there]at hz;cases hz
      ·have:=g.some
       simp[Po.isZ,hz]at this
     simp only[decide_eq_false hz,ifB_bool,Bool.false_eq_true,if_false]
     refine JoinW.at (λs W' =>s=(.bool (!amongB p.q (-10000000) 10000000|| !amongB p.b (-1000000000000000) 1000000000000000),())∧W' =W3) ?_ ?_
     ·simp[go_sem,hp_of g3]
      refine ca_Within hu.2.1 (by omega) ?_
      cases hq:amongB p.q (-10000000) 10000000
      ·simp[go_sem]
      ·simp[go_sem,hp_of g3]
       refine ca_Within hu.2.2 (by omega) ?_
       simp[go_sem]
     rintro _ W3 ⟨rfl,rfl⟩
     unfold J46_1
     intro _
     have eq1:amongB p.q (-MP) MP=amongB p.q (-10000000) 10000000:=rfl
     have eq2:amongB p.b (-MF) MF=amongB p.b (-1000000000000000) 1000000000000000:=rfl
     by_cases hr:(!amongB p.q (-10000000) 10000000|| !amongB p.b (-1000000000000000) 1000000000000000)=true
     ·rw[hr]
      simp only[ifB_bool,if_true]
      refine hno (λh=>?_) _ fr3.mod
      have g:=hgd h
      rw[←eq1,←eq2,g.q,g.b]at hr
      cases hr
     rw[Bool.eq_false_iff.2 hr]
     simp only[ifB_bool,Bool.false_eq_true,if_false]
     have hg:GoodP A p:=by
      refine⟨λe=>hz (.inl e),λe=>hz (.inr (.inl e)),?_,?_,?_,?_⟩
      ·refine(there_iff (f:=f) λe=>hz (.inr (.inl e))).1 ?_
       cases h:(lk (accL f A) p.a).isSome with
       |true=>rfl
       |false=>exact absurd (.inr (.inr (.inl h))) hz
      ·rw[Po.isZ,decide_eq_false_iff_not]
       exact λe=>hz (.inr (.inr (.inr e)))
      ·rw[eq1];cases h:amongB p.q (-10000000) 10000000 with
       |true=>rfl
       |false=>rw[h]at hr;exact absurd rfl hr
      ·rw[eq2];cases h:amongB p.b (-1000000000000000) 1000000000000000 with
       |true=>rfl
       |false=>rw[h]at hr;simp at hr
     have hq2:=amongB_iff'.1 hg.q
     have hb2:=amongB_iff'.1 hg.b
     simp only[MP,MF]at hq2 hb2
     have hwq:IntKind.i64.wrap (q+p.q)=q+p.q:=by rw[IntKind.wrap_i64];omega
     have hwb:IntKind.i64.wrap (b+p.b)=b+p.b:=by rw[IntKind.wrap_i64];omega
     have n1:l≠nk:=by omega
     have n2:nq≠nk:=by omega
     have n3:np≠nk:=by omega
     simp[-Int.natCast_add,go_sem,lptr,hp_of gq3,hp_of g3,hp_of gk3,hp_of fr3.h1,hwq,hwb,n1,n2,n3]
     generalize hW4:World.drew (World.drew _)=W4
     have mw4:Mod (λb=>b=nk) W3 W4:=by subst hW4;exact(((Mod.refl (λb=>b=nk) W3).setCell (b:=nk) (.inl rfl) _ _).setCell (b:=nk) (.inl rfl) _ _).drew.drew
     have gk4:hp W4 nk=some (.cells #[.int .u32 p.c,.int .u32 p.a] 224 (0,0)):=by subst hW4;simp[go_sem,hp_of gk3]
     have fr4:FrQ w W4 l m1 m2 (accL f A) (posL (P.take i)):=⟨fr3.mod.on mw4 λb hb=>.inr (by omega),mw4.keep fr3.h1 n1,fr3.a.mod mw4 (by omega),fr3.b.mod mw4 (by omega)⟩
     refine rux_mapUp (enc:=encKey) (ev:=poV) (x:=(p.c,p.a)) (v:=p) uMapP kKey fr4.b λW5 hB mo hs=>?_
     rw[hposl hk]at hB
     rw[hw]
     refine hKN _ _ ⟨i+1,p.c,p.a,q+p.q,b+p.b,_,_,by omega,rfl,hstep hk hsum,λx hx=>?_,mo.keep gk4 (by omega),fr4.upB h7 (by omega) mo hB⟩ (by simp;omega)
     rw[htk]at hx
     rcases List.mem_append.1 hx with hx|hx
     ·exact hgood x hx
     ·rw[List.mem_singleton]at hx;subst hx;exact hg
   ·obtain rfl:i=P.length:=by omega
    clear hKN
    rw[List.take_of_length_le (Nat.le_refl _)]at fr hinv hgood
    refine rv_ok' (v:=.bool false) (w' :=W) (by simp[go_sem]) ?_
    rw[ifB_bool,if_neg Bool.false_ne_true]
    refine JoinW.at (λs W' =>s=(.bool (decide (q≠0∨b≠0)),())∧W' =W) ?_ ?_
    ·by_cases hq:q=0
     ·by_cases hb:b=0
      ·simp[go_sem,hq,hb]
      ·simp[go_sem,hq,hb]
     ·simp[go_sem,hq]
    rintro _ _ ⟨rfl,rfl⟩
    unfold J46_5
    intro _
    by_cases hqb:q≠0∨b≠0
    ·simp only[decide_eq_true hqb,ifB_bool,if_true]
     exact hno (λh=>hinv.bad_end hqb h.zero) _ fr.mod
    ·simp only[decide_eq_false hqb,ifB_bool,Bool.false_eq_true,if_false]
     obtain⟨rfl,rfl⟩:q=0∧b=0:=by omega
     have ok:FromOk f A P:=⟨h64,hf,hpa,htot,hinv.srt,hgood,hinv.done⟩
     refine hok ok _ l F ⟨⟨m1,m2,_,_,fr.h1,fr.a,fr.b,List.Perm.refl _,List.Perm.refl _,h6,h7⟩,ok.ok uA λp hp=>(uP p hp).1.1⟩ fr.mod λb hb=>by have:=f2 b hb;omega
end Go.Proofs
