/- Part of a proof. -/
import Derived.Shelf.SlSortCmp.NoneTotal
import Derived.Ground.SlsfProg
import Derived.Test.YtgebhcgmckjbbaaGreatO8
set_option linter.all false
namespace Go.Proofs
open Go Go.Vc
attribute [local congr] Ca_congV
theorem flat_setLeft:∀(l:List Od) (i:Nat) (hi:i<l.length) (x:Int),(l.flatMap odC).set (i*5+4) (.int .i64 x)=(l.set i {l[i]with left:=x}).flatMap odC
 |o::l,0,_,x=>rfl
 |o::l,i+1,hi,x=>by
  have e:(i+1)*5+4=(odC o).length+(i*5+4):=by rw[odC_len];omega
  rw[List.flatMap_cons,e,List.set_append_right _ _ (by omega),Nat.add_sub_cancel_left,flat_setLeft l i (by simpa using hi) x]
  simp
theorem OdS.setLeft{w:World}{sl:Value}{l:List Od}(h:OdS w sl l){i:Nat}(hi:i<l.length)(x:Int):
  ∃b cap w',sl=.slice (some ⟨b,0,none⟩) l.length cap∧(∀k:IntKind,(Instr.indexAt tOds sl (.int k (i:Int))).run Tryz.prog w=.ok (.pointer (some ⟨b,i*5,none⟩)) w)∧
   (Instr.fieldAt tOd (.pointer (some ⟨b,i*5,none⟩)) 4).run Tryz.prog w=.ok (.pointer (some ⟨b,i*5+4,none⟩)) w∧(Instr.loadAt 2 (.pointer (some ⟨b,i*5+4,none⟩))).run Tryz.prog w=.ok (.int .i64 l[i].left) w∧
   (Instr.storeAt 2 (.pointer (some ⟨b,i*5+4,none⟩)) (.int .i64 x)).run Tryz.prog w=.ok () w' ∧OdS w' sl (l.set i {l[i]with left:=x})∧Mod (inSl sl) w w' :=by
 obtain⟨b,cap,rest,rfl,hc,hb,hrl,hr1⟩:=h.pos (by omega)
 have hl:=h.1
 have hcell:(l.flatMap odC++rest)[i*5+4]? =some (.int .i64 l[i].left):=by
  rw[List.getElem?_append_left (by rw[hl];omega)]
  have h1:=flat_get odC 5 l i (λx _=>odC_len x) hi
  have h2:(((l.flatMap odC).drop (i*5)).take 5)[4]? =(odC l[i])[4]? :=by rw[h1]
  rw[List.getElem?_take,if_pos (by omega),List.getElem?_drop]at h2
  rw[h2];rfl
 have hset:((l.flatMap odC++rest).toArray.setIfInBounds (i*5+4) (.int .i64 x))=((l.set i {l[i]with left:=x}).flatMap odC++rest).toArray:=by
  rw[List.setIfInBounds_toArray,List.set_append_left _ _ (by rw[hl];omega),flat_setLeft l i hi x]
 refine⟨b,cap,w.setCell ⟨b,i*5+4,none⟩ (.int .i64 x),rfl,λk=>by simp[go_sem,hi,addr_add,uOds],by simp[go_sem,addr_add],by simp[go_sem,hp_of hb,hcell],by simp[go_sem,hp_of hb,hcell],⟨by rw[flL odC_len,List.length_set],.inr ⟨b,cap,rest,by rw[List.length_set],by rw[List.length_set];exact hc,?_,by rw[List.length_set];exact hrl,hr1⟩⟩,(Mod.refl _ w).setCell (.inl (show inSl (.slice (some ⟨b,0,none⟩) l.length cap) b from rfl)) _ _⟩
 rw[heap_setCell,if_pos rfl,hb,setObj1_cells,hset]
theorem ca_sfill{w:World}{K:Kont}{s:Nat}{F:Nat→Prop}{buy:Bool}{o:Od}{r:List Od}{n:Int}(h:SideQ w s F buy (o::r))(h1:1≤n)(h2:n≤o.left)
  (hK:∀F' w',SideQ w' s F' buy (sdFill (o::r) n)→Mod F w w' →(∀b,F' b→F b∨w.heap.size≤b)→K (.tuple #[odV {o with left:=o.left - n},.int .i64 0]) w'):Ca Tryz.prog 273 #[sptr s,.int .i64 n] w K:=by
 have hob:=h.may o (by simp)
 have hm:1≤o.left∧o.left≤1000000:=by
  have:=hob.1
  unfold Od.may at this
  simp only[Bool.and_eq_true]at this
  exact of_decide_eq_true this.2
 apply ca273
 unfold F273
 obtain⟨w1,e1,b1,m1⟩:=newOd w
 refine rvS e1 ?_
 obtain⟨p,hp0⟩:∃p,p=w.heap.size:=⟨_,rfl⟩
 rw[←hp0]at b1⊢
 have q1:=h.mod m1 λ_ _ h=>h
 have toF:∀{W W' :World},Mod (λ_=>False) W W' →Mod F W W' :=λm=>m.mono λ_ _ h=>h.elim
 have pF:∀{b},F b→b<p:=λhb=>by rw[hp0];exact h.lt hb
 have hsp:s<p:=pF h.self
 obtain⟨⟨sl,c1,c2,c3,c4⟩,c5,c6⟩:=id q1
 obtain⟨sa,sc,hsl,-⟩:=c2.isSl
 have hpn:¬inSl sl p:=λhb=>by have:=pF ((c3 p).2 (.inr hb));omega
 obtain⟨b,cap,w2,hsl',hix,hfa,hld,hst,o2,m2⟩:=c2.setLeft (i:=0) (by simp) (o.left - n)
 simp only[List.getElem_cons_zero,Nat.zero_mul,Nat.zero_add,List.set_cons_zero]at hix hfa hld hst o2
 refine ca_sready q1 ?_
 refine rvS (v:=.bool false) (by simp[go_sem]<;>first|exact⟨rfl,rfl⟩|exact rfl) ?_
 rw[ifB_bool,if_neg Bool.false_ne_true]
 simp only[sptr,nilK_ptr]
 refine rvS (by simp[-Int.natCast_add,go_sem,c1]<;>first|exact⟨rfl,rfl⟩|exact rfl) ?_
 refine rvS (by simp[-Int.natCast_add,go_sem,c1]<;>first|exact⟨rfl,rfl⟩|exact rfl) ?_
 refine rnS (v:=.int .i64 ((o::r).length:Int)) (w' :=w1) (by rw[hsl];simp[go_sem]) ?_
 have hne:¬(((o::r).length:Nat):Int)=0:=by simp;omega
 refine rvS (v:=.bool false) (w' :=w1) (by simp only[go_sem];simp;omega) ?_
 rw[ifB_bool,if_neg Bool.false_ne_true]
 refine JoinW.at (λst W=>st=(.bool false,())∧W=w1) ?_ ?_
 ·have h1' :¬n<1:=by omega
  refine rvS (v:=.bool false) (by simp[go_sem,h1']<;>first|exact⟨rfl,rfl⟩|exact rfl) ?_
  rw[ifB_bool,if_neg Bool.false_ne_true]
  refine rvS (by simp[-Int.natCast_add,go_sem,c1]<;>first|exact⟨rfl,rfl⟩|exact rfl) ?_
  refine rvS (by simp[-Int.natCast_add,go_sem,c1]<;>first|exact⟨rfl,rfl⟩|exact rfl) ?_
  refine rvS (hix .i64) (rvS hfa (rvS hld ?_))
  have h2' :¬o.left<n:=by omega
  refine rvS (v:=.bool false) (w' :=w1) (by simp[go_sem,h2']) ?_
  exact⟨rfl,rfl⟩
 rintro _ w1 ⟨rfl,rfl⟩
 unfold J273_1
 intro _
 rw[ifB_bool,if_neg Bool.false_ne_true]
 simp only[nilK_ptr]
 refine rvS (by simp[-Int.natCast_add,go_sem,c1]<;>first|exact⟨rfl,rfl⟩|exact rfl) ?_
 refine rvS (by simp[-Int.natCast_add,go_sem,c1]<;>first|exact⟨rfl,rfl⟩|exact rfl) ?_
 refine rvS (hix .i64) (rvS hfa (rvS hld ?_))
 refine rvS (v:=.int .i64 (o.left - n)) (w' :=w1) (by simp[go_sem];rw[wrapI (by omega) (by omega)]) ?_
 refine rvS (hix .i64) (rvS hfa ?_)
 refine ruS hst ?_
 have c1' :=m2.hpk c1 c4
 have p2:=m2.hpk b1 hpn
 refine rvS (by simp[-Int.natCast_add,go_sem,c1']<;>first|exact⟨rfl,rfl⟩|exact rfl) ?_
 refine rvS (by simp[-Int.natCast_add,go_sem,c1']<;>first|exact⟨rfl,rfl⟩|exact rfl) ?_
 obtain⟨b',cap',hsl2,hix2,hld2⟩:=o2.load (i:=0) (by simp)
 refine rvS (hix2 .i64) (rvS hld2 ?_)
 simp only[List.getElem_cons_zero]
 obtain⟨w3,e3,b3,m3⟩:=newOd w2
 refine rvS e3 ?_
 obtain⟨q,hq0⟩:∃q,q=w2.heap.size:=⟨_,rfl⟩
 rw[←hq0]at b3⊢
 obtain⟨w4,e4,b4,m4⟩:=setOd (o' :={o with left:=o.left - n}) b3
 refine ruS e4 ?_
 have M4:Mod (λ_=>False) w2 w4:=m3.on m4 λb hb=>.inr (by omega)
 have c4' :=M4.hpk c1' id
 have p4:=M4.hpk p2 id
 have o4:=o2.mod M4 λ_ _ h=>h
 have hpq:p<q:=by have:=lt_of_heap p2;omega
 have hqn:¬inSl sl q:=λhb=>by have:=c2.lt hb;have:=m2.size;omega
 have MF4:Mod F w w4:=((toF m1).on m2 λb hb=>.inl ((c3 b).2 (.inr hb))).trans (toF M4)
 have fin:∀(l' :List Od) (s5:Value) (W:World),hp W s=some (.cells #[.bool true,.bool buy,s5] 320 (0,0))→OdS W s5 l' →(∀b,inSl s5 b→inSl sl b)→hp W q=some (.cells (odC {o with left:=o.left - n}).toArray tOd (0,0))→hp W p=some (.cells (odC zOd).toArray tOd (0,0))→
   Mod F w W→l' =sdFill (o::r) n→J273_0 (.pointer (some ⟨q,0,none⟩)) (.pointer (some ⟨p,0,none⟩)) K () W:=by
  intro l' s5 W k1 k2 k3 k4 k5 k6 k7
  unfold J273_0
  intro _
  refine rvS (ldOd (o:={o with left:=o.left - n}) (At.all k4)) ?_
  obtain⟨w7,e7,b7,m7⟩:=setOd (o' :={o with left:=o.left - n}) k5
  refine ruS e7 ?_
  refine rdWS (ldOd (o:={o with left:=o.left - n}) (At.all b7)) ?_
  have s7:=m7.hpk k1 (by omega)
  have o7:OdS w7 s5 l' :=k2.mod m7 λb hb e=>hpn (by rw[←e];exact k3 b hb)
  subst k7
  refine hK (λb=>b=s∨inSl s5 b) w7 ⟨⟨s5,s7,o7,λb=>Iff.rfl,λhb=>c4 (k3 s hb)⟩,?_,?_⟩ (k6.on m7 λb hb=>.inr (by omega)) λb hb=>?_
  ·unfold sdFill
   simp only
   have:=c5
   simp only[List.length_cons]at this
   split
   ·omega
   ·simp only[List.length_cons];omega
  ·intro x hx
   unfold sdFill at hx
   simp only at hx
   by_cases h0:o.left - n=0
   ·rw[if_pos h0]at hx
    exact c6 x (List.mem_cons_of_mem _ hx)
   ·rw[if_neg h0]at hx
    rcases List.mem_cons.1 hx with rfl|hx
    ·obtain⟨a1,a2,a3⟩:=hob
     refine⟨?_,a2,a3.1,a3.2.1,a3.2.2.1,by unfold R64';simp only;omega⟩
     unfold Od.may at a1⊢
     simp only[Bool.and_eq_true]at a1⊢
     exact⟨a1.1,by unfold amongB;rw[decide_eq_true_eq];omega⟩
    ·exact c6 x (List.mem_cons_of_mem _ hx)
  ·rcases hb with rfl|hb
   ·exact .inl h.self
   ·exact .inl ((c3 b).2 (.inr (k3 b hb)))
 refine JoinW.at (λst W=>∃s5 l',hp W s=some (.cells #[.bool true,.bool buy,s5] 320 (0,0))∧OdS W s5 l' ∧(∀b,inSl s5 b→inSl sl b)∧hp W q=some (.cells (odC {o with left:=o.left - n}).toArray tOd (0,0))∧hp W p=some (.cells (odC zOd).toArray tOd (0,0))∧Mod F w W∧l' =sdFill (o::r) n) ?_ ?_
 ·have q4:=b4
  unfold odC at q4
  refine rvS (by simp[-Int.natCast_add,go_sem,q4]<;>first|exact⟨rfl,rfl⟩|exact rfl) ?_
  refine rvS (by simp[-Int.natCast_add,go_sem,q4]<;>first|exact⟨rfl,rfl⟩|exact rfl) ?_
  by_cases h0:o.left - n=0
  ·refine rvS (v:=.bool true) (by simp[go_sem,h0]<;>first|exact⟨rfl,rfl⟩|exact rfl) ?_
   rw[ifB_bool,if_pos rfl]
   refine rvS (by simp[-Int.natCast_add,go_sem,c4']<;>first|exact⟨rfl,rfl⟩|exact rfl) ?_
   refine rvS (by simp[-Int.natCast_add,go_sem,c4']<;>first|exact⟨rfl,rfl⟩|exact rfl) ?_
   refine ca_deleteOd (i:=0) (j:=1) o4 (by omega) (by simp) (by simp only[List.length_cons]at c5⊢;omega) λs5 w5 o5 m5 n5=>?_
   obtain⟨xa,xc,hs5,-⟩:=o5.isSl
   have c5' :=m5.hpk c4' c4
   refine rvS (by simp[-Int.natCast_add,go_sem,c5']<;>first|exact⟨rfl,rfl⟩|exact rfl) ?_
   obtain⟨w6,e6,b6,m6⟩:=stSide (v:=s5) c5' ⟨_,_,_,hs5⟩
   refine ruS e6 ?_
   refine⟨s5,_,b6,o5.mod m6 λb hb e=>c4 (by rw[←e];exact n5 b hb),n5,m6.hpk (m5.hpk b4 hqn) (by omega),m6.hpk (m5.hpk p4 hpn) (by omega),(MF4.on m5 λb hb=>.inl ((c3 b).2 (.inr hb))).on m6 λb hb=>.inl (by rw[hb];exact h.self),?_⟩
   unfold sdFill
   simp[h0]
  ·refine rvS (v:=.bool false) (by simp[go_sem,h0]<;>first|exact⟨rfl,rfl⟩|exact rfl) ?_
   rw[ifB_bool,if_neg Bool.false_ne_true]
   refine⟨sl,_,c4',o4,λb hb=>hb,b4,p4,MF4,?_⟩
   unfold sdFill
   simp[h0]
 ·rintro⟨⟩ W ⟨s5,l',k1,k2,k3,k4,k5,k6,k7⟩
  exact fin l' s5 W k1 k2 k3 k4 k5 k6 k7
end Go.Proofs
namespace Go.Proofs
open Go Go.Vc
attribute [local congr] Ca_congV
theorem idx_isSome{l:List Od}{n:Int}:(l.findIdx? λx=>decide (x.num=n)).isSome=l.any λx=>decide (x.num=n):=by
 rw[List.findIdx?_isSome]
set_option maxRecDepth 10000 in
theorem ca_sadd{w:World}{K:Kont}{s:Nat}{F:Nat→Prop}{buy:Bool}{l:List Od}{o:Od}(h:SideQ w s F buy l)(hof:o.Fit)
  (hK:∀F' w',SideQ w' s F' buy (sdAdd buy l o).2→Mod F w w' →(∀b,F' b→F b∨w.heap.size≤b)→K (.int .i64 (sdAdd buy l o).1) w'):Ca Tryz.prog 274 #[sptr s,odV o] w K:=by
 apply ca274
 unfold F274
 have toF:∀{W W' :World},Mod (λ_=>False) W W' →Mod F W W' :=λm=>m.mono λ_ _ h=>h.elim
 have m0:Mod (λ_=>False) w (w.alloc (.cells #[sptr s] 228)):=(Mod.refl _ w).alloc _
 obtain⟨p,hp0⟩:∃p,p=w.heap.size:=⟨_,rfl⟩
 refine rvS (v:=.pointer (some ⟨p,0,none⟩)) (w' :=w.alloc (.cells #[sptr s] 228)) (by rw[hp0];simp[go_sem,sptr]) ?_
 have b0:hp (w.alloc (.cells #[sptr s] 228)) p=some (.cells #[sptr s] 228 (0,0)):=by rw[hp0];simp[go_sem]
 generalize w.alloc (.cells #[sptr s] 228)=w0 at m0 b0⊢
 obtain⟨w1,e1,b1,m1⟩:=boxOd o w0
 refine rvS e1 ?_
 obtain⟨q,hq0⟩:∃q,q=w0.heap.size:=⟨_,rfl⟩
 rw[←hq0]at b1⊢
 have p1:=m1.hpk b0 id
 have M1:=m0.trans m1
 have h1:=h.mod M1 λ_ _ h=>h
 have hpq:p<q:=by have:=lt_of_heap b0;omega
 have pF:∀{b},F b→b<p:=λhb=>by rw[hp0];exact h.lt hb
 have ldp:∀{W},Mod (λ_=>False) w1 W→hp W p=some (.cells #[sptr s] 228 (0,0)):=λm=>m.hpk p1 id
 have ldq:∀{W},Mod (λ_=>False) w1 W→hp W q=some (.cells (odC o).toArray tOd (0,0)):=λm=>m.hpk b1 id
 refine rvS (by simp[-Int.natCast_add,go_sem,p1]<;>first|exact⟨rfl,rfl⟩|exact rfl) ?_
 refine ca_sready h1 ?_
 refine rvS (v:=.bool false) (by simp[go_sem]<;>first|exact⟨rfl,rfl⟩|exact rfl) ?_
 rw[ifB_bool,if_neg Bool.false_ne_true]
 refine JoinW.at (λst W=>st=(.bool (decide (¬o.may∨o.buy≠buy)),())∧Mod (λ_=>False) w1 W) ?_ ?_
 ·have md:Mod (λ_=>False) w1 w1.drew:=(Mod.refl _ w1).drew
  refine rdWS (ldOd (o:=o) (At.all (ldq md))) ?_
  refine ca_omay λw2 m2=>?_
  have M2:=md.trans m2
  refine rdPS (v:=.bool (!o.may)) (λW=>by simp[go_sem]) ?_
  cases hm:o.may with
  |false=>
   rw[ifB_bool,if_pos (by simp)]
   exact⟨by simp,M2⟩
  |true=>
   rw[ifB_bool,if_neg (by simp)]
   have q2:=ldq M2
   unfold odC at q2
   obtain⟨⟨sl,c1,c2,c3,c4⟩,c5,c6⟩:=h1.mod M2 λ_ _ h=>h
   have p2:=ldp M2
   refine rdPS (λ_=>by simp[-Int.natCast_add,go_sem]<;>first|exact⟨rfl,rfl⟩|exact rfl) ?_
   refine rdWS (by simp[-Int.natCast_add,go_sem,q2]<;>first|exact⟨rfl,rfl⟩|exact rfl) ?_
   refine rdWS (v:=sptr s) (by simp[go_sem,p2]) ?_
   simp only[sptr,nilK_ptr]
   refine rdPS (λ_=>by simp[-Int.natCast_add,go_sem]<;>first|exact⟨rfl,rfl⟩|exact rfl) ?_
   refine rdWS (by simp[-Int.natCast_add,go_sem,c1]<;>first|exact⟨rfl,rfl⟩|exact rfl) ?_
   refine rdPS (v:=.bool (decide (o.buy≠buy))) (λW=>by cases o.buy<;>cases buy<;>simp[go_sem]) ?_
   exact⟨by simp,M2⟩
 rintro _ w2 ⟨rfl,m2⟩
 unfold J274_1
 intro _
 have M2:=M1.trans m2
 have h2:=h1.mod m2 λ_ _ h=>h
 by_cases hbad:¬o.may∨o.buy≠buy
 ·have hr:sdAdd buy l o=(2,l):=by unfold sdAdd;rw[if_pos hbad]
  rw[hr]at hK
  rw[ifB_bool,if_pos (by simpa using hbad)]
  exact hK F _ h2 (toF M2) λb hb=>.inl hb
 rw[ifB_bool,if_neg (by simpa using hbad)]
 have p2:=ldp m2
 have q2:=ldq m2
 refine rvS (by simp[-Int.natCast_add,go_sem,p2]<;>first|exact⟨rfl,rfl⟩|exact rfl) ?_
 unfold odC at q2
 refine rvS (by simp[-Int.natCast_add,go_sem,q2]<;>first|exact⟨rfl,rfl⟩|exact rfl) ?_
 refine rvS (by simp[-Int.natCast_add,go_sem,q2]<;>first|exact⟨rfl,rfl⟩|exact rfl) ?_
 refine ca_sat h2 λw3 m3=>?_
 have M3:=m2.trans m3
 have MW3:=M1.trans M3
 have h3:=h2.mod m3 λ_ _ h=>h
 by_cases hth:(l.any λx=>decide (x.num=o.num))=true
 ·have hr:sdAdd buy l o=(8,l):=by unfold sdAdd;rw[if_neg hbad,if_pos hth]
  rw[hr]at hK
  rw[←idx_isSome]at hth
  obtain⟨i,hi⟩:=Option.isSome_iff_exists.1 hth
  obtain⟨_,_,_,e⟩:=idx_some hi
  rw[e]
  refine rvS (v:=.bool true) (by simp[go_sem]<;>first|exact⟨rfl,rfl⟩|exact rfl) ?_
  rw[ifB_bool,if_pos rfl]
  exact hK F _ h3 (toF MW3) λb hb=>.inl hb
 have hno:(l.findIdx? λx=>decide (x.num=o.num))=none:=by
  cases hh:l.findIdx? λx=>decide (x.num=o.num)with
  |none=>rfl
  |some i=>exact absurd (by rw[←idx_isSome,hh];rfl) hth
 rw[(idx_none hno).2]
 refine rvS (v:=.bool false) (by simp[go_sem]<;>first|exact⟨rfl,rfl⟩|exact rfl) ?_
 rw[ifB_bool,if_neg Bool.false_ne_true]
 obtain⟨⟨sl,c1,c2,c3,c4⟩,c5,c6⟩:=id h3
 obtain⟨sa,sc,hsl,-⟩:=c2.isSl
 have p3:=ldp M3
 refine rvS (v:=sptr s) (w' :=w3) (by simp[go_sem,p3]) ?_
 simp only[sptr,nilK_ptr]
 refine rvS (by simp[-Int.natCast_add,go_sem,c1]<;>first|exact⟨rfl,rfl⟩|exact rfl) ?_
 refine rvS (by simp[-Int.natCast_add,go_sem,c1]<;>first|exact⟨rfl,rfl⟩|exact rfl) ?_
 refine rnS (v:=.int .i64 (l.length:Int)) (w' :=w3) (by rw[hsl];simp[go_sem]) ?_
 by_cases hfull:100≤l.length
 ·have hr:sdAdd buy l o=(9,l):=by unfold sdAdd;rw[if_neg hbad,if_neg hth,if_pos hfull]
  rw[hr]at hK
  have hfull' :(100:Int)≤(l.length:Int):=by omega
  refine rvS (v:=.bool true) (by simp[go_sem,hfull']<;>first|exact⟨rfl,rfl⟩|exact rfl) ?_
  rw[ifB_bool,if_pos rfl]
  exact hK F _ h3 (toF MW3) λb hb=>.inl hb
 have hfull' :¬(100:Int)≤(l.length:Int):=by omega
 refine rvS (v:=.bool false) (by simp[go_sem,hfull']<;>first|exact⟨rfl,rfl⟩|exact rfl) ?_
 rw[ifB_bool,if_neg Bool.false_ne_true]
 have hr:sdAdd buy l o=(0,sdIns buy l o):=by unfold sdAdd;rw[if_neg hbad,if_neg hth,if_neg hfull]
 rw[hr]at hK
 refine rvS (v:=sptr s) (w' :=w3) (by simp[go_sem,p3]) ?_
 simp only[sptr,nilK_ptr]
 refine rvS (by simp[-Int.natCast_add,go_sem,c1]<;>first|exact⟨rfl,rfl⟩|exact rfl) ?_
 refine rvS (by simp[-Int.natCast_add,go_sem,c1]<;>first|exact⟨rfl,rfl⟩|exact rfl) ?_
 refine ca_indexOd (p:=λx=>betterB buy o.price x.price) c2.rd (by omega) ⟨_,_,rfl,λx hx W mW K' hK' =>?_⟩ λw4 m4=>?_
 ·apply ca311
  unfold F311
  obtain⟨W1,e1,d1,n1⟩:=boxOd x W
  refine rvS e1 ?_
  have MW:=(M3.trans mW).trans n1
  have pW:=ldp MW
  have qW:=ldq MW
  unfold odC at d1 qW
  refine rvS (v:=sptr s) (w' :=W1) (by simp[go_sem,pW]) ?_
  refine rvS (by simp[-Int.natCast_add,go_sem,qW]<;>first|exact⟨rfl,rfl⟩|exact rfl) ?_
  refine rvS (by simp[-Int.natCast_add,go_sem,qW]<;>first|exact⟨rfl,rfl⟩|exact rfl) ?_
  refine rvS (by simp[-Int.natCast_add,go_sem,d1]<;>first|exact⟨rfl,rfl⟩|exact rfl) ?_
  refine rvS (by simp[-Int.natCast_add,go_sem,d1]<;>first|exact⟨rfl,rfl⟩|exact rfl) ?_
  refine ca_sbetter (h1.mod MW λ_ _ h=>h) ?_
  exact hK' _ n1
 have M4:=M3.trans m4
 have h4:=h3.mod m4 λ_ _ h=>h
 have c1' :=m4.hpk c1 id
 have hat:sdAt buy l o.price≤l.length:=by
  unfold sdAt
  cases hh:l.findIdx? λx=>betterB buy o.price x.price with
  |none=>exact Nat.le_refl _
  |some i=>
   obtain⟨hi,_⟩:=idx_some hh
   simp only[Option.getD_some];omega
 refine JoinW.at (λst W=>st=(.int .i64 (sdAt buy l o.price:Nat),())∧W=w4) ?_ ?_
 ·cases hh:l.findIdx? λx=>betterB buy o.price x.price with
  |none=>
   rw[(idx_none hh).2]
   refine rvS (v:=.bool true) (by simp[go_sem]<;>first|exact⟨rfl,rfl⟩|exact rfl) ?_
   rw[ifB_bool,if_pos rfl]
   have p4:=ldp M4
   refine rvS (v:=sptr s) (w' :=w4) (by simp[go_sem,p4]) ?_
   simp only[sptr,nilK_ptr]
   refine rvS (by simp[-Int.natCast_add,go_sem,c1']<;>first|exact⟨rfl,rfl⟩|exact rfl) ?_
   refine rvS (by simp[-Int.natCast_add,go_sem,c1']<;>first|exact⟨rfl,rfl⟩|exact rfl) ?_
   refine rnS (v:=.int .i64 (l.length:Int)) (w' :=w4) (by rw[hsl];simp[go_sem]) ?_
   refine⟨?_,rfl⟩
   unfold sdAt
   rw[hh];rfl
  |some i=>
   obtain⟨_,_,_,e⟩:=idx_some hh
   rw[e]
   refine rvS (v:=.bool false) (by simp[go_sem]<;>first|exact⟨rfl,rfl⟩|exact rfl) ?_
   rw[ifB_bool,if_neg Bool.false_ne_true]
   refine⟨?_,rfl⟩
   unfold sdAt
   rw[hh];rfl
 rintro _ w4 ⟨rfl,rfl⟩
 unfold J274_0
 intro _
 have md:Mod (λ_=>False) w4 w4.drew:=(Mod.refl _ w4).drew
 have pd:=ldp (M4.trans md)
 have qd:=ldq (M4.trans md)
 have cd:=md.hpk c1' id
 refine rdWS (v:=sptr s) (by simp[go_sem,pd]) ?_
 refine rdWS (v:=sptr s) (by simp[go_sem,pd]) ?_
 simp only[sptr,nilK_ptr]
 refine rdPS (λ_=>by simp[-Int.natCast_add,go_sem]<;>first|exact⟨rfl,rfl⟩|exact rfl) ?_
 refine rdWS (by simp[-Int.natCast_add,go_sem,cd]<;>first|exact⟨rfl,rfl⟩|exact rfl) ?_
 refine rdWS (ldOd (o:=o) (At.all qd)) ?_
 refine rx_lit [odV o] uOds (elemT_of eOd) rfl rfl (by intro v hv;rw[List.mem_singleton.1 hv];rfl) (by omega) ?_
 have e0:(([odV o]:List Value).flatMap (·.cells.toList)).toArray=(odC o).toArray:=rfl
 rw[e0]
 have m5:Mod (λ_=>False) w4.drew (w4.drew.alloc (.cells (odC o).toArray tOd)):=(Mod.refl _ w4.drew).alloc _
 have M5:=md.trans m5
 have hv5:OdS (w4.drew.alloc (.cells (odC o).toArray tOd)) (.slice (some ⟨w4.drew.heap.size,0,none⟩) 1 1) [o]:=
  ⟨rfl,.inr ⟨_,1,[],rfl,Nat.le_refl _,by rw[heap_alloc,if_pos rfl];simp,by simp,by simp⟩⟩
 have hnew:∀b,inSl (.slice (some ⟨w4.drew.heap.size,0,none⟩) 1 1) b→b=w4.drew.heap.size:=λb hb=>by cases hb;rfl
 generalize w4.drew.alloc (.cells (odC o).toArray tOd)=w5 at m5 M5 hv5⊢
 have p5:=ldp (M4.trans M5)
 have c5' :=M5.hpk c1' id
 refine⟨by simp[go_sem,c5'],by simp[go_sem,p5,sptr],by simp[go_sem,p5,sptr],?_⟩
 obtain⟨⟨sl5,k1,k2,k3,k4⟩,k5,k6⟩:=h4.mod M5 λ_ _ h=>h
 have esl:sl5=sl:=by
  have:=c5'.symm.trans k1
  simp only[Option.some.injEq,Obj.cells.injEq]at this
  have:=congrArg (λa:Array Value=>a[2]?) this.1
  simp at this
  exact this.symm
 subst esl
 have hslt:∀b,inSl sl5 b→b<w3.heap.size:=λb hb=>c2.lt hb
 have hsz43:=m4.size
 refine ca_insertOd k2 hv5 (λb hb hb' =>by have h1:=hslt b hb;have h2:=hnew b hb';rw[size_drew]at h2;omega) hat (by omega) λs6 w6 o6 m6 n6=>?_
 obtain⟨xa,xc,hs6,-⟩:=o6.isSl
 have hps:¬inSl sl5 p:=λhb=>by have:=pF ((k3 p).2 (.inr hb));omega
 have p6:=m6.hpk p5 hps
 have c6' :=m6.hpk c5' k4
 refine⟨by simp[go_sem,p6,sptr],?_⟩
 refine rdPS (λ_=>by simp[-Int.natCast_add,go_sem]<;>first|exact⟨rfl,rfl⟩|exact rfl) ?_
 obtain⟨w7,e7,b7,m7⟩:=stSide (v:=s6) c6' ⟨_,_,_,hs6⟩
 refine ruS e7 ?_
 have hM5:=M1.trans (M4.trans M5)
 have hss6:¬inSl s6 s:=λhb=>by
  rcases n6 s hb with h' |h'
  ·exact k4 h'
  ·have:=pF h.self;have:=hM5.size;omega
 have MF:Mod F w w7:=((toF hM5).on m6 λb hb=>.inl ((k3 b).2 (.inr hb))).on m7 λb hb=>.inl (by rw[hb];exact h.self)
 refine hK (λb=>b=s∨inSl s6 b) w7 ⟨⟨s6,b7,o6.mod m7 λb hb e=>hss6 (by rw[←e];exact hb),λb=>Iff.rfl,hss6⟩,?_,?_⟩ MF λb hb=>?_
 ·unfold sdIns
  rw[List.length_append,List.length_take,List.length_cons,List.length_drop,Nat.min_eq_left hat];omega
 ·intro x hx
  unfold sdIns at hx
  rcases List.mem_append.1 hx with hx|hx
  ·exact k6 x (List.mem_of_mem_take hx)
  ·rcases List.mem_cons.1 hx with rfl|hx
   ·have:x.may=true∧x.buy=buy:=by
     constructor
     ·apply Classical.byContradiction
      intro hc
      exact hbad (.inl hc)
     ·apply Classical.byContradiction
      intro hc
      exact hbad (.inr hc)
    exact⟨this.1,this.2,hof⟩
   ·exact k6 x (List.mem_of_mem_drop hx)
 ·rcases hb with rfl|hb
  ·exact .inl h.self
  ·rcases n6 b hb with h' |h'
   ·exact .inl ((k3 b).2 (.inr h'))
   ·have:=hM5.size
    exact .inr (by omega)
end Go.Proofs
namespace Go.Proofs
open Go Go.Vc
theorem poE1:elemOk Tryz.prog 112 4 24=true:=by kernel_rfl
end Go.Proofs
namespace Go.Vc
open Go Go.Shelf Go.RowKit Go.Lib Go.Sort Go.Proofs
theorem callFunc_enter{P:Program}(hP:NoNum P=true){g:FuncId}(hb:∃fn,P.funcs[g]? =some fn∧fn.body.isSome=true)(args:Array Value)(w:World):(callFunc g args).run P w=.ok (.enter g args) w:=by
 obtain⟨fn,hf,hb⟩:=hb
 have hname:(fn.name== "runtime.NumGoroutine")=false:=by
  have:=(Array.all_eq_true'.1 hP) fn (Array.mem_of_getElem? hf)
  simpa using this
 have hname' :¬fn.name= "runtime.NumGoroutine" :=by simpa using hname
 have hnone' :¬fn.body=none:=by intro hh;rw[hh]at hb;exact absurd hb (by simp)
 unfold callFunc
 simp[Sem.run_bind,Result.andThen,hf,hname',hnone']
theorem flatK_toList{α:Type} [Inhabited α](enc:α→List Value)(k:Nat)(hk0:0<k)(hk:∀x,(enc x).length=k)(d:Array α):(flatK enc k d).toList=d.toList.flatMap enc:=by
 have hl:(d.toList.flatMap enc).length=d.size*k:=by rw[flat_len enc k _ λx _=>hk x];simp
 apply List.ext_getElem?
 intro t
 by_cases ht:t<d.size*k
 ·have h1:(flatK enc k d).toList[t]? =some (flatK enc k d)[t]! :=by
   rw[Array.getElem?_toList,Array.getElem?_eq_getElem (by simpa using ht),getElem!_pos _ t (by simpa using ht)]
  rw[h1,get_flatK enc k d t ht]
  have hi:t / k<d.size:=Nat.div_lt_of_lt_mul (by rw[Nat.mul_comm];exact ht)
  have hj:t%k<k:=Nat.mod_lt _ hk0
  have h2:=flat_get enc k d.toList (t / k) (λx _=>hk x) (by simpa using hi)
  have h3:(d.toList.flatMap enc)[t]? =((d.toList.flatMap enc).drop (t / k*k) |>.take k)[t%k]? :=by
   rw[List.getElem?_take,if_pos hj,List.getElem?_drop,Nat.div_add_mod']
  rw[h3,h2]
  have h4:d[t / k]! =d.toList[t / k]'(by simpa using hi):=by
   rw[getElem!_pos d _ hi];simp
  rw[h4,getElem!_pos _ _ (by rw[hk];exact hj),List.getElem?_eq_getElem (by rw[hk];exact hj)]
 ·rw[List.getElem?_eq_none (by simp;omega),List.getElem?_eq_none (by omega)]
theorem putCells_row(F rest cs:List Value)(h:F.length=cs.length):putCells id 0 F.toArray (cs++rest).toArray=(F++rest).toArray:=by
 apply Array.ext_getElem?
 intro t
 simp only[putCells,Array.getElem?_mapIdx,List.getElem?_toArray,List.size_toArray,Nat.zero_le,true_and,Nat.zero_add,Nat.sub_zero,id]
 by_cases ht:t<F.length
 ·rw[List.getElem?_append_left (by omega),List.getElem?_append_left ht,List.getElem?_eq_getElem (show t<cs.length by omega),Option.map_some,if_pos ht,List.getElem?_eq_getElem ht]
  rw[getElem!_pos _ t (by simpa using ht)]
  simp
 ·rw[List.getElem?_append_right (by omega),List.getElem?_append_right (by omega),h]
  cases rest[t - cs.length]? with
  |none=>rfl
  |some v=>rw[Option.map_some,if_neg (by omega)]
section
variable{P:Program}{ρ:Ren}{α:Type} [Inhabited α]
theorem ca_sortK(hP:NoNum P=true)(L:SlLaysF0.n6 P ρ)(k:Nat)(aE:isAggT P (ρ.t 24)=true)(zE:P.cellsOf (ρ.t 24)=k+1)(enc:α→List Value)(hk:∀x,(enc x).length=k+1)(h1:∀x,(enc x).all (·.oneCell')=true)
  (cf:α→α→Int)(hO:SWO (ltOf cf))(g:Nat)(hcl:∀(x y:α) (W:World),Ca P g #[.agg (enc x).toArray,.agg (enc y).toArray] W λv w' =>v=.int .i64 (cf x y)∧∃q os,w' =grow (W.drewN q) os)
  {e:TypeId}{w:World}{sl:Value}{n:Nat}{d:List α}{K:Kont}(ho:Own w e (k+1) sl n (d.flatMap enc))(hn:n<4611686018427387904)
  (hK:∀(w' :World) (d' :List α),Own w' e (k+1) sl n (d'.flatMap enc)→d'.Perm d→d'.Pairwise (λx y=>ltOf cf y x=false)→Mod (inSl sl) w w' →K (.tuple #[]) w'):
  Ca P (ρ.f 6) #[sl,.func (.func g) #[] #[]] w K:=by
 have hln:d.length=n:=by
  have:=ho.1
  rw[flat_len enc (k+1) d λx _=>hk x]at this
  exact Nat.eq_of_mul_eq_mul_right (Nat.succ_pos k) this
 obtain⟨hl,⟨rfl,rfl⟩|⟨b,cap,rest,rfl,hc,hh,hr,hr1⟩⟩:=ho
 ·have hd:d=[]:=List.length_eq_zero_iff.1 hln
  subst hd
  have:=AnyF.slices_SortFunc_none L none 0 (.func (.func g) #[] #[]) w
  exact⟨Calls.mono this λe w' ⟨he,hw⟩=>⟨_,he,by subst hw;exact hK _ [] (Own.nil ..) (List.Perm.refl _) List.Pairwise.nil (Mod.refl _ _)⟩⟩
 ·have hb:b<w.heap.size:=lt_of_heap hh
  have heg:=callFunc_enter hP (hcl default default w).bodied
  have hH:HoldsK enc (k+1) w b 0 d.toArray:=by
   intro j hj
   rw[size_flatK]at hj
   have hF:(flatK enc (k+1) d.toArray)[j]! =(d.flatMap enc)[j]'(by rw[hl,←hln];simpa using hj):=by
    rw[getElem!_pos _ j (by rw[size_flatK];exact hj),←Array.getElem_toList]
    congr 1
    exact flatK_toList enc (k+1) (Nat.succ_pos k) hk d.toArray
   have hj' :j<(d.flatMap enc).length:=by rw[hl,←hln];simpa using hj
   constructor
   ·simp only[World.cell?,hh,Nat.zero_add]
    rw[hF]
    simp[List.getElem?_append_left hj']
   ·simp[World.frozen?,hh]
  have hcmp:CmpLays P g #[] enc (k+1) cf b 0 d.toArray.size w:=λm os dk _ x y=>by
   refine Calls.mono (hcl x y _).out ?_
   rintro e w' ⟨v,rfl,rfl,hw⟩
   exact⟨rfl,hw⟩
  have hcon:=AnyQ.slices_SortFunc L (k+1) (run_isAgg aE) (run_sizeOf zE) enc hk (λx v hv=>List.all_eq_true.1 (h1 x) v hv) cf hO g #[] b 0 cap d.toArray w heg hcmp hH hb (by simpa [hln]using hn)
  rw[show d.toArray.size=n by simpa using hln]at hcon
  refine⟨Calls.mono hcon ?_⟩
  rintro e' w' ⟨rfl,d',m,os,hp,hs,rfl⟩
  refine⟨_,rfl,?_⟩
  have hsz:d'.size=n:=by rw[hp.1];simpa using hln
  have hfl:(flatK enc (k+1) d').toList=d'.toList.flatMap enc:=flatK_toList enc (k+1) (Nat.succ_pos k) hk d'
  have hfl2:flatK enc (k+1) d' =(d'.toList.flatMap enc).toArray:=by rw[←hfl]
  have hlen' :(d'.toList.flatMap enc).length=(d.flatMap enc).length:=by
   rw[hl,flat_len enc (k+1) _ λx _=>hk x];simp[hsz]
  have hheap:∀b',b' <w.heap.size→(sortWorldK enc (k+1) w b 0 m d' os).heap[b']? =if b' =b then some (.cells (d'.toList.flatMap enc++rest).toArray e (0,0))else w.heap[b']? :=by
   intro b' hb'
   show((w.heap.modify b (onCells (putCells id 0 (flatK enc (k+1) d'))))++os)[b']? =_
   rw[Array.getElem?_append_left (by simpa using hb'),Array.getElem?_modify]
   by_cases he:b' =b
   ·subst he
    rw[if_pos rfl,if_pos rfl,hh]
    simp only[Option.map_some,onCells]
    rw[hfl2,putCells_row _ _ _ hlen']
   ·rw[if_neg (λe=>he e.symm),if_neg he]
  have hmod:Mod (inSl (.slice (some ⟨b,0,none⟩) n cap)) w (sortWorldK enc (k+1) w b 0 m d' os):=by
   refine⟨?_,rfl,rfl,λb' hb' hf=>?_⟩
   ·show w.heap.size≤((w.heap.modify b _)++os).size
    simp
   ·rw[hheap b' hb',if_neg (λe=>hf (by subst e;rfl))]
  refine hK _ d'.toList ⟨by rw[hlen',hl],.inr ⟨b,cap,rest,rfl,hc,by rw[hheap b hb,if_pos rfl],hr,hr1⟩⟩ ?_ ?_ hmod
  ·have:=hp.2.2
   have e1:d'.extract 0 n=d' :=by rw[←hsz];simp
   have e2:d.toArray.extract 0 n=d.toArray:=by rw[←hln];simp
   rw[e1,e2]at this
   simpa using this
  ·rw[List.pairwise_iff_getElem]
   intro i j hi hj hij
   have:=hs i j (Nat.zero_le _) hij (by rw[←hsz];simpa using hj)
   rw[getElem!_pos d' i (by simpa using hi),getElem!_pos d' j (by simpa using hj)]at this
   simpa using this
end
end Go.Vc
namespace Go.Proofs
open Go Go.Vc Go.Shelf Go.RowKit Go.Lib Go.Sort
theorem dk_{p:Prop}(h:p:=by first|kernel_rfl|(intro _;kernel_rfl)):p:=h
theorem de_{f:FuncId}{B:Func}(h:((Tryz.prog.funcs[f]?.elim "" (·.name))== "runtime.NumGoroutine")=false:=by kernel_rfl)(g:Tryz.prog.funcs[f]? =some {B with name:=Tryz.prog.funcs[f]?.elim "" (·.name)}:=by kernel_rfl):Bears Tryz.prog f B:=⟨_,h,g⟩
def Tryz.sortAc_ren:Ren:=⟨λ|6=>139|15=>230|14=>229|28=>283|29=>284|20=>275|21=>276|22=>277|23=>278|24=>279|25=>280|26=>281|27=>282|46=>313|47=>314|48=>315|49=>316|50=>317|57=>353|n=>n,λ|22=>44|24=>92|25=>241|3=>3|39=>249|0=>0|53=>35|55=>27|4=>4|46=>385|45=>384|50=>292|5=>5|9=>9|66=>421|70=>424|76=>453|77=>454|n=>n,λn=>n⟩
theorem Tryz.sortAc:SlLaysF0.n6 Tryz.prog Tryz.sortAc_ren:=by constructor<;>first|exact dk_|exact de_
def Tryz.sortPo_ren:Ren:=⟨λ|6=>233|15=>230|14=>285|28=>283|29=>284|20=>318|21=>319|22=>320|23=>321|24=>322|25=>323|26=>324|27=>325|46=>354|47=>314|48=>315|49=>355|50=>356|57=>370|n=>n,λ|22=>46|24=>112|25=>330|3=>3|39=>249|0=>0|53=>35|55=>27|4=>4|46=>385|45=>384|50=>292|5=>5|9=>9|66=>421|70=>424|76=>453|77=>454|n=>n,λn=>n⟩
theorem Tryz.sortPo:SlLaysF0.n6 Tryz.prog Tryz.sortPo_ren:=by constructor<;>first|exact dk_|exact de_
end Go.Proofs
namespace Go.Proofs
open Go Go.Vc Go.Sort
theorem grow_alloc2(W:World)(o o' :Obj):∃q os,(W.alloc o).alloc o' =grow (W.drewN q) os:=
 ⟨0,#[o]++ #[o'],by rw[alloc_eq_grow,alloc_eq_grow,grow_grow];rfl⟩
def cmpAc(x y:Ac):Int:=if x.num<y.num then -1 else 1
def cmpPo(x y:Po):Int:=if klt x.key y.key then -1 else if x=y then 0 else 1
theorem ltAc(x y:Ac):ltOf cmpAc x y=decide (x.num<y.num):=by
 unfold ltOf cmpAc
 split<;>simp_all
theorem ltPo(x y:Po):ltOf cmpPo x y=klt x.key y.key:=by
 unfold ltOf cmpPo
 cases h:klt x.key y.key
 ·by_cases h2:x=y<;>simp[h2]
 ·simp
theorem swoAc:SWO (ltOf cmpAc) where
 irrefl x:=by rw[ltAc];simp
 trans x y z h1 h2:=by rw[ltAc]at*;simp at*;omega
 ntrans x y z h1 h2:=by rw[ltAc]at*;simp at*;omega
theorem swoPo:SWO (ltOf cmpPo) where
 irrefl x:=by rw[ltPo];exact klt_irr
 trans x y z h1 h2:=by rw[ltPo]at*;exact klt_trans h1 h2
 ntrans x y z h1 h2:=by
  rw[ltPo]at*
  rw[Bool.eq_false_iff,Ne,klt_iff]at*;omega
theorem ca_cmpAc(x y:Ac)(W:World):Ca Tryz.prog 140 #[.agg (cellsAc x).toArray,.agg (cellsAc y).toArray] W λv w' =>v=.int .i64 (cmpAc x y)∧∃q os,w' =grow (W.drewN q) os:=by
 apply ca140
 unfold F140
 simp[go_sem,cellsAc]
 unfold cmpAc
 split
 ·exact⟨rfl,grow_alloc2 ..⟩
 ·exact⟨rfl,grow_alloc2 ..⟩
theorem ca_cmpPo(x y:Po)(W:World):Ca Tryz.prog 234 #[.agg (cellsPo x).toArray,.agg (cellsPo y).toArray] W λv w' =>v=.int .i64 (cmpPo x y)∧∃q os,w' =grow (W.drewN q) os:=by
 apply ca234
 unfold F234
 simp[go_sem,cellsPo]
 generalize hw1:World.alloc _ _=w1
 have hgr:∃q os,w1=grow (W.drewN q) os:=by subst hw1;exact grow_alloc2 ..
 have hx:hp w1 W.heap.size=some (.cells #[.int .u32 x.c,.int .u32 x.a,.int .i64 x.q,.int .i64 x.b] 112 (0,0)):=by subst hw1;simp[go_sem]
 have hy:hp w1 (W.heap.size+1)=some (.cells #[.int .u32 y.c,.int .u32 y.a,.int .i64 y.q,.int .i64 y.b] 112 (0,0)):=by subst hw1;simp[go_sem]
 refine JoinW.at (λs W' =>s=(.bool (klt x.key y.key),())∧W' =w1) ?_ ?_
 ·simp[go_sem,hp_of hx,hp_of hy]
  unfold klt Po.key
  by_cases h1:x.c<y.c
  ·simp[h1]
  ·by_cases h2:x.c=y.c
   ·simp[h1,h2]
   ·simp[h1,h2]
 rintro _ w1 ⟨rfl,rfl⟩
 unfold J234_0
 intro _
 cases hk:klt x.key y.key
 ·simp[go_sem,hp_of hx,hp_of hy]
  have hxy:x=y↔x.c=y.c∧x.a=y.a∧x.q=y.q∧x.b=y.b:=by
   obtain⟨c,a,q,b⟩:=x
   obtain⟨c',a',q',b'⟩:=y
   simp
  by_cases h1:x.c=y.c<;>by_cases h2:x.a=y.a<;>by_cases h3:x.q=y.q<;>by_cases h4:x.b=y.b<;>simp[h1,h2,h3,h4]<;>exact⟨by simp[cmpPo,hk,hxy,h1,h2,h3,h4],hgr⟩
 ·simp
  exact⟨by simp[cmpPo,hk],hgr⟩
theorem acE1:elemOk Tryz.prog 92 4 24=true:=by kernel_rfl
end Go.Proofs
namespace Go.Proofs
open Go Go.Vc Go.Sort
theorem ca_sortAc{w:World}{sl:Value}{n:Nat}{d:List Ac}{K:Kont}(ho:Own w 92 4 sl n (d.flatMap cellsAc))(hn:n<4611686018427387904)
  (hK:∀(w' :World) (d' :List Ac),Own w' 92 4 sl n (d'.flatMap cellsAc)→d'.Perm d→d'.Pairwise (λx y=>ltOf cmpAc y x=false)→Mod (inSl sl) w w' →K (.tuple #[]) w'):
  Ca Tryz.prog 139 #[sl,.func (.func 140) #[] #[]] w K:=
 ca_sortK (P:=Tryz.prog) (α:=Ac) Tryz.noNum Tryz.sortAc 3 (by kernel_rfl) (by kernel_rfl) cellsAc (λ_=>rfl) (λ_=>rfl) cmpAc swoAc 140 ca_cmpAc ho hn hK
theorem ca_told1Ac{y sl:Value}{b n:Nat}{T:TypeId}{xs:List Ac}(J:Nat→World→Prop)(Js:World→Prop){W:World}{K:Kont}(hb:hp W b=some (.cells #[sl] T (0,0)))(ho:Own W 92 4 sl n (xs.flatMap cellsAc))(hn:n<4611686018427387904)
  (h0:J 0 W)(hmod:∀i W W',J i W→Mod (λ_=>False) W W' →J i W')
  (hstep:∀i x W,xs[i]? =some x→J i W→∀K' :Kont,(∀W',J (i+1) W' →(∀b,inSl sl b→W'.heap[b]? =W.heap[b]?)→K' (.bool true) W')→(∀W',Js W' →K' (.bool false) W')→callV Tryz.prog y [acV x] W K')
  (hend:∀W,J xs.length W→K (.tuple #[]) W)(hex:∀W,Js W→K (.tuple #[]) W):Ca Tryz.prog 231 #[y,.pointer (some ⟨b,0,none⟩)] W K:=by
 have hln:xs.length=n:=by
  have:=ho.1
  rw[flat_len cellsAc 4 xs λx _=>rfl]at this
  omega
 obtain⟨sa,sc,rfl,hsc⟩:=ho.isSl
 apply ca231
 unfold F231
 simp[go_sem,hp_of hb]
 refine loopK (λs W' =>∃i:Nat,i≤n∧s=(.int .i64 i,())∧J i W' ∧Own W' 92 4 (.slice sa n sc) n (xs.flatMap cellsAc))
  (λs _=>match s.1 with| .int _ i=>n - i.toNat|_=>0) ⟨0,by omega,rfl,h0,ho⟩ ?_
 rintro⟨_,_⟩ W' ⟨i,hi,⟨⟩,hJ,hO⟩ KN hKN
 unfold L231_0
 intro _
 by_cases hlt:i<n
 ·obtain⟨b',cap,hsl,hAt⟩:=Own.elem hO hlt
  obtain⟨rfl,-,rfl⟩:sa=some ⟨b',0,none⟩∧True∧sc=cap:=by injection hsl with e1 e2 e3;exact⟨e1,trivial,e3⟩
  rw[flat_get cellsAc 4 _ _ (λ_ _=>rfl) (by omega)]at hAt
  obtain⟨C,e,fz,hC,hCg⟩:=hAt.get
  have hC0:=hCg 0 _ rfl
  have hC1:=hCg 1 _ rfl
  have hC2:=hCg 2 _ rfl
  have hC3:=hCg 3 _ rfl
  simp only[Nat.zero_add,Nat.add_zero]at hC0 hC1 hC2 hC3
  have hw1:IntKind.i64.wrap ((i:Int)+1)=((i+1:Nat):Int):=by rw[IntKind.wrap_i64];omega
  simp[-Int.natCast_add,go_sem,hlt,hC,hC0,hC1,hC2,hC3]
  have hx:xs[i]? =some xs[i]:=List.getElem?_eq_getElem (by omega)
  have mA:∀o,Mod (λ_=>False) W' (W'.alloc o):=λo=>(Mod.refl _ W').alloc o
  refine hstep i _ _ hx (hmod _ _ _ hJ (mA _)) _ (λW2 hJ2 hq=>?_) (λW2 hs=>?_)
  ·simp[-Int.natCast_add,go_sem,hw1]
   refine hKN _ _ ⟨i+1,by omega,rfl,hJ2,(hO.mod (mA _) λ_ _ h=>h).keep hq⟩ (by simp;omega)
  ·simp[go_sem]
   exact hex _ hs
 ·obtain rfl:i=n:=by omega
  simp[go_sem]
  exact hend _ (hln▸hJ)
theorem ca_sortPo{w:World}{sl:Value}{n:Nat}{d:List Po}{K:Kont}(ho:Own w 112 4 sl n (d.flatMap cellsPo))(hn:n<4611686018427387904)
  (hK:∀(w' :World) (d' :List Po),Own w' 112 4 sl n (d'.flatMap cellsPo)→d'.Perm d→d'.Pairwise (λx y=>ltOf cmpPo y x=false)→Mod (inSl sl) w w' →K (.tuple #[]) w'):
  Ca Tryz.prog 233 #[sl,.func (.func 234) #[] #[]] w K:=
 ca_sortK (P:=Tryz.prog) (α:=Po) Tryz.noNum Tryz.sortPo 3 (by kernel_rfl) (by kernel_rfl) cellsPo (λ_=>rfl) (λ_=>rfl) cmpPo swoPo 234 ca_cmpPo ho hn hK
theorem ca_told1Po{y sl:Value}{b n:Nat}{T:TypeId}{xs:List Po}(J:Nat→World→Prop)(Js:World→Prop){W:World}{K:Kont}(hb:hp W b=some (.cells #[sl] T (0,0)))(ho:Own W 112 4 sl n (xs.flatMap cellsPo))(hn:n<4611686018427387904)
  (h0:J 0 W)(hmod:∀i W W',J i W→Mod (λ_=>False) W W' →J i W')
  (hstep:∀i x W,xs[i]? =some x→J i W→∀K' :Kont,(∀W',J (i+1) W' →(∀b,inSl sl b→W'.heap[b]? =W.heap[b]?)→K' (.bool true) W')→(∀W',Js W' →K' (.bool false) W')→callV Tryz.prog y [poV x] W K')
  (hend:∀W,J xs.length W→K (.tuple #[]) W)(hex:∀W,Js W→K (.tuple #[]) W):Ca Tryz.prog 286 #[y,.pointer (some ⟨b,0,none⟩)] W K:=by
 have hln:xs.length=n:=by
  have:=ho.1
  rw[flat_len cellsPo 4 xs λx _=>rfl]at this
  omega
 obtain⟨sa,sc,rfl,hsc⟩:=ho.isSl
 apply ca286
 unfold F286
 simp[go_sem,hp_of hb]
 refine loopK (λs W' =>∃i:Nat,i≤n∧s=(.int .i64 i,())∧J i W' ∧Own W' 112 4 (.slice sa n sc) n (xs.flatMap cellsPo))
  (λs _=>match s.1 with| .int _ i=>n - i.toNat|_=>0) ⟨0,by omega,rfl,h0,ho⟩ ?_
 rintro⟨_,_⟩ W' ⟨i,hi,⟨⟩,hJ,hO⟩ KN hKN
 unfold L286_0
 intro _
 by_cases hlt:i<n
 ·obtain⟨b',cap,hsl,hAt⟩:=Own.elem hO hlt
  obtain⟨rfl,-,rfl⟩:sa=some ⟨b',0,none⟩∧True∧sc=cap:=by injection hsl with e1 e2 e3;exact⟨e1,trivial,e3⟩
  rw[flat_get cellsPo 4 _ _ (λ_ _=>rfl) (by omega)]at hAt
  obtain⟨C,e,fz,hC,hCg⟩:=hAt.get
  have hC0:=hCg 0 _ rfl
  have hC1:=hCg 1 _ rfl
  have hC2:=hCg 2 _ rfl
  have hC3:=hCg 3 _ rfl
  simp only[Nat.zero_add,Nat.add_zero]at hC0 hC1 hC2 hC3
  have hw1:IntKind.i64.wrap ((i:Int)+1)=((i+1:Nat):Int):=by rw[IntKind.wrap_i64];omega
  simp[-Int.natCast_add,go_sem,hlt,hC,hC0,hC1,hC2,hC3]
  have hx:xs[i]? =some xs[i]:=List.getElem?_eq_getElem (by omega)
  have mA:∀o,Mod (λ_=>False) W' (W'.alloc o):=λo=>(Mod.refl _ W').alloc o
  refine hstep i _ _ hx (hmod _ _ _ hJ (mA _)) _ (λW2 hJ2 hq=>?_) (λW2 hs=>?_)
  ·simp[-Int.natCast_add,go_sem,hw1]
   refine hKN _ _ ⟨i+1,by omega,rfl,hJ2,(hO.mod (mA _) λ_ _ h=>h).keep hq⟩ (by simp;omega)
  ·simp[go_sem]
   exact hex _ hs
 ·obtain rfl:i=n:=by omega
  simp[go_sem]
  exact hend _ (hln▸hJ)
end Go.Proofs
namespace Go.Proofs
open Go Go.Vc Go.Sort
theorem sortedA{d l:List Ac}(hl:SortA l)(hp:d.Perm l)(hd:d.Pairwise λx y=>ltOf cmpAc y x=false):d=l:=by
 refine hp.eq_of_pairwise (λa b ha hb h1 h2=>?_) hd (hl.imp λh=>?_)
 ·rw[ltAc]at h1 h2
  simp only[decide_eq_false_iff_not]at h1 h2
  have ha' :=hp.mem_iff.1 ha
  have e:a.num=b.num:=by omega
  have h3:=Led.find_some (S:=⟨0,l,[]⟩) hl ha'
  have h4:=Led.find_some (S:=⟨0,l,[]⟩) hl hb
  rw[e,h4]at h3
  exact(Option.some.inj h3).symm
 ·rw[ltAc]
  simp only[decide_eq_false_iff_not]
  omega
theorem sortedP{d l:List Po}(hl:SortP l)(hp:d.Perm l)(hd:d.Pairwise λx y=>ltOf cmpPo y x=false):d=l:=by
 refine hp.eq_of_pairwise (λa b ha hb h1 h2=>?_) hd (hl.imp λh=>?_)
 ·rw[ltPo]at h1 h2
  have ha' :=hp.mem_iff.1 ha
  have e:a.key=b.key:=by
   rcases klt_tri a.key b.key with h|h|h
   ·rw[h]at h2;cases h2
   ·exact h
   ·rw[h]at h1;cases h1
  have h3:=Led.pos_some (S:=⟨0,[],l⟩) hl ha'
  have h4:=Led.pos_some (S:=⟨0,[],l⟩) hl hb
  rw[e,h4]at h3
  exact(Option.some.inj h3).symm
 ·rw[ltPo]
  exact klt_asymm h
theorem push1{e ty tu:TypeId}{k by_:Nat}{α:Type}{enc:α→List Value}{w:World}{v:Value}{d:List α}{x:α}{K:Kont}(ht:Tryz.prog.underlying tu=some (.slice e))(hE:elemOk Tryz.prog e (k+1) by_=true)(hx:(enc x).length=k+1)(h1:(enc x).all (·.oneCell')=true)(hk:k<1000)(hby:by_≤10000)
  (ho:Own w e (k+1) v d.length (d.flatMap enc))(hd:d.length<4294967296)
  (hK:∀v' w',Own w' e (k+1) v' (d++[x]).length ((d++[x]).flatMap enc)→Mod (inSl v) w w' →(∀b,inSl v' b→inSl v b∨w.heap.size≤b)→K v' w'):
  rx Tryz.prog (xLit tu 1 [(0,.agg (enc x).toArray)]) w λv36 w37=>rx Tryz.prog (xAppend #[tu,tu] ty [v,v36]) w37 K:=by
 refine rx_lit (e:=e) (sz:=k+1) [.agg (enc x).toArray] ht (elemT_of hE) rfl rfl (by simp[Value.cells,hx]) (by omega) ?_
 have mA:∀o,Mod (λ_=>False) w (w.alloc o):=λo=>(Mod.refl _ w).alloc o
 have hr:Rd (w.alloc (.cells (([Value.agg (enc x).toArray].flatMap (·.cells.toList)).toArray) e)) (k+1) (.slice (some ⟨w.heap.size,0,none⟩) 1 1) 1 (enc x):=by
  refine⟨by rw[hx];omega,.inr ⟨_,0,1,rfl,Nat.le_refl _,⟨_,_,_,by rw[heap_alloc,if_pos rfl],?_,?_⟩⟩⟩
  ·simp[Value.cells]
  ·simp[Value.cells]
 refine rx_append (n:=d.length) (m:=1) ht ht (elemT_of hE) (ho.mod (mA _) λ_ _ h=>h) hr h1 ?_ λv' w' o' m' n' =>?_
 ·have:(d.length+1)*by_≤4294967296*10000:=Nat.mul_le_mul (by omega) hby
  omega
 ·refine hK v' w' ?_ (((mA _).mono λ_ _ h=>h.elim).trans m') λb hb=>?_
  ·simpa using o'
  ·rcases n' b hb with h|h
   ·exact .inl h
   ·rw[World.size_alloc]at h;exact .inr (by omega)
theorem tSlA:Tryz.prog.underlying 44=some (.slice 92):=by kernel_rfl
theorem tSlP:Tryz.prog.underlying 46=some (.slice 112):=by kernel_rfl
theorem it_accounts{l b:Nat}{S:Led}{T:TypeId}:IterN Tryz.prog (.func (.func 138) #[] #[.pointer (some ⟨b,0,none⟩)]) (S.all.map λa=>[acV a]) (λW=>hp W b=some (.cells #[lptr l] T (0,0))∧∃F,LedQ W l F S):=by
 refine⟨⟨_,_,_,rfl,?_⟩⟩
 rintro y J Js W K ⟨hb,F,hq⟩ hQ hmod hstep hend hex
 have hq0:=hq
 obtain⟨⟨m1,m2,A,B,h1,h2,h3,h4,h5,h6,h7⟩,hok⟩:=hq
 show Ca Tryz.prog _ #[y,.pointer (some ⟨b,0,none⟩)] W K
 apply ca138
 unfold F138
 refine JoinW.at (λs W' =>∃(d:List Ac) (v:Value),s=(v,())∧Own W' 92 4 v d.length (d.flatMap cellsAc)∧d.Perm S.all∧Mod (λ_=>False) W W' ∧∀b,inSl v b→W.heap.size≤b) ?_ ?_
 ·simp[go_sem,hp_of hb]
  refine ca_ready hq0 ?_
  simp[go_sem,hp_of hb,lptr,hp_of h1]
  refine rx_range uMapA h2 λw1 it1 mod1=>?_
  generalize hg:W.heap.size=it at it1
  refine loopK (λs W' =>∃(d:List Ac) (v:Value) (rest:List (Int×Ac)),s=(v,())∧Own W' 92 4 v d.length (d.flatMap cellsAc)∧MapIt encU acV W' it m1 rest∧(d++(rest.filter λp=>decide (p.1≠0)).map (·.2)).Perm S.all∧Mod (λ_=>False) W W' ∧∀b,inSl v b→it<b)
   (λs W=>itLeft it m1 W) ⟨[],_,A,rfl,Own.nil ..,it1,?_,mod1,λb hb=>by cases hb⟩ ?_
  ·have:=(h4.filter λp=>decide (p.1≠0)).map (·.2)
   refine this.trans (List.Perm.of_eq ?_)
   simp only[Led.accs]
   rw[List.filter_cons_of_neg (by simp),List.filter_eq_self.2 ?_,List.map_map]
   ·exact List.map_id _
   ·intro p hp
    obtain⟨a,ha,rfl⟩:=List.mem_map.1 hp
    have:=(hok.acc a ha).1
    simp;omega
  rintro⟨v,_⟩ W1 ⟨d,_,rest,⟨⟩,oW,itW,hp,mW,hv⟩ KN hKN
  unfold L138_0
  intro _
  refine rx_next itW ?_ ?_
  ·intro h0 w' m' hh
   subst h0
   simp[go_sem]
   exact⟨d,oW.mod m' λ_ _ h=>h,by simpa using hp,mW.trans m',λb hb=>by have:=hv b hb;omega⟩
  ·intro i p hi w' it' cur' m' hsz
   simp[go_sem]
   refine rx_entry cur' ?_
   simp[go_sem,acV,encU]
   have hpe:=perm_eraseIdx hi
   have mA:∀o,Mod (λ_=>False) W (w'.alloc o):=λo=>(mW.on m' λb hb=>.inr (by subst hb;omega)).alloc o
   have itA:∀o,MapIt encU acV (w'.alloc o) it m1 (rest.eraseIdx i):=λo=>it'.mod ((Mod.refl (λ_=>False) w').alloc o) id id
   have oA:∀o,Own (w'.alloc o) 92 4 v d.length (d.flatMap cellsAc):=λo=>(oW.mod m' λb hb e=>by have:=hv b hb;omega).mod ((Mod.refl (λ_=>False) w').alloc o) λ_ _ h=>h
   have hle:∀W',MapIt encU acV W' it m1 (rest.eraseIdx i)→itLeft it m1 W' <itLeft it m1 W1:=λW' h=>by
    rw[h.left,itW.left,List.length_eraseIdx]
    have:i<rest.length:=(List.getElem?_eq_some_iff.1 hi).1
    rw[if_pos this];omega
   have hdl:d.length≤64:=by
    have h1:=hp.length_eq
    have h2:=hok.len
    simp only[List.length_append]at h1
    omega
   by_cases hz:p.1=0
   ·rw[if_pos hz]
    refine hKN _ _ ⟨d,_,_,rfl,oA _,itA _,?_,mA _,hv⟩ (hle _ (itA _))
    refine(List.Perm.append_left d ?_).trans hp
    have:=(hpe.filter λp=>decide (p.1≠0)).map (·.2)
    rw[List.filter_cons_of_neg (by simp[hz])]at this
    exact this.symm
   ·rw[if_neg hz]
    refine push1 (d:=d) (enc:=cellsAc) (x:=p.2) (k:=3) tSlA acE1 rfl rfl (by omega) (by omega) (oA _) (by omega) λv' w'' o' m'' n' =>?_
    have hitv:¬inSl v it:=λh=>by have:=hv it h;omega
    have hmv:¬inSl v m1:=λh=>by have:=hv m1 h;have:=h2.lt;omega
    refine hKN _ _ ⟨d++[p.2],v',_,rfl,o',(itA _).mod m'' hmv hitv,?_,(mA _).on m'' λb hb=>.inr (by have:=hv b hb;omega),λb hb=>?_⟩ (hle _ ((itA _).mod m'' hmv hitv))
    ·have:=(hpe.filter λp=>decide (p.1≠0)).map (·.2)
     rw[List.filter_cons_of_pos (by simpa using hz),List.map_cons]at this
     rw[List.append_assoc]
     exact(List.Perm.append_left d this.symm).trans hp
    ·rcases n' b hb with h|h
     ·exact hv b h
     ·rw[World.size_alloc,hsz]at h
      have:=itW.lt.2
      omega
 rintro _ W1 ⟨d,v,rfl,oW,hp,mW,hv⟩
 unfold J138_1
 intro _
 have hdl:d.length≤64:=by
  have h1:=hp.length_eq
  have h2:=hok.len
  omega
 refine ca_sortAc oW (by omega) λw2 d' o2 p2 s2 m2' =>?_
 obtain rfl:d' =S.all:=sortedA hok.sa (p2.trans hp) s2
 obtain⟨sa,sc,rfl,hsc⟩:=o2.isSl
 apply ca141
 unfold F141
 simp[go_sem]
 have mW2:Mod (λ_=>False) W w2:=mW.on m2' λb hb=>.inr (hv b hb)
 have mA:∀o,Mod (λ_=>False) W (w2.alloc o):=λo=>mW2.alloc o
 refine ca_told1Ac (n:=d.length) (sl:=.slice sa d.length sc) (T:=44) (J (inSl (.slice sa d.length sc))) Js (by simp[go_sem]) (o2.mod ((Mod.refl (λ_=>False) w2).alloc _) λ_ _ h=>h) (by omega) (hQ _ _ (mA _) λb hb=>⟨hv b hb,?_⟩) (hmod _) ?_ ?_ hex
 ·have:=o2.lt hb
  rw[World.size_alloc];omega
 ·intro i x W' hx hJ K' hT hF
  exact hstep _ i [acV x] W' (by simp[hx]) hJ K' hT hF
 ·intro W' hJ
  exact hend _ W' (by simpa using hJ)
end Go.Proofs
namespace Go.Proofs
open Go Go.Vc Go.Sort
theorem it_some{l b b2 f:Nat}{cap:Array Value}{S:Led}{T T2:TypeId}{want:Po→Bool}{Wk:World→Prop}(hWk:∀W W',Wk W→Mod (λ_=>False) W W' →Wk W')
  (hwant:∀p W (K:Kont),Wk W→(∀W',Mod (λ_=>False) W W' →K (.bool (want p)) W')→Ca Tryz.prog f ⟨poV p::cap.toList⟩ W K):
  IterN Tryz.prog (.func (.func 232) #[] #[.pointer (some ⟨b,0,none⟩),.pointer (some ⟨b2,0,none⟩)]) ((S.held.filter want).map λa=>[poV a])
   (λW=>hp W b=some (.cells #[lptr l] T (0,0))∧hp W b2=some (.cells #[.func (.func f) #[] cap] T2 (0,0))∧Wk W∧S.held.length<4294967295∧∃F,LedQ W l F S):=by
 refine⟨⟨_,_,_,rfl,?_⟩⟩
 rintro y J Js W K ⟨hb,hb2,hwk,hlen,F,hq⟩ hQ hmod hstep hend hex
 have hq0:=hq
 obtain⟨⟨m1,m2,A,B,h1,h2,h3,h4,h5,h6,h7⟩,hok⟩:=hq
 show Ca Tryz.prog _ #[y,.pointer (some ⟨b,0,none⟩),.pointer (some ⟨b2,0,none⟩)] W K
 apply ca232
 unfold F232
 refine JoinW.at (λs W' =>∃(d:List Po) (v:Value),s=(v,())∧Own W' 112 4 v d.length (d.flatMap cellsPo)∧d.Perm (S.held.filter want)∧Mod (λ_=>False) W W' ∧∀b,inSl v b→W.heap.size≤b) ?_ ?_
 ·simp[go_sem,hp_of hb]
  refine ca_ready hq0 ?_
  simp[go_sem,hp_of hb,lptr,hp_of h1]
  refine rx_range uMapP h3 λw1 it1 mod1=>?_
  generalize hg:W.heap.size=it at it1
  refine loopK (λs W' =>∃(d:List Po) (v:Value) (rest:List ((Int×Int)×Po)),s=(v,())∧Own W' 112 4 v d.length (d.flatMap cellsPo)∧MapIt encKey poV W' it m2 rest∧(d++(rest.map (·.2)).filter want).Perm (S.held.filter want)∧Mod (λ_=>False) W W' ∧∀b,inSl v b→it<b)
   (λs W=>itLeft it m2 W) ⟨[],_,B,rfl,Own.nil ..,it1,?_,mod1,λb hb=>by cases hb⟩ ?_
  ·have:=(h5.map (·.2)).filter want
   refine this.trans (List.Perm.of_eq ?_)
   simp only[Led.poss,List.map_map]
   congr 1
   exact List.map_id _
  rintro⟨v,_⟩ W1 ⟨d,_,rest,⟨⟩,oW,itW,hpm,mW,hv⟩ KN hKN
  unfold L232_0
  intro _
  refine rx_next itW ?_ ?_
  ·intro h0 w' m' hh
   subst h0
   simp[go_sem]
   exact⟨d,oW.mod m' λ_ _ h=>h,by simpa using hpm,mW.trans m',λb hb=>by have:=hv b hb;omega⟩
  ·intro i p hi w' it' cur' m' hsz
   simp[go_sem]
   refine rx_entry cur' ?_
   have mA0:∀o,Mod (λ_=>False) W (w'.alloc o):=λo=>(mW.on m' λb hb=>.inr (by subst hb;omega)).alloc o
   have hb2' :=λo=>(mA0 o).keep hb2 id
   have hne2:b2≠w'.heap.size:=by
    have h1:=lt_of_heap hb2
    have h2:=mW.size
    omega
   have hb2w:w'.heap[b2]? =some (.cells #[.func (.func f) #[] cap] T2 (0,0)):=(mW.on (F:=λ_=>False) m' λb hb=>.inr (by subst hb;omega)).keep hb2 id
   simp[go_sem,poV,encKey,hp_of hb2w,hne2]
   have hpe:=perm_eraseIdx hi
   generalize hw2:World.alloc _ _=w2
   have mA:Mod (λ_=>False) W w2:=by subst hw2;exact mA0 _
   have hloc:hp w2 w'.heap.size=some (.cells #[.int .u32 p.2.c,.int .u32 p.2.a,.int .i64 p.2.q,.int .i64 p.2.b] 112 (0,0)):=by subst hw2;simp[go_sem]
   have m02:Mod (λ_=>False) w' w2:=by subst hw2;exact(Mod.refl _ w').alloc _
   refine hwant p.2 w2 _ (hWk _ _ hwk mA) λw3 m3=>?_
   have hloc3:=m3.keep hloc id
   have m03:=m02.trans m3
   have mA3:=mA.trans m3
   have it3:MapIt encKey poV w3 it m2 (rest.eraseIdx i):=it'.mod m03 id id
   have o3:Own w3 112 4 v d.length (d.flatMap cellsPo):=(oW.mod m' λb hb e=>by have:=hv b hb;omega).mod m03 λ_ _ h=>h
   have hle:∀W',MapIt encKey poV W' it m2 (rest.eraseIdx i)→itLeft it m2 W' <itLeft it m2 W1:=λW' h=>by
    rw[h.left,itW.left,List.length_eraseIdx]
    have:i<rest.length:=(List.getElem?_eq_some_iff.1 hi).1
    rw[if_pos this];omega
   have hdl:d.length<4294967295:=by
    have h1:=hpm.length_eq
    have h2:=List.length_filter_le want S.held
    simp only[List.length_append]at h1
    omega
   cases hz:want p.2
   ·simp
    refine hKN _ _ ⟨d,_,_,rfl,o3,it3,?_,mA3,hv⟩ (hle _ it3)
    refine(List.Perm.append_left d ?_).trans hpm
    have:=(hpe.map (·.2)).filter want
    rw[List.map_cons,List.filter_cons_of_neg (by simp[hz])]at this
    exact this.symm
   ·simp[go_sem,hp_of hloc3]
    refine push1 (d:=d) (enc:=cellsPo) (x:=p.2) (k:=3) tSlP poE1 rfl rfl (by omega) (by omega) o3 (by omega) λv' w'' o' m'' n' =>?_
    have hitv:¬inSl v it:=λh=>by have:=hv it h;omega
    have hmv:¬inSl v m2:=λh=>by have:=hv m2 h;have:=h3.lt;omega
    refine hKN _ _ ⟨d++[p.2],v',_,rfl,o',it3.mod m'' hmv hitv,?_,mA3.on m'' λb hb=>.inr (by have:=hv b hb;omega),λb hb=>?_⟩ (hle _ (it3.mod m'' hmv hitv))
    ·have:=(hpe.map (·.2)).filter want
     rw[List.map_cons,List.filter_cons_of_pos (by simpa using hz)]at this
     rw[List.append_assoc]
     exact(List.Perm.append_left d this.symm).trans hpm
    ·rcases n' b hb with h|h
     ·exact hv b h
     ·have:=it3.lt.2
      have:=m03.size
      have:=itW.lt.2
      omega
 rintro _ W1 ⟨d,v,rfl,oW,hp,mW,hv⟩
 unfold J232_1
 intro _
 have hdl:d.length<4294967295:=by
  have h1:=hp.length_eq
  have h2:=List.length_filter_le want S.held
  omega
 refine ca_sortPo oW (by omega) λw2 d' o2 p2 s2 m2' =>?_
 obtain rfl:d' =S.held.filter want:=sortedP (hok.sp.filter want) (p2.trans hp) s2
 obtain⟨sa,sc,rfl,hsc⟩:=o2.isSl
 apply ca235
 unfold F235
 simp[go_sem]
 have mW2:Mod (λ_=>False) W w2:=mW.on m2' λb hb=>.inr (hv b hb)
 have mA:∀o,Mod (λ_=>False) W (w2.alloc o):=λo=>mW2.alloc o
 refine ca_told1Po (n:=d.length) (sl:=.slice sa d.length sc) (T:=46) (J (inSl (.slice sa d.length sc))) Js (by simp[go_sem]) (o2.mod ((Mod.refl (λ_=>False) w2).alloc _) λ_ _ h=>h) (by omega) (hQ _ _ (mA _) λb hb=>⟨hv b hb,?_⟩) (hmod _) ?_ ?_ hex
 ·have:=o2.lt hb
  rw[World.size_alloc];omega
 ·intro i x W' hx hJ K' hT hF
  exact hstep _ i [poV x] W' (by simp[hx]) hJ K' hT hF
 ·intro W' hJ
  exact hend _ W' (by simpa using hJ)
structure Tells(gv:Value)(xs:List (List Value))(w:World):Prop where
 out:∃Ok,IterN Tryz.prog gv xs Ok∧∀W,Mod (λ_=>False) w W→Ok W
 fn:∃f cap,gv=.func (.func f) #[] cap
theorem ca_accounts{w:World}{l:Nat}{F:Nat→Prop}{S:Led}{K:Kont}(h:LedQ w l F S)
  (hK:∀gv w',Tells gv (S.all.map λa=>[acV a]) w' →Mod (λ_=>False) w w' →K gv w'):Ca Tryz.prog 55 #[lptr l] w K:=by
 apply ca55
 unfold F55
 simp[go_sem,lptr]
 refine hK _ _ ⟨⟨_,it_accounts (l:=l) (b:=w.heap.size) (T:=62),λW m=>⟨m.keep ?_ id,F,h.mod (((Mod.refl (λ_=>False) w).alloc _).trans m) λ_ _ h=>h⟩⟩,_,_,rfl⟩ ((Mod.refl _ w).alloc _)
 rw[heap_alloc,if_pos rfl]
 rfl
theorem ca_holders{w:World}{l:Nat}{F:Nat→Prop}{S:Led}{K:Kont}{c:Int}(h:LedQ w l F S)(hl:S.held.length<4294967295)
  (hK:∀gv w',Tells gv ((S.holders c).map λa=>[poV a]) w' →Mod (λ_=>False) w w' →K gv w'):Ca Tryz.prog 56 #[lptr l,.int .u32 c] w K:=by
 apply ca56
 unfold F56
 simp[go_sem]
 apply ca142
 unfold F142
 simp[go_sem,lptr]
 generalize hw2:World.alloc _ _=w2
 have m2:Mod (λ_=>False) w w2:=by subst hw2;exact(((Mod.refl _ w).alloc _).alloc _).alloc _
 have g0:hp w2 w.heap.size=some (.cells #[.int .u32 c] 35 (0,0)):=by subst hw2;simp[go_sem]
 have g1:hp w2 (w.heap.size+1)=some (.cells #[lptr l] 62 (0,0)):=by subst hw2;simp[go_sem,lptr]
 have g2:hp w2 (w.heap.size+2)=some (.cells #[.func (.func 143) #[] #[.pointer (some ⟨w.heap.size,0,none⟩)]] 244 (0,0)):=by subst hw2;simp[go_sem]
 refine hK _ _ ⟨⟨_,it_some (l:=l) (b:=w.heap.size+1) (b2:=w.heap.size+2) (f:=143) (cap:=#[.pointer (some ⟨w.heap.size,0,none⟩)]) (T:=62) (T2:=244) (Wk:=λW=>hp W w.heap.size=some (.cells #[.int .u32 c] 35 (0,0)))
  (want:=λp=>decide (p.c=c)) (λW W' hh m=>m.keep hh id) ?_,λW m=>⟨m.keep g1 id,m.keep g2 id,m.keep g0 id,hl,F,h.mod (m2.trans m) λ_ _ h=>h⟩⟩,_,_,rfl⟩ m2
 intro p W K hW hK
 apply ca143
 unfold F143
 have hlt:=lt_of_heap hW
 simp[go_sem,poV,hp_of hW,olds hlt]
 have:=hK _ ((Mod.refl _ W).alloc (.cells #[.int .u32 p.c,.int .u32 p.a,.int .i64 p.q,.int .i64 p.b] 112))
 rw[show(p.c==c)=decide (p.c=c) by rw[Bool.eq_iff_iff];simp]
 exact this
end Go.Proofs
namespace Go.Proofs
open Go Go.Vc Go.Sort
theorem retD_hp{d:Nat}{ds:List Nat}{w:World}{K:World→Prop}:retD (d::ds) w K↔hp w d=some (.deferred (some []))∧retD ds (w.putObj d (.deferred none)) K:=Iff.rfl
theorem retD_nil{w:World}{K:World→Prop}:retD [] w K↔K w:=Iff.rfl
end Go.Proofs
namespace Go.Proofs
open Go Go.Vc
attribute [local congr] Ca_congV
theorem retV{W:World}{K:World→Prop}:∀{ds:List Nat},ds.Nodup→(∀d∈ds,hp W d=some (.deferred (some [])))→(∀W',Mod (λb=>b∈ds) W W' →K W')→retD ds W K:=by
 intro ds
 induction ds generalizing W with
 |nil=>intro _ _ hK;exact retD_nil.2 (hK W (Mod.refl _ _))
 |cons d ds ih=>
  intro hn hd hK
  obtain⟨h1,h2⟩:=List.nodup_cons.1 hn
  refine retD_hp.2 ⟨hd d List.mem_cons_self,ih h2 (λx hx=>?_) λW' m=>hK W' ?_⟩
  ·rw[hp_putObj,if_neg (λe:x=d=>h1 (e▸hx))]
   exact hd x (List.mem_cons_of_mem _ hx)
  ·exact((Mod.refl (λb=>b∈d::ds) W).putObj (b:=d) (.inl List.mem_cons_self) _).trans (m.mono λb _ hb=>List.mem_cons_of_mem _ hb)
theorem it_sall{s b:Nat}{buy:Bool}{l:List Od}{T:TypeId}:IterN Tryz.prog (.func (.func 236) #[] #[.pointer (some ⟨b,0,none⟩)]) (l.map λo=>[odV o]) (λW=>hp W b=some (.cells #[sptr s] T (0,0))∧∃F,SideQ W s F buy l):=by
 refine⟨⟨_,_,_,rfl,?_⟩⟩
 rintro y J Js W K ⟨hb,F,hq⟩ hQ hmod hstep hend hex
 show Ca Tryz.prog _ #[y,.pointer (some ⟨b,0,none⟩)] W K
 apply ca236
 unfold F236
 refine rvS (v:=sptr s) (w' :=W) (by simp[go_sem,hb]) ?_
 refine ca_sready hq ?_
 refine rvS (v:=.bool false) (by simp[go_sem]<;>first|exact⟨rfl,rfl⟩|exact rfl) ?_
 rw[ifB_bool,if_neg Bool.false_ne_true]
 obtain⟨⟨sl,c1,c2,c3,c4⟩,c5,c6⟩:=id hq
 refine rvS (v:=sptr s) (w' :=W) (by simp[go_sem,hb]) ?_
 simp only[sptr,nilK_ptr]
 refine rvS (by simp[-Int.natCast_add,go_sem,c1]<;>first|exact⟨rfl,rfl⟩|exact rfl) ?_
 refine rvS (by simp[-Int.natCast_add,go_sem,c1]<;>first|exact⟨rfl,rfl⟩|exact rfl) ?_
 refine ca_cloneOd (l:=l) c2.rd (by omega) λs2 w2 o2 m2 n2=>?_
 obtain⟨sa,sc,hs2,-⟩:=o2.isSl
 refine rnS (v:=.int .i64 (l.length:Int)) (w' :=w2) (by rw[hs2];simp[go_sem]) ?_
 have hJ0:J (inSl s2) 0 w2:=hQ _ _ m2 λb hb=>⟨n2 b hb,o2.lt hb⟩
 refine loopV (λst W' =>∃i:Nat,i≤l.length∧st=(.int .i64 i,())∧J (inSl s2) i W' ∧OdS W' s2 l)
  (λst _=>match st.1 with| .int _ i=>l.length - i.toNat|_=>0) ⟨0,by omega,rfl,hJ0,o2⟩ ?_
 rintro⟨_,_⟩ W' ⟨i,hi,⟨⟩,hJ,hO⟩ KN hKN
 unfold L236_0
 intro _
 by_cases hlt:i<l.length
 ·have hlt' :(i:Int)<(l.length:Int):=by omega
  refine rvS (v:=.bool true) (by simp[go_sem,hlt']<;>first|exact⟨rfl,rfl⟩|exact rfl) ?_
  rw[ifB_bool,if_pos rfl]
  obtain⟨b',cap',hsl,hix,hld⟩:=hO.load hlt
  refine rvS (hix .i64) (rvS hld ?_)
  obtain⟨w3,e3,b3,m3⟩:=newOd W'
  refine rvS e3 ?_
  obtain⟨q,hq0⟩:∃q,q=W'.heap.size:=⟨_,rfl⟩
  rw[←hq0]at b3⊢
  obtain⟨w4,e4,b4,m4⟩:=setOd (o' :=l[i]) b3
  refine ruS e4 ?_
  have M4:Mod (λ_=>False) W' w4:=m3.on m4 λb hb=>.inr (by omega)
  refine rvS (ldOd (o:=l[i]) (At.all b4)) ?_
  have hO4:=hO.mod M4 λ_ _ h=>h
  refine hstep (inSl s2) i [odV l[i]] w4 (by simp[hlt]) (hmod _ _ _ _ hJ M4) _ (λW5 hJ5 hk5=>?_) λW5 hJ5=>?_
  ·refine rvS (v:=.bool false) (by simp[go_sem]<;>first|exact⟨rfl,rfl⟩|exact rfl) ?_
   rw[ifB_bool,if_neg Bool.false_ne_true]
   refine rvS (v:=.int .i64 ((i+1:Nat):Int)) (w' :=W5) (by simp[go_sem];rw[wrapI (by omega) (by omega)]) ?_
   exact hKN _ _ ⟨i+1,by omega,rfl,hJ5,hO4.keep hk5⟩ (by show l.length - (((i+1:Nat):Int)).toNat<l.length - ((i:Int)).toNat;omega)
  ·refine rvS (v:=.bool true) (by simp[go_sem]<;>first|exact⟨rfl,rfl⟩|exact rfl) ?_
   rw[ifB_bool,if_pos rfl]
   exact hex _ hJ5
 ·obtain rfl:i=l.length:=by omega
  refine rvS (v:=.bool false) (by simp[go_sem]<;>first|exact⟨rfl,rfl⟩|exact rfl) ?_
  rw[ifB_bool,if_neg Bool.false_ne_true]
  exact hend _ W' (by simpa using hJ)
theorem ca_sall{w:World}{K:Kont}{s:Nat}{F:Nat→Prop}{buy:Bool}{l:List Od}(h:SideQ w s F buy l)
  (hK:∀gv w',Tells gv (l.map λo=>[odV o]) w' →Mod (λ_=>False) w w' →K gv w'):Ca Tryz.prog 146 #[sptr s] w K:=by
 apply ca146
 unfold F146
 have m0:Mod (λ_=>False) w (w.alloc (.cells #[sptr s] 228)):=(Mod.refl _ w).alloc _
 refine rvS (v:=.pointer (some ⟨w.heap.size,0,none⟩)) (w' :=w.alloc (.cells #[sptr s] 228)) (by simp[go_sem,sptr]) ?_
 have b0:hp (w.alloc (.cells #[sptr s] 228)) w.heap.size=some (.cells #[sptr s] 228 (0,0)):=by simp[go_sem]
 exact hK _ _ ⟨⟨_,it_sall (s:=s) (b:=w.heap.size) (buy:=buy) (l:=l) (T:=228),λW m=>⟨m.hpk b0 id,F,h.mod (m0.trans m) λ_ _ h=>h⟩⟩,_,_,rfl⟩ m0
theorem sum_bd5{l:List Int}{B:Int}(h:∀x∈l,0≤x∧x≤B):0≤l.sum∧l.sum≤l.length*B:=by
 induction l with
 |nil=>simp
 |cons x l ih=>
  have h1:=h x (by simp)
  have h2:=ih λy hy=>h y (by simp[hy])
  rw[List.sum_cons,List.length_cons]
  have e:((l.length+1:Nat):Int)*B=l.length*B+B:=by rw[Int.natCast_add,Int.add_mul];omega
  rw[e]
  omega
def rchS(l:List Od)(acct:Int):Int:=((l.filter λo=>decide (o.acct≠acct)).map (·.left)).sum
theorem rchS_snoc(l:List Od)(o:Od)(acct:Int):rchS (l++[o]) acct=rchS l acct+(if o.acct≠acct then o.left else 0):=by
 unfold rchS
 rw[List.filter_append,List.map_append,List.sum_append]
 congr 1
 by_cases h:o.acct=acct<;>simp[h]
theorem rchS_bd{l:List Od}{acct:Int}(h:∀o∈l,1≤o.left∧o.left≤1000000):0≤rchS l acct∧rchS l acct≤l.length*1000000:=by
 have h1:=sum_bd5 (l:=(l.filter λo=>decide (o.acct≠acct)).map (·.left)) (B:=1000000) λx hx=>by
  obtain⟨o,ho,rfl⟩:=List.mem_map.1 hx
  have:=h o (List.mem_filter.1 ho).1
  omega
 rw[List.length_map]at h1
 have h2:=List.length_filter_le (λo:Od=>decide (o.acct≠acct)) l
 unfold rchS
 omega
theorem Od.left_bd{o:Od}(h:o.may=true):1≤o.left∧o.left≤1000000:=by
 unfold Od.may at h
 simp only[Bool.and_eq_true]at h
 exact of_decide_eq_true h.2
theorem take_tw{l:List Od}{p:Od→Bool}{j:Nat}(hj:j<l.length)(h:∀o∈l.take j,p o=true)(hn:p l[j]=false):l.takeWhile p=l.take j:=by
 induction l generalizing j with
 |nil=>simp at hj
 |cons x l ih=>
  cases j with
  |zero=>
   simp only[List.getElem_cons_zero]at hn
   rw[List.takeWhile_cons,hn];simp
  |succ j=>
   have hx:=h x (by simp)
   rw[List.takeWhile_cons,hx]
   simp only[if_true,List.take_succ_cons]
   rw[ih (by simpa using hj) (λo ho=>h o (by simp[ho])) (by simpa using hn)]
theorem tw_all{l:List Od}{p:Od→Bool}(h:∀o∈l,p o=true):l.takeWhile p=l:=by
 induction l with
 |nil=>rfl
 |cons x l ih=>
  rw[List.takeWhile_cons,h x (by simp)]
  simp only[if_true]
  rw[ih λo ho=>h o (by simp[ho])]
set_option maxRecDepth 10000 in
theorem ca_sreach{w:World}{K:Kont}{s:Nat}{F:Nat→Prop}{buy:Bool}{l:List Od}{price acct:Int}(h:SideQ w s F buy l)
  (hK:∀w',Mod (λ_=>False) w w' →K (.int .i64 (sdReach buy l price acct)) w'):Ca Tryz.prog 226 #[sptr s,.int .i64 price,.int .u32 acct] w K:=by
 apply ca226
 unfold F226
 obtain⟨n0,hn0⟩:∃n0,n0=w.heap.size:=⟨_,rfl⟩
 have hlay:∃w4,((w.alloc (.cells #[sptr s] 228)).alloc (.cells #[.int .i64 price] 2) |>.alloc (.cells #[.int .u32 acct] 35) |>.alloc (.cells #[.int .i64 0] 2))=w4∧w4.heap.size=n0+4∧Mod (λ_=>False) w w4∧
   hp w4 n0=some (.cells #[sptr s] 228 (0,0))∧hp w4 (n0+1)=some (.cells #[.int .i64 price] 2 (0,0))∧hp w4 (n0+2)=some (.cells #[.int .u32 acct] 35 (0,0))∧hp w4 (n0+3)=some (.cells #[.int .i64 0] 2 (0,0)):=by
  refine⟨_,rfl,by simp[go_sem,hn0],((((Mod.refl _ w).alloc _).alloc _).alloc _).alloc _,?_,?_,?_,?_⟩<;>simp[go_sem,hn0]
 obtain⟨w4,hw4,hsz4,m4,b0,b1,b2,b3⟩:=hlay
 refine rvS (v:=.pointer (some ⟨n0,0,none⟩)) (w' :=w.alloc (.cells #[sptr s] 228)) (by simp[go_sem,sptr,hn0]) ?_
 refine rvS (v:=.pointer (some ⟨n0+1,0,none⟩)) (w' :=(w.alloc (.cells #[sptr s] 228)).alloc (.cells #[.int .i64 price] 2)) (by simp[go_sem,hn0]) ?_
 refine rvS (v:=.pointer (some ⟨n0+2,0,none⟩)) (w' :=((w.alloc (.cells #[sptr s] 228)).alloc (.cells #[.int .i64 price] 2)).alloc (.cells #[.int .u32 acct] 35)) (by simp[go_sem,hn0]) ?_
 refine rvS (v:=.pointer (some ⟨n0+3,0,none⟩)) (w' :=w4) (by rw[←hw4];simp[go_sem,hn0]) ?_
 clear hw4
 refine rvS (v:=sptr s) (w' :=w4) (by simp[go_sem,b0]) ?_
 refine ca_sall (h.mod m4 λ_ _ h=>h) λgv w5 ht m5=>?_
 obtain⟨⟨Ok,hit,hOk⟩,f,cap,rfl⟩:=ht
 have M5:=m4.trans m5
 have q5:=h.mod M5 λ_ _ h=>h
 have d0:=m5.hpk b0 id
 have d1:=m5.hpk b1 id
 have d2:=m5.hpk b2 id
 have d3:=m5.hpk b3 id
 have hs5:=m5.size
 have hFl:∀b,F b→b<n0:=λb hb=>by rw[hn0];exact h.lt hb
 let p:Od→Bool:=λo=> !betterB buy price o.price
 let J:(Nat→Prop)→Nat→World→Prop:=λQ j W=>SideQ W s F buy l∧hp W n0=some (.cells #[sptr s] 228 (0,0))∧hp W (n0+1)=some (.cells #[.int .i64 price] 2 (0,0))∧hp W (n0+2)=some (.cells #[.int .u32 acct] 35 (0,0))∧
  hp W (n0+3)=some (.cells #[.int .i64 (rchS (l.take j) acct)] 2 (0,0))∧(∀o∈l.take j,p o=true)∧hp W w5.heap.size=some (.deferred (some []))∧Mod (λb=>b=n0+3) w5 W∧∀b,Q b→w5.heap.size+1<b∧b<W.heap.size
 let Jx:Code→World→Prop:=λc W=>c=.exit 0∧hp W (n0+3)=some (.cells #[.int .i64 (sdReach buy l price acct)] 2 (0,0))∧hp W w5.heap.size=some (.deferred (some []))∧Mod (λb=>b=n0+3) w5 W
 have e5:∀o,Mod (λ_=>False) w5 ((w5.alloc (.deferred (some []))).alloc (.loop o)):=λo=>((Mod.refl _ w5).alloc _).alloc _
 have fin:∀W o,hp W (n0+3)=some (.cells #[.int .i64 (sdReach buy l price acct)] 2 (0,0))→hp W w5.heap.size=some (.deferred (some []))→Mod (λb=>b=n0+3) w5 W→
   rv Tryz.prog (Instr.loadAt 2 (.pointer (some ⟨n0+3,0,none⟩))) (W.putObj (w5.heap.size+1) (.loop o)) λv52 w53=>
    ru Tryz.prog (Instr.storeAt 2 (.pointer (some ⟨n0+3,0,none⟩)) v52) w53 λw54=>
    retD ([w5.heap.size]++[]) w54 λw55=>
    rdW Tryz.prog (Instr.loadAt 2 (.pointer (some ⟨n0+3,0,none⟩))) w55 λv56=>K v56 w55:=by
  intro W o k1 k2 k3
  have mp:Mod (λb=>b=w5.heap.size+1) W (W.putObj (w5.heap.size+1) (.loop o)):=(Mod.refl (λb=>b=w5.heap.size+1) W).putObj (.inl rfl) _
  have k1' :=mp.hpk k1 (by omega)
  have k2' :=mp.hpk k2 (by omega)
  generalize W.putObj (w5.heap.size+1) (.loop o)=W1 at mp k1' k2' ⊢
  refine rvS (v:=.int .i64 (sdReach buy l price acct)) (w' :=W1) (by simp[go_sem,k1']) ?_
  refine ruS (w' :=W1.setCell ⟨n0+3,0,none⟩ (.int .i64 (sdReach buy l price acct))) (by simp[go_sem,k1']) ?_
  have ms:Mod (λb=>b=n0+3) W1 (W1.setCell ⟨n0+3,0,none⟩ (.int .i64 (sdReach buy l price acct))):=(Mod.refl (λb=>b=n0+3) W1).setCell (.inl rfl) _ _
  have k3' :hp (W1.setCell ⟨n0+3,0,none⟩ (.int .i64 (sdReach buy l price acct))) (n0+3)=some (.cells #[.int .i64 (sdReach buy l price acct)] 2 (0,0)):=by simp[go_sem,k1']
  have k4' :=ms.hpk k2' (by omega)
  generalize W1.setCell ⟨n0+3,0,none⟩ (.int .i64 (sdReach buy l price acct))=W2 at ms k3' k4' ⊢
  refine retV (by simp) (λd hd=>by rw[List.mem_singleton.1 hd];exact k4') λW3 m3=>?_
  have k5:=m3.hpk k3' (by simp;omega)
  refine rdWS (v:=.int .i64 (sdReach buy l price acct)) (by simp[go_sem,k5]) ?_
  refine hK _ ((((M5.on k3 λb hb=>.inr (by omega)).on mp λb hb=>.inr (by omega)).on ms λb hb=>.inr (by omega)).on m3 λb hb=>.inr ?_)
  have hb' :b=w5.heap.size:=by simpa using hb
  omega
 refine RFW_topN (xs:=l.map λo=>[odV o]) hit (by simp) J Jx (λo=>hOk _ (e5 o)) ?_ ?_ ?_ ?_ ?_
 ·intro o Q W mo hQ
  have mW:=(e5 o).trans mo
  have hd:hp ((w5.alloc (.deferred (some []))).alloc (.loop o)) w5.heap.size=some (.deferred (some [])):=by simp[go_sem]
  exact⟨q5.mod mW λ_ _ h=>h,mW.hpk d0 id,mW.hpk d1 id,mW.hpk d2 id,mW.hpk d3 id,by simp,mo.hpk hd id,mW.mono λ_ _ h=>h.elim,hQ⟩
 ·rintro Q j W W' ⟨j0,j1,j2,j3,j4,j5,j6,j7,j8⟩ mm
  exact⟨j0.mod mm λb hb e=>by have:=hFl b hb;omega,mm.hpk j1 (by omega),mm.hpk j2 (by omega),mm.hpk j3 (by omega),mm.hpk j4 (by omega),j5,mm.hpk j6 (by omega),j7.on mm λb hb=>.inr (by omega),λb hb=>⟨(j8 b hb).1,Nat.lt_of_lt_of_le (j8 b hb).2 mm.size⟩⟩
 ·rintro Q j x W r hx ⟨j0,j1,j2,j3,j4,j5,j6,j7,j8⟩ hrec hready KN KJ hKN hKJ
  obtain⟨hj,hxo⟩:∃hj:j<l.length,x=[odV l[j]]:=by
   rw[List.getElem?_map]at hx
   cases hh:l[j]? with
   |none=>rw[hh]at hx;cases hx
   |some o=>
    obtain⟨hj,he⟩:=List.getElem?_eq_some_iff.1 hh
    rw[hh]at hx
    exact⟨hj,by rw[he];exact(Option.some.inj hx).symm⟩
  subst hxo
  obtain⟨rc,hrc⟩:∃rc,rc=w5.heap.size+1:=⟨_,rfl⟩
  rw[←hrc]at hrec hKN hKJ j8⊢
  have hrl:=lt_of_heap hrec
  unfold R226_0
  obtain⟨w6,e6,b6,m6⟩:=newOd W
  refine rvS e6 ?_
  obtain⟨q,hq0⟩:∃q,q=W.heap.size:=⟨_,rfl⟩
  rw[←hq0]at b6⊢
  obtain⟨w7,e7,b7,m7⟩:=setOd (o' :=l[j]) b6
  show ru Tryz.prog (Instr.storeAt tOd (.pointer (some ⟨q,0,none⟩)) (odV l[j])) w6 _
  refine ruS e7 ?_
  have M7:Mod (λ_=>False) W w7:=m6.on m7 λb hb=>.inr (by omega)
  have hrec7:w7.heap[rc]? =some (.loop r):=M7.keep hrec id
  refine beginK_of (r:=r) hrec7 hready ?_
  have m8:Mod (λb=>b=rc) w7 (w7.putObj rc (.loop {r with state:=.busy})):=(Mod.refl (λb=>b=rc) w7).putObj (.inl rfl) _
  have hrec8:(w7.putObj rc (.loop {r with state:=.busy})).heap[rc]? =some (.loop {r with state:=.busy}):=by rw[heap_putObj,if_pos rfl,hrec7];rfl
  generalize w7.putObj rc (.loop {r with state:=.busy})=w8 at m8 hrec8⊢
  have M8:Mod (λb=>b=rc) W w8:=(M7.mono λ_ _ h=>h.elim).trans m8
  have g0:=M8.hpk j1 (by omega)
  have g1:=M8.hpk j2 (by omega)
  have g2:=M8.hpk j3 (by omega)
  have g3:=M8.hpk j4 (by omega)
  have gd:=M8.hpk j6 (by omega)
  have gq:=m8.hpk b7 (by omega)
  have gS:=j0.mod M8 λb hb e=>by have:=hFl b hb;omega
  have gq' :=gq
  unfold odC at gq'
  refine rvS (v:=sptr s) (w' :=w8) (by simp[go_sem,g0]) ?_
  refine rvS (by simp[-Int.natCast_add,go_sem,g1]<;>first|exact⟨rfl,rfl⟩|exact rfl) ?_
  refine rvS (by simp[-Int.natCast_add,go_sem,gq']<;>first|exact⟨rfl,rfl⟩|exact rfl) ?_
  refine rvS (by simp[-Int.natCast_add,go_sem,gq']<;>first|exact⟨rfl,rfl⟩|exact rfl) ?_
  refine ca_sbetter gS ?_
  cases hbt:betterB buy price l[j].price with
  |true=>
   rw[ifB_bool,if_pos rfl]
   refine hKJ _ _ ⟨rfl,?_,gd,j7.on M8 λb hb=>.inr (by omega)⟩ hrec8
   have:sdReach buy l price acct=rchS (l.take j) acct:=by
    unfold sdReach rchS
    rw[take_tw (p:=p) hj j5 (by simp[p,hbt])]
   rw[this]
   exact g3
  |false=>
   rw[ifB_bool,if_neg Bool.false_ne_true]
   have htk:l.take (j+1)=l.take j++[l[j]]:=by
    rw[List.take_add_one,List.getElem?_eq_getElem hj];rfl
   have hp1:∀o∈l.take (j+1),p o=true:=by
    rw[htk]
    intro o ho
    rcases List.mem_append.1 ho with ho|ho
    ·exact j5 o ho
    ·rw[List.mem_singleton.1 ho];simp[p,hbt]
   refine rvS (by simp[-Int.natCast_add,go_sem,gq']<;>first|exact⟨rfl,rfl⟩|exact rfl) ?_
   refine rvS (by simp[-Int.natCast_add,go_sem,gq']<;>first|exact⟨rfl,rfl⟩|exact rfl) ?_
   refine rvS (by simp[-Int.natCast_add,go_sem,g2]<;>first|exact⟨rfl,rfl⟩|exact rfl) ?_
   by_cases ha:l[j].acct=acct
   ·refine rvS (v:=.bool false) (by simp[go_sem,ha]<;>first|exact⟨rfl,rfl⟩|exact rfl) ?_
    rw[ifB_bool,if_neg Bool.false_ne_true]
    refine hKN _ ⟨gS,g0,g1,g2,?_,hp1,gd,j7.on M8 λb hb=>.inr (by omega),λb hb=>⟨by have:=(j8 b hb).1;omega,Nat.lt_of_lt_of_le (j8 b hb).2 M8.size⟩⟩ hrec8 λb hb=>?_
    ·rw[htk,rchS_snoc,if_neg (by simp[ha]),Int.add_zero]
     exact g3
    ·exact M8.blk b (j8 b hb).2 (by have:=(j8 b hb).1;omega)
   ·refine rvS (v:=.bool true) (by simp[go_sem,ha]<;>first|exact⟨rfl,rfl⟩|exact rfl) ?_
    rw[ifB_bool,if_pos rfl]
    refine rvS (by simp[-Int.natCast_add,go_sem,g3]<;>first|exact⟨rfl,rfl⟩|exact rfl) ?_
    refine rvS (by simp[-Int.natCast_add,go_sem,gq']<;>first|exact⟨rfl,rfl⟩|exact rfl) ?_
    refine rvS (by simp[-Int.natCast_add,go_sem,gq']<;>first|exact⟨rfl,rfl⟩|exact rfl) ?_
    have hbd1:=rchS_bd (l:=l.take j) (acct:=acct) λo ho=>Od.left_bd (j0.may o (List.mem_of_mem_take ho)).1
    have hbd2:=Od.left_bd (j0.may l[j] (List.getElem_mem hj)).1
    have hlen:=j0.len
    have hlt:(l.take j).length≤100:=by rw[List.length_take];omega
    refine rvS (v:=.int .i64 (rchS (l.take (j+1)) acct)) (w' :=w8) (by
     rw[htk,rchS_snoc,if_pos ha]
     simp[go_sem]
     rw[wrapI (by omega) (by omega)]) ?_
    refine ruS (w' :=w8.setCell ⟨n0+3,0,none⟩ (.int .i64 (rchS (l.take (j+1)) acct))) (by simp[go_sem,g3]) ?_
    have m9:Mod (λb=>b=n0+3) w8 (w8.setCell ⟨n0+3,0,none⟩ (.int .i64 (rchS (l.take (j+1)) acct))):=(Mod.refl (λb=>b=n0+3) w8).setCell (.inl rfl) _ _
    have k3:hp (w8.setCell ⟨n0+3,0,none⟩ (.int .i64 (rchS (l.take (j+1)) acct))) (n0+3)=some (.cells #[.int .i64 (rchS (l.take (j+1)) acct)] 2 (0,0)):=by simp[go_sem,g3]
    generalize w8.setCell ⟨n0+3,0,none⟩ (.int .i64 (rchS (l.take (j+1)) acct))=w9 at m9 k3⊢
    refine hKN _ ⟨gS.mod m9 λb hb e=>by have:=hFl b hb;omega,m9.hpk g0 (by omega),m9.hpk g1 (by omega),m9.hpk g2 (by omega),k3,hp1,m9.hpk gd (by omega),(j7.on M8 λb hb=>.inr (by omega)).trans m9,λb hb=>⟨by have:=(j8 b hb).1;omega,Nat.lt_of_lt_of_le (j8 b hb).2 (Nat.le_trans M8.size m9.size)⟩⟩ (m9.keep hrec8 (by omega)) λb hb=>?_
    rw[m9.blk b (Nat.lt_of_lt_of_le (j8 b hb).2 M8.size) (by have:=(j8 b hb).1;omega)]
    exact M8.blk b (j8 b hb).2 (by have:=(j8 b hb).1;omega)
 ·rintro Q W o ⟨j0,j1,j2,j3,j4,j5,j6,j7,j8⟩
  have hend:(l.map λo=>[odV o]).length=l.length:=by simp
  rw[hend,List.take_length]at j4 j5
  unfold A226_1
  simp only[afterK]
  refine fin W o ?_ j6 j7
  have:sdReach buy l price acct=rchS l acct:=by
   unfold sdReach rchS
   rw[tw_all (p:=p) j5]
  rw[this];exact j4
 ·rintro c W o ⟨rfl,k1,k2,k3⟩
  unfold A226_1
  simp only[afterK]
  exact fin W o k1 k2 k3
end Go.Proofs
