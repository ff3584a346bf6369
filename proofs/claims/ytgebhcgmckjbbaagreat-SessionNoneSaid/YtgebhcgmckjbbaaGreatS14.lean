/- Part of a proof. -/
import Derived.Test.YtgebhcgmckjbbaaGreatS13
set_option linter.all false
namespace Go.Proofs
open Go Go.Vc
attribute [local congr] Ca_congV
theorem calGet_some{l:List Ct}(hs:Rising l){n:Int}{k:Ct}(h:calGet l n=some k):∃hi:calAt l n<l.length,l[calAt l n]=k∧k.spec.num=n:=by
 unfold calGet at h
 obtain⟨hn,i,hi,he,hlt⟩:=List.find?_eq_some_iff_getElem.1 h
 have hn' :k.spec.num=n:=by simpa using hn
 have e:calAt l n=i:=by
  refine calAt_eq (by omega) (λj hj hji=>?_) λhj=>by rw[he];omega
  have:=List.pairwise_iff_getElem.1 hs j i hj hi hji
  rw[he]at this
  omega
 subst e
 exact⟨hi,he,hn'⟩
theorem calGet_mem{l:List Ct}{n:Int}{k:Ct}(h:calGet l n=some k):k∈l:=List.mem_of_find?_eq_some h
theorem ca_cat{w:World}{K:Kont}{c:Nat}{F:Nat→Prop}{S:Cal}{n:Int}(h:CalQ w c F S)
  (hK:∀w',Mod (λ_=>False) w w' →K (.tuple #[.int .i64 (calAt S.l n),.bool (calGet S.l n).isSome]) w'):Ca Tryz.prog 198 #[cptr c,.int .u32 n] w K:=by
 obtain⟨⟨sl,h1,h2,h3,h4⟩,h5,h6,h7,h8⟩:=h
 apply ca198
 unfold F198 cptr
 simp only[nilK_ptr]
 obtain⟨sa,sc,hsl,-⟩:=h2.isSl
 refine rvS (by simp[-Int.natCast_add,go_sem]<;>first|exact⟨rfl,rfl⟩|exact rfl) ?_
 refine rvS (v:=sl) (w' :=w) (by simp[go_sem,h1,hsl]) ?_
 refine ca_bsCt h2.rd (by omega) h8 λw1 m1=>?_
 refine rvS (v:=.int .i64 (calAt S.l n)) (w' :=w1) (by simp[go_sem]) ?_
 refine rvS (v:=.bool (calGet S.l n).isSome) (w' :=w1) (by simp[go_sem]) ?_
 exact hK _ m1
def calAlive(l:List Ct)(n:Int):Int:=match calGet l n with|none=>7|some k=>if k.st=3 then 50 else 0
theorem CtS.item{w:World}{sl:Value}{l:List Ct}(h:CtS w sl l){i:Nat}(hi:i<l.length):
  ∃b cap rest,sl=.slice (some ⟨b,0,none⟩) l.length cap∧(∀k:IntKind,(Instr.indexAt tCts sl (.int k (i:Int))).run Tryz.prog w=.ok (.pointer (some ⟨b,i*27,none⟩)) w)∧At w b (i*27) (ctC l[i])∧
   hp w b=some (.cells (l.flatMap ctC++rest).toArray tCt (0,0))∧∀j,j<27→(l.flatMap ctC++rest)[i*27+j]? =(ctC l[i])[j]? :=by
 obtain⟨b,cap,rest,rfl,hc,hb,hr⟩:=h.pos (by omega)
 have hA0:At w b 0 (l.flatMap ctC++rest):=At.all (hp_of hb)
 have hl:=h.1
 have h1:=hA0.sub (i*27) 27 (by rw[List.length_append,hl];omega)
 rw[List.drop_append_of_le_length (by rw[hl];omega),List.take_append_of_le_length (by rw[List.length_drop,hl];omega),flat_get ctC 27 l i (λx _=>ctC_len x) hi,Nat.zero_add]at h1
 refine⟨b,cap,rest,rfl,λk=>by simp[go_sem,hi,addr_add,uCts],h1,hp_of hb,λj hj=>?_⟩
 rw[List.getElem?_append_left (by rw[hl];omega)]
 have h2:=flat_get ctC 27 l i (λx _=>ctC_len x) hi
 have h3:(((l.flatMap ctC).drop (i*27)).take 27)[j]? =(ctC l[i])[j]? :=by rw[h2]
 rw[List.getElem?_take,if_pos hj,List.getElem?_drop]at h3
 exact h3
theorem ca_calive{w:World}{K:Kont}{c:Nat}{F:Nat→Prop}{S:Cal}{n:Int}(h:CalQ w c F S)
  (hN:∀w',calAlive S.l n≠0→Mod (λ_=>False) w w' →K (.tuple #[.pointer none,.int .i64 (calAlive S.l n)]) w')
  (hS:∀i (hi:i<S.l.length) b cap w',S.l[i].spec.num=n→S.l[i].st≠3→calGet S.l n=some S.l[i]→calAlive S.l n=0→Mod (λ_=>False) w w' →hp w' c=some (.cells #[.bool true,.int .u32 S.day,.slice (some ⟨b,0,none⟩) S.l.length cap] 197 (0,0))→
   CtS w' (.slice (some ⟨b,0,none⟩) S.l.length cap) S.l→(∀x,F x↔x=c∨x=b)→b≠c→K (.tuple #[.pointer (some ⟨b,i*27,none⟩),.int .i64 0]) w'):Ca Tryz.prog 200 #[cptr c,.int .u32 n] w K:=by
 apply ca200
 unfold F200
 refine ca_cready h ?_
 refine rvS (v:=.bool false) (by simp[go_sem]<;>first|exact⟨rfl,rfl⟩|exact rfl) ?_
 rw[ifB_bool,if_neg Bool.false_ne_true]
 refine ca_cat h λw1 m1=>?_
 have q1:=h.mod m1 λ_ _ h=>h
 refine rvS (v:=.int .i64 (calAt S.l n)) (w' :=w1) (by simp[go_sem]) ?_
 refine rvS (v:=.bool (calGet S.l n).isSome) (w' :=w1) (by simp[go_sem]) ?_
 cases hg:calGet S.l n with
 |none=>
  refine rvS (v:=.bool true) (by simp[go_sem]<;>first|exact⟨rfl,rfl⟩|exact rfl) ?_
  rw[ifB_bool,if_pos rfl]
  have e:calAlive S.l n=7:=by unfold calAlive;rw[hg]
  have hk:=hN w1 (by rw[e];decide) m1
  rw[e]at hk
  exact hk
 |some k=>
  refine rvS (v:=.bool false) (by simp[go_sem]<;>first|exact⟨rfl,rfl⟩|exact rfl) ?_
  rw[ifB_bool,if_neg Bool.false_ne_true]
  obtain⟨hi,hik,hkn⟩:=calGet_some h.srt hg
  obtain⟨⟨sl,h1,h2,h3,h4⟩,h5,h6,h7,h8⟩:=q1
  obtain⟨b,cap,rest,rfl,hix,hA,hb,hget⟩:=h2.item hi
  have g25:=hget 25 (by omega)
  rw[ctT25,hik]at g25
  simp only[cptr,nilK_ptr]
  refine rvS (by simp[-Int.natCast_add,go_sem]<;>first|exact⟨rfl,rfl⟩|exact rfl) ?_
  refine rvS (v:=.slice (some ⟨b,0,none⟩) S.l.length cap) (w' :=w1) (by simp[go_sem,h1]) ?_
  refine rvS (hix .i64) ?_
  refine rvS (v:=.pointer (some ⟨b,calAt S.l n*27+25,none⟩)) (w' :=w1) (by simp[go_sem,addr_add]) ?_
  refine rvS (v:=.int .u8 k.st) (w' :=w1) (by simp[go_sem,hb,g25]) ?_
  by_cases h3' :k.st=3
  ·refine rvS (v:=.bool true) (by simp[go_sem,h3']<;>first|exact⟨rfl,rfl⟩|exact rfl) ?_
   rw[ifB_bool,if_pos rfl]
   have e:calAlive S.l n=50:=by unfold calAlive;rw[hg];simp only;rw[if_pos h3']
   have hk:=hN w1 (by rw[e];decide) m1
   rw[e]at hk
   exact hk
  ·refine rvS (v:=.bool false) (by simp[go_sem,h3']<;>first|exact⟨rfl,rfl⟩|exact rfl) ?_
   rw[ifB_bool,if_neg Bool.false_ne_true]
   refine rvS (by simp[-Int.natCast_add,go_sem]<;>first|exact⟨rfl,rfl⟩|exact rfl) ?_
   refine rvS (v:=.slice (some ⟨b,0,none⟩) S.l.length cap) (w' :=w1) (by simp[go_sem,h1]) ?_
   refine rvS (hix .i64) ?_
   have e:calAlive S.l n=0:=by unfold calAlive;rw[hg];simp only;rw[if_neg h3']
   refine hS _ hi b cap w1 (by rw[hik];exact hkn) (by rw[hik];exact h3') (by rw[hg,hik]) e m1 h1 h2 (λx=>?_) λhbc=>h4 (by rw[hbc];rfl)
   rw[h3 x]
   exact⟨λh=>h.imp id λh=>by cases h;rfl,λh=>h.imp id λh=>by rw[h];rfl⟩
theorem ca_cday{w:World}{K:Kont}{c:Nat}{F:Nat→Prop}{S:Cal}(h:CalQ w c F S)(hK:K (.int .u32 S.day) w):Ca Tryz.prog 53 #[cptr c] w K:=by
 obtain⟨⟨sl,h1,h2,h3,h4⟩,h5⟩:=id h
 apply ca53
 unfold F53
 refine ca_cready h ?_
 refine rvS (v:=.bool false) (by simp[go_sem]<;>first|exact⟨rfl,rfl⟩|exact rfl) ?_
 rw[ifB_bool,if_neg Bool.false_ne_true]
 simp only[cptr,nilK_ptr]
 refine rvS (by simp[-Int.natCast_add,go_sem]<;>first|exact⟨rfl,rfl⟩|exact rfl) ?_
 refine rvS (by simp[-Int.natCast_add,go_sem,h1]<;>first|exact⟨rfl,rfl⟩|exact rfl) ?_
 exact hK
def calNext(S:Cal):Int×Cal:=if S.day=4294967295 then(6,S)else(0,⟨S.day+1,S.l⟩)
theorem ca_cnext{w:World}{K:Kont}{c:Nat}{F:Nat→Prop}{S:Cal}(h:CalQ w c F S)
  (hK:∀w',CalQ w' c F (calNext S).2→Mod F w w' →K (.int .i64 (calNext S).1) w'):Ca Tryz.prog 201 #[cptr c] w K:=by
 obtain⟨⟨sl,h1,h2,h3,h4⟩,h5,h6,h7,h8⟩:=id h
 apply ca201
 unfold F201
 refine ca_cready h ?_
 refine rvS (v:=.bool false) (by simp[go_sem]<;>first|exact⟨rfl,rfl⟩|exact rfl) ?_
 rw[ifB_bool,if_neg Bool.false_ne_true]
 simp only[cptr,nilK_ptr]
 refine rvS (by simp[-Int.natCast_add,go_sem]<;>first|exact⟨rfl,rfl⟩|exact rfl) ?_
 refine rvS (by simp[-Int.natCast_add,go_sem,h1]<;>first|exact⟨rfl,rfl⟩|exact rfl) ?_
 unfold calNext at hK
 by_cases hd:S.day=4294967295
 ·refine rvS (v:=.bool true) (by simp[go_sem,hd]<;>first|exact⟨rfl,rfl⟩|exact rfl) ?_
  rw[ifB_bool,if_pos rfl]
  rw[if_pos hd]at hK
  exact hK _ h (Mod.refl _ _)
 ·refine rvS (v:=.bool false) (by simp[go_sem,hd]<;>first|exact⟨rfl,rfl⟩|exact rfl) ?_
  rw[ifB_bool,if_neg Bool.false_ne_true]
  rw[if_neg hd]at hK
  refine rvS (by simp[-Int.natCast_add,go_sem]<;>first|exact⟨rfl,rfl⟩|exact rfl) ?_
  refine rvS (by simp[-Int.natCast_add,go_sem,h1]<;>first|exact⟨rfl,rfl⟩|exact rfl) ?_
  refine rvS (v:=.int .u32 (S.day+1)) (w' :=w) (by simp[go_sem];rw[IntKind.wrap_u32];omega) ?_
  refine rvS (by simp[-Int.natCast_add,go_sem]<;>first|exact⟨rfl,rfl⟩|exact rfl) ?_
  refine ruS (w' :=w.setCell ⟨c,1,none⟩ (.int .u32 (S.day+1))) (by simp[go_sem,h1]) ?_
  have mv:Mod (λx=>x=c) w (w.setCell ⟨c,1,none⟩ (.int .u32 (S.day+1))):=(Mod.refl (λx=>x=c) w).setCell (.inl rfl) _ _
  refine hK _ ⟨⟨sl,by simp[go_sem,h1],h2.mod mv λx hx e=>h4 (e▸hx),h3,h4⟩,h5,⟨by show 0≤S.day+1;have:=h6.1;omega,by show S.day+1<_;have:=h6.2;omega⟩,h7,h8⟩ (mv.mono λx _ hx=>by rw[hx];exact(h3 c).2 (.inl rfl))
def zSp:Sp:=⟨0,0,0,0,0,0,Vector.replicate 16 0,0,0,0⟩
def zCt0:Ct:=⟨zSp,0,0⟩
theorem zeroCt:zeroC Tryz.prog tCt=ctC zCt0:=by kernel_rfl
theorem builtCt:Tryz.prog.built tCt []=some (ctC zCt0).toArray:=by kernel_rfl
theorem retCt{W:World}{q:Nat}{k0 k:Ct}{K:Value→World→Prop}(h:hp W q=some (.cells (ctC k0).toArray tCt (0,0)))
  (hK:∀W',Mod (λb=>b=q) W W' →K (.agg (ctC k).toArray) W'):
  rux Tryz.prog (bigU tCt (.pointer (some ⟨q,0,none⟩)) (.agg (ctC k).toArray)) W λw8=>rdX Tryz.prog (bigS tCt (.pointer (some ⟨q,0,none⟩))) w8 λv9=>K v9 w8:=by
 refine rux_bigU (n:=26) (c:=(ctC k0).toArray) (e:=tCt) nCt (ctC_len k) h (by rw[ctC_len,List.size_toArray,ctC_len];exact Nat.le_refl _) (ctC_one k) ?_
 rw[show(ctC k0).toArray.toList=ctC k0 from rfl,lay_all (by rw[ctC_len,ctC_len])]
 have hw:hp (W.setRow q (ctC k).toArray) q=some (.cells (ctC k).toArray tCt (0,0)):=by
  show(W.setRow q _).heap[q]? =_
  have h' :W.heap[q]? =some (.cells (ctC k0).toArray tCt (0,0)):=h
  rw[heap_setRow,if_pos rfl,h']
 refine rdX_bigS (ctC k) 26 aCt nCt (ctC_len k) (At.all hw) ?_
 exact hK _ ((Mod.refl (λb=>b=q) W).setRow (.inl rfl) _)
def calGetR(l:List Ct)(n:Int):Ct×Int:=match calGet l n with|none=>(zCt0,7)|some k=>(k,0)
theorem ca_cget{w:World}{K:Kont}{c:Nat}{F:Nat→Prop}{S:Cal}{n:Int}(h:CalQ w c F S)
  (hK:∀w',Mod (λ_=>False) w w' →K (.tuple #[.agg (ctC (calGetR S.l n).1).toArray,.int .i64 (calGetR S.l n).2]) w'):Ca Tryz.prog 123 #[cptr c,.int .u32 n] w K:=by
 apply ca123
 unfold F123
 refine rx_bigA zCt ?_
 obtain⟨q,hq0⟩:∃q,q=w.heap.size:=⟨_,rfl⟩
 have m0:Mod (λ_=>False) w (w.alloc (.cells (zeroC Tryz.prog tCt).toArray tCt)):=(Mod.refl _ w).alloc _
 have b0:hp (w.alloc (.cells (zeroC Tryz.prog tCt).toArray tCt)) q=some (.cells (ctC zCt0).toArray tCt (0,0)):=by rw[zeroCt,hq0];simp[go_sem]
 rw[←hq0]
 generalize w.alloc (.cells (zeroC Tryz.prog tCt).toArray tCt)=w0 at m0 b0⊢
 have h0:=h.mod m0 λ_ _ h=>h
 refine ca_cready h0 ?_
 refine rvS (v:=.bool false) (by simp[go_sem]<;>first|exact⟨rfl,rfl⟩|exact rfl) ?_
 rw[ifB_bool,if_neg Bool.false_ne_true]
 refine ca_cat h0 λw1 m1=>?_
 have q1:=h0.mod m1 λ_ _ h=>h
 have M1:=m0.trans m1
 have b1:=m1.hpk b0 id
 refine rvS (v:=.int .i64 (calAt S.l n)) (w' :=w1) (by simp[go_sem]) ?_
 refine rvS (v:=.bool (calGet S.l n).isSome) (w' :=w1) (by simp[go_sem]) ?_
 unfold calGetR at hK
 cases hg:calGet S.l n with
 |none=>
  rw[hg]at hK
  refine rvS (v:=.bool true) (by simp[go_sem]<;>first|exact⟨rfl,rfl⟩|exact rfl) ?_
  rw[ifB_bool,if_pos rfl]
  refine rx_bigB builtCt ?_
  refine retCt b1 λW' m' =>?_
  exact hK _ (M1.on m' λx hx=>.inr (by omega))
 |some k=>
  rw[hg]at hK
  refine rvS (v:=.bool false) (by simp[go_sem]<;>first|exact⟨rfl,rfl⟩|exact rfl) ?_
  rw[ifB_bool,if_neg Bool.false_ne_true]
  obtain⟨hi,hik,hkn⟩:=calGet_some h.srt hg
  obtain⟨⟨sl,h1,h2,h3,h4⟩,h5,h6,h7,h8⟩:=q1
  obtain⟨b,cap,rest,rfl,hix,hA,hb,hget⟩:=h2.item hi
  simp only[cptr,nilK_ptr]
  refine rvS (by simp[-Int.natCast_add,go_sem]<;>first|exact⟨rfl,rfl⟩|exact rfl) ?_
  refine rvS (v:=.slice (some ⟨b,0,none⟩) S.l.length cap) (w' :=w1) (by simp[go_sem,h1]) ?_
  refine rvS (hix .i64) ?_
  rw[hik]at hA
  refine rx_bigS (ctC k) 26 aCt nCt (ctC_len k) hA ?_
  refine retCt b1 λW' m' =>?_
  exact hK _ (M1.on m' λx hx=>.inr (by omega))
theorem ca_ccopy{w:World}{K:Kont}{c:Nat}{F:Nat→Prop}{S:Cal}(h:CalQ w c F S)
  (hK:∀c' F' w',CalQ w' c' F' S→Mod (λ_=>False) w w' →(∀b,F' b→w.heap.size≤b)→K (cptr c') w'):Ca Tryz.prog 108 #[cptr c] w K:=by
 obtain⟨⟨sl,h1,h2,h3,h4⟩,h5,h6,h7,h8⟩:=id h
 obtain⟨sa,sc,hsl,-⟩:=h2.isSl
 apply ca108
 unfold F108
 refine ca_cready h ?_
 refine rvS (v:=.bool false) (by simp[go_sem]<;>first|exact⟨rfl,rfl⟩|exact rfl) ?_
 rw[ifB_bool,if_neg Bool.false_ne_true]
 simp only[cptr,nilK_ptr]
 refine rvS (v:=.agg #[.bool true,.int .u32 S.day,sl]) (w' :=w) (by simp[go_sem,h1,hsl]) ?_
 obtain⟨q,hq0⟩:∃q,q=w.heap.size:=⟨_,rfl⟩
 have hlay:∃w1,(Instr.alloc 197 true (.tuple #[])).run Tryz.prog w=.ok (.pointer (some ⟨q,0,none⟩)) w1∧∃w2,(Instr.storeAt 197 (.pointer (some ⟨q,0,none⟩)) (.agg #[.bool true,.int .u32 S.day,sl])).run Tryz.prog w1=.ok () w2∧
   hp w2 q=some (.cells #[.bool true,.int .u32 S.day,sl] 197 (0,0))∧Mod (λ_=>False) w w2∧w.heap.size<w2.heap.size:=by
  obtain⟨w1,hw1⟩:∃w1,w1=w.alloc (.cells #[.bool false,.int .u32 0,.slice none 0 0] 197):=⟨_,rfl⟩
  have m1:Mod (λ_=>False) w w1:=by rw[hw1];exact(Mod.refl _ w).alloc _
  have b1:hp w1 q=some (.cells #[.bool false,.int .u32 0,.slice none 0 0] 197 (0,0)):=by rw[hw1,hq0];simp[go_sem]
  have hs1:w1.heap.size=w.heap.size+1:=by rw[hw1,World.size_alloc]
  refine⟨w1,by rw[hw1,hq0];simp[go_sem],((w1.setCell ⟨q,0,none⟩ (.bool true)).setCell ⟨q,1,none⟩ (.int .u32 S.day)).setCell ⟨q,2,none⟩ sl,by rw[hsl];simp[go_sem,b1],by rw[hsl];simp[go_sem,b1],?_,by simp only[size_setCell];omega⟩
  exact m1.on ((((Mod.refl (λx=>x=q) w1).setCell (.inl rfl) _ _).setCell (.inl rfl) _ _).setCell (.inl rfl) _ _) λx hx=>.inr (by omega)
 obtain⟨w1,e1,w2,e2,b2,m2,hs2⟩:=hlay
 refine rvS e1 ?_
 refine ruS e2 ?_
 have k1:=m2.hpk h1 id
 refine rvS (by simp[-Int.natCast_add,go_sem]<;>first|exact⟨rfl,rfl⟩|exact rfl) ?_
 refine rvS (v:=sl) (w' :=w2) (by simp[go_sem,k1,hsl]) ?_
 refine ca_cloneCt (l:=S.l) (h2.mod m2 λ_ _ h=>h).rd (by omega) λs3 w3 o3 m3 n3=>?_
 have b3:=m3.hpk b2 id
 refine rvS (by simp[-Int.natCast_add,go_sem]<;>first|exact⟨rfl,rfl⟩|exact rfl) ?_
 obtain⟨ta,tc,hs3,-⟩:=o3.isSl
 refine ruS (w' :=w3.setCell ⟨q,2,none⟩ s3) (by rw[hs3];simp[go_sem,b3]) ?_
 have mv:Mod (λx=>x=q) w3 (w3.setCell ⟨q,2,none⟩ s3):=(Mod.refl (λx=>x=q) w3).setCell (.inl rfl) _ _
 have hq:¬inSl s3 q:=λhx=>by have:=n3 q hx;omega
 refine hK q (λb=>b=q∨inSl s3 b) _ ⟨⟨s3,by simp[go_sem,b3],o3.mod mv λx hx e=>hq (e▸hx),λb=>Iff.rfl,hq⟩,h5,h6,h7,h8⟩ ((m2.trans m3).on mv λx hx=>.inr (by omega)) λb hb=>?_
 rcases hb with rfl|hb
 ·omega
 ·have:=n3 b hb;omega
end Go.Proofs
namespace Go.Proofs
open Go Go.Vc
attribute [local congr] Ca_congV
def calSet(l:List Ct)(n:Int)(f:Ct→Ct):List Ct:=l.map λk=>if k.spec.num=n then f k else k
theorem calSet_eq{l:List Ct}(hs:Rising l){n:Int}{i:Nat}(hi:i<l.length)(hn:l[i].spec.num=n)(f:Ct→Ct):calSet l n f=l.set i (f l[i]):=by
 unfold calSet
 apply List.ext_getElem
 ·simp
 ·intro j h1 h2
  have hj:j<l.length:=by simpa using h1
  rw[List.getElem_set,List.getElem_map]
  by_cases he:i=j
  ·subst he
   rw[if_pos hn,if_pos rfl]
  ·rw[if_neg he,if_neg]
   intro hc
   rcases Nat.lt_or_ge i j with h|h
   ·have:=List.pairwise_iff_getElem.1 hs i j hi hj h;omega
   ·have:=List.pairwise_iff_getElem.1 hs j i hj hi (by omega);omega
theorem calSet_ok{l:List Ct}{n:Int}{f:Ct→Ct}(hf:∀k∈l,k.spec.num=n→(f k).Ok∧(f k).spec.num=k.spec.num)(h1:∀k∈l,k.Ok)(h2:Rising l):(∀k∈calSet l n f,k.Ok)∧Rising (calSet l n f)∧(calSet l n f).length=l.length:=by
 have hnum:∀k∈l,(if k.spec.num=n then f k else k).spec.num=k.spec.num:=λk hk=>by
  split
  ·next h=>exact(hf k hk h).2
  ·rfl
 refine⟨λk hk=>?_,?_,by simp[calSet]⟩
 ·obtain⟨x,hx,rfl⟩:=List.mem_map.1 hk
  split
  ·next h=>exact(hf x hx h).1
  ·exact h1 x hx
 ·unfold Rising calSet
  rw[List.pairwise_map]
  refine h2.imp_of_mem λha hb h=>?_
  rw[hnum _ ha,hnum _ hb];exact h
theorem CtS.set1{w:World}{b cap:Nat}{l:List Ct}(h:CtS w (.slice (some ⟨b,0,none⟩) l.length cap) l){i:Nat}(hi:i<l.length){j:Nat}(hj:j<27){v:Value}(hv:v.oneCell' =true){k' :Ct}(hk:(ctC l[i]).set j v=ctC k'):
  CtS (w.setCell ⟨b,i*27+j,none⟩ v) (.slice (some ⟨b,0,none⟩) l.length cap) (l.set i k'):=by
 obtain⟨b',cap',rest,he,hc,hb,hrl,hr1⟩:=h.pos (by omega)
 cases he
 have hl:=h.1
 have hset:(l.flatMap ctC).set (i*27+j) v=(l.set i k').flatMap ctC:=by
  clear h hl hb hrl hr1 hc
  induction l generalizing i with
  |nil=>simp at hi
  |cons x l ih=>
   cases i with
   |zero=>
    simp only[List.getElem_cons_zero]at hk
    rw[List.flatMap_cons,Nat.zero_mul,Nat.zero_add,List.set_append_left _ _ (by rw[ctC_len];omega),hk]
    rfl
   |succ i=>
    have e:(i+1)*27+j=(ctC x).length+(i*27+j):=by rw[ctC_len];omega
    rw[List.flatMap_cons,e,List.set_append_right _ _ (by omega),Nat.add_sub_cancel_left,ih (by simpa using hi) (by simpa using hk)]
    rfl
 refine⟨by rw[flL ctC_len,List.length_set],.inr ⟨b,cap,rest,by rw[List.length_set],by rw[List.length_set];exact hc,?_,by rw[List.length_set];exact hrl,hr1⟩⟩
 rw[heap_setCell,if_pos rfl,hb,setObj1_cells,List.setIfInBounds_toArray,List.set_append_left _ _ (by rw[hl];omega),hset]
theorem ctSet25(k:Ct)(x:Int):(ctC k).set 25 (.int .u8 x)=ctC {k with st:=x}:=by
 unfold ctC
 rw[List.set_append_right _ _ (by rw[spC_len];omega),spC_len];rfl
theorem ctSet26(k:Ct)(x:Int):(ctC k).set 26 (.int .i64 x)=ctC {k with price:=x}:=by
 unfold ctC
 rw[List.set_append_right _ _ (by rw[spC_len];omega),spC_len];rfl
theorem ctOk_st{k:Ct}(h:k.Ok){x:Int}(hx:1≤x∧x≤3):({k with st:=x}:Ct).Ok:=⟨⟨h.1.1,⟨by show 0≤x;omega,by show x<256;omega⟩,h.1.2.2⟩,h.2.1,h.2.2.1,hx⟩
theorem isPrice_rng{s:Sp}{p:Int}(h:s.isPrice p=true):1≤p∧p≤10000000:=by
 unfold Sp.isPrice priceB amongB MP at h
 simp only[Bool.and_eq_true,decide_eq_true_eq]at h
 exact h.2.1
theorem ctOk_price{k:Ct}(h:k.Ok){x:Int}(hx:k.spec.isPrice x=true):({k with price:=x}:Ct).Ok:=by
 have hr:=isPrice_rng hx
 exact⟨⟨h.1.1,h.1.2.1,⟨by show _≤x;omega,by show x<_;omega⟩⟩,h.2.1,hx,h.2.2.2⟩
theorem CalQ.turn{w:World}{c b cap:Nat}{F:Nat→Prop}{S:Cal}{l' :List Ct}(hc:hp w c=some (.cells #[.bool true,.int .u32 S.day,.slice (some ⟨b,0,none⟩) l'.length cap] 197 (0,0)))
  (hl:CtS w (.slice (some ⟨b,0,none⟩) l'.length cap) l')(hF:∀x,F x↔x=c∨x=b)(hbc:b≠c)(h1:l'.length≤16)(h2:U32' S.day)(h3:∀k∈l',k.Ok)(h4:Rising l'):CalQ w c F ⟨S.day,l'⟩:=
 ⟨⟨_,hc,hl,λx=>by rw[hF x];exact⟨λh=>h.imp id λh=>by rw[h];rfl,λh=>h.imp id λh=>by cases h;rfl⟩,λh=>hbc (by cases h;rfl)⟩,h1,h2,h3,h4⟩
def calHalt(S:Cal)(n:Int)(on:Bool):Int×Cal:=if calAlive S.l n≠0 then(calAlive S.l n,S)else(0,⟨S.day,calSet S.l n λk=>{k with st:=if on then 2 else 1}⟩)
theorem ca_chalt{w:World}{K:Kont}{c:Nat}{F:Nat→Prop}{S:Cal}{n:Int}{on:Bool}(h:CalQ w c F S)
  (hK:∀w',CalQ w' c F (calHalt S n on).2→Mod F w w' →K (.int .i64 (calHalt S n on).1) w'):Ca Tryz.prog 115 #[cptr c,.int .u32 n,.bool on] w K:=by
 apply ca115
 unfold F115
 refine ca_calive h (λw1 he m1=>?_) λi hi b cap w1 hn hst hg he m1 hc hl hF hbc=>?_
 ·refine rvS (v:=.pointer none) (w' :=w1) (by simp[go_sem]) ?_
  refine rvS (v:=.int .i64 (calAlive S.l n)) (w' :=w1) (by simp[go_sem]) ?_
  refine rvS (v:=.bool true) (w' :=w1) (by simp[go_sem,he]) ?_
  rw[ifB_bool,if_pos rfl]
  have e:calHalt S n on=(calAlive S.l n,S):=by unfold calHalt;rw[if_pos he]
  rw[e]at hK
  exact hK _ (h.mod m1 λ_ _ h=>h) (m1.mono λ_ _ h=>h.elim)
 ·refine rvS (by simp[-Int.natCast_add,go_sem]<;>first|exact⟨rfl,rfl⟩|exact rfl) ?_
  refine rvS (by simp[-Int.natCast_add,go_sem]<;>first|exact⟨rfl,rfl⟩|exact rfl) ?_
  refine rvS (v:=.bool false) (by simp[go_sem]<;>first|exact⟨rfl,rfl⟩|exact rfl) ?_
  rw[ifB_bool,if_neg Bool.false_ne_true]
  have e:calHalt S n on=(0,⟨S.day,calSet S.l n λk=>{k with st:=if on then 2 else 1}⟩):=by unfold calHalt;rw[if_neg (by rw[he];simp)]
  rw[e]at hK
  simp only[nilK_ptr]
  obtain⟨b',cap',rest,hse,hix,hA,hb,hget⟩:=hl.item hi
  cases hse
  have g25:=hget 25 (by omega)
  rw[ctT25]at g25
  have hbF:F b:=(hF b).2 (.inr rfl)
  have mF:∀x y,Mod F w1 ((w1.setCell ⟨b,i*27+25,none⟩ x).setCell ⟨b,i*27+25,none⟩ y):=λx y=>(((Mod.refl F w1).setCell (.inl hbF) _ _).setCell (.inl hbF) _ _)
  have mF1:∀x,Mod F w1 (w1.setCell ⟨b,i*27+25,none⟩ x):=λx=>((Mod.refl F w1).setCell (.inl hbF) _ _)
  have m1F:Mod F w w1:=m1.mono λ_ _ h=>h.elim
  refine rvS (v:=.pointer (some ⟨b,i*27+25,none⟩)) (w' :=w1) (by simp[go_sem,addr_add]) ?_
  refine ruS (w' :=w1.setCell ⟨b,i*27+25,none⟩ (.int .u8 1)) (by simp[go_sem,hb,g25]) ?_
  have l1:=hl.set1 hi (j:=25) (by omega) (v:=.int .u8 1) rfl (ctSet25 _ _)
  have hok:∀y:Int,1≤y∧y≤3→_:=λy hy=>calSet_ok (l:=S.l) (n:=n) (f:=λk=>{k with st:=y}) (λk hk _=>⟨ctOk_st (h.ok k hk) hy,rfl⟩) h.ok h.srt
  have hcb:∀(W:World) x,hp W c=some (.cells #[.bool true,.int .u32 S.day,.slice (some ⟨b,0,none⟩) S.l.length cap] 197 (0,0))→hp (W.setCell ⟨b,i*27+25,none⟩ x) c=some (.cells #[.bool true,.int .u32 S.day,.slice (some ⟨b,0,none⟩) S.l.length cap] 197 (0,0)):=λW x h=>by
   have:Mod (λz=>z=b) W (W.setCell ⟨b,i*27+25,none⟩ x):=(Mod.refl (λz=>z=b) W).setCell (.inl rfl) _ _
   exact this.hpk h λe=>hbc e.symm
  cases on with
  |false=>
   rw[ifB_bool,if_neg Bool.false_ne_true]
   have hz:=hok 1 (by omega)
   rw[calSet_eq h.srt hi hn]at hz
   simp only[Bool.false_eq_true,if_false]at hK
   rw[calSet_eq h.srt hi hn]at hK
   refine hK _ (CalQ.turn (by rw[List.length_set];exact hcb _ _ hc) (by rw[List.length_set];exact l1) hF hbc (by rw[List.length_set];exact h.len) h.day hz.1 hz.2.1) (m1F.trans (mF1 _))
  |true=>
   rw[ifB_bool,if_pos rfl]
   refine rvS (v:=.pointer (some ⟨b,i*27+25,none⟩)) (w' :=w1.setCell ⟨b,i*27+25,none⟩ (.int .u8 1)) (by simp[go_sem,addr_add]) ?_
   have hil:i*27+25<(S.l.flatMap ctC++rest).length:=by
    have:=(List.getElem?_eq_some_iff.1 g25).1
    exact this
   have hgs:((S.l.flatMap ctC++rest).set (i*27+25) (.int .u8 1))[i*27+25]? =some (.int .u8 1):=by rw[List.getElem?_set_self hil]
   refine ruS (w' :=(w1.setCell ⟨b,i*27+25,none⟩ (.int .u8 1)).setCell ⟨b,i*27+25,none⟩ (.int .u8 2)) (by simp[go_sem,hb,hgs]) ?_
   have hi1:i<(S.l.set i {S.l[i]with st:=1}).length:=by rw[List.length_set];exact hi
   have l1' :CtS (w1.setCell ⟨b,i*27+25,none⟩ (.int .u8 1)) (.slice (some ⟨b,0,none⟩) (S.l.set i {S.l[i]with st:=1}).length cap) (S.l.set i {S.l[i]with st:=1}):=by rw[List.length_set];exact l1
   have l2:=l1'.set1 hi1 (j:=25) (by omega) (v:=.int .u8 2) rfl (ctSet25 _ _)
   rw[List.set_set,List.getElem_set_self,List.length_set]at l2
   have hz:=hok 2 (by omega)
   rw[calSet_eq h.srt hi hn]at hz
   simp only[if_true]at hK
   rw[calSet_eq h.srt hi hn]at hK
   refine hK _ (CalQ.turn (by rw[List.length_set];exact hcb _ _ (hcb _ _ hc)) (by rw[List.length_set];exact l2) hF hbc (by rw[List.length_set];exact h.len) h.day hz.1 hz.2.1) (m1F.trans (mF _ _))
def calPublish(S:Cal)(n price:Int):Int×Cal:=
 match calGet S.l n with
 |none=>(7,S)
 |some k=>if k.st=3 then(50,S)else if k.spec.isPrice price=false then(52,S)else(0,⟨S.day,calSet S.l n λk=>{k with price:=price}⟩)
theorem ca_cpublish{w:World}{K:Kont}{c:Nat}{F:Nat→Prop}{S:Cal}{n price:Int}(h:CalQ w c F S)
  (hK:∀w',CalQ w' c F (calPublish S n price).2→Mod F w w' →K (.int .i64 (calPublish S n price).1) w'):Ca Tryz.prog 116 #[cptr c,.int .u32 n,.int .i64 price] w K:=by
 apply ca116
 unfold F116
 refine ca_calive h (λw1 he m1=>?_) λi hi b cap w1 hn hst hg he m1 hc hl hF hbc=>?_
 ·refine rvS (v:=.pointer none) (w' :=w1) (by simp[go_sem]) ?_
  refine rvS (v:=.int .i64 (calAlive S.l n)) (w' :=w1) (by simp[go_sem]) ?_
  refine rvS (v:=.bool true) (w' :=w1) (by simp[go_sem,he]) ?_
  rw[ifB_bool,if_pos rfl]
  have e:calPublish S n price=(calAlive S.l n,S):=by
   unfold calPublish calAlive
   unfold calAlive at he
   cases hg:calGet S.l n with
   |none=>rfl
   |some k=>
    rw[hg]at he
    simp only at he⊢
    by_cases h3:k.st=3
    ·rw[if_pos h3,if_pos h3]
    ·rw[if_neg h3]at he;exact absurd rfl he
  rw[e]at hK
  exact hK _ (h.mod m1 λ_ _ h=>h) (m1.mono λ_ _ h=>h.elim)
 ·refine rvS (by simp[-Int.natCast_add,go_sem]<;>first|exact⟨rfl,rfl⟩|exact rfl) ?_
  refine rvS (by simp[-Int.natCast_add,go_sem]<;>first|exact⟨rfl,rfl⟩|exact rfl) ?_
  refine rvS (v:=.bool false) (by simp[go_sem]<;>first|exact⟨rfl,rfl⟩|exact rfl) ?_
  rw[ifB_bool,if_neg Bool.false_ne_true]
  simp only[nilK_ptr]
  obtain⟨b',cap',rest,hse,hix,hA,hb,hget⟩:=hl.item hi
  cases hse
  have hsp:At w1 b (i*27) (spC S.l[i].spec):=by
   have:=hA.sub 0 25 (by rw[ctC_len];omega)
   rw[List.drop_zero,ctC,List.take_append_of_le_length (by rw[spC_len];omega),List.take_of_length_le (by rw[spC_len];omega)]at this
   exact this
  refine rvS (v:=.pointer (some ⟨b,i*27,none⟩)) (w' :=w1) (by simp[go_sem,addr_add]) ?_
  refine rx_bigS (spC S.l[i].spec) 24 aSp nSp (spC_len _) hsp ?_
  have hok:=h.ok S.l[i] (List.getElem_mem hi)
  refine ca_isPrice hok.1.1 λw2 m2=>?_
  have M2:=m1.trans m2
  have e0:calPublish S n price=if S.l[i].spec.isPrice price=false then(52,S)else(0,⟨S.day,calSet S.l n λk=>{k with price:=price}⟩):=by
   unfold calPublish;rw[hg];simp only;rw[if_neg hst]
  rw[e0]at hK
  cases hp:S.l[i].spec.isPrice price with
  |false=>
   refine rvS (v:=.bool true) (by simp[go_sem]<;>first|exact⟨rfl,rfl⟩|exact rfl) ?_
   rw[ifB_bool,if_pos rfl]
   rw[if_pos hp]at hK
   exact hK _ (h.mod M2 λ_ _ h=>h) (M2.mono λ_ _ h=>h.elim)
  |true=>
   refine rvS (v:=.bool false) (by simp[go_sem]<;>first|exact⟨rfl,rfl⟩|exact rfl) ?_
   rw[ifB_bool,if_neg Bool.false_ne_true]
   rw[if_neg (by rw[hp];simp),calSet_eq h.srt hi hn]at hK
   have hl2:CtS w2 (.slice (some ⟨b,0,none⟩) S.l.length cap) S.l:=hl.mod m2 λ_ _ h=>h
   have hc2:=m2.hpk hc id
   obtain⟨b',cap',rest,hse,hix,hA,hb,hget⟩:=hl2.item hi
   cases hse
   have g26:=hget 26 (by omega)
   rw[ctT26]at g26
   refine rvS (v:=.pointer (some ⟨b,i*27+26,none⟩)) (w' :=w2) (by simp[go_sem,addr_add]) ?_
   refine ruS (w' :=w2.setCell ⟨b,i*27+26,none⟩ (.int .i64 price)) (by simp[go_sem,hb,g26]) ?_
   have l1:=hl2.set1 hi (j:=26) (by omega) (v:=.int .i64 price) rfl (ctSet26 _ _)
   have hz:=calSet_ok (l:=S.l) (n:=n) (f:=λk=>{k with price:=price}) (λk hk hkn=>⟨ctOk_price (h.ok k hk) (by
    have:k=S.l[i]:=by
     obtain⟨j,hj,rfl⟩:=List.getElem_of_mem hk
     rcases Nat.lt_trichotomy j i with hji|hji|hji
     ·have:=List.pairwise_iff_getElem.1 h.srt j i hj hi hji;omega
     ·subst hji;rfl
     ·have:=List.pairwise_iff_getElem.1 h.srt i j hi hj hji;omega
    rw[this];exact hp),rfl⟩) h.ok h.srt
   rw[calSet_eq h.srt hi hn]at hz
   have mv:Mod (λz=>z=b) w2 (w2.setCell ⟨b,i*27+26,none⟩ (.int .i64 price)):=(Mod.refl (λz=>z=b) w2).setCell (.inl rfl) _ _
   refine hK _ (CalQ.turn (by rw[List.length_set];exact mv.hpk hc2 λe=>hbc e.symm) (by rw[List.length_set];exact l1) hF hbc (by rw[List.length_set];exact h.len) h.day hz.1 hz.2.1) ((M2.mono λ_ _ h=>h.elim).trans (mv.mono λx _ hx=>(hF x).2 (.inr hx)))
def aheadB(a b:Sp):Bool:=decide (a.last<b.last)||(decide (a.last=b.last)&& decide (a.num<b.num))
theorem ca_ahead{w:World}{K:Kont}{a b:Sp}(hK:∀w',Mod (λ_=>False) w w' →K (.bool (aheadB a b)) w'):Ca Tryz.prog 298 #[.agg (spC a).toArray,.agg (spC b).toArray] w K:=by
 apply ca298
 unfold F298
 obtain⟨w1,e1,b1,m1⟩:=boxSp a w
 refine rvS e1 ?_
 obtain⟨p,hp0⟩:∃p,p=w.heap.size:=⟨_,rfl⟩
 rw[←hp0]at b1⊢
 obtain⟨w2,e2,b2,m2⟩:=boxSp b w1
 refine rvS e2 ?_
 have b1:=m2.hpk b1 id
 have hK:=hK _ (m1.trans m2)
 unfold aheadB at hK
 obtain⟨q,hq0⟩:∃q,q=w1.heap.size:=⟨_,rfl⟩
 rw[←hq0]at b2⊢
 refine rvS (by simp[-Int.natCast_add,go_sem]<;>first|exact⟨rfl,rfl⟩|exact rfl) ?_
 refine rvS (by simp[-Int.natCast_add,go_sem,b1,spT23]<;>first|exact⟨rfl,rfl⟩|exact rfl) ?_
 refine rvS (by simp[-Int.natCast_add,go_sem]<;>first|exact⟨rfl,rfl⟩|exact rfl) ?_
 refine rvS (by simp[-Int.natCast_add,go_sem,b2,spT23]<;>first|exact⟨rfl,rfl⟩|exact rfl) ?_
 by_cases h1:a.last<b.last
 ·refine rvS (v:=.bool true) (by simp[go_sem,h1]<;>first|exact⟨rfl,rfl⟩|exact rfl) ?_
  rw[ifB_bool,if_pos rfl]
  simpa [h1]using hK
 ·refine rvS (v:=.bool false) (by simp[go_sem,h1]<;>first|exact⟨rfl,rfl⟩|exact rfl) ?_
  rw[ifB_bool,if_neg Bool.false_ne_true]
  refine rvS (by simp[-Int.natCast_add,go_sem]<;>first|exact⟨rfl,rfl⟩|exact rfl) ?_
  refine rvS (by simp[-Int.natCast_add,go_sem,b1,spT23]<;>first|exact⟨rfl,rfl⟩|exact rfl) ?_
  refine rvS (by simp[-Int.natCast_add,go_sem]<;>first|exact⟨rfl,rfl⟩|exact rfl) ?_
  refine rvS (by simp[-Int.natCast_add,go_sem,b2,spT23]<;>first|exact⟨rfl,rfl⟩|exact rfl) ?_
  by_cases h2:a.last=b.last
  ·refine rvS (v:=.bool true) (by simp[go_sem,h2]<;>first|exact⟨rfl,rfl⟩|exact rfl) ?_
   rw[ifB_bool,if_pos rfl]
   refine rvS (by simp[-Int.natCast_add,go_sem]<;>first|exact⟨rfl,rfl⟩|exact rfl) ?_
   refine rvS (by simp[-Int.natCast_add,go_sem,b1,spT0]<;>first|exact⟨rfl,rfl⟩|exact rfl) ?_
   refine rvS (by simp[-Int.natCast_add,go_sem]<;>first|exact⟨rfl,rfl⟩|exact rfl) ?_
   refine rvS (by simp[-Int.natCast_add,go_sem,b2,spT0]<;>first|exact⟨rfl,rfl⟩|exact rfl) ?_
   refine rvS (v:=.bool (decide (a.num<b.num))) (w' :=w2) (by simp[go_sem]) ?_
   simpa [h2]using hK
  ·refine rvS (v:=.bool false) (by simp[go_sem,h2]<;>first|exact⟨rfl,rfl⟩|exact rfl) ?_
   rw[ifB_bool,if_neg Bool.false_ne_true]
   simpa [h1,h2]using hK
def dueB(k y:Ct):Bool:=decide (y.st≠3)&& aheadB y.spec k.spec
theorem ca_duecl{w:World}{K:Kont}{k y:Ct}{p b off:Nat}{T:TypeId}(hp0:hp w p=some (.cells #[.pointer (some ⟨b,off,none⟩)] T (0,0)))(hA:At w b off (ctC k))
  (hK:∀w',Mod (λ_=>False) w w' →K (.bool (dueB k y)) w'):Ca Tryz.prog 297 #[.agg (ctC y).toArray,.pointer (some ⟨p,0,none⟩)] w K:=by
 apply ca297
 unfold F297
 obtain⟨w1,e1,b1,m1⟩:=boxCt y w
 refine rvS e1 ?_
 obtain⟨q,hq0⟩:∃q,q=w.heap.size:=⟨_,rfl⟩
 rw[←hq0]at b1⊢
 have md:=m1.drew
 have b1:hp w1.drew q=some (.cells (ctC y).toArray tCt (0,0)):=b1
 have p1:=md.hpk hp0 id
 have A1:=hA.mod md id
 generalize w1.drew=w2 at md b1 p1 A1⊢
 refine rdPS (λ_=>by simp[-Int.natCast_add,go_sem]<;>first|exact⟨rfl,rfl⟩|exact rfl) ?_
 refine rdWS (v:=.int .u8 y.st) (by simp[go_sem,b1,ctT25]) ?_
 unfold dueB at hK
 by_cases h3:y.st=3
 ·refine rdPS (v:=.bool false) (λ_=>by simp[go_sem,h3]) ?_
  rw[ifB_bool,if_neg Bool.false_ne_true]
  have hk:=hK _ md
  simpa [h3]using hk
 ·refine rdPS (v:=.bool true) (λ_=>by simp[go_sem,h3]) ?_
  rw[ifB_bool,if_pos rfl]
  have hsp:∀{W:World} {b off:Nat} {x:Ct},At W b off (ctC x)→At W b off (spC x.spec):=λhA=>by
   have:=hA.sub 0 25 (by rw[ctC_len];omega)
   rw[List.drop_zero,ctC,List.take_append_of_le_length (by rw[spC_len];omega),List.take_of_length_le (by rw[spC_len];omega)]at this
   exact this
  refine rdPS (λ_=>by simp[-Int.natCast_add,go_sem]<;>first|exact⟨rfl,rfl⟩|exact rfl) ?_
  refine rdX_bigS (spC y.spec) 24 aSp nSp (spC_len _) (hsp (At.all b1)) ?_
  refine rdWS (v:=.pointer (some ⟨b,off,none⟩)) (by simp[go_sem,p1]) ?_
  simp only[nilK_ptr]
  refine rdPS (v:=.pointer (some ⟨b,off,none⟩)) (λ_=>by simp[go_sem,addr_add]) ?_
  refine rdX_bigS (spC k.spec) 24 aSp nSp (spC_len _) (hsp A1) ?_
  refine ca_ahead λw3 m3=>?_
  have hk:=hK _ (md.trans m3)
  simpa [h3]using hk
end Go.Proofs
namespace Go.Proofs
open Go Go.Vc
attribute [local congr] Ca_congV
def ClosCt(w:World)(fv:Value)(p:Ct→Bool)(l:List Ct):Prop:=
 ∃g cp,fv=.func (.func g) #[] cp∧∀x∈l,∀W,Mod (λ_=>False) w W→∀K:Kont,(∀W',Mod (λ_=>False) W W' →K (.bool (p x)) W')→Ca Tryz.prog g ⟨[.agg (ctC x).toArray]++cp.toList⟩ W K
theorem CtS.ld{w:World}{s:Value}{l:List Ct}(h:Rd w 27 s l.length (l.flatMap ctC)){x:Nat}(hx:x<l.length):
  ∃p,(Instr.indexAt tCts s (.int .i64 (x:Int))).run Tryz.prog w=.ok p w∧(bigS tCt p).run Tryz.prog w=.ok (.agg (ctC l[x]).toArray) w:=by
 obtain⟨b,off,cap,hse,hcap,hA⟩:=h.item ctC_len hx rfl
 exact⟨.pointer (some ⟨b,off+x*27,none⟩),by rw[hse];simp[go_sem,hx,addr_add,uCts],run_bigS aCt nCt (ctC_len _) hA⟩
theorem ca_indexCt{w:World}{K:Kont}{s fv:Value}{l:List Ct}{p:Ct→Bool}(h:Rd w 27 s l.length (l.flatMap ctC))(hn:l.length≤1000000)(hc:ClosCt w fv p l)
  (hK:∀w',Mod (λ_=>False) w w' →K (.int .i64 (idxI l p)) w'):Ca Tryz.prog 347 #[s,fv] w K:=by
 obtain⟨g,cp,rfl,hcl⟩:=hc
 apply ca347
 unfold F347
 obtain⟨a,c,hs⟩:=h.isSl
 refine rnS (v:=.int .i64 (l.length:Int)) (w' :=w) (by rw[hs];simp[go_sem]) ?_
 refine loopV (λst W=>∃(i:Nat) (x:Value),i≤l.length∧st=(x,.int .i64 i,())∧Mod (λ_=>False) w W∧∀j:Nat,∀hj:j<l.length,j<i→p l[j]=false)
  (λst _=>match st.2.1 with| .int _ i=>l.length - i.toNat|_=>0) ⟨0,.int .i64 0,by omega,rfl,Mod.refl _ _,λj _ h=>by omega⟩ ?_
 rintro⟨_,_⟩ W ⟨i,x,hi,⟨⟩,mW,hno⟩ KN hKN
 unfold L347_0
 intro _
 by_cases hlt:i<l.length
 ·have hlt' :(i:Int)<(l.length:Int):=by omega
  refine rvS (v:=.bool true) (by simp[go_sem,hlt']<;>first|exact⟨rfl,rfl⟩|exact rfl) ?_
  rw[ifB_bool,if_pos rfl]
  obtain⟨q,f1,f2⟩:=CtS.ld (h.mod mW λ_ _ h=>h) hlt
  refine rvS f1 ?_
  refine rx_of f2 ?_
  simp only[callV_func]
  refine hcl l[i] (List.getElem_mem hlt) W mW _ λW' mW' =>?_
  cases hp:p l[i]with
  |true=>
   rw[ifB_bool,if_pos rfl]
   have:idxI l p=(i:Int):=by
    unfold idxI
    have:l.findIdx? p=some i:=by
     rw[List.findIdx?_eq_some_iff_getElem]
     refine⟨hlt,hp,λj hj=>?_⟩
     rw[hno j (by omega) hj];simp
    rw[this]
   have hk:=hK _ (mW.trans mW')
   rw[this]at hk
   exact hk
  |false=>
   rw[ifB_bool,if_neg Bool.false_ne_true]
   refine rvS (v:=.int .i64 ((i+1:Nat):Int)) (w' :=W') (by simp[go_sem];rw[wrapI (by omega) (by omega)]) ?_
   refine hKN _ _ ⟨i+1,_,by omega,rfl,mW.trans mW',λj hj hji=>?_⟩ (by show l.length - (((i+1:Nat):Int)).toNat<l.length - ((i:Int)).toNat;omega)
   by_cases he:j=i
   ·subst he;exact hp
   ·exact hno j hj (by omega)
 ·obtain rfl:i=l.length:=by omega
  refine rvS (v:=.bool false) (by simp[go_sem]<;>first|exact⟨rfl,rfl⟩|exact rfl) ?_
  rw[ifB_bool,if_neg Bool.false_ne_true]
  have:idxI l p= -1:=by
   unfold idxI
   have:l.findIdx? p=none:=by
    rw[List.findIdx?_eq_none_iff]
    intro x hx
    obtain⟨j,hj,rfl⟩:=List.getElem_of_mem hx
    exact hno j hj hj
   rw[this]
  have hk:=hK _ mW
  rw[this]at hk
  exact hk
theorem idxI_any{α:Type}(l:List α)(p:α→Bool):decide (0≤idxI l p)=l.any p:=by
 unfold idxI
 cases h:l.findIdx? p with
 |none=>
  rw[List.findIdx?_eq_none_iff]at h
  have:l.any p=false:=by rw[List.any_eq_false];exact λx hx=>by rw[h x hx];simp
  rw[this];rfl
 |some i=>
  obtain⟨hi,hp,-⟩:=List.findIdx?_eq_some_iff_getElem.1 h
  have:l.any p=true:=List.any_eq_true.2 ⟨l[i],List.getElem_mem hi,hp⟩
  rw[this]
  exact decide_eq_true (by simp)
theorem ca_containsCt{w:World}{K:Kont}{s fv:Value}{l:List Ct}{p:Ct→Bool}(h:Rd w 27 s l.length (l.flatMap ctC))(hn:l.length≤1000000)(hc:ClosCt w fv p l)
  (hK:∀w',Mod (λ_=>False) w w' →K (.bool (l.any p)) w'):Ca Tryz.prog 296 #[s,fv] w K:=by
 apply ca296
 unfold F296
 refine ca_indexCt h hn hc λw1 m1=>?_
 refine rvS (v:=.bool (l.any p)) (w' :=w1) (by rw[←idxI_any];simp[go_sem]) ?_
 exact hK _ m1
def calDue(S:Cal)(n:Int):Int:=
 match calGet S.l n with
 |none=>7
 |some k=>if k.st=3 then 50 else if S.day<k.spec.last∨S.l.any (dueB k)=true then 51 else 0
theorem calDue_alive{S:Cal}{n:Int}(h:calAlive S.l n≠0):calDue S n=calAlive S.l n:=by
 unfold calDue calAlive
 unfold calAlive at h
 cases hg:calGet S.l n with
 |none=>rfl
 |some k=>
  rw[hg]at h
  simp only at h⊢
  by_cases h3:k.st=3
  ·rw[if_pos h3,if_pos h3]
  ·rw[if_neg h3]at h;exact absurd rfl h
theorem ca_cdue{w:World}{K:Kont}{c:Nat}{F:Nat→Prop}{S:Cal}{n:Int}(h:CalQ w c F S)
  (hK:∀w',Mod (λ_=>False) w w' →K (.int .i64 (calDue S n)) w'):Ca Tryz.prog 257 #[cptr c,.int .u32 n] w K:=by
 apply ca257
 unfold F257
 have hvar:∀(W:World) (v:Value),(∃o,v=.pointer o)→∃w1 w2,(Instr.alloc 295 true (.tuple #[])).run Tryz.prog W=.ok (.pointer (some ⟨W.heap.size,0,none⟩)) w1∧(Instr.storeAt 295 (.pointer (some ⟨W.heap.size,0,none⟩)) v).run Tryz.prog w1=.ok () w2∧
   hp w2 W.heap.size=some (.cells #[v] 295 (0,0))∧Mod (λ_=>False) W w2:=λW v hv=>by
  obtain⟨o,rfl⟩:=hv
  obtain⟨w1,hw1⟩:∃w1,w1=W.alloc (.cells #[.pointer none] 295):=⟨_,rfl⟩
  have m1:Mod (λ_=>False) W w1:=by rw[hw1];exact(Mod.refl _ W).alloc _
  have b1:hp w1 W.heap.size=some (.cells #[.pointer none] 295 (0,0)):=by rw[hw1];simp[go_sem]
  exact⟨w1,w1.setCell ⟨W.heap.size,0,none⟩ (.pointer o),by rw[hw1];simp[go_sem],by simp[go_sem,b1],by simp[go_sem,b1],m1.on ((Mod.refl (λx=>x=W.heap.size) w1).setCell (.inl rfl) _ _) λx hx=>.inr (by omega)⟩
 refine ca_calive h (λw1 he m1=>?_) λi hi b cap w1 hn hst hg he m1 hc hl hF hbc=>?_
 ·refine rvS (v:=.pointer none) (w' :=w1) (by simp[go_sem]) ?_
  refine rvS (v:=.int .i64 (calAlive S.l n)) (w' :=w1) (by simp[go_sem]) ?_
  obtain⟨w2,w3,e2,e3,b3,m3⟩:=hvar w1 (.pointer none) ⟨_,rfl⟩
  refine rvS e2 ?_
  refine ruS e3 ?_
  refine rvS (v:=.bool true) (w' :=w3) (by simp[go_sem,he]) ?_
  rw[ifB_bool,if_pos rfl]
  have hk:=hK _ (m1.trans m3)
  rw[calDue_alive he]at hk
  exact hk
 ·refine rvS (v:=.pointer (some ⟨b,i*27,none⟩)) (w' :=w1) (by simp[go_sem]) ?_
  refine rvS (v:=.int .i64 0) (w' :=w1) (by simp[go_sem]) ?_
  obtain⟨w2,w3,e2,e3,b3,m3⟩:=hvar w1 (.pointer (some ⟨b,i*27,none⟩)) ⟨_,rfl⟩
  obtain⟨q,hq0⟩:∃q,q=w1.heap.size:=⟨_,rfl⟩
  rw[←hq0]at e2 e3 b3
  refine rvS e2 ?_
  refine ruS e3 ?_
  refine rvS (v:=.bool false) (by simp[go_sem]<;>first|exact⟨rfl,rfl⟩|exact rfl) ?_
  rw[ifB_bool,if_neg Bool.false_ne_true]
  have M3:=m1.trans m3
  have hc3:=m3.hpk hc id
  have hl3:CtS w3 (.slice (some ⟨b,0,none⟩) S.l.length cap) S.l:=hl.mod m3 λ_ _ h=>h
  have e0:calDue S n=if S.day<S.l[i].spec.last∨S.l.any (dueB S.l[i])=true then 51 else 0:=by
   unfold calDue;rw[hg];simp only;rw[if_neg hst]
  rw[e0]at hK
  have md:Mod (λ_=>False) w3 w3.drew:=(Mod.refl _ w3).drew
  have hcd:=md.hpk hc3 id
  have hld:CtS w3.drew (.slice (some ⟨b,0,none⟩) S.l.length cap) S.l:=hl3.mod md λ_ _ h=>h
  have hqd:=md.hpk b3 id
  have Md:=M3.trans md
  refine JoinW.at (λst W=>st=(.bool (decide (S.day<S.l[i].spec.last∨S.l.any (dueB S.l[i])=true)),())∧Mod (λ_=>False) w W) ?_ ?_
  ·obtain⟨b',cap',rest,hse,hix,hA,hb,hget⟩:=hld.item hi
   cases hse
   have g23:=hget 23 (by omega)
   rw[ctT23]at g23
   simp only[cptr,nilK_ptr]
   generalize w3.drew=w4 at md hcd hld hqd Md hA hb⊢
   refine rdPS (λ_=>by simp[-Int.natCast_add,go_sem]<;>first|exact⟨rfl,rfl⟩|exact rfl) ?_
   refine rdWS (v:=.int .u32 S.day) (by simp[go_sem,hcd]) ?_
   refine rdWS (v:=.pointer (some ⟨b,i*27,none⟩)) (by simp[go_sem,hqd]) ?_
   simp only[nilK_ptr]
   refine rdPS (v:=.pointer (some ⟨b,i*27,none⟩)) (λ_=>by simp[go_sem,addr_add]) ?_
   refine rdPS (v:=.pointer (some ⟨b,i*27+23,none⟩)) (λ_=>by simp[go_sem,addr_add]) ?_
   refine rdWS (v:=.int .u32 S.l[i].spec.last) (by simp[go_sem,hb,g23]) ?_
   by_cases hlt:S.day<S.l[i].spec.last
   ·refine rdPS (v:=.bool true) (λ_=>by simp[go_sem,hlt]) ?_
    rw[ifB_bool,if_pos rfl]
    exact⟨by simp[hlt],Md⟩
   ·refine rdPS (v:=.bool false) (λ_=>by simp[go_sem,hlt]) ?_
    rw[ifB_bool,if_neg Bool.false_ne_true]
    refine rdPS (λ_=>by simp[-Int.natCast_add,go_sem]<;>first|exact⟨rfl,rfl⟩|exact rfl) ?_
    refine rdWS (v:=.slice (some ⟨b,0,none⟩) S.l.length cap) (by simp[go_sem,hcd]) ?_
    refine ca_containsCt (l:=S.l) (p:=dueB S.l[i]) hld.rd (by have:=h.len;omega) ⟨_,_,rfl,λy hy W mW K' hK' =>?_⟩ λw5 m5=>?_
    ·exact ca_duecl (mW.hpk hqd id) (hA.mod mW id) hK'
    ·refine⟨?_,Md.trans m5⟩
     have e:decide (S.day<S.l[i].spec.last∨S.l.any (dueB S.l[i])=true)=S.l.any (dueB S.l[i]):=by
      rw[Bool.eq_iff_iff,decide_eq_true_iff];exact⟨λh=>h.resolve_left hlt,.inr⟩
     rw[e]
  rintro _ W ⟨rfl,mW⟩
  unfold J257_0
  intro _
  by_cases hd:S.day<S.l[i].spec.last∨S.l.any (dueB S.l[i])=true
  ·rw[ifB_bool,if_pos (decide_eq_true hd)]
   have hk:=hK _ mW
   rw[if_pos hd]at hk
   exact hk
  ·rw[ifB_bool,if_neg (by rw[decide_eq_true_eq];exact hd)]
   have hk:=hK _ mW
   rw[if_neg hd]at hk
   exact hk
def calExpire(S:Cal)(n:Int):Int×Cal:=if calDue S n≠0 then(calDue S n,S)else(0,⟨S.day,calSet S.l n λk=>{k with st:=3}⟩)
theorem calDue_0{S:Cal}{n:Int}(h:calDue S n=0):calAlive S.l n=0:=by
 apply Classical.byContradiction
 intro hc
 rw[calDue_alive hc]at h
 exact hc h
theorem ca_cexpire{w:World}{K:Kont}{c:Nat}{F:Nat→Prop}{S:Cal}{n:Int}(h:CalQ w c F S)
  (hK:∀w',CalQ w' c F (calExpire S n).2→Mod F w w' →K (.int .i64 (calExpire S n).1) w'):Ca Tryz.prog 206 #[cptr c,.int .u32 n] w K:=by
 apply ca206
 unfold F206
 refine ca_cdue h λw0 m0=>?_
 have h0:=h.mod m0 λ_ _ h=>h
 unfold calExpire at hK
 by_cases hd:calDue S n=0
 ·rw[if_neg (by simpa using hd)]at hK
  rw[hd]
  refine rvS (v:=.bool false) (by simp[go_sem]<;>first|exact⟨rfl,rfl⟩|exact rfl) ?_
  rw[ifB_bool,if_neg Bool.false_ne_true]
  refine ca_calive h0 (λw1 he m1=>absurd (calDue_0 hd) he) λi hi b cap w1 hn hst hg he m1 hc hl hF hbc=>?_
  refine rvS (by simp[-Int.natCast_add,go_sem]<;>first|exact⟨rfl,rfl⟩|exact rfl) ?_
  refine rvS (by simp[-Int.natCast_add,go_sem]<;>first|exact⟨rfl,rfl⟩|exact rfl) ?_
  refine rvS (v:=.bool true) (by simp[go_sem]<;>first|exact⟨rfl,rfl⟩|exact rfl) ?_
  rw[ifB_bool,if_pos rfl]
  simp only[nilK_ptr]
  obtain⟨b',cap',rest,hse,hix,hA,hb,hget⟩:=hl.item hi
  cases hse
  have g25:=hget 25 (by omega)
  rw[ctT25]at g25
  refine rvS (v:=.pointer (some ⟨b,i*27+25,none⟩)) (w' :=w1) (by simp[go_sem,addr_add]) ?_
  refine ruS (w' :=w1.setCell ⟨b,i*27+25,none⟩ (.int .u8 3)) (by simp[go_sem,hb,g25]) ?_
  have l1:=hl.set1 hi (j:=25) (by omega) (v:=.int .u8 3) rfl (ctSet25 _ _)
  have mv:Mod (λz=>z=b) w1 (w1.setCell ⟨b,i*27+25,none⟩ (.int .u8 3)):=(Mod.refl (λz=>z=b) w1).setCell (.inl rfl) _ _
  have hz:=calSet_ok (l:=S.l) (n:=n) (f:=λk=>{k with st:=3}) (λk hk _=>⟨ctOk_st (h.ok k hk) (by omega),rfl⟩) h.ok h.srt
  rw[calSet_eq h.srt hi hn]at hz
  rw[calSet_eq h.srt hi hn]at hK
  exact hK _ (CalQ.turn (by rw[List.length_set];exact mv.hpk hc λe=>hbc e.symm) (by rw[List.length_set];exact l1) hF hbc (by rw[List.length_set];exact h.len) h.day hz.1 hz.2.1) (((m0.trans m1).mono λ_ _ h=>h.elim).trans (mv.mono λx _ hx=>(hF x).2 (.inr hx)))
 ·rw[if_pos hd]at hK
  refine rvS (v:=.bool true) (w' :=w0) (by simp[go_sem,hd]) ?_
  rw[ifB_bool,if_pos rfl]
  exact hK _ h0 (m0.mono λ_ _ h=>h.elim)
theorem ctVar{W:World}{k:Ct}{K:Value→World→Prop}(hK:∀w2,hp w2 W.heap.size=some (.cells (ctC k).toArray tCt (0,0))→Mod (λ_=>False) W w2→K (.pointer (some ⟨W.heap.size,0,none⟩)) w2):
  rx Tryz.prog (bigA tCt) W λv w1=>rux Tryz.prog (bigU tCt v (.agg (ctC k).toArray)) w1 λw2=>K v w2:=by
 refine rx_bigVar 26 zCt nCt (ctC_len k) zlCt (ctC_one k) ?_
 exact hK _ (by simp[go_sem]) ((Mod.refl _ W).alloc _)
theorem it_call{c b:Nat}{S:Cal}{T:TypeId}:IterN Tryz.prog (.func (.func 131) #[] #[.pointer (some ⟨b,0,none⟩)]) (S.l.map λk=>[.agg (ctC k).toArray]) (λW=>hp W b=some (.cells #[cptr c] T (0,0))∧∃F,CalQ W c F S):=by
 refine⟨⟨_,_,_,rfl,?_⟩⟩
 rintro y J Js W K ⟨hb,F,hq⟩ hQ hmod hstep hend hex
 show Ca Tryz.prog _ #[y,.pointer (some ⟨b,0,none⟩)] W K
 apply ca131
 unfold F131
 refine rvS (v:=cptr c) (w' :=W) (by simp[go_sem,hb,cptr]) ?_
 refine ca_cready hq ?_
 refine rvS (v:=.bool false) (by simp[go_sem]<;>first|exact⟨rfl,rfl⟩|exact rfl) ?_
 rw[ifB_bool,if_neg Bool.false_ne_true]
 obtain⟨⟨sl,c1,c2,c3,c4⟩,c5,c6⟩:=id hq
 refine rvS (v:=cptr c) (w' :=W) (by simp[go_sem,hb,cptr]) ?_
 simp only[cptr,nilK_ptr]
 obtain⟨ta,tc,hsl,-⟩:=c2.isSl
 refine rvS (by simp[-Int.natCast_add,go_sem,c1]<;>first|exact⟨rfl,rfl⟩|exact rfl) ?_
 refine rvS (v:=sl) (w' :=W) (by simp[go_sem,c1,hsl]) ?_
 refine ca_cloneCt (l:=S.l) c2.rd (by omega) λs2 w2 o2 m2 n2=>?_
 obtain⟨sa,sc,hs2,-⟩:=o2.isSl
 refine rnS (v:=.int .i64 (S.l.length:Int)) (w' :=w2) (by rw[hs2];simp[go_sem]) ?_
 have hJ0:J (inSl s2) 0 w2:=hQ _ _ m2 λb hb=>⟨n2 b hb,o2.lt hb⟩
 refine loopV (λst W' =>∃i:Nat,i≤S.l.length∧st=(.int .i64 i,())∧J (inSl s2) i W' ∧CtS W' s2 S.l)
  (λst _=>match st.1 with| .int _ i=>S.l.length - i.toNat|_=>0) ⟨0,by omega,rfl,hJ0,o2⟩ ?_
 rintro⟨_,_⟩ W' ⟨i,hi,⟨⟩,hJ,hO⟩ KN hKN
 unfold L131_0
 intro _
 by_cases hlt:i<S.l.length
 ·have hlt' :(i:Int)<(S.l.length:Int):=by omega
  refine rvS (v:=.bool true) (by simp[go_sem,hlt']<;>first|exact⟨rfl,rfl⟩|exact rfl) ?_
  rw[ifB_bool,if_pos rfl]
  obtain⟨p,f1,f2⟩:=CtS.ld hO.rd hlt
  refine rvS f1 ?_
  refine rx_of f2 ?_
  refine ctVar λw4 b4 M4=>?_
  refine rx_bigS (ctC S.l[i]) 26 aCt nCt (ctC_len _) (At.all b4) ?_
  have hO4:=hO.mod M4 λ_ _ h=>h
  refine hstep (inSl s2) i [.agg (ctC S.l[i]).toArray] w4 (by simp[hlt]) (hmod _ _ _ _ hJ M4) _ (λW5 hJ5 hk5=>?_) λW5 hJ5=>?_
  ·refine rvS (v:=.bool false) (by simp[go_sem]<;>first|exact⟨rfl,rfl⟩|exact rfl) ?_
   rw[ifB_bool,if_neg Bool.false_ne_true]
   refine rvS (v:=.int .i64 ((i+1:Nat):Int)) (w' :=W5) (by simp[go_sem];rw[wrapI (by omega) (by omega)]) ?_
   exact hKN _ _ ⟨i+1,by omega,rfl,hJ5,hO4.keep hk5⟩ (by show S.l.length - (((i+1:Nat):Int)).toNat<S.l.length - ((i:Int)).toNat;omega)
  ·refine rvS (v:=.bool true) (by simp[go_sem]<;>first|exact⟨rfl,rfl⟩|exact rfl) ?_
   rw[ifB_bool,if_pos rfl]
   exact hex _ hJ5
 ·obtain rfl:i=S.l.length:=by omega
  refine rvS (v:=.bool false) (by simp[go_sem]<;>first|exact⟨rfl,rfl⟩|exact rfl) ?_
  rw[ifB_bool,if_neg Bool.false_ne_true]
  exact hend _ W' (by simpa using hJ)
theorem ca_call{w:World}{K:Kont}{c:Nat}{F:Nat→Prop}{S:Cal}(h:CalQ w c F S)
  (hK:∀gv w',TellsM gv (S.l.map λk=>[.agg (ctC k).toArray]) w' →Mod (λ_=>False) w w' →K gv w'):Ca Tryz.prog 47 #[cptr c] w K:=by
 apply ca47
 unfold F47
 have m0:Mod (λ_=>False) w (w.alloc (.cells #[cptr c] 61)):=(Mod.refl _ w).alloc _
 refine rvS (v:=.pointer (some ⟨w.heap.size,0,none⟩)) (w' :=w.alloc (.cells #[cptr c] 61)) (by simp[go_sem,cptr]) ?_
 have b0:hp (w.alloc (.cells #[cptr c] 61)) w.heap.size=some (.cells #[cptr c] 61 (0,0)):=by simp[go_sem]
 exact hK _ _ ⟨⟨_,iterNm (it_call (c:=c) (b:=w.heap.size) (S:=S) (T:=61)),λW m=>⟨m.hpk b0 id,F,h.mod (m0.trans m) λ_ _ h=>h⟩⟩,_,_,rfl⟩ m0
theorem builtCt3(s:Sp)(x p:Int):Tryz.prog.built tCt [(0,.agg (spC s).toArray),(1,.int .u8 x),(2,.int .i64 p)]=some (ctC ⟨s,x,p⟩).toArray:=by
 have h1:∀parts,Tryz.prog.built tCt parts=Instr.fill (λi=>#[(0,25),(25,1),(26,1)][i]?) (zeroC Tryz.prog tCt).toArray parts:=λparts=>by kernel_rfl
 rw[h1,zeroCt]
 rw[fill_part (off:=0) (size:=25) rfl (by show(spC s).toArray.size=25;rw[List.size_toArray,spC_len]) (by rw[ctC_len];omega)]
 rw[fill_part (off:=25) (size:=1) rfl rfl (by rw[lay_length (by show 0+(spC s).length≤_;rw[spC_len,ctC_len];omega),ctC_len];omega)]
 rw[fill_part (off:=26) (size:=1) rfl rfl (by rw[lay_length (by rw[lay_length (by show 0+(spC s).length≤_;rw[spC_len,ctC_len];omega),ctC_len];show 25+1≤27;omega),lay_length (by show 0+(spC s).length≤_;rw[spC_len,ctC_len];omega),ctC_len];omega)]
 rw[fill_nil]
 congr 2
 have e1:lay (ctC zCt0) 0 (spC s)=spC s++[.int .u8 0,.int .i64 0]:=by
  unfold lay
  rw[List.take_zero,List.nil_append,spC_len,ctC,List.drop_left' (by rw[spC_len])]
  rfl
 show lay (lay (lay (ctC zCt0) 0 (spC s)) 25 [.int .u8 x]) 26 [.int .i64 p]=_
 rw[e1]
 have e2:lay (spC s++[.int .u8 0,.int .i64 0]) 25 [.int .u8 x]=spC s++[.int .u8 x,.int .i64 0]:=by
  unfold lay
  rw[List.take_left' (spC_len s),List.drop_append,List.drop_of_length_le (by rw[spC_len];simp),spC_len]
  simp
 rw[e2]
 unfold lay
 rw[List.take_append,List.take_of_length_le (by rw[spC_len];omega),spC_len,List.drop_of_length_le (by simp[spC_len])]
 simp[ctC]
def newCt(s:Sp):Ct:=⟨s,1,s.first⟩
def calList(S:Cal)(s:Sp):Int×Cal:=
 if s.may=false then(2,S)else if(calGet S.l s.num).isSome then(8,S)else if s.last<S.day then(51,S)else if 16≤S.l.length then(9,S)
 else(0,⟨S.day,S.l.take (calAt S.l s.num)++newCt s::S.l.drop (calAt S.l s.num)⟩)
theorem calIns_ok{l:List Ct}(hs:Rising l)(ho:∀k∈l,k.Ok){k:Ct}(hk:k.Ok)(hg:calGet l k.spec.num=none):(∀x∈l.take (calAt l k.spec.num)++k::l.drop (calAt l k.spec.num),x.Ok)∧Rising (l.take (calAt l k.spec.num)++k::l.drop (calAt l k.spec.num))∧calAt l k.spec.num≤l.length:=by
 have e:l.take (calAt l k.spec.num)=l.takeWhile λx=>decide (x.spec.num<k.spec.num):=by
  unfold calAt
  have h1:l.takeWhile (λx=>decide (x.spec.num<k.spec.num))++l.dropWhile (λx=>decide (x.spec.num<k.spec.num))=l:=List.takeWhile_append_dropWhile
  conv=>lhs;rw[←h1];arg 1;rw[h1]
  rw[List.take_left]
 have e2:l.drop (calAt l k.spec.num)=l.dropWhile λx=>decide (x.spec.num<k.spec.num):=by
  unfold calAt
  have h1:l.takeWhile (λx=>decide (x.spec.num<k.spec.num))++l.dropWhile (λx=>decide (x.spec.num<k.spec.num))=l:=List.takeWhile_append_dropWhile
  conv=>lhs;rw[←h1];arg 1;rw[h1]
  rw[List.drop_left]
 have hlen:calAt l k.spec.num≤l.length:=(List.takeWhile_sublist _).length_le
 have hlo:∀x∈l.take (calAt l k.spec.num),x.spec.num<k.spec.num:=λx hx=>by
  rw[e]at hx
  have:=List.all_takeWhile (l:=l) (p:=λx:Ct=>decide (x.spec.num<k.spec.num))
  simpa using List.all_eq_true.1 this x hx
 have hhi:∀x∈l.drop (calAt l k.spec.num),k.spec.num<x.spec.num:=λx hx=>by
  have hne:x.spec.num≠k.spec.num:=λhc=>by
   unfold calGet at hg
   have:=List.find?_eq_none.1 hg x (List.mem_of_mem_drop hx)
   simp[hc]at this
  have hge:¬x.spec.num<k.spec.num:=λhc=>by
   by_cases hd:calAt l k.spec.num<l.length
   ·have hfirst:¬l[calAt l k.spec.num].spec.num<k.spec.num:=by
     have h0:(l.drop (calAt l k.spec.num))[0]? =some l[calAt l k.spec.num]:=by rw[List.getElem?_drop,Nat.add_zero,List.getElem?_eq_getElem hd]
     rw[e2]at h0
     have h1:=List.head?_dropWhile_not (λx:Ct=>decide (x.spec.num<k.spec.num)) l
     rw[List.head?_eq_getElem?,h0]at h1
     simpa using h1
    obtain⟨j,hj,rfl⟩:=List.getElem_of_mem hx
    rw[List.getElem_drop]at hc
    rw[List.length_drop]at hj
    by_cases hj0:j=0
    ·subst hj0;exact hfirst hc
    ·have:=List.pairwise_iff_getElem.1 hs (calAt l k.spec.num) (calAt l k.spec.num+j) hd (by omega) (by omega)
     omega
   ·rw[List.drop_of_length_le (by omega)]at hx;cases hx
  omega
 refine⟨λx hx=>?_,?_,hlen⟩
 ·rcases List.mem_append.1 hx with hx|hx
  ·exact ho x (List.mem_of_mem_take hx)
  ·rcases List.mem_cons.1 hx with rfl|hx
   ·exact hk
   ·exact ho x (List.mem_of_mem_drop hx)
 ·unfold Rising
  rw[List.pairwise_append,List.pairwise_cons]
  refine⟨hs.sublist (List.take_sublist _ _),⟨hhi,hs.sublist (List.drop_sublist _ _)⟩,λa ha b hb=>?_⟩
  rcases List.mem_cons.1 hb with rfl|hb
  ·exact hlo a ha
  ·have h1:=hlo a ha
   have h2:=hhi b hb
   omega
theorem Sp.may_price{s:Sp}(h:s.may=true):s.isPrice s.first=true:=by
 unfold Sp.isPrice
 rw[h]
 unfold Sp.may at h
 simp only[Bool.and_eq_true]at h
 simpa using h.2
set_option maxRecDepth 10000 in
theorem ca_clist{w:World}{K:Kont}{c:Nat}{F:Nat→Prop}{S:Cal}{s:Sp}(h:CalQ w c F S)(hf:s.Fit)
  (hK:∀F' w',CalQ w' c F' (calList S s).2→Mod F w w' →(∀x,F' x→F x∨w.heap.size≤x)→K (.int .i64 (calList S s).1) w'):Ca Tryz.prog 114 #[cptr c,.agg (spC s).toArray] w K:=by
 apply ca114
 unfold F114
 obtain⟨w1,e1,b1,m1⟩:=boxSp s w
 refine rvS e1 ?_
 obtain⟨p,hp0⟩:∃p,p=w.heap.size:=⟨_,rfl⟩
 rw[←hp0]at b1⊢
 have h1:=h.mod m1 λ_ _ h=>h
 have toF:∀{W W' :World},Mod (λ_=>False) W W' →Mod F W W' :=λm=>m.mono λ_ _ h=>h.elim
 have bad:∀e W,calList S s=(e,S)→Mod (λ_=>False) w W→K (.int .i64 e) W:=λe W he m=>by
  rw[he]at hK
  exact hK F W (h.mod m λ_ _ h=>h) (toF m) λx hx=>.inl hx
 refine ca_cready h1 ?_
 refine rvS (v:=.bool false) (by simp[go_sem]<;>first|exact⟨rfl,rfl⟩|exact rfl) ?_
 rw[ifB_bool,if_neg Bool.false_ne_true]
 refine rx_bigS (spC s) 24 aSp nSp (spC_len s) (At.all b1) ?_
 refine ca_smayS hf λw2 m2=>?_
 have M2:=m1.trans m2
 have b2:=m2.hpk b1 id
 cases hmay:s.may with
 |false=>
  refine rvS (v:=.bool true) (by simp[go_sem]<;>first|exact⟨rfl,rfl⟩|exact rfl) ?_
  rw[ifB_bool,if_pos rfl]
  exact bad 2 w2 (by unfold calList;rw[if_pos hmay]) M2
 |true=>
  refine rvS (v:=.bool false) (by simp[go_sem]<;>first|exact⟨rfl,rfl⟩|exact rfl) ?_
  rw[ifB_bool,if_neg Bool.false_ne_true]
  refine rvS (by simp[-Int.natCast_add,go_sem]<;>first|exact⟨rfl,rfl⟩|exact rfl) ?_
  refine rvS (by simp[-Int.natCast_add,go_sem,b2,spT0]<;>first|exact⟨rfl,rfl⟩|exact rfl) ?_
  have q2:=h1.mod m2 λ_ _ h=>h
  refine ca_cat q2 λw3 m3=>?_
  have M3:=M2.trans m3
  have b3:=m3.hpk b2 id
  refine rvS (v:=.int .i64 (calAt S.l s.num)) (w' :=w3) (by simp[go_sem]) ?_
  refine rvS (v:=.bool (calGet S.l s.num).isSome) (w' :=w3) (by simp[go_sem]) ?_
  cases hg:calGet S.l s.num with
  |some k=>
   rw[show(some k).isSome=true from rfl,ifB_bool,if_pos rfl]
   exact bad 8 w3 (by unfold calList;rw[if_neg (by simp[hmay]),hg];rfl) M3
  |none=>
   rw[show(none:Option Ct).isSome=false from rfl,ifB_bool,if_neg Bool.false_ne_true]
   have q3:=q2.mod m3 λ_ _ h=>h
   obtain⟨⟨sl,h1,h2,h3,h4⟩,h5,h6,h7,h8⟩:=q3
   obtain⟨sa,sc,hsl,-⟩:=h2.isSl
   have md:Mod (λ_=>False) w3 w3.drew:=(Mod.refl _ w3).drew
   have c4:=md.hpk h1 id
   have b4:=md.hpk b3 id
   have l4:CtS w3.drew sl S.l:=h2.mod md λ_ _ h=>h
   have M4:=M3.trans md
   generalize w3.drew=w4 at md c4 b4 l4 M4⊢
   refine rdPS (λ_=>by simp[-Int.natCast_add,go_sem]<;>first|exact⟨rfl,rfl⟩|exact rfl) ?_
   refine rdWS (v:=.int .u32 s.last) (by simp[go_sem,b4,spT23]) ?_
   simp only[cptr,nilK_ptr]
   refine rdPS (λ_=>by simp[-Int.natCast_add,go_sem]<;>first|exact⟨rfl,rfl⟩|exact rfl) ?_
   refine rdWS (v:=.int .u32 S.day) (by simp[go_sem,c4]) ?_
   by_cases hday:s.last<S.day
   ·refine rdPS (v:=.bool true) (λ_=>by simp[go_sem,hday]) ?_
    rw[ifB_bool,if_pos rfl]
    exact bad 51 w4 (by unfold calList;rw[if_neg (by simp[hmay]),hg,if_neg (by simp),if_pos hday]) M4
   ·refine rdPS (v:=.bool false) (λ_=>by simp[go_sem,hday]) ?_
    rw[ifB_bool,if_neg Bool.false_ne_true]
    refine rvS (by simp[-Int.natCast_add,go_sem]<;>first|exact⟨rfl,rfl⟩|exact rfl) ?_
    refine rvS (v:=sl) (w' :=w4) (by simp[go_sem,c4,hsl]) ?_
    refine rnS (v:=.int .i64 (S.l.length:Int)) (w' :=w4) (by rw[hsl];simp[go_sem]) ?_
    by_cases hful:16≤S.l.length
    ·have hful' :(16:Int)≤(S.l.length:Int):=by omega
     refine rvS (v:=.bool true) (by simp[go_sem,hful']<;>first|exact⟨rfl,rfl⟩|exact rfl) ?_
     rw[ifB_bool,if_pos rfl]
     exact bad 9 w4 (by unfold calList;rw[if_neg (by simp[hmay]),hg,if_neg (by simp),if_neg hday,if_pos hful]) M4
    ·have hful' :¬(16:Int)≤(S.l.length:Int):=by omega
     refine rvS (v:=.bool false) (by simp[go_sem,hful']<;>first|exact⟨rfl,rfl⟩|exact rfl) ?_
     rw[ifB_bool,if_neg Bool.false_ne_true]
     have md5:Mod (λ_=>False) w4 w4.drew:=(Mod.refl _ w4).drew
     have c5:=md5.hpk c4 id
     have b5:=md5.hpk b4 id
     have l5:CtS w4.drew sl S.l:=l4.mod md5 λ_ _ h=>h
     have M5:=M4.trans md5
     generalize w4.drew=w5 at md5 c5 b5 l5 M5⊢
     refine rdPS (λ_=>by simp[-Int.natCast_add,go_sem]<;>first|exact⟨rfl,rfl⟩|exact rfl) ?_
     refine rdWS (v:=sl) (by simp[go_sem,c5,hsl]) ?_
     refine rdX_bigS (spC s) 24 aSp nSp (spC_len s) (At.all b5) ?_
     refine rdPS (λ_=>by simp[-Int.natCast_add,go_sem]<;>first|exact⟨rfl,rfl⟩|exact rfl) ?_
     refine rdWS (v:=.int .i64 s.first) (by simp[go_sem,b5,spT24]) ?_
     refine rdPX_bigB (cells:=(ctC (newCt s)).toArray) ?_ ?_
     ·exact builtCt3 s 1 s.first
     refine rx_lit [.agg (ctC (newCt s)).toArray] uCts (elemT_of eCt) rfl rfl (by intro v hv;rw[List.mem_singleton.1 hv];show(ctC (newCt s)).toArray.size=27;rw[List.size_toArray,ctC_len]) (by omega) ?_
     have e0:(([.agg (ctC (newCt s)).toArray]:List Value).flatMap (·.cells.toList)).toArray=(ctC (newCt s)).toArray:=by simp[Value.cells]
     rw[e0]
     have m6:Mod (λ_=>False) w5 (w5.alloc (.cells (ctC (newCt s)).toArray tCt)):=(Mod.refl _ w5).alloc _
     have o6:CtS (w5.alloc (.cells (ctC (newCt s)).toArray tCt)) (.slice (some ⟨w5.heap.size,0,none⟩) 1 1) [newCt s]:=
      ⟨by simp[ctC_len],.inr ⟨_,1,[],rfl,by simp,by rw[heap_alloc,if_pos rfl];simp,by simp,rfl⟩⟩
     obtain⟨q,hq0⟩:∃q,q=w5.heap.size:=⟨_,rfl⟩
     rw[←hq0]at o6⊢
     generalize w5.alloc (.cells (ctC (newCt s)).toArray tCt)=w6 at m6 o6⊢
     have c6:=m6.hpk c5 id
     have l6:CtS w6 sl S.l:=l5.mod m6 λ_ _ h=>h
     refine⟨by simp[go_sem,c6,hsl],?_⟩
     have hik:=calIns_ok h8 h7 (k:=newCt s) ⟨⟨hf,⟨by show(0:Int)≤1;omega,by show(1:Int)<256;omega⟩,hf.2.2.2.2.2.2.2.2.2⟩,hmay,Sp.may_price hmay,by show(1:Int)≤1;omega,by show(1:Int)≤3;omega⟩ hg
     refine ca_insertCt (o:=newCt s) (i:=calAt S.l s.num) l6 o6 (λb hb hb' =>?_) hik.2.2 (by omega) λs' w7 o7 m7 n7=>?_
     ·have:=l5.lt hb
      have:b=q:=by cases hb';rfl
      omega
     have c7:=m7.hpk c6 λhx=>h4 hx
     obtain⟨ta,tc,hs',-⟩:=o7.isSl
     refine rdPS (λ_=>by simp[-Int.natCast_add,go_sem]<;>first|exact⟨rfl,rfl⟩|exact rfl) ?_
     refine ruS (w' :=w7.setCell ⟨c,2,none⟩ s') (by rw[hs'];simp[go_sem,c7]) ?_
     have mv:Mod (λx=>x=c) w7 (w7.setCell ⟨c,2,none⟩ s'):=(Mod.refl (λx=>x=c) w7).setCell (.inl rfl) _ _
     have e:calList S s=(0,⟨S.day,S.l.take (calAt S.l s.num)++newCt s::S.l.drop (calAt S.l s.num)⟩):=by
      unfold calList;rw[if_neg (by simp[hmay]),hg,if_neg (by simp),if_neg hday,if_neg hful]
     rw[e]at hK
     have hM:=M5.trans m6
     have hsM:=hM.size
     have hcs:c<w6.heap.size:=lt_of_heap c6
     have hc' :¬inSl s' c:=λhx=>by
      rcases n7 c hx with h' |h'
      ·exact h4 h'
      ·omega
     refine hK (λx=>x=c∨inSl s' x) _ ⟨⟨s',by simp[go_sem,c7],o7.mod mv λx hx e=>hc' (e▸hx),λx=>Iff.rfl,hc'⟩,?_,h6,hik.1,hik.2.1⟩ ((((toF hM).on m7 λx hx=>.inl ((h3 x).2 (.inr hx)))).on mv λx hx=>.inl ((h3 x).2 (.inl hx))) λx hx=>?_
     ·show(S.l.take (calAt S.l s.num)++newCt s::S.l.drop (calAt S.l s.num)).length≤16
      rw[List.length_append,List.length_take,List.length_cons,List.length_drop]
      have h16:S.l.length≤16:=h5
      have hle:calAt S.l s.num≤S.l.length:=hik.2.2
      omega
     ·rcases hx with rfl|hx
      ·exact .inl ((h3 x).2 (.inl rfl))
      ·rcases n7 x hx with h' |h'
       ·exact .inl ((h3 x).2 (.inr h'))
       ·exact .inr (by omega)
end Go.Proofs

