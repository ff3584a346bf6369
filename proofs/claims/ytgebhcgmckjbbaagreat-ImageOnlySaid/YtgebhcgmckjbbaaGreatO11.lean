/- Part of a proof. -/
import Derived.Test.YtgebhcgmckjbbaaGreatO10
set_option linter.all false
namespace Go.Proofs
open Go Go.Vc
attribute [local congr] Ca_congV
def plC(sT sG:Value)(f l:Int):Array Value:=#[sT,sG,.int .i64 f,.int .i64 l]
theorem setPl{W:World}{p:Nat}{x0 x1 x2 x3:Value}{i:Nat}{v:Value}(h:hp W p=some (.cells #[x0,x1,x2,x3] 235 (0,0)))(hi:i<4):
  hp (W.setCell ⟨p,i,none⟩ v) p=some (.cells ((#[x0,x1,x2,x3]:Array Value).setIfInBounds i v) 235 (0,0))∧Mod (λb=>b=p) W (W.setCell ⟨p,i,none⟩ v):=
 ⟨by simp[go_sem,h],(Mod.refl (λb=>b=p) W).setCell (.inl rfl) _ _⟩
structure CmI(w0:World)(b:Nat)(s:Bool→Nat)(G:Bool→Nat→Prop)(B:Bk)(o:Od)(p q:Nat)(W:World)(left:Int)(L:List Od)(t:List Td)(g:List Int)(f:Int):Prop where
 od:hp W p=some (.cells (odC {o with left:=left}).toArray tOd (0,0))
 mem:∃G' sT sG,BookR W b s (updG G (!o.buy) G') (B.set (!o.buy) L)∧(∀x,G' x→G (!o.buy) x∨(w0.heap.size≤x∧x≠p∧x≠q))∧
  hp W q=some (.cells #[sT,sG,.int .i64 f,.int .i64 0] 235 (0,0))∧PlQ W sT sG t g∧(∀x,inSl sT x∨inSl sG x→w0.heap.size≤x∧x≠p∧x≠q∧¬G' x)
 md:Mod (G (!o.buy)) w0 W
 eq:meetL o o.left (B (!o.buy))=comb t g f (meetL o left L)
 lf:0≤left∧left≤1000000∧f+left=o.left∧0≤f
 len:t.length+g.length≤101∧(0<left→t.length+g.length+L.length≤100)
theorem sdDel_head(b:Od)(r:List Od):sdDel (b::r) b.num=r:=by
 unfold sdDel
 rw[List.eraseP_cons_of_pos (by simp)]
theorem meet_drop{o b:Od}{r:List Od}{left:Int}{t:List Td}{g:List Int}{f:Int}(h1:0<left)(h2:crossB o b.price=true)(h3:b.acct=o.acct):
  comb t g f (meetL o left (b::r))=comb t (g++[b.num]) f (meetL o left r):=by
 conv=>lhs;unfold meetL
 rw[if_neg (by rw[h2];simp;omega),if_pos h3]
 simp[comb]
theorem meet_part{o b:Od}{r:List Od}{left:Int}{t:List Td}{g:List Int}{f:Int}(h1:0<left)(h2:crossB o b.price=true)(h3:b.acct≠o.acct)(h4:left<b.left):
  comb t g f (meetL o left (b::r))=comb (t++[⟨b.price,left,b.num,b.acct⟩]) g (f+left) (meetL o 0 ({b with left:=b.left - left}::r)):=by
 conv=>lhs;unfold meetL
 rw[if_neg (by rw[h2];simp;omega),if_neg h3,if_pos h4,meetL_done (.inl (Int.le_refl 0))]
 simp[comb]
theorem meet_full{o b:Od}{r:List Od}{left:Int}{t:List Td}{g:List Int}{f:Int}(h1:0<left)(h2:crossB o b.price=true)(h3:b.acct≠o.acct)(h4:¬left<b.left):
  comb t g f (meetL o left (b::r))=comb (t++[⟨b.price,b.left,b.num,b.acct⟩]) g (f+b.left) (meetL o (left - b.left) r):=by
 conv=>lhs;unfold meetL
 rw[if_neg (by rw[h2];simp;omega),if_neg h3,if_neg h4]
 simp[comb,Int.add_assoc]
def rdLeft(W:World)(p:Nat):Int:=match hp W p with|some (.cells c _ _)=>(match (c[4]? :Option Value)with|some (.int _ x)=>x|_=>0)|_=>0
def rdLen(W:World)(p:Nat):Nat:=match hp W p with|some (.cells c _ _)=>(match (c[2]? :Option Value)with|some (.slice _ n _)=>n|_=>0)|_=>0
def cmM(W:World)(p sd:Nat):Nat:=2*rdLen W sd+(if 0<rdLeft W p then 1 else 0)
theorem CmI.m{w0:World}{b:Nat}{s:Bool→Nat}{G:Bool→Nat→Prop}{B:Bk}{o:Od}{p q:Nat}{W:World}{left:Int}{L:List Od}{t:List Td}{g:List Int}{f:Int}(h:CmI w0 b s G B o p q W left L t g f):
  cmM W p (s (!o.buy))=2*L.length+(if 0<left then 1 else 0):=by
 obtain⟨G',sT,sG,hb,-⟩:=h.mem
 have hs:=hb.sd (!o.buy)
 rw[Bk.set_self]at hs
 obtain⟨⟨sl,h1,h2,-⟩,-⟩:=hs
 obtain⟨a,c,hsl,-⟩:=h2.isSl
 unfold cmM rdLen rdLeft
 rw[h1,h.od,hsl]
 rfl
set_option maxRecDepth 10000 in
set_option maxHeartbeats 1000000 in
theorem ca_come{w:World}{K:Kont}{b:Nat}{B:Bk}{s:Bool→Nat}{G:Bool→Nat→Prop}{o:Od}{rests:Bool}(h:BookR w b s G B)(hof:o.Fit)(hmay:o.may=true)
  (hK:∀G' sT sG w',BookR w' b s G' (bkCome B o rests).1→PlQ w' sT sG (bkCome B o rests).2.trades (bkCome B o rests).2.gone→Mod (λx=>G true x∨G false x) w w' →(∀d x,G' d x→G d x∨w.heap.size≤x)→
   (∀x,inSl sT x∨inSl sG x→w.heap.size≤x∧∀d,¬G' d x)→K (.agg (plC sT sG (bkCome B o rests).2.filled (bkCome B o rests).2.left)) w'):Ca Tryz.prog 228 #[bptr b,odV o,.bool rests] w K:=by
 have hol:=Od.left_bd hmay
 apply ca228
 unfold F228
 obtain⟨w1,e1,b1,m1⟩:=boxOd o w
 refine rvS e1 ?_
 obtain⟨p,hp0⟩:∃p,p=w.heap.size:=⟨_,rfl⟩
 rw[←hp0]at b1⊢
 obtain⟨q,hq0⟩:∃q,q=w1.heap.size:=⟨_,rfl⟩
 have hpq:p<q:=by have:=lt_of_heap b1;omega
 have m2:Mod (λ_=>False) w1 (w1.alloc (.cells #[.slice none 0 0,.slice none 0 0,.int .i64 0,.int .i64 0] 235)):=(Mod.refl _ w1).alloc _
 refine rvS (v:=.pointer (some ⟨q,0,none⟩)) (w' :=w1.alloc (.cells #[.slice none 0 0,.slice none 0 0,.int .i64 0,.int .i64 0] 235)) (by rw[hq0];simp[go_sem]) ?_
 have b2:hp (w1.alloc (.cells #[.slice none 0 0,.slice none 0 0,.int .i64 0,.int .i64 0] 235)) q=some (.cells #[.slice none 0 0,.slice none 0 0,.int .i64 0,.int .i64 0] 235 (0,0)):=by rw[hq0];simp[go_sem]
 generalize w1.alloc (.cells #[.slice none 0 0,.slice none 0 0,.int .i64 0,.int .i64 0] 235)=w2 at m2 b2⊢
 have c1:=m2.hpk b1 id
 have M2:=m1.trans m2
 have c1' :=c1
 unfold odC at c1'
 refine rvS (by simp[-Int.natCast_add,go_sem,c1']<;>first|exact⟨rfl,rfl⟩|exact rfl) ?_
 refine rvS (by simp[-Int.natCast_add,go_sem,c1']<;>first|exact⟨rfl,rfl⟩|exact rfl) ?_
 have h2:=h.mod M2 id λ_ _ _ h=>h
 refine ca_bksides (s:=s) h2.blk ?_
 have md:Mod (λ_=>False) w2 w2.drew:=(Mod.refl _ w2).drew
 have M3:=M2.trans md
 have h3:=h2.mod md id λ_ _ _ h=>h
 have d1:=md.hpk c1 id
 have d2:=md.hpk b2 id
 generalize w2.drew=w3 at M3 h3 d1 d2⊢
 refine rvS (v:=sptr (s o.buy)) (w' :=w3) (by simp[go_sem]) ?_
 refine rvS (v:=sptr (s !o.buy)) (w' :=w3) (by simp[go_sem]) ?_
 have hlen:=(h.sd (!o.buy)).len
 have hGp:∀d x,G d x→x<p:=λd x hx=>by rw[hp0];exact h.lt hx
 have hbp:b<p:=by rw[hp0];exact lt_of_heap h.blk
 have hspl:∀d,s d<p:=λd=>hGp d _ ((h.sd d).self)
 have hu:updG G (!o.buy) (G !o.buy)=G:=by funext x;unfold updG;by_cases h:x= !o.buy<;>simp[h]
 have I0:CmI w b s G B o p q w3 o.left (B !o.buy) [] [] 0:=by
  refine⟨d1,⟨G !o.buy,.slice none 0 0,.slice none 0 0,?_,λx hx=>.inl hx,d2,⟨Own.nil _ _ _,Own.nil _ _ _,λx hx=>by cases hx⟩,λx hx=>by rcases hx with hx|hx<;>cases hx⟩,M3.mono λ_ _ h=>h.elim,?_,by omega,by simp,λ_=>by simpa using hlen⟩
  ·rw[hu,Bk.set_same];exact h3
  ·unfold comb;simp
 refine JoinW.at (λ_ W=>∃left L t g f,CmI w b s G B o p q W left L t g f∧meetL o left L=(left,L,[],[],0)) ?_ ?_
 ·refine loopV (λ_ W=>∃left L t g f,CmI w b s G B o p q W left L t g f) (λ_ W=>cmM W p (s !o.buy)) ⟨_,_,_,_,_,I0⟩ ?_
  rintro _ W ⟨left,L,t,g,f,hI⟩ KN hKN
  have hm:=hI.m
  obtain⟨i1,⟨G',sT,sG,i2,i3,i4,i5,i6⟩,i7,i8,i9,i10⟩:=id hI
  have hs:=i2.sd (!o.buy)
  rw[Bk.set_self,updG_self]at hs
  have hGx:∀d x,updG G (!o.buy) G' d x→x≠p∧x≠q:=λd x hx=>by
   by_cases hd:d= !o.buy
   ·subst hd
    rw[updG_self]at hx
    rcases i3 x hx with h' |h'
    ·have:=hGp _ x h';omega
    ·exact h'.2
   ·unfold updG at hx
    rw[if_neg hd]at hx
    have:=hGp _ x hx;omega
  have hG'x:∀x,G' x→x≠p∧x≠q:=λx hx=>hGx (!o.buy) x (by rw[updG_self];exact hx)
  unfold L228_1
  intro _
  have i1' :=i1
  unfold odC at i1'
  refine rvS (by simp[-Int.natCast_add,go_sem,i1']<;>first|exact⟨rfl,rfl⟩|exact rfl) ?_
  refine rvS (by simp[-Int.natCast_add,go_sem,i1']<;>first|exact⟨rfl,rfl⟩|exact rfl) ?_
  by_cases hleft:0<left
  ·refine rvS (v:=.bool true) (by simp[go_sem,hleft]<;>first|exact⟨rfl,rfl⟩|exact rfl) ?_
   rw[ifB_bool,if_pos rfl]
   refine ca_sbest hs λw4 m4=>?_
   have i4a:=m4.hpk i1 id
   have i4b:=m4.hpk i4 id
   refine rvS (v:=odV (L.head?.getD zOd)) (w' :=w4) (by simp[go_sem]) ?_
   refine rvS (v:=.bool L.head?.isSome) (w' :=w4) (by simp[go_sem]) ?_
   obtain⟨w5,e5,b5,m5⟩:=newOd w4
   refine rvS e5 ?_
   obtain⟨r0,hr0⟩:∃r0,r0=w4.heap.size:=⟨_,rfl⟩
   rw[←hr0]at b5⊢
   obtain⟨w6,e6,b6,m6⟩:=setOd (o' :=L.head?.getD zOd) b5
   refine ruS e6 ?_
   have M46:Mod (λ_=>False) w4 w6:=m5.on m6 λb hb=>.inr (by omega)
   have M6:Mod (λ_=>False) W w6:=m4.trans M46
   have hqr:q<r0:=by have:=lt_of_heap i4b;omega
   have i6a:=M46.hpk i4a id
   have i6b:=M46.hpk i4b id
   have hWr:W.heap.size≤r0:=by have:=m4.size;omega
   refine JoinW.at (λst W' =>st=(.bool (decide (L.head? =none∨crossB o (L.head?.getD zOd).price=false)),())∧Mod (λ_=>False) w6 W') ?_ ?_
   ·cases L with
    |nil=>
     refine rvS (v:=.bool true) (by simp[go_sem]<;>first|exact⟨rfl,rfl⟩|exact rfl) ?_
     rw[ifB_bool,if_pos rfl]
     exact⟨by simp,Mod.refl _ _⟩
    |cons x r=>
     refine rvS (v:=.bool false) (by simp[go_sem]<;>first|exact⟨rfl,rfl⟩|exact rfl) ?_
     rw[ifB_bool,if_neg Bool.false_ne_true]
     refine rvS (ldOd (o:={o with left:=left}) (At.all i6a)) ?_
     have b6' :=b6
     unfold odC at b6'
     refine rvS (by simp[-Int.natCast_add,go_sem,b6']<;>first|exact⟨rfl,rfl⟩|exact rfl) ?_
     refine rvS (by simp[-Int.natCast_add,go_sem,b6']<;>first|exact⟨rfl,rfl⟩|exact rfl) ?_
     refine ca_crosses (o:={o with left:=left}) (price:=x.price) λw7 m7=>?_
     rw[crossB_left]
     refine rvS (v:=.bool (!crossB o x.price)) (w' :=w7) (by simp[go_sem]) ?_
     refine⟨?_,m7⟩
     simp only[List.head?_cons,Option.getD_some]
     rcases Bool.eq_false_or_eq_true (crossB o x.price)with hc|hc<;>simp[hc]
   rintro _ w7 ⟨rfl,m7⟩
   unfold J228_0
   intro _
   have M7:=M6.trans m7
   have k1:=m7.hpk i6a id
   have k2:=m7.hpk i6b id
   have k3:=m7.hpk b6 id
   by_cases hstop:L.head? =none∨crossB o (L.head?.getD zOd).price=false
   ·rw[ifB_bool,if_pos (by simpa using hstop)]
    refine⟨left,L,t,g,f,⟨k1,⟨G',sT,sG,i2.mod M7 id λ_ _ _ h=>h,i3,k2,i5.mod M7 (λ_ _ h=>h) λ_ _ h=>h,i6⟩,i7.trans (M7.mono λ_ _ h=>h.elim),i8,i9,i10⟩,?_⟩
    refine meetL_done (.inr ?_)
    cases L with
    |nil=>exact .inl rfl
    |cons x r=>
     refine .inr ⟨x,r,rfl,?_⟩
     rcases hstop with h' |h'
     ·cases h'
     ·exact h'
   rw[ifB_bool,if_neg (by simpa using hstop)]
   cases L with
   |nil=>exact absurd (.inl rfl) hstop
   |cons x r=>
   have hcr:crossB o x.price=true:=by
    cases hc:crossB o x.price with
    |true=>rfl
    |false=>exact absurd (.inr hc) hstop
   have hxb:=hs.may x (by simp)
   have hxl:=Od.left_bd hxb.1
   replace i10:=i10.2 hleft
   simp only[List.length_cons]at i10
   simp only[List.head?_cons,Option.getD_some]at k3
   have k3' :=k3
   unfold odC at k3'
   have k1' :=k1
   unfold odC at k1'
   have hs7:=hs.mod M7 λ_ _ h=>h
   have i27:=i2.mod M7 id λ_ _ _ h=>h
   have p7:=i5.mod M7 (λ_ _ h=>h) λ_ _ h=>h
   have MW:Mod (G (!o.buy)) w w7:=i7.trans (M7.mono λ_ _ h=>h.elim)
   have hsz:=i7.size
   have hqW:q<W.heap.size:=lt_of_heap i4
   have hsz7:=M7.size
   have hslt:∀x,inSl sT x∨inSl sG x→x<W.heap.size:=λx hx=>by
    rcases hx with hx|hx
    ·exact i5.tr.lt hx
    ·exact i5.go.lt hx
   refine rvS (by simp[-Int.natCast_add,go_sem,k3']<;>first|exact⟨rfl,rfl⟩|exact rfl) ?_
   refine rvS (by simp[-Int.natCast_add,go_sem,k3']<;>first|exact⟨rfl,rfl⟩|exact rfl) ?_
   refine rvS (by simp[-Int.natCast_add,go_sem,k1']<;>first|exact⟨rfl,rfl⟩|exact rfl) ?_
   refine rvS (by simp[-Int.natCast_add,go_sem,k1']<;>first|exact⟨rfl,rfl⟩|exact rfl) ?_
   by_cases hac:x.acct=o.acct
   ·refine rvS (v:=.bool true) (by simp[go_sem,hac]<;>first|exact⟨rfl,rfl⟩|exact rfl) ?_
    rw[ifB_bool,if_pos rfl]
    refine rvS (by simp[-Int.natCast_add,go_sem,k3']<;>first|exact⟨rfl,rfl⟩|exact rfl) ?_
    refine rvS (by simp[-Int.natCast_add,go_sem,k3']<;>first|exact⟨rfl,rfl⟩|exact rfl) ?_
    refine ca_sdrop hs7 λG2 w8 q8 m8 n8=>?_
    rw[sdDel_head]at q8
    have u8:=BookR.upd (d:= !o.buy) i27 (by rw[updG_self];exact m8) q8 (by rw[updG_self];exact n8)
    have hk8:∀y,y=p∨y=q∨y=r0→¬G' y:=λy hy hg=>by
     have h1:=hG'x y hg
     rcases hy with rfl|rfl|rfl
     ·exact h1.1 rfl
     ·exact h1.2 rfl
     ·have:=hs.lt hg;omega
    have j1:=m8.hpk k1 (hk8 p (.inl rfl))
    have j2:=m8.hpk k2 (hk8 q (.inr (.inl rfl)))
    have j3:=m8.hpk k3' (hk8 r0 (.inr (.inr rfl)))
    have p8:=p7.mod m8 (λy hy=>(i6 y (.inl hy)).2.2.2) λy hy=>(i6 y (.inr hy)).2.2.2
    refine rvS (by simp[-Int.natCast_add,go_sem,j2]<;>first|exact⟨rfl,rfl⟩|exact rfl) ?_
    refine rvS (by simp[-Int.natCast_add,go_sem,j2]<;>first|exact⟨rfl,rfl⟩|exact rfl) ?_
    refine rvS (by simp[-Int.natCast_add,go_sem,j3]<;>first|exact⟨rfl,rfl⟩|exact rfl) ?_
    refine rvS (by simp[-Int.natCast_add,go_sem,j3]<;>first|exact⟨rfl,rfl⟩|exact rfl) ?_
    refine pushV (x:=x.num) (f:=numC) uNums (elemT_of eNum) (λ_=>rfl) numC_one rfl p8.go (by omega) (by omega) λsG' w9 o9 m9 n9=>?_
    have hq9:¬inSl sG q:=λhb=>(i6 q (.inr hb)).2.2.1 rfl
    have hp9:¬inSl sG p:=λhb=>(i6 p (.inr hb)).2.1 rfl
    have j1' :=m9.hpk j1 hp9
    have j2' :=m9.hpk j2 hq9
    obtain⟨ga,gc,hsG',-⟩:=o9.isSl
    refine rvS (by simp[-Int.natCast_add,go_sem,j2']<;>first|exact⟨rfl,rfl⟩|exact rfl) ?_
    obtain⟨j4,m10⟩:=setPl (i:=1) (v:=sG') j2' (by omega)
    refine ruS (w' :=w9.setCell ⟨q,1,none⟩ sG') (by rw[hsG'];simp[go_sem,j2']) ?_
    have hw8:=m8.size
    have hw9:=m9.size
    have hnew9:∀y,inSl sG' y→w.heap.size≤y∧y≠p∧y≠q:=λy hy=>by
     rcases n9 y hy with h' |h'
     ·have:=i6 y (.inr h');exact⟨this.1,this.2.1,this.2.2.1⟩
     ·exact⟨by omega,by omega,by omega⟩
    have hG2:∀y,G2 y→G (!o.buy) y∨(w.heap.size≤y∧y≠p∧y≠q):=λy hy=>by
     rcases n8 y hy with h' |h'
     ·exact i3 y h'
     ·exact .inr ⟨by omega,by omega,by omega⟩
    have hG2s:∀y,inSl sT y∨inSl sG y→¬G2 y:=λy hy hg=>by
     rcases n8 y hg with h' |h'
     ·exact(i6 y hy).2.2.2 h'
     ·have:=hslt y hy;omega
    have hupd:∀d y,updG (updG G (!o.buy) G') (!o.buy) G2 d y→y≠q∧¬inSl sG y:=λd y hy=>by
     by_cases hd:d= !o.buy
     ·subst hd
      rw[updG_self]at hy
      refine⟨?_,λhb=>hG2s y (.inr hb) hy⟩
      rcases hG2 y hy with h' |h'
      ·have:=hGp _ y h';omega
      ·exact h'.2.2
     ·unfold updG at hy
      rw[if_neg hd,if_neg hd]at hy
      have:=hGp _ y hy
      exact⟨by omega,λhb=>by have:=(i6 y (.inr hb)).1;omega⟩
    have e2:updG (updG G (!o.buy) G') (!o.buy) G2=updG G (!o.buy) G2:=by funext x;unfold updG;by_cases h:x= !o.buy<;>simp[h]
    have e3:(B.set (!o.buy) (x::r)).set (!o.buy) r=B.set (!o.buy) r:=by funext x;unfold Bk.set;by_cases h:x= !o.buy<;>simp[h]
    have u9:=(u8.mod m9 (λhb=>by have:=(i6 b (.inr hb)).1;omega) λd y hy=>(hupd d y hy).2).mod m10 (by omega) λd y hy=>(hupd d y hy).1
    rw[e2,e3]at u9
    have MW10:Mod (G (!o.buy)) w (w9.setCell ⟨q,1,none⟩ sG'):=
     ((MW.on m8 λy hy=>(i3 y hy).elim .inl λh' =>.inr h'.1).on m9 λy hy=>.inr (i6 y (.inr hy)).1).on m10 λy hy=>.inr (by omega)
    have hI' :CmI w b s G B o p q (w9.setCell ⟨q,1,none⟩ sG') left r t (g++[x.num]) f:=by
     refine⟨m10.hpk j1' (by omega),⟨G2,sT,sG',u9,hG2,by simpa using j4,⟨(p8.tr.mod m9 λy hy hy' =>p8.dj y hy hy').mod m10 λy hy e=>(i6 y (.inl hy)).2.2.1 e,o9.mod m10 λy hy e=>(hnew9 y hy).2.2 e,λy hy hy' =>?_⟩,λy hy=>?_⟩,MW10,?_,i9,by simp;omega,λ_=>by simp;omega⟩
     ·rcases n9 y hy' with h' |h'
      ·exact p8.dj y hy h'
      ·have:=hslt y (.inl hy);omega
     ·rcases hy with hy|hy
      ·have:=i6 y (.inl hy);exact⟨this.1,this.2.1,this.2.2.1,hG2s y (.inl hy)⟩
      ·have h1:=hnew9 y hy
       refine⟨h1.1,h1.2.1,h1.2.2,λhg=>?_⟩
       rcases n9 y hy with h' |h'
       ·exact hG2s y (.inr h') hg
       ·have:=q8.lt hg;omega
     ·rw[i8,meet_drop hleft hcr hac]
    refine hKN _ _ ⟨_,_,_,_,_,hI'⟩ ?_
    rw[hI'.m,hm]
    simp only[List.length_cons]
    split<;>omega
   ·refine rvS (v:=.bool false) (by simp[go_sem,hac]<;>first|exact⟨rfl,rfl⟩|exact rfl) ?_
    rw[ifB_bool,if_neg Bool.false_ne_true]
    obtain⟨n,hn⟩:∃n:Int,n=if left<x.left then left else x.left:=⟨_,rfl⟩
    have hn1:1≤n∧n≤x.left∧n≤left:=by rw[hn];split<;>omega
    refine rvS (by simp[-Int.natCast_add,go_sem,k1']<;>first|exact⟨rfl,rfl⟩|exact rfl) ?_
    refine rvS (by simp[-Int.natCast_add,go_sem,k1']<;>first|exact⟨rfl,rfl⟩|exact rfl) ?_
    refine rvS (by simp[-Int.natCast_add,go_sem,k3']<;>first|exact⟨rfl,rfl⟩|exact rfl) ?_
    refine rvS (by simp[-Int.natCast_add,go_sem,k3']<;>first|exact⟨rfl,rfl⟩|exact rfl) ?_
    refine rnS (v:=.int .i64 n) (w' :=w7) (by rw[hn];simp[go_sem];split<;>omega) ?_
    refine ca_sfill hs7 hn1.1 hn1.2.1 λG2 w8 q8 m8 n8=>?_
    have u8:=BookR.upd (d:= !o.buy) i27 (by rw[updG_self];exact m8) q8 (by rw[updG_self];exact n8)
    have hk8:∀y,y=p∨y=q∨y=r0→¬G' y:=λy hy hg=>by
     have h1:=hG'x y hg
     rcases hy with rfl|rfl|rfl
     ·exact h1.1 rfl
     ·exact h1.2 rfl
     ·have:=hs.lt hg;omega
    have j1:=m8.hpk k1' (hk8 p (.inl rfl))
    have j2:=m8.hpk k2 (hk8 q (.inr (.inl rfl)))
    have j3:=m8.hpk k3' (hk8 r0 (.inr (.inr rfl)))
    have p8:=p7.mod m8 (λy hy=>(i6 y (.inl hy)).2.2.2) λy hy=>(i6 y (.inr hy)).2.2.2
    have hw8:=m8.size
    refine rvS (by simp[-Int.natCast_add,go_sem,j1]<;>first|exact⟨rfl,rfl⟩|exact rfl) ?_
    refine rvS (by simp[-Int.natCast_add,go_sem,j1]<;>first|exact⟨rfl,rfl⟩|exact rfl) ?_
    refine rvS (v:=.int .i64 (left - n)) (w' :=w8) (by simp[go_sem];rw[wrapI (by omega) (by omega)]) ?_
    refine rvS (by simp[-Int.natCast_add,go_sem,j1]<;>first|exact⟨rfl,rfl⟩|exact rfl) ?_
    refine ruS (w' :=w8.setCell ⟨p,4,none⟩ (.int .i64 (left - n))) (by simp[go_sem,j1]) ?_
    have ma:Mod (λb=>b=p) w8 (w8.setCell ⟨p,4,none⟩ (.int .i64 (left - n))):=(Mod.refl (λb=>b=p) w8).setCell (.inl rfl) _ _
    have ja:hp (w8.setCell ⟨p,4,none⟩ (.int .i64 (left - n))) p=some (.cells (odC {o with left:=left - n}).toArray tOd (0,0)):=by simp[go_sem,j1,odC]
    have jb:=ma.hpk j2 (by omega)
    have jc:=ma.hpk j3 (by omega)
    generalize w8.setCell ⟨p,4,none⟩ (.int .i64 (left - n))=wa at ma ja jb jc⊢
    refine rvS (by simp[-Int.natCast_add,go_sem,jb]<;>first|exact⟨rfl,rfl⟩|exact rfl) ?_
    refine rvS (by simp[-Int.natCast_add,go_sem,jb]<;>first|exact⟨rfl,rfl⟩|exact rfl) ?_
    refine rvS (v:=.int .i64 (f+n)) (w' :=wa) (by simp[go_sem];rw[wrapI (by omega) (by omega)]) ?_
    refine rvS (by simp[-Int.natCast_add,go_sem,jb]<;>first|exact⟨rfl,rfl⟩|exact rfl) ?_
    refine ruS (w' :=wa.setCell ⟨q,2,none⟩ (.int .i64 (f+n))) (by simp[go_sem,jb]) ?_
    obtain⟨kb,mb⟩:=setPl (i:=2) (v:=.int .i64 (f+n)) jb (by omega)
    have kb' :hp (wa.setCell ⟨q,2,none⟩ (.int .i64 (f+n))) q=some (.cells #[sT,sG,.int .i64 (f+n),.int .i64 0] 235 (0,0)):=by simpa using kb
    have ka:=mb.hpk ja (by omega)
    have kc:=mb.hpk jc (by omega)
    generalize wa.setCell ⟨q,2,none⟩ (.int .i64 (f+n))=wb at mb kb' ka kc⊢
    have mab:Mod (λy=>y=p∨y=q) w8 wb:=(ma.mono λy _ h=>.inl h).trans (mb.mono λy _ h=>.inr h)
    have hpl:∀y,inSl sT y∨inSl sG y→¬(y=p∨y=q):=λy hy e=>by
     have:=i6 y hy
     rcases e with e|e
     ·exact this.2.1 e
     ·exact this.2.2.1 e
    have pb:=p8.mod mab (λy hy=>hpl y (.inl hy)) λy hy=>hpl y (.inr hy)
    have hsb:=mab.size
    refine rvS (by simp[-Int.natCast_add,go_sem,kb']<;>first|exact⟨rfl,rfl⟩|exact rfl) ?_
    refine rvS (by simp[-Int.natCast_add,go_sem,kb']<;>first|exact⟨rfl,rfl⟩|exact rfl) ?_
    refine rvS (by simp[-Int.natCast_add,go_sem,kc]<;>first|exact⟨rfl,rfl⟩|exact rfl) ?_
    refine rvS (by simp[-Int.natCast_add,go_sem,kc]<;>first|exact⟨rfl,rfl⟩|exact rfl) ?_
    refine rvS (by simp[-Int.natCast_add,go_sem,kc]<;>first|exact⟨rfl,rfl⟩|exact rfl) ?_
    refine rvS (by simp[-Int.natCast_add,go_sem,kc]<;>first|exact⟨rfl,rfl⟩|exact rfl) ?_
    refine rvS (by simp[-Int.natCast_add,go_sem,kc]<;>first|exact⟨rfl,rfl⟩|exact rfl) ?_
    refine rvS (by simp[-Int.natCast_add,go_sem,kc]<;>first|exact⟨rfl,rfl⟩|exact rfl) ?_
    refine rvS (v:=.agg (tdC ⟨x.price,n,x.num,x.acct⟩).toArray) (w' :=wb) (by simp[go_sem,tdC]) ?_
    refine pushV (x:=(⟨x.price,n,x.num,x.acct⟩:Td)) (f:=tdC) uTds (elemT_of eTd) (λ_=>rfl) tdC_one rfl pb.tr (by omega) (by omega) λsT' wc oc mc nc=>?_
    have hqc:¬inSl sT q:=λhb=>(i6 q (.inl hb)).2.2.1 rfl
    have hpc:¬inSl sT p:=λhb=>(i6 p (.inl hb)).2.1 rfl
    have la:=mc.hpk ka hpc
    have lb:=mc.hpk kb' hqc
    have hsc:=mc.size
    obtain⟨ga,gc,hsT',-⟩:=oc.isSl
    refine rvS (by simp[-Int.natCast_add,go_sem,lb]<;>first|exact⟨rfl,rfl⟩|exact rfl) ?_
    obtain⟨ld,mdd⟩:=setPl (i:=0) (v:=sT') lb (by omega)
    refine ruS (w' :=wc.setCell ⟨q,0,none⟩ sT') (by rw[hsT'];simp[go_sem,lb]) ?_
    have hnewc:∀y,inSl sT' y→w.heap.size≤y∧y≠p∧y≠q:=λy hy=>by
     rcases nc y hy with h' |h'
     ·have:=i6 y (.inl h');exact⟨this.1,this.2.1,this.2.2.1⟩
     ·exact⟨by omega,by omega,by omega⟩
    have hG2:∀y,G2 y→G (!o.buy) y∨(w.heap.size≤y∧y≠p∧y≠q):=λy hy=>by
     rcases n8 y hy with h' |h'
     ·exact i3 y h'
     ·exact .inr ⟨by omega,by omega,by omega⟩
    have hG2s:∀y,inSl sT y∨inSl sG y→¬G2 y:=λy hy hg=>by
     rcases n8 y hg with h' |h'
     ·exact(i6 y hy).2.2.2 h'
     ·have:=hslt y hy;omega
    have hupd:∀d y,updG (updG G (!o.buy) G') (!o.buy) G2 d y→y≠p∧y≠q∧¬inSl sT y:=λd y hy=>by
     by_cases hd:d= !o.buy
     ·subst hd
      rw[updG_self]at hy
      refine⟨?_,?_,λhb=>hG2s y (.inl hb) hy⟩
      ·rcases hG2 y hy with h' |h'
       ·have:=hGp _ y h';omega
       ·exact h'.2.1
      ·rcases hG2 y hy with h' |h'
       ·have:=hGp _ y h';omega
       ·exact h'.2.2
     ·unfold updG at hy
      rw[if_neg hd,if_neg hd]at hy
      have:=hGp _ y hy
      exact⟨by omega,by omega,λhb=>by have:=(i6 y (.inl hb)).1;omega⟩
    have e2:updG (updG G (!o.buy) G') (!o.buy) G2=updG G (!o.buy) G2:=by funext x;unfold updG;by_cases h:x= !o.buy<;>simp[h]
    have e3:(B.set (!o.buy) (x::r)).set (!o.buy) (sdFill (x::r) n)=B.set (!o.buy) (sdFill (x::r) n):=by funext x;unfold Bk.set;by_cases h:x= !o.buy<;>simp[h]
    have u9:=((u8.mod mab (λhb=>by rcases hb with hb|hb<;>omega) λd y hy hb=>by rcases hb with hb|hb;exact(hupd d y hy).1 hb;exact(hupd d y hy).2.1 hb).mod mc (λhb=>by have:=(i6 b (.inl hb)).1;omega) λd y hy=>(hupd d y hy).2.2).mod mdd (by omega) λd y hy=>(hupd d y hy).2.1
    rw[e2,e3]at u9
    have MW10:Mod (G (!o.buy)) w (wc.setCell ⟨q,0,none⟩ sT'):=
     (((MW.on m8 λy hy=>(i3 y hy).elim .inl λh' =>.inr h'.1).on mab λy hy=>.inr (by rcases hy with hy|hy<;>omega)).on mc λy hy=>.inr (i6 y (.inl hy)).1).on mdd λy hy=>.inr (by omega)
    have hfl:(sdFill (x::r) n).length≤r.length+1:=by unfold sdFill;simp only;split<;>simp
    have hI' :CmI w b s G B o p q (wc.setCell ⟨q,0,none⟩ sT') (left - n) (sdFill (x::r) n) (t++[⟨x.price,n,x.num,x.acct⟩]) g (f+n):=by
     refine⟨mdd.hpk la (by omega),⟨G2,sT',sG,u9,hG2,by simpa using ld,⟨oc.mod mdd λy hy e=>(hnewc y hy).2.2 e,(pb.go.mod mc λy hy hy' =>pb.dj y hy' hy).mod mdd λy hy e=>(i6 y (.inr hy)).2.2.1 e,λy hy hy' =>?_⟩,λy hy=>?_⟩,MW10,?_,by omega,?_⟩
     ·rcases nc y hy with h' |h'
      ·exact pb.dj y h' hy'
      ·have:=hslt y (.inr hy');omega
     ·rcases hy with hy|hy
      ·have h1:=hnewc y hy
       refine⟨h1.1,h1.2.1,h1.2.2,λhg=>?_⟩
       rcases nc y hy with h' |h'
       ·exact hG2s y (.inl h') hg
       ·have:=q8.lt hg;omega
      ·have:=i6 y (.inr hy);exact⟨this.1,this.2.1,this.2.2.1,hG2s y (.inr hy)⟩
     ·rw[i8]
      by_cases hlt:left<x.left
      ·rw[if_pos hlt]at hn
       subst hn
       rw[meet_part hleft hcr hac hlt]
       have e1:sdFill (x::r) n={x with left:=x.left - n}::r:=by unfold sdFill;simp only;rw[if_neg (by omega)]
       rw[e1,Int.sub_self]
      ·rw[if_neg hlt]at hn
       subst hn
       rw[meet_full hleft hcr hac hlt]
       have e1:sdFill (x::r) x.left=r:=by unfold sdFill;simp
       rw[e1]
     ·rw[List.length_append,List.length_singleton]
      refine⟨by omega,λhl' =>?_⟩
      by_cases hlt:left<x.left
      ·rw[if_pos hlt]at hn;omega
      ·rw[if_neg hlt]at hn
       have e1:sdFill (x::r) n=r:=by unfold sdFill;rw[hn];simp
       rw[e1];omega
    refine hKN _ _ ⟨_,_,_,_,_,hI'⟩ ?_
    rw[hI'.m,hm]
    simp only[List.length_cons]
    by_cases hlt:left<x.left
    ·rw[if_pos hlt]at hn
     have:¬0<left - n:=by omega
     rw[if_neg this,if_pos hleft]
     omega
    ·rw[if_neg hlt]at hn
     have e1:sdFill (x::r) n=r:=by unfold sdFill;rw[hn];simp
     rw[e1]
     split<;>omega
  ·refine rvS (v:=.bool false) (by simp[go_sem,hleft]<;>first|exact⟨rfl,rfl⟩|exact rfl) ?_
   rw[ifB_bool,if_neg Bool.false_ne_true]
   exact⟨left,L,t,g,f,hI,meetL_done (.inl (by omega))⟩
 rintro⟨⟩ W ⟨left,L,t,g,f,hI,hdone⟩
 obtain⟨i1,⟨G',sT,sG,i2,i3,i4,i5,i6⟩,i7,i8,i9,i10⟩:=id hI
 rw[hdone]at i8
 have hx:meetL o o.left (B !o.buy)=(left,L,t,g,f):=by rw[i8];simp[comb]
 unfold J228_3
 intro _
 have i1' :=i1
 unfold odC at i1'
 have fin:∀(W' :World) (G2:Bool→Nat→Prop) (B' :Bk) (lf:Int),hp W' q=some (.cells (plC sT sG f lf) 235 (0,0))→BookR W' b s G2 B' →PlQ W' sT sG t g→Mod (λx=>G true x∨G false x) w W' →(∀d x,G2 d x→x≠q∧(G d x∨w.heap.size≤x))→
   (∀x,inSl sT x∨inSl sG x→∀d,¬G2 d x)→(bkCome B o rests)=(B',⟨t,g,f,lf⟩)→
   rv Tryz.prog (Instr.loadAt 235 (.pointer (some ⟨q,0,none⟩))) W' λv156 w157=>
    ru Tryz.prog (Instr.storeAt 235 (.pointer (some ⟨q,0,none⟩)) v156) w157 λw158=>
    rdW Tryz.prog (Instr.loadAt 235 (.pointer (some ⟨q,0,none⟩))) w158 λv159=>K v159 w158:=by
  intro W' G2 B' lf k1 k2 k3 k4 k5 k6 k7
  obtain⟨ta,tc,hsT,-⟩:=k3.tr.isSl
  obtain⟨ga,gc,hsG,-⟩:=k3.go.isSl
  unfold plC at k1
  refine rvS (v:=.agg (plC sT sG f lf)) (w' :=W') (by simp[go_sem,k1,plC]) ?_
  obtain⟨W2,hst,hW2,m2⟩:∃W2,(Instr.storeAt 235 (.pointer (some ⟨q,0,none⟩)) (.agg (plC sT sG f lf))).run Tryz.prog W' =.ok () W2∧hp W2 q=some (.cells (plC sT sG f lf) 235 (0,0))∧Mod (λb=>b=q) W' W2:=by
   refine⟨(((W'.setCell ⟨q,0,none⟩ sT).setCell ⟨q,1,none⟩ sG).setCell ⟨q,2,none⟩ (.int .i64 f)).setCell ⟨q,3,none⟩ (.int .i64 lf),?_,?_,((((Mod.refl (λb=>b=q) W').setCell (.inl rfl) _ _).setCell (.inl rfl) _ _).setCell (.inl rfl) _ _).setCell (.inl rfl) _ _⟩
   ·rw[hsT,hsG]at k1⊢
    simp[go_sem,k1,plC]
   ·simp[go_sem,k1,plC]
  refine ruS hst ?_
  unfold plC at hW2
  refine rdWS (v:=.agg (plC sT sG f lf)) (by simp[go_sem,hW2,plC]) ?_
  have hk:=hK G2 sT sG W2
  rw[k7]at hk
  refine hk (k2.mod m2 (by omega) λd x hx=>(k5 d x hx).1) (k3.mod m2 (λx hx=>(i6 x (.inl hx)).2.2.1) λx hx=>(i6 x (.inr hx)).2.2.1) (k4.on m2 λx hx=>.inr (by omega)) (λd x hx=>(k5 d x hx).2) λx hx=>⟨(i6 x hx).1,k6 x hx⟩
 have mfull:Mod (λx=>G true x∨G false x) w W:=i7.mono λx _ hx=>by
  cases hb:o.buy<;>rw[hb]at hx
  ·exact .inl hx
  ·exact .inr hx
 have hG1:∀d x,updG G (!o.buy) G' d x→x≠p∧x≠q∧(G d x∨w.heap.size≤x):=λd x hx=>by
  by_cases hd:d= !o.buy
  ·subst hd
   rw[updG_self]at hx
   rcases i3 x hx with h' |h'
   ·have:=hGp _ x h';exact⟨by omega,by omega,.inl h'⟩
   ·exact⟨h'.2.1,h'.2.2,.inr h'.1⟩
  ·unfold updG at hx
   rw[if_neg hd]at hx
   have:=hGp _ x hx;exact⟨by omega,by omega,.inl hx⟩
 have hS1:∀x,inSl sT x∨inSl sG x→∀d,¬updG G (!o.buy) G' d x:=λx hx d hg=>by
  by_cases hd:d= !o.buy
  ·subst hd
   rw[updG_self]at hg
   exact(i6 x hx).2.2.2 hg
  ·unfold updG at hg
   rw[if_neg hd]at hg
   have:=hGp _ x hg
   have:=(i6 x hx).1
   omega
 refine JoinW.at (λst W' =>st=(.bool (decide (rests=true∧0<left)),())∧W' =W) ?_ ?_
 ·cases rests with
  |true=>
   rw[ifB_bool,if_pos rfl]
   refine rvS (by simp[-Int.natCast_add,go_sem,i1']<;>first|exact⟨rfl,rfl⟩|exact rfl) ?_
   refine rvS (by simp[-Int.natCast_add,go_sem,i1']<;>first|exact⟨rfl,rfl⟩|exact rfl) ?_
   refine rvS (v:=.bool (decide (0<left))) (w' :=W) (by simp[go_sem]) ?_
   exact⟨by simp,rfl⟩
  |false=>
   rw[ifB_bool,if_neg Bool.false_ne_true]
   exact⟨by simp,rfl⟩
 rintro _ W ⟨rfl,rfl⟩
 unfold J228_2
 intro _
 by_cases hr:rests=true∧0<left
 ·rw[ifB_bool,if_pos (by simpa using hr)]
  refine rvS (ldOd (o:={o with left:=left}) (At.all i1)) ?_
  have hown:=i2.sd o.buy
  have hbn:(o.buy= !o.buy)=False:=by cases o.buy<;>simp
  have e1:B.set (!o.buy) L o.buy=B o.buy:=by unfold Bk.set;rw[if_neg (by rw[hbn];exact id)]
  have e2:updG G (!o.buy) G' o.buy=G o.buy:=by unfold updG;rw[if_neg (by rw[hbn];exact id)]
  rw[e1,e2]at hown
  have hf' :Od.Fit {o with left:=left}:=⟨hof.1,hof.2.1,hof.2.2.1,by unfold R64';simp only;omega⟩
  refine ca_sadd hown hf' λG3 w4 q4 m4 n4=>?_
  have u4:=BookR.upd (d:=o.buy) i2 (by rw[e2];exact m4) q4 (by rw[e2];exact n4)
  have hp4:¬G o.buy p:=λhg=>by have:=hGp _ p hg;omega
  have hq4:¬G o.buy q:=λhg=>by have:=hGp _ q hg;omega
  have j1:=m4.hpk i1' hp4
  have j2:=m4.hpk i4 hq4
  refine rvS (by simp[-Int.natCast_add,go_sem,j1]<;>first|exact⟨rfl,rfl⟩|exact rfl) ?_
  refine rvS (by simp[-Int.natCast_add,go_sem,j1]<;>first|exact⟨rfl,rfl⟩|exact rfl) ?_
  refine rvS (by simp[-Int.natCast_add,go_sem,j2]<;>first|exact⟨rfl,rfl⟩|exact rfl) ?_
  refine ruS (w' :=w4.setCell ⟨q,3,none⟩ (.int .i64 left)) (by simp[go_sem,j2]) ?_
  obtain⟨j3,m5⟩:=setPl (i:=3) (v:=.int .i64 left) j2 (by omega)
  have hsW:=i7.size
  have hqW:q<W.heap.size:=lt_of_heap i4
  have h2G:∀d x,updG (updG G (!o.buy) G') o.buy G3 d x→x≠q∧(G d x∨w.heap.size≤x)∧¬inSl sT x∧¬inSl sG x:=λd x hx=>by
   by_cases hd:d=o.buy
   ·subst hd
    rw[updG_self]at hx
    rcases n4 x hx with h' |h'
    ·have:=hGp _ x h'
     exact⟨by omega,.inl h',λhb=>by have:=(i6 x (.inl hb)).1;omega,λhb=>by have:=(i6 x (.inr hb)).1;omega⟩
    ·exact⟨by omega,.inr (by omega),λhb=>by have:=i5.tr.lt hb;omega,λhb=>by have:=i5.go.lt hb;omega⟩
   ·have hx' :updG G (!o.buy) G' d x:=by
     have:updG (updG G (!o.buy) G') o.buy G3 d=updG G (!o.buy) G' d:=by
      conv=>lhs;unfold updG
      rw[if_neg hd]
      rfl
     rw[this]at hx;exact hx
    have h1:=hG1 d x hx'
    exact⟨h1.2.1,h1.2.2,λhb=>hS1 x (.inl hb) d hx',λhb=>hS1 x (.inr hb) d hx'⟩
  refine fin _ (updG (updG G (!o.buy) G') o.buy G3) _ left (by simpa [plC]using j3) (u4.mod m5 (by omega) λd x hx=>(h2G d x hx).1)
   ((i5.mod m4 (λx hx hg=>by have:=hGp _ x hg;have:=(i6 x (.inl hx)).1;omega) λx hx hg=>by have:=hGp _ x hg;have:=(i6 x (.inr hx)).1;omega).mod m5 (λx hx=>(i6 x (.inl hx)).2.2.1) λx hx=>(i6 x (.inr hx)).2.2.1)
   ((mfull.on m4 λx hx=>.inl (by cases hb:o.buy<;>rw[hb]at hx;exact .inr hx;exact .inl hx)).on m5 λx hx=>.inr (by omega)) (λd x hx=>⟨(h2G d x hx).1,(h2G d x hx).2.1⟩) (λx hx d hg=>by rcases hx with hx|hx;exact(h2G d x hg).2.2.1 hx;exact(h2G d x hg).2.2.2 hx) ?_
  unfold bkCome
  rw[hx]
  simp only
  rw[if_pos hr,e1]
 ·rw[ifB_bool,if_neg (by simpa using hr)]
  refine fin W (updG G (!o.buy) G') _ 0 i4 i2 i5 mfull (λd x hx=>⟨(hG1 d x hx).2.1,(hG1 d x hx).2.2⟩) hS1 ?_
  unfold bkCome
  rw[hx]
  simp only
  rw[if_neg hr]
end Go.Proofs
namespace Go.Proofs
open Go Go.Vc
attribute [local congr] Ca_congV
def nilV:Value:=.slice none 0 0
theorem stPl{W:World}{q:Nat}{x0 x1 x2 x3 sT sG:Value}{f l:Int}(h:hp W q=some (.cells #[x0,x1,x2,x3] 235 (0,0)))(hT:∃a n c,sT=.slice a n c)(hG:∃a n c,sG=.slice a n c):
  ∃W2,(Instr.storeAt 235 (.pointer (some ⟨q,0,none⟩)) (.agg (plC sT sG f l))).run Tryz.prog W=.ok () W2∧hp W2 q=some (.cells #[sT,sG,.int .i64 f,.int .i64 l] 235 (0,0))∧Mod (λb=>b=q) W W2:=by
 obtain⟨a1,n1,c1,rfl⟩:=hT
 obtain⟨a2,n2,c2,rfl⟩:=hG
 refine⟨(((W.setCell ⟨q,0,none⟩ (.slice a1 n1 c1)).setCell ⟨q,1,none⟩ (.slice a2 n2 c2)).setCell ⟨q,2,none⟩ (.int .i64 f)).setCell ⟨q,3,none⟩ (.int .i64 l),by simp[go_sem,h,plC],by simp[go_sem,h],((((Mod.refl (λb=>b=q) W).setCell (.inl rfl) _ _).setCell (.inl rfl) _ _).setCell (.inl rfl) _ _).setCell (.inl rfl) _ _⟩
theorem ldPl{W:World}{q:Nat}{sT sG:Value}{f l:Int}(h:hp W q=some (.cells #[sT,sG,.int .i64 f,.int .i64 l] 235 (0,0))):(Instr.loadAt 235 (.pointer (some ⟨q,0,none⟩))).run Tryz.prog W=.ok (.agg (plC sT sG f l)) W:=by
 simp[go_sem,h,plC]
theorem bldPl(W:World):(Instr.build 235 #[]).run Tryz.prog W=.ok (.agg (plC nilV nilV 0 0)) W:=by
 simp[go_sem,plC,nilV]
theorem newPl(w:World):∃w1,(Instr.alloc 235 true (.tuple #[])).run Tryz.prog w=.ok (.pointer (some ⟨w.heap.size,0,none⟩)) w1∧hp w1 w.heap.size=some (.cells #[nilV,nilV,.int .i64 0,.int .i64 0] 235 (0,0))∧Mod (λ_=>False) w w1:=
 ⟨w.alloc (.cells #[nilV,nilV,.int .i64 0,.int .i64 0] 235),by simp[go_sem,nilV],by simp[go_sem],(Mod.refl _ w).alloc _⟩
theorem nilPlQ(w:World):PlQ w nilV nilV [] []:=⟨Own.nil _ _ _,Own.nil _ _ _,λx hx=>by cases hx⟩
def bkPlace(B:Bk)(o:Od)(k:Int):Int×Bk×Pm:=
 if¬o.may∨k<1∨4<k then(2,B,⟨[],[],0,0⟩)
 else if(B.find o.num).isSome then(8,B,⟨[],[],0,0⟩)
 else if k=3∧sdReach (!o.buy) (B !o.buy) o.price o.acct<o.left then(70,B,⟨[],[],0,0⟩)
 else if k=4∧0<sdReach (!o.buy) (B !o.buy) o.price o.acct then(71,B,⟨[],[],0,0⟩)
 else if(k=1∨k=4)∧sdReach (!o.buy) (B !o.buy) o.price o.acct<o.left∧100≤(B o.buy).length then(9,B,⟨[],[],0,0⟩)
 else(0,bkCome B o (decide (k=1∨k=4)))
set_option maxRecDepth 10000 in
set_option maxHeartbeats 1000000 in
theorem ca_place{w:World}{K:Kont}{b:Nat}{B:Bk}{s:Bool→Nat}{G:Bool→Nat→Prop}{o:Od}{k:Int}(h:BookR w b s G B)(hof:o.Fit)(hk:0≤k∧k<256)
  (hK:∀G' sT sG w',BookR w' b s G' (bkPlace B o k).2.1→PlQ w' sT sG (bkPlace B o k).2.2.trades (bkPlace B o k).2.2.gone→Mod (λx=>G true x∨G false x) w w' →(∀d x,G' d x→G d x∨w.heap.size≤x)→
   (∀x,inSl sT x∨inSl sG x→w.heap.size≤x∧∀d,¬G' d x)→K (.tuple #[.agg (plC sT sG (bkPlace B o k).2.2.filled (bkPlace B o k).2.2.left),.int .i64 (bkPlace B o k).1]) w'):Ca Tryz.prog 135 #[bptr b,odV o,.int .u8 k] w K:=by
 apply ca135
 unfold F135
 obtain⟨w1,e1,b1,m1⟩:=boxOd o w
 refine rvS e1 ?_
 obtain⟨p,hp0⟩:∃p,p=w.heap.size:=⟨_,rfl⟩
 rw[←hp0]at b1⊢
 obtain⟨w2,e2,b2,m2⟩:=newPl w1
 refine rvS e2 ?_
 obtain⟨q,hq0⟩:∃q,q=w1.heap.size:=⟨_,rfl⟩
 rw[←hq0]at b2⊢
 have hpq:p<q:=by have:=lt_of_heap b1;omega
 have c1:=m2.hpk b1 id
 have M2:=m1.trans m2
 have toG:∀{W W' :World},Mod (λ_=>False) W W' →Mod (λx=>G true x∨G false x) W W' :=λm=>m.mono λ_ _ h=>h.elim
 have hGlt:∀d x,G d x→x<p:=λd x hx=>by rw[hp0];exact h.lt hx
 have hbp:b<p:=by rw[hp0];exact lt_of_heap h.blk
 have bad:∀(e:Int) (W:World),bkPlace B o k=(e,B,⟨[],[],0,0⟩)→Mod (λ_=>False) w2 W→
   rv Tryz.prog (Instr.build 235 #[]) W λv25 w26=>ru Tryz.prog (Instr.storeAt 235 (.pointer (some ⟨q,0,none⟩)) v25) w26 λw27=>
    rdW Tryz.prog (Instr.loadAt 235 (.pointer (some ⟨q,0,none⟩))) w27 λv28=>K (.tuple #[v28,.int .i64 e]) w27:=by
  intro e W hr mW
  refine rvS (bldPl W) ?_
  obtain⟨W2,hst,hW2,m3⟩:=stPl (sT:=nilV) (sG:=nilV) (f:=0) (l:=0) (mW.hpk b2 id) ⟨_,_,_,rfl⟩ ⟨_,_,_,rfl⟩
  refine ruS hst ?_
  refine rdWS (ldPl hW2) ?_
  have hk' :=hK G nilV nilV W2
  rw[hr]at hk'
  have M:=M2.trans mW
  exact hk' ((h.mod M id λ_ _ _ h=>h).mod m3 (by omega) λd x hx=>by have:=hGlt d x hx;omega) (nilPlQ _) ((toG M).on m3 λx hx=>.inr (by omega)) (λd x hx=>.inl hx) λx hx=>by rcases hx with hx|hx<;>cases hx
 have h2:=h.mod M2 id λ_ _ _ h=>h
 refine ca_bkready h2.q ?_
 refine rvS (v:=.bool false) (by simp[go_sem]<;>first|exact⟨rfl,rfl⟩|exact rfl) ?_
 rw[ifB_bool,if_neg Bool.false_ne_true]
 refine JoinW.at (λst W=>st=(.bool (decide (¬o.may∨k<1∨4<k)),())∧Mod (λ_=>False) w2 W) ?_ ?_
 ·refine rvS (ldOd (o:=o) (At.all c1)) ?_
  refine ca_omay λw3 m3=>?_
  refine rvS (v:=.bool (!o.may)) (w' :=w3) (by simp[go_sem]) ?_
  cases hm:o.may with
  |false=>
   rw[ifB_bool,if_pos (show(!false)=true from rfl)]
   exact⟨by simp,m3⟩
  |true=>
   rw[ifB_bool,if_neg (by simp)]
   by_cases h1:k<1
   ·refine rvS (v:=.bool true) (by simp[go_sem,h1]<;>first|exact⟨rfl,rfl⟩|exact rfl) ?_
    rw[ifB_bool,if_pos rfl]
    exact⟨by simp[h1],m3⟩
   ·refine rvS (v:=.bool false) (by simp[go_sem,h1]<;>first|exact⟨rfl,rfl⟩|exact rfl) ?_
    rw[ifB_bool,if_neg Bool.false_ne_true]
    refine rvS (v:=.bool (decide (4<k))) (w' :=w3) (by simp[go_sem]) ?_
    exact⟨by simp[h1],m3⟩
 rintro _ w3 ⟨rfl,m3⟩
 unfold J135_4
 intro _
 by_cases hbad:¬o.may∨k<1∨4<k
 ·rw[ifB_bool,if_pos (by simpa using hbad)]
  exact bad 2 w3 (by unfold bkPlace;rw[if_pos hbad]) m3
 rw[ifB_bool,if_neg (by simpa using hbad)]
 have hmay:o.may=true:=by
  apply Classical.byContradiction
  intro hc
  exact hbad (.inl hc)
 have d1:=m3.hpk c1 id
 have d1' :=d1
 unfold odC at d1'
 refine rvS (by simp[-Int.natCast_add,go_sem,d1']<;>first|exact⟨rfl,rfl⟩|exact rfl) ?_
 refine rvS (by simp[-Int.natCast_add,go_sem,d1']<;>first|exact⟨rfl,rfl⟩|exact rfl) ?_
 have h3:=h2.mod m3 id λ_ _ _ h=>h
 refine ca_bkfind h3.blk h3.sd (λhnf w4 m4=>?_) λfo d hfo _ w4 m4=>?_
 ·refine rvS (v:=odV zOd) (w' :=w4) (by simp[go_sem]) ?_
  refine rvS (v:=.pointer none) (w' :=w4) (by simp[go_sem]) ?_
  obtain⟨w5,e5,b5,m5⟩:=newOd w4
  refine rvS e5 ?_
  obtain⟨w6,e6,b6,m6⟩:=setOd (o' :=zOd) b5
  refine ruS e6 ?_
  have M46:Mod (λ_=>False) w4 w6:=m5.on m6 λb hb=>.inr (by omega)
  have M36:=m4.trans M46
  have M6:=m3.trans M36
  have f1:=M36.hpk d1' id
  have hs6:=M6.size
  refine rvS (v:=.bool false) (by simp[go_sem]<;>first|exact⟨rfl,rfl⟩|exact rfl) ?_
  rw[ifB_bool,if_neg Bool.false_ne_true]
  refine rvS (by simp[-Int.natCast_add,go_sem,f1]<;>first|exact⟨rfl,rfl⟩|exact rfl) ?_
  refine rvS (by simp[-Int.natCast_add,go_sem,f1]<;>first|exact⟨rfl,rfl⟩|exact rfl) ?_
  have h6:=h3.mod M36 id λ_ _ _ h=>h
  refine ca_bksides (s:=s) h6.blk ?_
  have md:Mod (λ_=>False) w6 w6.drew:=(Mod.refl _ w6).drew
  have h7:=h6.mod md id λ_ _ _ h=>h
  have f2:=md.hpk f1 id
  have f2o:hp w6.drew p=some (.cells (odC o).toArray tOd (0,0)):=f2
  have M7:=M6.trans md
  generalize w6.drew=w7 at h7 f2 f2o M7⊢
  refine rvS (v:=sptr (s o.buy)) (w' :=w7) (by simp[go_sem]) ?_
  refine rvS (v:=sptr (s !o.buy)) (w' :=w7) (by simp[go_sem]) ?_
  refine rvS (by simp[-Int.natCast_add,go_sem,f2]<;>first|exact⟨rfl,rfl⟩|exact rfl) ?_
  refine rvS (by simp[-Int.natCast_add,go_sem,f2]<;>first|exact⟨rfl,rfl⟩|exact rfl) ?_
  refine rvS (by simp[-Int.natCast_add,go_sem,f2]<;>first|exact⟨rfl,rfl⟩|exact rfl) ?_
  refine rvS (by simp[-Int.natCast_add,go_sem,f2]<;>first|exact⟨rfl,rfl⟩|exact rfl) ?_
  refine ca_sreach (h7.sd (!o.buy)) λw8 m8=>?_
  have h8:=h7.mod m8 id λ_ _ _ h=>h
  have f3:=m8.hpk f2 id
  have f3o:hp w8 p=some (.cells (odC o).toArray tOd (0,0)):=f3
  have M8:=M7.trans m8
  obtain⟨rc,hrc⟩:∃rc,rc=sdReach (!o.buy) (B !o.buy) o.price o.acct:=⟨_,rfl⟩
  rw[←hrc]
  have hpl:bkPlace B o k=if k=3∧rc<o.left then(70,B,⟨[],[],0,0⟩)else if k=4∧0<rc then(71,B,⟨[],[],0,0⟩)else if(k=1∨k=4)∧rc<o.left∧100≤(B o.buy).length then(9,B,⟨[],[],0,0⟩)else(0,bkCome B o (decide (k=1∨k=4))):=by
   unfold bkPlace
   rw[if_neg hbad,if_neg (by rw[hnf];simp),←hrc]
  refine JoinW.at (λst W=>st=(.bool (decide (k=1∨k=4)),())∧W=w8) ?_ ?_
  ·by_cases hk1:k=1
   ·refine rvS (v:=.bool true) (by simp[go_sem,hk1]<;>first|exact⟨rfl,rfl⟩|exact rfl) ?_
    rw[ifB_bool,if_pos rfl]
    exact⟨by simp[hk1],rfl⟩
   ·refine rvS (v:=.bool false) (by simp[go_sem,hk1]<;>first|exact⟨rfl,rfl⟩|exact rfl) ?_
    rw[ifB_bool,if_neg Bool.false_ne_true]
    refine rvS (v:=.bool (decide (k=4))) (w' :=w8) (by simp[go_sem];rw[Bool.eq_iff_iff];simp) ?_
    exact⟨by simp[hk1],rfl⟩
  rintro _ w8 ⟨rfl,rfl⟩
  unfold J135_3
  intro _
  refine JoinW.at (λst W=>st=(.bool (decide (k=3∧rc<o.left)),())∧W=w8) ?_ ?_
  ·by_cases hk3:k=3
   ·refine rvS (v:=.bool true) (by simp[go_sem,hk3]<;>first|exact⟨rfl,rfl⟩|exact rfl) ?_
    rw[ifB_bool,if_pos rfl]
    refine rvS (by simp[-Int.natCast_add,go_sem,f3]<;>first|exact⟨rfl,rfl⟩|exact rfl) ?_
    refine rvS (by simp[-Int.natCast_add,go_sem,f3]<;>first|exact⟨rfl,rfl⟩|exact rfl) ?_
    refine rvS (v:=.bool (decide (rc<o.left))) (w' :=w8) (by simp[go_sem]) ?_
    exact⟨by simp[hk3],rfl⟩
   ·refine rvS (v:=.bool false) (by simp[go_sem,hk3]<;>first|exact⟨rfl,rfl⟩|exact rfl) ?_
    rw[ifB_bool,if_neg Bool.false_ne_true]
    exact⟨by simp[hk3],rfl⟩
  rintro _ w8 ⟨rfl,rfl⟩
  unfold J135_2
  intro _
  by_cases ha:k=3∧rc<o.left
  ·rw[ifB_bool,if_pos (by simpa using ha)]
   exact bad 70 w8 (by rw[hpl,if_pos ha]) M8
  rw[ifB_bool,if_neg (by simpa using ha)]
  refine JoinW.at (λst W=>st=(.bool (decide (k=4∧0<rc)),())∧W=w8) ?_ ?_
  ·by_cases hk4:k=4
   ·refine rvS (v:=.bool true) (by simp[go_sem,hk4]<;>first|exact⟨rfl,rfl⟩|exact rfl) ?_
    rw[ifB_bool,if_pos rfl]
    refine rvS (v:=.bool (decide (0<rc))) (w' :=w8) (by simp[go_sem]) ?_
    exact⟨by simp[hk4],rfl⟩
   ·refine rvS (v:=.bool false) (by simp[go_sem,hk4]<;>first|exact⟨rfl,rfl⟩|exact rfl) ?_
    rw[ifB_bool,if_neg Bool.false_ne_true]
    exact⟨by simp[hk4],rfl⟩
  rintro _ w8 ⟨rfl,rfl⟩
  unfold J135_1
  intro _
  by_cases hb' :k=4∧0<rc
  ·rw[ifB_bool,if_pos (by simpa using hb')]
   exact bad 71 w8 (by rw[hpl,if_neg ha,if_pos hb']) M8
  rw[ifB_bool,if_neg (by simpa using hb')]
  refine JoinW.at (λst W=>st=(.bool (decide ((k=1∨k=4)∧rc<o.left∧100≤(B o.buy).length)),())∧W=w8) ?_ ?_
  ·by_cases hr:k=1∨k=4
   ·rw[ifB_bool,if_pos (by simpa using hr)]
    refine rvS (by simp[-Int.natCast_add,go_sem,f3]<;>first|exact⟨rfl,rfl⟩|exact rfl) ?_
    refine rvS (by simp[-Int.natCast_add,go_sem,f3]<;>first|exact⟨rfl,rfl⟩|exact rfl) ?_
    by_cases hl:rc<o.left
    ·refine rvS (v:=.bool true) (by simp[go_sem,hl]<;>first|exact⟨rfl,rfl⟩|exact rfl) ?_
     rw[ifB_bool,if_pos rfl]
     refine ca_slen (h8.sd o.buy) ?_
     refine rvS (v:=.bool (decide ((100:Int)≤((B o.buy).length:Int)))) (w' :=w8) (by simp[go_sem]) ?_
     refine⟨?_,rfl⟩
     have e:decide ((100:Int)≤((B o.buy).length:Int))=decide ((k=1∨k=4)∧rc<o.left∧100≤(B o.buy).length):=by
      rw[decide_eq_decide]
      exact⟨λh=>⟨hr,hl,by omega⟩,λh=>by omega⟩
     rw[e]
    ·refine rvS (v:=.bool false) (by simp[go_sem,hl]<;>first|exact⟨rfl,rfl⟩|exact rfl) ?_
     rw[ifB_bool,if_neg Bool.false_ne_true]
     refine⟨?_,rfl⟩
     rw[decide_eq_false (λhc=>hl hc.2.1)]
   ·rw[ifB_bool,if_neg (by simpa using hr)]
    refine⟨?_,rfl⟩
    rw[decide_eq_false (λhc=>hr hc.1)]
  rintro _ w8 ⟨rfl,rfl⟩
  unfold J135_0
  intro _
  by_cases hc:(k=1∨k=4)∧rc<o.left∧100≤(B o.buy).length
  ·rw[ifB_bool,if_pos (decide_eq_true hc)]
   exact bad 9 w8 (by rw[hpl,if_neg ha,if_neg hb',if_pos hc]) M8
  rw[ifB_bool,if_neg (by rw[decide_eq_true_eq];exact hc)]
  rw[if_neg ha,if_neg hb',if_neg hc]at hpl
  refine rvS (ldOd (o:=o) (At.all f3o)) ?_
  refine ca_come h8 hof hmay λG' sT sG w9 r9 p9 m9 n9 s9=>?_
  obtain⟨ta,tc,hsT,-⟩:=p9.tr.isSl
  obtain⟨ga,gc,hsG,-⟩:=p9.go.isSl
  have hq8:¬(G true q∨G false q):=λhg=>by rcases hg with hg|hg<;>(have:=hGlt _ q hg;omega)
  have f4:=m9.hpk (M8.hpk b2 id) hq8
  have hs8:=M8.size
  have hq2:=lt_of_heap b2
  obtain⟨wa,hst,ja,ma⟩:=stPl (sT:=sT) (sG:=sG) (f:=(bkCome B o (decide (k=1∨k=4))).2.filled) (l:=(bkCome B o (decide (k=1∨k=4))).2.left) f4 ⟨_,_,_,hsT⟩ ⟨_,_,_,hsG⟩
  refine ruS hst ?_
  refine rdWS (ldPl ja) ?_
  have hk' :=hK G' sT sG wa
  rw[hpl]at hk'
  have hsw:=(M2.trans M8).size
  refine hk' (r9.mod ma (by omega) λd x hx=>?_) (p9.mod ma (λx hx=>?_) λx hx=>?_) (((toG (M2.trans M8)).trans m9).on ma λx hx=>.inr (by omega)) (λd x hx=>?_) λx hx=>⟨by have:=(s9 x hx).1;omega,(s9 x hx).2⟩
  ·rcases n9 d x hx with h' |h'
   ·have:=hGlt d x h';omega
   ·omega
  ·have:=(s9 x (.inl hx)).1;omega
  ·have:=(s9 x (.inr hx)).1;omega
  ·rcases n9 d x hx with h' |h'
   ·exact .inl h'
   ·exact .inr (by omega)
 ·refine rvS (v:=odV fo) (w' :=w4) (by simp[go_sem]) ?_
  refine rvS (v:=sptr (s d)) (w' :=w4) (by simp[go_sem]) ?_
  obtain⟨w5,e5,b5,m5⟩:=newOd w4
  refine rvS e5 ?_
  obtain⟨w6,e6,b6,m6⟩:=setOd (o' :=fo) b5
  refine ruS e6 ?_
  have M46:Mod (λ_=>False) w4 w6:=m5.on m6 λb hb=>.inr (by omega)
  refine rvS (v:=.bool true) (w' :=w6) (by simp[go_sem,sptr]) ?_
  rw[ifB_bool,if_pos rfl]
  exact bad 8 w6 (by unfold bkPlace;rw[if_neg hbad,if_pos (by rw[hfo];rfl)]) ((m3.trans m4).trans M46)
end Go.Proofs
namespace Go.Proofs
open Go Go.Vc
attribute [local congr] Ca_congV
theorem ca_bkcopy{w:World}{K:Kont}{b:Nat}{F:Nat→Prop}{B:Bk}(h:BookQ w b F B)
  (hK:∀b' F' w',BookQ w' b' F' B→Mod (λ_=>False) w w' →(∀x,F' x→w.heap.size≤x)→K (bptr b') w'):Ca Tryz.prog 110 #[bptr b] w K:=by
 apply ca110
 unfold F110
 refine ca_bkready h ?_
 obtain⟨s,G,hr,-⟩:=h.r
 refine rvS (v:=.bool false) (by simp[go_sem]<;>first|exact⟨rfl,rfl⟩|exact rfl) ?_
 rw[ifB_bool,if_neg Bool.false_ne_true]
 have md:Mod (λ_=>False) w w.drew:=(Mod.refl _ w).drew
 have hd:=hr.mod md id λ_ _ _ h=>h
 have c0:=hd.blk
 simp only[bptr,nilK_ptr]
 refine rdPS (λ_=>by simp[-Int.natCast_add,go_sem]<;>first|exact⟨rfl,rfl⟩|exact rfl) ?_
 refine rdWS (v:=sptr (s true)) (by simp[go_sem,c0]) ?_
 refine rdPS (λ_=>by simp[-Int.natCast_add,go_sem]<;>first|exact⟨rfl,rfl⟩|exact rfl) ?_
 refine rdWS (v:=sptr (s false)) (by simp[go_sem,c0]) ?_
 refine ca_scopy (hd.sd true) λs1 F1 w1 q1 m1 n1=>?_
 have c1:=m1.hpk c0 id
 refine⟨by simp[go_sem,c1],?_⟩
 have h1:=hd.mod m1 id λ_ _ _ h=>h
 refine ca_scopy (h1.sd false) λs2 F2 w2 q2 m2 n2=>?_
 refine rdPS (v:=.agg #[sptr s1,sptr s2]) (λ_=>by simp[go_sem,sptr]) ?_
 have m3:Mod (λ_=>False) w2 (w2.alloc (.cells #[sptr s1,sptr s2] 231)):=(Mod.refl _ w2).alloc _
 refine rvS (v:=bptr w2.heap.size) (w' :=w2.alloc (.cells #[sptr s1,sptr s2] 231)) rfl ?_
 have hs0:=md.size
 have hs1:=m1.size
 have hs2:=m2.size
 refine hK w2.heap.size (λx=>x=w2.heap.size∨F1 x∨F2 x) _ ⟨λd=>if d then s1 else s2,λd=>if d then F1 else F2,by simp[go_sem],λd=>?_,λx=>Iff.rfl,λd=>?_,λx h1 h2=>?_⟩ (((md.trans m1).trans m2).trans m3) λx hx=>?_
 ·cases d
  ·exact q2.mod m3 λ_ _ h=>h
  ·exact(q1.mod m2 λ_ _ h=>h).mod m3 λ_ _ h=>h
 ·cases d
  ·intro h;have:=q2.lt h;omega
  ·intro h;have:=q1.lt h;omega
 ·have a1:=q1.lt h1
  have a2:=n2 x h2
  omega
 ·rcases hx with rfl|hx|hx
  ·omega
  ·have:=n1 x hx;omega
  ·have:=n2 x hx;omega
end Go.Proofs

namespace Go.Proofs
open Go Go.Vc
attribute [local congr] Ca_congV
structure IterM(P:Program)(gv:Value)(xs:List (List Value))(Ok:World→Prop):Prop where
 out:∃f first captured,gv=.func (.func f) first captured∧∀(yl:Nat) (J:(Nat→Prop)→Nat→World→Prop) (Js:(Nat→Prop)→World→Prop) (W:World) (K:Kont),Ok W→
  (∀Q W1,Mod (λ_=>False) W W1→(∀b,Q b→W.heap.size≤b∧b<W1.heap.size)→J Q 0 W1)→
  (∀Q Q' i W W',J Q i W→Mod Q W W' →(∀b,Q' b→(Q b∨W.heap.size≤b)∧b<W'.heap.size)→J Q' i W')→
  (∀Q Q' W W',Js Q W→Mod Q W W' →(∀b,Q' b→(Q b∨W.heap.size≤b)∧b<W'.heap.size)→Js Q' W')→
  (∀Q i x W,xs[i]? =some x→J Q i W→∀K' :Kont,(∀W',J Q (i+1) W' →W.heap.size≤W'.heap.size→(∀b,Q b→W'.heap[b]? =W.heap[b]?)→K' (.bool true) W')→(∀W',Js Q W' →W.heap.size≤W'.heap.size→(∀b,Q b→W'.heap[b]? =W.heap[b]?)→K' (.bool false) W')→callV P (.func (.yield yl) #[] #[]) x W K')→
  (∀Q W,J Q xs.length W→K (.tuple #[]) W)→(∀Q W,Js Q W→K (.tuple #[]) W)→Ca P f ⟨first.toList++((.func (.yield yl) #[] #[])::captured.toList)⟩ W K
theorem iterNm{P:Program}{gv:Value}{xs:List (List Value)}{Ok:World→Prop}(h:IterN P gv xs Ok):IterM P gv xs Ok:=by
 obtain⟨f,first,cap,e,hh⟩:=h.out
 refine⟨f,first,cap,e,λyl J Js W K hok h0 hmod hmodx hstep hend hex=>?_⟩
 refine hh _ (λQ i W=>J Q i W∧∀b,Q b→b<W.heap.size) (λW=>∃Q,Js Q W) W K hok (λQ W1 hm hQ=>⟨h0 Q W1 hm hQ,λb hb=>(hQ b hb).2⟩) ?_ ?_ (λQ W h=>hend Q W h.1) λW ⟨Q,h⟩=>hex Q W h
 ·rintro Q i W W' ⟨hJ,hQ⟩ hm
  exact⟨hmod Q Q i W W' hJ (hm.mono λ_ _ h=>h.elim) λb hb=>⟨.inl hb,Nat.lt_of_lt_of_le (hQ b hb) hm.size⟩,λb hb=>Nat.lt_of_lt_of_le (hQ b hb) hm.size⟩
 ·rintro Q i x W hx ⟨hJ,hQ⟩ K' hT hF
  refine hstep Q i x W hx hJ K' (λW' hJ' hs hq=>hT W' ⟨hJ',λb hb=>?_⟩ hq) λW' hJ' hs _=>hF W' ⟨Q,hJ'⟩
  exact Nat.lt_of_lt_of_le (hQ b hb) hs
structure TellsM(gv:Value)(xs:List (List Value))(w:World):Prop where
 out:∃Ok,IterM Tryz.prog gv xs Ok∧∀W,Mod (λ_=>False) w W→Ok W
 fn:∃f cap,gv=.func (.func f) #[] cap
theorem Tells.m{gv:Value}{xs:List (List Value)}{w:World}(h:Tells gv xs w):TellsM gv xs w:=by
 obtain⟨⟨Ok,h1,h2⟩,h3⟩:=h
 exact⟨⟨Ok,iterNm h1,h2⟩,h3⟩
theorem TellsM.mod{gv:Value}{xs:List (List Value)}{w w' :World}(h:TellsM gv xs w)(hm:Mod (λ_=>False) w w'):TellsM gv xs w' :=by
 obtain⟨⟨Ok,h1,h2⟩,h3⟩:=h
 exact⟨⟨Ok,h1,λW m=>h2 W (hm.trans m)⟩,h3⟩
def VarOk(T:TypeId){α:Type}(fv:α→Value)(fc:α→List Value)(xs:List α):Prop:=
 ∀a∈xs,∀W:World,∃w1 w2,(Instr.alloc T true (.tuple #[])).run Tryz.prog W=.ok (.pointer (some ⟨W.heap.size,0,none⟩)) w1∧(Instr.storeAt T (.pointer (some ⟨W.heap.size,0,none⟩)) (fv a)).run Tryz.prog w1=.ok () w2∧
  hp w2 W.heap.size=some (.cells (fc a).toArray T (0,0))∧Mod (λ_=>False) W w2
section
variable{w:World}{gv:Value}{α:Type}{xs:List α}{T:TypeId}{fv:α→Value}{fc:α→List Value}{body:Value→World→(World→Prop)→(Code→World→Prop)→Prop}{after:List Nat→Option Code→World→Prop}{X0:Nat→Prop}
theorem RF_list(ht:TellsM gv (xs.map λa=>[fv a]) w)(hv:VarOk T fv fc xs)
  (I:(Nat→Prop)→Nat→World→Prop)(Ex:Code→(Nat→Prop)→World→Prop)
  (hst:∀X i W W' H,I X i W→Mod H W W' →(∀b,X b→¬H b)→I X i W')
  (hsx:∀c X W W' H,Ex c X W→Mod H W W' →(∀b,X b→¬H b)→Ex c X W')
  (hX0:∀b,X0 b→b<w.heap.size)(h0:I X0 0 w)
  (hstep:∀X i (hi:i<xs.length) W q,I X i W→Mod X0 w W→(∀b,X b→b<q∧(X0 b∨w.heap.size+1<b))→w.heap.size+1<q→q<W.heap.size→hp W q=some (.cells (fc xs[i]).toArray T (0,0))→∀KN KJ,
   (∀X' W',I X' (i+1) W' →Mod X W W' →(∀b,X' b→(X b∨W.heap.size≤b)∧b<W'.heap.size)→KN W')→
   (∀c X' W',Ex c X' W' →Mod X W W' →(∀b,X' b→(X b∨W.heap.size≤b)∧b<W'.heap.size)→KJ c W')→body (.pointer (some ⟨q,0,none⟩)) W KN KJ)
  (hend:∀X W d,d=w.heap.size→I X xs.length W→Mod X0 w W→hp W d=some (.deferred (some []))→(∀b,X b→b<W.heap.size∧(X0 b∨d+1<b))→after [d] none W)
  (hexit:∀c X W d,d=w.heap.size→Ex c X W→Mod X0 w W→hp W d=some (.deferred (some []))→(∀b,X b→b<W.heap.size∧(X0 b∨d+1<b))→after [d] (some c) W):
  RFW Tryz.prog none gv w 1 (λl x W KN KJ=>rv Tryz.prog (Instr.alloc T true (.tuple #[])) W λv w1=>ru Tryz.prog (Instr.storeAt T v (x.getD 0 undef)) w1 λw2=>beginK l w2 λw3=>body v w3 KN KJ) after:=by
 obtain⟨⟨Ok,hit,hok⟩,-⟩:=ht
 obtain⟨f,first,captured,rfl,hit0⟩:=hit.out
 refine RFW_iff.2 ?_
 show∀rec:Loop,_
 intro rec hready hpend hD hY
 obtain⟨d,hd0⟩:∃d,d=w.heap.size:=⟨_,rfl⟩
 have hsz:(w.alloc (.deferred (some []))).heap.size=d+1:=by rw[World.size_alloc,hd0]
 obtain⟨wr,hwr⟩:∃wr,wr=(w.alloc (.deferred (some []))).alloc (.loop rec):=⟨_,rfl⟩
 have hrec0:wr.heap[d+1]? =some (.loop rec):=by rw[hwr,heap_alloc,if_pos hsz.symm]
 have hszr:wr.heap.size=d+2:=by rw[hwr,World.size_alloc,hsz]
 have hdef0:hp wr d=some (.deferred (some [])):=by rw[hwr];simp[go_sem,hd0]
 have hmr:Mod (λ_=>False) w wr:=by rw[hwr];exact((Mod.refl _ w).alloc _).alloc _
 have hput:∀(W:World) (o:Obj),Mod (λb=>b=d+1) W (W.putObj (d+1) o):=λW o=>(Mod.refl (λb=>b=d+1) W).putObj (b:=d+1) (.inl rfl) o
 rw[hsz]at hY⊢
 rw[←hwr]
 let J:(Nat→Prop)→Nat→World→Prop:=λQ i W=>∃X,I X i W∧Mod X0 w W∧hp W d=some (.deferred (some []))∧(∀b,X b→b<W.heap.size∧(X0 b∨d+1<b)∧¬Q b)∧W.heap[d+1]? =some (.loop rec)∧∀b,Q b→d+1<b∧b<W.heap.size
 let Js:(Nat→Prop)→World→Prop:=λQ W=>∃c X r,Ex c X W∧Mod X0 w W∧hp W d=some (.deferred (some []))∧(∀b,X b→b<W.heap.size∧(X0 b∨d+1<b)∧¬Q b)∧W.heap[d+1]? =some (.loop r)∧(∀b,Q b→d+1<b∧b<W.heap.size)∧r.state=.done∧r.pending=some c
 refine hit0 _ J Js _ _ (hok _ hmr) ?_ ?_ ?_ ?_ ?_ ?_
 ·intro Q W1 hm hQ
  refine⟨X0,hst _ _ _ _ _ h0 (hmr.trans hm) λ_ _ h=>h,(hmr.trans hm).mono λ_ _ h=>h.elim,hm.hpk hdef0 id,λb hb=>?_,hm.keep hrec0 id,λb hb=>?_⟩
  ·have h1:=hX0 b hb
   have h2:=hm.size
   exact⟨by omega,.inl hb,λhq=>by have:=(hQ b hq).1;omega⟩
  ·have:=hQ b hb;omega
 ·rintro Q Q' i W W' ⟨X,h1,h2,h3,h4,h5,h6⟩ hm hQ'
  have hl:=lt_of_heap h5
  refine⟨X,hst _ _ _ _ _ h1 hm λb hb=>(h4 b hb).2.2,h2.on hm λb hb=>.inr (by have:=h6 b hb;omega),hm.hpk h3 λhb=>by have:=h6 _ hb;omega,λb hb=>?_,hm.keep h5 λhb=>by have:=h6 _ hb;omega,λb hb=>?_⟩
  ·have ha:=h4 b hb
   refine⟨Nat.lt_of_lt_of_le ha.1 hm.size,ha.2.1,λhq=>?_⟩
   rcases(hQ' b hq).1 with h|h
   ·exact ha.2.2 h
   ·have:=ha.1;omega
  ·have ha:=hQ' b hb
   refine⟨?_,ha.2⟩
   rcases ha.1 with h|h
   ·exact(h6 b h).1
   ·omega
 ·rintro Q Q' W W' ⟨c,X,r,h1,h2,h3,h4,h5,h6,h7⟩ hm hQ'
  have hl:=lt_of_heap h5
  refine⟨c,X,r,hsx _ _ _ _ _ h1 hm λb hb=>(h4 b hb).2.2,h2.on hm λb hb=>.inr (by have:=h6 b hb;omega),hm.hpk h3 λhb=>by have:=h6 _ hb;omega,λb hb=>?_,hm.keep h5 λhb=>by have:=h6 _ hb;omega,λb hb=>?_,h7⟩
  ·have ha:=h4 b hb
   refine⟨Nat.lt_of_lt_of_le ha.1 hm.size,ha.2.1,λhq=>?_⟩
   rcases(hQ' b hq).1 with h|h
   ·exact ha.2.2 h
   ·have:=ha.1;omega
  ·have ha:=hQ' b hb
   refine⟨?_,ha.2⟩
   rcases ha.1 with h|h
   ·exact(h6 b h).1
   ·omega
 ·rintro Q i x W hx ⟨X,h1,h2,h3,h4,h5,h6⟩ K' hT hF
  refine callV_iff.2 ?_
  show Yl Tryz.prog (d+1) ⟨_⟩ W K'
  have e1:(#[]:Array Value).toList++x=x:=rfl
  rw[e1]
  obtain⟨hi,rfl⟩:∃hi:i<xs.length,x=[fv xs[i]]:=by
   rw[List.getElem?_map]at hx
   cases hh:xs[i]? with
   |none=>rw[hh]at hx;cases hx
   |some o=>
    obtain⟨hj,he⟩:=List.getElem?_eq_some_iff.1 hh
    rw[hh]at hx
    exact⟨hj,by rw[he];exact(Option.some.inj hx).symm⟩
  refine hY _ W K' rfl ⟨rec.state,rec.pending,h5⟩ ?_
  obtain⟨w1,w2,v1,v2,v3,v4⟩:=hv xs[i] (List.getElem_mem hi) W
  obtain⟨q,hq0⟩:∃q,q=W.heap.size:=⟨_,rfl⟩
  rw[←hq0]at v1 v2 v3
  refine rvS v1 ?_
  show ru Tryz.prog (Instr.storeAt T (.pointer (some ⟨q,0,none⟩)) (fv xs[i])) w1 _
  refine ruS v2 ?_
  have r2:w2.heap[d+1]? =some (.loop rec):=v4.keep h5 id
  refine beginK_of r2 hready ?_
  have m3:=hput w2 (.loop {rec with state:=.busy})
  have r3:(w2.putObj (d+1) (.loop {rec with state:=.busy})).heap[d+1]? =some (.loop {rec with state:=.busy}):=by rw[heap_putObj,if_pos rfl,r2];rfl
  generalize w2.putObj (d+1) (.loop {rec with state:=.busy})=w3 at m3 r3⊢
  have hdl:d+1<q:=by rw[hq0];exact lt_of_heap h5
  have q3:=m3.hpk v3 (by omega)
  have hql:=lt_of_heap q3
  have hw3:=m3.size
  have hw4:=v4.size
  have M3:Mod (λb=>b=d+1) W w3:=(v4.mono λ_ _ h=>h.elim).trans m3
  have hXq:∀b,X b→b<q∧(X0 b∨d+1<b):=λb hb=>⟨by have:=(h4 b hb).1;omega,(h4 b hb).2.1⟩
  have hXd:∀b,X b→b≠d+1∧b≠d:=λb hb=>by
   rcases(h4 b hb).2.1 with h|h
   ·have:=hX0 b h;omega
   ·omega
  have hKeep:∀(W' :World) (X' :Nat→Prop) (o:Obj),Mod X w3 W' →(∀b,X' b→(X b∨w3.heap.size≤b)∧b<W'.heap.size)→
    Mod X0 w (W'.putObj (d+1) o)∧hp (W'.putObj (d+1) o) d=some (.deferred (some []))∧(∀b,X' b→b<(W'.putObj (d+1) o).heap.size∧(X0 b∨d+1<b)∧¬Q b)∧(∀b,Q b→d+1<b∧b<(W'.putObj (d+1) o).heap.size)∧
    (∀b,Q b→(W'.putObj (d+1) o).heap[b]? =W.heap[b]?)∧W.heap.size≤(W'.putObj (d+1) o).heap.size∧W'.heap[d+1]? =some (.loop {rec with state:=.busy}):=by
   intro W' X' o hm hX'
   have hp1:=hput W' o
   have hsW:=hm.size
   have hsP:=hp1.size
   refine⟨?_,hp1.hpk (hm.hpk (m3.hpk (v4.hpk h3 id) (by omega)) λhb=>(hXd _ hb).2 rfl) (by omega),λb hb=>?_,λb hb=>?_,λb hb=>?_,by omega,hm.keep r3 λhb=>(hXd _ hb).1 rfl⟩
   ·refine(((h2.on M3 λb hb=>.inr (by omega)).on hm λb hb=>?_)).on hp1 λb hb=>.inr (by omega)
    rcases(h4 b hb).2.1 with h|h
    ·exact .inl h
    ·exact .inr (by omega)
   ·have ha:=hX' b hb
    refine⟨by omega,?_,λhq=>?_⟩
    ·rcases ha.1 with h|h
     ·exact(h4 b h).2.1
     ·exact .inr (by omega)
    ·rcases ha.1 with h|h
     ·exact(h4 b h).2.2 hq
     ·have:=(h6 b hq).2;omega
   ·have:=h6 b hb;omega
   ·have hb' :=h6 b hb
    rw[hp1.blk b (by omega) (by omega),hm.blk b (by omega) λhx=>(h4 b hx).2.2 hb,M3.blk b hb'.2 (by omega)]
  refine hstep X i hi w3 q (hst _ _ _ _ _ h1 M3 λb hb=>(hXd b hb).1) (h2.on M3 λb hb=>.inr (by omega)) (by rw[←hd0];exact hXq) (by omega) hql q3 _ _ ?_ ?_
  ·intro X' W' hI' hm hX'
   obtain⟨k1,k2,k3,k4,k5,k6,k7⟩:=hKeep W' X' (.loop {{rec with state:=.busy}with state:=.ready,pending:=none}) hm hX'
   refine⟨_,k7,hT _ ⟨X',?_,k1,k2,k3,?_,k4⟩ k6 k5⟩
   ·refine hst _ _ _ _ _ hI' (hput W' _) λb hb e=>?_
    rcases(hX' b hb).1 with h|h
    ·exact(hXd b h).1 e
    ·omega
   ·rw[heap_putObj,if_pos rfl,k7]
    simp[←hready,←hpend]
  ·intro c X' W' hI' hm hX'
   obtain⟨k1,k2,k3,k4,k5,k6,k7⟩:=hKeep W' X' (.loop {{rec with state:=.busy}with state:=.done,pending:=some c}) hm hX'
   refine⟨_,k7,hF _ ⟨c,X',{rec with state:=.done,pending:=some c},?_,k1,k2,k3,?_,k4,rfl,rfl⟩ k6 k5⟩
   ·refine hsx _ _ _ _ _ hI' (hput W' _) λb hb e=>?_
    rcases(hX' b hb).1 with h|h
    ·exact(hXd b h).1 e
    ·omega
   ·rw[heap_putObj,if_pos rfl,k7]
    rfl
 ·rintro Q W ⟨X,h1,h2,h3,h4,h5,h6⟩
  refine⟨rec,h5,by rw[hready];decide,?_⟩
  rw[←hd0]
  have hm:=hput W (.loop {rec with state:=.exhausted})
  generalize W.putObj (d+1) (.loop {rec with state:=.exhausted})=W8 at hm⊢
  rw[hpend]
  have hXd:∀b,X b→b≠d+1:=λb hb=>by
   rcases(h4 b hb).2.1 with h|h
   ·have:=hX0 b h;omega
   ·omega
  refine hend X _ d hd0 ?_ (h2.on hm λb hb=>.inr (by omega)) (hm.hpk h3 (by omega)) λb hb=>⟨Nat.lt_of_lt_of_le (h4 b hb).1 hm.size,(h4 b hb).2.1⟩
  have hx:I X xs.length W:=by have:=h1;rwa[List.length_map]at this
  exact hst _ _ _ _ _ hx hm λb hb=>hXd b hb
 ·rintro Q W ⟨c,X,r,h1,h2,h3,h4,h5,h6,h7,h8⟩
  refine⟨r,h5,by rw[h7];decide,?_⟩
  rw[←hd0]
  have hm:=hput W (.loop {r with state:=.exhausted})
  generalize W.putObj (d+1) (.loop {r with state:=.exhausted})=W8 at hm⊢
  rw[h8]
  have hXd:∀b,X b→b≠d+1:=λb hb=>by
   rcases(h4 b hb).2.1 with h|h
   ·have:=hX0 b h;omega
   ·omega
  exact hexit c X _ d hd0 (hsx _ _ _ _ _ h1 hm λb hb=>hXd b hb) (h2.on hm λb hb=>.inr (by omega)) (hm.hpk h3 (by omega)) λb hb=>⟨Nat.lt_of_lt_of_le (h4 b hb).1 hm.size,(h4 b hb).2.1⟩
end
theorem retV1{W:World}{d:Nat}{K:World→Prop}(h:hp W d=some (.deferred (some [])))(hK:∀W',Mod (λb=>b=d) W W' →K W'):retD ([d]++[]) W K:=
 retV (by simp) (λx hx=>by rw[List.mem_singleton.1 hx];exact h) λW' m=>hK W' (m.mono λx _ hx=>by simpa using hx)
theorem VarOk.od{xs:List Od}:VarOk tOd odV odC xs:=λa _ W=>by
 obtain⟨w1,e1,b1,m1⟩:=newOd W
 obtain⟨w2,e2,b2,m2⟩:=setOd (o' :=a) b1
 exact⟨w1,w2,e1,e2,b2,m1.on m2 λb hb=>.inr (by omega)⟩
end Go.Proofs
