/- Part of a proof. -/
import Derived.Test.YtgebhcgmckjbbaaGreatB8
set_option linter.all false
namespace Go.Proofs
open Go Go.Vc
attribute [local congr] cr
def cF:Value:=.slice none 0 0
def NX{W:World}{q:Nat}{e t m g sT sG:Value}{f l:Int}(h:hp W q=some (.cells #[e,t,m,g] 235 (0,0)))(i:∃a n c,sT=.slice a n c)(o:∃a n c,sG=.slice a n c):
  ∃d,(Instr.storeAt 235 (.pointer (some ⟨q,0,none⟩)) (.agg (nL sT sG f l))).run Tryz.prog W=.ok () d/\hp d q=some (.cells #[sT,sG,.int .i64 f,.int .i64 l] 235 (0,0))/\cl (λb=>b=q) W d:=by
 obtain⟨p,s,j,rfl⟩:=i;obtain⟨r,u,k,rfl⟩:=o;refine⟨(((W.setCell ⟨q,0,none⟩ (.slice p s j)).setCell ⟨q,1,none⟩ (.slice r u k)).setCell ⟨q,2,none⟩ (.int .i64 f)).setCell ⟨q,3,none⟩ (.int .i64 l),by simp[go_sem,h,nL],by simp[go_sem,h],((((cl.refl (λb=>b=q) W).setCell (.inl rfl) _ _).setCell (.inl rfl) _ _).setCell (.inl rfl) _ _).setCell (.inl rfl) _ _⟩
def MH{W:World}{q:Nat}{sT sG:Value}{f l:Int}(h:hp W q=some (.cells #[sT,sG,.int .i64 f,.int .i64 l] 235 (0,0))):(Instr.loadAt 235 (.pointer (some ⟨q,0,none⟩))).run Tryz.prog W=.ok (.agg (nL sT sG f l)) W:=by
 simp[go_sem,h,nL]
def Om(W:World):(Instr.build 235 #[]).run Tryz.prog W=.ok (.agg (nL cF cF 0 0)) W:=by
 simp[go_sem,nL,cF]
def PC(w:World):∃a,(Instr.alloc 235 true (.tuple #[])).run Tryz.prog w=.ok (.pointer (some ⟨w.heap.size,0,none⟩)) a/\hp a w.heap.size=some (.cells #[cF,cF,.int .i64 0,.int .i64 0] 235 (0,0))/\cl (λ_=>False) w a:=
 ⟨w.alloc (.cells #[cF,cF,.int .i64 0,.int .i64 0] 235),by simp[go_sem,cF],by simp[go_sem],(cl.refl _ w).alloc _⟩
def Lc(w:World):HT w cF cF [] []:=⟨dW.nil _ _ _,dW.nil _ _ _,λx a=>by cases a⟩
def db(B:Bk)(o:Od)(k:Int):Int×Bk×Pm:=
 if¬o.may\/k<1\/4<k then(2,B,⟨[],[],0,0⟩)
 else if(B.find o.num).isSome then(8,B,⟨[],[],0,0⟩)
 else if k=3/\eI (!o.buy) (B !o.buy) o.price o.acct<o.left then(70,B,⟨[],[],0,0⟩)
 else if k=4/\0<eI (!o.buy) (B !o.buy) o.price o.acct then(71,B,⟨[],[],0,0⟩)
 else if(k=1\/k=4)/\eI (!o.buy) (B !o.buy) o.price o.acct<o.left/\100<=(B o.buy).length then(9,B,⟨[],[],0,0⟩)
 else(0,fj B o (decide (k=1\/k=4)))
set_option maxRecDepth 10000 in
set_option maxHeartbeats 1000000 in
def FL{w:World}{K:cm}{b:Nat}{B:Bk}{s:Bool->Nat}{G:Bool->Nat->Prop}{o:Od}{k:Int}(h:ip w b s G B)(hof:o.Fit)(hk:0<=k/\k<256)
  (hK:∀U I J g,ip g b s U (db B o k).2.1->HT g I J (db B o k).2.2.trades (db B o k).2.2.gone->cl (λx=>G true x\/G false x) w g->(∀d x,U d x->G d x\/w.heap.size<=x)->
   (∀x,co I x\/co J x->w.heap.size<=x/\∀d,¬U d x)->K (.tuple #[.agg (nL I J (db B o k).2.2.filled (db B o k).2.2.left),.int .i64 (db B o k).1]) g):Ca Tryz.prog 135 #[eY b,ig o,.int .u8 k] w K:=by
 apply Mg;obtain⟨w1,e1,b1,m1⟩:=qi o w;refine ck e1 ?_;obtain⟨p,R⟩:∃p,p=w.heap.size:=⟨_,rfl⟩
 rw[<-R]at b1|-;obtain⟨w2,e2,b2,m2⟩:=PC w1;refine ck e2 ?_;obtain⟨q,hq0⟩:∃q,q=w1.heap.size:=⟨_,rfl⟩
 rw[<-hq0]at b2|-;have hpq:p<q:=by have:=cn b1;omega
 have c1:=m2.hpk b1 id;have M2:=m1.trans m2;have X:∀{W W' :World},cl (λ_=>False) W W' ->cl (λx=>G true x\/G false x) W W' :=λm=>m.mono λ_ _ h=>h.elim;have t:∀d x,G d x->x<p:=λd x a=>by rw[R];exact h.lt a
 have hbp:b<p:=by rw[R];exact cn h.blk
 have bad:∀(e:Int) (W:World),db B o k=(e,B,⟨[],[],0,0⟩)->cl (λ_=>False) w2 W->
   rv Tryz.prog (Instr.build 235 #[]) W λv25 w26=>ru Tryz.prog (Instr.storeAt 235 (.pointer (some ⟨q,0,none⟩)) v25) w26 λV=>
    sY Tryz.prog (Instr.loadAt 235 (.pointer (some ⟨q,0,none⟩))) V λv28=>K (.tuple #[v28,.int .i64 e]) V:=by
  intro e W T mW;refine ck (Om W) ?_;obtain⟨W2,N,hW2,n⟩:=NX (sT:=cF) (sG:=cF) (f:=0) (l:=0) (mW.hpk b2 id) ⟨_,_,_,rfl⟩ ⟨_,_,_,rfl⟩;refine dI N ?_;refine cx (MH hW2) ?_;have r:=hK G cF cF W2;rw[T]at r;have M:=M2.trans mW;exact r ((h.mod M id λ_ _ _ h=>h).mod n (by omega) λd x a=>by have:=t d x a;omega) (Lc _) ((X M).on n λx a=>.inr (by omega)) (λd x a=>.inl a) λx a=>by rcases a with a|a<;>cases a
 have h2:=h.mod M2 id λ_ _ _ h=>h;refine pE h2.q ?_;refine ck (v:=.bool false) (by simp[go_sem]<;>first|exact⟨rfl,rfl⟩|exact rfl) ?_;rw[ci,if_neg Bool.false_ne_true];refine cB.at (λst W=>st=(.bool (decide (¬o.may\/k<1\/4<k)),())/\cl (λ_=>False) w2 W) ?_ ?_
 ·refine ck (gM (o:=o) (At.all c1)) ?_;refine xb λw3 n=>?_;refine ck (v:=.bool (!o.may)) (w' :=w3) (by simp[go_sem]) ?_;cases hm:o.may with
  |false=>
   rw[ci,if_pos (show(!false)=true from rfl)];exact⟨by simp,n⟩
  |true=>
   rw[ci,if_neg (by simp)];by_cases h1:k<1
   ·refine ck (v:=.bool true) (by simp[go_sem,h1]<;>first|exact⟨rfl,rfl⟩|exact rfl) ?_;rw[ci,if_pos rfl];exact⟨by simp[h1],n⟩
   ·refine ck (v:=.bool false) (by simp[go_sem,h1]<;>first|exact⟨rfl,rfl⟩|exact rfl) ?_;rw[ci,if_neg Bool.false_ne_true];refine ck (v:=.bool (decide (4<k))) (w' :=w3) (by simp[go_sem]) ?_;exact⟨by simp[h1],n⟩
 rintro _ w3 ⟨rfl,n⟩;unfold EP;intro _;by_cases c:¬o.may\/k<1\/4<k
 ·rw[ci,if_pos (by simpa using c)];exact bad 2 w3 (by unfold db;rw[if_pos c]) n
 rw[ci,if_neg (by simpa using c)]
 have Y:o.may=true:=by
  apply Classical.byContradiction;intro z;exact c (.inl z)
 have d1:=n.hpk c1 id;have D:=d1;unfold da at D;refine ck (by simp[-Int.natCast_add,go_sem,D]<;>first|exact⟨rfl,rfl⟩|exact rfl) ?_;refine ck (by simp[-Int.natCast_add,go_sem,D]<;>first|exact⟨rfl,rfl⟩|exact rfl) ?_;have h3:=h2.mod n id λ_ _ _ h=>h;refine CJ h3.blk h3.sd (λhnf C m4=>?_) λfo d hfo _ C m4=>?_
 ·refine ck (v:=ig fI) (w' :=C) (by simp[go_sem]) ?_;refine ck (v:=.pointer none) (w' :=C) (by simp[go_sem]) ?_;obtain⟨w5,e5,b5,m5⟩:=iJ C;refine ck e5 ?_;obtain⟨A,e6,b6,m6⟩:=gm (o' :=fI) b5;refine dI e6 ?_;have P:cl (λ_=>False) C A:=m5.on m6 λb hb=>.inr (by omega);have O:=m4.trans P;have M6:=n.trans O;have f1:=O.hpk D id;have hs6:=M6.size;refine ck (v:=.bool false) (by simp[go_sem]<;>first|exact⟨rfl,rfl⟩|exact rfl) ?_;rw[ci,if_neg Bool.false_ne_true];refine ck (by simp[-Int.natCast_add,go_sem,f1]<;>first|exact⟨rfl,rfl⟩|exact rfl) ?_;refine ck (by simp[-Int.natCast_add,go_sem,f1]<;>first|exact⟨rfl,rfl⟩|exact rfl) ?_;have h6:=h3.mod O id λ_ _ _ h=>h;refine uG (s:=s) h6.blk ?_;have md:cl (λ_=>False) A A.drew:=(cl.refl _ A).drew;have h7:=h6.mod md id λ_ _ _ h=>h;have L:=md.hpk f1 id;have f2o:hp A.drew p=some (.cells (da o).toArray ir (0,0)):=L;have M7:=M6.trans md;generalize A.drew=w7 at h7 L f2o M7|-;refine ck (v:=cT (s o.buy)) (w' :=w7) (by simp[go_sem]) ?_;refine ck (v:=cT (s !o.buy)) (w' :=w7) (by simp[go_sem]) ?_;refine ck (by simp[-Int.natCast_add,go_sem,L]<;>first|exact⟨rfl,rfl⟩|exact rfl) ?_;refine ck (by simp[-Int.natCast_add,go_sem,L]<;>first|exact⟨rfl,rfl⟩|exact rfl) ?_;refine ck (by simp[-Int.natCast_add,go_sem,L]<;>first|exact⟨rfl,rfl⟩|exact rfl) ?_;refine ck (by simp[-Int.natCast_add,go_sem,L]<;>first|exact⟨rfl,rfl⟩|exact rfl) ?_;refine CO (h7.sd (!o.buy)) λi m8=>?_;have h8:=h7.mod m8 id λ_ _ _ h=>h;have f3:=m8.hpk L id;have f3o:hp i p=some (.cells (da o).toArray ir (0,0)):=f3;have Q:=M7.trans m8;obtain⟨j,Z⟩:∃j,j=eI (!o.buy) (B !o.buy) o.price o.acct:=⟨_,rfl⟩
  rw[<-Z]
  have y:db B o k=if k=3/\j<o.left then(70,B,⟨[],[],0,0⟩)else if k=4/\0<j then(71,B,⟨[],[],0,0⟩)else if(k=1\/k=4)/\j<o.left/\100<=(B o.buy).length then(9,B,⟨[],[],0,0⟩)else(0,fj B o (decide (k=1\/k=4))):=by
   unfold db;rw[if_neg c,if_neg (by rw[hnf];simp),<-Z]
  refine cB.at (λst W=>st=(.bool (decide (k=1\/k=4)),())/\W=i) ?_ ?_
  ·by_cases F:k=1
   ·refine ck (v:=.bool true) (by simp[go_sem,F]<;>first|exact⟨rfl,rfl⟩|exact rfl) ?_;rw[ci,if_pos rfl];exact⟨by simp[F],rfl⟩
   ·refine ck (v:=.bool false) (by simp[go_sem,F]<;>first|exact⟨rfl,rfl⟩|exact rfl) ?_;rw[ci,if_neg Bool.false_ne_true];refine ck (v:=.bool (decide (k=4))) (w' :=i) (by simp[go_sem];rw[Bool.eq_iff_iff];simp) ?_;exact⟨by simp[F],rfl⟩
  rintro _ i ⟨rfl,rfl⟩;unfold DB;intro _;refine cB.at (λst W=>st=(.bool (decide (k=3/\j<o.left)),())/\W=i) ?_ ?_
  ·by_cases E:k=3
   ·refine ck (v:=.bool true) (by simp[go_sem,E]<;>first|exact⟨rfl,rfl⟩|exact rfl) ?_;rw[ci,if_pos rfl];refine ck (by simp[-Int.natCast_add,go_sem,f3]<;>first|exact⟨rfl,rfl⟩|exact rfl) ?_;refine ck (by simp[-Int.natCast_add,go_sem,f3]<;>first|exact⟨rfl,rfl⟩|exact rfl) ?_;refine ck (v:=.bool (decide (j<o.left))) (w' :=i) (by simp[go_sem]) ?_;exact⟨by simp[E],rfl⟩
   ·refine ck (v:=.bool false) (by simp[go_sem,E]<;>first|exact⟨rfl,rfl⟩|exact rfl) ?_;rw[ci,if_neg Bool.false_ne_true];exact⟨by simp[E],rfl⟩
  rintro _ i ⟨rfl,rfl⟩;unfold Dy;intro _;by_cases S:k=3/\j<o.left
  ·rw[ci,if_pos (by simpa using S)];exact bad 70 i (by rw[y,if_pos S]) Q
  rw[ci,if_neg (by simpa using S)];refine cB.at (λst W=>st=(.bool (decide (k=4/\0<j)),())/\W=i) ?_ ?_
  ·by_cases H:k=4
   ·refine ck (v:=.bool true) (by simp[go_sem,H]<;>first|exact⟨rfl,rfl⟩|exact rfl) ?_;rw[ci,if_pos rfl];refine ck (v:=.bool (decide (0<j))) (w' :=i) (by simp[go_sem]) ?_;exact⟨by simp[H],rfl⟩
   ·refine ck (v:=.bool false) (by simp[go_sem,H]<;>first|exact⟨rfl,rfl⟩|exact rfl) ?_;rw[ci,if_neg Bool.false_ne_true];exact⟨by simp[H],rfl⟩
  rintro _ i ⟨rfl,rfl⟩;unfold DM;intro _;by_cases u:k=4/\0<j
  ·rw[ci,if_pos (by simpa using u)];exact bad 71 i (by rw[y,if_neg S,if_pos u]) Q
  rw[ci,if_neg (by simpa using u)];refine cB.at (λst W=>st=(.bool (decide ((k=1\/k=4)/\j<o.left/\100<=(B o.buy).length)),())/\W=i) ?_ ?_
  ·by_cases T:k=1\/k=4
   ·rw[ci,if_pos (by simpa using T)];refine ck (by simp[-Int.natCast_add,go_sem,f3]<;>first|exact⟨rfl,rfl⟩|exact rfl) ?_;refine ck (by simp[-Int.natCast_add,go_sem,f3]<;>first|exact⟨rfl,rfl⟩|exact rfl) ?_;by_cases hl:j<o.left
    ·refine ck (v:=.bool true) (by simp[go_sem,hl]<;>first|exact⟨rfl,rfl⟩|exact rfl) ?_;rw[ci,if_pos rfl];refine HM (h8.sd o.buy) ?_;refine ck (v:=.bool (decide ((100:Int)<=((B o.buy).length:Int)))) (w' :=i) (by simp[go_sem]) ?_;refine⟨?_,rfl⟩
     have e:decide ((100:Int)<=((B o.buy).length:Int))=decide ((k=1\/k=4)/\j<o.left/\100<=(B o.buy).length):=by
      rw[decide_eq_decide];exact⟨λh=>⟨T,hl,by omega⟩,λh=>by omega⟩
     rw[e]
    ·refine ck (v:=.bool false) (by simp[go_sem,hl]<;>first|exact⟨rfl,rfl⟩|exact rfl) ?_;rw[ci,if_neg Bool.false_ne_true];refine⟨?_,rfl⟩;rw[decide_eq_false (λz=>hl z.2.1)]
   ·rw[ci,if_neg (by simpa using T)];refine⟨?_,rfl⟩;rw[decide_eq_false (λz=>T z.1)]
  rintro _ i ⟨rfl,rfl⟩;unfold G8;intro _;by_cases z:(k=1\/k=4)/\j<o.left/\100<=(B o.buy).length
  ·rw[ci,if_pos (decide_eq_true z)];exact bad 9 i (by rw[y,if_neg S,if_neg u,if_pos z]) Q
  rw[ci,if_neg (by rw[decide_eq_true_eq];exact z)];rw[if_neg S,if_neg u,if_neg z]at y;refine ck (gM (o:=o) (At.all f3o)) ?_;refine IN h8 hof Y λU I J w9 r9 p9 m9 n9 s9=>?_;obtain⟨ta,tc,hsT,-⟩:=p9.tr.isSl;obtain⟨ga,gc,hsG,-⟩:=p9.go.isSl;have hq8:¬(G true q\/G false q):=λhg=>by rcases hg with hg|hg<;>(have:=t _ q hg;omega)
  have f4:=m9.hpk (Q.hpk b2 id) hq8;have hs8:=Q.size;have hq2:=cn b2;obtain⟨wa,N,ja,ma⟩:=NX (sT:=I) (sG:=J) (f:=(fj B o (decide (k=1\/k=4))).2.filled) (l:=(fj B o (decide (k=1\/k=4))).2.left) f4 ⟨_,_,_,hsT⟩ ⟨_,_,_,hsG⟩;refine dI N ?_;refine cx (MH ja) ?_;have r:=hK U I J wa;rw[y]at r;have hsw:=(M2.trans Q).size;refine r (r9.mod ma (by omega) λd x a=>?_) (p9.mod ma (λx a=>?_) λx a=>?_) (((X (M2.trans Q)).trans m9).on ma λx a=>.inr (by omega)) (λd x a=>?_) λx a=>⟨by have:=(s9 x a).1;omega,(s9 x a).2⟩
  ·rcases n9 d x a with h' |h'
   ·have:=t d x h';omega
   ·omega
  ·have:=(s9 x (.inl a)).1;omega
  ·have:=(s9 x (.inr a)).1;omega
  ·rcases n9 d x a with h' |h'
   ·exact .inl h'
   ·exact .inr (by omega)
 ·refine ck (v:=ig fo) (w' :=C) (by simp[go_sem]) ?_;refine ck (v:=cT (s d)) (w' :=C) (by simp[go_sem]) ?_;obtain⟨w5,e5,b5,m5⟩:=iJ C;refine ck e5 ?_;obtain⟨A,e6,b6,m6⟩:=gm (o' :=fo) b5;refine dI e6 ?_;have P:cl (λ_=>False) C A:=m5.on m6 λb hb=>.inr (by omega);refine ck (v:=.bool true) (w' :=A) (by simp[go_sem,cT]) ?_;rw[ci,if_pos rfl];exact bad 8 A (by unfold db;rw[if_neg c,if_pos (by rw[hfo];rfl)]) ((n.trans m4).trans P)
def vX{w:World}{K:cm}{b:Nat}{F:Nat->Prop}{B:Bk}(h:eU w b F B)
  (A:∀o q e,eU e o q B->cl (λ_=>False) w e->(∀x,q x->w.heap.size<=x)->K (eY o) e):Ca Tryz.prog 110 #[eY b] w K:=by
 apply PT;refine pE h ?_;obtain⟨s,G,E,-⟩:=h.r;refine ck (v:=.bool false) (by simp[go_sem]<;>first|exact⟨rfl,rfl⟩|exact rfl) ?_;rw[ci,if_neg Bool.false_ne_true];have md:cl (λ_=>False) w w.drew:=(cl.refl _ w).drew;have j:=E.mod md id λ_ _ _ h=>h;have n:=j.blk;simp only[eY,cw];refine cq (λ_=>by simp[-Int.natCast_add,go_sem]<;>first|exact⟨rfl,rfl⟩|exact rfl) ?_;refine cx (v:=cT (s true)) (by simp[go_sem,n]) ?_;refine cq (λ_=>by simp[-Int.natCast_add,go_sem]<;>first|exact⟨rfl,rfl⟩|exact rfl) ?_;refine cx (v:=cT (s false)) (by simp[go_sem,n]) ?_;refine xF (j.sd true) λg r J m i I=>?_;have C:=i.hpk n id;refine⟨by simp[go_sem,C],?_⟩;have h1:=j.mod i id λ_ _ _ h=>h;refine xF (h1.sd false) λf p a u k t=>?_;refine cq (v:=.agg #[cT g,cT f]) (λ_=>by simp[go_sem,cT]) ?_;have l:cl (λ_=>False) a (a.alloc (.cells #[cT g,cT f] 231)):=(cl.refl _ a).alloc _;refine ck (v:=eY a.heap.size) (w' :=a.alloc (.cells #[cT g,cT f] 231)) rfl ?_;have z:=md.size;have D:=i.size;have H:=k.size;refine A a.heap.size (λx=>x=a.heap.size\/r x\/p x) _ ⟨λd=>if d then g else f,λd=>if d then r else p,by simp[go_sem],λd=>?_,λx=>Iff.rfl,λd=>?_,λx h1 y=>?_⟩ (((md.trans i).trans k).trans l) λx c=>?_
 ·cases d
  ·exact u.mod l λ_ _ h=>h
  ·exact(m.mod k λ_ _ h=>h).mod l λ_ _ h=>h
 ·cases d
  ·intro h;have:=u.lt h;omega
  ·intro h;have:=m.lt h;omega
 ·have L:=m.lt h1;have M:=t x y;omega
 ·rcases c with rfl|c|c
  ·omega
  ·have:=I x c;omega
  ·have:=t x c;omega
structure GM(P:Program)(gv:Value)(xs:List (List Value))(Ok:World->Prop):Prop where
 out:∃f first captured,gv=.func (.func f) first captured/\∀(yl:Nat) (J:(Nat->Prop)->Nat->World->Prop) (Js:(Nat->Prop)->World->Prop) (W:World) (K:cm),Ok W->
  (∀Q W1,cl (λ_=>False) W W1->(∀b,Q b->W.heap.size<=b/\b<W1.heap.size)->J Q 0 W1)->
  (∀Q Q' i W W',J Q i W->cl Q W W' ->(∀b,Q' b->(Q b\/W.heap.size<=b)/\b<W'.heap.size)->J Q' i W')->
  (∀Q Q' W W',Js Q W->cl Q W W' ->(∀b,Q' b->(Q b\/W.heap.size<=b)/\b<W'.heap.size)->Js Q' W')->
  (∀Q i x W,xs[i]? =some x->J Q i W->∀K' :cm,(∀W',J Q (i+1) W' ->W.heap.size<=W'.heap.size->(∀b,Q b->W'.heap[b]? =W.heap[b]?)->K' (.bool true) W')->(∀W',Js Q W' ->W.heap.size<=W'.heap.size->(∀b,Q b->W'.heap[b]? =W.heap[b]?)->K' (.bool false) W')->dX P (.func (.yield yl) #[] #[]) x W K')->
  (∀Q W,J Q xs.length W->K (.tuple #[]) W)->(∀Q W,Js Q W->K (.tuple #[]) W)->Ca P f ⟨first.toList++((.func (.yield yl) #[] #[])::captured.toList)⟩ W K
def E4{P:Program}{gv:Value}{xs:List (List Value)}{Ok:World->Prop}(h:tO P gv xs Ok):GM P gv xs Ok:=by
 obtain⟨f,first,n,e,A⟩:=h.out;refine⟨f,first,n,e,λE J C W K r t k p g j q=>?_⟩;refine A _ (λQ i W=>J Q i W/\∀b,Q b->b<W.heap.size) (λW=>∃Q,C Q W) W K r (λQ y l c=>⟨t Q y l c,λb a=>(c b a).2⟩) ?_ ?_ (λQ W h=>j Q W h.1) λW ⟨Q,h⟩=>q Q W h
 ·rintro Q i W m ⟨o,c⟩ l;exact⟨k Q Q i W m o (l.mono λ_ _ h=>h.elim) λb a=>⟨.inl a,Nat.lt_of_lt_of_le (c b a) l.size⟩,λb a=>Nat.lt_of_lt_of_le (c b a) l.size⟩
 ·rintro Q i x W B ⟨o,c⟩ D v z;refine g Q i x W B o D (λm d s u=>v m ⟨d,λb a=>?_⟩ u) λm d s _=>z m ⟨Q,d⟩;exact Nat.lt_of_lt_of_le (c b a) s
structure jC(gv:Value)(xs:List (List Value))(w:World):Prop where
 out:∃Ok,GM Tryz.prog gv xs Ok/\∀W,cl (λ_=>False) w W->Ok W
 fn:∃f cap,gv=.func (.func f) #[] cap
def ye.m{gv:Value}{xs:List (List Value)}{w:World}(h:ye gv xs w):jC gv xs w:=by
 obtain⟨⟨Ok,h1,a⟩,b⟩:=h;exact⟨⟨Ok,E4 h1,a⟩,b⟩
def jC.mod{gv:Value}{xs:List (List Value)}{w w' :World}(h:jC gv xs w)(a:cl (λ_=>False) w w'):jC gv xs w' :=by
 obtain⟨⟨Ok,h1,b⟩,c⟩:=h;exact⟨⟨Ok,h1,λW m=>b W (a.trans m)⟩,c⟩
def lM(T:TypeId){α:Type}(fv:α->Value)(fc:α->List Value)(xs:List α):Prop:=
 ∀a∈xs,∀W:World,∃w1 w2,(Instr.alloc T true (.tuple #[])).run Tryz.prog W=.ok (.pointer (some ⟨W.heap.size,0,none⟩)) w1/\(Instr.storeAt T (.pointer (some ⟨W.heap.size,0,none⟩)) (fv a)).run Tryz.prog w1=.ok () w2/\
  hp w2 W.heap.size=some (.cells (fc a).toArray T (0,0))/\cl (λ_=>False) W w2
section
variable{w:World}{gv:Value}{α:Type}{xs:List α}{T:TypeId}{fv:α->Value}{fc:α->List Value}{body:Value->World->(World->Prop)->(Code->World->Prop)->Prop}{after:List Nat->Option Code->World->Prop}{X0:Nat->Prop}
def Hv(ht:jC gv (xs.map λa=>[fv a]) w)(hv:lM T fv fc xs)
  (I:(Nat->Prop)->Nat->World->Prop)(Ex:Code->(Nat->Prop)->World->Prop)
  (D:∀X i W m H,I X i W->cl H W m->(∀b,X b->¬H b)->I X i m)
  (hsx:∀c X W m H,Ex c X W->cl H W m->(∀b,X b->¬H b)->Ex c X m)
  (O:∀b,X0 b->b<w.heap.size)(h0:I X0 0 w)
  (V:∀X i (hi:i<xs.length) W q,I X i W->cl X0 w W->(∀b,X b->b<q/\(X0 b\/w.heap.size+1<b))->w.heap.size+1<q->q<W.heap.size->hp W q=some (.cells (fc xs[i]).toArray T (0,0))->∀KN KJ,
   (∀y m,I y (i+1) m->cl X W m->(∀b,y b->(X b\/W.heap.size<=b)/\b<m.heap.size)->KN m)->
   (∀c y m,Ex c y m->cl X W m->(∀b,y b->(X b\/W.heap.size<=b)/\b<m.heap.size)->KJ c m)->body (.pointer (some ⟨q,0,none⟩)) W KN KJ)
  (hend:∀X W d,d=w.heap.size->I X xs.length W->cl X0 w W->hp W d=some (.deferred (some []))->(∀b,X b->b<W.heap.size/\(X0 b\/d+1<b))->after [d] none W)
  (Z:∀c X W d,d=w.heap.size->Ex c X W->cl X0 w W->hp W d=some (.deferred (some []))->(∀b,X b->b<W.heap.size/\(X0 b\/d+1<b))->after [d] (some c) W):
  xy Tryz.prog none gv w 1 (λl x W KN KJ=>rv Tryz.prog (Instr.alloc T true (.tuple #[])) W λv w1=>ru Tryz.prog (Instr.storeAt T v (x.getD 0 undef)) w1 λw2=>iF l w2 λw3=>body v w3 KN KJ) after:=by
 obtain⟨⟨Ok,hit,hok⟩,-⟩:=ht;obtain⟨f,first,captured,rfl,hit0⟩:=hit.out;refine mi.2 ?_;show∀k:Loop,_;intro k s K hD hY;obtain⟨d,z⟩:∃d,d=w.heap.size:=⟨_,rfl⟩
 have U:(w.alloc (.deferred (some []))).heap.size=d+1:=by rw[World.size_alloc,z]
 obtain⟨wr,F⟩:∃wr,wr=(w.alloc (.deferred (some []))).alloc (.loop k):=⟨_,rfl⟩
 have S:wr.heap[d+1]? =some (.loop k):=by rw[F,cY,if_pos U.symm]
 have hszr:wr.heap.size=d+2:=by rw[F,World.size_alloc,U]
 have Y:hp wr d=some (.deferred (some [])):=by rw[F];simp[go_sem,z]
 have hmr:cl (λ_=>False) w wr:=by rw[F];exact((cl.refl _ w).alloc _).alloc _
 have p:∀(W:World) (o:Obj),cl (λb=>b=d+1) W (W.putObj (d+1) o):=λW o=>(cl.refl (λb=>b=d+1) W).putObj (b:=d+1) (.inl rfl) o;rw[U]at hY|-;rw[<-F];let J:(Nat->Prop)->Nat->World->Prop:=λQ i W=>∃X,I X i W/\cl X0 w W/\hp W d=some (.deferred (some []))/\(∀b,X b->b<W.heap.size/\(X0 b\/d+1<b)/\¬Q b)/\W.heap[d+1]? =some (.loop k)/\∀b,Q b->d+1<b/\b<W.heap.size;let Js:(Nat->Prop)->World->Prop:=λQ W=>∃c X r,Ex c X W/\cl X0 w W/\hp W d=some (.deferred (some []))/\(∀b,X b->b<W.heap.size/\(X0 b\/d+1<b)/\¬Q b)/\W.heap[d+1]? =some (.loop r)/\(∀b,Q b->d+1<b/\b<W.heap.size)/\r.state=.done/\r.pending=some c;refine hit0 _ J Js _ _ (hok _ hmr) ?_ ?_ ?_ ?_ ?_ ?_
 ·intro Q W1 j hQ;refine⟨X0,D _ _ _ _ _ h0 (hmr.trans j) λ_ _ h=>h,(hmr.trans j).mono λ_ _ h=>h.elim,j.hpk Y id,λb g=>?_,j.keep S id,λb g=>?_⟩
  ·have h1:=O b g;have G:=j.size;exact⟨by omega,.inl g,λR=>by have:=(hQ b R).1;omega⟩
  ·have:=hQ b g;omega
 ·rintro Q Q' i W m ⟨X,h1,G,M,n,C,B⟩ j L;have hl:=cn C;refine⟨X,D _ _ _ _ _ h1 j λb g=>(n b g).2.2,G.on j λb g=>.inr (by have:=B b g;omega),j.hpk M λg=>by have:=B _ g;omega,λb g=>?_,j.keep C λg=>by have:=B _ g;omega,λb g=>?_⟩
  ·have u:=n b g;refine⟨Nat.lt_of_lt_of_le u.1 j.size,u.2.1,λR=>?_⟩;rcases(L b R).1 with h|h
   ·exact u.2.2 h
   ·have:=u.1;omega
  ·have u:=L b g;refine⟨?_,u.2⟩;rcases u.1 with h|h
   ·exact(B b h).1
   ·omega
 ·rintro Q Q' W m ⟨c,X,r,h1,G,M,n,C,B,h7⟩ j L;have hl:=cn C;refine⟨c,X,r,hsx _ _ _ _ _ h1 j λb g=>(n b g).2.2,G.on j λb g=>.inr (by have:=B b g;omega),j.hpk M λg=>by have:=B _ g;omega,λb g=>?_,j.keep C λg=>by have:=B _ g;omega,λb g=>?_,h7⟩
  ·have u:=n b g;refine⟨Nat.lt_of_lt_of_le u.1 j.size,u.2.1,λR=>?_⟩;rcases(L b R).1 with h|h
   ·exact u.2.2 h
   ·have:=u.1;omega
  ·have u:=L b g;refine⟨?_,u.2⟩;rcases u.1 with h|h
   ·exact(B b h).1
   ·omega
 ·rintro Q i x W N ⟨X,h1,G,M,n,C,B⟩ K' hT hF;refine iI.2 ?_;show Yl Tryz.prog (d+1) ⟨_⟩ W K';have e1:(#[]:Array Value).toList++x=x:=rfl;rw[e1]
  obtain⟨hi,rfl⟩:∃hi:i<xs.length,x=[fv xs[i]]:=by
   rw[List.getElem?_map]at N;cases hh:xs[i]? with
   |none=>rw[hh]at N;cases N
   |some o=>
    obtain⟨hj,he⟩:=List.getElem?_eq_some_iff.1 hh;rw[hh]at N;exact⟨hj,by rw[he];exact(Option.some.inj N).symm⟩
  refine hY _ W K' rfl ⟨k.state,k.pending,C⟩ ?_;obtain⟨w1,w2,v1,v2,v3,v4⟩:=hv xs[i] (List.getElem_mem hi) W;obtain⟨q,hq0⟩:∃q,q=W.heap.size:=⟨_,rfl⟩
  rw[<-hq0]at v1 v2 v3;refine ck v1 ?_;show ru Tryz.prog (Instr.storeAt T (.pointer (some ⟨q,0,none⟩)) (fv xs[i])) w1 _;refine dI v2 ?_;have r2:w2.heap[d+1]? =some (.loop k):=v4.keep C id;refine lO r2 s ?_;have m3:=p w2 (.loop {k with state:=.busy});have r3:(w2.putObj (d+1) (.loop {k with state:=.busy})).heap[d+1]? =some (.loop {k with state:=.busy}):=by rw[dc,if_pos rfl,r2];rfl
  generalize w2.putObj (d+1) (.loop {k with state:=.busy})=w3 at m3 r3|-;have hdl:d+1<q:=by rw[hq0];exact cn C
  have q3:=m3.hpk v3 (by omega);have hql:=cn q3;have hw3:=m3.size;have hw4:=v4.size;have M3:cl (λb=>b=d+1) W w3:=(v4.mono λ_ _ h=>h.elim).trans m3;have hXq:∀b,X b->b<q/\(X0 b\/d+1<b):=λb g=>⟨by have:=(n b g).1;omega,(n b g).2.1⟩
  have t:∀b,X b->b≠d+1/\b≠d:=λb g=>by
   rcases(n b g).2.1 with h|h
   ·have:=O b h;omega
   ·omega
  have E:∀(m:World) (y:Nat->Prop) (o:Obj),cl X w3 m->(∀b,y b->(X b\/w3.heap.size<=b)/\b<m.heap.size)->
    cl X0 w (m.putObj (d+1) o)/\hp (m.putObj (d+1) o) d=some (.deferred (some []))/\(∀b,y b->b<(m.putObj (d+1) o).heap.size/\(X0 b\/d+1<b)/\¬Q b)/\(∀b,Q b->d+1<b/\b<(m.putObj (d+1) o).heap.size)/\
    (∀b,Q b->(m.putObj (d+1) o).heap[b]? =W.heap[b]?)/\W.heap.size<=(m.putObj (d+1) o).heap.size/\m.heap[d+1]? =some (.loop {k with state:=.busy}):=by
   intro m y o j A;have P:=p m o;have hsW:=j.size;have hsP:=P.size;refine⟨?_,P.hpk (j.hpk (m3.hpk (v4.hpk M id) (by omega)) λg=>(t _ g).2 rfl) (by omega),λb g=>?_,λb g=>?_,λb g=>?_,by omega,j.keep r3 λg=>(t _ g).1 rfl⟩
   ·refine(((G.on M3 λb g=>.inr (by omega)).on j λb g=>?_)).on P λb g=>.inr (by omega);rcases(n b g).2.1 with h|h
    ·exact .inl h
    ·exact .inr (by omega)
   ·have u:=A b g;refine⟨by omega,?_,λR=>?_⟩
    ·rcases u.1 with h|h
     ·exact(n b h).2.1
     ·exact .inr (by omega)
    ·rcases u.1 with h|h
     ·exact(n b h).2.2 R
     ·have:=(B b R).2;omega
   ·have:=B b g;omega
   ·have hb' :=B b g;rw[P.blk b (by omega) (by omega),j.blk b (by omega) λN=>(n b N).2.2 g,M3.blk b hb'.2 (by omega)]
  refine V X i hi w3 q (D _ _ _ _ _ h1 M3 λb g=>(t b g).1) (G.on M3 λb g=>.inr (by omega)) (by rw[<-z];exact hXq) (by omega) hql q3 _ _ ?_ ?_
  ·intro y m hI' j A;obtain⟨k1,k2,k3,k4,k5,k6,k7⟩:=E m y (.loop {{k with state:=.busy}with state:=.ready,pending:=none}) j A;refine⟨_,k7,hT _ ⟨y,?_,k1,k2,k3,?_,k4⟩ k6 k5⟩
   ·refine D _ _ _ _ _ hI' (p m _) λb g e=>?_;rcases(A b g).1 with h|h
    ·exact(t b h).1 e
    ·omega
   ·rw[dc,if_pos rfl,k7];simp[<-s,<-K]
  ·intro c y m hI' j A;obtain⟨k1,k2,k3,k4,k5,k6,k7⟩:=E m y (.loop {{k with state:=.busy}with state:=.done,pending:=some c}) j A;refine⟨_,k7,hF _ ⟨c,y,{k with state:=.done,pending:=some c},?_,k1,k2,k3,?_,k4,rfl,rfl⟩ k6 k5⟩
   ·refine hsx _ _ _ _ _ hI' (p m _) λb g e=>?_;rcases(A b g).1 with h|h
    ·exact(t b h).1 e
    ·omega
   ·rw[dc,if_pos rfl,k7];rfl
 ·rintro Q W ⟨X,h1,G,M,n,C,B⟩;refine⟨k,C,by rw[s];decide,?_⟩;rw[<-z];have j:=p W (.loop {k with state:=.exhausted});generalize W.putObj (d+1) (.loop {k with state:=.exhausted})=W8 at j|-;rw[K]
  have t:∀b,X b->b≠d+1:=λb g=>by
   rcases(n b g).2.1 with h|h
   ·have:=O b h;omega
   ·omega
  refine hend X _ d z ?_ (G.on j λb g=>.inr (by omega)) (j.hpk M (by omega)) λb g=>⟨Nat.lt_of_lt_of_le (n b g).1 j.size,(n b g).2.1⟩
  have N:I X xs.length W:=by have:=h1;rwa[List.length_map]at this
  exact D _ _ _ _ _ N j λb g=>t b g
 ·rintro Q W ⟨c,X,r,h1,G,M,n,C,B,h7,h8⟩;refine⟨r,C,by rw[h7];decide,?_⟩;rw[<-z];have j:=p W (.loop {r with state:=.exhausted});generalize W.putObj (d+1) (.loop {r with state:=.exhausted})=W8 at j|-;rw[h8]
  have t:∀b,X b->b≠d+1:=λb g=>by
   rcases(n b g).2.1 with h|h
   ·have:=O b h;omega
   ·omega
  exact Z c X _ d z (hsx _ _ _ _ _ h1 j λb g=>t b g) (G.on j λb g=>.inr (by omega)) (j.hpk M (by omega)) λb g=>⟨Nat.lt_of_lt_of_le (n b g).1 j.size,(n b g).2.1⟩
end
def vP{W:World}{d:Nat}{K:World->Prop}(h:hp W d=some (.deferred (some [])))(e:∀a,cl (λb=>b=d) W a->K a):jF ([d]++[]) W K:=
 Il (by simp) (λx c=>by rw[List.mem_singleton.1 c];exact h) λa m=>e a (m.mono λx _ c=>by simpa using c)
def lM.od{xs:List Od}:lM ir ig da xs:=λa _ W=>by
 obtain⟨c,e,d,h⟩:=iJ W;obtain⟨i,j,g,f⟩:=gm (o' :=a) d;exact⟨c,i,e,j,g,h.on f λb k=>.inr (by omega)⟩
def IG{w:World}{gv:Value}{α:Type}{xs:List α}{XS:List (List Value)}{T TF:TypeId}{fv:α->Value}{fc:α->List Value}{z:List Nat->Option Code->World->Prop}{Q0:Nat->Prop}{yl n0 k:Nat}
  {J:(Nat->Prop)->Nat->World->Prop}{Js:(Nat->Prop)->World->Prop}
  (ht:jC gv (xs.map λa=>[fv a]) w)(hv:lM T fv fc xs)
  (hld:∀a∈xs,∀(W:World) q,hp W q=some (.cells (fc a).toArray T (0,0))->(Instr.loadAt T (.pointer (some ⟨q,0,none⟩))).run Tryz.prog W=.ok (fv a) W)
  (u:∀Q t i W e,J Q i W->cl Q W e->(∀b,t b->(Q b\/W.heap.size<=b)/\b<e.heap.size)->J t i e)
  (A:∀Q t W e,Js Q W->cl Q W e->(∀b,t b->(Q b\/W.heap.size<=b)/\b<e.heap.size)->Js t e)
  (Y:∀Q i x W,XS[i]? =some x->J Q i W->∀K' :cm,(∀e,J Q (i+1) e->W.heap.size<=e.heap.size->(∀b,Q b->e.heap[b]? =W.heap[b]?)->K' (.bool true) e)->(∀e,Js Q e->W.heap.size<=e.heap.size->(∀b,Q b->e.heap[b]? =W.heap[b]?)->K' (.bool false) e)->dX Tryz.prog (.func (.yield yl) #[] #[]) x W K')
  (hxs:∀i (hi:i<xs.length),XS[k+i]? =some [fv xs[i]])
  (hy:hp w n0=some (.cells #[.func (.yield yl) #[] #[]] TF (0,0)))(hyl:∀W,hp W n0=some (.cells #[.func (.yield yl) #[] #[]] TF (0,0))->(Instr.loadAt TF (.pointer (some ⟨n0,0,none⟩))).run Tryz.prog W=.ok (.func (.yield yl) #[] #[]) W)
  (hn0:Q0 n0)(N:∀b,Q0 b->b<w.heap.size)(hJ0:J Q0 k w)
  (hend:∀Q W d,d=w.heap.size->J Q (k+xs.length) W->(∀b,Q0 b->Q b)->Q d->(∀b,Q b->b<W.heap.size)->(∀b,Q b->Q0 b\/w.heap.size<=b)->(∀b,Q0 b->W.heap[b]? =w.heap[b]?)->hp W d=some (.deferred (some []))->z [d] none W)
  (hexit:∀Q W d,d=w.heap.size->Js Q W->(∀b,Q0 b->Q b)->Q d->(∀b,Q b->b<W.heap.size)->(∀b,Q b->Q0 b\/w.heap.size<=b)->(∀b,Q0 b->W.heap[b]? =w.heap[b]?)->hp W d=some (.deferred (some []))->z [d] (some .ret) W):
  xy Tryz.prog none gv w 1 (λl x W KN KJ=>rv Tryz.prog (Instr.alloc T true (.tuple #[])) W λv w1=>ru Tryz.prog (Instr.storeAt T v (x.getD 0 undef)) w1 λw2=>iF l w2 λw3=>
   rv Tryz.prog (Instr.loadAt TF (.pointer (some ⟨n0,0,none⟩))) w3 λv41 w42=>rv Tryz.prog (Instr.loadAt T v) w42 λv43 w44=>dX Tryz.prog v41 [v43] w44 λv45 w46=>rv Tryz.prog (Op.unary .not v45) w46 λv47 w48=>cz v47 (KJ .ret w48) (KN w48)) z:=by
 obtain⟨⟨Ok,hit,hok⟩,-⟩:=ht;obtain⟨f,first,captured,rfl,hit0⟩:=hit.out;refine mi.2 ?_;show∀g:Loop,_;intro g n K hD hY;obtain⟨d,E⟩:∃d,d=w.heap.size:=⟨_,rfl⟩
 have V:(w.alloc (.deferred (some []))).heap.size=d+1:=by rw[World.size_alloc,E]
 obtain⟨wr,I⟩:∃wr,wr=(w.alloc (.deferred (some []))).alloc (.loop g):=⟨_,rfl⟩
 have R:wr.heap[d+1]? =some (.loop g):=by rw[I,cY,if_pos V.symm]
 have hszr:wr.heap.size=d+2:=by rw[I,World.size_alloc,V]
 have hdef0:hp wr d=some (.deferred (some [])):=by rw[I];simp[go_sem,E]
 have hmr:cl (λ_=>False) w wr:=by rw[I];exact((cl.refl _ w).alloc _).alloc _
 have m:∀(W:World) (o:Obj),cl (λb=>b=d+1) W (W.putObj (d+1) o):=λW o=>(cl.refl (λb=>b=d+1) W).putObj (b:=d+1) (.inl rfl) o;rw[V]at hY|-;rw[<-I];let U:(Nat->Prop)->Nat->Prop:=λQ b=>Q0 b\/b=d\/b=d+1\/Q b;let S:(Nat->Prop)->World->Prop:=λQ W=>hp W d=some (.deferred (some []))/\(∀b,Q b->d+1<b/\b<W.heap.size)/\∀b,Q0 b->W.heap[b]? =w.heap[b]?
 have hS:∀(Q t H:Nat->Prop) (W e:World),S Q W->d+2<=W.heap.size->cl H W e->(∀b,H b->Q b\/b=d+1)->(∀b,t b->(Q b\/W.heap.size<=b)/\b<e.heap.size)->S t e:=by
  rintro Q t H W e ⟨s1,s2,s3⟩ hl j hH C;refine⟨j.hpk s1 λc=>?_,λb c=>?_,λb c=>?_⟩
  ·rcases hH _ c with h|h
   ·have:=s2 _ h;omega
   ·omega
  ·have P:=C b c;rcases P.1 with h|h
   ·exact⟨(s2 b h).1,P.2⟩
   ·exact⟨by omega,P.2⟩
  ·have hbl:=N b c;rw[j.blk b (by omega) λX=>?_,s3 b c];rcases hH _ X with h|h
   ·have:=s2 _ h;omega
   ·omega
 have L:∀(Q t:Nat->Prop) (W e:World),d+2<=W.heap.size->W.heap.size<=e.heap.size->(∀b,t b->(Q b\/W.heap.size<=b)/\b<e.heap.size)->∀b,U t b->(U Q b\/W.heap.size<=b)/\b<e.heap.size:=by
  rintro Q t W e h1 p s b (h|h|h|h)
  ·have:=N b h;exact⟨.inl (.inl h),by omega⟩
  ·exact⟨.inl (.inr (.inl h)),by omega⟩
  ·exact⟨.inl (.inr (.inr (.inl h))),by omega⟩
  ·have P:=s b h;exact⟨P.1.imp (λh=>.inr (.inr (.inr h))) id,P.2⟩
 have B:∀{H Q:Nat->Prop} {W e:World},cl H W e->(∀b,H b->Q b\/b=d+1)->cl (U Q) W e:=λj hH=>j.mono λb _ c=>by
  rcases hH b c with h|h
  ·exact .inr (.inr (.inr h))
  ·exact .inr (.inr (.inl h))
 refine hit0 _ (λQ i W=>J (U Q) (k+i) W/\S Q W/\W.heap[d+1]? =some (.loop g))
  (λQ W=>∃r,Js (U Q) W/\S Q W/\W.heap[d+1]? =some (.loop r)/\r.state=.done/\r.pending=some .ret) _ _ (hok _ hmr) ?_ ?_ ?_ ?_ ?_ ?_
 ·intro Q W1 j hQ;have hs1:=j.size;refine⟨u _ _ _ _ _ hJ0 ((hmr.trans j).mono λ_ _ h=>h.elim) ?_,⟨j.hpk hdef0 id,λb c=>by have:=hQ b c;omega,λb c=>?_⟩,j.keep R id⟩
  ·rintro b (h|h|h|h)
   ·have:=N b h;exact⟨.inl h,by omega⟩
   ·exact⟨.inr (by omega),by omega⟩
   ·exact⟨.inr (by omega),by omega⟩
   ·have:=hQ b h;exact⟨.inr (by omega),by omega⟩
  ·exact(hmr.trans j).blk b (N b c) id
 ·rintro Q t i W e ⟨h1,p,s⟩ j C;have hl:=cn s;exact⟨u _ _ _ _ _ h1 (B j λb c=>.inl c) (L Q t W e (by omega) j.size C),hS _ _ _ _ _ p (by omega) j (λb c=>.inl c) C,j.keep s λc=>by have:=p.2.1 _ c;omega⟩
 ·rintro Q t W e ⟨r,h1,p,s,h4⟩ j C;have hl:=cn s;exact⟨r,A _ _ _ _ h1 (B j λb c=>.inl c) (L Q t W e (by omega) j.size C),hS _ _ _ _ _ p (by omega) j (λb c=>.inl c) C,j.keep s λc=>by have:=p.2.1 _ c;omega,h4⟩
 ·rintro Q i x W X ⟨h1,p,s⟩ K' hT hF;refine iI.2 ?_;show Yl Tryz.prog (d+1) ⟨_⟩ W K';have e1:(#[]:Array Value).toList++x=x:=rfl;rw[e1]
  obtain⟨hi,rfl⟩:∃hi:i<xs.length,x=[fv xs[i]]:=by
   rw[List.getElem?_map]at X;cases hh:xs[i]? with
   |none=>rw[hh]at X;cases X
   |some o=>
    obtain⟨hj,he⟩:=List.getElem?_eq_some_iff.1 hh;rw[hh]at X;exact⟨hj,by rw[he];exact(Option.some.inj X).symm⟩
  refine hY _ W K' rfl ⟨g.state,g.pending,s⟩ ?_;obtain⟨w1,w2,v1,v2,v3,v4⟩:=hv xs[i] (List.getElem_mem hi) W;obtain⟨q,hq0⟩:∃q,q=W.heap.size:=⟨_,rfl⟩
  rw[<-hq0]at v1 v2 v3;refine ck v1 ?_;show ru Tryz.prog (Instr.storeAt T (.pointer (some ⟨q,0,none⟩)) (fv xs[i])) w1 _;refine dI v2 ?_;have r2:w2.heap[d+1]? =some (.loop g):=v4.keep s id;refine lO r2 n ?_;have m3:=m w2 (.loop {g with state:=.busy});have r3:(w2.putObj (d+1) (.loop {g with state:=.busy})).heap[d+1]? =some (.loop {g with state:=.busy}):=by rw[dc,if_pos rfl,r2];rfl
  generalize w2.putObj (d+1) (.loop {g with state:=.busy})=w3 at m3 r3|-;have hdl:d+1<q:=by rw[hq0];exact cn s
  have q3:=m3.hpk v3 (by omega);have hs3:=m3.size;have hs4:=v4.size;have M3:cl (λb=>b=d+1) W w3:=(v4.mono λ_ _ h=>h.elim).trans m3;have hQs:∀(e:World),W.heap.size<=e.heap.size->∀b,Q b->(Q b\/W.heap.size<=b)/\b<e.heap.size:=λe hs b c=>⟨.inl c,by have:=p.2.1 b c;omega⟩
  have hJ3:=u _ _ _ _ _ h1 (B (Q:=Q) M3 λb c=>.inr c) (L Q Q W w3 (by omega) M3.size (hQs _ M3.size));have G:=hS _ _ _ _ _ p (by omega) M3 (λb c=>.inr c) (hQs _ M3.size);refine ck (hyl _ ?_) ?_
  ·have:=G.2.2 n0 hn0;unfold hp;rw[this];exact hy
  refine ck (hld xs[i] (List.getElem_mem hi) _ _ q3) ?_
  have O:∀(e:World) (o:Obj),w3.heap.size<=e.heap.size->(∀b,U Q b->e.heap[b]? =w3.heap[b]?)->
    e.heap[d+1]? =some (.loop {g with state:=.busy})/\S Q (e.putObj (d+1) o)/\(∀b,Q b->(e.putObj (d+1) o).heap[b]? =W.heap[b]?)/\W.heap.size<=(e.putObj (d+1) o).heap.size:=by
   intro e o hs y;have hp1:=m e o;have hsp:=hp1.size;have hs' :S Q e:=⟨by unfold hp;rw[y d (.inr (.inl rfl))];exact G.1,λb c=>by have:=G.2.1 b c;omega,λb c=>by rw[y b (.inl c)];exact G.2.2 b c⟩
   refine⟨by rw[y _ (.inr (.inr (.inl rfl)))];exact r3,hS _ _ _ _ _ hs' (by omega) hp1 (λb c=>.inr c) λb c=>⟨.inl c,by have:=G.2.1 b c;omega⟩,λb c=>?_,by omega⟩;have P:=p.2.1 b c;rw[hp1.blk b (by omega) (by omega),y b (.inr (.inr (.inr c))),M3.blk b P.2 (by omega)]
  refine Y _ _ _ _ (hxs i hi) hJ3 _ (λe Z hs y=>?_) λe Z hs y=>?_
  ·refine ck (v:=.bool false) (w' :=e) (by simp[go_sem]) ?_;rw[ci,if_neg Bool.false_ne_true];obtain⟨k1,k2,k3,k4⟩:=O e (.loop {{g with state:=.busy}with state:=.ready,pending:=none}) hs y;refine⟨_,k1,hT _ ⟨?_,k2,?_⟩ k4 k3⟩
   ·exact u _ _ _ _ _ Z (B (Q:=Q) (m e _) λb c=>.inr c) (L Q Q e _ (by omega) (m e _).size λb c=>⟨.inl c,(k2.2.1 b c).2⟩)
   ·rw[dc,if_pos rfl,k1];simp[<-n,<-K]
  ·refine ck (v:=.bool true) (w' :=e) (by simp[go_sem]) ?_;rw[ci,if_pos rfl];obtain⟨k1,k2,k3,k4⟩:=O e (.loop {{g with state:=.busy}with state:=.done,pending:=some .ret}) hs y;refine⟨_,k1,hF _ ⟨{g with state:=.done,pending:=some .ret},?_,k2,?_,rfl,rfl⟩ k4 k3⟩
   ·exact A _ _ _ _ Z (B (Q:=Q) (m e _) λb c=>.inr c) (L Q Q e _ (by omega) (m e _).size λb c=>⟨.inl c,(k2.2.1 b c).2⟩)
   ·rw[dc,if_pos rfl,k1];rfl
 ·rintro Q W ⟨h1,p,s⟩;refine⟨g,s,by rw[n];decide,?_⟩;rw[<-E];have hl:=cn s;have j:=m W (.loop {g with state:=.exhausted});generalize W.putObj (d+1) (.loop {g with state:=.exhausted})=M at j|-;have hs8:=j.size;rw[K];have D:∀b,Q b->(Q b\/W.heap.size<=b)/\b<M.heap.size:=λb c=>⟨.inl c,by have:=p.2.1 b c;omega⟩
  have F:=hS _ _ _ _ _ p (by omega) j (λb c=>.inr c) D;have h1' :J (U Q) (k+xs.length) W:=by have:=h1;rwa[List.length_map]at this
  refine hend (U Q) M d E (u _ _ _ _ _ h1' (B (Q:=Q) j λb c=>.inr c) (L Q Q W M (by omega) j.size D)) (λb c=>.inl c) (.inr (.inl rfl)) (λb c=>?_) (λb c=>?_) F.2.2 F.1
  ·exact(L Q Q W M (by omega) j.size D b c).2
  ·rcases c with h|h|h|h
   ·exact .inl h
   ·exact .inr (by omega)
   ·exact .inr (by omega)
   ·exact .inr (by have:=p.2.1 b h;omega)
 ·rintro Q W ⟨r,h1,p,s,h4,h5⟩;refine⟨r,s,by rw[h4];decide,?_⟩;rw[<-E];have hl:=cn s;have j:=m W (.loop {r with state:=.exhausted});generalize W.putObj (d+1) (.loop {r with state:=.exhausted})=M at j|-;have hs8:=j.size;rw[h5];have D:∀b,Q b->(Q b\/W.heap.size<=b)/\b<M.heap.size:=λb c=>⟨.inl c,by have:=p.2.1 b c;omega⟩
  have F:=hS _ _ _ _ _ p (by omega) j (λb c=>.inr c) D;refine hexit (U Q) M d E (A _ _ _ _ h1 (B (Q:=Q) j λb c=>.inr c) (L Q Q W M (by omega) j.size D)) (λb c=>.inl c) (.inr (.inl rfl)) (λb c=>?_) (λb c=>?_) F.2.2 F.1
  ·exact(L Q Q W M (by omega) j.size D b c).2
  ·rcases c with h|h|h|h
   ·exact .inl h
   ·exact .inr (by omega)
   ·exact .inr (by omega)
   ·exact .inr (by have:=p.2.1 b h;omega)
def eJ.keep{F:Nat->Prop}{w w' :World}{s:Nat}{buy:Bool}{l:List Od}(h:eJ w s F buy l)(c:∀b,F b->w'.heap[b]? =w.heap[b]?):eJ w' s F buy l:=by
 obtain⟨⟨sl,h1,e,a,f⟩,g,d⟩:=h;exact⟨⟨sl,(c s ((a s).2 (.inl rfl))).trans h1,e.keep λb i=>c b ((a b).2 (.inr i)),a,f⟩,g,d⟩
def NT:∀a:Od,∀(W:World) q,hp W q=some (.cells (da a).toArray ir (0,0))->(Instr.loadAt ir (.pointer (some ⟨q,0,none⟩))).run Tryz.prog W=.ok (ig a) W:=λa W q h=>gM (o:=a) (At.all h)
set_option maxRecDepth 10000 in
set_option maxHeartbeats 1000000 in
def HJ{b vb:Nat}{B:Bk}{T:TypeId}:GM Tryz.prog (.func (.func 144) #[] #[.pointer (some ⟨vb,0,none⟩)]) ((B true++B false).map λo=>[ig o]) (λW=>hp W vb=some (.cells #[eY b] T (0,0))/\∃F,eU W b F B):=by
 refine⟨⟨_,_,_,rfl,?_⟩⟩;rintro z J Js W K ⟨A,F,hq⟩ h0 m l w M hex;show Ca Tryz.prog _ #[.func (.yield z) #[] #[],.pointer (some ⟨vb,0,none⟩)] W K;apply OL;obtain⟨t,L⟩:∃t,t=W.heap.size:=⟨_,rfl⟩
 have N:cl (λ_=>False) W (W.alloc (.cells #[.func (.yield z) #[] #[]] 245)):=(cl.refl _ W).alloc _;have b1:hp (W.alloc (.cells #[.func (.yield z) #[] #[]] 245)) t=some (.cells #[.func (.yield z) #[] #[]] 245 (0,0)):=by rw[L];simp[go_sem]
 refine ck (v:=.pointer (some ⟨t,0,none⟩)) (w' :=W.alloc (.cells #[.func (.yield z) #[] #[]] 245)) (by rw[L];rfl) ?_;generalize W.alloc (.cells #[.func (.yield z) #[] #[]] 245)=w1 at N b1|-;have U:=N.hpk A id;have O:=hq.mod N λ_ _ h=>h;refine ck (v:=eY b) (w' :=w1) (by simp[go_sem,U,eY]) ?_;refine pE O ?_;refine ck (v:=.bool false) (by simp[go_sem]<;>first|exact⟨rfl,rfl⟩|exact rfl) ?_;rw[ci,if_neg Bool.false_ne_true];refine ck (v:=eY b) (w' :=w1) (by simp[go_sem,U,eY]) ?_;refine vX O λb' F' Y q2 m2 n2=>?_;obtain⟨s,G,hr,hF'⟩:=q2.r;have md:cl (λ_=>False) Y Y.drew:=(cl.refl _ Y).drew;have p:=hr.mod md id λ_ _ _ h=>h;have c0:=p.blk;simp only[eY,cw];refine cq (λ_=>by simp[-Int.natCast_add,go_sem]<;>first|exact⟨rfl,rfl⟩|exact rfl) ?_;refine cx (v:=cT (s true)) (by simp[go_sem,c0]) ?_;refine cq (λ_=>by simp[-Int.natCast_add,go_sem]<;>first|exact⟨rfl,rfl⟩|exact rfl) ?_;refine cx (v:=cT (s false)) (by simp[go_sem,c0]) ?_;refine fg [cT (s true),cT (s false)] Sa (cI R6) rfl rfl (by intro v hv;simp only[List.mem_cons,List.not_mem_nil,or_false]at hv;rcases hv with rfl|rfl<;>rfl) (by omega) ?_;have e0:(([cT (s true),cT (s false)]:List Value).flatMap (·.cells.toList)).toArray= #[cT (s true),cT (s false)]:=rfl;rw[e0];have M2:=(N.trans m2).trans md;have h1:=m2.hpk b1 id;have h1:=md.hpk h1 id;generalize Y.drew=C at md p c0 M2 h1|-;obtain⟨q,I⟩:∃q,q=C.heap.size:=⟨_,rfl⟩
 have E:cl (λ_=>False) C (C.alloc (.cells #[cT (s true),cT (s false)] 228)):=(cl.refl _ C).alloc _;have b4:hp (C.alloc (.cells #[cT (s true),cT (s false)] 228)) q=some (.cells #[cT (s true),cT (s false)] 228 (0,0)):=by rw[I];simp[go_sem]
 rw[<-I];generalize C.alloc (.cells #[cT (s true),cT (s false)] 228)=w4 at E b4|-;have r4:=p.mod E id λ_ _ _ h=>h;have n4:=E.hpk h1 id;have M4:=M2.trans E;refine cx (v:=.int .i64 2) (by simp[go_sem]) ?_;have hs1:=N.size;have hs2:=m2.size;have hsd:=md.size;have hs4:=E.size;have hn0l:=cn b1;have hql:=cn b4;have n:∀d x,G d x->W.heap.size<=x/\x<w4.heap.size:=λd x c=>⟨by have:=n2 x ((hF' x).2 (.inr (by cases d;exact .inr c;exact .inl c)));omega,r4.lt c⟩
 let f:Nat->Nat:=λi=>if i=0 then 0 else if i=1 then(B true).length else(B true++B false).length
 let St:(Nat->Prop)->List Nat->World->Prop:=λQ ds g=>hp g t=some (.cells #[.func (.yield z) #[] #[]] 245 (0,0))/\hp g q=some (.cells #[cT (s true),cT (s false)] 228 (0,0))/\(∀d,eJ g (s d) (G d) d (B d))/\
  (∀d∈ds,hp g d=some (.deferred (some []))/\Q d)/\ds.Nodup/\(∀b,Q b->b<g.heap.size)/\Q t/\Q q/\∀d x,G d x->Q x
 have hJ4:J (λx=>x=t\/x=q\/G true x\/G false x) 0 w4:=h0 _ _ M4 λx c=>by
  rcases c with rfl|rfl|h|h
  ·omega
  ·omega
  ·exact n _ _ h
  ·exact n _ _ h
 refine dp (λst g=>∃(i:Nat) (Q:Nat->Prop) (ds:List Nat),i<=2/\st=((.int .i64 i,()),ds)/\J Q (f i) g/\St Q ds g)
  (λst _=>match st.1.1 with| .int _ i=>2 - i.toNat|_=>0) ⟨0,_,[],by omega,rfl,hJ4,n4,b4,r4.sd,λd p=>absurd p List.not_mem_nil,List.nodup_nil,λx c=>?_,.inl rfl,.inr (.inl rfl),λd x c=>by cases d;exact .inr (.inr (.inr c));exact .inr (.inr (.inl c))⟩ ?_
 ·rcases c with rfl|rfl|h|h
  ·omega
  ·omega
  ·exact(n _ _ h).2
  ·exact(n _ _ h).2
 rintro⟨_,ds⟩ W5 ⟨i,Q,ds0,hi,⟨⟩,hJ,k1,k2,k3,k4,k5,k6,k7,k8,k9⟩ KN hKN;unfold Ff;intro _;by_cases hlt:i<2
 ·have P:(i:Int)<2:=by omega
  refine ck (v:=.bool true) (by simp[go_sem,P]<;>first|exact⟨rfl,rfl⟩|exact rfl) ?_;rw[ci,if_pos rfl]
  obtain⟨d,p⟩:∃d:Bool,(i=0/\d=true)\/(i=1/\d=false):=by
   by_cases h0:i=0
   ·exact⟨true,.inl ⟨h0,rfl⟩⟩
   ·exact⟨false,.inr ⟨by omega,rfl⟩⟩
  have R:¬(2:Int)<=(i:Int):=by omega
  refine ck (v:=.pointer (some ⟨q,i,none⟩)) (w' :=W5) (by simp[go_sem,hlt,R,cC]) ?_;refine ck (v:=cT (s d)) (w' :=W5) (by rcases p with⟨rfl,rfl⟩|⟨rfl,rfl⟩<;>simp[go_sem,k2]) ?_;refine BA (k3 d) λgv w6 ht r=>?_;have hs6:=r.size;have Z:=m _ Q _ _ _ hJ (r.mono λ_ _ h=>h.elim) λb A=>⟨.inl A,by have:=k6 b A;omega⟩
  have H:f i+(B d).length=f (i+1):=by rcases p with⟨rfl,rfl⟩|⟨rfl,rfl⟩<;>simp[f]
  delta GG
  refine IG (XS:=(B true++B false).map λo=>[ig o]) (T:=ir) (fc:=da) (Q0:=Q) (k:=f i) ht.m lM.od (λa _=>NT a) m l w ?_ (r.hpk k1 id) ?_ k7 (λb A=>by have:=k6 b A;omega) Z ?_ ?_
  ·intro j hj;rcases p with⟨rfl,rfl⟩|⟨rfl,rfl⟩
   ·have e:((B true++B false).map λo=>[ig o])[f 0+j]? =((B true++B false)[0+j]?).map λo=>[ig o]:=List.getElem?_map;rw[e,Nat.zero_add,List.getElem?_append_left hj,List.getElem?_eq_getElem hj];rfl
   ·have e:((B true++B false).map λo=>[ig o])[f 1+j]? =((B true++B false)[(B true).length+j]?).map λo=>[ig o]:=List.getElem?_map;rw[e,List.getElem?_append_right (by omega),Nat.add_sub_cancel_left,List.getElem?_eq_getElem hj];rfl
  ·intro g h;simp[go_sem,h]
  ·intro Q' g S hdd y D a2 a3 a4 X a6;have u:∀x o,Q x->hp w6 x=some o->hp g x=some o:=λx o c h=>by unfold hp;rw[X x c];exact h
   have hSd:∀d,eJ g (s d) (G d) d (B d):=λe=>(((k3 e).mod r λ_ _ h=>h)).keep λx c=>X x (k9 e x c);unfold AG;simp only[fk];refine ck (v:=.int .i64 ((i+1:Nat):Int)) (w' :=g) (by simp[go_sem];rw[cV (by omega) (by omega)]) ?_;refine hKN _ _ ⟨i+1,Q',[S]++ds,by omega,rfl,by rw[<-H];exact y,u _ _ k7 (r.hpk k1 id),u _ _ k8 (r.hpk k2 id),hSd,λx c=>?_,?_,a3,D _ k7,D _ k8,λe x c=>D _ (k9 e x c)⟩ (by show 2 - (((i+1:Nat):Int)).toNat<2 - ((i:Int)).toNat;omega)
   ·rcases List.mem_cons.1 c with rfl|c
    ·exact⟨a6,a2⟩
    ·exact⟨u _ _ (k4 x c).2 (r.hpk (k4 x c).1 id),D _ (k4 x c).2⟩
   ·refine List.nodup_cons.2 ⟨λc=>?_,k5⟩;have:=k6 _ (k4 S c).2;omega
  ·intro Q' g S hdd y D a2 a3 a4 X a6;unfold AG;simp only[fk];refine Il (ds:=[S]++ds) ?_ ?_ λW8 V=>?_
   ·refine List.nodup_cons.2 ⟨λc=>?_,k5⟩;have:=k6 _ (k4 S c).2;omega
   ·intro x c;rcases List.mem_cons.1 c with rfl|c
    ·exact a6
    ·unfold hp;rw[X x (k4 x c).2];exact r.hpk (k4 x c).1 id
   ·refine hex _ _ (l _ Q' _ _ y (V.mono λx _ c=>?_) λx c=>⟨.inl c,by have:=a3 x c;have:=V.size;omega⟩);rcases List.mem_cons.1 c with rfl|c
    ·exact a2
    ·exact D _ (k4 x c).2
 ·obtain rfl:i=2:=by omega
  refine ck (v:=.bool false) (by simp[go_sem]<;>first|exact⟨rfl,rfl⟩|exact rfl) ?_;rw[ci,if_neg Bool.false_ne_true];refine Il (ds:=ds) k5 (λx c=>(k4 x c).1) λW8 V=>?_;refine M Q _ ?_;have e:f 2=((B true++B false).map λo=>[ig o]).length:=by simp[f]
  rw[<-e];exact m _ Q _ _ _ hJ (V.mono λx _ c=>(k4 x c).2) λx c=>⟨.inl c,by have:=k6 x c;have:=V.size;omega⟩
def Ir{w:World}{K:cm}{b:Nat}{F:Nat->Prop}{B:Bk}(h:eU w b F B)
  (d:∀gv a,jC gv ((B true++B false).map λo=>[ig o]) a->cl (λ_=>False) w a->K gv a):Ca Tryz.prog 57 #[eY b] w K:=by
 apply QS;have m0:cl (λ_=>False) w (w.alloc (.cells #[eY b] 109)):=(cl.refl _ w).alloc _;refine ck (v:=.pointer (some ⟨w.heap.size,0,none⟩)) (w' :=w.alloc (.cells #[eY b] 109)) (by simp[go_sem,eY]) ?_;have c:hp (w.alloc (.cells #[eY b] 109)) w.heap.size=some (.cells #[eY b] 109 (0,0)):=by simp[go_sem]
 exact d _ _ ⟨⟨_,HJ (b:=b) (vb:=w.heap.size) (B:=B) (T:=109),λW m=>⟨m.hpk c id,F,h.mod (m0.trans m) λ_ _ h=>h⟩⟩,_,_,rfl⟩ m0
def eU.slt{w:World}{b:Nat}{F:Nat->Prop}{B:Bk}(h:eU w b F B):b<w.heap.size:=h.lt h.self
def eU.nn{w:World}{b:Nat}{F:Nat->Prop}{B:Bk}(h:eU w b F B):∀d,(B d).length<=100/\∀o∈B d,o.may=true/\o.buy=d/\o.Fit:=by
 obtain⟨s,G,a,c⟩:=h.r;exact λd=>⟨(a.sd d).len,(a.sd d).may⟩
def vS{w:World}{K:cm}{b:Nat}{F:Nat->Prop}{B:Bk}{o:Od}{k:Int}(h:eU w b F B)(l:o.Fit)(p:0<=k/\k<256)
  (q:∀j e f d,eU d b j (db B o k).2.1->HT d e f (db B o k).2.2.trades (db B o k).2.2.gone->cl F w d->(∀x,j x->F x\/w.heap.size<=x)->
   (∀x,co e x\/co f x->w.heap.size<=x/\¬j x)->K (.tuple #[.agg (nL e f (db B o k).2.2.filled (db B o k).2.2.left),.int .i64 (db B o k).1]) d):Ca Tryz.prog 135 #[eY b,ig o,.int .u8 k] w K:=by
 obtain⟨s,G,r,i⟩:=h.r;have y:=h.slt;refine FL r l p λv e f d n u t m g=>q _ e f _ n.q u (t.mono λx _ a=>(i x).2 (.inr a)) (λx a=>?_) λx a=>⟨(g x a).1,λc=>?_⟩
 ·rcases a with a|a|a
  ·exact .inl ((i x).2 (.inl a))
  ·exact(m _ x a).imp (λh=>(i x).2 (.inr (.inl h))) id
  ·exact(m _ x a).imp (λh=>(i x).2 (.inr (.inr h))) id
 ·rcases c with c|c|c
  ·have:=(g x a).1;omega
  ·exact(g x a).2 _ c
  ·exact(g x a).2 _ c
def Bk.all(B:Bk):List Od:=B true++B false
def eU.all{w:World}{b:Nat}{F:Nat->Prop}{B:Bk}(h:eU w b F B):B.all.length<=200/\∀o∈B.all,o.may=true/\o.Fit:=by
 have:=h.nn;refine⟨by unfold Bk.all;rw[List.length_append];have h1:=(this true).1;have c:=(this false).1;omega,λo a=>?_⟩;rcases List.mem_append.1 a with a|a
 ·exact⟨((this _).2 o a).1,((this _).2 o a).2.2⟩
 ·exact⟨((this _).2 o a).1,((this _).2 o a).2.2⟩
def cQ{α:Type}{l:List α}{i:Nat}(hi:i<l.length):l.take (i+1)=l.take i++[l[i]]:=by
 rw[List.take_add_one,List.getElem?_eq_getElem hi];rfl
abbrev gQ:TypeId:=108
abbrev GZ:TypeId:=45
def ua:Tryz.prog.underlying GZ=some (.slice gQ):=by kernel_rfl
def xz:Tryz.prog.cellsOf gQ=26+1:=by kernel_rfl
def zV:iA Tryz.prog gQ=true:=by kernel_rfl
def QM:kX Tryz.prog gQ=true:=by kernel_rfl
def RC:(kW Tryz.prog gQ).length=26+1:=by kernel_rfl
def R0:eN Tryz.prog gQ 27 208=true:=by kernel_rfl
abbrev Lw(w:World)(s:Value)(l:List Ct):Prop:=dW w gQ 27 s l.length (l.flatMap dN)
def pB{w:World}{K:cm}{s:Value}{l:List Ct}(h:Rd w 27 s l.length (l.flatMap dN))(q:l.length<=1000000)
  (j:∀e d,Lw d e l->cl (λ_=>False) w d->(∀b,co e b->w.heap.size<=b)->K e d):Ca Tryz.prog 128 #[s] w K:=by
 apply Nv;obtain⟨a,c,f⟩:=h.isSl;by_cases i:a=none
 ·subst i;refine ck (v:=.bool true) (w' :=w) (by rw[f];simp[go_sem]) ?_;rw[ci,if_pos rfl]
  have p:l=[]:=by
   obtain⟨-,⟨g,_⟩|⟨b,o,n,k,_⟩⟩:=h
   ·exact List.eq_nil_of_length_eq_zero g
   ·rw[f]at k;cases k
  subst p;exact j _ _ (dW.nil _ _ _) (cl.refl _ _) λb m=>by cases m
 ·refine ck (v:=.bool false) (w' :=w) (by rw[f];cases a;exact absurd rfl i;simp[go_sem]) ?_;rw[ci,if_neg Bool.false_ne_true];exact NQ ua (cI R0) h (HQ th l) (by omega) j
structure Aa where
 day:Int
 l:List Ct
def Ct.Ok(k:Ct):Prop:=k.Fit/\k.spec.may=true/\k.spec.isPrice k.price=true/\1<=k.st/\k.st<=3
def oZ(l:List Ct)(n:Int):Nat:=(l.takeWhile λk=>decide (k.spec.num<n)).length
def ek(l:List Ct)(n:Int):Option Ct:=l.find? λk=>decide (k.spec.num=n)
def nY(l:List Ct):Prop:=l.Pairwise λa b=>a.spec.num<b.spec.num
structure nG(w:World)(c:Nat)(F:Nat->Prop)(S:Aa):Prop where
 out:∃sl,hp w c=some (.cells #[.bool true,.int .u32 S.day,sl] 197 (0,0))/\Lw w sl S.l/\(∀x,F x↔x=c\/co sl x)/\¬co sl c
 len:S.l.length<=16
 day:fq S.day
 ok:∀k∈S.l,k.Ok
 srt:nY S.l
def nG.mod{F G:Nat->Prop}{w w' :World}{c:Nat}{S:Aa}(h:nG w c F S)(e:cl G w w')(d:∀b,F b->¬G b):nG w' c F S:=by
 obtain⟨⟨sl,h1,f,a,i⟩,k,m,j,l⟩:=h;exact⟨⟨sl,e.hpk h1 (d c ((a c).2 (.inl rfl))),f.mod e λb g=>d b ((a b).2 (.inr g)),a,i⟩,k,m,j,l⟩
def nG.lt{F:Nat->Prop}{w:World}{c:Nat}{S:Aa}(h:nG w c F S){b:Nat}(a:F b):b<w.heap.size:=by
 obtain⟨⟨sl,h1,d,e,f⟩,g⟩:=h;rcases(e b).1 a with rfl|a
 ·exact cn h1
 ·exact d.lt a
def dK(c:Nat):Value:=.pointer (some ⟨c,0,none⟩)
def HK(k:Ct):(dN k)[0]? =some (.int .u32 k.spec.num):=rfl
def Mr(k:Ct):(dN k)[25]? =some (.int .u8 k.st):=by have:=PJ k [];rwa[List.append_nil]at this
def NJ(k:Ct):(dN k)[26]? =some (.int .i64 k.price):=by have:=Oh k [];rwa[List.append_nil]at this
def MM(k:Ct)(w:World):∃a,(Instr.box gQ (.agg (dN k).toArray)).run Tryz.prog w=.ok (.pointer (some ⟨w.heap.size,0,none⟩)) a/\hp a w.heap.size=some (.cells (dN k).toArray gQ (0,0))/\cl (λ_=>False) w a:=
 ⟨w.alloc (.cells (dN k).toArray gQ),rfl,by simp[go_sem],(cl.refl _ w).alloc _⟩
def CT{w:World}{K:cm}(d:∀c F a,nG a c F ⟨0,[]⟩->cl (λ_=>False) w a->(∀b,F b->w.heap.size<=b)->K (dK c) a):Ca Tryz.prog 35 #[] w K:=by
 apply Qo;refine ck (v:=.agg #[.bool true,.int .u32 0,.slice none 0 0]) (w' :=w) (by simp[go_sem]) ?_;refine ck (v:=dK w.heap.size) (w' :=w.alloc (.cells #[.bool true,.int .u32 0,.slice none 0 0] 197)) rfl ?_;exact d _ (λx=>x=w.heap.size) _ ⟨⟨.slice none 0 0,by simp[go_sem],dW.nil _ _ _,λx=>⟨λh=>.inl h,λh=>h.elim id λh=>by cases h⟩,λh=>by cases h⟩,by simp,⟨by simp,by simp⟩,by simp,List.Pairwise.nil⟩ ((cl.refl _ w).alloc _) λb e=>by omega
def oI{w:World}{K:cm}{c:Nat}{F:Nat->Prop}{S:Aa}(h:nG w c F S)(a:K (.bool true) w):Ca Tryz.prog 132 #[dK c] w K:=by
 obtain⟨⟨sl,h1,b,f,d⟩,e⟩:=h;apply NC;unfold dK;refine ck (v:=.bool true) (by simp[go_sem]<;>first|exact⟨rfl,rfl⟩|exact rfl) ?_;rw[ci,if_pos rfl];simp only[cw];refine ck (by simp[-Int.natCast_add,go_sem]<;>first|exact⟨rfl,rfl⟩|exact rfl) ?_;refine ck (by simp[-Int.natCast_add,go_sem,h1]<;>first|exact⟨rfl,rfl⟩|exact rfl) ?_;exact a
def Sy{α:Type}{l:List α}{p:α->Bool}{j:Nat}(b:j<l.length)(h:∀o∈l.take j,p o=true)(a:p l[j]=false):l.takeWhile p=l.take j:=by
 induction l generalizing j with
 |nil=>simp at b
 |cons x l c=>
  cases j with
  |zero=>simp at a;simp[a]
  |succ j=>
   simp only[List.take_succ_cons,List.mem_cons,forall_eq_or_imp]at h;rw[List.takeWhile_cons_of_pos h.1,List.take_succ_cons,c (by simpa using b) h.2 (by simpa using a)]
def Sr{α:Type}{l:List α}{p:α->Bool}(h:∀o∈l,p o=true):l.takeWhile p=l:=by
 induction l with
 |nil=>rfl
 |cons x l b=>rw[List.takeWhile_cons_of_pos (h x (by simp)),b λo a=>h o (by simp[a])]
def tG{l:List Ct}{n:Int}{i:Nat}(hi:i<=l.length)(h1:∀j (a:j<l.length),j<i->l[j].spec.num<n)(d:∀(a:i<l.length),¬l[i].spec.num<n):oZ l n=i:=by
 unfold oZ;by_cases c:i<l.length
 ·rw[Sy (p:=λk:Ct=>decide (k.spec.num<n)) c (λo b=>?_) (by simpa using d c),List.length_take,Nat.min_eq_left hi];obtain⟨j,a,rfl⟩:=List.getElem_of_mem b;rw[List.length_take]at a;rw[List.getElem_take];simpa using h1 j (by omega) (by omega)
 ·rw[Sr λo b=>?_]
  ·omega
  ·obtain⟨j,a,rfl⟩:=List.getElem_of_mem b;simpa using h1 j a (by omega)
def C8{l:List Ct}(d:nY l){n:Int}{i:Nat}(h1:∀j (a:j<l.length),j<i->l[j].spec.num<n)(hi:i<l.length)(f:¬l[i].spec.num<n):
  ek l n=if l[i].spec.num=n then some l[i]else none:=by
 unfold ek;by_cases b:l[i].spec.num=n
 ·rw[if_pos b,List.find?_eq_some_iff_getElem];refine⟨by simpa using b,i,hi,rfl,λj a=>?_⟩;have:=h1 j (by omega) a;simp;omega
 ·rw[if_neg b,List.find?_eq_none];intro k c;obtain⟨j,a,rfl⟩:=List.getElem_of_mem c;simp only[decide_eq_true_eq];intro e;rcases Nat.lt_trichotomy j i with h|h|h
  ·have:=h1 j a h;omega
  ·subst h;exact b e
  ·have:=List.pairwise_iff_getElem.1 d i j hi a h;omega
def AW{l:List Ct}{n:Int}(h1:∀j (a:j<l.length),l[j].spec.num<n):ek l n=none:=by
 unfold ek;rw[List.find?_eq_none];intro k b;obtain⟨j,a,rfl⟩:=List.getElem_of_mem b;have:=h1 j a;simp;omega
def xM{w:World}{K:cm}{k:Ct}{n:Int}(a:∀d,cl (λ_=>False) w d->K (.int .i64 (if k.spec.num<n then -1 else if n<k.spec.num then 1 else 0)) d):Ca Tryz.prog 250 #[.agg (dN k).toArray,.int .u32 n] w K:=by
 apply Mm;obtain⟨g,e,c,f⟩:=MM k w;have a:=a _ f;refine ck e ?_;refine ck (by simp[-Int.natCast_add,go_sem]<;>first|exact⟨rfl,rfl⟩|exact rfl) ?_;refine ck (by simp[-Int.natCast_add,go_sem]<;>first|exact⟨rfl,rfl⟩|exact rfl) ?_;refine ck (by simp[-Int.natCast_add,go_sem,c,HK]<;>first|exact⟨rfl,rfl⟩|exact rfl) ?_;by_cases h1:k.spec.num<n
 ·refine ck (v:=.bool true) (by simp[go_sem,h1]<;>first|exact⟨rfl,rfl⟩|exact rfl) ?_;rw[ci,if_pos rfl];rw[if_pos h1]at a;exact a
 ·refine ck (v:=.bool false) (by simp[go_sem,h1]<;>first|exact⟨rfl,rfl⟩|exact rfl) ?_;rw[ci,if_neg Bool.false_ne_true];rw[if_neg h1]at a;refine ck (by simp[-Int.natCast_add,go_sem]<;>first|exact⟨rfl,rfl⟩|exact rfl) ?_;refine ck (by simp[-Int.natCast_add,go_sem]<;>first|exact⟨rfl,rfl⟩|exact rfl) ?_;refine ck (by simp[-Int.natCast_add,go_sem,c,HK]<;>first|exact⟨rfl,rfl⟩|exact rfl) ?_;by_cases b:n<k.spec.num
  ·refine ck (v:=.bool true) (by simp[go_sem,b]<;>first|exact⟨rfl,rfl⟩|exact rfl) ?_;rw[ci,if_pos rfl];rw[if_pos b]at a;exact a
  ·refine ck (v:=.bool false) (by simp[go_sem,b]<;>first|exact⟨rfl,rfl⟩|exact rfl) ?_;rw[ci,if_neg Bool.false_ne_true];rw[if_neg b]at a;exact a
def Mu{i j:Nat}(h:i<j)(a:j<=1000000)(w:World):∃x,(convert 3 249 (.int .i64 ((i:Int)+(j:Int)))).run Tryz.prog w=.ok x w/\∃y,(tf .shr 249 true x (.int .u64 1)).run Tryz.prog w=.ok y w/\(convert 249 3 y).run Tryz.prog w=.ok (.int .i64 (((i+j) / 2:Nat):Int)) w:=by
 refine⟨.int .u64 (((i+j:Nat):Int)),?_,.int .u64 (((i+j) / 2:Nat):Int),?_,?_⟩
 ·simp[go_sem];rw[IntKind.wrap_u64];omega
 ·simp[go_sem,Int.shiftRight_eq_div_pow]
 ·simp[go_sem];rw[IntKind.wrap_i64];omega
set_option maxRecDepth 10000 in
def Ih{w:World}{K:cm}{s:Value}{l:List Ct}{n:Int}(h:Rd w 27 s l.length (l.flatMap dN))(hn:l.length<=1000)(J:nY l)
  (R:∀g,cl (λ_=>False) w g->K (.tuple #[.int .i64 (oZ l n),.bool (ek l n).isSome]) g):Ca Tryz.prog 249 #[s,.int .u32 n,.func (.func 250) #[] #[]] w K:=by
 apply L9;obtain⟨a,c,G⟩:=h.isSl;refine fi (v:=.int .i64 (l.length:Int)) (w' :=w) (by rw[G];simp[go_sem]) ?_
 refine dp (λst W=>∃i j:Nat,i<=j/\j<=l.length/\st=(.int .i64 i,.int .i64 j,())/\cl (λ_=>False) w W/\(∀x (d:x<l.length),x<i->l[x].spec.num<n)/\∀x (d:x<l.length),j<=x->¬l[x].spec.num<n)
  (λst _=>match st.1,st.2.1 with| .int _ i,.int _ j=>j.toNat - i.toNat|_,_=>0) ⟨0,l.length,by omega,by omega,rfl,cl.refl _ _,λx d h=>by omega,λx d h=>by omega⟩ ?_
 rintro⟨_,_,_⟩ W ⟨i,j,V,A,⟨⟩,f,B,P⟩ KN u;unfold El;intro _
 have e:∀W,cl (λ_=>False) w W->∀x (d:x<l.length),∃p,(Instr.indexAt GZ s (.int .i64 (x:Int))).run Tryz.prog W=.ok p W/\(dh gQ p).run Tryz.prog W=.ok (.agg (dN l[x]).toArray) W:=λW f x d=>by
  obtain⟨b,I,X,F,S,Y⟩:=(h.mod f λ_ _ h=>h).item cX d rfl;exact⟨.pointer (some ⟨b,I+x*27,none⟩),by rw[F];simp[go_sem,d,cC,ua],fw zV xz (cX _) Y⟩
 by_cases E:i<j
 ·have t:(i:Int)<(j:Int):=by omega
  refine ck (v:=.bool true) (by simp[go_sem,t]<;>first|exact⟨rfl,rfl⟩|exact rfl) ?_;rw[ci,if_pos rfl];refine ck (v:=.int .i64 ((i:Int)+(j:Int))) (w' :=W) (by simp[go_sem];rw[cV (by omega) (by omega)]) ?_;obtain⟨x,e1,y,Z,e3⟩:=Mu E (by omega) W;refine ck e1 ?_;refine ck Z ?_;refine ck e3 ?_;obtain⟨m,hm⟩:∃m,m=(i+j) / 2:=⟨_,rfl⟩
  rw[<-hm];have o:m<l.length:=by omega
  obtain⟨p,H,N⟩:=e W f m o;refine ck H ?_;refine fM N ?_;simp only[eR];refine xM λC L=>?_;have T:=f.trans L;by_cases D:l[m].spec.num<n
  ·rw[if_pos D];refine ck (v:=.bool true) (by simp[go_sem]<;>first|exact⟨rfl,rfl⟩|exact rfl) ?_;rw[ci,if_pos rfl];refine ck (v:=.int .i64 ((m+1:Nat):Int)) (w' :=C) (by simp[go_sem];rw[cV (by omega) (by omega)]) ?_;refine u _ _ ⟨m+1,j,by omega,A,rfl,T,λx d M=>?_,P⟩ (by show((j:Int)).toNat - (((m+1:Nat):Int)).toNat<((j:Int)).toNat - ((i:Int)).toNat;omega);by_cases r:x=m
   ·subst r;exact D
   ·have:=List.pairwise_iff_getElem.1 J x m d o (by omega);omega
  ·rw[if_neg D];have O:¬((if n<l[m].spec.num then 1 else 0:Int)<0):=by split<;>omega
   refine ck (v:=.bool false) (w' :=C) (by simp[go_sem,O]) ?_;rw[ci,if_neg Bool.false_ne_true];refine u _ _ ⟨i,m,by omega,by omega,rfl,T,B,λx d M=>?_⟩ (by show((m:Int)).toNat - ((i:Int)).toNat<((j:Int)).toNat - ((i:Int)).toNat;omega);by_cases r:x=m
   ·subst r;exact D
   ·have:=List.pairwise_iff_getElem.1 J m x o d (by omega);omega
 ·obtain rfl:i=j:=by omega
  refine ck (v:=.bool false) (by simp[go_sem]<;>first|exact⟨rfl,rfl⟩|exact rfl) ?_;rw[ci,if_neg Bool.false_ne_true];by_cases q:i<l.length
  ·have z:(i:Int)<(l.length:Int):=by omega
   refine ck (v:=.bool true) (by simp[go_sem,z]<;>first|exact⟨rfl,rfl⟩|exact rfl) ?_;rw[ci,if_pos rfl];obtain⟨p,H,N⟩:=e W f i q;refine ck H ?_;refine fM N ?_;simp only[eR];have k:=P i q (Nat.le_refl _);refine xM λC L=>?_;rw[if_neg k];refine ck (v:=.bool (ek l n).isSome) (w' :=C) ?_ ?_
   ·rw[C8 J B q k];by_cases r:l[i].spec.num=n
    ·simp[go_sem,r]
    ·have d:n<l[i].spec.num:=by omega
     simp[go_sem,r,d]
   have:=tG A B λA=>k;rw[<-this];exact R _ (f.trans L)
  ·obtain rfl:i=l.length:=by omega
   refine ck (v:=.bool false) (by simp[go_sem]<;>first|exact⟨rfl,rfl⟩|exact rfl) ?_;rw[ci,if_neg Bool.false_ne_true];have h1:oZ l n=l.length:=tG A B λA=>by omega
   have U:=AW λx d=>B x d d;have Q:=R _ f;rw[h1,U]at Q;exact Q
end Go.Proofs
