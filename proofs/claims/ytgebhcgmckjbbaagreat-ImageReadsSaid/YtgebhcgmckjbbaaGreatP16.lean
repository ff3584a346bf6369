/- Part of a proof. -/
import Derived.Test.YtgebhcgmckjbbaaGreatP15
set_option linter.all false
namespace Go.Proofs
open Go Go.Vc
attribute [local congr] cq
def EA:lg Tryz.prog mZ=lG jp:=by kernel_rfl
def SH:lh Tryz.prog mZ=true:=by kernel_rfl
def Dw{p:Nat}(W:World):(Instr.fieldAt mZ (.pointer (some ⟨p,0,none⟩)) 0).run Tryz.prog W=.ok (.pointer (some ⟨p,0,none⟩)) W:=by simp[go_sem]
def Jb{p:Nat}(W:World):(Instr.fieldAt mZ (.pointer (some ⟨p,0,none⟩)) 5).run Tryz.prog W=.ok (.pointer (some ⟨p,5,none⟩)) W:=by simp[go_sem]
def DD{W:World}{p:Nat}{c:Cm}(h:dc W p c):(Instr.loadAt 34 (.pointer (some ⟨p,0,none⟩))).run Tryz.prog W=.ok (.int .u8 c.kind) W:=by simp[go_sem,h,Rn]
def K5{W:World}{p:Nat}{c:Cm}(h:dc W p c):At W p 5 (dl c.spec):=by
 have:=(At.all h).sub 5 25 (by rw[kr];omega)
 have e:((lG c).drop 5).take 25=dl c.spec:=by
  show(dl c.spec++_).take 25=_;rw[<-cJ c.spec,List.take_left]
 rw[e]at this;exact this
def ti(c:Cm)(i:Nat)(v:Value):(lG c).set (30+i) v=[.int .u8 c.kind,.int .u32 c.acct,.int .u32 c.ct,.int .u64 c.num,.int .i64 c.amt]++(dl c.spec++([.bool c.on,.bool c.buy,.int .u8 c.ty,.int .i64 c.price,.int .i64 c.qty]:List Value).set i v):=by
 unfold lG;rw[List.set_append_right _ _ (by show 5<=30+i;omega),List.set_append_right _ _ (by rw[cJ];show 25<=30+i - 5;omega),cJ];have:30+i - [Value.int .u8 c.kind,.int .u32 c.acct,.int .u32 c.ct,.int .u64 c.num,.int .i64 c.amt].length - 25=i:=by show 30+i - 5 - 25=i;omega
 rw[this]
def AQ{W:World}{p:Nat}{c:Cm}(x:Int)(h:dc W p c):∃a,(Instr.storeAt 35 (.pointer (some ⟨p,1,none⟩)) (.int .u32 x)).run Tryz.prog W=.ok () a/\dc a p {c with acct:=x}/\cl (λb=>b=p) W a:=by
 refine⟨W.setCell ⟨p,1,none⟩ (.int .u32 x),by simp[go_sem,h,QK],?_,(cl.refl (λb=>b=p) W).setCell (.inl rfl) _ _⟩;show hp _ p=_;rw[gQ,if_pos rfl,h,eN,List.setIfInBounds_toArray];congr 3
def H5{W:World}{p:Nat}{c:Cm}(x:Int)(h:dc W p c):∃a,(Instr.storeAt 35 (.pointer (some ⟨p,2,none⟩)) (.int .u32 x)).run Tryz.prog W=.ok () a/\dc a p {c with ct:=x}/\cl (λb=>b=p) W a:=by
 refine⟨W.setCell ⟨p,2,none⟩ (.int .u32 x),by simp[go_sem,h,QT],?_,(cl.refl (λb=>b=p) W).setCell (.inl rfl) _ _⟩;show hp _ p=_;rw[gQ,if_pos rfl,h,eN,List.setIfInBounds_toArray];congr 3
def MG{W:World}{p:Nat}{c:Cm}(x:Int)(h:dc W p c):∃a,(Instr.storeAt 27 (.pointer (some ⟨p,3,none⟩)) (.int .u64 x)).run Tryz.prog W=.ok () a/\dc a p {c with num:=x}/\cl (λb=>b=p) W a:=by
 refine⟨W.setCell ⟨p,3,none⟩ (.int .u64 x),by simp[go_sem,h,QO],?_,(cl.refl (λb=>b=p) W).setCell (.inl rfl) _ _⟩;show hp _ p=_;rw[gQ,if_pos rfl,h,eN,List.setIfInBounds_toArray];congr 3
def Pd{W:World}{p:Nat}{c:Cm}(x:Int)(h:dc W p c):∃a,(Instr.storeAt 2 (.pointer (some ⟨p,4,none⟩)) (.int .i64 x)).run Tryz.prog W=.ok () a/\dc a p {c with amt:=x}/\cl (λb=>b=p) W a:=by
 refine⟨W.setCell ⟨p,4,none⟩ (.int .i64 x),by simp[go_sem,h,QP],?_,(cl.refl (λb=>b=p) W).setCell (.inl rfl) _ _⟩;show hp _ p=_;rw[gQ,if_pos rfl,h,eN,List.setIfInBounds_toArray];congr 3
def Mx{W:World}{p:Nat}{c:Cm}(x:Bool)(h:dc W p c):∃a,(Instr.storeAt 4 (.pointer (some ⟨p,30,none⟩)) (.bool x)).run Tryz.prog W=.ok () a/\dc a p {c with on:=x}/\cl (λb=>b=p) W a:=by
 refine⟨W.setCell ⟨p,30,none⟩ (.bool x),by simp[go_sem,h,Ij],?_,(cl.refl (λb=>b=p) W).setCell (.inl rfl) _ _⟩;show hp _ p=_;rw[gQ,if_pos rfl,h,eN,List.setIfInBounds_toArray];congr 3;rw[show 30=30+0 from rfl,ti];rfl
def Su{W:World}{p:Nat}{c:Cm}(x:Bool)(h:dc W p c):∃a,(Instr.storeAt 4 (.pointer (some ⟨p,31,none⟩)) (.bool x)).run Tryz.prog W=.ok () a/\dc a p {c with buy:=x}/\cl (λb=>b=p) W a:=by
 refine⟨W.setCell ⟨p,31,none⟩ (.bool x),by simp[go_sem,h,Ir],?_,(cl.refl (λb=>b=p) W).setCell (.inl rfl) _ _⟩;show hp _ p=_;rw[gQ,if_pos rfl,h,eN,List.setIfInBounds_toArray];congr 3;rw[show 31=30+1 from rfl,ti];rfl
def ML{W:World}{p:Nat}{c:Cm}(x:Int)(h:dc W p c):∃a,(Instr.storeAt 2 (.pointer (some ⟨p,33,none⟩)) (.int .i64 x)).run Tryz.prog W=.ok () a/\dc a p {c with price:=x}/\cl (λb=>b=p) W a:=by
 refine⟨W.setCell ⟨p,33,none⟩ (.int .i64 x),by simp[go_sem,h,Jj],?_,(cl.refl (λb=>b=p) W).setCell (.inl rfl) _ _⟩;show hp _ p=_;rw[gQ,if_pos rfl,h,eN,List.setIfInBounds_toArray];congr 3;rw[show 33=30+3 from rfl,ti];rfl
def Kg{W:World}{p:Nat}{c:Cm}(x:Int)(h:dc W p c):∃a,(Instr.storeAt 2 (.pointer (some ⟨p,34,none⟩)) (.int .i64 x)).run Tryz.prog W=.ok () a/\dc a p {c with qty:=x}/\cl (λb=>b=p) W a:=by
 refine⟨W.setCell ⟨p,34,none⟩ (.int .i64 x),by simp[go_sem,h,I6],?_,(cl.refl (λb=>b=p) W).setCell (.inl rfl) _ _⟩;show hp _ p=_;rw[gQ,if_pos rfl,h,eN,List.setIfInBounds_toArray];congr 3;rw[show 34=30+4 from rfl,ti];rfl
def Oo{W:World}{p:Nat}{c:Cm}{K:World->Prop}(s:Sp)(h:dc W p c)(g:∀a,dc a p {c with spec:=s}->cl (λb=>b=p) W a->K a):fV Tryz.prog (ej 38 (.pointer (some ⟨p,5,none⟩)) (.agg (dl s).toArray)) W K:=by
 refine iu ry (cJ s) h (by rw[List.size_toArray,kr,cJ];omega) (ko s) (g _ ?_ ((cl.refl (λb=>b=p) W).setRow (.inl rfl) _));show hp _ p=_
 have e:iJ (lG c).toArray.toList 5 (dl s)=lG {c with spec:=s}:=by
  show iJ (lG c) 5 (dl s)=_
  have d:(lG c).drop (5+(dl s).length)=[.bool c.on,.bool c.buy,.int .u8 c.ty,.int .i64 c.price,.int .i64 c.qty]:=by
   rw[cJ,<-cJ c.spec,<-List.drop_drop];show(dl c.spec++_).drop _=_;rw[List.drop_left]
  unfold iJ;rw[d];rfl
 have i:hp (W.setRow p (iJ (lG c).toArray.toList 5 (dl s)).toArray) p=some (.cells (iJ (lG c).toArray.toList 5 (dl s)).toArray mZ (0,0)):=by
  show(W.setRow p _).heap[p]? =_;have f:W.heap[p]? =some (.cells (lG c).toArray mZ (0,0)):=h;rw[dw,if_pos rfl,f]
 rw[i,e]
def Ev{W:World}{p:Nat}{c:Cm}{K:World->Prop}(d:Cm)(h:dc W p c)(f:∀a,dc a p d->cl (λb=>b=p) W a->K a):fV Tryz.prog (ej mZ (.pointer (some ⟨p,0,none⟩)) (AN d)) W K:=by
 refine iu Tg (kr d) h (by rw[List.size_toArray,kr,kr];omega) (Iv d) (f _ ?_ ((cl.refl (λb=>b=p) W).setRow (.inl rfl) _));show hp _ p=_
 have g:hp (W.setRow p (iJ (lG c).toArray.toList 0 (lG d)).toArray) p=some (.cells (iJ (lG c).toArray.toList 0 (lG d)).toArray mZ (0,0)):=by
  show(W.setRow p _).heap[p]? =_;have e:W.heap[p]? =some (.cells (lG c).toArray mZ (0,0)):=h;rw[dw,if_pos rfl,e]
 rw[g,iZ (by show(lG d).length=(lG c).length;rw[kr,kr])]
def Kc{W:World}{K:cm}(b:∀a,dc a W.heap.size jp->cl (λ_=>False) W a->K (.pointer (some ⟨W.heap.size,0,none⟩)) a):rx Tryz.prog (ic mZ) W K:=by
 refine jI SH ?_;rw[EA];exact b _ (by show hp _ _=_;simp[go_sem]) ((cl.refl _ W).alloc _)
def Ix(k:Int):Tryz.prog.built mZ [(0,.int .u8 k)]=some (lG {jp with kind:=k}).toArray:=by
 have h1:∀a,Tryz.prog.built mZ a=Instr.fill (λi=>#[(0,1),(1,1),(2,1),(3,1),(4,1),(5,25),(30,1),(31,1),(32,1),(33,1),(34,1)][i]?) (lg Tryz.prog mZ).toArray a:=λa=>by kernel_rfl
 rw[h1,EA];rw[oQ (off:=0) (size:=1) rfl rfl (by rw[kr];omega),uv];rfl
def HO:Tryz.prog.built 38 []=some (dl ke).toArray:=by kernel_rfl
set_option maxRecDepth 10000 in
set_option maxHeartbeats 4000000 in
def JB{x:Cm}{w:World}{K:cm}(hK:∀s,cl (λ_=>False) w s->K (AN x.bare) s):Ca Tryz.prog 106 #[AN x] w K:=by
 apply Qc;obtain⟨w1,e1,b1,m1⟩:=B5 x w;refine ck e1 ?_;obtain⟨p,hp0⟩:∃p,p=w.heap.size:=⟨_,rfl⟩
 rw[<-hp0]at b1|-;refine Kc λw2 b2 m2=>?_;obtain⟨z,hz0⟩:∃z,z=w1.heap.size:=⟨_,rfl⟩
 rw[<-hz0]at b2|-;have c2:dc w2 p x:=m2.hpk b1 id;refine ck (Dw _) (ck (DD c2) ?_);refine mw (Ix x.kind) ?_;refine Kc λw3 b3 m3=>?_;obtain⟨q,hq0⟩:∃q,q=w2.heap.size:=⟨_,rfl⟩
 rw[<-hq0]at b3|-;have hpz:p<z:=by have:=cn b1;omega
 have hzq:z<q:=by have:=cn b2;omega
 refine Ev {jp with kind:=x.kind} b3 λa R m4=>?_;have P:dc a p x:=m4.hpk (m3.hpk c2 id) (by omega);have N:dc a z jp:=m4.hpk (m3.hpk b2 id) (by omega);have M4:cl (λy=>y=z\/y=q) w a:=(((m1.trans m2).trans m3).mono λ_ _ h=>h.elim).trans (m4.mono λy _ g=>.inr g);clear b1 b2 b3 c2 e1 m1 m2 m3 m4;refine ck (Dw _) (ck (DD P) ?_)
 have r:∀(b:Cm) (W:World),x.bare=b->dc W q b->dc W z jp->cl (λy=>y=z\/y=q) a W->rx Tryz.prog (dm mZ (.pointer (some ⟨q,0,none⟩))) W λv32 w33=>fV Tryz.prog (ej mZ (.pointer (some ⟨z,0,none⟩)) v32) w33 λw34=>iw Tryz.prog (dm mZ (.pointer (some ⟨z,0,none⟩))) w34 λv35=>K v35 w34:=by
  intro b W hb h1 h2 hm;refine fM (yD h1) ?_;refine Ev b h2 λW2 a2 n2=>?_;refine jk (yD a2) ?_;rw[<-hb];exact hK W2 ((cl.refl (λ_=>False) w).on ((M4.trans hm).trans (n2.mono λy _ g=>.inl g)) λy g=>.inr (by rcases g with g|g<;>omega))
 have e:z≠q:=by omega
 have f:p≠q:=by omega
 refine cy.at (λst W=>st=(.bool (decide (x.kind=1\/x.kind=2)),())/\a=W) ?_ ?_
 ·by_cases h1:x.kind=1
  ·refine ck (v:=.bool true) (w' :=a) (by simp[go_sem,h1]) ?_;rw[ci,if_pos rfl];exact⟨by simp[h1],rfl⟩
  ·refine ck (v:=.bool false) (w' :=a) (by simp[go_sem,h1]) ?_;rw[ci,if_neg Bool.false_ne_true];refine ck (v:=.bool (decide (x.kind=2))) (w' :=a) (by simp[go_sem];rfl) ?_;exact⟨by simp[h1],rfl⟩
 rintro _ _ ⟨rfl,rfl⟩;unfold E0;intro _;by_cases n:x.kind=1\/x.kind=2
 ·rw[ci,if_pos (decide_eq_true n)];have c:x.bare={jp with kind:=x.kind,acct:=x.acct,amt:=x.amt}:=by unfold Cm.bare;simp only;rw[if_pos n]
  have d:cl (λ_=>False) a a.drew:=(cl.refl _ a).drew;have i:dc a.drew p x:=d.hpk P id;have t:dc a.drew q {jp with kind:=x.kind}:=d.hpk R id;have u:dc a.drew z jp:=d.hpk N id;have B:cl (λy=>y=z\/y=q) a a.drew:=d.mono λ_ _ h=>h.elim
  try dsimp only
  generalize a.drew=w5 at d i t u B|-;refine co pz (cB (yW i) ?_);refine co Ja (cB (Mw i) ?_);refine co pz ?_;obtain⟨l,C,A,j⟩:=AQ x.acct t;have o:dc l p x:=j.hpk i f;have J:dc l z jp:=j.hpk u e;have G:cl (λy=>y=z\/y=q) a l:=B.trans (j.mono λy _ g=>.inr g);refine dt C ⟨Mw o,?_⟩;refine co Ja ?_;obtain⟨k,E,D,m⟩:=Pd x.amt A;have M:dc k p x:=m.hpk o f;have H:dc k z jp:=m.hpk J e;have F:cl (λy=>y=z\/y=q) a k:=G.trans (m.mono λy _ g=>.inr g);refine dt E ?_;exact r _ k c D H F
 rw[ci,if_neg (by rw[decide_eq_true_eq];exact n)];by_cases L:x.kind=3
 ·refine ck (v:=.bool true) (w' :=a) (by simp[go_sem,L]) ?_;rw[ci,if_pos rfl];have c:x.bare={jp with kind:=x.kind,spec:=x.spec}:=by unfold Cm.bare;simp only;rw[if_neg n,if_pos L]
  refine ck (Jb _) ?_;refine eK (dl x.spec) 24 ve ry (cJ _) (K5 P) ?_;refine ck (Jb _) ?_;refine Oo x.spec R λl A j=>?_;exact r _ l c A (j.hpk N e) (j.mono λy _ g=>.inr g)
 refine ck (v:=.bool false) (w' :=a) (by simp[go_sem,L]) ?_;rw[ci,if_neg Bool.false_ne_true];by_cases O:x.kind=4
 ·refine ck (v:=.bool true) (w' :=a) (by simp[go_sem,O]) ?_;rw[ci,if_pos rfl];have c:x.bare={jp with kind:=x.kind,ct:=x.ct,on:=x.on}:=by unfold Cm.bare;simp only;rw[if_neg n,if_neg L,if_pos O]
  have d:cl (λ_=>False) a a.drew:=(cl.refl _ a).drew;have i:dc a.drew p x:=d.hpk P id;have t:dc a.drew q {jp with kind:=x.kind}:=d.hpk R id;have u:dc a.drew z jp:=d.hpk N id;have B:cl (λy=>y=z\/y=q) a a.drew:=d.mono λ_ _ h=>h.elim
  try dsimp only
  generalize a.drew=w5 at d i t u B|-;refine co vx (cB (Ab i) ?_);refine co GF (cB (IA i) ?_);refine co vx ?_;obtain⟨l,C,A,j⟩:=H5 x.ct t;have o:dc l p x:=j.hpk i f;have J:dc l z jp:=j.hpk u e;have G:cl (λy=>y=z\/y=q) a l:=B.trans (j.mono λy _ g=>.inr g);refine dt C ⟨IA o,?_⟩;refine co GF ?_;obtain⟨k,E,D,m⟩:=Mx x.on A;have M:dc k p x:=m.hpk o f;have H:dc k z jp:=m.hpk J e;have F:cl (λy=>y=z\/y=q) a k:=G.trans (m.mono λy _ g=>.inr g);refine dt E ?_;exact r _ k c D H F
 refine ck (v:=.bool false) (w' :=a) (by simp[go_sem,O]) ?_;rw[ci,if_neg Bool.false_ne_true];by_cases S:x.kind=5
 ·refine ck (v:=.bool true) (w' :=a) (by simp[go_sem,S]) ?_;rw[ci,if_pos rfl];have c:x.bare={x with num:=0,amt:=0,spec:=ke,on:=false}:=by unfold Cm.bare;simp only;rw[if_neg n,if_neg L,if_neg O,if_pos S]
  refine fM (yD P) ?_;refine Ev x R λw5 t m5=>?_;refine mw HO ?_;refine ck (Ib _) ?_;obtain⟨l,C,A,j⟩:=MG 0 t;refine dt C (ck (Ja _) ?_);obtain⟨k,E,D,m⟩:=Pd 0 A;refine dt E (ck (Jb _) ?_);refine Oo ke D λw8 q8 m8=>?_;refine ck (GF _) ?_;obtain⟨U,e9,q9,m9⟩:=Mx false q8;refine dt e9 ?_;have M9:cl (λy=>y=q) a U:=(((m5.trans j).trans m).trans m8).trans m9;exact r _ U c q9 (M9.hpk N e) (M9.mono λy _ g=>.inr g)
 refine ck (v:=.bool false) (w' :=a) (by simp[go_sem,S]) ?_;rw[ci,if_neg Bool.false_ne_true];by_cases V:x.kind=6
 ·refine ck (v:=.bool true) (w' :=a) (by simp[go_sem,V]) ?_;rw[ci,if_pos rfl];have c:x.bare={jp with kind:=x.kind,acct:=x.acct,num:=x.num}:=by unfold Cm.bare;simp only;rw[if_neg n,if_neg L,if_neg O,if_neg S,if_pos V]
  have d:cl (λ_=>False) a a.drew:=(cl.refl _ a).drew;have i:dc a.drew p x:=d.hpk P id;have t:dc a.drew q {jp with kind:=x.kind}:=d.hpk R id;have u:dc a.drew z jp:=d.hpk N id;have B:cl (λy=>y=z\/y=q) a a.drew:=d.mono λ_ _ h=>h.elim
  try dsimp only
  generalize a.drew=w5 at d i t u B|-;refine co pz (cB (yW i) ?_);refine co Ib (cB (Jr i) ?_);refine co pz ?_;obtain⟨l,C,A,j⟩:=AQ x.acct t;have o:dc l p x:=j.hpk i f;have J:dc l z jp:=j.hpk u e;have G:cl (λy=>y=z\/y=q) a l:=B.trans (j.mono λy _ g=>.inr g);refine dt C ⟨Jr o,?_⟩;refine co Ib ?_;obtain⟨k,E,D,m⟩:=MG x.num A;have M:dc k p x:=m.hpk o f;have H:dc k z jp:=m.hpk J e;have F:cl (λy=>y=z\/y=q) a k:=G.trans (m.mono λy _ g=>.inr g);refine dt E ?_;exact r _ k c D H F
 refine ck (v:=.bool false) (w' :=a) (by simp[go_sem,V]) ?_;rw[ci,if_neg Bool.false_ne_true];by_cases X:x.kind=7
 ·refine ck (v:=.bool true) (w' :=a) (by simp[go_sem,X]) ?_;rw[ci,if_pos rfl];have c:x.bare={jp with kind:=x.kind,acct:=x.acct,num:=x.num,price:=x.price,qty:=x.qty}:=by unfold Cm.bare;simp only;rw[if_neg n,if_neg L,if_neg O,if_neg S,if_neg V,if_pos X]
  have d:cl (λ_=>False) a a.drew:=(cl.refl _ a).drew;have i:dc a.drew p x:=d.hpk P id;have t:dc a.drew q {jp with kind:=x.kind}:=d.hpk R id;have u:dc a.drew z jp:=d.hpk N id;have B:cl (λy=>y=z\/y=q) a a.drew:=d.mono λ_ _ h=>h.elim
  try dsimp only
  generalize a.drew=w5 at d i t u B|-;refine co pz (cB (yW i) ?_);refine co Ib (cB (Jr i) ?_);refine co DT (cB (xd i) ?_);refine co CI (cB (qO i) ?_);refine co pz ?_;obtain⟨l,C,A,j⟩:=AQ x.acct t;have o:dc l p x:=j.hpk i f;have J:dc l z jp:=j.hpk u e;have G:cl (λy=>y=z\/y=q) a l:=B.trans (j.mono λy _ g=>.inr g);refine dt C ⟨qO o,xd o,Jr o,?_⟩;refine co Ib ?_;obtain⟨k,E,D,m⟩:=MG x.num A;have M:dc k p x:=m.hpk o f;have H:dc k z jp:=m.hpk J e;have F:cl (λy=>y=z\/y=q) a k:=G.trans (m.mono λy _ g=>.inr g);refine dt E ⟨qO M,xd M,?_⟩;refine co DT ?_;obtain⟨w8,e8,q8,m8⟩:=ML x.price D;have c8:dc w8 p x:=m8.hpk M f;have z8:dc w8 z jp:=m8.hpk H e;have M8:cl (λy=>y=z\/y=q) a w8:=F.trans (m8.mono λy _ g=>.inr g);refine dt e8 ⟨qO c8,?_⟩;refine co CI ?_;obtain⟨U,e9,q9,m9⟩:=Kg x.qty q8;have c9:dc U p x:=m9.hpk c8 f;have z9:dc U z jp:=m9.hpk z8 e;have M9:cl (λy=>y=z\/y=q) a U:=M8.trans (m9.mono λy _ g=>.inr g);refine dt e9 ?_;exact r _ U c q9 z9 M9
 refine ck (v:=.bool false) (w' :=a) (by simp[go_sem,X]) ?_;rw[ci,if_neg Bool.false_ne_true];by_cases Z:x.kind=8
 ·refine ck (v:=.bool true) (w' :=a) (by simp[go_sem,Z]) ?_;rw[ci,if_pos rfl];have c:x.bare={jp with kind:=x.kind,acct:=x.acct,ct:=x.ct}:=by unfold Cm.bare;simp only;rw[if_neg n,if_neg L,if_neg O,if_neg S,if_neg V,if_neg X,if_pos Z]
  have d:cl (λ_=>False) a a.drew:=(cl.refl _ a).drew;have i:dc a.drew p x:=d.hpk P id;have t:dc a.drew q {jp with kind:=x.kind}:=d.hpk R id;have u:dc a.drew z jp:=d.hpk N id;have B:cl (λy=>y=z\/y=q) a a.drew:=d.mono λ_ _ h=>h.elim
  try dsimp only
  generalize a.drew=w5 at d i t u B|-;refine co pz (cB (yW i) ?_);refine co vx (cB (Ab i) ?_);refine co pz ?_;obtain⟨l,C,A,j⟩:=AQ x.acct t;have o:dc l p x:=j.hpk i f;have J:dc l z jp:=j.hpk u e;have G:cl (λy=>y=z\/y=q) a l:=B.trans (j.mono λy _ g=>.inr g);refine dt C ⟨Ab o,?_⟩;refine co vx ?_;obtain⟨k,E,D,m⟩:=H5 x.ct A;have M:dc k p x:=m.hpk o f;have H:dc k z jp:=m.hpk J e;have F:cl (λy=>y=z\/y=q) a k:=G.trans (m.mono λy _ g=>.inr g);refine dt E ?_;exact r _ k c D H F
 refine ck (v:=.bool false) (w' :=a) (by simp[go_sem,Z]) ?_;rw[ci,if_neg Bool.false_ne_true];by_cases h9:x.kind=9
 ·refine ck (v:=.bool true) (w' :=a) (by simp[go_sem,h9]) ?_;rw[ci,if_pos rfl];have c:x.bare={jp with kind:=x.kind,acct:=x.acct,ct:=x.ct,buy:=x.buy,price:=x.price,qty:=x.qty}:=by unfold Cm.bare;simp only;rw[if_neg n,if_neg L,if_neg O,if_neg S,if_neg V,if_neg X,if_neg Z,if_pos h9]
  have d:cl (λ_=>False) a a.drew:=(cl.refl _ a).drew;have i:dc a.drew p x:=d.hpk P id;have t:dc a.drew q {jp with kind:=x.kind}:=d.hpk R id;have u:dc a.drew z jp:=d.hpk N id;have B:cl (λy=>y=z\/y=q) a a.drew:=d.mono λ_ _ h=>h.elim
  try dsimp only
  generalize a.drew=w5 at d i t u B|-;refine co pz (cB (yW i) ?_);refine co vx (cB (Ab i) ?_);refine co Ov (cB (Mc i) ?_);refine co DT (cB (xd i) ?_);refine co CI (cB (qO i) ?_);refine co pz ?_;obtain⟨l,C,A,j⟩:=AQ x.acct t;have o:dc l p x:=j.hpk i f;have J:dc l z jp:=j.hpk u e;have G:cl (λy=>y=z\/y=q) a l:=B.trans (j.mono λy _ g=>.inr g);refine dt C ⟨qO o,xd o,Mc o,Ab o,?_⟩;refine co vx ?_;obtain⟨k,E,D,m⟩:=H5 x.ct A;have M:dc k p x:=m.hpk o f;have H:dc k z jp:=m.hpk J e;have F:cl (λy=>y=z\/y=q) a k:=G.trans (m.mono λy _ g=>.inr g);refine dt E ⟨qO M,xd M,Mc M,?_⟩;refine co Ov ?_;obtain⟨w8,e8,q8,m8⟩:=Su x.buy D;have c8:dc w8 p x:=m8.hpk M f;have z8:dc w8 z jp:=m8.hpk H e;have M8:cl (λy=>y=z\/y=q) a w8:=F.trans (m8.mono λy _ g=>.inr g);refine dt e8 ⟨qO c8,xd c8,?_⟩;refine co DT ?_;obtain⟨U,e9,q9,m9⟩:=ML x.price q8;have c9:dc U p x:=m9.hpk c8 f;have z9:dc U z jp:=m9.hpk z8 e;have M9:cl (λy=>y=z\/y=q) a U:=M8.trans (m9.mono λy _ g=>.inr g);refine dt e9 ⟨qO c9,?_⟩;refine co CI ?_;obtain⟨w10,e10,q10,m10⟩:=Kg x.qty q9;have c10:dc w10 p x:=m10.hpk c9 f;have z10:dc w10 z jp:=m10.hpk z9 e;have M10:cl (λy=>y=z\/y=q) a w10:=M9.trans (m10.mono λy _ g=>.inr g);refine dt e10 ?_;exact r _ w10 c q10 z10 M10
 refine ck (v:=.bool false) (w' :=a) (by simp[go_sem,h9]) ?_;rw[ci,if_neg Bool.false_ne_true];by_cases I:x.kind=10
 ·refine ck (v:=.bool true) (w' :=a) (by simp[go_sem,I]) ?_;rw[ci,if_pos rfl];have c:x.bare={jp with kind:=x.kind,acct:=x.acct,on:=x.on}:=by unfold Cm.bare;simp only;rw[if_neg n,if_neg L,if_neg O,if_neg S,if_neg V,if_neg X,if_neg Z,if_neg h9,if_pos I]
  have d:cl (λ_=>False) a a.drew:=(cl.refl _ a).drew;have i:dc a.drew p x:=d.hpk P id;have t:dc a.drew q {jp with kind:=x.kind}:=d.hpk R id;have u:dc a.drew z jp:=d.hpk N id;have B:cl (λy=>y=z\/y=q) a a.drew:=d.mono λ_ _ h=>h.elim
  try dsimp only
  generalize a.drew=w5 at d i t u B|-;refine co pz (cB (yW i) ?_);refine co GF (cB (IA i) ?_);refine co pz ?_;obtain⟨l,C,A,j⟩:=AQ x.acct t;have o:dc l p x:=j.hpk i f;have J:dc l z jp:=j.hpk u e;have G:cl (λy=>y=z\/y=q) a l:=B.trans (j.mono λy _ g=>.inr g);refine dt C ⟨IA o,?_⟩;refine co GF ?_;obtain⟨k,E,D,m⟩:=Mx x.on A;have M:dc k p x:=m.hpk o f;have H:dc k z jp:=m.hpk J e;have F:cl (λy=>y=z\/y=q) a k:=G.trans (m.mono λy _ g=>.inr g);refine dt E ?_;exact r _ k c D H F
 refine ck (v:=.bool false) (w' :=a) (by simp[go_sem,I]) ?_;rw[ci,if_neg Bool.false_ne_true];by_cases Q:x.kind=11
 ·refine ck (v:=.bool true) (w' :=a) (by simp[go_sem,Q]) ?_;rw[ci,if_pos rfl];have c:x.bare={jp with kind:=x.kind,ct:=x.ct,price:=x.price}:=by unfold Cm.bare;simp only;rw[if_neg n,if_neg L,if_neg O,if_neg S,if_neg V,if_neg X,if_neg Z,if_neg h9,if_neg I,if_pos Q]
  have d:cl (λ_=>False) a a.drew:=(cl.refl _ a).drew;have i:dc a.drew p x:=d.hpk P id;have t:dc a.drew q {jp with kind:=x.kind}:=d.hpk R id;have u:dc a.drew z jp:=d.hpk N id;have B:cl (λy=>y=z\/y=q) a a.drew:=d.mono λ_ _ h=>h.elim
  try dsimp only
  generalize a.drew=w5 at d i t u B|-;refine co vx (cB (Ab i) ?_);refine co DT (cB (xd i) ?_);refine co vx ?_;obtain⟨l,C,A,j⟩:=H5 x.ct t;have o:dc l p x:=j.hpk i f;have J:dc l z jp:=j.hpk u e;have G:cl (λy=>y=z\/y=q) a l:=B.trans (j.mono λy _ g=>.inr g);refine dt C ⟨xd o,?_⟩;refine co DT ?_;obtain⟨k,E,D,m⟩:=ML x.price A;have M:dc k p x:=m.hpk o f;have H:dc k z jp:=m.hpk J e;have F:cl (λy=>y=z\/y=q) a k:=G.trans (m.mono λy _ g=>.inr g);refine dt E ?_;exact r _ k c D H F
 refine ck (v:=.bool false) (w' :=a) (by simp[go_sem,Q]) ?_;rw[ci,if_neg Bool.false_ne_true];by_cases T:x.kind=13
 ·refine ck (v:=.bool true) (w' :=a) (by simp[go_sem,T]) ?_;rw[ci,if_pos rfl];have c:x.bare={jp with kind:=x.kind,acct:=x.acct}:=by unfold Cm.bare;simp only;rw[if_neg n,if_neg L,if_neg O,if_neg S,if_neg V,if_neg X,if_neg Z,if_neg h9,if_neg I,if_neg Q,if_pos T]
  refine ck (pz _) (ck (yW P) (ck (pz _) ?_));obtain⟨l,C,A,j⟩:=AQ x.acct R;refine dt C ?_;exact r _ l c A (j.hpk N e) (j.mono λy _ g=>.inr g)
 refine ck (v:=.bool false) (w' :=a) (by simp[go_sem,T]) ?_;rw[ci,if_neg Bool.false_ne_true];by_cases Y:x.kind=14
 ·refine ck (v:=.bool true) (w' :=a) (by simp[go_sem,Y]) ?_;rw[ci,if_pos rfl];have c:x.bare={jp with kind:=x.kind,ct:=x.ct}:=by unfold Cm.bare;simp only;rw[if_neg n,if_neg L,if_neg O,if_neg S,if_neg V,if_neg X,if_neg Z,if_neg h9,if_neg I,if_neg Q,if_neg T,if_pos Y]
  refine ck (vx _) (ck (Ab P) (ck (vx _) ?_));obtain⟨l,C,A,j⟩:=H5 x.ct R;refine dt C ?_;exact r _ l c A (j.hpk N e) (j.mono λy _ g=>.inr g)
 refine ck (v:=.bool false) (w' :=a) (by simp[go_sem,Y]) ?_;rw[ci,if_neg Bool.false_ne_true];have c:x.bare={jp with kind:=x.kind}:=by unfold Cm.bare;simp only;rw[if_neg n,if_neg L,if_neg O,if_neg S,if_neg V,if_neg X,if_neg Z,if_neg h9,if_neg I,if_neg Q,if_neg T,if_neg Y]
 exact r _ a c R N (cl.refl _ _)
def sK{P:Program}{w:World}{e:TypeId}(g:P.underlying e=some (.int .i64))(d:Nat)(x y:List Int)(o:x.length=y.length):∀(k i:Nat),i+k=x.length->
  (Op.eqItems (d+1) e 1 (x.map λn=>Value.int .i64 n).toArray (y.map λn=>Value.int .i64 n).toArray (List.range' i k)).run P w=.ok (decide (x.drop i=y.drop i)) w
 |0,i,h=>by
  have h1:x.drop i=[]:=List.drop_of_length_le (by omega);have c:y.drop i=[]:=List.drop_of_length_le (by omega);simp[Op.eqItems,h1,c]
 |k+1,i,h=>by
  have m:i<x.length:=by omega
  have l:i<y.length:=by omega
  have a:∀(z:List Int) (j:i<z.length),(part e (z.map λn=>Value.int .i64 n).toArray (i*1)).run P w=.ok (.int .i64 z[i]) w:=by
   intro z j
   have h1:(z.map λn=>Value.int .i64 n).toArray[i]? =some (.int .i64 z[i]):=by
    rw[List.getElem?_toArray,List.getElem?_map,List.getElem?_eq_getElem j];rfl
   have c:(isAgg e).run P w=.ok false w:=by
    unfold isAgg;simp[run_underlying g,Result.andThen]
   simp[part,c,Result.andThen,h1]
  rw[List.range'_succ];unfold Op.eqItems;simp only[Sem.run_bind,a x m,a y l,Result.andThen];rw[run_equalIn_int w d e .i64 .i64 _ _ g];rw[List.drop_eq_getElem_cons m,List.drop_eq_getElem_cons l];by_cases b:x[i]=y[i]
  ·have f:(x[i]==y[i])=true:=by simp[b]
   simp only[f,b,List.cons.injEq,true_and];have:=sK (w:=w) g d x y o k (i+1) (by omega);simpa using this
  ·have f:(x[i]==y[i])=false:=by simpa using b
   simp only[f,List.cons.injEq,b,false_and,decide_false];simp
set_option maxRecDepth 10000 in
def Oe(x y:Vector Int 16)(d:Nat)(w:World):(Op.equalIn (d+2) 36 (.agg (Cz x).toArray) (.agg (Cz y).toArray)).run Tryz.prog w=.ok (decide (x=y)) w:=by
 obtain⟨g,b,-⟩:=jN (P:=Tryz.prog) (t:=2) (n:=0) (by kernel_rfl);have c:Tryz.prog.underlying 36=some (.array 16 2):=by kernel_rfl
 have f:Tryz.prog.cellsOf 2=1:=by kernel_rfl
 rw[run_equalIn_array w (d+1) _ _ c b,f];have:=sK (P:=Tryz.prog) (w:=w) (e:=2) (by kernel_rfl) d x.toList y.toList (by simp) 16 0 (by simp);rw[List.range_eq_range'];show(Op.eqItems (d+1) _ 1 (x.toList.map λn=>Value.int .i64 n).toArray (y.toList.map λn=>Value.int .i64 n).toArray (List.range' 0 16)).run Tryz.prog w=_;rw[this];congr 1
 have a:(x.toList=y.toList)↔x=y:=by
  constructor
  ·intro h;exact Vector.toList_inj.1 h
  ·rintro rfl;rfl
 simp only[List.drop_zero];exact decide_eq_decide.2 a
def gH{P:Program}{w:World}{d:Nat}{xs c:Array Value}{f:Field}{g:List Field}{a b:Value}{r e:Bool}(j:f.name≠ "_")(h1:(part f.type xs f.offset).run P w=.ok a w)(h:(part f.type c f.offset).run P w=.ok b w)
  (k:(Op.equalIn d f.type a b).run P w=.ok r w)(i:(Op.eqFields d xs c g).run P w=.ok e w):(Op.eqFields d xs c (f::g)).run P w=.ok (r&& e) w:=by
 simp only[Op.eqFields,j,ne_eq,not_false_eq_true,if_true,Sem.run_bind,h1,h,k,Result.andThen_ok];cases r
 ·simp
 ·simpa using i
def E3{P:Program}{w:World}{b:Nat}{xs a:Array Value}:(Op.eqFields b xs a []).run P w=.ok true w:=by simp[Op.eqFields]
def er{P:Program}{w:World}{e:TypeId}{l:List Value}{off:Nat}{v:Value}(a:P.plainKey e=true)(h:l[off]? =some v):(part e l.toArray off).run P w=.ok v w:=run_part_plain w a (by simpa using h)
def wq{P:Program}{w:World}{e:TypeId}{l m:List Value}{off n:Nat}(a:iD P e=true)(b:P.cellsOf e=n+1)(h:(l.drop off).take (n+1)=m):(part e l.toArray off).run P w=.ok (.agg m.toArray) w:=by
 have c:l.toArray.extract off (off+(n+1))=m.toArray:=by
  apply Array.ext';rw[Array.toList_extract];simp[List.extract,h]
 simp[part,rM a,Go.Vc.fY b,Result.andThen,h]
def eqB(x y:Bool)(d:Nat)(w:World):(Op.equalIn (d+1) 4 (.bool x) (.bool y)).run Tryz.prog w=.ok (x==y) w:=by
 have a:Tryz.prog.underlying 4=some .bool:=by kernel_rfl
 simp[Op.equalIn,run_underlying a,Result.andThen]
set_option maxRecDepth 10000 in
def Lp(a b:Sp)(d:Nat)(w:World):(Op.equalIn (d+3) 38 (.agg (dl a).toArray) (.agg (dl b).toArray)).run Tryz.prog w=.ok (decide (a=b)) w:=by
 have u:Tryz.prog.underlying 38=some (.struct (Tryz.prog.fieldsOf 38)):=by kernel_rfl
 have h:Tryz.prog.stoodInHeld 38=false:=by kernel_rfl
 rw[run_equalIn_struct w (d+2) 38 _ _ u h];unfold Program.fieldsOf;rw[Tryz.underlying38];have g:∀s:Sp,((dl s).drop 6).take 16=Cz s.shifts:=oG
 have c:∀s:Sp,(dl s)[22]? =some (.int .i64 s.credit)/\(dl s)[23]? =some (.int .u32 s.last)/\(dl s)[24]? =some (.int .i64 s.first):=λs=>by
  have key:∀i,(dl s)[22+i]? =([.int .i64 s.credit,.int .u32 s.last,.int .i64 s.first]:List Value)[i]? :=λi=>by
   unfold dl;rw[List.getElem?_append_right (by show 6<=22+i;omega),List.getElem?_append_right (by rw[lr];show 16<=22+i - 6;omega),lr];congr 1;show 22+i - 6 - 16=i;omega
  exact⟨key 0,key 1,key 2⟩
 have e:∀(t:TypeId) (q:IntKind) (x y:Int),Tryz.prog.underlying t=some (.int q)->(Op.equalIn (d+2) t (.int q x) (.int q y)).run Tryz.prog w=.ok (x==y) w:=λt q x y l=>run_equalIn_int w (d+1) t q q x y l
 have f:decide (a=b)=((a.num==b.num)&& ((a.route==b.route)&& ((a.tick==b.tick)&& ((a.lot==b.lot)&& ((a.band==b.band)&& ((a.limit==b.limit)&& (decide (a.shifts=b.shifts)&& ((a.credit==b.credit)&& ((a.last==b.last)&& ((a.first==b.first)&& true)))))))))):=by
  obtain⟨J,K,A,D,B,I,r,m,F,k⟩:=a;obtain⟨o,G,z,H,p,v,E,b8,C,j⟩:=b;rw[Bool.eq_iff_iff];simp[Sp.mk.injEq]
 rw[f];refine gH (by decide) (er (by kernel_rfl) rfl) (er (by kernel_rfl) rfl) (e _ _ _ _ (by kernel_rfl)) ?_;refine gH (by decide) (er (by kernel_rfl) rfl) (er (by kernel_rfl) rfl) (e _ _ _ _ (by kernel_rfl)) ?_;refine gH (by decide) (er (by kernel_rfl) rfl) (er (by kernel_rfl) rfl) (e _ _ _ _ (by kernel_rfl)) ?_;refine gH (by decide) (er (by kernel_rfl) rfl) (er (by kernel_rfl) rfl) (e _ _ _ _ (by kernel_rfl)) ?_;refine gH (by decide) (er (by kernel_rfl) rfl) (er (by kernel_rfl) rfl) (e _ _ _ _ (by kernel_rfl)) ?_;refine gH (by decide) (er (by kernel_rfl) rfl) (er (by kernel_rfl) rfl) (e _ _ _ _ (by kernel_rfl)) ?_;refine gH (by decide) (wq (n:=15) (by kernel_rfl) (by kernel_rfl) (g a)) (wq (n:=15) (by kernel_rfl) (by kernel_rfl) (g b)) (Oe a.shifts b.shifts d w) ?_;refine gH (by decide) (er (by kernel_rfl) (c a).1) (er (by kernel_rfl) (c b).1) (e _ _ _ _ (by kernel_rfl)) ?_;refine gH (by decide) (er (by kernel_rfl) (c a).2.1) (er (by kernel_rfl) (c b).2.1) (e _ _ _ _ (by kernel_rfl)) ?_;refine gH (by decide) (er (by kernel_rfl) (c a).2.2) (er (by kernel_rfl) (c b).2.2) (e _ _ _ _ (by kernel_rfl)) ?_;exact E3
def NK(c:Cm):((lG c).drop 5).take 25=dl c.spec:=by
 show(dl c.spec++_).take 25=_;rw[<-cJ c.spec,List.take_left]
set_option maxRecDepth 100000 in
def OF(a b:Cm)(w:World):(Op.equalIn 10000 mZ (AN a) (AN b)).run Tryz.prog w=.ok (decide (a=b)) w:=by
 have u:Tryz.prog.underlying mZ=some (.struct (Tryz.prog.fieldsOf mZ)):=by kernel_rfl
 have h:Tryz.prog.stoodInHeld mZ=false:=by kernel_rfl
 unfold AN;rw[run_equalIn_struct w 9999 mZ _ _ u h];unfold Program.fieldsOf;rw[Tryz.underlying41];have c:∀(t:TypeId) (q:IntKind) (x y:Int),Tryz.prog.underlying t=some (.int q)->(Op.equalIn 9999 t (.int q x) (.int q y)).run Tryz.prog w=.ok (x==y) w:=λt q x y j=>run_equalIn_int w 9998 t q q x y j
 have d:decide (a=b)=((a.kind==b.kind)&& ((a.acct==b.acct)&& ((a.ct==b.ct)&& ((a.num==b.num)&& ((a.amt==b.amt)&& (decide (a.spec=b.spec)&& ((a.on==b.on)&& ((a.buy==b.buy)&& ((a.ty==b.ty)&& ((a.price==b.price)&& ((a.qty==b.qty)&& true))))))))))):=by
  obtain⟨G,H,s,A,v,F,o,k,C,g,i⟩:=a;obtain⟨l,D,r,E,m,p,B,b8,z,f,e⟩:=b;rw[Bool.eq_iff_iff];simp[Cm.mk.injEq]
 rw[d];refine gH (by decide) (er (by kernel_rfl) (Rn a)) (er (by kernel_rfl) (Rn b)) (c _ _ _ _ (by kernel_rfl)) ?_;refine gH (by decide) (er (by kernel_rfl) (QK a)) (er (by kernel_rfl) (QK b)) (c _ _ _ _ (by kernel_rfl)) ?_;refine gH (by decide) (er (by kernel_rfl) (QT a)) (er (by kernel_rfl) (QT b)) (c _ _ _ _ (by kernel_rfl)) ?_;refine gH (by decide) (er (by kernel_rfl) (QO a)) (er (by kernel_rfl) (QO b)) (c _ _ _ _ (by kernel_rfl)) ?_;refine gH (by decide) (er (by kernel_rfl) (QP a)) (er (by kernel_rfl) (QP b)) (c _ _ _ _ (by kernel_rfl)) ?_;refine gH (by decide) (wq (n:=24) (by kernel_rfl) (by kernel_rfl) (NK a)) (wq (n:=24) (by kernel_rfl) (by kernel_rfl) (NK b)) (Lp a.spec b.spec 9996 w) ?_;refine gH (by decide) (er (by kernel_rfl) (Ij a)) (er (by kernel_rfl) (Ij b)) (eqB _ _ 9998 w) ?_;refine gH (by decide) (er (by kernel_rfl) (Ir a)) (er (by kernel_rfl) (Ir b)) (eqB _ _ 9998 w) ?_;refine gH (by decide) (er (by kernel_rfl) (PU a)) (er (by kernel_rfl) (PU b)) (c _ _ _ _ (by kernel_rfl)) ?_;refine gH (by decide) (er (by kernel_rfl) (Jj a)) (er (by kernel_rfl) (Jj b)) (c _ _ _ _ (by kernel_rfl)) ?_;refine gH (by decide) (er (by kernel_rfl) (I6 a)) (er (by kernel_rfl) (I6 b)) (c _ _ _ _ (by kernel_rfl)) ?_;exact E3
def LV(a b:Cm)(w:World):(nE .eql mZ false (AN a) (AN b)).run Tryz.prog w=.ok (.bool (decide (a=b))) w:=by
 have:=OF a b w;unfold AN at this|-;generalize(lG a).toArray=A at this;generalize(lG b).toArray=B at this;simp[go_sem,this,Result.andThen]
def Jf{x:Cm}{w:World}{K:cm}(u:x.Fit)(a:∀o,cl (λ_=>False) w o->K (.bool x.may) o):Ca Tryz.prog 42 #[AN x] w K:=by
 apply SN;obtain⟨d,y,n,t⟩:=B5 x w;refine ck y ?_;obtain⟨p,m⟩:∃p,p=w.heap.size:=⟨_,rfl⟩
 rw[<-m]at n|-;have b:cl (λ_=>False) d d.drew:=(cl.refl _ d).drew;have c:dc d.drew p x:=b.hpk n id;have g:=t.trans b
 try dsimp only
 generalize d.drew=r at b c g|-;have A:=a;unfold Cm.may at a;refine co Dw (cB (DD c) ?_);by_cases h1:1<=x.kind
 ·refine co (v:=.bool true) (λ_=>by simp[go_sem];omega) ?_;rw[ci,if_pos rfl];refine co Dw (cB (DD c) ?_);by_cases i:x.kind<=14
  ·refine co (v:=.bool true) (λ_=>by simp[go_sem];omega) ?_;rw[ci,if_pos rfl];refine jk (yD c) (jk (yD c) ?_);refine JB λj q=>?_;have l:dc j p x:=q.hpk c id;refine⟨yD l,?_⟩;have k:=g.trans q;refine co (LV x x.bare) ?_;by_cases e:x=x.bare
   ·rw[ci,if_pos (decide_eq_true e)];refine co Dw (cB (DD l) ?_);refine co (v:=.bool (decide (x.kind≠3))) (λ_=>by simp[go_sem];rfl) ?_;by_cases f:x.kind≠3
    ·rw[ci,if_pos (decide_eq_true f)];have:=a j k;rw[decide_eq_true ⟨h1,i⟩,decide_eq_true e,decide_eq_true f]at this;exact this
    ·rw[ci,if_neg (by rw[decide_eq_true_eq];exact f)];refine co Jb ?_;refine eX (dl x.spec) 24 ve ry (cJ _) (K5 l) ?_;refine qn u.2.2.2.2.2.1 λs z=>?_;have:=a s (k.trans z);rw[decide_eq_true ⟨h1,i⟩,decide_eq_true e,decide_eq_false f]at this;simpa using this
   ·rw[ci,if_neg (by rw[decide_eq_true_eq];exact e)];have:=a j k;rw[decide_eq_false e,Bool.and_false,Bool.false_and]at this;exact this
  ·refine co (v:=.bool false) (λ_=>by simp[go_sem];omega) ?_;rw[ci,if_neg Bool.false_ne_true];have:=a r g;rw[decide_eq_false (λh=>i h.2),Bool.false_and,Bool.false_and]at this;exact this
 ·refine co (v:=.bool false) (λ_=>by simp[go_sem];omega) ?_;rw[ci,if_neg Bool.false_ne_true];have:=a r g;rw[decide_eq_false (λh=>h1 h.1),Bool.false_and,Bool.false_and]at this;exact this
def gT.move{w w' :World}{v u c l mb md:Nat}{A:List (Int×Nat)}{D:List (Int×Value)}{k:Pt->Nat->Prop}{S:dx}(h:gT w u c l mb md A D k S)(o:∀p,p≠ .v->¬k p v)(q:hp w' v=some (.cells #[dK c,dn l,.map (some mb),.map (some md),.int .u64 S.next] pD (0,0)))(i:cl (λy=>y=v) w w'):
  gT w' v c l mb md A D (ph k .v λy=>y=v) S:=by
 have g:∀p,p≠ .v->∀y,k p y->¬y=v:=λp hp y r e=>o p hp (e▸r)
 refine⟨{
  blk:=q
  cal:=by rw[cZ (by simp)];exact h.cal.mod i (g .cal (by simp))
  led:=by rw[cZ (by simp)];exact h.led.mod i (g .led (by simp))
  mbk:=h.mbk.mod i (g .mb (by simp) _ ((h.fmb mb).2 rfl))
  mbd:=h.mbd.mod i (g .md (by simp) _ ((h.fmd md).2 rfl))
  bk:=λn b m=>by rw[cZ (by simp)];exact(h.bk n b m).mod i (g (.bk n) (by simp))
  nbk:=λn m=>by rw[cZ (by simp)];exact h.nbk n m
  bd:=λn=>(h.bd n).mod i λx s=>g (.bd n) (by simp) x ((h.fbd n x).2 s)
  fv:=λx=>by rw[eG]
  fmb:=by rw[cZ (by simp)];exact h.fmb
  fmd:=by rw[cZ (by simp)];exact h.fmd
  fbd:=λn x=>by rw[cZ (by simp)];exact h.fbd n x
  dj:=?_},h.dom,h.dod⟩
 intro a b x j d;by_cases h1:a=.v
 ·by_cases f:b=.v
  ·rw[h1,f]
  ·rw[h1,eG]at j;rw[cZ f]at d;exact absurd (j▸d) (o b f)
 ·by_cases f:b=.v
  ·rw[f,eG]at d;rw[cZ h1]at j;exact absurd (d▸j) (o a h1)
  ·rw[cZ h1]at j;rw[cZ f]at d;exact h.dj _ _ _ j d
def OH{W:World}{v c l mb md:Nat}{n:Int}(h:hp W v=some (.cells #[dK c,dn l,.map (some mb),.map (some md),.int .u64 n] pD (0,0))):(Instr.loadAt pD (.pointer (some ⟨v,0,none⟩))).run Tryz.prog W=.ok (.agg #[dK c,dn l,.map (some mb),.map (some md),.int .u64 n]) W:=by
 simp only[dK,dn]at h|-;simp[go_sem,h]
def Ny{W:World}{v c l mb md c' l' mb' md' :Nat}{n n' :Int}(h:hp W v=some (.cells #[dK c,dn l,.map (some mb),.map (some md),.int .u64 n] pD (0,0))):
  ∃a,(Instr.storeAt pD (.pointer (some ⟨v,0,none⟩)) (.agg #[dK c',dn l',.map (some mb'),.map (some md'),.int .u64 n'])).run Tryz.prog W=.ok () a/\hp a v=some (.cells #[dK c',dn l',.map (some mb'),.map (some md'),.int .u64 n'] pD (0,0))/\cl (λy=>y=v) W a:=by
 simp only[dK,dn]at h|-
 exact⟨((((W.setCell ⟨v,0,none⟩ (dK c')).setCell ⟨v,1,none⟩ (dn l')).setCell ⟨v,2,none⟩ (.map (some mb'))).setCell ⟨v,3,none⟩ (.map (some md'))).setCell ⟨v,4,none⟩ (.int .u64 n'),
  by simp[go_sem,h,dK,dn],by simp[go_sem,h,dK,dn],(((((cl.refl (λy=>y=v) W).setCell (.inl rfl) _ _).setCell (.inl rfl) _ _).setCell (.inl rfl) _ _).setCell (.inl rfl) _ _).setCell (.inl rfl) _ _⟩
def Im:Tryz.prog.underlying 44=some (.slice 92):=by kernel_rfl
def PF:eO Tryz.prog 92 4 24=true:=by kernel_rfl
def mQ{w:World}{K:cm}{gv:Value}{L:List Ac}(ht:jy gv (L.map λa=>[ii a]) w)(hl:L.length<=100000)
  (hK:∀c l,d7 l 92 4 c L.length (L.flatMap cM)->cl (λ_=>False) w l->(∀y,cv c y->w.heap.size<=y)->K c l):Ca Tryz.prog 54 #[gv] w K:=by
 apply SF;apply OG;obtain⟨p,u⟩:∃p,p=w.heap.size:=⟨_,rfl⟩
 have J:cl (λ_=>False) w (w.alloc (.cells #[cG] 44)):=(cl.refl _ w).alloc _;have B:hp (w.alloc (.cells #[cG] 44)) p=some (.cells #[cG] 44 (0,0)):=by rw[u];simp[go_sem]
 refine ck (v:=.pointer (some ⟨p,0,none⟩)) (w' :=w.alloc (.cells #[cG] 44)) (by rw[u];simp[go_sem,cG]) ?_;generalize w.alloc (.cells #[cG] 44)=w1 at J B|-;have Z:=cn B;let I:(Nat->Prop)->Nat->World->Prop:=λX i W=>∃sl,hp W p=some (.cells #[sl] 44 (0,0))/\d7 W 92 4 sl (L.take i).length ((L.take i).flatMap cM)/\(∀y,X y↔y=p\/cv sl y)/\∀y,cv sl y->p<y
 delta GD
 refine Iq (X0:=λx=>x=p) (T:=SK) (fc:=cM) (ht.mod J) lI.ac I (λ_ _ _=>False) ?_ (λ_ _ _ _ _ h=>h.elim) (λx hx=>by omega) ⟨cG,B,d7.nil _ _ _,λy=>⟨.inl,λb=>b.elim id λb=>by cases b⟩,λy b=>(by cases b)⟩ ?_ ?_ (λ_ _ _ _ _ h=>h.elim)
 ·rintro X i W W' H ⟨sl,k,g,j,n⟩ S t;exact⟨sl,S.hpk k (t _ ((j _).2 (.inl rfl))),g.mod S λy b=>t y ((j y).2 (.inr b)),j,n⟩
 ·rintro X i hi W r ⟨sl,k,g,j,n⟩ O t hdq hqW zgq KN KJ F Y;obtain⟨sa,sc,m,-⟩:=g.isSl;have E:=cV hi;refine ck (v:=sl) (w' :=W) (by rw[m]at k|-;simp[go_sem,k]) ?_;refine ck (Ru zgq) ?_;have R:(L.take i).length<=100000:=by rw[List.length_take];omega
  refine ul (x:=L[i]) (f:=cM) Im (cK PF) (λ_=>rfl) rfl rfl g (by omega) (by omega) λc q G C U=>?_;obtain⟨ta,tc,D,-⟩:=G.isSl;have hpW:=cn k;have P:=C.hpk k λhc=>by have:=n _ hc;omega
  refine dt (w' :=q.setCell ⟨p,0,none⟩ c) (by rw[D];simp[go_sem,P]) ?_;have A:cl (λy=>y=p) q (q.setCell ⟨p,0,none⟩ c):=(cl.refl (λy=>y=p) q).setCell (.inl rfl) _ _;have V:hp (q.setCell ⟨p,0,none⟩ c) p=some (.cells #[c] 44 (0,0)):=by simp[go_sem,P]
  generalize q.setCell ⟨p,0,none⟩ c=M at A V|-;have hsW:=C.size;have Q:=A.size
  have s:∀y,cv c y->p<y:=λy b=>by
   rcases U y b with o|o
   ·exact n y o
   ·omega
  refine F (λy=>y=p\/cv c y) M ⟨c,V,?_,λy=>Iff.rfl,s⟩ ((C.mono λy _ b=>(j y).2 (.inr b)).trans (A.mono λy _ b=>(j y).2 (.inl b))) λy b=>?_
  ·rw[E];exact G.mod A λy b e=>by have:=s y b;omega
  ·rcases b with rfl|b
   ·exact⟨.inl ((j _).2 (.inl rfl)),by omega⟩
   ·refine⟨(U y b).imp (λo=>(j y).2 (.inr o)) id,?_⟩;have:=G.lt b;omega
 ·rintro X W d hd ⟨sl,k,g,j,n⟩ O z t;replace g:d7 W 92 4 sl (L.take L.length).length ((L.take L.length).flatMap cM):=g;rw[List.take_length]at g;obtain⟨sa,sc,m,-⟩:=g.isSl;unfold Ey;simp only[fk];refine ck (v:=sl) (w' :=W) (by rw[m]at k|-;simp[go_sem,k]) ?_;refine wo z λM N=>?_;refine hK sl M (g.mod N λy b e=>?_) (((J.on O λy b=>.inr (by omega))).on N λy b=>.inr (by omega)) λy b=>by have:=n y b;omega
  rcases(t y ((j y).2 (.inr b))).2 with o|o
  ·have:=n y b;omega
  ·omega
abbrev kJ:TypeId:=49
def DU:Nat->TypeId
 |3=>92
 |4=>108
 |5=>112
 |_=>119
def oI:Nat->TypeId
 |3=>44
 |4=>45
 |5=>46
 |_=>47
def AM:Nat->Nat
 |3=>4
 |4=>27
 |5=>4
 |_=>6
def QH:Nat->Nat
 |3=>24
 |4=>208
 |5=>24
 |_=>40
def Nh(i:Nat):Tryz.prog.underlying (oI i)=some (.slice (DU i)):=by
 unfold oI DU;split<;>kernel_rfl
def I5(i:Nat):eO Tryz.prog (DU i) (AM i) (QH i)=true:=by
 unfold DU AM QH;split<;>kernel_rfl
def Og(i:Nat):AM i<=27/\QH i<=208:=by
 unfold AM QH;split<;>exact⟨by omega,by omega⟩
def nv(d n f:Int)(ss:Nat->Value):List Value:=[.int .u32 d,.int .u64 n,.int .i64 f,ss 3,ss 4,ss 5,ss 6,ss 7]
def pU(d n f:Int)(ss:Nat->Value):Value:=.agg (nv d n f ss).toArray
def dq{α:Type}(f:Nat->α)(i:Nat)(x:α):Nat->α:=λj=>if j=i then x else f j
structure Ig(w:World)(b:Nat)(d nx fu:Int)(ss:Nat->Value)(n:Nat->Nat)(cs:Nat->List Value)(lo:Nat):Prop where
 at_:hp w b=some (.cells (nv d nx fu ss).toArray kJ (0,0))
 own:∀i,3<=i->i<=7->d7 w (DU i) (AM i) (ss i) (n i) (cs i)
 dj:∀i j y,3<=i->i<=7->3<=j->j<=7->cv (ss i) y->cv (ss j) y->i=j
 nw:∀i y,3<=i->i<=7->cv (ss i) y->lo<=y/\y≠b
def Ig.mod{F:Nat->Prop}{w w' :World}{b lo:Nat}{d nx a:Int}{ss:Nat->Value}{n:Nat->Nat}{cs:Nat->List Value}(h:Ig w b d nx a ss n cs lo)(e:cl F w w')(h1:¬F b)(g:∀i y,3<=i->i<=7->cv (ss i) y->¬F y):Ig w' b d nx a ss n cs lo:=
 ⟨e.hpk h.at_ h1,λi c f=>(h.own i c f).mod e λy j=>g i y c f j,h.dj,h.nw⟩
def dX(W:World){b:Nat}(i:Nat)(hi:i<8):(Instr.fieldAt kJ (.pointer (some ⟨b,0,none⟩)) i).run Tryz.prog W=.ok (.pointer (some ⟨b,i,none⟩)) W:=by
 have:i=0\/i=1\/i=2\/i=3\/i=4\/i=5\/i=6\/i=7:=by omega
 rcases this with rfl|rfl|rfl|rfl|rfl|rfl|rfl|rfl<;>simp[go_sem]
def Ig.ld{w:World}{b lo:Nat}{d nx j:Int}{ss:Nat->Value}{n:Nat->Nat}{cs:Nat->List Value}(h:Ig w b d nx j ss n cs lo)(i:Nat)(hi:3<=i)(g:i<=7):(Instr.loadAt (oI i) (.pointer (some ⟨b,i,none⟩))).run Tryz.prog w=.ok (ss i) w:=by
 obtain⟨a,c,f,-⟩:=(h.own i hi g).isSl;have e:=h.at_;have:i=3\/i=4\/i=5\/i=6\/i=7:=by omega
 rcases this with rfl|rfl|rfl|rfl|rfl<;>(simp only[oI];rw[f];simp only[nv]at e;rw[f]at e;simp[go_sem,e])
def MK{w:World}{b lo:Nat}{d nx L:Int}{ss:Nat->Value}{n:Nat->Nat}{cs:Nat->List Value}(h:Ig w b d nx L ss n cs lo)(i:Nat)(hi:3<=i)(z:i<=7){xv:Value}{c:List Value}{K:World->Prop}(U:xv.cells.toList=c)(A:c.length=AM i)(C:c.all (·.oneCell')=true)(hn:n i<=1000000)(Z:lo<=w.heap.size)
  (hK:∀o k,Ig k b d nx L (dq ss i o) (dq n i (n i+1)) (dq cs i (cs i++c)) lo->cl (λy=>y=b\/cv (ss i) y) w k->(∀y,cv o y->cv (ss i) y\/w.heap.size<=y)->K k):
  rx Tryz.prog (dQ (oI i) 1 [(0,xv)]) w λv w1=>rx Tryz.prog (cx #[oI i,oI i] (oI i) [ss i,v]) w1 λv2 w2=>rv Tryz.prog (Instr.fieldAt kJ (.pointer (some ⟨b,0,none⟩)) i) w2 λv3 w3=>ru Tryz.prog (Instr.storeAt (oI i) v3 v2) w3 K:=by
 have N:xv.cells.size=AM i:=by rw[<-Array.length_toList,U,A]
 have M:=Og i;refine fE [xv] (Nh i) (cK (I5 i)) rfl rfl (by intro v hv;rw[List.mem_singleton.1 hv];exact N) (by omega) ?_;have X:(([xv]:List Value).flatMap (·.cells.toList)).toArray=c.toArray:=by simp[U]
 rw[X];have W:cl (λ_=>False) w (w.alloc (.cells c.toArray (DU i))):=(cl.refl _ w).alloc _
 have r1:Rd (w.alloc (.cells c.toArray (DU i))) (AM i) (.slice (some ⟨w.heap.size,0,none⟩) 1 1) 1 c:=
  ⟨by rw[A];omega,.inr ⟨_,0,1,rfl,Nat.le_refl _,At.all (cN (by rw[cU,if_pos rfl]))⟩⟩
 have t:=h.own i hi z;have hbl:b<w.heap.size:=cn h.at_;refine dz (Nh i) (Nh i) (cK (I5 i)) (t.mod W λ_ _ h=>h) r1 C (Nat.le_trans (Nat.mul_le_mul (show n i+1<=1000001 by omega) M.2) (by decide)) λo k V m' n' =>?_;refine ck (dX k i (by omega)) ?_;have Y:(w.alloc (.cells c.toArray (DU i))).heap.size=w.heap.size+1:=World.size_alloc ..;have J:cl (cv (ss i)) w k:=(W.mono (G:=cv (ss i)) λ_ _ h=>h.elim).trans m'
 have q:∀y,cv o y->cv (ss i) y\/w.heap.size<=y:=λy f=>by
  rcases n' y f with m|m
  ·exact .inl m
  ·exact .inr (by omega)
 have r:=J.hpk h.at_ λA=>(h.nw i b hi z A).2 rfl;obtain⟨a,cc,H,-⟩:=V.isSl
 have E:(Instr.storeAt (oI i) (.pointer (some ⟨b,i,none⟩)) o).run Tryz.prog k=.ok () (k.setCell ⟨b,i,none⟩ o)/\hp (k.setCell ⟨b,i,none⟩ o) b=some (.cells (nv d nx L (dq ss i o)).toArray kJ (0,0)):=by
  obtain⟨a0,c0,O,-⟩:=t.isSl;have:i=3\/i=4\/i=5\/i=6\/i=7:=by omega
  rcases this with rfl|rfl|rfl|rfl|rfl<;>(simp only[nv]at r;rw[O]at r;refine⟨by simp only[oI];rw[H];simp[go_sem,r],by rw[H];simp[go_sem,r,nv,dq]⟩)
 refine dt E.1 ?_;have P:cl (λy=>y=b) k (k.setCell ⟨b,i,none⟩ o):=(cl.refl (λy=>y=b) k).setCell (.inl rfl) _ _
 have s:∀y,cv o y->lo<=y/\y≠b:=λy f=>by
  rcases q y f with m|m
  ·exact h.nw i y hi z m
  ·exact⟨by omega,by omega⟩
 refine hK o _ ⟨E.2,λj l p=>?_,λI F y Q S T R x u=>?_,λj y l p f=>?_⟩ ((J.mono λy _ f=>.inr f).trans (P.mono λy _ f=>.inl f)) q
 ·unfold dq;by_cases g:j=i
  ·subst g;rw[if_pos rfl,if_pos rfl,if_pos rfl];exact V.mod P λy f e=>(s y f).2 e
  ·rw[if_neg g,if_neg g,if_neg g];exact((h.own j l p).mod J λy f A=>g (h.dj j i y l p hi z f A)).mod P λy f e=>(h.nw j y l p f).2 e
 ·unfold dq at x u;have D:∀j,3<=j->j<=7->cv (ss j) y->y<w.heap.size:=λj b1 b2 f=>(h.own j b1 b2).lt f;by_cases h1:I=i
  ·by_cases B:F=i
   ·rw[h1,B]
   ·rw[if_pos h1]at x;rw[if_neg B]at u;rcases q y x with m|m
    ·rw[h1];exact h.dj i F y hi z T R m u
    ·have:=D F T R u;omega
  ·rw[if_neg h1]at x;by_cases B:F=i
   ·rw[if_pos B]at u;rcases q y u with m|m
    ·rw[B];exact h.dj I i y Q S hi z x m
    ·have:=D I Q S x;omega
   ·rw[if_neg B]at u;exact h.dj I F y Q S T R x u
 ·unfold dq at f;by_cases g:j=i
  ·rw[if_pos g]at f;exact s y f
  ·rw[if_neg g]at f;exact h.nw j y l p f
def dB(x:Int×Od):List Value:=.int .u32 x.1::da x.2
def LN(A:List Ac)(C:List Ct)(P:List Po)(O B:List (Int×Od)):Nat->Nat
 |3=>A.length
 |4=>C.length
 |5=>P.length
 |6=>O.length
 |7=>B.length
 |_=>0
def LC(A:List Ac)(C:List Ct)(P:List Po)(O B:List (Int×Od)):Nat->List Value
 |3=>A.flatMap cM
 |4=>C.flatMap dU
 |5=>P.flatMap cL
 |6=>O.flatMap dB
 |7=>B.flatMap dB
 |_=>[]
abbrev SB(w:World)(b:Nat)(d nx fu:Int)(ss:Nat->Value)(A:List Ac)(C:List Ct)(P:List Po)(O B:List (Int×Od))(lo:Nat):Prop:=Ig w b d nx fu ss (LN A C P O B) (LC A C P O B) lo
def XS(ss:Nat->Value)(b:Nat):Nat->Prop:=λy=>y=b\/∃i,3<=i/\i<=7/\cv (ss i) y
section
variable{w:World}{b lo:Nat}{d nx fu:Int}{ss:Nat->Value}{A:List Ac}{C:List Ct}{P:List Po}{O B:List (Int×Od)}
def SB.modX{H:Nat->Prop}{w' :World}(h:SB w b d nx fu ss A C P O B lo)(c:cl H w w')(a:∀y,XS ss b y->¬H y):SB w' b d nx fu ss A C P O B lo:=
 h.mod c (a b (.inl rfl)) λi y g e f=>a y (.inr ⟨i,g,e,f⟩)
def SB.ltX(h:SB w b d nx fu ss A C P O B lo){y:Nat}(a:XS ss b y):y<w.heap.size:=by
 rcases a with rfl|⟨i,e,c,a⟩
 ·exact cn h.at_
 ·exact(h.own i e c).lt a
def tQ{i:Nat}(hi:3<=i)(p:i<=7){xv:Value}{c:List Value}{n:List Ac}{C' :List Ct}{o:List Po}{m B' :List (Int×Od)}{K:World->Prop}(h:SB w b d nx fu ss A C P O B lo)(J:xv.cells.toList=c)(F:c.length=AM i)(k:c.all (·.oneCell')=true)(L:LN A C P O B i<=1000000)(q:lo<=w.heap.size)
  (M:dq (LN A C P O B) i (LN A C P O B i+1)=LN n C' o m B')(G:dq (LC A C P O B) i (LC A C P O B i++c)=LC n C' o m B')
  (E:∀f e,SB e b d nx fu f n C' o m B' lo->cl (XS ss b) w e->(∀y,XS f b y->XS ss b y\/w.heap.size<=y)->K e):
  rx Tryz.prog (dQ (oI i) 1 [(0,xv)]) w λv t=>rx Tryz.prog (cx #[oI i,oI i] (oI i) [ss i,v]) t λH N=>rv Tryz.prog (Instr.fieldAt kJ (.pointer (some ⟨b,0,none⟩)) i) N λz D=>ru Tryz.prog (Instr.storeAt (oI i) z H) D K:=by
 refine MK h i hi p J F k L q λu e s I x=>E (dq ss i u) e ?_ (I.mono λy _ a=>a.imp id λa=>⟨i,hi,p,a⟩) λy a=>?_
 ·rw[M,G]at s;exact s
 ·rcases a with a|⟨j,l,r,a⟩
  ·exact .inl (.inl a)
  ·unfold dq at a;by_cases g:j=i
   ·rw[if_pos g]at a;exact(x y a).imp (λh=>.inr ⟨i,hi,p,h⟩) id
   ·rw[if_neg g]at a;exact .inl (.inr ⟨j,l,r,a⟩)
end
def iv{α:Type}{f g:Nat->α}{i:Nat}{x:α}(h1:g i=x)(a:∀j,j≠i->g j=f j):dq f i x=g:=by
 funext j;unfold dq;by_cases h:j=i
 ·rw[if_pos h,h,h1]
 ·rw[if_neg h,a j h]
def S7(A:List Ac)(C:List Ct)(P:List Po)(O B:List (Int×Od))(k:Ct):dq (LN A C P O B) 4 (LN A C P O B 4+1)=LN A (C++[k]) P O B:=
 iv (by simp[LN]) λj a=>by unfold LN;split<;>first|rfl|exact absurd rfl a
def Tb(A:List Ac)(C:List Ct)(P:List Po)(O B:List (Int×Od))(k:Ct):dq (LC A C P O B) 4 (LC A C P O B 4++dU k)=LC A (C++[k]) P O B:=
 iv (by simp[LC]) λj a=>by unfold LC;split<;>first|rfl|exact absurd rfl a
def S9(A:List Ac)(C:List Ct)(P:List Po)(O B:List (Int×Od))(k:Po):dq (LN A C P O B) 5 (LN A C P O B 5+1)=LN A C (P++[k]) O B:=
 iv (by simp[LN]) λj a=>by unfold LN;split<;>first|rfl|exact absurd rfl a
def SV(A:List Ac)(C:List Ct)(P:List Po)(O B:List (Int×Od))(k:Po):dq (LC A C P O B) 5 (LC A C P O B 5++cL k)=LC A C (P++[k]) O B:=
 iv (by simp[LC]) λj a=>by unfold LC;split<;>first|rfl|exact absurd rfl a
def Tc(A:List Ac)(C:List Ct)(P:List Po)(O B:List (Int×Od))(k:Int×Od):dq (LN A C P O B) 6 (LN A C P O B 6+1)=LN A C P (O++[k]) B:=
 iv (by simp[LN]) λj a=>by unfold LN;split<;>first|rfl|exact absurd rfl a
def S5(A:List Ac)(C:List Ct)(P:List Po)(O B:List (Int×Od))(k:Int×Od):dq (LC A C P O B) 6 (LC A C P O B 6++dB k)=LC A C P (O++[k]) B:=
 iv (by simp[LC]) λj a=>by unfold LC;split<;>first|rfl|exact absurd rfl a
def Tj(A:List Ac)(C:List Ct)(P:List Po)(O B:List (Int×Od))(k:Int×Od):dq (LN A C P O B) 7 (LN A C P O B 7+1)=LN A C P O (B++[k]):=
 iv (by simp[LN]) λj a=>by unfold LN;split<;>first|rfl|exact absurd rfl a
def Th(A:List Ac)(C:List Ct)(P:List Po)(O B:List (Int×Od))(k:Int×Od):dq (LC A C P O B) 7 (LC A C P O B 7++dB k)=LC A C P O (B++[k]):=
 iv (by simp[LC]) λj a=>by unfold LC;split<;>first|rfl|exact absurd rfl a
def Cd(n:Int)(o:Od)(W:World):(Instr.build 119 #[(0,.int .u32 n),(1,g9 o)]).run Tryz.prog W=.ok (.agg (dB (n,o)).toArray) W:=by
 simp[go_sem,g9,da,dB]
def mz{W:World}{p:Nat}{d n f:Int}{ss:Nat->Value}(h:hp W p=some (.cells (nv d n f ss).toArray kJ (0,0))):(Instr.loadAt kJ (.pointer (some ⟨p,0,none⟩))).run Tryz.prog W=.ok (pU d n f ss) W:=
 fw (P:=Tryz.prog) (t:=kJ) (n:=7) (by kernel_rfl) (by kernel_rfl) rfl (At.all h)
def th{W:World}{p:Nat}{cs:Array Value}{d n f:Int}{ss:Nat->Value}(h:hp W p=some (.cells cs kJ (0,0)))(r:cs.size=8)(j:∀i,3<=i->i<=7->∃a n c,ss i=.slice a n c):
  ∃k,(Instr.storeAt kJ (.pointer (some ⟨p,0,none⟩)) (pU d n f ss)).run Tryz.prog W=.ok () k/\hp k p=some (.cells (nv d n f ss).toArray kJ (0,0))/\cl (λb=>b=p) W k:=by
 have q:cs.toList.length=8:=by simpa using r
 have s:Tryz.prog.cellsOf kJ=7+1:=by kernel_rfl
 have g:(nv d n f ss).all (·.oneCell')=true:=by
  obtain⟨_,_,_,u⟩:=j 3 (by omega) (by omega);obtain⟨_,_,_,v⟩:=j 4 (by omega) (by omega);obtain⟨_,_,_,l⟩:=j 5 (by omega) (by omega);obtain⟨_,_,_,o⟩:=j 6 (by omega) (by omega);obtain⟨_,_,_,m⟩:=j 7 (by omega) (by omega);unfold nv;rw[u,v,l,o,m];rfl
 have e:=qT (P:=Tryz.prog) (t:=kJ) (b:=p) (off:=0) (cs:=nv d n f ss) s rfl h (by show 0+8<=cs.size;omega) g;refine⟨W.setRow p (iJ cs.toList 0 (nv d n f ss)).toArray,?_,?_,(cl.refl (λb=>b=p) W).setRow (.inl rfl) _⟩
 ·have:(ej kJ (.pointer (some ⟨p,0,none⟩)) (pU d n f ss)).run Tryz.prog W=_:=e;unfold ej at this;exact this
 ·rw[vX,if_pos rfl,h,iZ (by rw[q];rfl)]
def ij(s:Value):Nat->Value:=λi=>if i=3 then s else cG
def kD(W:World):∃a,(Instr.alloc kJ true (.tuple #[])).run Tryz.prog W=.ok (.pointer (some ⟨W.heap.size,0,none⟩)) a/\hp a W.heap.size=some (.cells (nv 0 0 0 (ij cG)).toArray kJ (0,0))/\cl (λ_=>False) W a:=
 ⟨W.alloc (.cells (nv 0 0 0 (ij cG)).toArray kJ),by simp[go_sem,nv,ij,cG],by simp[go_sem],(cl.refl _ W).alloc _⟩
def BN(d n f:Int)(s:Value)(W:World)(e:∃a n c,s=.slice a n c):(Instr.build kJ #[(0,.int .u32 d),(1,.int .u64 n),(2,.int .i64 f),(3,s)]).run Tryz.prog W=.ok (pU d n f (ij s)) W:=by
 obtain⟨_,_,_,rfl⟩:=e;simp[go_sem,pU,nv,ij,cG]
end Go.Proofs
