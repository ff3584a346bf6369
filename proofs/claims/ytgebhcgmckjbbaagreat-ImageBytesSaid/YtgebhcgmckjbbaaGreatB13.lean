/- Part of a proof. -/
import Derived.Test.YtgebhcgmckjbbaaGreatB12
set_option linter.all false
namespace Go.Proofs
open Go Go.Vc
attribute [local congr] cr
def D1:kW Tryz.prog mP=lH jk:=by kernel_rfl
def RK:kX Tryz.prog mP=true:=by kernel_rfl
def CW{p:Nat}(W:World):(Instr.fieldAt mP (.pointer (some ⟨p,0,none⟩)) 0).run Tryz.prog W=.ok (.pointer (some ⟨p,0,none⟩)) W:=by simp[go_sem]
def Ik{p:Nat}(W:World):(Instr.fieldAt mP (.pointer (some ⟨p,0,none⟩)) 5).run Tryz.prog W=.ok (.pointer (some ⟨p,5,none⟩)) W:=by simp[go_sem]
def C4{W:World}{p:Nat}{c:Cm}(h:df W p c):(Instr.loadAt 34 (.pointer (some ⟨p,0,none⟩))).run Tryz.prog W=.ok (.int .u8 c.kind) W:=by simp[go_sem,h,Qz]
def Ka{W:World}{p:Nat}{c:Cm}(h:df W p c):At W p 5 (dl c.spec):=by
 have:=(At.all h).sub 5 25 (by rw[kn];omega)
 have e:((lH c).drop 5).take 25=dl c.spec:=by
  show(dl c.spec++_).take 25=_;rw[<-cL c.spec,List.take_left]
 rw[e]at this;exact this
def sK(c:Cm)(i:Nat)(v:Value):(lH c).set (30+i) v=[.int .u8 c.kind,.int .u32 c.acct,.int .u32 c.ct,.int .u64 c.num,.int .i64 c.amt]++(dl c.spec++([.bool c.on,.bool c.buy,.int .u8 c.ty,.int .i64 c.price,.int .i64 c.qty]:List Value).set i v):=by
 unfold lH;rw[List.set_append_right _ _ (by show 5<=30+i;omega),List.set_append_right _ _ (by rw[cL];show 25<=30+i - 5;omega),cL];have:30+i - [Value.int .u8 c.kind,.int .u32 c.acct,.int .u32 c.ct,.int .u64 c.num,.int .i64 c.amt].length - 25=i:=by show 30+i - 5 - 25=i;omega
 rw[this]
def Ao{W:World}{p:Nat}{c:Cm}(x:Int)(h:df W p c):∃a,(Instr.storeAt 35 (.pointer (some ⟨p,1,none⟩)) (.int .u32 x)).run Tryz.prog W=.ok () a/\df a p {c with acct:=x}/\cl (λb=>b=p) W a:=by
 refine⟨W.setCell ⟨p,1,none⟩ (.int .u32 x),by simp[go_sem,h,P2],?_,(cl.refl (λb=>b=p) W).setCell (.inl rfl) _ _⟩;show hp _ p=_;rw[gX,if_pos rfl,h,eO,List.setIfInBounds_toArray];congr 3
def He{W:World}{p:Nat}{c:Cm}(x:Int)(h:df W p c):∃a,(Instr.storeAt 35 (.pointer (some ⟨p,2,none⟩)) (.int .u32 x)).run Tryz.prog W=.ok () a/\df a p {c with ct:=x}/\cl (λb=>b=p) W a:=by
 refine⟨W.setCell ⟨p,2,none⟩ (.int .u32 x),by simp[go_sem,h,Qc],?_,(cl.refl (λb=>b=p) W).setCell (.inl rfl) _ _⟩;show hp _ p=_;rw[gX,if_pos rfl,h,eO,List.setIfInBounds_toArray];congr 3
def LK{W:World}{p:Nat}{c:Cm}(x:Int)(h:df W p c):∃a,(Instr.storeAt 27 (.pointer (some ⟨p,3,none⟩)) (.int .u64 x)).run Tryz.prog W=.ok () a/\df a p {c with num:=x}/\cl (λb=>b=p) W a:=by
 refine⟨W.setCell ⟨p,3,none⟩ (.int .u64 x),by simp[go_sem,h,P6],?_,(cl.refl (λb=>b=p) W).setCell (.inl rfl) _ _⟩;show hp _ p=_;rw[gX,if_pos rfl,h,eO,List.setIfInBounds_toArray];congr 3
def Ov{W:World}{p:Nat}{c:Cm}(x:Int)(h:df W p c):∃a,(Instr.storeAt 2 (.pointer (some ⟨p,4,none⟩)) (.int .i64 x)).run Tryz.prog W=.ok () a/\df a p {c with amt:=x}/\cl (λb=>b=p) W a:=by
 refine⟨W.setCell ⟨p,4,none⟩ (.int .i64 x),by simp[go_sem,h,P7],?_,(cl.refl (λb=>b=p) W).setCell (.inl rfl) _ _⟩;show hp _ p=_;rw[gX,if_pos rfl,h,eO,List.setIfInBounds_toArray];congr 3
def Lz{W:World}{p:Nat}{c:Cm}(x:Bool)(h:df W p c):∃a,(Instr.storeAt 4 (.pointer (some ⟨p,30,none⟩)) (.bool x)).run Tryz.prog W=.ok () a/\df a p {c with on:=x}/\cl (λb=>b=p) W a:=by
 refine⟨W.setCell ⟨p,30,none⟩ (.bool x),by simp[go_sem,h,Hp],?_,(cl.refl (λb=>b=p) W).setCell (.inl rfl) _ _⟩;show hp _ p=_;rw[gX,if_pos rfl,h,eO,List.setIfInBounds_toArray];congr 3;rw[show 30=30+0 from rfl,sK];rfl
def Rx{W:World}{p:Nat}{c:Cm}(x:Bool)(h:df W p c):∃a,(Instr.storeAt 4 (.pointer (some ⟨p,31,none⟩)) (.bool x)).run Tryz.prog W=.ok () a/\df a p {c with buy:=x}/\cl (λb=>b=p) W a:=by
 refine⟨W.setCell ⟨p,31,none⟩ (.bool x),by simp[go_sem,h,Hw],?_,(cl.refl (λb=>b=p) W).setCell (.inl rfl) _ _⟩;show hp _ p=_;rw[gX,if_pos rfl,h,eO,List.setIfInBounds_toArray];congr 3;rw[show 31=30+1 from rfl,sK];rfl
def LQ{W:World}{p:Nat}{c:Cm}(x:Int)(h:df W p c):∃a,(Instr.storeAt 2 (.pointer (some ⟨p,33,none⟩)) (.int .i64 x)).run Tryz.prog W=.ok () a/\df a p {c with price:=x}/\cl (λb=>b=p) W a:=by
 refine⟨W.setCell ⟨p,33,none⟩ (.int .i64 x),by simp[go_sem,h,Iv],?_,(cl.refl (λb=>b=p) W).setCell (.inl rfl) _ _⟩;show hp _ p=_;rw[gX,if_pos rfl,h,eO,List.setIfInBounds_toArray];congr 3;rw[show 33=30+3 from rfl,sK];rfl
def Jm{W:World}{p:Nat}{c:Cm}(x:Int)(h:df W p c):∃a,(Instr.storeAt 2 (.pointer (some ⟨p,34,none⟩)) (.int .i64 x)).run Tryz.prog W=.ok () a/\df a p {c with qty:=x}/\cl (λb=>b=p) W a:=by
 refine⟨W.setCell ⟨p,34,none⟩ (.int .i64 x),by simp[go_sem,h,If],?_,(cl.refl (λb=>b=p) W).setCell (.inl rfl) _ _⟩;show hp _ p=_;rw[gX,if_pos rfl,h,eO,List.setIfInBounds_toArray];congr 3;rw[show 34=30+4 from rfl,sK];rfl
def No{W:World}{p:Nat}{c:Cm}{K:World->Prop}(s:Sp)(h:df W p c)(g:∀a,df a p {c with spec:=s}->cl (λb=>b=p) W a->K a):gh Tryz.prog (ew 38 (.pointer (some ⟨p,5,none⟩)) (.agg (dl s).toArray)) W K:=by
 refine iO sm (cL s) h (by rw[List.size_toArray,kn,cL];omega) (lh s) (g _ ?_ ((cl.refl (λb=>b=p) W).setRow (.inl rfl) _));show hp _ p=_
 have e:iL (lH c).toArray.toList 5 (dl s)=lH {c with spec:=s}:=by
  show iL (lH c) 5 (dl s)=_
  have d:(lH c).drop (5+(dl s).length)=[.bool c.on,.bool c.buy,.int .u8 c.ty,.int .i64 c.price,.int .i64 c.qty]:=by
   rw[cL,<-cL c.spec,<-List.drop_drop];show(dl c.spec++_).drop _=_;rw[List.drop_left]
  unfold iL;rw[d];rfl
 have i:hp (W.setRow p (iL (lH c).toArray.toList 5 (dl s)).toArray) p=some (.cells (iL (lH c).toArray.toList 5 (dl s)).toArray mP (0,0)):=by
  show(W.setRow p _).heap[p]? =_;have f:W.heap[p]? =some (.cells (lH c).toArray mP (0,0)):=h;rw[dx,if_pos rfl,f]
 rw[i,e]
def DT{W:World}{p:Nat}{c:Cm}{K:World->Prop}(d:Cm)(h:df W p c)(f:∀a,df a p d->cl (λb=>b=p) W a->K a):gh Tryz.prog (ew mP (.pointer (some ⟨p,0,none⟩)) (Aj d)) W K:=by
 refine iO Sb (kn d) h (by rw[List.size_toArray,kn,kn];omega) (Hz d) (f _ ?_ ((cl.refl (λb=>b=p) W).setRow (.inl rfl) _));show hp _ p=_
 have g:hp (W.setRow p (iL (lH c).toArray.toList 0 (lH d)).toArray) p=some (.cells (iL (lH c).toArray.toList 0 (lH d)).toArray mP (0,0)):=by
  show(W.setRow p _).heap[p]? =_;have e:W.heap[p]? =some (.cells (lH c).toArray mP (0,0)):=h;rw[dx,if_pos rfl,e]
 rw[g,jI (by show(lH d).length=(lH c).length;rw[kn,kn])]
def Ji{W:World}{K:cm}(b:∀a,df a W.heap.size jk->cl (λ_=>False) W a->K (.pointer (some ⟨W.heap.size,0,none⟩)) a):rx Tryz.prog (iz mP) W K:=by
 refine kY RK ?_;rw[D1];exact b _ (by show hp _ _=_;simp[go_sem]) ((cl.refl _ W).alloc _)
def HB(k:Int):Tryz.prog.built mP [(0,.int .u8 k)]=some (lH {jk with kind:=k}).toArray:=by
 have h1:∀a,Tryz.prog.built mP a=Instr.fill (λi=>#[(0,1),(1,1),(2,1),(3,1),(4,1),(5,25),(30,1),(31,1),(32,1),(33,1),(34,1)][i]?) (kW Tryz.prog mP).toArray a:=λa=>by kernel_rfl
 rw[h1,D1];rw[oG (off:=0) (size:=1) rfl rfl (by rw[kn];omega),t7];rfl
def G4:Tryz.prog.built 38 []=some (dl ng).toArray:=by kernel_rfl
set_option maxRecDepth 10000 in
set_option maxHeartbeats 4000000 in
def IH{x:Cm}{w:World}{K:cm}(hK:∀s,cl (λ_=>False) w s->K (Aj x.bare) s):Ca Tryz.prog 106 #[Aj x] w K:=by
 apply Pr;obtain⟨w1,e1,b1,m1⟩:=BB x w;refine ck e1 ?_;obtain⟨p,hp0⟩:∃p,p=w.heap.size:=⟨_,rfl⟩
 rw[<-hp0]at b1|-;refine Ji λw2 b2 m2=>?_;obtain⟨z,hz0⟩:∃z,z=w1.heap.size:=⟨_,rfl⟩
 rw[<-hz0]at b2|-;have c2:df w2 p x:=m2.hpk b1 id;refine ck (CW _) (ck (C4 c2) ?_);refine oz (HB x.kind) ?_;refine Ji λw3 b3 m3=>?_;obtain⟨q,hq0⟩:∃q,q=w2.heap.size:=⟨_,rfl⟩
 rw[<-hq0]at b3|-;have hpz:p<z:=by have:=cn b1;omega
 have hzq:z<q:=by have:=cn b2;omega
 refine DT {jk with kind:=x.kind} b3 λa R m4=>?_;have P:df a p x:=m4.hpk (m3.hpk c2 id) (by omega);have N:df a z jk:=m4.hpk (m3.hpk b2 id) (by omega);have M4:cl (λy=>y=z\/y=q) w a:=(((m1.trans m2).trans m3).mono λ_ _ h=>h.elim).trans (m4.mono λy _ g=>.inr g);clear b1 b2 b3 c2 e1 m1 m2 m3 m4;refine ck (CW _) (ck (C4 P) ?_)
 have r:∀(b:Cm) (W:World),x.bare=b->df W q b->df W z jk->cl (λy=>y=z\/y=q) a W->rx Tryz.prog (dh mP (.pointer (some ⟨q,0,none⟩))) W λv32 w33=>gh Tryz.prog (ew mP (.pointer (some ⟨z,0,none⟩)) v32) w33 λw34=>iD Tryz.prog (dh mP (.pointer (some ⟨z,0,none⟩))) w34 λv35=>K v35 w34:=by
  intro b W hb h1 h2 hm;refine fM (yh h1) ?_;refine DT b h2 λW2 a2 n2=>?_;refine jg (yh a2) ?_;rw[<-hb];exact hK W2 ((cl.refl (λ_=>False) w).on ((M4.trans hm).trans (n2.mono λy _ g=>.inl g)) λy g=>.inr (by rcases g with g|g<;>omega))
 have e:z≠q:=by omega
 have f:p≠q:=by omega
 refine cB.at (λst W=>st=(.bool (decide (x.kind=1\/x.kind=2)),())/\a=W) ?_ ?_
 ·by_cases h1:x.kind=1
  ·refine ck (v:=.bool true) (w' :=a) (by simp[go_sem,h1]) ?_;rw[ci,if_pos rfl];exact⟨by simp[h1],rfl⟩
  ·refine ck (v:=.bool false) (w' :=a) (by simp[go_sem,h1]) ?_;rw[ci,if_neg Bool.false_ne_true];refine ck (v:=.bool (decide (x.kind=2))) (w' :=a) (by simp[go_sem];rfl) ?_;exact⟨by simp[h1],rfl⟩
 rintro _ _ ⟨rfl,rfl⟩;unfold Ep;intro _;by_cases n:x.kind=1\/x.kind=2
 ·rw[ci,if_pos (decide_eq_true n)];have c:x.bare={jk with kind:=x.kind,acct:=x.acct,amt:=x.amt}:=by unfold Cm.bare;simp only;rw[if_pos n]
  have d:cl (λ_=>False) a a.drew:=(cl.refl _ a).drew;have i:df a.drew p x:=d.hpk P id;have t:df a.drew q {jk with kind:=x.kind}:=d.hpk R id;have u:df a.drew z jk:=d.hpk N id;have B:cl (λy=>y=z\/y=q) a a.drew:=d.mono λ_ _ h=>h.elim
  try dsimp only
  generalize a.drew=w5 at d i t u B|-;refine cq pi (cx (yC i) ?_);refine cq Ij (cx (Ly i) ?_);refine cq pi ?_;obtain⟨l,C,A,j⟩:=Ao x.acct t;have o:df l p x:=j.hpk i f;have J:df l z jk:=j.hpk u e;have G:cl (λy=>y=z\/y=q) a l:=B.trans (j.mono λy _ g=>.inr g);refine dI C ⟨Ly o,?_⟩;refine cq Ij ?_;obtain⟨k,E,D,m⟩:=Ov x.amt A;have M:df k p x:=m.hpk o f;have H:df k z jk:=m.hpk J e;have F:cl (λy=>y=z\/y=q) a k:=G.trans (m.mono λy _ g=>.inr g);refine dI E ?_;exact r _ k c D H F
 rw[ci,if_neg (by rw[decide_eq_true_eq];exact n)];by_cases L:x.kind=3
 ·refine ck (v:=.bool true) (w' :=a) (by simp[go_sem,L]) ?_;rw[ci,if_pos rfl];have c:x.bare={jk with kind:=x.kind,spec:=x.spec}:=by unfold Cm.bare;simp only;rw[if_neg n,if_pos L]
  refine ck (Ik _) ?_;refine ey (dl x.spec) 24 uS sm (cL _) (Ka P) ?_;refine ck (Ik _) ?_;refine No x.spec R λl A j=>?_;exact r _ l c A (j.hpk N e) (j.mono λy _ g=>.inr g)
 refine ck (v:=.bool false) (w' :=a) (by simp[go_sem,L]) ?_;rw[ci,if_neg Bool.false_ne_true];by_cases O:x.kind=4
 ·refine ck (v:=.bool true) (w' :=a) (by simp[go_sem,O]) ?_;rw[ci,if_pos rfl];have c:x.bare={jk with kind:=x.kind,ct:=x.ct,on:=x.on}:=by unfold Cm.bare;simp only;rw[if_neg n,if_neg L,if_pos O]
  have d:cl (λ_=>False) a a.drew:=(cl.refl _ a).drew;have i:df a.drew p x:=d.hpk P id;have t:df a.drew q {jk with kind:=x.kind}:=d.hpk R id;have u:df a.drew z jk:=d.hpk N id;have B:cl (λy=>y=z\/y=q) a a.drew:=d.mono λ_ _ h=>h.elim
  try dsimp only
  generalize a.drew=w5 at d i t u B|-;refine cq uT (cx (zv i) ?_);refine cq FN (cx (HF i) ?_);refine cq uT ?_;obtain⟨l,C,A,j⟩:=He x.ct t;have o:df l p x:=j.hpk i f;have J:df l z jk:=j.hpk u e;have G:cl (λy=>y=z\/y=q) a l:=B.trans (j.mono λy _ g=>.inr g);refine dI C ⟨HF o,?_⟩;refine cq FN ?_;obtain⟨k,E,D,m⟩:=Lz x.on A;have M:df k p x:=m.hpk o f;have H:df k z jk:=m.hpk J e;have F:cl (λy=>y=z\/y=q) a k:=G.trans (m.mono λy _ g=>.inr g);refine dI E ?_;exact r _ k c D H F
 refine ck (v:=.bool false) (w' :=a) (by simp[go_sem,O]) ?_;rw[ci,if_neg Bool.false_ne_true];by_cases S:x.kind=5
 ·refine ck (v:=.bool true) (w' :=a) (by simp[go_sem,S]) ?_;rw[ci,if_pos rfl];have c:x.bare={x with num:=0,amt:=0,spec:=ng,on:=false}:=by unfold Cm.bare;simp only;rw[if_neg n,if_neg L,if_neg O,if_pos S]
  refine fM (yh P) ?_;refine DT x R λw5 t m5=>?_;refine oz G4 ?_;refine ck (Hj _) ?_;obtain⟨l,C,A,j⟩:=LK 0 t;refine dI C (ck (Ij _) ?_);obtain⟨k,E,D,m⟩:=Ov 0 A;refine dI E (ck (Ik _) ?_);refine No ng D λw8 q8 m8=>?_;refine ck (FN _) ?_;obtain⟨U,e9,q9,m9⟩:=Lz false q8;refine dI e9 ?_;have M9:cl (λy=>y=q) a U:=(((m5.trans j).trans m).trans m8).trans m9;exact r _ U c q9 (M9.hpk N e) (M9.mono λy _ g=>.inr g)
 refine ck (v:=.bool false) (w' :=a) (by simp[go_sem,S]) ?_;rw[ci,if_neg Bool.false_ne_true];by_cases V:x.kind=6
 ·refine ck (v:=.bool true) (w' :=a) (by simp[go_sem,V]) ?_;rw[ci,if_pos rfl];have c:x.bare={jk with kind:=x.kind,acct:=x.acct,num:=x.num}:=by unfold Cm.bare;simp only;rw[if_neg n,if_neg L,if_neg O,if_neg S,if_pos V]
  have d:cl (λ_=>False) a a.drew:=(cl.refl _ a).drew;have i:df a.drew p x:=d.hpk P id;have t:df a.drew q {jk with kind:=x.kind}:=d.hpk R id;have u:df a.drew z jk:=d.hpk N id;have B:cl (λy=>y=z\/y=q) a a.drew:=d.mono λ_ _ h=>h.elim
  try dsimp only
  generalize a.drew=w5 at d i t u B|-;refine cq pi (cx (yC i) ?_);refine cq Hj (cx (IB i) ?_);refine cq pi ?_;obtain⟨l,C,A,j⟩:=Ao x.acct t;have o:df l p x:=j.hpk i f;have J:df l z jk:=j.hpk u e;have G:cl (λy=>y=z\/y=q) a l:=B.trans (j.mono λy _ g=>.inr g);refine dI C ⟨IB o,?_⟩;refine cq Hj ?_;obtain⟨k,E,D,m⟩:=LK x.num A;have M:df k p x:=m.hpk o f;have H:df k z jk:=m.hpk J e;have F:cl (λy=>y=z\/y=q) a k:=G.trans (m.mono λy _ g=>.inr g);refine dI E ?_;exact r _ k c D H F
 refine ck (v:=.bool false) (w' :=a) (by simp[go_sem,V]) ?_;rw[ci,if_neg Bool.false_ne_true];by_cases X:x.kind=7
 ·refine ck (v:=.bool true) (w' :=a) (by simp[go_sem,X]) ?_;rw[ci,if_pos rfl];have c:x.bare={jk with kind:=x.kind,acct:=x.acct,num:=x.num,price:=x.price,qty:=x.qty}:=by unfold Cm.bare;simp only;rw[if_neg n,if_neg L,if_neg O,if_neg S,if_neg V,if_pos X]
  have d:cl (λ_=>False) a a.drew:=(cl.refl _ a).drew;have i:df a.drew p x:=d.hpk P id;have t:df a.drew q {jk with kind:=x.kind}:=d.hpk R id;have u:df a.drew z jk:=d.hpk N id;have B:cl (λy=>y=z\/y=q) a a.drew:=d.mono λ_ _ h=>h.elim
  try dsimp only
  generalize a.drew=w5 at d i t u B|-;refine cq pi (cx (yC i) ?_);refine cq Hj (cx (IB i) ?_);refine cq Dk (cx (wC i) ?_);refine cq B6 (cx (qB i) ?_);refine cq pi ?_;obtain⟨l,C,A,j⟩:=Ao x.acct t;have o:df l p x:=j.hpk i f;have J:df l z jk:=j.hpk u e;have G:cl (λy=>y=z\/y=q) a l:=B.trans (j.mono λy _ g=>.inr g);refine dI C ⟨qB o,wC o,IB o,?_⟩;refine cq Hj ?_;obtain⟨k,E,D,m⟩:=LK x.num A;have M:df k p x:=m.hpk o f;have H:df k z jk:=m.hpk J e;have F:cl (λy=>y=z\/y=q) a k:=G.trans (m.mono λy _ g=>.inr g);refine dI E ⟨qB M,wC M,?_⟩;refine cq Dk ?_;obtain⟨w8,e8,q8,m8⟩:=LQ x.price D;have c8:df w8 p x:=m8.hpk M f;have z8:df w8 z jk:=m8.hpk H e;have M8:cl (λy=>y=z\/y=q) a w8:=F.trans (m8.mono λy _ g=>.inr g);refine dI e8 ⟨qB c8,?_⟩;refine cq B6 ?_;obtain⟨U,e9,q9,m9⟩:=Jm x.qty q8;have c9:df U p x:=m9.hpk c8 f;have z9:df U z jk:=m9.hpk z8 e;have M9:cl (λy=>y=z\/y=q) a U:=M8.trans (m9.mono λy _ g=>.inr g);refine dI e9 ?_;exact r _ U c q9 z9 M9
 refine ck (v:=.bool false) (w' :=a) (by simp[go_sem,X]) ?_;rw[ci,if_neg Bool.false_ne_true];by_cases Z:x.kind=8
 ·refine ck (v:=.bool true) (w' :=a) (by simp[go_sem,Z]) ?_;rw[ci,if_pos rfl];have c:x.bare={jk with kind:=x.kind,acct:=x.acct,ct:=x.ct}:=by unfold Cm.bare;simp only;rw[if_neg n,if_neg L,if_neg O,if_neg S,if_neg V,if_neg X,if_pos Z]
  have d:cl (λ_=>False) a a.drew:=(cl.refl _ a).drew;have i:df a.drew p x:=d.hpk P id;have t:df a.drew q {jk with kind:=x.kind}:=d.hpk R id;have u:df a.drew z jk:=d.hpk N id;have B:cl (λy=>y=z\/y=q) a a.drew:=d.mono λ_ _ h=>h.elim
  try dsimp only
  generalize a.drew=w5 at d i t u B|-;refine cq pi (cx (yC i) ?_);refine cq uT (cx (zv i) ?_);refine cq pi ?_;obtain⟨l,C,A,j⟩:=Ao x.acct t;have o:df l p x:=j.hpk i f;have J:df l z jk:=j.hpk u e;have G:cl (λy=>y=z\/y=q) a l:=B.trans (j.mono λy _ g=>.inr g);refine dI C ⟨zv o,?_⟩;refine cq uT ?_;obtain⟨k,E,D,m⟩:=He x.ct A;have M:df k p x:=m.hpk o f;have H:df k z jk:=m.hpk J e;have F:cl (λy=>y=z\/y=q) a k:=G.trans (m.mono λy _ g=>.inr g);refine dI E ?_;exact r _ k c D H F
 refine ck (v:=.bool false) (w' :=a) (by simp[go_sem,Z]) ?_;rw[ci,if_neg Bool.false_ne_true];by_cases h9:x.kind=9
 ·refine ck (v:=.bool true) (w' :=a) (by simp[go_sem,h9]) ?_;rw[ci,if_pos rfl];have c:x.bare={jk with kind:=x.kind,acct:=x.acct,ct:=x.ct,buy:=x.buy,price:=x.price,qty:=x.qty}:=by unfold Cm.bare;simp only;rw[if_neg n,if_neg L,if_neg O,if_neg S,if_neg V,if_neg X,if_neg Z,if_pos h9]
  have d:cl (λ_=>False) a a.drew:=(cl.refl _ a).drew;have i:df a.drew p x:=d.hpk P id;have t:df a.drew q {jk with kind:=x.kind}:=d.hpk R id;have u:df a.drew z jk:=d.hpk N id;have B:cl (λy=>y=z\/y=q) a a.drew:=d.mono λ_ _ h=>h.elim
  try dsimp only
  generalize a.drew=w5 at d i t u B|-;refine cq pi (cx (yC i) ?_);refine cq uT (cx (zv i) ?_);refine cq Ns (cx (Ld i) ?_);refine cq Dk (cx (wC i) ?_);refine cq B6 (cx (qB i) ?_);refine cq pi ?_;obtain⟨l,C,A,j⟩:=Ao x.acct t;have o:df l p x:=j.hpk i f;have J:df l z jk:=j.hpk u e;have G:cl (λy=>y=z\/y=q) a l:=B.trans (j.mono λy _ g=>.inr g);refine dI C ⟨qB o,wC o,Ld o,zv o,?_⟩;refine cq uT ?_;obtain⟨k,E,D,m⟩:=He x.ct A;have M:df k p x:=m.hpk o f;have H:df k z jk:=m.hpk J e;have F:cl (λy=>y=z\/y=q) a k:=G.trans (m.mono λy _ g=>.inr g);refine dI E ⟨qB M,wC M,Ld M,?_⟩;refine cq Ns ?_;obtain⟨w8,e8,q8,m8⟩:=Rx x.buy D;have c8:df w8 p x:=m8.hpk M f;have z8:df w8 z jk:=m8.hpk H e;have M8:cl (λy=>y=z\/y=q) a w8:=F.trans (m8.mono λy _ g=>.inr g);refine dI e8 ⟨qB c8,wC c8,?_⟩;refine cq Dk ?_;obtain⟨U,e9,q9,m9⟩:=LQ x.price q8;have c9:df U p x:=m9.hpk c8 f;have z9:df U z jk:=m9.hpk z8 e;have M9:cl (λy=>y=z\/y=q) a U:=M8.trans (m9.mono λy _ g=>.inr g);refine dI e9 ⟨qB c9,?_⟩;refine cq B6 ?_;obtain⟨w10,e10,q10,m10⟩:=Jm x.qty q9;have c10:df w10 p x:=m10.hpk c9 f;have z10:df w10 z jk:=m10.hpk z9 e;have M10:cl (λy=>y=z\/y=q) a w10:=M9.trans (m10.mono λy _ g=>.inr g);refine dI e10 ?_;exact r _ w10 c q10 z10 M10
 refine ck (v:=.bool false) (w' :=a) (by simp[go_sem,h9]) ?_;rw[ci,if_neg Bool.false_ne_true];by_cases I:x.kind=10
 ·refine ck (v:=.bool true) (w' :=a) (by simp[go_sem,I]) ?_;rw[ci,if_pos rfl];have c:x.bare={jk with kind:=x.kind,acct:=x.acct,on:=x.on}:=by unfold Cm.bare;simp only;rw[if_neg n,if_neg L,if_neg O,if_neg S,if_neg V,if_neg X,if_neg Z,if_neg h9,if_pos I]
  have d:cl (λ_=>False) a a.drew:=(cl.refl _ a).drew;have i:df a.drew p x:=d.hpk P id;have t:df a.drew q {jk with kind:=x.kind}:=d.hpk R id;have u:df a.drew z jk:=d.hpk N id;have B:cl (λy=>y=z\/y=q) a a.drew:=d.mono λ_ _ h=>h.elim
  try dsimp only
  generalize a.drew=w5 at d i t u B|-;refine cq pi (cx (yC i) ?_);refine cq FN (cx (HF i) ?_);refine cq pi ?_;obtain⟨l,C,A,j⟩:=Ao x.acct t;have o:df l p x:=j.hpk i f;have J:df l z jk:=j.hpk u e;have G:cl (λy=>y=z\/y=q) a l:=B.trans (j.mono λy _ g=>.inr g);refine dI C ⟨HF o,?_⟩;refine cq FN ?_;obtain⟨k,E,D,m⟩:=Lz x.on A;have M:df k p x:=m.hpk o f;have H:df k z jk:=m.hpk J e;have F:cl (λy=>y=z\/y=q) a k:=G.trans (m.mono λy _ g=>.inr g);refine dI E ?_;exact r _ k c D H F
 refine ck (v:=.bool false) (w' :=a) (by simp[go_sem,I]) ?_;rw[ci,if_neg Bool.false_ne_true];by_cases Q:x.kind=11
 ·refine ck (v:=.bool true) (w' :=a) (by simp[go_sem,Q]) ?_;rw[ci,if_pos rfl];have c:x.bare={jk with kind:=x.kind,ct:=x.ct,price:=x.price}:=by unfold Cm.bare;simp only;rw[if_neg n,if_neg L,if_neg O,if_neg S,if_neg V,if_neg X,if_neg Z,if_neg h9,if_neg I,if_pos Q]
  have d:cl (λ_=>False) a a.drew:=(cl.refl _ a).drew;have i:df a.drew p x:=d.hpk P id;have t:df a.drew q {jk with kind:=x.kind}:=d.hpk R id;have u:df a.drew z jk:=d.hpk N id;have B:cl (λy=>y=z\/y=q) a a.drew:=d.mono λ_ _ h=>h.elim
  try dsimp only
  generalize a.drew=w5 at d i t u B|-;refine cq uT (cx (zv i) ?_);refine cq Dk (cx (wC i) ?_);refine cq uT ?_;obtain⟨l,C,A,j⟩:=He x.ct t;have o:df l p x:=j.hpk i f;have J:df l z jk:=j.hpk u e;have G:cl (λy=>y=z\/y=q) a l:=B.trans (j.mono λy _ g=>.inr g);refine dI C ⟨wC o,?_⟩;refine cq Dk ?_;obtain⟨k,E,D,m⟩:=LQ x.price A;have M:df k p x:=m.hpk o f;have H:df k z jk:=m.hpk J e;have F:cl (λy=>y=z\/y=q) a k:=G.trans (m.mono λy _ g=>.inr g);refine dI E ?_;exact r _ k c D H F
 refine ck (v:=.bool false) (w' :=a) (by simp[go_sem,Q]) ?_;rw[ci,if_neg Bool.false_ne_true];by_cases T:x.kind=13
 ·refine ck (v:=.bool true) (w' :=a) (by simp[go_sem,T]) ?_;rw[ci,if_pos rfl];have c:x.bare={jk with kind:=x.kind,acct:=x.acct}:=by unfold Cm.bare;simp only;rw[if_neg n,if_neg L,if_neg O,if_neg S,if_neg V,if_neg X,if_neg Z,if_neg h9,if_neg I,if_neg Q,if_pos T]
  refine ck (pi _) (ck (yC P) (ck (pi _) ?_));obtain⟨l,C,A,j⟩:=Ao x.acct R;refine dI C ?_;exact r _ l c A (j.hpk N e) (j.mono λy _ g=>.inr g)
 refine ck (v:=.bool false) (w' :=a) (by simp[go_sem,T]) ?_;rw[ci,if_neg Bool.false_ne_true];by_cases Y:x.kind=14
 ·refine ck (v:=.bool true) (w' :=a) (by simp[go_sem,Y]) ?_;rw[ci,if_pos rfl];have c:x.bare={jk with kind:=x.kind,ct:=x.ct}:=by unfold Cm.bare;simp only;rw[if_neg n,if_neg L,if_neg O,if_neg S,if_neg V,if_neg X,if_neg Z,if_neg h9,if_neg I,if_neg Q,if_neg T,if_pos Y]
  refine ck (uT _) (ck (zv P) (ck (uT _) ?_));obtain⟨l,C,A,j⟩:=He x.ct R;refine dI C ?_;exact r _ l c A (j.hpk N e) (j.mono λy _ g=>.inr g)
 refine ck (v:=.bool false) (w' :=a) (by simp[go_sem,Y]) ?_;rw[ci,if_neg Bool.false_ne_true];have c:x.bare={jk with kind:=x.kind}:=by unfold Cm.bare;simp only;rw[if_neg n,if_neg L,if_neg O,if_neg S,if_neg V,if_neg X,if_neg Z,if_neg h9,if_neg I,if_neg Q,if_neg T,if_neg Y]
 exact r _ a c R N (cl.refl _ _)
def rZ{P:Program}{w:World}{e:TypeId}(g:P.underlying e=some (.int .i64))(d:Nat)(x y:List Int)(o:x.length=y.length):∀(k i:Nat),i+k=x.length->
  (Op.eqItems (d+1) e 1 (x.map λn=>Value.int .i64 n).toArray (y.map λn=>Value.int .i64 n).toArray (List.range' i k)).run P w=.ok (decide (x.drop i=y.drop i)) w
 |0,i,h=>by
  have h1:x.drop i=[]:=List.drop_of_length_le (by omega);have c:y.drop i=[]:=List.drop_of_length_le (by omega);simp[Op.eqItems,h1,c]
 |k+1,i,h=>by
  have m:i<x.length:=by omega
  have l:i<y.length:=by omega
  have a:∀(z:List Int) (j:i<z.length),(part e (z.map λn=>Value.int .i64 n).toArray (i*1)).run P w=.ok (.int .i64 z[i]) w:=by
   intro z j
   have h1:(z.map λn=>Value.int .i64 n).toArray[i]? =some (.int .i64 z[i]):=by
    rw[List.getElem?_toArray,List.getElem?_map,List.getElem?_eq_getElem j];rfl
   have c:(isAgg e).run P w=.ok false w:=by
    unfold isAgg;simp[run_underlying g,Result.andThen]
   simp[part,c,Result.andThen,h1]
  rw[List.range'_succ];unfold Op.eqItems;simp only[Sem.run_bind,a x m,a y l,Result.andThen];rw[run_equalIn_int w d e .i64 .i64 _ _ g];rw[List.drop_eq_getElem_cons m,List.drop_eq_getElem_cons l];by_cases b:x[i]=y[i]
  ·have f:(x[i]==y[i])=true:=by simp[b]
   simp only[f,b,List.cons.injEq,true_and];have:=rZ (w:=w) g d x y o k (i+1) (by omega);simpa using this
  ·have f:(x[i]==y[i])=false:=by simpa using b
   simp only[f,List.cons.injEq,b,false_and,decide_false];simp
set_option maxRecDepth 10000 in
def M0(x y:Vector Int 16)(d:Nat)(w:World):(Op.equalIn (d+2) 36 (.agg (zt x).toArray) (.agg (zt y).toArray)).run Tryz.prog w=.ok (decide (x=y)) w:=by
 obtain⟨g,b,-⟩:=jM (P:=Tryz.prog) (t:=2) (n:=0) (by kernel_rfl);have c:Tryz.prog.underlying 36=some (.array 16 2):=by kernel_rfl
 have f:Tryz.prog.cellsOf 2=1:=by kernel_rfl
 rw[run_equalIn_array w (d+1) _ _ c b,f];have:=rZ (P:=Tryz.prog) (w:=w) (e:=2) (by kernel_rfl) d x.toList y.toList (by simp) 16 0 (by simp);rw[List.range_eq_range'];show(Op.eqItems (d+1) _ 1 (x.toList.map λn=>Value.int .i64 n).toArray (y.toList.map λn=>Value.int .i64 n).toArray (List.range' 0 16)).run Tryz.prog w=_;rw[this];congr 1
 have a:(x.toList=y.toList)↔x=y:=by
  constructor
  ·intro h;exact Vector.toList_inj.1 h
  ·rintro rfl;rfl
 simp only[List.drop_zero];exact decide_eq_decide.2 a
def gJ{P:Program}{w:World}{d:Nat}{xs c:Array Value}{f:Field}{g:List Field}{a b:Value}{r e:Bool}(j:f.name≠ "_")(h1:(part f.type xs f.offset).run P w=.ok a w)(h:(part f.type c f.offset).run P w=.ok b w)
  (k:(Op.equalIn d f.type a b).run P w=.ok r w)(i:(Op.eqFields d xs c g).run P w=.ok e w):(Op.eqFields d xs c (f::g)).run P w=.ok (r&& e) w:=by
 simp only[Op.eqFields,j,ne_eq,not_false_eq_true,if_true,Sem.run_bind,h1,h,k,Result.andThen_ok];cases r
 ·simp
 ·simpa using i
def Er{P:Program}{w:World}{b:Nat}{xs a:Array Value}:(Op.eqFields b xs a []).run P w=.ok true w:=by simp[Op.eqFields]
def ej{P:Program}{w:World}{e:TypeId}{l:List Value}{off:Nat}{v:Value}(a:P.plainKey e=true)(h:l[off]? =some v):(part e l.toArray off).run P w=.ok v w:=run_part_plain w a (by simpa using h)
def vV{P:Program}{w:World}{e:TypeId}{l m:List Value}{off n:Nat}(a:iA P e=true)(b:P.cellsOf e=n+1)(h:(l.drop off).take (n+1)=m):(part e l.toArray off).run P w=.ok (.agg m.toArray) w:=by
 have c:l.toArray.extract off (off+(n+1))=m.toArray:=by
  apply Array.ext';rw[Array.toList_extract];simp[List.extract,h]
 simp[part,rp a,Go.Vc.fX b,Result.andThen,h]
def eqB(x y:Bool)(d:Nat)(w:World):(Op.equalIn (d+1) 4 (.bool x) (.bool y)).run Tryz.prog w=.ok (x==y) w:=by
 have a:Tryz.prog.underlying 4=some .bool:=by kernel_rfl
 simp[Op.equalIn,run_underlying a,Result.andThen]
set_option maxRecDepth 10000 in
def Kt(a b:Sp)(d:Nat)(w:World):(Op.equalIn (d+3) 38 (.agg (dl a).toArray) (.agg (dl b).toArray)).run Tryz.prog w=.ok (decide (a=b)) w:=by
 have u:Tryz.prog.underlying 38=some (.struct (Tryz.prog.fieldsOf 38)):=by kernel_rfl
 have h:Tryz.prog.stoodInHeld 38=false:=by kernel_rfl
 rw[run_equalIn_struct w (d+2) 38 _ _ u h];unfold Program.fieldsOf;rw[Tryz.underlying38];have g:∀s:Sp,((dl s).drop 6).take 16=zt s.shifts:=lN
 have c:∀s:Sp,(dl s)[22]? =some (.int .i64 s.credit)/\(dl s)[23]? =some (.int .u32 s.last)/\(dl s)[24]? =some (.int .i64 s.first):=λs=>by
  have key:∀i,(dl s)[22+i]? =([.int .i64 s.credit,.int .u32 s.last,.int .i64 s.first]:List Value)[i]? :=λi=>by
   unfold dl;rw[List.getElem?_append_right (by show 6<=22+i;omega),List.getElem?_append_right (by rw[kj];show 16<=22+i - 6;omega),kj];congr 1;show 22+i - 6 - 16=i;omega
  exact⟨key 0,key 1,key 2⟩
 have e:∀(t:TypeId) (q:IntKind) (x y:Int),Tryz.prog.underlying t=some (.int q)->(Op.equalIn (d+2) t (.int q x) (.int q y)).run Tryz.prog w=.ok (x==y) w:=λt q x y l=>run_equalIn_int w (d+1) t q q x y l
 have f:decide (a=b)=((a.num==b.num)&& ((a.route==b.route)&& ((a.tick==b.tick)&& ((a.lot==b.lot)&& ((a.band==b.band)&& ((a.limit==b.limit)&& (decide (a.shifts=b.shifts)&& ((a.credit==b.credit)&& ((a.last==b.last)&& ((a.first==b.first)&& true)))))))))):=by
  obtain⟨J,K,A,D,B,I,r,m,F,k⟩:=a;obtain⟨o,G,z,H,p,v,E,b8,C,j⟩:=b;rw[Bool.eq_iff_iff];simp[Sp.mk.injEq]
 rw[f];refine gJ (by decide) (ej (by kernel_rfl) rfl) (ej (by kernel_rfl) rfl) (e _ _ _ _ (by kernel_rfl)) ?_;refine gJ (by decide) (ej (by kernel_rfl) rfl) (ej (by kernel_rfl) rfl) (e _ _ _ _ (by kernel_rfl)) ?_;refine gJ (by decide) (ej (by kernel_rfl) rfl) (ej (by kernel_rfl) rfl) (e _ _ _ _ (by kernel_rfl)) ?_;refine gJ (by decide) (ej (by kernel_rfl) rfl) (ej (by kernel_rfl) rfl) (e _ _ _ _ (by kernel_rfl)) ?_;refine gJ (by decide) (ej (by kernel_rfl) rfl) (ej (by kernel_rfl) rfl) (e _ _ _ _ (by kernel_rfl)) ?_;refine gJ (by decide) (ej (by kernel_rfl) rfl) (ej (by kernel_rfl) rfl) (e _ _ _ _ (by kernel_rfl)) ?_;refine gJ (by decide) (vV (n:=15) (by kernel_rfl) (by kernel_rfl) (g a)) (vV (n:=15) (by kernel_rfl) (by kernel_rfl) (g b)) (M0 a.shifts b.shifts d w) ?_;refine gJ (by decide) (ej (by kernel_rfl) (c a).1) (ej (by kernel_rfl) (c b).1) (e _ _ _ _ (by kernel_rfl)) ?_;refine gJ (by decide) (ej (by kernel_rfl) (c a).2.1) (ej (by kernel_rfl) (c b).2.1) (e _ _ _ _ (by kernel_rfl)) ?_;refine gJ (by decide) (ej (by kernel_rfl) (c a).2.2) (ej (by kernel_rfl) (c b).2.2) (e _ _ _ _ (by kernel_rfl)) ?_;exact Er
def Mz(c:Cm):((lH c).drop 5).take 25=dl c.spec:=by
 show(dl c.spec++_).take 25=_;rw[<-cL c.spec,List.take_left]
set_option maxRecDepth 100000 in
def NF(a b:Cm)(w:World):(Op.equalIn 10000 mP (Aj a) (Aj b)).run Tryz.prog w=.ok (decide (a=b)) w:=by
 have u:Tryz.prog.underlying mP=some (.struct (Tryz.prog.fieldsOf mP)):=by kernel_rfl
 have h:Tryz.prog.stoodInHeld mP=false:=by kernel_rfl
 unfold Aj;rw[run_equalIn_struct w 9999 mP _ _ u h];unfold Program.fieldsOf;rw[Tryz.underlying41];have c:∀(t:TypeId) (q:IntKind) (x y:Int),Tryz.prog.underlying t=some (.int q)->(Op.equalIn 9999 t (.int q x) (.int q y)).run Tryz.prog w=.ok (x==y) w:=λt q x y j=>run_equalIn_int w 9998 t q q x y j
 have d:decide (a=b)=((a.kind==b.kind)&& ((a.acct==b.acct)&& ((a.ct==b.ct)&& ((a.num==b.num)&& ((a.amt==b.amt)&& (decide (a.spec=b.spec)&& ((a.on==b.on)&& ((a.buy==b.buy)&& ((a.ty==b.ty)&& ((a.price==b.price)&& ((a.qty==b.qty)&& true))))))))))):=by
  obtain⟨G,H,s,A,v,F,o,k,C,g,i⟩:=a;obtain⟨l,D,r,E,m,p,B,b8,z,f,e⟩:=b;rw[Bool.eq_iff_iff];simp[Cm.mk.injEq]
 rw[d];refine gJ (by decide) (ej (by kernel_rfl) (Qz a)) (ej (by kernel_rfl) (Qz b)) (c _ _ _ _ (by kernel_rfl)) ?_;refine gJ (by decide) (ej (by kernel_rfl) (P2 a)) (ej (by kernel_rfl) (P2 b)) (c _ _ _ _ (by kernel_rfl)) ?_;refine gJ (by decide) (ej (by kernel_rfl) (Qc a)) (ej (by kernel_rfl) (Qc b)) (c _ _ _ _ (by kernel_rfl)) ?_;refine gJ (by decide) (ej (by kernel_rfl) (P6 a)) (ej (by kernel_rfl) (P6 b)) (c _ _ _ _ (by kernel_rfl)) ?_;refine gJ (by decide) (ej (by kernel_rfl) (P7 a)) (ej (by kernel_rfl) (P7 b)) (c _ _ _ _ (by kernel_rfl)) ?_;refine gJ (by decide) (vV (n:=24) (by kernel_rfl) (by kernel_rfl) (Mz a)) (vV (n:=24) (by kernel_rfl) (by kernel_rfl) (Mz b)) (Kt a.spec b.spec 9996 w) ?_;refine gJ (by decide) (ej (by kernel_rfl) (Hp a)) (ej (by kernel_rfl) (Hp b)) (eqB _ _ 9998 w) ?_;refine gJ (by decide) (ej (by kernel_rfl) (Hw a)) (ej (by kernel_rfl) (Hw b)) (eqB _ _ 9998 w) ?_;refine gJ (by decide) (ej (by kernel_rfl) (O5 a)) (ej (by kernel_rfl) (O5 b)) (c _ _ _ _ (by kernel_rfl)) ?_;refine gJ (by decide) (ej (by kernel_rfl) (Iv a)) (ej (by kernel_rfl) (Iv b)) (c _ _ _ _ (by kernel_rfl)) ?_;refine gJ (by decide) (ej (by kernel_rfl) (If a)) (ej (by kernel_rfl) (If b)) (c _ _ _ _ (by kernel_rfl)) ?_;exact Er
def KW(a b:Cm)(w:World):(tf .eql mP false (Aj a) (Aj b)).run Tryz.prog w=.ok (.bool (decide (a=b))) w:=by
 have:=NF a b w;unfold Aj at this|-;generalize(lH a).toArray=A at this;generalize(lH b).toArray=B at this;simp[go_sem,this,Result.andThen]
def Iq{x:Cm}{w:World}{K:cm}(u:x.Fit)(a:∀o,cl (λ_=>False) w o->K (.bool x.may) o):Ca Tryz.prog 42 #[Aj x] w K:=by
 apply RQ;obtain⟨d,y,n,t⟩:=BB x w;refine ck y ?_;obtain⟨p,m⟩:∃p,p=w.heap.size:=⟨_,rfl⟩
 rw[<-m]at n|-;have b:cl (λ_=>False) d d.drew:=(cl.refl _ d).drew;have c:df d.drew p x:=b.hpk n id;have g:=t.trans b
 try dsimp only
 generalize d.drew=r at b c g|-;have A:=a;unfold Cm.may at a;refine cq CW (cx (C4 c) ?_);by_cases h1:1<=x.kind
 ·refine cq (v:=.bool true) (λ_=>by simp[go_sem];omega) ?_;rw[ci,if_pos rfl];refine cq CW (cx (C4 c) ?_);by_cases i:x.kind<=14
  ·refine cq (v:=.bool true) (λ_=>by simp[go_sem];omega) ?_;rw[ci,if_pos rfl];refine jg (yh c) (jg (yh c) ?_);refine IH λj q=>?_;have l:df j p x:=q.hpk c id;refine⟨yh l,?_⟩;have k:=g.trans q;refine cq (KW x x.bare) ?_;by_cases e:x=x.bare
   ·rw[ci,if_pos (decide_eq_true e)];refine cq CW (cx (C4 l) ?_);refine cq (v:=.bool (decide (x.kind≠3))) (λ_=>by simp[go_sem];rfl) ?_;by_cases f:x.kind≠3
    ·rw[ci,if_pos (decide_eq_true f)];have:=a j k;rw[decide_eq_true ⟨h1,i⟩,decide_eq_true e,decide_eq_true f]at this;exact this
    ·rw[ci,if_neg (by rw[decide_eq_true_eq];exact f)];refine cq Ik ?_;refine eX (dl x.spec) 24 uS sm (cL _) (Ka l) ?_;refine nJ u.2.2.2.2.2.1 λs z=>?_;have:=a s (k.trans z);rw[decide_eq_true ⟨h1,i⟩,decide_eq_true e,decide_eq_false f]at this;simpa using this
   ·rw[ci,if_neg (by rw[decide_eq_true_eq];exact e)];have:=a j k;rw[decide_eq_false e,Bool.and_false,Bool.false_and]at this;exact this
  ·refine cq (v:=.bool false) (λ_=>by simp[go_sem];omega) ?_;rw[ci,if_neg Bool.false_ne_true];have:=a r g;rw[decide_eq_false (λh=>i h.2),Bool.false_and,Bool.false_and]at this;exact this
 ·refine cq (v:=.bool false) (λ_=>by simp[go_sem];omega) ?_;rw[ci,if_neg Bool.false_ne_true];have:=a r g;rw[decide_eq_false (λh=>h1 h.1),Bool.false_and,Bool.false_and]at this;exact this
def gZ.move{w w' :World}{v u c l mb md:Nat}{A:List (Int×Nat)}{D:List (Int×Value)}{k:Pt->Nat->Prop}{S:dF}(h:gZ w u c l mb md A D k S)(o:∀p,p≠ .v->¬k p v)(q:hp w' v=some (.cells #[dK c,dm l,.map (some mb),.map (some md),.int .u64 S.next] pl (0,0)))(i:cl (λy=>y=v) w w'):
  gZ w' v c l mb md A D (oM k .v λy=>y=v) S:=by
 have g:∀p,p≠ .v->∀y,k p y->¬y=v:=λp hp y r e=>o p hp (e▸r)
 refine⟨{
  blk:=q
  cal:=by rw[cZ (by simp)];exact h.cal.mod i (g .cal (by simp))
  led:=by rw[cZ (by simp)];exact h.led.mod i (g .led (by simp))
  mbk:=h.mbk.mod i (g .mb (by simp) _ ((h.fmb mb).2 rfl))
  mbd:=h.mbd.mod i (g .md (by simp) _ ((h.fmd md).2 rfl))
  bk:=λn b m=>by rw[cZ (by simp)];exact(h.bk n b m).mod i (g (.bk n) (by simp))
  nbk:=λn m=>by rw[cZ (by simp)];exact h.nbk n m
  bd:=λn=>(h.bd n).mod i λx s=>g (.bd n) (by simp) x ((h.fbd n x).2 s)
  fv:=λx=>by rw[eE]
  fmb:=by rw[cZ (by simp)];exact h.fmb
  fmd:=by rw[cZ (by simp)];exact h.fmd
  fbd:=λn x=>by rw[cZ (by simp)];exact h.fbd n x
  dj:=?_},h.dom,h.dod⟩
 intro a b x j d;by_cases h1:a=.v
 ·by_cases f:b=.v
  ·rw[h1,f]
  ·rw[h1,eE]at j;rw[cZ f]at d;exact absurd (j▸d) (o b f)
 ·by_cases f:b=.v
  ·rw[f,eE]at d;rw[cZ h1]at j;exact absurd (d▸j) (o a h1)
  ·rw[cZ h1]at j;rw[cZ f]at d;exact h.dj _ _ _ j d
def NI{W:World}{v c l mb md:Nat}{n:Int}(h:hp W v=some (.cells #[dK c,dm l,.map (some mb),.map (some md),.int .u64 n] pl (0,0))):(Instr.loadAt pl (.pointer (some ⟨v,0,none⟩))).run Tryz.prog W=.ok (.agg #[dK c,dm l,.map (some mb),.map (some md),.int .u64 n]) W:=by
 simp only[dK,dm]at h|-;simp[go_sem,h]
def Mn{W:World}{v c l mb md c' l' mb' md' :Nat}{n n' :Int}(h:hp W v=some (.cells #[dK c,dm l,.map (some mb),.map (some md),.int .u64 n] pl (0,0))):
  ∃a,(Instr.storeAt pl (.pointer (some ⟨v,0,none⟩)) (.agg #[dK c',dm l',.map (some mb'),.map (some md'),.int .u64 n'])).run Tryz.prog W=.ok () a/\hp a v=some (.cells #[dK c',dm l',.map (some mb'),.map (some md'),.int .u64 n'] pl (0,0))/\cl (λy=>y=v) W a:=by
 simp only[dK,dm]at h|-
 exact⟨((((W.setCell ⟨v,0,none⟩ (dK c')).setCell ⟨v,1,none⟩ (dm l')).setCell ⟨v,2,none⟩ (.map (some mb'))).setCell ⟨v,3,none⟩ (.map (some md'))).setCell ⟨v,4,none⟩ (.int .u64 n'),
  by simp[go_sem,h,dK,dm],by simp[go_sem,h,dK,dm],(((((cl.refl (λy=>y=v) W).setCell (.inl rfl) _ _).setCell (.inl rfl) _ _).setCell (.inl rfl) _ _).setCell (.inl rfl) _ _).setCell (.inl rfl) _ _⟩
def Hr:Tryz.prog.underlying 44=some (.slice 92):=by kernel_rfl
def OR:eN Tryz.prog 92 4 24=true:=by kernel_rfl
def mK{w:World}{K:cm}{gv:Value}{L:List Ac}(ht:jC gv (L.map λa=>[gR a]) w)(hl:L.length<=100000)
  (hK:∀c l,dW l 92 4 c L.length (L.flatMap cJ)->cl (λ_=>False) w l->(∀y,co c y->w.heap.size<=y)->K c l):Ca Tryz.prog 54 #[gv] w K:=by
 apply RI;apply NH;obtain⟨p,u⟩:∃p,p=w.heap.size:=⟨_,rfl⟩
 have J:cl (λ_=>False) w (w.alloc (.cells #[cF] 44)):=(cl.refl _ w).alloc _;have B:hp (w.alloc (.cells #[cF] 44)) p=some (.cells #[cF] 44 (0,0)):=by rw[u];simp[go_sem]
 refine ck (v:=.pointer (some ⟨p,0,none⟩)) (w' :=w.alloc (.cells #[cF] 44)) (by rw[u];simp[go_sem,cF]) ?_;generalize w.alloc (.cells #[cF] 44)=w1 at J B|-;have Z:=cn B;let I:(Nat->Prop)->Nat->World->Prop:=λX i W=>∃sl,hp W p=some (.cells #[sl] 44 (0,0))/\dW W 92 4 sl (L.take i).length ((L.take i).flatMap cJ)/\(∀y,X y↔y=p\/co sl y)/\∀y,co sl y->p<y
 delta FM
 refine Hv (X0:=λx=>x=p) (T:=RN) (fc:=cJ) (ht.mod J) lM.ac I (λ_ _ _=>False) ?_ (λ_ _ _ _ _ h=>h.elim) (λx hx=>by omega) ⟨cF,B,dW.nil _ _ _,λy=>⟨.inl,λb=>b.elim id λb=>by cases b⟩,λy b=>(by cases b)⟩ ?_ ?_ (λ_ _ _ _ _ h=>h.elim)
 ·rintro X i W W' H ⟨sl,k,g,j,n⟩ S t;exact⟨sl,S.hpk k (t _ ((j _).2 (.inl rfl))),g.mod S λy b=>t y ((j y).2 (.inr b)),j,n⟩
 ·rintro X i hi W r ⟨sl,k,g,j,n⟩ O t hdq hqW zgq KN KJ F Y;obtain⟨sa,sc,m,-⟩:=g.isSl;have E:=cQ hi;refine ck (v:=sl) (w' :=W) (by rw[m]at k|-;simp[go_sem,k]) ?_;refine ck (QD zgq) ?_;have R:(L.take i).length<=100000:=by rw[List.length_take];omega
  refine tV (x:=L[i]) (f:=cJ) Hr (cI OR) (λ_=>rfl) rfl rfl g (by omega) (by omega) λc q G C U=>?_;obtain⟨ta,tc,D,-⟩:=G.isSl;have hpW:=cn k;have P:=C.hpk k λhc=>by have:=n _ hc;omega
  refine dI (w' :=q.setCell ⟨p,0,none⟩ c) (by rw[D];simp[go_sem,P]) ?_;have A:cl (λy=>y=p) q (q.setCell ⟨p,0,none⟩ c):=(cl.refl (λy=>y=p) q).setCell (.inl rfl) _ _;have V:hp (q.setCell ⟨p,0,none⟩ c) p=some (.cells #[c] 44 (0,0)):=by simp[go_sem,P]
  generalize q.setCell ⟨p,0,none⟩ c=M at A V|-;have hsW:=C.size;have Q:=A.size
  have s:∀y,co c y->p<y:=λy b=>by
   rcases U y b with o|o
   ·exact n y o
   ·omega
  refine F (λy=>y=p\/co c y) M ⟨c,V,?_,λy=>Iff.rfl,s⟩ ((C.mono λy _ b=>(j y).2 (.inr b)).trans (A.mono λy _ b=>(j y).2 (.inl b))) λy b=>?_
  ·rw[E];exact G.mod A λy b e=>by have:=s y b;omega
  ·rcases b with rfl|b
   ·exact⟨.inl ((j _).2 (.inl rfl)),by omega⟩
   ·refine⟨(U y b).imp (λo=>(j y).2 (.inr o)) id,?_⟩;have:=G.lt b;omega
 ·rintro X W d hd ⟨sl,k,g,j,n⟩ O z t;replace g:dW W 92 4 sl (L.take L.length).length ((L.take L.length).flatMap cJ):=g;rw[List.take_length]at g;obtain⟨sa,sc,m,-⟩:=g.isSl;unfold DZ;simp only[fk];refine ck (v:=sl) (w' :=W) (by rw[m]at k|-;simp[go_sem,k]) ?_;refine vP z λM N=>?_;refine hK sl M (g.mod N λy b e=>?_) (((J.on O λy b=>.inr (by omega))).on N λy b=>.inr (by omega)) λy b=>by have:=n y b;omega
  rcases(t y ((j y).2 (.inr b))).2 with o|o
  ·have:=n y b;omega
  ·omega
abbrev lY:TypeId:=49
def Cb:Nat->TypeId
 |3=>92
 |4=>108
 |5=>112
 |_=>119
def rL:Nat->TypeId
 |3=>44
 |4=>45
 |5=>46
 |_=>47
def wA:Nat->Nat
 |3=>4
 |4=>27
 |5=>4
 |_=>6
def PZ:Nat->Nat
 |3=>24
 |4=>208
 |5=>24
 |_=>40
def L6(i:Nat):Tryz.prog.underlying (rL i)=some (.slice (Cb i)):=by
 unfold rL Cb;split<;>kernel_rfl
def Ic(i:Nat):eN Tryz.prog (Cb i) (wA i) (PZ i)=true:=by
 unfold Cb wA PZ;split<;>kernel_rfl
def Nc(i:Nat):wA i<=27/\PZ i<=208:=by
 unfold wA PZ;split<;>exact⟨by omega,by omega⟩
def nm(d n f:Int)(ss:Nat->Value):List Value:=[.int .u32 d,.int .u64 n,.int .i64 f,ss 3,ss 4,ss 5,ss 6,ss 7]
def oJ(d n f:Int)(ss:Nat->Value):Value:=.agg (nm d n f ss).toArray
def dg{α:Type}(f:Nat->α)(i:Nat)(x:α):Nat->α:=λj=>if j=i then x else f j
structure Jy(w:World)(b:Nat)(d nx fu:Int)(ss:Nat->Value)(n:Nat->Nat)(cs:Nat->List Value)(lo:Nat):Prop where
 at_:hp w b=some (.cells (nm d nx fu ss).toArray lY (0,0))
 own:∀i,3<=i->i<=7->dW w (Cb i) (wA i) (ss i) (n i) (cs i)
 dj:∀i j y,3<=i->i<=7->3<=j->j<=7->co (ss i) y->co (ss j) y->i=j
 nw:∀i y,3<=i->i<=7->co (ss i) y->lo<=y/\y≠b
def Jy.mod{F:Nat->Prop}{w w' :World}{b lo:Nat}{d nx a:Int}{ss:Nat->Value}{n:Nat->Nat}{cs:Nat->List Value}(h:Jy w b d nx a ss n cs lo)(e:cl F w w')(h1:¬F b)(g:∀i y,3<=i->i<=7->co (ss i) y->¬F y):Jy w' b d nx a ss n cs lo:=
 ⟨e.hpk h.at_ h1,λi c f=>(h.own i c f).mod e λy j=>g i y c f j,h.dj,h.nw⟩
def eF(W:World){b:Nat}(i:Nat)(hi:i<8):(Instr.fieldAt lY (.pointer (some ⟨b,0,none⟩)) i).run Tryz.prog W=.ok (.pointer (some ⟨b,i,none⟩)) W:=by
 have:i=0\/i=1\/i=2\/i=3\/i=4\/i=5\/i=6\/i=7:=by omega
 rcases this with rfl|rfl|rfl|rfl|rfl|rfl|rfl|rfl<;>simp[go_sem]
def Jy.ld{w:World}{b lo:Nat}{d nx j:Int}{ss:Nat->Value}{n:Nat->Nat}{cs:Nat->List Value}(h:Jy w b d nx j ss n cs lo)(i:Nat)(hi:3<=i)(g:i<=7):(Instr.loadAt (rL i) (.pointer (some ⟨b,i,none⟩))).run Tryz.prog w=.ok (ss i) w:=by
 obtain⟨a,c,f,-⟩:=(h.own i hi g).isSl;have e:=h.at_;have:i=3\/i=4\/i=5\/i=6\/i=7:=by omega
 rcases this with rfl|rfl|rfl|rfl|rfl<;>(simp only[rL];rw[f];simp only[nm]at e;rw[f]at e;simp[go_sem,e])
def LP{w:World}{b lo:Nat}{d nx M:Int}{ss:Nat->Value}{n:Nat->Nat}{cs:Nat->List Value}(h:Jy w b d nx M ss n cs lo)(i:Nat)(hi:3<=i)(z:i<=7){I:Value}{c:List Value}{K:World->Prop}(V:I.cells.toList=c)(A:c.length=wA i)(C:c.all (·.oneCell')=true)(hn:n i<=1000000)(hlo:lo<=w.heap.size)
  (hK:∀o k,Jy k b d nx M (dg ss i o) (dg n i (n i+1)) (dg cs i (cs i++c)) lo->cl (λy=>y=b\/co (ss i) y) w k->(∀y,co o y->co (ss i) y\/w.heap.size<=y)->K k):
  rx Tryz.prog (dP (rL i) 1 [(0,I)]) w λv w1=>rx Tryz.prog (cv #[rL i,rL i] (rL i) [ss i,v]) w1 λv2 w2=>rv Tryz.prog (Instr.fieldAt lY (.pointer (some ⟨b,0,none⟩)) i) w2 λv3 w3=>ru Tryz.prog (Instr.storeAt (rL i) v3 v2) w3 K:=by
 have O:I.cells.size=wA i:=by rw[<-Array.length_toList,V,A]
 have N:=Nc i;refine fg [I] (L6 i) (cI (Ic i)) rfl rfl (by intro v hv;rw[List.mem_singleton.1 hv];exact O) (by omega) ?_;have Y:(([I]:List Value).flatMap (·.cells.toList)).toArray=c.toArray:=by simp[V]
 rw[Y];have X:cl (λ_=>False) w (w.alloc (.cells c.toArray (Cb i))):=(cl.refl _ w).alloc _
 have r1:Rd (w.alloc (.cells c.toArray (Cb i))) (wA i) (.slice (some ⟨w.heap.size,0,none⟩) 1 1) 1 c:=
  ⟨by rw[A];omega,.inr ⟨_,0,1,rfl,Nat.le_refl _,At.all (cO (by rw[cY,if_pos rfl]))⟩⟩
 have t:=h.own i hi z;have hbl:b<w.heap.size:=cn h.at_;refine dt (L6 i) (L6 i) (cI (Ic i)) (t.mod X λ_ _ h=>h) r1 C (Nat.le_trans (Nat.mul_le_mul (show n i+1<=1000001 by omega) N.2) (by decide)) λo k W m' n' =>?_;refine ck (eF k i (by omega)) ?_;have Z:(w.alloc (.cells c.toArray (Cb i))).heap.size=w.heap.size+1:=World.size_alloc ..;have L:cl (co (ss i)) w k:=(X.mono (G:=co (ss i)) λ_ _ h=>h.elim).trans m'
 have q:∀y,co o y->co (ss i) y\/w.heap.size<=y:=λy f=>by
  rcases n' y f with m|m
  ·exact .inl m
  ·exact .inr (by omega)
 have r:=L.hpk h.at_ λA=>(h.nw i b hi z A).2 rfl;obtain⟨a,cc,H,-⟩:=W.isSl
 have E:(Instr.storeAt (rL i) (.pointer (some ⟨b,i,none⟩)) o).run Tryz.prog k=.ok () (k.setCell ⟨b,i,none⟩ o)/\hp (k.setCell ⟨b,i,none⟩ o) b=some (.cells (nm d nx M (dg ss i o)).toArray lY (0,0)):=by
  obtain⟨a0,c0,P,-⟩:=t.isSl;have:i=3\/i=4\/i=5\/i=6\/i=7:=by omega
  rcases this with rfl|rfl|rfl|rfl|rfl<;>(simp only[nm]at r;rw[P]at r;refine⟨by simp only[rL];rw[H];simp[go_sem,r],by rw[H];simp[go_sem,r,nm,dg]⟩)
 refine dI E.1 ?_;have Q:cl (λy=>y=b) k (k.setCell ⟨b,i,none⟩ o):=(cl.refl (λy=>y=b) k).setCell (.inl rfl) _ _
 have s:∀y,co o y->lo<=y/\y≠b:=λy f=>by
  rcases q y f with m|m
  ·exact h.nw i y hi z m
  ·exact⟨by omega,by omega⟩
 refine hK o _ ⟨E.2,λj l p=>?_,λJ F y R T U S x u=>?_,λj y l p f=>?_⟩ ((L.mono λy _ f=>.inr f).trans (Q.mono λy _ f=>.inl f)) q
 ·unfold dg;by_cases g:j=i
  ·subst g;rw[if_pos rfl,if_pos rfl,if_pos rfl];exact W.mod Q λy f e=>(s y f).2 e
  ·rw[if_neg g,if_neg g,if_neg g];exact((h.own j l p).mod L λy f A=>g (h.dj j i y l p hi z f A)).mod Q λy f e=>(h.nw j y l p f).2 e
 ·unfold dg at x u;have D:∀j,3<=j->j<=7->co (ss j) y->y<w.heap.size:=λj b1 b2 f=>(h.own j b1 b2).lt f;by_cases h1:J=i
  ·by_cases B:F=i
   ·rw[h1,B]
   ·rw[if_pos h1]at x;rw[if_neg B]at u;rcases q y x with m|m
    ·rw[h1];exact h.dj i F y hi z U S m u
    ·have:=D F U S u;omega
  ·rw[if_neg h1]at x;by_cases B:F=i
   ·rw[if_pos B]at u;rcases q y u with m|m
    ·rw[B];exact h.dj J i y R T hi z x m
    ·have:=D J R T x;omega
   ·rw[if_neg B]at u;exact h.dj J F y R T U S x u
 ·unfold dg at f;by_cases g:j=i
  ·rw[if_pos g]at f;exact s y f
  ·rw[if_neg g]at f;exact h.nw j y l p f
def du(x:Int×Od):List Value:=.int .u32 x.1::da x.2
def LN(A:List Ac)(C:List Ct)(P:List Po)(O B:List (Int×Od)):Nat->Nat
 |3=>A.length
 |4=>C.length
 |5=>P.length
 |6=>O.length
 |7=>B.length
 |_=>0
def LC(A:List Ac)(C:List Ct)(P:List Po)(O B:List (Int×Od)):Nat->List Value
 |3=>A.flatMap cJ
 |4=>C.flatMap dN
 |5=>P.flatMap cK
 |6=>O.flatMap du
 |7=>B.flatMap du
 |_=>[]
abbrev SB(w:World)(b:Nat)(d nx fu:Int)(ss:Nat->Value)(A:List Ac)(C:List Ct)(P:List Po)(O B:List (Int×Od))(lo:Nat):Prop:=Jy w b d nx fu ss (LN A C P O B) (LC A C P O B) lo
def XS(ss:Nat->Value)(b:Nat):Nat->Prop:=λy=>y=b\/∃i,3<=i/\i<=7/\co (ss i) y
section
variable{w:World}{b lo:Nat}{d nx fu:Int}{ss:Nat->Value}{A:List Ac}{C:List Ct}{P:List Po}{O B:List (Int×Od)}
def SB.modX{H:Nat->Prop}{w' :World}(h:SB w b d nx fu ss A C P O B lo)(c:cl H w w')(a:∀y,XS ss b y->¬H y):SB w' b d nx fu ss A C P O B lo:=
 h.mod c (a b (.inl rfl)) λi y g e f=>a y (.inr ⟨i,g,e,f⟩)
def SB.ltX(h:SB w b d nx fu ss A C P O B lo){y:Nat}(a:XS ss b y):y<w.heap.size:=by
 rcases a with rfl|⟨i,e,c,a⟩
 ·exact cn h.at_
 ·exact(h.own i e c).lt a
def Bq{i:Nat}(hi:3<=i)(p:i<=7){s:Value}{c:List Value}{n:List Ac}{C' :List Ct}{o:List Po}{m B' :List (Int×Od)}{K:World->Prop}(h:SB w b d nx fu ss A C P O B lo)(L:s.cells.toList=c)(G:c.length=wA i)(k:c.all (·.oneCell')=true)(M:LN A C P O B i<=1000000)(q:lo<=w.heap.size)
  (N:dg (LN A C P O B) i (LN A C P O B i+1)=LN n C' o m B')(H:dg (LC A C P O B) i (LC A C P O B i++c)=LC n C' o m B')
  (F:∀f e,SB e b d nx fu f n C' o m B' lo->cl (XS ss b) w e->(∀y,XS f b y->XS ss b y\/w.heap.size<=y)->K e):
  rx Tryz.prog (dP (rL i) 1 [(0,s)]) w λv u=>rx Tryz.prog (cv #[rL i,rL i] (rL i) [ss i,v]) u λI Q=>rv Tryz.prog (Instr.fieldAt lY (.pointer (some ⟨b,0,none⟩)) i) Q λD E=>ru Tryz.prog (Instr.storeAt (rL i) D I) E K:=by
 refine LP h i hi p L G k M q λx e t J z=>F (dg ss i x) e ?_ (J.mono λy _ a=>a.imp id λa=>⟨i,hi,p,a⟩) λy a=>?_
 ·rw[N,H]at t;exact t
 ·rcases a with a|⟨j,l,r,a⟩
  ·exact .inl (.inl a)
  ·unfold dg at a;by_cases g:j=i
   ·rw[if_pos g]at a;exact(z y a).imp (λh=>.inr ⟨i,hi,p,h⟩) id
   ·rw[if_neg g]at a;exact .inl (.inr ⟨j,l,r,a⟩)
end
def jO{α:Type}{f g:Nat->α}{i:Nat}{x:α}(h1:g i=x)(a:∀j,j≠i->g j=f j):dg f i x=g:=by
 funext j;unfold dg;by_cases h:j=i
 ·rw[if_pos h,h,h1]
 ·rw[if_neg h,a j h]
def So(A:List Ac)(C:List Ct)(P:List Po)(O B:List (Int×Od))(k:Ct):dg (LN A C P O B) 4 (LN A C P O B 4+1)=LN A (C++[k]) P O B:=
 jO (by simp[LN]) λj a=>by unfold LN;split<;>first|rfl|exact absurd rfl a
def Ss(A:List Ac)(C:List Ct)(P:List Po)(O B:List (Int×Od))(k:Ct):dg (LC A C P O B) 4 (LC A C P O B 4++dN k)=LC A (C++[k]) P O B:=
 jO (by simp[LC]) λj a=>by unfold LC;split<;>first|rfl|exact absurd rfl a
def Sq(A:List Ac)(C:List Ct)(P:List Po)(O B:List (Int×Od))(k:Po):dg (LN A C P O B) 5 (LN A C P O B 5+1)=LN A C (P++[k]) O B:=
 jO (by simp[LN]) λj a=>by unfold LN;split<;>first|rfl|exact absurd rfl a
def Si(A:List Ac)(C:List Ct)(P:List Po)(O B:List (Int×Od))(k:Po):dg (LC A C P O B) 5 (LC A C P O B 5++cK k)=LC A C (P++[k]) O B:=
 jO (by simp[LC]) λj a=>by unfold LC;split<;>first|rfl|exact absurd rfl a
def Su(A:List Ac)(C:List Ct)(P:List Po)(O B:List (Int×Od))(k:Int×Od):dg (LN A C P O B) 6 (LN A C P O B 6+1)=LN A C P (O++[k]) B:=
 jO (by simp[LN]) λj a=>by unfold LN;split<;>first|rfl|exact absurd rfl a
def Sm(A:List Ac)(C:List Ct)(P:List Po)(O B:List (Int×Od))(k:Int×Od):dg (LC A C P O B) 6 (LC A C P O B 6++du k)=LC A C P (O++[k]) B:=
 jO (by simp[LC]) λj a=>by unfold LC;split<;>first|rfl|exact absurd rfl a
def SC(A:List Ac)(C:List Ct)(P:List Po)(O B:List (Int×Od))(k:Int×Od):dg (LN A C P O B) 7 (LN A C P O B 7+1)=LN A C P O (B++[k]):=
 jO (by simp[LN]) λj a=>by unfold LN;split<;>first|rfl|exact absurd rfl a
def SA(A:List Ac)(C:List Ct)(P:List Po)(O B:List (Int×Od))(k:Int×Od):dg (LC A C P O B) 7 (LC A C P O B 7++du k)=LC A C P O (B++[k]):=
 jO (by simp[LC]) λj a=>by unfold LC;split<;>first|rfl|exact absurd rfl a
def BG(n:Int)(o:Od)(W:World):(Instr.build 119 #[(0,.int .u32 n),(1,ig o)]).run Tryz.prog W=.ok (.agg (du (n,o)).toArray) W:=by
 simp[go_sem,ig,da,du]
def sq{W:World}{p:Nat}{d n f:Int}{ss:Nat->Value}(h:hp W p=some (.cells (nm d n f ss).toArray lY (0,0))):(Instr.loadAt lY (.pointer (some ⟨p,0,none⟩))).run Tryz.prog W=.ok (oJ d n f ss) W:=
 fw (P:=Tryz.prog) (t:=lY) (n:=7) (by kernel_rfl) (by kernel_rfl) rfl (At.all h)
def uH{W:World}{p:Nat}{cs:Array Value}{d n f:Int}{ss:Nat->Value}(h:hp W p=some (.cells cs lY (0,0)))(r:cs.size=8)(j:∀i,3<=i->i<=7->∃a n c,ss i=.slice a n c):
  ∃k,(Instr.storeAt lY (.pointer (some ⟨p,0,none⟩)) (oJ d n f ss)).run Tryz.prog W=.ok () k/\hp k p=some (.cells (nm d n f ss).toArray lY (0,0))/\cl (λb=>b=p) W k:=by
 have q:cs.toList.length=8:=by simpa using r
 have s:Tryz.prog.cellsOf lY=7+1:=by kernel_rfl
 have g:(nm d n f ss).all (·.oneCell')=true:=by
  obtain⟨_,_,_,u⟩:=j 3 (by omega) (by omega);obtain⟨_,_,_,v⟩:=j 4 (by omega) (by omega);obtain⟨_,_,_,l⟩:=j 5 (by omega) (by omega);obtain⟨_,_,_,o⟩:=j 6 (by omega) (by omega);obtain⟨_,_,_,m⟩:=j 7 (by omega) (by omega);unfold nm;rw[u,v,l,o,m];rfl
 have e:=qF (P:=Tryz.prog) (t:=lY) (b:=p) (off:=0) (cs:=nm d n f ss) s rfl h (by show 0+8<=cs.size;omega) g;refine⟨W.setRow p (iL cs.toList 0 (nm d n f ss)).toArray,?_,?_,(cl.refl (λb=>b=p) W).setRow (.inl rfl) _⟩
 ·have:(ew lY (.pointer (some ⟨p,0,none⟩)) (oJ d n f ss)).run Tryz.prog W=_:=e;unfold ew at this;exact this
 ·rw[vz,if_pos rfl,h,jI (by rw[q];rfl)]
def jY(s:Value):Nat->Value:=λi=>if i=3 then s else cF
def kV(W:World):∃a,(Instr.alloc lY true (.tuple #[])).run Tryz.prog W=.ok (.pointer (some ⟨W.heap.size,0,none⟩)) a/\hp a W.heap.size=some (.cells (nm 0 0 0 (jY cF)).toArray lY (0,0))/\cl (λ_=>False) W a:=
 ⟨W.alloc (.cells (nm 0 0 0 (jY cF)).toArray lY),by simp[go_sem,nm,jY,cF],by simp[go_sem],(cl.refl _ W).alloc _⟩
def Bp(d n f:Int)(s:Value)(W:World)(e:∃a n c,s=.slice a n c):(Instr.build lY #[(0,.int .u32 d),(1,.int .u64 n),(2,.int .i64 f),(3,s)]).run Tryz.prog W=.ok (oJ d n f (jY s)) W:=by
 obtain⟨_,_,_,rfl⟩:=e;simp[go_sem,oJ,nm,jY,cF]
end Go.Proofs
