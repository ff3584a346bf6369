/- Part of a proof. -/
import Derived.Test.YtgebhcgmckjbbaaGreatP18
import Derived.Test.YtgebhcgmckjbbaaGreatP21
set_option linter.all false
namespace Go.Proofs
open Go Go.Vc
attribute [local congr] cq
def G4(x y:Int×Od)(W:World):(nE .neq nY false (vw x) (vw y)).run Tryz.prog W=.ok (.bool (!decide (x=y))) W:=by
 obtain⟨c,o⟩:=x;obtain⟨i,p⟩:=y;obtain⟨g,h,l,a,n⟩:=o;obtain⟨e,j,m,k,f⟩:=p
 have:(.ok (.bool (!decide (((c,⟨g,h,l,a,n⟩):Int×Od)=(i,⟨e,j,m,k,f⟩)))) W:Result Value)=.ok (.bool (!(decide (c=i)&& (decide (g=e)&& (decide (h=j)&& (decide (l=m)&& (decide (a=k)&& decide (n=f)))))))) W:=by
  congr 3;rw[Bool.eq_iff_iff];simp
 rw[this];simp[go_sem,vw,dB,da]
 (repeat' split)<;>simp_all
set_option maxRecDepth 10000 in
set_option maxHeartbeats 1000000 in
def BL{w:World}{K:cm}{a b:Value}{c lb:List (Int×Od)}(z:Rd w 6 a c.length (c.flatMap dB))(t:Rd w 6 b lb.length (lb.flatMap dB))(O:c.length<=100000)(r:∀l,cl (λ_=>False) w l->K (.bool (decide (c=lb))) l):Ca Tryz.prog 51 #[a,b] w K:=by
 apply R6;obtain⟨P,M,E⟩:=z.isSl;obtain⟨Q,N,D⟩:=t.isSl;have y:∀W,(builtin .len #[47] 3 #[false] #[a]).run Tryz.prog W=.ok (.value (.int .i64 (c.length:Int))) W:=λW=>by rw[E];simp[go_sem]
 refine fI (y _) ?_;refine fI (v:=.int .i64 (lb.length:Int)) (w' :=w) (by rw[D];simp[go_sem]) ?_;by_cases g:c.length=lb.length
 rotate_left
 ·refine ck (v:=.bool true) (w' :=w) (by simp[go_sem];omega) ?_;rw[ci,if_pos rfl];have j:c≠lb:=λe=>g (by rw[e]);have:=r w (cl.refl _ _);rw[decide_eq_false j]at this;exact this
 refine ck (v:=.bool false) (w' :=w) (by simp[go_sem];omega) ?_;rw[ci,if_neg Bool.false_ne_true];refine fI (y _) ?_
 refine dp (λst W=>∃k:Nat,st=(.bool false,.int .i64 k,())/\k<=c.length/\c.take k=lb.take k/\cl (λ_=>False) w W)
  (λst _=>match st.2.1 with| .int _ k=>c.length - k.toNat|_=>0) ⟨0,rfl,by omega,rfl,cl.refl _ _⟩ ?_
 rintro _ W ⟨k,rfl,J,f,m⟩ H q;unfold KH;intro _;by_cases n:k<c.length
 ·have o:(k:Int)<(c.length:Int):=by omega
  refine ck (v:=.bool true) (by simp[go_sem,o]<;>first|exact⟨rfl,rfl⟩|exact rfl) ?_;rw[ci,if_pos rfl];have md:=m.drew;have s:=z.mod md λ_ _ h=>h;have x:=t.mod md λ_ _ h=>h;generalize W.drew=u at md s x|-;have i:k<lb.length:=by omega
  obtain⟨L,po,B,A⟩:=og s n;obtain⟨I,R,G,C⟩:=og x i;refine co (λW=>B W _) (cB (kL A) ?_);refine co (λW=>G W _) (cB (kL C) ?_);refine co (λW=>G4 _ _ W) ?_;by_cases p:c[k]=lb[k]
  ·rw[decide_eq_true p,show(!true)=false from rfl,ci,if_neg Bool.false_ne_true];refine ck (v:=.int .i64 ((k+1:Nat):Int)) (w' :=u) (by simp[go_sem];rw[cS (by omega) (by omega)]) ?_;refine q _ _ ⟨k+1,rfl,by omega,?_,md⟩ (by show c.length - (((k+1:Nat):Int)).toNat<c.length - ((k:Int)).toNat;omega);rw[cV n,cV i,f,p]
  ·rw[decide_eq_false p,show(!false)=true from rfl,ci,if_pos rfl];have j:c≠lb:=λe=>p (by subst e;rfl);have:=r u md;rw[decide_eq_false j]at this;exact this
 ·obtain rfl:k=c.length:=by omega
  refine ck (v:=.bool false) (by simp[go_sem]<;>first|exact⟨rfl,rfl⟩|exact rfl) ?_;rw[ci,if_neg Bool.false_ne_true]
  have F:c=lb:=by
   rw[List.take_length,g,List.take_length]at f;exact f
  have:=r W m;rw[decide_eq_true F]at this;exact this
section
variable{w:World}{b:Nat}{d nx fu:Int}{ss:Nat->Value}
def eZ(h:cR w b d nx fu ss)(e:∀i,3<=i->i<=7->∃a n c,ss i=.slice a n c):(Instr.loadAt 44 (.pointer (some ⟨b,3,none⟩))).run Tryz.prog w=.ok (ss 3) w/\(Instr.loadAt 45 (.pointer (some ⟨b,4,none⟩))).run Tryz.prog w=.ok (ss 4) w/\(Instr.loadAt 46 (.pointer (some ⟨b,5,none⟩))).run Tryz.prog w=.ok (ss 5) w:=
 ⟨dR h e 3 (by omega) (by omega),dR h e 4 (by omega) (by omega),dR h e 5 (by omega) (by omega)⟩
def Lr(h:cR w b d nx fu ss)(e:∀i,3<=i->i<=7->∃a n c,ss i=.slice a n c):(Instr.loadAt kJ (.pointer (some ⟨b,0,none⟩))).run Tryz.prog w=.ok (pU d nx fu ss) w:=by
 have f:hp w b=some (.cells (nv d nx fu ss).toArray kJ (0,0)):=h;obtain⟨_,_,_,j⟩:=e 3 (by omega) (by omega);obtain⟨_,_,_,l⟩:=e 4 (by omega) (by omega);obtain⟨_,_,_,g⟩:=e 5 (by omega) (by omega);obtain⟨_,_,_,k⟩:=e 6 (by omega) (by omega);obtain⟨_,_,_,m⟩:=e 7 (by omega) (by omega);simp only[nv,pU,j,l,g,k,m]at f|-;simp[go_sem,f]
end
abbrev EK:TypeId:=23
def Qh(W:World):∃a,(Instr.alloc EK true (.tuple #[])).run Tryz.prog W=.ok (.pointer (some ⟨W.heap.size,0,none⟩)) a/\hp a W.heap.size=some (.cells #[.pointer none] EK (0,0))/\cl (λ_=>False) W a:=
 ⟨W.alloc (.cells #[.pointer none] EK),by simp[go_sem],by simp[go_sem],(cl.refl _ W).alloc _⟩
def Ou{W:World}{p:Nat}{x:Value}(v:Nat)(h:hp W p=some (.cells #[x] EK (0,0))):∃a,(Instr.storeAt EK (.pointer (some ⟨p,0,none⟩)) (eg v)).run Tryz.prog W=.ok () a/\hp a p=some (.cells #[eg v] EK (0,0))/\cl (λy=>y=p) W a:=
 ⟨W.setCell ⟨p,0,none⟩ (eg v),by simp[go_sem,h,eg],by simp[go_sem,h],(cl.refl (λy=>y=p) W).setCell (.inl rfl) _ _⟩
def C0{W:World}{p v:Nat}(h:hp W p=some (.cells #[eg v] EK (0,0))):(Instr.loadAt EK (.pointer (some ⟨p,0,none⟩))).run Tryz.prog W=.ok (eg v) W:=by simp[go_sem,h,eg]
abbrev Ke(W:World)(p:Nat)(x:Po):Prop:=hp W p=some (.cells (cL x).toArray 112 (0,0))
def PE{W:World}{p:Nat}{x:Po}(h:Ke W p x):(Instr.loadAt 35 (.pointer (some ⟨p,0,none⟩))).run Tryz.prog W=.ok (.int .u32 x.c) W:=by
 have a:hp W p=some (.cells (cL x).toArray 112 (0,0)):=h;simp only[cL]at a;simp[go_sem,a]
def N1{W:World}{s:Value}{L:List Po}(h:Rd W 4 s L.length (L.flatMap cL)){i:Nat}(hi:i<L.length):
  ∃b a,(Instr.indexAt 46 s (.int .i64 (i:Int))).run Tryz.prog W=.ok (.pointer (some ⟨b,a,none⟩)) W/\(Instr.loadAt 112 (.pointer (some ⟨b,a,none⟩))).run Tryz.prog W=.ok (lK L[i]) W:=by
 obtain⟨b,a,f,c,e,g⟩:=h.item (show∀x,(cL x).length=4 from λ_=>rfl) hi rfl;have u:Tryz.prog.underlying 46=some (.slice 112):=by kernel_rfl
 refine⟨b,a+i*4,by rw[c];simp[go_sem,hi,cE,u],?_⟩;exact fw (P:=Tryz.prog) (t:=112) (by kernel_rfl) (show Tryz.prog.cellsOf 112=3+1 by kernel_rfl) rfl g
def Gc{S:dx}(h:S.Ok):S.state.ords.length<=100000/\S.state.bids.length<=100000:=by
 have h1:=zK h.ord S.nums.length;have a:=yV h.ord S.nums.length;unfold qY at h1;unfold qJ at a;rw[List.take_length]at h1 a;have e:=h.cal.len;have c:S.nums.length=S.cal.l.length:=by unfold dx.nums;rw[List.length_map]
 exact⟨by show(S.nums.flatMap _).length<=_;omega,by show(S.nums.flatMap _).length<=_;omega⟩
def IZ(s:iN)(n:Int):({eR s with bk:=fU (eR s).bk n Bk.empty}:dx)=eR s:=by
 have e:fU (λ_:Int=>Bk.empty) n Bk.empty=λ_=>Bk.empty:=by
  funext m;unfold fU;split<;>rfl
 show(⟨(eR s).cal,(eR s).led,fU (λ_:Int=>Bk.empty) n Bk.empty,(eR s).bd,(eR s).next⟩:dx)=_;rw[e];rfl
set_option maxRecDepth 10000 in
set_option maxHeartbeats 8000000 in
def zJ{w:World}{K:cm}{ss:Nat->Value}{s:iN}(h:eW w ss s)(hf:s.Fit)(hl:s.accts.length<=100000/\s.cts.length<=100000/\s.poss.length<=1024/\s.ords.length<=100000/\s.bids.length<=100000)
  (hK:∀(x:Value) (e:Int) (w' :World),cl (λ_=>False) w w' ->(match gm s with|none=>e=2/\x=.pointer none|some S=>e=0/\∃v F,x=eg v/\kj w' v F S/\∀y,F y->w.heap.size<=y)->K (.tuple #[x,.int .i64 e]) w'):Ca Tryz.prog 13 #[pU s.day s.next s.fund ss] w K:=by
 obtain⟨hlA,hlC,hlP,hlO,hlB⟩:=hl;have r:=h.sl;have bad:gm s=none->∀w',cl (λ_=>False) w w' ->K (.tuple #[.pointer none,.int .i64 2]) w' :=λhn w' m=>hK _ 2 w' m (by rw[hn];exact⟨rfl,rfl⟩);have nf:¬jW s->gm s=none:=λhn=>by unfold gm;rw[if_neg hn]
 apply Rk;obtain⟨w1,e1,b1,m1⟩:=pC s.day s.next s.fund ss w;obtain⟨sb,hsb⟩:∃p,p=w.heap.size:=⟨_,rfl⟩
 rw[<-hsb]at e1 b1;refine ck e1 (ck (dZ sb 0 (by omega) _) (ck (gB b1).1 ?_));refine ck (dZ sb 4 (by omega) _) (ck (eZ b1 r).2.1 ?_);have h1:=h.md0 m1;refine An h1.cts hlC hf.cts hf.day (λhc16 hcup c Fc Z qc m2 nc=>?_) λhcn Z m2=>?_
 rotate_left
 ·refine ck (v:=.pointer none) (w' :=Z) (by simp[go_sem]) (ck (v:=.int .i64 2) (w' :=Z) (by simp[go_sem]) ?_);refine ck (v:=.bool true) (w' :=Z) (by simp[go_sem]) ?_;rw[ci,if_pos rfl];exact bad (nf λh0=>hcn ⟨h0.len,h0.cts⟩) _ (m1.trans m2)
 refine ck (v:=dK c) (w' :=Z) (by simp[go_sem]) (ck (v:=.int .i64 0) (w' :=Z) (by simp[go_sem]) ?_);refine ck (v:=.bool false) (w' :=Z) (by simp[go_sem]) ?_;rw[ci,if_neg Bool.false_ne_true];have M2:=m1.trans m2;have h2:=h.md0 M2;have b2:cR Z sb s.day s.next s.fund ss:=m2.hpk b1 id;refine ck (dZ sb 2 (by omega) _) (ck (gB b2).2.2 ?_);refine ck (dZ sb 3 (by omega) _) (ck (eZ b2 r).1 ?_);refine ck (dZ sb 5 (by omega) _) (ck (eZ b2 r).2.2 ?_);refine JG (f:=s.fund) h2.accts h2.poss (by omega) hlP (λa ha=>(hf.accts a ha).1) hf.poss (λhF0 u l Fl ql M nl=>?_) λhF0 u M=>?_
 rotate_left
 ·refine ck (v:=.pointer none) (w' :=u) (by simp[go_sem]) (ck (v:=.int .i64 2) (w' :=u) (by simp[go_sem]) ?_);refine ck (v:=.bool true) (w' :=u) (by simp[go_sem]) ?_;rw[ci,if_pos rfl];exact bad (nf λh0=>hF0 h0.led) _ (M2.trans M)
 refine ck (v:=dn l) (w' :=u) (by simp[go_sem]) (ck (v:=.int .i64 0) (w' :=u) (by simp[go_sem]) ?_);refine ck (v:=.bool false) (w' :=u) (by simp[go_sem]) ?_;rw[ci,if_neg Bool.false_ne_true];have M3:=M2.trans M;have b3:cR u sb s.day s.next s.fund ss:=M.hpk b2 id;refine cy.at (λst W=>st=(.bool (decide (¬(1<=s.next/\s.next<=jx+1))),())/\u=W) ?_ ?_
 ·refine ck (dZ sb 1 (by omega) _) (ck (gB b3).2.1 ?_);refine ck (v:=.bool (decide (s.next<1))) (w' :=u) (by simp[go_sem]) ?_;by_cases c1:s.next<1
  ·rw[ci,if_pos (by simpa using c1)];have:¬1<=s.next:=by omega
   exact⟨by simp[this],rfl⟩
  rw[ci,if_neg (by simpa using c1)];refine ck (dZ sb 1 (by omega) _) (ck (gB b3).2.1 ?_);refine ck (v:=.bool (decide (¬(1<=s.next/\s.next<=jx+1)))) (w' :=u) ?_ ⟨rfl,rfl⟩;have c1' :1<=s.next:=by omega
  simp[go_sem,c1',jx]
 rintro _ _ ⟨rfl,rfl⟩;unfold Lt;intro _;by_cases hnx:1<=s.next/\s.next<=jx+1
 rotate_left
 ·simp only[decide_eq_true hnx];rw[ci,if_pos rfl];exact bad (nf λh0=>hnx h0.next) _ M3
 simp only[decide_eq_false (λhcc:¬(1<=s.next/\s.next<=jx+1)=>hcc hnx)];rw[ci,if_neg Bool.false_ne_true];have bc:∀x,Fc x->w1.heap.size<=x/\x<Z.heap.size:=λx hx=>⟨nc x hx,qc.lt hx⟩
 have bl:∀x,Fl x->Z.heap.size<=x/\x<u.heap.size:=λx hx=>⟨nl x hx,ql.lt hx⟩
 replace qc:=qc.mod M λ_ _ h=>h;have z1:=m1.size;have z2:=m2.size;have z3:=M.size;have hlsb:sb<w1.heap.size:=cn b1;obtain⟨nb,hnb⟩:∃nb,nb=u.heap.size:=⟨_,rfl⟩
 have m4:cl (λ_=>False) u (u.alloc (.map #[] 0)):=(cl.refl _ u).alloc _;have ab:cT d9 eY (u.alloc (.map #[] 0)) nb ([]:List (Int×Nat)):=by rw[hnb];exact cT.new u
 refine ck (v:=.map (some nb)) (w' :=u.alloc (.map #[] 0)) (by rw[hnb];simp[go_sem]) ?_;generalize u.alloc (.map #[] 0)=w4 at m4 ab|-;have z4:=m4.size;have bb:=ab.lt;replace qc:=qc.mod m4 λ_ _ h=>h;replace ql:=ql.mod m4 λ_ _ h=>h;obtain⟨nd,hnd⟩:∃nd,nd=w4.heap.size:=⟨_,rfl⟩
 have m5:cl (λ_=>False) w4 (w4.alloc (.map #[] 0)):=(cl.refl _ w4).alloc _;have ad:cT d9 vf (w4.alloc (.map #[] 0)) nd ([]:List (Int×Value)):=by rw[hnd];exact cT.new w4
 refine ck (v:=.map (some nd)) (w' :=w4.alloc (.map #[] 0)) (by rw[hnd];simp[go_sem]) ?_;generalize w4.alloc (.map #[] 0)=w5 at m5 ad|-;have z5:=m5.size;replace qc:=qc.mod m5 λ_ _ h=>h;replace ql:=ql.mod m5 λ_ _ h=>h;replace ab:=ab.mod m5 id;have M5:=(M3.trans m4).trans m5;have b5:cR w5 sb s.day s.next s.fund ss:=m5.hpk (m4.hpk b3 id) id;refine ck (dZ sb 1 (by omega) _) (ck (gB b5).2.1 ?_);refine ck (v:=.agg #[dK c,dn l,.map (some nb),.map (some nd),.int .u64 s.next]) (w' :=w5) (by simp[go_sem,dK,dn]) ?_;refine gJ (w:=w1) (S:=eR s) (((m2.trans M).trans m4).trans m5) qc ql ab ad bc bl (by omega) (by omega) (by omega) (by omega) (by omega) (by omega) (by omega) λv w6 R v6 m6 n6=>?_;rw[IV]at v6;replace v6:jf w6 v c l nb nd [] [] R (eR s):=v6;have b6:cR w6 sb s.day s.next s.fund ss:=m6.hpk b1 id;obtain⟨w7,e7,b7,m7⟩:=Qh w6;obtain⟨Y,hpb⟩:∃p,p=w6.heap.size:=⟨_,rfl⟩
 rw[<-hpb]at e7 b7;obtain⟨w8,e8,b8,m8⟩:=Ou v b7;refine ck e7 (dt e8 ?_);have M68:cl (λ_=>False) w6 w8:=m7.on m8 λy g=>.inr (by omega);have z6:=m6.size;have v8:=v6.mod M68 λ_ _ _ h=>h;refine BS v8.cal λgv w9 ht m9=>?_;have M69:=M68.trans m9;have z69:=M69.size;have v9:=v6.mod M69 λ_ _ _ h=>h;have b9:hp w9 Y=some (.cells #[eg v] EK (0,0)):=m9.hpk b8 id;have s9:cR w9 sb s.day s.next s.fund ss:=M69.hpk b6 id;have hpl6:Y=w6.heap.size:=hpb;have Q:∀y,fy R y->w1.heap.size<=y/\y<Y:=λy ⟨pt,g⟩=>⟨n6 pt y g,by have:=v6.lt g;omega⟩
 have hpb9:Y<w9.heap.size:=cn b9;have h0pb:¬fy R Y:=λB=>by have:=Q Y B;omega
 have h0sb:¬fy R sb:=λB=>by have:=Q sb B;omega
 have M19:cl (λ_=>False) w w9:=(m1.trans m6).trans M69;let I:(Nat->Prop)->Nat->World->Prop:=λX i W=>∃(A' :List (Int×Nat)) (o:Pt->Nat->Prop),jf W v c l nb nd A' [] o (eR s)/\(∀n,(lk A' n).isSome=true↔∃k∈s.cts.take i,k.spec.num=n)/\(∀y,X y↔fy o y)/\∀y,fy o y->w1.heap.size<=y/\y≠Y;obtain⟨hcs,hrise⟩:=jF hcup
 delta K4
 refine Fg (X0:=fy R) (fv:=λk:Ct=>.agg (dU k).toArray) (asg:=λx W K=>rx Tryz.prog (ic ip) W λv w1=>fV Tryz.prog (ej ip v x) w1 λZ=>K v Z) (Pv:=zd ip dU) (xs:=s.cts) ht CG xH I (λ_ _ _=>False) ?_ (λ_ _ _ _ _ h=>h.elim) (λx ⟨pt,hx⟩=>v9.lt hx) ⟨[],R,v9,λn=>?_,λy=>Iff.rfl,λy g=>⟨(Q y g).1,by have:=(Q y g).2;omega⟩⟩ ?_ ?_ (λ_ _ _ _ _ h=>h.elim)
 ·rintro X i W W' H ⟨A',o,i1,i2,i3,i4⟩ hm hX;exact⟨A',o,i1.mod hm λpt y g=>hX y ((i3 y).2 ⟨pt,g⟩),i2,i3,i4⟩
 ·constructor
  ·intro B;cases B
  ·rintro⟨k,L,-⟩;rw[List.take_zero]at L;cases L
 ·rintro X i hi W q vv ⟨A',o,i1,i2,i3,i4⟩ mW hX hdq hqW ⟨rfl,zgq⟩ ⟨rec0,hrec⟩ KN KJ hKN hKJ;have bW:hp W Y=some (.cells #[eg v] EK (0,0)):=mW.hpk b9 h0pb;obtain⟨n,hn⟩:∃n,n=(s.cts[i]).spec.num:=⟨_,rfl⟩
  have V:cl (λ_=>False) W W.drew:=(cl.refl _ W).drew;have i1d:=i1.mod V λ_ _ _ h=>h;have gqd:tR W.drew q s.cts[i]:=V.hpk zgq id;have bd:=V.hpk bW id;have hpW:Y<W.heap.size:=cn bW;have hzd:W.drew.heap.size=W.heap.size:=rfl;generalize W.drew=W2 at V i1d gqd bd hzd|-;refine cB (C0 bd) ?_;simp only[eg,cr];refine co (jZ 2 (by omega)) (cB (Lz _ i1d.blk) ?_);refine co (v:=.pointer (some ⟨q,0,none⟩)) (λW=>by simp[go_sem]) (co (v:=.pointer (some ⟨q,0,none⟩)) (λW=>by simp[go_sem]) (cB (E6 gqd) ?_));refine FC λbk Gb u q3 M n3=>?_;have i1e:=i1d.mod M λ_ _ _ h=>h;refine⟨E6 (M.hpk gqd id),Lz _ i1e.blk,C0 (M.hpk bd id),?_⟩;rw[<-hn]
  have hA:lk A' n=none:=by
   cases hl:lk A' n with
   |none=>rfl
   |some b=>
    obtain⟨k,L,hkn⟩:=(i2 n).1 (by rw[hl];rfl);exfalso
    have h1:k.spec.num<(s.cts[i]).spec.num:=by
     have hd:s.cts=s.cts.take i++s.cts.drop i:=(List.take_append_drop i s.cts).symm;have hr:=hrise;unfold ob at hr;rw[hd,List.pairwise_append]at hr;exact hr.2.2 k L _ (by rw[List.drop_eq_getElem_cons hi];exact List.mem_cons_self)
    omega
  refine fm (enc:=d9) (ev:=eY) (x:=n) (v:=bk) B8 pV i1e.mbk λw4 a4 m4 hs4=>?_;have v4:=i1d.addBk (n:=n) hA M q3 n3 a4 m4;rw[IZ]at v4;have hnb:X nb:=(i3 nb).2 ⟨.mb,(i1.fmb nb).2 rfl⟩;have hz3:=M.size;have hz2:=V.size;refine hKN (fy (ph o (.bk n) Gb)) w4 ⟨_,_,v4,λm=>?_,λy=>Iff.rfl,λy ⟨pt,g⟩=>?_⟩ (((V.mono λ_ _ h=>h.elim).trans (M.mono λ_ _ h=>h.elim)).trans (m4.mono λy _ g=>by rw[g];exact hnb)) λy ⟨pt,g⟩=>⟨?_,v4.lt g⟩
  ·rw[lB,cV hi];constructor
   ·intro hm;by_cases N:n=m
    ·exact⟨s.cts[i],List.mem_append_right _ (List.mem_singleton.2 rfl),by rw[<-hn];exact N⟩
    ·rw[if_neg N]at hm;obtain⟨k,L,hkm⟩:=(i2 m).1 hm;exact⟨k,List.mem_append_left _ L,hkm⟩
   ·rintro⟨k,L,hkm⟩;by_cases N:n=m
    ·rw[if_pos N];rfl
    ·rw[if_neg N];refine(i2 m).2 ?_;rcases List.mem_append.1 L with L|L
     ·exact⟨k,L,hkm⟩
     ·rw[List.mem_singleton.1 L,<-hn]at hkm;exact absurd hkm N
  ·by_cases hpt:pt=.bk n
   ·subst hpt;rw[eG]at g;have:=n3 y g;exact⟨by omega,by omega⟩
   ·rw[cZ hpt]at g;exact i4 y ⟨pt,g⟩
  ·by_cases hpt:pt=.bk n
   ·subst hpt;rw[eG]at g;have:=n3 y g;exact .inr (by omega)
   ·rw[cZ hpt]at g;exact .inl ((i3 y).2 ⟨pt,g⟩)
 rintro X W d hd ⟨A',o,i1,i2,i3,i4⟩ mW hdef hX
 have vR:gT W v c l nb nd A' [] o (eR s):=⟨i1,λn=>by
  rw[Bool.eq_iff_iff,i2 n,List.take_length,<-zQ];unfold dx.nums;rw[List.mem_map];exact Iff.rfl,λn hn=>(by cases hn)⟩
 have hdn:∀y,fy o y->y≠d:=λy g e=>by
  subst e;rcases(hX y ((i3 y).2 g)).2 with h' |h'
  ·have:=(Q y h').2;omega
  ·omega
 have hdW:d<W.heap.size:=cn hdef;have bW:hp W Y=some (.cells #[eg v] EK (0,0)):=mW.hpk b9 h0pb;have sW:cR W sb s.day s.next s.fund ss:=mW.hpk s9 h0sb;have MW:cl (λ_=>False) w W:=M19.on mW λy g=>.inr (by have:=(Q y g).1;omega);have hW:=h.md0 MW;have hzW:=MW.size;unfold Lv;simp only[fk];refine ck (dZ sb 5 (by omega) _) (ck (eZ sW r).2.2 ?_);obtain⟨pa,pc,hp5⟩:=hW.poss.isSl;refine fI (v:=.int .i64 (s.poss.length:Int)) (w' :=W) (by rw[hp5];simp[go_sem]) ?_
 refine dp (λst W' =>∃i:Nat,i<=s.poss.length/\st=(.pointer none,.int .i64 0,.int .i64 i,())/\(∀p∈s.poss.take i,dg s.cts p.c=0)/\cl (λ_=>False) W W')
  (λst _=>match st.2.2.1 with| .int _ i=>s.poss.length - i.toNat|_=>0) ⟨0,by omega,rfl,λp hp=>(by rw[List.take_zero]at hp;cases hp),cl.refl _ _⟩ ?_
 rintro _ W1 ⟨i,hi,rfl,hal,t⟩ KN hKN;unfold GQ;intro _;have G:=t.hpk hdef id;have bW1:=t.hpk bW id;have v1:=vR.md0 t;by_cases hlt:i<s.poss.length
 ·have hlt' :(i:Int)<(s.poss.length:Int):=by omega
  refine ck (v:=.bool true) (by simp[go_sem,hlt']<;>first|exact⟨rfl,rfl⟩|exact rfl) ?_;rw[ci,if_pos rfl];obtain⟨eb,eo,e10,e11⟩:=N1 (hW.poss.mod t λ_ _ h=>h) hlt;refine ck e10 (ck e11 ?_);obtain⟨x,hx⟩:∃x,x=s.poss[i]:=⟨_,rfl⟩
  rw[<-hx];obtain⟨E,w3',e2',e3',b3',P⟩:=Ek x W1;obtain⟨p,hp0⟩:∃p,p=W1.heap.size:=⟨_,rfl⟩
  rw[<-hp0]at e2' e3' b3';refine ck e2' (dt e3' ?_);refine ck (C0 (P.hpk bW1 id)) ?_;refine ck (v:=.pointer (some ⟨p,0,none⟩)) (w' :=w3') (by simp[go_sem]) (ck (PE b3') ?_);refine vJ (v1.md0 P) λw4' m4' =>?_;obtain⟨k,L⟩:∃k,k=fD (eR s).cal.l x.c:=⟨_,rfl⟩
  rw[<-L];refine ck (by simp[-Int.natCast_add,go_sem]<;>first|exact⟨rfl,rfl⟩|exact rfl) ?_;refine ck (by simp[-Int.natCast_add,go_sem]<;>first|exact⟨rfl,rfl⟩|exact rfl) ?_;refine nL _ λD b5' m5' =>?_;obtain⟨z,hz0⟩:∃z,z=w4'.heap.size:=⟨_,rfl⟩
  rw[<-hz0]at b5' |-;refine zp (k' :=k.1) b5' λC b6' A=>?_;have M6' :cl (λ_=>False) W1 C:=((P.trans m4').trans m5').on A λy g=>.inr (by have:=(P.trans m4').size;omega);refine ck (v:=.bool (!decide (dg (eR s).cal.l x.c=0))) (w' :=C) (by simp[go_sem]) ?_;by_cases hca:dg (eR s).cal.l x.c=0
  ·rw[decide_eq_true hca,show(!true)=false from rfl,ci,if_neg Bool.false_ne_true];refine ck (v:=.int .i64 ((i+1:Nat):Int)) (w' :=C) (by simp[go_sem];rw[cS (by omega) (by omega)]) ?_;refine hKN _ _ ⟨i+1,by omega,rfl,λy g=>?_,t.trans M6'⟩ (by show s.poss.length - (((i+1:Nat):Int)).toNat<s.poss.length - ((i:Int)).toNat;omega);rw[cV hlt,<-hx]at g;rcases List.mem_append.1 g with g|g
   ·exact hal y g
   ·rw[List.mem_singleton.1 g];exact hca
  ·rw[decide_eq_false hca,show(!false)=true from rfl,ci,if_pos rfl];refine wo (M6'.hpk G id) λW9 mr=>?_;refine bad (nf λh0=>hca ?_) _ (((MW.trans t).trans M6').on mr λy g=>.inr ?_)
   ·rw[hx];exact h0.poss _ (List.getElem_mem hlt)
   ·have:=M19.size;omega
 obtain rfl:i=s.poss.length:=by omega
 refine ck (v:=.bool false) (by simp[go_sem]<;>first|exact⟨rfl,rfl⟩|exact rfl) ?_;rw[ci,if_neg Bool.false_ne_true];rw[List.take_length]at hal;have h0:jW s:=⟨hc16,hcup,hF0,hnx,hal⟩
 have sW1:cR W1 sb s.day s.next s.fund ss:=t.hpk sW id;have hW1:=hW.md0 t;have hzW1:=t.size;refine ck (C0 bW1) (ck (Lr sW1 r) ?_);have J:∀y,fy o y->w.heap.size<=y:=λy g=>by have:=(i4 y g).1;omega
 have hfr:gm s=(nO s).bind λS=>if S.state.ords=s.ords/\S.state.bids=s.bids then some S else none:=by unfold gm;rw[if_pos h0]
 have hdw:w.heap.size<=d:=by have:=M19.size;omega
 refine GO (s:=s) v1 (im.zero h0 hf) hW1 hf hlO hlB (λj y hj1 hj2 g B=>by have:=J y B;have:=(h j hj1 hj2).lt g;omega) (λT D' fp'' E hT vT hI mT nT=>?_) λE hT mT=>?_
 rotate_left
 ·refine ck (v:=.bool true) (w' :=E) (by simp[go_sem]) ?_;rw[ci,if_pos rfl];refine wo (mT.hpk G λB=>hdn d B rfl) λW9 mr=>?_;refine bad (by rw[hfr];unfold nO;rw[hT];rfl) _ (((MW.trans t).on mT λy g=>.inr (J y g)).on mr λy g=>.inr (by omega))
 refine ck (v:=.bool false) (w' :=E) (by simp[go_sem]) ?_;rw[ci,if_neg Bool.false_ne_true];obtain⟨U,hU⟩:=hI;have hfl:nO s=some T:=hT;have hnpb:¬fy o Y:=λB=>(i4 Y B).2 rfl;have bW2:=mT.hpk bW1 hnpb;have M2' :cl (λ_=>False) w E:=(MW.trans t).on mT λy g=>.inr (J y g);have hsbn:¬fy o sb:=λB=>by have:=(i4 sb B).1;omega
 have sW2:cR E sb s.day s.next s.fund ss:=mT.hpk sW1 hsbn;have hdef2:=mT.hpk G λB=>hdn d B rfl;refine ck (C0 bW2) ?_;refine rk vT hU.ok λss' tb' lo w3' sT hlo P hb' =>?_;obtain⟨w4',e4',b4',m4'⟩:=kD w3';obtain⟨tb,htb⟩:∃p,p=w3'.heap.size:=⟨_,rfl⟩
 rw[<-htb]at e4' b4'
 have hss' :∀i,3<=i->i<=7->∃a n c,ss' i=.slice a n c:=λi hi hj=>by
  obtain⟨a,cc,hs',-⟩:=(sT.own i hi hj).isSl;exact⟨_,_,_,hs'⟩
 obtain⟨D,e5',b5',m5'⟩:=th (d:=T.cal.day) (n:=T.next) (f:=T.led.fund) (ss:=ss') b4' rfl hss';refine ck e4' (dt e5' ?_);have M45:cl (λ_=>False) w3' D:=m4'.on m5' λy g=>.inr (by omega);have M35:cl (λ_=>False) E D:=P.trans M45;have sT5:=sT.mod M45 id λ_ _ _ _ _ h=>h.elim;have hO6:Rd D 6 (ss' 6) T.state.ords.length (T.state.ords.flatMap dB):=(sT5.own 6 (by omega) (by omega)).rd;have hO7:Rd D 6 (ss' 7) T.state.bids.length (T.state.bids.flatMap dB):=(sT5.own 7 (by omega) (by omega)).rd;have h5' :=h.md0 (M2'.trans M35);have sW5:cR D sb s.day s.next s.fund ss:=M35.hpk sW2 id;have hlens:T.state.ords.length<=100000/\T.state.bids.length<=100000:=Gc hU.ok;refine cy.at (λst W' =>st=(.bool (!decide (T.state.ords=s.ords/\T.state.bids=s.bids)),())/\cl (λ_=>False) D W') ?_ ?_
 ·refine ck (dZ tb 6 (by omega) _) (ck (kf b5' hss').1 ?_);refine ck (dZ sb 6 (by omega) _) (ck (kf sW5 r).1 ?_);refine BL hO6 h5'.ords hlens.1 λC A=>?_;by_cases c1:T.state.ords=s.ords
  rotate_left
  ·refine ck (v:=.bool true) (w' :=C) (by simp[go_sem,c1]) ?_;rw[ci,if_pos rfl];exact⟨by simp[c1],A⟩
  refine ck (v:=.bool false) (w' :=C) (by simp[go_sem,c1]) ?_;rw[ci,if_neg Bool.false_ne_true];have b6' :cR C tb T.cal.day T.next T.led.fund ss' :=A.hpk b5' id;have sW6:cR C sb s.day s.next s.fund ss:=A.hpk sW5 id;refine ck (dZ tb 7 (by omega) _) (ck (kf b6' hss').2 ?_);refine ck (dZ sb 7 (by omega) _) (ck (kf sW6 r).2 ?_);refine BL (hO7.mod A λ_ _ h=>h) (h5'.md0 A).bids hlens.2 λw7' m7' =>?_;refine ck (v:=.bool (!decide (T.state.ords=s.ords/\T.state.bids=s.bids))) (w' :=w7') (by simp[go_sem,c1]) ?_;exact⟨rfl,A.trans m7'⟩
 rintro _ C ⟨rfl,A⟩;unfold Lm;intro _;have O:=M35.trans A;by_cases B:T.state.ords=s.ords/\T.state.bids=s.bids
 ·rw[decide_eq_true B,show(!true)=false from rfl,ci,if_neg Bool.false_ne_true];refine ck (C0 (O.hpk bW2 id)) ?_;refine wo (O.hpk hdef2 id) λW9 mr=>?_;refine hK (eg v) 0 W9 ((M2'.trans O).on mr λy g=>.inr (by omega)) ?_;rw[hfr,hfl,Option.bind_some,if_pos B];refine⟨rfl,v,fy fp'',rfl,((vT.md0 O).mod mr λpt y g e=>?_).q,λy g=>?_⟩
  ·rcases nT y ⟨pt,g⟩with h' |h'
   ·exact hdn y h' e
   ·omega
  ·rcases nT y g with h' |h'
   ·exact J y h'
   ·omega
 ·rw[decide_eq_false B,show(!false)=true from rfl,ci,if_pos rfl];refine wo (O.hpk hdef2 id) λW9 mr=>?_;refine bad ?_ _ ((M2'.trans O).on mr λy g=>.inr (by omega));rw[hfr,hfl,Option.bind_some,if_neg B]
def yi{α:Type}{P:α->Prop}{l:List UInt8}{f:Rs->α×Rs}(b:∀s,P (f s).1):∀(n:Nat) (acc:List α) (s:Rs),(∀x∈acc,P x)->∀x∈(dv l f n acc s).1,P x
 |0,acc,s,h=>h
 |n+1,acc,s,h=>by
  unfold dv;split
  ·intro x a;cases a
  ·refine yi b n _ _ λx a=>?_;rcases List.mem_append.1 a with a|a
   ·exact h x a
   ·rw[List.mem_singleton.1 a];exact b s
def Cv{α:Type}{l:List UInt8}{f:Rs->α×Rs}:∀(n:Nat) (acc:List α) (s:Rs),(dv l f n acc s).1.length<=acc.length+n
 |0,acc,s=>Nat.le_refl _
 |n+1,acc,s=>by
  unfold dv;split
  ·exact Nat.zero_le _
  ·have:=Cv (l:=l) (f:=f) n (acc++[(f s).1]) (f s).2;rw[List.length_append,List.length_singleton]at this;omega
def qI{α:Type}{l:List UInt8}{f:Rs->α×Rs}(most:Nat)(s:Rs):(dG l f most s).1.length<=most:=by
 have:=Cv (l:=l) (f:=f) (cw l most s).1 [] (cw l most s).2;have a:=dN (l:=l) (most:=most) (s:=s);unfold dG;rw[List.length_nil]at this;omega
def ot{α:Type}{P:α->Prop}{l:List UInt8}{f:Rs->α×Rs}(a:∀s,P (f s).1)(most:Nat)(s:Rs):∀x∈(dG l f most s).1,P x:=yi a _ _ _ λx b=>(by cases b)
section
attribute [local irreducible] cz di ey ir dG
def jD(l:List UInt8):(dh l).1.Fit where
 day:=gg ..
 next:=wU ..
 fund:=fO ..
 accts:=λa b=>ot (f:=jY l) (P:=λa=>iC a.num/\fW a.cash) (λs=>⟨gg _ _,fO _ _⟩) 64 _ a b
 cts:=λa b=>ot (f:=gU l) (P:=Ct.Fit) (λs=>⟨GK _ _,se _ _,fO _ _⟩) 16 _ a b
 poss:=λa b=>ot (f:=kd l) (P:=λp=>(iC p.c/\iC p.a)/\fW p.q/\fW p.b) (λs=>⟨⟨gg _ _,gg _ _⟩,fO _ _,fO _ _⟩) 1024 _ a b
 ords:=λa b=>ot (f:=fe l) (P:=λx=>iC x.1/\x.2.Fit) (λs=>⟨gg _ _,wU _ _,gg _ _,fO _ _,fO _ _⟩) 3200 _ a b
 bids:=λa b=>ot (f:=fe l) (P:=λx=>iC x.1/\x.2.Fit) (λs=>⟨gg _ _,wU _ _,gg _ _,fO _ _,fO _ _⟩) 800 _ a b
def lX(l:List UInt8):(dh l).1.accts.length<=64/\(dh l).1.cts.length<=16/\(dh l).1.poss.length<=1024/\(dh l).1.ords.length<=3200/\(dh l).1.bids.length<=800:=
 ⟨qI ..,qI ..,qI ..,qI ..,qI ..⟩
end
noncomputable def jr (l:List UInt8):Option (iN×dx):=if de l (dh l).2=0 then(gm (dh l).1).map λS=>((dh l).1,S)else none
section
variable{w:World}{K:cm}{v:Value}{l:List UInt8}
set_option maxRecDepth 10000 in
set_option maxHeartbeats 4000000 in
def tP(h:Rd w 1 v l.length (bv l))(hl:l.length<=1000000000)
  (hok:∀s S ss O,jr l=some (s,S)->eW O ss s->cl (λ_=>False) w O->K (.tuple #[Bc s ss,.int .i64 0]) O)
  (hno:∀O,jr l=none->cl (λ_=>False) w O->K (.tuple #[pU 0 0 0 (ij cG),.int .i64 5]) O):Ca Tryz.prog 18 #[v] w K:=by
 have hv0:∀b,eh v b->b<w.heap.size:=λb hb=>h.lt hb;apply So;obtain⟨w1,e1,b1,m1⟩:=kD w;obtain⟨q,hq⟩:∃q,q=w.heap.size:=⟨_,rfl⟩
 rw[<-hq]at e1 b1;refine ck e1 ?_;refine xg (h.mod m1 λ_ _ h=>h) hl λw2 r2 m2=>?_;have b2:cR w2 q 0 0 0 (ij cG):=m2.hpk b1 id;obtain⟨r,hr⟩:∃r,r=w1.heap.size:=⟨_,rfl⟩
 rw[<-hr]at r2|-;have hqr:q<r:=by have:=cn b1;omega
 refine ck (v:=De r) (w' :=w2) (by simp[go_sem,dJ,De]) ?_;obtain⟨c,hc⟩:∃c,c=w2.heap.size:=⟨_,rfl⟩
 have hlay:∃w4,(w2.alloc (.cells #[.pointer none] xI)).setCell ⟨c,0,none⟩ (dJ r)=w4/\cl (λ_=>False) w2 w4/\ft w4 c r:=
  ⟨_,rfl,((cl.refl _ w2).alloc _).setCell (.inr (by omega)) _ _,by show hp _ _=_;rw[hc];simp[go_sem,dJ]⟩
 obtain⟨w4,hw4,m4,v4⟩:=hlay;refine ck (v:=.pointer (some ⟨c,0,none⟩)) (w' :=w2.alloc (.cells #[.pointer none] xI)) (by rw[hc];simp[go_sem]) ?_;refine dt (w' :=w4) (by rw[<-hw4,hc];simp[go_sem,dJ,De]) ?_;clear hw4;have hrc:r<c:=by have:=r2.lt;omega
 have h4:pX w4 c r v l ⟨0,0⟩:=⟨r2.mod m4 id λ_ _ h=>h,v4,by omega⟩
 obtain⟨w5,e5,b5,m5⟩:=kD w4;obtain⟨p,hp0⟩:∃p,p=w4.heap.size:=⟨_,rfl⟩
 rw[<-hp0]at e5 b5;refine ck e5 ?_;have hcp:c<p:=by have:=cn v4;omega
 have md:=(cl.refl (λ_=>False) w5).drew;have h5:=(h4.md0 m5).md0 md;have p5:cR w5.drew p 0 0 0 (ij cG):=md.hpk b5 id;have q5:cR w5.drew q 0 0 0 (ij cG):=md.hpk (m5.hpk (m4.hpk b2 id) id) id;have M5:cl (λb=>b=r) w w5.drew:=((((m1.trans m2).trans m4).trans m5).trans md).mono λ_ _ h=>h.elim;generalize w5.drew=u5 at h5 p5 q5 M5|-;have hpu:=cn p5;have hv:∀b,eh v b->b<q:=λb hb=>by have:=hv0 b hb;omega
 have A:∀{W k:World} {z:Nat},q<=z->cl (λb=>b=r) w W->cl (λy=>y=z) W k->cl (λb=>b=r) w k:=λhz a b=>a.on b λy g=>.inr (by omega);have o:∀{W k:World} {t:Rs},pX W c r v l t->cl (λy=>y=p) W k->pX k c r v l t:=λh m=>h.st (by omega) hcp (λb hb=>by have:=hv b hb;omega) m;refine cB (qF h5.var) (co (λW=>rg W c) (cB (nK h5.var) (co (λW=>rg W c) (cB (nK h5.var) ?_))));refine lN h5.at_ λw6 r6 m6=>?_;have h6:=h5.to r6 m6;refine⟨nK h6.var,nK h6.var,co (λW=>dX W 0 (by omega)) ?_⟩;refine xV h6.at_ λw7 r7 m7=>?_;have h7:=h6.to r7 m7;refine⟨nK h7.var,?_⟩;refine lq h7.at_ λw8 r8 m8=>?_;have h8:=h7.to r8 m8;obtain⟨a1,ha1⟩:∃a,a=cz l fF ⟨0,0⟩:=⟨_,rfl⟩
 rw[<-ha1]at h8|-;obtain⟨a2,ha2⟩:∃a,a=cz l qa a1.2:=⟨_,rfl⟩
 rw[<-ha2]at h8|-;obtain⟨a3,ha3⟩:∃a,a=di l a2.2:=⟨_,rfl⟩
 rw[<-ha3]at h8|-;have p8:cR w8 p 0 0 0 (ij cG):=m8.hpk (m7.hpk (m6.hpk p5 (by omega)) (by omega)) (by omega);have q8:cR w8 q 0 0 0 (ij cG):=m8.hpk (m7.hpk (m6.hpk q5 (by omega)) (by omega)) (by omega);have M8:=((M5.trans m6).trans m7).trans m8;obtain⟨w9,e9,p9,m9⟩:=(rG p8).1 a1.1;refine dt e9 (co (λW=>dX W 1 (by omega)) ?_);obtain⟨w10,e10,p10,m10⟩:=(rG p9).2.1 a2.1;refine dt e10 (co (λW=>dX W 2 (by omega)) ?_);obtain⟨w11,e11,p11,m11⟩:=(rG p10).2.2 a3.1;refine dt e11 ?_;have h11:=o (o (o h8 m9) m10) m11;have q11:cR w11 q 0 0 0 (ij cG):=m11.hpk (m10.hpk (m9.hpk q8 (by omega)) (by omega)) (by omega);have M11:=A (by omega) (A (by omega) (A (by omega) M8 m9) m10) m11
 have kt:∀{W:World} {t:Rs},pX W c r v l t->∀W1 W2 t (F:Nat->Prop),pX W1 c r v l t->cl F W1 W2->(∀y,F y->W.heap.size<=y)->pX W2 c r v l t:=λhW W1 W2 t F G m hF=>by
  obtain⟨z1,z2,z3⟩:=hW.lt;exact⟨G.at_.mod m (λhf=>by have:=hF _ hf;omega) λb hb hf=>by have:=hF _ hf;have:=z3 b hb;omega,m.hpk G.var λhf=>by have:=hF _ hf;omega,G.ne⟩
 refine ck (qF h11.var) ?_;refine Aj (most:=64) (f:=jY l) (ig:=λW t=>pX W c r v l t) h11 (λW t h=>h.at_) (λW k t t' h T m=>h.to T m) (kt h11) (λW t K' G hk=>by rw[iH];exact IW G hk) (by omega) λs3 w12 o12 h12 m12 n12=>?_;have hs3:∃a n c,s3=.slice a n c:=by obtain⟨a,c,e,-⟩:=o12.isSl;exact⟨a,_,c,e⟩
 obtain⟨a4,ha4⟩:∃a,a=dG l (jY l) 64 a3.2:=⟨_,rfl⟩
 rw[<-ha4]at o12 h12;have p12:cR w12 p a1.1 a2.1 a3.1 (ij cG):=m12.hpk p11 (by omega);have q12:cR w12 q 0 0 0 (ij cG):=m12.hpk q11 (by omega);have hp11:=cn p11;refine ck (dX _ 3 (by omega)) ?_;obtain⟨w13,e13,p13,Z⟩:=pE p12 oe 3 (by omega) (by omega) hs3;refine dt e13 ?_;have sl3:=lZ oe 3 hs3;have j:∀y,cv s3 y->p<y:=λy g=>by have:=n12 y g;omega
 have o13:=o12.mod Z λy g e=>by have:=j y g;omega
 have h13:=o h12 Z;have q13:cR w13 q 0 0 0 (ij cG):=Z.hpk q12 (by omega);have M13:=A (by omega) (M11.trans m12) Z;refine ck (qF h13.var) ?_;refine Ak (most:=16) (f:=gU l) (ig:=λW t=>pX W c r v l t) h13 (λW t h=>h.at_) (λW k t t' h T m=>h.to T m) (kt h13) (λW t K' G hk=>by rw[iH];exact Jv G hk) (by omega) λs4 w14 o14 h14 X n14=>?_;have hs4:∃a n c,s4=.slice a n c:=by obtain⟨a,c,e,-⟩:=o14.isSl;exact⟨a,_,c,e⟩
 obtain⟨a5,ha5⟩:∃a,a=dG l (gU l) 16 a4.2:=⟨_,rfl⟩
 rw[<-ha5]at o14 h14;have p14:cR w14 p a1.1 a2.1 a3.1 (dq (ij cG) 3 s3):=X.hpk p13 (by omega);have q14:cR w14 q 0 0 0 (ij cG):=X.hpk q13 (by omega);have hp13:=cn p13;refine ck (dX _ 4 (by omega)) ?_;obtain⟨w15,e15,p15,R⟩:=pE p14 sl3 4 (by omega) (by omega) hs4;refine dt e15 ?_;have sl4:=lZ sl3 4 hs4;have B:∀y,cv s4 y->p<y:=λy g=>by have:=n14 y g;omega
 have oA15:=(o13.mod X λy g e=>by have:=j y g;omega).mod R λy g e=>by have:=j y g;omega
 have oC15:=o14.mod R λy g e=>by have:=B y g;omega
 have h15:=o h14 R;have q15:cR w15 q 0 0 0 (ij cG):=R.hpk q14 (by omega);have M15:=A (by omega) (M13.trans X) R;refine ck (qF h15.var) ?_;refine AW (most:=1024) (f:=kd l) (ig:=λW t=>pX W c r v l t) h15 (λW t h=>h.at_) (λW k t t' h T m=>h.to T m) (kt h15) (λW t K' G hk=>by rw[iH];exact Jl G hk) (by omega) λs5 w16 o16 h16 P n16=>?_;have hs5:∃a n c,s5=.slice a n c:=by obtain⟨a,c,e,-⟩:=o16.isSl;exact⟨a,_,c,e⟩
 obtain⟨a6,ha6⟩:∃a,a=dG l (kd l) 1024 a5.2:=⟨_,rfl⟩
 rw[<-ha6]at o16 h16;have p16:cR w16 p a1.1 a2.1 a3.1 (dq (dq (ij cG) 3 s3) 4 s4):=P.hpk p15 (by omega);have q16:cR w16 q 0 0 0 (ij cG):=P.hpk q15 (by omega);have hp15:=cn p15;refine ck (dX _ 5 (by omega)) ?_;obtain⟨w17,e17,p17,M⟩:=pE p16 sl4 5 (by omega) (by omega) hs5;refine dt e17 ?_;have sl5:=lZ sl4 5 hs5;have J:∀y,cv s5 y->p<y:=λy g=>by have:=n16 y g;omega
 have oA17:=(oA15.mod P λy g e=>by have:=j y g;omega).mod M λy g e=>by have:=j y g;omega
 have oC17:=(oC15.mod P λy g e=>by have:=B y g;omega).mod M λy g e=>by have:=B y g;omega
 have oP17:=o16.mod M λy g e=>by have:=J y g;omega
 have h17:=o h16 M;have q17:cR w17 q 0 0 0 (ij cG):=M.hpk q16 (by omega);have M17:=A (by omega) (M15.trans P) M;refine ck (qF h17.var) (ck (qF h17.var) ?_)
 have hcl:∀W t (K' :cm),pX W c r v l t->(∀k,pX k c r v l (fe l t).2->cl (λb=>b=r) W k->K' (tg (fe l t).1) k)->ew Tryz.prog (.func (.func 73) #[De r] #[]) [] W K' :=λW t K' G hk=>by
  rw[iH];exact J0 G.at_ λk T m' =>hk k (G.to T m') m'
 refine uR (most:=3200) (f:=fe l) (ig:=λW t=>pX W c r v l t) h17 (λW t h=>h.at_) (λW k t t' h T m=>h.to T m) (kt h17) hcl (by omega) λs6 w18 o18 h18 L n18=>?_;have hs6:∃a n c,s6=.slice a n c:=by obtain⟨a,c,e,-⟩:=o18.isSl;exact⟨a,_,c,e⟩
 obtain⟨a7,ha7⟩:∃a,a=dG l (fe l) 3200 a6.2:=⟨_,rfl⟩
 rw[<-ha7]at o18 h18;have p18:cR w18 p a1.1 a2.1 a3.1 (dq (dq (dq (ij cG) 3 s3) 4 s4) 5 s5):=L.hpk p17 (by omega);have q18:cR w18 q 0 0 0 (ij cG):=L.hpk q17 (by omega);have hp17:=cn p17;refine ck (dX _ 6 (by omega)) ?_;obtain⟨w19,e19,p19,E⟩:=pE p18 sl5 6 (by omega) (by omega) hs6;refine dt e19 ?_;have sl6:=lZ sl5 6 hs6;have N18:∀y,cv s6 y->p<y:=λy g=>by have:=n18 y g;omega
 have oA19:=(oA17.mod L λy g e=>by have:=j y g;omega).mod E λy g e=>by have:=j y g;omega
 have oC19:=(oC17.mod L λy g e=>by have:=B y g;omega).mod E λy g e=>by have:=B y g;omega
 have oP19:=(oP17.mod L λy g e=>by have:=J y g;omega).mod E λy g e=>by have:=J y g;omega
 have oO19:=o18.mod E λy g e=>by have:=N18 y g;omega
 have h19:=o h18 E;have q19:cR w19 q 0 0 0 (ij cG):=E.hpk q18 (by omega);have M19:=A (by omega) (M17.trans L) E;refine ck (qF h19.var) (ck (qF h19.var) ?_);refine uR (most:=800) (f:=fe l) (ig:=λW t=>pX W c r v l t) h19 (λW t h=>h.at_) (λW k t t' h T m=>h.to T m) (kt h19) hcl (by omega) λs7 w20 o20 h20 H n20=>?_;have hs7:∃a n c,s7=.slice a n c:=by obtain⟨a,c,e,-⟩:=o20.isSl;exact⟨a,_,c,e⟩
 obtain⟨a8,ha8⟩:∃a,a=dG l (fe l) 800 a7.2:=⟨_,rfl⟩
 rw[<-ha8]at o20 h20;have p20:cR w20 p a1.1 a2.1 a3.1 (dq (dq (dq (dq (ij cG) 3 s3) 4 s4) 5 s5) 6 s6):=H.hpk p19 (by omega);have q20:cR w20 q 0 0 0 (ij cG):=H.hpk q19 (by omega);have hp19:=cn p19;refine ck (dX _ 7 (by omega)) ?_;obtain⟨U,e21,p21,u⟩:=pE p20 sl6 7 (by omega) (by omega) hs7;refine dt e21 ?_;have sl7:=lZ sl6 7 hs7;have N20:∀y,cv s7 y->p<y:=λy g=>by have:=n20 y g;omega
 have oA:=(oA19.mod H λy g e=>by have:=j y g;omega).mod u λy g e=>by have:=j y g;omega
 have oC:=(oC19.mod H λy g e=>by have:=B y g;omega).mod u λy g e=>by have:=B y g;omega
 have oP:=(oP19.mod H λy g e=>by have:=J y g;omega).mod u λy g e=>by have:=J y g;omega
 have oO:=(oO19.mod H λy g e=>by have:=N18 y g;omega).mod u λy g e=>by have:=N18 y g;omega
 have oB:=o20.mod u λy g e=>by have:=N20 y g;omega
 have h21:=o h20 u;have q21:cR U q 0 0 0 (ij cG):=u.hpk q20 (by omega);have M21:=A (by omega) (M19.trans H) u;have M21' :cl (λ_=>False) w U:=(cl.refl _ w).on M21 λy g=>.inr (by omega);obtain⟨ss,Y⟩:∃ss,ss=dq (dq (dq (dq (dq (ij cG) 3 s3) 4 s4) 5 s5) 6 s6) 7 s7:=⟨_,rfl⟩
 obtain⟨st,Q⟩:∃st:iN,st=⟨a1.1,a2.1,a3.1,a4.1,a5.1,a6.1,a7.1,a8.1⟩:=⟨_,rfl⟩
 have C:dh l=(st,a8.2):=by
  rw[Q];subst ha8 ha7 ha6 ha5 ha4 ha3 ha2 ha1;rfl
 have G:eW U ss st:=by
  intro i hi hj;have:i=3\/i=4\/i=5\/i=6\/i=7:=by omega
  rw[Y,Q];rcases this with rfl|rfl|rfl|rfl|rfl
  ·exact oA.rd
  ·exact oC.rd
  ·exact oP.rd
  ·exact oO.rd
  ·exact oB.rd
 have hfit:st.Fit:=by have:=jD l;rw[C]at this;exact this
 have hlen:=lX l;rw[C]at hlen;have hp21:cR U p st.day st.next st.fund ss:=by rw[Y,Q];exact p21
 rw[<-Y]at sl7;have D:jr l=if de l a8.2=0 then(gm st).map λS=>(st,S)else none:=by unfold jr;rw[C]
 have fail:∀W,cl (λ_=>False) U W->jr l=none->rv Tryz.prog (Instr.build kJ #[]) W λv75 w76=>ru Tryz.prog (Instr.storeAt kJ (.pointer (some ⟨q,0,none⟩)) v75) w76 λw77=>sI Tryz.prog (Instr.loadAt kJ (.pointer (some ⟨q,0,none⟩))) w77 λv78=>K (.tuple #[v78,.int .i64 5]) w77:=by
  intro W m hn;refine ck (G8 W) ?_;obtain⟨k,e',b',m'⟩:=th (d:=0) (n:=0) (f:=0) (ss:=ij cG) (m.hpk q21 id) rfl oe;refine dt e' (cB (mz b') ?_);exact hno k hn ((M21'.trans m).on m' λy g=>.inr (by omega))
 refine ck (rg _ _) (ck (nK h21.var) ?_);refine qH h21.at_ λw22 V=>?_;refine ck (v:=.bool (decide (de l a8.2≠0))) (w' :=w22) (by simp[go_sem];try rw[Bool.eq_iff_iff];simp) ?_;by_cases hd:de l a8.2=0
 ·rw[ci,if_neg (by simpa using hd)];rw[if_pos hd]at D;have p22:cR w22 p st.day st.next st.fund ss:=V.hpk hp21 id;refine ck (mz p22) ?_;simp only at hlen;refine zJ (s:=st) (G.md0 V) hfit ⟨by omega,by omega,by omega,by omega,by omega⟩ λx e w23 m23 hx=>?_;refine ck (by simp[-Int.natCast_add,go_sem]<;>first|exact⟨rfl,rfl⟩|exact rfl) ?_;refine ck (by simp[-Int.natCast_add,go_sem]<;>first|exact⟨rfl,rfl⟩|exact rfl) ?_;have I:=V.trans m23;cases hf:gm st with
  |none=>
   rw[hf]at hx D;obtain⟨rfl,rfl⟩:=hx;refine ck (v:=.bool true) (w' :=w23) (by simp[go_sem]) ?_;rw[ci,if_pos rfl];exact fail w23 I D
  |some S=>
   rw[hf]at hx D;obtain⟨rfl,-⟩:=hx;refine ck (v:=.bool false) (w' :=w23) (by simp[go_sem]) ?_;rw[ci,if_neg Bool.false_ne_true];refine ck (mz (m23.hpk p22 id)) ?_;obtain⟨w24,e24,b24,m24⟩:=th (d:=st.day) (n:=st.next) (f:=st.fund) (ss:=ss) (I.hpk q21 id) rfl sl7;refine dt e24 (cB (mz b24) ?_);refine hok st S ss w24 D (λi hi hj=>((G.md0 I) i hi hj).mod m24 λy g e=>?_) ((M21'.trans I).on m24 λy g=>.inr (by omega));have N:=eh.sl g;have:i=3\/i=4\/i=5\/i=6\/i=7:=by omega
   rw[Y]at N;rcases this with rfl|rfl|rfl|rfl|rfl
   ·have:=j y N;omega
   ·have:=B y N;omega
   ·have:=J y N;omega
   ·have:=N18 y N;omega
   ·have:=N20 y N;omega
 ·rw[ci,if_pos (by simpa using hd)];rw[if_neg hd]at D;exact fail w22 V D
end
def dx.dep(S:dx)(x:Cm):Int×Rp×dx:=((S.led.deposit x.acct x.amt).1,Bs,{S with led:=(S.led.deposit x.acct x.amt).2})
def dx.depA(S:dx)(x:Cm):Rp×dx:=if x.may=false then(pu 160,S)else if(S.dep x).1≠0 then(pu (S.dep x).1,S)else((S.dep x).2.1,(S.dep x).2.2)
set_option maxRecDepth 10000 in
set_option maxHeartbeats 8000000 in
def As{w:World}{K:cm}{v:Nat}{F:Nat->Prop}{S:dx}{x:Cm}(h:kj w v F S)(hx:x.Fit)(k1:x.kind=1)(hK:FL w v F (S.dep x) K):Ca Tryz.prog 44 #[eg v,AN x] w K:=by
 have hQ:=h;obtain⟨c,l,mb,md,A,D,k,X,t⟩:=h;apply QZ;obtain⟨U,e1,G,m1⟩:=B5 x w;refine ck e1 ?_;obtain⟨p,M⟩:∃p,p=w.heap.size:=⟨_,rfl⟩
 rw[<-M]at G|-;obtain⟨i,e3,z,Q⟩:=Cr U;refine ck e3 ?_;obtain⟨q,H⟩:∃q,q=U.heap.size:=⟨_,rfl⟩
 rw[<-H]at z|-;have hpq:p<q:=by have:=cn G;omega
 have J:=m1.trans Q;have P:dc i p x:=Q.hpk G id;have h3:=X.md0 J;have Q3:=hQ.md0 J;have s:∀y,F y->y<p:=λy d=>by obtain⟨pt,hp⟩:=(t y).1 d;have:=X.lt hp;omega
 have g:∀pt y,k pt y->F y:=λpt y d=>(t y).2 ⟨_,d⟩;have B:∀y,fy k y↔F y:=λy=>(t y).symm;have hq3:q<i.heap.size:=cn z;have N:∀{pt y},k pt y->y≠q/\y≠p:=λd=>by have:=s _ (g _ _ d);omega
 obtain⟨f1,f2,f3,f4,f5,f6,f7,f8,f9⟩:=id hx
 have n:∀(e:Int) (T:dx) (L:Nat->Prop) (W:World),S.dep x=(e,Bs,T)->kj W v L T->hp W q=some (.cells (DY Bs cG cG cG).toArray xf (0,0))->cl F w W->(∀y,L y->(F y\/w.heap.size<=y)/\y≠q)->
   ru Tryz.prog (Instr.storeAt xf (.pointer (some ⟨q,0,none⟩)) (DB Bs cG cG cG)) W λo=>sI Tryz.prog (Instr.loadAt xf (.pointer (some ⟨q,0,none⟩))) o λu=>K (.tuple #[u,.int .i64 e]) o:=by
  intro e T L W he a b m Z;obtain⟨W1,g1,x1,O⟩:=FY (r:=Bs) b rfl ⟨mu,mu,mu⟩;refine dt g1 (cB (AY x1) ?_);exact hK.nil he (a.mod O λy d e=>(Z y d).2 e) (m.on O λy d=>.inr (by omega)) λy d=>(Z y d).1
 refine ck (Dw _) (ck (DD P) ?_);have kq:∀{W R:World} {pt:Pt},cl (k pt) W R->hp W q=some (.cells (DY Bs cG cG cG).toArray xf (0,0))->hp R q=some (.cells (DY Bs cG cG cG).toArray xf (0,0)):=λm hh=>m.hpk hh λhc=>(N hc).1 rfl;have f:cl (λ_=>False) i i.drew:=(cl.refl _ i).drew;have I:=h3.md0 f;have V:dc i.drew p x:=f.hpk P id;have bd:=f.hpk z id;have Md:=J.trans f;have C:∀{W T},gT W v c l mb md A D k T->kj W v F T:=λa=>⟨c,l,mb,md,A,D,k,a,t⟩
 have j:∀y,F y->(F y\/w.heap.size<=y)/\y≠q:=λy d=>⟨.inl d,by have:=s y d;omega⟩
 have MF:∀{W:World} {pt:Pt},cl (k pt) i.drew W->cl F w W:=λm=>(Md.mono λ_ _ h=>h.elim).trans (m.mono λy _ d=>g _ y d);refine ck (v:=.bool true) (w' :=i) (by simp[go_sem,k1]) ?_;rw[ci,if_pos rfl];simp only[eg,cr];refine cB (AY bd) ?_;refine co (jZ 1 (by omega)) (cB (uU _ I.blk) ?_);refine co pz (cB (yW V) ?_);refine co Ja (cB (Mw V) ?_);refine BE I.led f2 λw4 q4 E=>?_;have Y:=kq E bd;refine⟨AY Y,?_⟩;exact n _ {S with led:=(S.led.deposit x.acct x.amt).2} F w4 rfl (C (I.setLed E q4)) Y (MF E) j
set_option maxRecDepth 10000 in
set_option maxHeartbeats 2000000 in
def Ar{w:World}{K:cm}{v:Nat}{F:Nat->Prop}{S:dx}{x:Cm}(h:kj w v F S)(hok:S.Ok)(hx:x.Fit)(hk1:x.kind=1)
  (hK:∀H I L F' o,kj o v F' (S.depA x).2->DW o H I L (S.depA x).1->cl F w o->(∀y,F' y->F y\/w.heap.size<=y)->(∀y,cv H y\/cv I y\/cv L y->w.heap.size<=y/\¬F' y)->K (DB (S.depA x).1 H I L) o):
  Ca Tryz.prog 12 #[eg v,AN x] w K:=by
 have hQ:=h;obtain⟨c,l,mb,md,A,D,fp,hr,hF⟩:=h;apply SR;obtain⟨w1,e1,b1,m1⟩:=B5 x w;refine ck e1 ?_;obtain⟨p,hp0⟩:∃p,p=w.heap.size:=⟨_,rfl⟩
 rw[<-hp0]at b1|-;obtain⟨w3,e3,b3,m3⟩:=Cr w1;refine ck e3 ?_;obtain⟨q,hq0⟩:∃q,q=w1.heap.size:=⟨_,rfl⟩
 rw[<-hq0]at b3|-;have hpq:p<q:=by have:=cn b1;omega
 have M3:=m1.trans m3;have c3:dc w3 p x:=m3.hpk b1 id;have h3:=hr.md0 M3;have U:∀y,F y->y<p:=λy a=>by obtain⟨pt,hp⟩:=(hF y).1 a;have:=hr.lt hp;omega
 have hq3:q<w3.heap.size:=cn b3
 have s:∀(e:Int) (W:World),S.depA x=(pu e,S)->cl (λ_=>False) w W->hp W q=some (.cells (DY Bs cG cG cG).toArray xf (0,0))->
   Ca Tryz.prog 41 #[.int .i64 e] W λv8 w9=>ru Tryz.prog (Instr.storeAt xf (.pointer (some ⟨q,0,none⟩)) v8) w9 λj=>sI Tryz.prog (Instr.loadAt xf (.pointer (some ⟨q,0,none⟩))) j λv11=>K v11 j:=by
  intro e W he m b;refine C2 λW1 C=>?_;obtain⟨W2,g2,x2,y2⟩:=FY (r:=pu e) (sT:=cG) (sG:=cG) (sA:=cG) (C.hpk b id) rfl ⟨mu,mu,mu⟩;refine dt g2 (cB (AY x2) ?_);have N:=hK cG cG cG F W2;rw[he]at N;refine N ((hQ.md0 (m.trans C)).mod y2 λy a e=>by have:=U y a;omega) (DW.nil _ e) (((m.trans C).mono λ_ _ h=>h.elim).on y2 λy a=>.inr (by have:=m1.size;omega)) (λy a=>.inl a) λy a=>?_;rcases a with a|a|a<;>cases a
 refine rJ h3.blk ?_;refine ck (v:=.bool false) (w' :=w3) (by simp[go_sem]) ?_;rw[ci,if_neg Bool.false_ne_true];refine fM (yD c3) ?_;refine Jf hx λJ m4=>?_;have M4:=M3.trans m4;have c4:dc J p x:=m4.hpk c3 id;have b4:=m4.hpk b3 id;refine ck (v:=.bool (!x.may)) (w' :=J) (by simp[go_sem]) ?_;cases n:x.may with
 |false=>
  rw[show(!false)=true from rfl,ci,if_pos rfl];exact s 160 J (by unfold dx.depA;rw[if_pos n]) M4 b4
 |true=>
  rw[show(!true)=false from rfl,ci,if_neg Bool.false_ne_true];refine yH (hr.md0 M4) hok λu Fu w5 Q5 M n5=>?_;have M5:=M4.trans M;have c5:dc w5 p x:=M.hpk c4 id;have b5:=M.hpk b4 id;have v5:=M.hpk (m4.hpk h3.blk id) id;have hs5:=M4.size;have hq4:q<J.heap.size:=cn b4;have hs45:=M.size;refine fM (yD c5) ?_;refine As Q5 hx hk1 λH I L F6 w6 a1 a2 a3 a4 T=>?_;obtain⟨Y,hY⟩:∃Y,Y=S.dep x:=⟨_,rfl⟩
  rw[<-hY]at a1 a2|-;refine ck (by simp[-Int.natCast_add,go_sem]<;>first|exact⟨rfl,rfl⟩|exact rfl) ?_;refine ck (by simp[-Int.natCast_add,go_sem]<;>first|exact⟨rfl,rfl⟩|exact rfl) ?_
  have B:∀y,F6 y->J.heap.size<=y:=λy a=>by
   rcases a4 y a with d|d
   ·exact n5 y d
   ·omega
  have P:∀{y},y<J.heap.size->¬Fu y:=λh1 h2=>by have:=n5 _ h2;omega
  have b6:=a3.hpk b5 (P hq4);have hvw:v<w.heap.size:=by have:=U v hQ.self;omega
  have v6:=a3.hpk v5 (P (by omega));have M6:cl (λ_=>False) w w6:=M5.on a3 λy a=>.inr (by have:=n5 y a;omega);obtain⟨w7,e7,b7,m7⟩:=Cr w6;refine ck e7 ?_;obtain⟨z,hz⟩:∃z,z=w6.heap.size:=⟨_,rfl⟩
  rw[<-hz]at b7|-;obtain⟨t1,t2,t3⟩:=a2.isSl;obtain⟨w8,e8,b8,m8⟩:=FY (r:=Y.2.1) b7 rfl ⟨t1,t2,t3⟩;refine dt e8 ?_;have V:cl (λ_=>False) w6 w8:=m7.on m8 λy a=>.inr (by omega);have Z:=M6.trans V;have Q8:=a1.md0 V;have R8:=a2.mod V λ_ _ h=>h;have R:=V.hpk b6 id;have v8:=V.hpk v6 id;have i:S.depA x=if Y.1≠0 then(pu Y.1,S)else(Y.2.1,Y.2.2):=by unfold dx.depA;rw[if_neg (by rw[n];simp),hY]
  by_cases g:Y.1≠0
  ·rw[if_pos g]at i;refine ck (v:=.bool true) (w' :=w8) (by simp[go_sem,g]) ?_;rw[ci,if_pos rfl];exact s Y.1 w8 i Z R
  rw[if_neg g]at i;have hY0:Y.1=0:=by simpa using g
  refine ck (v:=.bool false) (w' :=w8) (by simp[go_sem,hY0]) ?_;rw[ci,if_neg Bool.false_ne_true];obtain⟨c6,l6,mb6,md6,A6,D6,t,O,k⟩:=Q8;simp only[eg,cr];refine ck (OH O.blk) ?_;obtain⟨w9,e9,b9,X⟩:=Ny (c' :=c6) (l' :=l6) (mb' :=mb6) (md' :=md6) (n' :=Y.2.2.next) v8;refine dt e9 ?_;have hv6:∀pt,¬t pt v:=λpt hc=>by have:=B v ((k v).2 ⟨pt,hc⟩);omega
  have h9:=O.move (λpt _=>hv6 pt) b9 X;have R9:=R8.mod X λy a e=>by have:=(T y a).1;omega
  have b9z:=X.hpk b8 (by have:=M6.size;omega);have b9q:=X.hpk R (by omega);refine ck (AY b9z) ?_;obtain⟨j,e10,b10,E⟩:=FY (r:=Y.2.1) b9q rfl ⟨t1,t2,t3⟩;refine dt e10 (cB (AY b10) ?_)
  have f:∀y,fy (ph t .v λy=>y=v) y->y=v\/F6 y:=λy ⟨pt,a⟩=>by
   by_cases Q:pt=.v
   ·subst Q;rw[eG]at a;exact .inl a
   ·rw[cZ Q]at a;exact .inr ((k y).2 ⟨pt,a⟩)
  have N:=hK H I L (fy (ph t .v λy=>y=v)) j;rw[i]at N;refine N (h9.mod E λpt y a e=>?_).q (R9.mod E λy a e=>?_) (((Z.mono (G:=F) λ_ _ h=>h.elim).trans (X.mono λy _ a=>by rw[a];exact hQ.self)).on E λy a=>.inr (by omega)) (λy a=>?_) λy a=>⟨?_,λhc=>?_⟩
  ·rcases f y ⟨pt,a⟩with d|d
   ·omega
   ·have:=B y d;omega
  ·have:=(T y a).1;omega
  ·rcases f y a with d|d
   ·exact .inl (d▸hQ.self)
   ·exact .inr (by have:=B y d;omega)
  ·have:=(T y a).1;omega
  ·rcases f y hc with d|d
   ·have:=(T y a).1;omega
   ·exact(T y a).2 d
end Go.Proofs
set_option maxRecDepth 100000
namespace Go.Proofs
open Go Go.Vc
def RA{a:World}{b:cm}(E:Ca Tryz.prog 10 #[] a λc d=>Ca Tryz.prog 21 #[c] d λe f=>kU e f λg h i=>Ca Tryz.prog 20 #[g] i λj k=>kU j k λl m n=>gb .eql 26 true h (gI 0) n λo p=>cC o (gx (kE 54 9 g) p λq r=>gb .eql 9 true q (.string ⟨#[0,1,0,0,0,0,0,0]⟩) r λs t=>cC s (gb .eql 26 true m (gI 0) t λu v=>cC u (gb .neq 23 true l (.pointer none) v λw x=>cC w (gx (sf 41 #[(0,(.int .u8 1)),(1,(.int .u32 1)),(4,(gI 5))]) x λy z=>Ca Tryz.prog 12 #[l,y] z λA B=>gr (Instr.field 32 A 0) B λC D=>gb .eql 26 true C (gI 0) D b) (b (.bool false) x)) (b (.bool false) v)) (b (.bool false) t)) (b (.bool false) p)):Ca Tryz.prog 17 #[] a b:=cj Tryz.func17 E
end Go.Proofs
namespace Go.Proofs
open Go Go.Vc
attribute [local congr] cq
def vY:fq 0=[0]:=by unfold fq;rfl
def Qi:fq 1=[1]:=by unfold fq;rfl
def OT:iI 0=[0]:=by unfold iI;exact vY
section
variable{w:World}{K:cm}{s sl fv:Value}{l:List UInt8}
def AB(h:kX w s l)(f:Rd w 4 sl 0 [])(k:l.length<=1000)(g:∀e d,kX d e (l++[0])->cl (cv s) w d->(∀b,cv e b->cv s b\/w.heap.size<=b)->K e d):Ca Tryz.prog 155 #[s,sl,fv] w K:=by
 apply PO;obtain⟨a,c,rfl⟩:=f.isSl;refine fI (v:=.int .i64 0) (w' :=w) (by simp[go_sem]) (ck (v:=.int .u64 0) (w' :=w) (by simp[go_sem];decide) ?_);refine kR (n:=0) h (by omega) (by omega) λe d o m n=>?_;rw[vY]at o;refine fI (v:=.int .i64 0) (w' :=d) (by simp[go_sem]) ?_;refine dp (λst W=>st=(e,.int .i64 0,())/\d=W) (λ_ _=>0) ⟨rfl,rfl⟩ ?_;rintro _ _ ⟨rfl,rfl⟩ j i;unfold HV;intro _;refine ck (v:=.bool false) (w' :=d) (by simp[go_sem]) ?_;rw[ci,if_neg Bool.false_ne_true];exact g _ _ o m n
def By(h:kX w s l)(f:Rd w 27 sl 0 [])(k:l.length<=1000)(g:∀e d,kX d e (l++[0])->cl (cv s) w d->(∀b,cv e b->cv s b\/w.heap.size<=b)->K e d):Ca Tryz.prog 158 #[s,sl,fv] w K:=by
 apply Pn;obtain⟨a,c,rfl⟩:=f.isSl;refine fI (v:=.int .i64 0) (w' :=w) (by simp[go_sem]) (ck (v:=.int .u64 0) (w' :=w) (by simp[go_sem];decide) ?_);refine kR (n:=0) h (by omega) (by omega) λe d o m n=>?_;rw[vY]at o;refine fI (v:=.int .i64 0) (w' :=d) (by simp[go_sem]) ?_;refine dp (λst W=>st=(e,.int .i64 0,())/\d=W) (λ_ _=>0) ⟨rfl,rfl⟩ ?_;rintro _ _ ⟨rfl,rfl⟩ j i;unfold HQ;intro _;refine ck (v:=.bool false) (w' :=d) (by simp[go_sem]) ?_;rw[ci,if_neg Bool.false_ne_true];exact g _ _ o m n
def Az(h:kX w s l)(f:Rd w 4 sl 0 [])(k:l.length<=1000)(g:∀e d,kX d e (l++[0])->cl (cv s) w d->(∀b,cv e b->cv s b\/w.heap.size<=b)->K e d):Ca Tryz.prog 161 #[s,sl,fv] w K:=by
 apply Qz;obtain⟨a,c,rfl⟩:=f.isSl;refine fI (v:=.int .i64 0) (w' :=w) (by simp[go_sem]) (ck (v:=.int .u64 0) (w' :=w) (by simp[go_sem];decide) ?_);refine kR (n:=0) h (by omega) (by omega) λe d o m n=>?_;rw[vY]at o;refine fI (v:=.int .i64 0) (w' :=d) (by simp[go_sem]) ?_;refine dp (λst W=>st=(e,.int .i64 0,())/\d=W) (λ_ _=>0) ⟨rfl,rfl⟩ ?_;rintro _ _ ⟨rfl,rfl⟩ j i;unfold GX;intro _;refine ck (v:=.bool false) (w' :=d) (by simp[go_sem]) ?_;rw[ci,if_neg Bool.false_ne_true];exact g _ _ o m n
def tF(h:kX w s l)(f:Rd w 6 sl 0 [])(k:l.length<=1000)(g:∀e d,kX d e (l++[0])->cl (cv s) w d->(∀b,cv e b->cv s b\/w.heap.size<=b)->K e d):Ca Tryz.prog 163 #[s,sl,fv] w K:=by
 apply NI;obtain⟨a,c,rfl⟩:=f.isSl;refine fI (v:=.int .i64 0) (w' :=w) (by simp[go_sem]) (ck (v:=.int .u64 0) (w' :=w) (by simp[go_sem];decide) ?_);refine kR (n:=0) h (by omega) (by omega) λe d o m n=>?_;rw[vY]at o;refine fI (v:=.int .i64 0) (w' :=d) (by simp[go_sem]) ?_;refine dp (λst W=>st=(e,.int .i64 0,())/\d=W) (λ_ _=>0) ⟨rfl,rfl⟩ ?_;rintro _ _ ⟨rfl,rfl⟩ j i;unfold EL;intro _;refine ck (v:=.bool false) (w' :=d) (by simp[go_sem]) ?_;rw[ci,if_neg Bool.false_ne_true];exact g _ _ o m n
end
def b8:List UInt8:=[0,1,0,0,0,0,0,0]
set_option maxRecDepth 10000 in
def Ec{w:World}{K:cm}{ss:Nat->Value}(h:eW w ss Ai)(hK:∀P Q,kX Q P b8->cl (λ_=>False) w Q->(∀b,cv P b->w.heap.size<=b)->K P Q):Ca Tryz.prog 82 #[pU 0 1 0 ss] w K:=by
 have d:=h.sl;apply R4;obtain⟨g,e1,E,m1⟩:=pC 0 1 0 ss w;obtain⟨sb,L⟩:∃p,p=w.heap.size:=⟨_,rfl⟩
 rw[<-L]at e1 E;refine ck e1 ?_;have md:=(cl.refl (λ_=>False) g).drew;have o:cR g.drew sb 0 1 0 ss:=md.hpk E id;have M2:=m1.trans md;generalize g.drew=w2 at md o M2|-;refine co (λW=>dZ sb 0 (by omega) W) (cB (gB o).1 ?_);refine cB (v:=.int .u64 0) (by simp[go_sem];decide) ?_;refine co (λW=>dZ sb 1 (by omega) W) (cB (gB o).2.1 ?_);refine co (λW=>dZ sb 2 (by omega) W) (cB (gB o).2.2 ?_);refine kR (n:=0) (s:=cG) (l:=[]) (d7.nil _ _ _) (by omega) (by decide) λs3 w3 Z I n3=>?_;rw[vY]at Z;have k3:∀{W k:World} {s:Value} {z:Nat},cR W sb 0 1 0 ss->cl (cv s) W k->(∀b,cv s b->g.heap.size<=b)->cR k sb 0 1 0 ss:=λe m S=>m.hpk e λB=>by have:=S sb B;have:=cn E;omega
 have hsz2:g.heap.size<=w2.heap.size:=md.size;have hw1:w.heap.size<=g.heap.size:=m1.size;have r:cR w3 sb 0 1 0 ss:=I.hpk o λB=>by cases B
 have C:∀b,cv s3 b->g.heap.size<=b:=λb e=>by rcases n3 b e with c|c;cases c;omega
 refine⟨(gB r).2.2,(gB r).2.1,?_⟩;refine kR (n:=1) Z (by omega) (by decide) λs4 w4 o4 A n4=>?_;rw[Qi]at o4;have z3:=I.size;have b4:cR w4 sb 0 1 0 ss:=k3 (z:=0) r A C;have O:∀b,cv s4 b->g.heap.size<=b:=λb e=>by rcases n4 b e with c|c;exact C b c;omega
 refine⟨(gB b4).2.2,?_⟩;refine JP (x:=0) o4 ⟨by decide,by decide⟩ (by decide) λs5 w5 V u n5=>?_;rw[OT]at V;have z4:=A.size;have b5:cR w5 sb 0 1 0 ss:=k3 (z:=0) b4 u O;have N:∀b,cv s5 b->g.heap.size<=b:=λb e=>by rcases n5 b e with c|c;exact O b c;omega
 have f:∀{F:Nat->Prop} {W:World},cl (λ_=>False) w W->∀{k:World},cl F W k->(∀b,F b->g.heap.size<=b)->cl (λ_=>False) w k:=λa _ b S=>a.on b λy G=>.inr (by have:=S y G;omega);have M5:=f (f (M2.on I λy G=>by cases G) A C) u O;have z5:=u.size;refine ck (dZ sb 3 (by omega) _) (ck (eZ b5 d).1 ?_);refine AB V ((h.md0 M5).accts) (by decide) λs6 w6 o6 D n6=>?_;have b6:cR w6 sb 0 1 0 ss:=k3 (z:=0) b5 D N;have M:∀b,cv s6 b->g.heap.size<=b:=λb e=>by rcases n6 b e with c|c;exact N b c;omega
 have Y:=f M5 D N;have z6:=D.size;refine ck (dZ sb 4 (by omega) _) (ck (eZ b6 d).2.1 ?_);refine By o6 ((h.md0 Y).cts) (by decide) λs7 w7 o7 t n7=>?_;have b7:cR w7 sb 0 1 0 ss:=k3 (z:=0) b6 t M;have J:∀b,cv s7 b->g.heap.size<=b:=λb e=>by rcases n7 b e with c|c;exact M b c;omega
 have X:=f Y t M;have z7:=t.size;refine ck (dZ sb 5 (by omega) _) (ck (eZ b7 d).2.2 ?_);refine Az o7 ((h.md0 X).poss) (by decide) λs8 j o8 U n8=>?_;have b8:cR j sb 0 1 0 ss:=k3 (z:=0) b7 U J;have T:∀b,cv s8 b->g.heap.size<=b:=λb e=>by rcases n8 b e with c|c;exact J b c;omega
 have M8:=f X U J;have z8:=U.size;have i:=(cl.refl (λ_=>False) j).drew;have q:cR j.drew sb 0 1 0 ss:=i.hpk b8 id;have o9:kX j.drew s8 _:=o8.mod i λ_ _ h=>h;have H:=M8.trans i;have z9:=i.size;generalize j.drew=w9 at i q o9 H z9|-;refine co (λW=>dZ sb 6 (by omega) W) (cB (kf q d).1 ?_);refine co (λW=>dZ sb 7 (by omega) W) (cB (kf q d).2 ?_);refine tF o9 ((h.md0 H).ords) (by decide) λsa wa oa R na=>?_;have ba:cR wa sb 0 1 0 ss:=k3 (z:=0) q R T;have Na:∀b,cv sa b->g.heap.size<=b:=λb e=>by rcases na b e with c|c;exact T b c;omega
 have Ma:=f H R T;have za:=R.size;refine⟨(kf ba d).2,?_⟩;refine tF oa ((h.md0 Ma).bids) (by decide) λsc wc oc mc nc=>?_;refine hK sc wc oc (f Ma mc Na) λb e=>?_;rcases nc b e with c|c
 ·have:=Na b c;omega
 ·omega
def E4{w:World}{K:cm}{v:Nat}{F:Nat->Prop}(h:kj w v F dx.empty)(q:∀a d,kX d a b8->cl (λ_=>False) w d->K (.tuple #[a,.int .i64 0]) d):Ca Tryz.prog 21 #[eg v] w K:=by
 obtain⟨c,l,mb,md,A,D,y,f,G⟩:=h;apply Rh;refine yH f uF λx C j E g H=>?_;refine ck (v:=.bool false) (w' :=j) (by simp[go_sem,eg]) ?_;rw[ci,if_neg Bool.false_ne_true];refine rk (f.md0 g) uF λss b I u p t k z=>?_;have e:eW u ss Ai:=λi h1 m=>(p.own i h1 m).rd;refine Ec e λa o r n B=>?_;exact q a o r ((g.trans k).trans n)
def xQ{w:World}{K:cm}{v:Value}{l:List UInt8}(h:Rd w 1 v l.length (bv l))(R:l.length<=1000000000)
  (H:∀x s S F a,jr l=some (s,S)->kj a x F S->(∀y,F y->w.heap.size<=y)->cl (λ_=>False) w a->K (.tuple #[eg x,.int .i64 0]) a)
  (A:∀a,jr l=none->cl (λ_=>False) w a->K (.tuple #[.pointer none,.int .i64 5]) a):Ca Tryz.prog 20 #[v] w K:=by
 apply Sm;refine tP h R (λs S ss b c m z=>?_) λb c z=>?_
 ·have g:=m.sl
  have i:gm s=some S/\s=(dh l).1:=by
   unfold jr at c;by_cases L:de l (dh l).2=0
   ·rw[if_pos L]at c;cases E:gm (dh l).1 with
    |none=>rw[E]at c;cases c
    |some T=>rw[E]at c;cases c;exact⟨E,rfl⟩
   ·rw[if_neg L]at c;cases c
  have t:s.Fit:=by rw[i.2];exact jD l
  have q:=lX l;rw[<-i.2]at q;refine ck (v:=Bc s ss) (w' :=b) (by simp[go_sem]) (ck (v:=.int .i64 0) (w' :=b) (by simp[go_sem]) ?_);obtain⟨W,r,u,C⟩:=kD b;obtain⟨p,j⟩:∃p,p=b.heap.size:=⟨_,rfl⟩
  rw[<-j]at r u;obtain⟨k,J,N,D⟩:=th (d:=s.day) (n:=s.next) (f:=s.fund) (ss:=ss) u rfl g;refine ck r (dt J ?_);have o:cl (λ_=>False) b k:=C.on D λy G=>.inr (by omega);refine ck (v:=.bool false) (w' :=k) (by simp[go_sem]) ?_;rw[ci,if_neg Bool.false_ne_true];have I:cR k p s.day s.next s.fund ss:=N;refine ck (Lr I g) ?_;refine zJ (s:=s) (m.md0 o) t ⟨by omega,by omega,by omega,by omega,by omega⟩ λx e B V O=>?_;rw[i.1]at O;obtain⟨rfl,M,F,rfl,Q,P⟩:=O;refine ck (v:=eg M) (w' :=B) (by simp[go_sem]) (ck (v:=.int .i64 0) (w' :=B) (by simp[go_sem]) ?_);have X:=z.size;have U:=o.size;exact H M s S F B c Q (λy G=>by have:=P y G;omega) ((z.trans o).trans V)
 ·refine ck (v:=pU 0 0 0 (ij cG)) (w' :=b) (by simp[go_sem]) (ck (v:=.int .i64 5) (w' :=b) (by simp[go_sem]) ?_);obtain⟨W,r,u,C⟩:=kD b;obtain⟨p,j⟩:∃p,p=b.heap.size:=⟨_,rfl⟩
  rw[<-j]at r u;obtain⟨k,J,N,D⟩:=th (d:=0) (n:=0) (f:=0) (ss:=ij cG) u rfl oe;refine ck r (dt J ?_);have o:cl (λ_=>False) b k:=C.on D λy G=>.inr (by omega);refine ck (v:=.bool true) (w' :=k) (by simp[go_sem]) ?_;rw[ci,if_pos rfl];exact A _ c (z.trans o)
def Cg:jr b8=some (Ai,dx.empty):=by
 have h1:dh b8=(Ai,⟨8,0⟩):=by kernel_rfl
 unfold jr;rw[h1];have a:de b8 ⟨8,0⟩=0:=by kernel_rfl
 rw[if_pos a,A7];rfl
def GU:Cm:={jp with kind:=1,acct:=1,amt:=5}
def Gr:GU.Fit:=⟨⟨by decide,by decide⟩,⟨by decide,by decide⟩,⟨by decide,by decide⟩,⟨by decide,by decide⟩,⟨by decide,by decide⟩,BP,⟨by decide,by decide⟩,⟨by decide,by decide⟩,⟨by decide,by decide⟩⟩
def MS:(dx.empty.depA GU).1.err=0:=by rfl
def Qu:Tryz.prog.built mZ [(0,.int .u8 1),(1,.int .u32 1),(4,.int .i64 5)]=some (lG GU).toArray:=by kernel_rfl
def MY{w:World}{K:cm}(a:K (AN GU) w):rx Tryz.prog (sf mZ #[(0,.int .u8 1),(1,.int .u32 1),(4,.int .i64 5)]) w K:=mw Qu a
def L6(r:Rp)(sT sG sA:Value)(W:World):(Instr.field 32 (DB r sT sG sA) 0).run Tryz.prog W=.ok (.int .i64 r.err) W:=by
 simp[Instr.field,go_sem,part,isAgg,asAgg,DB]
def pN{w:World}{K:cm}(n:∀a,cl (λ_=>False) w a->K (.bool true) a):Ca Tryz.prog 17 #[] w K:=by
 apply RA;refine JN λv F r m i I=>?_;refine E4 m λs j g f=>?_;refine ck (v:=s) (w' :=j) (by simp[go_sem]) (ck (v:=.int .i64 0) (w' :=j) (by simp[go_sem]) ?_);refine xQ g.rd (by decide) (λx t S C b c o k e=>?_) λb c e=>?_
 rotate_left
 ·rw[Cg]at c;cases c
 rw[Cg]at c;cases c;refine ck (v:=eg x) (w' :=b) (by simp[go_sem]) (ck (v:=.int .i64 0) (w' :=b) (by simp[go_sem]) ?_);refine ck (v:=.bool true) (w' :=b) (by simp[go_sem]) ?_;rw[ci,if_pos rfl];refine ui (l:=b8) ny (by kernel_rfl) (by kernel_rfl) (g.rd.mod e λ_ _ h=>h) ?_;refine ck (v:=.bool true) (w' :=b) (by simp[go_sem,b8,jV]) ?_;rw[ci,if_pos rfl];refine ck (v:=.bool true) (w' :=b) (by simp[go_sem]) ?_;rw[ci,if_pos rfl];refine ck (v:=.bool true) (w' :=b) (by simp[go_sem,eg]) ?_;rw[ci,if_pos rfl];refine MY ?_;refine Ar o uF Gr rfl λD G E A d H B q z u=>?_;refine ck (v:=.int .i64 (dx.empty.depA GU).1.err) (w' :=d) (L6 _ _ _ _ _) ?_;rw[MS];refine ck (v:=.bool true) (w' :=d) (by simp[go_sem]) ?_;refine n d (((i.trans f).trans e).on q λy p=>.inr ?_);have:=k y p;have:=i.size;have:=f.size;omega
end Go.Proofs
