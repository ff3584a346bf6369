/- Part of a proof. -/
import Derived.Test.YtgebhcgmckjbbaaGreatB16
set_option linter.all false
namespace Go.Proofs
open Go Go.Vc
attribute [local congr] cr
def Gm(x y:Int×Od)(W:World):(tf .neq nS false (sI x) (sI y)).run Tryz.prog W=.ok (.bool (!decide (x=y))) W:=by
 obtain⟨c,o⟩:=x;obtain⟨i,p⟩:=y;obtain⟨g,h,l,a,n⟩:=o;obtain⟨e,j,m,k,f⟩:=p
 have:(.ok (.bool (!decide (((c,⟨g,h,l,a,n⟩):Int×Od)=(i,⟨e,j,m,k,f⟩)))) W:Result Value)=.ok (.bool (!(decide (c=i)&& (decide (g=e)&& (decide (h=j)&& (decide (l=m)&& (decide (a=k)&& decide (n=f)))))))) W:=by
  congr 3;rw[Bool.eq_iff_iff];simp
 rw[this];simp[go_sem,sI,du,da]
 (repeat' split)<;>simp_all
set_option maxRecDepth 10000 in
set_option maxHeartbeats 1000000 in
def Bm{w:World}{K:cm}{a b:Value}{c lb:List (Int×Od)}(y:Rd w 6 a c.length (c.flatMap du))(s:Rd w 6 b lb.length (lb.flatMap du))(N:c.length<=100000)(r:∀l,cl (λ_=>False) w l->K (.bool (decide (c=lb))) l):Ca Tryz.prog 51 #[a,b] w K:=by
 apply Rf;obtain⟨O,L,D⟩:=y.isSl;obtain⟨P,M,C⟩:=s.isSl;have x:∀W,(builtin .len #[47] 3 #[false] #[a]).run Tryz.prog W=.ok (.value (.int .i64 (c.length:Int))) W:=λW=>by rw[D];simp[go_sem]
 refine fi (x _) ?_;refine fi (v:=.int .i64 (lb.length:Int)) (w' :=w) (by rw[C];simp[go_sem]) ?_;by_cases g:c.length=lb.length
 rotate_left
 ·refine ck (v:=.bool true) (w' :=w) (by simp[go_sem];omega) ?_;rw[ci,if_pos rfl];have j:c≠lb:=λe=>g (by rw[e]);have:=r w (cl.refl _ _);rw[decide_eq_false j]at this;exact this
 refine ck (v:=.bool false) (w' :=w) (by simp[go_sem];omega) ?_;rw[ci,if_neg Bool.false_ne_true];refine fi (x _) ?_
 refine dp (λst W=>∃k:Nat,st=(.bool false,.int .i64 k,())/\k<=c.length/\c.take k=lb.take k/\cl (λ_=>False) w W)
  (λst _=>match st.2.1 with| .int _ k=>c.length - k.toNat|_=>0) ⟨0,rfl,by omega,rfl,cl.refl _ _⟩ ?_
 rintro _ W ⟨k,rfl,I,f,m⟩ G q;unfold JO;intro _;by_cases n:k<c.length
 ·have o:(k:Int)<(c.length:Int):=by omega
  refine ck (v:=.bool true) (by simp[go_sem,o]<;>first|exact⟨rfl,rfl⟩|exact rfl) ?_;rw[ci,if_pos rfl];have md:=m.drew;have ra:=y.mod md λ_ _ h=>h;have u:=s.mod md λ_ _ h=>h;generalize W.drew=t at md ra u|-;have i:k<lb.length:=by omega
  obtain⟨J,po,A,z⟩:=nj ra n;obtain⟨H,Q,F,B⟩:=nj u i;refine cq (λW=>A W _) (cx (jy z) ?_);refine cq (λW=>F W _) (cx (jy B) ?_);refine cq (λW=>Gm _ _ W) ?_;by_cases p:c[k]=lb[k]
  ·rw[decide_eq_true p,show(!true)=false from rfl,ci,if_neg Bool.false_ne_true];refine ck (v:=.int .i64 ((k+1:Nat):Int)) (w' :=t) (by simp[go_sem];rw[cV (by omega) (by omega)]) ?_;refine q _ _ ⟨k+1,rfl,by omega,?_,md⟩ (by show c.length - (((k+1:Nat):Int)).toNat<c.length - ((k:Int)).toNat;omega);rw[cQ n,cQ i,f,p]
  ·rw[decide_eq_false p,show(!false)=true from rfl,ci,if_pos rfl];have j:c≠lb:=λe=>p (by subst e;rfl);have:=r t md;rw[decide_eq_false j]at this;exact this
 ·obtain rfl:k=c.length:=by omega
  refine ck (v:=.bool false) (by simp[go_sem]<;>first|exact⟨rfl,rfl⟩|exact rfl) ?_;rw[ci,if_neg Bool.false_ne_true]
  have E:c=lb:=by
   rw[List.take_length,g,List.take_length]at f;exact f
  have:=r W m;rw[decide_eq_true E]at this;exact this
section
variable{w:World}{b:Nat}{d nx fu:Int}{ss:Nat->Value}
def eP(h:cR w b d nx fu ss)(e:∀i,3<=i->i<=7->∃a n c,ss i=.slice a n c):(Instr.loadAt 44 (.pointer (some ⟨b,3,none⟩))).run Tryz.prog w=.ok (ss 3) w/\(Instr.loadAt 45 (.pointer (some ⟨b,4,none⟩))).run Tryz.prog w=.ok (ss 4) w/\(Instr.loadAt 46 (.pointer (some ⟨b,5,none⟩))).run Tryz.prog w=.ok (ss 5) w:=
 ⟨dC h e 3 (by omega) (by omega),dC h e 4 (by omega) (by omega),dC h e 5 (by omega) (by omega)⟩
def jU(h:cR w b d nx fu ss)(e:∀i,3<=i->i<=7->∃a n c,ss i=.slice a n c):(Instr.loadAt lY (.pointer (some ⟨b,0,none⟩))).run Tryz.prog w=.ok (oJ d nx fu ss) w:=by
 have f:hp w b=some (.cells (nm d nx fu ss).toArray lY (0,0)):=h;obtain⟨_,_,_,j⟩:=e 3 (by omega) (by omega);obtain⟨_,_,_,l⟩:=e 4 (by omega) (by omega);obtain⟨_,_,_,g⟩:=e 5 (by omega) (by omega);obtain⟨_,_,_,k⟩:=e 6 (by omega) (by omega);obtain⟨_,_,_,m⟩:=e 7 (by omega) (by omega);simp only[nm,oJ,j,l,g,k,m]at f|-;simp[go_sem,f]
end
abbrev Eb:TypeId:=23
def Py(W:World):∃a,(Instr.alloc Eb true (.tuple #[])).run Tryz.prog W=.ok (.pointer (some ⟨W.heap.size,0,none⟩)) a/\hp a W.heap.size=some (.cells #[.pointer none] Eb (0,0))/\cl (λ_=>False) W a:=
 ⟨W.alloc (.cells #[.pointer none] Eb),by simp[go_sem],by simp[go_sem],(cl.refl _ W).alloc _⟩
def Nr{W:World}{p:Nat}{x:Value}(v:Nat)(h:hp W p=some (.cells #[x] Eb (0,0))):∃a,(Instr.storeAt Eb (.pointer (some ⟨p,0,none⟩)) (eh v)).run Tryz.prog W=.ok () a/\hp a p=some (.cells #[eh v] Eb (0,0))/\cl (λy=>y=p) W a:=
 ⟨W.setCell ⟨p,0,none⟩ (eh v),by simp[go_sem,h,eh],by simp[go_sem,h],(cl.refl (λy=>y=p) W).setCell (.inl rfl) _ _⟩
def Cu{W:World}{p v:Nat}(h:hp W p=some (.cells #[eh v] Eb (0,0))):(Instr.loadAt Eb (.pointer (some ⟨p,0,none⟩))).run Tryz.prog W=.ok (eh v) W:=by simp[go_sem,h,eh]
abbrev KS(W:World)(p:Nat)(x:Po):Prop:=hp W p=some (.cells (cK x).toArray 112 (0,0))
def LD{W:World}{p:Nat}{x:Po}(h:KS W p x):(Instr.loadAt 35 (.pointer (some ⟨p,0,none⟩))).run Tryz.prog W=.ok (.int .u32 x.c) W:=by
 have a:hp W p=some (.cells (cK x).toArray 112 (0,0)):=h;simp only[cK]at a;simp[go_sem,a]
def KV{W:World}{s:Value}{L:List Po}(h:Rd W 4 s L.length (L.flatMap cK)){i:Nat}(hi:i<L.length):
  ∃b a,(Instr.indexAt 46 s (.int .i64 (i:Int))).run Tryz.prog W=.ok (.pointer (some ⟨b,a,none⟩)) W/\(Instr.loadAt 112 (.pointer (some ⟨b,a,none⟩))).run Tryz.prog W=.ok (kU L[i]) W:=by
 obtain⟨b,a,f,c,e,g⟩:=h.item (show∀x,(cK x).length=4 from λ_=>rfl) hi rfl;have u:Tryz.prog.underlying 46=some (.slice 112):=by kernel_rfl
 refine⟨b,a+i*4,by rw[c];simp[go_sem,hi,cC,u],?_⟩;exact fw (P:=Tryz.prog) (t:=112) (by kernel_rfl) (show Tryz.prog.cellsOf 112=3+1 by kernel_rfl) rfl g
def Fm{S:dF}(h:S.Ok):S.state.ords.length<=100000/\S.state.bids.length<=100000:=by
 have h1:=zg h.ord S.nums.length;have a:=yB h.ord S.nums.length;unfold qM at h1;unfold qr at a;rw[List.take_length]at h1 a;have e:=h.cal.len;have c:S.nums.length=S.cal.l.length:=by unfold dF.nums;rw[List.length_map]
 exact⟨by show(S.nums.flatMap _).length<=_;omega,by show(S.nums.flatMap _).length<=_;omega⟩
def H7(s:iq)(n:Int):({eZ s with bk:=fV (eZ s).bk n Bk.empty}:dF)=eZ s:=by
 have e:fV (λ_:Int=>Bk.empty) n Bk.empty=λ_=>Bk.empty:=by
  funext m;unfold fV;split<;>rfl
 show(⟨(eZ s).cal,(eZ s).led,fV (λ_:Int=>Bk.empty) n Bk.empty,(eZ s).bd,(eZ s).next⟩:dF)=_;rw[e];rfl
set_option maxRecDepth 10000 in
set_option maxHeartbeats 8000000 in
def qK{w:World}{K:cm}{ss:Nat->Value}{s:iq}(h:eS w ss s)(hf:s.Fit)(hl:s.accts.length<=100000/\s.cts.length<=100000/\s.poss.length<=1024/\s.ords.length<=100000/\s.bids.length<=100000)
  (hK:∀(x:Value) (e:Int) (w' :World),cl (λ_=>False) w w' ->(match fZ s with|none=>e=2/\x=.pointer none|some S=>e=0/\∃v F,x=eh v/\kQ w' v F S/\∀y,F y->w.heap.size<=y)->K (.tuple #[x,.int .i64 e]) w'):Ca Tryz.prog 13 #[oJ s.day s.next s.fund ss] w K:=by
 obtain⟨hlA,hlC,hlP,hlO,hlB⟩:=hl;have r:=h.sl;have bad:fZ s=none->∀w',cl (λ_=>False) w w' ->K (.tuple #[.pointer none,.int .i64 2]) w' :=λhn w' m=>hK _ 2 w' m (by rw[hn];exact⟨rfl,rfl⟩);have nf:¬jV s->fZ s=none:=λhn=>by unfold fZ;rw[if_neg hn]
 apply Qw;obtain⟨w1,e1,b1,m1⟩:=js s.day s.next s.fund ss w;obtain⟨sb,hsb⟩:∃p,p=w.heap.size:=⟨_,rfl⟩
 rw[<-hsb]at e1 b1;refine ck e1 (ck (dv sb 0 (by omega) _) (ck (fe b1).1 ?_));refine ck (dv sb 4 (by omega) _) (ck (eP b1 r).2.1 ?_);have h1:=h.md0 m1;refine zI h1.cts hlC hf.cts hf.day (λhc16 hcup c Fc Z qc m2 nc=>?_) λhcn Z m2=>?_
 rotate_left
 ·refine ck (v:=.pointer none) (w' :=Z) (by simp[go_sem]) (ck (v:=.int .i64 2) (w' :=Z) (by simp[go_sem]) ?_);refine ck (v:=.bool true) (w' :=Z) (by simp[go_sem]) ?_;rw[ci,if_pos rfl];exact bad (nf λh0=>hcn ⟨h0.len,h0.cts⟩) _ (m1.trans m2)
 refine ck (v:=dK c) (w' :=Z) (by simp[go_sem]) (ck (v:=.int .i64 0) (w' :=Z) (by simp[go_sem]) ?_);refine ck (v:=.bool false) (w' :=Z) (by simp[go_sem]) ?_;rw[ci,if_neg Bool.false_ne_true];have M2:=m1.trans m2;have h2:=h.md0 M2;have b2:cR Z sb s.day s.next s.fund ss:=m2.hpk b1 id;refine ck (dv sb 2 (by omega) _) (ck (fe b2).2.2 ?_);refine ck (dv sb 3 (by omega) _) (ck (eP b2 r).1 ?_);refine ck (dv sb 5 (by omega) _) (ck (eP b2 r).2.2 ?_);refine IL (f:=s.fund) h2.accts h2.poss (by omega) hlP (λa ha=>(hf.accts a ha).1) hf.poss (λhF0 u l Fl ql M nl=>?_) λhF0 u M=>?_
 rotate_left
 ·refine ck (v:=.pointer none) (w' :=u) (by simp[go_sem]) (ck (v:=.int .i64 2) (w' :=u) (by simp[go_sem]) ?_);refine ck (v:=.bool true) (w' :=u) (by simp[go_sem]) ?_;rw[ci,if_pos rfl];exact bad (nf λh0=>hF0 h0.led) _ (M2.trans M)
 refine ck (v:=dm l) (w' :=u) (by simp[go_sem]) (ck (v:=.int .i64 0) (w' :=u) (by simp[go_sem]) ?_);refine ck (v:=.bool false) (w' :=u) (by simp[go_sem]) ?_;rw[ci,if_neg Bool.false_ne_true];have M3:=M2.trans M;have b3:cR u sb s.day s.next s.fund ss:=M.hpk b2 id;refine cB.at (λst W=>st=(.bool (decide (¬(1<=s.next/\s.next<=jz+1))),())/\u=W) ?_ ?_
 ·refine ck (dv sb 1 (by omega) _) (ck (fe b3).2.1 ?_);refine ck (v:=.bool (decide (s.next<1))) (w' :=u) (by simp[go_sem]) ?_;by_cases c1:s.next<1
  ·rw[ci,if_pos (by simpa using c1)];have:¬1<=s.next:=by omega
   exact⟨by simp[this],rfl⟩
  rw[ci,if_neg (by simpa using c1)];refine ck (dv sb 1 (by omega) _) (ck (fe b3).2.1 ?_);refine ck (v:=.bool (decide (¬(1<=s.next/\s.next<=jz+1)))) (w' :=u) ?_ ⟨rfl,rfl⟩;have c1' :1<=s.next:=by omega
  simp[go_sem,c1',jz]
 rintro _ _ ⟨rfl,rfl⟩;unfold Kw;intro _;by_cases hnx:1<=s.next/\s.next<=jz+1
 rotate_left
 ·simp only[decide_eq_true hnx];rw[ci,if_pos rfl];exact bad (nf λh0=>hnx h0.next) _ M3
 simp only[decide_eq_false (λhcc:¬(1<=s.next/\s.next<=jz+1)=>hcc hnx)];rw[ci,if_neg Bool.false_ne_true];have bc:∀x,Fc x->w1.heap.size<=x/\x<Z.heap.size:=λx hx=>⟨nc x hx,qc.lt hx⟩
 have bl:∀x,Fl x->Z.heap.size<=x/\x<u.heap.size:=λx hx=>⟨nl x hx,ql.lt hx⟩
 replace qc:=qc.mod M λ_ _ h=>h;have z1:=m1.size;have z2:=m2.size;have z3:=M.size;have hlsb:sb<w1.heap.size:=cn b1;obtain⟨nb,hnb⟩:∃nb,nb=u.heap.size:=⟨_,rfl⟩
 have m4:cl (λ_=>False) u (u.alloc (.map #[] 0)):=(cl.refl _ u).alloc _;have ab:cU d8 eY (u.alloc (.map #[] 0)) nb ([]:List (Int×Nat)):=by rw[hnb];exact cU.new u
 refine ck (v:=.map (some nb)) (w' :=u.alloc (.map #[] 0)) (by rw[hnb];simp[go_sem]) ?_;generalize u.alloc (.map #[] 0)=w4 at m4 ab|-;have z4:=m4.size;have bb:=ab.lt;replace qc:=qc.mod m4 λ_ _ h=>h;replace ql:=ql.mod m4 λ_ _ h=>h;obtain⟨nd,hnd⟩:∃nd,nd=w4.heap.size:=⟨_,rfl⟩
 have m5:cl (λ_=>False) w4 (w4.alloc (.map #[] 0)):=(cl.refl _ w4).alloc _;have ad:cU d8 uK (w4.alloc (.map #[] 0)) nd ([]:List (Int×Value)):=by rw[hnd];exact cU.new w4
 refine ck (v:=.map (some nd)) (w' :=w4.alloc (.map #[] 0)) (by rw[hnd];simp[go_sem]) ?_;generalize w4.alloc (.map #[] 0)=w5 at m5 ad|-;have z5:=m5.size;replace qc:=qc.mod m5 λ_ _ h=>h;replace ql:=ql.mod m5 λ_ _ h=>h;replace ab:=ab.mod m5 id;have M5:=(M3.trans m4).trans m5;have b5:cR w5 sb s.day s.next s.fund ss:=m5.hpk (m4.hpk b3 id) id;refine ck (dv sb 1 (by omega) _) (ck (fe b5).2.1 ?_);refine ck (v:=.agg #[dK c,dm l,.map (some nb),.map (some nd),.int .u64 s.next]) (w' :=w5) (by simp[go_sem,dK,dm]) ?_;refine gL (w:=w1) (S:=eZ s) (((m2.trans M).trans m4).trans m5) qc ql ab ad bc bl (by omega) (by omega) (by omega) (by omega) (by omega) (by omega) (by omega) λv w6 R v6 m6 n6=>?_;rw[HY]at v6;replace v6:iV w6 v c l nb nd [] [] R (eZ s):=v6;have b6:cR w6 sb s.day s.next s.fund ss:=m6.hpk b1 id;obtain⟨w7,e7,b7,m7⟩:=Py w6;obtain⟨Y,hpb⟩:∃p,p=w6.heap.size:=⟨_,rfl⟩
 rw[<-hpb]at e7 b7;obtain⟨w8,e8,b8,m8⟩:=Nr v b7;refine ck e7 (dI e8 ?_);have M68:cl (λ_=>False) w6 w8:=m7.on m8 λy g=>.inr (by omega);have z6:=m6.size;have v8:=v6.mod M68 λ_ _ _ h=>h;refine Bt v8.cal λgv w9 ht m9=>?_;have M69:=M68.trans m9;have z69:=M69.size;have v9:=v6.mod M69 λ_ _ _ h=>h;have b9:hp w9 Y=some (.cells #[eh v] Eb (0,0)):=m9.hpk b8 id;have s9:cR w9 sb s.day s.next s.fund ss:=M69.hpk b6 id;have hpl6:Y=w6.heap.size:=hpb;have Q:∀y,fy R y->w1.heap.size<=y/\y<Y:=λy ⟨pt,g⟩=>⟨n6 pt y g,by have:=v6.lt g;omega⟩
 have hpb9:Y<w9.heap.size:=cn b9;have h0pb:¬fy R Y:=λB=>by have:=Q Y B;omega
 have h0sb:¬fy R sb:=λB=>by have:=Q sb B;omega
 have M19:cl (λ_=>False) w w9:=(m1.trans m6).trans M69;let I:(Nat->Prop)->Nat->World->Prop:=λX i W=>∃(A' :List (Int×Nat)) (o:Pt->Nat->Prop),iV W v c l nb nd A' [] o (eZ s)/\(∀n,(lk A' n).isSome=true↔∃k∈s.cts.take i,k.spec.num=n)/\(∀y,X y↔fy o y)/\∀y,fy o y->w1.heap.size<=y/\y≠Y;obtain⟨hcs,hrise⟩:=iE hcup
 delta J9
 refine ED (X0:=fy R) (fv:=λk:Ct=>.agg (dN k).toArray) (asg:=λx W K=>rx Tryz.prog (iz gQ) W λv w1=>gh Tryz.prog (ew gQ v x) w1 λZ=>K v Z) (Pv:=yI gQ dN) (xs:=s.cts) ht B4 xj I (λ_ _ _=>False) ?_ (λ_ _ _ _ _ h=>h.elim) (λx ⟨pt,hx⟩=>v9.lt hx) ⟨[],R,v9,λn=>?_,λy=>Iff.rfl,λy g=>⟨(Q y g).1,by have:=(Q y g).2;omega⟩⟩ ?_ ?_ (λ_ _ _ _ _ h=>h.elim)
 ·rintro X i W W' H ⟨A',o,i1,i2,i3,i4⟩ hm hX;exact⟨A',o,i1.mod hm λpt y g=>hX y ((i3 y).2 ⟨pt,g⟩),i2,i3,i4⟩
 ·constructor
  ·intro B;cases B
  ·rintro⟨k,L,-⟩;rw[List.take_zero]at L;cases L
 ·rintro X i hi W q vv ⟨A',o,i1,i2,i3,i4⟩ mW hX hdq hqW ⟨rfl,zgq⟩ ⟨rec0,hrec⟩ KN KJ hKN hKJ;have bW:hp W Y=some (.cells #[eh v] Eb (0,0)):=mW.hpk b9 h0pb;obtain⟨n,hn⟩:∃n,n=(s.cts[i]).spec.num:=⟨_,rfl⟩
  have V:cl (λ_=>False) W W.drew:=(cl.refl _ W).drew;have i1d:=i1.mod V λ_ _ _ h=>h;have gqd:sM W.drew q s.cts[i]:=V.hpk zgq id;have bd:=V.hpk bW id;have hpW:Y<W.heap.size:=cn bW;have hzd:W.drew.heap.size=W.heap.size:=rfl;generalize W.drew=W2 at V i1d gqd bd hzd|-;refine cx (Cu bd) ?_;simp only[eh,cw];refine cq (jX 2 (by omega)) (cx (KC _ i1d.blk) ?_);refine cq (v:=.pointer (some ⟨q,0,none⟩)) (λW=>by simp[go_sem]) (cq (v:=.pointer (some ⟨q,0,none⟩)) (λW=>by simp[go_sem]) (cx (Eu gqd) ?_));refine ES λbk Gb u q3 M n3=>?_;have i1e:=i1d.mod M λ_ _ _ h=>h;refine⟨Eu (M.hpk gqd id),KC _ i1e.blk,Cu (M.hpk bd id),?_⟩;rw[<-hn]
  have hA:lk A' n=none:=by
   cases hl:lk A' n with
   |none=>rfl
   |some b=>
    obtain⟨k,L,hkn⟩:=(i2 n).1 (by rw[hl];rfl);exfalso
    have h1:k.spec.num<(s.cts[i]).spec.num:=by
     have hd:s.cts=s.cts.take i++s.cts.drop i:=(List.take_append_drop i s.cts).symm;have hr:=hrise;unfold nY at hr;rw[hd,List.pairwise_append]at hr;exact hr.2.2 k L _ (by rw[List.drop_eq_getElem_cons hi];exact List.mem_cons_self)
    omega
  refine fm (enc:=d8) (ev:=eY) (x:=n) (v:=bk) BE pG i1e.mbk λw4 a4 m4 hs4=>?_;have v4:=i1d.addBk (n:=n) hA M q3 n3 a4 m4;rw[H7]at v4;have hnb:X nb:=(i3 nb).2 ⟨.mb,(i1.fmb nb).2 rfl⟩;have hz3:=M.size;have hz2:=V.size;refine hKN (fy (oM o (.bk n) Gb)) w4 ⟨_,_,v4,λm=>?_,λy=>Iff.rfl,λy ⟨pt,g⟩=>?_⟩ (((V.mono λ_ _ h=>h.elim).trans (M.mono λ_ _ h=>h.elim)).trans (m4.mono λy _ g=>by rw[g];exact hnb)) λy ⟨pt,g⟩=>⟨?_,v4.lt g⟩
  ·rw[lD,cQ hi];constructor
   ·intro hm;by_cases N:n=m
    ·exact⟨s.cts[i],List.mem_append_right _ (List.mem_singleton.2 rfl),by rw[<-hn];exact N⟩
    ·rw[if_neg N]at hm;obtain⟨k,L,hkm⟩:=(i2 m).1 hm;exact⟨k,List.mem_append_left _ L,hkm⟩
   ·rintro⟨k,L,hkm⟩;by_cases N:n=m
    ·rw[if_pos N];rfl
    ·rw[if_neg N];refine(i2 m).2 ?_;rcases List.mem_append.1 L with L|L
     ·exact⟨k,L,hkm⟩
     ·rw[List.mem_singleton.1 L,<-hn]at hkm;exact absurd hkm N
  ·by_cases hpt:pt=.bk n
   ·subst hpt;rw[eE]at g;have:=n3 y g;exact⟨by omega,by omega⟩
   ·rw[cZ hpt]at g;exact i4 y ⟨pt,g⟩
  ·by_cases hpt:pt=.bk n
   ·subst hpt;rw[eE]at g;have:=n3 y g;exact .inr (by omega)
   ·rw[cZ hpt]at g;exact .inl ((i3 y).2 ⟨pt,g⟩)
 rintro X W d hd ⟨A',o,i1,i2,i3,i4⟩ mW hdef hX
 have vR:gZ W v c l nb nd A' [] o (eZ s):=⟨i1,λn=>by
  rw[Bool.eq_iff_iff,i2 n,List.take_length,<-zm];unfold dF.nums;rw[List.mem_map];exact Iff.rfl,λn hn=>(by cases hn)⟩
 have hdn:∀y,fy o y->y≠d:=λy g e=>by
  subst e;rcases(hX y ((i3 y).2 g)).2 with h' |h'
  ·have:=(Q y h').2;omega
  ·omega
 have hdW:d<W.heap.size:=cn hdef;have bW:hp W Y=some (.cells #[eh v] Eb (0,0)):=mW.hpk b9 h0pb;have sW:cR W sb s.day s.next s.fund ss:=mW.hpk s9 h0sb;have MW:cl (λ_=>False) w W:=M19.on mW λy g=>.inr (by have:=(Q y g).1;omega);have hW:=h.md0 MW;have hzW:=MW.size;unfold Kx;simp only[fk];refine ck (dv sb 5 (by omega) _) (ck (eP sW r).2.2 ?_);obtain⟨pa,pc,hp5⟩:=hW.poss.isSl;refine fi (v:=.int .i64 (s.poss.length:Int)) (w' :=W) (by rw[hp5];simp[go_sem]) ?_
 refine dp (λst W' =>∃i:Nat,i<=s.poss.length/\st=(.pointer none,.int .i64 0,.int .i64 i,())/\(∀p∈s.poss.take i,di s.cts p.c=0)/\cl (λ_=>False) W W')
  (λst _=>match st.2.2.1 with| .int _ i=>s.poss.length - i.toNat|_=>0) ⟨0,by omega,rfl,λp hp=>(by rw[List.take_zero]at hp;cases hp),cl.refl _ _⟩ ?_
 rintro _ W1 ⟨i,hi,rfl,hal,t⟩ KN hKN;unfold FZ;intro _;have G:=t.hpk hdef id;have bW1:=t.hpk bW id;have v1:=vR.md0 t;by_cases hlt:i<s.poss.length
 ·have hlt' :(i:Int)<(s.poss.length:Int):=by omega
  refine ck (v:=.bool true) (by simp[go_sem,hlt']<;>first|exact⟨rfl,rfl⟩|exact rfl) ?_;rw[ci,if_pos rfl];obtain⟨eb,eo,e10,e11⟩:=KV (hW.poss.mod t λ_ _ h=>h) hlt;refine ck e10 (ck e11 ?_);obtain⟨x,hx⟩:∃x,x=s.poss[i]:=⟨_,rfl⟩
  rw[<-hx];obtain⟨E,w3',e2',e3',b3',P⟩:=Bl x W1;obtain⟨p,hp0⟩:∃p,p=W1.heap.size:=⟨_,rfl⟩
  rw[<-hp0]at e2' e3' b3';refine ck e2' (dI e3' ?_);refine ck (Cu (P.hpk bW1 id)) ?_;refine ck (v:=.pointer (some ⟨p,0,none⟩)) (w' :=w3') (by simp[go_sem]) (ck (LD b3') ?_);refine vl (v1.md0 P) λw4' m4' =>?_;obtain⟨k,L⟩:∃k,k=fE (eZ s).cal.l x.c:=⟨_,rfl⟩
  rw[<-L];refine ck (by simp[-Int.natCast_add,go_sem]<;>first|exact⟨rfl,rfl⟩|exact rfl) ?_;refine ck (by simp[-Int.natCast_add,go_sem]<;>first|exact⟨rfl,rfl⟩|exact rfl) ?_;refine nE _ λD b5' m5' =>?_;obtain⟨z,hz0⟩:∃z,z=w4'.heap.size:=⟨_,rfl⟩
  rw[<-hz0]at b5' |-;refine wW (k' :=k.1) b5' λC b6' A=>?_;have M6' :cl (λ_=>False) W1 C:=((P.trans m4').trans m5').on A λy g=>.inr (by have:=(P.trans m4').size;omega);refine ck (v:=.bool (!decide (di (eZ s).cal.l x.c=0))) (w' :=C) (by simp[go_sem]) ?_;by_cases hca:di (eZ s).cal.l x.c=0
  ·rw[decide_eq_true hca,show(!true)=false from rfl,ci,if_neg Bool.false_ne_true];refine ck (v:=.int .i64 ((i+1:Nat):Int)) (w' :=C) (by simp[go_sem];rw[cV (by omega) (by omega)]) ?_;refine hKN _ _ ⟨i+1,by omega,rfl,λy g=>?_,t.trans M6'⟩ (by show s.poss.length - (((i+1:Nat):Int)).toNat<s.poss.length - ((i:Int)).toNat;omega);rw[cQ hlt,<-hx]at g;rcases List.mem_append.1 g with g|g
   ·exact hal y g
   ·rw[List.mem_singleton.1 g];exact hca
  ·rw[decide_eq_false hca,show(!false)=true from rfl,ci,if_pos rfl];refine vP (M6'.hpk G id) λW9 mr=>?_;refine bad (nf λh0=>hca ?_) _ (((MW.trans t).trans M6').on mr λy g=>.inr ?_)
   ·rw[hx];exact h0.poss _ (List.getElem_mem hlt)
   ·have:=M19.size;omega
 obtain rfl:i=s.poss.length:=by omega
 refine ck (v:=.bool false) (by simp[go_sem]<;>first|exact⟨rfl,rfl⟩|exact rfl) ?_;rw[ci,if_neg Bool.false_ne_true];rw[List.take_length]at hal;have h0:jV s:=⟨hc16,hcup,hF0,hnx,hal⟩
 have sW1:cR W1 sb s.day s.next s.fund ss:=t.hpk sW id;have hW1:=hW.md0 t;have hzW1:=t.size;refine ck (Cu bW1) (ck (jU sW1 r) ?_);have J:∀y,fy o y->w.heap.size<=y:=λy g=>by have:=(i4 y g).1;omega
 have hfr:fZ s=(pY s).bind λS=>if S.state.ords=s.ords/\S.state.bids=s.bids then some S else none:=by unfold fZ;rw[if_pos h0]
 have hdw:w.heap.size<=d:=by have:=M19.size;omega
 refine FX (s:=s) v1 (kd.zero h0 hf) hW1 hf hlO hlB (λj y hj1 hj2 g B=>by have:=J y B;have:=(h j hj1 hj2).lt g;omega) (λT D' fp'' E hT vT hI mT nT=>?_) λE hT mT=>?_
 rotate_left
 ·refine ck (v:=.bool true) (w' :=E) (by simp[go_sem]) ?_;rw[ci,if_pos rfl];refine vP (mT.hpk G λB=>hdn d B rfl) λW9 mr=>?_;refine bad (by rw[hfr];unfold pY;rw[hT];rfl) _ (((MW.trans t).on mT λy g=>.inr (J y g)).on mr λy g=>.inr (by omega))
 refine ck (v:=.bool false) (w' :=E) (by simp[go_sem]) ?_;rw[ci,if_neg Bool.false_ne_true];obtain⟨U,hU⟩:=hI;have hfl:pY s=some T:=hT;have hnpb:¬fy o Y:=λB=>(i4 Y B).2 rfl;have bW2:=mT.hpk bW1 hnpb;have M2' :cl (λ_=>False) w E:=(MW.trans t).on mT λy g=>.inr (J y g);have hsbn:¬fy o sb:=λB=>by have:=(i4 sb B).1;omega
 have sW2:cR E sb s.day s.next s.fund ss:=mT.hpk sW1 hsbn;have hdef2:=mT.hpk G λB=>hdn d B rfl;refine ck (Cu bW2) ?_;refine uZ vT hU.ok λss' tb' lo w3' sT hlo P hb' =>?_;obtain⟨w4',e4',b4',m4'⟩:=kV w3';obtain⟨tb,htb⟩:∃p,p=w3'.heap.size:=⟨_,rfl⟩
 rw[<-htb]at e4' b4'
 have hss' :∀i,3<=i->i<=7->∃a n c,ss' i=.slice a n c:=λi hi hj=>by
  obtain⟨a,cc,hs',-⟩:=(sT.own i hi hj).isSl;exact⟨_,_,_,hs'⟩
 obtain⟨D,e5',b5',m5'⟩:=uH (d:=T.cal.day) (n:=T.next) (f:=T.led.fund) (ss:=ss') b4' rfl hss';refine ck e4' (dI e5' ?_);have M45:cl (λ_=>False) w3' D:=m4'.on m5' λy g=>.inr (by omega);have M35:cl (λ_=>False) E D:=P.trans M45;have sT5:=sT.mod M45 id λ_ _ _ _ _ h=>h.elim;have hO6:Rd D 6 (ss' 6) T.state.ords.length (T.state.ords.flatMap du):=(sT5.own 6 (by omega) (by omega)).rd;have hO7:Rd D 6 (ss' 7) T.state.bids.length (T.state.bids.flatMap du):=(sT5.own 7 (by omega) (by omega)).rd;have h5' :=h.md0 (M2'.trans M35);have sW5:cR D sb s.day s.next s.fund ss:=M35.hpk sW2 id;have hlens:T.state.ords.length<=100000/\T.state.bids.length<=100000:=Fm hU.ok;refine cB.at (λst W' =>st=(.bool (!decide (T.state.ords=s.ords/\T.state.bids=s.bids)),())/\cl (λ_=>False) D W') ?_ ?_
 ·refine ck (dv tb 6 (by omega) _) (ck (i0 b5' hss').1 ?_);refine ck (dv sb 6 (by omega) _) (ck (i0 sW5 r).1 ?_);refine Bm hO6 h5'.ords hlens.1 λC A=>?_;by_cases c1:T.state.ords=s.ords
  rotate_left
  ·refine ck (v:=.bool true) (w' :=C) (by simp[go_sem,c1]) ?_;rw[ci,if_pos rfl];exact⟨by simp[c1],A⟩
  refine ck (v:=.bool false) (w' :=C) (by simp[go_sem,c1]) ?_;rw[ci,if_neg Bool.false_ne_true];have b6' :cR C tb T.cal.day T.next T.led.fund ss' :=A.hpk b5' id;have sW6:cR C sb s.day s.next s.fund ss:=A.hpk sW5 id;refine ck (dv tb 7 (by omega) _) (ck (i0 b6' hss').2 ?_);refine ck (dv sb 7 (by omega) _) (ck (i0 sW6 r).2 ?_);refine Bm (hO7.mod A λ_ _ h=>h) (h5'.md0 A).bids hlens.2 λw7' m7' =>?_;refine ck (v:=.bool (!decide (T.state.ords=s.ords/\T.state.bids=s.bids))) (w' :=w7') (by simp[go_sem,c1]) ?_;exact⟨rfl,A.trans m7'⟩
 rintro _ C ⟨rfl,A⟩;unfold Kq;intro _;have O:=M35.trans A;by_cases B:T.state.ords=s.ords/\T.state.bids=s.bids
 ·rw[decide_eq_true B,show(!true)=false from rfl,ci,if_neg Bool.false_ne_true];refine ck (Cu (O.hpk bW2 id)) ?_;refine vP (O.hpk hdef2 id) λW9 mr=>?_;refine hK (eh v) 0 W9 ((M2'.trans O).on mr λy g=>.inr (by omega)) ?_;rw[hfr,hfl,Option.bind_some,if_pos B];refine⟨rfl,v,fy fp'',rfl,((vT.md0 O).mod mr λpt y g e=>?_).q,λy g=>?_⟩
  ·rcases nT y ⟨pt,g⟩with h' |h'
   ·exact hdn y h' e
   ·omega
  ·rcases nT y g with h' |h'
   ·exact J y h'
   ·omega
 ·rw[decide_eq_false B,show(!false)=true from rfl,ci,if_pos rfl];refine vP (O.hpk hdef2 id) λW9 mr=>?_;refine bad ?_ _ ((M2'.trans O).on mr λy g=>.inr (by omega));rw[hfr,hfl,Option.bind_some,if_neg B]
end Go.Proofs
set_option maxRecDepth 100000
namespace Go.Proofs
open Go Go.Vc
def J0(a b:Value)(c:cm)(d:T2)(e:World)(f:T2->Wp):=NV->cD a λg=>cG 168 g 1 45 e λh i=>gn 45 false h i λj k=>gb .lss 3 false d.2.1 j k λl m=>cz l (cD a λn=>cG 168 n 1 45 m λo p=>gi 45 o d.2.1 p λq r=>gf 108 q 0 r λs t=>cG 38 s 0 35 t λu v=>gb .eql 35 false u b v λw x=>cz w (c d.2.1 x) (gb .add 3 true d.2.1 (gI 1) x λy z=>f (d.1,y,()) z)) (c (gI (-1)) m)
def Rv{a b:Value}{c:World}{d:cm}(h:cS (S:=T2) (J0 a b d) ((gI 0),(gI 0),()) c):Ca Tryz.prog 86 #[a,b] c d:=cj Tryz.func86 h
def mO(a:cm)(b:T3)(c:T3->Wp)(d:T1)(e:World):=NV->cz d.1 (a (.tuple #[(.pointer none),(gI 2)]) e) (gb .add 3 true b.2.2.1 (gI 1) e λf g=>c (b.1,b.2.1,f,()) g)
def Ki(a:Value)(b:cm)(c:Value)(d:T3)(e:World)(f:T3->Wp):=NV->gn 45 false a e λg h=>gb .lss 3 false d.2.2.1 g h λi j=>cz i (gi 45 a d.2.2.1 j λk l=>gx (dh 108 k) l λm n=>gx (iz 108) n λo p=>gh Tryz.prog (ew 108 o m) p λq=>cB (S:=T1) (λr=>ia .gtr 3 true d.2.2.1 (gI 0) λs=>cz s (ia .sub 3 true d.2.2.1 (gI 1) λt=>mQ 45 a t λu=>dD 108 u 0 λv=>dZ 38 v 0 35 q.drew λw=>dD 108 o 0 λx=>dZ 38 x 0 35 q.drew λy=>ia .geq 35 false w y λz=>cz z (r ((.bool true),()) q.drew) (dD 108 o 0 λA=>iD Tryz.prog (dh 38 A) q.drew λB=>Ca Tryz.prog 152 #[B] q.drew λC D=>gp (Op.unary .not C) λE=>cz E (r ((.bool true),()) D) (dZ 108 o 1 106 D λF=>ia .lss 106 true F (.int .u8 1) λG=>cz G (r ((.bool true),()) D) (dZ 108 o 1 106 D λH=>ia .gtr 106 true H (.int .u8 3) λI=>cz I (r ((.bool true),()) D) (dD 108 o 0 λJ=>iD Tryz.prog (dh 38 J) D λK=>dZ 108 o 2 2 D λL=>Ca Tryz.prog 165 #[K,L] D λM N=>gp (Op.unary .not M) λO=>r (O,()) N))))) (dD 108 o 0 λP=>iD Tryz.prog (dh 38 P) q.drew λQ=>Ca Tryz.prog 152 #[Q] q.drew λR S=>gp (Op.unary .not R) λT=>cz T (r ((.bool true),()) S) (dZ 108 o 1 106 S λU=>ia .lss 106 true U (.int .u8 1) λV=>cz V (r ((.bool true),()) S) (dZ 108 o 1 106 S λW=>ia .gtr 106 true W (.int .u8 3) λX=>cz X (r ((.bool true),()) S) (dD 108 o 0 λY=>iD Tryz.prog (dh 38 Y) S λZ=>dZ 108 o 2 2 S λaa=>Ca Tryz.prog 165 #[Z,aa] S λab ac=>gp (Op.unary .not ab) λad=>r (ad,()) ac))))) (mO b d f)) (gx (dP 45 0 []) j λae af=>gx (cv #[45,45] 45 [ae,a]) af λag ah=>gr (Instr.build 168 #[(0,c),(1,ag)]) ah λai aj=>gq 168 ai aj λak al=>b (.tuple #[ak,(gI 0)]) al)
def QJ{a b:Value}{c:World}{d:cm}(i:gn 45 false b c λe f=>gb .gtr 3 true e (gI 16) f λg h=>cz g (d (.tuple #[(.pointer none),(gI 2)]) h) (cS (S:=T3) (Ki b d a) ((.pointer none),(gI 0),(gI 0),()) h)):Ca Tryz.prog 83 #[a,b] c d:=cj Tryz.func83 i
def Nz{a:Value}{b:World}{c:cm}(B:gq 117 a b λd e=>cG 117 d 0 27 e λf g=>gb .gtr 27 true f (.int .u64 0) g λh i=>cz h (cG 117 d 1 35 i λj k=>gb .gtr 35 true j (.int .u32 0) k λl m=>cz l (cG 117 d 3 2 m λn o=>gb .gtr 2 true n (gI 0) o λp q=>cz p (cG 117 d 3 2 q λr s=>gb .leq 2 true r (gI 10000000) s λt u=>cz t (cG 117 d 4 2 u λv w=>gb .gtr 2 true v (gI 0) w λx y=>cz x (cG 117 d 4 2 y λz A=>gb .leq 2 true z (gI 1000000) A c) (c (.bool false) y)) (c (.bool false) u)) (c (.bool false) q)) (c (.bool false) m)) (c (.bool false) i)):Ca Tryz.prog 171 #[a] b c:=cj Tryz.func171 B
def Mx{a b c:Value}{d:World}{e:cm}(l:cz a (gb .gtr 2 false b c d λf g=>cz f (e (.bool true) g) (gt a g λh i=>cz h (gb .lss 2 false b c i e) (e (.bool false) i))) (gt a d λj k=>cz j (gb .lss 2 false b c k e) (e (.bool false) k))):Ca Tryz.prog 241 #[a,b,c] d e:=cj Tryz.func241 l
def GY(a:T1->Wp)(b:T2)(c:T1)(d:World):=NV->cz c.1 (a (b.2.1,()) d) (a (b.1,()) d)
def Ej(a b:Value)(c:cm)(d:T2)(e:World)(f:T2->Wp):=NV->gn 133 false a e λg h=>gb .lss 3 false d.2.1 g h λi j=>cz i (cB (S:=T1) (λk=>cB (S:=T1) (λl=>ia .lss 3 true d.1 (gI 0) λm=>cz m (l ((.bool true),()) j.drew) (mQ 133 a d.2.1 λn=>dZ 117 n 3 2 j.drew λo=>mQ 133 a d.1 λp=>dZ 117 p 3 2 j.drew λq=>Ca Tryz.prog 241 #[b,o,q] j.drew λr s=>l (r,()) s)) (GY k d)) (wO d f)) (c d.1 j)
def Pg{a b:Value}{c:World}{d:cm}(h:cS (S:=T2) (Ej b a d) ((gI (-1)),(gI 0),()) c):Ca Tryz.prog 174 #[a,b] c d:=cj Tryz.func174 h
def OJ{a b:Value}{c:World}{d:cm}(o:gx (dP 133 0 []) c λe f=>gr (Instr.sliceAt 133 a none (some b) none) f λg h=>gx (cv #[133,133] 133 [e,g]) h λi j=>gb .add 3 true b (gI 1) j λk l=>gr (Instr.sliceAt 133 a (some k) none none) l λm n=>gx (cv #[133,133] 133 [i,m]) n d):Ca Tryz.prog 287 #[a,b] c d:=cj Tryz.func287 o
def Fv(a b:Value)(c:cm)(d:T2)(e:World)(f:T2->Wp):=NV->cD a λg=>cG 272 g 1 133 e λh i=>gn 133 false h i λj k=>gb .lss 3 false d.2.1 j k λl m=>cz l (cD a λn=>cG 272 n 1 133 m λo p=>gi 133 o d.2.1 p λq r=>cG 117 q 0 27 r λs t=>gb .eql 27 false s b t λu v=>cz u (c d.2.1 v) (gb .add 3 true d.2.1 (gI 1) v λw x=>f (d.1,w,()) x)) (c (gI (-1)) m)
def O3{a b:Value}{c:World}{d:cm}(h:cS (S:=T2) (Fv a b d) ((gI 0),(gI 0),()) c):Ca Tryz.prog 173 #[a,b] c d:=cj Tryz.func173 h
def JE(a:cm)(b c:Value)(d:T1)(e:World):=NV->cz d.1 (a (gI 2) e) (cG 117 b 0 27 e λf g=>Ca Tryz.prog 173 #[c,f] g λh i=>gb .geq 3 true h (gI 0) i λj k=>cz j (a (gI 8) k) (cD c λl=>cG 272 l 1 133 k λm n=>gn 133 false m n λo p=>gb .geq 3 true o (gI 100) p λq r=>cz q (a (gI 9) r) (cD c λs=>dD 272 s 1 λt=>de 133 t r.drew λu=>de 117 b r.drew λv=>(gx (dP 133 0 []) r.drew λw x=>gk 117 b v x/\gk 133 t u x/\((gx (cv #[133,133] 133 [w,u]) x λy z=>gk 117 b v z/\(gx (dP 133 1 [(0,v)]) z λA B=>gx (cv #[133,133] 133 [y,A]) B λC D=>cD c λE=>dD 272 E 1 λF=>gs 133 F C D λG=>a (gI 0) G))/\(gx (dP 133 1 [(0,v)]) x λH I=>gk 133 t u I/\(gx (cv #[133,133] 133 [w,u]) I λJ K=>gx (cv #[133,133] 133 [J,H]) K λL M=>cD c λN=>dD 272 N 1 λO=>gs 133 O L M λP=>a (gI 0) P))))/\(gx (dP 133 1 [(0,v)]) r.drew λQ R=>gk 133 t u R/\(gx (dP 133 0 []) R λS T=>gk 133 t u T/\(gx (cv #[133,133] 133 [S,u]) T λU V=>gx (cv #[133,133] 133 [U,Q]) V λW X=>cD c λY=>dD 272 Y 1 λZ=>gs 133 Z W X λaa=>a (gI 0) aa))))))
def Qm{a b:Value}{c:World}{d:cm}(p:gq 117 b c λe f=>cB (S:=T1) (λg=>de 117 e f.drew λh=>Ca Tryz.prog 171 #[h] f.drew λi j=>gp (Op.unary .not i) λk=>cz k (g ((.bool true),()) j) (dZ 117 e 2 4 j λl=>cD a λm=>dZ 272 m 0 4 j λn=>ia .neq 4 false l n λo=>g (o,()) j)) (JE d e a)):Ca Tryz.prog 88 #[a,b] c d:=cj Tryz.func88 p
def QF{a:Value}{b:World}{c:cm}(y:ga 117 b λd e=>cD a λf=>dZ 272 f 0 4 e.drew λg=>cD a λh=>dZ 272 h 1 133 e.drew λi=>Ca Tryz.prog 174 #[g,i] e.drew λj k=>gb .lss 3 true j (gI 0) k λl m=>cz l (gr (Instr.build 117 #[]) m λn o=>gs 117 d n o λp=>de 117 d p λq=>c (.tuple #[q,(.bool false)]) p) (cD a λr=>cG 272 r 1 133 m λs t=>lJ 133 s j 117 t λu v=>gs 117 d u v λw=>de 117 d w λx=>c (.tuple #[x,(.bool true)]) w)):Ca Tryz.prog 89 #[a] b c:=cj Tryz.func89 y
def GS(a:Value)(b:cm)(c:T2)(d:World)(e:T2->Wp):=NV->gn 133 false c.2.1 d λf g=>gb .gtr 3 true f (gI 0) g λh i=>cz h (cD a λj=>cG 272 j 0 4 i λk l=>Ca Tryz.prog 174 #[k,c.2.1] l λm n=>lJ 133 c.2.1 m 117 n λo p=>gx (dP 133 1 [(0,o)]) p λq r=>gx (cv #[133,133] 133 [c.1,q]) r λs t=>Ca Tryz.prog 287 #[c.2.1,m] t λu v=>e (s,u,()) v) (b c.1 i)
def PI{a:Value}{b:World}{c:cm}(h:cD a λd=>cG 272 d 1 133 b λe f=>cS (S:=T2) (GS a c) ((.slice none 0 0),e,()) f):Ca Tryz.prog 242 #[a] b c:=cj Tryz.func242 h
def QN{a:World}{b:cm}(m:gr (Instr.build 272 #[(0,(.bool true))]) a λc d=>gq 272 c d λe f=>gr (Instr.build 272 #[]) f λg h=>gq 272 g h λi j=>gr (Instr.build 175 #[(0,e),(1,i)]) j λk l=>gq 175 k l b):Ca Tryz.prog 85 #[] a b:=cj Tryz.func85 m
def Px{a:Value}{b:World}{c:cm}(r:gx (dP 133 0 []) b λd e=>cD a λf=>cG 175 f 0 173 e λg h=>Ca Tryz.prog 242 #[g] h λi j=>gx (cv #[133,133] 133 [d,i]) j λk l=>cD a λm=>cG 175 m 1 173 l λn o=>Ca Tryz.prog 242 #[n] o λp q=>gx (cv #[133,133] 133 [k,p]) q c):Ca Tryz.prog 175 #[a] b c:=cj Tryz.func175 r
def Mc{a b c:Value}{d:World}{e:cm}(h:gb .geq 2 false a b d λf g=>cz f (gb .leq 2 false a c g e) (e (.bool false) g)):Ca Tryz.prog 166 #[a,b,c] d e:=cj Tryz.func166 h
def EF(a b:Value)(c:cm)(d:T2)(e:World)(f:T2->Wp):=NV->cD a λg=>cG 269 g 1 44 e λh i=>gn 44 false h i λj k=>gb .lss 3 false d.2.1 j k λl m=>cz l (cD a λn=>cG 269 n 1 44 m λo p=>gi 44 o d.2.1 p λq r=>cG 92 q 0 35 r λs t=>gb .eql 35 false s b t λu v=>cz u (c d.2.1 v) (gb .add 3 true d.2.1 (gI 1) v λw x=>f (d.1,w,()) x)) (c (gI (-1)) m)
def MY{a b:Value}{c:World}{d:cm}(h:cS (S:=T2) (EF a b d) ((gI 0),(gI 0),()) c):Ca Tryz.prog 168 #[a,b] c d:=cj Tryz.func168 h
def Ef(a:Value)(b:cm)(c:T2)(d:World)(e:T2->Wp):=NV->cD a λf=>cG 269 f 1 44 d λg h=>gn 44 false g h λi j=>gb .lss 3 false c.2.1 i j λk l=>cz k (cD a λm=>cG 269 m 1 44 l λn o=>gi 44 n c.2.1 o λp q=>cG 92 p 1 2 q λr s=>gb .add 2 false c.1 r s λt u=>gb .add 3 true c.2.1 (gI 1) u λv w=>e (t,v,()) w) (b c.1 l)
def OD{a:Value}{b:World}{c:cm}(h:cD a λd=>cG 269 d 0 2 b λe f=>cS (S:=T2) (Ef a c) (e,(gI 0),()) f):Ca Tryz.prog 167 #[a] b c:=cj Tryz.func167 h
def Mw{a b:Value}{c:World}{d:cm}(E:ga 92 c λe f=>gb .eql 35 true b (.int .u32 0) f λg h=>cz g (cD a λi=>cG 269 i 0 2 h λj k=>gr (Instr.build 92 #[(1,j)]) k λl m=>gs 92 e l m λn=>de 92 e n λo=>d (.tuple #[o,(gI 0)]) n) (Ca Tryz.prog 168 #[a,b] h λp q=>gb .lss 3 true p (gI 0) q λr s=>cz r (gr (Instr.build 92 #[]) s λt u=>gs 92 e t u λv=>de 92 e v λw=>d (.tuple #[w,(gI 7)]) v) (cD a λx=>cG 269 x 1 44 s λy z=>lJ 44 y p 92 z λA B=>gs 92 e A B λC=>de 92 e C λD=>d (.tuple #[D,(gI 0)]) C))):Ca Tryz.prog 170 #[a,b] c d:=cj Tryz.func170 E
def G0(a b:Value)(c:cm)(d:T2)(e:World)(f:T2->Wp):=NV->cD a λg=>cG 269 g 2 46 e λh i=>gn 46 false h i λj k=>gb .lss 3 false d.2.1 j k λl m=>cz l (cB (S:=T1) (λn=>cD a λo=>cG 269 o 2 46 m λp q=>gi 46 p d.2.1 q λr s=>cG 112 r 0 35 s λt u=>gb .eql 35 false t b u λv w=>cz v (cD a λx=>cG 269 x 2 46 w λy z=>lJ 46 y d.2.1 112 z λA B=>gx (dP 46 1 [(0,A)]) B λC D=>gx (cv #[46,46] 46 [d.1,C]) D λE F=>n (E,()) F) (n (d.1,()) w)) (wO d f)) (c d.1 m)
def PP{a b:Value}{c:World}{d:cm}(h:cS (S:=T2) (G0 a b d) ((.slice none 0 0),(gI 0),()) c):Ca Tryz.prog 169 #[a,b] c d:=cj Tryz.func169 h
def Jq(a:cm)(b c:Value)(d:T3)(e:T3->Wp)(f:T1)(g:World):=NV->cz f.1 (a (.tuple #[(.pointer none),(gI 2)]) g) (cB (S:=T1) (λh=>cG 112 b 0 35 g λi j=>gb .eql 35 true i (.int .u32 0) j λk l=>cz k (h ((.bool true),()) l) (cG 112 b 1 35 l λm n=>Ca Tryz.prog 168 #[c,m] n λo p=>gb .lss 3 true o (gI 0) p λq r=>cz q (h ((.bool true),()) r) (cG 112 b 2 2 r λs t=>gb .eql 2 true s (gI 0) t λu v=>cz u (cG 112 b 3 2 v λw x=>gb .eql 2 true w (gI 0) x λy z=>cz y (h ((.bool true),()) z) (cG 112 b 2 2 z λA B=>Ca Tryz.prog 166 #[A,(gI (-10000000)),(gI 10000000)] B λC D=>gt C D λE F=>cz E (h ((.bool true),()) F) (cG 112 b 3 2 F λG H=>Ca Tryz.prog 166 #[G,(gI (-1000000000000000)),(gI 1000000000000000)] H λI J=>gt I J λK L=>h (K,()) L))) (cG 112 b 2 2 v λM N=>Ca Tryz.prog 166 #[M,(gI (-10000000)),(gI 10000000)] N λO P=>gt O P λQ R=>cz Q (h ((.bool true),()) R) (cG 112 b 3 2 R λS T=>Ca Tryz.prog 166 #[S,(gI (-1000000000000000)),(gI 1000000000000000)] T λU V=>gt U V λW X=>h (W,()) X))))) (mO a d e))
def JX(a:Value)(b:cm)(c:T3)(d:T3->Wp)(e:T3)(f:World)(g:T3->Wp):=NV->gn 46 false a f λh i=>gb .lss 3 false e.2.2.1 h i λj k=>cz j (gi 46 a e.2.2.1 k λl m=>cG 112 l 2 2 m λn o=>gb .add 2 false e.1 n o λp q=>gi 46 a e.2.2.1 q λr s=>cG 112 r 3 2 s λt u=>gb .add 2 false e.2.1 t u λv w=>gb .add 3 true e.2.2.1 (gI 1) w λx y=>g (p,v,x,()) y) (cB (S:=T1) (λz=>gb .neq 2 true e.1 (gI 0) k λA B=>cz A (z ((.bool true),()) B) (gb .neq 2 true e.2.1 (gI 0) B λC D=>z (C,()) D)) (mO b c d))
def Kv(a b:Value)(c:cm)(d:T3)(e:World)(f:T3->Wp):=NV->gn 46 false a e λg h=>gb .lss 3 false d.2.2.1 g h λi j=>cz i (gi 46 a d.2.2.1 j λk l=>cG 112 k 0 35 l λm n=>Ca Tryz.prog 169 #[b,m] n λo p=>cS (S:=T3) (JX o c d f) ((gI 0),(gI 0),(gI 0),()) p) (c (.tuple #[b,(gI 0)]) j)
def Ky(a:Value)(b:cm)(c:Value)(d:T3)(e:World)(f:T3->Wp):=NV->gn 46 false a e λg h=>gb .lss 3 false d.2.2.1 g h λi j=>cz i (lJ 46 a d.2.2.1 112 j λk l=>gv 112 k l λm n=>cB (S:=T1) (λo=>ia .gtr 3 true d.2.2.1 (gI 0) λp=>cz p (ia .sub 3 true d.2.2.1 (gI 1) λq=>mQ 46 a q λr=>dZ 112 r 0 35 n.drew λs=>dZ 112 m 0 35 n.drew λt=>ia .gtr 35 false s t λu=>cz u (o ((.bool true),()) n.drew) (ia .sub 3 true d.2.2.1 (gI 1) λv=>mQ 46 a v λw=>dZ 112 w 0 35 n.drew λx=>dZ 112 m 0 35 n.drew λy=>ia .eql 35 false x y λz=>cz z (ia .sub 3 true d.2.2.1 (gI 1) λA=>mQ 46 a A λB=>dZ 112 B 1 35 n.drew λC=>dZ 112 m 1 35 n.drew λD=>ia .geq 35 false C D λE=>o (E,()) n.drew) (o ((.bool false),()) n.drew))) (o ((.bool false),()) n.drew)) (Jq b m c d f)) (cS (S:=T3) (Kv a c b) (d.2.1,d.1,(gI 0),()) j)
def JN(a:Value)(b:cm)(c d:Value)(e:T3)(f:World)(g:T3->Wp):=NV->gn 44 false a f λh i=>gb .lss 3 false e.2.2.1 h i λj k=>cz j (cB (S:=T1) (λl=>mQ 44 a e.2.2.1 λm=>dZ 92 m 0 35 k.drew λn=>ia .eql 35 true n (.int .u32 0) λo=>cz o (l ((.bool true),()) k.drew) (ia .gtr 3 true e.2.2.1 (gI 0) λp=>cz p (ia .sub 3 true e.2.2.1 (gI 1) λq=>mQ 44 a q λr=>dZ 92 r 0 35 k.drew λs=>mQ 44 a e.2.2.1 λt=>dZ 92 t 0 35 k.drew λu=>ia .geq 35 false s u λv=>cz v (l ((.bool true),()) k.drew) (mQ 44 a e.2.2.1 λw=>dZ 92 w 1 2 k.drew λx=>Ca Tryz.prog 166 #[x,(gI 0),(gI 1000000000000000)] k.drew λy z=>gp (Op.unary .not y) λA=>l (A,()) z)) (mQ 44 a e.2.2.1 λB=>dZ 92 B 1 2 k.drew λC=>Ca Tryz.prog 166 #[C,(gI 0),(gI 1000000000000000)] k.drew λD E=>gp (Op.unary .not D) λF=>l (F,()) E))) (mO b e g)) (Ca Tryz.prog 167 #[c] k λG H=>gb .gtr 2 true G (gI 1000000000000000) H λI J=>cz I (b (.tuple #[(.pointer none),(gI 2)]) J) (cS (S:=T3) (Ky d b c) (e.2.1,e.1,(gI 0),()) J))
def Jf(a:cm)(b c d:Value)(e:T1)(f:World):=NV->cz e.1 (a (.tuple #[(.pointer none),(gI 2)]) f) (gx (dP 44 0 []) f λg h=>gx (cv #[44,44] 44 [g,b]) h λi j=>gx (dP 46 0 []) j λk l=>gx (cv #[46,46] 46 [k,c]) l λm n=>gr (Instr.build 269 #[(0,d),(1,i),(2,m)]) n λo p=>gq 269 o p λq r=>cS (S:=T3) (JN b a q c) ((.pointer none),(gI 0),(gI 0),()) r)
def RR{a b c:Value}{d:World}{e:cm}(o:cB (S:=T1) (λf=>Ca Tryz.prog 166 #[a,(gI 0),(gI 1000000000000000)] d λg h=>gt g h λi j=>cz i (f ((.bool true),()) j) (gn 44 false b j λk l=>gb .gtr 3 true k (gI 64) l λm n=>f (m,()) n)) (Jf e b c a)):Ca Tryz.prog 84 #[a,b,c] d e:=cj Tryz.func84 o
end Go.Proofs
namespace Go.Proofs
open Go Go.Vc
structure zu(w:World)(r:Nat)(F:Nat->Prop)(R:dM):Prop where
 out:∃sA sH,hp w r=some (.cells #[.int .i64 R.fund,sA,sH] 269 (0,0))/\Rd w 4 sA R.all.length (R.all.flatMap cJ)/\Rd w 4 sH R.held.length (R.held.flatMap cK)/\
  (∀b,eM sA b->F b/\b≠r)/\(∀b,eM sH b->F b/\b≠r)
 self:F r
 lt:∀b,F b->b<w.heap.size
def zu.mod{F G:Nat->Prop}{w w' :World}{r:Nat}{R:dM}(h:zu w r F R)(c:cl G w w')(d:∀b,F b->¬G b):zu w' r F R:=by
 obtain⟨⟨j,k,h1,i,m,e,f⟩,g,l⟩:=h;exact⟨⟨j,k,c.keep h1 (d r g),i.mod c λb a=>d b (e b a).1,m.mod c λb a=>d b (f b a).1,e,f⟩,g,λb a=>Nat.lt_of_lt_of_le (l b a) c.size⟩
def zu.modF{F:Nat->Prop}{w w' :World}{r:Nat}{R:dM}(h:zu w r F R)(a:cl (λ_=>False) w w'):zu w' r F R:=h.mod a λ_ _ h=>h
def jr{n lo hi:Int}{w:World}{K:cm}(a:K (.bool (cy n lo hi)) w):Ca Tryz.prog 166 #[.int .i64 n,.int .i64 lo,.int .i64 hi] w K:=by
 apply Mc;simp[go_sem];unfold cy at a;split
 ·rename_i h
  have e:decide (lo<=n/\n<=hi)=decide (n<=hi):=by rw[decide_eq_decide];omega
  rw[<-e];exact a
 ·rename_i h
  have e:decide (lo<=n/\n<=hi)=false:=by rw[decide_eq_false_iff_not];omega
  rw[e]at a;exact a
def wl{α:Type}{l:List α}{p:α->Bool}(h:∀j (a:j<l.length),p l[j]=false):l.find? p=none:=by
 rw[List.find?_eq_none];intro x b;obtain⟨j,a,rfl⟩:=List.getElem_of_mem b;simp[h j a]
def pN{α:Type}{l:List α}{p:α->Bool}{i:Nat}(hi:i<l.length)(h:p l[i]=true)(a:∀j (b:j<l.length),j<i->p l[j]=false):l.find? p=some l[i]:=by
 rw[List.find?_eq_some_iff_getElem];exact⟨h,i,hi,rfl,λj b=>by simp[a j (by omega) b]⟩
def G7{w:World}{r:Nat}{F:Nat->Prop}{R:dM}{K:cm}{n:Int}(h:zu w r F R)(Y:R.all.length<4294967296)
  (v:∀i:Int,(R.find n=none->i= -1)->(∀a,R.find n=some a->∃k:Nat,i=k/\R.all[k]? =some a)->K (.int .i64 i) w):Ca Tryz.prog 168 #[dm r,.int .u32 n] w K:=by
 obtain⟨⟨Q,V,h1,u,h3,P,S⟩,hs,H⟩:=h;obtain⟨M,B,t⟩:=u.isSl;apply MY
 refine jQ (λs W=>∃(x:Value) (i:Nat),i<=R.all.length/\s=(x,.int .i64 i,())/\W=w/\∀j (f:j<R.all.length),j<i->decide (R.all[j].num=n)=false)
  (λs _=>match s.2.1 with| .int _ i=>R.all.length - i.toNat|_=>0) ⟨_,0,by omega,rfl,rfl,λj f h=>absurd h (Nat.not_lt_zero _)⟩ ?_
 rintro⟨G,_⟩ W ⟨x,i,hi,⟨⟩,rfl,d⟩ N l;unfold EF;intro _;have E:=jJ (i:=i) (by omega);subst t;by_cases c:i<R.all.length
 ·obtain⟨b,q,o,C,e,O,m,z,D,U,X,Z⟩:=zS u c;obtain⟨rfl,-,rfl⟩:M=some ⟨b,q,none⟩/\True/\B=o:=by injection m with J T L;exact⟨J,trivial,L⟩
  simp[-Int.natCast_add,go_sem,dm,cO h1,c,z,D];by_cases e:R.all[i].num=n
  ·simp[e];refine v i (λy=>?_) λa g=>⟨i,rfl,?_⟩
   ·rw[show R.find n=R.all.find? _ from rfl,pN c (by simpa using e) d]at y;cases y
   ·rw[show R.find n=R.all.find? _ from rfl,pN c (by simpa using e) d]at g;rw[List.getElem?_eq_getElem c];exact g
  ·simp[-Int.natCast_add,e,E];refine l _ _ ⟨G,i+1,by omega,rfl,rfl,λj f A=>?_⟩ (by simp;omega);by_cases p:j=i
   ·subst p;simpa using e
   ·exact d j f (by omega)
 ·obtain rfl:i=R.all.length:=by omega
  simp[go_sem,dm,cO h1];have I:R.find n=none:=wl λj f=>d j f f;refine v _ (λ_=>rfl) λa g=>?_;rw[I]at g;cases g
def By{w:World}{r:Nat}{F:Nat->Prop}{R:dM}{K:cm}{n:Int}(h:zu w r F R)(P:R.all.length<4294967296)
  (d:∀y,cl (λ_=>False) w y->K (.tuple #[gR (R.getV n).1,.int .i64 (R.getV n).2]) y):Ca Tryz.prog 170 #[dm r,.int .u32 n] w K:=by
 have J:=h;obtain⟨⟨X,sH,h1,z,h3,W,Y⟩,hs,Q⟩:=h;obtain⟨U,O,u⟩:=z.isSl;subst u;apply Mw;have H:=cn h1;simp[go_sem];generalize j:World.alloc _ _=x;have f:cl (λ_=>False) w x:=by subst j;exact(cl.refl _ w).alloc _
 have c:hp x w.heap.size=some (.cells #[.int .u32 0,.int .i64 0,.bool false,.bool false] 92 (0,0)):=by subst j;simp[go_sem]
 have E:=f.keep h1 id;have L:=z.mod f λ_ _ h=>h;have N:=J.modF f;unfold dM.getV dM.getO at d;by_cases m:n=0
 ·simp only[if_pos m]at d;simp[m,dm,go_sem,cO E,cO c];refine d _ ?_;exact(((f.setCell (.inr (Nat.le_refl _)) _ _).setCell (.inr (Nat.le_refl _)) _ _).setCell (.inr (Nat.le_refl _)) _ _).setCell (.inr (Nat.le_refl _)) _ _
 ·simp only[if_neg m]at d;simp[m];refine G7 N P λi v o=>?_;cases l:R.find n with
  |none=>
   rw[l]at d;obtain rfl:=v l;simp[go_sem,cO c];refine d _ ?_;exact(((f.setCell (.inr (Nat.le_refl _)) _ _).setCell (.inr (Nat.le_refl _)) _ _).setCell (.inr (Nat.le_refl _)) _ _).setCell (.inr (Nat.le_refl _)) _ _
  |some a=>
   rw[l]at d;obtain⟨k,rfl,M⟩:=o a l;obtain⟨g,p⟩:=List.getElem?_eq_some_iff.1 M;obtain⟨b,t,s,C,e,V,q,I,A,B,D,G⟩:=zS L g;obtain⟨rfl,-,rfl⟩:U=some ⟨b,t,none⟩/\True/\O=s:=by injection q with S Z T;exact⟨S,trivial,T⟩
   rw[p]at A B D G;simp[go_sem,dm,cO E,g,I,A,B,D,G,cO c];refine d _ ?_;exact(((f.setCell (.inr (Nat.le_refl _)) _ _).setCell (.inr (Nat.le_refl _)) _ _).setCell (.inr (Nat.le_refl _)) _ _).setCell (.inr (Nat.le_refl _)) _ _
def xK{w:World}{r:Nat}{F:Nat->Prop}{R:dM}{K:cm}{c:Int}(h:zu w r F R)(hl:R.held.length<4294967200)
  (X:∀j v,dW j 112 4 v (R.holders c).length ((R.holders c).flatMap cK)->(∀b,co v b->w.heap.size<=b)->cl (λ_=>False) w j->K v j):Ca Tryz.prog 169 #[dm r,.int .u32 c] w K:=by
 obtain⟨⟨sA,sH,h1,h2,T,h4,h5⟩,L,hFl⟩:=h;obtain⟨aH,cH,y⟩:=T.isSl;subst y;apply PP
 refine jQ (λs W=>∃(v:Value) (i:Nat),i<=R.held.length/\s=(v,.int .i64 i,())/\dW W 112 4 v ((R.held.take i).filter λp=>decide (p.c=c)).length (((R.held.take i).filter λp=>decide (p.c=c)).flatMap cK)/\
   cl (λ_=>False) w W/\∀b,co v b->w.heap.size<=b)
  (λs _=>match s.2.1 with| .int _ i=>R.held.length - i.toNat|_=>0) ⟨_,0,by omega,rfl,(show dW w _ 4 (.slice none 0 0) 0 []from dW.nil ..),cl.refl _ _,λb n=>by cases n⟩ ?_
 rintro⟨q,_⟩ W ⟨v,i,hi,⟨⟩,u,l,t⟩ KN A;have o:=l.keep h1 id;have g3:=T.mod l λ_ _ h=>h;have Y:=jJ (i:=i) (by omega);have Z:((R.held.take i).filter λp=>decide (p.c=c)).length<=R.held.length:=Nat.le_trans (List.length_filter_le ..) (by rw[List.length_take];omega);unfold G0;intro _;by_cases a:i<R.held.length
 ·obtain⟨b,H,E,C,e,fz,D,N,O,P,Q,S⟩:=Bb g3 a;obtain⟨rfl,-,rfl⟩:aH=some ⟨b,H,none⟩/\True/\cH=E:=by injection D with e1 e2 e3;exact⟨e1,trivial,e3⟩
  have m:R.held.take (i+1)=R.held.take i++[R.held[i]]:=List.take_succ_eq_append_getElem a;simp[-Int.natCast_add,go_sem,dm,cO o,a]
  let Je:(Value×Unit)->World->Prop:=λs M=>∃f:Value,s=(f,())/\dW M 112 4 f ((R.held.take (i+1)).filter λp=>decide (p.c=c)).length (((R.held.take (i+1)).filter λp=>decide (p.c=c)).flatMap cK)/\
   cl (λ_=>False) w M/\∀b,co f b->w.heap.size<=b
  refine cB.at Je ?_ ?_
  ·by_cases e:R.held[i].c=c
   ·have hx:R.held[i].c=c:=e;simp[-Int.natCast_add,go_sem,cO o,a,N,O,P,Q,S,e]
    have g:∀(K:cm),(∀f j,dW j 112 4 f (((R.held.take i).filter λp=>decide (p.c=c))++[R.held[i]]).length ((((R.held.take i).filter λp=>decide (p.c=c))++[R.held[i]]).flatMap cK)->cl (co q) W j->(∀b,co f b->co q b\/W.heap.size<=b)->K f j)->
      rx Tryz.prog (dP 46 1 [(0,.agg (cK R.held[i]).toArray)]) W λJ G=>rx Tryz.prog (cv #[46,46] 46 [q,J]) G K:=λK V=>
     Ec (d:=(R.held.take i).filter λp=>decide (p.c=c)) (enc:=cK) (x:=R.held[i]) (k:=3) LR Lj rfl rfl (by omega) (by omega) u (by omega) V
    simp only[cK,hx]at g;refine g _ λf w'' I z U=>?_;refine⟨f,rfl,?_,l.on z λb n=>.inr (t b n),λb n=>(U b n).elim (t b) λh=>Nat.le_trans l.size h⟩;rw[m,List.filter_append,show [R.held[i]].filter (λp=>decide (p.c=c))=[R.held[i]] by simp[e]];exact I
   ·simp[-Int.natCast_add,go_sem,cO o,a,N,O,P,Q,S,e];refine⟨q,rfl,?_,l,t⟩;rw[m,List.filter_append,show [R.held[i]].filter (λp=>decide (p.c=c))=[] by simp[e],List.append_nil];exact u
  ·rintro _ M ⟨f,rfl,I,m',B⟩;unfold wO;intro _;simp[-Int.natCast_add,go_sem,Y];exact A _ _ ⟨f,i+1,by omega,rfl,I,m',B⟩ (by simp;omega)
 ·obtain rfl:i=R.held.length:=by omega
  rw[List.take_of_length_le (Nat.le_refl _)]at u;simp[-Int.natCast_add,go_sem,dm,cO o];exact X _ _ u t l
end Go.Proofs
