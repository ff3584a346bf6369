/- Part of a proof. -/
import Derived.Test.YtgebhcgmckjbbaaGreatB24
set_option linter.all false
namespace Go.Proofs
open Go Go.Vc
attribute [local congr] cr
structure DI(w:World)(b:Nat)(d nx fu:Int)(ss:Nat->Value)(O Bd:List (Int×Od))(lo:Nat):Prop where
 at_:cR w b d nx fu ss
 sl:∀i,3<=i->i<=7->∃a n c,ss i=.slice a n c
 o:dW w 119 6 (ss 6) O.length (O.flatMap du)
 bd:dW w 119 6 (ss 7) Bd.length (Bd.flatMap du)
 dj:∀y,co (ss 6) y->¬co (ss 7) y
 nw:∀y,co (ss 6) y\/co (ss 7) y->lo<=y/\y≠b
 lb:lo<=b
section
variable{w w' :World}{b lo:Nat}{d nx fu:Int}{ss:Nat->Value}{O Bd:List (Int×Od)}{K:World->Prop}
def DI.md0(h:DI w b d nx fu ss O Bd lo)(m:cl (λ_=>False) w w'):DI w' b d nx fu ss O Bd lo:=
 ⟨m.hpk h.at_ id,h.sl,h.o.mod m λ_ _ h=>h,h.bd.mod m λ_ _ h=>h,h.dj,h.nw,h.lb⟩
set_option maxRecDepth 10000 in
def KY(h:DI w b d nx fu ss O Bd lo){x:Int×Od}(hn:O.length<=1000000)(hlo:lo<=w.heap.size)
  (hK:∀k w',DI w' b d nx fu k (O++[x]) Bd lo->(∀j,j≠6->k j=ss j)->cl (λy=>y=b\/co (ss 6) y) w w' ->(∀y,co (k 6) y->co (ss 6) y\/w.heap.size<=y)->K w'):
  rx Tryz.prog (dP 47 1 [(0,.agg (du x).toArray)]) w λv s=>Sem.run Tryz.prog (Instr.loadAt 47 (.pointer (some ⟨b,6,none⟩))) s=.ok (ss 6) s/\(rx Tryz.prog (cv #[47,47] 47 [ss 6,v]) s λv2 V=>sO Tryz.prog (Instr.fieldAt lY (pt b) 6) λY=>ru Tryz.prog (Instr.storeAt 47 Y v2) V K):=by
 refine fg [.agg (du x).toArray] mZ (cI (show eN Tryz.prog 119 6 40=true by kernel_rfl)) rfl rfl (by intro v hv;rw[List.mem_singleton.1 hv];rfl) (by omega) ?_;have X:(([.agg (du x).toArray]:List Value).flatMap (·.cells.toList)).toArray=(du x).toArray:=rfl;rw[X];have r:cl (λ_=>False) w (w.alloc (.cells (du x).toArray 119)):=(cl.refl _ w).alloc _
 have R:Rd (w.alloc (.cells (du x).toArray 119)) 6 (.slice (some ⟨w.heap.size,0,none⟩) 1 1) 1 (du x):=
  ⟨rfl,.inr ⟨_,0,1,rfl,Nat.le_refl _,At.all (cO (by rw[cY,if_pos rfl]))⟩⟩
 have I:(w.alloc (.cells (du x).toArray 119)).heap.size=w.heap.size+1:=World.size_alloc ..;have A:=r.hpk h.at_ id;refine⟨dC A h.sl 6 (by omega) (by omega),?_⟩;have T:dW (w.alloc (.cells (du x).toArray 119)) 119 6 (ss 6) O.length (O.flatMap du):=h.o.mod r λ_ _ h=>h;have J:dW (w.alloc (.cells (du x).toArray 119)) 119 6 (ss 7) Bd.length (Bd.flatMap du):=h.bd.mod r λ_ _ h=>h;generalize w.alloc (.cells (du x).toArray 119)=s at r R I A T J|-;refine dt (n:=O.length) (m:=1) mZ mZ (cI (show eN Tryz.prog 119 6 40=true by kernel_rfl)) T R rfl (by omega) λg V U L z=>?_;refine cq (λW=>dv b 6 (by omega) W) ?_;have M:¬co (ss 6) b:=λN=>(h.nw b (.inl N)).2 rfl;have b2:=L.hpk A M;obtain⟨a,c,o,-⟩:=U.isSl;obtain⟨H,e3,Z,E⟩:=nv b2 h.sl 6 (by omega) (by omega) (s' :=g) ⟨_,_,_,o⟩;refine dI e3 ?_;have u:O.flatMap du++du x=(O++[x]).flatMap du:=by simp
 have C:(O++[x]).length=O.length+1:=by simp
 have i:∀y,co g y->lo<=y/\y≠b:=λy f=>by
  rcases z y f with p|p
  ·exact h.nw y (.inl p)
  ·have:=cn h.at_;exact⟨by omega,by omega⟩
 have Q:=h.lb;refine hK (dg ss 6 g) H ⟨Z,iw h.sl 6 ⟨_,_,_,o⟩,?_,?_,λy t q=>?_,λy f=>?_,Q⟩ (λj hj=>if_neg hj) ?_ λy f=>?_
 ·show dW H _ 6 (dg ss 6 g 6) _ _;rw[show dg ss 6 g 6=g from if_pos rfl,C,<-u];exact U.mod E λy f e=>(i y f).2 e
 ·show dW H _ 6 (dg ss 6 g 7) _ _;rw[show dg ss 6 g 7=ss 7 from if_neg (by decide)];exact(J.mod L λy f N=>h.dj y N f).mod E λy f e=>(h.nw y (.inr f)).2 e
 ·have t:co (dg ss 6 g 6) y:=t;have q:co (dg ss 6 g 7) y:=q;simp only[dg,if_pos,if_neg,show¬(7=6)from by decide,show¬(6=7)from by decide,if_true,if_false]at t q;rcases z y t with p|p
  ·exact h.dj y p q
  ·have:=J.lt q;omega
 ·simp only[dg,if_pos,if_neg,show¬(7=6)from by decide,show¬(6=7)from by decide,if_true,if_false]at f;rcases f with f|f
  ·exact i y f
  ·exact h.nw y (.inr f)
 ·exact(r.mono λ_ _ h=>h.elim).trans ((L.mono λy _ f=>.inr f).trans (E.mono λy _ f=>.inl f))
 ·have f:co (dg ss 6 g 6) y:=f;rw[show dg ss 6 g 6=g from if_pos rfl]at f;exact(z y f).imp id λh=>by omega
set_option maxRecDepth 10000 in
def LL(h:DI w b d nx fu ss O Bd lo){x:Int×Od}(hn:Bd.length<=1000000)(hlo:lo<=w.heap.size)
  (hK:∀k w',DI w' b d nx fu k O (Bd++[x]) lo->(∀j,j≠7->k j=ss j)->cl (λy=>y=b\/co (ss 7) y) w w' ->(∀y,co (k 7) y->co (ss 7) y\/w.heap.size<=y)->K w'):
  rx Tryz.prog (dP 47 1 [(0,.agg (du x).toArray)]) w λv s=>Sem.run Tryz.prog (Instr.loadAt 47 (.pointer (some ⟨b,7,none⟩))) s=.ok (ss 7) s/\(rx Tryz.prog (cv #[47,47] 47 [ss 7,v]) s λv2 V=>sO Tryz.prog (Instr.fieldAt lY (pt b) 7) λY=>ru Tryz.prog (Instr.storeAt 47 Y v2) V K):=by
 refine fg [.agg (du x).toArray] mZ (cI (show eN Tryz.prog 119 6 40=true by kernel_rfl)) rfl rfl (by intro v hv;rw[List.mem_singleton.1 hv];rfl) (by omega) ?_;have X:(([.agg (du x).toArray]:List Value).flatMap (·.cells.toList)).toArray=(du x).toArray:=rfl;rw[X];have q:cl (λ_=>False) w (w.alloc (.cells (du x).toArray 119)):=(cl.refl _ w).alloc _
 have R:Rd (w.alloc (.cells (du x).toArray 119)) 6 (.slice (some ⟨w.heap.size,0,none⟩) 1 1) 1 (du x):=
  ⟨rfl,.inr ⟨_,0,1,rfl,Nat.le_refl _,At.all (cO (by rw[cY,if_pos rfl]))⟩⟩
 have I:(w.alloc (.cells (du x).toArray 119)).heap.size=w.heap.size+1:=World.size_alloc ..;have A:=q.hpk h.at_ id;refine⟨dC A h.sl 7 (by omega) (by omega),?_⟩;have T:dW (w.alloc (.cells (du x).toArray 119)) 119 6 (ss 7) Bd.length (Bd.flatMap du):=h.bd.mod q λ_ _ h=>h;have J:dW (w.alloc (.cells (du x).toArray 119)) 119 6 (ss 6) O.length (O.flatMap du):=h.o.mod q λ_ _ h=>h;generalize w.alloc (.cells (du x).toArray 119)=s at q R I A T J|-;refine dt (n:=Bd.length) (m:=1) mZ mZ (cI (show eN Tryz.prog 119 6 40=true by kernel_rfl)) T R rfl (by omega) λg V U L z=>?_;refine cq (λW=>dv b 7 (by omega) W) ?_;have M:¬co (ss 7) b:=λN=>(h.nw b (.inr N)).2 rfl;have b2:=L.hpk A M;obtain⟨a,c,o,-⟩:=U.isSl;obtain⟨H,e3,Z,E⟩:=nv b2 h.sl 7 (by omega) (by omega) (s' :=g) ⟨_,_,_,o⟩;refine dI e3 ?_;have u:Bd.flatMap du++du x=(Bd++[x]).flatMap du:=by simp
 have C:(Bd++[x]).length=Bd.length+1:=by simp
 have i:∀y,co g y->lo<=y/\y≠b:=λy f=>by
  rcases z y f with p|p
  ·exact h.nw y (.inr p)
  ·have:=cn h.at_;exact⟨by omega,by omega⟩
 have Q:=h.lb;refine hK (dg ss 7 g) H ⟨Z,iw h.sl 7 ⟨_,_,_,o⟩,?_,?_,λy r t=>?_,λy f=>?_,Q⟩ (λj hj=>if_neg hj) ?_ λy f=>?_
 ·show dW H _ 6 (dg ss 7 g 6) _ _;rw[show dg ss 7 g 6=ss 6 from if_neg (by decide)];exact(J.mod L λy f N=>h.dj y f N).mod E λy f e=>(h.nw y (.inl f)).2 e
 ·show dW H _ 6 (dg ss 7 g 7) _ _;rw[show dg ss 7 g 7=g from if_pos rfl,C,<-u];exact U.mod E λy f e=>(i y f).2 e
 ·have r:co (dg ss 7 g 6) y:=r;have t:co (dg ss 7 g 7) y:=t;simp only[dg,if_pos,if_neg,show¬(7=6)from by decide,show¬(6=7)from by decide,if_true,if_false]at r t;rcases z y t with p|p
  ·exact h.dj y r p
  ·have:=J.lt r;omega
 ·simp only[dg,if_pos,if_neg,show¬(7=6)from by decide,show¬(6=7)from by decide,if_true,if_false]at f;rcases f with f|f
  ·exact h.nw y (.inl f)
  ·exact i y f
 ·exact(q.mono λ_ _ h=>h.elim).trans ((L.mono λy _ f=>.inr f).trans (E.mono λy _ f=>.inl f))
 ·have f:co (dg ss 7 g 7) y:=f;rw[show dg ss 7 g 7=g from if_pos rfl]at f;exact(z y f).imp id λh=>by omega
end
def oR(p:Nat)(buy:Bool):Nat:=if buy then p - 2 else p - 1
structure oN(w:World)(v c l:Nat)(sB sD:Value)(F F' :Nat->Prop)(S:dF)(P:List Nat)(B:Nat->Bool->List Od)(D:Nat->List Od)(dS:Nat->Value)(G:Nat->Prop):Prop where
 vn:Ap w v c l sB sD S.next
 cal:pz w c F S.cal.day S.cal.l
 led:zu w l F' S.led
 len:P.length=S.cal.l.length
 bks:Rd w 1 sB P.length (P.flatMap λp=>[pt p])
 bds:Rd w 1 sD P.length ((List.range P.length).flatMap λi=>[dS i])
 bk:∀i (h:i<P.length),hp w P[i]=some (.cells #[pt (oR P[i] true),pt (oR P[i] false)] yT (0,0))
 sd:∀i (h:i<P.length) b,Bo w (oR P[i] b) b (B i b) G
 bd:∀i,i<P.length->Rd w 5 (dS i) (D i).length ((D i).flatMap da)
section
variable{w w' :World}{v c l:Nat}{sB sD:Value}{F F' G:Nat->Prop}{S:dF}{P:List Nat}{B:Nat->Bool->List Od}{D:Nat->List Od}{dS:Nat->Value}{K:cm}
def oN.md0(h:oN w v c l sB sD F F' S P B D dS G)(m:cl (λ_=>False) w w'):oN w' v c l sB sD F F' S P B D dS G:=
 ⟨m.hpk h.vn id,h.cal.md0 m,h.led.modF m,h.len,h.bks.mod m λ_ _ h=>h,h.bds.mod m λ_ _ h=>h,λi a=>m.hpk (h.bk i a) id,λi a b=>(h.sd i a b).md0 m,λi a=>(h.bd i a).mod m λ_ _ h=>h⟩
def IU:Tryz.prog.underlying 163=some (.slice 169):=by kernel_rfl
def GW:Tryz.prog.underlying 164=some (.slice gU):=by kernel_rfl
def oN.book(h:oN w v c l sB sD F F' S P B D dS G){i:Nat}(hi:i<P.length):∃b a,(∀V,(Instr.indexAt 163 sB (.int .i64 (i:Int))).run Tryz.prog V=.ok (.pointer (some ⟨b,a,none⟩)) V)/\(Instr.loadAt 169 (.pointer (some ⟨b,a,none⟩))).run Tryz.prog w=.ok (pt P[i]) w:=by
 obtain⟨b,a,n,g,k,o⟩:=h.bks.item (f:=λp=>[pt p]) (λ_=>rfl) hi rfl;obtain⟨C,e,q,h1,m⟩:=o.get;have j:=m 0 _ rfl;rw[Nat.add_zero,Nat.mul_one]at j;exact⟨b,a+i,λV=>by rw[g];simp[go_sem,hi,cC,IU],by simp[go_sem,h1,j]⟩
def oN.bids(h:oN w v c l sB sD F F' S P B D dS G){i:Nat}(hi:i<P.length):∃b a,(∀V,(Instr.indexAt 164 sD (.int .i64 (i:Int))).run Tryz.prog V=.ok (.pointer (some ⟨b,a,none⟩)) V)/\(Instr.loadAt gU (.pointer (some ⟨b,a,none⟩))).run Tryz.prog w=.ok (dS i) w:=by
 have q:i<(List.range P.length).length:=by rw[List.length_range];exact hi
 obtain⟨b,a,n,j,k,p⟩:=h.bds.item (f:=λi=>[dS i]) (λ_=>rfl) q (by rw[List.length_range]);obtain⟨C,e,s,h1,m⟩:=p.get;have g:=m 0 _ rfl;rw[Nat.add_zero,List.getElem_range,Nat.mul_one]at g;obtain⟨u,x,o⟩:=gH (h.bd i hi);obtain⟨t,r⟩:=o;refine⟨b,a+i,λV=>by rw[j];simp[go_sem,hi,cC,GW],?_⟩;rw[r]at g|-;simp[go_sem,h1,g]
def jW(L:List Ct)(i:Nat):Int:=((L.map (·.spec.num)).getD i 0)
def tP(L:List Ct)(B:Nat->Bool->List Od)(k:Nat):List (Int×Od):=(List.range k).flatMap λi=>(ie true (B i true)++ie false (B i false)).map λo=>(jW L i,o)
def uO(L:List Ct)(D:Nat->List Od)(k:Nat):List (Int×Od):=(List.range k).flatMap λi=>(D i).map λo=>(jW L i,o)
def pk{α:Type}{f:Nat->List α}{k:Nat}:(List.range (k+1)).flatMap f=(List.range k).flatMap f++f k:=by rw[List.range_succ,List.flatMap_append];simp
def Re(S:dF)(B:Nat->Bool->List Od)(D:Nat->List Od):iq:=⟨S.cal.day,S.next,S.led.fund,S.led.all,S.cal.l,S.led.held,tP S.cal.l B S.cal.l.length,uO S.cal.l D S.cal.l.length⟩
set_option maxRecDepth 10000 in
set_option maxHeartbeats 4000000 in
def CG(h:oN w v c l sB sD F F' S P B D dS G)(hl:S.cal.l.length<=16)(hB:∀i b,i<P.length->(B i b).length<=100)(hD:∀i,i<P.length->(D i).length<=50)
  (hK:∀w' ss,eS w' ss (Re S B D)->cl (λ_=>False) w w' ->K (oJ S.cal.day S.next S.led.fund ss) w'):Ca Tryz.prog 90 #[pt v] w K:=by
 have hsB:=gH h.bks;have hsD:=gH h.bds;have hlen:=h.len;apply Qy;unfold pt;obtain⟨w1,e1,b1,m1⟩:=kV w;obtain⟨z,hz⟩:∃z,z=w.heap.size:=⟨_,rfl⟩
 rw[<-hz]at e1 b1;refine ck e1 ?_;have md:=m1.drew;have b2:cR w1.drew z 0 0 0 (jY cF):=((cl.refl (λ_=>False) w1).drew).hpk b1 id;generalize w1.drew=u at md b2|-;have H:=h.md0 md;obtain⟨sc,fC,lC0,lC1,rC,-,lnC⟩:=H.cal.ld;obtain⟨⟨sA,sH,bL,rA,rH,-,-⟩,-,-⟩:=id H.led;obtain⟨a1,a2,eA⟩:=rA.isSl;obtain⟨c1,c2,eH⟩:=rH.isSl
 have fL:∀i,i<3->∀W,(Instr.fieldAt 269 (pt l) i).run Tryz.prog W=.ok (.pointer (some ⟨l,i,none⟩)) W:=λi hi W=>by
  rcases(show i=0\/i=1\/i=2 by omega)with rfl|rfl|rfl<;>simp[go_sem]
 have lL:∀{W:World},cl (λ_=>False) u W->(Instr.loadAt 2 (.pointer (some ⟨l,0,none⟩))).run Tryz.prog W=.ok (.int .i64 S.led.fund) W/\(Instr.loadAt 44 (.pointer (some ⟨l,1,none⟩))).run Tryz.prog W=.ok sA W/\(Instr.loadAt 46 (.pointer (some ⟨l,2,none⟩))).run Tryz.prog W=.ok sH W:=λm=>by
  have:=m.hpk bL id;rw[eA,eH]at this|-;exact⟨by simp[go_sem,this],by simp[go_sem,this],by simp[go_sem,this]⟩
 have lC:∀{W:World},cl (λ_=>False) u W->(Instr.loadAt 35 (.pointer (some ⟨c,0,none⟩))).run Tryz.prog W=.ok (.int .u32 S.cal.day) W/\(Instr.loadAt 45 (.pointer (some ⟨c,1,none⟩))).run Tryz.prog W=.ok sc W:=λm=>by
  obtain⟨⟨sl,g1,g2,g3⟩,-,-⟩:=id H.cal;obtain⟨sx,-,k0,k1,-,-,-⟩:=(H.cal.md0 m).ld
  have e:sl=sc:=by
   obtain⟨p1,p2,pe⟩:=g2.isSl;have:(Instr.loadAt 45 (.pointer (some ⟨c,1,none⟩))).run Tryz.prog u=.ok sl u:=by rw[pe]at g1|-;simp[go_sem,g1]
   rw[lC1]at this;cases this;rfl
  subst e;have g1' :=m.hpk g1 id;obtain⟨p1,p2,pe⟩:=g2.isSl;rw[pe]at g1' |-;exact⟨by simp[go_sem,g1'],by simp[go_sem,g1']⟩
 have C:∀{W:World},cl (λ_=>False) u W->_:=λ{W} m=>uI (m.hpk H.vn id) hsB hsD;have M:=cl.refl (λ_=>False) u;simp only[cw];refine cq (λW=>rf v 0 (by omega) W) (cx (C M).1 (cq (λW=>fC 0 (by omega) W) (cx (lC M).1 ?_)));refine cq (λW=>rf v 4 (by omega) W) (cx (C M).2.2.2.2 ?_);refine cq (λW=>rf v 1 (by omega) W) (cx (C M).2.1 (cq (λW=>fL 0 (by omega) W) (cx (lL M).1 ?_)));refine cq (λW=>rf v 1 (by omega) W) (cx (C M).2.1 (cq (λW=>fL 1 (by omega) W) (cx (lL M).2.1 ?_)));refine cq (λW=>rf v 0 (by omega) W) (cx (C M).1 (cq (λW=>fC 1 (by omega) W) (cx (lC M).2 ?_)));refine cq (λW=>rf v 1 (by omega) W) (cx (C M).2.1 (cq (λW=>fL 2 (by omega) W) (cx (lL M).2.2 ?_)));obtain⟨E,L⟩:∃E:Nat->Value,E=λi=>if i=3 then sA else if i=4 then sc else if i=5 then sH else cF:=⟨_,rfl⟩
 have hq3:E 3=sA:=by rw[L];rfl
 have hq4:E 4=sc:=by rw[L];rfl
 have hq5:E 5=sH:=by rw[L];rfl
 have N:E 6=cF:=by rw[L];rfl
 have U:E 7=cF:=by rw[L];rfl
 obtain⟨d1,d2,eC⟩:=rC.isSl
 have slQ:∀i,3<=i->i<=7->∃a n c,E i=.slice a n c:=λi h1 H=>by
  rcases(show i=3\/i=4\/i=5\/i=6\/i=7 by omega)with rfl|rfl|rfl|rfl|rfl
  ·rw[hq3,eA];exact⟨_,_,_,rfl⟩
  ·rw[hq4,eC];exact⟨_,_,_,rfl⟩
  ·rw[hq5,eH];exact⟨_,_,_,rfl⟩
  ·rw[N];exact⟨_,_,_,rfl⟩
  ·rw[U];exact⟨_,_,_,rfl⟩
 refine cq (v:=oJ S.cal.day S.next S.led.fund E) (λW=>by rw[eA,eC,eH];simp[go_sem,oJ,nm,hq3,hq4,hq5,N,U,eA,eC,eH,cF]) ?_;obtain⟨w3,e3,b3,J⟩:=kV u;obtain⟨q,hq⟩:∃q,q=u.heap.size:=⟨_,rfl⟩
 rw[<-hq]at e3 b3;refine ck e3 ⟨(lL J).2.2,(C J).2.1,(lC J).2,(C J).1,(lL J).2.1,(C J).2.1,(lL J).1,(C J).2.1,(C J).2.2.2.2,(lC J).1,(C J).1,?_⟩;obtain⟨w4,e4,b4,m4⟩:=uH (d:=S.cal.day) (n:=S.next) (f:=S.led.fund) (ss:=E) b3 rfl slQ;refine dI e4 ?_;have M4:cl (λ_=>False) u w4:=J.on m4 λy p=>.inr (by omega);have hz2:=cn b2;have w0z:=md.size;have st4:DI w4 q S.cal.day S.next S.led.fund E [] [] u.heap.size:=⟨b4,slQ,by rw[N];exact dW.nil _ _ _,by rw[U];exact dW.nil _ _ _,λy h6=>(by rw[N]at h6;cases h6),λy p=>(by rw[N,U]at p;rcases p with p|p<;>cases p),by omega⟩
 refine dp (λst W=>∃(i:Nat) (ss:Nat->Value),i<=P.length/\st=(.int .i64 i,())/\DI W q S.cal.day S.next S.led.fund ss (tP S.cal.l B i) (uO S.cal.l D i) u.heap.size/\(∀j,j≠6->j≠7->ss j=E j)/\cl (λ_=>False) u W)
  (λst _=>match st.1 with| .int _ i=>P.length - i.toNat|_=>0) ⟨0,E,by omega,rfl,st4,λ_ _ _=>rfl,M4⟩ ?_
 rintro _ W ⟨i,ss,hi,rfl,t,R,Q⟩ KN hKN
 have olen:(tP S.cal.l B i).length<=3200/\(uO S.cal.l D i).length<=800:=by
  constructor
  ·have:=gV (k:=200) (l:=List.range i) (f:=λi=>(ie true (B i true)++ie false (B i false)).map λo=>(jW S.cal.l i,o)) λx hx=>by
    have hxi:=List.mem_range.1 hx;rw[List.length_map,List.length_append,iN,iN];have h1:=hB x true (by omega);have H:=hB x false (by omega);omega
   rw[List.length_range]at this;unfold tP;omega
  ·have:=gV (k:=50) (l:=List.range i) (f:=λi=>(D i).map λo=>(jW S.cal.l i,o)) λx hx=>by
    have hxi:=List.mem_range.1 hx;rw[List.length_map];exact hD x (by omega)
   rw[List.length_range]at this;unfold uO;omega
 unfold KE;intro _
 have lnB:∀W,(builtin .len #[163] 3 #[false] #[sB]).run Tryz.prog W=.ok (.value (.int .i64 (P.length:Int))) W:=λW=>by
  obtain⟨x1,x2,ex⟩:=h.bks.isSl;rw[ex];simp[go_sem]
 simp only[cw];refine ck (rf v 2 (by omega) _) (ck (C Q).2.2.1 (fi (lnB _) ?_));by_cases r:i<P.length
 ·have hlt' :(i:Int)<(P.length:Int):=by omega
  refine ck (v:=.bool true) (by simp[go_sem,hlt']<;>first|exact⟨rfl,rfl⟩|exact rfl) ?_;rw[ci,if_pos rfl];have hiL:i<S.cal.l.length:=by omega
  have hnum:jW S.cal.l i=S.cal.l[i].spec.num:=by unfold jW;simp[List.getD,hiL]
  have hRW:=rC.mod Q λ_ _ h=>h;obtain⟨b,off,cap,hse,hcap,hA⟩:=hRW.item cX hiL rfl;refine ck (rf v 0 (by omega) _) (ck (C Q).1 (ck (fC 1 (by omega) _) (ck (lC Q).2 ?_)));refine ck (v:=.pointer (some ⟨b,off+i*27,none⟩)) (w' :=W) (by rw[hse];simp[go_sem,hiL,cC,AI]) ?_;refine ck (v:=.pointer (some ⟨b,off+i*27,none⟩)) (w' :=W) (by simp[go_sem,cC]) (ck (v:=.pointer (some ⟨b,off+i*27,none⟩)) (w' :=W) (by simp[go_sem,cC]) (ck (AZ hA) ?_));rw[<-hnum];have hW:=H.md0 Q;obtain⟨b',o',ib,lb⟩:=hW.book r;refine ck (rf v 2 (by omega) _) (ck (C Q).2.2.1 (ck (ib W) (ck lb ?_)));have hBt:=hB i true r;have hBf:=hB i false r;refine zb (hW.bk i r) (hW.sd i r true) (hW.sd i r false) ⟨by omega,by omega⟩ λs5 w5 o5 m5 n5=>?_;obtain⟨X,hX⟩:∃X,X=ie true (B i true)++ie false (B i false):=⟨_,rfl⟩
  rw[<-hX]at o5;have hXl:X.length<=200:=by rw[hX,List.length_append,iN,iN];omega
  have M5:=Q.trans m5;have hm5:=m5.size
  refine dp (λst V=>∃(k:Nat) (ss:Nat->Value),k<=X.length/\st=(.int .i64 k,())/\DI V q S.cal.day S.next S.led.fund ss (tP S.cal.l B i++(X.take k).map λo=>(jW S.cal.l i,o)) (uO S.cal.l D i) u.heap.size/\(∀j,j≠6->j≠7->ss j=E j)/\kR V s5 X/\(∀y,co s5 y->¬(co (ss 6) y\/co (ss 7) y\/y=q))/\cl (λ_=>False) u V)
   (λst _=>match st.1 with| .int _ k=>X.length - k.toNat|_=>0) ⟨0,ss,by omega,rfl,by simpa using t.md0 m5,R,o5,λy p A=>?_,M5⟩ ?_
  ·have h1:=n5 y p;rcases A with A|A|A
   ·have:=t.o.lt A;omega
   ·have:=t.bd.lt A;omega
   ·have:=cn t.at_;omega
  rintro _ V ⟨k,ss1,hk,rfl,I,hss1,oV,dV,mV⟩ KN1 hKN1;unfold KA;intro _;refine fi (px oV.rd _) ?_;by_cases hkl:k<X.length
  ·have hkl' :(k:Int)<(X.length:Int):=by omega
   refine ck (v:=.bool true) (by simp[go_sem,hkl']<;>first|exact⟨rfl,rfl⟩|exact rfl) ?_;rw[ci,if_pos rfl];have mE:=(cl.refl (λ_=>False) V).drew;have g:=I.md0 mE;have oE:=oV.mod mE λ_ _ h=>h;have s:=mV.trans mE;generalize V.drew=V1 at mE g oE s|-;refine cq (λW=>dv q 6 (by omega) W) (cx (dC g.at_ g.sl 6 (by omega) (by omega)) ?_);obtain⟨b6,o6,i6,A6⟩:=xZ oE.rd hkl;refine cq (λW=>i6 W _) (cx (gM A6) (cq (λW=>BG _ _ W) ?_));refine KY g (by rw[List.length_append,List.length_map,List.length_take];omega) s.size λss2 w7 st7 T m7 n7=>?_;refine ck (v:=.int .i64 ((k+1:Nat):Int)) (w' :=w7) (by simp[go_sem];rw[cV (by omega) (by omega)]) ?_;have hlo:=g.lb;refine hKN1 _ _ ⟨k+1,ss2,by omega,rfl,?_,λj h6 h7=>by rw[T j h6];exact hss1 j h6 h7,oE.mod m7 λy p A=>dV y p (A.elim (λh=>.inr (.inr h)) .inl),λy p A=>?_,s.on m7 λy p=>?_⟩ (by show X.length - (((k+1:Nat):Int)).toNat<X.length - ((k:Int)).toNat;omega)
   ·rw[cQ hkl,List.map_append,<-List.append_assoc];exact st7
   ·have dE:=oE.lt p;rcases A with A|A|A
    ·rcases n7 y A with h' |h'
     ·exact dV y p (.inl h')
     ·omega
    ·rw[T 7 (by decide)]at A;exact dV y p (.inr (.inl A))
    ·exact dV y p (.inr (.inr A))
   ·rcases p with rfl|p
    ·exact .inr hlo
    ·exact .inr (g.nw y (.inl p)).1
  ·obtain rfl:k=X.length:=by omega
   refine ck (v:=.bool false) (by simp[go_sem]<;>first|exact⟨rfl,rfl⟩|exact rfl) ?_;rw[ci,if_neg Bool.false_ne_true];rw[List.take_length]at I;have ord1:tP S.cal.l B (i+1)=tP S.cal.l B i++X.map λo=>(jW S.cal.l i,o):=by rw[hX];exact pk
   rw[<-ord1]at I;have olen1:(tP S.cal.l B (i+1)).length<=3400:=by rw[ord1,List.length_append,List.length_map];omega
   have hDi:=hD i r
   refine dp (λst Y=>∃(k:Nat) (ss:Nat->Value),k<=(D i).length/\st=(.int .i64 k,())/\DI Y q S.cal.day S.next S.led.fund ss (tP S.cal.l B (i+1)) (uO S.cal.l D i++((D i).take k).map λo=>(jW S.cal.l i,o)) u.heap.size/\(∀j,j≠6->j≠7->ss j=E j)/\cl (λ_=>False) u Y)
    (λst _=>match st.1 with| .int _ k=>(D i).length - k.toNat|_=>0) ⟨0,ss1,by omega,rfl,by simpa using I,hss1,mV⟩ ?_
   rintro _ Y ⟨k,ss3,hk3,rfl,Z,hss3,mY⟩ KN2 hKN2;unfold Jt;intro _;simp only[cw];obtain⟨b8,o8,i8,l8⟩:=(H.md0 mY).bids r;refine ck (rf v 3 (by omega) _) (ck (C mY).2.2.2.1 (ck (i8 Y) (ck l8 (fi (px (h.bd i r) _) ?_))));by_cases hkd:k<(D i).length
   ·have hkd' :(k:Int)<((D i).length:Int):=by omega
    refine ck (v:=.bool true) (by simp[go_sem,hkd']<;>first|exact⟨rfl,rfl⟩|exact rfl) ?_;rw[ci,if_pos rfl];have mE:=(cl.refl (λ_=>False) Y).drew;have g:=Z.md0 mE;have s:=mY.trans mE;generalize Y.drew=V1 at mE g s|-;refine cq (λW=>dv q 7 (by omega) W) (cx (dC g.at_ g.sl 7 (by omega) (by omega)) ?_);obtain⟨b8,o8,i8,l8⟩:=(H.md0 s).bids r;refine cq (λW=>rf v 3 (by omega) W) (cx (C s).2.2.2.1 (cq (λW=>i8 W) (cx l8 ?_)));obtain⟨b6,o6,i6,A6⟩:=xZ ((H.md0 s).bd i r) hkd;refine cq (λW=>i6 W _) (cx (gM A6) (cq (λW=>BG _ _ W) ?_));refine LL g (by rw[List.length_append,List.length_map,List.length_take];omega) s.size λss2 w7 st7 T m7 n7=>?_;refine ck (v:=.int .i64 ((k+1:Nat):Int)) (w' :=w7) (by simp[go_sem];rw[cV (by omega) (by omega)]) ?_;have hlo:=g.lb;refine hKN2 _ _ ⟨k+1,ss2,by omega,rfl,?_,λj h6 h7=>by rw[T j h7];exact hss3 j h6 h7,s.on m7 λy p=>?_⟩ (by show(D i).length - (((k+1:Nat):Int)).toNat<(D i).length - ((k:Int)).toNat;omega)
    ·rw[cQ hkd,List.map_append,<-List.append_assoc];exact st7
    ·rcases p with rfl|p
     ·exact .inr hlo
     ·exact .inr (g.nw y (.inr p)).1
   ·obtain rfl:k=(D i).length:=by omega
    refine ck (v:=.bool false) (by simp[go_sem]<;>first|exact⟨rfl,rfl⟩|exact rfl) ?_;rw[ci,if_neg Bool.false_ne_true];rw[List.take_length]at Z;have bid1:uO S.cal.l D (i+1)=uO S.cal.l D i++(D i).map λo=>(jW S.cal.l i,o):=pk;rw[<-bid1]at Z;refine ck (v:=.int .i64 ((i+1:Nat):Int)) (w' :=Y) (by simp[go_sem];rw[cV (by omega) (by omega)]) ?_;exact hKN _ _ ⟨i+1,ss3,by omega,rfl,Z,hss3,mY⟩ (by show P.length - (((i+1:Nat):Int)).toNat<P.length - ((i:Int)).toNat;omega)
 ·obtain rfl:i=P.length:=by omega
  refine ck (v:=.bool false) (by simp[go_sem]<;>first|exact⟨rfl,rfl⟩|exact rfl) ?_;rw[ci,if_neg Bool.false_ne_true];refine ck (sq t.at_) ?_;obtain⟨w8,e8,b8,m8⟩:=uH (d:=S.cal.day) (n:=S.next) (f:=S.led.fund) (ss:=ss) (Q.hpk b2 id) rfl t.sl;refine dI e8 (cx (sq b8) ?_);have hlW:∀{sv:Value} {sz n:Nat} {cs:List Value},Rd w sz sv n cs->Rd w8 sz sv n cs:=λhr=>((hr.mod md λ_ _ h=>h).mod Q λ_ _ h=>h).mod m8 λy p e=>by have:=hr.lt p;omega
  obtain⟨⟨sA',sH',bL',rA',rH',-,-⟩,-,-⟩:=id h.led
  have eL:sA' =sA/\sH' =sH:=by
   have:=(md.hpk bL' id).symm.trans bL;simp only[Option.some.injEq,Obj.cells.injEq]at this;have h1:=congrArg (λa:Array Value=>a[1]?) this.1;have H:=congrArg (λa:Array Value=>a[2]?) this.1;simp at h1 H;exact⟨h1,H⟩
  obtain⟨rfl,rfl⟩:=eL;obtain⟨⟨sc',bC',rC',-⟩,-,-⟩:=id h.cal;obtain⟨⟨sc2,bC2,rC2,-⟩,-,-⟩:=id H.cal
  have eC1:sc' =sc2:=by
   have:=(md.hpk bC' id).symm.trans bC2;simp only[Option.some.injEq,Obj.cells.injEq]at this;have h1:=congrArg (λa:Array Value=>a[1]?) this.1;simpa using h1
  have eC2:sc2=sc:=by
   obtain⟨p1,p2,pe⟩:=rC2.isSl;have:(Instr.loadAt 45 (.pointer (some ⟨c,1,none⟩))).run Tryz.prog u=.ok sc2 u:=by rw[pe]at bC2|-;simp[go_sem,bC2]
   rw[lC1]at this;cases this;rfl
  rw[eC1,eC2]at rC';refine hK w8 ss (λj h3 h7=>?_) ((md.trans Q).on m8 λy p=>.inr (by omega));rcases(show j=3\/j=4\/j=5\/j=6\/j=7 by omega)with rfl|rfl|rfl|rfl|rfl
  ·rw[R 3 (by decide) (by decide),hq3];exact hlW rA'
  ·rw[R 4 (by decide) (by decide),hq4];exact hlW rC'
  ·rw[R 5 (by decide) (by decide),hq5];exact hlW rH'
  ·have:=(t.o.mod m8 λy p e=>by have:=(t.nw y (.inl p)).1;omega).rd;rw[hlen]at this;exact this
  ·have:=(t.bd.mod m8 λy p e=>by have:=(t.nw y (.inr p)).1;omega).rd;rw[hlen]at this;exact this
end
def K7(x y:Ac)(W:World):(tf .neq 92 false (gR x) (gR y)).run Tryz.prog W=.ok (.bool (!decide (x=y))) W:=by
 obtain⟨c,d,g,a⟩:=x;obtain⟨b,e,h,f⟩:=y
 have:(.ok (.bool (!decide ((⟨c,d,g,a⟩:Ac)=⟨b,e,h,f⟩))) W:Result Value)=.ok (.bool (!(decide (c=b)&& (decide (d=e)&& (decide (g=h)&& decide (a=f)))))) W:=by
  congr 3;rw[Bool.eq_iff_iff];simp
 rw[this];simp[go_sem,gR]
 (repeat' split)<;>simp_all
def LX(x y:Po)(W:World):(tf .neq 112 false (kU x) (kU y)).run Tryz.prog W=.ok (.bool (!decide (x=y))) W:=by
 obtain⟨c,d,g,a⟩:=x;obtain⟨b,e,h,f⟩:=y
 have:(.ok (.bool (!decide ((⟨c,d,g,a⟩:Po)=⟨b,e,h,f⟩))) W:Result Value)=.ok (.bool (!(decide (c=b)&& (decide (d=e)&& (decide (g=h)&& decide (a=f)))))) W:=by
  congr 3;rw[Bool.eq_iff_iff];simp
 rw[this];simp[go_sem,kU]
 (repeat' split)<;>simp_all
def OM(a b:Ct)(w:World):(Op.equalIn 10000 108 (.agg (dN a).toArray) (.agg (dN b).toArray)).run Tryz.prog w=.ok (decide (a=b)) w:=by
 have u:Tryz.prog.underlying 108=some (.struct (Tryz.prog.fieldsOf 108)):=by kernel_rfl
 have h:Tryz.prog.stoodInHeld 108=false:=by kernel_rfl
 rw[run_equalIn_struct w 9999 108 _ _ u h];unfold Program.fieldsOf;rw[Tryz.underlying108];have d:∀(t:TypeId) (q:IntKind) (x y:Int),Tryz.prog.underlying t=some (.int q)->(Op.equalIn 9999 t (.int q x) (.int q y)).run Tryz.prog w=.ok (x==y) w:=λt q x y i=>run_equalIn_int w 9998 t q q x y i
 have f:∀a:Ct,((dN a).drop 0).take 25=dl a.spec:=λa=>by
  show(dl a.spec++_).take 25=_;rw[<-cL a.spec,List.take_left]
 have e:∀a:Ct,(dN a)[25]? =some (.int .u8 a.st):=λa=>by unfold dN;rw[List.getElem?_append_right (by rw[cL];omega),cL];rfl
 have g:∀a:Ct,(dN a)[26]? =some (.int .i64 a.price):=λa=>by unfold dN;rw[List.getElem?_append_right (by rw[cL];omega),cL];rfl
 have c:decide (a=b)=(decide (a.spec=b.spec)&& ((a.st==b.st)&& ((a.price==b.price)&& true))):=by
  obtain⟨o,r,l⟩:=a;obtain⟨j,m,k⟩:=b;rw[Bool.eq_iff_iff];simp[Ct.mk.injEq]
 rw[c];refine gJ (by decide) (vV (n:=24) (by kernel_rfl) (by kernel_rfl) (f a)) (vV (n:=24) (by kernel_rfl) (by kernel_rfl) (f b)) (Kt a.spec b.spec 9996 w) ?_;refine gJ (by decide) (ej (by kernel_rfl) (e a)) (ej (by kernel_rfl) (e b)) (d _ _ _ _ (by kernel_rfl)) ?_;refine gJ (by decide) (ej (by kernel_rfl) (g a)) (ej (by kernel_rfl) (g b)) (d _ _ _ _ (by kernel_rfl)) ?_;exact Er
def Lu(a b:Ct)(w:World):(tf .neq 108 false (.agg (dN a).toArray) (.agg (dN b).toArray)).run Tryz.prog w=.ok (.bool (!decide (a=b))) w:=by
 have:=OM a b w;generalize(dN a).toArray=A at this;generalize(dN b).toArray=B at this;simp[go_sem,this,Result.andThen]
def E9:Tryz.prog.underlying 46=some (.slice 112):=by kernel_rfl
def kD{α:Type}{l m:List α}(e:l=m){k:Nat}(h1:k<l.length)(a:k<m.length):l[k]=m[k]:=by subst e;rfl
section
variable{W:World}{s:Value}
def NE{L:List Ac}(h:Rd W 4 s L.length (L.flatMap cJ)){i:Nat}(hi:i<L.length):
  ∃b a,(∀V,(Instr.indexAt 44 s (.int .i64 (i:Int))).run Tryz.prog V=.ok (.pointer (some ⟨b,a,none⟩)) V)/\(Instr.loadAt 92 (.pointer (some ⟨b,a,none⟩))).run Tryz.prog W=.ok (gR L[i]) W:=by
 obtain⟨b,a,e,c,d,f⟩:=h.item (show∀x,(cJ x).length=4 from λ_=>rfl) hi rfl;have u:Tryz.prog.underlying 44=some (.slice 92):=by kernel_rfl
 exact⟨b,a+i*4,λV=>by rw[c];simp[go_sem,hi,cC,u],fw (P:=Tryz.prog) (t:=92) (by kernel_rfl) (show Tryz.prog.cellsOf 92=3+1 by kernel_rfl) rfl f⟩
def NN{L:List Po}(h:Rd W 4 s L.length (L.flatMap cK)){i:Nat}(hi:i<L.length):
  ∃b a,(∀V,(Instr.indexAt 46 s (.int .i64 (i:Int))).run Tryz.prog V=.ok (.pointer (some ⟨b,a,none⟩)) V)/\(Instr.loadAt 112 (.pointer (some ⟨b,a,none⟩))).run Tryz.prog W=.ok (kU L[i]) W:=by
 obtain⟨b,a,e,c,d,f⟩:=h.item (show∀x,(cK x).length=4 from λ_=>rfl) hi rfl;have u:Tryz.prog.underlying 46=some (.slice 112):=by kernel_rfl
 exact⟨b,a+i*4,λV=>by rw[c];simp[go_sem,hi,cC,u],fw (P:=Tryz.prog) (t:=112) (by kernel_rfl) (show Tryz.prog.cellsOf 112=3+1 by kernel_rfl) rfl f⟩
def Oc{L:List Ct}(h:Rd W 27 s L.length (L.flatMap dN)){i:Nat}(hi:i<L.length):
  ∃b a,(∀V,(Instr.indexAt 45 s (.int .i64 (i:Int))).run Tryz.prog V=.ok (.pointer (some ⟨b,a,none⟩)) V)/\(dh gQ (.pointer (some ⟨b,a,none⟩))).run Tryz.prog W=.ok (.agg (dN L[i]).toArray) W:=by
 obtain⟨b,a,e,c,d,f⟩:=h.item cX hi rfl;exact⟨b,a+i*27,λV=>by rw[c];simp[go_sem,hi,cC,ua],fw zV xz (cX _) f⟩
end
set_option maxRecDepth 10000 in
def tA{w:World}{K:cm}{a b:Value}{c lb:List (Int×Od)}(B:Rd w 6 a c.length (c.flatMap du))(x:Rd w 6 b lb.length (lb.flatMap du))(Q:c.length<=100000)(u:∀j,cl (λ_=>False) w j->K (.bool (decide (c=lb))) j):Ca Tryz.prog 58 #[a,b] w K:=by
 apply Ri;obtain⟨R,O,G⟩:=B.isSl;obtain⟨S,P,F⟩:=x.isSl;have A:∀W,(builtin .len #[47] 3 #[false] #[a]).run Tryz.prog W=.ok (.value (.int .i64 (c.length:Int))) W:=λW=>by rw[G];simp[go_sem]
 refine fi (A _) ?_;refine fi (v:=.int .i64 (lb.length:Int)) (w' :=w) (by rw[F];simp[go_sem]) ?_;by_cases f:c.length=lb.length
 rotate_left
 ·refine ck (v:=.bool true) (w' :=w) (by simp[go_sem];omega) ?_;rw[ci,if_pos rfl];have i:c≠lb:=λe=>f (by rw[e]);have:=u w (cl.refl _ _);rw[decide_eq_false i]at this;exact this
 refine ck (v:=.bool false) (w' :=w) (by simp[go_sem];omega) ?_;rw[ci,if_neg Bool.false_ne_true]
 refine dp (λst W=>∃k:Nat,st=(.bool false,.int .i64 k,())/\k<=c.length/\c.take k=lb.take k/\cl (λ_=>False) w W)
  (λst _=>match st.2.1 with| .int _ k=>c.length - k.toNat|_=>0) ⟨0,rfl,by omega,rfl,cl.refl _ _⟩ ?_
 rintro _ W ⟨k,rfl,M,d,m⟩ J r;unfold JS;intro _;refine fi (A _) ?_;by_cases l:k<c.length
 ·have n:(k:Int)<(c.length:Int):=by omega
  refine ck (v:=.bool true) (by simp[go_sem,n]<;>first|exact⟨rfl,rfl⟩|exact rfl) ?_;rw[ci,if_pos rfl];have md:=m.drew;have ra:=B.mod md λ_ _ h=>h;have z:=x.mod md λ_ _ h=>h;generalize W.drew=y at md ra z|-;have g:k<lb.length:=by omega
  obtain⟨N,po,D,C⟩:=nj ra l;obtain⟨L,T,I,E⟩:=nj z g;refine cq (λW=>D W _) (cx (jy C) ?_);refine cq (λW=>I W _) (cx (jy E) ?_);refine cq (λW=>Gm _ _ W) ?_;by_cases o:c[k]=lb[k]
  ·rw[decide_eq_true o,show(!true)=false from rfl,ci,if_neg Bool.false_ne_true];refine ck (v:=.int .i64 ((k+1:Nat):Int)) (w' :=y) (by simp[go_sem];rw[cV (by omega) (by omega)]) ?_;refine r _ _ ⟨k+1,rfl,by omega,?_,md⟩ (by show c.length - (((k+1:Nat):Int)).toNat<c.length - ((k:Int)).toNat;omega);rw[cQ l,cQ g,d,o]
  ·rw[decide_eq_false o,show(!false)=true from rfl,ci,if_pos rfl];have i:c≠lb:=λe=>o (by subst e;rfl);have:=u y md;rw[decide_eq_false i]at this;exact this
 ·obtain rfl:k=c.length:=by omega
  refine ck (v:=.bool false) (by simp[go_sem]<;>first|exact⟨rfl,rfl⟩|exact rfl) ?_;rw[ci,if_neg Bool.false_ne_true]
  have H:c=lb:=by
   rw[List.take_length,f,List.take_length]at d;exact d
  have:=u W m;rw[decide_eq_true H]at this;exact this
section
variable{w w0:World}{K:cm}{s t:iq}{ss tt:Nat->Value}{p q:Nat}
set_option maxRecDepth 10000 in
def LJ(o:cR w0 p s.day s.next s.fund ss)(b2:cR w0 q t.day t.next t.fund tt)(l:eS w0 ss s)(r:eS w0 tt t)(F:s.accts.length<=100000/\s.cts.length<=100000/\s.poss.length<=100000/\s.ords.length<=100000/\s.bids.length<=100000)(N:s.accts.length=t.accts.length/\s.cts.length=t.cts.length/\s.poss.length=t.poss.length)(m0:cl (λ_=>False) w0 w){x:Value}
  (D:∀(b:Bool) B,cl (λ_=>False) w0 B->(b=true↔s.poss=t.poss/\s.ords=t.ords/\s.bids=t.bids)->K (.bool b) B):cS (S:=Value×Value×Unit) (DE (.pointer (some ⟨p,0,none⟩)) (.pointer (some ⟨q,0,none⟩)) K) (x,.int .i64 0,()) w:=by
 have y:=l.sl;have E:=r.sl;have n:s.poss.length=t.poss.length:=N.2.2;have Q:s.poss.length<=100000:=F.2.2.1
 have R:∀W,(builtin .len #[46] 3 #[false] #[ss 5]).run Tryz.prog W=.ok (.value (.int .i64 (s.poss.length:Int))) W:=λW=>by
  obtain⟨a,c,e⟩:=(l.poss).isSl;rw[e];simp[go_sem]
 refine dp (λst W=>∃(x:Value) (k:Nat),st=(x,.int .i64 k,())/\k<=s.poss.length/\s.poss.take k=t.poss.take k/\cl (λ_=>False) w0 W)
  (λst _=>match st.2.1 with| .int _ k=>s.poss.length - k.toNat|_=>0) ⟨_,0,rfl,by omega,rfl,m0⟩ ?_
 rintro _ X ⟨x,k,rfl,Z,d,i⟩ T C;unfold DE;intro _;refine ck (eF _ 5 (by omega)) (ck (dC (i.hpk o id) y 5 (by omega) (by omega)) (fi (R _) ?_));by_cases g:k<s.poss.length
 ·have m:(k:Int)<(s.poss.length:Int):=by omega
  refine ck (v:=.bool true) (by simp[go_sem,m]<;>first|exact⟨rfl,rfl⟩|exact rfl) ?_;rw[ci,if_pos rfl];have f:k<t.poss.length:=by omega
  have md:=i.drew;generalize X.drew=Y at md|-;have ra:=(l.md0 md).poss;have M:=(r.md0 md).poss;refine cq (λ_=>eF _ 5 (by omega)) (cx (dC (md.hpk o id) y 5 (by omega) (by omega)) ?_);obtain⟨pb,po,J,I⟩:=NN ra g;refine cq (λW=>J W) ?_;refine cx I ?_;refine cq (λ_=>eF _ 5 (by omega)) (cx (dC (md.hpk b2 id) E 5 (by omega) (by omega)) ?_);obtain⟨V,qo,P,L⟩:=NN M f;refine cq (λW=>P W) ?_;refine cx L ?_;refine cq (λW=>LX _ _ W) ?_;by_cases z:s.poss[k]=t.poss[k]
  ·rw[decide_eq_true z,show(!true)=false from rfl,ci,if_neg Bool.false_ne_true];refine ck (v:=.int .i64 ((k+1:Nat):Int)) (w' :=Y) (by simp[go_sem];rw[cV (by omega) (by omega)]) ?_;refine C _ _ ⟨_,k+1,rfl,by omega,?_,md⟩ (by show s.poss.length - (((k+1:Nat):Int)).toNat<s.poss.length - ((k:Int)).toNat;omega);rw[cQ g,cQ f,d,z]
  ·rw[decide_eq_false z,show(!false)=true from rfl,ci,if_pos rfl];have A:s.poss≠t.poss:=λe=>z (kD e g f);exact D _ _ md ⟨λh=>(by cases h),λh=>absurd (h.1) A⟩
 ·obtain rfl:k=s.poss.length:=by omega
  refine ck (v:=.bool false) (by simp[go_sem]<;>first|exact⟨rfl,rfl⟩|exact rfl) ?_;rw[ci,if_neg Bool.false_ne_true]
  have O:s.poss=t.poss:=by
   rw[List.take_length,n,List.take_length]at d;exact d
  obtain⟨_,_,e1⟩:=(l.ords).isSl;refine ck (eF _ 6 (by omega)) (ck (dC (i.hpk o id) y 6 (by omega) (by omega)) (ck (eF _ 6 (by omega)) (ck (dC (i.hpk b2 id) E 6 (by omega) (by omega)) ?_)));refine tA (l.md0 i).ords (r.md0 i).ords F.2.2.2.1 λw2 G=>?_;have j:=i.trans G;by_cases u:s.ords=t.ords
  ·rw[decide_eq_true u,ci,if_pos rfl];refine ck (eF _ 7 (by omega)) (ck (dC (j.hpk o id) y 7 (by omega) (by omega)) (ck (eF _ 7 (by omega)) (ck (dC (j.hpk b2 id) E 7 (by omega) (by omega)) ?_)));refine tA (l.md0 j).bids (r.md0 j).bids F.2.2.2.2 λU H=>?_;refine D _ _ (j.trans H) ⟨λh=>⟨O,u,of_decide_eq_true h⟩,λh=>decide_eq_true h.2.2⟩
  ·rw[decide_eq_false u,ci,if_neg Bool.false_ne_true];exact D _ _ j ⟨λh=>(by cases h),λh=>absurd h.2.1 u⟩
set_option maxRecDepth 10000 in
def Mh(r:cR w0 p s.day s.next s.fund ss)(b2:cR w0 q t.day t.next t.fund tt)(n:eS w0 ss s)(y:eS w0 tt t)(D:s.accts.length<=100000/\s.cts.length<=100000/\s.poss.length<=100000/\s.ords.length<=100000/\s.bids.length<=100000)(E:s.accts.length=t.accts.length/\s.cts.length=t.cts.length/\s.poss.length=t.poss.length)(m0:cl (λ_=>False) w0 w){x:Value}
  (B:∀(b:Bool) i,cl (λ_=>False) w0 i->(b=true↔s.cts=t.cts/\s.poss=t.poss/\s.ords=t.ords/\s.bids=t.bids)->K (.bool b) i):cS (S:=Value×Value×Unit) (Em (.pointer (some ⟨p,0,none⟩)) (.pointer (some ⟨q,0,none⟩)) K) (x,.int .i64 0,()) w:=by
 have C:=n.sl;have J:=y.sl;have l:s.cts.length=t.cts.length:=E.2.1;have O:s.cts.length<=100000:=D.2.1
 have P:∀W,(builtin .len #[45] 3 #[false] #[ss 4]).run Tryz.prog W=.ok (.value (.int .i64 (s.cts.length:Int))) W:=λW=>by
  obtain⟨a,c,e⟩:=(n.cts).isSl;rw[e];simp[go_sem]
 refine dp (λst W=>∃(x:Value) (k:Nat),st=(x,.int .i64 k,())/\k<=s.cts.length/\s.cts.take k=t.cts.take k/\cl (λ_=>False) w0 W)
  (λst _=>match st.2.1 with| .int _ k=>s.cts.length - k.toNat|_=>0) ⟨_,0,rfl,by omega,rfl,m0⟩ ?_
 rintro _ X ⟨x,k,rfl,T,d,A⟩ Q z;unfold Em;intro _;refine ck (eF _ 4 (by omega)) (ck (dC (A.hpk r id) C 4 (by omega) (by omega)) (fi (P _) ?_));by_cases g:k<s.cts.length
 ·have j:(k:Int)<(s.cts.length:Int):=by omega
  refine ck (v:=.bool true) (by simp[go_sem,j]<;>first|exact⟨rfl,rfl⟩|exact rfl) ?_;rw[ci,if_pos rfl];have f:k<t.cts.length:=by omega
  have md:=A.drew;generalize X.drew=Y at md|-;have ra:=(n.md0 md).cts;have L:=(y.md0 md).cts;refine cq (λ_=>eF _ 4 (by omega)) (cx (dC (md.hpk r id) C 4 (by omega) (by omega)) ?_);obtain⟨U,po,H,G⟩:=Oc ra g;refine cq (λW=>H W) ?_;refine jg G ?_;refine cq (λ_=>eF _ 4 (by omega)) (cx (dC (md.hpk b2 id) J 4 (by omega) (by omega)) ?_);obtain⟨R,V,N,I⟩:=Oc L f;refine cq (λW=>N W) ?_;refine jg I ?_;refine cq (λW=>Lu _ _ W) ?_;by_cases o:s.cts[k]=t.cts[k]
  ·rw[decide_eq_true o,show(!true)=false from rfl,ci,if_neg Bool.false_ne_true];refine ck (v:=.int .i64 ((k+1:Nat):Int)) (w' :=Y) (by simp[go_sem];rw[cV (by omega) (by omega)]) ?_;refine z _ _ ⟨_,k+1,rfl,by omega,?_,md⟩ (by show s.cts.length - (((k+1:Nat):Int)).toNat<s.cts.length - ((k:Int)).toNat;omega);rw[cQ g,cQ f,d,o]
  ·rw[decide_eq_false o,show(!false)=true from rfl,ci,if_pos rfl];have u:s.cts≠t.cts:=λe=>o (kD e g f);exact B _ _ md ⟨λh=>(by cases h),λh=>absurd (h.1) u⟩
 ·obtain rfl:k=s.cts.length:=by omega
  refine ck (v:=.bool false) (by simp[go_sem]<;>first|exact⟨rfl,rfl⟩|exact rfl) ?_;rw[ci,if_neg Bool.false_ne_true]
  have M:s.cts=t.cts:=by
   rw[List.take_length,l,List.take_length]at d;exact d
  exact LJ r b2 n y D E A λb i m F=>B b i m (F.trans ⟨λh=>⟨M,h⟩,λh=>h.2⟩)
set_option maxRecDepth 10000 in
def Ig(r:cR w0 p s.day s.next s.fund ss)(b2:cR w0 q t.day t.next t.fund tt)(n:eS w0 ss s)(y:eS w0 tt t)(D:s.accts.length<=100000/\s.cts.length<=100000/\s.poss.length<=100000/\s.ords.length<=100000/\s.bids.length<=100000)(E:s.accts.length=t.accts.length/\s.cts.length=t.cts.length/\s.poss.length=t.poss.length)(m0:cl (λ_=>False) w0 w){x:Value}
  (B:∀(b:Bool) i,cl (λ_=>False) w0 i->(b=true↔s.accts=t.accts/\s.cts=t.cts/\s.poss=t.poss/\s.ords=t.ords/\s.bids=t.bids)->K (.bool b) i):cS (S:=Value×Value×Unit) (E3 (.pointer (some ⟨p,0,none⟩)) (.pointer (some ⟨q,0,none⟩)) K) (x,.int .i64 0,()) w:=by
 have C:=n.sl;have J:=y.sl;have l:s.accts.length=t.accts.length:=E.1;have O:s.accts.length<=100000:=D.1
 have P:∀W,(builtin .len #[44] 3 #[false] #[ss 3]).run Tryz.prog W=.ok (.value (.int .i64 (s.accts.length:Int))) W:=λW=>by
  obtain⟨a,c,e⟩:=(n.accts).isSl;rw[e];simp[go_sem]
 refine dp (λst W=>∃(x:Value) (k:Nat),st=(x,.int .i64 k,())/\k<=s.accts.length/\s.accts.take k=t.accts.take k/\cl (λ_=>False) w0 W)
  (λst _=>match st.2.1 with| .int _ k=>s.accts.length - k.toNat|_=>0) ⟨_,0,rfl,by omega,rfl,m0⟩ ?_
 rintro _ X ⟨x,k,rfl,T,d,A⟩ Q z;unfold E3;intro _;refine ck (eF _ 3 (by omega)) (ck (dC (A.hpk r id) C 3 (by omega) (by omega)) (fi (P _) ?_));by_cases g:k<s.accts.length
 ·have j:(k:Int)<(s.accts.length:Int):=by omega
  refine ck (v:=.bool true) (by simp[go_sem,j]<;>first|exact⟨rfl,rfl⟩|exact rfl) ?_;rw[ci,if_pos rfl];have f:k<t.accts.length:=by omega
  have md:=A.drew;generalize X.drew=Y at md|-;have ra:=(n.md0 md).accts;have L:=(y.md0 md).accts;refine cq (λ_=>eF _ 3 (by omega)) (cx (dC (md.hpk r id) C 3 (by omega) (by omega)) ?_);obtain⟨U,po,H,G⟩:=NE ra g;refine cq (λW=>H W) ?_;refine cx G ?_;refine cq (λ_=>eF _ 3 (by omega)) (cx (dC (md.hpk b2 id) J 3 (by omega) (by omega)) ?_);obtain⟨R,V,N,I⟩:=NE L f;refine cq (λW=>N W) ?_;refine cx I ?_;refine cq (λW=>K7 _ _ W) ?_;by_cases o:s.accts[k]=t.accts[k]
  ·rw[decide_eq_true o,show(!true)=false from rfl,ci,if_neg Bool.false_ne_true];refine ck (v:=.int .i64 ((k+1:Nat):Int)) (w' :=Y) (by simp[go_sem];rw[cV (by omega) (by omega)]) ?_;refine z _ _ ⟨_,k+1,rfl,by omega,?_,md⟩ (by show s.accts.length - (((k+1:Nat):Int)).toNat<s.accts.length - ((k:Int)).toNat;omega);rw[cQ g,cQ f,d,o]
  ·rw[decide_eq_false o,show(!false)=true from rfl,ci,if_pos rfl];have u:s.accts≠t.accts:=λe=>o (kD e g f);exact B _ _ md ⟨λh=>(by cases h),λh=>absurd (h.1) u⟩
 ·obtain rfl:k=s.accts.length:=by omega
  refine ck (v:=.bool false) (by simp[go_sem]<;>first|exact⟨rfl,rfl⟩|exact rfl) ?_;rw[ci,if_neg Bool.false_ne_true]
  have M:s.accts=t.accts:=by
   rw[List.take_length,l,List.take_length]at d;exact d
  exact Mh r b2 n y D E A λb i m F=>B b i m (F.trans ⟨λh=>⟨M,h⟩,λh=>h.2⟩)
def sN{s t:iq}:s=t↔s.day=t.day/\s.next=t.next/\s.fund=t.fund/\s.accts=t.accts/\s.cts=t.cts/\s.poss=t.poss/\s.ords=t.ords/\s.bids=t.bids:=by
 obtain⟨f,g,l,a,n,o,h,b⟩:=s;obtain⟨d,j,m,k,e,i,c,b8⟩:=t;simp
set_option maxRecDepth 10000 in
def qP(O:eS w ss s)(M:eS w tt t)(R:s.accts.length<=100000/\s.cts.length<=100000/\s.poss.length<=100000/\s.ords.length<=100000/\s.bids.length<=100000)
  (N:∀(b:Bool) j,cl (λ_=>False) w j->(b=true↔s=t)->K (.bool b) j):Ca Tryz.prog 16 #[oJ s.day s.next s.fund ss,oJ t.day t.next t.fund tt] w K:=by
 apply QH;obtain⟨J,V,i,S⟩:=js s.day s.next s.fund ss w;refine ck V ?_;generalize w.heap.size=p at i|-;obtain⟨g,Q,r,L⟩:=js t.day t.next t.fund tt J;refine ck Q ?_;generalize J.heap.size=q at r|-;have i:cR g p s.day s.next s.fund ss:=L.hpk i id;have A:=S.trans L;have k:=O.md0 A;have l:=M.md0 A;have F:=O.sl;have E:=M.sl
 have d:∀{v:Value} {n:Nat} {T:TypeId},(∃a c,v=.slice a n c)->(∃e,Tryz.prog.underlying T=some (.slice e))->∀W,(builtin .len #[T] 3 #[false] #[v]).run Tryz.prog W=.ok (.value (.int .i64 (n:Int))) W:=λ{v n T} h G W=>by
  obtain⟨a,c,rfl⟩:=h;obtain⟨e,G⟩:=G;simp[go_sem,G]
 have f:∀(m n:Nat) W,(tf .neq 3 false (.int .i64 (m:Int)) (.int .i64 (n:Int))).run Tryz.prog W=.ok (.bool (!decide (m=n))) W:=λm n W=>by
  by_cases h:m=n
  ·simp[go_sem,h]
  ·simp[go_sem,h];omega
 have B:¬(s=t)->K (.bool false) g:=λC=>N _ _ A ⟨λh=>(by cases h),λh=>absurd h C⟩;refine cB.at (λst W=>∃b:Bool,st=(.bool b,())/\g=W/\(b=true->¬(s=t))/\(b=false->s.day=t.day/\s.next=t.next/\s.fund=t.fund/\s.accts.length=t.accts.length/\s.cts.length=t.cts.length/\s.poss.length=t.poss.length)) ?_ ?_
 ·have y:∀b:Bool,(b=true->¬(s=t))->(b=false->s.day=t.day/\s.next=t.next/\s.fund=t.fund/\s.accts.length=t.accts.length/\s.cts.length=t.cts.length/\s.poss.length=t.poss.length)->∃D:Bool,((Value.bool b,()):Value×Unit)=(.bool D,())/\g=g/\(D=true->¬(s=t))/\(D=false->s.day=t.day/\s.next=t.next/\s.fund=t.fund/\s.accts.length=t.accts.length/\s.cts.length=t.cts.length/\s.poss.length=t.poss.length):=λb h1 o=>⟨b,rfl,rfl,h1,o⟩
  refine ck (eF _ 0 (by omega)) (ck (fe i).1 (ck (eF _ 0 (by omega)) (ck (fe r).1 ?_)));by_cases h1:s.day=t.day
  rotate_left
  ·refine ck (v:=.bool true) (w' :=g) (by simp[go_sem,h1]) ?_;rw[ci,if_pos rfl];exact y true (λ_ e=>h1 (by rw[e])) λh=>(by cases h)
  refine ck (v:=.bool false) (w' :=g) (by simp[go_sem,h1]) ?_;rw[ci,if_neg Bool.false_ne_true];refine ck (eF _ 1 (by omega)) (ck (fe i).2.1 (ck (eF _ 1 (by omega)) (ck (fe r).2.1 ?_)));by_cases o:s.next=t.next
  rotate_left
  ·refine ck (v:=.bool true) (w' :=g) (by simp[go_sem,o]) ?_;rw[ci,if_pos rfl];exact y true (λ_ e=>o (by rw[e])) λh=>(by cases h)
  refine ck (v:=.bool false) (w' :=g) (by simp[go_sem,o]) ?_;rw[ci,if_neg Bool.false_ne_true];refine ck (eF _ 2 (by omega)) (ck (fe i).2.2 (ck (eF _ 2 (by omega)) (ck (fe r).2.2 ?_)));by_cases z:s.fund=t.fund
  rotate_left
  ·refine ck (v:=.bool true) (w' :=g) (by simp[go_sem,z]) ?_;rw[ci,if_pos rfl];exact y true (λ_ e=>z (by rw[e])) λh=>(by cases h)
  refine ck (v:=.bool false) (w' :=g) (by simp[go_sem,z]) ?_;rw[ci,if_neg Bool.false_ne_true];refine ck (eF _ 3 (by omega)) (ck (dC i F 3 (by omega) (by omega)) (fi (d k.accts.isSl ⟨_,Hr⟩ _) (ck (eF _ 3 (by omega)) (ck (dC r E 3 (by omega) (by omega)) (fi (d l.accts.isSl ⟨_,Hr⟩ _) (ck (f _ _ _) ?_))))));by_cases u:s.accts.length=t.accts.length
  rotate_left
  ·rw[decide_eq_false u,show(!false)=true from rfl,ci,if_pos rfl];exact y true (λ_ e=>u (by rw[e])) λh=>(by cases h)
  rw[decide_eq_true u,show(!true)=false from rfl,ci,if_neg Bool.false_ne_true];refine ck (eF _ 4 (by omega)) (ck (dC i F 4 (by omega) (by omega)) (fi (d k.cts.isSl ⟨_,ua⟩ _) (ck (eF _ 4 (by omega)) (ck (dC r E 4 (by omega) (by omega)) (fi (d l.cts.isSl ⟨_,ua⟩ _) (ck (f _ _ _) ?_))))));by_cases x:s.cts.length=t.cts.length
  rotate_left
  ·rw[decide_eq_false x,show(!false)=true from rfl,ci,if_pos rfl];exact y true (λ_ e=>x (by rw[e])) λh=>(by cases h)
  rw[decide_eq_true x,show(!true)=false from rfl,ci,if_neg Bool.false_ne_true];refine ck (eF _ 5 (by omega)) (ck (dC i F 5 (by omega) (by omega)) (fi (d k.poss.isSl ⟨_,E9⟩ _) (ck (eF _ 5 (by omega)) (ck (dC r E 5 (by omega) (by omega)) (fi (d l.poss.isSl ⟨_,E9⟩ _) (ck (f _ _ _) ?_))))));exact y _ (λh e=>by rw[e]at h;simp at h) λh=>⟨h1,o,z,u,x,by simpa using h⟩
 rintro _ W ⟨b,rfl,rfl,I,H⟩;unfold Jp;intro _;cases b with
 |true=>
  rw[ci,if_pos rfl];exact B (I rfl)
 |false=>
  rw[ci,if_neg Bool.false_ne_true];obtain⟨h1,o,z,u,x,U⟩:=H rfl;exact Ig i r k l R ⟨u,x,U⟩ (cl.refl _ _) λb j m P=>N b j (A.trans m) (P.trans ⟨λh=>sN.2 ⟨h1,o,z,h⟩,λe=>(sN.1 e).2.2.2⟩)
end
end Go.Proofs
