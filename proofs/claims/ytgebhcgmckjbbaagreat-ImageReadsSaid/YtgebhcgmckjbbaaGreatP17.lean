/- Part of a proof. -/
import Derived.Test.YtgebhcgmckjbbaaGreatP16
set_option linter.all false
namespace Go.Proofs
open Go Go.Vc
attribute [local congr] cq
abbrev xI:TypeId:=139
def De(r:Nat):Value:=.agg #[dJ r]
def Nc(c:Nat):Value:=.pointer (some ⟨c,0,none⟩)
def tJ(l:List UInt8)(m:Nat)(s:Rs):(((cw l m s).1:Nat):Int)=(cz l m s).1/\(cw l m s).2=(cz l m s).2:=⟨rfl,rfl⟩
abbrev ft(w:World)(c r:Nat):Prop:=hp w c=some (.cells #[dJ r] xI (0,0))
def nK{W:World}{c r:Nat}(h:ft W c r):(Instr.loadAt 136 (.pointer (some ⟨c,0,none⟩))).run Tryz.prog W=.ok (dJ r) W:=by
 have a:hp W c=some (.cells #[dJ r] xI (0,0)):=h;simp only[dJ]at a;simp[go_sem,a,dJ]
def qF{W:World}{c r:Nat}(h:ft W c r):(Instr.loadAt xI (.pointer (some ⟨c,0,none⟩))).run Tryz.prog W=.ok (De r) W:=by
 have a:hp W c=some (.cells #[dJ r] xI (0,0)):=h;simp only[dJ]at a;simp[go_sem,a,dJ,De]
def rg(W:World)(c:Nat):(Instr.fieldAt xI (.pointer (some ⟨c,0,none⟩)) 0).run Tryz.prog W=.ok (.pointer (some ⟨c,0,none⟩)) W:=by simp[go_sem]
def wl(r:Nat)(w:World):∃a,(Instr.box xI (De r)).run Tryz.prog w=.ok (.pointer (some ⟨w.heap.size,0,none⟩)) a/\ft a w.heap.size r/\cl (λ_=>False) w a:=
 ⟨w.alloc (.cells #[dJ r] xI),rfl,by show hp _ _=_;simp[go_sem],(cl.refl _ w).alloc _⟩
def lN{w:World}{K:cm}{r:Nat}{v:Value}{l:List UInt8}{s:Rs}(h:dD w r v l s)
  (a:∀w',dD w' r v l (cz l fF s).2->cl (λb=>b=r) w w' ->K (.int .u32 (cz l fF s).1) w'):Ca Tryz.prog 60 #[De r] w K:=by
 apply Q2;obtain⟨o,m,i,d⟩:=wl r w;refine ck m (ck (rg _ _) (ck (nK i) ?_));refine fJ (h.mod d id λ_ _ h=>h) (most:=4294967295) (by omega) λn g j=>?_;have k:=gg l s;obtain⟨x,f⟩:∃x,x=cz l fF s:=⟨_,rfl⟩
 have e:(((cw l 4294967295 s).1:Nat):Int)=x.1/\(cw l 4294967295 s).2=x.2:=by rw[f];exact tJ _ _ _
 rw[e.1];rw[e.2]at g;rw[<-f]at k a;refine ck (v:=.int .u32 x.1) (w' :=n) (by simp[go_sem];rw[IntKind.wrap_u32'];omega) ?_;exact a _ g ((d.mono λ_ _ h=>h.elim).trans j)
def xV{w:World}{K:cm}{r:Nat}{v:Value}{l:List UInt8}{s:Rs}(h:dD w r v l s)
  (a:∀w',dD w' r v l (cz l qa s).2->cl (λb=>b=r) w w' ->K (.int .u64 (cz l qa s).1) w'):Ca Tryz.prog 61 #[dJ r] w K:=B6 h a
structure pX(w:World)(c r:Nat)(v:Value)(l:List UInt8)(s:Rs):Prop where
 at_:dD w r v l s
 var:ft w c r
 ne:c≠r
section
variable{w w' :World}{K:cm}{c r:Nat}{v:Value}{l:List UInt8}{s:Rs}
def pX.md0(h:pX w c r v l s)(m:cl (λ_=>False) w w'):pX w' c r v l s:=⟨h.at_.mod m id λ_ _ h=>h,m.hpk h.var id,h.ne⟩
def pX.to(h:pX w c r v l s){s' :Rs}(a:dD w' r v l s')(m:cl (λb=>b=r) w w'):pX w' c r v l s' :=⟨a,m.hpk h.var h.ne,h.ne⟩
def pX.lt(h:pX w c r v l s):r<w.heap.size/\c<w.heap.size/\∀b,eh v b->b<w.heap.size:=⟨h.at_.lt,cn h.var,λb a=>h.at_.rd.lt a⟩
def pX.st(h:pX w c r v l s){p:Nat}(f:r<p)(g:c<p)(a:∀b,eh v b->b<p)(m:cl (λy=>y=p) w w'):pX w' c r v l s:=
 ⟨h.at_.mod m (by omega) λb d e=>by have:=a b d;omega,m.hpk h.var (by omega),h.ne⟩
def yZ{W:World}{p:Nat}{a:Ac}(h:hp W p=some (.cells (cM a).toArray 92 (0,0))):
  (∀x,∃b,(Instr.storeAt 35 (.pointer (some ⟨p,0,none⟩)) (.int .u32 x)).run Tryz.prog W=.ok () b/\hp b p=some (.cells (cM {a with num:=x}).toArray 92 (0,0))/\cl (λy=>y=p) W b)/\
  (∀x,∃b,(Instr.storeAt 2 (.pointer (some ⟨p,1,none⟩)) (.int .i64 x)).run Tryz.prog W=.ok () b/\hp b p=some (.cells (cM {a with cash:=x}).toArray 92 (0,0))/\cl (λy=>y=p) W b)/\
  (∀x,∃b,(Instr.storeAt 4 (.pointer (some ⟨p,2,none⟩)) (.bool x)).run Tryz.prog W=.ok () b/\hp b p=some (.cells (cM {a with kil:=x}).toArray 92 (0,0))/\cl (λy=>y=p) W b)/\
  (∀x,∃b,(Instr.storeAt 4 (.pointer (some ⟨p,3,none⟩)) (.bool x)).run Tryz.prog W=.ok () b/\hp b p=some (.cells (cM {a with dfl:=x}).toArray 92 (0,0))/\cl (λy=>y=p) W b):=by
 simp only[cM]at h|-;refine⟨λx=>⟨W.setCell ⟨p,0,none⟩ (.int .u32 x),?_,?_,?_⟩,λx=>⟨W.setCell ⟨p,1,none⟩ (.int .i64 x),?_,?_,?_⟩,λx=>⟨W.setCell ⟨p,2,none⟩ (.bool x),?_,?_,?_⟩,λx=>⟨W.setCell ⟨p,3,none⟩ (.bool x),?_,?_,?_⟩⟩
 all_goals first|exact(cl.refl (λy=>y=p) W).setCell (.inl rfl) _ _|simp[go_sem,h]
def y8{W:World}{p:Nat}{a:Po}(h:hp W p=some (.cells (cL a).toArray 112 (0,0))):
  (∀x,∃d,(Instr.storeAt 35 (.pointer (some ⟨p,0,none⟩)) (.int .u32 x)).run Tryz.prog W=.ok () d/\hp d p=some (.cells (cL {a with c:=x}).toArray 112 (0,0))/\cl (λy=>y=p) W d)/\
  (∀x,∃d,(Instr.storeAt 35 (.pointer (some ⟨p,1,none⟩)) (.int .u32 x)).run Tryz.prog W=.ok () d/\hp d p=some (.cells (cL {a with a:=x}).toArray 112 (0,0))/\cl (λy=>y=p) W d)/\
  (∀x,∃d,(Instr.storeAt 2 (.pointer (some ⟨p,2,none⟩)) (.int .i64 x)).run Tryz.prog W=.ok () d/\hp d p=some (.cells (cL {a with q:=x}).toArray 112 (0,0))/\cl (λy=>y=p) W d)/\
  (∀x,∃d,(Instr.storeAt 2 (.pointer (some ⟨p,3,none⟩)) (.int .i64 x)).run Tryz.prog W=.ok () d/\hp d p=some (.cells (cL {a with b:=x}).toArray 112 (0,0))/\cl (λy=>y=p) W d):=by
 simp only[cL]at h|-;refine⟨λx=>⟨W.setCell ⟨p,0,none⟩ (.int .u32 x),?_,?_,?_⟩,λx=>⟨W.setCell ⟨p,1,none⟩ (.int .u32 x),?_,?_,?_⟩,λx=>⟨W.setCell ⟨p,2,none⟩ (.int .i64 x),?_,?_,?_⟩,λx=>⟨W.setCell ⟨p,3,none⟩ (.int .i64 x),?_,?_,?_⟩⟩
 all_goals first|exact(cl.refl (λy=>y=p) W).setCell (.inl rfl) _ _|simp[go_sem,h]
def tV{W:World}{p:Nat}{a b:Ac}(h:hp W p=some (.cells (cM a).toArray 92 (0,0))):(Instr.loadAt 92 (.pointer (some ⟨p,0,none⟩))).run Tryz.prog W=.ok (ii a) W/\
  ∃d,(Instr.storeAt 92 (.pointer (some ⟨p,0,none⟩)) (ii b)).run Tryz.prog W=.ok () d/\hp d p=some (.cells (cM b).toArray 92 (0,0))/\cl (λy=>y=p) W d:=by
 simp only[cM]at h|-;exact⟨by simp[go_sem,h,ii],(((W.setCell ⟨p,0,none⟩ (.int .u32 b.num)).setCell ⟨p,1,none⟩ (.int .i64 b.cash)).setCell ⟨p,2,none⟩ (.bool b.kil)).setCell ⟨p,3,none⟩ (.bool b.dfl),by simp[go_sem,h,ii],by simp[go_sem,h],((((cl.refl (λy=>y=p) W).setCell (.inl rfl) _ _).setCell (.inl rfl) _ _).setCell (.inl rfl) _ _).setCell (.inl rfl) _ _⟩
def rP{W:World}{p:Nat}{a b:Po}(h:hp W p=some (.cells (cL a).toArray 112 (0,0))):(Instr.loadAt 112 (.pointer (some ⟨p,0,none⟩))).run Tryz.prog W=.ok (lK a) W/\
  ∃d,(Instr.storeAt 112 (.pointer (some ⟨p,0,none⟩)) (lK b)).run Tryz.prog W=.ok () d/\hp d p=some (.cells (cL b).toArray 112 (0,0))/\cl (λy=>y=p) W d:=by
 simp only[cL]at h|-;exact⟨by simp[go_sem,h,lK],(((W.setCell ⟨p,0,none⟩ (.int .u32 b.c)).setCell ⟨p,1,none⟩ (.int .u32 b.a)).setCell ⟨p,2,none⟩ (.int .i64 b.q)).setCell ⟨p,3,none⟩ (.int .i64 b.b),by simp[go_sem,h,lK],by simp[go_sem,h],((((cl.refl (λy=>y=p) W).setCell (.inl rfl) _ _).setCell (.inl rfl) _ _).setCell (.inl rfl) _ _).setCell (.inl rfl) _ _⟩
def QG(i:Nat)(hi:i<4)(p:Nat)(W:World):(Instr.fieldAt 92 (.pointer (some ⟨p,0,none⟩)) i).run Tryz.prog W=.ok (.pointer (some ⟨p,i,none⟩)) W:=by
 have:i=0\/i=1\/i=2\/i=3:=by omega
 rcases this with rfl|rfl|rfl|rfl<;>simp[go_sem]
def QI(i:Nat)(hi:i<4)(p:Nat)(W:World):(Instr.fieldAt 112 (.pointer (some ⟨p,0,none⟩)) i).run Tryz.prog W=.ok (.pointer (some ⟨p,i,none⟩)) W:=by
 have:i=0\/i=1\/i=2\/i=3:=by omega
 rcases this with rfl|rfl|rfl|rfl<;>simp[go_sem]
set_option maxRecDepth 10000 in
def IW(h:pX w c r v l s)(hK:∀w',pX w' c r v l (jY l s).2->cl (λb=>b=r) w w' ->K (ii (jY l s).1) w'):Ca Tryz.prog 64 #[Nc c] w K:=by
 apply Si;unfold Nc;obtain⟨hr0,T,D⟩:=h.lt;obtain⟨p,j⟩:∃p,p=w.heap.size:=⟨_,rfl⟩
 have E:cl (λ_=>False) w (w.alloc (.cells (cM ⟨0,0,false,false⟩).toArray 92)):=(cl.refl _ w).alloc _;have H:hp (w.alloc (.cells (cM ⟨0,0,false,false⟩).toArray 92)) p=some (.cells (cM ⟨0,0,false,false⟩).toArray 92 (0,0)):=by rw[j];simp[go_sem]
 refine ck (v:=.pointer (some ⟨p,0,none⟩)) (w' :=w.alloc (.cells (cM ⟨0,0,false,false⟩).toArray 92)) (by rw[j];simp[go_sem,cM]) ?_;generalize w.alloc (.cells (cM ⟨0,0,false,false⟩).toArray 92)=G at E H|-;have md:=(cl.refl (λ_=>False) G).drew;have h1:=h.md0 (E.trans md);have o:=md.hpk H id;have I:=E.trans md;generalize G.drew=u1 at h1 o I|-;have i:r<p:=by omega
 have n:c<p:=by omega
 have k:∀b,eh v b->b<p:=λb V=>by have:=D b V;omega
 have d:∀{W L:World},cl (λb=>b=r) w W->cl (λy=>y=p) W L->cl (λb=>b=r) w L:=λa b=>a.on b λy hy=>.inr (by omega);refine cB (qF h1.var) (co (λW=>rg W c) (cB (nK h1.var) ?_));refine lN h1.at_ λw2 r2 u=>?_;have x:=h1.to r2 u;have b2:=u.hpk o (by omega);have M2:cl (λb=>b=r) w w2:=(I.mono λ_ _ h=>h.elim).trans u;refine⟨nK x.var,co (λW=>QG 0 (by omega) p W) ?_⟩;refine lq x.at_ λw3 R z=>?_;have h3:=x.to R z;have X:=z.hpk b2 (by omega);obtain⟨w4,e4,b4,O⟩:=(yZ X).1 (cz l fF s).1;refine dt e4 (co (λW=>QG 1 (by omega) p W) ?_);obtain⟨q,Q,S,N⟩:=(yZ b4).2.1 (di l (cz l fF s).2).1;refine dt Q ?_;have h5:=(h3.st i n k O).st i n k N;have Y:=d (d (M2.trans z) O) N;have e:=h5.md0 (cl.refl (λ_=>False) q).drew;have m:=((cl.refl (λ_=>False) q).drew).hpk S id;have f:=Y.on (cl.refl (λ_=>False) q).drew λ_ h=>h.elim;generalize q.drew=u5 at e m f|-;refine co (λW=>rg W c) (cB (nK e.var) (co (λW=>rg W c) (cB (nK e.var) ?_)));refine tH e.at_ λw6 r6 t=>?_;have F:=e.to r6 t;have U:=t.hpk m (by omega);refine⟨nK F.var,co (λW=>QG 2 (by omega) p W) ?_⟩;refine tH F.at_ λw7 r7 C=>?_;have h7:=F.to r7 C;have b7:=C.hpk U (by omega);obtain⟨w8,e8,b8,P⟩:=(yZ b7).2.2.1 (ey l (di l (cz l fF s).2).2).1;refine dt e8 (co (λW=>QG 3 (by omega) p W) ?_);obtain⟨w9,Z,M,J⟩:=(yZ b8).2.2.2 (ey l (ey l (di l (cz l fF s).2).2).2).1;refine dt Z (ck (tV (b:=⟨0,0,false,false⟩) M).1 ?_);obtain⟨w10,B,A,g⟩:=(tV (b:=(jY l s).1) M).2;refine dt B (cB (tV (b:=⟨0,0,false,false⟩) A).1 ?_);exact hK _ (((h7.st i n k P).st i n k J).st i n k g) (d (d (d ((f.trans t).trans C) P) J) g)
set_option maxRecDepth 10000 in
def Jl(h:pX w c r v l s)(hK:∀w',pX w' c r v l (kd l s).2->cl (λb=>b=r) w w' ->K (lK (kd l s).1) w'):Ca Tryz.prog 71 #[Nc c] w K:=by
 apply Ri;unfold Nc;obtain⟨hr0,T,D⟩:=h.lt;obtain⟨p,j⟩:∃p,p=w.heap.size:=⟨_,rfl⟩
 have E:cl (λ_=>False) w (w.alloc (.cells (cL ⟨0,0,0,0⟩).toArray 112)):=(cl.refl _ w).alloc _;have H:hp (w.alloc (.cells (cL ⟨0,0,0,0⟩).toArray 112)) p=some (.cells (cL ⟨0,0,0,0⟩).toArray 112 (0,0)):=by rw[j];simp[go_sem]
 refine ck (v:=.pointer (some ⟨p,0,none⟩)) (w' :=w.alloc (.cells (cL ⟨0,0,0,0⟩).toArray 112)) (by rw[j];simp[go_sem,cL]) ?_;generalize w.alloc (.cells (cL ⟨0,0,0,0⟩).toArray 112)=G at E H|-;have md:=(cl.refl (λ_=>False) G).drew;have h1:=h.md0 (E.trans md);have o:=md.hpk H id;have I:=E.trans md;generalize G.drew=u1 at h1 o I|-;have i:r<p:=by omega
 have n:c<p:=by omega
 have k:∀b,eh v b->b<p:=λb V=>by have:=D b V;omega
 have d:∀{W L:World},cl (λb=>b=r) w W->cl (λy=>y=p) W L->cl (λb=>b=r) w L:=λa b=>a.on b λy hy=>.inr (by omega);refine cB (qF h1.var) (cB (qF h1.var) ?_);refine lN h1.at_ λw2 r2 u=>?_;have x:=h1.to r2 u;have b2:=u.hpk o (by omega);have M2:cl (λb=>b=r) w w2:=(I.mono λ_ _ h=>h.elim).trans u;refine⟨qF x.var,co (λW=>QI 0 (by omega) p W) ?_⟩;refine lN x.at_ λw3 R z=>?_;have h3:=x.to R z;have X:=z.hpk b2 (by omega);obtain⟨w4,e4,b4,O⟩:=(y8 X).1 (cz l fF s).1;refine dt e4 (co (λW=>QI 1 (by omega) p W) ?_);obtain⟨q,Q,S,N⟩:=(y8 b4).2.1 (cz l fF (cz l fF s).2).1;refine dt Q ?_;have h5:=(h3.st i n k O).st i n k N;have Y:=d (d (M2.trans z) O) N;have e:=h5.md0 (cl.refl (λ_=>False) q).drew;have m:=((cl.refl (λ_=>False) q).drew).hpk S id;have f:=Y.on (cl.refl (λ_=>False) q).drew λ_ h=>h.elim;generalize q.drew=u5 at e m f|-;refine co (λW=>rg W c) (cB (nK e.var) (co (λW=>rg W c) (cB (nK e.var) ?_)));refine lq e.at_ λw6 r6 t=>?_;have F:=e.to r6 t;have U:=t.hpk m (by omega);refine⟨nK F.var,co (λW=>QI 2 (by omega) p W) ?_⟩;refine lq F.at_ λw7 r7 C=>?_;have h7:=F.to r7 C;have b7:=C.hpk U (by omega);obtain⟨w8,e8,b8,P⟩:=(y8 b7).2.2.1 (di l (cz l fF (cz l fF s).2).2).1;refine dt e8 (co (λW=>QI 3 (by omega) p W) ?_);obtain⟨w9,Z,M,J⟩:=(y8 b8).2.2.2 (di l (di l (cz l fF (cz l fF s).2).2).2).1;refine dt Z (ck (rP (b:=⟨0,0,0,0⟩) M).1 ?_);obtain⟨w10,B,A,g⟩:=(rP (b:=(kd l s).1) M).2;refine dt B (cB (rP (b:=⟨0,0,0,0⟩) A).1 ?_);exact hK _ (((h7.st i n k P).st i n k J).st i n k g) (d (d (d ((f.trans t).trans C) P) J) g)
def Ql:lh Tryz.prog ip=true:=by kernel_rfl
abbrev sY(W:World)(p:Nat)(k:Ct):Prop:=hp W p=some (.cells (dU k).toArray ip (0,0))
def oq(k:Ct):(dU k).length=26+1:=cX k
def HK:Tryz.prog.cellsOf ip=26+1:=by kernel_rfl
def JC:iD Tryz.prog ip=true:=by kernel_rfl
def qx(k:Ct):(dU k).all (·.oneCell')=true:=by
 unfold dU;rw[List.all_append,ko];rfl
def RO(k:Ct):(dU k)[25]? =some (.int .u8 k.st)/\(dU k)[26]? =some (.int .i64 k.price):=by
 unfold dU;constructor<;>(rw[List.getElem?_append_right (by rw[cJ];omega),cJ];rfl)
def Tk(k:Ct)(x:Int):(dU k).set 25 (.int .u8 x)=dU {k with st:=x}/\(dU k).set 26 (.int .i64 x)=dU {k with price:=x}:=by
 unfold dU;constructor<;>(rw[List.set_append_right _ _ (by rw[cJ];omega),cJ];rfl)
def JL{W:World}{p:Nat}{k:Ct}(h:sY W p k):
  (∀x,∃a,(Instr.storeAt 106 (.pointer (some ⟨p,25,none⟩)) (.int .u8 x)).run Tryz.prog W=.ok () a/\sY a p {k with st:=x}/\cl (λy=>y=p) W a)/\
  (∀x,∃a,(Instr.storeAt 2 (.pointer (some ⟨p,26,none⟩)) (.int .i64 x)).run Tryz.prog W=.ok () a/\sY a p {k with price:=x}/\cl (λy=>y=p) W a):=by
 have b:hp W p=some (.cells (dU k).toArray ip (0,0)):=h;obtain⟨e,d⟩:=RO k;refine⟨λx=>⟨W.setCell ⟨p,25,none⟩ (.int .u8 x),by simp[go_sem,b,e],?_,(cl.refl (λy=>y=p) W).setCell (.inl rfl) _ _⟩,λx=>⟨W.setCell ⟨p,26,none⟩ (.int .i64 x),by simp[go_sem,b,d],?_,(cl.refl (λy=>y=p) W).setCell (.inl rfl) _ _⟩⟩
 ·show hp _ _=_;rw[<-(Tk k x).1];simp[go_sem,b]
 ·show hp _ _=_;rw[<-(Tk k x).2];simp[go_sem,b]
def S6{W:World}{p:Nat}{k:Ct}{s:Sp}{K:World->Prop}(h:sY W p k)(d:∀a,sY a p {k with spec:=s}->cl (λy=>y=p) W a->K a):fV Tryz.prog (ej eS (.pointer (some ⟨p,0,none⟩)) (.agg (dl s).toArray)) W K:=by
 have b:W.heap[p]? =some (.cells (dU k).toArray ip (0,0)):=h;refine iu ry (cJ s) b (by rw[List.size_toArray,cJ,cX];omega) (ko _) (d _ ?_ ((cl.refl (λy=>y=p) W).setRow (.inl rfl) _));show(W.setRow p _).heap[p]? =_;rw[dw,if_pos rfl,b]
 have:iJ (dU k).toArray.toList 0 (dl s)=dU {k with spec:=s}:=by
  unfold iJ dU;simp only[List.take_zero,List.nil_append,Nat.zero_add,cJ];rw[List.drop_append_of_le_length (by rw[cJ];exact Nat.le_refl _),List.drop_of_length_le (by rw[cJ];exact Nat.le_refl _)];rfl
 rw[this]
def NB{W:World}{p:Nat}{k k' :Ct}{K:World->Prop}(h:sY W p k)(d:∀a,sY a p k' ->cl (λy=>y=p) W a->K a):fV Tryz.prog (ej ip (.pointer (some ⟨p,0,none⟩)) (.agg (dU k').toArray)) W K:=by
 have b:W.heap[p]? =some (.cells (dU k).toArray ip (0,0)):=h;refine iu HK (oq k') b (by rw[List.size_toArray,cX,cX];omega) (qx _) (d _ ?_ ((cl.refl (λy=>y=p) W).setRow (.inl rfl) _));show(W.setRow p _).heap[p]? =_;rw[dw,if_pos rfl,b,iZ (by rw[cX];simp[cX])]
attribute [local irreducible] cz di ey ir
set_option maxRecDepth 10000 in
def Jv(h:pX w c r v l s)(hK:∀w',pX w' c r v l (gU l s).2->cl (λb=>b=r) w w' ->K (.agg (dU (gU l s).1).toArray) w'):Ca Tryz.prog 67 #[Nc c] w K:=by
 apply SC;unfold Nc;obtain⟨hr0,T,A⟩:=h.lt;refine jI Ql ?_;rw[xh];obtain⟨p,f⟩:∃p,p=w.heap.size:=⟨_,rfl⟩
 have B:cl (λ_=>False) w (w.alloc (.cells (dU mI).toArray ip)):=(cl.refl _ w).alloc _;have E:sY (w.alloc (.cells (dU mI).toArray ip)) p mI:=by show hp _ _=_;rw[f];simp[go_sem]
 rw[<-f];generalize w.alloc (.cells (dU mI).toArray ip)=P at B E|-;have h1:=h.md0 B;have g:r<p:=by omega
 have k:c<p:=by omega
 have j:∀b,eh v b->b<p:=λb X=>by have:=A b X;omega
 have d:∀{W I:World},cl (λb=>b=r) w W->cl (λy=>y=p) W I->cl (λb=>b=r) w I:=λa b=>a.on b λy hy=>.inr (by omega);have Z:cl (λb=>b=r) w P:=B.mono λ_ _ h=>h.elim;refine ck (rg _ _) (ck (nK h1.var) ?_);refine I4 h1.at_ λN r2 o=>?_;have S:=h1.to r2 o;have b2:sY N p mI:=o.hpk E (by omega);refine ck (v:=.pointer (some ⟨p,0,none⟩)) (w' :=N) (by simp[go_sem]) ?_;refine S6 b2 λw3 Y F=>?_;have C:=S.st g k j F;refine ck (rg _ _) (ck (nK C.var) ?_);refine fJ C.at_ (most:=255) (by omega) λm H D=>?_;have hn:=se l (ir l s).2;obtain⟨x,i⟩:∃x,x=cz l 255 (ir l s).2:=⟨_,rfl⟩
 have e:(((cw l 255 (ir l s).2).1:Nat):Int)=x.1/\(cw l 255 (ir l s).2).2=x.2:=by rw[i];exact tJ _ _ _
 rw[e.1];rw[e.2]at H;rw[<-i]at hn;have h4:=C.to H D;have b4:sY m p _:=D.hpk Y (by omega);refine ck (v:=.int .u8 x.1) (w' :=m) (by simp[go_sem];rw[IntKind.wrap_u8'];omega) ?_;refine ck (v:=.pointer (some ⟨p,25,none⟩)) (w' :=m) (by simp[go_sem]) ?_;obtain⟨w5,Q,R,L⟩:=(JL b4).1 x.1;refine dt Q ?_;have u:=h4.st g k j L;refine ck (rg _ _) (ck (nK u.var) ?_);refine lq u.at_ λG r6 n=>?_;have M:=u.to r6 n;have U:sY G p _:=n.hpk R (by omega);refine ck (v:=.pointer (some ⟨p,26,none⟩)) (w' :=G) (by simp[go_sem]) ?_;obtain⟨w7,V,z,J⟩:=(JL U).2 (di l x.2).1;refine dt V ?_;have t:({({({mI with spec:=(ir l s).1}:Ct)with st:=x.1}:Ct)with price:=(di l x.2).1}:Ct)=(gU l s).1:=by rw[i];rfl
 rw[t]at z;refine eK (dU (gU l s).1) 26 JC HK (oq _) (At.all z) ?_;refine NB (k' :=(gU l s).1) z λw8 b8 O=>?_;refine eX (dU (gU l s).1) 26 JC HK (oq _) (At.all b8) ?_;have q:(di l x.2).2=(gU l s).2:=by rw[i];rfl
 rw[q]at M;exact hK _ ((M.st g k j J).st g k j O) (d (d ((d ((d (Z.trans o) F).trans D) L).trans n) J) O)
abbrev xu:TypeId:=119
def tg(x:Int×Od):Value:=.agg #[.int .u32 x.1,.int .u64 x.2.num,.int .u32 x.2.acct,.bool x.2.buy,.int .i64 x.2.price,.int .i64 x.2.left]
abbrev jm(W:World)(p:Nat)(x:Int×Od):Prop:=hp W p=some (.cells #[.int .u32 x.1,.int .u64 x.2.num,.int .u32 x.2.acct,.bool x.2.buy,.int .i64 x.2.price,.int .i64 x.2.left] xu (0,0))
set_option maxRecDepth 10000 in
def tf{W:World}{p:Nat}{a:Int×Od}(h:jm W p a):
  (∀x,∃b,(Instr.storeAt 35 (.pointer (some ⟨p,0,none⟩)) (.int .u32 x)).run Tryz.prog W=.ok () b/\jm b p (x,a.2)/\cl (λy=>y=p) W b)/\
  (∀x,∃b,(Instr.storeAt 27 (.pointer (some ⟨p,1,none⟩)) (.int .u64 x)).run Tryz.prog W=.ok () b/\jm b p (a.1,{a.2 with num:=x})/\cl (λy=>y=p) W b)/\
  (∀x,∃b,(Instr.storeAt 35 (.pointer (some ⟨p,2,none⟩)) (.int .u32 x)).run Tryz.prog W=.ok () b/\jm b p (a.1,{a.2 with acct:=x})/\cl (λy=>y=p) W b)/\
  (∀x,∃b,(Instr.storeAt 4 (.pointer (some ⟨p,3,none⟩)) (.bool x)).run Tryz.prog W=.ok () b/\jm b p (a.1,{a.2 with buy:=x})/\cl (λy=>y=p) W b)/\
  (∀x,∃b,(Instr.storeAt 2 (.pointer (some ⟨p,4,none⟩)) (.int .i64 x)).run Tryz.prog W=.ok () b/\jm b p (a.1,{a.2 with price:=x})/\cl (λy=>y=p) W b)/\
  (∀x,∃b,(Instr.storeAt 2 (.pointer (some ⟨p,5,none⟩)) (.int .i64 x)).run Tryz.prog W=.ok () b/\jm b p (a.1,{a.2 with left:=x})/\cl (λy=>y=p) W b):=by
 have d:hp W p=some (.cells #[.int .u32 a.1,.int .u64 a.2.num,.int .u32 a.2.acct,.bool a.2.buy,.int .i64 a.2.price,.int .i64 a.2.left] xu (0,0)):=h;refine⟨λx=>⟨W.setCell ⟨p,0,none⟩ (.int .u32 x),?_,?_,?_⟩,λx=>⟨W.setCell ⟨p,1,none⟩ (.int .u64 x),?_,?_,?_⟩,λx=>⟨W.setCell ⟨p,2,none⟩ (.int .u32 x),?_,?_,?_⟩,λx=>⟨W.setCell ⟨p,3,none⟩ (.bool x),?_,?_,?_⟩,λx=>⟨W.setCell ⟨p,4,none⟩ (.int .i64 x),?_,?_,?_⟩,λx=>⟨W.setCell ⟨p,5,none⟩ (.int .i64 x),?_,?_,?_⟩⟩
 all_goals first|exact(cl.refl (λy=>y=p) W).setCell (.inl rfl) _ _|(show hp _ _=_;simp[go_sem,d])|simp[go_sem,d]
def Fi{W:World}{p:Nat}{a:Int×Od}(h:jm W p a):(Instr.loadAt xu (.pointer (some ⟨p,0,none⟩))).run Tryz.prog W=.ok (tg a) W:=by
 have b:hp W p=some (.cells #[.int .u32 a.1,.int .u64 a.2.num,.int .u32 a.2.acct,.bool a.2.buy,.int .i64 a.2.price,.int .i64 a.2.left] xu (0,0)):=h;simp[go_sem,b,tg]
set_option maxRecDepth 10000 in
def MB{W:World}{p:Nat}{a b:Int×Od}(h:jm W p a):∃d,(Instr.storeAt xu (.pointer (some ⟨p,0,none⟩)) (tg b)).run Tryz.prog W=.ok () d/\jm d p b/\cl (λy=>y=p) W d:=by
 have e:hp W p=some (.cells #[.int .u32 a.1,.int .u64 a.2.num,.int .u32 a.2.acct,.bool a.2.buy,.int .i64 a.2.price,.int .i64 a.2.left] xu (0,0)):=h;exact⟨(((((W.setCell ⟨p,0,none⟩ (.int .u32 b.1)).setCell ⟨p,1,none⟩ (.int .u64 b.2.num)).setCell ⟨p,2,none⟩ (.int .u32 b.2.acct)).setCell ⟨p,3,none⟩ (.bool b.2.buy)).setCell ⟨p,4,none⟩ (.int .i64 b.2.price)).setCell ⟨p,5,none⟩ (.int .i64 b.2.left),by simp[go_sem,e,tg],by show hp _ _=_;simp[go_sem,e],((((((cl.refl (λy=>y=p) W).setCell (.inl rfl) _ _).setCell (.inl rfl) _ _).setCell (.inl rfl) _ _).setCell (.inl rfl) _ _).setCell (.inl rfl) _ _).setCell (.inl rfl) _ _⟩
def wP(w:World):∃a,(Instr.alloc xu true (.tuple #[])).run Tryz.prog w=.ok (.pointer (some ⟨w.heap.size,0,none⟩)) a/\jm a w.heap.size (0,fH)/\cl (λ_=>False) w a:=
 ⟨w.alloc (.cells #[.int .u32 0,.int .u64 0,.int .u32 0,.bool false,.int .i64 0,.int .i64 0] xu),by simp[go_sem],by show hp _ _=_;simp[go_sem,fH],(cl.refl _ w).alloc _⟩
def DX(i:Nat)(hi:i<2)(p:Nat)(W:World):(Instr.fieldAt xu (.pointer (some ⟨p,0,none⟩)) i).run Tryz.prog W=.ok (.pointer (some ⟨p,i,none⟩)) W:=by
 have:i=0\/i=1:=by omega
 rcases this with rfl|rfl<;>simp[go_sem]
def vg(i:Nat)(hi:i<5)(p:Nat)(W:World):(Instr.fieldAt 117 (.pointer (some ⟨p,1,none⟩)) i).run Tryz.prog W=.ok (.pointer (some ⟨p,1+i,none⟩)) W:=by
 have:i=0\/i=1\/i=2\/i=3\/i=4:=by omega
 rcases this with rfl|rfl|rfl|rfl|rfl<;>simp[go_sem,cE]
set_option maxRecDepth 10000 in
def J0(Y:dD w r v l s)(hK:∀w',dD w' r v l (fe l s).2->cl (λb=>b=r) w w' ->K (tg (fe l s).1) w'):Ca Tryz.prog 73 #[De r] w K:=by
 apply RQ;obtain⟨X,e1,E,m1⟩:=wl r w;have hr0:=Y.lt;have hv0:∀b,eh v b->b<w.heap.size:=λb B=>Y.rd.lt B;obtain⟨c,N⟩:∃c,c=w.heap.size:=⟨_,rfl⟩
 rw[<-N]at e1 E;have h1:pX X c r v l s:=⟨Y.mod m1 id λ_ _ h=>h,E,by omega⟩
 refine ck e1 ?_;obtain⟨w2,e2,b2,m2⟩:=wP X;obtain⟨p,hp0⟩:∃p,p=X.heap.size:=⟨_,rfl⟩
 rw[<-hp0]at e2 b2;refine ck e2 ?_;have M:=h1.md0 m2;have hc1:=cn E;have o:r<p:=by omega
 have k:c<p:=by omega
 have hwp:w.heap.size<=p:=by omega
 have m:∀b,eh v b->b<p:=λb B=>by have:=hv0 b B;omega
 have d:∀{W W' :World},cl (λb=>b=r) w W->cl (λy=>y=p) W W' ->cl (λb=>b=r) w W' :=λa b=>a.on b λy hy=>.inr (by omega);have M2:cl (λb=>b=r) w w2:=(m1.trans m2).mono λ_ _ h=>h.elim;refine ck (qF M.var) ?_;refine lN M.at_ λw3 r3 O=>?_;have h3:=M.to r3 O;have b3:jm w3 p _:=O.hpk b2 (by omega);refine ck (DX 0 (by omega) p _) ?_;obtain⟨w4,e4,b4,m4⟩:=(tf b3).1 (cz l fF s).1;refine dt e4 ?_;have T:=h3.st o k m m4;have M4:=d (M2.trans O) m4;refine ck (rg _ _) (ck (nK T.var) ?_);refine xV T.at_ λw5 r5 G=>?_;have h5:=T.to r5 G;have b5:jm w5 p _:=G.hpk b4 (by omega);refine ck (DX 1 (by omega) p _) (ck (vg 0 (by omega) p _) ?_);obtain⟨w6,e6,b6,m6⟩:=(tf b5).2.1 (cz l qa (cz l fF s).2).1;refine dt e6 ?_;have h6:=h5.st o k m m6;have M6:=d (M4.trans G) m6;refine ck (qF h6.var) ?_;refine lN h6.at_ λw7 r7 F=>?_;have h7:=h6.to r7 F;have b7:jm w7 p _:=F.hpk b6 (by omega);refine ck (DX 1 (by omega) p _) (ck (vg 1 (by omega) p _) ?_);obtain⟨w8,e8,b8,m8⟩:=(tf b7).2.2.1 (cz l fF (cz l qa (cz l fF s).2).2).1;refine dt e8 ?_;have V:=h7.st o k m m8;have M8:=d (M6.trans F) m8;refine ck (rg _ _) (ck (nK V.var) ?_);refine tH V.at_ λw9 r9 Z=>?_;have h9:=V.to r9 Z;have b9:jm w9 p _:=Z.hpk b8 (by omega);refine ck (DX 1 (by omega) p _) (ck (vg 2 (by omega) p _) ?_);obtain⟨f,U,Q,A⟩:=(tf b9).2.2.2.1 (ey l (cz l fF (cz l qa (cz l fF s).2).2).2).1;refine dt U ?_;have e:=(h9.st o k m A).md0 (cl.refl (λ_=>False) f).drew;have g:jm f.drew p _:=((cl.refl (λ_=>False) f).drew).hpk Q id;have z:=(d (M8.trans Z) A).on (cl.refl (λ_=>False) f).drew λ_ h=>h.elim;generalize f.drew=u10 at e g z|-;refine co (λW=>rg W c) (cB (nK e.var) (co (λW=>rg W c) (cB (nK e.var) ?_)));refine lq e.at_ λL I j=>?_;have n:=e.to I j;have H:jm L p _:=j.hpk g (by omega);refine⟨nK n.var,co (λW=>DX 1 (by omega) p W) (co (λW=>vg 3 (by omega) p W) ?_)⟩;refine lq n.at_ λw12 r12 i=>?_;have S:=n.to r12 i;have b12:jm w12 p _:=i.hpk H (by omega);obtain⟨w13,D,R,u⟩:=(tf b12).2.2.2.2.1 (di l (ey l (cz l fF (cz l qa (cz l fF s).2).2).2).2).1;refine dt D (co (λW=>DX 1 (by omega) p W) (co (λW=>vg 4 (by omega) p W) ?_));obtain⟨w14,P,x,t⟩:=(tf R).2.2.2.2.2 (di l (di l (ey l (cz l fF (cz l qa (cz l fF s).2).2).2).2).2).1;refine dt P (ck (Fi x) ?_);obtain⟨w15,C,J,q⟩:=MB (b:=(fe l s).1) x;refine dt C (cB (Fi J) ?_);exact hK _ (((S.st o k m u).st o k m t).st o k m q).at_ (d (d (d ((z.trans j).trans i) u) t) q)
end
end Go.Proofs
set_option maxRecDepth 100000
namespace Go.Proofs
open Go Go.Vc
def KV(a b:Value)(c:cm)(d:T2)(e:World)(f:T2->Wp):=NV->cF a λg=>cI 168 g 1 45 e λh i=>gn 45 false h i λj k=>gb .lss 3 false d.2.1 j k λl m=>cC l (cF a λn=>cI 168 n 1 45 m λo p=>gi 45 o d.2.1 p λq r=>gf 108 q 0 r λs t=>cI 38 s 0 35 t λu v=>gb .eql 35 false u b v λw x=>cC w (c d.2.1 x) (gb .add 3 true d.2.1 (gI 1) x λy z=>f (d.1,y,()) z)) (c (gI (-1)) m)
def Ss{a b:Value}{c:World}{d:cm}(h:cO (S:=T2) (KV a b d) ((gI 0),(gI 0),()) c):Ca Tryz.prog 86 #[a,b] c d:=cj Tryz.func86 h
def J83_0(a:cm)(b:T3)(c:T3->Wp)(d:T1)(e:World):=NV->cC d.1 (a (.tuple #[(.pointer none),(gI 2)]) e) (gb .add 3 true b.2.2.1 (gI 1) e λf g=>c (b.1,b.2.1,f,()) g)
def Le(a:Value)(b:cm)(c:Value)(d:T3)(e:World)(f:T3->Wp):=NV->gn 45 false a e λg h=>gb .lss 3 false d.2.2.1 g h λi j=>cC i (gi 45 a d.2.2.1 j λk l=>gx (dm 108 k) l λm n=>gx (ic 108) n λo p=>fV Tryz.prog (ej 108 o m) p λq=>cy (S:=T1) (λr=>gX .gtr 3 true d.2.2.1 (gI 0) λs=>cC s (gX .sub 3 true d.2.2.1 (gI 1) λt=>ng 45 a t λu=>dP 108 u 0 λv=>en 38 v 0 35 q.drew λw=>dP 108 o 0 λx=>en 38 x 0 35 q.drew λy=>gX .geq 35 false w y λz=>cC z (r ((.bool true),()) q.drew) (dP 108 o 0 λA=>iw Tryz.prog (dm 38 A) q.drew λB=>Ca Tryz.prog 152 #[B] q.drew λC D=>gp (Op.unary .not C) λE=>cC E (r ((.bool true),()) D) (en 108 o 1 106 D λF=>gX .lss 106 true F (.int .u8 1) λG=>cC G (r ((.bool true),()) D) (en 108 o 1 106 D λH=>gX .gtr 106 true H (.int .u8 3) λI=>cC I (r ((.bool true),()) D) (dP 108 o 0 λJ=>iw Tryz.prog (dm 38 J) D λK=>en 108 o 2 2 D λL=>Ca Tryz.prog 165 #[K,L] D λM N=>gp (Op.unary .not M) λO=>r (O,()) N))))) (dP 108 o 0 λP=>iw Tryz.prog (dm 38 P) q.drew λQ=>Ca Tryz.prog 152 #[Q] q.drew λR S=>gp (Op.unary .not R) λT=>cC T (r ((.bool true),()) S) (en 108 o 1 106 S λU=>gX .lss 106 true U (.int .u8 1) λV=>cC V (r ((.bool true),()) S) (en 108 o 1 106 S λW=>gX .gtr 106 true W (.int .u8 3) λX=>cC X (r ((.bool true),()) S) (dP 108 o 0 λY=>iw Tryz.prog (dm 38 Y) S λZ=>en 108 o 2 2 S λaa=>Ca Tryz.prog 165 #[Z,aa] S λab ac=>gp (Op.unary .not ab) λad=>r (ad,()) ac))))) (J83_0 b d f)) (gx (dQ 45 0 []) j λae af=>gx (cx #[45,45] 45 [ae,a]) af λag ah=>gr (Instr.build 168 #[(0,c),(1,ag)]) ah λai aj=>gq 168 ai aj λak al=>b (.tuple #[ak,(gI 0)]) al)
def RB{a b:Value}{c:World}{d:cm}(i:gn 45 false b c λe f=>gb .gtr 3 true e (gI 16) f λg h=>cC g (d (.tuple #[(.pointer none),(gI 2)]) h) (cO (S:=T3) (Le b d a) ((.pointer none),(gI 0),(gI 0),()) h)):Ca Tryz.prog 83 #[a,b] c d:=cj Tryz.func83 i
def OB{a:Value}{b:World}{c:cm}(B:gq 117 a b λd e=>cI 117 d 0 27 e λf g=>gb .gtr 27 true f (.int .u64 0) g λh i=>cC h (cI 117 d 1 35 i λj k=>gb .gtr 35 true j (.int .u32 0) k λl m=>cC l (cI 117 d 3 2 m λn o=>gb .gtr 2 true n (gI 0) o λp q=>cC p (cI 117 d 3 2 q λr s=>gb .leq 2 true r (gI 10000000) s λt u=>cC t (cI 117 d 4 2 u λv w=>gb .gtr 2 true v (gI 0) w λx y=>cC x (cI 117 d 4 2 y λz A=>gb .leq 2 true z (gI 1000000) A c) (c (.bool false) y)) (c (.bool false) u)) (c (.bool false) q)) (c (.bool false) m)) (c (.bool false) i)):Ca Tryz.prog 171 #[a] b c:=cj Tryz.func171 B
def NH{a b c:Value}{d:World}{e:cm}(l:cC a (gb .gtr 2 false b c d λf g=>cC f (e (.bool true) g) (gt a g λh i=>cC h (gb .lss 2 false b c i e) (e (.bool false) i))) (gt a d λj k=>cC j (gb .lss 2 false b c k e) (e (.bool false) k))):Ca Tryz.prog 241 #[a,b,c] d e:=cj Tryz.func241 l
def HJ(a:T1->Wp)(b:T2)(c:T1)(d:World):=NV->cC c.1 (a (b.2.1,()) d) (a (b.1,()) d)
def ET(a b:Value)(c:cm)(d:T2)(e:World)(f:T2->Wp):=NV->gn 133 false a e λg h=>gb .lss 3 false d.2.1 g h λi j=>cC i (cy (S:=T1) (λk=>cy (S:=T1) (λl=>gX .lss 3 true d.1 (gI 0) λm=>cC m (l ((.bool true),()) j.drew) (ng 133 a d.2.1 λn=>en 117 n 3 2 j.drew λo=>ng 133 a d.1 λp=>en 117 p 3 2 j.drew λq=>Ca Tryz.prog 241 #[b,o,q] j.drew λr s=>l (r,()) s)) (HJ k d)) (xn d f)) (c d.1 j)
def P3{a b:Value}{c:World}{d:cm}(h:cO (S:=T2) (ET b a d) ((gI (-1)),(gI 0),()) c):Ca Tryz.prog 174 #[a,b] c d:=cj Tryz.func174 h
def Px{a b:Value}{c:World}{d:cm}(o:gx (dQ 133 0 []) c λe f=>gr (Instr.sliceAt 133 a none (some b) none) f λg h=>gx (cx #[133,133] 133 [e,g]) h λi j=>gb .add 3 true b (gI 1) j λk l=>gr (Instr.sliceAt 133 a (some k) none none) l λm n=>gx (cx #[133,133] 133 [i,m]) n d):Ca Tryz.prog 287 #[a,b] c d:=cj Tryz.func287 o
def Gk(a b:Value)(c:cm)(d:T2)(e:World)(f:T2->Wp):=NV->cF a λg=>cI 272 g 1 133 e λh i=>gn 133 false h i λj k=>gb .lss 3 false d.2.1 j k λl m=>cC l (cF a λn=>cI 272 n 1 133 m λo p=>gi 133 o d.2.1 p λq r=>cI 117 q 0 27 r λs t=>gb .eql 27 false s b t λu v=>cC u (c d.2.1 v) (gb .add 3 true d.2.1 (gI 1) v λw x=>f (d.1,w,()) x)) (c (gI (-1)) m)
def PS{a b:Value}{c:World}{d:cm}(h:cO (S:=T2) (Gk a b d) ((gI 0),(gI 0),()) c):Ca Tryz.prog 173 #[a,b] c d:=cj Tryz.func173 h
def Kw(a:cm)(b c:Value)(d:T1)(e:World):=NV->cC d.1 (a (gI 2) e) (cI 117 b 0 27 e λf g=>Ca Tryz.prog 173 #[c,f] g λh i=>gb .geq 3 true h (gI 0) i λj k=>cC j (a (gI 8) k) (cF c λl=>cI 272 l 1 133 k λm n=>gn 133 false m n λo p=>gb .geq 3 true o (gI 100) p λq r=>cC q (a (gI 9) r) (cF c λs=>dP 272 s 1 λt=>df 133 t r.drew λu=>df 117 b r.drew λv=>(gx (dQ 133 0 []) r.drew λw x=>gk 117 b v x/\gk 133 t u x/\((gx (cx #[133,133] 133 [w,u]) x λy z=>gk 117 b v z/\(gx (dQ 133 1 [(0,v)]) z λA B=>gx (cx #[133,133] 133 [y,A]) B λC D=>cF c λE=>dP 272 E 1 λF=>gs 133 F C D λG=>a (gI 0) G))/\(gx (dQ 133 1 [(0,v)]) x λH I=>gk 133 t u I/\(gx (cx #[133,133] 133 [w,u]) I λJ K=>gx (cx #[133,133] 133 [J,H]) K λL M=>cF c λN=>dP 272 N 1 λO=>gs 133 O L M λP=>a (gI 0) P))))/\(gx (dQ 133 1 [(0,v)]) r.drew λQ R=>gk 133 t u R/\(gx (dQ 133 0 []) R λS T=>gk 133 t u T/\(gx (cx #[133,133] 133 [S,u]) T λU V=>gx (cx #[133,133] 133 [U,Q]) V λW X=>cF c λY=>dP 272 Y 1 λZ=>gs 133 Z W X λaa=>a (gI 0) aa))))))
def Q7{a b:Value}{c:World}{d:cm}(p:gq 117 b c λe f=>cy (S:=T1) (λg=>df 117 e f.drew λh=>Ca Tryz.prog 171 #[h] f.drew λi j=>gp (Op.unary .not i) λk=>cC k (g ((.bool true),()) j) (en 117 e 2 4 j λl=>cF a λm=>en 272 m 0 4 j λn=>gX .neq 4 false l n λo=>g (o,()) j)) (Kw d e a)):Ca Tryz.prog 88 #[a,b] c d:=cj Tryz.func88 p
def Rx{a:Value}{b:World}{c:cm}(y:ga 117 b λd e=>cF a λf=>en 272 f 0 4 e.drew λg=>cF a λh=>en 272 h 1 133 e.drew λi=>Ca Tryz.prog 174 #[g,i] e.drew λj k=>gb .lss 3 true j (gI 0) k λl m=>cC l (gr (Instr.build 117 #[]) m λn o=>gs 117 d n o λp=>df 117 d p λq=>c (.tuple #[q,(.bool false)]) p) (cF a λr=>cI 272 r 1 133 m λs t=>kv 133 s j 117 t λu v=>gs 117 d u v λw=>df 117 d w λx=>c (.tuple #[x,(.bool true)]) w)):Ca Tryz.prog 89 #[a] b c:=cj Tryz.func89 y
def HD(a:Value)(b:cm)(c:T2)(d:World)(e:T2->Wp):=NV->gn 133 false c.2.1 d λf g=>gb .gtr 3 true f (gI 0) g λh i=>cC h (cF a λj=>cI 272 j 0 4 i λk l=>Ca Tryz.prog 174 #[k,c.2.1] l λm n=>kv 133 c.2.1 m 117 n λo p=>gx (dQ 133 1 [(0,o)]) p λq r=>gx (cx #[133,133] 133 [c.1,q]) r λs t=>Ca Tryz.prog 287 #[c.2.1,m] t λu v=>e (s,u,()) v) (b c.1 i)
def Qp{a:Value}{b:World}{c:cm}(h:cF a λd=>cI 272 d 1 133 b λe f=>cO (S:=T2) (HD a c) ((.slice none 0 0),e,()) f):Ca Tryz.prog 242 #[a] b c:=cj Tryz.func242 h
def RF{a:World}{b:cm}(m:gr (Instr.build 272 #[(0,(.bool true))]) a λc d=>gq 272 c d λe f=>gr (Instr.build 272 #[]) f λg h=>gq 272 g h λi j=>gr (Instr.build 175 #[(0,e),(1,i)]) j λk l=>gq 175 k l b):Ca Tryz.prog 85 #[] a b:=cj Tryz.func85 m
def Qg{a:Value}{b:World}{c:cm}(r:gx (dQ 133 0 []) b λd e=>cF a λf=>cI 175 f 0 173 e λg h=>Ca Tryz.prog 242 #[g] h λi j=>gx (cx #[133,133] 133 [d,i]) j λk l=>cF a λm=>cI 175 m 1 173 l λn o=>Ca Tryz.prog 242 #[n] o λp q=>gx (cx #[133,133] 133 [k,p]) q c):Ca Tryz.prog 175 #[a] b c:=cj Tryz.func175 r
def Nn{a b c:Value}{d:World}{e:cm}(h:gb .geq 2 false a b d λf g=>cC f (gb .leq 2 false a c g e) (e (.bool false) g)):Ca Tryz.prog 166 #[a,b,c] d e:=cj Tryz.func166 h
def Fo(a b:Value)(c:cm)(d:T2)(e:World)(f:T2->Wp):=NV->cF a λg=>cI 269 g 1 44 e λh i=>gn 44 false h i λj k=>gb .lss 3 false d.2.1 j k λl m=>cC l (cF a λn=>cI 269 n 1 44 m λo p=>gi 44 o d.2.1 p λq r=>cI 92 q 0 35 r λs t=>gb .eql 35 false s b t λu v=>cC u (c d.2.1 v) (gb .add 3 true d.2.1 (gI 1) v λw x=>f (d.1,w,()) x)) (c (gI (-1)) m)
def Ob{a b:Value}{c:World}{d:cm}(h:cO (S:=T2) (Fo a b d) ((gI 0),(gI 0),()) c):Ca Tryz.prog 168 #[a,b] c d:=cj Tryz.func168 h
def EQ(a:Value)(b:cm)(c:T2)(d:World)(e:T2->Wp):=NV->cF a λf=>cI 269 f 1 44 d λg h=>gn 44 false g h λi j=>gb .lss 3 false c.2.1 i j λk l=>cC k (cF a λm=>cI 269 m 1 44 l λn o=>gi 44 n c.2.1 o λp q=>cI 92 p 1 2 q λr s=>gb .add 2 false c.1 r s λt u=>gb .add 3 true c.2.1 (gI 1) u λv w=>e (t,v,()) w) (b c.1 l)
def Pp{a:Value}{b:World}{c:cm}(h:cF a λd=>cI 269 d 0 2 b λe f=>cO (S:=T2) (EQ a c) (e,(gI 0),()) f):Ca Tryz.prog 167 #[a] b c:=cj Tryz.func167 h
def NG{a b:Value}{c:World}{d:cm}(E:ga 92 c λe f=>gb .eql 35 true b (.int .u32 0) f λg h=>cC g (cF a λi=>cI 269 i 0 2 h λj k=>gr (Instr.build 92 #[(1,j)]) k λl m=>gs 92 e l m λn=>df 92 e n λo=>d (.tuple #[o,(gI 0)]) n) (Ca Tryz.prog 168 #[a,b] h λp q=>gb .lss 3 true p (gI 0) q λr s=>cC r (gr (Instr.build 92 #[]) s λt u=>gs 92 e t u λv=>df 92 e v λw=>d (.tuple #[w,(gI 7)]) v) (cF a λx=>cI 269 x 1 44 s λy z=>kv 44 y p 92 z λA B=>gs 92 e A B λC=>df 92 e C λD=>d (.tuple #[D,(gI 0)]) C))):Ca Tryz.prog 170 #[a,b] c d:=cj Tryz.func170 E
def HM(a b:Value)(c:cm)(d:T2)(e:World)(f:T2->Wp):=NV->cF a λg=>cI 269 g 2 46 e λh i=>gn 46 false h i λj k=>gb .lss 3 false d.2.1 j k λl m=>cC l (cy (S:=T1) (λn=>cF a λo=>cI 269 o 2 46 m λp q=>gi 46 p d.2.1 q λr s=>cI 112 r 0 35 s λt u=>gb .eql 35 false t b u λv w=>cC v (cF a λx=>cI 269 x 2 46 w λy z=>kv 46 y d.2.1 112 z λA B=>gx (dQ 46 1 [(0,A)]) B λC D=>gx (cx #[46,46] 46 [d.1,C]) D λE F=>n (E,()) F) (n (d.1,()) w)) (xn d f)) (c d.1 m)
def Qw{a b:Value}{c:World}{d:cm}(h:cO (S:=T2) (HM a b d) ((.slice none 0 0),(gI 0),()) c):Ca Tryz.prog 169 #[a,b] c d:=cj Tryz.func169 h
def Kl(a:cm)(b c:Value)(d:T3)(e:T3->Wp)(f:T1)(g:World):=NV->cC f.1 (a (.tuple #[(.pointer none),(gI 2)]) g) (cy (S:=T1) (λh=>cI 112 b 0 35 g λi j=>gb .eql 35 true i (.int .u32 0) j λk l=>cC k (h ((.bool true),()) l) (cI 112 b 1 35 l λm n=>Ca Tryz.prog 168 #[c,m] n λo p=>gb .lss 3 true o (gI 0) p λq r=>cC q (h ((.bool true),()) r) (cI 112 b 2 2 r λs t=>gb .eql 2 true s (gI 0) t λu v=>cC u (cI 112 b 3 2 v λw x=>gb .eql 2 true w (gI 0) x λy z=>cC y (h ((.bool true),()) z) (cI 112 b 2 2 z λA B=>Ca Tryz.prog 166 #[A,(gI (-10000000)),(gI 10000000)] B λC D=>gt C D λE F=>cC E (h ((.bool true),()) F) (cI 112 b 3 2 F λG H=>Ca Tryz.prog 166 #[G,(gI (-1000000000000000)),(gI 1000000000000000)] H λI J=>gt I J λK L=>h (K,()) L))) (cI 112 b 2 2 v λM N=>Ca Tryz.prog 166 #[M,(gI (-10000000)),(gI 10000000)] N λO P=>gt O P λQ R=>cC Q (h ((.bool true),()) R) (cI 112 b 3 2 R λS T=>Ca Tryz.prog 166 #[S,(gI (-1000000000000000)),(gI 1000000000000000)] T λU V=>gt U V λW X=>h (W,()) X))))) (J83_0 a d e))
def KT(a:Value)(b:cm)(c:T3)(d:T3->Wp)(e:T3)(f:World)(g:T3->Wp):=NV->gn 46 false a f λh i=>gb .lss 3 false e.2.2.1 h i λj k=>cC j (gi 46 a e.2.2.1 k λl m=>cI 112 l 2 2 m λn o=>gb .add 2 false e.1 n o λp q=>gi 46 a e.2.2.1 q λr s=>cI 112 r 3 2 s λt u=>gb .add 2 false e.2.1 t u λv w=>gb .add 3 true e.2.2.1 (gI 1) w λx y=>g (p,v,x,()) y) (cy (S:=T1) (λz=>gb .neq 2 true e.1 (gI 0) k λA B=>cC A (z ((.bool true),()) B) (gb .neq 2 true e.2.1 (gI 0) B λC D=>z (C,()) D)) (J83_0 b c d))
def Ls(a b:Value)(c:cm)(d:T3)(e:World)(f:T3->Wp):=NV->gn 46 false a e λg h=>gb .lss 3 false d.2.2.1 g h λi j=>cC i (gi 46 a d.2.2.1 j λk l=>cI 112 k 0 35 l λm n=>Ca Tryz.prog 169 #[b,m] n λo p=>cO (S:=T3) (KT o c d f) ((gI 0),(gI 0),(gI 0),()) p) (c (.tuple #[b,(gI 0)]) j)
def Lw(a:Value)(b:cm)(c:Value)(d:T3)(e:World)(f:T3->Wp):=NV->gn 46 false a e λg h=>gb .lss 3 false d.2.2.1 g h λi j=>cC i (kv 46 a d.2.2.1 112 j λk l=>gv 112 k l λm n=>cy (S:=T1) (λo=>gX .gtr 3 true d.2.2.1 (gI 0) λp=>cC p (gX .sub 3 true d.2.2.1 (gI 1) λq=>ng 46 a q λr=>en 112 r 0 35 n.drew λs=>en 112 m 0 35 n.drew λt=>gX .gtr 35 false s t λu=>cC u (o ((.bool true),()) n.drew) (gX .sub 3 true d.2.2.1 (gI 1) λv=>ng 46 a v λw=>en 112 w 0 35 n.drew λx=>en 112 m 0 35 n.drew λy=>gX .eql 35 false x y λz=>cC z (gX .sub 3 true d.2.2.1 (gI 1) λA=>ng 46 a A λB=>en 112 B 1 35 n.drew λC=>en 112 m 1 35 n.drew λD=>gX .geq 35 false C D λE=>o (E,()) n.drew) (o ((.bool false),()) n.drew))) (o ((.bool false),()) n.drew)) (Kl b m c d f)) (cO (S:=T3) (Ls a c b) (d.2.1,d.1,(gI 0),()) j)
def KG(a:Value)(b:cm)(c d:Value)(e:T3)(f:World)(g:T3->Wp):=NV->gn 44 false a f λh i=>gb .lss 3 false e.2.2.1 h i λj k=>cC j (cy (S:=T1) (λl=>ng 44 a e.2.2.1 λm=>en 92 m 0 35 k.drew λn=>gX .eql 35 true n (.int .u32 0) λo=>cC o (l ((.bool true),()) k.drew) (gX .gtr 3 true e.2.2.1 (gI 0) λp=>cC p (gX .sub 3 true e.2.2.1 (gI 1) λq=>ng 44 a q λr=>en 92 r 0 35 k.drew λs=>ng 44 a e.2.2.1 λt=>en 92 t 0 35 k.drew λu=>gX .geq 35 false s u λv=>cC v (l ((.bool true),()) k.drew) (ng 44 a e.2.2.1 λw=>en 92 w 1 2 k.drew λx=>Ca Tryz.prog 166 #[x,(gI 0),(gI 1000000000000000)] k.drew λy z=>gp (Op.unary .not y) λA=>l (A,()) z)) (ng 44 a e.2.2.1 λB=>en 92 B 1 2 k.drew λC=>Ca Tryz.prog 166 #[C,(gI 0),(gI 1000000000000000)] k.drew λD E=>gp (Op.unary .not D) λF=>l (F,()) E))) (J83_0 b e g)) (Ca Tryz.prog 167 #[c] k λG H=>gb .gtr 2 true G (gI 1000000000000000) H λI J=>cC I (b (.tuple #[(.pointer none),(gI 2)]) J) (cO (S:=T3) (Lw d b c) (e.2.1,e.1,(gI 0),()) J))
def J9(a:cm)(b c d:Value)(e:T1)(f:World):=NV->cC e.1 (a (.tuple #[(.pointer none),(gI 2)]) f) (gx (dQ 44 0 []) f λg h=>gx (cx #[44,44] 44 [g,b]) h λi j=>gx (dQ 46 0 []) j λk l=>gx (cx #[46,46] 46 [k,c]) l λm n=>gr (Instr.build 269 #[(0,d),(1,i),(2,m)]) n λo p=>gq 269 o p λq r=>cO (S:=T3) (KG b a q c) ((.pointer none),(gI 0),(gI 0),()) r)
def SO{a b c:Value}{d:World}{e:cm}(o:cy (S:=T1) (λf=>Ca Tryz.prog 166 #[a,(gI 0),(gI 1000000000000000)] d λg h=>gt g h λi j=>cC i (f ((.bool true),()) j) (gn 44 false b j λk l=>gb .gtr 3 true k (gI 64) l λm n=>f (m,()) n)) (J9 e b c a)):Ca Tryz.prog 84 #[a,b,c] d e:=cj Tryz.func84 o
end Go.Proofs
