/- Part of a proof. -/
import Derived.Test.YtgebhcgmckjbbaaGreatB4
set_option linter.all false
namespace Go.Proofs
open Go Go.Vc
section
variable{κ ν:Type} [DecidableEq κ]
def AD{A B:List (κ×ν)}(c:(A.map (·.1)).Nodup)(b:(B.map (·.1)).Nodup)(h:∀k,lk A k=lk B k):A.Perm B:=by
 have nd:∀L:List (κ×ν),(L.map (·.1)).Nodup->L.Nodup:=λL d=>by
  rw[List.Nodup,List.pairwise_map]at d;exact d.imp λa e=>a (by rw[e])
 refine(List.perm_ext_iff_of_nodup (nd A c) (nd B b)).2 λ⟨k,v⟩=>?_;rw[<-GO c,<-GO b,h]
def yP{R:List (κ×ν)}(b:(R.map (·.1)).Nodup){i:Nat}{p:κ×ν}(h:R[i]? =some p):((R.eraseIdx i).map (·.1)).Nodup/\lk R p.1=some p.2/\lk (R.eraseIdx i) p.1=none/\∀k,k≠p.1->lk (R.eraseIdx i) k=lk R k:=by
 have hp:=iu h;have a:((p::R.eraseIdx i).map (·.1)).Nodup:=(hp.map _).nodup_iff.1 b;simp only[List.map_cons,List.nodup_cons]at a;refine⟨a.2,by rw[tg b hp];simp[lk],kT a.1,λk c=>?_⟩;rw[tg b hp];simp[lk,Ne.symm c]
def lZ(A R C:List (κ×ν)):Prop:=(R.map (·.1)).Nodup/\∀k,(lk R k).or (lk C k)=lk A k
def lZ.step{A R C:List (κ×ν)}(h:lZ A R C){i:Nat}{p:κ×ν}(hi:R[i]? =some p):lZ A (R.eraseIdx i) (put C p.1 p.2):=by
 obtain⟨f,a⟩:=h;obtain⟨h1,b,d,c⟩:=yP f hi;refine⟨h1,λk=>?_⟩;rw[lD];by_cases e:k=p.1
 ·subst e;rw[d,if_pos rfl,Option.none_or,<-a,b,Option.some_or]
 ·rw[c k e,if_neg (λh=>e h.symm)];exact a k
def lZ.done{A C:List (κ×ν)}(h:lZ A [] C)(b:(A.map (·.1)).Nodup)(a:(C.map (·.1)).Nodup):C.Perm A:=
 AD a b λk=>by have:=h.2 k;simpa [lk]using this
end
def dM.empty:dM:=⟨0,[],[]⟩
def dM.empty_ok:dM.empty.Ok where
 fund:=by simp[dM.empty,MF]
 sa:=List.Pairwise.nil
 sp:=List.Pairwise.nil
 len:=by simp[dM.empty]
 acc:=by simp[dM.empty]
 pos:=by simp[dM.empty]
def zH{w:World}{K:cm}(j:∀d l F,iC d l F dM.empty->cl (λ_=>False) w d->(∀b,F b->w.heap.size<=b)->K (dm l) d):Ca Tryz.prog 36 #[] w K:=by
 apply Qp;simp[go_sem];have o:=cU.new (enc:=d8) (ev:=gR) w;refine fm (enc:=d8) (ev:=gR) (x:=0) (v:=⟨0,0,false,false⟩) lU pG o λa k h e=>?_;have n:cl (λ_=>False) w a:=((cl.refl (λ_=>False) w).alloc _).on h λb i=>.inr (by omega);have m:a.heap.size=w.heap.size+1:=by rw[e,World.size_alloc]
 (try simp[go_sem])
 generalize c:(a.alloc (.map #[] 0)).alloc _=g;have f:cl (λ_=>False) a g:=by subst c;exact((cl.refl _ a).alloc _).alloc _
 refine j g (a.heap.size+1) (λb=>b=a.heap.size+1\/b=w.heap.size\/b=a.heap.size) ⟨⟨w.heap.size,a.heap.size,_,[],?_,k.mod f id,?_,?_,List.Perm.refl _,λ_=>Iff.rfl,by omega,by omega,by omega⟩,dM.empty_ok⟩ (n.trans f) λb i=>by omega
 ·subst c;simp[go_sem,m]
 ·subst c;exact(cU.new (enc:=eV) (ev:=kU) a).mod ((cl.refl (λ_=>False) _).alloc _) id
 ·exact List.Perm.refl _
def iQ{w:World}{l:Nat}{F:Nat->Prop}{S:dM}{K:cm}(h:iC w l F S)(hK:∀m e F',iC m e F' S->cl (λ_=>False) w m->(∀b,F' b->w.heap.size<=b)->K (dm e) m):Ca Tryz.prog 109 #[dm l] w K:=by
 have h0:=h;obtain⟨⟨m1,m2,A,B,h1,T,Y,h4,h5,h6,h7⟩,hok⟩:=h;apply Ot;refine lI h0 ?_;simp[go_sem];refine zH λw1 e F' q1 Z f1=>?_;obtain⟨⟨k1,k2,A',B',c1,c2,c3,c4,c5,c6,c7⟩,-⟩:=q1;have hk1:w.heap.size<=k1:=f1 k1 ((c6 k1).2 (.inr (.inl rfl)));have hk2:w.heap.size<=k2:=f1 k2 ((c6 k2).2 (.inr (.inr rfl)));have hl' :w.heap.size<=e:=f1 e ((c6 e).2 (.inl rfl));have e1:=Z.keep h1 id;have hlm1:=T.lt;have hlm2:=Y.lt;simp[go_sem,dm,cO e1];refine kL lU (T.mod Z id) λw2 Q n2=>?_;generalize hg:w1.heap.size=N at Q;have hitl:=cn c1;have hc2l:=c2.lt;have hc3l:=c3.lt
 refine jQ (λs W=>∃(R C:List (Int×Ac)),s=()/\fN d8 gR W N m1 R/\cU d8 gR W k1 C/\lZ A R C/\cl (λb=>b=N\/b=k1) w1 W)
  (λs W=>jx N m1 W) ⟨A,A',rfl,Q,c2.mod n2 id,⟨T.1,λk=>?_⟩,n2.mono λ_ _ h=>h.elim⟩ ?_
 ·have hA' :∀k,lk A' k=dM.empty.getO k:=λk=>iC.lkA c2 c4 k;rw[hA' k,iC.lkA T h4];unfold dM.getO;by_cases M:k=0
  ·simp[M]
  ·simp only[if_neg M];cases S.find k<;>simp[dM.find,dM.empty]
 rintro _ W ⟨R,C,rfl,E,cW,inv,mW⟩ KN hKN;unfold FJ;intro _;refine mL E ?_ ?_
 ·intro M m J hh;subst M;have j:cl (λb=>b=N\/b=k1) w1 m:=mW.trans (J.mono λ_ _ h=>h.elim);have e1' :=j.keep e1 (by have:=cn h1;omega);simp[go_sem,cO e1'];have mF:cl (λ_=>False) w m:=Z.on j λb c=>.inr (by have:=Z.size;omega);refine kL Bj (Y.mod mF id) λw4 V n4=>?_;generalize hg4:m.heap.size=q at V;have cA:=((inv.done T.1 cW.1).trans h4)
  have cW4:=(cW.mod J id).mod n4 id
  have hjt:N<q/\k1<q/\k2<q/\e<q:=by
   have:=j.size;have:=E.lt.2;have:=J.size;omega
  have n:hp w4 e=some (.cells #[.map (some k1),.map (some k2)] 201 (0,0)):=n4.keep (j.keep c1 (by omega)) id
  refine jQ (λs W=>∃(R C:List ((Int×Int)×Po)),s=()/\fN eV kU W q m2 R/\cU eV kU W k2 C/\lZ B R C/\cl (λb=>b=q\/b=k2) w4 W)
   (λs W=>jx q m2 W) ⟨B,B',rfl,V,(c3.mod j (by omega)).mod n4 id,⟨Y.1,λk=>?_⟩,cl.refl _ _⟩ ?_
  ·have hB' :∀k,lk B' k=dM.empty.pos? k:=λk=>iC.lkP c3 c5 k;rw[hB' k];cases lk B k<;>simp[dM.pos?,dM.empty]
  rintro _ W5 ⟨R5,C5,rfl,u,H,t,I⟩ KN5 P;unfold DK;intro _;refine mL u ?_ ?_
  ·intro M a d hh'';subst M;simp[go_sem];have g:cl (λb=>b=q\/b=k2) w4 a:=I.trans (d.mono λ_ _ h=>h.elim);refine hK a e F' ⟨⟨k1,k2,C,C5,g.keep n (by omega),cW4.mod g (by omega),H.mod d id,cA,(t.done Y.1 H.1).trans h5,c6,c7⟩,hok⟩ (mF.on ((n4.mono (G:=λb=>b=q\/b=k2) λ_ _ h=>h.elim).trans g) λb c=>.inr (by have:=mF.size;omega)) f1
  ·intro i p U a L f d hsz;simp[go_sem];refine kE f ?_;have r:=(I.on d λb c=>.inl (.inl c)).keep n (by show¬(_\/_);omega);have hlt:=cn r;have y:e≠a.heap.size:=by omega
   have X:e≠a.heap.size+1:=by omega
   simp[go_sem,kU,eV,dm,cO r,y,X];generalize z:World.drew _=w6;have D:cl (λ_=>False) a w6:=by subst z;exact(((cl.refl _ a).alloc _).alloc _).drew
   refine fm (enc:=eV) (ev:=kU) (x:=p.1) (v:=p.2) Bj Me ((H.mod d (by show¬_=_;omega)).mod D id) λw7 hA O hs7=>?_;have o:fN eV kU w7 q m2 (R5.eraseIdx i):=(L.mod D id id).mod O (by omega) (by omega);refine P _ _ ⟨_,_,rfl,o,hA,t.step U,((I.on d λb c=>.inl (.inl c)).on D λ_ h=>h.elim).on O λb c=>.inl (.inr c)⟩ ?_;rw[o.left,u.left,List.length_eraseIdx];have:i<R5.length:=(List.getElem?_eq_some_iff.1 U).1;rw[if_pos this];omega
 ·intro i p U m L f J hsz;simp[go_sem];refine kE f ?_;have n:=(mW.on J λb c=>.inl (.inl c)).keep c1 (by show¬(_\/_);omega);have hlt:=cn n;have y:e≠m.heap.size:=by omega
  simp[go_sem,gR,d8,dm,cO n,y];generalize z:World.drew _=w6;have D:cl (λ_=>False) m w6:=by subst z;exact((cl.refl _ m).alloc _).drew
  refine fm (enc:=d8) (ev:=gR) (x:=p.1) (v:=p.2) lU pG ((cW.mod J (by show¬_=_;omega)).mod D id) λw7 hA O hs7=>?_;have o:fN d8 gR w7 N m1 (R.eraseIdx i):=(L.mod D id id).mod O (by omega) (by omega);refine hKN _ _ ⟨_,_,rfl,o,hA,inv.step U,((mW.on J λb c=>.inl (.inl c)).on D λ_ h=>h.elim).on O λb c=>.inl (.inr c)⟩ ?_;rw[o.left,E.left,List.length_eraseIdx];have:i<R.length:=(List.getElem?_eq_some_iff.1 U).1;rw[if_pos this];omega
end Go.Proofs
namespace Go.Vc
open Go Go.Vc
def dp{S:Type}{a:S->World->(S->World->Prop)->Prop}{s:S}{w:World}(I:S->World->Prop)(m:S->World->Nat)(f:I s w)
  (h:∀s w,I s w->∀d:S->World->Prop,(∀b c,I b c->m b c<m s w->d b c)->a s w d):cS a s w:=
 ⟨⟨I,m,f,λs w g=>h s w g _ λ_ _ h1 e=>⟨h1,e⟩⟩⟩
def cr{P:Program}{f:FuncId}{b a:Array Value}{w w' :World}{K:cm}(h1:b=a)(c:w=w'):Ca P f b w K=Ca P f a w' K:=by subst h1 c;rfl
def ck{P:Program}{s:Sem Value}{w:World}{K:cm}{v:Value}{w' :World}(h:s.run P w=.ok v w')(a:K v w'):rv P s w K:=by
 rw[t6];unfold Kd;rw[h];exact a
def dI{P:Program}{s:Sem Unit}{w:World}{K:World->Prop}{w' :World}(h:s.run P w=.ok () w')(a:K w'):ru P s w K:=by
 rw[tH];unfold JG;rw[h];exact a
def fi{P:Program}{s:Sem Next}{w:World}{K:cm}{v:Value}{w' :World}(h:s.run P w=.ok (.value v) w')(a:K v w'):rn P s w K:=by
 rw[iP];unfold CR;rw[h];exact a
def cx{P:Program}{s:Sem Value}{w:World}{K:Value->Prop}{v:Value}(h:s.run P w=.ok v w)(a:K v):sY P s w K:=by
 rw[qO];unfold yr;rw[h];exact⟨rfl,a⟩
def cq{P:Program}{s:Sem Value}{K:Value->Prop}{v:Value}(h:∀w,s.run P w=.ok v w)(a:K v):sO P s K:=⟨⟨v,h,a⟩⟩
def iB{P:Program}{t e:TypeId}(h:P.underlying t=some (.slice e)):P.underlying t=some (.slice (P.elem t))/\P.elem t=e:=by
 have:P.elem t=e:=by simp[Program.elem,h]
 rw[this];exact⟨h,rfl⟩
def Rd.part{P:Program}{t e:TypeId}{w:World}{sz n:Nat}{v:Value}{cs:List Value}(H:P.underlying t=some (.slice e))(x:P.cellsOf e=sz+1)(h:Rd w (sz+1) v n cs)
  {lo hi:Nat}(h1:lo<=hi)(E:hi<=n)(kl kh:IntKind):
  ∃o,(∀W,(Instr.sliceAt t v (some (.int kl (lo:Int))) (some (.int kh (hi:Int))) none).run P W=.ok o W)/\Rd w (sz+1) o (hi - lo) ((cs.drop (lo*(sz+1))).take ((hi - lo)*(sz+1)))/\(∀b,eM o b->eM v b):=by
 obtain⟨A,J⟩:=iB H;obtain⟨B,r⟩:=h
 obtain⟨a,d,rfl,k⟩:∃a d,v=.slice a n d/\(n<=d\/n=0):=by
  rcases r with⟨rfl,a,c,rfl⟩|⟨b,i,d,rfl,x,_⟩
  ·exact⟨a,c,rfl,.inr rfl⟩
  ·exact⟨_,d,rfl,.inl x⟩
 have q:hi<=d:=by rcases k with h|h<;>omega
 refine⟨sliced a lo hi d (sz+1),λW=>?_,?_,?_⟩
 ·rw[run_sliceAt_slice W t _ _ _ _ A,run_slice_lh W t a n d A kl kh lo hi (by omega) (by omega) (by omega),J,fX x];simp[Result.andThen]
 ·refine⟨?_,?_⟩
  ·rw[List.length_take,List.length_drop,B];have:=Nat.mul_le_mul_right (sz+1) E;rw[Nat.sub_mul];omega
  ·by_cases y:hi - lo=0
   ·left;exact⟨y,_,_,by unfold sliced;rw[y]⟩
   ·rcases r with⟨s,_⟩|⟨b,i,j,g,p,z⟩
    ·omega
    injection g with f G D;subst f;subst D;right;refine⟨b,i+lo*(sz+1),d - lo,?_,by omega,?_⟩
    ·unfold sliced;rw[if_neg (by omega)];simp[cC]
    ·have:=z.sub (lo*(sz+1)) ((hi - lo)*(sz+1)) (by
      rw[B,<-Nat.add_mul];exact Nat.mul_le_mul_right _ (by omega))
     exact this
 ·rintro b ⟨F,m,K,C,L,rfl⟩;unfold sliced at C;injection C with f G D;by_cases l:d=lo
  ·rw[if_pos l]at f;exact⟨F,n,d,by rw[f],by omega,rfl⟩
  ·rw[if_neg l]at f;cases a with
   |none=>cases f
   |some I=>
    simp only[Option.map_some,Option.some.injEq]at f;refine⟨I,n,d,rfl,by omega,?_⟩;rcases r with⟨s,_⟩|⟨b,i,j,g,p,z⟩
    ·omega
    ·injection g with u;injection u with u;subst u;rw[<-f,cC]
def Rd.from_{P:Program}{t e:TypeId}{w:World}{sz n:Nat}{v:Value}{cs:List Value}(l:P.underlying t=some (.slice e))(k:P.cellsOf e=sz+1)(h:Rd w (sz+1) v n cs)
  {lo:Nat}(h1:lo<=n)(kl:IntKind):
  ∃f,(∀W,(Instr.sliceAt t v (some (.int kl (lo:Int))) none none).run P W=.ok f W)/\Rd w (sz+1) f (n - lo) (cs.drop (lo*(sz+1)))/\(∀b,eM f b->eM v b):=by
 obtain⟨f,q,m,o⟩:=h.part l k h1 (Nat.le_refl n) kl .i64;obtain⟨i,u⟩:=iB l;refine⟨f,λW=>?_,?_,o⟩
 ·rw[<-q W];obtain⟨s,r⟩:=h
  obtain⟨a,d,rfl,g⟩:∃a d,v=.slice a n d/\(n<=d\/n=0):=by
   rcases r with⟨rfl,a,c,rfl⟩|⟨b,p,d,rfl,k,_⟩
   ·exact⟨a,c,rfl,.inr rfl⟩
   ·exact⟨_,d,rfl,.inl k⟩
  have j:n<=d:=by rcases g with h|h<;>omega
  rw[run_sliceAt_slice W t _ _ _ _ i,run_sliceAt_slice W t _ _ _ _ i,run_slice_lh W t a n d i kl .i64 lo n (by omega) (by omega) (by omega),run_slice_l W t a n d i kl lo (by omega) (by omega)];rfl
 ·have e:(cs.drop (lo*(sz+1))).take ((n - lo)*(sz+1))=cs.drop (lo*(sz+1)):=by
   rw[List.take_of_length_le];rw[List.length_drop,h.1,Nat.sub_mul];omega
  rwa[e]at m
def Rd.byte{w:World}{v:Value}{n:Nat}{l:List UInt8}(h:Rd w 1 v n (bv l)){i:Nat}(hi:i<n)(k:i<l.length):
  ∃b c a C e d,v=.slice (some ⟨b,c,none⟩) n a/\n<=a/\hp w b=some (.cells C e d)/\C[c+i]? =some (.int .u8 (l[i].toNat:Int)):=by
 obtain⟨_,⟨o,_⟩|⟨b,c,a,rfl,m,j⟩⟩:=h
 ·omega
 ·obtain⟨C,e,d,f,g⟩:=j.get;exact⟨b,c,a,C,e,d,rfl,m,f,g i _ (by rw[bv,List.getElem?_map,List.getElem?_eq_getElem k];rfl)⟩
def NQ{P:Program}{t e:TypeId}{sz g m:Nat}{w:World}{x:Value}{a:List Value}{K:cm}(i:P.underlying t=some (.slice e))(j:pg P e sz g)(y:Rd w sz x m a)(h1:a.all (·.oneCell')=true)(c:m*g<=140737488355328)
  (r:∀d f,dW f e sz d m a->cl (λ_=>False) w f->(∀b,co d b->w.heap.size<=b)->K d f):
  rx P (dP t 0 []) w λv p=>rx P (cv #[t,t] t [v,x]) p K:=by
 refine fg [] i j rfl rfl (by simp) (by omega) ?_;have k:∀o,cl (λ_=>False) w (w.alloc o):=λo=>(cl.refl _ w).alloc o;refine dt (n:=0) (m:=m) (cs:=[]) i i j ?_ (y.mod (k _) λ_ _ h=>h) h1 (by rw[Nat.zero_add];exact c) λd f s u q=>?_
 ·refine⟨by simp,.inr ⟨w.heap.size,0,[],rfl,Nat.le_refl _,?_,by simp⟩⟩;rw[cY,if_pos rfl];simp
 ·have l:∀b,co (.slice (some ⟨w.heap.size,0,none⟩) 0 0) b->w.heap.size<=b:=λb c=>by
   simp only[co,uw]at c;have:=Option.some.inj c;omega
  refine r d f (by simpa using s) ((k _).on u λb c=>.inr (l b c)) λb c=>?_;rcases q b c with h|h
  ·exact l b h
  ·rw[World.size_alloc]at h;omega
def vD:∀a:List UInt8,(bv a).flatMap (·.cells.toList)=bv a
 | []=>rfl
 |u::a=>by
  show(Value.cells (Value.int .u8 u.toNat)).toList++(bv a).flatMap (λv=>v.cells.toList)=_;rw[vD a];rfl
def wM{P:Program}{t e:TypeId}{w:World}{K:cm}{n:Nat}{a:List (Nat×Value)}(c:List UInt8)(i:P.underlying t=some (.slice e))(l:pg P e 1 1)(f:a=c.zipIdx.map λp=>(p.2,.int .u8 p.1.toNat))(h:c.length=n)(g:n<=1000)
  (j:∀v d,dW d e 1 v n (bv c)->cl (λ_=>False) w d->(∀b,co v b->w.heap.size<=b/\b<d.heap.size)->K v d):rx P (dP t n a) w K:=by
 have k:a=(bv c).zipIdx.map λp=>(p.2,p.1):=by
  rw[f,bv,List.zipIdx_map,List.map_map];rfl
 have m:=vD c
 refine fg (bv c) i l k (by simpa using h) (λv o=>by
  obtain⟨u,_,rfl⟩:=List.mem_map.1 o;rfl) (by omega) ?_
 rw[m];refine j _ _ ⟨by simpa using h,.inr ⟨_,n,[],rfl,Nat.le_refl _,by show hp _ _=_;simp[go_sem],by simp,by simp⟩⟩ ((cl.refl _ w).alloc _) λb g=>?_;have:b=w.heap.size:=by cases g;rfl
 rw[World.size_alloc];omega
def cl.hpk{F:Nat->Prop}{w w' :World}(h:cl F w w'){b:Nat}{o:Obj}(c:hp w b=some o)(a:¬F b):hp w' b=some o:=h.keep c a
def cV{n:Int}(a: -9223372036854775808<=n)(h1:n<9223372036854775808):IntKind.i64.wrap n=n:=by rw[IntKind.wrap_i64];omega
def fG{n:Int}(a:0<=n)(h1:n<18446744073709551616):IntKind.u64.wrap n=n:=by rw[IntKind.wrap_u64];omega
end Go.Vc
set_option maxRecDepth 100000
namespace Go.Proofs
open Go Go.Vc
def Oz{a b c:Value}{d:World}{e:cm}(h:gb .geq 2 false a b d λf g=>cz f (gb .leq 2 false a c g e) (e (.bool false) g)):Ca Tryz.prog 191 #[a,b,c] d e:=cj Tryz.func191 h
def Mk{a b:Value}{c:World}{d:cm}(i:Ca Tryz.prog 191 #[b,(gI 1),(gI 10000000)] c λe f=>cz e (gb .rem 2 false b a f λg h=>gb .eql 2 true g (gI 0) h d) (d (.bool false) f)):Ca Tryz.prog 192 #[a,b] c d:=cj Tryz.func192 i
def Gc(a:Value)(b:cm)(c:Value)(d:T4)(e:World)(f:T4->Wp):=NV->gb .lss 3 true d.2.2.2.1 (gI 16) e λg h=>cz g (gr (Instr.index 36 a d.2.2.2.1) h λi j=>Ca Tryz.prog 130 #[i,(gI 10000000)] j λk l=>gt k l λm n=>cz m (b (.bool false) n) (cz d.2.1 (cz d.2.2.1 (gb .add 3 true d.2.2.2.1 (gI 1) n λo p=>f (d.1,(.bool true),(.bool true),o,()) p) (gb .lss 2 true i (gI 0) n λq r=>gb .add 3 true d.2.2.2.1 (gI 1) r λs t=>f (d.1,(.bool true),q,s,()) t)) (gb .gtr 2 true i (gI 0) n λu v=>cz d.2.2.1 (gb .add 3 true d.2.2.2.1 (gI 1) v λw x=>f (d.1,u,(.bool true),w,()) x) (gb .lss 2 true i (gI 0) v λy z=>gb .add 3 true d.2.2.2.1 (gI 1) z λA B=>f (d.1,u,y,A,()) B)))) (cz d.2.1 (cz d.2.2.1 (cG 38 c 0 35 h λC D=>gb .neq 35 true C (.int .u32 0) D λE F=>cz E (cG 38 c 1 5 F λG H=>gr (convert 5 2 G) H λI J=>Ca Tryz.prog 191 #[I,(gI 1),(gI 8)] J λK L=>cz K (cG 38 c 2 2 L λM N=>Ca Tryz.prog 191 #[M,(gI 1),(gI 10000000)] N λO P=>cz O (cG 38 c 3 2 P λQ R=>Ca Tryz.prog 191 #[Q,(gI 1),(gI 1000000)] R λS T=>cz S (cG 38 c 4 2 T λU V=>Ca Tryz.prog 191 #[U,(gI 0),(gI 10000000)] V λW X=>cz W (cG 38 c 5 2 X λY Z=>Ca Tryz.prog 191 #[Y,(gI 1),(gI 10000000)] Z λaa ab=>cz aa (cG 38 c 7 2 ab λac ad=>Ca Tryz.prog 191 #[ac,(gI 0),(gI 10000000)] ad λae af=>cz ae (cG 38 c 2 2 af λag ah=>cG 38 c 9 2 ah λai aj=>Ca Tryz.prog 192 #[ag,ai] aj b) (b (.bool false) af)) (b (.bool false) ab)) (b (.bool false) X)) (b (.bool false) T)) (b (.bool false) P)) (b (.bool false) L)) (b (.bool false) F)) (b (.bool false) h)) (b (.bool false) h))
def O2{a:Value}{b:World}{c:cm}(j:gq 38 a b λd e=>gf 38 d 6 e λf g=>gx (dh 36 f) g λh i=>cS (S:=T4) (Gc h c d) ((.bool false),(.bool false),(.bool false),(gI 0),()) i):Ca Tryz.prog 107 #[a] b c:=cj Tryz.func107 j
def OT{a b:Value}{c:World}{d:cm}(m:gq 38 a c λe f=>gx (dh 38 e) f λg h=>Ca Tryz.prog 107 #[g] h λi j=>cz i (cG 38 e 2 2 j λk l=>Ca Tryz.prog 192 #[k,b] l d) (d (.bool false) j)):Ca Tryz.prog 127 #[a,b] c d:=cj Tryz.func127 m
def O8{a b:Value}{c:World}{d:cm}(q:gq 38 a c λe f=>gx (dh 38 e) f λg h=>Ca Tryz.prog 107 #[g] h λi j=>cz i (Ca Tryz.prog 191 #[b,(gI 1),(gI 1000000)] j λk l=>cz k (cG 38 e 3 2 l λm n=>gb .rem 2 false b m n λo p=>gb .eql 2 true o (gI 0) p d) (d (.bool false) l)) (d (.bool false) j)):Ca Tryz.prog 223 #[a,b] c d:=cj Tryz.func223 q
def Pf{a:Value}{b:World}{c:cm}(B:gq 117 a b λd e=>cG 117 d 0 27 e λf g=>gb .neq 27 true f (.int .u64 0) g λh i=>cz h (cG 117 d 1 35 i λj k=>gb .neq 35 true j (.int .u32 0) k λl m=>cz l (cG 117 d 3 2 m λn o=>gb .geq 2 true n (gI 1) o λp q=>cz p (cG 117 d 3 2 q λr s=>gb .leq 2 true r (gI 10000000) s λt u=>cz t (cG 117 d 4 2 u λv w=>gb .geq 2 true v (gI 1) w λx y=>cz x (cG 117 d 4 2 y λz A=>gb .leq 2 true z (gI 1000000) A c) (c (.bool false) y)) (c (.bool false) u)) (c (.bool false) q)) (c (.bool false) m)) (c (.bool false) i)):Ca Tryz.prog 222 #[a] b c:=cj Tryz.func222 B
def PM{a:Value}{b:World}{c:cm}(h:gr (Instr.build 320 #[(0,(.bool true)),(1,a)]) b λd e=>gq 320 d e c):Ca Tryz.prog 133 #[a] b c:=cj Tryz.func133 h
def Pi{a:Value}{b:World}{c:cm}(h:gb .neq 228 true a (.pointer none) b λd e=>cz d (cD a λf=>cG 320 f 0 4 e c) (c (.bool false) e)):Ca Tryz.prog 237 #[a] b c:=cj Tryz.func237 h
def Oj{a b c:Value}{d:World}{e:cm}(i:cD a λf=>cG 320 f 1 4 d λg h=>cz g (gb .gtr 2 false b c h e) (gb .lss 2 false b c h e)):Ca Tryz.prog 270 #[a,b,c] d e:=cj Tryz.func270 i
def N1{a b:Value}{c:World}{d:cm}(j:gq 27 b c λe f=>cD a λg=>cG 320 g 2 133 f λh i=>Ca Tryz.prog 210 #[h,(.func (.func 350) #[] #[e])] i d):Ca Tryz.prog 310 #[a,b] c d:=cj Tryz.func310 j
def MA{a b:Value}{c:World}{d:cm}(k:gq 117 a c λe f=>cG 117 e 0 27 f λg h=>gl 27 b h λi j=>gb .eql 27 false g i j d):Ca Tryz.prog 350 #[a,b] c d:=cj Tryz.func350 k
def D7(a b:Value)(c:cm)(d:T1)(e:World):=NV->de 228 a e.drew λf=>de 228 a e.drew λg=>cD g λh=>dD 320 h 2 λi=>de 133 i e.drew λj=>de 117 b e.drew λk=>gx (dP 133 1 [(0,k)]) e.drew λl m=>gk 133 i j m/\gk 228 a g m/\gk 228 a f m/\(Ca Tryz.prog 312 #[j,d.1,l] m λn o=>gk 228 a f o/\(cD f λp=>dD 320 p 2 λq=>gs 133 q n o λr=>c (gI 0) r))
def D8(a:cm)(b c:Value)(d:T1)(e:World):=NV->cz d.1 (a (gI 2) e) (gl 228 b e λf g=>cG 117 c 0 27 g λh i=>Ca Tryz.prog 310 #[f,h] i λj k=>gb .geq 3 true j (gI 0) k λl m=>cz l (a (gI 8) m) (gl 228 b m λn o=>cD n λp=>cG 320 p 2 133 o λq r=>gn 133 false q r λs t=>gb .geq 3 true s (gI 100) t λu v=>cz u (a (gI 9) v) (gl 228 b v λw x=>cD w λy=>cG 320 y 2 133 x λz A=>Ca Tryz.prog 210 #[z,(.func (.func 311) #[] #[b,c])] A λB C=>cB (S:=T1) (λD=>gb .lss 3 true B (gI 0) C λE F=>cz E (gl 228 b F λG H=>cD G λI=>cG 320 I 2 133 H λJ K=>gn 133 false J K λL M=>D (L,()) M) (D (B,()) F)) (D7 b c a))))
def NR{a b:Value}{c:World}{d:cm}(y:gq 228 a c λe f=>gq 117 b f λg h=>gl 228 e h λi j=>Ca Tryz.prog 237 #[i] j λk l=>gt k l λm n=>cz m (d (gI 1) n) (cB (S:=T1) (λo=>de 117 g n.drew λp=>Ca Tryz.prog 222 #[p] n.drew λq r=>gp (Op.unary .not q) λs=>cz s (o ((.bool true),()) r) (dZ 117 g 2 4 r λt=>de 228 e r λu=>cD u λv=>dZ 320 v 1 4 r λw=>ia .neq 4 false t w λx=>o (x,()) r)) (D8 d e g))):Ca Tryz.prog 274 #[a,b] c d:=cj Tryz.func274 y
def PQ{a b c:Value}{d:World}{e:cm}(n:gq 117 a d λf g=>gl 228 b g λh i=>cG 117 c 3 2 i λj k=>cG 117 f 3 2 k λl m=>Ca Tryz.prog 270 #[h,j,l] m e):Ca Tryz.prog 311 #[a,b,c] d e:=cj Tryz.func311 n
def FQ(a:Value)(b:cm)(c:Value)(d:T1)(e:World):=NV->cz d.1 (gr (Instr.build 117 #[]) e λf g=>gs 117 a f g λh=>de 117 a h λi=>b (.tuple #[i,(.bool false)]) h) (cD c λj=>cG 320 j 2 133 e λk l=>lJ 133 k (gI 0) 117 l λm n=>gs 117 a m n λo=>de 117 a o λp=>b (.tuple #[p,(.bool true)]) o)
def Mt{a:Value}{b:World}{c:cm}(r:ga 117 b λd e=>cB (S:=T1) (λf=>Ca Tryz.prog 237 #[a] e λg h=>gt g h λi j=>cz i (f ((.bool true),()) j) (cD a λk=>cG 320 k 2 133 j λl m=>gn 133 false l m λn o=>gb .eql 3 true n (gI 0) o λp q=>f (p,()) q)) (FQ d c a)):Ca Tryz.prog 271 #[a] b c:=cj Tryz.func271 r
def AX(a b:Value)(c:cm)(d:Unit)(e:World):=NV->gl 117 a e λf g=>gs 117 b f g λh=>de 117 b h λi=>c (.tuple #[i,(gI 0)]) h
def DG(a:Value)(b:cm)(c d:Value)(e:T1)(f:World):=NV->cz e.1 (gr (Instr.build 117 #[]) f λg h=>gs 117 a g h λi=>de 117 a i λj=>b (.tuple #[j,(gI 2)]) i) (cD c λk=>cG 320 k 2 133 f λl m=>gi 133 l (gI 0) m λn o=>cG 117 n 4 2 o λp q=>gb .sub 2 false p d q λr s=>gi 133 l (gI 0) s λt u=>kK 117 t 4 2 r u λv=>cD c λw=>cG 320 w 2 133 v λx y=>lJ 133 x (gI 0) 117 y λz A=>gv 117 z A λB C=>cB (S:=Unit) (λD=>cG 117 B 4 2 C λE F=>gb .eql 2 true E (gI 0) F λG H=>cz G (cD c λI=>cG 320 I 2 133 H λJ K=>Ca Tryz.prog 212 #[J,(gI 0),(gI 1)] K λL M=>cD c λN=>kK 320 N 2 133 L M λO=>D (()) O) (D (()) H)) (AX B a b))
def Ml{a b:Value}{c:World}{d:cm}(L:ga 117 c λe f=>Ca Tryz.prog 237 #[a] f λg h=>gt g h λi j=>cz i (gr (Instr.build 117 #[]) j λk l=>gs 117 e k l λm=>de 117 e m λn=>d (.tuple #[n,(gI 1)]) m) (cD a λo=>cG 320 o 2 133 j λp q=>gn 133 false p q λr s=>gb .eql 3 true r (gI 0) s λt u=>cz t (gr (Instr.build 117 #[]) u λv w=>gs 117 e v w λx=>de 117 e x λy=>d (.tuple #[y,(gI 7)]) x) (cB (S:=T1) (λz=>gb .lss 2 true b (gI 1) u λA B=>cz A (z ((.bool true),()) B) (cD a λC=>cG 320 C 2 133 B λD E=>gi 133 D (gI 0) E λF G=>cG 117 F 4 2 G λH I=>gb .gtr 2 false b H I λJ K=>z (J,()) K)) (DG e d a b)))):Ca Tryz.prog 273 #[a,b] c d:=cj Tryz.func273 L
def NO{a b:Value}{c:World}{d:cm}(m:Ca Tryz.prog 237 #[a] c λe f=>gt e f λg h=>cz g (d (.tuple #[(gI 0),(gI 1)]) h) (Ca Tryz.prog 310 #[a,b] h λi j=>gb .geq 3 true i (gI 0) j λk l=>cz k (d (.tuple #[i,(gI 0)]) l) (d (.tuple #[(gI 0),(gI 7)]) l))):Ca Tryz.prog 299 #[a,b] c d:=cj Tryz.func299 m
def Nf{a b:Value}{c:World}{d:cm}(L:ga 117 c λe f=>Ca Tryz.prog 299 #[a,b] f λg h=>kS g h λi j k=>gb .neq 26 true j (gI 0) k λl m=>cz l (gr (Instr.build 117 #[]) m λn o=>gs 117 e n o λp=>de 117 e p λq=>d (.tuple #[q,j]) p) (cD a λr=>cG 320 r 2 133 m λs t=>lJ 133 s i 117 t λu v=>gv 117 u v λw x=>cD a λy=>cG 320 y 2 133 x λz A=>gb .add 3 true i (gI 1) A λB C=>Ca Tryz.prog 212 #[z,i,B] C λD E=>cD a λF=>kK 320 F 2 133 D E λG=>gl 117 w G λH I=>gs 117 e H I λJ=>de 117 e J λK=>d (.tuple #[K,(gI 0)]) J)):Ca Tryz.prog 259 #[a,b] c d:=cj Tryz.func259 L
def Oy{a b:Value}{c:World}{d:cm}(y:ga 117 c λe f=>Ca Tryz.prog 299 #[a,b] f λg h=>kS g h λi j k=>gb .neq 26 true j (gI 0) k λl m=>cz l (gr (Instr.build 117 #[]) m λn o=>gs 117 e n o λp=>de 117 e p λq=>d (.tuple #[q,j]) p) (cD a λr=>cG 320 r 2 133 m λs t=>lJ 133 s i 117 t λu v=>gs 117 e u v λw=>de 117 e w λx=>d (.tuple #[x,(gI 0)]) w)):Ca Tryz.prog 269 #[a,b] c d:=cj Tryz.func269 y
def E8(a b c d:Value)(e:Nat)(f:List Value)(g:World)(h:Wp)(i:Code->Wp):=gv 117 (f.getD 0 undef) g λj k=>iF e k λl=>gl 228 a l λm n=>gl 2 b n λo p=>cG 117 j 3 2 p λq r=>Ca Tryz.prog 270 #[m,o,q] r λs t=>cz s (i (.exit 0) t) (cG 117 j 1 35 t λu v=>gl 35 c v λw x=>gb .neq 35 false u w x λy z=>cz y (gl 2 d z λA B=>cG 117 j 4 2 B λC D=>gb .add 2 false A C D λE F=>gs 2 d E F h) (h z))
def Ba(a:Value)(b:cm)(c:List Nat)(d:Option Code)(e:World):=fk (λf=>gl 2 a f λg h=>gs 2 a g h λi=>jF (c++[]) i λj=>de 2 a j λk=>b k j) (λl=>jF (c++[]) l λm=>de 2 a m λn=>b n m) (λo p=>bc (Nat.beq o 0) (gl 2 a p λq r=>gs 2 a q r λs=>jF (c++[]) s λt=>de 2 a t λu=>b u t) (False)) d e
def PF{a b c:Value}{d:World}{e:cm}(r:gq 228 a d λf g=>gq 2 b g λh i=>gq 35 c i λj k=>ga 2 k λl m=>gl 228 f m λn o=>Ca Tryz.prog 146 #[n] o λp q=>xy Tryz.prog none p q 1 (E8 f h j l) (Ba l e)):Ca Tryz.prog 226 #[a,b,c] d e:=cj Tryz.func226 r
def My{a:Value}{b:World}{c:cm}(h:gq 228 a b λd e=>c (.func (.func 236) #[] #[d]) e):Ca Tryz.prog 146 #[a] b c:=cj Tryz.func146 h
def Hh(a b c:Value)(d:cm)(e:T1)(f:World)(g:T1->Wp):=NV->gb .lss 3 false e.1 a f λh i=>cz h (lJ 133 b e.1 117 i λj k=>gv 117 j k λl m=>gl 117 l m λn o=>dX Tryz.prog c [n] o λp q=>gt p q λr s=>cz r (d (.tuple #[]) s) (gb .add 3 true e.1 (gI 1) s λt u=>g (t,()) u)) (d (.tuple #[]) i)
def MT{a b:Value}{c:World}{d:cm}(t:gl 228 b c λe f=>Ca Tryz.prog 237 #[e] f λg h=>gt g h λi j=>cz i (d (.tuple #[]) j) (gl 228 b j λk l=>cD k λm=>cG 320 m 2 133 l λn o=>Ca Tryz.prog 111 #[n] o λp q=>gn 133 false p q λr s=>cS (S:=T1) (Hh r p a d) ((gI 0),()) s)):Ca Tryz.prog 236 #[a,b] c d:=cj Tryz.func236 t
def NP{a:Value}{b:World}{c:cm}(k:Ca Tryz.prog 237 #[a] b λd e=>gt d e λf g=>cz f (c (gI 0) g) (cD a λh=>cG 320 h 2 133 g λi j=>gn 133 false i j c)):Ca Tryz.prog 227 #[a] b c:=cj Tryz.func227 k
def N9{a:Value}{b:World}{c:cm}(p:Ca Tryz.prog 237 #[a] b λd e=>gt d e λf g=>cz f (c (.pointer none) g) (cD a λh=>dD 320 h 1 λi=>de 4 i g.drew λj=>cD a λk=>dZ 320 k 2 133 g.drew λl=>Ca Tryz.prog 111 #[l] g.drew λm n=>gk 4 i j n/\(gp (Instr.build 320 #[(0,(.bool true)),(1,j),(2,m)]) λo=>gq 320 o n c))):Ca Tryz.prog 193 #[a] b c:=cj Tryz.func193 p
def EC(a b c:Value)(d:cm)(e:T2)(f:World)(g:T2->Wp):=NV->gb .lss 3 false e.2.1 a f λh i=>cz h (lJ 133 b e.2.1 117 i λj k=>dX Tryz.prog c [j] k λl m=>cz l (d e.2.1 m) (gb .add 3 true e.2.1 (gI 1) m λn o=>g (e.1,n,()) o)) (d (gI (-1)) i)
def NY{a b:Value}{c:World}{d:cm}(h:gn 133 false a c λe f=>cS (S:=T2) (EC e a b d) ((gI 0),(gI 0),()) f):Ca Tryz.prog 210 #[a,b] c d:=cj Tryz.func210 h
def Nh{a b c:Value}{d:World}{e:cm}(h0:gr (Instr.sliceAt 133 a (some b) none none) d λf g=>gn 133 false c g λh i=>gb .eql 3 true h (gI 0) i λj k=>cz j (e a k) (gn 133 false a k λl m=>gb .eql 3 false b l m λn o=>cz n (gx (cv #[133,133] 133 [a,c]) o e) (gb .add 3 false l h o λp q=>rn Tryz.prog (builtin .cap #[133] 3 #[false] #[a]) q λr s=>gb .gtr 3 false p r s λt u=>cz t (gr (Instr.sliceAt 133 a none (some b) none) u λv w=>gb .add 3 false l h w λx y=>gb .sub 3 false x b y λz A=>gx (cv #[133,3] 133 [v,z]) A λB C=>gr (Instr.sliceAt 133 B (some b) none none) C λD E=>gx (rR #[133,133] 3 [D,c]) E λF G=>ia .add 3 false b h λH=>gp (Instr.sliceAt 133 B (some H) none none) λI=>gp (Instr.sliceAt 133 a (some b) none none) λJ=>gx (rR #[133,133] 3 [I,J]) G.drew λK L=>e B L) (gb .add 3 false l h u λM N=>gr (Instr.sliceAt 133 a none (some M) none) N λO P=>gb .add 3 false b h P λQ R=>gr (Instr.sliceAt 133 O (some Q) none none) R λS T=>RY Tryz.prog 351 [c,S] T λU V=>gt U V λW X=>cz W (ia .add 3 false b h λY=>gp (Instr.sliceAt 133 O (some Y) none none) λZ=>gp (Instr.sliceAt 133 O (some b) none none) λaa=>gx (rR #[133,133] 3 [Z,aa]) X.drew λab ac=>gr (Instr.sliceAt 133 O (some b) none none) ac λad ae=>gx (rR #[133,133] 3 [ad,c]) ae λaf ag=>e O ag) (gr (Instr.sliceAt 133 O (some l) none none) X λah ai=>gx (rR #[133,133] 3 [ah,c]) ai λaj ak=>gr (Instr.sliceAt 133 O (some b) none none) ak λal am=>Ca Tryz.prog 352 #[al,h] am λan ao=>e O ao))))):Ca Tryz.prog 312 #[a,b,c] d e:=cj Tryz.func312 h0
def Nk{a b c:Value}{d:World}{e:cm}(x:gn 133 false a d λf g=>gr (Instr.sliceAt 133 a (some b) (some c) (some f)) g λh i=>gb .eql 3 false b c i λj k=>cz j (e a k) (gn 133 false a k λl m=>gp (Instr.sliceAt 133 a none (some b) none) λn=>gp (Instr.sliceAt 133 a (some c) none none) λo=>gx (cv #[133,133] 133 [n,o]) m.drew λp q=>gn 133 false p q λr s=>gr (Instr.sliceAt 133 p (some r) (some l) none) s λt u=>gx (tp #[133] 0 [t]) u λv w=>e p w)):Ca Tryz.prog 212 #[a,b,c] d e:=cj Tryz.func212 x
def OV{a:Value}{b:World}{c:cm}(h:gb .eql 133 true a (.slice none 0 0) b λd e=>cz d (c (.slice none 0 0) e) (gx (dP 133 0 []) e λf g=>gx (cv #[133,133] 133 [f,a]) g c)):Ca Tryz.prog 111 #[a] b c:=cj Tryz.func111 h
end Go.Proofs
namespace Go.Proofs
open Go Go.Vc
attribute [local congr] cr
abbrev eQ(n:Int):Prop:= -9223372036854775808<=n/\n<9223372036854775808
abbrev fq(n:Int):Prop:=0<=n/\n<4294967296
abbrev ER(n:Int):Prop:=0<=n/\n<18446744073709551616
structure Sp where
 num:Int
 route:Int
 tick:Int
 lot:Int
 band:Int
 limit:Int
 shifts:Vector Int 16
 credit:Int
 last:Int
 first:Int
 deriving DecidableEq
def Sp.Fit(s:Sp):Prop:=fq s.num/\(0<=s.route/\s.route<256)/\eQ s.tick/\eQ s.lot/\eQ s.band/\eQ s.limit/\(∀x∈s.shifts.toList,eQ x)/\eQ s.credit/\fq s.last/\eQ s.first
def zt(s:Vector Int 16):List Value:=s.toList.map λn=>.int .i64 n
def dl(s:Sp):List Value:=[.int .u32 s.num,.int .u8 s.route,.int .i64 s.tick,.int .i64 s.lot,.int .i64 s.band,.int .i64 s.limit]++(zt s.shifts++[.int .i64 s.credit,.int .u32 s.last,.int .i64 s.first])
def kj(s:Vector Int 16):(zt s).length=16:=by simp[zt]
def cL(s:Sp):(dl s).length=25:=by simp[dl,kj]
def lh(s:Sp):(dl s).all (·.oneCell')=true:=by simp[dl,zt,Value.oneCell']
def lN(s:Sp):((dl s).drop 6).take 16=zt s.shifts:=by
 simp only[dl];rw[List.drop_append_of_le_length (by simp)];simp only[List.drop_succ_cons,List.drop_nil,List.drop_zero,List.nil_append];rw[List.take_append_of_le_length (by rw[kj];omega),List.take_of_length_le (by rw[kj];omega)]
def RG{s:Sp}{a:List Value}{i:Nat}(hi:i<3):(dl s++a)[22+i]? =([.int .i64 s.credit,.int .u32 s.last,.int .i64 s.first]:List Value)[i]? :=by
 rw[List.getElem?_append_left (by rw[cL];omega)];simp only[dl];rw[List.getElem?_append_right (by simp;omega)];rw[List.getElem?_append_right (by rw[kj];simp;omega)];congr 1;rw[kj];simp;omega
def Mj(s:Sp)(a:List Value):(dl s++a)[0]? =some (.int .u32 s.num):=rfl
def PU(s:Sp)(a:List Value):(dl s++a)[1]? =some (.int .u8 s.route):=rfl
def Li(s:Sp)(a:List Value):(dl s++a)[2]? =some (.int .i64 s.tick):=rfl
def Oe(s:Sp)(a:List Value):(dl s++a)[3]? =some (.int .i64 s.lot):=rfl
def Nu(s:Sp)(a:List Value):(dl s++a)[4]? =some (.int .i64 s.band):=rfl
def MN(s:Sp)(a:List Value):(dl s++a)[5]? =some (.int .i64 s.limit):=rfl
def GD(s:Sp)(a:List Value):(dl s++a)[22]? =some (.int .i64 s.credit):=RG (i:=0) (by omega)
def Pq(s:Sp)(a:List Value):(dl s++a)[23]? =some (.int .u32 s.last):=RG (i:=1) (by omega)
def Hc(s:Sp)(a:List Value):(dl s++a)[24]? =some (.int .i64 s.first):=RG (i:=2) (by omega)
def mg(tick n:Int):Bool:=cy n 1 MP&& decide (n.tmod tick=0)
def iy(l:List Int):Bool:=l.all λx=>cy x (-MP) MP
def Sp.may(s:Sp):Bool:=
 iy s.shifts.toList&& s.shifts.toList.any (λx=>decide (0<x))&& s.shifts.toList.any (λx=>decide (x<0))&& decide (s.num≠0)&& cy s.route 1 8&& cy s.tick 1 MP&& cy s.lot 1 1000000&& cy s.band 0 MP&& cy s.limit 1 MP&& cy s.credit 0 MP&& mg s.tick s.first
def Sp.isPrice(s:Sp)(n:Int):Bool:=s.may&& mg s.tick n
def Sp.isQty(s:Sp)(n:Int):Bool:=s.may&& (cy n 1 1000000&& decide (n.tmod s.lot=0))
def gT{n lo hi:Int}{w:World}{K:cm}(a:K (.bool (cy n lo hi)) w):Ca Tryz.prog 191 #[.int .i64 n,.int .i64 lo,.int .i64 hi] w K:=by
 apply Oz;unfold cy at a;by_cases h:lo<=n
 ·simp[go_sem,h]at a|-;exact a
 ·simp[go_sem,h]at a|-;exact a
def vo{tick n:Int}{w:World}{K:cm}(d:0<tick)(a:K (.bool (mg tick n)) w):Ca Tryz.prog 192 #[.int .i64 tick,.int .i64 n] w K:=by
 apply Mk;refine gT ?_;unfold mg MP at a;have b:¬tick=0:=by omega
 cases h:cy n 1 10000000 with
 |false=>
  rw[h]at a;simpa using a
 |true=>
  rw[h]at a;have j:=of_decide_eq_true h;simp[go_sem,b]at a|-
  have e:IntKind.i64.wrap (n.tmod tick)=n.tmod tick:=by
   have h1:=Int.emod_nonneg n b;have g:=Int.emod_lt_of_pos n d;have f:n.tmod tick=n%tick:=Int.tmod_eq_emod_of_nonneg (by omega)
   have i:n%tick<=n:=by
    by_cases c:n<tick
    ·rw[Int.emod_eq_of_lt (by omega) c];omega
    ·omega
   rw[f,cV (by omega) (by omega)]
  first
   |exact a
   |(rw[e];exact a)
   |(simpa [e]using a)
def Se:Tryz.prog.underlying 36=some (.array 16 2):=by kernel_rfl
def RX:iA Tryz.prog 36=true:=by kernel_rfl
def R3:Tryz.prog.cellsOf 36=15+1:=by kernel_rfl
def OP:iA Tryz.prog 2=false:=by kernel_rfl
def Ms:(Tryz.prog.underlying 2).isSome=true:=by kernel_rfl
def OQ:Tryz.prog.cellsOf 2=0+1:=by kernel_rfl
def uS:iA Tryz.prog 38=true:=by kernel_rfl
def sm:Tryz.prog.cellsOf 38=24+1:=by kernel_rfl
def sJ(s:Vector Int 16)(i:Nat)(h:i<16):(zt s).toArray[i]? =some (.int .i64 s.toList[i]!):=by
 have a:s.toList.length=16:=by simp
 simp[zt,List.getElem?_eq_getElem,a,h]
def yN{l:List Int}{p:Int->Bool}{i:Nat}(h:i<l.length):(l.take (i+1)).all p=((l.take i).all p&& p l[i]!):=by
 rw[List.take_add_one,List.getElem?_eq_getElem h,List.all_append];simp[h]
def xJ{l:List Int}{p:Int->Bool}{i:Nat}(h:i<l.length):(l.take (i+1)).any p=((l.take i).any p||p l[i]!):=by
 rw[List.take_add_one,List.getElem?_eq_getElem h,List.any_append];simp[h]
set_option maxRecDepth 10000 in
def nJ{s:Sp}{w:World}{K:cm}(hf:s.Fit)(N:∀g,cl (λ_=>False) w g->K (.bool s.may) g):Ca Tryz.prog 107 #[.agg (dl s).toArray] w K:=by
 apply O2;obtain⟨p,q⟩:∃p,p=w.heap.size:=⟨_,rfl⟩
 have I:cl (λ_=>False) w (w.alloc (.cells (dl s).toArray 38)):=(cl.refl _ w).alloc _;refine ck (v:=.pointer (some ⟨p,0,none⟩)) (w' :=w.alloc (.cells (dl s).toArray 38)) (by rw[q];rfl) ?_;have d:hp (w.alloc (.cells (dl s).toArray 38)) p=some (.cells (dl s).toArray 38 (0,0)):=by rw[q];simp[go_sem]
 generalize w.alloc (.cells (dl s).toArray 38)=u at I d|-;refine ck (v:=.pointer (some ⟨p,6,none⟩)) (w' :=u) (by simp[go_sem]) ?_
 have Z:At u p 6 (zt s.shifts):=by
  have F:At u p 0 (dl s):=⟨_,_,_,d,by simp,by simp⟩
  have:=F.sub 6 16 (by rw[cL];omega);rw[lN]at this;simpa using this
 refine ey (zt s.shifts) 15 RX R3 (kj _) Z ?_;have hl:s.shifts.toList.length=16:=by simp
 obtain⟨f1,f2,f3,f4,f5,f6,Y,f8,f9,X⟩:=hf;have a:∀i:Nat,(dl s)[i]? =(dl s++[])[i]? :=λi=>by rw[List.append_nil]
 refine dp (λst W=>∃(i:Nat) (x:Value),i<=16/\st=(x,.bool ((s.shifts.toList.take i).any λx=>decide (0<x)),.bool ((s.shifts.toList.take i).any λx=>decide (x<0)),.int .i64 i,())/\W=u/\iy (s.shifts.toList.take i)=true)
  (λst _=>match st.2.2.2.1 with| .int _ i=>16 - i.toNat|_=>0) ⟨0,.bool false,by omega,rfl,rfl,rfl⟩ ?_
 rintro⟨_,_⟩ W ⟨i,x,hi,⟨⟩,rfl,f⟩ V E;unfold Gc;intro _;by_cases l:i<16
 ·have m:(i:Int)<16:=by omega
  have e:i<s.shifts.toList.length:=by omega
  have hx:eQ s.shifts.toList[i]! :=by
   rw[getElem!_pos s.shifts.toList i e];exact Y _ (List.getElem_mem e)
  refine ck (v:=.bool true) (by simp[go_sem,m]<;>first|exact⟨rfl,rfl⟩|exact rfl) ?_;rw[ci,if_pos rfl];refine ck (v:=.int .i64 s.shifts.toList[i]!) (w' :=W) (oY Se OP Ms OQ l (sJ _ i l)) ?_;generalize H:s.shifts.toList[i]! =y at*;refine qX hx (by omega) ?_;have hw:IntKind.i64.wrap ((i:Int)+1)=((i+1:Nat):Int):=by rw[cV (by omega) (by omega)];omega
  refine ck (v:=.bool (!cy y (-10000000) 10000000)) (w' :=W) (by simp[go_sem]) ?_;cases J:cy y (-10000000) 10000000 with
  |false=>
   rw[ci,if_pos (show(!false)=true from rfl)]
   have:s.may=false:=by
    have h1:iy s.shifts.toList=false:=by
     rw[Bool.eq_false_iff];intro hc;have:=(List.all_eq_true.1 hc) y (by rw[<-H,getElem!_pos s.shifts.toList i e];exact List.getElem_mem e);unfold MP at this;rw[J]at this;cases this
    unfold Sp.may;rw[h1];simp
   rw[<-this];exact N _ I
  |true=>
   rw[ci,if_neg (by simp)]
   have k:iy (s.shifts.toList.take (i+1))=true:=by
    unfold iy;rw[yN e,H];show(iy _&& _)=true;rw[f];simpa [MP]using J
   have j:∀(z:Value),V (z,.bool ((s.shifts.toList.take (i+1)).any λx=>decide (0<x)),.bool ((s.shifts.toList.take (i+1)).any λx=>decide (x<0)),.int .i64 ((i+1:Nat):Int),()) W:=λz=>
    E _ _ ⟨i+1,z,by omega,rfl,rfl,k⟩ (by show 16 - (((i+1:Nat):Int)).toNat<16 - ((i:Int)).toNat;omega)
   rw[xJ e,xJ e,H]at j;cases B:(s.shifts.toList.take i).any λx=>decide (0<x)<;>cases t:(s.shifts.toList.take i).any λx=>decide (x<0)
   all_goals
    rw[B,t]at j;simp only[ci,Bool.false_eq_true,if_false,if_true];simp[-Int.natCast_add,go_sem,hw];simpa using j _
 ·obtain rfl:i=16:=by omega
  rw[List.take_of_length_le (by omega)]at f;rw[List.take_of_length_le (by omega)];refine ck (v:=.bool false) (by simp[go_sem]<;>first|exact⟨rfl,rfl⟩|exact rfl) ?_;rw[ci,if_neg Bool.false_ne_true];have c:∀b:Bool,b=s.may->K (.bool b) W:=λb h=>by rw[h];exact N _ I
  unfold Sp.may at c;rw[f]at c;cases B:s.shifts.toList.any λx=>decide (0<x)with
  |false=>
   rw[ci,if_neg Bool.false_ne_true];refine c _ ?_;rw[B];simp
  |true=>
   rw[B]at c;rw[ci,if_pos rfl];cases t:s.shifts.toList.any λx=>decide (x<0)with
   |false=>
    rw[ci,if_neg Bool.false_ne_true];refine c _ ?_;rw[t];simp
   |true=>
    rw[t]at c;rw[ci,if_pos rfl];have M:(dl s).toArray[0]? =some (.int .u32 s.num):=by rw[List.getElem?_toArray,a];exact Mj s []
    have Q:(dl s).toArray[1]? =some (.int .u8 s.route):=by rw[List.getElem?_toArray,a];exact PU s []
    have A:(dl s).toArray[2]? =some (.int .i64 s.tick):=by rw[List.getElem?_toArray,a];exact Li s []
    have U:(dl s).toArray[3]? =some (.int .i64 s.lot):=by rw[List.getElem?_toArray,a];exact Oe s []
    have P:(dl s).toArray[4]? =some (.int .i64 s.band):=by rw[List.getElem?_toArray,a];exact Nu s []
    have T:(dl s).toArray[5]? =some (.int .i64 s.limit):=by rw[List.getElem?_toArray,a];exact MN s []
    have r:(dl s).toArray[22]? =some (.int .i64 s.credit):=by rw[List.getElem?_toArray,a];exact GD s []
    have o:(dl s).toArray[24]? =some (.int .i64 s.first):=by rw[List.getElem?_toArray,a];exact Hc s []
    refine ck (by simp[-Int.natCast_add,go_sem,d,M]<;>first|exact⟨rfl,rfl⟩|exact rfl) ?_;refine ck (by simp[-Int.natCast_add,go_sem,d,M]<;>first|exact⟨rfl,rfl⟩|exact rfl) ?_;by_cases C:s.num=0
    ·refine ck (v:=.bool false) (by simp[go_sem,C]<;>first|exact⟨rfl,rfl⟩|exact rfl) ?_;rw[ci,if_neg Bool.false_ne_true];refine c _ (by simp[C])
    have G:decide (s.num≠0)=true:=by simpa using C
    rw[G]at c;refine ck (v:=.bool true) (by simp[go_sem,C]<;>first|exact⟨rfl,rfl⟩|exact rfl) ?_;rw[ci,if_pos rfl];refine ck (by simp[-Int.natCast_add,go_sem,d,Q]<;>first|exact⟨rfl,rfl⟩|exact rfl) ?_;refine ck (by simp[-Int.natCast_add,go_sem,d,Q]<;>first|exact⟨rfl,rfl⟩|exact rfl) ?_;refine ck (v:=.int .i64 s.route) (w' :=W) (by simp[go_sem,cV (n:=s.route) (by omega) (by omega)]) ?_;refine gT ?_;cases h1:cy s.route 1 8 with
    |false=>rw[ci,if_neg Bool.false_ne_true];exact c _ (by rw[h1];simp)
    |true=>
    rw[h1]at c;rw[ci,if_pos rfl];refine ck (by simp[-Int.natCast_add,go_sem,d,A]<;>first|exact⟨rfl,rfl⟩|exact rfl) ?_;refine ck (by simp[-Int.natCast_add,go_sem,d,A]<;>first|exact⟨rfl,rfl⟩|exact rfl) ?_;refine gT ?_;unfold MP at c;cases D:cy s.tick 1 10000000 with
    |false=>rw[ci,if_neg Bool.false_ne_true];exact c _ (by rw[D];simp)
    |true=>
    rw[D]at c;rw[ci,if_pos rfl];refine ck (by simp[-Int.natCast_add,go_sem,d,U]<;>first|exact⟨rfl,rfl⟩|exact rfl) ?_;refine ck (by simp[-Int.natCast_add,go_sem,d,U]<;>first|exact⟨rfl,rfl⟩|exact rfl) ?_;refine gT ?_;cases R:cy s.lot 1 1000000 with
    |false=>rw[ci,if_neg Bool.false_ne_true];exact c _ (by rw[R];simp)
    |true=>
    rw[R]at c;rw[ci,if_pos rfl];refine ck (by simp[-Int.natCast_add,go_sem,d,P]<;>first|exact⟨rfl,rfl⟩|exact rfl) ?_;refine ck (by simp[-Int.natCast_add,go_sem,d,P]<;>first|exact⟨rfl,rfl⟩|exact rfl) ?_;refine gT ?_;cases L:cy s.band 0 10000000 with
    |false=>rw[ci,if_neg Bool.false_ne_true];exact c _ (by rw[L];simp)
    |true=>
    rw[L]at c;rw[ci,if_pos rfl];refine ck (by simp[-Int.natCast_add,go_sem,d,T]<;>first|exact⟨rfl,rfl⟩|exact rfl) ?_;refine ck (by simp[-Int.natCast_add,go_sem,d,T]<;>first|exact⟨rfl,rfl⟩|exact rfl) ?_;refine gT ?_;cases O:cy s.limit 1 10000000 with
    |false=>rw[ci,if_neg Bool.false_ne_true];exact c _ (by rw[O];simp)
    |true=>
    rw[O]at c;rw[ci,if_pos rfl];refine ck (by simp[-Int.natCast_add,go_sem,d,r]<;>first|exact⟨rfl,rfl⟩|exact rfl) ?_;refine ck (by simp[-Int.natCast_add,go_sem,d,r]<;>first|exact⟨rfl,rfl⟩|exact rfl) ?_;refine gT ?_;cases S:cy s.credit 0 10000000 with
    |false=>rw[ci,if_neg Bool.false_ne_true];exact c _ (by rw[S];simp)
    |true=>
    rw[S]at c;rw[ci,if_pos rfl];refine ck (by simp[-Int.natCast_add,go_sem,d,A]<;>first|exact⟨rfl,rfl⟩|exact rfl) ?_;refine ck (by simp[-Int.natCast_add,go_sem,d,A]<;>first|exact⟨rfl,rfl⟩|exact rfl) ?_;refine ck (by simp[-Int.natCast_add,go_sem,d,o]<;>first|exact⟨rfl,rfl⟩|exact rfl) ?_;refine ck (by simp[-Int.natCast_add,go_sem,d,o]<;>first|exact⟨rfl,rfl⟩|exact rfl) ?_;have ht:=of_decide_eq_true D;refine vo (by omega) ?_;exact c _ (by simp)
def QC(s:Sp):(dl s)[2]? =some (.int .i64 s.tick):=rfl
def RD(s:Sp):(dl s)[3]? =some (.int .i64 s.lot):=rfl
def Ke(s:Sp)(w:World):∃a,(Instr.box 38 (.agg (dl s).toArray)).run Tryz.prog w=.ok (.pointer (some ⟨w.heap.size,0,none⟩)) a/\hp a w.heap.size=some (.cells (dl s).toArray 38 (0,0))/\cl (λ_=>False) w a:=
 ⟨w.alloc (.cells (dl s).toArray 38),rfl,by simp[go_sem],(cl.refl _ w).alloc _⟩
def At.all{w:World}{b:Nat}{l:List Value}{T:TypeId}{a:Nat×Nat}(h:hp w b=some (.cells l.toArray T a)):At w b 0 l:=⟨_,_,_,h,by simp,by simp⟩
def Sp.may_tick{s:Sp}(h:s.may=true):1<=s.tick/\1<=s.lot/\0<=s.band/\1<=s.limit/\s.limit<=10000000/\s.band<=10000000/\s.lot<=1000000/\s.tick<=10000000:=by
 unfold Sp.may cy MP at h;simp only[Bool.and_eq_true,decide_eq_true_eq]at h;omega
def tW{s:Sp}{n:Int}{w:World}{K:cm}(h:s.Fit)(a:∀e,cl (λ_=>False) w e->K (.bool (s.isPrice n)) e):Ca Tryz.prog 127 #[.agg (dl s).toArray,.int .i64 n] w K:=by
 apply OT;obtain⟨j,i,d,g⟩:=Ke s w;refine ck i ?_;refine ey (dl s) 24 uS sm (cL s) (At.all d) ?_;refine nJ h λk c=>?_;have f:=c.hpk d id;unfold Sp.isPrice at a;cases b:s.may with
 |false=>
  rw[b]at a;rw[ci,if_neg Bool.false_ne_true];exact a _ (g.trans c)
 |true=>
  rw[b]at a;rw[ci,if_pos rfl];refine ck (by simp[-Int.natCast_add,go_sem,f]<;>first|exact⟨rfl,rfl⟩|exact rfl) ?_;refine ck (by simp[-Int.natCast_add,go_sem,f,QC]<;>first|exact⟨rfl,rfl⟩|exact rfl) ?_;refine vo (by have:=Sp.may_tick b;omega) ?_;exact a _ (g.trans c)
def Gg{s:Sp}{n:Int}{w:World}{K:cm}(m:s.Fit)(a:∀c,cl (λ_=>False) w c->K (.bool (s.isQty n)) c):Ca Tryz.prog 223 #[.agg (dl s).toArray,.int .i64 n] w K:=by
 apply O8;obtain⟨r,p,h,d⟩:=Ke s w;refine ck p ?_;refine ey (dl s) 24 uS sm (cL s) (At.all h) ?_;refine nJ m λl b=>?_;have k:=b.hpk h id;unfold Sp.isQty at a;cases g:s.may with
 |false=>
  rw[g]at a;rw[ci,if_neg Bool.false_ne_true];exact a _ (d.trans b)
 |true=>
  rw[g]at a;rw[ci,if_pos rfl];refine gT ?_;have i:=Sp.may_tick g;have j:¬s.lot=0:=by omega
  cases f:cy n 1 1000000 with
  |false=>
   rw[f]at a;rw[ci,if_neg Bool.false_ne_true];exact a _ (d.trans b)
  |true=>
   rw[f]at a;have q:=of_decide_eq_true f;rw[ci,if_pos rfl];refine ck (by simp[-Int.natCast_add,go_sem,k]<;>first|exact⟨rfl,rfl⟩|exact rfl) ?_;refine ck (by simp[-Int.natCast_add,go_sem,k,RD]<;>first|exact⟨rfl,rfl⟩|exact rfl) ?_
   have e:IntKind.i64.wrap (n.tmod s.lot)=n.tmod s.lot:=by
    have h1:=Int.emod_nonneg n j;have t:=Int.emod_lt_of_pos n (show 0<s.lot by omega);have o:n.tmod s.lot=n%s.lot:=Int.tmod_eq_emod_of_nonneg (by omega);rw[o,cV (by omega) (by omega)]
   refine ck (v:=.int .i64 (n.tmod s.lot)) (w' :=l) (by simp[go_sem,j,e]) ?_;refine ck (v:=.bool (decide (n.tmod s.lot=0))) (w' :=l) (by simp[go_sem];rw[Bool.eq_iff_iff];simp) ?_;have:=a _ (d.trans b);simpa using this
structure Ct where
 spec:Sp
 st:Int
 price:Int
 deriving DecidableEq
def Ct.Fit(k:Ct):Prop:=k.spec.Fit/\(0<=k.st/\k.st<256)/\eQ k.price
def dN(k:Ct):List Value:=dl k.spec++[.int .u8 k.st,.int .i64 k.price]
def cX(k:Ct):(dN k).length=27:=by simp[dN,cL]
def th(k:Ct):(dN k).all (·.oneCell')=true:=by
 rw[dN,List.all_append,lh];rfl
def PJ(k:Ct)(a:List Value):(dN k++a)[25]? =some (.int .u8 k.st):=by
 rw[List.getElem?_append_left (by rw[cX];omega),dN,List.getElem?_append_right (by rw[cL];omega),cL];rfl
def Oh(k:Ct)(a:List Value):(dN k++a)[26]? =some (.int .i64 k.price):=by
 rw[List.getElem?_append_left (by rw[cX];omega),dN,List.getElem?_append_right (by rw[cL];omega),cL];rfl
end Go.Proofs
namespace Go.Vc
open Go Go.Vc
end Go.Vc
namespace Go.Vc
open Go Go.Vc
def xm{P:Program}{t u ty e s:TypeId}{sz:Nat}{w:World}{K:cm}{b off n m cap:Nat}{C:Array Value}{T:TypeId}{x:Value}{a:List Value}
  (p:P.underlying t=some (.slice e))(y:P.underlying u=some (.slice s))(A:P.cellsOf e=sz+1)(q:w.heap[b]? =some (.cells C T (0,0)))(c:n+m<=cap)
  (l:Rd w (sz+1) x m a)(h1:a.all (·.oneCell')=true)(h:off+(n+m)*(sz+1)<=C.size)
  (r:K (.slice (some ⟨b,off,none⟩) (n+m) cap) (w.setRow b (iL C.toList (off+n*(sz+1)) a).toArray)):rx P (cv #[t,u] ty [.slice (some ⟨b,off,none⟩) n cap,x]) w K:=by
 obtain⟨i,z,j⟩:=jM (n:=sz) A;have g:a.length=m*(sz+1):=l.1;have k:=l.first (P:=P) (Nat.succ_pos _);have d:=run_storeCells_at P b (off+n*(sz+1)) T a 0 C w q (by simp only[g];rw[Nat.add_mul]at h;omega) (jw h1);simp only[Nat.add_zero]at d;refine fM (v:=.slice (some ⟨b,off,none⟩) (n+m) cap) (w' :=w.setRow b (iL C.toList (off+n*(sz+1)) a).toArray) ?_ r;have o:(⟨b,off,none⟩:Addr).add (n*(sz+1))=⟨b,off+n*(sz+1),none⟩:=by rw[cC]
 unfold iL;simp[cv,Builtin.append_,run_underlying p,sizeOf,typeInfo,z,j,run_underlying y,l.lenOf,Result.andThen,k,c];rw[o,d];simp[List.append_assoc]
def pT{P:Program}{C sT ty e:TypeId}{sz:Nat}{w:World}{K:cm}{g o j r d k:Nat}{q:Value}{all:List Value}{l:Array Value}{t:TypeId}
  (L:P.underlying C=some (.slice e))(M:P.cellsOf e=sz+1)(E:w.heap[g]? =some (.cells l t (0,0)))(m:Rd w (sz+1) q d all)(y:k=Nat.min d j)
  (u:o+k*(sz+1)<=l.size)(h1:all.all (·.oneCell')=true)(G:K (.int .i64 k) (w.setRow g (iL l.toList o (all.take (k*(sz+1)))).toArray)):
  rx P (rR #[C,sT] ty [.slice (some ⟨g,o,none⟩) j r,q]) w K:=by
 obtain⟨i,N,A⟩:=jM (n:=sz) M;have I:all.length=d*(sz+1):=m.1;have x:k<=d:=by rw[y];exact Nat.min_le_left _ _
 have D:k*(sz+1)<=d*(sz+1):=Nat.mul_le_mul_right _ x;have s:(all.take (k*(sz+1))).length=k*(sz+1):=by rw[List.length_take,I];omega
 have B:∀v∈all.take (k*(sz+1)),v.oneCell' =true:=λv O=>jw h1 v (List.mem_of_mem_take O);have p:=run_storeCells_at P g o t (all.take (k*(sz+1))) 0 l w E (by rw[s];simpa using u) B;simp only[Nat.add_zero]at p
 have h:(Builtin.firstCells (sz+1) k q).run P w=.ok (all.take (k*(sz+1))).toArray w:=by
  obtain⟨_,⟨Q,a,c,rfl⟩|⟨b,H,F,rfl,R,J⟩⟩:=m
  ·have z:k=0:=by omega
   subst z;cases a<;>simp[Builtin.firstCells,loadCells,loadCellsFrom]
  ·have:=(J.sub 0 (k*(sz+1)) (by omega)).loads (P:=P);simp only[List.drop_zero,Nat.add_zero,s]at this;simpa [Builtin.firstCells]using this
 refine fM (v:=goInt (Nat.min d j)) (w' :=w.setRow g (iL l.toList o (all.take (k*(sz+1)))).toArray) ?_ (by rw[<-y];exact G);rw[y]at h p|-;simp[rR,Builtin.copy_,run_underlying L,m.lenOf,sizeOf,typeInfo,N,A,Result.andThen,h,p,iL]
def Cs{P:Program}{t ty e:TypeId}{sz:Nat}{w:World}{K:cm}{g o n c:Nat}{a:Array Value}{T:TypeId}{p:Nat}(s:P.underlying t=some (.slice e))(A:pg P e (sz+1) p)
  (u:w.heap[g]? =some (.cells a T (0,0)))(h:o+n*(sz+1)<=a.size)
  (k:∀z:List Value,z.length=n*(sz+1)->z.all (·.oneCell')=true->K (.tuple #[]) (w.setRow g (iL a.toList o z).toArray)):
  rx P (tp #[t] ty [.slice (some ⟨g,o,none⟩) n c]) w K:=by
 obtain⟨⟨i,z,D,y,x,B,j,l⟩,d,q⟩:=A;have r:(Builtin.zeroCells z.cells n).toList.length=n*(sz+1):=by rw[jK,j]
 have h1:=jH l (by rw[j];exact d) n;have k:=k _ r h1;have b:=run_storeCells_at P g o T (Builtin.zeroCells z.cells n).toList 0 a w u (by rw[r];simpa using h) (jw h1);simp only[Nat.add_zero]at b;refine fM (v:=.tuple #[]) (w' :=w.setRow g (iL a.toList o (Builtin.zeroCells z.cells n).toList).toArray) ?_ k;cases n with
 |zero=>
  have e:(Builtin.zeroCells z.cells 0).toList=[]:=List.eq_nil_of_length_eq_zero (by rw[r];simp);rw[e];have C:=setRow_self w g a T (0,0) u;simp[tp,Builtin.clear_,run_underlying s,Result.andThen,iL,C]
 |succ m=>simp[tp,Builtin.clear_,run_underlying s,zeroValue,typeInfo,D,y,Result.andThen,b,iL]
def yG{P:Program}{t u ty e:TypeId}{ku:IntKind}{sz q:Nat}{w:World}{K:cm}{s:Value}{n m:Nat}{cs:List Value}
  (W:P.underlying t=some (.slice e))(hu:P.underlying u=some (.int ku))(hE:pg P e (sz+1) q)
  (X:dW w e (sz+1) s n cs)(E:(n+m)*q<=140737488355328)
  (hK:∀s' J z,z.length=m*(sz+1)->z.all (·.oneCell')=true->dW J e (sz+1) s' (n+m) (cs++z)->cl (co s) w J->(∀b,co s' b->co s b\/w.heap.size<=b)->(∀a c,s=.slice a n c->c<n+m->cl (λ_=>False) w J/\∀b,co s' b->w.heap.size<=b)->K s' J):
  rx P (cv #[t,u] ty [s,.int .i64 (m:Int)]) w K:=by
 obtain⟨⟨i,z,hi,hz,r,T,x,V⟩,o,M⟩:=hE;have hneed:n+m<=140737488355328:=Nat.le_trans (Nat.le_mul_of_pos_right _ M) E;have hmb:m*q<=140737488355328:=Nat.le_trans (Nat.mul_le_mul_right _ (by omega)) E;have g:cs.length=n*(sz+1):=X.1;have B:(Builtin.zeroCells z.cells m).toList.length=m*(sz+1):=by rw[jK,x]
 have h1:=jH V (by rw[x];exact o) m;have l:IntKind.i64.wrap (m:Int)=(m:Int):=by rw[IntKind.wrap_i64];omega
 have A:¬(m:Int)<0:=by omega
 have D:¬(281474976710656:Int)<(m:Int)*(i.bytes:Int):=by
  rw[T,<-Int.natCast_mul];omega
 obtain⟨h,d,hsv,O,C⟩:∃h d,s=.slice h n d/\n<=d/\((h=none/\n=0/\d=0/\cs=[])\/∃b rest,h=some ⟨b,0,none⟩/\w.heap[b]? =some (.cells (cs++rest).toArray e (0,0))/\rest.length=(d - n)*(sz+1)/\rest.all (·.oneCell')=true):=by
  rcases X.2 with⟨rfl,rfl⟩|⟨b,d,rest,rfl,hc,F,hr⟩
  ·exact⟨none,0,rfl,Nat.le_refl _,.inl ⟨rfl,rfl,rfl,by simpa using g⟩⟩
  ·exact⟨_,d,rfl,hc,.inr ⟨b,rest,rfl,F,hr⟩⟩
 subst hsv;obtain⟨L,Y⟩:∃L:Int,(m:Int)=L:=⟨_,rfl⟩
 rw[Y];rw[Y]at l;have l:IntKind.i64.wrap L=(m:Int):=l.trans Y.symm;clear Y;generalize hZ:Builtin.zeroCells z.cells m=Z at B h1;by_cases h0:m=0
 ·subst h0;have hZ0:Z= #[]:=Array.eq_empty_of_size_eq_zero (by rw[<-Array.length_toList,B];simp);refine fM (v:=.slice h n d) (w' :=w) ?_ (hK _ _ [] (by simp) rfl (by simpa using X) (cl.refl _ _) (λb E=>.inl E) λa c he R=>by injection he with e1 e2 e3;omega);rcases C with⟨rfl,rfl,rfl,rfl⟩|⟨b,rest,rfl,F,G,Q⟩
  ·simp[cv,Builtin.append_,run_underlying W,sizeOf,typeInfo,hi,r,run_underlying hu,Result.andThen,asInt,asIntOf,l]
  ·have k:=run_storeCells_at P b (n*(sz+1)) e [] 0 (cs++rest).toArray w F (by simp[g]) (by simp);simp only[Nat.add_zero]at k;have N:=setRow_self w b (cs++rest).toArray e (0,0) F;have e0:(⟨b,0,none⟩:Addr).add (n*(sz+1))=⟨b,n*(sz+1),none⟩:=by rw[cC];simp
   have hnc:¬d<n:=by omega
   simp at k;simp[cv,Builtin.append_,run_underlying W,sizeOf,typeInfo,hi,r,run_underlying hu,Result.andThen,asInt,asIntOf,l,O,e0,k];simpa using N
 have U:¬m*(sz+1)=0:=by
  rw[Nat.mul_eq_zero];omega
 by_cases j:n+m<=d
 ·rcases C with⟨rfl,rfl,rfl,rfl⟩|⟨b,rest,rfl,F,G,Q⟩
  ·omega
  ·have k:=run_storeCells_at P b (n*(sz+1)) e Z.toList 0 (cs++rest).toArray w F (by
    simp only[List.size_toArray,List.length_append,g,G,B];have:=Nat.mul_le_mul_right (sz+1) j;rw[Nat.add_mul]at this;rw[Nat.sub_mul];omega) (jw h1)
   simp only[Nat.add_zero]at k
   have I:(cs++rest).take (n*(sz+1))++Z.toList++(cs++rest).drop (n*(sz+1)+Z.toList.length)=(cs++Z.toList)++rest.drop Z.toList.length:=by
    rw[<-g];simp[List.append_assoc]
   refine fM (v:=.slice (some ⟨b,0,none⟩) (n+m) d) (w' :=w.setRow b ((cs++Z.toList)++rest.drop Z.toList.length).toArray) ?_ (hK _ _ Z.toList B h1 ⟨?_,.inr ⟨b,d,rest.drop Z.toList.length,rfl,j,?_,?_,?_⟩⟩ ?_ ?_ λa c he R=>by injection he with e1 e2 e3;omega)
   ·simp only[I]at k;have e0:(⟨b,0,none⟩:Addr).add (n*(sz+1))=⟨b,n*(sz+1),none⟩:=by rw[cC];simp
    simp[cv,Builtin.append_,run_underlying W,sizeOf,typeInfo,zeroValue,hz,hi,r,run_underlying hu,Result.andThen,asInt,asIntOf,l,j,e0,A,D,h0,hZ,k];have y:=k;simp at y;rw[if_neg U];simp only;rw[y]
   ·rw[List.length_append,g,B,Nat.add_mul]
   ·rw[dx,if_pos rfl,F]
   ·rw[List.length_drop,G,B,<-Nat.sub_mul];congr 1;omega
   ·exact List.all_eq_true.2 λv hv=>List.all_eq_true.1 Q v (List.mem_of_mem_drop hv)
   ·exact(cl.refl (co (.slice (some ⟨b,0,none⟩) n d)) w).setRow (.inl (show co _ b from rfl)) _
   ·intro b' H;exact .inl H
 ·have hfit:=growslice_fits (old:=d) (need:=n+m) (bytes:=q) (by omega) E;have h48:¬(281474976710656<Builtin.nextslicecap (n+m) d*i.bytes):=by rw[T];omega
  have h63:¬(9223372036854775807<((n:Int)+(m:Int))):=by omega
  have p:n+m<=grownCap w (n+m) d e:=by simp[grownCap,Question.cut]
  have hrs:Rd w.drew (sz+1) (.slice h n d) n cs:=X.rd.keep λ_ _=>rfl;have hf1:=hrs.first (P:=P) o
  refine fM (v:=.slice (some ⟨w.heap.size,0,none⟩) (n+m) (grownCap w (n+m) d e))
   (w' :=w.drew.alloc (.cells (cs.toArray++Z++Builtin.zeroCells z.cells (grownCap w (n+m) d e - (n+m))) e)) ?_ (hK _ _ Z.toList B h1 ⟨?_,.inr ⟨w.heap.size,_,(Builtin.zeroCells z.cells (grownCap w (n+m) d e - (n+m))).toList,rfl,p,?_,?_,?_⟩⟩ ?_ ?_ λa c he R=>⟨((cl.refl _ w).drew).alloc _,λb E=>by cases E;exact Nat.le_refl _⟩)
  ·simp[cv,Builtin.append_,run_underlying W,sizeOf,typeInfo,zeroValue,hi,hz,r,run_underlying hu,Result.andThen,asInt,asIntOf,l,A,D,h0,j,h63,h48,Question.forced,hf1,newRow,grownCap,hZ];rw[if_neg U];rfl
  ·rw[List.length_append,g,B,Nat.add_mul]
  ·rw[cY,if_pos (show w.heap.size=w.drew.heap.size from rfl)];simp
  ·rw[jK,x]
  ·exact jH V (by rw[x];exact o) _
  ·exact((cl.refl _ w).drew).alloc _
  ·rintro b' H;cases H;exact .inr (Nat.le_refl _)
section
variable{α:Type}{f:α->List Value}{S:Nat}
def PW(a:∀x,(f x).length=S):∀(l:List α) (i:Nat),(l.flatMap f).take (i*S)=(l.take i).flatMap f
 | [],i=>by simp
 |x::l,0=>by simp
 |x::l,i+1=>by
  have e:(i+1)*S=(f x).length+i*S:=by rw[a x,Nat.add_mul];omega
  rw[List.flatMap_cons,List.take_succ_cons,List.flatMap_cons,e,List.take_length_add_append,PW a l i]
def P3(a:∀x,(f x).length=S):∀(l:List α) (i:Nat),(l.flatMap f).drop (i*S)=(l.drop i).flatMap f
 | [],i=>by simp
 |x::l,0=>by simp
 |x::l,i+1=>by
  have e:(i+1)*S=(f x).length+i*S:=by rw[a x,Nat.add_mul];omega
  rw[List.flatMap_cons,List.drop_succ_cons,e,<-List.drop_drop,List.drop_left,P3 a l i]
def AH(a:∀x,(f x).length=S)(l:List α):(l.flatMap f).length=l.length*S:=kw f S l λx _=>a x
def HQ(a:∀x,(f x).all (·.oneCell')=true)(l:List α):(l.flatMap f).all (·.oneCell')=true:=by
 rw[List.all_flatMap,List.all_eq_true];exact λx _=>a x
def Rd.item{w:World}{v:Value}{n:Nat}{l:List α}(d:∀x,(f x).length=S)(h:Rd w S v n (l.flatMap f)){i:Nat}(hi:i<l.length)(o:n=l.length):
  ∃b c a,v=.slice (some ⟨b,c,none⟩) n a/\n<=a/\At w b (c+i*S) (f l[i]):=by
 obtain⟨m,⟨k,_⟩|⟨b,c,a,rfl,j,e⟩⟩:=h
 ·omega
 ·refine⟨b,c,a,rfl,j,?_⟩;have g:(i+1)*S<=l.length*S:=Nat.mul_le_mul_right S hi;rw[Nat.add_mul]at g;have:=e.sub (i*S) S (by rw[AH d];omega)
  rwa[jd f S l i (λx _=>d x) hi]at this
end
def dW.pos{w:World}{e:TypeId}{sz:Nat}{v:Value}{n:Nat}{cs:List Value}(h:dW w e sz v n cs)(d:0<n):
  ∃b a rest,v=.slice (some ⟨b,0,none⟩) n a/\n<=a/\w.heap[b]? =some (.cells (cs++rest).toArray e (0,0))/\rest.length=(a - n)*sz/\(rest.all (·.oneCell')=true):=by
 obtain⟨c,⟨rfl,rfl⟩|h⟩:=h
 ·omega
 ·exact h
def KI{P:Program}{t e:TypeId}{b n cap hi:Nat}{sz:Nat}{kh:IntKind}(d:P.underlying t=some (.slice e))(g:P.cellsOf e=sz+1)(h:hi<=cap)(i:0<cap)(W:World):
  (Instr.sliceAt t (.slice (some ⟨b,0,none⟩) n cap) none (some (.int kh (hi:Int))) none).run P W=.ok (.slice (some ⟨b,0,none⟩) hi cap) W:=by
 obtain⟨a,c⟩:=iB d;rw[run_sliceAt_slice W t _ _ _ _ a,run_slice_h W t _ n cap a kh hi (by omega) (by omega),c,fX g];simp only[Result.andThen,sliced,Int.toNat_natCast,Nat.zero_mul,Nat.sub_zero];rw[if_neg (by omega),Option.map_some,cC]
def LY{P:Program}{t e:TypeId}{b n cap lo hi:Nat}{sz:Nat}{kl kh:IntKind}(c:P.underlying t=some (.slice e))(g:P.cellsOf e=sz+1)(h1:lo<=hi)(h:hi<=cap)(i:lo<cap)(W:World):
  (Instr.sliceAt t (.slice (some ⟨b,0,none⟩) n cap) (some (.int kl (lo:Int))) (some (.int kh (hi:Int))) none).run P W=.ok (.slice (some ⟨b,lo*(sz+1),none⟩) (hi - lo) (cap - lo)) W:=by
 obtain⟨a,d⟩:=iB c;rw[run_sliceAt_slice W t _ _ _ _ a,run_slice_lh W t _ n cap a kl kh lo hi (by omega) (by omega) (by omega),d,fX g];simp only[Result.andThen,sliced,Int.toNat_natCast];rw[if_neg (by omega),Option.map_some,cC,Nat.zero_add]
def Ax{P:Program}{t e:TypeId}{b n cap lo:Nat}{sz:Nat}{kl:IntKind}(d:P.underlying t=some (.slice e))(g:P.cellsOf e=sz+1)(h1:lo<=n)(h:n<=cap)(i:lo<cap)(W:World):
  (Instr.sliceAt t (.slice (some ⟨b,0,none⟩) n cap) (some (.int kl (lo:Int))) none none).run P W=.ok (.slice (some ⟨b,lo*(sz+1),none⟩) (n - lo) (cap - lo)) W:=by
 obtain⟨a,c⟩:=iB d;rw[run_sliceAt_slice W t _ _ _ _ a,run_slice_l W t _ n cap a kl lo (by omega) (by omega),c,fX g];simp only[Result.andThen,sliced,Int.toNat_natCast];rw[if_neg (by omega),Option.map_some,cC,Nat.zero_add]
def Lb{P:Program}{t e:TypeId}{a:Option Addr}{n cap lo hi mx:Nat}{sz:Nat}{kl kh km:IntKind}(g:P.underlying t=some (.slice e))(d:P.cellsOf e=sz+1)(h1:lo<=hi)(i:hi<=mx)(j:mx<=cap)(W:World):
  ∃v,(Instr.sliceAt t (.slice a n cap) (some (.int kl (lo:Int))) (some (.int kh (hi:Int))) (some (.int km (mx:Int)))).run P W=.ok v W:=by
 obtain⟨b,h⟩:=iB g;have c:=run_slice_lhm W t a n cap b kl kh km lo hi mx (by omega) (by omega) (by omega) (by omega);rw[h,fX d]at c;exact⟨_,(run_sliceAt_slice W t _ _ _ _ b).trans c⟩
end Go.Vc
