/- Part of a proof. -/
import Derived.Test.YtgebhcgmckjbbaaGreatB11
set_option linter.all false
namespace Go.Proofs
open Go Go.Vc
attribute [local congr] cr
def BE:Tryz.prog.underlying 63=some (.map 35 109):=by kernel_rfl
def BF:Tryz.prog.underlying 64=some (.map 35 133):=by kernel_rfl
def QP:jL Tryz.prog 109=some (.pointer none):=by kernel_rfl
def Nb:jL Tryz.prog 133=some cF:=by kernel_rfl
section
variable{v c l mb md:Nat}{n:Int}
abbrev pq(W:World)(v c l mb md:Nat)(n:Int):Prop:=hp W v=some (.cells #[dK c,dm l,.map (some mb),.map (some md),.int .u64 n] pl (0,0))
def Kj(W:World)(h:pq W v c l mb md n):(Instr.loadAt 61 (.pointer (some ⟨v,0,none⟩))).run Tryz.prog W=.ok (dK c) W:=by simp[go_sem,h,dK]
def uC(W:World)(h:pq W v c l mb md n):(Instr.loadAt 62 (.pointer (some ⟨v,1,none⟩))).run Tryz.prog W=.ok (dm l) W:=by simp[go_sem,h,dm]
def KC(W:World)(h:pq W v c l mb md n):(Instr.loadAt 63 (.pointer (some ⟨v,2,none⟩))).run Tryz.prog W=.ok (.map (some mb)) W:=by simp[go_sem,h]
def Hm(W:World)(h:pq W v c l mb md n):(Instr.loadAt 64 (.pointer (some ⟨v,3,none⟩))).run Tryz.prog W=.ok (.map (some md)) W:=by simp[go_sem,h]
def nh(W:World)(h:pq W v c l mb md n):(Instr.loadAt 27 (.pointer (some ⟨v,4,none⟩))).run Tryz.prog W=.ok (.int .u64 n) W:=by simp[go_sem,h]
def jX(i:Nat)(hi:i<5)(W:World):(Instr.fieldAt pl (.pointer (some ⟨v,0,none⟩)) i).run Tryz.prog W=.ok (.pointer (some ⟨v,i,none⟩)) W:=by
 rcases(show i=0\/i=1\/i=2\/i=3\/i=4 by omega)with rfl|rfl|rfl|rfl|rfl<;>simp[go_sem]
end
def rj{w:World}{K:cm}{v c l mb md:Nat}{n:Int}(h:pq w v c l mb md n)(a:K (.bool true) w):Ca Tryz.prog 40 #[eh v] w K:=by
 apply RM;unfold eh;refine ck (v:=.bool true) (by simp[go_sem]<;>first|exact⟨rfl,rfl⟩|exact rfl) ?_;rw[ci,if_pos rfl];simp only[cw];refine ck (jX 1 (by omega) _) (ck (uC _ h) ?_);refine ck (v:=.bool true) (w' :=w) (by simp[go_sem,dm]) ?_;exact a
def wY(S:dF)(C:List (Int×Nat))(D:List (Int×Value)):dF:=
 {S with bk:=λn=>if(lk C n).isSome then S.bk n else Bk.empty,bd:=λn=>if(lk D n).isSome then S.bd n else []}
def gL{w W:World}{K:cm}{S:dF}{c l mb md:Nat}{o Fl:Nat->Prop}{ac r i s:Nat}(m:cl (λ_=>False) w W)(C:nG W c o S.cal)(A:iC W l Fl S.led)(B:cU d8 eY W mb ([]:List (Int×Nat)))(D:cU d8 uK W md ([]:List (Int×Value)))
  (bc:∀x,o x->ac<=x/\x<r)(g:∀x,Fl x->i<=x/\x<s)(L:w.heap.size<=ac/\w.heap.size<=i/\w.heap.size<=mb/\w.heap.size<=md)
  (d1:r<=i\/s<=ac)(d2:mb<ac\/r<=mb)(d3:md<ac\/r<=md)(O:mb<i\/s<=mb)(N:md<i\/s<=md)(M:mb≠md)
  (H:∀z t j,iV t z c l mb md [] [] j (wY S [] [])->cl (λ_=>False) w t->(∀p x,j p x->w.heap.size<=x)->K (eh z) t):
  rv Tryz.prog (Instr.box pl (.agg #[dK c,dm l,.map (some mb),.map (some md),.int .u64 S.next])) W K:=by
 obtain⟨v,E⟩:∃v,v=W.heap.size:=⟨_,rfl⟩
 have f:cl (λ_=>False) W (W.alloc (.cells #[dK c,dm l,.map (some mb),.map (some md),.int .u64 S.next] pl)):=(cl.refl _ W).alloc _;have y:pq (W.alloc (.cells #[dK c,dm l,.map (some mb),.map (some md),.int .u64 S.next] pl)) v c l mb md S.next:=by show hp _ _=_;rw[E];simp[go_sem]
 refine ck (v:=eh v) (w' :=W.alloc (.cells #[dK c,dm l,.map (some mb),.map (some md),.int .u64 S.next] pl)) (by rw[E];rfl) ?_;generalize W.alloc (.cells #[dK c,dm l,.map (some mb),.map (some md),.int .u64 S.next] pl)=I at f y|-;have J:=m.size;let k:Pt->Nat->Prop:=λp=>match p with| .v=>λx=>x=v| .cal=>o| .led=>Fl| .mb=>λx=>x=mb| .md=>λx=>x=md| .bk _=>λ_=>False| .bd _=>λ_=>False
 have u:∀x,o x->x<W.heap.size:=λx e=>C.lt e;have F:∀x,Fl x->x<W.heap.size:=λx e=>A.lt e;have lb:=B.lt;have ld:=D.lt;refine H v I k {blk:=y,cal:=C.mod f λ_ _ h=>h,led:=A.mod f λ_ _ h=>h,mbk:=B.mod f id,mbd:=D.mod f id,bk:=λn b G=>(by cases G),nbk:=λn _=>⟨rfl,λ_ h=>h⟩,bd:=λn=>dW.nil _ _ _,fv:=λ_=>Iff.rfl,fmb:=λ_=>Iff.rfl,fmd:=λ_=>Iff.rfl,fbd:=λn x=>⟨λh=>h.elim,λh=>(by cases h)⟩,dj:=?_} (m.trans f) ?_
 ·have key:∀p q x,k p x->k q x->(match p,q with| .v,.v=>True| .cal,.cal=>True| .led,.led=>True| .mb,.mb=>True| .md,.md=>True|_,_=>False):=by
   intro p q x hp d;cases p<;>cases q<;>first|trivial|exact hp.elim|exact d.elim|skip
   all_goals (simp only[k]at hp d)
   all_goals first
    |(have a:=bc x hp;have b:=g x d;omega)
    |(have a:=g x hp;have b:=bc x d;omega)
    |(have a:=bc x hp;have b:=u x hp;omega)
    |(have a:=g x hp;have b:=F x hp;omega)
    |(have a:=bc x d;have b:=u x d;omega)
    |(have a:=g x d;have b:=F x d;omega)
    |omega
  intro p q x hp d;have:=key p q x hp d;cases p<;>cases q<;>first|rfl|exact this.elim|exact hp.elim|exact d.elim
 ·intro p x e;cases p
  ·have:x=v:=e;omega
  ·have:=bc x e;omega
  ·have:=g x e;omega
  ·have:x=mb:=e;omega
  ·have:x=md:=e;omega
  ·exact e.elim
  ·exact e.elim
def HY(S:dF):wY S [] []={S with bk:=λ_=>Bk.empty,bd:=λ_=>[]}:=rfl
def IS{w:World}{K:cm}(D:∀v F j,kQ j v F dF.empty->cl (λ_=>False) w j->(∀x,F x->w.heap.size<=x)->K (eh v) j):Ca Tryz.prog 10 #[] w K:=by
 apply Rh;refine CT λc H y g A I=>?_;have O:=A.size;have bc:∀x,H x->w.heap.size<=x/\x<y.heap.size:=λx i=>⟨I x i,g.lt i⟩
 refine zH λe l Fl k t G=>?_;have M:=t.size;have C:∀x,Fl x->y.heap.size<=x/\x<e.heap.size:=λx i=>⟨G x i,k.lt i⟩
 replace g:=g.mod t λ_ _ h=>h;obtain⟨nb,s⟩:∃nb,nb=e.heap.size:=⟨_,rfl⟩
 have o:cl (λ_=>False) e (e.alloc (.map #[] 0)):=(cl.refl _ e).alloc _;have q:cU d8 eY (e.alloc (.map #[] 0)) nb ([]:List (Int×Nat)):=by rw[s];exact cU.new e
 refine ck (v:=.map (some nb)) (w' :=e.alloc (.map #[] 0)) (by rw[s];simp[go_sem]) ?_;generalize e.alloc (.map #[] 0)=f at o q|-;have P:=o.size;have L:=q.lt;replace g:=g.mod o λ_ _ h=>h;replace k:=k.mod o λ_ _ h=>h;obtain⟨nd,r⟩:∃nd,nd=f.heap.size:=⟨_,rfl⟩
 have m:cl (λ_=>False) f (f.alloc (.map #[] 0)):=(cl.refl _ f).alloc _;have z:cU d8 uK (f.alloc (.map #[] 0)) nd ([]:List (Int×Value)):=by rw[r];exact cU.new f
 refine ck (v:=.map (some nd)) (w' :=f.alloc (.map #[] 0)) (by rw[r];simp[go_sem]) ?_;generalize f.alloc (.map #[] 0)=E at m z|-;have N:=m.size;replace g:=g.mod m λ_ _ h=>h;replace k:=k.mod m λ_ _ h=>h;replace q:=q.mod m id;refine ck (v:=.agg #[dK c,dm l,.map (some nb),.map (some nd),.int .u64 1]) (w' :=E) (by simp[go_sem,dK,dm]) ?_;refine gL (S:=dF.empty) (((A.trans t).trans o).trans m) g k q z bc C (by omega) (by omega) (by omega) (by omega) (by omega) (by omega) (by omega) λB J u a b d=>?_;refine D B _ J ⟨_,_,_,_,_,_,u,⟨a,λn=>rfl,λn h=>(by cases h)⟩,λ_=>Iff.rfl⟩ b λx i=>?_;obtain⟨p,hp⟩:=i;exact d p x hp
structure tj{ν ν' :Type}(A R:List (Int×ν))(C:List (Int×ν')):Prop where
 sub:R.Sublist A
 has:∀k,(lk C k).isSome=true↔(lk A k).isSome=true/\k ∉ R.map (·.1)
def tj.init{ν d:Type}(A:List (Int×ν)):tj A A ([]:List (Int×d)):=⟨List.Sublist.refl _,λk=>⟨λh=>(by cases h),λh=>by
 refine absurd ?_ h.2;cases a:lk A k with
 |none=>rw[a]at h;cases h.1
 |some b=>exact List.mem_map.2 ⟨_,wv a,rfl⟩⟩⟩
def tj.step{ν m:Type}{A R:List (Int×ν)}{C:List (Int×m)}(h:tj A R C)(q:(A.map (·.1)).Nodup){i:Nat}{p:Int×ν}(hp:R[i]? =some p)(b:m):
  tj A (R.eraseIdx i) (put C p.1 b)/\lk A p.1=some p.2/\lk C p.1=none:=by
 have r:p∈R:=List.mem_of_getElem? hp;have o:=qS q (h.sub.mem r);have s:(R.map (·.1)).Nodup:=q.sublist (h.sub.map _);have a:=iu hp
 have d:∀k,k∈R.map (·.1)↔k=p.1\/k∈(R.eraseIdx i).map (·.1):=λk=>by
  rw[(a.map (·.1)).mem_iff,List.map_cons,List.mem_cons]
 have j:p.1 ∉ (R.eraseIdx i).map (·.1):=by
  have:=(a.map (·.1)).nodup_iff.1 s;rw[List.map_cons,List.nodup_cons]at this;exact this.1
 refine⟨⟨(List.eraseIdx_sublist _ _).trans h.sub,λk=>?_⟩,o,?_⟩
 ·rw[lD];by_cases g:p.1=k
  ·subst g;rw[if_pos rfl];exact⟨λ_=>⟨by rw[o];rfl,j⟩,λ_=>rfl⟩
  ·rw[if_neg g,h.has,d];constructor
   ·exact λ⟨h1,f⟩=>⟨h1,λe=>f (.inr e)⟩
   ·refine λ⟨h1,f⟩=>⟨h1,λe=>?_⟩
    rcases e with e|e
    ·exact g e.symm
    ·exact f e
 ·cases e:lk C p.1 with
  |none=>rfl
  |some x=>
   have:=(h.has p.1).1 (by rw[e];rfl);exact absurd ((d p.1).2 (.inl rfl)) this.2
def tj.done{ν a:Type}{A:List (Int×ν)}{C:List (Int×a)}(h:tj A [] C)(k:Int):(lk C k).isSome=(lk A k).isSome:=by
 have:=h.has k;rw[Bool.eq_iff_iff,this];simp
def KL(S:dF)(C:List (Int×Nat))(D:List (Int×Value))(n:Int)(b:Nat):{wY S C D with bk:=fV (wY S C D).bk n (S.bk n)}=wY S (put C n b) D:=by
 have e:fV (wY S C D).bk n (S.bk n)=(wY S (put C n b) D).bk:=by
  funext m;show fV _ n (S.bk n) m=if(lk (put C n b) m).isSome=true then S.bk m else Bk.empty
  rw[lD];by_cases a:m=n
  ·subst a;rw[dJ,if_pos rfl];rfl
  ·have d:¬n=m:=λe=>a e.symm;rw[eB _ _ _ a,if_neg d];rfl
 rw[e];rfl
def LV(S:dF)(C:List (Int×Nat))(D:List (Int×Value))(n:Int)(x:Value):{wY S C D with bd:=fV (wY S C D).bd n (S.bd n)}=wY S C (put D n x):=by
 have e:fV (wY S C D).bd n (S.bd n)=(wY S C (put D n x)).bd:=by
  funext m;show fV _ n (S.bd n) m=if(lk (put D n x) m).isSome=true then S.bd m else []
  rw[lD];by_cases a:m=n
  ·subst a;rw[dJ,if_pos rfl];rfl
  ·have b:¬n=m:=λe=>a e.symm;rw[eB _ _ _ a,if_neg b];rfl
 rw[e];rfl
set_option maxRecDepth 10000 in
set_option maxHeartbeats 2000000 in
def yk{w:World}{K:cm}{v c l mb md:Nat}{A:List (Int×Nat)}{D:List (Int×Value)}{fp:Pt->Nat->Prop}{S:dF}(h:gZ w v c l mb md A D fp S)(hok:S.Ok)
  (hK:∀v' F' Z,kQ Z v' F' S->cl (λ_=>False) w Z->(∀x,F' x->w.heap.size<=x)->K (eh v') Z):Ca Tryz.prog 43 #[eh v] w K:=by
 apply Qk;refine rj h.blk ?_;refine ck (v:=.bool false) (by simp[go_sem]<;>first|exact⟨rfl,rfl⟩|exact rfl) ?_;rw[ci,if_neg Bool.false_ne_true];have md0:cl (λ_=>False) w w.drew:=(cl.refl _ w).drew;have hszd:w.drew.heap.size=w.heap.size:=rfl;have H0:=h.md0 md0;refine cB.at (λst W=>∃v' N I T O G,st=(eh v',())/\iV W v' N I T O [] [] G (wY S [] [])/\cl (λ_=>False) w W/\∀p x,G p x->w.heap.size<=x) ?_ ?_
 ·simp only[eh,cw];rw[<-hszd];obtain⟨X,hu0⟩:∃X,X=w.drew:=⟨_,rfl⟩
  rw[<-hu0]at H0 md0|-
  have P:∀{N I T O:Nat} (v' :Nat) (W' :World) (G:Pt->Nat->Prop),iV W' v' N I T O [] [] G (wY S [] [])->cl (λ_=>False) X W' ->(∀p x,G p x->X.heap.size<=x)->
    ∃v'' N I T O G,(eh v',())=(eh v'',())/\iV W' v'' N I T O [] [] G (wY S [] [])/\cl (λ_=>False) w W' /\∀p x,G p x->X.heap.size<=x:=λv' W' G a b d=>⟨v',_,_,_,_,G,rfl,a,md0.trans b,d⟩
  refine cq (jX 0 (by omega)) (cx (Kj _ H0.blk) ?_);refine cq (jX 1 (by omega)) (cx (uC _ H0.blk) ?_);refine cq (jX 4 (by omega)) (cx (nh _ H0.blk) ?_);refine⟨?_,?_,?_⟩
  ·refine nV H0.cal λN Fc H r M nc=>?_;have U:=H0.md0 M;have z1:=M.size;have bc:∀x,Fc x->X.heap.size<=x/\x<H.heap.size:=λx j=>⟨nc x j,r.lt j⟩
   refine⟨nh _ U.blk,uC _ U.blk,?_⟩;refine⟨?_,?_,?_⟩
   ·refine iQ U.led λs I Fl y B Y=>?_;have F:=U.md0 B;have z2:=B.size;have V:∀x,Fl x->H.heap.size<=x/\x<s.heap.size:=λx j=>⟨Y x j,y.lt j⟩
    replace r:=r.mod B λ_ _ h=>h;refine⟨nh _ F.blk,?_⟩;refine⟨?_,?_⟩
    ·obtain⟨nb,t⟩:∃nb,nb=s.heap.size:=⟨_,rfl⟩
     have g:cl (λ_=>False) s (s.alloc (.map #[] 0)):=(cl.refl _ s).alloc _;have k:cU d8 eY (s.alloc (.map #[] 0)) nb ([]:List (Int×Nat)):=by rw[t];exact cU.new s
     refine ck (v:=.map (some nb)) (w' :=s.alloc (.map #[] 0)) (by rw[t];simp[go_sem]) ?_;generalize s.alloc (.map #[] 0)=o at g k|-;have z:=F.md0 g;have z3:=g.size;have bb:=k.lt;replace r:=r.mod g λ_ _ h=>h;replace y:=y.mod g λ_ _ h=>h;refine⟨nh _ z.blk,?_⟩;obtain⟨nd,u⟩:∃nd,nd=o.heap.size:=⟨_,rfl⟩
     have f:cl (λ_=>False) o (o.alloc (.map #[] 0)):=(cl.refl _ o).alloc _;have m:cU d8 uK (o.alloc (.map #[] 0)) nd ([]:List (Int×Value)):=by rw[u];exact cU.new o
     refine ck (v:=.map (some nd)) (w' :=o.alloc (.map #[] 0)) (by rw[u];simp[go_sem]) ?_;generalize o.alloc (.map #[] 0)=u4 at f m|-;have J:=z.md0 f;have z4:=f.size;have bd:=m.lt;replace r:=r.mod f λ_ _ h=>h;replace y:=y.mod f λ_ _ h=>h;replace k:=k.mod f id;refine⟨nh _ J.blk,?_⟩;refine cq (v:=.agg #[dK N,dm I,.map (some nb),.map (some nd),.int .u64 S.next]) (λ_=>by simp[go_sem,dK,dm]) ?_;exact gL (S:=S) (((M.trans B).trans g).trans f) r y k m bc V (by omega) (by omega) (by omega) (by omega) (by omega) (by omega) (by omega) P
    ·obtain⟨nd,u⟩:∃nd,nd=s.heap.size:=⟨_,rfl⟩
     have g:cl (λ_=>False) s (s.alloc (.map #[] 0)):=(cl.refl _ s).alloc _;have m:cU d8 uK (s.alloc (.map #[] 0)) nd ([]:List (Int×Value)):=by rw[u];exact cU.new s
     refine ck (v:=.map (some nd)) (w' :=s.alloc (.map #[] 0)) (by rw[u];simp[go_sem]) ?_;generalize s.alloc (.map #[] 0)=o at g m|-;have z:=F.md0 g;have z3:=g.size;have bd:=m.lt;replace r:=r.mod g λ_ _ h=>h;replace y:=y.mod g λ_ _ h=>h;refine⟨nh _ z.blk,?_⟩;obtain⟨nb,t⟩:∃nb,nb=o.heap.size:=⟨_,rfl⟩
     have f:cl (λ_=>False) o (o.alloc (.map #[] 0)):=(cl.refl _ o).alloc _;have k:cU d8 eY (o.alloc (.map #[] 0)) nb ([]:List (Int×Nat)):=by rw[t];exact cU.new o
     refine ck (v:=.map (some nb)) (w' :=o.alloc (.map #[] 0)) (by rw[t];simp[go_sem]) ?_;generalize o.alloc (.map #[] 0)=u4 at f k|-;have J:=z.md0 f;have z4:=f.size;have bb:=k.lt;replace r:=r.mod f λ_ _ h=>h;replace y:=y.mod f λ_ _ h=>h;replace m:=m.mod f id;refine⟨nh _ J.blk,?_⟩;refine cq (v:=.agg #[dK N,dm I,.map (some nb),.map (some nd),.int .u64 S.next]) (λ_=>by simp[go_sem,dK,dm]) ?_;exact gL (S:=S) (((M.trans B).trans g).trans f) r y k m bc V (by omega) (by omega) (by omega) (by omega) (by omega) (by omega) (by omega) P
   ·obtain⟨nb,t⟩:∃nb,nb=H.heap.size:=⟨_,rfl⟩
    have B:cl (λ_=>False) H (H.alloc (.map #[] 0)):=(cl.refl _ H).alloc _;have k:cU d8 eY (H.alloc (.map #[] 0)) nb ([]:List (Int×Nat)):=by rw[t];exact cU.new H
    refine ck (v:=.map (some nb)) (w' :=H.alloc (.map #[] 0)) (by rw[t];simp[go_sem]) ?_;generalize H.alloc (.map #[] 0)=s at B k|-;have F:=U.md0 B;have z2:=B.size;have bb:=k.lt;replace r:=r.mod B λ_ _ h=>h;refine⟨nh _ F.blk,uC _ F.blk,?_⟩;refine⟨?_,?_⟩
    ·refine iQ F.led λo I Fl y g Y=>?_;have z:=F.md0 g;have z3:=g.size;have V:∀x,Fl x->s.heap.size<=x/\x<o.heap.size:=λx j=>⟨Y x j,y.lt j⟩
     replace r:=r.mod g λ_ _ h=>h;replace k:=k.mod g id;refine⟨nh _ z.blk,?_⟩;obtain⟨nd,u⟩:∃nd,nd=o.heap.size:=⟨_,rfl⟩
     have f:cl (λ_=>False) o (o.alloc (.map #[] 0)):=(cl.refl _ o).alloc _;have m:cU d8 uK (o.alloc (.map #[] 0)) nd ([]:List (Int×Value)):=by rw[u];exact cU.new o
     refine ck (v:=.map (some nd)) (w' :=o.alloc (.map #[] 0)) (by rw[u];simp[go_sem]) ?_;generalize o.alloc (.map #[] 0)=u4 at f m|-;have J:=z.md0 f;have z4:=f.size;have bd:=m.lt;replace r:=r.mod f λ_ _ h=>h;replace k:=k.mod f id;replace y:=y.mod f λ_ _ h=>h;refine⟨nh _ J.blk,?_⟩;refine cq (v:=.agg #[dK N,dm I,.map (some nb),.map (some nd),.int .u64 S.next]) (λ_=>by simp[go_sem,dK,dm]) ?_;exact gL (S:=S) (((M.trans B).trans g).trans f) r y k m bc V (by omega) (by omega) (by omega) (by omega) (by omega) (by omega) (by omega) P
    ·obtain⟨nd,u⟩:∃nd,nd=s.heap.size:=⟨_,rfl⟩
     have g:cl (λ_=>False) s (s.alloc (.map #[] 0)):=(cl.refl _ s).alloc _;have m:cU d8 uK (s.alloc (.map #[] 0)) nd ([]:List (Int×Value)):=by rw[u];exact cU.new s
     refine ck (v:=.map (some nd)) (w' :=s.alloc (.map #[] 0)) (by rw[u];simp[go_sem]) ?_;generalize s.alloc (.map #[] 0)=o at g m|-;have z:=F.md0 g;have z3:=g.size;have bd:=m.lt;replace r:=r.mod g λ_ _ h=>h;replace k:=k.mod g id;refine⟨nh _ z.blk,uC _ z.blk,?_⟩;refine iQ z.led λu4 I Fl y f Y=>?_;have J:=z.md0 f;have z4:=f.size;have V:∀x,Fl x->o.heap.size<=x/\x<u4.heap.size:=λx j=>⟨Y x j,y.lt j⟩
     replace r:=r.mod f λ_ _ h=>h;replace k:=k.mod f id;replace m:=m.mod f id;refine⟨nh _ J.blk,?_⟩;refine cq (v:=.agg #[dK N,dm I,.map (some nb),.map (some nd),.int .u64 S.next]) (λ_=>by simp[go_sem,dK,dm]) ?_;exact gL (S:=S) (((M.trans B).trans g).trans f) r y k m bc V (by omega) (by omega) (by omega) (by omega) (by omega) (by omega) (by omega) P
   ·obtain⟨nd,u⟩:∃nd,nd=H.heap.size:=⟨_,rfl⟩
    have B:cl (λ_=>False) H (H.alloc (.map #[] 0)):=(cl.refl _ H).alloc _;have m:cU d8 uK (H.alloc (.map #[] 0)) nd ([]:List (Int×Value)):=by rw[u];exact cU.new H
    refine ck (v:=.map (some nd)) (w' :=H.alloc (.map #[] 0)) (by rw[u];simp[go_sem]) ?_;generalize H.alloc (.map #[] 0)=s at B m|-;have F:=U.md0 B;have z2:=B.size;have bd:=m.lt;replace r:=r.mod B λ_ _ h=>h;refine⟨nh _ F.blk,uC _ F.blk,?_⟩;refine⟨?_,?_⟩
    ·refine iQ F.led λo I Fl y g Y=>?_;have z:=F.md0 g;have z3:=g.size;have V:∀x,Fl x->s.heap.size<=x/\x<o.heap.size:=λx j=>⟨Y x j,y.lt j⟩
     replace r:=r.mod g λ_ _ h=>h;replace m:=m.mod g id;refine⟨nh _ z.blk,?_⟩;obtain⟨nb,t⟩:∃nb,nb=o.heap.size:=⟨_,rfl⟩
     have f:cl (λ_=>False) o (o.alloc (.map #[] 0)):=(cl.refl _ o).alloc _;have k:cU d8 eY (o.alloc (.map #[] 0)) nb ([]:List (Int×Nat)):=by rw[t];exact cU.new o
     refine ck (v:=.map (some nb)) (w' :=o.alloc (.map #[] 0)) (by rw[t];simp[go_sem]) ?_;generalize o.alloc (.map #[] 0)=u4 at f k|-;have J:=z.md0 f;have z4:=f.size;have bb:=k.lt;replace r:=r.mod f λ_ _ h=>h;replace m:=m.mod f id;replace y:=y.mod f λ_ _ h=>h;refine⟨nh _ J.blk,?_⟩;refine cq (v:=.agg #[dK N,dm I,.map (some nb),.map (some nd),.int .u64 S.next]) (λ_=>by simp[go_sem,dK,dm]) ?_;exact gL (S:=S) (((M.trans B).trans g).trans f) r y k m bc V (by omega) (by omega) (by omega) (by omega) (by omega) (by omega) (by omega) P
    ·obtain⟨nb,t⟩:∃nb,nb=s.heap.size:=⟨_,rfl⟩
     have g:cl (λ_=>False) s (s.alloc (.map #[] 0)):=(cl.refl _ s).alloc _;have k:cU d8 eY (s.alloc (.map #[] 0)) nb ([]:List (Int×Nat)):=by rw[t];exact cU.new s
     refine ck (v:=.map (some nb)) (w' :=s.alloc (.map #[] 0)) (by rw[t];simp[go_sem]) ?_;generalize s.alloc (.map #[] 0)=o at g k|-;have z:=F.md0 g;have z3:=g.size;have bb:=k.lt;replace r:=r.mod g λ_ _ h=>h;replace m:=m.mod g id;refine⟨nh _ z.blk,uC _ z.blk,?_⟩;refine iQ z.led λu4 I Fl y f Y=>?_;have J:=z.md0 f;have z4:=f.size;have V:∀x,Fl x->o.heap.size<=x/\x<u4.heap.size:=λx j=>⟨Y x j,y.lt j⟩
     replace r:=r.mod f λ_ _ h=>h;replace m:=m.mod f id;replace k:=k.mod f id;refine⟨nh _ J.blk,?_⟩;refine cq (v:=.agg #[dK N,dm I,.map (some nb),.map (some nd),.int .u64 S.next]) (λ_=>by simp[go_sem,dK,dm]) ?_;exact gL (S:=S) (((M.trans B).trans g).trans f) r y k m bc V (by omega) (by omega) (by omega) (by omega) (by omega) (by omega) (by omega) P
  ·obtain⟨nb,t⟩:∃nb,nb=X.heap.size:=⟨_,rfl⟩
   have M:cl (λ_=>False) X (X.alloc (.map #[] 0)):=(cl.refl _ X).alloc _;have k:cU d8 eY (X.alloc (.map #[] 0)) nb ([]:List (Int×Nat)):=by rw[t];exact cU.new X
   refine ck (v:=.map (some nb)) (w' :=X.alloc (.map #[] 0)) (by rw[t];simp[go_sem]) ?_;generalize X.alloc (.map #[] 0)=H at M k|-;have U:=H0.md0 M;have z1:=M.size;have bb:=k.lt;refine⟨nh _ U.blk,uC _ U.blk,Kj _ U.blk,?_⟩;refine⟨?_,?_⟩
   ·refine nV U.cal λN Fc s r B nc=>?_;have F:=U.md0 B;have z2:=B.size;have bc:∀x,Fc x->H.heap.size<=x/\x<s.heap.size:=λx j=>⟨nc x j,r.lt j⟩
    replace k:=k.mod B id;refine⟨nh _ F.blk,uC _ F.blk,?_⟩;refine⟨?_,?_⟩
    ·refine iQ F.led λo I Fl y g Y=>?_;have z:=F.md0 g;have z3:=g.size;have V:∀x,Fl x->s.heap.size<=x/\x<o.heap.size:=λx j=>⟨Y x j,y.lt j⟩
     replace k:=k.mod g id;replace r:=r.mod g λ_ _ h=>h;refine⟨nh _ z.blk,?_⟩;obtain⟨nd,u⟩:∃nd,nd=o.heap.size:=⟨_,rfl⟩
     have f:cl (λ_=>False) o (o.alloc (.map #[] 0)):=(cl.refl _ o).alloc _;have m:cU d8 uK (o.alloc (.map #[] 0)) nd ([]:List (Int×Value)):=by rw[u];exact cU.new o
     refine ck (v:=.map (some nd)) (w' :=o.alloc (.map #[] 0)) (by rw[u];simp[go_sem]) ?_;generalize o.alloc (.map #[] 0)=u4 at f m|-;have J:=z.md0 f;have z4:=f.size;have bd:=m.lt;replace k:=k.mod f id;replace r:=r.mod f λ_ _ h=>h;replace y:=y.mod f λ_ _ h=>h;refine⟨nh _ J.blk,?_⟩;refine cq (v:=.agg #[dK N,dm I,.map (some nb),.map (some nd),.int .u64 S.next]) (λ_=>by simp[go_sem,dK,dm]) ?_;exact gL (S:=S) (((M.trans B).trans g).trans f) r y k m bc V (by omega) (by omega) (by omega) (by omega) (by omega) (by omega) (by omega) P
    ·obtain⟨nd,u⟩:∃nd,nd=s.heap.size:=⟨_,rfl⟩
     have g:cl (λ_=>False) s (s.alloc (.map #[] 0)):=(cl.refl _ s).alloc _;have m:cU d8 uK (s.alloc (.map #[] 0)) nd ([]:List (Int×Value)):=by rw[u];exact cU.new s
     refine ck (v:=.map (some nd)) (w' :=s.alloc (.map #[] 0)) (by rw[u];simp[go_sem]) ?_;generalize s.alloc (.map #[] 0)=o at g m|-;have z:=F.md0 g;have z3:=g.size;have bd:=m.lt;replace k:=k.mod g id;replace r:=r.mod g λ_ _ h=>h;refine⟨nh _ z.blk,uC _ z.blk,?_⟩;refine iQ z.led λu4 I Fl y f Y=>?_;have J:=z.md0 f;have z4:=f.size;have V:∀x,Fl x->o.heap.size<=x/\x<u4.heap.size:=λx j=>⟨Y x j,y.lt j⟩
     replace k:=k.mod f id;replace r:=r.mod f λ_ _ h=>h;replace m:=m.mod f id;refine⟨nh _ J.blk,?_⟩;refine cq (v:=.agg #[dK N,dm I,.map (some nb),.map (some nd),.int .u64 S.next]) (λ_=>by simp[go_sem,dK,dm]) ?_;exact gL (S:=S) (((M.trans B).trans g).trans f) r y k m bc V (by omega) (by omega) (by omega) (by omega) (by omega) (by omega) (by omega) P
   ·obtain⟨nd,u⟩:∃nd,nd=H.heap.size:=⟨_,rfl⟩
    have B:cl (λ_=>False) H (H.alloc (.map #[] 0)):=(cl.refl _ H).alloc _;have m:cU d8 uK (H.alloc (.map #[] 0)) nd ([]:List (Int×Value)):=by rw[u];exact cU.new H
    refine ck (v:=.map (some nd)) (w' :=H.alloc (.map #[] 0)) (by rw[u];simp[go_sem]) ?_;generalize H.alloc (.map #[] 0)=s at B m|-;have F:=U.md0 B;have z2:=B.size;have bd:=m.lt;replace k:=k.mod B id;refine⟨nh _ F.blk,uC _ F.blk,Kj _ F.blk,?_⟩;refine nV F.cal λN Fc o r g nc=>?_;have z:=F.md0 g;have z3:=g.size;have bc:∀x,Fc x->s.heap.size<=x/\x<o.heap.size:=λx j=>⟨nc x j,r.lt j⟩
    replace k:=k.mod g id;replace m:=m.mod g id;refine⟨nh _ z.blk,uC _ z.blk,?_⟩;refine iQ z.led λu4 I Fl y f Y=>?_;have J:=z.md0 f;have z4:=f.size;have V:∀x,Fl x->o.heap.size<=x/\x<u4.heap.size:=λx j=>⟨Y x j,y.lt j⟩
    replace k:=k.mod f id;replace m:=m.mod f id;replace r:=r.mod f λ_ _ h=>h;refine⟨nh _ J.blk,?_⟩;refine cq (v:=.agg #[dK N,dm I,.map (some nb),.map (some nd),.int .u64 S.next]) (λ_=>by simp[go_sem,dK,dm]) ?_;exact gL (S:=S) (((M.trans B).trans g).trans f) r y k m bc V (by omega) (by omega) (by omega) (by omega) (by omega) (by omega) (by omega) P
  ·obtain⟨nd,u⟩:∃nd,nd=X.heap.size:=⟨_,rfl⟩
   have M:cl (λ_=>False) X (X.alloc (.map #[] 0)):=(cl.refl _ X).alloc _;have m:cU d8 uK (X.alloc (.map #[] 0)) nd ([]:List (Int×Value)):=by rw[u];exact cU.new X
   refine ck (v:=.map (some nd)) (w' :=X.alloc (.map #[] 0)) (by rw[u];simp[go_sem]) ?_;generalize X.alloc (.map #[] 0)=H at M m|-;have U:=H0.md0 M;have z1:=M.size;have bd:=m.lt;refine⟨nh _ U.blk,uC _ U.blk,Kj _ U.blk,?_⟩;refine⟨?_,?_⟩
   ·refine nV U.cal λN Fc s r B nc=>?_;have F:=U.md0 B;have z2:=B.size;have bc:∀x,Fc x->H.heap.size<=x/\x<s.heap.size:=λx j=>⟨nc x j,r.lt j⟩
    replace m:=m.mod B id;refine⟨nh _ F.blk,uC _ F.blk,?_⟩;refine⟨?_,?_⟩
    ·refine iQ F.led λo I Fl y g Y=>?_;have z:=F.md0 g;have z3:=g.size;have V:∀x,Fl x->s.heap.size<=x/\x<o.heap.size:=λx j=>⟨Y x j,y.lt j⟩
     replace m:=m.mod g id;replace r:=r.mod g λ_ _ h=>h;refine⟨nh _ z.blk,?_⟩;obtain⟨nb,t⟩:∃nb,nb=o.heap.size:=⟨_,rfl⟩
     have f:cl (λ_=>False) o (o.alloc (.map #[] 0)):=(cl.refl _ o).alloc _;have k:cU d8 eY (o.alloc (.map #[] 0)) nb ([]:List (Int×Nat)):=by rw[t];exact cU.new o
     refine ck (v:=.map (some nb)) (w' :=o.alloc (.map #[] 0)) (by rw[t];simp[go_sem]) ?_;generalize o.alloc (.map #[] 0)=u4 at f k|-;have J:=z.md0 f;have z4:=f.size;have bb:=k.lt;replace m:=m.mod f id;replace r:=r.mod f λ_ _ h=>h;replace y:=y.mod f λ_ _ h=>h;refine⟨nh _ J.blk,?_⟩;refine cq (v:=.agg #[dK N,dm I,.map (some nb),.map (some nd),.int .u64 S.next]) (λ_=>by simp[go_sem,dK,dm]) ?_;exact gL (S:=S) (((M.trans B).trans g).trans f) r y k m bc V (by omega) (by omega) (by omega) (by omega) (by omega) (by omega) (by omega) P
    ·obtain⟨nb,t⟩:∃nb,nb=s.heap.size:=⟨_,rfl⟩
     have g:cl (λ_=>False) s (s.alloc (.map #[] 0)):=(cl.refl _ s).alloc _;have k:cU d8 eY (s.alloc (.map #[] 0)) nb ([]:List (Int×Nat)):=by rw[t];exact cU.new s
     refine ck (v:=.map (some nb)) (w' :=s.alloc (.map #[] 0)) (by rw[t];simp[go_sem]) ?_;generalize s.alloc (.map #[] 0)=o at g k|-;have z:=F.md0 g;have z3:=g.size;have bb:=k.lt;replace m:=m.mod g id;replace r:=r.mod g λ_ _ h=>h;refine⟨nh _ z.blk,uC _ z.blk,?_⟩;refine iQ z.led λu4 I Fl y f Y=>?_;have J:=z.md0 f;have z4:=f.size;have V:∀x,Fl x->o.heap.size<=x/\x<u4.heap.size:=λx j=>⟨Y x j,y.lt j⟩
     replace m:=m.mod f id;replace r:=r.mod f λ_ _ h=>h;replace k:=k.mod f id;refine⟨nh _ J.blk,?_⟩;refine cq (v:=.agg #[dK N,dm I,.map (some nb),.map (some nd),.int .u64 S.next]) (λ_=>by simp[go_sem,dK,dm]) ?_;exact gL (S:=S) (((M.trans B).trans g).trans f) r y k m bc V (by omega) (by omega) (by omega) (by omega) (by omega) (by omega) (by omega) P
   ·obtain⟨nb,t⟩:∃nb,nb=H.heap.size:=⟨_,rfl⟩
    have B:cl (λ_=>False) H (H.alloc (.map #[] 0)):=(cl.refl _ H).alloc _;have k:cU d8 eY (H.alloc (.map #[] 0)) nb ([]:List (Int×Nat)):=by rw[t];exact cU.new H
    refine ck (v:=.map (some nb)) (w' :=H.alloc (.map #[] 0)) (by rw[t];simp[go_sem]) ?_;generalize H.alloc (.map #[] 0)=s at B k|-;have F:=U.md0 B;have z2:=B.size;have bb:=k.lt;replace m:=m.mod B id;refine⟨nh _ F.blk,uC _ F.blk,Kj _ F.blk,?_⟩;refine nV F.cal λN Fc o r g nc=>?_;have z:=F.md0 g;have z3:=g.size;have bc:∀x,Fc x->s.heap.size<=x/\x<o.heap.size:=λx j=>⟨nc x j,r.lt j⟩
    replace m:=m.mod g id;replace k:=k.mod g id;refine⟨nh _ z.blk,uC _ z.blk,?_⟩;refine iQ z.led λu4 I Fl y f Y=>?_;have J:=z.md0 f;have z4:=f.size;have V:∀x,Fl x->o.heap.size<=x/\x<u4.heap.size:=λx j=>⟨Y x j,y.lt j⟩
    replace m:=m.mod f id;replace k:=k.mod f id;replace r:=r.mod f λ_ _ h=>h;refine⟨nh _ J.blk,?_⟩;refine cq (v:=.agg #[dK N,dm I,.map (some nb),.map (some nd),.int .u64 S.next]) (λ_=>by simp[go_sem,dK,dm]) ?_;exact gL (S:=S) (((M.trans B).trans g).trans f) r y k m bc V (by omega) (by omega) (by omega) (by omega) (by omega) (by omega) (by omega) P
 rintro _ W0 ⟨v',N,I,T,O,G,rfl,q0,zM0,n0⟩;unfold JQ;intro _;have HW:=h.md0 zM0;simp only[eh,cw];refine ck (jX 2 (by omega) _) (ck (KC _ HW.blk) ?_);refine kL BE HW.mbk λw1 it1 n1=>?_;obtain⟨it,hit⟩:∃it,it=W0.heap.size:=⟨_,rfl⟩
 rw[<-hit]at it1|-;have hM0:=zM0.size;have hit0:∀p x,G p x->x≠it:=λp x j=>by have:=q0.lt j;omega
 refine dp (λst W=>∃(R:List (Int×Nat)) (C:List (Int×Nat)) (G:Pt->Nat->Prop),st=()/\fN d8 eY W it mb R/\iV W v' N I T O C [] G (wY S C [])/\tj A R C/\cl (λ_=>False) w W/\∀p x,G p x->w.heap.size<=x/\x≠it)
  (λ_ W=>jx it mb W) ⟨A,[],G,rfl,it1,q0.mod n1 λ_ _ _ h=>h,tj.init A,zM0.trans n1,λp x j=>⟨n0 p x j,hit0 p x j⟩⟩ ?_
 rintro _ W ⟨R,C,fpC,rfl,r1,r2,r3,r4,r5⟩ KN hKN;unfold J7;intro _;have hA:=h.mbk.1;have hitW:=r1.lt;refine mL r1 ?_ ?_
 ·intro hz W1 M hh;subst hz;refine ck (by simp[-Int.natCast_add,go_sem]<;>first|exact⟨rfl,rfl⟩|exact rfl) ?_;rw[ci,if_neg Bool.false_ne_true];simp only[eh,cw];have U:=h.md0 (r4.trans M);have q1:=r2.mod M λ_ _ _ h=>h;have hdn:=r3.done;refine ck (jX 3 (by omega) _) (ck (Hm _ U.blk) ?_);refine kL BF U.mbd λw2 it2 n2=>?_;obtain⟨jt,hjt⟩:∃jt,jt=W1.heap.size:=⟨_,rfl⟩
  rw[<-hjt]at it2|-;have hs1:=(r4.trans M).size
  refine dp (λst W=>∃(R:List (Int×Value)) (E:List (Int×Value)) (G:Pt->Nat->Prop),st=()/\fN d8 uK W jt md R/\iV W v' N I T O C E G (wY S C E)/\tj D R E/\cl (λ_=>False) w W/\∀p x,G p x->w.heap.size<=x/\x≠jt)
   (λ_ W=>jx jt md W) ⟨D,[],fpC,rfl,it2,q1.mod n2 λ_ _ _ h=>h,tj.init D,(r4.trans M).trans n2,λp x j=>⟨(r5 p x j).1,by have:=q1.lt j;omega⟩⟩ ?_
  rintro _ W2 ⟨R2,E,fpE,rfl,t1,t2,t3,t4,t5⟩ KM hKM;unfold Jz;intro _;have hD:=h.mbd.1;have hjtW:=t1.lt;refine mL t1 ?_ ?_
  ·intro hz W3 g hh3;subst hz;refine ck (by simp[-Int.natCast_add,go_sem]<;>first|exact⟨rfl,rfl⟩|exact rfl) ?_;rw[ci,if_neg Bool.false_ne_true];have q3:=t2.mod g λ_ _ _ h=>h;have hdE:=t3.done
   have hS:wY S C E=S:=by
    unfold wY
    have e1:(λn=>if(lk C n).isSome=true then S.bk n else Bk.empty)=S.bk:=by
     funext n;by_cases hc:(lk C n).isSome=true
     ·rw[if_pos hc]
     ·rw[if_neg hc];rw[hdn n]at hc;have:lk A n=none:=by cases hl:lk A n with|none=>rfl|some b=>rw[hl]at hc;exact absurd rfl hc
      exact((h.nbk n this).1).symm
    have e2:(λn=>if(lk E n).isSome=true then S.bd n else [])=S.bd:=by
     funext n;by_cases hc:(lk E n).isSome=true
     ·rw[if_pos hc]
     ·rw[if_neg hc];rw[hdE n]at hc;have hl:lk D n=none:=by cases hl:lk D n with|none=>rfl|some b=>rw[hl]at hc;exact absurd rfl hc
      have hb:=h.bd n;unfold rE at hb;rw[hl]at hb;obtain⟨hlen,⟨-,h0⟩|⟨b,cap,rest,he,-⟩⟩:=hb
      ·exact(List.eq_nil_of_length_eq_zero h0).symm
      ·cases he
    rw[e1,e2]
   rw[hS]at q3;refine hK v' _ W3 ⟨N,I,T,O,C,E,fpE,⟨q3,λn=>by rw[hdn];exact h.dom n,λn hn=>h.dod n (by rw[<-hdE];exact hn)⟩,λ_=>Iff.rfl⟩ (t4.trans g) λx j=>?_;obtain⟨p,hp⟩:=j;exact(t5 p x hp).1
  ·intro i p hp W3 i3 cu3 g hs3;refine ck (by simp[-Int.natCast_add,go_sem]<;>first|exact⟨rfl,rfl⟩|exact rfl) ?_;rw[ci,if_pos rfl];refine kE cu3 ?_;refine ck (by simp[-Int.natCast_add,go_sem]<;>first|exact⟨rfl,rfl⟩|exact rfl) ?_;refine ck (by simp[-Int.natCast_add,go_sem]<;>first|exact⟨rfl,rfl⟩|exact rfl) ?_;simp only[eh,cw];have M3:cl (λ_=>False) w W3:=t4.on g λb hb=>.inr (by omega);have q3:=t2.mod g λp x j=>(t5 p x j).2;have md3:cl (λ_=>False) W3 W3.drew:=(cl.refl _ W3).drew;have M3d:=M3.trans md3;have Q:=q3.mod md3 λ_ _ _ h=>h;have i3d:=i3.mod md3 id id;have hs3d:W3.drew.heap.size=W3.heap.size:=rfl
   try dsimp only
   generalize W3.drew=W4 at md3 M3d Q i3d hs3d|-;have J:=h.md0 M3d;refine cq (jX 3 (by omega)) (cx (Hm _ Q.blk) ?_);obtain⟨-,hDp,-⟩:=t3.step hD hp cF;have hbd:=J.bd p.1;have hsl:rE D p.1=p.2:=by unfold rE;rw[hDp];rfl
   rw[hsl]at hbd;refine pr hbd.rd (by have:=hok.ord.bdl p.1;omega) λs' W5 o5 m5 n5=>?_;have q5:=Q.mod m5 λ_ _ _ h=>h;refine⟨Hm _ q5.blk,?_⟩;obtain⟨t3',-,hEp⟩:=t3.step hD hp s';refine fm (enc:=d8) (ev:=uK) (x:=p.1) (v:=s') BF pG q5.mbd λW6 a6 m6 hs6=>?_;have hbdE:fpE (.bd p.1)=λx=>co (rE E p.1) x:=funext λx=>propext (Q.fbd p.1 x);have q6:=Q.setBd (n:=p.1) (L:=S.bd p.1) (sl:=s') (m5.mono λ_ _ h=>h.elim) o5 (λx j=>.inr (n5 x j)) a6 m6;rw[LV S C E p.1 s']at q6;have hmd' :fpE .md O:=(Q.fmd O).2 rfl;have hmdn:=t5 .md O hmd';have hW34:=m5.size;refine hKM _ _ ⟨R2.eraseIdx i,put E p.1 s',_,rfl,(i3d.mod m5 id id).mod m6 (λe=>?_) (λe=>hmdn.2 e.symm),q6,t3',(M3d.trans m5).on m6 λb hb=>.inr (by have:=hmdn.1;omega),λq x j=>?_⟩ ?_
   ·have:=h.lt (p:=.md) ((h.fmd md).2 rfl);have:=hmdn.1;omega
   ·by_cases hq:q=.bd p.1
    ·subst hq;rw[eE]at j;have:=n5 x j;have:=M3d.size;have:=i3d.lt.2;exact⟨by omega,by omega⟩
    ·rw[cZ hq]at j;exact t5 q x j
   ·have il:=(i3d.mod m5 id id).mod m6 (λe=>by have:=h.lt (p:=.md) ((h.fmd md).2 rfl);have:=hmdn.1;omega) (λe=>hmdn.2 e.symm);rw[il.left,t1.left];have hil:=(List.getElem?_eq_some_iff.1 hp).1;rw[List.length_eraseIdx_of_lt hil];omega
 ·intro i p hp W3 i3 cu3 g hs3;refine ck (by simp[-Int.natCast_add,go_sem]<;>first|exact⟨rfl,rfl⟩|exact rfl) ?_;rw[ci,if_pos rfl];refine kE cu3 ?_;refine ck (by simp[-Int.natCast_add,go_sem]<;>first|exact⟨rfl,rfl⟩|exact rfl) ?_;refine ck (by simp[-Int.natCast_add,go_sem]<;>first|exact⟨rfl,rfl⟩|exact rfl) ?_;simp only[eh,cw];have M3:cl (λ_=>False) w W3:=r4.on g λb hb=>.inr (by omega);have q3:=r2.mod g λp x j=>(r5 p x j).2;have md3:cl (λ_=>False) W3 W3.drew:=(cl.refl _ W3).drew;have M3d:=M3.trans md3;have Q:=q3.mod md3 λ_ _ _ h=>h;have i3d:=i3.mod md3 id id;have hs3d:W3.drew.heap.size=W3.heap.size:=rfl
  try dsimp only
  generalize W3.drew=W4 at md3 M3d Q i3d hs3d|-;have J:=h.md0 M3d;refine cq (jX 2 (by omega)) (cx (KC _ Q.blk) ?_);obtain⟨-,hAp,-⟩:=r3.step hA hp 0;refine vX (J.bk p.1 p.2 hAp) λb' F' W5 o5 m5 n5=>?_;have q5:=Q.mod m5 λ_ _ _ h=>h;refine⟨KC _ q5.blk,?_⟩;obtain⟨r3',-,hCp⟩:=r3.step hA hp b';refine fm (enc:=d8) (ev:=eY) (x:=p.1) (v:=b') BE pG q5.mbk λW6 a6 m6 hs6=>?_;have q6:=Q.addBk (n:=p.1) hCp m5 o5 n5 a6 m6;rw[KL S C [] p.1 b']at q6;have hmb' :fpC .mb T:=(Q.fmb T).2 rfl;have hmbn:=r5 .mb T hmb';have hW34:=m5.size;have hmbl:=h.lt (p:=.mb) ((h.fmb mb).2 rfl);have il:=(i3d.mod m5 id id).mod m6 (λe=>by have:=hmbn.1;omega) (λe=>hmbn.2 e.symm);refine hKN _ _ ⟨R.eraseIdx i,put C p.1 b',_,rfl,il,q6,r3',(M3d.trans m5).on m6 λb hb=>.inr (by have:=hmbn.1;omega),λq x j=>?_⟩ ?_
  ·by_cases hq:q=.bk p.1
   ·subst hq;rw[eE]at j;have:=n5 x j;have:=M3d.size;have:=i3d.lt.2;exact⟨by omega,by omega⟩
   ·rw[cZ hq]at j;exact r5 q x j
  ·rw[il.left,r1.left];have hil:=(List.getElem?_eq_some_iff.1 hp).1;rw[List.length_eraseIdx_of_lt hil];omega
abbrev wE:TypeId:=32
def C2(r:Rp)(sT sG sA:Value):Value:=.agg #[.int .i64 r.err,.int .u64 r.num,.int .i64 r.filled,.int .i64 r.left,sT,sG,sA]
def Dm(r:Rp)(sT sG sA:Value):List Value:=[.int .i64 r.err,.int .u64 r.num,.int .i64 r.filled,.int .i64 r.left,sT,sG,sA]
abbrev Pd(n:Int):List Value:=[.int .u32 n]
structure Dl(w:World)(sT sG sA:Value)(r:Rp):Prop where
 tr:dW w 135 4 sT r.trades.length (r.trades.flatMap L1)
 go:dW w 27 1 sG r.gone.length (r.gone.flatMap Hu)
 ac:dW w 35 1 sA r.accts.length (r.accts.flatMap Pd)
 d1:∀x,co sT x->¬co sG x
 d2:∀x,co sT x->¬co sA x
 d3:∀x,co sG x->¬co sA x
def Dl.mod{F:Nat->Prop}{w w' :World}{sT sG sA:Value}{r:Rp}(h:Dl w sT sG sA r)(d:cl F w w')(b:∀x,co sT x\/co sG x\/co sA x->¬F x):Dl w' sT sG sA r:=
 ⟨h.tr.mod d λx a=>b x (.inl a),h.go.mod d λx a=>b x (.inr (.inl a)),h.ac.mod d λx a=>b x (.inr (.inr a)),h.d1,h.d2,h.d3⟩
def Dl.nil(w:World)(e:Int):Dl w cF cF cF (oU e):=⟨dW.nil _ _ _,dW.nil _ _ _,dW.nil _ _ _,λx a=>(by cases a),λx a=>(by cases a),λx a=>(by cases a)⟩
def Dl.isSl{w:World}{sT sG sA:Value}{r:Rp}(h:Dl w sT sG sA r):(∃a n c,sT=.slice a n c)/\(∃a n c,sG=.slice a n c)/\∃a n c,sA=.slice a n c:=by
 obtain⟨a,c,h1,-⟩:=h.tr.isSl;obtain⟨g,i,e,-⟩:=h.go.isSl;obtain⟨d,b,f,-⟩:=h.ac.isSl;exact⟨⟨_,_,_,h1⟩,⟨_,_,_,e⟩,_,_,_,f⟩
def Fh{W:World}{p:Nat}{cs:Array Value}{r:Rp}{sT sG sA:Value}(h:hp W p=some (.cells cs wE (0,0)))(i:cs.size=7)(j:(∃a n c,sT=.slice a n c)/\(∃a n c,sG=.slice a n c)/\∃a n c,sA=.slice a n c):
  ∃f,(Instr.storeAt wE (.pointer (some ⟨p,0,none⟩)) (C2 r sT sG sA)).run Tryz.prog W=.ok () f/\hp f p=some (.cells (Dm r sT sG sA).toArray wE (0,0))/\cl (λb=>b=p) W f:=by
 have g:cs.toList.length=7:=by simpa using i
 have k:Tryz.prog.cellsOf wE=6+1:=by kernel_rfl
 have d:(Dm r sT sG sA).all (·.oneCell')=true:=by
  obtain⟨⟨_,_,_,rfl⟩,⟨_,_,_,rfl⟩,⟨_,_,_,rfl⟩⟩:=j;rfl
 have e:=qF (P:=Tryz.prog) (t:=wE) (b:=p) (off:=0) (cs:=Dm r sT sG sA) k rfl h (by show 0+7<=cs.size;omega) d;refine⟨W.setRow p (iL cs.toList 0 (Dm r sT sG sA)).toArray,?_,?_,(cl.refl (λb=>b=p) W).setRow (.inl rfl) _⟩
 ·have:(ew wE (.pointer (some ⟨p,0,none⟩)) (C2 r sT sG sA)).run Tryz.prog W=_:=e;unfold ew at this;exact this
 ·rw[vz,if_pos rfl,h,jI (by rw[g];rfl)]
def Aw{W:World}{p:Nat}{r:Rp}{sT sG sA:Value}{T:TypeId}(h:hp W p=some (.cells (Dm r sT sG sA).toArray T (0,0))):(Instr.loadAt wE (.pointer (some ⟨p,0,none⟩))).run Tryz.prog W=.ok (C2 r sT sG sA) W:=
 fw (P:=Tryz.prog) (t:=wE) (n:=6) (by kernel_rfl) (by kernel_rfl) rfl (At.all h)
def BR(W:World):∃a,(Instr.alloc wE true (.tuple #[])).run Tryz.prog W=.ok (.pointer (some ⟨W.heap.size,0,none⟩)) a/\hp a W.heap.size=some (.cells (Dm AS cF cF cF).toArray wE (0,0))/\cl (λ_=>False) W a:=
 ⟨W.alloc (.cells (Dm AS cF cF cF).toArray wE),by simp[go_sem,Dm,AS,cF],by simp[go_sem],(cl.refl _ W).alloc _⟩
def mq:(∃a n c,cF=.slice a n c):=⟨none,0,0,rfl⟩
def Cw{w:World}{K:cm}{e:Int}(j:∀a,cl (λ_=>False) w a->K (C2 (oU e) cF cF cF) a):Ca Tryz.prog 41 #[.int .i64 e] w K:=by
 apply RE;obtain⟨g,h,f,m⟩:=BR w;refine ck h ?_;obtain⟨p,d⟩:∃p,p=w.heap.size:=⟨_,rfl⟩
 rw[<-d]at f|-;refine ck (v:=C2 (oU e) cF cF cF) (w' :=g) (by simp[go_sem,C2,oU,AS,cF]) ?_;obtain⟨n,o,k,i⟩:=Fh (r:=oU e) f rfl ⟨mq,mq,mq⟩;refine dI o (cx (Aw k) ?_);exact j n (m.on i λb q=>.inr (by omega))
section
variable{w:World}{K:cm}{v c l mb md:Nat}{A:List (Int×Nat)}{D:List (Int×Value)}{fp:Pt->Nat->Prop}{S:dF}
def R7(h:gZ w v c l mb md A D fp S){n:Int}(d:(ek S.cal.l n).isSome=true):∃b,lk A n=some b/\eU w b (fp (.bk n)) (S.bk n):=by
 have:=h.dom n;rw[d]at this;cases a:lk A n with
 |none=>rw[a]at this;cases this
 |some b=>exact⟨b,rfl,h.bk n b a⟩
end
end Go.Proofs
namespace Go.Proofs
open Go Go.Vc
end Go.Proofs
namespace Go.Proofs
open Go Go.Vc
attribute [local congr] cr
def tV{α:Type}{P:Program}{t e:TypeId}{k i:Nat}{w:World}{K:cm}{s g:Value}{l:List α}{x:α}{f:α->List Value}(j:P.underlying t=some (.slice e))(o:pg P e k i)(p:∀x,(f x).length=k)(n:(f x).all (·.oneCell')=true)
  (r:g.cells.toList=f x)(F:dW w e k s l.length (l.flatMap f))(C:(l.length+1)*i<=140737488355328)(M:k<=1000)
  (E:∀a d,dW d e k a (l++[x]).length ((l++[x]).flatMap f)->cl (co s) w d->(∀b,co a b->co s b\/w.heap.size<=b)->K a d):
  rx P (dP t 1 [(0,g)]) w λv u=>rx P (cv #[t,t] t [s,v]) u K:=by
 have L:g.cells.size=k:=by rw[<-Array.length_toList,r,p]
 refine fg [g] j o rfl rfl (by intro v J;rw[List.mem_singleton.1 J];exact L) (by omega) ?_;have z:(([g]:List Value).flatMap (·.cells.toList)).toArray=(f x).toArray:=by simp[r]
 rw[z];have q:cl (λ_=>False) w (w.alloc (.cells (f x).toArray e)):=(cl.refl _ w).alloc _
 have B:Rd (w.alloc (.cells (f x).toArray e)) k (.slice (some ⟨w.heap.size,0,none⟩) 1 1) 1 (f x):=
  ⟨by rw[p];omega,.inr ⟨_,0,1,rfl,Nat.le_refl _,At.all (cO (by rw[cY,if_pos rfl]))⟩⟩
 refine dt j j o (F.mod q λ_ _ h=>h) B n C λa d H I y=>?_;refine E a d ?_ ((q.mono (G:=co s) λ_ _ h=>h.elim).trans I) λb m=>?_
 ·rw[List.flatMap_append,List.length_append];simpa using H
 ·rcases y b m with h|h
  ·exact .inl h
  ·rw[World.size_alloc]at h;exact .inr (by omega)
def yI{α:Type}(T:TypeId)(fc:α->List Value)(a:α)(v:Value)(q:Nat)(W:World):Prop:=v=.pointer (some ⟨q,0,none⟩)/\hp W q=some (.cells (fc a).toArray T (0,0))
def xj{α:Type}{T:TypeId}{fc:α->List Value}:∀(a:α) v q W b H,yI T fc a v q W->cl H W b->¬H q->yI T fc a v q b:=by
 rintro a v q W b H ⟨rfl,f⟩ d e;exact⟨rfl,d.hpk f e⟩
def B4{xs:List Ct}:∀k∈xs,∀(W:World) (K:Value->World->Prop),(∀a v,yI gQ dN k v W.heap.size a->cl (λ_=>False) W a->K v a)->
  rx Tryz.prog (iz gQ) W λv d=>gh Tryz.prog (ew gQ v (.agg (dN k).toArray)) d λa=>K v a:=λk _ W K e=>JD λa b m=>e a _ ⟨rfl,b⟩ m
def tL{α:Type}{T:TypeId}{fv:α->Value}{fc:α->List Value}{xs:List α}(j:lM T fv fc xs):∀a∈xs,∀(W:World) (K:Value->World->Prop),(∀b v,yI T fc a v W.heap.size b->cl (λ_=>False) W b->K v b)->
  rv Tryz.prog (Instr.alloc T true (.tuple #[])) W λv d=>ru Tryz.prog (Instr.storeAt T v (fv a)) d λb=>K v b:=λa k W K f=>by
 obtain⟨d,b,g,h,e,i⟩:=j a k W;exact ck g (dI h (f b _ ⟨rfl,e⟩ i))
def Bl(p:Po)(W:World):∃a d,(Instr.alloc 112 true (.tuple #[])).run Tryz.prog W=.ok (.pointer (some ⟨W.heap.size,0,none⟩)) a/\(Instr.storeAt 112 (.pointer (some ⟨W.heap.size,0,none⟩)) (kU p)).run Tryz.prog a=.ok () d/\hp d W.heap.size=some (.cells (cK p).toArray 112 (0,0))/\cl (λ_=>False) W d:=by
 obtain⟨a,b⟩:∃a,a=W.alloc (.cells #[.int .u32 0,.int .u32 0,.int .i64 0,.int .i64 0] 112):=⟨_,rfl⟩
 have f:cl (λ_=>False) W a:=by rw[b];exact(cl.refl _ W).alloc _
 have e:hp a W.heap.size=some (.cells #[.int .u32 0,.int .u32 0,.int .i64 0,.int .i64 0] 112 (0,0)):=by rw[b];simp[go_sem]
 refine⟨a,(((a.setCell ⟨W.heap.size,0,none⟩ (.int .u32 p.c)).setCell ⟨W.heap.size,1,none⟩ (.int .u32 p.a)).setCell ⟨W.heap.size,2,none⟩ (.int .i64 p.q)).setCell ⟨W.heap.size,3,none⟩ (.int .i64 p.b),by rw[b];simp[go_sem],by simp[go_sem,e,kU],by simp[go_sem,e,cK],?_⟩;exact f.on (((((cl.refl (λx=>x=W.heap.size) a).setCell (.inl rfl) _ _).setCell (.inl rfl) _ _).setCell (.inl rfl) _ _).setCell (.inl rfl) _ _) λx g=>.inr (by omega)
def yn(p:Ac)(W:World):∃a d,(Instr.alloc 92 true (.tuple #[])).run Tryz.prog W=.ok (.pointer (some ⟨W.heap.size,0,none⟩)) a/\(Instr.storeAt 92 (.pointer (some ⟨W.heap.size,0,none⟩)) (gR p)).run Tryz.prog a=.ok () d/\hp d W.heap.size=some (.cells (cJ p).toArray 92 (0,0))/\cl (λ_=>False) W d:=by
 obtain⟨a,b⟩:∃a,a=W.alloc (.cells #[.int .u32 0,.int .i64 0,.bool false,.bool false] 92):=⟨_,rfl⟩
 have f:cl (λ_=>False) W a:=by rw[b];exact(cl.refl _ W).alloc _
 have e:hp a W.heap.size=some (.cells #[.int .u32 0,.int .i64 0,.bool false,.bool false] 92 (0,0)):=by rw[b];simp[go_sem]
 refine⟨a,(((a.setCell ⟨W.heap.size,0,none⟩ (.int .u32 p.num)).setCell ⟨W.heap.size,1,none⟩ (.int .i64 p.cash)).setCell ⟨W.heap.size,2,none⟩ (.bool p.kil)).setCell ⟨W.heap.size,3,none⟩ (.bool p.dfl),by rw[b];simp[go_sem],by simp[go_sem,e,gR],by simp[go_sem,e,cJ],?_⟩;exact f.on (((((cl.refl (λx=>x=W.heap.size) a).setCell (.inl rfl) _ _).setCell (.inl rfl) _ _).setCell (.inl rfl) _ _).setCell (.inl rfl) _ _) λx g=>.inr (by omega)
def lM.ac{xs:List Ac}:lM 92 gR cJ xs:=λa _ W=>yn a W
def lM.po{xs:List Po}:lM 112 kU cK xs:=λa _ W=>Bl a W
section
variable{w:World}{K:cm}{v c l mb md:Nat}{A:List (Int×Nat)}{D:List (Int×Value)}{fp:Pt->Nat->Prop}{S:dF}
end
section
variable{w:World}{K:cm}{v c l mb md:Nat}{A:List (Int×Nat)}{D:List (Int×Value)}{fp:Pt->Nat->Prop}{S:dF}
end
abbrev mP:TypeId:=41
def kn(c:Cm):(lH c).length=35:=by simp[lH,cL]
def Hz(c:Cm):(lH c).all (·.oneCell')=true:=by rw[lH,List.all_append,List.all_append,lh];rfl
def Qz(c:Cm):(lH c)[0]? =some (.int .u8 c.kind):=rfl
def P2(c:Cm):(lH c)[1]? =some (.int .u32 c.acct):=rfl
def Qc(c:Cm):(lH c)[2]? =some (.int .u32 c.ct):=rfl
def P6(c:Cm):(lH c)[3]? =some (.int .u64 c.num):=rfl
def P7(c:Cm):(lH c)[4]? =some (.int .i64 c.amt):=rfl
def GK(c:Cm)(i:Nat):(lH c)[30+i]? =([.bool c.on,.bool c.buy,.int .u8 c.ty,.int .i64 c.price,.int .i64 c.qty]:List Value)[i]? :=by
 rw[lH,List.getElem?_append_right (by show 5<=30+i;omega),List.getElem?_append_right (by rw[cL];simp;omega),cL];congr 1;simp;omega
def Hp(c:Cm):(lH c)[30]? =some (.bool c.on):=GK c 0
def Hw(c:Cm):(lH c)[31]? =some (.bool c.buy):=GK c 1
def O5(c:Cm):(lH c)[32]? =some (.int .u8 c.ty):=GK c 2
def Iv(c:Cm):(lH c)[33]? =some (.int .i64 c.price):=GK c 3
def If(c:Cm):(lH c)[34]? =some (.int .i64 c.qty):=GK c 4
def Sz:iA Tryz.prog mP=true:=by kernel_rfl
def Sb:Tryz.prog.cellsOf mP=34+1:=by kernel_rfl
abbrev df(W:World)(p:Nat)(c:Cm):Prop:=hp W p=some (.cells (lH c).toArray mP (0,0))
def Aj(c:Cm):Value:=.agg (lH c).toArray
def BB(c:Cm)(w:World):∃a,(Instr.box mP (Aj c)).run Tryz.prog w=.ok (.pointer (some ⟨w.heap.size,0,none⟩)) a/\df a w.heap.size c/\cl (λ_=>False) w a:=
 ⟨w.alloc (.cells (lH c).toArray mP),rfl,by show hp _ _=_;simp[go_sem],(cl.refl _ w).alloc _⟩
def yh{W:World}{p:Nat}{c:Cm}(h:df W p c):(dh mP (.pointer (some ⟨p,0,none⟩))).run Tryz.prog W=.ok (Aj c) W:=fw Sz Sb (kn c) (At.all h)
section
variable{W:World}{p:Nat}{c:Cm}
def pi(W:World):(Instr.fieldAt mP (.pointer (some ⟨p,0,none⟩)) 1).run Tryz.prog W=.ok (.pointer (some ⟨p,1,none⟩)) W:=by simp[go_sem]
def uT(W:World):(Instr.fieldAt mP (.pointer (some ⟨p,0,none⟩)) 2).run Tryz.prog W=.ok (.pointer (some ⟨p,2,none⟩)) W:=by simp[go_sem]
def Hj(W:World):(Instr.fieldAt mP (.pointer (some ⟨p,0,none⟩)) 3).run Tryz.prog W=.ok (.pointer (some ⟨p,3,none⟩)) W:=by simp[go_sem]
def Ij(W:World):(Instr.fieldAt mP (.pointer (some ⟨p,0,none⟩)) 4).run Tryz.prog W=.ok (.pointer (some ⟨p,4,none⟩)) W:=by simp[go_sem]
def FN(W:World):(Instr.fieldAt mP (.pointer (some ⟨p,0,none⟩)) 6).run Tryz.prog W=.ok (.pointer (some ⟨p,30,none⟩)) W:=by simp[go_sem]
def Ns(W:World):(Instr.fieldAt mP (.pointer (some ⟨p,0,none⟩)) 7).run Tryz.prog W=.ok (.pointer (some ⟨p,31,none⟩)) W:=by simp[go_sem]
def Dk(W:World):(Instr.fieldAt mP (.pointer (some ⟨p,0,none⟩)) 9).run Tryz.prog W=.ok (.pointer (some ⟨p,33,none⟩)) W:=by simp[go_sem]
def B6(W:World):(Instr.fieldAt mP (.pointer (some ⟨p,0,none⟩)) 10).run Tryz.prog W=.ok (.pointer (some ⟨p,34,none⟩)) W:=by simp[go_sem]
def yC(h:df W p c):(Instr.loadAt 35 (.pointer (some ⟨p,1,none⟩))).run Tryz.prog W=.ok (.int .u32 c.acct) W:=by simp[go_sem,h,P2]
def zv(h:df W p c):(Instr.loadAt 35 (.pointer (some ⟨p,2,none⟩))).run Tryz.prog W=.ok (.int .u32 c.ct) W:=by simp[go_sem,h,Qc]
def IB(h:df W p c):(Instr.loadAt 27 (.pointer (some ⟨p,3,none⟩))).run Tryz.prog W=.ok (.int .u64 c.num) W:=by simp[go_sem,h,P6]
def Ly(h:df W p c):(Instr.loadAt 2 (.pointer (some ⟨p,4,none⟩))).run Tryz.prog W=.ok (.int .i64 c.amt) W:=by simp[go_sem,h,P7]
def HF(h:df W p c):(Instr.loadAt 4 (.pointer (some ⟨p,30,none⟩))).run Tryz.prog W=.ok (.bool c.on) W:=by simp[go_sem,h,Hp]
def Ld(h:df W p c):(Instr.loadAt 4 (.pointer (some ⟨p,31,none⟩))).run Tryz.prog W=.ok (.bool c.buy) W:=by simp[go_sem,h,Hw]
def wC(h:df W p c):(Instr.loadAt 2 (.pointer (some ⟨p,33,none⟩))).run Tryz.prog W=.ok (.int .i64 c.price) W:=by simp[go_sem,h,Iv]
def qB(h:df W p c):(Instr.loadAt 2 (.pointer (some ⟨p,34,none⟩))).run Tryz.prog W=.ok (.int .i64 c.qty) W:=by simp[go_sem,h,If]
end
def E5(w:World)(v:Nat)(F:Nat->Prop)(x:Int×Rp×dF)(K:cm):Prop:=
 ∀sT sG sA F' w',kQ w' v F' x.2.2->Dl w' sT sG sA x.2.1->cl F w w' ->(∀y,F' y->F y\/w.heap.size<=y)->(∀y,co sT y\/co sG y\/co sA y->w.heap.size<=y/\¬F' y)->
  K (.tuple #[C2 x.2.1 sT sG sA,.int .i64 x.1]) w'
def E5.tell{w:World}{v:Nat}{F a:Nat->Prop}{x:Int×Rp×dF}{K:cm}(h:E5 w v F x K){e:Int}{r:Rp}{T:dF}{sT sG sA:Value}{w' :World}(i:x=(e,r,T))(h1:kQ w' v a T)(b:Dl w' sT sG sA r)(g:cl F w w')(d:∀y,a y->F y\/w.heap.size<=y)
  (f:∀y,co sT y\/co sG y\/co sA y->w.heap.size<=y/\¬a y):K (.tuple #[C2 r sT sG sA,.int .i64 e]) w' :=by
 have:=h sT sG sA a w';rw[i]at this;exact this h1 b g d f
def E5.nil{w:World}{v:Nat}{F b:Nat->Prop}{x:Int×Rp×dF}{K:cm}(h:E5 w v F x K){e:Int}{T:dF}{w' :World}(g:x=(e,AS,T))(h1:kQ w' v b T)(f:cl F w w')(d:∀y,b y->F y\/w.heap.size<=y):K (.tuple #[C2 AS cF cF cF,.int .i64 e]) w' :=
 h.tell g h1 (Dl.nil _ 0) f d λy a=>by rcases a with a|a|a<;>cases a
def AQ{W:World}{mb:Nat}{A:List (Int×Nat)}(h:cU d8 eY W mb A){n:Int}{b:Nat}(a:lk A n=some b):(fA 63 (.map (some mb)) (.int .u32 n) false).run Tryz.prog W=.ok (eY b) W:=by
 have:=jD (ok:=false) (x:=n) BE pG QP (.inr ⟨mb,rfl,h⟩:Aq d8 eY W (.map (some mb)) A);rw[a]at this;exact this
def wm{W:World}{md:Nat}{D:List (Int×Value)}(h:cU d8 uK W md D)(n:Int):(fA 64 (.map (some md)) (.int .u32 n) false).run Tryz.prog W=.ok (rE D n) W:=by
 have:=jD (ok:=false) (x:=n) BF pG Nb (.inr ⟨md,rfl,h⟩:Aq d8 uK W (.map (some md)) D);unfold rE;cases a:lk D n with
 |none=>rw[a]at this;exact this
 |some x=>rw[a]at this;exact this
def BS(W:World):∃a,(Instr.alloc 235 true (.tuple #[])).run Tryz.prog W=.ok (.pointer (some ⟨W.heap.size,0,none⟩)) a/\hp a W.heap.size=some (.cells (nL cF cF 0 0) 235 (0,0))/\cl (λ_=>False) W a:=
 ⟨W.alloc (.cells (nL cF cF 0 0) 235),by simp[go_sem,nL,cF],by simp[go_sem],(cl.refl _ W).alloc _⟩
def BY{W:World}{q:Nat}{a b:Value}{f l:Int}(sT sG:Value)(f' l' :Int)(h:hp W q=some (.cells (nL a b f l) 235 (0,0)))(i:∃a n c,sT=.slice a n c)(m:∃a n c,sG=.slice a n c):
  ∃d,(Instr.storeAt 235 (.pointer (some ⟨q,0,none⟩)) (.agg (nL sT sG f' l'))).run Tryz.prog W=.ok () d/\hp d q=some (.cells (nL sT sG f' l') 235 (0,0))/\cl (λb=>b=q) W d:=by
 obtain⟨r,o,j,rfl⟩:=i;obtain⟨e,k,g,rfl⟩:=m;unfold nL at h;exact⟨(((W.setCell ⟨q,0,none⟩ (.slice r o j)).setCell ⟨q,1,none⟩ (.slice e k g)).setCell ⟨q,2,none⟩ (.int .i64 f')).setCell ⟨q,3,none⟩ (.int .i64 l'),by simp[go_sem,h,nL],by simp[go_sem,h,nL],((((cl.refl (λx=>x=q) W).setCell (.inl rfl) _ _).setCell (.inl rfl) _ _).setCell (.inl rfl) _ _).setCell (.inl rfl) _ _⟩
section
variable{w:World}{K:cm}{v c l mb md:Nat}{A:List (Int×Nat)}{D:List (Int×Value)}{fp:Pt->Nat->Prop}{S:dF}
end
def tX{l:List Ct}{n:Int}(h:di l n=0):(ek l n).isSome=true:=by
 obtain⟨k,a,-⟩:=ox h;rw[a];rfl
def MJ{o:Od}{w:World}{K:cm}(f:∀a b,b=w.heap.size->kR a (.slice (some ⟨b,0,none⟩) 1 1) [o]->cl (λ_=>False) w a->K (.slice (some ⟨b,0,none⟩) 1 1) a):rx Tryz.prog (dP gU 1 [(0,ig o)]) w K:=by
 refine fg [ig o] eW (cI Bw) rfl rfl (by intro v e;rw[List.mem_singleton.1 e];rfl) (by omega) ?_;have d:(([ig o]:List Value).flatMap (·.cells.toList)).toArray=(da o).toArray:=rfl;rw[d];exact f _ _ rfl ⟨rfl,.inr ⟨_,1,[],rfl,Nat.le_refl _,by rw[cY,if_pos rfl];simp,by simp,by simp⟩⟩ ((cl.refl _ w).alloc _)
def On{s e:Value}{L:List Od}{o:Od}{w:World}{K:cm}(h:kR w s L)(h1:kR w e [o])(k:L.length<=100000)
  (i:∀a d,kR d a (L++[o])->cl (co s) w d->(∀b,co a b->co s b\/w.heap.size<=b)->K a d):rx Tryz.prog (cv #[gU,gU] gU [s,e]) w K:=by
 refine dt eW eW (cI Bw) h h1.rd (by rw[HQ ic]) (by show(L.length+1)*32<=_;omega) λa d f j g=>i a d ?_ j g;rw[<-List.flatMap_append]at f;show dW d ir 5 a (L++[o]).length _;rw[List.length_append];exact f
def zm{S:dF}{n:Int}:n∈S.nums↔(ek S.cal.l n).isSome=true:=by
 unfold dF.nums ek;rw[List.mem_map,List.find?_isSome];constructor
 ·rintro⟨k,a,h⟩;exact⟨k,a,by simpa using h⟩
 ·rintro⟨k,a,h⟩;exact⟨k,a,by simpa using h⟩
section
variable{w:World}{K:cm}{v c l mb md:Nat}{A:List (Int×Nat)}{D:List (Int×Value)}{fp:Pt->Nat->Prop}{S:dF}
end
section
variable{w:World}{K:cm}{v c l mb md:Nat}{A:List (Int×Nat)}{D:List (Int×Value)}{fp:Pt->Nat->Prop}{S:dF}
end
def RL{w:World}{s:Value}{L:List Od}(h:Rd w 5 s L.length (L.flatMap da)){i:Nat}(hi:i<L.length):
  ∃p,(Instr.indexAt 133 s (.int .i64 (i:Int))).run Tryz.prog w=.ok p w/\(Instr.loadAt ir p).run Tryz.prog w=.ok (ig L[i]) w:=by
 obtain⟨b,f,r,d,k,t⟩:=h.item dB hi rfl;obtain⟨C,e,u,q,a⟩:=t.get;have j:=a 0 (.int .u64 L[i].num) rfl;have n:=a 1 (.int .u32 L[i].acct) rfl;have g:=a 2 (.bool L[i].buy) rfl;have o:=a 3 (.int .i64 L[i].price) rfl;have m:=a 4 (.int .i64 L[i].left) rfl;simp only[Nat.add_assoc,Nat.add_zero]at j n g o m;exact⟨.pointer (some ⟨b,f+i*5,none⟩),by rw[d];simp[go_sem,hi,cC],by simp[go_sem,cO q,j,n,g,o,m,da,ig]⟩
def KH(n:Int):Value:=.int .i64 n
abbrev RN:TypeId:=92
def QD{W:World}{r:Nat}{a:Ac}(h:hp W r=some (.cells (cJ a).toArray RN (0,0))):(Instr.loadAt RN (.pointer (some ⟨r,0,none⟩))).run Tryz.prog W=.ok (gR a) W:=by
 unfold cJ at h;simp[go_sem,h,gR]
def Dd:∀{l m:List Int},l.Nodup->(∀x∈l,x∈m)->l.length<=m.length:=by
 intro l;induction l with
 |nil=>intro m _ _;exact Nat.zero_le _
 |cons a l j=>
  intro m d g;rw[List.nodup_cons]at d;have f:=g a (List.mem_cons_self ..)
  have:=j (m:=m.erase a) d.2 λx i=>by
   have b:x≠a:=λe=>d.1 (e▸i);exact(List.mem_erase_of_ne b).2 (g x (List.mem_cons_of_mem _ i))
  rw[List.length_erase_of_mem f]at this;have h:0<m.length:=List.length_pos_of_mem f;rw[List.length_cons];omega
def ob{L:dM}(h:L.Ok)(c:Int):(L.holders c).length<=64:=by
 have k:((L.holders c).map (·.a)).Nodup:=by
  have f:=(h.sp.nodup).sublist ((List.filter_sublist (p:=λp:Po=>decide (p.c=c))).map Po.key);show((L.held.filter λp=>decide (p.c=c)).map (·.a)).Nodup
  have e:(L.held.filter λp=>decide (p.c=c)).map Po.key=((L.held.filter λp=>decide (p.c=c)).map (·.a)).map λa=>(c,a):=by
   rw[List.map_map];refine List.map_congr_left λp hp=>?_;have:=(List.mem_filter.1 hp).2;rw[decide_eq_true_eq]at this;show(p.c,p.a)=(c,p.a)
   rw[this]
  rw[e]at f;exact List.Pairwise.of_map (λa=>(c,a)) (λa b d e=>d (by rw[e])) f
 have:=Dd (m:=L.all.map (·.num)) k λx j=>by
  obtain⟨p,hp,rfl⟩:=List.mem_map.1 j;obtain⟨a,i,g⟩:=(h.pos p (List.mem_filter.1 hp).1).2.2.2.2.2.2.2;exact List.mem_map.2 ⟨a,i,g⟩
 rw[List.length_map,List.length_map]at this;exact Nat.le_trans this h.len
def Hx(p:Po->Bool):∀l:List Po,(l.filter p).length+(l.filter λx=> !p x).length=l.length:=by
 intro l;induction l with
 |nil=>rfl
 |cons a l b=>cases hp:p a<;>simp[hp]<;>omega
def I1{L:dM}:∀(ns:List Int) (H:List Po),(∀p∈H,p.c∈ns)->H.length<=(ns.map λn=>(H.filter λp=>decide (p.c=n)).length).sum:=by
 intro ns;induction ns with
 |nil=>intro H h;cases H with|nil=>simp|cons p H=>exact absurd (h p (List.mem_cons_self ..)) (by simp)
 |cons n ns a=>
  intro H h
  have h1:=a (H.filter λp=> !decide (p.c=n)) λp hp=>by
   obtain⟨d,b⟩:=List.mem_filter.1 hp;rcases List.mem_cons.1 (h p d)with e|e
   ·rw[e]at b;simp at b
   ·exact e
  have f:(H.filter λp=>decide (p.c=n)).length+(H.filter λp=> !decide (p.c=n)).length=H.length:=by
   exact Hx _ H
  have g:(ns.map λm=>((H.filter λp=> !decide (p.c=n)).filter λp=>decide (p.c=m)).length).sum<=(ns.map λm=>(H.filter λp=>decide (p.c=m)).length).sum:=by
   clear a h h1;induction ns with
   |nil=>simp
   |cons m ns a=>
    simp only[List.map_cons,List.sum_cons]
    have:((H.filter λp=> !decide (p.c=n)).filter λp=>decide (p.c=m)).length<=(H.filter λp=>decide (p.c=m)).length:=
     (List.filter_sublist.filter _).length_le
    omega
  simp only[List.map_cons,List.sum_cons];omega
def Fw{C:Aa}{L:dM}(b:C.Ok)(h:RZ C L):L.held.length<=1024:=by
 have h1:=I1 (L:=L) (C.l.map (·.spec.num)) L.held λp hp=>by
  obtain⟨k,i,-,f,g⟩:=ox (h.held p hp);exact List.mem_map.2 ⟨k,g,f⟩
 have d:∀a:List Int,(a.map λn=>(L.held.filter λp=>decide (p.c=n)).length).sum<=64*a.length:=by
  intro a;induction a with
  |nil=>simp
  |cons n a m=>
   have:=ob h.led n;unfold dM.holders at this;simp only[List.map_cons,List.sum_cons,List.length_cons];omega
 have e:=d (C.l.map (·.spec.num));have j:=b.len;rw[List.length_map]at e;omega
section
variable{w:World}{K:cm}{v c l mb md:Nat}{A:List (Int×Nat)}{D:List (Int×Value)}{fp:Pt->Nat->Prop}{S:dF}
end
section
variable{W:World}{q:Nat}{r:Rp}{sT:Value}
end
section
variable{w:World}{K:cm}{v c l mb md:Nat}{A:List (Int×Nat)}{D:List (Int×Value)}{fp:Pt->Nat->Prop}{S:dF}
end
section
variable{w:World}{K:cm}{v c l mb md:Nat}{A:List (Int×Nat)}{D:List (Int×Value)}{fp:Pt->Nat->Prop}{S:dF}
end
section
variable{w:World}{K:cm}{v c l mb md:Nat}{A:List (Int×Nat)}{D:List (Int×Value)}{fp:Pt->Nat->Prop}{S:dF}
end
end Go.Proofs
