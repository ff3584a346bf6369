/- Part of a proof. -/
import Derived.Test.YtekbnpagidkbbaaGreatQ5
set_option linter.all false
namespace Go.Vc
open Go Go.Vc
variable {L:List As}{w:Wt_}
def pt(b:Nat)(cs:LV_)(T:TypeId):As:=
 ⟨λw F=>hp w b=some (.cells cs.toArray T (0,0))/\∀x,F x↔x=b,λh hb=>by rw[(h.2 _).1 hb];exact ay h.1,λh m hg=>⟨m.keep h.1 (hg b ((h.2 b).2 rfl)),h.2⟩⟩
def tG{b:Nat}{cs:LV_}{T:TypeId}{M:List As}(k:dV L (pt b cs T::M))(h:Ss w L):hp w b=some (.cells cs.toArray T (0,0)):=by
 obtain⟨F,x⟩:=h;obtain⟨a,c,h1,-⟩:=(k.out w F).1 x;exact h1.1
def Ss.upd{A B:As}{w' :Wt_}(h:Ss w (A::L))(k:∀F,A.P w F->∃c,B.P w' c/\aS F w w' /\∀b,c b->F b\/w.heap.size<=b):Ss w' (B::L):=by
 obtain⟨j,g,h1,e,f⟩:=Ss.cons.1 h;obtain⟨c,k1,k2,k3⟩:=k j h1;refine Ss.cons.2 ⟨c,g,k1,e.md k2 λb a d=>f b d a,λb a d=>?_⟩;rcases k3 b a with a|a
 ·exact f b a d
 ·have:=e.lt d;omega
def Ss.new{B:As}{w' :Wt_}(h:Ss w L)(m:M0 w w'){F' :NP_}(k:B.P w' F')(n:∀b,F' b->w.heap.size<=b):Ss w' (B::L):=by
 obtain⟨F,x⟩:=h;refine Ss.cons.2 ⟨F',F,k,x.md m dS,λb a c=>?_⟩;have:=x.lt c;have:=n b a;omega
section
variable{P:Program}{L M:List As}{b i:Nat}{cs cs' :LV_}{T t:TypeId}{v x:Vt_}{k:Value->WP}{k0:WP}{s:Sem Value}
def Gs.ld(a:dV L (pt b cs T::M))(h:∀w,hp w b=some (.cells cs.toArray T (0,0))->(iL t (bO b i)).run P w=.ok v w)(c:Gs L (k v)):Gs L (Vw P (iL t (bO b i)) k):=
 Gs.V (λw x=>h w (tG a x)) c
def Gs.ldW(a:dV L (pt b cs T::M))(h:∀w,hp w b=some (.cells cs.toArray T (0,0))->(iL t (bO b i)).run P w=.ok v w)(c:Gs L (k v)):Gs L (Ww P (iL t (bO b i)) k):=
 Gs.W (λw x=>h w (tG a x)) c
def Gs.ldE(a:dV L (pt b cs T::M))(h:∀w,hp w b=some (.cells cs.toArray T (0,0))->(iL t (bO b i)).run P w=.ok v w)(c:Gs L k0):Gs L (Ew P (iL t (bO b i)) v k0):=
 Gs.E (λw x=>h w (tG a x)) c
def So{w:Wt_}(h:hp w b=some (.cells cs.toArray T (0,0)))(e:cs.set i x=cs'):hp (w.setCell ⟨b,i,none⟩ x) b=some (.cells cs'.toArray T (0,0))/\aS (λy=>y=b) w (w.setCell ⟨b,i,none⟩ x):=by
 refine⟨?_,(aS.refl (λy=>y=b) w).setCell (.inl rfl) _ _⟩;rw[jY,ae rfl,h,eM,<-e];simp
def Gs.al(h:∀w,s.run P w=.ok (bO w.heap.size 0) (w.alloc (.cells cs.toArray T)))(a:∀b,Gs (pt b cs T::L) (k (bO b 0))):Gs L (Vw P s k):=⟨λw y=>by
 refine bh (h w) ((a _).go _ (y.new ((aS.refl _ w).alloc _) (F' :=λx=>x=w.heap.size) ⟨?_,λ_=>aG⟩ λx c=>qZ));rw[xh,ae rfl]⟩
def Gs.al0(h:∀w,(iA T true (.tuple #[])).run P w=.ok (bO w.heap.size 0) (w.alloc (.cells cs.toArray T)))(a:∀b,Gs (pt b cs T::L) (k (bO b 0))):Gs L (Vw P (iA T true (.tuple #[])) k):=Gs.al h a
def Gs.bx(h:∀w,(Instr.box T x).run P w=.ok (bO w.heap.size 0) (w.alloc (.cells cs.toArray T)))(a:∀b,Gs (pt b cs T::L) (k (bO b 0))):Gs L (Vw P (Instr.box T x) k):=Gs.al h a
def Gs.stG{u:Sem Unit}(c:dV L (pt b cs T::M))(h:∀w,hp w b=some (.cells cs.toArray T (0,0))->∃a,u.run P w=.ok () a/\hp a b=some (.cells cs'.toArray T (0,0))/\aS (λy=>y=b) w a)
  (f:Gs (pt b cs' T::M) k0):Gs L (Uw P u k0):=⟨λw y=>by
 obtain⟨F,z⟩:=y;have m:Ss w (pt b cs T::M):=⟨F,(c.out w F).1 z⟩
 obtain⟨a,h1,j,l⟩:=h w (tG c ⟨F,z⟩);refine gg h1 (f.go a (m.upd λg e=>⟨g,⟨j,e.2⟩,l.mono λy _ d=>(e.2 y).2 d,λy d=>.inl d⟩))⟩
def Gs.st(a:dV L (pt b cs T::M))(h:∀w,hp w b=some (.cells cs.toArray T (0,0))->(iS t (bO b i) x).run P w=.ok () (w.setCell ⟨b,i,none⟩ x))(e:cs.set i x=cs')
  (c:Gs (pt b cs' T::M) k0):Gs L (Uw P (iS t (bO b i) x) k0):=Gs.stG a (λw y=>⟨_,h w y,So y e⟩) c
def Bn{n:Nat}{xs:LV_}{w:Wt_}(c:xs.length=n+1)(f:P.cellsOf t=n+1)(d:i+xs.length<=cs.length)(h1:xs.all (·.oneCell')=true)(e:iC cs i xs=cs')(h:hp w b=some (.cells cs.toArray T (0,0))):
  ∃a,(oT t (bO b i) (.agg xs.toArray)).run P w=.ok () a/\hp a b=some (.cells cs'.toArray T (0,0))/\aS (λy=>y=b) w a:=by
 have r:=sy (P:=P) (w:=w) (b:=b) (off:=i) f c h (by simpa using d) h1;refine⟨_,r,?_,(aS.refl (λy=>y=b) w).setRow (.inl rfl) _⟩;rw[xM,ae rfl,h,<-e]
def Gs.sta{n:Nat}{xs:LV_}(a:dV L (pt b cs T::M))(d:xs.length=n+1)(f:P.cellsOf t=n+1)(g:i+xs.length<=cs.length)(h1:xs.all (·.oneCell')=true)(e:iC cs i xs=cs')(c:Gs (pt b cs' T::M) k0):
  Gs L (Uw P (iS t (bO b i) (.agg xs.toArray)) k0):=Gs.stG a (λw h=>Bn (t:=t) d f g h1 e h) c
def Gs.stx{n:Nat}{xs:LV_}(h:x=.agg xs.toArray)(a:dV L (pt b cs T::M))(d:xs.length=n+1)(f:P.cellsOf t=n+1)(g:i+xs.length<=cs.length)(h1:xs.all (·.oneCell')=true)(e:iC cs i xs=cs')(c:Gs (pt b cs' T::M) k0):
  Gs L (Uw P (iS t (bO b i) x) k0):=by subst h;exact Gs.sta a d f g h1 e c
def Gs.stY{n:Nat}{xs:LV_}(a:dV L (pt b cs T::M))(d:xs.length=n+1)(f:P.cellsOf t=n+1)(g:i+xs.length<=cs.length)(h1:xs.all (·.oneCell')=true)(e:iC cs i xs=cs')(c:Gs (pt b cs' T::M) k0):
  Gs L (Yw P (oT t (bO b i) (.agg xs.toArray)) k0):=⟨λw y=>⟨(Gs.stG a (λw h=>Bn (t:=t) d f g h1 e h) c).go w y⟩⟩
def Gs.Ib{c:Bool}{a b:WP}(d:c=true->Gs L a)(e:c=false->Gs L b):Gs L (Iw (.bool c) a b):=by
 cases c
 ·exact Gs.If (e rfl)
 ·exact Gs.It (d rfl)
structure Wr(G:Prop):Prop where
 out:G
def Snt:WP:=λ_=>True
def Gs.snt:Gs L Snt:=⟨λ_ _=>trivial⟩
def au{φ:WP}{G:Prop}(g:G)(h:Wr G->Gs L φ:=by
 intro g
 fail_if_success with_reducible exact Gs.snt
 repeat first
  |with_reducible apply Gs.D
  |with_reducible apply Gs.Q
  |with_reducible apply Gs.It
  |with_reducible apply Gs.If
  |((with_reducible apply Gs.ld);(· (repeat first|(with_reducible exact eg)|(with_reducible apply ee)));(· (intro w h;simp[go_sem,h]<;>first|exact⟨rfl,rfl⟩|exact rfl)))
  |((with_reducible apply Gs.ldW);(· (repeat first|(with_reducible exact eg)|(with_reducible apply ee)));(· (intro w h;simp[go_sem,h]<;>first|exact⟨rfl,rfl⟩|exact rfl)))
  |((with_reducible apply Gs.ldE);(· (repeat first|(with_reducible exact eg)|(with_reducible apply ee)));(· (intro w h;simp[go_sem,h]<;>first|exact⟨rfl,rfl⟩|exact rfl)))
  |((with_reducible apply Gs.stx);(·rfl);(· (repeat first|(with_reducible exact eg)|(with_reducible apply ee)));(·rfl);(·kernel_rfl);(·exact Nat.le_of_ble_eq_true rfl);(·rfl);(·first|exact lR rfl|(simp[iC];done)|(simp[iC];rfl)))
  |((with_reducible apply Gs.st);(· (repeat first|(with_reducible exact eg)|(with_reducible apply ee)));(· (intro w h;simp[go_sem,h]));(· (simp only[List.set_cons_succ,List.set_cons_zero]<;>rfl)))
  |((with_reducible apply Gs.al0);(· (intro w;simp[go_sem]<;>first|exact⟨rfl,rfl⟩|exact rfl)))
  |((with_reducible apply Gs.bx);(· (intro w;simp[go_sem]<;>first|exact⟨rfl,rfl⟩|exact rfl)))
  |((with_reducible apply Gs.V);(· (intro w _;simp[go_sem]<;>first|(rw[fI]<;>omega)|(rw[qC]<;>omega)|exact⟨rfl,rfl⟩|exact rfl)))
  |((with_reducible apply Gs.N);(· (intro w _;simp[go_sem]<;>first|(rw[fI]<;>omega)|(rw[qC]<;>omega)|exact⟨rfl,rfl⟩|exact rfl)))
  |((with_reducible apply Gs.W);(· (intro w _;simp[go_sem]<;>first|(rw[fI]<;>omega)|(rw[qC]<;>omega)|exact⟨rfl,rfl⟩|exact rfl)))
  |((with_reducible apply Gs.E);(· (intro w _;simp[go_sem]<;>first|(rw[fI]<;>omega)|(rw[qC]<;>omega)|exact⟨rfl,rfl⟩|exact rfl)))
  |((with_reducible apply Gs.Pu);(· (intro w;simp[go_sem]<;>first|(rw[fI]<;>omega)|(rw[qC]<;>omega)|exact⟨rfl,rfl⟩|exact rfl)))
 exact g.out):Gs L φ:=h ⟨g⟩
end
end Go.Vc
namespace Go.Proofs
open Go Go.Vc
variable {n:Int}{x y:Int×Int}
section
variable{κ ν:Type} [DecidableEq κ]
def sL{L:List (κ×ν)}(c:(L.map (·.1)).Nodup){k:κ}{v:ν}(h:(k,v)∈L):lk L k=some v:=by
 induction L with
 |nil=>cases h
 |cons p L d=>
  obtain⟨a,b⟩:=p;simp only[aD,bY]at c;rcases ar.1 h with h|h
  ·cases h;simp[lk]
  ·have:a≠k:=λe=>c.1 (e▸aR (f:=(·.1)) h);simp only[lk,aa this];exact d c.2 h
def QL{L:List (κ×ν)}(a:(L.map (·.1)).Nodup){k:κ}{v:ν}:lk L k=some v↔(k,v)∈L:=⟨xD,sL a⟩
def zI{A L:List (κ×ν)}(c:(A.map (·.1)).Nodup)(h:A.Perm L)(k:κ):lk A k=lk L k:=by
 have a:(L.map (·.1)).Nodup:=(h.map _).nodup_iff.1 c;cases b:lk A k with
 |some v=>exact(sL a (h.mem_iff.1 (xD b))).symm
 |none=>
  cases d:lk L k with
  |none=>rfl
  |some v=>rw[sL c (h.mem_iff.2 (xD d))]at b;cases b
def Nh{L:List (κ×ν)}(c:(L.map (·.1)).Nodup)(k:κ)(v:ν):(put L k v).Perm ((k,v)::L.filter (λp=>p.1≠k)):=by
 induction L with
 |nil=>exact cR _
 |cons p L d=>
  obtain⟨a,b⟩:=p;simp only[aD,bY]at c;simp only[put];by_cases h:a=k
  ·subst h;rw[ae rfl,aU (by simp)];apply List.Perm.cons _;rw[cL.2 λx f=>?_];have:x.1≠a:=λe=>c.1 (e▸aR f);simpa using this
  ·rw[aa h,bI (by simpa using h)];exact((d c.2).cons _).trans (List.Perm.swap ..)
def Gk{A L:List (κ×ν)}(a:(A.map (·.1)).Nodup)(h:A.Perm L)(k:κ)(v:ν):(put A k v).Perm ((k,v)::L.filter (λp=>p.1≠k)):=
 (Nh a k v).trans ((h.filter _).cons _)
def Nb{L:List (κ×ν)}(c:(L.map (·.1)).Nodup)(k:κ):ze L k=L.filter (λp=>p.1≠k):=by
 induction L with
 |nil=>rfl
 |cons p L f=>
  obtain⟨a,b⟩:=p;simp only[aD,bY]at c;simp only[ze];by_cases h:a=k
  ·subst h;rw[ae rfl,aU (by simp)];rw[cL.2 λx d=>?_];have:x.1≠a:=λe=>c.1 (e▸aR d);simpa using this
  ·grind
def Oq{A L:List (κ×ν)}(a:(A.map (·.1)).Nodup)(h:A.Perm L)(k:κ):(ze A k).Perm (L.filter (λp=>p.1≠k)):=by
 rw[Nb a];exact h.filter _
end
def ue{l a:List Int}(h:l.Perm a):l.sum=a.sum:=by
 induction h with
 |nil=>rfl
 |cons x _ b=>simp[b]
 |swap x y l=>simp;omega
 |trans _ _ h1 c=>exact h1.trans c
structure Ac where
 num:Int
 cash:Int
 kil:Bool
 dfl:Bool
 deriving DecidableEq
variable {a:Ac}{l:List Ac}
structure Po where
 c:Int
 a:Int
 q:Int
 b:Int
 deriving DecidableEq
structure bE where
 fund:Int
 all:List Ac
 held:List Po
variable {S:bE}
instance:Inhabited Ac:=⟨⟨0,0,false,false⟩⟩
instance:Inhabited Po:=⟨⟨0,0,0,0⟩⟩
def Po.key(p:Po):Int×Int:=(p.c,p.a)
def Po.isZ(p:Po):Bool:=decide (p.q=0/\p.b=0)
def uJ(x y:Int×Int):Bool:=decide (x.1<y.1\/(x.1=y.1/\x.2<y.2))
def nI:uJ x y=true↔(x.1<y.1\/(x.1=y.1/\x.2<y.2)):=by simp[uJ]
def zn(x y:Int×Int):uJ x y=true\/x=y\/uJ y x=true:=by
 rw[nI,nI,Prod.ext_iff];omega
def xC{z:Int×Int}(h:uJ x y=true)(a:uJ y z=true):uJ x z=true:=by
 rw[nI]at*;omega
def Dy:uJ x x=false:=by
 rw[ez,Ne,nI];omega
def tv(h:uJ x y=true):x≠y:=by
 intro e;subst e;rw[Dy]at h;cases h
def xq(h:uJ x y=true):uJ y x=false:=by
 rw[nI]at h;rw[ez,Ne,nI];omega
def BH(l:List Ac)(a:Ac):List Ac:=l.filter (λx=>decide (x.num<a.num))++a::l.filter (λx=>decide (a.num<x.num))
def HR(l:List Po)(p:Po):List Po:=l.filter (λx=>uJ x.key p.key)++((if p.isZ then []else [p])++l.filter (λx=>uJ p.key x.key))
def mg(l:List Ac):Prop:=l.Pairwise λx y=>x.num<y.num
def kr(l:List Po):Prop:=l.Pairwise λx y=>uJ x.key y.key=true
def rz{x:Ac}:x∈BH l a↔(x∈l/\x.num≠a.num)\/x=a:=by
 simp only[BH,bm,ar,aT,aX];constructor
 ·rintro(⟨h,b⟩|h|⟨h,b⟩)
  ·grind
  ·exact .inr h
  ·grind
 ·rintro(⟨h,b⟩|h)
  ·rcases Int.lt_or_gt_of_ne b with c|c
   ·exact .inl ⟨h,c⟩
   ·grind
  ·exact .inr (.inl h)
def rh{l:List Po}{p x:Po}:x∈HR l p↔(x∈l/\x.key≠p.key)\/(x=p/\p.isZ=false):=by
 have c:x∈(if p.isZ=true then []else [p])↔x=p/\p.isZ=false:=by
  cases p.isZ<;>simp
 simp only[HR,bm,aT,c];constructor
 ·rintro(⟨h,a⟩|h|⟨h,a⟩)
  ·exact .inl ⟨h,tv a⟩
  ·exact .inr h
  ·exact .inl ⟨h,λe=>tv a e.symm⟩
 ·rintro(⟨h,a⟩|h)
  ·rcases zn x.key p.key with b|b|b
   ·exact .inl ⟨h,b⟩
   ·exact absurd b a
   ·grind
  ·exact .inr (.inl h)
def rZ(h:mg l)(a:Ac):mg (BH l a):=by
 unfold mg BH;rw[de,bX];refine⟨h.filter _,⟨λx c=>by grind,h.filter _⟩,λx c y b=>?_⟩;have h1:x.num<a.num:=by grind
 rcases ar.1 b with rfl|b
 ·exact h1
 ·grind
theorem rX{l:List Po}(h:kr l)(p:Po):kr (HR l p):=by
 unfold kr HR;rw[de,de];have c:∀x∈(if p.isZ=true then []else [p]),x=p:=λx b=>by grind
 refine⟨h.filter _,⟨?_,h.filter _,λx b y a=>?_⟩,λx b y a=>?_⟩
 ·cases p.isZ<;>simp
 ·grind
 ·have h1:uJ x.key p.key=true:=(aT.1 b).2;rcases bm.1 a with a|a
  ·rw[c y a];exact h1
  ·exact xC h1 (aT.1 a).2
def mg.nodup(h:mg l):(l.map (·.num)).Nodup:=by
 rw[List.Nodup,eA];exact h.imp λh=>by omega
def kr.nodup{l:List Po}(h:kr l):(l.map Po.key).Nodup:=by
 rw[List.Nodup,eA];exact h.imp λh=>tv h
def wW{α:Type}(l:List α)(p q:α->Bool)(h:∀x∈l,p x=true->q x=false):(l.filter p++l.filter q).Perm (l.filter λx=>p x||q x):=by
 induction l with
 |nil=>exact cR _
 |cons x l b=>
  have b:=b λy c=>h y (af _ c);cases hp:p x with
  |true=>
   have a:=h x ai hp;rw[bI hp,aU (by simp[a]),bI (by simp[hp])];exact b.cons x
  |false=>
   cases a:q x with
   |true=>
    rw[aU (by simp[hp]),bI a,bI (by simp[a])];exact nj.trans (b.cons x)
   |false=>
    rw[aU (by simp[hp]),aU (by simp[a]),aU (by simp[hp,a])];exact b
theorem uK(l:List Ac)(a:Ac):(BH l a).Perm (a::l.filter λx=>decide (x.num≠a.num)):=by
 refine nj.trans (List.Perm.cons _ ((wW l _ _ λx _ h=>?_).trans (iv (dH λx _=>?_))))
 ·grind
 ·grind
def xY(l:List Po)(p:Po):(HR l p).Perm ((if p.isZ then []else [p])++l.filter λx=>decide (x.key≠p.key)):=by
 refine List.perm_append_comm_assoc .. |>.trans (List.Perm.append_left _ ((wW l _ _ λx _ h=>?_).trans (iv (dH λx _=>?_))))
 ·exact xq h
 ·rw[dr];have:=zn x.key p.key;simp only[li,aX];constructor
  ·rintro(h|h) e
   ·exact tv h e
   ·exact tv h e.symm
  ·intro h;rcases this with a|a|a
   ·exact .inl a
   ·exact absurd a h
   ·exact .inr a
def N3{c:List Ac}(h:mg l)(d:mg c)(hp:l.Perm c):l=c:=
 hp.eq_of_pairwise (λa b _ _ h1 e=>qZ) h d
def bE.find(S:bE)(n:Int):Option Ac:=S.all.find? λx=>decide (x.num=n)
def bE.pos? (S:bE)(k:Int×Int):Option Po:=S.held.find? λx=>decide (x.key=k)
def nu(f:Int):Ac:=⟨0,f,false,false⟩
def bE.getO(S:bE)(n:Int):Option Ac:=if n=0 then some (nu S.fund)else S.find n
def bE.funds(S:bE):Int:=S.fund+(S.all.map (·.cash)).sum
def bE.putA(S:bE)(a:Ac):bE:=if a.num=0 then{S with fund:=a.cash}else{S with all:=BH S.all a}
def bE.putP(S:bE)(p:Po):bE:={S with held:=HR S.held p}
def aW(n lo hi:Int):Bool:=decide (lo<=n/\n<=hi)
def MF:Int:=1000000000000000
def MP:Int:=10000000
def bE.deposit(S:bE)(n m:Int):Int×bE:=
 if aW m 1 MF then
  if S.getO n=none/\64<=S.all.length then(9,S)
  else if S.funds+m>MF then(6,S)
  else(0,S.putA {(S.getO n).getD ⟨0,0,false,false⟩with num:=n,cash:=((S.getO n).getD ⟨0,0,false,false⟩).cash+m})
 else(2,S)
def bE.withdraw(S:bE)(n m:Int):Int×bE:=
 if n=0\/aW m 1 MF=false then(2,S)
 else match S.find n with
  |none=>(7,S)
  |some a=>if a.cash<m then(90,S)else(0,S.putA {a with cash:=a.cash - m})
def bE.set(S:bE)(a:Ac):Int×bE:=
 if aW a.cash 0 MF=false\/(a.num=0/\(a.kil=true\/a.dfl=true))then(2,S)
 else if S.getO a.num=none then(7,S)else(0,S.putA a)
def bE.position(S:bE)(c a:Int):Po:=(S.pos? (c,a)).getD ⟨c,a,0,0⟩
def bE.trade(S:bE)(c b s p n:Int):Int×bE:=
 if c=0\/b=0\/s=0\/b=s\/aW p 1 MP=false\/aW n 1 MP=false then(2,S)
 else if S.find b=none\/S.find s=none then(7,S)
 else
  let x:Po:=⟨c,b,(S.position c b).q+n,(S.position c b).b+p*n⟩
  let y:Po:=⟨c,s,(S.position c s).q - n,(S.position c s).b - p*n⟩
  if MP<x.q\/y.q< -MP\/MF<x.b\/y.b< -MF then(6,S)else(0,(S.putP x).putP y)
def bE.holders(S:bE)(c:Int):List Po:=S.held.filter λp=>decide (p.c=c)
def bE.ofA(S:bE)(a:Int):List Po:=S.held.filter λp=>decide (p.a=a)
def Po.mark(p:Po)(price:Int)(cl:Bool):Po:=if cl then⟨p.c,p.a,0,0⟩else{p with b:=p.q*price}
def bE.marked(S:bE)(l:List Po)(price:Int)(cl:Bool):bE:=l.foldl (λS p=>S.putP (p.mark price cl)) S
def bE.mark(S:bE)(c price:Int)(cl:Bool):Int×List (Int×Int)×bE:=
 if c=0\/aW price 1 MP=false then(2,[],S)
 else(0,(S.holders c).map (λp=>(p.a,p.q*price - p.b)),S.marked (S.holders c) price cl)
structure bE.Ok(S:bE):Prop where
 fund:0<=S.fund/\S.fund<=MF
 sa:mg S.all
 sp:kr S.held
 len:S.all.length<=64
 acc:∀a∈S.all,0<a.num/\a.num<4294967296/\0<=a.cash/\a.cash<=MF
 pos:∀p∈S.held,0<p.c/\p.c<4294967296/\p.isZ=false/\ -MP<=p.q/\p.q<=MP/\ -MF<=p.b/\p.b<=MF/\∃a∈S.all,a.num=p.a
def bE.accs(S:bE):List (Int×Ac):=(0,nu S.fund)::S.all.map λa=>(a.num,a)
def bE.poss(S:bE):List ((Int×Int)×Po):=S.held.map λp=>(p.key,p)
def Ej(l:List Ac)(n:Int):lk (l.map λa=>(a.num,a)) n=l.find? λx=>decide (x.num=n):=by
 induction l with
 |nil=>rfl
 |cons a l b=>
  simp only[aD,lk,b,iz];by_cases h:a.num=n<;>simp[h]
def J1(l:List Po)(k:Int×Int):lk (l.map λp=>(p.key,p)) k=l.find? λx=>decide (x.key=k):=by
 induction l with
 |nil=>rfl
 |cons a l b=>
  simp only[aD,lk,b,iz];by_cases h:a.key=k<;>simp[h]
def bE.lk_accs(S:bE)(n:Int):lk S.accs n=S.getO n:=by
 simp only[bE.accs,lk,Ej,bE.getO,bE.find];by_cases h:n=0
 ·simp[h]
 ·grind
def bE.lk_poss(S:bE)(k:Int×Int):lk S.poss k=S.pos? k:=J1 _ _
def yN(l:List Ac)(n:Int):(l.map λa=>(a.num,a)).filter (λp=>decide (p.1≠n))=(l.filter λx=>decide (x.num≠n)).map λa=>(a.num,a):=by
 rw[List.filter_map];rfl
def yR(l:List Po)(k:Int×Int):(l.map λp=>(p.key,p)).filter (λp=>decide (p.1≠k))=(l.filter λx=>decide (x.key≠k)).map λp=>(p.key,p):=by
 rw[List.filter_map];rfl
def bE.Ok.put_accs(h:S.Ok){A:List (Int×Ac)}(e:(A.map (·.1)).Nodup)(hp:A.Perm S.accs)(a:Ac)(c:a.num=0->a=nu a.cash):(put A a.num a).Perm (S.putA a).accs:=by
 apply(Gk e hp _ _).trans;unfold bE.putA;by_cases b:a.num=0
 ·rw[ae b];simp only[bE.accs];rw[aU (by simp[b]),yN,b];rw[cL.2 λx d=>by have:=(h.acc x d).1;simp;omega];rw[<-c b]
 ·rw[aa b];simp only[bE.accs];rw[bI (by grind),yN];refine(List.Perm.swap ..).trans (List.Perm.cons _ ?_);exact((uK S.all a).map λa=>(a.num,a)).symm
def bE.put_poss{B:List ((Int×Int)×Po)}(a:(B.map (·.1)).Nodup)(hp:B.Perm S.poss)(p:Po)(b:p.isZ=false):(put B p.key p).Perm (S.putP p).poss:=by
 apply(Gk a hp _ _).trans;simp only[bE.poss,bE.putP];rw[yR];have:=(xY S.held p).map λp=>(p.key,p)
 rw[b]at this;exact this.symm
def bE.del_poss{B:List ((Int×Int)×Po)}(a:(B.map (·.1)).Nodup)(hp:B.Perm S.poss)(p:Po)(b:p.isZ=true):(ze B p.key).Perm (S.putP p).poss:=by
 apply(Oq a hp _).trans;simp only[bE.poss,bE.putP];rw[yR];have:=(xY S.held p).map λp=>(p.key,p)
 rw[b]at this;exact this.symm
def bE.find_mem(h:S.find n=some a):a∈S.all/\a.num=n:=by
 unfold bE.find at h;exact⟨dz h,by grind⟩
def bE.pos_mem{k:Int×Int}{p:Po}(h:S.pos? k=some p):p∈S.held/\p.key=k:=by
 unfold bE.pos? at h;exact⟨dz h,by grind⟩
def bE.find_some(h:mg S.all){a:Ac}(b:a∈S.all):S.find a.num=some a:=by
 unfold bE.find;rw[<-Ej];exact sL (by rw[dK];exact h.nodup) (aR (f:=λa:Ac=>(a.num,a)) b)
def bE.pos_some(h:kr S.held){p:Po}(hp:p∈S.held):S.pos? p.key=some p:=by
 unfold bE.pos?;rw[<-J1];exact sL (by rw[dK];exact h.nodup) (aR (f:=λp:Po=>(p.key,p)) hp)
def bE.Ok.position(h:S.Ok)(c a:Int):(S.position c a).c=c/\(S.position c a).a=a/\ -MP<=(S.position c a).q/\(S.position c a).q<=MP/\ -MF<=(S.position c a).b/\(S.position c a).b<=MF:=by
 unfold bE.position;cases hp:S.pos? (c,a)with
 |none=>simp[MP,MF]
 |some p=>
  obtain⟨h1,b⟩:=bE.pos_mem hp;have:=h.pos p h1;simp only[Po.key,mI]at b;exact⟨b.1,b.2,this.2.2.2.1,this.2.2.2.2.1,this.2.2.2.2.2.1,this.2.2.2.2.2.2.1⟩
def Am(l:List Ac)(a:Ac):(BH l a).length<=l.length+1:=by
 rw[(uK l a).length_eq];simp only[be];exact Nat.succ_le_succ (bi ..)
def By(h:∃x∈l,x.num=a.num):(BH l a).length<=l.length:=by
 rw[(uK l a).length_eq];obtain⟨x,b,e⟩:=h;simp only[be];exact gY.2 ⟨x,b,by simp[e]⟩
def bE.Ok.putA(h:S.Ok){a:Ac}(h1:0<=a.num/\a.num<4294967296)(k:0<=a.cash/\a.cash<=MF)(b:S.find a.num≠none\/S.all.length<64\/a.num=0):(S.putA a).Ok:=by
 unfold bE.putA;by_cases g:a.num=0
 ·rw[ae g];exact{h with fund:=k}
 ·rw[aa g];refine{fund:=h.fund,sa:=rZ h.sa a,sp:=h.sp,len:=?_,acc:=λx c=>?_,pos:=λp hp=>?_}
  ·rcases b with b|b|b
   ·obtain⟨x,c⟩:=Option.ne_none_iff_exists'.1 b;obtain⟨f,e⟩:=bE.find_mem c;exact ci (By ⟨x,f,e⟩) h.len
   ·exact ci (Am ..) b
   ·exact absurd b g
  ·rcases rz.1 c with⟨c,_⟩|rfl
   ·exact h.acc x c
   ·grind
  ·obtain⟨o,l,r,n,q,j,m,x,c,d⟩:=h.pos p hp;refine⟨o,l,r,n,q,j,m,?_⟩;by_cases i:x.num=a.num
   ·exact⟨a,rz.2 (.inr rfl),i.symm.trans d⟩
   ·exact⟨x,rz.2 (.inl ⟨c,i⟩),d⟩
def bE.Ok.putP(h:S.Ok){p:Po}(h1:0<p.c/\p.c<4294967296)(c: -MP<=p.q/\p.q<=MP)(d: -MF<=p.b/\p.b<=MF)(e:∃a∈S.all,a.num=p.a):(S.putP p).Ok:=by
 refine{fund:=h.fund,sa:=h.sa,sp:=rX h.sp p,len:=h.len,acc:=h.acc,pos:=λx b=>?_};rcases rh.1 b with⟨b,_⟩|⟨rfl,f⟩
 ·exact h.pos x b
 ·exact⟨h1.1,h1.2,f,c.1,c.2,d.1,d.2,e⟩
def bE.Ok.getO(h:S.Ok){n:Int}{a:Ac}(b:S.getO n=some a):a.num=n/\0<=a.num/\a.num<4294967296/\0<=a.cash/\a.cash<=MF/\(a.num=0->a=nu a.cash):=by
 unfold bE.getO at b;split at b
 ·rename_i g
  cases b;exact⟨by simp[nu,g],by simp[nu],by simp[nu],h.fund.1,h.fund.2,λ_=>rfl⟩
 ·obtain⟨h1,d⟩:=bE.find_mem b;obtain⟨i,e,f,c⟩:=h.acc a h1;exact⟨d,qZ,e,f,c,qZ⟩
def bE.Ok.funds(h:S.Ok):0<=S.funds/\S.funds<=MF*65:=by
 have key:∀l:List Ac,(∀a∈l,0<=a.cash/\a.cash<=MF)->0<=(l.map (·.cash)).sum/\(l.map (·.cash)).sum<=MF*l.length:=by
  intro l b;induction l with
  |nil=>simp
  |cons a l e=>
   have h1:=b a ai;have d:=e λx f=>b x (af _ f);simp only[aD,bC,be,MF]at*;omega
 have h1:=key S.all λa c=>(h.acc a c).2.2;have d:=h.fund;have g:=h.len;unfold bE.funds;simp only[MF]at*;omega
def Ve(h:∀a∈l,0<=a.cash):0<=(l.map (·.cash)).sum/\∀a∈l,a.cash<=(l.map (·.cash)).sum:=by
 induction l with
 |nil=>simp
 |cons a l c=>
  have h1:=h a ai;obtain⟨e,d⟩:=c λx b=>h x (af _ b);simp only[aD,bC];refine⟨qZ,λx b=>?_⟩;rcases ar.1 b with rfl|b
  ·omega
  ·have:=d x b;omega
def bE.Ok.cash_le(h:S.Ok){n:Int}{a:Ac}(b:S.getO n=some a):a.cash<=S.funds:=by
 have d:=Ve (l:=S.all) λa c=>(h.acc a c).2.2.1;have e:=h.fund;unfold bE.funds;unfold bE.getO at b;split at b
 ·cases b;simp only[nu];omega
 ·have:=d.2 a (bE.find_mem b).1;omega
def eU{lo hi:Int}:aW n lo hi=true↔lo<=n/\n<=hi:=by simp[aW]
def IP{x y m:Int}(h1: -m<=x/\x<=m)(a:0<=y/\y<=n): -(m*n)<=x*y/\x*y<=m*n:=by
 have b:0<=m:=qZ;constructor
 ·have c:(-x)*y<=m*n:=Int.mul_le_mul qZ a.2 a.1 b;have:(-x)*y= -(x*y):=Int.neg_mul x y;omega
 ·exact Int.mul_le_mul h1.2 a.2 a.1 b
end Go.Proofs
set_option maxRecDepth 100000
set_option maxHeartbeats 1000000
namespace Go.Proofs
open Go Go.Vc
variable {F:NP_}{l:Nat}{w:Wt_}{K:aY}{S:bE}
def uo{S:Type}{body:S->World->(S->World->Prop)->Prop}{s:S}(I:S->World->Prop)(m:S->World->Nat)(e:I s w)
  (h:∀s w,I s w->∀c:S->World->Prop,(∀a b,I a b->m a b<m s w->c a b)->body s w c):nU body s w:=
 ⟨⟨I,m,e,λs w f=>h s w f _ λ_ _ h1 d=>⟨h1,d⟩⟩⟩
def eu(l:Nat):Value:=bO l 0
def db(a:Ac):List Value:=[.int .u32 a.num,gI a.cash,.bool a.kil,.bool a.dfl]
def kx(a:Ac):Value:=.agg #[.int .u32 a.num,gI a.cash,.bool a.kil,.bool a.dfl]
def dy(p:Po):List Value:=[.int .u32 p.c,gU p.a,gI p.q,gI p.b]
def ox(p:Po):Value:=.agg #[.int .u32 p.c,gU p.a,gI p.q,gI p.b]
def eQ(n:Int):Value:=gU n
def ie(k:Int×Int):Value:=.agg #[.int .u32 k.1,gU k.2]
def ac9:Tryz.prog.underlying 45=some (.int .u32):=cy
def kM:qK pQ 45 eQ:=qK.int ac9
def VK:Tryz.prog.underlying 235=some (.struct (Tryz.prog.fieldsOf 235)):=cy
def XO:Tryz.prog.fieldsOf 235= #[{name:= "contract",type:=45,offset:=0,embedded:=false,tag:= "",pkgPath:= "broadside/ledger",byteOffset:=0},{name:= "account",type:=45,offset:=1,embedded:=false,tag:= "",pkgPath:= "broadside/ledger",byteOffset:=4}]:=cy
def YQ(b:Bool)(n:Nat)(k:IntKind)(f:Int)(w:Wt_):(Instr.checkKey b (n+1) 45 (.int k f)).run pQ w=.ok () w:=by
 unfold Instr.checkKey;simp[go_sem]
def Y8(w:Wt_)(x y:Int×Int):(Op.equal 235 (ie x) (ie y)).run pQ w=.ok (decide (x=y)) w:=by
 have h:Tryz.prog.stoodInHeld 235=false:=cy;obtain⟨f,a⟩:=x;obtain⟨d,c⟩:=y;unfold Op.equal Op.maxDepth ie;rw[run_equalIn_struct w 9999 235 _ _ VK h,XO];have b:∀(x y:Int) (w:Wt_),(Op.equalIn 9999 45 (gU x) (gU y)).run pQ w=.ok (x==y) w:=λx y w=>run_equalIn_int w 9998 45 .u32 .u32 x y cy;simp[Op.eqFields,part,isAgg,go_sem,b];by_cases h1:f=d<;>by_cases e:a=c<;>simp_all
def YM(w:Wt_)(b:Bool)(x:Int×Int):(Instr.checkKey b 10000 235 (ie x)).run pQ w=.ok () w:=by
 obtain⟨f,a⟩:=x;unfold Instr.checkKey ie;have c:∀(x:Int) (w:Wt_),(Instr.checkKey b 9999 45 (gU x)).run pQ w=.ok () w:=λx w=>YQ b 9998 .u32 x w;simp[go_sem,VK,XO,c]
def NA:qK pQ 235 ie:=
 qK.asking VK (λx y=>rfl) Y8 YM (λx=>by simp[ie,Instr.sameBits])
def oN:Tryz.prog.underlying 173=some (.map 45 100):=cy
def zM:Tryz.prog.underlying 174=some (.map 235 124):=cy
def UR:lw pQ 100=some (kx ⟨0,0,false,false⟩):=cy
def zPo:lw pQ 124=some (ox ⟨0,0,0,0⟩):=cy
structure ig(w:Wt_)(l:Nat)(F:NP_)(S:bE):Prop where
 out:∃m1 m2 A B,hC w l #[.map (some m1),.map (some m2)] 176/\eF eQ kx w m1 A/\eF ie ox w m2 B/\A.Perm S.accs/\B.Perm S.poss/\
  (∀b,F b↔b=l\/b=m1\/b=m2)/\l≠m1/\l≠m2/\m1≠m2
 ok:S.Ok
def ig.mod{G:NP_}{w' :Wt_}(h:ig w l F S)(g:aS G w w')(c:∀b,F b->¬G b):ig w' l F S:=by
 obtain⟨⟨e,d,A,B,h1,i,n,j,m,a,k⟩,f⟩:=h;exact⟨⟨e,d,A,B,g.keep h1 (c l ((a l).2 (.inl rfl))),i.mod g (c e ((a e).2 (.inr (.inl rfl)))),n.mod g (c d ((a d).2 (.inr (.inr rfl)))),j,m,a,k⟩,f⟩
def ig.lt(h:ig w l F S){b:Nat}(c:F b):b<w.heap.size:=by
 obtain⟨⟨m,g,A,B,h1,a,d,i,k,f,j⟩,e⟩:=h;rcases(f b).1 c with rfl|rfl|rfl
 ·exact ay h1
 ·exact a.lt
 ·exact d.lt
def nW{n lo hi:Int}(a:K (.bool (aW n lo hi)) w):Ca pQ 197 #[.int .i64 n,gI lo,gI hi] w K:=by
 refine cN Tryz.func197 ?_;simp[go_sem];unfold aW at a;split
 ·grind
 ·grind
def me(h:ig w l F S)(a:K (.bool true) w):Ca pQ 156 #[eu l] w K:=by
 obtain⟨⟨i,c,A,B,h1,d,j,e,g,k,f⟩,b⟩:=h;unfold eu;refine cN Tryz.func156 ?_;simp[go_sem,eu,h1];exact a
def PW(h:ig w l F S)(N:∀d,M0 w d->K (gI S.funds) d):Ca pQ 198 #[eu l] w K:=by
 have u:=h;obtain⟨⟨z,m2,A,B,h1,J,h3,G,h5,h6,h7⟩,e⟩:=h;unfold eu;refine cN Tryz.func198 ?_;apply me u;simp[go_sem,eu,h1];refine sD oN J λZ k m=>?_;generalize hg:w.heap.size=it at k
 refine uo (λs W=>∃(x:Int) (rest:List (Int×Ac)),s=(gI x,())/\kR eQ kx W it z rest/\M0 w W/\x+(rest.map (·.2.cash)).sum=S.funds/\0<=x/\∀p∈rest,0<=p.2.cash)
  (λs W=>rj it z W) ?_ ?_
 ·refine⟨0,A,rfl,k,m,?_,qZ,λp hp=>?_⟩
  ·rw[ue (G.map (·.2.cash))];simp[bE.accs,nu,bE.funds,Function.comp_def]
  ·have:=G.mem_iff.1 hp;simp only[bE.accs,ar,aL]at this;rcases this with rfl|⟨a,X,rfl⟩
   ·exact e.fund.1
   ·exact(e.acc a X).2.2.1
 ·rintro⟨_,_⟩ W ⟨x,rest,⟨⟩,itW,E,R,V,I⟩ KN j;refine lE ?_;intro _;refine uS itW ?_ ?_
  ·intro u d C _;subst u;have:x=S.funds:=by simpa using R
   simp[go_sem];rw[this];exact N _ (E.trans C)
  ·intro i p t d n r C O;simp[go_sem];apply si r;simp[go_sem,kx];have g:=ny t
   have U:p.2.cash+((rest.eraseIdx i).map (·.2.cash)).sum=(rest.map (·.2.cash)).sum:=by
    rw[ue (g.map (·.2.cash))];simp
   have Q:=I p (cX t);have c:∀q∈rest.eraseIdx i,0<=q.2.cash:=λq M=>I q (List.mem_of_mem_eraseIdx M)
   have H:0<=((rest.eraseIdx i).map (·.2.cash)).sum:=by
    clear g U t n j;generalize rest.eraseIdx i=l at c;induction l with
    |nil=>simp
    |cons q l Y=>
     have:=c q ai;have:=Y λy P=>c y (af _ P);simp only[aD,bC];omega
   have v:=e.funds.2
   have D:IntKind.i64.wrap (x+p.2.cash)=x+p.2.cash:=by
    rw[bU];simp only[MF]at v;omega
   rw[D];have T:∀o,M0 w (d.alloc o):=λo=>(E.on C λb L=>.inr (by subst L;omega)).alloc o;have f:∀o,kR eQ kx (d.alloc o) it z (rest.eraseIdx i):=λo=>n.mod ((aS.refl (λ_=>False) d).alloc o) id id;apply j _ _ ⟨_,_,rfl,f _,T _,qZ,qZ,c⟩;rw[(f _).left,itW.left,gJ];have:i<rest.length:=(aF.1 t).1;rw[ae this];omega
def qg(o:Option Ac):o.elim (kx ⟨0,0,false,false⟩) kx=kx (o.getD ⟨0,0,false,false⟩):=by cases o<;>rfl
def ND(o:Option Po):o.elim (ox ⟨0,0,0,0⟩) ox=ox (o.getD ⟨0,0,0,0⟩):=by cases o<;>rfl
def ig.lkA{A:List (Int×Ac)}{c:Nat}(a:eF eQ kx w c A)(b:A.Perm S.accs)(n:Int):lk A n=S.getO n:=by
 rw[zI a.1 b,S.lk_accs]
def ig.lkP{B:List ((Int×Int)×Po)}{a:Nat}(c:eF ie ox w a B)(b:B.Perm S.poss)(k:Int×Int):lk B k=S.pos? k:=by
 rw[zI c.1 b,S.lk_poss]
def ig.putA{w' :Wt_}{c d:Nat}{A:List (Int×Ac)}{B:List ((Int×Int)×Po)}(h1:hC w l #[.map (some c),.map (some d)] 176)
  (j:eF eQ kx w c A)(o:eF ie ox w d B)(k:A.Perm S.accs)(m:B.Perm S.poss)(p:∀b,F b↔b=l\/b=c\/b=d)(g:l≠c/\l≠d/\c≠d)(h:S.Ok)(a:Ac)
  (q:a.num=0->a=nu a.cash)(f:(S.putA a).Ok)(n:eF eQ kx w' c (put A a.num a))(i:aS (λb=>b=c) w w'):ig w' l F (S.putA a):=by
 refine⟨⟨c,d,_,B,i.keep h1 g.1,n,o.mod i (λe=>g.2.2 e.symm),h.put_accs j.1 k a q,?_,p,g⟩,f⟩;rw[show(S.putA a).poss=S.poss by unfold bE.putA;split<;>rfl];exact m
def IX{n m:Int}(h:ig w l F S)(V:0<=n/\n<4294967296)
  (f:∀T,ig T l F (S.deposit n m).2->aS F w T->K (gI (S.deposit n m).1) T):Ca pQ 132 #[eu l,gU n,gI m] w K:=by
 have h0:=h;obtain⟨⟨m1,m2,A,B,h1,C,h3,O,h5,h6,h7⟩,g⟩:=h;unfold eu;refine cN Tryz.func132 ?_;apply me h0;simp[go_sem,eu,h1];apply wm (enc:=eQ) (ev:=kx) (x:=n) (kx ⟨0,0,false,false⟩) oN kM UR (.inr ⟨m1,rfl,C⟩);rw[qg,ig.lkA C O];generalize d:(S.getO n).getD ⟨0,0,false,false⟩=a;simp[go_sem,kx];apply nW;have hlt:=ay h1;have hM:aW m 1 1000000000000000=aW m 1 MF:=rfl;rw[hM];have hMF:MF=1000000000000000:=rfl;generalize r:w.alloc (.cells #[.int .u32 a.num,gI a.cash,.bool a.kil,.bool a.dfl] 100)=Q;have c:M0 w Q:=by subst r;exact(aS.refl _ w).alloc _
 have t:hC Q w.heap.size #[.int .u32 a.num,gI a.cash,.bool a.kil,.bool a.dfl] 100:=by subst r;simp[go_sem]
 have z:=c.keep h1 id;have q:=C.mod c id;have J:=h0.mod c dS;simp[go_sem,bT z,IZ oN q,(show Tryz.prog.underlying 3=some (.int .i64)from by kernel_rfl)];have Y:A.length=S.all.length+1:=by rw[O.length_eq];simp[bE.accs]
 unfold bE.deposit at f;by_cases u:aW m 1 MF=true
 ·have hmr:1<=m/\m<=1000000000000000:=eU.1 u;rw[ae u]at f|-;refine cG.at (λs W=>s=(.bool (decide (S.getO n=none/\64<=S.all.length)),())/\W=Q) ?_ ?_
  ·split
   ·grind
   ·grind
  rintro _ W ⟨rfl,rfl⟩;refine jG ?_;intro _;by_cases H:S.getO n=none/\64<=S.all.length
  ·rw[ae H]at f;simp only[aQ H,aw,cZ];exact f _ J (c.to)
  ·rw[aa H]at f;simp only[br H,aw,bj,da];refine PW J λX e=>?_;have R:=g.funds;have k:=e.keep t id;have D:=e.keep z id;have h2x:=q.mod e id;have h3x:=(h3.mod c id).mod e id;have p:=c.trans e;have M:IntKind.i64.wrap (S.funds+m)=S.funds+m:=by rw[bU];omega
   simp[go_sem,M,bT k,bT D];by_cases Z:S.funds+m>MF
   ·rw[ae Z]at f;rw[ae qZ];exact f _ (J.mod e dS) (p.to)
   ·rw[aa Z]at f;rw[aa qZ];rw[d]at f
    have U:0<=a.cash/\a.cash<=MF/\(n=0->a.kil=false/\a.dfl=false):=by
     cases o:S.getO n with
     |none=>
      rw[o]at d;subst d;exact⟨by simp,by simp[MF],λ_=>⟨rfl,rfl⟩⟩
     |some x=>
      rw[o]at d;simp only[dt]at d;subst d;obtain⟨g1,g2,g3,g4,g5,g6⟩:=g.getO o;refine⟨g4,g5,λV=>?_⟩;have:=g6 (g1.trans V);rw[this];exact tF
    have E:IntKind.i64.wrap (a.cash+m)=a.cash+m:=by rw[bU];omega
    have L:l≠w.heap.size:=qZ;simp[go_sem,E,bT k,bT D,L];generalize N:(X.setCell ⟨w.heap.size,0,none⟩ (gU n)).setCell ⟨w.heap.size,1,none⟩ (gI (a.cash+m))=G;have m3:aS (λb=>b=w.heap.size) X G:=by subst N;exact((aS.refl _ X).setCell (by simp) _ _).setCell (by simp) _ _
    have j:M0 w G:=p.on m3 λb d=>fM;let I:Ac:={a with num:=n,cash:=a.cash+m}
    refine gL (enc:=eQ) (ev:=kx) (x:=n) (v:=I) oN kM ((C.mod j id).mod ((aS.refl (λ_=>False) G).drew) id) λw4 hA m4 hs4=>?_;have y:aS (λb=>b=m1) G w4:=sK.trans m4
    have P:a.cash<=S.funds:=by
     cases o:S.getO n with
     |none=>rw[o]at d;subst d;exact R.1
     |some x=>
      rw[o]at d;simp only[dt]at d;subst d;exact g.cash_le o
    refine f w4 (ig.putA (a:=I) (j.keep h1 id) (C.mod j id) (h3.mod j id) O h5 h6 h7 g ?_ ?_ hA y) ?_
    ·intro i;have:=U.2.2 i;simp only[nu,I,this,Ac.mk.injEq,and_true,true_and];exact i
    ·apply g.putA V ⟨by grind,by grind⟩;simp only[I];by_cases i:n=0
     ·exact .inr (.inr i)
     ·by_cases o:S.getO n=none
      ·grind
      ·refine .inl ?_;unfold bE.getO at o
       rwa[aa i]at o
    ·exact(j.to).on y λb d=>.inl ((h6 b).2 (.inr (.inl d)))
 ·simp only[Bool.not_eq_true]at u;rw[aa (by simp[u])]at f;rw[aa (by simp[u])];exact f _ J (c.to)
end Go.Proofs
set_option maxRecDepth 100000
set_option maxHeartbeats 1000000
namespace Go.Proofs
open Go Go.Vc
variable {n:Int}{S:bE}
def sn(h:n≠0):S.getO n=S.find n:=by unfold bE.getO;rw[aa h]
def EF{w:Wt_}{l:Nat}{F:NP_}{K:aY}{m:Int}(h:ig w l F S)(hn:0<=n/\n<4294967296)
  (i:∀I,ig I l F (S.withdraw n m).2->aS F w I->K (gI (S.withdraw n m).1) I):Ca pQ 199 #[eu l,gU n,gI m] w K:=by
 have P:=h;obtain⟨⟨G,m2,A,B,h1,r,h3,Q,h5,U,Z⟩,q⟩:=h;unfold eu;refine cN Tryz.func199 ?_;apply me P;simp[go_sem,eu,h1];apply wm (enc:=eQ) (ev:=kx) (x:=n) (kx ⟨0,0,false,false⟩) oN kM UR (.inr ⟨G,rfl,r⟩);rw[qg,ig.lkA r Q];generalize o:(S.getO n).getD ⟨0,0,false,false⟩=a;have V:=ay h1;simp[go_sem,kx];generalize y:w.alloc (.cells #[.int .u32 a.num,gI a.cash,.bool a.kil,.bool a.dfl] 100)=C;have d:M0 w C:=by subst y;exact(aS.refl _ w).alloc _
 have j:hC C w.heap.size #[.int .u32 a.num,gI a.cash,.bool a.kil,.bool a.dfl] 100:=by subst y;simp[go_sem]
 have N:=d.keep h1 id;have h2w:=r.mod d id;have R:=P.mod d dS;have T:aS F w C:=d.to;have hMF:MF=1000000000000000:=rfl;unfold bE.withdraw at i;refine cG.at (λs W=>s=(.bool (decide (n=0\/aW m 1 MF=false)),())/\W=C) ?_ ?_
 ·by_cases f:n=0
  ·simp[go_sem,f]
  ·simp[go_sem,f];apply nW;have Y:aW m 1 1000000000000000=aW m 1 MF:=rfl;simp[go_sem,Y]
 rintro _ W ⟨rfl,rfl⟩;refine jG ?_;intro _;by_cases z:n=0\/aW m 1 MF=false
 ·rw[ae z]at i;simp only[aQ z,aw,cZ];exact i _ R T
 ·rw[aa z]at i;simp only[br z,aw,bj,da];obtain⟨f,L⟩:n≠0/\aW m 1 MF=true:=⟨λe=>z (.inl e),by grind⟩
  have hmr:=eU.1 L;rw[sn f]at o;rw[sn f];cases E:S.find n with
  |none=>
   rw[E]at i;simp[go_sem];exact i _ R T
  |some x=>
   rw[E]at i o;simp only[dt]at o;subst o;obtain⟨hx,M⟩:=bE.find_mem E;obtain⟨g1,g2,g3,g4⟩:=q.acc x hx;simp only at i;simp[go_sem,bT j];by_cases k:x.cash<m
   ·grind
   ·rw[aa k]at i|-;have v:IntKind.i64.wrap (x.cash - m)=x.cash - m:=by rw[bU];omega
    have H:l≠w.heap.size:=qZ;simp[go_sem,v,bT j,bT N,H];generalize J:(W.setCell ⟨w.heap.size,1,none⟩ (gI (x.cash - m)))=D;have X:aS (λb=>b=w.heap.size) W D:=by subst J;exact((aS.refl _ W).setCell (by simp) _ _)
    have g:M0 w D:=d.on X λb o=>fM;let u:Ac:={x with cash:=x.cash - m}
    have c:u.num=n:=M
    have p:∀W:World,∀K:World->Prop,vD pQ (qw 173 (.map (some G)) (eQ u.num) (kx u)) W K->vD pQ (qw 173 (.map (some G)) (gU n) (.agg #[.int .u32 x.num,gI (x.cash - m),.bool x.kil,.bool x.dfl])) W K:=by
     intro W K h;have:eQ u.num=gU n:=by rw[c];rfl
     rw[this]at h;exact h
    apply p _ _;refine gL (enc:=eQ) (ev:=kx) oN kM ((r.mod g id).mod ((aS.refl (λ_=>False) D).drew) id) λO hA m4 hs4=>?_;have t:aS (λb=>b=G) D O:=sK.trans m4;refine i O (ig.putA (a:=u) (g.keep h1 id) (r.mod g id) (h3.mod g id) Q h5 U Z q ?_ ?_ hA t) ?_
    ·grind
    ·refine q.putA ⟨by rw[c];omega,by rw[c];omega⟩ ⟨by grind,by grind⟩ (.inl ?_);rw[c,E];simp
    ·exact(g.to).on t λb o=>.inl ((U b).2 (.inr (.inl o)))
def bE.getV(S:bE)(n:Int):Ac×Int:=((S.getO n).getD ⟨0,0,false,false⟩,if S.getO n=none then 7 else 0)
def Dv{w:Wt_}{l:Nat}{F:NP_}{K:aY}(h:ig w l F S)
  (d:∀k,M0 w k->K (.tuple #[kx (S.getV n).1,gI (S.getV n).2]) k):Ca pQ 56 #[eu l,gU n] w K:=by
 have p:=h;obtain⟨⟨s,u,A,B,h1,j,z,q,y,C,v⟩,t⟩:=h;unfold eu;refine cN Tryz.func56 ?_;simp[go_sem];generalize e:w.alloc _=f;have a:M0 w f:=by subst e;exact(aS.refl _ w).alloc _
 have b:hC f w.heap.size #[.int .u32 0,gI 0,.bool false,.bool false] 100:=by subst e;simp[go_sem]
 have r:=p.mod a dS;apply me r;have i:=a.keep h1 id;have g:=j.mod a id;simp[go_sem,eu,bT i];apply wm (enc:=eQ) (ev:=kx) (x:=n) (kx ⟨0,0,false,false⟩) oN kM UR (.inr ⟨s,rfl,g⟩);rw[qg,ig.lkA j q];have o:=ay b;have c:w.heap.size≠f.heap.size:=qZ;unfold bE.getV at d;cases m:S.getO n with
 |none=>
  rw[m]at d;simp[go_sem,kx,bT b,c];apply d _;exact((((a.alloc _).setCell (.inr (az _)) _ _).setCell (.inr (az _)) _ _).setCell (.inr (az _)) _ _).setCell (.inr (az _)) _ _
 |some x=>
  rw[m]at d;simp[go_sem,kx,bT b,c];apply d _;exact((((a.alloc _).setCell (.inr (az _)) _ _).setCell (.inr (az _)) _ _).setCell (.inr (az _)) _ _).setCell (.inr (az _)) _ _
end Go.Proofs
namespace Go.Proofs
open Go Go.Vc
variable {a:Int}{F:NP_}{l:Nat}{w:Wt_}{K:aY}{S:bE}
def SG(e: -9223372036854775808<=a/\a<9223372036854775808)(b:K (.tuple #[.int .u64 (if a<0 then -a else a),.bool (decide (a<0))]) w):Ca pQ 224 #[.int .i64 a] w K:=by
 refine cN Tryz.func224 ?_;simp[go_sem];by_cases h:a<0
 ·rw[ae h]at b|-
  have c:IntKind.u64.wrap a=a+18446744073709551616:=by
   simp[IntKind.wrap,IntKind.bits,IntKind.signed];omega
  have d:IntKind.u64.wrap (-(a+18446744073709551616))= -a:=by
   simp[IntKind.wrap,IntKind.bits,IntKind.signed];omega
  simp[c,d,h]at b|-;exact b
 ·rw[aa h]at b|-
  have c:IntKind.u64.wrap a=a:=by
   simp[IntKind.wrap,IntKind.bits,IntKind.signed];omega
  simp[c,h]at b|-;exact b
def gF{m:Int}(f: -9223372036854775808<=a/\a<9223372036854775808)(c:0<=m/\m<9223372036854775808)(b:K (.bool (aW a (-m) m)) w):Ca pQ 150 #[.int .i64 a,gI m] w K:=by
 refine cN Tryz.func150 ?_;apply SG f
 have d:IntKind.u64.wrap m=m:=by
  simp[IntKind.wrap,IntKind.bits,IntKind.signed];omega
 simp[go_sem,d,c.1]
 have e:aW a (-m) m=decide ((if a<0 then -a else a)<=m):=by
  unfold aW;rw[kA];split<;>omega
 rw[e]at b;exact b
def ug{c:Int}(h:ig w l F S)
  (k:∀o,M0 w o->K (ox (S.position c a)) o):Ca pQ 222 #[eu l,gU c,gU a] w K:=by
 have t:=h;obtain⟨⟨E,s,A,B,h1,z,q,C,v,G,D⟩,y⟩:=h;unfold eu;refine cN Tryz.func222 ?_;simp[go_sem];generalize g:World.alloc _ _=i;have d:M0 w i:=by subst g;exact kU.alloc _
 have e:hC i w.heap.size #[.int .u32 0,gU 0,gI 0,gI 0] 124:=by subst g;simp[go_sem]
 have b:hC i (w.heap.size+1) #[.int .u32 c,gU a,gI 0,gI 0] 124:=by subst g;simp[go_sem]
 have u:=t.mod d dS;apply me u;have n:=d.keep h1 id;have m:=q.mod d id;simp[go_sem,eu,bT n];apply wm (enc:=ie) (ev:=ox) (x:=(c,a)) (ox ⟨0,0,0,0⟩) zM NA zPo (.inr ⟨s,rfl,m⟩);rw[ND,ig.lkP q v];have r:=ay b;have j:w.heap.size≠i.heap.size:=qZ;have f:w.heap.size+1≠i.heap.size:=qZ;unfold bE.position at k;cases p:S.pos? (c,a)with
 |none=>
  rw[p]at k;simp[go_sem,ox,bT e,bT b,j,f];apply k _;exact((((d.alloc _).setCell (.inr (az _)) _ _).setCell (.inr (az _)) _ _).setCell (.inr (az _)) _ _).setCell (.inr (az _)) _ _
 |some x=>
  rw[p]at k;simp[go_sem,ox,bT e,bT b,j,f];apply k _;exact((((d.alloc _).setCell (.inr (az _)) _ _).setCell (.inr (az _)) _ _).setCell (.inr (az _)) _ _).setCell (.inr (az _)) _ _
def ig.putP{w' :Wt_}{c a:Nat}{A:List (Int×Ac)}{e:List ((Int×Int)×Po)}(h1:hC w l #[.map (some c),.map (some a)] 176)
  (h:eF eQ kx w c A)(i:A.Perm S.accs)(k:∀b,F b↔b=l\/b=c\/b=a)(f:l≠c/\l≠a/\c≠a)(p:Po)
  (m:e.Perm (S.putP p).poss)(d:(S.putP p).Ok)(j:eF ie ox w' a e)(g:aS (λb=>b=a) w w'):ig w' l F (S.putP p):=
 ⟨⟨c,a,A,e,g.keep h1 f.2.1,h.mod g f.2.2,j,i,m,k,f⟩,d⟩
def IT{p:Po}(h:ig w l F S)(g:(S.putP p).Ok)
  (I:∀u,ig u l F (S.putP p)->aS F w u->K (.tuple #[]) u):Ca pQ 304 #[eu l,ox p] w K:=by
 obtain⟨⟨N,r,A,B,h1,D,z,E,H,t,G⟩,M⟩:=h;unfold eu;refine cN Tryz.func304 ?_;simp[go_sem,ox];generalize k:World.alloc _ _=q;have a:M0 w q:=by subst k;exact kU.alloc _
 have i:hC q w.heap.size #[.int .u32 p.c,gU p.a,gI p.q,gI p.b] 124:=by subst k;simp[go_sem]
 have c:hC q (w.heap.size+1) #[.int .u32 p.c,gU p.a] 235:=by subst k;simp[go_sem]
 have f:=a.keep h1 id;refine cG.at (λs W=>s=(.bool p.isZ,())/\W=q) ?_ ?_
 ·simp[go_sem,bT i];unfold Po.isZ;by_cases L:p.q=0<;>by_cases j:p.b=0<;>simp[L,j]
 rintro _ W ⟨rfl,rfl⟩;refine jG ?_;intro _;have o:eF ie ox W.drew r B:=(z.mod a id).mod ((aS.refl (λ_=>False) W).drew) id;cases J:p.isZ with
 |true=>
  simp[go_sem,eu,bT f,bT c];refine Cp (enc:=ie) (ev:=ox) (x:=p.key) zM NA (.inr ⟨r,rfl,o⟩) λn m C y=>?_;rcases m with⟨m,_⟩|⟨b,j,m⟩
  ·cases m
  cases j;have d:aS (λb=>b=r) W n:=(sK.trans (C.mono λb _ e=>by cases e;rfl))
  apply I n (ig.putP f (D.mod a id) E t G p (bE.del_poss z.1 H p J) g m d);exact(a.to).on d λb j=>.inl ((t b).2 (.inr (.inr j)))
 |false=>
  simp[go_sem,eu,bT f,bT i,bT c];refine gL (enc:=ie) (ev:=ox) (x:=p.key) (v:=p) zM NA o λn m C y=>?_;have d:aS (λb=>b=r) W n:=sK.trans C;apply I n (ig.putP f (D.mod a id) E t G p (bE.put_poss z.1 H p J) g m d);exact(a.to).on d λb j=>.inl ((t b).2 (.inr (.inr j)))
end Go.Proofs
set_option maxRecDepth 100000
set_option maxHeartbeats 1000000
namespace Go.Proofs
open Go Go.Vc
def VZ{w:Wt_}{l:Nat}{F:NP_}{S:bE}{K:aY}{a:Ac}(h:ig w l F S)(hn:0<=a.num/\a.num<4294967296)
  (g:∀G,ig G l F (S.set a).2->aS F w G->K (gI (S.set a).1) G):Ca pQ 145 #[eu l,kx a] w K:=by
 have Y:=h;obtain⟨⟨r,m2,A,B,h1,o,Q,J,h5,R,Z⟩,u⟩:=h;have T:=ay h1;have X:=o.lt;have U:=Q.lt;unfold eu;refine cN Tryz.func145 ?_;simp[go_sem,kx];generalize q:World.alloc _ _=C;have d:M0 w C:=by subst q;exact(aS.refl _ w).alloc _
 have c:hC C w.heap.size #[.int .u32 a.num,gI a.cash,.bool a.kil,.bool a.dfl] 100:=by subst q;simp[go_sem]
 have z:=d.keep h1 id;have L:=Y.mod d dS;have mF:aS F w C:=d.to;apply me L;simp[go_sem];unfold bE.set at g;have V:aW a.cash 0 1000000000000000=aW a.cash 0 MF:=rfl;refine cG.at (λs W=>s=(.bool (decide (aW a.cash 0 MF=false\/(a.num=0/\(a.kil=true\/a.dfl=true)))),())/\W=C) ?_ ?_
 ·simp[go_sem,bT c];apply nW;rw[V];cases n:aW a.cash 0 MF
  ·simp[go_sem]
  ·simp[go_sem,bT c];by_cases f:a.num=0
   ·grind
   ·simp[f]
 rintro _ W ⟨rfl,rfl⟩;refine jG ?_;intro _;by_cases n:aW a.cash 0 MF=false\/(a.num=0/\(a.kil=true\/a.dfl=true))
 ·rw[ae n]at g;simp only[aQ n,aw,cZ];exact g _ L mF
 ·rw[aa n]at g;simp only[br n,aw,bj,da];have j:0<=a.cash/\a.cash<=MF:=eU.1 (by grind);have k:∀i,M0 W i->eF eQ kx i r A:=λi m=>(o.mod d id).mod m id;simp[go_sem,eu,bT z,bT c];apply C6 (enc:=eQ) (ev:=kx) (x:=a.num) (kx ⟨0,0,false,false⟩) oN kM UR (.inr ⟨r,rfl,k _ sK⟩);rw[qg,ig.lkA o J];generalize H:(S.getO a.num).getD ⟨0,0,false,false⟩=x;have hsz:=ay c;have y:w.heap.size≠W.heap.size:=qZ;have t:l≠W.heap.size:=qZ;simp[go_sem,kx,bT c,bT z,y,t]
  have hl:∀i,M0 W i->(ju 173 (.map (some r)) (gU a.num) true).run pQ i=.ok (.tuple #[kx x,.bool (S.getO a.num).isSome]) i:=λi m=>by
   have:=xL (P:=pQ) (enc:=eQ) (ev:=kx) (x:=a.num) oN kM UR (.inr ⟨r,rfl,k _ m⟩);rw[qg,ig.lkA o J,H]at this;exact this
  refine⟨hl _ (kU.drew),?_⟩;generalize I:(World.alloc _ _).drew=N;have E:M0 W N:=by subst I;exact kU.drew
  have e:=d.trans E;by_cases D:S.getO a.num=none
  ·rw[ae D]at g|-;exact g _ (L.mod E dS) (e.to)
  ·rw[aa D]at g|-;refine gL (enc:=eQ) (ev:=kx) (x:=a.num) (v:=a) oN kM (k _ (E.drew)) λM hA m4 hs4=>?_;have p:aS (λb=>b=r) N M:=sK.trans m4;refine g M (ig.putA (a:=a) (e.keep h1 id) (o.mod e id) (Q.mod e id) J h5 R Z u ?_ ?_ hA p) ?_
   ·intro O;have hk:¬(a.kil=true\/a.dfl=true):=λh=>n (.inr ⟨O,h⟩);obtain⟨num,cash,kil,dfl⟩:=a;simp only[nu,Ac.mk.injEq,true_and]at*;refine⟨O,?_,?_⟩
    ·grind
    ·grind
   ·apply u.putA hn j;by_cases f:a.num=0
    ·exact .inr (.inr f)
    ·rw[sn f]at D;exact .inl D
   ·exact(e.to).on p λb H=>.inl ((R b).2 (.inr (.inl H)))
end Go.Proofs
namespace Go.Proofs
open Go Go.Vc
def xf{S:bE}{n:Int}(h:S.find n≠none):∃a∈S.all,a.num=n:=by
 obtain⟨x,b⟩:=Option.ne_none_iff_exists'.1 h;exact⟨x,bE.find_mem b⟩
def YE:gP pQ 124 4 24=true:=cy
def Rh{w:Wt_}{l:Nat}{F:NP_}{S:bE}{K:aY}{c b s p n:Int}(h:ig w l F S)(hc:0<=c/\c<4294967296)
  (t:∀w',ig w' l F (S.trade c b s p n).2->aS F w w' ->K (gI (S.trade c b s p n).1) w'):Ca pQ 273 #[eu l,gU c,gU b,gU s,gI p,gI n] w K:=by
 have h0:=h;obtain⟨⟨m1,m2,A,B,h1,h2,h3,h4,h5,h6,h7⟩,D⟩:=h;have hlt:=ay h1;unfold eu;refine cN Tryz.func273 ?_;apply me h0;simp[go_sem];unfold bE.trade at t;have hMp:∀x:Int,aW x 1 10000000=aW x 1 MP:=λ_=>rfl;generalize H:(decide (c=0\/b=0\/s=0\/b=s\/aW p 1 MP=false\/aW n 1 MP=false))=cd;refine cG.at (λst W=>st=(.bool cd,())/\W=w) ?_ ?_
 ·subst H;by_cases I:c=0
  ·simp[I]
  ·by_cases J:b=0
   ·simp[I,J]
   ·by_cases e3:s=0
    ·simp[I,J,e3]
    ·by_cases e4:b=s
     ·simp[I,J,e3,e4]
     ·simp[I,J,e3,e4];apply nW;rw[hMp];cases aW p 1 MP
      ·simp[go_sem]
      ·simp[go_sem];apply nW;rw[hMp];simp[go_sem]
 rintro _ w ⟨rfl,rfl⟩;refine jG ?_;intro _;cases cd with
 |true=>
  rw[ae (bF H)]at t;simp;exact t _ h0 oU
 |false=>
  have k:=of_decide_eq_false H;rw[aa k]at t
  have hl:∀(x:Int) f,M0 w f->(ju 173 (.map (some m1)) (gU x) true).run pQ f=.ok (.tuple #[kx ((S.getO x).getD ⟨0,0,false,false⟩),.bool (S.getO x).isSome]) f:=λx f m=>by
   have:=xL (P:=pQ) (enc:=eQ) (ev:=kx) (x:=x) oN kM UR (.inr ⟨m1,rfl,h2.mod m id⟩);rw[qg,ig.lkA h2 h4]at this;exact this
  simp[go_sem,eu,bT h1];apply jP (hl b _ oU);simp[go_sem,kx,bT h1,Wb hlt];generalize hw1:World.alloc _ _=w1;have m1' :M0 w w1:=by subst hw1;exact(aS.refl _ w).alloc _
  apply jP (hl s _ m1');simp[go_sem,kx];generalize hw2:World.alloc _ _=w2;have E:M0 w w2:=by subst hw2;exact m1'.alloc _
  have q2:=h0.mod E dS
  obtain⟨I,J,e3,e4,e5,e6⟩:c≠0/\b≠0/\s≠0/\b≠s/\aW p 1 MP=true/\aW n 1 MP=true:=by
   refine⟨λe=>k (.inl e),λe=>k (.inr (.inl e)),λe=>k (.inr (.inr (.inl e))),λe=>k (.inr (.inr (.inr (.inl e)))),?_,?_⟩
   ·grind
   ·grind
  rw[sn J,sn e3];refine cG.at (λst W=>st=(.bool (decide (S.find b=none\/S.find s=none)),())/\W=w2) ?_ ?_
  ·cases S.find b<;>cases S.find s<;>simp
  rintro _ w2 ⟨rfl,rfl⟩;refine jG ?_;intro _;by_cases g:S.find b=none\/S.find s=none
  ·rw[ae g]at t;simp only[aQ g,aw,cZ];exact t _ q2 (E.to)
  ·rw[aa g]at t;simp only[br g,aw,bj,da];have M:S.find b≠none/\S.find s≠none:=⟨λh=>g (.inl h),λh=>g (.inr h)⟩
   refine ug q2 λw3 m3=>?_;have q3:=q2.mod m3 dS;refine ug q3 λw4 m4=>?_;have q4:=q3.mod m4 dS;have U:=(E.trans m3).trans m4;obtain⟨x1,x2,x3,x4,x5,x6⟩:=D.position c b;obtain⟨y1,y2,y3,y4,y5,y6⟩:=D.position c s;generalize S.position c b=x at*;generalize S.position c s=y at*;simp only at t;obtain⟨p1,p2⟩:=eU.1 e5;obtain⟨n1,n2⟩:=eU.1 e6;have hpn:=IP (x:=p) (y:=n) (m:=MP) (n:=MP) ⟨by grind,p2⟩ ⟨qZ,n2⟩;have hpn0:0<=p*n:=iR qZ qZ;generalize hpnv:p*n=j at*;simp only[MP,MF]at x3 x4 x5 x6 y3 y4 y5 y6 p2 n2 hpn;have wr1:IntKind.i64.wrap (x.q+n)=x.q+n:=by rw[bU];omega
   have wr2:IntKind.i64.wrap j=j:=by rw[bU];omega
   have wr3:IntKind.i64.wrap (x.b+j)=x.b+j:=by rw[bU];omega
   have wr4:IntKind.i64.wrap (y.q - n)=y.q - n:=by rw[bU];omega
   have wr5:IntKind.i64.wrap (y.b - j)=y.b - j:=by rw[bU];omega
   simp[go_sem,ox,hpnv,wr1,wr2,wr3,wr4,wr5,x1,x2,y1,y2];let X:Po:=⟨c,b,x.q+n,x.b+j⟩
   let Y:Po:=⟨c,s,y.q - n,y.b - j⟩
   generalize G:World.alloc _ _=L;have m5:M0 w4 L:=by subst G;exact kU.alloc _
   have hX:hC L w4.heap.size #[.int .u32 c,gU b,gI (x.q+n),gI (x.b+j)] 124:=by subst G;simp[go_sem]
   have hY:hC L (w4.heap.size+1) #[.int .u32 c,gU s,gI (y.q - n),gI (y.b - j)] 124:=by subst G;simp[go_sem]
   refine nK (e:=124) (sz:=4) [ox X,ox Y] cy (dp YE) rfl rfl (by simp[ox,Value.cells]) (by decide) ?_;generalize Q:World.alloc _ _=w6;have m6:M0 L w6:=by subst Q;exact(aS.refl _ L).alloc _
   have hQ:hC w6 L.heap.size #[.int .u32 c,gU b,gI (x.q+n),gI (x.b+j),gU c,gU s,gI (y.q - n),gI (y.b - j)] 124:=by
    subst Q;simp[go_sem,ox,Value.cells,X,Y]
   have q6:=(q4.mod m5 dS).mod m6 dS;have N:=(U.trans m5).trans m6;have hX6:=m6.keep hX id;have hY6:=m6.keep hY id;simp[go_sem];have V:∀z:Int,aW z (-1000000000000000) 1000000000000000=aW z (-MF) MF:=λ_=>rfl;have hMP:∀z:Int,aW z (-10000000) 10000000=aW z (-MP) MP:=λ_=>rfl;let a:Po->Bool:=λz=>aW z.q (-MP) MP&& aW z.b (-MF) MF
   refine uo (λst W=>∃(v:Vt_) (i:Nat),i<=2/\st=(v,gI i,())/\M0 w6 W/\(0<i->a X=true)/\(1<i->a Y=true))
    (λst _=>match st.2.1 with| .int _ i=>2 - i.toNat|_=>0) ⟨_,0,qZ,rfl,oU,qZ,qZ⟩ ?_
   rintro⟨sv,_⟩ W ⟨v,i,hi,⟨⟩,C,hi0,hi1⟩ KN T;refine lE ?_;intro _;have hQW:=C.keep hQ id;have qW:=q6.mod C dS
   have step:∀(Z:Po) (f:Wt_),(a Z=false->K (gI 6) f)->(a Z=true->KN (sv,gI ((i:Int)+1),()) f)->QK K (sv,gI (i:Int),()) KN (.bool (!a Z),()) f:=by
    intro Z f g hyes;unfold QK;intro _;cases r:a Z
    ·simp;exact g r
    ·have hw:IntKind.i64.wrap ((i:Int)+1)=(i:Int)+1:=by rw[bU];omega
     simp[go_sem,hw];exact hyes r
   have O:a X=true↔¬(MP<X.q\/MF<X.b):=by
    simp only[a,ao,eU,MP,MF,X];omega
   have R:a Y=true↔¬(Y.q< -MP\/Y.b< -MF):=by
    simp only[a,ao,eU,MP,MF,Y];omega
   have mA:∀o,aS F w (W.alloc o):=λo=>((N.trans C).alloc o).to
   have fail:(MP<X.q\/Y.q< -MP\/MF<X.b\/Y.b< -MF)->∀f,ig f l F S->aS F w f->K (gI 6) f:=by
    intro h f hq' hm';have q:=t f;rw[ae h]at q;exact q hq' hm'
   rcases(show i=0\/i=1\/i=2 by omega)with rfl|rfl|rfl
   ·simp[go_sem,bT hQW];refine cG.at (λst f=>st=(.bool (!a X),())/\f=W.alloc (.cells (dy X).toArray 124)) ?_ ?_
    ·simp[go_sem];apply gF ⟨by grind,by grind⟩ qZ;rw[hMP];cases h1:aW X.q (-MP) MP
     ·have d:=h1;simp only[X]at d;simp[go_sem,d,a,h1,dy,X]
     ·have d:=h1;simp only[X]at d;simp[go_sem,d];apply gF ⟨by grind,by grind⟩ qZ;rw[V];simp[go_sem,a,d,dy,X]
    rintro _ f ⟨rfl,rfl⟩;refine step X _ (λr=>?_) (λr=>?_)
    ·refine fail ?_ _ (qW.mod kU dS) (mA _);have:¬a X=true:=by rw[r];simp
     rw[O]at this;omega
    ·exact T _ _ ⟨sv,1,qZ,rfl,C.alloc _,λ_=>r,qZ⟩ (by simp)
   ·simp[go_sem,bT hQW];refine cG.at (λst f=>st=(.bool (!a Y),())/\f=W.alloc (.cells (dy Y).toArray 124)) ?_ ?_
    ·simp[go_sem];apply gF ⟨by grind,by grind⟩ qZ;rw[hMP];cases h1:aW Y.q (-MP) MP
     ·have d:=h1;simp only[Y]at d;simp[go_sem,d,a,h1,dy,Y]
     ·have d:=h1;simp only[Y]at d;simp[go_sem,d];apply gF ⟨by grind,by grind⟩ qZ;rw[V];simp[go_sem,a,d,dy,Y]
    rintro _ f ⟨rfl,rfl⟩;refine step Y _ (λr=>?_) (λr=>?_)
    ·refine fail ?_ _ (qW.mod kU dS) (mA _);have:¬a Y=true:=by rw[r];simp
     rw[R]at this;omega
    ·exact T _ _ ⟨sv,2,qZ,rfl,C.alloc _,λ_=>hi0 qZ,λ_=>r⟩ (by simp)
   ·have g1:=O.1 (hi0 qZ);have g2:=R.1 (hi1 qZ);have u:¬(MP<X.q\/Y.q< -MP\/MF<X.b\/Y.b< -MF):=qZ;have q:=λf=>t f;simp only[X,Y]at u;simp only[aa u]at q;have hXW:=C.keep hX6 id;have hYW:=C.keep hY6 id;simp[go_sem,bT hXW];have okX:(S.putP X).Ok:=D.putP ⟨by grind,hc.2⟩ ⟨by simp only[X,MP];omega,by grind⟩ ⟨by simp only[X,MF];omega,by simp only[X,MF]at g1|-;omega⟩ (xf M.1);have okY:((S.putP X).putP Y).Ok:=okX.putP ⟨by grind,hc.2⟩ ⟨by grind,by simp only[Y,MP];omega⟩ ⟨by grind,by simp only[Y,MF];omega⟩ (xf (S:=S) M.2);refine IT (p:=X) qW okX λw7 q7 m7=>?_;have hne:¬F (w4.heap.size+1):=λh=>by have:=h0.lt h;have:=U.size;omega
    have hY7:=m7.keep hYW hne;simp[go_sem,bT hY7];refine IT (p:=Y) q7 okY λw8 q8 m8=>?_;exact q w8 q8 ((((N.trans C).to).trans m7).trans m8)
end Go.Proofs
set_option maxRecDepth 100000
set_option maxHeartbeats 1000000
namespace Go.Proofs
open Go Go.Vc
section
variable{κ ν:Type} [DecidableEq κ]
def Ir{A B:List (κ×ν)}(c:(A.map (·.1)).Nodup)(b:(B.map (·.1)).Nodup)(h:∀k,lk A k=lk B k):A.Perm B:=by
 have nd:∀L:List (κ×ν),(L.map (·.1)).Nodup->L.Nodup:=λL d=>by
  rw[List.Nodup,eA]at d;exact d.imp λa e=>a (by rw[e])
 refine(List.perm_ext_iff_of_nodup (nd A c) (nd B b)).2 λ⟨k,v⟩=>?_;rw[<-QL c,<-QL b,h]
def Ga{R:List (κ×ν)}(b:(R.map (·.1)).Nodup){i:Nat}{p:κ×ν}(h:R[i]? =some p):((R.eraseIdx i).map (·.1)).Nodup/\lk R p.1=some p.2/\lk (R.eraseIdx i) p.1=none/\∀k,k≠p.1->lk (R.eraseIdx i) k=lk R k:=by
 have hp:=ny h;have a:((p::R.eraseIdx i).map (·.1)).Nodup:=(hp.map _).nodup_iff.1 b;simp only[aD,bY]at a;refine⟨a.2,by rw[zI b hp];simp[lk],om a.1,λk c=>?_⟩;rw[zI b hp];simp[lk,lv c]
def sM(A R C:List (κ×ν)):Prop:=(R.map (·.1)).Nodup/\∀k,(lk R k).or (lk C k)=lk A k
def sM.step{A R C:List (κ×ν)}(h:sM A R C){i:Nat}{p:κ×ν}(hi:R[i]? =some p):sM A (R.eraseIdx i) (put C p.1 p.2):=by
 obtain⟨a,b⟩:=h;obtain⟨h1,c,f,d⟩:=Ga a hi;refine⟨h1,λk=>?_⟩;rw[kJ];by_cases e:k=p.1
 ·grind
 ·grind
def sM.done{A C:List (κ×ν)}(h:sM A [] C)(a:(A.map (·.1)).Nodup)(hC:(C.map (·.1)).Nodup):C.Perm A:=
 Ir hC a λk=>by have:=h.2 k;simpa [lk]using this
end
def bE.empty:bE:=⟨0,[],[]⟩
def bE.empty_ok:bE.empty.Ok where
 fund:=by simp[bE.empty,MF]
 sa:=List.Pairwise.nil
 sp:=List.Pairwise.nil
 len:=by simp[bE.empty]
 acc:=by simp[bE.empty]
 pos:=by simp[bE.empty]
def HE{w:Wt_}{K:aY}(j:∀d l F,ig d l F bE.empty->M0 w d->(∀b,F b->w.heap.size<=b)->K (eu l) d):Ca pQ 34 #[] w K:=by
 refine cN Tryz.func34 ?_;simp[go_sem];have o:=eF.new (enc:=eQ) (ev:=kx) w;refine gL (enc:=eQ) (ev:=kx) (x:=0) (v:=⟨0,0,false,false⟩) oN kM o λa k h e=>?_;have n:M0 w a:=kU.on h λb i=>fM;have m:a.heap.size=w.heap.size+1:=by rw[e,cm]
 (try simp[go_sem])
 generalize c:(a.alloc (.map #[] 0)).alloc _=g;have f:M0 a g:=by subst c;exact kU.alloc _
 refine j g (a.heap.size+1) (λb=>b=a.heap.size+1\/b=w.heap.size\/b=a.heap.size) ⟨⟨w.heap.size,a.heap.size,_,[],?_,k.mod f id,?_,?_,cR _,λ_=>aG,qZ,qZ,qZ⟩,bE.empty_ok⟩ (n.trans f) λb i=>by omega
 ·subst c;simp[go_sem,m]
 ·subst c;exact(eF.new (enc:=ie) (ev:=ox) a).mod ((aS.refl (λ_=>False) _).alloc _) id
 ·exact cR _
def R2{w:Wt_}{l:Nat}{F:NP_}{S:bE}{K:aY}(h:ig w l F S)(hK:∀q e F',ig q e F' S->M0 w q->(∀b,F' b->w.heap.size<=b)->K (eu e) q):Ca pQ 92 #[eu l] w K:=by
 have h0:=h;obtain⟨⟨m1,m2,A,B,h1,P,V,h4,h5,h6,h7⟩,hok⟩:=h;unfold eu;refine cN Tryz.func92 ?_;apply me h0;simp[go_sem];refine HE λw1 e F' q1 n1 Y=>?_;obtain⟨⟨k1,k2,A',B',c1,c2,c3,c4,c5,X,c7⟩,-⟩:=q1;have hk1:w.heap.size<=k1:=Y k1 ((X k1).2 (.inr (.inl rfl)));have hk2:w.heap.size<=k2:=Y k2 ((X k2).2 (.inr (.inr rfl)));have hl' :w.heap.size<=e:=Y e ((X e).2 (.inl rfl));have e1:=n1.keep h1 id;have hlm1:=P.lt;have hlm2:=V.lt;simp[go_sem,eu,bT e1];refine sD oN (P.mod n1 id) λw2 O n2=>?_;generalize hg:w1.heap.size=it at O;have hitl:=ay c1;have hc2l:=c2.lt;have hc3l:=c3.lt
 refine uo (λs W=>∃(R C:List (Int×Ac)),s=()/\kR eQ kx W it m1 R/\eF eQ kx W k1 C/\sM A R C/\aS (λb=>b=it\/b=k1) w1 W)
  (λs W=>rj it m1 W) ⟨A,A',rfl,O,c2.mod n2 id,⟨P.1,λk=>?_⟩,n2.to⟩ ?_
 ·have hA' :∀k,lk A' k=bE.empty.getO k:=λk=>ig.lkA c2 c4 k;rw[hA' k,ig.lkA P h4];unfold bE.getO;by_cases L:k=0
  ·simp[L]
  ·simp only[aa L];cases S.find k<;>simp[bE.find,bE.empty]
 rintro _ W ⟨R,C,rfl,itW,cW,inv,mW⟩ KN hKN;refine lE ?_;intro _;refine uS itW ?_ ?_
 ·intro L q I hh;subst L;have j:aS (λb=>b=it\/b=k1) w1 q:=mW.trans (I.to);have e1' :=j.keep e1 (by have:=ay h1;omega);simp[go_sem,bT e1'];have mF:M0 w q:=n1.on j λb a=>.inr (by grind);refine sD zM (V.mod mF id) λw4 T Z=>?_;generalize hg4:q.heap.size=o at T;have cA:=((inv.done P.1 cW.1).trans h4)
  have cW4:=(cW.mod I id).mod Z id
  have hjt:it<o/\k1<o/\k2<o/\e<o:=by
   have:=j.size;have:=itW.lt.2;have:=I.size;omega
  have m:hC w4 e #[.map (some k1),.map (some k2)] 176:=Z.keep (j.keep c1 qZ) id
  refine uo (λs W=>∃(R C:List ((Int×Int)×Po)),s=()/\kR ie ox W o m2 R/\eF ie ox W k2 C/\sM B R C/\aS (λb=>b=o\/b=k2) w4 W)
   (λs W=>rj o m2 W) ⟨B,B',rfl,T,(c3.mod j qZ).mod Z id,⟨V.1,λk=>?_⟩,oU⟩ ?_
  ·have hB' :∀k,lk B' k=bE.empty.pos? k:=λk=>ig.lkP c3 c5 k;rw[hB' k];cases lk B k<;>simp[bE.pos?,bE.empty]
  rintro _ W5 ⟨R5,C5,rfl,u,E,t,H⟩ KN5 N;refine lE ?_;intro _;refine uS u ?_ ?_
  ·intro L d c hh'';subst L;simp[go_sem];have g:aS (λb=>b=o\/b=k2) w4 d:=H.trans (c.to);refine hK d e F' ⟨⟨k1,k2,C,C5,g.keep m qZ,cW4.mod g qZ,E.mod c id,cA,(t.done V.1 E.1).trans h5,X,c7⟩,hok⟩ (mF.on ((Z.to (G:=λb=>b=o\/b=k2)).trans g) λb a=>.inr (by grind)) Y
  ·intro i p Q d J f c hsz;simp[go_sem];apply si f;have r:=(H.on c λb a=>.inl (.inl a)).keep m (by grind);have hlt:=ay r;have y:e≠d.heap.size:=qZ;have U:e≠d.heap.size+1:=qZ;simp[go_sem,ox,ie,eu,bT r,y,U];generalize z:World.drew _=w6;have D:M0 d w6:=by subst z;exact(kU.alloc _).drew
   refine gL (enc:=ie) (ev:=ox) (x:=p.1) (v:=p.2) zM NA ((E.mod c (by grind)).mod D id) λw7 hA M hs7=>?_;have n:kR ie ox w7 o m2 (R5.eraseIdx i):=(J.mod D id id).mod M qZ qZ;apply N _ _ ⟨_,_,rfl,n,hA,t.step Q,((H.on c λb a=>.inl (.inl a)).on D λ_ h=>h.elim).on M λb a=>.inl (.inr a)⟩;rw[n.left,u.left,gJ];have:i<R5.length:=(aF.1 Q).1;rw[ae this];omega
 ·intro i p Q q J f I hsz;simp[go_sem];apply si f;have m:=(mW.on I λb a=>.inl (.inl a)).keep c1 (by grind);have hlt:=ay m;have y:e≠q.heap.size:=qZ;simp[go_sem,kx,eQ,eu,bT m,y];generalize z:World.drew _=w6;have D:M0 q w6:=by subst z;exact kU.drew
  refine gL (enc:=eQ) (ev:=kx) (x:=p.1) (v:=p.2) oN kM ((cW.mod I (by grind)).mod D id) λw7 hA M hs7=>?_;have n:kR eQ kx w7 it m1 (R.eraseIdx i):=(J.mod D id id).mod M qZ qZ;apply hKN _ _ ⟨_,_,rfl,n,hA,inv.step Q,((mW.on I λb a=>.inl (.inl a)).on D λ_ h=>h.elim).on M λb a=>.inl (.inr a)⟩;rw[n.left,itW.left,gJ];have:i<R.length:=(aF.1 Q).1;rw[ae this];omega
end Go.Proofs
