/- Part of a proof. -/
import Derived.Test.YtekbnpagidkbbaaGreatT5
set_option linter.all false
set_option maxRecDepth 100000
set_option maxHeartbeats 4000000
namespace Go.Vc
open Go Go.Vc
variable {kh kl:IntKind}{sz b n cap hi lo:Nat}{P:Program}{t ty e:TypeId}{w:Wt_}{K:be}
def Fy{u v:TypeId}{off m:Nat}{C:Array Value}{T:TypeId}{x:Vt_}{a:LV_}
  (p:P.underlying t=some (.slice e))(y:P.underlying u=some (.slice v))(A:P.cellsOf e=sz+1)(q:w.heap[b]? =some (.cells C T (0,0)))(c:n+m<=cap)
  (j:Rd w (sz+1) x m a)(r:a.all (·.oneCell')=true)(l:off+(n+m)*(sz+1)<=C.size)
  (s:K (.slice (some ⟨b,off,none⟩) (n+m) cap) (w.setRow b (ji C.toList (off+n*(sz+1)) a).toArray)):rx P (ff #[t,u] ty [.slice (some ⟨b,off,none⟩) n cap,x]) w K:=by
 obtain⟨i,z,g⟩:=pV (n:=sz) A;have k:a.length=m*(sz+1):=j.1;have h:=j.first (P:=P) (lz _);have d:=run_storeCells_at P b (off+n*(sz+1)) T a 0 C w q (by grind) (pz r);simp only[bM]at d;refine oM (.slice (some ⟨b,off,none⟩) (n+m) cap) (w.setRow b (ji C.toList (off+n*(sz+1)) a).toArray) ?_ s;have o:(⟨b,off,none⟩:Addr).add (n*(sz+1))=⟨b,off+n*(sz+1),none⟩:=by rw[bQ]
 unfold ji;simp[ff,Builtin.append_,aO p,sizeOf,typeInfo,z,g,aO y,j.lenOf,Result.andThen,h,c];rw[o,d];simp[ag]
def pZ{C sT:TypeId}{g o j r d k:Nat}{q:Vt_}{all:LV_}{l:Array Value}
  (L:P.underlying C=some (.slice e))(hs:P.cellsOf e=sz+1)(E:w.heap[g]? =some (.cells l t (0,0)))(m:Rd w (sz+1) q d all)(A:k=Nat.min d j)
  (B:o+k*(sz+1)<=l.size)(F:all.all (·.oneCell')=true)(H:K (gI k) (w.setRow g (ji l.toList o (all.take (k*(sz+1)))).toArray)):
  rx P (LH #[C,sT] ty [.slice (some ⟨g,o,none⟩) j r,q]) w K:=by
 obtain⟨i,M,y⟩:=pV (n:=sz) hs;have Q:all.length=d*(sz+1):=m.1;have u:k<=d:=by grind
 have D:k*(sz+1)<=d*(sz+1):=cz _ u;have s:(all.take (k*(sz+1))).length=k*(sz+1):=by grind
 have z:∀v∈all.take (k*(sz+1)),v.oneCell' =true:=λv N=>pz F v (bm N);have p:=run_storeCells_at P g o t (all.take (k*(sz+1))) 0 l w E (by grind) z;simp only[bM]at p
 have h:(Builtin.firstCells (sz+1) k q).run P w=.ok (all.take (k*(sz+1))).toArray w:=by
  obtain⟨_,⟨O,a,c,rfl⟩|⟨b,I,G,rfl,R,J⟩⟩:=m
  ·have x:k=0:=qZ;subst x;cases a<;>simp[Builtin.firstCells,loadCells,loadCellsFrom]
  ·have:=(J.sub 0 (k*(sz+1)) qZ).loads (P:=P);simp only[dO,bM,s]at this;simpa [Builtin.firstCells]using this
 refine oM (goInt (Nat.min d j)) (w.setRow g (ji l.toList o (all.take (k*(sz+1)))).toArray) ?_ (by rw[<-A];exact H);rw[A]at h p|-;simp[LH,Builtin.copy_,aO L,m.lenOf,sizeOf,typeInfo,M,y,Result.andThen,h,p,ji]
def Dn{g o c:Nat}{a:Array Value}{T:TypeId}{by_:Nat}(l:P.underlying t=some (.slice e))(y:vG P e (sz+1) by_)
  (p:w.heap[g]? =some (.cells a T (0,0)))(s:o+n*(sz+1)<=a.size)
  (d:∀z:List Value,z.length=n*(sz+1)->z.all (·.oneCell')=true->K (.tuple #[]) (w.setRow g (ji a.toList o z).toArray)):
  rx P (AY #[t] ty [.slice (some ⟨g,o,none⟩) n c]) w K:=by
 obtain⟨⟨i,z,C,x,v,A,k,h⟩,r,j⟩:=y;have u:(Builtin.zeroCells z.cells n).toList.length=n*(sz+1):=by rw[pT,k]
 have q:=pR h (by grind) n;have d:=d _ u q;have b:=run_storeCells_at P g o T (Builtin.zeroCells z.cells n).toList 0 a w p (by grind) (pz q);simp only[bM]at b;refine oM (.tuple #[]) (w.setRow g (ji a.toList o (Builtin.zeroCells z.cells n).toList).toArray) ?_ d;cases n with
 |zero=>
  have e:(Builtin.zeroCells z.cells 0).toList=[]:=jQ (by rw[u];simp);rw[e];have B:=setRow_self w g a T (0,0) p;simp[AY,Builtin.clear_,aO l,Result.andThen,ji,B]
 |succ m=>simp[AY,Builtin.clear_,aO l,zeroValue,typeInfo,C,x,Result.andThen,b,ji]
def zz{u:TypeId}{ku:IntKind}{by_:Nat}{s:Vt_}{m:Nat}{cs:LV_}
  (U:P.underlying t=some (.slice e))(W:P.underlying u=some (.int ku))(hE:vG P e (sz+1) by_)
  (hs:il w e (sz+1) s n cs)(A:(n+m)*by_<=140737488355328)
  (hK:∀Y R z,z.length=m*(sz+1)->z.all (·.oneCell')=true->il R e (sz+1) Y (n+m) (cs++z)->bn (aQ s) w R->(∀b,aQ Y b->aQ s b\/w.heap.size<=b)->(∀a c,s=.slice a n c->c<n+m->M0 w R/\∀b,aQ Y b->w.heap.size<=b)->K Y R):
  rx P (ff #[t,u] ty [s,gI (m:Int)]) w K:=by
 obtain⟨⟨i,z,X,hz,p,N,I,T⟩,M,E⟩:=hE;have hneed:n+m<=140737488355328:=bK (mG _ E) A;have hmb:m*by_<=140737488355328:=bK (cz _ qZ) A;have l:cs.length=n*(sz+1):=hs.1;have O:(Builtin.zeroCells z.cells m).toList.length=m*(sz+1):=by rw[pT,I]
 have h1:=pR T (by grind) m;have k:IntKind.i64.wrap (m:Int)=(m:Int):=by rw[cy];omega
 have r:¬(m:Int)<0:=qZ
 have y:¬(281474976710656:Int)<(m:Int)*(i.bytes:Int):=by
  rw[N,<-d9];omega
 obtain⟨g,d,hsv,H,x⟩:∃g d,s=.slice g n d/\n<=d/\((g=none/\n=0/\d=0/\cs=[])\/∃b rest,g=some ⟨b,0,none⟩/\w.heap[b]? =some (.cells (cs++rest).toArray e (0,0))/\rest.length=(d - n)*(sz+1)/\rest.all (·.oneCell')=true):=by
  rcases hs.2 with⟨rfl,rfl⟩|⟨b,d,rest,rfl,hc,G,hr⟩
  ·grind
  ·grind
 subst hsv;obtain⟨L,V⟩:∃L:Int,(m:Int)=L:=⟨_,rfl⟩
 rw[V];rw[V]at k;have k:IntKind.i64.wrap L=(m:Int):=k.trans V.symm;clear V;generalize hZ:Builtin.zeroCells z.cells m=Z at O h1;by_cases h0:m=0
 ·subst h0;have hZ0:Z= #[]:=gO (by grind);refine oM (.slice g n d) w ?_ (hK _ _ [] (by simp) rfl (by simpa using hs) rC (λb A=>.inl A) λa c he J=>by grind);rcases x with⟨rfl,rfl,rfl,rfl⟩|⟨b,rest,rfl,G,B,hr1⟩
  ·simp[ff,Builtin.append_,aO U,sizeOf,typeInfo,X,p,aO W,Result.andThen,asInt,asIntOf,k]
  ·have j:=run_storeCells_at P b (n*(sz+1)) e [] 0 (cs++rest).toArray w G (by simp[l]) (by simp);simp only[bM]at j;have F:=setRow_self w b (cs++rest).toArray e (0,0) G;have e0:(⟨b,0,none⟩:Addr).add (n*(sz+1))=⟨b,n*(sz+1),none⟩:=by rw[bQ];simp
   have hnc:¬d<n:=qZ;simp at j;simp[ff,Builtin.append_,aO U,sizeOf,typeInfo,X,p,aO W,Result.andThen,asInt,asIntOf,k,H,e0,j];simpa using F
 have Q:¬m*(sz+1)=0:=by
  rw[Nat.mul_eq_zero];omega
 by_cases h:n+m<=d
 ·rcases x with⟨rfl,rfl,rfl,rfl⟩|⟨b,rest,rfl,G,B,hr1⟩
  ·omega
  ·have j:=run_storeCells_at P b (n*(sz+1)) e Z.toList 0 (cs++rest).toArray w G (by
    simp only[dC,ad,l,B,O];have:=cz (sz+1) h;rw[dY]at this;rw[mB];omega) (pz h1)
   simp only[bM]at j
   have D:(cs++rest).take (n*(sz+1))++Z.toList++(cs++rest).drop (n*(sz+1)+Z.toList.length)=(cs++Z.toList)++rest.drop Z.toList.length:=by
    rw[<-l];simp[ag]
   refine oM (.slice (some ⟨b,0,none⟩) (n+m) d) (w.setRow b ((cs++Z.toList)++rest.drop Z.toList.length).toArray) ?_ (hK _ _ Z.toList O h1 ⟨?_,.inr ⟨b,d,rest.drop Z.toList.length,rfl,h,?_,?_,?_⟩⟩ ?_ ?_ λa c he J=>by grind)
   ·simp only[D]at j;have e0:(⟨b,0,none⟩:Addr).add (n*(sz+1))=⟨b,n*(sz+1),none⟩:=by rw[bQ];simp
    simp[ff,Builtin.append_,aO U,sizeOf,typeInfo,zeroValue,hz,X,p,aO W,Result.andThen,asInt,asIntOf,k,h,e0,r,y,h0,hZ,j];have q:=j;simp at q;rw[aa Q];simp only;rw[q]
   ·grind
   ·rw[eU,ab rfl,G]
   ·rw[bi,B,O,<-mB];congr 1;omega
   ·grind
   ·exact(bn.refl (aQ (.slice (some ⟨b,0,none⟩) n d)) w).setRow (.inl (show aQ _ b from rfl)) _
   ·intro b' C;exact .inl C
 ·have hfit:=growslice_fits (old:=d) (need:=n+m) (bytes:=by_) qZ A;have h48:¬(281474976710656<Builtin.nextslicecap (n+m) d*i.bytes):=by rw[N];omega
  have h63:¬(9223372036854775807<((n:Int)+(m:Int))):=qZ;have o:n+m<=grownCap w (n+m) d e:=by simp[grownCap,Question.cut]
  have hrs:Rd w.drew (sz+1) (.slice g n d) n cs:=hs.rd.keep λ_ _=>rfl;have hf1:=hrs.first (P:=P) M
  refine kI (v:=.slice (some ⟨w.heap.size,0,none⟩) (n+m) (grownCap w (n+m) d e))
   (w' :=w.drew.alloc (.cells (cs.toArray++Z++Builtin.zeroCells z.cells (grownCap w (n+m) d e - (n+m))) e)) ?_ (hK _ _ Z.toList O h1 ⟨?_,.inr ⟨w.heap.size,_,(Builtin.zeroCells z.cells (grownCap w (n+m) d e - (n+m))).toList,rfl,o,?_,?_,?_⟩⟩ ?_ ?_ λa c he J=>⟨wl.alloc _,λb A=>by cases A;exact aB _⟩)
  ·simp[ff,Builtin.append_,aO U,sizeOf,typeInfo,zeroValue,X,hz,p,aO W,Result.andThen,asInt,asIntOf,k,r,y,h0,h,h63,h48,Question.forced,hf1,newRow,grownCap,hZ];rw[aa Q];rfl
  ·grind
  ·rw[dZ,ab (show w.heap.size=w.drew.heap.size from rfl)];simp
  ·rw[pT,I]
  ·exact pR T (by grind) _
  ·exact wl.alloc _
  ·rintro b' C;cases C;exact .inr (aB _)
section
variable{α:Type}{f:α->List Value}{S:Nat}
def Tu(a:∀x,(f x).length=S):∀(l:List α) (i:Nat),(l.flatMap f).take (i*S)=(l.take i).flatMap f
 | [],i=>by simp
 |x::l,0=>by simp
 |x::l,i+1=>by
  have e:(i+1)*S=(f x).length+i*S:=by grind
  rw[aT,gY,aT,e,iH,Tu a l i]
def Wx(a:∀x,(f x).length=S):∀(l:List α) (i:Nat),(l.flatMap f).drop (i*S)=(l.drop i).flatMap f
 | [],i=>by simp
 |x::l,0=>by simp
 |x::l,i+1=>by
  have e:(i+1)*S=(f x).length+i*S:=by grind
  rw[aT,List.drop_succ_cons,e,<-cw,ck,Wx a l i]
def tU(a:∀x,(f x).length=S)(l:List α):(l.flatMap f).length=l.length*S:=qS f S l λx _=>a x
def O8(a:∀x,(f x).all (·.oneCell')=true)(l:List α):(l.flatMap f).all (·.oneCell')=true:=by
 rw[List.all_flatMap,aW];exact λx _=>a x
def Rd.item{w:Wt_}{v:Vt_}{n:Nat}{l:List α}(d:∀x,(f x).length=S)(h:Rd w S v n (l.flatMap f)){i:Nat}(hi:i<l.length)(o:n=l.length):
  ∃b c a,v=.slice (some ⟨b,c,none⟩) n a/\n<=a/\At w b (c+i*S) (f l[i]):=by
 obtain⟨m,⟨k,_⟩|⟨b,c,a,rfl,j,e⟩⟩:=h
 ·omega
 ·refine⟨b,c,a,rfl,j,?_⟩;have g:(i+1)*S<=l.length*S:=cz S hi;rw[dY]at g;have:=e.sub (i*S) S (by rw[tU d];omega)
  rwa[lx f S l i (λx _=>d x) hi]at this
end
def il.pos{v:Vt_}{cs:LV_}(h:il w e sz v n cs)(d:0<n):
  ∃b a rest,v=.slice (some ⟨b,0,none⟩) n a/\n<=a/\w.heap[b]? =some (.cells (cs++rest).toArray e (0,0))/\rest.length=(a - n)*sz/\(rest.all (·.oneCell')=true):=by
 obtain⟨c,⟨rfl,rfl⟩|h⟩:=h
 ·omega
 ·exact h
def IT(d:P.underlying t=some (.slice e))(g:P.cellsOf e=sz+1)(h:hi<=cap)(i:0<cap)(W:Wt_):
  (Instr.sliceAt t (.slice (some ⟨b,0,none⟩) n cap) none (some (.int kh (hi:Int))) none).run P W=.ok (.slice (some ⟨b,0,none⟩) hi cap) W:=by
 obtain⟨a,c⟩:=py d;rw[run_sliceAt_slice W t _ _ _ _ a,run_slice_h W t _ n cap a kh hi qZ qZ,c,kY g];simp only[Result.andThen,sliced,fS,jJ,jL];rw[aa qZ,eA,bQ]
def Y6(c:P.underlying t=some (.slice e))(g:P.cellsOf e=sz+1)(i:lo<=hi)(h:hi<=cap)(j:lo<cap)(W:Wt_):
  (Instr.sliceAt t (.slice (some ⟨b,0,none⟩) n cap) (some (.int kl (lo:Int))) (some (.int kh (hi:Int))) none).run P W=.ok (.slice (some ⟨b,lo*(sz+1),none⟩) (hi - lo) (cap - lo)) W:=by
 obtain⟨a,d⟩:=py c;rw[run_sliceAt_slice W t _ _ _ _ a,run_slice_lh W t _ n cap a kl kh lo hi qZ qZ qZ,d,kY g];simp only[Result.andThen,sliced,fS];rw[aa qZ,eA,bQ,cI]
def vY(d:P.underlying t=some (.slice e))(g:P.cellsOf e=sz+1)(i:lo<=n)(h:n<=cap)(j:lo<cap)(W:Wt_):
  (Instr.sliceAt t (.slice (some ⟨b,0,none⟩) n cap) (some (.int kl (lo:Int))) none none).run P W=.ok (.slice (some ⟨b,lo*(sz+1),none⟩) (n - lo) (cap - lo)) W:=by
 obtain⟨a,c⟩:=py d;rw[run_sliceAt_slice W t _ _ _ _ a,run_slice_l W t _ n cap a kl lo qZ qZ,c,kY g];simp only[Result.andThen,sliced,fS];rw[aa qZ,eA,bQ,cI]
def X3{a:Option Addr}{mx:Nat}{km:IntKind}(g:P.underlying t=some (.slice e))(d:P.cellsOf e=sz+1)(j:lo<=hi)(i:hi<=mx)(k:mx<=cap)(W:Wt_):
  ∃v,(Instr.sliceAt t (.slice a n cap) (some (.int kl (lo:Int))) (some (.int kh (hi:Int))) (some (.int km (mx:Int)))).run P W=.ok v W:=by
 obtain⟨b,h⟩:=py g;have c:=run_slice_lhm W t a n cap b kl kh km lo hi mx qZ qZ qZ qZ;rw[h,kY d]at c;exact⟨_,(run_sliceAt_slice W t _ _ _ _ b).trans c⟩
end Go.Vc
namespace Go.Proofs
open Go Go.Vc
variable {n:Int}{x y:Int×Int}
section
variable{κ ν:Type} [DecidableEq κ]
def rN{L:List (κ×ν)}(c:(L.map (·.1)).Nodup){k:κ}{v:ν}(h:(k,v)∈L):lk L k=some v:=by
 induction L with
 |nil=>cases h
 |cons p L d=>
  obtain⟨a,b⟩:=p;simp only[aH,bO]at c;rcases aq.1 h with h|h
  ·cases h;simp[lk]
  ·have:a≠k:=λe=>c.1 (e▸aV (f:=(·.1)) h);simp only[lk,aa this];exact d c.2 h
def SO{L:List (κ×ν)}(a:(L.map (·.1)).Nodup){k:κ}{v:ν}:lk L k=some v↔(k,v)∈L:=⟨yy,rN a⟩
def AM{A L:List (κ×ν)}(c:(A.map (·.1)).Nodup)(h:A.Perm L)(k:κ):lk A k=lk L k:=by
 have a:(L.map (·.1)).Nodup:=(h.map _).nodup_iff.1 c;cases b:lk A k with
 |some v=>exact(rN a (h.mem_iff.1 (yy b))).symm
 |none=>
  cases d:lk L k with
  |none=>rfl
  |some v=>rw[rN c (h.mem_iff.2 (yy d))]at b;cases b
def O4{L:List (κ×ν)}(c:(L.map (·.1)).Nodup)(k:κ)(v:ν):(put L k v).Perm ((k,v)::L.filter (λp=>p.1≠k)):=by
 induction L with
 |nil=>exact db _
 |cons p L d=>
  obtain⟨a,b⟩:=p;simp only[aH,bO]at c;simp only[put];by_cases h:a=k
  ·subst h;rw[ab rfl,aU (by simp)];apply List.Perm.cons _;rw[cC.2 λx f=>?_];have:x.1≠a:=λe=>c.1 (e▸aV f);simpa using this
  ·rw[aa h,bF (by simpa using h)];exact((d c.2).cons _).trans (List.Perm.swap ..)
def HQ{A L:List (κ×ν)}(a:(A.map (·.1)).Nodup)(h:A.Perm L)(k:κ)(v:ν):(put A k v).Perm ((k,v)::L.filter (λp=>p.1≠k)):=
 (O4 a k v).trans ((h.filter _).cons _)
def OX{L:List (κ×ν)}(c:(L.map (·.1)).Nodup)(k:κ):Aq L k=L.filter (λp=>p.1≠k):=by
 induction L with
 |nil=>rfl
 |cons p L f=>
  obtain⟨a,b⟩:=p;simp only[aH,bO]at c;simp only[Aq];by_cases h:a=k
  ·subst h;rw[ab rfl,aU (by simp)];rw[cC.2 λx d=>?_];have:x.1≠a:=λe=>c.1 (e▸aV d);simpa using this
  ·grind
def Qa{A L:List (κ×ν)}(a:(A.map (·.1)).Nodup)(h:A.Perm L)(k:κ):(Aq A k).Perm (L.filter (λp=>p.1≠k)):=by
 rw[OX a];exact h.filter _
end
def ul{l a:List Int}(h:l.Perm a):l.sum=a.sum:=by
 induction h with
 |nil=>rfl
 |cons x _ b=>simp[b]
 |swap x y l=>simp;omega
 |trans _ _ d c=>exact d.trans c
structure Ac where
 num:Int
 cash:Int
 kil:Bool
 dfl:Bool
 deriving DecidableEq
variable {a:Ac}{l:List Ac}
structure Po where
 c:Int
 a:Int
 q:Int
 b:Int
 deriving DecidableEq
structure bq where
 fund:Int
 all:List Ac
 held:List Po
variable {S:bq}
instance:Inhabited Ac:=⟨⟨0,0,false,false⟩⟩
instance:Inhabited Po:=⟨⟨0,0,0,0⟩⟩
def Po.key(p:Po):Int×Int:=(p.c,p.a)
def Po.isZ(p:Po):Bool:=decide (p.q=0/\p.b=0)
def vD(x y:Int×Int):Bool:=decide (x.1<y.1\/(x.1=y.1/\x.2<y.2))
def mY:vD x y=true↔(x.1<y.1\/(x.1=y.1/\x.2<y.2)):=by simp[vD]
def AA(x y:Int×Int):vD x y=true\/x=y\/vD y x=true:=by
 rw[mY,mY,Prod.ext_iff];omega
def yx{z:Int×Int}(h:vD x y=true)(a:vD y z=true):vD x z=true:=by
 rw[mY]at*;omega
def EJ:vD x x=false:=by
 rw[fM,Ne,mY];omega
def tG(h:vD x y=true):x≠y:=by
 intro e;subst e;rw[EJ]at h;cases h
def yk(h:vD x y=true):vD y x=false:=by
 rw[mY]at h;rw[fM,Ne,mY];omega
def CL(l:List Ac)(a:Ac):List Ac:=l.filter (λx=>decide (x.num<a.num))++a::l.filter (λx=>decide (a.num<x.num))
def Jh(l:List Po)(p:Po):List Po:=l.filter (λx=>vD x.key p.key)++((if p.isZ then []else [p])++l.filter (λx=>vD p.key x.key))
def mg(l:List Ac):Prop:=l.Pairwise λx y=>x.num<y.num
def kf(l:List Po):Prop:=l.Pairwise λx y=>vD x.key y.key=true
def ry{x:Ac}:x∈CL l a↔(x∈l/\x.num≠a.num)\/x=a:=by
 simp only[CL,aN,aq,aM,ax];constructor
 ·rintro(⟨h,b⟩|h|⟨h,b⟩)
  ·grind
  ·exact .inr h
  ·grind
 ·rintro(⟨h,b⟩|h)
  ·rcases Int.lt_or_gt_of_ne b with c|c
   ·exact .inl ⟨h,c⟩
   ·grind
  ·exact .inr (.inl h)
def rg{l:List Po}{p x:Po}:x∈Jh l p↔(x∈l/\x.key≠p.key)\/(x=p/\p.isZ=false):=by
 have c:x∈(if p.isZ=true then []else [p])↔x=p/\p.isZ=false:=by
  cases p.isZ<;>simp
 simp only[Jh,aN,aM,c];constructor
 ·rintro(⟨h,a⟩|h|⟨h,a⟩)
  ·exact .inl ⟨h,tG a⟩
  ·exact .inr h
  ·exact .inl ⟨h,λe=>tG a e.symm⟩
 ·rintro(⟨h,a⟩|h)
  ·rcases AA x.key p.key with b|b|b
   ·exact .inl ⟨h,b⟩
   ·exact absurd b a
   ·grind
  ·exact .inr (.inl h)
def si(h:mg l)(a:Ac):mg (CL l a):=by
 unfold mg CL;rw[dz,bJ];refine⟨h.filter _,⟨λx d=>by grind,h.filter _⟩,λx d y b=>?_⟩;have c:x.num<a.num:=by grind
 rcases aq.1 b with rfl|b
 ·exact c
 ·grind
theorem rX{l:List Po}(h:kf l)(p:Po):kf (Jh l p):=by
 unfold kf Jh;rw[dz,dz];have d:∀x∈(if p.isZ=true then []else [p]),x=p:=λx b=>by grind
 refine⟨h.filter _,⟨?_,h.filter _,λx b y a=>?_⟩,λx b y a=>?_⟩
 ·cases p.isZ<;>simp
 ·grind
 ·have c:vD x.key p.key=true:=(aM.1 b).2;rcases aN.1 a with a|a
  ·rw[d y a];exact c
  ·exact yx c (aM.1 a).2
def mg.nodup(h:mg l):(l.map (·.num)).Nodup:=by
 rw[List.Nodup,dA];exact h.imp λh=>by omega
def kf.nodup{l:List Po}(h:kf l):(l.map Po.key).Nodup:=by
 rw[List.Nodup,dA];exact h.imp λh=>tG h
def xQ{α:Type}(l:List α)(p q:α->Bool)(h:∀x∈l,p x=true->q x=false):(l.filter p++l.filter q).Perm (l.filter λx=>p x||q x):=by
 induction l with
 |nil=>exact db _
 |cons x l b=>
  have b:=b λy c=>h y (ae _ c);cases hp:p x with
  |true=>
   have a:=h x ai hp;rw[bF hp,aU (by simp[a]),bF (by simp[hp])];exact b.cons x
  |false=>
   cases a:q x with
   |true=>
    rw[aU (by simp[hp]),bF a,bF (by simp[a])];exact ky.trans (b.cons x)
   |false=>
    rw[aU (by simp[hp]),aU (by simp[a]),aU (by simp[hp,a])];exact b
theorem vd(l:List Ac)(a:Ac):(CL l a).Perm (a::l.filter λx=>decide (x.num≠a.num)):=by
 refine ky.trans (List.Perm.cons _ ((xQ l _ _ λx _ h=>?_).trans (iG (dx λx _=>?_))))
 ·grind
 ·grind
def yQ(l:List Po)(p:Po):(Jh l p).Perm ((if p.isZ then []else [p])++l.filter λx=>decide (x.key≠p.key)):=by
 refine List.perm_append_comm_assoc .. |>.trans (List.Perm.append_left _ ((xQ l _ _ λx _ h=>?_).trans (iG (dx λx _=>?_))))
 ·exact yk h
 ·rw[bT];have:=AA x.key p.key;simp only[nT,ax];constructor
  ·rintro(h|h) e
   ·exact tG h e
   ·exact tG h e.symm
  ·intro h;rcases this with a|a|a
   ·exact .inl a
   ·exact absurd a h
   ·exact .inr a
def PU{c:List Ac}(h:mg l)(d:mg c)(hp:l.Perm c):l=c:=
 hp.eq_of_pairwise (λa b _ _ f e=>qZ) h d
def bq.find(S:bq)(n:Int):Option Ac:=S.all.find? λx=>decide (x.num=n)
def bq.pos? (S:bq)(k:Int×Int):Option Po:=S.held.find? λx=>decide (x.key=k)
def jX(f:Int):Ac:=⟨0,f,false,false⟩
def bq.getO(S:bq)(n:Int):Option Ac:=if n=0 then some (jX S.fund)else S.find n
def bq.funds(S:bq):Int:=S.fund+(S.all.map (·.cash)).sum
def bq.putA(S:bq)(a:Ac):bq:=if a.num=0 then{S with fund:=a.cash}else{S with all:=CL S.all a}
def bq.putP(S:bq)(p:Po):bq:={S with held:=Jh S.held p}
def aY(n lo hi:Int):Bool:=decide (lo<=n/\n<=hi)
def MF:Int:=1000000000000000
def MP:Int:=10000000
def bq.deposit(S:bq)(n m:Int):Int×bq:=
 if aY m 1 MF then
  if S.getO n=none/\64<=S.all.length then(9,S)
  else if S.funds+m>MF then(6,S)
  else(0,S.putA {(S.getO n).getD ⟨0,0,false,false⟩with num:=n,cash:=((S.getO n).getD ⟨0,0,false,false⟩).cash+m})
 else(2,S)
def bq.withdraw(S:bq)(n m:Int):Int×bq:=
 if n=0\/aY m 1 MF=false then(2,S)
 else match S.find n with
  |none=>(7,S)
  |some a=>if a.cash<m then(90,S)else(0,S.putA {a with cash:=a.cash - m})
def bq.set(S:bq)(a:Ac):Int×bq:=
 if aY a.cash 0 MF=false\/(a.num=0/\(a.kil=true\/a.dfl=true))then(2,S)
 else if S.getO a.num=none then(7,S)else(0,S.putA a)
def bq.position(S:bq)(c a:Int):Po:=(S.pos? (c,a)).getD ⟨c,a,0,0⟩
def bq.trade(S:bq)(c b s p n:Int):Int×bq:=
 if c=0\/b=0\/s=0\/b=s\/aY p 1 MP=false\/aY n 1 MP=false then(2,S)
 else if S.find b=none\/S.find s=none then(7,S)
 else
  let x:Po:=⟨c,b,(S.position c b).q+n,(S.position c b).b+p*n⟩
  let y:Po:=⟨c,s,(S.position c s).q - n,(S.position c s).b - p*n⟩
  if MP<x.q\/y.q< -MP\/MF<x.b\/y.b< -MF then(6,S)else(0,(S.putP x).putP y)
def bq.holders(S:bq)(c:Int):List Po:=S.held.filter λp=>decide (p.c=c)
def bq.ofA(S:bq)(a:Int):List Po:=S.held.filter λp=>decide (p.a=a)
def Po.mark(p:Po)(price:Int)(cl:Bool):Po:=if cl then⟨p.c,p.a,0,0⟩else{p with b:=p.q*price}
def bq.marked(S:bq)(l:List Po)(price:Int)(cl:Bool):bq:=l.foldl (λS p=>S.putP (p.mark price cl)) S
def bq.mark(S:bq)(c price:Int)(cl:Bool):Int×List (Int×Int)×bq:=
 if c=0\/aY price 1 MP=false then(2,[],S)
 else(0,(S.holders c).map (λp=>(p.a,p.q*price - p.b)),S.marked (S.holders c) price cl)
structure bq.Ok(S:bq):Prop where
 fund:0<=S.fund/\S.fund<=MF
 sa:mg S.all
 sp:kf S.held
 len:S.all.length<=64
 acc:∀a∈S.all,0<a.num/\a.num<4294967296/\0<=a.cash/\a.cash<=MF
 pos:∀p∈S.held,0<p.c/\p.c<4294967296/\p.isZ=false/\ -MP<=p.q/\p.q<=MP/\ -MF<=p.b/\p.b<=MF/\∃a∈S.all,a.num=p.a
def bq.accs(S:bq):List (Int×Ac):=(0,jX S.fund)::S.all.map λa=>(a.num,a)
def bq.poss(S:bq):List ((Int×Int)×Po):=S.held.map λp=>(p.key,p)
def FE(l:List Ac)(n:Int):lk (l.map λa=>(a.num,a)) n=l.find? λx=>decide (x.num=n):=by
 induction l with
 |nil=>rfl
 |cons a l b=>
  simp only[aH,lk,b,iJ];by_cases h:a.num=n<;>simp[h]
def L1(l:List Po)(k:Int×Int):lk (l.map λp=>(p.key,p)) k=l.find? λx=>decide (x.key=k):=by
 induction l with
 |nil=>rfl
 |cons a l b=>
  simp only[aH,lk,b,iJ];by_cases h:a.key=k<;>simp[h]
def bq.lk_accs(S:bq)(n:Int):lk S.accs n=S.getO n:=by
 simp only[bq.accs,lk,FE,bq.getO,bq.find];by_cases h:n=0
 ·simp[h]
 ·grind
def bq.lk_poss(S:bq)(k:Int×Int):lk S.poss k=S.pos? k:=L1 _ _
def zP(l:List Ac)(n:Int):(l.map λa=>(a.num,a)).filter (λp=>decide (p.1≠n))=(l.filter λx=>decide (x.num≠n)).map λa=>(a.num,a):=by
 rw[List.filter_map];rfl
def zU(l:List Po)(k:Int×Int):(l.map λp=>(p.key,p)).filter (λp=>decide (p.1≠k))=(l.filter λx=>decide (x.key≠k)).map λp=>(p.key,p):=by
 rw[List.filter_map];rfl
def bq.Ok.put_accs(h:S.Ok){A:List (Int×Ac)}(e:(A.map (·.1)).Nodup)(hp:A.Perm S.accs)(a:Ac)(c:a.num=0->a=jX a.cash):(put A a.num a).Perm (S.putA a).accs:=by
 apply(HQ e hp _ _).trans;unfold bq.putA;by_cases b:a.num=0
 ·rw[ab b];simp only[bq.accs];rw[aU (by simp[b]),zP,b];rw[cC.2 λx d=>by have:=(h.acc x d).1;simp;omega];rw[<-c b]
 ·rw[aa b];simp only[bq.accs];rw[bF (by grind),zP];refine(List.Perm.swap ..).trans (List.Perm.cons _ ?_);exact((vd S.all a).map λa=>(a.num,a)).symm
def bq.put_poss{B:List ((Int×Int)×Po)}(a:(B.map (·.1)).Nodup)(hp:B.Perm S.poss)(p:Po)(b:p.isZ=false):(put B p.key p).Perm (S.putP p).poss:=by
 apply(HQ a hp _ _).trans;simp only[bq.poss,bq.putP];rw[zU];have:=(yQ S.held p).map λp=>(p.key,p)
 rw[b]at this;exact this.symm
def bq.del_poss{B:List ((Int×Int)×Po)}(a:(B.map (·.1)).Nodup)(hp:B.Perm S.poss)(p:Po)(b:p.isZ=true):(Aq B p.key).Perm (S.putP p).poss:=by
 apply(Qa a hp _).trans;simp only[bq.poss,bq.putP];rw[zU];have:=(yQ S.held p).map λp=>(p.key,p)
 rw[b]at this;exact this.symm
def bq.find_mem(h:S.find n=some a):a∈S.all/\a.num=n:=by
 unfold bq.find at h;exact⟨dt h,by grind⟩
def bq.pos_mem{k:Int×Int}{p:Po}(h:S.pos? k=some p):p∈S.held/\p.key=k:=by
 unfold bq.pos? at h;exact⟨dt h,by grind⟩
def bq.find_some(h:mg S.all){a:Ac}(b:a∈S.all):S.find a.num=some a:=by
 unfold bq.find;rw[<-FE];exact rN (by rw[da];exact h.nodup) (aV (f:=λa:Ac=>(a.num,a)) b)
def bq.pos_some(h:kf S.held){p:Po}(hp:p∈S.held):S.pos? p.key=some p:=by
 unfold bq.pos?;rw[<-L1];exact rN (by rw[da];exact h.nodup) (aV (f:=λp:Po=>(p.key,p)) hp)
def bq.Ok.position(h:S.Ok)(c a:Int):(S.position c a).c=c/\(S.position c a).a=a/\ -MP<=(S.position c a).q/\(S.position c a).q<=MP/\ -MF<=(S.position c a).b/\(S.position c a).b<=MF:=by
 unfold bq.position;cases hp:S.pos? (c,a)with
 |none=>simp[MP,MF]
 |some p=>
  obtain⟨d,b⟩:=bq.pos_mem hp;have:=h.pos p d;simp only[Po.key,mV]at b;exact⟨b.1,b.2,this.2.2.2.1,this.2.2.2.2.1,this.2.2.2.2.2.1,this.2.2.2.2.2.2.1⟩
def Be(l:List Ac)(a:Ac):(CL l a).length<=l.length+1:=by
 rw[(vd l a).length_eq];simp only[aR];exact Nat.succ_le_succ (aX ..)
def CB(h:∃x∈l,x.num=a.num):(CL l a).length<=l.length:=by
 rw[(vd l a).length_eq];obtain⟨x,b,e⟩:=h;simp only[aR];exact gZ.2 ⟨x,b,by simp[e]⟩
def bq.Ok.putA(h:S.Ok){a:Ac}(s:0<=a.num/\a.num<4294967296)(k:0<=a.cash/\a.cash<=MF)(b:S.find a.num≠none\/S.all.length<64\/a.num=0):(S.putA a).Ok:=by
 unfold bq.putA;by_cases g:a.num=0
 ·rw[ab g];exact{h with fund:=k}
 ·rw[aa g];refine{fund:=h.fund,sa:=si h.sa a,sp:=h.sp,len:=?_,acc:=λx c=>?_,pos:=λp hp=>?_}
  ·rcases b with b|b|b
   ·obtain⟨x,c⟩:=Option.ne_none_iff_exists'.1 b;obtain⟨f,e⟩:=bq.find_mem c;exact bK (CB ⟨x,f,e⟩) h.len
   ·exact bK (Be ..) b
   ·exact absurd b g
  ·rcases ry.1 c with⟨c,_⟩|rfl
   ·exact h.acc x c
   ·grind
  ·obtain⟨o,l,r,n,q,j,m,x,c,d⟩:=h.pos p hp;refine⟨o,l,r,n,q,j,m,?_⟩;by_cases i:x.num=a.num
   ·exact⟨a,ry.2 (.inr rfl),i.symm.trans d⟩
   ·exact⟨x,ry.2 (.inl ⟨c,i⟩),d⟩
def bq.Ok.putP(h:S.Ok){p:Po}(d:0<p.c/\p.c<4294967296)(c: -MP<=p.q/\p.q<=MP)(e: -MF<=p.b/\p.b<=MF)(f:∃a∈S.all,a.num=p.a):(S.putP p).Ok:=by
 refine{fund:=h.fund,sa:=h.sa,sp:=rX h.sp p,len:=h.len,acc:=h.acc,pos:=λx b=>?_};rcases rg.1 b with⟨b,_⟩|⟨rfl,g⟩
 ·exact h.pos x b
 ·exact⟨d.1,d.2,g,c.1,c.2,e.1,e.2,f⟩
def bq.Ok.getO(h:S.Ok){n:Int}{a:Ac}(b:S.getO n=some a):a.num=n/\0<=a.num/\a.num<4294967296/\0<=a.cash/\a.cash<=MF/\(a.num=0->a=jX a.cash):=by
 unfold bq.getO at b;split at b
 ·rename_i i
  cases b;exact⟨by simp[jX,i],by simp[jX],by simp[jX],h.fund.1,h.fund.2,λ_=>rfl⟩
 ·obtain⟨f,d⟩:=bq.find_mem b;obtain⟨j,e,g,c⟩:=h.acc a f;exact⟨d,qZ,e,g,c,qZ⟩
def bq.Ok.funds(h:S.Ok):0<=S.funds/\S.funds<=MF*65:=by
 have key:∀l:List Ac,(∀a∈l,0<=a.cash/\a.cash<=MF)->0<=(l.map (·.cash)).sum/\(l.map (·.cash)).sum<=MF*l.length:=by
  intro l b;induction l with
  |nil=>simp
  |cons a l e=>
   have f:=b a ai;have d:=e λx g=>b x (ae _ g);simp only[aH,bp,aR,MF]at*;omega
 have f:=key S.all λa c=>(h.acc a c).2.2;have d:=h.fund;have i:=h.len;unfold bq.funds;simp only[MF]at*;omega
def Xk(h:∀a∈l,0<=a.cash):0<=(l.map (·.cash)).sum/\∀a∈l,a.cash<=(l.map (·.cash)).sum:=by
 induction l with
 |nil=>simp
 |cons a l c=>
  have f:=h a ai;obtain⟨e,d⟩:=c λx b=>h x (ae _ b);simp only[aH,bp];refine⟨qZ,λx b=>?_⟩;rcases aq.1 b with rfl|b
  ·omega
  ·have:=d x b;omega
def bq.Ok.cash_le(h:S.Ok){n:Int}{a:Ac}(b:S.getO n=some a):a.cash<=S.funds:=by
 have d:=Xk (l:=S.all) λa c=>(h.acc a c).2.2.1;have e:=h.fund;unfold bq.funds;unfold bq.getO at b;split at b
 ·cases b;simp only[jX];omega
 ·have:=d.2 a (bq.find_mem b).1;omega
def eL{lo hi:Int}:aY n lo hi=true↔lo<=n/\n<=hi:=by simp[aY]
def Km{x y m:Int}(c: -m<=x/\x<=m)(a:0<=y/\y<=n): -(m*n)<=x*y/\x*y<=m*n:=by
 have b:0<=m:=qZ;constructor
 ·have d:(-x)*y<=m*n:=Int.mul_le_mul qZ a.2 a.1 b;have:(-x)*y= -(x*y):=Int.neg_mul x y;omega
 ·exact Int.mul_le_mul c.2 a.2 a.1 b
end Go.Proofs
namespace Go.Proofs
open Go Go.Vc
variable {F:NP_}{l:Nat}{w:Wt_}{K:be}{S:bq}
def zA{S:Type}{body:S->World->(S->World->Prop)->Prop}{s:S}(I:S->World->Prop)(m:S->World->Nat)(f:I s w)
  (h:∀s w,I s w->∀c:S->World->Prop,(∀a b,I a b->m a b<m s w->c a b)->body s w c):qV body s w:=
 ⟨⟨I,m,f,λs w g=>h s w g _ λ_ _ e d=>⟨e,d⟩⟩⟩
def eK(l:Nat):Value:=cU l 0
def dr(a:Ac):List Value:=[.int .u32 a.num,gI a.cash,.bool a.kil,.bool a.dfl]
def jG(a:Ac):Value:=.agg #[.int .u32 a.num,gI a.cash,.bool a.kil,.bool a.dfl]
def dR(p:Po):List Value:=[.int .u32 p.c,gU p.a,gI p.q,gI p.b]
def mK(p:Po):Value:=.agg #[.int .u32 p.c,gU p.a,gI p.q,gI p.b]
def eS(n:Int):Value:=gU n
def gr(k:Int×Int):Value:=.agg #[.int .u32 k.1,gU k.2]
def am4:Tryz.prog.underlying 45=some (.int .u32):=cH
def kL:qb pQ 45 eS:=qb.int am4
def X7:Tryz.prog.underlying 235=some (.struct (Tryz.prog.fieldsOf 235)):=cH
def ZR:Tryz.prog.fieldsOf 235= #[{name:= "contract",type:=45,offset:=0,embedded:=false,tag:= "",pkgPath:= "broadside/ledger",byteOffset:=0},{name:= "account",type:=45,offset:=1,embedded:=false,tag:= "",pkgPath:= "broadside/ledger",byteOffset:=4}]:=cH
def ad4(b:Bool)(n:Nat)(k:IntKind)(f:Int)(w:Wt_):(Instr.checkKey b (n+1) 45 (.int k f)).run pQ w=.ok () w:=by
 unfold Instr.checkKey;simp[go_sem]
def af0(w:Wt_)(x y:Int×Int):(Op.equal 235 (gr x) (gr y)).run pQ w=.ok (decide (x=y)) w:=by
 have h:Tryz.prog.stoodInHeld 235=false:=cH;obtain⟨f,a⟩:=x;obtain⟨d,c⟩:=y;unfold Op.equal Op.maxDepth gr;rw[run_equalIn_struct w 9999 235 _ _ X7 h,ZR];have b:∀(x y:Int) (w:Wt_),(Op.equalIn 9999 45 (gU x) (gU y)).run pQ w=.ok (x==y) w:=λx y w=>run_equalIn_int w 9998 45 .u32 .u32 x y cH;simp[Op.eqFields,part,isAgg,go_sem,b];by_cases g:f=d<;>by_cases e:a=c<;>simp_all
def ad3(w:Wt_)(b:Bool)(x:Int×Int):(Instr.checkKey b 10000 235 (gr x)).run pQ w=.ok () w:=by
 obtain⟨f,a⟩:=x;unfold Instr.checkKey gr;have c:∀(x:Int) (w:Wt_),(Instr.checkKey b 9999 45 (gU x)).run pQ w=.ok () w:=λx w=>ad4 b 9998 .u32 x w;simp[go_sem,X7,ZR,c]
def Pg:qb pQ 235 gr:=
 qb.asking X7 (λx y=>rfl) af0 ad3 (λx=>by simp[gr,Instr.sameBits])
def oQ:Tryz.prog.underlying 173=some (.map 45 100):=cH
def AR:Tryz.prog.underlying 174=some (.map 235 124):=cH
def YV:jS pQ 100=some (jG ⟨0,0,false,false⟩):=cH
def zPo:jS pQ 124=some (mK ⟨0,0,0,0⟩):=cH
structure iw(w:Wt_)(l:Nat)(F:NP_)(S:bq):Prop where
 out:∃m1 m2 A B,hC w l #[.map (some m1),.map (some m2)] 176/\fI eS jG w m1 A/\fI gr mK w m2 B/\A.Perm S.accs/\B.Perm S.poss/\
  (∀b,F b↔b=l\/b=m1\/b=m2)/\l≠m1/\l≠m2/\m1≠m2
 ok:S.Ok
def iw.mod{G:NP_}{w' :Wt_}(h:iw w l F S)(g:bn G w w')(c:∀b,F b->¬G b):iw w' l F S:=by
 obtain⟨⟨e,d,A,B,k,i,o,j,n,a,m⟩,f⟩:=h;exact⟨⟨e,d,A,B,g.keep k (c l ((a l).2 (.inl rfl))),i.mod g (c e ((a e).2 (.inr (.inl rfl)))),o.mod g (c d ((a d).2 (.inr (.inr rfl)))),j,n,a,m⟩,f⟩
def iw.lt(h:iw w l F S){b:Nat}(c:F b):b<w.heap.size:=by
 obtain⟨⟨n,i,A,B,d,a,e,j,m,g,k⟩,f⟩:=h;rcases(g b).1 c with rfl|rfl|rfl
 ·exact aJ d
 ·exact a.lt
 ·exact e.lt
def pO{n lo hi:Int}(a:K (.bool (aY n lo hi)) w):Ca pQ 197 #[.int .i64 n,gI lo,gI hi] w K:=by
 refine cN Tryz.func197 ?_;simp[go_sem];unfold aY at a;split
 ·grind
 ·grind
def lZ(h:iw w l F S)(b:K (.bool true) w):Ca pQ 156 #[eK l] w K:=by
 obtain⟨⟨j,d,A,B,a,e,k,f,i,m,g⟩,c⟩:=h;unfold eK;refine cN Tryz.func156 ?_;simp[go_sem,eK,a];exact b
def RF(h:iw w l F S)(O:∀d,M0 w d->K (gI S.funds) d):Ca pQ 198 #[eK l] w K:=by
 have u:=h;obtain⟨⟨z,m2,A,B,N,J,h3,G,h5,h6,h7⟩,e⟩:=h;unfold eK;refine cN Tryz.func198 ?_;apply lZ u;simp[go_sem,eK,N];refine sQ oQ J λw1 k m=>?_;generalize hg:w.heap.size=it at k
 refine zA (λs W=>∃(x:Int) (rest:List (Int×Ac)),s=(gI x,())/\kR eS jG W it z rest/\M0 w W/\x+(rest.map (·.2.cash)).sum=S.funds/\0<=x/\∀p∈rest,0<=p.2.cash)
  (λs W=>ri it z W) ?_ ?_
 ·refine⟨0,A,rfl,k,m,?_,qZ,λp hp=>?_⟩
  ·rw[ul (G.map (·.2.cash))];simp[bq.accs,jX,bq.funds,Function.comp_def]
  ·have:=G.mem_iff.1 hp;simp only[bq.accs,aq,aD]at this;rcases this with rfl|⟨a,Y,rfl⟩
   ·exact e.fund.1
   ·exact(e.acc a Y).2.2.1
 ·rintro⟨_,_⟩ W ⟨x,rest,⟨⟩,itW,E,T,X,I⟩ KN j;refine rT ?_;intro _;refine vq itW ?_ ?_
  ·intro u d C _;subst u;have:x=S.funds:=by simpa using T
   simp[go_sem];rw[this];exact O _ (E.trans C)
  ·intro i p t d n r C P;simp[go_sem];apply so r;simp[go_sem,jG];have g:=nv t
   have V:p.2.cash+((rest.eraseIdx i).map (·.2.cash)).sum=(rest.map (·.2.cash)).sum:=by
    rw[ul (g.map (·.2.cash))];simp
   have R:=I p (cP t);have c:∀q∈rest.eraseIdx i,0<=q.2.cash:=λq M=>I q (List.mem_of_mem_eraseIdx M)
   have H:0<=((rest.eraseIdx i).map (·.2.cash)).sum:=by
    clear g V t n j;generalize rest.eraseIdx i=l at c;induction l with
    |nil=>simp
    |cons q l Z=>
     have:=c q ai;have:=Z λy Q=>c y (ae _ Q);simp only[aH,bp];omega
   have v:=e.funds.2
   have D:IntKind.i64.wrap (x+p.2.cash)=x+p.2.cash:=by
    rw[cy];simp only[MF]at v;omega
   rw[D];have U:∀o,M0 w (d.alloc o):=λo=>(E.on C λb L=>.inr (by subst L;omega)).alloc o;have f:∀o,kR eS jG (d.alloc o) it z (rest.eraseIdx i):=λo=>n.mod ((bn.refl (λ_=>False) d).alloc o) id id;apply j _ _ ⟨_,_,rfl,f _,U _,qZ,qZ,c⟩;rw[(f _).left,itW.left,gH];have:i<rest.length:=(aF.1 t).1;rw[ab this];omega
def sJ(o:Option Ac):o.elim (jG ⟨0,0,false,false⟩) jG=jG (o.getD ⟨0,0,false,false⟩):=by cases o<;>rfl
def Pk(o:Option Po):o.elim (mK ⟨0,0,0,0⟩) mK=mK (o.getD ⟨0,0,0,0⟩):=by cases o<;>rfl
def iw.lkA{A:List (Int×Ac)}{c:Nat}(a:fI eS jG w c A)(b:A.Perm S.accs)(n:Int):lk A n=S.getO n:=by
 rw[AM a.1 b,S.lk_accs]
def iw.lkP{B:List ((Int×Int)×Po)}{a:Nat}(c:fI gr mK w a B)(b:B.Perm S.poss)(k:Int×Int):lk B k=S.pos? k:=by
 rw[AM c.1 b,S.lk_poss]
def iw.putA{w' :Wt_}{c d:Nat}{A:List (Int×Ac)}{B:List ((Int×Int)×Po)}(m:hC w l #[.map (some c),.map (some d)] 176)
  (j:fI eS jG w c A)(p:fI gr mK w d B)(k:A.Perm S.accs)(n:B.Perm S.poss)(q:∀b,F b↔b=l\/b=c\/b=d)(g:l≠c/\l≠d/\c≠d)(h:S.Ok)(a:Ac)
  (r:a.num=0->a=jX a.cash)(f:(S.putA a).Ok)(o:fI eS jG w' c (put A a.num a))(i:bn (λb=>b=c) w w'):iw w' l F (S.putA a):=by
 refine⟨⟨c,d,_,B,i.keep m g.1,o,p.mod i (λe=>g.2.2 e.symm),h.put_accs j.1 k a r,?_,q,g⟩,f⟩;rw[show(S.putA a).poss=S.poss by unfold bq.putA;split<;>rfl];exact n
def Kw{n m:Int}(h:iw w l F S)(X:0<=n/\n<4294967296)
  (f:∀U,iw U l F (S.deposit n m).2->bn F w U->K (gI (S.deposit n m).1) U):Ca pQ 132 #[eK l,gU n,gI m] w K:=by
 have h0:=h;obtain⟨⟨m1,m2,A,B,L,C,h3,P,h5,h6,h7⟩,g⟩:=h;unfold eK;refine cN Tryz.func132 ?_;apply lZ h0;simp[go_sem,eK,L];apply wU (enc:=eS) (ev:=jG) (x:=n) (jG ⟨0,0,false,false⟩) oQ kL YV (.inr ⟨m1,rfl,C⟩);rw[sJ,iw.lkA C P];generalize d:(S.getO n).getD ⟨0,0,false,false⟩=a;simp[go_sem,jG];apply pO;have hlt:=aJ L;have hM:aY m 1 1000000000000000=aY m 1 MF:=rfl;rw[hM];have hMF:MF=1000000000000000:=rfl;generalize r:w.alloc (.cells #[.int .u32 a.num,gI a.cash,.bool a.kil,.bool a.dfl] 100)=R;have c:M0 w R:=by subst r;exact(bn.refl _ w).alloc _
 have t:hC R w.heap.size #[.int .u32 a.num,gI a.cash,.bool a.kil,.bool a.dfl] 100:=by subst r;simp[go_sem]
 have z:=c.keep L id;have q:=C.mod c id;have J:=h0.mod c eI;simp[go_sem,cO z,CE oQ q,(show Tryz.prog.underlying 3=some (.int .i64)from by kernel_rfl)];have Z:A.length=S.all.length+1:=by rw[P.length_eq];simp[bq.accs]
 unfold bq.deposit at f;by_cases u:aY m 1 MF=true
 ·have hmr:1<=m/\m<=1000000000000000:=eL.1 u;rw[ab u]at f|-;refine dU.at (λs W=>s=(.bool (decide (S.getO n=none/\64<=S.all.length)),())/\W=R) ?_ ?_
  ·split
   ·grind
   ·grind
  rintro _ W ⟨rfl,rfl⟩;refine qk ?_;intro _;by_cases H:S.getO n=none/\64<=S.all.length
  ·rw[ab H]at f;simp only[aA H,bG,de];exact f _ J (c.to)
  ·rw[aa H]at f;simp only[aG H,bG,bE,dB];refine RF J λY e=>?_;have T:=g.funds;have k:=e.keep t id;have D:=e.keep z id;have h2x:=q.mod e id;have h3x:=(h3.mod c id).mod e id;have p:=c.trans e;have N:IntKind.i64.wrap (S.funds+m)=S.funds+m:=by rw[cy];omega
   simp[go_sem,N,cO k,cO D];by_cases ho:S.funds+m>MF
   ·rw[ab ho]at f;rw[ab qZ];exact f _ (J.mod e eI) (p.to)
   ·rw[aa ho]at f;rw[aa qZ];rw[d]at f
    have V:0<=a.cash/\a.cash<=MF/\(n=0->a.kil=false/\a.dfl=false):=by
     cases o:S.getO n with
     |none=>
      rw[o]at d;subst d;exact⟨by simp,by simp[MF],λ_=>⟨rfl,rfl⟩⟩
     |some x=>
      rw[o]at d;simp only[cR]at d;subst d;obtain⟨g1,g2,g3,g4,g5,g6⟩:=g.getO o;refine⟨g4,g5,λX=>?_⟩;have:=g6 (g1.trans X);rw[this];exact ww
    have E:IntKind.i64.wrap (a.cash+m)=a.cash+m:=by rw[cy];omega
    have M:l≠w.heap.size:=qZ;simp[go_sem,E,cO k,cO D,M];generalize O:(Y.setCell ⟨w.heap.size,0,none⟩ (gU n)).setCell ⟨w.heap.size,1,none⟩ (gI (a.cash+m))=G;have m3:bn (λb=>b=w.heap.size) Y G:=by subst O;exact((bn.refl _ Y).setCell (by simp) _ _).setCell (by simp) _ _
    have j:M0 w G:=p.on m3 λb d=>gT;let I:Ac:={a with num:=n,cash:=a.cash+m}
    refine kM (enc:=eS) (ev:=jG) (x:=n) (v:=I) oQ kL ((C.mod j id).mod ((bn.refl (λ_=>False) G).drew) id) λw4 hA m4 hs4=>?_;have y:bn (λb=>b=m1) G w4:=wl.trans m4
    have Q:a.cash<=S.funds:=by
     cases o:S.getO n with
     |none=>rw[o]at d;subst d;exact T.1
     |some x=>
      rw[o]at d;simp only[cR]at d;subst d;exact g.cash_le o
    refine f w4 (iw.putA (a:=I) (j.keep L id) (C.mod j id) (h3.mod j id) P h5 h6 h7 g ?_ ?_ hA y) ?_
    ·intro i;have:=V.2.2 i;simp only[jX,I,this,Ac.mk.injEq,and_true,oe];exact i
    ·apply g.putA X ⟨by grind,by grind⟩;simp only[I];by_cases i:n=0
     ·exact .inr (.inr i)
     ·by_cases o:S.getO n=none
      ·grind
      ·refine .inl ?_;unfold bq.getO at o
       rwa[aa i]at o
    ·exact(j.to).on y λb d=>.inl ((h6 b).2 (.inr (.inl d)))
 ·simp only[Bool.not_eq_true]at u;rw[aa (by simp[u])]at f;rw[aa (by simp[u])];exact f _ J (c.to)
end Go.Proofs
namespace Go.Proofs
open Go Go.Vc
variable {n:Int}{S:bq}
def sC(h:n≠0):S.getO n=S.find n:=by unfold bq.getO;rw[aa h]
def Ge{w:Wt_}{l:Nat}{F:NP_}{K:be}{m:Int}(h:iw w l F S)(hn:0<=n/\n<4294967296)
  (i:∀J,iw J l F (S.withdraw n m).2->bn F w J->K (gI (S.withdraw n m).1) J):Ca pQ 199 #[eK l,gU n,gI m] w K:=by
 have Q:=h;obtain⟨⟨H,m2,A,B,G,r,h3,R,h5,V,h7⟩,q⟩:=h;unfold eK;refine cN Tryz.func199 ?_;apply lZ Q;simp[go_sem,eK,G];apply wU (enc:=eS) (ev:=jG) (x:=n) (jG ⟨0,0,false,false⟩) oQ kL YV (.inr ⟨H,rfl,r⟩);rw[sJ,iw.lkA r R];generalize o:(S.getO n).getD ⟨0,0,false,false⟩=a;have X:=aJ G;simp[go_sem,jG];generalize y:w.alloc (.cells #[.int .u32 a.num,gI a.cash,.bool a.kil,.bool a.dfl] 100)=C;have d:M0 w C:=by subst y;exact(bn.refl _ w).alloc _
 have j:hC C w.heap.size #[.int .u32 a.num,gI a.cash,.bool a.kil,.bool a.dfl] 100:=by subst y;simp[go_sem]
 have O:=d.keep G id;have h2w:=r.mod d id;have T:=Q.mod d eI;have U:bn F w C:=d.to;have hMF:MF=1000000000000000:=rfl;unfold bq.withdraw at i;refine dU.at (λs W=>s=(.bool (decide (n=0\/aY m 1 MF=false)),())/\W=C) ?_ ?_
 ·by_cases f:n=0
  ·simp[go_sem,f]
  ·simp[go_sem,f];apply pO;have Z:aY m 1 1000000000000000=aY m 1 MF:=rfl;simp[go_sem,Z]
 rintro _ W ⟨rfl,rfl⟩;refine qk ?_;intro _;by_cases z:n=0\/aY m 1 MF=false
 ·rw[ab z]at i;simp only[aA z,bG,de];exact i _ T U
 ·rw[aa z]at i;simp only[aG z,bG,bE,dB];obtain⟨f,M⟩:n≠0/\aY m 1 MF=true:=⟨λe=>z (.inl e),by grind⟩
  have hmr:=eL.1 M;rw[sC f]at o;rw[sC f];cases E:S.find n with
  |none=>
   rw[E]at i;simp[go_sem];exact i _ T U
  |some x=>
   rw[E]at i o;simp only[cR]at o;subst o;obtain⟨hx,N⟩:=bq.find_mem E;obtain⟨g1,g2,g3,g4⟩:=q.acc x hx;simp only at i;simp[go_sem,cO j];by_cases k:x.cash<m
   ·grind
   ·rw[aa k]at i|-;have v:IntKind.i64.wrap (x.cash - m)=x.cash - m:=by rw[cy];omega
    have I:l≠w.heap.size:=qZ;simp[go_sem,v,cO j,cO O,I];generalize L:(W.setCell ⟨w.heap.size,1,none⟩ (gI (x.cash - m)))=D;have Y:bn (λb=>b=w.heap.size) W D:=by subst L;exact((bn.refl _ W).setCell (by simp) _ _)
    have g:M0 w D:=d.on Y λb o=>gT;let u:Ac:={x with cash:=x.cash - m}
    have c:u.num=n:=N
    have p:∀W:World,∀K:World->Prop,DD pQ (rP 173 (.map (some H)) (eS u.num) (jG u)) W K->DD pQ (rP 173 (.map (some H)) (gU n) (.agg #[.int .u32 x.num,gI (x.cash - m),.bool x.kil,.bool x.dfl])) W K:=by
     intro W K h;have:eS u.num=gU n:=by rw[c];rfl
     rw[this]at h;exact h
    apply p _ _;refine kM (enc:=eS) (ev:=jG) oQ kL ((r.mod g id).mod ((bn.refl (λ_=>False) D).drew) id) λP hA m4 hs4=>?_;have t:bn (λb=>b=H) D P:=wl.trans m4;refine i P (iw.putA (a:=u) (g.keep G id) (r.mod g id) (h3.mod g id) R h5 V h7 q ?_ ?_ hA t) ?_
    ·grind
    ·refine q.putA ⟨by rw[c];omega,by rw[c];omega⟩ ⟨by grind,by grind⟩ (.inl ?_);rw[c,E];simp
    ·exact(g.to).on t λb o=>.inl ((V b).2 (.inr (.inl o)))
def bq.getV(S:bq)(n:Int):Ac×Int:=((S.getO n).getD ⟨0,0,false,false⟩,if S.getO n=none then 7 else 0)
def XR{w:Wt_}{l:Nat}{F:NP_}{K:be}(h:iw w l F S)
  (d:∀k,M0 w k->K (.tuple #[jG (S.getV n).1,gI (S.getV n).2]) k):Ca pQ 56 #[eK l,gU n] w K:=by
 have p:=h;obtain⟨⟨t,v,A,B,s,j,C,q,z,D,y⟩,u⟩:=h;unfold eK;refine cN Tryz.func56 ?_;simp[go_sem];generalize e:w.alloc _=f;have a:M0 w f:=by subst e;exact(bn.refl _ w).alloc _
 have b:hC f w.heap.size #[.int .u32 0,gI 0,.bool false,.bool false] 100:=by subst e;simp[go_sem]
 have r:=p.mod a eI;apply lZ r;have i:=a.keep s id;have g:=j.mod a id;simp[go_sem,eK,cO i];apply wU (enc:=eS) (ev:=jG) (x:=n) (jG ⟨0,0,false,false⟩) oQ kL YV (.inr ⟨t,rfl,g⟩);rw[sJ,iw.lkA j q];have o:=aJ b;have c:w.heap.size≠f.heap.size:=qZ;unfold bq.getV at d;cases m:S.getO n with
 |none=>
  rw[m]at d;simp[go_sem,jG,cO b,c];apply d _;exact((((a.alloc _).setCell (.inr (aB _)) _ _).setCell (.inr (aB _)) _ _).setCell (.inr (aB _)) _ _).setCell (.inr (aB _)) _ _
 |some x=>
  rw[m]at d;simp[go_sem,jG,cO b,c];apply d _;exact((((a.alloc _).setCell (.inr (aB _)) _ _).setCell (.inr (aB _)) _ _).setCell (.inr (aB _)) _ _).setCell (.inr (aB _)) _ _
end Go.Proofs
namespace Go.Proofs
open Go Go.Vc
variable {a:Int}{F:NP_}{l:Nat}{w:Wt_}{K:be}{S:bq}
def UH(e: -9223372036854775808<=a/\a<9223372036854775808)(b:K (.tuple #[.int .u64 (if a<0 then -a else a),.bool (decide (a<0))]) w):Ca pQ 224 #[.int .i64 a] w K:=by
 refine cN Tryz.func224 ?_;simp[go_sem];by_cases h:a<0
 ·rw[ab h]at b|-
  have c:IntKind.u64.wrap a=a+18446744073709551616:=by
   simp[IntKind.wrap,IntKind.bits,IntKind.signed];omega
  have d:IntKind.u64.wrap (-(a+18446744073709551616))= -a:=by
   simp[IntKind.wrap,IntKind.bits,IntKind.signed];omega
  simp[c,d,h]at b|-;exact b
 ·rw[aa h]at b|-
  have c:IntKind.u64.wrap a=a:=by
   simp[IntKind.wrap,IntKind.bits,IntKind.signed];omega
  simp[c,h]at b|-;exact b
def ib{m:Int}(f: -9223372036854775808<=a/\a<9223372036854775808)(c:0<=m/\m<9223372036854775808)(b:K (.bool (aY a (-m) m)) w):Ca pQ 150 #[.int .i64 a,gI m] w K:=by
 refine cN Tryz.func150 ?_;apply UH f
 have d:IntKind.u64.wrap m=m:=by
  simp[IntKind.wrap,IntKind.bits,IntKind.signed];omega
 simp[go_sem,d,c.1]
 have e:aY a (-m) m=decide ((if a<0 then -a else a)<=m):=by
  unfold aY;rw[kC];split<;>omega
 rw[e]at b;exact b
def um{c:Int}(h:iw w l F S)
  (k:∀o,M0 w o->K (mK (S.position c a)) o):Ca pQ 222 #[eK l,gU c,gU a] w K:=by
 have t:=h;obtain⟨⟨G,s,A,B,v,C,q,D,y,H,E⟩,z⟩:=h;unfold eK;refine cN Tryz.func222 ?_;simp[go_sem];generalize g:World.alloc _ _=i;have d:M0 w i:=by subst g;exact nl.alloc _
 have e:hC i w.heap.size #[.int .u32 0,gU 0,gI 0,gI 0] 124:=by subst g;simp[go_sem]
 have b:hC i (w.heap.size+1) #[.int .u32 c,gU a,gI 0,gI 0] 124:=by subst g;simp[go_sem]
 have u:=t.mod d eI;apply lZ u;have n:=d.keep v id;have m:=q.mod d id;simp[go_sem,eK,cO n];apply wU (enc:=gr) (ev:=mK) (x:=(c,a)) (mK ⟨0,0,0,0⟩) AR Pg zPo (.inr ⟨s,rfl,m⟩);rw[Pk,iw.lkP q y];have r:=aJ b;have j:w.heap.size≠i.heap.size:=qZ;have f:w.heap.size+1≠i.heap.size:=qZ;unfold bq.position at k;cases p:S.pos? (c,a)with
 |none=>
  rw[p]at k;simp[go_sem,mK,cO e,cO b,j,f];apply k _;exact((((d.alloc _).setCell (.inr (aB _)) _ _).setCell (.inr (aB _)) _ _).setCell (.inr (aB _)) _ _).setCell (.inr (aB _)) _ _
 |some x=>
  rw[p]at k;simp[go_sem,mK,cO e,cO b,j,f];apply k _;exact((((d.alloc _).setCell (.inr (aB _)) _ _).setCell (.inr (aB _)) _ _).setCell (.inr (aB _)) _ _).setCell (.inr (aB _)) _ _
def iw.putP{w' :Wt_}{c a:Nat}{A:List (Int×Ac)}{e:List ((Int×Int)×Po)}(j:hC w l #[.map (some c),.map (some a)] 176)
  (h:fI eS jG w c A)(i:A.Perm S.accs)(m:∀b,F b↔b=l\/b=c\/b=a)(f:l≠c/\l≠a/\c≠a)(p:Po)
  (n:e.Perm (S.putP p).poss)(d:(S.putP p).Ok)(k:fI gr mK w' a e)(g:bn (λb=>b=a) w w'):iw w' l F (S.putP p):=
 ⟨⟨c,a,A,e,g.keep j f.2.1,h.mod g f.2.2,k,i,n,m,f⟩,d⟩
def Kq{p:Po}(h:iw w l F S)(g:(S.putP p).Ok)
  (I:∀u,iw u l F (S.putP p)->bn F w u->K (.tuple #[]) u):Ca pQ 304 #[eK l,mK p] w K:=by
 obtain⟨⟨O,r,A,B,M,D,z,E,H,t,G⟩,N⟩:=h;unfold eK;refine cN Tryz.func304 ?_;simp[go_sem,mK];generalize k:World.alloc _ _=q;have a:M0 w q:=by subst k;exact nl.alloc _
 have i:hC q w.heap.size #[.int .u32 p.c,gU p.a,gI p.q,gI p.b] 124:=by subst k;simp[go_sem]
 have c:hC q (w.heap.size+1) #[.int .u32 p.c,gU p.a] 235:=by subst k;simp[go_sem]
 have f:=a.keep M id;refine dU.at (λs W=>s=(.bool p.isZ,())/\W=q) ?_ ?_
 ·simp[go_sem,cO i];unfold Po.isZ;by_cases L:p.q=0<;>by_cases j:p.b=0<;>simp[L,j]
 rintro _ W ⟨rfl,rfl⟩;refine qk ?_;intro _;have o:fI gr mK W.drew r B:=(z.mod a id).mod ((bn.refl (λ_=>False) W).drew) id;cases J:p.isZ with
 |true=>
  simp[go_sem,eK,cO f,cO c];refine Dr (enc:=gr) (ev:=mK) (x:=p.key) AR Pg (.inr ⟨r,rfl,o⟩) λn m C y=>?_;rcases m with⟨m,_⟩|⟨b,j,m⟩
  ·cases m
  cases j;have d:bn (λb=>b=r) W n:=(wl.trans (C.mono λb _ e=>by cases e;rfl))
  apply I n (iw.putP f (D.mod a id) E t G p (bq.del_poss z.1 H p J) g m d);exact(a.to).on d λb j=>.inl ((t b).2 (.inr (.inr j)))
 |false=>
  simp[go_sem,eK,cO f,cO i,cO c];refine kM (enc:=gr) (ev:=mK) (x:=p.key) (v:=p) AR Pg o λn m C y=>?_;have d:bn (λb=>b=r) W n:=wl.trans C;apply I n (iw.putP f (D.mod a id) E t G p (bq.put_poss z.1 H p J) g m d);exact(a.to).on d λb j=>.inl ((t b).2 (.inr (.inr j)))
end Go.Proofs
namespace Go.Proofs
open Go Go.Vc
def Ym{w:Wt_}{l:Nat}{F:NP_}{S:bq}{K:be}{a:Ac}(h:iw w l F S)(hn:0<=a.num/\a.num<4294967296)
  (g:∀G,iw G l F (S.set a).2->bn F w G->K (gI (S.set a).1) G):Ca pQ 145 #[eK l,jG a] w K:=by
 have Z:=h;obtain⟨⟨r,m2,A,B,M,o,R,J,h5,T,h7⟩,u⟩:=h;have U:=aJ M;have Y:=o.lt;have V:=R.lt;unfold eK;refine cN Tryz.func145 ?_;simp[go_sem,jG];generalize q:World.alloc _ _=C;have d:M0 w C:=by subst q;exact(bn.refl _ w).alloc _
 have c:hC C w.heap.size #[.int .u32 a.num,gI a.cash,.bool a.kil,.bool a.dfl] 100:=by subst q;simp[go_sem]
 have z:=d.keep M id;have L:=Z.mod d eI;have mF:bn F w C:=d.to;apply lZ L;simp[go_sem];unfold bq.set at g;have X:aY a.cash 0 1000000000000000=aY a.cash 0 MF:=rfl;refine dU.at (λs W=>s=(.bool (decide (aY a.cash 0 MF=false\/(a.num=0/\(a.kil=true\/a.dfl=true)))),())/\W=C) ?_ ?_
 ·simp[go_sem,cO c];apply pO;rw[X];cases n:aY a.cash 0 MF
  ·simp[go_sem]
  ·simp[go_sem,cO c];by_cases f:a.num=0
   ·grind
   ·simp[f]
 rintro _ W ⟨rfl,rfl⟩;refine qk ?_;intro _;by_cases n:aY a.cash 0 MF=false\/(a.num=0/\(a.kil=true\/a.dfl=true))
 ·rw[ab n]at g;simp only[aA n,bG,de];exact g _ L mF
 ·rw[aa n]at g;simp only[aG n,bG,bE,dB];have j:0<=a.cash/\a.cash<=MF:=eL.1 (by grind);have k:∀i,M0 W i->fI eS jG i r A:=λi m=>(o.mod d id).mod m id;simp[go_sem,eK,cO z,cO c];apply OI (enc:=eS) (ev:=jG) (x:=a.num) (jG ⟨0,0,false,false⟩) oQ kL YV (.inr ⟨r,rfl,k _ wl⟩);rw[sJ,iw.lkA o J];generalize H:(S.getO a.num).getD ⟨0,0,false,false⟩=x;have hsz:=aJ c;have y:w.heap.size≠W.heap.size:=qZ;have t:l≠W.heap.size:=qZ;simp[go_sem,jG,cO c,cO z,y,t]
  have hl:∀i,M0 W i->(jF 173 (.map (some r)) (gU a.num) true).run pQ i=.ok (.tuple #[jG x,.bool (S.getO a.num).isSome]) i:=λi m=>by
   have:=yG (P:=pQ) (enc:=eS) (ev:=jG) (x:=a.num) oQ kL YV (.inr ⟨r,rfl,k _ m⟩);rw[sJ,iw.lkA o J,H]at this;exact this
  refine⟨hl _ (nl.drew),?_⟩;generalize I:(World.alloc _ _).drew=O;have E:M0 W O:=by subst I;exact nl.drew
  have e:=d.trans E;by_cases D:S.getO a.num=none
  ·rw[ab D]at g|-;exact g _ (L.mod E eI) (e.to)
  ·rw[aa D]at g|-;refine kM (enc:=eS) (ev:=jG) (x:=a.num) (v:=a) oQ kL (k _ (E.drew)) λN hA m4 hs4=>?_;have p:bn (λb=>b=r) O N:=wl.trans m4;refine g N (iw.putA (a:=a) (e.keep M id) (o.mod e id) (R.mod e id) J h5 T h7 u ?_ ?_ hA p) ?_
   ·intro Q;have hk:¬(a.kil=true\/a.dfl=true):=λh=>n (.inr ⟨Q,h⟩);obtain⟨num,cash,kil,dfl⟩:=a;simp only[jX,Ac.mk.injEq,oe]at*;refine⟨Q,?_,?_⟩
    ·grind
    ·grind
   ·apply u.putA hn j;by_cases f:a.num=0
    ·exact .inr (.inr f)
    ·rw[sC f]at D;exact .inl D
   ·exact(e.to).on p λb H=>.inl ((T b).2 (.inr (.inl H)))
end Go.Proofs
namespace Go.Proofs
open Go Go.Vc
def x8{S:bq}{n:Int}(h:S.find n≠none):∃a∈S.all,a.num=n:=by
 obtain⟨x,b⟩:=Option.ne_none_iff_exists'.1 h;exact⟨x,bq.find_mem b⟩
def ac7:fj pQ 124 4 24=true:=cH
def Tk{w:Wt_}{l:Nat}{F:NP_}{S:bq}{K:be}{c b s p n:Int}(h:iw w l F S)(hc:0<=c/\c<4294967296)
  (u:∀w',iw w' l F (S.trade c b s p n).2->bn F w w' ->K (gI (S.trade c b s p n).1) w'):Ca pQ 273 #[eK l,gU c,gU b,gU s,gI p,gI n] w K:=by
 have h0:=h;obtain⟨⟨m1,m2,A,B,r,h2,h3,h4,h5,h6,h7⟩,E⟩:=h;have hlt:=aJ r;unfold eK;refine cN Tryz.func273 ?_;apply lZ h0;simp[go_sem];unfold bq.trade at u;have hMp:∀x:Int,aY x 1 10000000=aY x 1 MP:=λ_=>rfl;generalize I:(decide (c=0\/b=0\/s=0\/b=s\/aY p 1 MP=false\/aY n 1 MP=false))=cd;refine dU.at (λst W=>st=(.bool cd,())/\W=w) ?_ ?_
 ·subst I;by_cases J:c=0
  ·simp[J]
  ·by_cases L:b=0
   ·simp[J,L]
   ·by_cases e3:s=0
    ·simp[J,L,e3]
    ·by_cases e4:b=s
     ·simp[J,L,e3,e4]
     ·simp[J,L,e3,e4];apply pO;rw[hMp];cases aY p 1 MP
      ·simp[go_sem]
      ·simp[go_sem];apply pO;rw[hMp];simp[go_sem]
 rintro _ w ⟨rfl,rfl⟩;refine qk ?_;intro _;cases cd with
 |true=>
  rw[ab (bz I)]at u;simp;exact u _ h0 rC
 |false=>
  have k:=of_decide_eq_false I;rw[aa k]at u
  have hl:∀(x:Int) f,M0 w f->(jF 173 (.map (some m1)) (gU x) true).run pQ f=.ok (.tuple #[jG ((S.getO x).getD ⟨0,0,false,false⟩),.bool (S.getO x).isSome]) f:=λx f m=>by
   have:=yG (P:=pQ) (enc:=eS) (ev:=jG) (x:=x) oQ kL YV (.inr ⟨m1,rfl,h2.mod m id⟩);rw[sJ,iw.lkA h2 h4]at this;exact this
  simp[go_sem,eK,cO r];apply kI (hl b _ rC);simp[go_sem,jG,cO r,Yv hlt];generalize hw1:World.alloc _ _=w1;have m1' :M0 w w1:=by subst hw1;exact(bn.refl _ w).alloc _
  apply kI (hl s _ m1');simp[go_sem,jG];generalize hw2:World.alloc _ _=w2;have G:M0 w w2:=by subst hw2;exact m1'.alloc _
  have q2:=h0.mod G eI
  obtain⟨J,L,e3,e4,e5,e6⟩:c≠0/\b≠0/\s≠0/\b≠s/\aY p 1 MP=true/\aY n 1 MP=true:=by
   refine⟨λe=>k (.inl e),λe=>k (.inr (.inl e)),λe=>k (.inr (.inr (.inl e))),λe=>k (.inr (.inr (.inr (.inl e)))),?_,?_⟩
   ·grind
   ·grind
  rw[sC L,sC e3];refine dU.at (λst W=>st=(.bool (decide (S.find b=none\/S.find s=none)),())/\W=w2) ?_ ?_
  ·cases S.find b<;>cases S.find s<;>simp
  rintro _ w2 ⟨rfl,rfl⟩;refine qk ?_;intro _;by_cases g:S.find b=none\/S.find s=none
  ·rw[ab g]at u;simp only[aA g,bG,de];exact u _ q2 (G.to)
  ·rw[aa g]at u;simp only[aG g,bG,bE,dB];have N:S.find b≠none/\S.find s≠none:=⟨λh=>g (.inl h),λh=>g (.inr h)⟩
   refine um q2 λw3 m3=>?_;have q3:=q2.mod m3 eI;refine um q3 λw4 m4=>?_;have q4:=q3.mod m4 eI;have V:=(G.trans m3).trans m4;obtain⟨x1,x2,x3,x4,x5,x6⟩:=E.position c b;obtain⟨y1,y2,y3,y4,y5,y6⟩:=E.position c s;generalize S.position c b=x at*;generalize S.position c s=y at*;simp only at u;obtain⟨p1,p2⟩:=eL.1 e5;obtain⟨n1,n2⟩:=eL.1 e6;have hpn:=Km (x:=p) (y:=n) (m:=MP) (n:=MP) ⟨by grind,p2⟩ ⟨qZ,n2⟩;have hpn0:0<=p*n:=jg qZ qZ;generalize hpnv:p*n=j at*;simp only[MP,MF]at x3 x4 x5 x6 y3 y4 y5 y6 p2 n2 hpn;have wr1:IntKind.i64.wrap (x.q+n)=x.q+n:=by rw[cy];omega
   have wr2:IntKind.i64.wrap j=j:=by rw[cy];omega
   have wr3:IntKind.i64.wrap (x.b+j)=x.b+j:=by rw[cy];omega
   have wr4:IntKind.i64.wrap (y.q - n)=y.q - n:=by rw[cy];omega
   have wr5:IntKind.i64.wrap (y.b - j)=y.b - j:=by rw[cy];omega
   simp[go_sem,mK,hpnv,wr1,wr2,wr3,wr4,wr5,x1,x2,y1,y2];let X:Po:=⟨c,b,x.q+n,x.b+j⟩
   let Y:Po:=⟨c,s,y.q - n,y.b - j⟩
   generalize H:World.alloc _ _=M;have m5:M0 w4 M:=by subst H;exact nl.alloc _
   have hX:hC M w4.heap.size #[.int .u32 c,gU b,gI (x.q+n),gI (x.b+j)] 124:=by subst H;simp[go_sem]
   have hY:hC M (w4.heap.size+1) #[.int .u32 c,gU s,gI (y.q - n),gI (y.b - j)] 124:=by subst H;simp[go_sem]
   refine oE (e:=124) (sz:=4) [mK X,mK Y] cH (dG ac7) rfl rfl (by simp[mK,Value.cells]) (by decide) ?_;generalize R:World.alloc _ _=w6;have m6:M0 M w6:=by subst R;exact(bn.refl _ M).alloc _
   have hQ:hC w6 M.heap.size #[.int .u32 c,gU b,gI (x.q+n),gI (x.b+j),gU c,gU s,gI (y.q - n),gI (y.b - j)] 124:=by
    subst R;simp[go_sem,mK,Value.cells,X,Y]
   have q6:=(q4.mod m5 eI).mod m6 eI;have O:=(V.trans m5).trans m6;have hX6:=m6.keep hX id;have hY6:=m6.keep hY id;simp[go_sem];have hMF:∀z:Int,aY z (-1000000000000000) 1000000000000000=aY z (-MF) MF:=λ_=>rfl;have hMP:∀z:Int,aY z (-10000000) 10000000=aY z (-MP) MP:=λ_=>rfl;let a:Po->Bool:=λz=>aY z.q (-MP) MP&& aY z.b (-MF) MF
   refine zA (λst W=>∃(v:Vt_) (i:Nat),i<=2/\st=(v,gI i,())/\M0 w6 W/\(0<i->a X=true)/\(1<i->a Y=true))
    (λst _=>match st.2.1 with| .int _ i=>2 - i.toNat|_=>0) ⟨_,0,qZ,rfl,rC,qZ,qZ⟩ ?_
   rintro⟨sv,_⟩ W ⟨v,i,hi,⟨⟩,D,hi0,hi1⟩ KN U;refine rT ?_;intro _;have hQW:=D.keep hQ id;have qW:=q6.mod D eI
   have step:∀(Z:Po) (f:Wt_),(a Z=false->K (gI 6) f)->(a Z=true->KN (sv,gI ((i:Int)+1),()) f)->SN K (sv,gI (i:Int),()) KN (.bool (!a Z),()) f:=by
    intro Z f g hyes;unfold SN;intro _;cases t:a Z
    ·simp;exact g t
    ·have hw:IntKind.i64.wrap ((i:Int)+1)=(i:Int)+1:=by rw[cy];omega
     simp[go_sem,hw];exact hyes t
   have Q:a X=true↔¬(MP<X.q\/MF<X.b):=by
    simp only[a,ah,eL,MP,MF,X];omega
   have T:a Y=true↔¬(Y.q< -MP\/Y.b< -MF):=by
    simp only[a,ah,eL,MP,MF,Y];omega
   have mA:∀o,bn F w (W.alloc o):=λo=>((O.trans D).alloc o).to
   have fail:(MP<X.q\/Y.q< -MP\/MF<X.b\/Y.b< -MF)->∀f,iw f l F S->bn F w f->K (gI 6) f:=by
    intro h f hq' hm';have q:=u f;rw[ab h]at q;exact q hq' hm'
   rcases(show i=0\/i=1\/i=2 by omega)with rfl|rfl|rfl
   ·simp[go_sem,cO hQW];refine dU.at (λst f=>st=(.bool (!a X),())/\f=W.alloc (.cells (dR X).toArray 124)) ?_ ?_
    ·simp[go_sem];apply ib ⟨by grind,by grind⟩ qZ;rw[hMP];cases r:aY X.q (-MP) MP
     ·have d:=r;simp only[X]at d;simp[go_sem,d,a,r,dR,X]
     ·have d:=r;simp only[X]at d;simp[go_sem,d];apply ib ⟨by grind,by grind⟩ qZ;rw[hMF];simp[go_sem,a,d,dR,X]
    rintro _ f ⟨rfl,rfl⟩;refine step X _ (λt=>?_) (λt=>?_)
    ·refine fail ?_ _ (qW.mod nl eI) (mA _);have:¬a X=true:=by rw[t];simp
     rw[Q]at this;omega
    ·exact U _ _ ⟨sv,1,qZ,rfl,D.alloc _,λ_=>t,qZ⟩ (by simp)
   ·simp[go_sem,cO hQW];refine dU.at (λst f=>st=(.bool (!a Y),())/\f=W.alloc (.cells (dR Y).toArray 124)) ?_ ?_
    ·simp[go_sem];apply ib ⟨by grind,by grind⟩ qZ;rw[hMP];cases r:aY Y.q (-MP) MP
     ·have d:=r;simp only[Y]at d;simp[go_sem,d,a,r,dR,Y]
     ·have d:=r;simp only[Y]at d;simp[go_sem,d];apply ib ⟨by grind,by grind⟩ qZ;rw[hMF];simp[go_sem,a,d,dR,Y]
    rintro _ f ⟨rfl,rfl⟩;refine step Y _ (λt=>?_) (λt=>?_)
    ·refine fail ?_ _ (qW.mod nl eI) (mA _);have:¬a Y=true:=by rw[t];simp
     rw[T]at this;omega
    ·exact U _ _ ⟨sv,2,qZ,rfl,D.alloc _,λ_=>hi0 qZ,λ_=>t⟩ (by simp)
   ·have g1:=Q.1 (hi0 qZ);have g2:=T.1 (hi1 qZ);have C:¬(MP<X.q\/Y.q< -MP\/MF<X.b\/Y.b< -MF):=qZ;have q:=λf=>u f;simp only[X,Y]at C;simp only[aa C]at q;have hXW:=D.keep hX6 id;have hYW:=D.keep hY6 id;simp[go_sem,cO hXW];have okX:(S.putP X).Ok:=E.putP ⟨by grind,hc.2⟩ ⟨by simp only[X,MP];omega,by grind⟩ ⟨by simp only[X,MF];omega,by simp only[X,MF]at g1|-;omega⟩ (x8 N.1);have okY:((S.putP X).putP Y).Ok:=okX.putP ⟨by grind,hc.2⟩ ⟨by grind,by simp only[Y,MP];omega⟩ ⟨by grind,by simp only[Y,MF];omega⟩ (x8 (S:=S) N.2);refine Kq (p:=X) qW okX λw7 q7 m7=>?_;have hne:¬F (w4.heap.size+1):=λh=>by have:=h0.lt h;have:=V.size;omega
    have hY7:=m7.keep hYW hne;simp[go_sem,cO hY7];refine Kq (p:=Y) q7 okY λw8 q8 m8=>?_;exact q w8 q8 ((((O.trans D).to).trans m7).trans m8)
end Go.Proofs
