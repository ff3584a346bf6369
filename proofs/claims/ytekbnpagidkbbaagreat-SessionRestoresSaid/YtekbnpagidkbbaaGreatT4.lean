/- Part of a proof. -/
import Derived.MapKept
import Derived.ProofKit
import Derived.ChangeReads
import Derived.OpenShut
import Derived.Test.YtekbnpagidkbbaaGreatProg
import Derived.ChangeKeysEq
import Derived.Test.YtekbnpagidkbbaaGreatT3
set_option linter.all false
set_option maxRecDepth 100000
set_option maxHeartbeats 4000000
namespace Go.Vc
open Go Go.Vc
section
variable{κ ν:Type} [DecidableEq κ]
def lk:List (κ×ν)->κ->Option ν
 | [],_=>none
 |(a,b)::r,k=>if a=k then some b else lk r k
def put:List (κ×ν)->κ->ν->List (κ×ν)
 | [],k,v=>[(k,v)]
 |(a,b)::r,k,v=>if a=k then(k,v)::r else(a,b)::put r k v
def Aq:List (κ×ν)->κ->List (κ×ν)
 | [],_=>[]
 |(a,b)::r,k=>if a=k then r else(a,b)::Aq r k
def lL(L:List (κ×ν))(k j:κ)(v:ν):lk (put L k v) j=if k=j then some v else lk L j:=by
 induction L with
 |nil=>simp[put,lk]
 |cons p r c=>
  obtain⟨a,b⟩:=p;simp only[put];by_cases h:a=k
  ·subst h;rw[ab rfl];simp only[lk];split<;>rfl
  ·rw[aa h];simp only[lk,c];by_cases d:a=j
   ·grind
   ·grind
def ox{L:List (κ×ν)}{k:κ}(h:k ∉ L.map (·.1)):lk L k=none:=by
 induction L with
 |nil=>rfl
 |cons p r c=>
  obtain⟨a,b⟩:=p;simp only[aH,aq,lC]at h;simp only[lk];rw[aa (λe=>h.1 e.symm)];exact c h.2
def PB{L:List (κ×ν)}(c:(L.map (·.1)).Nodup)(k j:κ):lk (Aq L k) j=if k=j then none else lk L j:=by
 induction L with
 |nil=>simp[Aq,lk]
 |cons p r d=>
  obtain⟨a,b⟩:=p;simp only[aH,bO]at c;simp only[Aq];by_cases h:a=k
  ·subst h;rw[ab rfl];simp only[lk];split
   ·subst_vars;exact ox c.1
   ·rfl
  ·rw[aa h];simp only[lk,d c.2];by_cases e:a=j
   ·grind
   ·grind
def Rx(L:List (κ×ν))(k:κ)(v:ν):(put L k v).map (·.1)=if k∈L.map (·.1)then L.map (·.1)else L.map (·.1)++[k]:=by
 induction L with
 |nil=>simp[put]
 |cons p r c=>
  obtain⟨a,b⟩:=p;simp only[put];by_cases h:a=k
  ·subst h;simp
  ·grind
def Db{L:List (κ×ν)}(h:(L.map (·.1)).Nodup)(k:κ)(v:ν):((put L k v).map (·.1)).Nodup:=by
 rw[Rx];split
 ·exact h
 ·grind
def xW(L:List (κ×ν))(k:κ):(Aq L k).Sublist L:=by
 induction L with
 |nil=>exact cB _
 |cons p r c=>
  obtain⟨a,b⟩:=p;simp only[Aq];split
  ·grind
  ·exact c.cons_cons _
def NH{L:List (κ×ν)}(h:(L.map (·.1)).Nodup)(k:κ):((Aq L k).map (·.1)).Nodup:=h.sublist ((xW L k).map _)
def yy{L:List (κ×ν)}{k:κ}{v:ν}(h:lk L k=some v):(k,v)∈L:=by
 induction L with
 |nil=>cases h
 |cons q r c=>
  obtain⟨a,b⟩:=q;simp only[lk]at h;split at h
  ·grind
  ·grind
end
structure qb(P:Program)(k:TypeId){κ:Type} [DecidableEq κ](enc:κ->Value):Prop where
 check:∀(w:Wt_) (em:Bool) (x:κ),(Instr.checkKey em 10000 k (enc x)).run P w=.ok () w
 same:∀(w:Wt_) (x:κ) (es:List MapEntry) (ks:List κ),es.map (·.key)=ks.map enc->
  ((Instr.findKey k (enc x) es).run P w=.ok none w/\x ∉ ks)\/∃i v,(Instr.findKey k (enc x) es).run P w=.ok (some (i,v)) w/\(es[i]?).map (·.val)=some v/\ks[i]? =some x/\∀j,j<i->ks[j]? ≠some x
 stays:∀(w:Wt_) (x:κ),(Instr.keyThatStays (enc x) (enc x)).run P w=.ok (enc x) w
section
variable{P:Program}{k:TypeId}{κ:Type} [DecidableEq κ]{enc:κ->Value}
def zC(a:∀(w:Wt_) (x y:κ),(Op.equal k (enc x) (enc y)).run P w=.ok (decide (x=y)) w)(w:Wt_)(x:κ):
  ∀(es:List MapEntry) (ks:List κ) (o:Nat),es.map (·.key)=ks.map enc->
  ((Instr.findAsking k (enc x) es o).run P w=.ok none w/\x ∉ ks)\/∃i v,(Instr.findAsking k (enc x) es o).run P w=.ok (some (o+i,v)) w/\(es[i]?).map (·.val)=some v/\ks[i]? =some x/\∀j,j<i->ks[j]? ≠some x
 | [],ks,o,h=>by
  have:ks=[]:=by cases ks<;>simp_all
  subst this;exact .inl ⟨by simp[Instr.findAsking],by simp⟩
 |e::es,[],o,h=>by simp at h
 |e::es,y::ks,o,h=>by
  simp only[aH,kX]at h;obtain⟨d,g⟩:=h;by_cases b:x=y
  ·subst b;refine .inr ⟨0,e.val,?_,by simp,by simp,λj f=>absurd f (Nat.not_lt_zero _)⟩;simp[Instr.findAsking,d,a,Result.andThen]
  ·have p:(Instr.findAsking k (enc x) (e::es) o).run P w=(Instr.findAsking k (enc x) es (o+1)).run P w:=by
    simp[Instr.findAsking,d,a,Result.andThen,b]
   rcases zC a w x es ks (o+1) g with⟨m,c⟩|⟨i,v,m,c,l,n⟩
   ·grind
   ·refine .inr ⟨i+1,v,by grind,by simpa using c,by simpa using l,λj f=>?_⟩;cases j with
    |zero=>simp;exact λe=>b e.symm
    |succ j=>simpa using n j qZ
def qb.asking{d:TypeDesc}(c:P.underlying k=some d)(a:∀x y,Instr.sameNow d (enc x) (enc y)=none)
  (b:∀(w:Wt_) (x y:κ),(Op.equal k (enc x) (enc y)).run P w=.ok (decide (x=y)) w)
  (l:∀(w:Wt_) (i:Bool) (x:κ),(Instr.checkKey i 10000 k (enc x)).run P w=.ok () w)(hs:∀x,Instr.sameBits 10000 (enc x) (enc x)=true):qb P k enc where
 check:=l
 stays w x:=by simp[Instr.keyThatStays,hs]
 same w x es ks h:=by
  cases es with
  |nil=>
   have:ks=[]:=by cases ks<;>simp_all
   subst this;exact .inl ⟨by simp[Instr.findKey,aO c,Result.andThen,Instr.findNow],by simp⟩
  |cons e es=>
   cases ks with
   |nil=>simp at h
   |cons y ks=>
    have f:e.key=enc y:=by grind
    have g:Instr.findNow d (enc x) (e::es) 0=none:=by simp[Instr.findNow,f,a]
    have j:(Instr.findKey k (enc x) (e::es)).run P w=(Instr.findAsking k (enc x) (e::es)).run P w:=by
     simp[Instr.findKey,aO c,Result.andThen,g]
    rw[j];have:=zC b w x (e::es) (y::ks) 0 h;simpa using this
def HS{d:TypeDesc}(a:∀x y,Instr.sameNow d (enc x) (enc y)=some (decide (x=y)))(x:κ):
  ∀(es:List MapEntry) (ks:List κ) (o:Nat),es.map (·.key)=ks.map enc->
  (Instr.findNow d (enc x) es o=some none/\x ∉ ks)\/∃i v,Instr.findNow d (enc x) es o=some (some (o+i,v))/\(es[i]?).map (·.val)=some v/\ks[i]? =some x/\∀j,j<i->ks[j]? ≠some x
 | [],ks,o,h=>by
  have:ks=[]:=by cases ks<;>simp_all
  subst this;exact .inl ⟨by simp[Instr.findNow],by simp⟩
 |e::es,[],o,h=>by simp at h
 |e::es,y::ks,o,h=>by
  simp only[aH,kX]at h;obtain⟨f,l⟩:=h;by_cases b:x=y
  ·subst b;refine .inr ⟨0,e.val,?_,by simp,by simp,λj g=>absurd g (Nat.not_lt_zero _)⟩;simp[Instr.findNow,f,a]
  ·have q:Instr.findNow d (enc x) (e::es) o=Instr.findNow d (enc x) es (o+1):=by
    simp[Instr.findNow,f,a,b]
   rcases HS a x es ks (o+1) l with⟨n,c⟩|⟨i,v,n,c,m,p⟩
   ·grind
   ·refine .inr ⟨i+1,v,by grind,by simpa using c,by simpa using m,λj g=>?_⟩;cases j with
    |zero=>simp;exact λe=>b e.symm
    |succ j=>simpa using p j qZ
def qb.now{d:TypeDesc}(e:P.underlying k=some d)(a:∀x y,Instr.sameNow d (enc x) (enc y)=some (decide (x=y)))
  (g:∀(w:Wt_) (f:Bool) (x:κ),(Instr.checkKey f 10000 k (enc x)).run P w=.ok () w)(hs:∀x,Instr.sameBits 10000 (enc x) (enc x)=true):qb P k enc where
 check:=g
 stays w x:=by simp[Instr.keyThatStays,hs]
 same w x es ks h:=by
  rcases HS a x es ks 0 h with⟨c,b⟩|⟨i,v,c,b⟩
  ·exact .inl ⟨by simp[Instr.findKey,aO e,Result.andThen,c],b⟩
  ·exact .inr ⟨i,v,by simp[Instr.findKey,aO e,Result.andThen,c],b⟩
def qb.int{b:IntKind}(a:P.underlying k=some (.int b)):qb P k (λn:Int=>.int b n):=
 qb.now a (λx y=>by simp only[Instr.sameNow,de];congr 1) (λw c x=>by
  unfold Instr.checkKey;simp[aO a,Result.andThen]) (λx=>by simp[Instr.sameBits])
end
section
variable{P:Program}{k:TypeId}{κ ν:Type} [DecidableEq κ]{enc:κ->Value}{ev:ν->Value}
def fI(enc:κ->Value)(ev:ν->Value)(w:Wt_)(b:Nat)(L:List (κ×ν)):Prop:=
 (L.map (·.1)).Nodup/\∃es clock,w.heap[b]? =some (.map es clock)/\es.toList.map (λe=>(e.key,e.val))=L.map (λp=>(enc p.1,ev p.2))/\
  (∀x∈es.toList,x.born<clock)/\(es.toList.map (·.born)).Nodup
def fI.keep{w w' :Wt_}{b:Nat}{L:List (κ×ν)}(h:fI enc ev w b L)(e:w'.heap[b]? =w.heap[b]?):fI enc ev w' b L:=by
 obtain⟨f,es,a,c,d⟩:=h;exact⟨f,es,a,by rw[e];exact c,d⟩
def fI.lt{w:Wt_}{b:Nat}{L:List (κ×ν)}(h:fI enc ev w b L):b<w.heap.size:=by
 obtain⟨e,es,a,c,d⟩:=h;exact aJ c
def fI.mod{F:NP_}{w w' :Wt_}{b:Nat}{L:List (κ×ν)}(h:fI enc ev w b L)(a:bn F w w')(c:¬F b):fI enc ev w' b L:=
 h.keep (a.blk b h.lt c)
def fI.new(w:Wt_):fI enc ev (w.alloc (.map #[] 0)) w.heap.size ([]:List (κ×ν)):=
 ⟨by simp,#[],0,by rw[dZ,ab rfl],by simp,by simp,by simp⟩
def pU{es:List MapEntry}{L:List (κ×ν)}(h:es.map (λe=>(e.key,e.val))=L.map (λp=>(enc p.1,ev p.2))):es.map (·.key)=(L.map (·.1)).map enc:=by
 have:=dP (List.map Prod.fst) h;simp only[da]at this|-;exact this
def Z0{L:List (κ×ν)}{x:κ}{i:Nat}{p:κ×ν}(c:L[i]? =some p)(d:p.1=x)(f:∀j,j<i->(L.map (·.1))[j]? ≠some x):lk L x=some p.2:=by
 induction L generalizing i with
 |nil=>simp at c
 |cons q r g=>
  obtain⟨a,b⟩:=q;cases i with
  |zero=>
   simp only[List.getElem?_cons_zero,gD]at c;subst c;simp only at d;simp[lk,d]
  |succ i=>
   have:a≠x:=λe=>f 0 qZ (by simp[e]);simp only[lk,aa this];exact g (by simpa using c) (λj h=>by grind)
def Yx{L:List (κ×ν)}{x:κ}{v:ν}{i:Nat}(c:(L.map (·.1))[i]? =some x)(f:∀j,j<i->(L.map (·.1))[j]? ≠some x):put L x v=L.set i (x,v):=by
 induction L generalizing i with
 |nil=>simp at c
 |cons q r d=>
  obtain⟨a,b⟩:=q;cases i with
  |zero=>
   have:a=x:=by simpa using c
   simp[put,this]
  |succ i=>
   have:a≠x:=λe=>f 0 qZ (by simp[e]);simp only[put,aa this,List.set_cons_succ];rw[d (by simpa using c) (λj g=>by grind)]
def YQ{L:List (κ×ν)}{x:κ}{i:Nat}(c:(L.map (·.1))[i]? =some x)(f:∀j,j<i->(L.map (·.1))[j]? ≠some x):Aq L x=L.eraseIdx i:=by
 induction L generalizing i with
 |nil=>simp at c
 |cons q r d=>
  obtain⟨a,b⟩:=q;cases i with
  |zero=>
   have:a=x:=by simpa using c
   simp[Aq,this]
  |succ i=>
   have:a≠x:=λe=>f 0 qZ (by simp[e]);simp only[Aq,aa this,jz];rw[d (by simpa using c) (λj g=>by grind)]
def xy{L:List (κ×ν)}{x:κ}{v:ν}(h:x ∉ L.map (·.1)):put L x v=L++[(x,v)]:=by
 induction L with
 |nil=>rfl
 |cons q r c=>
  obtain⟨a,b⟩:=q;simp only[aH,aq,lC]at h;have d:¬a=x:=λe=>h.1 e.symm;simp only[put,aa d,c h.2,ej]
def Ig{L:List (κ×ν)}{x:κ}(h:x ∉ L.map (·.1)):Aq L x=L:=by
 induction L with
 |nil=>rfl
 |cons q r c=>
  obtain⟨a,b⟩:=q;simp only[aH,aq,lC]at h;have d:¬a=x:=λe=>h.1 e.symm;simp only[Aq,aa d,c h.2]
def nC{α β:Type}(f:α->β):∀(l:List α) (i:Nat),(l.eraseIdx i).map f=(l.map f).eraseIdx i
 | [],_=>rfl
 |_::_,0=>rfl
 |a::l,i+1=>by simp[nC f l i]
def jS(P:Program)(t:TypeId):Option Value:=(P.info? t).bind (·.zero)
def zo{t:TypeId}{z:Vt_}(h:jS P t=some z)(w:Wt_):(zeroValue t).run P w=.ok z w:=by
 unfold jS at h;cases a:P.info? t with
 |none=>simp[a]at h
 |some i=>simp[a]at h;simp[zeroValue,typeInfo,a,h]
def Ad(enc:κ->Value)(ev:ν->Value)(w:Wt_)(m:Vt_)(L:List (κ×ν)):Prop:=
 (m=.map none/\L=[])\/∃b,m=.map (some b)/\fI enc ev w b L
def mI{t e:TypeId}{w:Wt_}{m:Vt_}{L:List (κ×ν)}{x:κ}{ok:Bool}{z:Vt_}(f:P.underlying t=some (.map k e))(c:qb P k enc)
  (n:jS P e=some z)(y:Ad enc ev w m L):
  (Instr.lookup t m (enc x) ok).run P w=.ok (match lk L x with|some v=>if ok then .tuple #[ev v,.bool true]else ev v|none=>if ok then .tuple #[z,.bool false]else z) w:=by
 rcases y with⟨rfl,rfl⟩|⟨b,rfl,B,es,h,j,q,_⟩
 ·rcases c.same w x [] [] rfl with⟨d,_⟩|⟨i,v,_,a,_⟩
  ·simp[Instr.lookup,aO f,c.check,d,zo n,Result.andThen,lk]
  ·simp at a
 ·rcases c.same w x es.toList (L.map (·.1)) (pU q)with⟨d,a⟩|⟨i,v,d,a,o,r⟩
  ·simp[Instr.lookup,aO f,MapKept.run_getObj_map j,c.check,d,zo n,Result.andThen,ox a]
  ·have s:i<L.length:=by simpa using(aF.1 o).1
   have g:L[i]? =some L[i]:=ao s;have u:(L[i]).1=x:=by simpa [g]using o
   have A:v=ev (L[i]).2:=by
    have:=dP (λl=>(l[i]?).map Prod.snd) q;simp only[bY,g,Option.map_map,eA]at this;have p:(es.toList[i]?).map (·.val)=some (ev (L[i]).2):=by grind
    rw[a]at p;exact cM p
   simp[Instr.lookup,aO f,MapKept.run_getObj_map j,c.check,d,Result.andThen,Z0 g u r,A]
def wW{t e:TypeId}{w:Wt_}{K:be}{m:Vt_}{L:List (κ×ν)}{x:κ}(z:Vt_)(c:P.underlying t=some (.map k e))(b:qb P k enc)
  (d:jS P e=some z)(a:Ad enc ev w m L)(f:K ((lk L x).elim z ev) w):rx P (jF t m (enc x) false) w K:=
 kI (by unfold jF;exact mI c b d a) (by grind)
def wU{t e:TypeId}{w:Wt_}{K:be}{m:Vt_}{L:List (κ×ν)}{x:κ}(z:Vt_)(c:P.underlying t=some (.map k e))(b:qb P k enc)
  (d:jS P e=some z)(a:Ad enc ev w m L)(f:K (.tuple #[(lk L x).elim z ev,.bool (lk L x).isSome]) w):rx P (jF t m (enc x) true) w K:=
 kI (by unfold jF;exact mI c b d a) (by grind)
def Pn{t e:TypeId}{w:Wt_}{K:Value->Prop}{m:Vt_}{L:List (κ×ν)}{x:κ}(z:Vt_)(c:P.underlying t=some (.map k e))(b:qb P k enc)
  (d:jS P e=some z)(a:Ad enc ev w m L)(f:K ((lk L x).elim z ev)):IG P (jF t m (enc x) false) w K:=
 yW (by unfold jF;exact mI c b d a) (by grind)
def OI{t e:TypeId}{w:Wt_}{K:Value->Prop}{m:Vt_}{L:List (κ×ν)}{x:κ}(z:Vt_)(c:P.underlying t=some (.map k e))(b:qb P k enc)
  (d:jS P e=some z)(a:Ad enc ev w m L)(f:K (.tuple #[(lk L x).elim z ev,.bool (lk L x).isSome])):IG P (jF t m (enc x) true) w K:=
 yW (by unfold jF;exact mI c b d a) (by grind)
def OJ{es:List MapEntry}{L:List (κ×ν)}{i:Nat}{x:κ}{v:ν}{key val:Vt_}(h:es.map (λe=>(e.key,e.val))=L.map (λp=>(enc p.1,ev p.2)))(a:key=enc x)(b:val=ev v):
  (es.modify i λe=>{e with key:=key,val:=val}).map (λe=>(e.key,e.val))=(L.set i (x,v)).map (λp=>(enc p.1,ev p.2)):=by
 subst a b;apply jM;intro j;have f:=dP (λl=>l[j]?) h;simp only[bY]at f;simp only[bY,kD,List.getElem?_set];by_cases c:i=j
 ·subst c;simp only[de];have g:es.length=L.length:=by simpa using dP List.length h
  by_cases d:i<L.length
  ·grind
  ·grind
 ·grind
def CT{t e:TypeId}{w:Wt_}{b:Nat}{L:List (κ×ν)}{x:κ}{v:ν}(C:P.underlying t=some (.map k e))(p:qb P k enc)(G:fI enc ev w b L):
  ∃o,(Instr.mapUpdate t (.map (some b)) (enc x) (ev v)).run P w=.ok () (w.putObj b o)/\fI enc ev (w.putObj b o) b (put L x v):=by
 obtain⟨E,es,a,f,q,s,z⟩:=G;rcases p.same w x es.toList (L.map (·.1)) (pU q)with⟨r,B⟩|⟨i,u,r,B,A,F⟩
 ·refine⟨.map (es.push {key:=enc x,val:=ev v,born:=a}) (a+1),?_,Db E x v,_,_,by rw[dJ,ab rfl,f];rfl,?_,?_,?_⟩
  ·simp[Instr.mapUpdate,aO C,MapKept.run_getObj_map f,p.check,r,MapKept.run_setObj_map _ f,Result.andThen,World.putObj]
  ·simp[q,xy B]
  ·intro y m;simp only[Array.toList_push,aN,bX]at m;rcases m with m|rfl
   ·grind
   ·grind
  ·grind
 ·have h:(Option.map (λe=>e.key) es[i]?).getD (enc x)=enc x:=by
   have:=dP (λl=>l[i]?) (pU q);simp only[bY]at this A;rw[A]at this;rw[jT]at this;rw[this];rfl
  have c:(es.modify i λe=>{e with key:=enc x,val:=ev v}).toList=es.toList.modify i λe=>{e with key:=enc x,val:=ev v}:=by simp
  refine⟨.map (es.modify i λe=>{e with key:=enc x,val:=ev v}) a,?_,Db E x v,_,_,by rw[dJ,ab rfl,f];rfl,?_,?_,?_⟩
  ·simp[Instr.mapUpdate,aO C,MapKept.run_getObj_map f,p.check,r,MapKept.run_setObj_map _ f,Result.andThen,h,p.stays,World.putObj]
  ·rw[Yx A F,c];exact OJ q rfl rfl
  ·rw[c];intro y m;obtain⟨j,n⟩:=List.mem_iff_getElem?.1 m;rw[kD]at n;cases d:es.toList[j]? with
   |none=>simp[d]at n
   |some D=>
    rw[d]at n;replace n:(if i=j then _ else D)=y:=cM n;have:=s D (cP d);by_cases g:i=j
    ·grind
    ·grind
  ·rw[c]
   have:(es.toList.modify i λe=>{e with key:=enc x,val:=ev v}).map (·.born)=es.toList.map (·.born):=by
    apply jM;intro j;simp only[bY,kD];by_cases g:i=j
    ·grind
    ·simp[g]
   rw[this];exact z
def kM{t e:TypeId}{w:Wt_}{K:World->Prop}{b:Nat}{L:List (κ×ν)}{x:κ}{v:ν}(j:P.underlying t=some (.map k e))(d:qb P k enc)(c:fI enc ev w b L)
  (h:∀a,fI enc ev a b (put L x v)->bn (λi=>i=b) w a->a.heap.size=w.heap.size->K a):DD P (rP t (.map (some b)) (enc x) (ev v)) w K:=by
 obtain⟨o,g,f⟩:=CT (v:=v) (x:=x) j d c;exact Sh (by unfold rP;exact g) (h _ f ((bn.refl _ w).putObj (b:=b) (.inl (by simp)) _) (iW ..))
def Dr{t u e:TypeId}{w:Wt_}{K:be}{B:TypeId}{m:Vt_}{L:List (κ×ν)}{x:κ}(h:P.underlying t=some (.map k e))(f:qb P k enc)(A:Ad enc ev w m L)
  (n:∀d,Ad enc ev d m (Aq L x)->bn (λs=>m=.map (some s)) w d->d.heap.size=w.heap.size->K (.tuple #[]) d):rx P (te #[t,u] B [m,enc x]) w K:=by
 rcases A with⟨rfl,rfl⟩|⟨b,rfl,r,es,a,c,q,o,p⟩
 ·exact oM (.tuple #[]) w (by simp[te,Builtin.delete_,aO h,f.check,Result.andThen]) (n _ (.inl ⟨rfl,rfl⟩) rC rfl)
 ·rcases f.same w x es.toList (L.map (·.1)) (pU q)with⟨l,g⟩|⟨i,v,l,g,z,y⟩
  ·refine oM (.tuple #[]) (w.putObj b (.map es a)) (by simp[te,Builtin.delete_,aO h,MapKept.run_getObj_map c,f.check,l,MapKept.run_setObj_map _ c,Result.andThen,World.putObj])
    (n _ (.inr ⟨b,rfl,by rw[Ig g];exact r,es,a,by rw[dJ,ab rfl,c];rfl,by rw[Ig g];exact q,o,p⟩) ((bn.refl _ w).putObj (b:=b) (.inl (by simp)) _) (iW ..))
  ·have j:(es.eraseIdxIfInBounds i).toList=es.toList.eraseIdx i:=by simp
   refine oM (.tuple #[]) (w.putObj b (.map (es.eraseIdxIfInBounds i) a)) (by simp[te,Builtin.delete_,aO h,MapKept.run_getObj_map c,f.check,l,MapKept.run_setObj_map _ c,Result.andThen,World.putObj])
    (n _ (.inr ⟨b,rfl,NH r x,es.eraseIdxIfInBounds i,a,by rw[dJ,ab rfl,c];rfl,?_,?_,?_⟩) ((bn.refl _ w).putObj (b:=b) (.inl (by simp)) _) (iW ..))
   ·rw[YQ z y,j,nC,q,<-nC]
   ·grind
   ·grind
end
end Go.Vc
namespace Go.Vc
open Go Go.ChangeShapes Go.WideShapes Go.ChangeAt Go.RowKit
section
variable{H:Type}{enc:TypeId×Value->H}{P:Program}
def bn.same{W a:Wt_}(h:M0 W a){p:MemPlace}(hp:p.block<W.heap.size):W.sameAt a p:=by
 cases p with
 |cell b o=>exact World.cell?_of_block (w:=W) (h.blk b hp id)
 |map b=>exact h.blk b hp id
def bn.frame{W a:Wt_}(h:M0 W a)(may:MemPlace->Prop):W.keptBut a may:=by
 refine⟨h.os,h.out,λi b=>?_⟩;rw[h.blk i b id];split<;>simp_all
def vC{W j:Wt_}(hl:laidOutB P=true)(i:M0 W j):∀{e:List TypeId} {vs:LV_} {ds:List (DataW H)} {a:List MemPlace},
  (∀t∈e,P.readableRec t=true/\t<P.types.size)->(∀x∈a,x.block<W.heap.size)->DataW.TrodAll enc P W 0 (λ_=>true) true e vs ds a->
  DataW.TrodAll enc P j 0 (λb=>decide (b<W.heap.size)) true e vs ds a
 | [],[],[],_,_,_,h=>h
 |t::e,v::vs,d::ds,a,f,hp,⟨p,q,l,k,m⟩=>by
  subst m;refine⟨p,q,?_,vC hl i (λt h=>f t (ae _ h)) (λx c=>hp x (er _ c)) k,rfl⟩;have g:=f t ai;exact WideElems.Trod_stays hl g.1 g.2 l (λx c=>i.same (hp x (cD _ c))) (λx c=>by grind)
def Iy{f:Func}{s:ChangeSpec}{fresh a:Bool}{W v:Wt_}{b:Array Value}{ds m:List (DataW H)}{c:List MemPlace}{n:TypeId}
  (hl:laidOutB P=true)(w:(f.params.toList.all λt=>P.readableRec t&& Nat.blt t P.types.size)=true)(r:s.vars=[])
  (l:DataW.Whole enc P f.params.toList s.vars false W b.toList ds m c)(o:M0 W v)
  (g:f.resultTypes= #[n])(k:P.underlying n=some .bool)(d:s.fn H (ds++m)={results:=[.lit (.bool true)],args:=ds}):
  s.post enc P f false fresh a false W b (.bool true) v:=by
 have e:=l;obtain⟨p,q,y,u,rfl,B,z⟩:=l;rw[r]at u;obtain⟨rfl,rfl⟩:=trodVars_none u
 have j:∀t∈f.params.toList,P.readableRec t=true/\t<P.types.size:=λt h=>by
  have:=aW.1 w t h;simp only[ah,lB]at this;exact this
 have i:=e.lt;refine⟨ds,[],p++[],[],p,[],e,?_,?_,?_,o.frame _,λh=>by cases h⟩
 ·rw[d,g];exact trodAll_cons_mk (shut_bool k true) trodAll_mk0
 ·rw[d];exact vC hl o j (λx A=>i x (by simpa using A)) y
 ·rw[r,d];rfl
def Jy{w:Wt_}{a:Addr}{v:Vt_}(h:w.cell? a=some v):a.spot=none/\∃C e c,w.heap[a.block]? =some (.cells C e c)/\C[a.off]? =some v:=by
 unfold World.cell? at h;cases b:w.heap[a.block]? with
 |none=>rw[b]at h;cases h
 |some o=>
  rw[b]at h;cases o<;>simp at h
  obtain⟨d,f⟩:=h;exact⟨d,_,_,_,rfl,f⟩
def zy{w:Wt_}{a:Addr}{n cap sz:Nat}{cs:LV_}(s:n<=cap)(hl:cs.length=n*sz)(d:∀i v,cs[i]? =some v->w.cell? (a.add i)=some v)(q:0<sz):Rd w sz (.slice (some a) n cap) n cs:=by
 by_cases m:n=0
 ·subst m;exact⟨hl,.inl ⟨rfl,_,_,rfl⟩⟩
 have f:0<cs.length:=by rw[hl];exact Nat.mul_pos qZ q
 obtain⟨b,c,j⟩:=a;obtain⟨g,C,e,o,hC,-⟩:=Jy (by have:=d 0 _ (ao f);simpa [Addr.add]using this);simp only at g hC;subst g
 have h:∀i v,cs[i]? =some v->C[c+i]? =some v:=by
  intro i v l;have k:=d i v l;have r:(Addr.add ⟨b,c,none⟩ i)=⟨b,c+i,none⟩:=bQ b c i;rw[r]at k;simpa [World.cell?,hC]using k
 have p:c+(cs.length - 1)<C.size:=(iT.1 (h (cs.length - 1) _ (ao qZ))).1;refine⟨hl,.inr ⟨b,c,cap,rfl,s,C,e,o,hC,qZ,?_⟩⟩;apply jM;intro i;rw[eB];by_cases l:i<cs.length
 ·grind
 ·grind
def LY{t e:TypeId}{k:IntKind}{w:Wt_}{f:Nat}{c:Nat->Bool}{held:Bool}{g:Nat}{cs:LV_}{x:DataW H×List MemPlace}
  (q:P.underlying t=some (.slice e))(y:P.underlying e=some (.int k))(z:P.cellsOf e=1)(o:DataW.trod enc P w f c held g t cs=some x):
  ∃v,cs=[v]/\∃b:List Int,Rd w 1 v b.length (b.map λn=>.int k n)/\∀n∈b,(Lit.int k n).wf=true:=by
 rcases open_ints q y z o with⟨rfl,-⟩|⟨a,len,r,b,rfl,-,l,-,s,-,d,h⟩
 ·exact⟨_,rfl,[],⟨rfl,.inl ⟨rfl,_,_,rfl⟩⟩,by simp⟩
 ·have p:len<=b.length:=by rw[s];split<;>omega
  refine⟨_,rfl,b.take len,?_,λn u=>h n (bm u)⟩;have e:(b.take len).length=len:=by simp;omega
  rw[e];refine zy l (by simp;omega) (λi v m=>?_) qZ
  have j:i<len:=by
   have:=(aF.1 m).1;simp at this;omega
  rw[d i qZ,<-m];simp[bY,eB,j,show i<b.length by omega,List.getD]
def LR{t e:TypeId}{k:IntKind}{r:Reach}{l:Nat}{w:Wt_}{v:Vt_}{d:DataW H}{j:List MemPlace}(c:P.underlying t=some (.slice e))(m:P.underlying e=some (.int k))(o:P.cellsOf e=1)
  (a:Value.okWide P w r l t v)(b:DataW.Trod enc P w 0 (λ_=>true) true t v d j):
  ∃f:List Int,Rd w 1 v f.length (f.map λn=>.int k n)/\∀n∈f,(Lit.int k n).wf=true:=by
 have g:v.cells.toList=[v]:=by
  unfold Value.okWide at a;rw[c]at a;simp only[Cell.okWide,c]at a;unfold Cell.ok at a;rw[c]at a;cases v<;>first|rfl|exact a.elim
 obtain⟨i,b⟩:=b;rw[g]at b;obtain⟨p,e,h⟩:=LY c m o b;cases e;exact h
def Bs{zs:List Int}(h:∀n∈zs,(Lit.int .u8 n).wf=true):bv (zs.map λn=>UInt8.ofNat n.toNat)=zs.map λn=>gB n:=by
 simp only[bv,da];refine dN λn b=>?_;have a:=h n b;simp[Lit.wf,IntKind.min,IntKind.max,IntKind.signed,IntKind.bits]at a;simp only[Function.comp,Value.int.injEq,oe];simp;omega
def P8{t e:TypeId}{w:Wt_}{b:Nat}{a:Nat->Bool}{held:Bool}{c:Nat}{cs:LV_}{x:DataW H×List MemPlace}
  (g:P.underlying t=some (.slice e))(j:P.underlying e=some (.int .u8))(k:P.cellsOf e=1)(d:DataW.trod enc P w b a held c t cs=some x):
  ∃v,cs=[v]/\∃l:List UInt8,Rd w 1 v l.length (bv l):=by
 obtain⟨v,e,h,i,f⟩:=LY g j k d;refine⟨v,e,h.map λn=>UInt8.ofNat n.toNat,?_⟩;rw[Bs f,af];exact i
def U2{t e:TypeId}{r:Reach}{i:Nat}{w:Wt_}{v:Vt_}{d:DataW H}{h:List MemPlace}(f:P.underlying t=some (.slice e))(k:P.underlying e=some (.int .u8))(m:P.cellsOf e=1)
  (a:Value.okWide P w r i t v)(b:DataW.Trod enc P w 0 (λ_=>true) true t v d h):
  ∃l:List UInt8,Rd w 1 v l.length (bv l):=by
 obtain⟨g,j,c⟩:=LR f k m a b;refine⟨g.map λn=>UInt8.ofNat n.toNat,?_⟩;rw[Bs c,af];exact j
end
section
variable{H:Type}{enc:TypeId×Value->H}{P:Program}{w:Wt_}{base:Nat}{spare:Nat->Bool}{held:Bool}
def Wt(P:Program)(B:Nat)(t:TypeId)(d:DataW H):Prop:=∀m∈d.weights P t,m<=B
def uf{e:TypeId}:∀{l:List (DataW H)} {d:DataW H},d∈l->∀m∈d.weights P e,m∈DataW.weightsAll P e l
 |a::l,d,b,m,c=>by
  simp only[DataW.weightsAll,aN];rcases aq.1 b with rfl|b
  ·exact .inl c
  ·exact .inr (uf b m c)
def Wt.slice{t e:TypeId}{B:Nat}{l r:List (DataW H)}(c:P.underlying t=some (.slice e))(h:Wt P B t (.slice l r)):(l.length+r.length)*P.bytesOf e<=B/\∀d∈l,Wt P B e d:=by
 unfold Wt at h;simp only[DataW.weights,c,aq,aN]at h;exact⟨h _ (.inl rfl),λd a m b=>h m (.inr (.inl (uf a m b)))⟩
def Vs{t e:TypeId}{sz:Nat}{o:Nat}{cs:LV_}{x:DataW H×List MemPlace}(I:P.underlying t=some (.slice e))(hc:P.cellsOf e=sz)(E:0<sz)
  {B:Nat}(O:DataW.trod enc P w base spare held o t cs=some x)(hB:Wt P B t x.1):
  ∃v,cs=[v]/\∃L:List (List Value),Rd w sz v L.length L.flatten/\L.length*P.bytesOf e<=B/\∀c∈L,c.length=sz/\∃X y,DataW.trod enc P w base spare held X e c=some y/\Wt P B e y.1:=by
 rcases DataW.trod_slice I O with⟨rfl,-⟩|⟨a,len,Q,A,rest,n,hf,rfl,rfl,hb,V,hm,N,C,Z,T⟩
 ·exact⟨_,rfl,[],⟨by simp,.inl ⟨rfl,_,_,rfl⟩⟩,by simp,by simp⟩
 ·obtain⟨z,F⟩:=hB.slice I
  have m:∀i,i<len->∃c,w.cells? base (a.add (i*sz)) sz=some c/\∃y,DataW.trod enc P w base spare held n e c=some y/\Wt P B e y.1:=by
   intro i b;have j:=C i b;rw[ao qZ,hc,Option.bind_eq_some_iff]at j;obtain⟨c,g,r⟩:=j;exact⟨c,g,_,r,F _ (aD.2 ⟨_,ar _,rfl⟩)⟩
  have R:∀k,k<=len->∃L:List (List Value),L.length=k/\∀i (b:i<L.length),w.cells? base (a.add (i*sz)) sz=some L[i]/\∃y,DataW.trod enc P w base spare held n e L[i]=some y/\Wt P B e y.1:=by
   intro k;induction k with
   |zero=>exact λ_=>⟨[],rfl,λi b=>by simp at b⟩
   |succ k p=>
    intro hk;obtain⟨L,j,g⟩:=p qZ;obtain⟨c,r,J⟩:=m k qZ;refine⟨L++[c],by simp[j],λi b=>?_⟩;by_cases S:i<L.length
    ·grind
    ·grind
  obtain⟨L,j,g⟩:=R len (aB _)
  have d:∀c∈L,c.length=sz:=by
   intro c f;obtain⟨i,b,rfl⟩:=bI f;exact(World.cells?_some (g i b).1).2.1
  have W:∀(M:List (List Value)),(∀c∈M,c.length=sz)->M.flatten.length=M.length*sz:=by
   intro M;induction M with
   |nil=>intro _;simp
   |cons c M p=>
    intro l;rw[List.flatten_cons,ad,p λc h=>l c (ae _ h),l c ai,aR,nH,nK]
  have q:∀(M:List (List Value)),(∀c∈M,c.length=sz)->∀i v,M.flatten[i]? =some v->∃h:i / sz<M.length,M[i / sz][i%sz]? =some v:=by
   intro M;induction M with
   |nil=>intro _ i v h;simp at h
   |cons c M p=>
    intro l i v h;have G:=l c ai;rw[List.flatten_cons]at h;by_cases b:i<sz
    ·rw[bP qZ]at h;rw[Nat.div_eq_of_lt b,nj b];exact⟨by simp,by simpa using h⟩
    ·rw[bf qZ,G]at h;obtain⟨j,g⟩:=p (λc h=>l c (ae _ h)) (i - sz) v h
     have s:i / sz=(i - sz) / sz+1:=by
      rw[Nat.div_eq_sub_div E qZ]
     have D:i%sz=(i - sz)%sz:=by
      rw[Nat.mod_eq_sub_mod qZ]
     refine⟨by grind,?_⟩;simp only[s,D,io];exact g
  refine⟨_,rfl,L,?_,bK (cz _ (by simp;omega)) z,λc f=>⟨d c f,?_⟩⟩
  ·rw[j];refine zy V (by grind) (λi v b=>?_) E;obtain⟨r,J⟩:=q L d i v b;obtain⟨h5,Y⟩:=World.cells?_some (g _ r).1 |>.2
   have u:=fV i E;have K:=Y (i%sz) u
   have e:((a.add (i / sz*sz)).add (i%sz))=a.add i:=by
    have U:i / sz*sz+i%sz=i:=by rw[eb];exact lm i sz
    conv=>rhs;rw[<-U]
    simp only[Addr.add];by_cases s:i / sz*sz=0
    ·simp[s]
    ·by_cases D:i%sz=0
     ·simp[D,s]
     ·grind
   rw[e]at K;rw[K];exact J
  ·obtain⟨i,b,rfl⟩:=bI f;exact⟨n,(g i b).2⟩
end
end Go.Vc
namespace Go.Proofs
open Go Go.Vc
noncomputable abbrev pQ:=Tryz.prog
def Tryz.noNum:tV Tryz.prog=true:=cH
end Go.Proofs
namespace Go.Vc
open Go Go.Vc
structure Bt(P:Program)(gv:Vt_)(xs:List (List Value))(Ok:World->Prop):Prop where
 out:∃f first captured,gv=.func (.func f) first captured/\∀(y:Vt_) (J:(Nat->Prop)->Nat->World->Prop) (Js:World->Prop) (W:Wt_) (K:be),Ok W->
  (∀Q W1,M0 W W1->(∀b,Q b->W.heap.size<=b/\b<W1.heap.size)->J Q 0 W1)->
  (∀Q i W W',J Q i W->M0 W W' ->J Q i W')->
  (∀Q i x W,xs[i]? =some x->J Q i W->∀K' :be,(∀W',J Q (i+1) W' ->(∀b,Q b->W'.heap[b]? =W.heap[b]?)->K' (.bool true) W')->(∀W',Js W' ->K' (.bool false) W')->om P y x W K')->
  (∀Q W,J Q xs.length W->K (.tuple #[]) W)->(∀W,Js W->K (.tuple #[]) W)->Ca P f ⟨first.toList++(y::captured.toList)⟩ W K
def pu{l:Nat}{W:Wt_}{K:World->Prop}{r:Loop}(h:W.heap[l]? =some (.loop r))(hs:r.state=.ready)(a:K (W.putObj l (.loop {r with state:=.busy}))):qr l W K:=
 ⟨⟨r,h,hs,a⟩⟩
section
variable{P:Program}{gv:Vt_}{w1:Wt_}{np:Nat}{rnd:Nat->List Value->World->(World->Prop)->(Code->World->Prop)->Prop}{after:List Nat->Option Code->World->Prop}
 {xs:List (List Value)}{Ok:World->Prop}
def Uf{f:FuncId}{first e:Array Value}{mk:List Nat}
  (B:∀(y:Vt_) (J:(Nat->Prop)->Nat->World->Prop) (V:World->Prop) (W:Wt_) (K:be),Ok W->
   (∀Q z,M0 W z->(∀b,Q b->W.heap.size<=b/\b<z.heap.size)->J Q 0 z)->
   (∀Q i W a,J Q i W->M0 W a->J Q i a)->
   (∀Q i x W,xs[i]? =some x->J Q i W->∀u:be,(∀a,J Q (i+1) a->(∀b,Q b->a.heap[b]? =W.heap[b]?)->u (.bool true) a)->(∀a,V a->u (.bool false) a)->om P y x W u)->
   (∀Q W,J Q xs.length W->K (.tuple #[]) W)->(∀W,V W->K (.tuple #[]) W)->Ca P f ⟨first.toList++(y::e.toList)⟩ W K)
  (O:∀x∈xs,x.length=np)(J:(Nat->Prop)->Nat->World->Prop)(I:Code->World->Prop)
  (N:∀o,Ok (w1.alloc (.loop o)))
  (Y:∀o Q W,M0 (w1.alloc (.loop o)) W->(∀b,Q b->w1.heap.size<b/\b<W.heap.size)->J Q 0 W)
  (l:∀Q i W a,J Q i W->bn (λb=>b=w1.heap.size) W a->J Q i a)
  (q:∀Q i x W r,xs[i]? =some x->J Q i W->W.heap[w1.heap.size]? =some (.loop r)->r.state=.ready->∀R S,
   (∀a,J Q (i+1) a->a.heap[w1.heap.size]? =some (.loop {r with state:=.busy})->(∀b,Q b->a.heap[b]? =W.heap[b]?)->R a)->
   (∀c a,I c a->a.heap[w1.heap.size]? =some (.loop {r with state:=.busy})->S c a)->rnd w1.heap.size x W R S)
  (v:∀Q W o,J Q xs.length W->after mk none (W.putObj w1.heap.size (.loop o)))
  (s:∀c W o,I c W->after mk (some c) (W.putObj w1.heap.size (.loop o)))
  (d:Loop)(g:d.state=.ready)(j:d.pending=none)
  (hY:∀(h:LV_) (W:Wt_) (K:be),h.length=np->QK W w1.heap.size d->
    rnd w1.heap.size h W
     (λa=>∃r,sM a w1.heap.size r/\K (.bool true) (a.putObj w1.heap.size (.loop {r with state:=.ready,pending:=none})))
     (λc a=>∃r,sM a w1.heap.size r/\K (.bool false) (a.putObj w1.heap.size (.loop {r with state:=.done,pending:=some c})))->
    Yl P w1.heap.size ⟨h⟩ W K):
  Ca P f ⟨first.toList++(.func (.yield w1.heap.size) #[] #[]::e.toList)⟩ (w1.alloc (.loop d)) λ_ W=>
    ∃r,sM W w1.heap.size r/\r.state≠ .busy/\after mk r.pending (W.putObj w1.heap.size (.loop {r with state:=.exhausted})):=by
 have D:∀(W:Wt_) (o:Obj),bn (λb=>b=w1.heap.size) W (W.putObj w1.heap.size o):=λW o=>(bn.refl _ W).putObj (b:=w1.heap.size) (.inl (by simp)) o;have n:(w1.alloc (.loop d)).heap[w1.heap.size]? =some (.loop d):=by rw[dZ,ab rfl]
 have T:(w1.alloc (.loop d)).heap.size=w1.heap.size+1:=ci ..
 refine B _ (λQ i W=>J Q i W/\W.heap[w1.heap.size]? =some (.loop d)/\∀b,Q b->w1.heap.size<b)
  (λW=>∃c r t,I c t/\W=t.putObj w1.heap.size (.loop r)/\W.heap[w1.heap.size]? =some (.loop r)/\r.state=.done/\r.pending=some c) _ _ (N d) ?_ ?_ ?_ ?_ ?_
 ·intro Q z C w;refine⟨Y d Q z C λb E=>⟨?_,(w b E).2⟩,C.keep n id,λb E=>?_⟩
  ·grind
  ·grind
 ·rintro Q i W a ⟨A,m,w⟩ C;exact⟨l Q i W a A (C.mono λ_ _ hf=>hf.elim),C.keep m id,w⟩
 ·rintro Q i x W U ⟨A,m,w⟩ u hT hF;apply jf.2;show Yl P w1.heap.size ⟨_⟩ W u;have F:x.length=np:=O x (cP U);have e1:(#[]:Array Value).toList++x=x:=rfl;rw[e1];apply hY x W u F ⟨d.state,d.pending,m⟩;refine q Q i x W d U A m g _ _ ?_ ?_
  ·intro a G k Z;refine⟨_,k,hT _ ⟨l _ _ _ _ G (D _ _),?_,w⟩ λb E=>?_⟩
   ·rw[dJ,ab rfl,k];simp[<-g,<-j]
   ·rw[dJ,aa (by grind)];exact Z b E
  ·intro c a p k;refine⟨_,k,hF _ ⟨c,{d with state:=.done,pending:=some c},a,p,rfl,?_,rfl,rfl⟩⟩;rw[dJ,ab rfl,k];rfl
 ·rintro Q W ⟨A,m,_⟩;refine⟨d,m,by rw[g];decide,?_⟩;rw[j];exact v Q W _ A
 ·rintro W ⟨c,r,t,p,rfl,m,L,H⟩;refine⟨r,m,by rw[L];decide,?_⟩
  have X:∀o M:Obj,(t.putObj w1.heap.size o).putObj w1.heap.size M=t.putObj w1.heap.size M:=λo M=>by
   simp[World.putObj]
  rw[X,H];exact s c t _ p
def Ih{w:Wt_}(hit:Bt P gv xs Ok)(l:∀x∈xs,x.length=np)(J:(Nat->Prop)->Nat->World->Prop)(k:Code->World->Prop)
  (q:∀o,Ok ((w.alloc (.deferred (some []))).alloc (.loop o)))
  (z:∀o Q W,M0 ((w.alloc (.deferred (some []))).alloc (.loop o)) W->(∀b,Q b->w.heap.size+1<b/\b<W.heap.size)->J Q 0 W)
  (u:∀Q i W a,J Q i W->bn (λb=>b=w.heap.size+1) W a->J Q i a)
  (n:∀Q i x W r,xs[i]? =some x->J Q i W->W.heap[w.heap.size+1]? =some (.loop r)->r.state=.ready->∀s v,
   (∀a,J Q (i+1) a->a.heap[w.heap.size+1]? =some (.loop {r with state:=.busy})->(∀b,Q b->a.heap[b]? =W.heap[b]?)->s a)->
   (∀c a,k c a->a.heap[w.heap.size+1]? =some (.loop {r with state:=.busy})->v c a)->rnd (w.heap.size+1) x W s v)
  (t:∀Q W o,J Q xs.length W->after [w.heap.size] none (W.putObj (w.heap.size+1) (.loop o)))
  (p:∀c W o,k c W->after [w.heap.size] (some c) (W.putObj (w.heap.size+1) (.loop o))):
  HD P none gv w np rnd after:=by
 obtain⟨f,first,g,rfl,h⟩:=hit.out;apply rG.2;show∀j:Loop,_;intro j d e A y;have m:(w.alloc (.deferred (some []))).heap.size=w.heap.size+1:=ci ..;refine Uf (w1:=w.alloc (.deferred (some []))) h l J k q ?_ ?_ ?_ ?_ ?_ j d e y
 all_goals rw[m]
 all_goals assumption
end
end Go.Vc
namespace Go.Vc
open Go Go.Vc
variable {sz n:Nat}{P:Program}{s:Sem Value}{e t:TypeId}{v:Vt_}{w w' :Wt_}{K:be}
def K8{C xs a:LV_}{o:Nat}(h:o+xs.length+a.length<=C.length):ji (ji C o xs) (o+xs.length) a=ji C o (xs++a):=by
 unfold ji
 have c:(C.take o++xs++C.drop (o+xs.length)).take (o+xs.length)=C.take o++xs:=by
  rw[aP (by simp;omega),ay (by simp;omega)]
 have b:(C.take o++xs++C.drop (o+xs.length)).drop (o+xs.length+a.length)=C.drop (o+(xs++a).length):=by
  rw[nf,List.drop_eq_nil_of_le (by simp;omega),cX,cw];congr 1;simp;omega
 rw[c,b];simp[ag]
section
variable{P:Program}{k:TypeId}{κ ν:Type}{enc:κ->Value}{ev:ν->Value}
def kR(enc:κ->Value)(ev:ν->Value)(w:Wt_)(it m:Nat)(rest:List (κ×ν)):Prop:=
 ∃es clock seen,w.heap[m]? =some (.map es clock)/\w.heap[it]? =some (.mapIter (some m) clock seen clock)/\(∀x∈es.toList,x.born<clock)/\(es.toList.map (·.born)).Nodup/\
  (es.toList.filter λe=> !seen.contains e.born).map (λe=>(e.key,e.val))=rest.map (λp=>(enc p.1,ev p.2))
def kR.keep{w w' :Wt_}{it m:Nat}{rest:List (κ×ν)}(h:kR enc ev w it m rest)(e:w'.heap[m]? =w.heap[m]?)(c:w'.heap[it]? =w.heap[it]?):kR enc ev w' it m rest:=by
 obtain⟨es,a,seen,b,f,d⟩:=h;exact⟨es,a,seen,by rw[e];exact b,by rw[c];exact f,d⟩
def kR.lt{w:Wt_}{it m:Nat}{rest:List (κ×ν)}(h:kR enc ev w it m rest):m<w.heap.size/\it<w.heap.size:=by
 obtain⟨es,a,seen,b,c,d⟩:=h;exact⟨aJ b,aJ c⟩
def kR.mod{F:NP_}{w w' :Wt_}{it m:Nat}{rest:List (κ×ν)}(h:kR enc ev w it m rest)(a:bn F w w')(c:¬F m)(b:¬F it):kR enc ev w' it m rest:=
 h.keep (a.blk m h.lt.1 c) (a.blk it h.lt.2 b)
def ri(it m:Nat)(w:Wt_):Nat:=
 match w.heap[it]?,w.heap[m]? with
 |some (.mapIter _ _ seen _),some (.map es _)=>(es.toList.filter λe=> !seen.contains e.born).length
 |_,_=>0
def kR.left{w:Wt_}{it m:Nat}{rest:List (κ×ν)}(h:kR enc ev w it m rest):ri it m w=rest.length:=by
 obtain⟨es,a,seen,b,d,_,_,c⟩:=h;unfold ri;rw[b,d];simpa using dP List.length c
def sQ [DecidableEq κ]{t e:TypeId}{w:Wt_}{K:be}{b:Nat}{L:List (κ×ν)}(l:P.underlying t=some (.map k e))(h:fI enc ev w b L)
  (j:∀d,kR enc ev d w.heap.size b L->M0 w d->K (cU w.heap.size 0) d):rx P (Bf t (.map (some b))) w K:=by
 obtain⟨m,es,a,g,i,c,f⟩:=h;refine oM (cU w.heap.size 0) (w.alloc (.mapIter (some b) a #[] a)) ?_ (j _ ⟨es,a,#[],?_,?_,c,f,?_⟩ nl)
 ·simp[Bf,Instr.range,aO l,MapKept.run_getObj_map g,Result.andThen]
 ·rw[dZ,aa (by grind)];exact g
 ·rw[dZ,ab rfl]
 ·rw[<-i];congr 1;exact cC.2 λ_ _=>by simp
def qq{w:Wt_}{r:Nat}{m:Option Nat}{a:Nat}{s:Array Nat}{c:Nat}(b:w.heap[r]? =some (.mapIter m a s c)):(getObj r).run P w=.ok (.mapIter m a s c) w:=by
 simp[getObj,Sem.run,b]
def Ah{w:Wt_}{r:Nat}{m:Option Nat}{a:Nat}{s:Array Nat}{c:Nat}(o:Obj)(b:w.heap[r]? =some (.mapIter m a s c)):(setObj r o).run P w=.ok () (w.putObj r o):=by
 simp[setObj,Sem.run,b,World.putObj]
def yz(enc:κ->Value)(ev:ν->Value)(w:Wt_)(it m:Nat)(p:κ×ν):Prop:=
 ∃es clock since seen stamp e,w.heap[m]? =some (.map es clock)/\w.heap[it]? =some (.mapIter (some m) since seen clock)/\seen.back? =some stamp/\es.find? (λx=>x.born==stamp)=some e/\e.key=enc p.1/\e.val=ev p.2
def yz.mod{F:NP_}{w w' :Wt_}{it m:Nat}{p:κ×ν}(h:yz enc ev w it m p)(g:bn F w w')(j:¬F m)(i:¬F it):yz enc ev w' it m p:=by
 obtain⟨es,d,c,seen,f,e,a,b,r⟩:=h;exact⟨es,d,c,seen,f,e,g.keep a j,g.keep b i,r⟩
def so{w:Wt_}{K:be}{it m:Nat}{p:κ×ν}(h:yz enc ev w it m p)(g:K (.tuple #[enc p.1,ev p.2]) w):rx P (Bh (cU it 0)) w K:=by
 obtain⟨es,b,a,seen,c,e,l,j,d,i,f,n⟩:=h;refine kI ?_ g;simp[Bh,Instr.entry,qq j,MapKept.run_getObj_map l,Result.andThen,d,i,f,n]
def No{l:List MapEntry}{x:MapEntry}(b:(l.map (·.born)).Nodup)(a:x∈l):l.find? (λe=>e.born==x.born)=some x:=by
 induction l with
 |nil=>cases a
 |cons y l c=>
  simp only[aH,bO]at b;rcases aq.1 a with rfl|a
  ·simp
  ·grind
def H1(es:List MapEntry)(seen:Array Nat)(x:MapEntry)(c:(es.map (·.born)).Nodup)(g:x∈es)(hs: !seen.contains x.born)(i:Nat)
  (hi:(es.filter λe=> !seen.contains e.born)[i]? =some x):
  es.filter (λe=> !(seen.push x.born).contains e.born)=(es.filter λe=> !seen.contains e.born).eraseIdx i:=by
 have d:es.filter (λe=> !(seen.push x.born).contains e.born)=(es.filter λe=> !seen.contains e.born).filter (λe=> !(e.born==x.born)):=by
  rw[gl];apply dx;intro e _;simp only[Array.contains_push,Bool.not_or];rw[Bool.and_comm]
 rw[d];have a:((es.filter λe=> !seen.contains e.born).map (·.born)).Nodup:=c.sublist (ep.map _);generalize(es.filter λe=> !seen.contains e.born)=l at hi a;clear d hs g c;induction l generalizing i with
 |nil=>simp at hi
 |cons y l j=>
  simp only[aH,bO]at a;cases i with
  |zero=>
   have:y=x:=by simpa using hi
   subst this;rw[aU (by simp)];simp only[List.eraseIdx_cons_zero];refine cC.2 λz f=>?_;have:z.born≠y.born:=λh=>a.1 (h▸aV f);simpa using this
  |succ i=>
   have b:x∈l:=cP (by simpa using hi);have:y.born≠x.born:=λh=>a.1 (h▸aV b);rw[bF (by simpa using this)];simp only[jz];rw[j i (by simpa using hi) a.2]
def vq{t:TypeId}{w:Wt_}{K:be}{it m:Nat}{rest:List (κ×ν)}(h:kR enc ev w it m rest)
  (Y:rest=[]->∀s,M0 w s->s.heap=w.heap->K (.tuple #[.bool false]) s)
  (Z:∀i p,rest[i]? =some p->∀s,kR enc ev s it m (rest.eraseIdx i)->yz enc ev s it m p->bn (λb=>b=it) w s->s.heap.size=w.heap.size->K (.tuple #[.bool true,enc p.1,ev p.2]) s):
  rx P (Ea (cU it 0) false t) w K:=by
 obtain⟨es,a,seen,J,L,u,D,R⟩:=h
 have f:(!seen.isEmpty&& !es.isEmpty&& es.all (λx=>decide (x.born≥a)))=false:=by
  cases r:es.isEmpty with
  |true=>simp
  |false=>
   have O:0<es.size:=by
    rcases Nat.eq_zero_or_pos es.size with h|h
    ·rw[Array.isEmpty_iff.2 (gO h)]at r;cases r
    ·exact h
   have:(es.all λx=>decide (x.born≥a))=false:=by
    rw[fM];intro X;have h2:=u es[0] (by simp);have h3:=Array.all_eq_true.1 X 0 O;simp at h3;omega
   rw[this];simp
 have g:(es.filter λe=> !seen.contains e.born).filter (λe=>decide (e.born<a))=es.filter λe=> !seen.contains e.born:=by
  refine Array.filter_eq_self.2 λx F=>?_;exact aA (u x (by simpa using(Array.mem_filter.1 F).1))
 have j:(es.filter λe=> !seen.contains e.born).filter (λe=>decide (e.born≥a))= #[]:=by
  refine Array.filter_eq_empty_iff.2 λx F=>?_;have:=u x (by simpa using(Array.mem_filter.1 F).1);simp;omega
 have c:(es.filter λe=> !seen.contains e.born).toList=es.toList.filter λe=> !seen.contains e.born:=by simp
 generalize T:(es.filter λe=> !seen.contains e.born)=left at g j c
 have v:left.size=rest.length:=by
  rw[<-Array.length_toList,c];simpa using dP List.length R
 by_cases U:rest=[]
 ·subst U;have N:left= #[]:=gO (by simpa using v);subst N
  have n:(Instr.next (cU it 0) false t).run P w=.ok (.tuple #[.bool false]) w:=by
   unfold Instr.next;simp only[cY,qq L,MapKept.run_getObj_map J,Result.andThen];rw[f];simp only[bE,dB];rw[T,g,j];have Q:((if(#[]:Array MapEntry).isEmpty=true then #[none]else #[])++((#[]:Array MapEntry)++ #[]).map some)= #[none]:=by simp
   rw[Q];simp[run_choose,Question.forced,Result.andThen]
  exact kI (by unfold Ea;exact n) (Y rfl w rC rfl)
 ·have d:0<left.size:=by
   rw[v];exact List.length_pos_iff.2 U
  have r:left.isEmpty=false:=by
   cases h:left.isEmpty with
   |false=>rfl
   |true=>rw[Array.isEmpty_iff.1 h]at d;simp at d
  obtain⟨i,q,M,I,B⟩:∃(i:Nat) (q:Wt_),i<left.size/\(q=w\/q=w.drew)/\(choose (Question.mapNext left.size)).run P w=.ok i q:=by
   by_cases V:(Question.mapNext left.size).forced=true
   ·exact⟨0,w,d,.inl rfl,by rw[run_choose,ab V]⟩
   ·refine⟨_,w.drew,?_,.inr rfl,by rw[run_choose,aa V];rfl⟩;exact fV _ d
  have F:left[i]? =some left[i]:=gz M
  have z:(es.toList.filter λe=> !seen.contains e.born)[i]? =some left[i]:=by
   rw[<-c,jT];exact F
  have E:=cP z;have H:i<rest.length:=qZ
  have hp:(left[i].key,left[i].val)=(enc rest[i].1,ev rest[i].2):=by
   have:=dP (λl=>l[i]?) R;simp only[bY,z,ao H,eA,gD]at this;exact this
  have o:q.heap=w.heap:=by rcases I with rfl|rfl<;>rfl
  have A:q.heap[it]? =some (.mapIter (some m) a seen a):=by rw[o];exact L
  have G:q.heap[m]? =some (.map es a):=by rw[o];exact J
  have C:bn (λb=>b=it) w q:=by
   rcases I with rfl|rfl
   ·exact rC
   ·exact(bn.refl _ _).drew
  have y:it≠m:=by
   intro h;subst h;rw[L]at J;cases J
  have n:(Instr.next (cU it 0) false t).run P w=.ok (.tuple #[.bool true,left[i].key,left[i].val]) (q.putObj it (.mapIter (some m) a (seen.push left[i].born) a)):=by
   unfold Instr.next;simp only[cY,qq L,MapKept.run_getObj_map J,Result.andThen];rw[f];simp only[bE,dB];rw[T,g,j,r];have Q:((if false=true then #[none]else #[])++(left++ #[]).map some)=left.map some:=by simp
   rw[Q];simp only[cY,ii,Array.size_map,B,Result.andThen,Array.getElem?_map,F,eA,Ah _ A]
  apply kI (by unfold Ea;exact n);have S:left[i].key=enc rest[i].1:=(Prod.mk.inj hp).1;have W:left[i].val=ev rest[i].2:=(Prod.mk.inj hp).2;rw[S,W];refine Z i rest[i] (ao H) _ ⟨es,a,seen.push left[i].born,?_,?_,u,D,?_⟩ ?_ (C.putObj (.inl rfl) _) ?_
  ·rw[dJ,aa (λe=>y e.symm)];exact G
  ·rw[dJ,ab rfl,A];rfl
  ·rw[H1 es.toList seen left[i] D (aM.1 E).1 (aM.1 E).2 i z,nC,R,<-nC]
  ·refine⟨es,a,a,seen.push left[i].born,left[i].born,left[i],?_,?_,by simp,?_,S,W⟩
   ·rw[dJ,aa (λe=>y e.symm)];exact G
   ·rw[dJ,ab rfl,A];rfl
   ·rw[<-Array.find?_toList];exact No D (aM.1 E).1
  ·rw[iW,o]
end
def pS{h:TypeId}{len:Nat}{cs:Array Value}{k:IntKind}{i:Nat}(j:P.underlying h=some (.array len e))(f:lI P e=false)(g:(P.underlying e).isSome=true)(l:P.cellsOf e=0+1)(hi:i<len)(m:cs[i]? =some v):
  (Instr.index h (.agg cs) (.int k i)).run P w=.ok v w:=by
 have c:(i:Int)<len:=qZ
 have b:(isAgg e).run P w=.ok false w:=by
  unfold isAgg;unfold lI at f;cases a:P.underlying e with
  |none=>rw[a]at g;cases g
  |some d=>
   rw[a]at f;simp only[cY,aO a,Result.andThen];cases d<;>first|rfl|(simp at f)
 simp[Instr.index,aO j,Result.andThen,c,hi,kY l,part,b,asIntOf,m]
def yG{κ ν:Type} [DecidableEq κ]{enc:κ->Value}{ev:ν->Value}{t k e:TypeId}{w:Wt_}{m:Vt_}{L:List (κ×ν)}{x:κ}{z:Vt_}(d:P.underlying t=some (.map k e))(b:qb P k enc)
  (c:jS P e=some z)(a:Ad enc ev w m L):(jF t m (enc x) true).run P w=.ok (.tuple #[(lk L x).elim z ev,.bool (lk L x).isSome]) w:=by
 unfold jF;rw[mI d b c a];cases lk L x<;>rfl
def CE{κ ν:Type} [DecidableEq κ]{enc:κ->Value}{ev:ν->Value}{t k e ty:TypeId}{w:Wt_}{b:Nat}{L:List (κ×ν)}(c:P.underlying t=some (.map k e))(h:fI enc ev w b L):
  (Builtin.len_ #[t] ty #[.map (some b)]).run P w=.ok (gI L.length) w:=by
 obtain⟨i,es,a,d,g,_⟩:=h;have f:es.size=L.length:=by simpa using dP List.length g
 simp[Builtin.len_,aO c,MapKept.run_getObj_map d,Result.andThen,goInt,f]
def nv{α:Type}{l:List α}{i:Nat}{p:α}(h:l[i]? =some p):l.Perm (p::l.eraseIdx i):=by
 induction l generalizing i with
 |nil=>simp at h
 |cons x l a=>
  cases i with
  |zero=>
   have:x=p:=by simpa using h
   subst this;exact db _
  |succ i=>
   simp only[jz];exact((a (by simpa using h)).cons x).trans (List.Perm.swap ..)
def iz{S:Type}{body:S->World->(S->World->Prop)->Prop}{s:S}(I:S->World->Prop)(m:S->World->Nat)(f:I s w)
  (h:∀s w,I s w->∀c:S->World->Prop,(∀a b,I a b->m a b<m s w->c a b)->body s w c):qV body s w:=
 ⟨⟨I,m,f,λs w g=>h s w g _ λ_ _ e d=>⟨e,d⟩⟩⟩
def bj{f:FuncId}{b a:Array Value}(d:b=a)(c:w=w'):Ca P f b w K=Ca P f a w' K:=by subst d c;rfl
def dy(h:s.run P w=.ok v w')(a:K v w'):rv P s w K:=by
 rw[E5];unfold YC;rw[h];exact a
def az(v:Vt_)(w' :Wt_)(h:s.run P w=.ok v w')(a:K v w'):rv P s w K:=dy h a
def lO{s:Sem Unit}{K:World->Prop}(h:s.run P w=.ok () w')(a:K w'):ru P s w K:=by
 rw[EC];unfold XZ;rw[h];exact a
def nz{s:Sem Unit}{K:World->Prop}(w' :Wt_)(h:s.run P w=.ok () w')(a:K w'):ru P s w K:=lO h a
def zw{s:Sem Next}(h:s.run P w=.ok (.value v) w')(a:K v w'):rn P s w K:=by
 rw[pm];unfold Pc;rw[h];exact a
def ke{s:Sem Next}(v:Vt_)(w' :Wt_)(h:s.run P w=.ok (.value v) w')(a:K v w'):rn P s w K:=zw h a
def gC{K:Value->Prop}(h:s.run P w=.ok v w)(a:K v):rV P s w K:=by
 rw[xX];unfold GS;rw[h];exact⟨rfl,a⟩
def mE{K:Value->Prop}(v:Vt_)(h:s.run P w=.ok v w)(a:K v):rV P s w K:=gC h a
def gP{K:Value->Prop}(h:∀w,s.run P w=.ok v w)(a:K v):qM P s K:=⟨⟨v,h,a⟩⟩
def eQ{K:Value->Prop}(v:Vt_)(h:∀w,s.run P w=.ok v w)(a:K v):qM P s K:=gP h a
def py(h:P.underlying t=some (.slice e)):P.underlying t=some (.slice (P.elem t))/\P.elem t=e:=by
 have:P.elem t=e:=by simp[Program.elem,h]
 rw[this];exact⟨h,rfl⟩
def Rd.part{cs:LV_}(F:P.underlying t=some (.slice e))(C:P.cellsOf e=sz+1)(h:Rd w (sz+1) v n cs)
  {lo hi:Nat}(K:lo<=hi)(D:hi<=n)(kl kh:IntKind):
  ∃k,(∀W,(Instr.sliceAt t v (some (.int kl (lo:Int))) (some (.int kh (hi:Int))) none).run P W=.ok k W)/\Rd w (sz+1) k (hi - lo) ((cs.drop (lo*(sz+1))).take ((hi - lo)*(sz+1)))/\(∀b,vP k b->vP v b):=by
 obtain⟨y,H⟩:=py F;obtain⟨z,o⟩:=h
 obtain⟨a,d,rfl,u⟩:∃a d,v=.slice a n d/\(n<=d\/n=0):=by
  rcases o with⟨rfl,a,c,rfl⟩|⟨b,g,d,rfl,C,_⟩
  ·grind
  ·grind
 refine⟨sliced a lo hi d (sz+1),λW=>?_,?_,?_⟩
 ·rw[run_sliceAt_slice W t _ _ _ _ y,run_slice_lh W t a n d y kl kh lo hi qZ qZ qZ,H,kY C];simp[Result.andThen]
 ·refine⟨?_,?_⟩
  ·rw[av,bi,z];have:=cz (sz+1) D;rw[mB];omega
  ·by_cases s:hi - lo=0
   ·left;exact⟨s,_,_,by unfold sliced;rw[s]⟩
   ·rcases o with⟨p,_⟩|⟨b,g,j,f,l,x⟩
    ·omega
    injection f with i E B;subst i;subst B;right;refine⟨b,g+lo*(sz+1),d - lo,?_,qZ,?_⟩
    ·unfold sliced;rw[aa qZ];simp[bQ]
    ·have:=x.sub (lo*(sz+1)) ((hi - lo)*(sz+1)) (by
      rw[z,<-dY];exact cz _ qZ)
     exact this
 ·rintro b ⟨J,m,I,A,L,rfl⟩;unfold sliced at A;injection A with i E B;by_cases r:d=lo
  ·grind
  ·rw[aa r]at i;cases a with
   |none=>cases i
   |some G=>
    simp only[eA,gD]at i;refine⟨G,n,d,rfl,qZ,?_⟩;rcases o with⟨p,_⟩|⟨b,g,j,f,l,x⟩
    ·omega
    ·injection f with q;injection q with q;subst q;rw[<-i,bQ]
def Rd.from_{cs:LV_}(j:P.underlying t=some (.slice e))(k:P.cellsOf e=sz+1)(h:Rd w (sz+1) v n cs)
  {lo:Nat}(o:lo<=n)(kl:IntKind):
  ∃f,(∀W,(Instr.sliceAt t v (some (.int kl (lo:Int))) none none).run P W=.ok f W)/\Rd w (sz+1) f (n - lo) (cs.drop (lo*(sz+1)))/\(∀b,vP f b->vP v b):=by
 obtain⟨f,q,l,m⟩:=h.part j k o (aB n) kl .i64;obtain⟨g,u⟩:=py j;refine⟨f,λW=>?_,?_,m⟩
 ·rw[<-q W];obtain⟨s,r⟩:=h
  obtain⟨a,d,rfl,i⟩:∃a d,v=.slice a n d/\(n<=d\/n=0):=by
   rcases r with⟨rfl,a,c,rfl⟩|⟨b,p,d,rfl,k,_⟩
   ·grind
   ·grind
  rw[run_sliceAt_slice W t _ _ _ _ g,run_sliceAt_slice W t _ _ _ _ g,run_slice_lh W t a n d g kl .i64 lo n qZ qZ qZ,run_slice_l W t a n d g kl lo qZ qZ];rfl
 ·have e:(cs.drop (lo*(sz+1))).take ((n - lo)*(sz+1))=cs.drop (lo*(sz+1)):=by
   rw[ay];rw[bi,h.1,mB];omega
  rwa[e]at l
def Rd.byte{l:List UInt8}(h:Rd w 1 v n (bv l)){i:Nat}(hi:i<n)(hl:i<l.length):
  ∃b c a C e d,v=.slice (some ⟨b,c,none⟩) n a/\n<=a/\hp w b=some (.cells C e d)/\C[c+i]? =some (gB (l[i].toNat:Int)):=by
 obtain⟨_,⟨k,_⟩|⟨b,c,a,rfl,j,g⟩⟩:=h
 ·omega
 ·obtain⟨C,e,d,hC,f⟩:=g.get;exact⟨b,c,a,C,e,d,rfl,j,hC,f i _ (by rw[bv,bY,ao hl];rfl)⟩
def ac3{by_ m:Nat}{x:Vt_}{a:LV_}(g:P.underlying t=some (.slice e))(i:vG P e sz by_)(y:Rd w sz x m a)(q:a.all (·.oneCell')=true)(c:m*by_<=140737488355328)
  (r:∀d f,il f e sz d m a->M0 w f->(∀b,aQ d b->w.heap.size<=b)->K d f):
  rx P (qL t 0 []) w λv l=>rx P (ff #[t,t] t [v,x]) l K:=by
 refine oE [] g i rfl rfl (by simp) qZ ?_;have j:∀o,M0 w (w.alloc o):=λo=>(bn.refl _ w).alloc o;refine lA (n:=0) (m:=m) (cs:=[]) g g i ?_ (y.mod (j _) eI) q (by grind) λd f s u p=>?_
 ·refine⟨by simp,.inr ⟨w.heap.size,0,[],rfl,aB _,?_,by simp⟩⟩;rw[dZ,ab rfl];simp
 ·have k:∀b,aQ (.slice (some ⟨w.heap.size,0,none⟩) 0 0) b->w.heap.size<=b:=λb c=>by
   simp only[aQ,Mm]at c;have:=cM c;omega
  refine r d f (by simpa using s) ((j _).on u λb c=>.inr (k b c)) λb c=>?_;rcases p b c with h|h
  ·exact k b h
  ·rw[ci]at h;omega
def DN:∀a:List UInt8,(bv a).flatMap (·.cells.toList)=bv a
 | []=>rfl
 |u::a=>by
  show(Value.cells (Value.int .u8 u.toNat)).toList++(bv a).flatMap (λv=>v.cells.toList)=_;rw[DN a];rfl
def Ye{a:List (Nat×Value)}(c:List UInt8)(i:P.underlying t=some (.slice e))(l:vG P e 1 1)(f:a=c.zipIdx.map λp=>(p.2,gB p.1.toNat))(h:c.length=n)(g:n<=1000)
  (j:∀v d,il d e 1 v n (bv c)->M0 w d->(∀b,aQ v b->w.heap.size<=b/\b<d.heap.size)->K v d):rx P (qL t n a) w K:=by
 have k:a=(bv c).zipIdx.map λp=>(p.2,p.1):=by
  rw[f,bv,List.zipIdx_map,da];rfl
 have m:=DN c
 refine oE (bv c) i l k (by simpa using h) (λv o=>by
  obtain⟨u,_,rfl⟩:=aD.1 o;rfl) qZ ?_
 rw[m];refine j _ _ ⟨by simpa using h,.inr ⟨_,n,[],rfl,aB _,by show hp _ _=_;simp[go_sem],by simp,by simp⟩⟩ nl λb g=>?_;have:b=w.heap.size:=by cases g;rfl
 rw[ci];omega
def bn.hpk{F:NP_}(h:bn F w w'){b:Nat}{o:Obj}(c:hp w b=some o)(a:¬F b):hp w' b=some o:=h.keep c a
def ie{n:Int}(b: -9223372036854775808<=n)(a:n<9223372036854775808):IntKind.i64.wrap n=n:=by rw[cy];omega
def nr{n:Int}(b:0<=n)(a:n<18446744073709551616):IntKind.u64.wrap n=n:=by rw[IntKind.wrap_u64];omega
structure As where
 P:World->(Nat->Prop)->Prop
 lt:∀{w F b},P w F->F b->b<w.heap.size
 md:∀{w w' F G},P w F->bn G w w' ->(∀b,F b->¬G b)->P w' F
def tR(w:Wt_):List As->(Nat->Prop)->Prop
 | [],F=>∀b,¬F b
 |A::L,F=>∃F1 F2,A.P w F1/\tR w L F2/\(∀b,F1 b->¬F2 b)/\∀b,F b↔F1 b\/F2 b
def tR.lt:∀{L:List As} {F:NP_},tR w L F->∀{b},F b->b<w.heap.size
 | [],F,h,b,c=>absurd c (h b)
 |A::L,F,⟨g,i,f,d,_,e⟩,b,c=>((e b).1 c).elim (A.lt f) (tR.lt d)
def tR.md{G:NP_}(m:bn G w w'):∀{L:List As} {F:NP_},tR w L F->(∀b,F b->¬G b)->tR w' L F
 | [],F,h,_=>h
 |A::L,F,⟨j,g,i,f,l,d⟩,e=>⟨j,g,A.md i m λb c=>e b ((d b).2 (.inl c)),tR.md m f λb c=>e b ((d b).2 (.inr c)),l,d⟩
structure Ss(w:Wt_)(L:List As):Prop where
 out:∃F,tR w L F
abbrev WP:=World->Prop
structure Gs(L:List As)(φ:WP):Prop where
 go:∀w,Ss w L->φ w
section
variable{A B A' :As}{L L' M:List As}{φ ψ:WP}{w w' :Wt_}
def Ss.cons:Ss w (A::L)↔∃d c,A.P w d/\tR w L c/\∀b,d b->¬c b:=
 ⟨λ⟨_,d,c,f,e,g,_⟩=>⟨d,c,f,e,g⟩,λ⟨d,c,f,e,g⟩=>⟨_,d,c,f,e,g,λ_=>aI⟩⟩
def Ss.tail(h:Ss w (A::L)):Ss w L:=by
 obtain⟨d,g,e,c,f⟩:=Ss.cons.1 h;exact⟨_,c⟩
end
structure bL(L M:List As):Prop where
 out:∀w F,tR w L F↔tR w M F
section
variable{A B A' :As}{L L' M:List As}{φ ψ:WP}{w w' :Wt_}
def Gm{F:NP_}(h:tR w (A::B::L) F):tR w (B::A::L) F:=by
 obtain⟨f,q,l,⟨F3,g,p,j,o,e⟩,m,i⟩:=h;refine⟨F3,λb=>f b\/g b,p,⟨f,g,l,j,λb d c=>m b d ((e b).2 (.inr c)),λ_=>aI⟩,λb d c=>?_,λb=>?_⟩
 ·rcases c with c|c
  ·grind
  ·exact o b d c
 ·rw[i,e];constructor
  ·rintro(h|h|h)
   ·exact .inr (.inl h)
   ·exact .inl h
   ·exact .inr (.inr h)
  ·rintro(h|h|h)
   ·exact .inr (.inl h)
   ·exact .inl h
   ·exact .inr (.inr h)
def bL.swap:bL (A::B::L) (B::A::L):=⟨λ_ _=>⟨Gm,Gm⟩⟩
def bL.refl:bL L L:=⟨λ_ _=>aI⟩
def bL.symm(h:bL L M):bL M L:=⟨λw F=>(h.out w F).symm⟩
def bL.trans(h:bL L M)(c:bL M L'):bL L L' :=⟨λw F=>(h.out w F).trans (c.out w F)⟩
def bL.cons(h:bL L M):bL (A::L) (A::M):=⟨λw F=>⟨λ⟨e,c,g,d,i,f⟩=>⟨e,c,g,(h.out w c).1 d,i,f⟩,λ⟨e,c,g,d,i,f⟩=>⟨e,c,g,(h.out w c).2 d,i,f⟩⟩⟩
def cF:bL (A::L) (A::L):=.refl
def cS(h:bL L (A::M)):bL (B::L) (A::B::M):=(bL.cons h).trans .swap
def kp(h:bL L (A::M))(c:bL M L'):bL L (A::L'):=h.trans c.cons
def gy(h:bL L M:=by repeat first|(with_reducible exact cF)|(with_reducible apply cS)):bL L M:=h
def kz(h:bL L M:=by repeat first|(with_reducible exact bL.refl)|((apply kp);(·repeat first|(with_reducible exact cF)|(with_reducible apply cS)))):bL L M:=h
def Gs.pk(h:Gs M φ)(k:bL L M:=by exact kz):Gs L φ:=⟨λw ⟨F,x⟩=>h.go w ⟨F,(k.out w F).1 x⟩⟩
structure Sb(L M:List As):Prop where
 out:∀w F,tR w L F->∃F',tR w M F' /\∀b,F' b->F b
def Sb.refl:Sb L L:=⟨λ_ F h=>⟨F,h,λ_ h=>h⟩⟩
def Sb.drop(h:Sb L M):Sb (A::L) M:=⟨λw F ⟨i,g,j,d,l,e⟩=>(h.out w g d).elim λc ⟨k1,k2⟩=>⟨c,k1,λb f=>(e b).2 (.inr (k2 b f))⟩⟩
def Sb.pick(h:bL L (A::L'))(f:Sb L' M):Sb L (A::M):=⟨λw F x=>by
 obtain⟨i,e,l,g,m,j⟩:=(h.out w F).1 x;obtain⟨d,k1,k2⟩:=f.out w e g;exact⟨_,⟨i,d,l,k1,λb c o=>m b c (k2 b o),λ_=>aI⟩,λb c=>(j b).2 (c.imp id (k2 b))⟩⟩
def sbZ(h:Sb L M:=by repeat first|(with_reducible exact Sb.refl)|((apply Sb.pick);(·repeat first|(with_reducible exact cF)|(with_reducible apply cS)))|(with_reducible apply Sb.drop)):Sb L M:=h
def Gs.fin(h:Gs M φ)(p:Sb L M:=by exact sbZ):Gs L φ:=⟨λw ⟨F,x⟩=>(p.out w F x).elim λc k=>h.go w ⟨c,k.1⟩⟩
def Gs.drop(h:Gs L φ):Gs (A::L) φ:=⟨λw x=>h.go w x.tail⟩
def Vw(P:Program)(s:Sem Value)(k:Value->WP):WP:=λw=>rv P s w k
def Uw(P:Program)(s:Sem Unit)(k:WP):WP:=λw=>ru P s w k
def Xw(P:Program)(s:Sem Value)(k:Value->WP):WP:=λw=>rx P s w k
def Yw(P:Program)(s:Sem Unit)(k:WP):WP:=λw=>DD P s w k
def Nw(P:Program)(s:Sem Next)(k:Value->WP):WP:=λw=>rn P s w k
def Pw(P:Program)(s:Sem Value)(k:Value->WP):WP:=λw=>qM P s λv=>k v w
def Ww(P:Program)(s:Sem Value)(k:Value->WP):WP:=λw=>rV P s w λv=>k v w
def PXw(P:Program)(s:Sem Value)(k:Value->WP):WP:=λw=>Hf P s λv=>k v w
def VI(P:Program)(s:Sem Value)(k:Value->WP):WP:=λw=>IG P s w λv=>k v w
def Ew(P:Program)(s:Sem Value)(v:Vt_)(k:WP):WP:=λw=>s.run P w=.ok v w/\k w
def Dw(k:WP):WP:=λw=>k w.drew
def Aw(a b:WP):WP:=λw=>a w/\b w
def Iw(v:Vt_)(a b:WP):WP:=λw=>xe v (a w) (b w)
def Bw(v:Vt_)(k:Bool->WP):WP:=λw=>FI v λb=>k b w
def Qw(v:Vt_)(k:Value->WP):WP:=λw=>qC v λv=>k v w
def Cw(P:Program)(f:FuncId)(args:Array Value)(k:Value->WP):WP:=λw=>Ca P f args w k
def Fw(P:Program)(f:Vt_)(args:LV_)(k:Value->WP):WP:=λw=>om P f args w k
def Jw{S:Type}(a:(S->WP)->WP)(b:S->WP):WP:=λw=>dU (λJ=>a J w) b
def Zw(k:WP):WP:=λw=>∀_:Nat->Value,k w
def Hw(b:Bool)(x y:WP):WP:=λw=>bc b (x w) (y w)
def Gw(l:Nat)(k:WP):WP:=λw=>qr l w k
def Tw(ds:List Nat)(k:WP):WP:=λw=>Ao ds w k
def Rw(P:Program)(ro:Option Nat)(gv:Vt_)(np:Nat)(rnd:Nat->List Value->WP->(Code->WP)->WP)(after:List Nat->Option Code->WP):WP:=λw=>HD P ro gv w np (λl x w kn kj=>rnd l x kn kj w) after
def Lw{S:Type}(body:S->(S->WP)->WP)(s:S):WP:=λw=>qV (λs w k=>body s k w) s w
variable{P:Program}{s:Sem Value}{v:Vt_}{k:Value->WP}{u:Sem Unit}{n:Sem Next}{k0 a b:WP}
def Gs.V(h:∀w,Ss w L->s.run P w=.ok v w)(c:Gs L (k v)):Gs L (Vw P s k):=⟨λw x=>dy (h w x) (c.go w x)⟩
def Gs.W(h:∀w,Ss w L->s.run P w=.ok v w)(c:Gs L (k v)):Gs L (Ww P s k):=⟨λw x=>gC (h w x) (c.go w x)⟩
def Gs.E(h:∀w,Ss w L->s.run P w=.ok v w)(c:Gs L k0):Gs L (Ew P s v k0):=⟨λw x=>⟨h w x,c.go w x⟩⟩
def Gs.N(h:∀w,Ss w L->n.run P w=.ok (.value v) w)(c:Gs L (k v)):Gs L (Nw P n k):=⟨λw x=>zw (h w x) (c.go w x)⟩
def Gs.Pu(h:∀w,s.run P w=.ok v w)(c:Gs L (k v)):Gs L (Pw P s k):=⟨λw x=>gP h (c.go w x)⟩
def Gs.X(h:∀w,Ss w L->s.run P w=.ok v w)(c:Gs L (k v)):Gs L (Xw P s k):=⟨λw x=>kI (h w x) (c.go w x)⟩
def Gs.WX(h:∀w,Ss w L->s.run P w=.ok v w)(c:Gs L (k v)):Gs L (VI P s k):=⟨λw x=>yW (h w x) (c.go w x)⟩
def md0(w:Wt_):M0 w w.drew:=(bn.refl _ w).drew
def Ss.md0(m:M0 w w')(h:Ss w L):Ss w' L:=h.out.elim λF x=>⟨F,x.md m eI⟩
def Gs.D(c:Gs L k0):Gs L (Dw k0):=⟨λw x=>c.go _ (x.md0 (Go.Vc.md0 w))⟩
def Gs.An(c:Gs L a)(d:Gs L b):Gs L (Aw a b):=⟨λw x=>⟨c.go w x,d.go w x⟩⟩
def Gs.It(c:Gs L a):Gs L (Iw (.bool true) a b):=⟨λw x=>c.go w x⟩
def Gs.If(c:Gs L b):Gs L (Iw (.bool false) a b):=⟨λw x=>c.go w x⟩
def Gs.I{p:Prop} [Decidable p](c:p->Gs L a)(d:¬p->Gs L b):Gs L (Iw (.bool (decide p)) a b):=⟨λw x=>by
 unfold Iw;rw[bG];by_cases h:p
 ·rw[ab (by simpa using h)];exact(c h).go w x
 ·rw[aa (by simpa using h)];exact(d h).go w x⟩
def Gs.I1{p:Prop} [Decidable p](h:p)(c:Gs L a):Gs L (Iw (.bool (decide p)) a b):=Gs.I (λ_=>c) λd=>absurd h d
def Gs.I0{p:Prop} [Decidable p](h:¬p)(c:Gs L b):Gs L (Iw (.bool (decide p)) a b):=Gs.I (λhp=>absurd hp h) λ_=>c
def Gs.Q{x:Addr}{k:Value->WP}(h:Gs L (k (.pointer (some x)))):Gs L (Qw (.pointer (some x)) k):=⟨λw y=>h.go w y⟩
def Gs.ca{f:FuncId}{c:Array Value}{φ:WP}(h:∀w,φ w->Ca P f c w k)(g:Gs L φ):Gs L (Cw P f c k):=⟨λw x=>h w (g.go w x)⟩
end
end Go.Vc
