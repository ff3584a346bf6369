/- Part of a proof. -/
import Derived.MapKept
import Derived.ProofKit
import Derived.ChangeReads
import Derived.OpenShut
import Derived.Test.YtekbnpagidkbbaaGreatProg
import Derived.ChangeKeysEq
import Derived.Test.YtekbnpagidkbbaaGreatR3
set_option linter.all false
set_option maxRecDepth 100000
set_option maxHeartbeats 4000000
namespace Go.Vc
open Go Go.Vc
section
variable{κ ν:Type} [DecidableEq κ]
def lk:List (κ×ν)->κ->Option ν
 | [],_=>none
 |(a,b)::r,k=>if a=k then some b else lk r k
def put:List (κ×ν)->κ->ν->List (κ×ν)
 | [],k,v=>[(k,v)]
 |(a,b)::r,k,v=>if a=k then(k,v)::r else(a,b)::put r k v
def Ar:List (κ×ν)->κ->List (κ×ν)
 | [],_=>[]
 |(a,b)::r,k=>if a=k then r else(a,b)::Ar r k
def lm(L:List (κ×ν))(k j:κ)(v:ν):lk (put L k v) j=if k=j then some v else lk L j:=by
 induction L with
 |nil=>simp[put,lk]
 |cons p r c=>
  obtain⟨a,b⟩:=p;simp only[put];by_cases h:a=k
  ·subst h;rw[ae rfl];simp only[lk];split<;>rfl
  ·rw[aa h];simp only[lk,c];by_cases d:a=j
   ·grind
   ·grind
def oT{L:List (κ×ν)}{k:κ}(h:k ∉ L.map (·.1)):lk L k=none:=by
 induction L with
 |nil=>rfl
 |cons p r c=>
  obtain⟨a,b⟩:=p;simp only[aI,ax,l9]at h;simp only[lk];rw[aa (λe=>h.1 e.symm)];exact c h.2
def Pl{L:List (κ×ν)}(c:(L.map (·.1)).Nodup)(k j:κ):lk (Ar L k) j=if k=j then none else lk L j:=by
 induction L with
 |nil=>simp[Ar,lk]
 |cons p r d=>
  obtain⟨a,b⟩:=p;simp only[aI,ce]at c;simp only[Ar];by_cases h:a=k
  ·subst h;rw[ae rfl];simp only[lk];split
   ·subst_vars;exact oT c.1
   ·rfl
  ·rw[aa h];simp only[lk,d c.2];by_cases e:a=j
   ·grind
   ·grind
def Rh(L:List (κ×ν))(k:κ)(v:ν):(put L k v).map (·.1)=if k∈L.map (·.1)then L.map (·.1)else L.map (·.1)++[k]:=by
 induction L with
 |nil=>simp[put]
 |cons p r c=>
  obtain⟨a,b⟩:=p;simp only[put];by_cases h:a=k
  ·subst h;simp
  ·grind
def Dc{L:List (κ×ν)}(h:(L.map (·.1)).Nodup)(k:κ)(v:ν):((put L k v).map (·.1)).Nodup:=by
 rw[Rh];split
 ·exact h
 ·grind
def AT(L:List (κ×ν))(k:κ):(Ar L k).Sublist L:=by
 induction L with
 |nil=>exact cM _
 |cons p r c=>
  obtain⟨a,b⟩:=p;simp only[Ar];split
  ·grind
  ·exact c.cons_cons _
def Nj{L:List (κ×ν)}(h:(L.map (·.1)).Nodup)(k:κ):((Ar L k).map (·.1)).Nodup:=h.sublist ((AT L k).map _)
def yK{L:List (κ×ν)}{k:κ}{v:ν}(h:lk L k=some v):(k,v)∈L:=by
 induction L with
 |nil=>cases h
 |cons q r c=>
  obtain⟨a,b⟩:=q;simp only[lk]at h;split at h
  ·grind
  ·grind
end
structure rB(P:Program)(k:TypeId){κ:Type} [DecidableEq κ](enc:κ->Value):Prop where
 check:∀(w:Wt_) (em:Bool) (x:κ),(Instr.checkKey em 10000 k (enc x)).run P w=.ok () w
 same:∀(w:Wt_) (x:κ) (es:List MapEntry) (ks:List κ),es.map (·.key)=ks.map enc->
  ((Instr.findKey k (enc x) es).run P w=.ok none w/\x ∉ ks)\/∃i v,(Instr.findKey k (enc x) es).run P w=.ok (some (i,v)) w/\(es[i]?).map (·.val)=some v/\ks[i]? =some x/\∀j,j<i->ks[j]? ≠some x
 stays:∀(w:Wt_) (x:κ),(Instr.keyThatStays (enc x) (enc x)).run P w=.ok (enc x) w
section
variable{P:Program}{k:TypeId}{κ:Type} [DecidableEq κ]{enc:κ->Value}
def zN(b:∀(w:Wt_) (x y:κ),(Op.equal k (enc x) (enc y)).run P w=.ok (decide (x=y)) w)(w:Wt_)(x:κ):
  ∀(es:List MapEntry) (a:List κ) (o:Nat),es.map (·.key)=a.map enc->
  ((Instr.findAsking k (enc x) es o).run P w=.ok none w/\x ∉ a)\/∃i v,(Instr.findAsking k (enc x) es o).run P w=.ok (some (o+i,v)) w/\(es[i]?).map (·.val)=some v/\a[i]? =some x/\∀j,j<i->a[j]? ≠some x
 | [],a,o,h=>by
  have:a=[]:=by cases a<;>simp_all
  subst this;exact .inl ⟨by simp[Instr.findAsking],by simp⟩
 |e::es,[],o,h=>by simp at h
 |e::es,y::a,o,h=>by
  simp only[aI,lH]at h;obtain⟨h1,g⟩:=h;by_cases c:x=y
  ·subst c;refine .inr ⟨0,e.val,?_,by simp,by simp,λj f=>absurd f (Nat.not_lt_zero _)⟩;simp[Instr.findAsking,h1,b,Result.andThen]
  ·have p:(Instr.findAsking k (enc x) (e::es) o).run P w=(Instr.findAsking k (enc x) es (o+1)).run P w:=by
    simp[Instr.findAsking,h1,b,Result.andThen,c]
   rcases zN b w x es a (o+1) g with⟨m,d⟩|⟨i,v,m,d,l,n⟩
   ·grind
   ·refine .inr ⟨i+1,v,by grind,by simpa using d,by simpa using l,λj f=>?_⟩;cases j with
    |zero=>simp;exact λe=>c e.symm
    |succ j=>simpa using n j qZ
def rB.asking{d:TypeDesc}(f:P.underlying k=some d)(b:∀x y,Instr.sameNow d (enc x) (enc y)=none)
  (c:∀(w:Wt_) (x y:κ),(Op.equal k (enc x) (enc y)).run P w=.ok (decide (x=y)) w)
  (l:∀(w:Wt_) (i:Bool) (x:κ),(Instr.checkKey i 10000 k (enc x)).run P w=.ok () w)(hs:∀x,Instr.sameBits 10000 (enc x) (enc x)=true):rB P k enc where
 check:=l
 stays w x:=by simp[Instr.keyThatStays,hs]
 same w x es a h:=by
  cases es with
  |nil=>
   have:a=[]:=by cases a<;>simp_all
   subst this;exact .inl ⟨by simp[Instr.findKey,aT f,Result.andThen,Instr.findNow],by simp⟩
  |cons e es=>
   cases a with
   |nil=>simp at h
   |cons y a=>
    have h1:e.key=enc y:=by grind
    have g:Instr.findNow d (enc x) (e::es) 0=none:=by simp[Instr.findNow,h1,b]
    have j:(Instr.findKey k (enc x) (e::es)).run P w=(Instr.findAsking k (enc x) (e::es)).run P w:=by
     simp[Instr.findKey,aT f,Result.andThen,g]
    rw[j];have:=zN c w x (e::es) (y::a) 0 h;simpa using this
def HR{d:TypeDesc}(a:∀x y,Instr.sameNow d (enc x) (enc y)=some (decide (x=y)))(x:κ):
  ∀(es:List MapEntry) (b:List κ) (o:Nat),es.map (·.key)=b.map enc->
  (Instr.findNow d (enc x) es o=some none/\x ∉ b)\/∃i v,Instr.findNow d (enc x) es o=some (some (o+i,v))/\(es[i]?).map (·.val)=some v/\b[i]? =some x/\∀j,j<i->b[j]? ≠some x
 | [],b,o,h=>by
  have:b=[]:=by cases b<;>simp_all
  subst this;exact .inl ⟨by simp[Instr.findNow],by simp⟩
 |e::es,[],o,h=>by simp at h
 |e::es,y::b,o,h=>by
  simp only[aI,lH]at h;obtain⟨h1,l⟩:=h;by_cases c:x=y
  ·subst c;refine .inr ⟨0,e.val,?_,by simp,by simp,λj g=>absurd g (Nat.not_lt_zero _)⟩;simp[Instr.findNow,h1,a]
  ·have q:Instr.findNow d (enc x) (e::es) o=Instr.findNow d (enc x) es (o+1):=by
    simp[Instr.findNow,h1,a,c]
   rcases HR a x es b (o+1) l with⟨n,f⟩|⟨i,v,n,f,m,p⟩
   ·grind
   ·refine .inr ⟨i+1,v,by grind,by simpa using f,by simpa using m,λj g=>?_⟩;cases j with
    |zero=>simp;exact λe=>c e.symm
    |succ j=>simpa using p j qZ
def rB.now{d:TypeDesc}(c:P.underlying k=some d)(a:∀x y,Instr.sameNow d (enc x) (enc y)=some (decide (x=y)))
  (f:∀(w:Wt_) (e:Bool) (x:κ),(Instr.checkKey e 10000 k (enc x)).run P w=.ok () w)(hs:∀x,Instr.sameBits 10000 (enc x) (enc x)=true):rB P k enc where
 check:=f
 stays w x:=by simp[Instr.keyThatStays,hs]
 same w x es ks h:=by
  rcases HR a x es ks 0 h with⟨h1,b⟩|⟨i,v,h1,b⟩
  ·exact .inl ⟨by simp[Instr.findKey,aT c,Result.andThen,h1],b⟩
  ·exact .inr ⟨i,v,by simp[Instr.findKey,aT c,Result.andThen,h1],b⟩
def rB.int{b:IntKind}(a:P.underlying k=some (.int b)):rB P k (λn:Int=>.int b n):=
 rB.now a (λx y=>by simp only[Instr.sameNow,df];congr 1) (λw c x=>by
  unfold Instr.checkKey;simp[aT a,Result.andThen]) (λx=>by simp[Instr.sameBits])
end
section
variable{P:Program}{k:TypeId}{κ ν:Type} [DecidableEq κ]{enc:κ->Value}{ev:ν->Value}
def eM(enc:κ->Value)(ev:ν->Value)(w:Wt_)(b:Nat)(L:List (κ×ν)):Prop:=
 (L.map (·.1)).Nodup/\∃es clock,w.heap[b]? =some (.map es clock)/\es.toList.map (λe=>(e.key,e.val))=L.map (λp=>(enc p.1,ev p.2))/\
  (∀x∈es.toList,x.born<clock)/\(es.toList.map (·.born)).Nodup
def eM.keep{w w' :Wt_}{b:Nat}{L:List (κ×ν)}(h:eM enc ev w b L)(e:w'.heap[b]? =w.heap[b]?):eM enc ev w' b L:=by
 obtain⟨f,es,a,c,d⟩:=h;exact⟨f,es,a,by rw[e];exact c,d⟩
def eM.lt{w:Wt_}{b:Nat}{L:List (κ×ν)}(h:eM enc ev w b L):b<w.heap.size:=by
 obtain⟨e,es,a,c,d⟩:=h;exact aB c
def eM.mod{F:NP_}{w w' :Wt_}{b:Nat}{L:List (κ×ν)}(h:eM enc ev w b L)(a:aR F w w')(c:¬F b):eM enc ev w' b L:=
 h.keep (a.blk b h.lt c)
def eM.new(w:Wt_):eM enc ev (w.alloc (.map #[] 0)) w.heap.size ([]:List (κ×ν)):=
 ⟨by simp,#[],0,by rw[er,ae rfl],by simp,by simp,by simp⟩
def qz{es:List MapEntry}{L:List (κ×ν)}(h:es.map (λe=>(e.key,e.val))=L.map (λp=>(enc p.1,ev p.2))):es.map (·.key)=(L.map (·.1)).map enc:=by
 have:=ep (List.map Prod.fst) h;simp only[dQ]at this|-;exact this
def Zh{L:List (κ×ν)}{x:κ}{i:Nat}{p:κ×ν}(h1:L[i]? =some p)(c:p.1=x)(d:∀j,j<i->(L.map (·.1))[j]? ≠some x):lk L x=some p.2:=by
 induction L generalizing i with
 |nil=>simp at h1
 |cons q r f=>
  obtain⟨a,b⟩:=q;cases i with
  |zero=>
   simp only[List.getElem?_cons_zero,gL]at h1;subst h1;simp only at c;simp[lk,c]
  |succ i=>
   have:a≠x:=λe=>d 0 qZ (by simp[e]);simp only[lk,aa this];exact f (by simpa using h1) (λj g=>by grind)
def XM{L:List (κ×ν)}{x:κ}{v:ν}{i:Nat}(h1:(L.map (·.1))[i]? =some x)(d:∀j,j<i->(L.map (·.1))[j]? ≠some x):put L x v=L.set i (x,v):=by
 induction L generalizing i with
 |nil=>simp at h1
 |cons q r c=>
  obtain⟨a,b⟩:=q;cases i with
  |zero=>
   have:a=x:=by simpa using h1
   simp[put,this]
  |succ i=>
   have:a≠x:=λe=>d 0 qZ (by simp[e]);simp only[put,aa this,List.set_cons_succ];rw[c (by simpa using h1) (λj f=>by grind)]
def Yg{L:List (κ×ν)}{x:κ}{i:Nat}(h1:(L.map (·.1))[i]? =some x)(d:∀j,j<i->(L.map (·.1))[j]? ≠some x):Ar L x=L.eraseIdx i:=by
 induction L generalizing i with
 |nil=>simp at h1
 |cons q r c=>
  obtain⟨a,b⟩:=q;cases i with
  |zero=>
   have:a=x:=by simpa using h1
   simp[Ar,this]
  |succ i=>
   have:a≠x:=λe=>d 0 qZ (by simp[e]);simp only[Ar,aa this,jP];rw[c (by simpa using h1) (λj f=>by grind)]
def AE{L:List (κ×ν)}{x:κ}{v:ν}(h:x ∉ L.map (·.1)):put L x v=L++[(x,v)]:=by
 induction L with
 |nil=>rfl
 |cons q r c=>
  obtain⟨a,b⟩:=q;simp only[aI,ax,l9]at h;have h1:¬a=x:=λe=>h.1 e.symm;simp only[put,aa h1,c h.2,eF]
def Ic{L:List (κ×ν)}{x:κ}(h:x ∉ L.map (·.1)):Ar L x=L:=by
 induction L with
 |nil=>rfl
 |cons q r c=>
  obtain⟨a,b⟩:=q;simp only[aI,ax,l9]at h;have h1:¬a=x:=λe=>h.1 e.symm;simp only[Ar,aa h1,c h.2]
def om{α β:Type}(f:α->β):∀(l:List α) (i:Nat),(l.eraseIdx i).map f=(l.map f).eraseIdx i
 | [],_=>rfl
 |_::_,0=>rfl
 |a::l,i+1=>by simp[om f l i]
def lT(P:Program)(t:TypeId):Option Value:=(P.info? t).bind (·.zero)
def zC{t:TypeId}{z:Vt_}(h:lT P t=some z)(w:Wt_):(zeroValue t).run P w=.ok z w:=by
 unfold lT at h;cases a:P.info? t with
 |none=>simp[a]at h
 |some i=>simp[a]at h;simp[zeroValue,typeInfo,a,h]
def Af(enc:κ->Value)(ev:ν->Value)(w:Wt_)(m:Vt_)(L:List (κ×ν)):Prop:=
 (m=.map none/\L=[])\/∃b,m=.map (some b)/\eM enc ev w b L
def mY{t e:TypeId}{w:Wt_}{m:Vt_}{L:List (κ×ν)}{x:κ}{ok:Bool}{z:Vt_}(d:P.underlying t=some (.map k e))(c:rB P k enc)
  (j:lT P e=some z)(u:Af enc ev w m L):
  (Instr.lookup t m (enc x) ok).run P w=.ok (match lk L x with|some v=>if ok then .tuple #[ev v,.bool true]else ev v|none=>if ok then .tuple #[z,.bool false]else z) w:=by
 rcases u with⟨rfl,rfl⟩|⟨b,rfl,A,es,g,h,p,_⟩
 ·rcases c.same w x [] [] rfl with⟨h1,_⟩|⟨i,v,_,a,_⟩
  ·simp[Instr.lookup,aT d,c.check,h1,zC j,Result.andThen,lk]
  ·simp at a
 ·rcases c.same w x es.toList (L.map (·.1)) (qz p)with⟨h1,a⟩|⟨i,v,h1,a,n,q⟩
  ·simp[Instr.lookup,aT d,MapKept.run_getObj_map h,c.check,h1,zC j,Result.andThen,oT a]
  ·have r:i<L.length:=by simpa using(aJ.1 n).1
   have f:L[i]? =some L[i]:=av r;have s:(L[i]).1=x:=by simpa [f]using n
   have y:v=ev (L[i]).2:=by
    have:=ep (λl=>(l[i]?).map Prod.snd) p;simp only[cz,f,Option.map_map,eQ]at this;have o:(es.toList[i]?).map (·.val)=some (ev (L[i]).2):=by grind
    rw[a]at o;exact cZ o
   simp[Instr.lookup,aT d,MapKept.run_getObj_map h,c.check,h1,Result.andThen,Zh f s q,y]
def xC{t e:TypeId}{w:Wt_}{K:aZ}{m:Vt_}{L:List (κ×ν)}{x:κ}(z:Vt_)(c:P.underlying t=some (.map k e))(b:rB P k enc)
  (d:lT P e=some z)(a:Af enc ev w m L)(f:K ((lk L x).elim z ev) w):rx P (jQ t m (enc x) false) w K:=
 kY (by unfold jQ;exact mY c b d a) (by grind)
def xB{t e:TypeId}{w:Wt_}{K:aZ}{m:Vt_}{L:List (κ×ν)}{x:κ}(z:Vt_)(c:P.underlying t=some (.map k e))(b:rB P k enc)
  (d:lT P e=some z)(a:Af enc ev w m L)(f:K (.tuple #[(lk L x).elim z ev,.bool (lk L x).isSome]) w):rx P (jQ t m (enc x) true) w K:=
 kY (by unfold jQ;exact mY c b d a) (by grind)
def D9{t e:TypeId}{w:Wt_}{K:Value->Prop}{m:Vt_}{L:List (κ×ν)}{x:κ}(z:Vt_)(c:P.underlying t=some (.map k e))(b:rB P k enc)
  (d:lT P e=some z)(a:Af enc ev w m L)(f:K (.tuple #[(lk L x).elim z ev,.bool (lk L x).isSome])):ID P (jQ t m (enc x) true) w K:=
 sk (by unfold jQ;exact mY c b d a) (by grind)
def Ow{es:List MapEntry}{L:List (κ×ν)}{i:Nat}{x:κ}{v:ν}{key val:Vt_}(h:es.map (λe=>(e.key,e.val))=L.map (λp=>(enc p.1,ev p.2)))(a:key=enc x)(b:val=ev v):
  (es.modify i λe=>{e with key:=key,val:=val}).map (λe=>(e.key,e.val))=(L.set i (x,v)).map (λp=>(enc p.1,ev p.2)):=by
 subst a b;apply kr;intro j;have f:=ep (λl=>l[j]?) h;simp only[cz]at f;simp only[cz,kV,List.getElem?_set];by_cases c:i=j
 ·subst c;simp only[df];have g:es.length=L.length:=by simpa using ep List.length h
  by_cases d:i<L.length
  ·grind
  ·grind
 ·grind
def CT{t e:TypeId}{w:Wt_}{b:Nat}{L:List (κ×ν)}{x:κ}{v:ν}(B:P.underlying t=some (.map k e))(p:rB P k enc)(F:eM enc ev w b L):
  ∃o,(Instr.mapUpdate t (.map (some b)) (enc x) (ev v)).run P w=.ok () (w.putObj b o)/\eM enc ev (w.putObj b o) b (put L x v):=by
 obtain⟨D,es,a,f,q,r,s⟩:=F;rcases p.same w x es.toList (L.map (·.1)) (qz q)with⟨h1,A⟩|⟨i,u,h1,A,z,E⟩
 ·refine⟨.map (es.push {key:=enc x,val:=ev v,born:=a}) (a+1),?_,Dc D x v,_,_,by rw[dR,ae rfl,f];rfl,?_,?_,?_⟩
  ·simp[Instr.mapUpdate,aT B,MapKept.run_getObj_map f,p.check,h1,MapKept.run_setObj_map _ f,Result.andThen,World.putObj]
  ·simp[q,AE A]
  ·intro y m;simp only[Array.toList_push,bf,cm]at m;rcases m with m|rfl
   ·grind
   ·grind
  ·grind
 ·have h:(Option.map (λe=>e.key) es[i]?).getD (enc x)=enc x:=by
   have:=ep (λl=>l[i]?) (qz q);simp only[cz]at this z;rw[z]at this;rw[kK]at this;rw[this];rfl
  have c:(es.modify i λe=>{e with key:=enc x,val:=ev v}).toList=es.toList.modify i λe=>{e with key:=enc x,val:=ev v}:=by simp
  refine⟨.map (es.modify i λe=>{e with key:=enc x,val:=ev v}) a,?_,Dc D x v,_,_,by rw[dR,ae rfl,f];rfl,?_,?_,?_⟩
  ·simp[Instr.mapUpdate,aT B,MapKept.run_getObj_map f,p.check,h1,MapKept.run_setObj_map _ f,Result.andThen,h,p.stays,World.putObj]
  ·rw[XM z E,c];exact Ow q rfl rfl
  ·rw[c];intro y m;obtain⟨j,n⟩:=List.mem_iff_getElem?.1 m;rw[kV]at n;cases d:es.toList[j]? with
   |none=>simp[d]at n
   |some C=>
    rw[d]at n;replace n:(if i=j then _ else C)=y:=cZ n;have:=r C (dc d);by_cases g:i=j
    ·grind
    ·grind
  ·rw[c]
   have:(es.toList.modify i λe=>{e with key:=enc x,val:=ev v}).map (·.born)=es.toList.map (·.born):=by
    apply kr;intro j;simp only[cz,kV];by_cases g:i=j
    ·grind
    ·simp[g]
   rw[this];exact s
def gZ{t e:TypeId}{w:Wt_}{K:World->Prop}{b:Nat}{L:List (κ×ν)}{x:κ}{v:ν}(i:P.underlying t=some (.map k e))(d:rB P k enc)(c:eM enc ev w b L)
  (g:∀a,eM enc ev a b (put L x v)->aR (λh=>h=b) w a->a.heap.size=w.heap.size->K a):yS P (qX t (.map (some b)) (enc x) (ev v)) w K:=by
 obtain⟨o,h1,f⟩:=CT (v:=v) (x:=x) i d c;exact RU (by unfold qX;exact h1) (g _ f ((aR.refl _ w).putObj (b:=b) (.inl (by simp)) _) (jq ..))
def Dt{t u e:TypeId}{w:Wt_}{K:aZ}{A:TypeId}{m:Vt_}{L:List (κ×ν)}{x:κ}(h:P.underlying t=some (.map k e))(f:rB P k enc)(z:Af enc ev w m L)
  (l:∀d,Af enc ev d m (Ar L x)->aR (λr=>m=.map (some r)) w d->d.heap.size=w.heap.size->K (.tuple #[]) d):rx P (tU #[t,u] A [m,enc x]) w K:=by
 rcases z with⟨rfl,rfl⟩|⟨b,rfl,q,es,a,c,p,n,o⟩
 ·exact py (.tuple #[]) w (by simp[tU,Builtin.delete_,aT h,f.check,Result.andThen]) (l _ (.inl ⟨rfl,rfl⟩) rZ rfl)
 ·rcases f.same w x es.toList (L.map (·.1)) (qz p)with⟨h1,g⟩|⟨i,v,h1,g,y,s⟩
  ·refine py (.tuple #[]) (w.putObj b (.map es a)) (by simp[tU,Builtin.delete_,aT h,MapKept.run_getObj_map c,f.check,h1,MapKept.run_setObj_map _ c,Result.andThen,World.putObj])
    (l _ (.inr ⟨b,rfl,by rw[Ic g];exact q,es,a,by rw[dR,ae rfl,c];rfl,by rw[Ic g];exact p,n,o⟩) ((aR.refl _ w).putObj (b:=b) (.inl (by simp)) _) (jq ..))
  ·have j:(es.eraseIdxIfInBounds i).toList=es.toList.eraseIdx i:=by simp
   refine py (.tuple #[]) (w.putObj b (.map (es.eraseIdxIfInBounds i) a)) (by simp[tU,Builtin.delete_,aT h,MapKept.run_getObj_map c,f.check,h1,MapKept.run_setObj_map _ c,Result.andThen,World.putObj])
    (l _ (.inr ⟨b,rfl,Nj q x,es.eraseIdxIfInBounds i,a,by rw[dR,ae rfl,c];rfl,?_,?_,?_⟩) ((aR.refl _ w).putObj (b:=b) (.inl (by simp)) _) (jq ..))
   ·rw[Yg y s,j,om,p,<-om]
   ·grind
   ·grind
end
end Go.Vc
namespace Go.Vc
open Go Go.ChangeShapes Go.WideShapes Go.ChangeAt Go.RowKit
section
variable{H:Type}{enc:TypeId×Value->H}{P:Program}
def aR.same{W a:Wt_}(h:M0 W a){p:MemPlace}(hp:p.block<W.heap.size):W.sameAt a p:=by
 cases p with
 |cell b o=>exact World.cell?_of_block (w:=W) (h.blk b hp id)
 |map b=>exact h.blk b hp id
def aR.frame{W a:Wt_}(h:M0 W a)(may:MemPlace->Prop):W.keptBut a may:=by
 refine⟨h.os,h.out,λi b=>?_⟩;rw[h.blk i b id];split<;>simp_all
def wm{W k:Wt_}(g:laidOutB P=true)(j:M0 W k):∀{e:List TypeId} {vs:LV_} {ds:List (DataW H)} {a:List MemPlace},
  (∀t∈e,P.readableRec t=true/\t<P.types.size)->(∀x∈a,x.block<W.heap.size)->DataW.TrodAll enc P W 0 (λ_=>true) true e vs ds a->
  DataW.TrodAll enc P k 0 (λb=>decide (b<W.heap.size)) true e vs ds a
 | [],[],[],_,_,_,h=>h
 |t::e,v::vs,d::ds,a,f,hp,⟨p,q,h1,l,m⟩=>by
  subst m;refine⟨p,q,?_,wm g j (λt h=>f t (ag _ h)) (λx c=>hp x (fN _ c)) l,rfl⟩;have i:=f t aw;exact WideElems.Trod_stays g i.1 i.2 h1 (λx c=>j.same (hp x (de _ c))) (λx c=>by grind)
def Iv{f:Func}{s:ChangeSpec}{fresh a:Bool}{W v:Wt_}{b:Array Value}{ds m:List (DataW H)}{c:List MemPlace}{n:TypeId}
  (z:laidOutB P=true)(w:(f.params.toList.all λt=>P.readableRec t&& Nat.blt t P.types.size)=true)(r:s.vars=[])
  (l:DataW.Whole enc P f.params.toList s.vars false W b.toList ds m c)(o:M0 W v)
  (g:f.resultTypes= #[n])(k:P.underlying n=some .bool)(d:s.fn H (ds++m)={results:=[.lit (.bool true)],args:=ds}):
  s.post enc P f false fresh a false W b (.bool true) v:=by
 have e:=l;obtain⟨p,q,y,u,rfl,C,A⟩:=l;rw[r]at u;obtain⟨rfl,rfl⟩:=trodVars_none u
 have j:∀t∈f.params.toList,P.readableRec t=true/\t<P.types.size:=λt h=>by
  have:=bg.1 w t h;simp only[ai,l8]at this;exact this
 have i:=e.lt;refine⟨ds,[],p++[],[],p,[],e,?_,?_,?_,o.frame _,λh=>by cases h⟩
 ·rw[d,g];exact trodAll_cons_mk (shut_bool k true) trodAll_mk0
 ·rw[d];exact wm z o j (λx B=>i x (by simpa using B)) y
 ·rw[r,d];rfl
def Jl{w:Wt_}{a:Addr}{v:Vt_}(h:w.cell? a=some v):a.spot=none/\∃C e c,w.heap[a.block]? =some (.cells C e c)/\C[a.off]? =some v:=by
 unfold World.cell? at h;cases b:w.heap[a.block]? with
 |none=>rw[b]at h;cases h
 |some o=>
  rw[b]at h;cases o<;>simp at h
  obtain⟨d,f⟩:=h;exact⟨d,_,_,_,rfl,f⟩
def Ht{w:Wt_}{a:Addr}{n cap sz:Nat}{cs:LV_}(s:n<=cap)(j:cs.length=n*sz)(d:∀i v,cs[i]? =some v->w.cell? (a.add i)=some v)(q:0<sz):Rd w sz (.slice (some a) n cap) n cs:=by
 by_cases m:n=0
 ·subst m;exact⟨j,.inl ⟨rfl,_,_,rfl⟩⟩
 have f:0<cs.length:=by rw[j];exact Nat.mul_pos qZ q
 obtain⟨b,c,k⟩:=a;obtain⟨g,C,e,o,hC,-⟩:=Jl (by have:=d 0 _ (av f);simpa [Addr.add]using this);simp only at g hC;subst g
 have h:∀i v,cs[i]? =some v->C[c+i]? =some v:=by
  intro i v l;have h1:=d i v l;have r:(Addr.add ⟨b,c,none⟩ i)=⟨b,c+i,none⟩:=bK b c i;rw[r]at h1;simpa [World.cell?,hC]using h1
 have p:c+(cs.length - 1)<C.size:=(ji.1 (h (cs.length - 1) _ (av qZ))).1;refine⟨j,.inr ⟨b,c,cap,rfl,s,C,e,o,hC,qZ,?_⟩⟩;apply kr;intro i;rw[fj];by_cases l:i<cs.length
 ·grind
 ·grind
end
section
variable{H:Type}{enc:TypeId×Value->H}{P:Program}{w:Wt_}{base:Nat}{spare:Nat->Bool}{held:Bool}
def Wt(P:Program)(B:Nat)(t:TypeId)(d:DataW H):Prop:=∀m∈d.weights P t,m<=B
def uO{e:TypeId}:∀{l:List (DataW H)} {d:DataW H},d∈l->∀m∈d.weights P e,m∈DataW.weightsAll P e l
 |a::l,d,b,m,c=>by
  simp only[DataW.weightsAll,bf];rcases ax.1 b with rfl|b
  ·exact .inl c
  ·exact .inr (uO b m c)
def xY{g:Field->Option (DataW H×List MemPlace)}:∀{l:List Field} {r:List (DataW H×List MemPlace)},l.mapM g=some r->∀f∈l,∃y,g f=some y/\∀m∈y.1.weights P f.type,m∈DataW.weightsEach P (l.map (·.type)) (r.map (·.1))
 | [],_,_,x,c=>by cases c
 |a::l,r,h,x,c=>by
  rw[pu]at h;cases e:g a with
  |none=>simp[e]at h
  |some b=>
   cases d:l.mapM g with
   |none=>simp[e,d]at h
   |some k=>
    simp[e,d]at h;subst h;simp only[aI,DataW.weightsEach,bf];rcases ax.1 c with rfl|c
    ·grind
    ·obtain⟨y,h1,i⟩:=xY d x c;exact⟨y,h1,λm j=>.inr (i m j)⟩
def Wt.slice{t e:TypeId}{B:Nat}{l r:List (DataW H)}(c:P.underlying t=some (.slice e))(h:Wt P B t (.slice l r)):(l.length+r.length)*P.bytesOf e<=B/\∀d∈l,Wt P B e d:=by
 unfold Wt at h;simp only[DataW.weights,c,ax,bf]at h;exact⟨h _ (.inl rfl),λd a m b=>h m (.inr (.inl (uO a m b)))⟩
def U6{t e:TypeId}{sz:Nat}{m:Nat}{cs:LV_}{x:DataW H×List MemPlace}(G:P.underlying t=some (.slice e))(hc:P.cellsOf e=sz)(D:0<sz)
  {B:Nat}(N:DataW.trod enc P w base spare held m t cs=some x)(Z:Wt P B t x.1):
  ∃v,cs=[v]/\∃L:List (List Value),Rd w sz v L.length L.flatten/\L.length*P.bytesOf e<=B/\∀c∈L,c.length=sz/\∃W y,DataW.trod enc P w base spare held W e c=some y/\Wt P B e y.1:=by
 rcases DataW.trod_slice G N with⟨rfl,-⟩|⟨a,len,O,z,rest,n,hf,rfl,rfl,hb,U,hm,K,A,Y,S⟩
 ·exact⟨_,rfl,[],⟨by simp,.inl ⟨rfl,_,_,rfl⟩⟩,by simp,by simp⟩
 ·obtain⟨u,E⟩:=Z.slice G
  have l:∀i,i<len->∃c,w.cells? base (a.add (i*sz)) sz=some c/\∃y,DataW.trod enc P w base spare held n e c=some y/\Wt P B e y.1:=by
   intro i b;have h1:=A i b;rw[av qZ,hc,Option.bind_eq_some_iff]at h1;obtain⟨c,g,q⟩:=h1;exact⟨c,g,_,q,E _ (aL.2 ⟨_,aq _,rfl⟩)⟩
  have Q:∀k,k<=len->∃L:List (List Value),L.length=k/\∀i (b:i<L.length),w.cells? base (a.add (i*sz)) sz=some L[i]/\∃y,DataW.trod enc P w base spare held n e L[i]=some y/\Wt P B e y.1:=by
   intro k;induction k with
   |zero=>exact λ_=>⟨[],rfl,λi b=>by simp at b⟩
   |succ k o=>
    intro hk;obtain⟨L,h1,g⟩:=o qZ;obtain⟨c,q,I⟩:=l k qZ;refine⟨L++[c],by simp[h1],λi b=>?_⟩;by_cases R:i<L.length
    ·grind
    ·grind
  obtain⟨L,h1,g⟩:=Q len (aD _)
  have d:∀c∈L,c.length=sz:=by
   intro c f;obtain⟨i,b,rfl⟩:=bQ f;exact(World.cells?_some (g i b).1).2.1
  have V:∀(M:List (List Value)),(∀c∈M,c.length=sz)->M.flatten.length=M.length*sz:=by
   intro M;induction M with
   |nil=>intro _;simp
   |cons c M o=>
    intro j;rw[List.flatten_cons,af,o λc h=>j c (ag _ h),j c aw,be,ot,ov]
  have p:∀(M:List (List Value)),(∀c∈M,c.length=sz)->∀i v,M.flatten[i]? =some v->∃h:i / sz<M.length,M[i / sz][i%sz]? =some v:=by
   intro M;induction M with
   |nil=>intro _ i v h;simp at h
   |cons c M o=>
    intro j i v h;have F:=j c aw;rw[List.flatten_cons]at h;by_cases b:i<sz
    ·rw[cg qZ]at h;rw[Nat.div_eq_of_lt b,nP b];exact⟨by simp,by simpa using h⟩
    ·rw[bp qZ,F]at h;obtain⟨h1,g⟩:=o (λc h=>j c (ag _ h)) (i - sz) v h
     have r:i / sz=(i - sz) / sz+1:=by
      rw[Nat.div_eq_sub_div D qZ]
     have C:i%sz=(i - sz)%sz:=by
      rw[Nat.mod_eq_sub_mod qZ]
     refine⟨by grind,?_⟩;simp only[r,C,iB];exact g
  refine⟨_,rfl,L,?_,ck (cH _ (by simp;omega)) u,λc f=>⟨d c f,?_⟩⟩
  ·rw[h1];refine Ht U (by grind) (λi v b=>?_) D;obtain⟨q,I⟩:=p L d i v b;obtain⟨h5,X⟩:=World.cells?_some (g _ q).1 |>.2
   have s:=gx i D;have J:=X (i%sz) s
   have e:((a.add (i / sz*sz)).add (i%sz))=a.add i:=by
    have T:i / sz*sz+i%sz=i:=by rw[eA];exact lO i sz
    conv=>rhs;rw[<-T]
    simp only[Addr.add];by_cases r:i / sz*sz=0
    ·simp[r]
    ·by_cases C:i%sz=0
     ·simp[C,r]
     ·grind
   rw[e]at J;rw[J];exact I
  ·obtain⟨i,b,rfl⟩:=bQ f;exact⟨n,(g i b).2⟩
def DZ{t:TypeId}{d:Array Field}{a:Nat}{cs:LV_}{x:DataW H×List MemPlace}{B:Nat}(c:P.underlying t=some (.struct d))(b:DataW.trod enc P w base spare held a t cs=some x)(k:Wt P B t x.1):
  ∀f∈d.toList,∃i y,DataW.trod enc P w base spare held i f.type ((cs.drop f.offset).take (P.cellsOf f.type))=some y/\Wt P B f.type y.1:=by
 cases a with
 |zero=>simp[DataW.trod]at b
 |succ n=>
  intro f g;simp only[DataW.trod,c]at b;split at b
  ·rw[Option.map_eq_some_iff]at b;obtain⟨l,h1,rfl⟩:=b;obtain⟨y,h,e⟩:=xY (P:=P) h1 f g;refine⟨n,y,h,λm j=>k m ?_⟩;simp only[DataW.weights,c];exact e m j
  ·cases b
end
end Go.Vc
namespace Go.Proofs
open Go Go.Vc
noncomputable abbrev pQ:=Tryz.prog
def Tryz.noNum:uD Tryz.prog=true:=cV
end Go.Proofs
namespace Go.Vc
open Go Go.Vc
structure BB(P:Program)(gv:Vt_)(xs:List (List Value))(Ok:World->Prop):Prop where
 out:∃f first captured,gv=.func (.func f) first captured/\∀(y:Vt_) (J:(Nat->Prop)->Nat->World->Prop) (Js:World->Prop) (W:Wt_) (K:aZ),Ok W->
  (∀Q W1,M0 W W1->(∀b,Q b->W.heap.size<=b/\b<W1.heap.size)->J Q 0 W1)->
  (∀Q i W W',J Q i W->M0 W W' ->J Q i W')->
  (∀Q i x W,xs[i]? =some x->J Q i W->∀K' :aZ,(∀W',J Q (i+1) W' ->(∀b,Q b->W'.heap[b]? =W.heap[b]?)->K' (.bool true) W')->(∀W',Js W' ->K' (.bool false) W')->lA P y x W K')->
  (∀Q W,J Q xs.length W->K (.tuple #[]) W)->(∀W,Js W->K (.tuple #[]) W)->Ca P f ⟨first.toList++(y::captured.toList)⟩ W K
def rI{l:Nat}{W:Wt_}{K:World->Prop}{r:Loop}(h:W.heap[l]? =some (.loop r))(hs:r.state=.ready)(a:K (W.putObj l (.loop {r with state:=.busy}))):qt l W K:=
 ⟨⟨r,h,hs,a⟩⟩
section
variable{P:Program}{gv:Vt_}{w1:Wt_}{np:Nat}{rnd:Nat->List Value->World->(World->Prop)->(Code->World->Prop)->Prop}{after:List Nat->Option Code->World->Prop}
 {xs:List (List Value)}{Ok:World->Prop}
def TQ{f:FuncId}{first e:Array Value}{mk:List Nat}
  (B:∀(y:Vt_) (J:(Nat->Prop)->Nat->World->Prop) (V:World->Prop) (W:Wt_) (K:aZ),Ok W->
   (∀Q z,M0 W z->(∀b,Q b->W.heap.size<=b/\b<z.heap.size)->J Q 0 z)->
   (∀Q i W a,J Q i W->M0 W a->J Q i a)->
   (∀Q i x W,xs[i]? =some x->J Q i W->∀u:aZ,(∀a,J Q (i+1) a->(∀b,Q b->a.heap[b]? =W.heap[b]?)->u (.bool true) a)->(∀a,V a->u (.bool false) a)->lA P y x W u)->
   (∀Q W,J Q xs.length W->K (.tuple #[]) W)->(∀W,V W->K (.tuple #[]) W)->Ca P f ⟨first.toList++(y::e.toList)⟩ W K)
  (O:∀x∈xs,x.length=np)(J:(Nat->Prop)->Nat->World->Prop)(I:Code->World->Prop)
  (N:∀o,Ok (w1.alloc (.loop o)))
  (Y:∀o Q W,M0 (w1.alloc (.loop o)) W->(∀b,Q b->w1.heap.size<b/\b<W.heap.size)->J Q 0 W)
  (l:∀Q i W a,J Q i W->aR (λb=>b=w1.heap.size) W a->J Q i a)
  (q:∀Q i x W r,xs[i]? =some x->J Q i W->W.heap[w1.heap.size]? =some (.loop r)->r.state=.ready->∀R S,
   (∀a,J Q (i+1) a->a.heap[w1.heap.size]? =some (.loop {r with state:=.busy})->(∀b,Q b->a.heap[b]? =W.heap[b]?)->R a)->
   (∀c a,I c a->a.heap[w1.heap.size]? =some (.loop {r with state:=.busy})->S c a)->rnd w1.heap.size x W R S)
  (v:∀Q W o,J Q xs.length W->after mk none (W.putObj w1.heap.size (.loop o)))
  (s:∀c W o,I c W->after mk (some c) (W.putObj w1.heap.size (.loop o)))
  (d:Loop)(g:d.state=.ready)(j:d.pending=none)
  (hY:∀(h:LV_) (W:Wt_) (K:aZ),h.length=np->QC W w1.heap.size d->
    rnd w1.heap.size h W
     (λa=>∃r,uC a w1.heap.size r/\K (.bool true) (a.putObj w1.heap.size (.loop {r with state:=.ready,pending:=none})))
     (λc a=>∃r,uC a w1.heap.size r/\K (.bool false) (a.putObj w1.heap.size (.loop {r with state:=.done,pending:=some c})))->
    Yl P w1.heap.size ⟨h⟩ W K):
  Ca P f ⟨first.toList++(.func (.yield w1.heap.size) #[] #[]::e.toList)⟩ (w1.alloc (.loop d)) λ_ W=>
    ∃r,uC W w1.heap.size r/\r.state≠ .busy/\after mk r.pending (W.putObj w1.heap.size (.loop {r with state:=.exhausted})):=by
 have D:∀(W:Wt_) (o:Obj),aR (λb=>b=w1.heap.size) W (W.putObj w1.heap.size o):=λW o=>(aR.refl _ W).putObj (b:=w1.heap.size) (.inl (by simp)) o;have n:(w1.alloc (.loop d)).heap[w1.heap.size]? =some (.loop d):=by rw[er,ae rfl]
 have T:(w1.alloc (.loop d)).heap.size=w1.heap.size+1:=cw ..
 refine B _ (λQ i W=>J Q i W/\W.heap[w1.heap.size]? =some (.loop d)/\∀b,Q b->w1.heap.size<b)
  (λW=>∃c r t,I c t/\W=t.putObj w1.heap.size (.loop r)/\W.heap[w1.heap.size]? =some (.loop r)/\r.state=.done/\r.pending=some c) _ _ (N d) ?_ ?_ ?_ ?_ ?_
 ·intro Q z C w;refine⟨Y d Q z C λb E=>⟨?_,(w b E).2⟩,C.keep n id,λb E=>?_⟩
  ·grind
  ·grind
 ·rintro Q i W a ⟨A,m,w⟩ C;exact⟨l Q i W a A (C.mono λ_ _ hf=>hf.elim),C.keep m id,w⟩
 ·rintro Q i x W U ⟨A,m,w⟩ u hT hF;apply kf.2;show Yl P w1.heap.size ⟨_⟩ W u;have F:x.length=np:=O x (dc U);have e1:(#[]:Array Value).toList++x=x:=rfl;rw[e1];apply hY x W u F ⟨d.state,d.pending,m⟩;refine q Q i x W d U A m g _ _ ?_ ?_
  ·intro a G k Z;refine⟨_,k,hT _ ⟨l _ _ _ _ G (D _ _),?_,w⟩ λb E=>?_⟩
   ·rw[dR,ae rfl,k];simp[<-g,<-j]
   ·rw[dR,aa (by grind)];exact Z b E
  ·intro c a p k;refine⟨_,k,hF _ ⟨c,{d with state:=.done,pending:=some c},a,p,rfl,?_,rfl,rfl⟩⟩;rw[dR,ae rfl,k];rfl
 ·rintro Q W ⟨A,m,_⟩;refine⟨d,m,by rw[g];decide,?_⟩;rw[j];exact v Q W _ A
 ·rintro W ⟨c,r,t,p,rfl,m,L,H⟩;refine⟨r,m,by rw[L];decide,?_⟩
  have X:∀o M:Obj,(t.putObj w1.heap.size o).putObj w1.heap.size M=t.putObj w1.heap.size M:=λo M=>by
   simp[World.putObj]
  rw[X,H];exact s c t _ p
def Ie{w:Wt_}(hit:BB P gv xs Ok)(l:∀x∈xs,x.length=np)(J:(Nat->Prop)->Nat->World->Prop)(k:Code->World->Prop)
  (q:∀o,Ok ((w.alloc (.deferred (some []))).alloc (.loop o)))
  (z:∀o Q W,M0 ((w.alloc (.deferred (some []))).alloc (.loop o)) W->(∀b,Q b->w.heap.size+1<b/\b<W.heap.size)->J Q 0 W)
  (u:∀Q i W a,J Q i W->aR (λb=>b=w.heap.size+1) W a->J Q i a)
  (n:∀Q i x W r,xs[i]? =some x->J Q i W->W.heap[w.heap.size+1]? =some (.loop r)->r.state=.ready->∀s v,
   (∀a,J Q (i+1) a->a.heap[w.heap.size+1]? =some (.loop {r with state:=.busy})->(∀b,Q b->a.heap[b]? =W.heap[b]?)->s a)->
   (∀c a,k c a->a.heap[w.heap.size+1]? =some (.loop {r with state:=.busy})->v c a)->rnd (w.heap.size+1) x W s v)
  (t:∀Q W o,J Q xs.length W->after [w.heap.size] none (W.putObj (w.heap.size+1) (.loop o)))
  (p:∀c W o,k c W->after [w.heap.size] (some c) (W.putObj (w.heap.size+1) (.loop o))):
  FO P none gv w np rnd after:=by
 obtain⟨f,first,g,rfl,h⟩:=hit.out;apply t0.2;show∀j:Loop,_;intro j d e A y;have m:(w.alloc (.deferred (some []))).heap.size=w.heap.size+1:=cw ..;refine TQ (w1:=w.alloc (.deferred (some []))) h l J k q ?_ ?_ ?_ ?_ ?_ j d e y
 all_goals rw[m]
 all_goals assumption
end
end Go.Vc
namespace Go.Vc
open Go Go.Vc
variable {sz n:Nat}{P:Program}{s:Sem Value}{e t:TypeId}{v:Vt_}{w w' :Wt_}{K:aZ}
def KW{C xs a:LV_}{o:Nat}(h:o+xs.length+a.length<=C.length):jp (jp C o xs) (o+xs.length) a=jp C o (xs++a):=by
 unfold jp
 have h1:(C.take o++xs++C.drop (o+xs.length)).take (o+xs.length)=C.take o++xs:=by
  rw[aO (by simp;omega),aC (by simp;omega)]
 have b:(C.take o++xs++C.drop (o+xs.length)).drop (o+xs.length+a.length)=C.drop (o+(xs++a).length):=by
  rw[nH,List.drop_eq_nil_of_le (by simp;omega),dL,cL];congr 1;simp;omega
 rw[h1,b];simp[ar]
section
variable{P:Program}{k:TypeId}{κ ν:Type}{enc:κ->Value}{ev:ν->Value}
def lz(enc:κ->Value)(ev:ν->Value)(w:Wt_)(it m:Nat)(rest:List (κ×ν)):Prop:=
 ∃es clock seen,w.heap[m]? =some (.map es clock)/\w.heap[it]? =some (.mapIter (some m) clock seen clock)/\(∀x∈es.toList,x.born<clock)/\(es.toList.map (·.born)).Nodup/\
  (es.toList.filter λe=> !seen.contains e.born).map (λe=>(e.key,e.val))=rest.map (λp=>(enc p.1,ev p.2))
def lz.keep{w w' :Wt_}{it m:Nat}{rest:List (κ×ν)}(h:lz enc ev w it m rest)(h1:w'.heap[m]? =w.heap[m]?)(c:w'.heap[it]? =w.heap[it]?):lz enc ev w' it m rest:=by
 obtain⟨es,a,seen,b,e,d⟩:=h;exact⟨es,a,seen,by rw[h1];exact b,by rw[c];exact e,d⟩
def lz.lt{w:Wt_}{it m:Nat}{rest:List (κ×ν)}(h:lz enc ev w it m rest):m<w.heap.size/\it<w.heap.size:=by
 obtain⟨es,a,seen,b,c,d⟩:=h;exact⟨aB b,aB c⟩
def lz.mod{F:NP_}{w w' :Wt_}{it m:Nat}{rest:List (κ×ν)}(h:lz enc ev w it m rest)(a:aR F w w')(h1:¬F m)(b:¬F it):lz enc ev w' it m rest:=
 h.keep (a.blk m h.lt.1 h1) (a.blk it h.lt.2 b)
def rY(it m:Nat)(w:Wt_):Nat:=
 match w.heap[it]?,w.heap[m]? with
 |some (.mapIter _ _ seen _),some (.map es _)=>(es.toList.filter λe=> !seen.contains e.born).length
 |_,_=>0
def lz.left{w:Wt_}{it m:Nat}{rest:List (κ×ν)}(h:lz enc ev w it m rest):rY it m w=rest.length:=by
 obtain⟨es,a,seen,b,d,_,_,c⟩:=h;unfold rY;rw[b,d];simpa using ep List.length c
def tM [DecidableEq κ]{t e:TypeId}{w:Wt_}{K:aZ}{b:Nat}{L:List (κ×ν)}(l:P.underlying t=some (.map k e))(h:eM enc ev w b L)
  (j:∀d,lz enc ev d w.heap.size b L->M0 w d->K (bO w.heap.size 0) d):rx P (Bo t (.map (some b))) w K:=by
 obtain⟨m,es,a,g,i,c,f⟩:=h;refine py (bO w.heap.size 0) (w.alloc (.mapIter (some b) a #[] a)) ?_ (j _ ⟨es,a,#[],?_,?_,c,f,?_⟩ mG)
 ·simp[Bo,Instr.range,aT l,MapKept.run_getObj_map g,Result.andThen]
 ·rw[er,aa (by grind)];exact g
 ·rw[er,ae rfl]
 ·rw[<-i];congr 1;exact cO.2 λ_ _=>by simp
def qY{w:Wt_}{r:Nat}{m:Option Nat}{a:Nat}{s:Array Nat}{c:Nat}(b:w.heap[r]? =some (.mapIter m a s c)):(getObj r).run P w=.ok (.mapIter m a s c) w:=by
 simp[getObj,Sem.run,b]
def Ak{w:Wt_}{r:Nat}{m:Option Nat}{a:Nat}{s:Array Nat}{c:Nat}(o:Obj)(b:w.heap[r]? =some (.mapIter m a s c)):(setObj r o).run P w=.ok () (w.putObj r o):=by
 simp[setObj,Sem.run,b,World.putObj]
def yL(enc:κ->Value)(ev:ν->Value)(w:Wt_)(it m:Nat)(p:κ×ν):Prop:=
 ∃es clock since seen stamp e,w.heap[m]? =some (.map es clock)/\w.heap[it]? =some (.mapIter (some m) since seen clock)/\seen.back? =some stamp/\es.find? (λx=>x.born==stamp)=some e/\e.key=enc p.1/\e.val=ev p.2
def yL.mod{F:NP_}{w w' :Wt_}{it m:Nat}{p:κ×ν}(h:yL enc ev w it m p)(g:aR F w w')(h1:¬F m)(i:¬F it):yL enc ev w' it m p:=by
 obtain⟨es,d,c,seen,f,e,a,b,r⟩:=h;exact⟨es,d,c,seen,f,e,g.keep a h1,g.keep b i,r⟩
def tv{w:Wt_}{K:aZ}{it m:Nat}{p:κ×ν}(h:yL enc ev w it m p)(g:K (.tuple #[enc p.1,ev p.2]) w):rx P (Bq (bO it 0)) w K:=by
 obtain⟨es,b,a,seen,c,e,l,j,d,i,f,n⟩:=h;refine kY ?_ g;simp[Bq,Instr.entry,qY j,MapKept.run_getObj_map l,Result.andThen,d,i,f,n]
def ML{l:List MapEntry}{x:MapEntry}(b:(l.map (·.born)).Nodup)(a:x∈l):l.find? (λe=>e.born==x.born)=some x:=by
 induction l with
 |nil=>cases a
 |cons y l c=>
  simp only[aI,ce]at b;rcases ax.1 a with rfl|a
  ·simp
  ·grind
def HZ(es:List MapEntry)(seen:Array Nat)(x:MapEntry)(c:(es.map (·.born)).Nodup)(g:x∈es)(hs: !seen.contains x.born)(i:Nat)
  (hi:(es.filter λe=> !seen.contains e.born)[i]? =some x):
  es.filter (λe=> !(seen.push x.born).contains e.born)=(es.filter λe=> !seen.contains e.born).eraseIdx i:=by
 have d:es.filter (λe=> !(seen.push x.born).contains e.born)=(es.filter λe=> !seen.contains e.born).filter (λe=> !(e.born==x.born)):=by
  rw[gt];apply dM;intro e _;simp only[Array.contains_push,Bool.not_or];rw[Bool.and_comm]
 rw[d];have a:((es.filter λe=> !seen.contains e.born).map (·.born)).Nodup:=c.sublist (eI.map _);generalize(es.filter λe=> !seen.contains e.born)=l at hi a;clear d hs g c;induction l generalizing i with
 |nil=>simp at hi
 |cons y l j=>
  simp only[aI,ce]at a;cases i with
  |zero=>
   have:y=x:=by simpa using hi
   subst this;rw[aV (by simp)];simp only[List.eraseIdx_cons_zero];refine cO.2 λz f=>?_;have:z.born≠y.born:=λh=>a.1 (h▸aX f);simpa using this
  |succ i=>
   have b:x∈l:=dc (by simpa using hi);have:y.born≠x.born:=λh=>a.1 (h▸aX b);rw[bL (by simpa using this)];simp only[jP];rw[j i (by simpa using hi) a.2]
def vY{t:TypeId}{w:Wt_}{K:aZ}{it m:Nat}{rest:List (κ×ν)}(h:lz enc ev w it m rest)
  (Y:rest=[]->∀s,M0 w s->s.heap=w.heap->K (.tuple #[.bool false]) s)
  (h1:∀i p,rest[i]? =some p->∀s,lz enc ev s it m (rest.eraseIdx i)->yL enc ev s it m p->aR (λb=>b=it) w s->s.heap.size=w.heap.size->K (.tuple #[.bool true,enc p.1,ev p.2]) s):
  rx P (Ea (bO it 0) false t) w K:=by
 obtain⟨es,a,seen,J,L,u,D,R⟩:=h
 have f:(!seen.isEmpty&& !es.isEmpty&& es.all (λx=>decide (x.born≥a)))=false:=by
  cases r:es.isEmpty with
  |true=>simp
  |false=>
   have O:0<es.size:=by
    rcases Nat.eq_zero_or_pos es.size with h|h
    ·rw[Array.isEmpty_iff.2 (ib h)]at r;cases r
    ·exact h
   have:(es.all λx=>decide (x.born≥a))=false:=by
    rw[eJ];intro X;have h2:=u es[0] (by simp);have Z:=Array.all_eq_true.1 X 0 O;simp at Z;omega
   rw[this];simp
 have g:(es.filter λe=> !seen.contains e.born).filter (λe=>decide (e.born<a))=es.filter λe=> !seen.contains e.born:=by
  refine Array.filter_eq_self.2 λx F=>?_;exact aW (u x (by simpa using(Array.mem_filter.1 F).1))
 have j:(es.filter λe=> !seen.contains e.born).filter (λe=>decide (e.born≥a))= #[]:=by
  refine Array.filter_eq_empty_iff.2 λx F=>?_;have:=u x (by simpa using(Array.mem_filter.1 F).1);simp;omega
 have c:(es.filter λe=> !seen.contains e.born).toList=es.toList.filter λe=> !seen.contains e.born:=by simp
 generalize T:(es.filter λe=> !seen.contains e.born)=left at g j c
 have v:left.size=rest.length:=by
  rw[<-Array.length_toList,c];simpa using ep List.length R
 by_cases U:rest=[]
 ·subst U;have N:left= #[]:=ib (by simpa using v);subst N
  have n:(Instr.next (bO it 0) false t).run P w=.ok (.tuple #[.bool false]) w:=by
   unfold Instr.next;simp only[dw,qY L,MapKept.run_getObj_map J,Result.andThen];rw[f];simp only[bi,dg];rw[T,g,j];have Q:((if(#[]:Array MapEntry).isEmpty=true then #[none]else #[])++((#[]:Array MapEntry)++ #[]).map some)= #[none]:=by simp
   rw[Q];simp[run_choose,Question.forced,Result.andThen]
  exact kY (by unfold Ea;exact n) (Y rfl w rZ rfl)
 ·have d:0<left.size:=by
   rw[v];exact List.length_pos_iff.2 U
  have r:left.isEmpty=false:=by
   cases h:left.isEmpty with
   |false=>rfl
   |true=>rw[Array.isEmpty_iff.1 h]at d;simp at d
  obtain⟨i,q,M,I,B⟩:∃(i:Nat) (q:Wt_),i<left.size/\(q=w\/q=w.drew)/\(choose (Question.mapNext left.size)).run P w=.ok i q:=by
   by_cases V:(Question.mapNext left.size).forced=true
   ·exact⟨0,w,d,.inl rfl,by rw[run_choose,ae V]⟩
   ·refine⟨_,w.drew,?_,.inr rfl,by rw[run_choose,aa V];rfl⟩;exact gx _ d
  have F:left[i]? =some left[i]:=gG M
  have z:(es.toList.filter λe=> !seen.contains e.born)[i]? =some left[i]:=by
   rw[<-c,kK];exact F
  have E:=dc z;have H:i<rest.length:=qZ
  have hp:(left[i].key,left[i].val)=(enc rest[i].1,ev rest[i].2):=by
   have:=ep (λl=>l[i]?) R;simp only[cz,z,av H,eQ,gL]at this;exact this
  have o:q.heap=w.heap:=by rcases I with rfl|rfl<;>rfl
  have A:q.heap[it]? =some (.mapIter (some m) a seen a):=by rw[o];exact L
  have G:q.heap[m]? =some (.map es a):=by rw[o];exact J
  have C:aR (λb=>b=it) w q:=by
   rcases I with rfl|rfl
   ·exact rZ
   ·exact(aR.refl _ _).drew
  have y:it≠m:=by
   intro h;subst h;rw[L]at J;cases J
  have n:(Instr.next (bO it 0) false t).run P w=.ok (.tuple #[.bool true,left[i].key,left[i].val]) (q.putObj it (.mapIter (some m) a (seen.push left[i].born) a)):=by
   unfold Instr.next;simp only[dw,qY L,MapKept.run_getObj_map J,Result.andThen];rw[f];simp only[bi,dg];rw[T,g,j,r];have Q:((if false=true then #[none]else #[])++(left++ #[]).map some)=left.map some:=by simp
   rw[Q];simp only[dw,ir,Array.size_map,B,Result.andThen,Array.getElem?_map,F,eQ,Ak _ A]
  apply kY (by unfold Ea;exact n);have S:left[i].key=enc rest[i].1:=(Prod.mk.inj hp).1;have W:left[i].val=ev rest[i].2:=(Prod.mk.inj hp).2;rw[S,W];refine h1 i rest[i] (av H) _ ⟨es,a,seen.push left[i].born,?_,?_,u,D,?_⟩ ?_ (C.putObj (.inl rfl) _) ?_
  ·rw[dR,aa (λe=>y e.symm)];exact G
  ·rw[dR,ae rfl,A];rfl
  ·rw[HZ es.toList seen left[i] D (aU.1 E).1 (aU.1 E).2 i z,om,R,<-om]
  ·refine⟨es,a,a,seen.push left[i].born,left[i].born,left[i],?_,?_,by simp,?_,S,W⟩
   ·rw[dR,aa (λe=>y e.symm)];exact G
   ·rw[dR,ae rfl,A];rfl
   ·rw[<-Array.find?_toList];exact ML D (aU.1 E).1
  ·rw[jq,o]
end
def qx{h:TypeId}{len:Nat}{cs:Array Value}{k:IntKind}{i:Nat}(j:P.underlying h=some (.array len e))(f:mh P e=false)(g:(P.underlying e).isSome=true)(l:P.cellsOf e=0+1)(hi:i<len)(m:cs[i]? =some v):
  (Instr.index h (.agg cs) (.int k i)).run P w=.ok v w:=by
 have c:(i:Int)<len:=qZ
 have b:(isAgg e).run P w=.ok false w:=by
  unfold isAgg;unfold mh at f;cases a:P.underlying e with
  |none=>rw[a]at g;cases g
  |some d=>
   rw[a]at f;simp only[dw,aT a,Result.andThen];cases d<;>first|rfl|(simp at f)
 simp[Instr.index,aT j,Result.andThen,c,hi,lI l,part,b,asIntOf,m]
def yR{κ ν:Type} [DecidableEq κ]{enc:κ->Value}{ev:ν->Value}{t k e:TypeId}{w:Wt_}{m:Vt_}{L:List (κ×ν)}{x:κ}{z:Vt_}(d:P.underlying t=some (.map k e))(b:rB P k enc)
  (c:lT P e=some z)(a:Af enc ev w m L):(jQ t m (enc x) true).run P w=.ok (.tuple #[(lk L x).elim z ev,.bool (lk L x).isSome]) w:=by
 unfold jQ;rw[mY d b c a];cases lk L x<;>rfl
def Ko{κ ν:Type} [DecidableEq κ]{enc:κ->Value}{ev:ν->Value}{t k e ty:TypeId}{w:Wt_}{b:Nat}{L:List (κ×ν)}(c:P.underlying t=some (.map k e))(h:eM enc ev w b L):
  (Builtin.len_ #[t] ty #[.map (some b)]).run P w=.ok (gI L.length) w:=by
 obtain⟨i,es,a,d,g,_⟩:=h;have f:es.size=L.length:=by simpa using ep List.length g
 simp[Builtin.len_,aT c,MapKept.run_getObj_map d,Result.andThen,goInt,f]
def oe{α:Type}{l:List α}{i:Nat}{p:α}(h:l[i]? =some p):l.Perm (p::l.eraseIdx i):=by
 induction l generalizing i with
 |nil=>simp at h
 |cons x l a=>
  cases i with
  |zero=>
   have:x=p:=by simpa using h
   subst this;exact cS _
  |succ i=>
   simp only[jP];exact((a (by simpa using h)).cons x).trans (List.Perm.swap ..)
def d8{S:Type}{body:S->World->(S->World->Prop)->Prop}{s:S}(I:S->World->Prop)(m:S->World->Nat)(e:I s w)
  (h:∀s w,I s w->∀c:S->World->Prop,(∀a b,I a b->m a b<m s w->c a b)->body s w c):oJ body s w:=
 ⟨⟨I,m,e,λs w f=>h s w f _ λ_ _ h1 d=>⟨h1,d⟩⟩⟩
def bj{f:FuncId}{b a:Array Value}(h1:b=a)(c:w=w'):Ca P f b w K=Ca P f a w' K:=by subst h1 c;rfl
def bo(h:s.run P w=.ok v w')(a:K v w'):rv P s w K:=by
 rw[B4];unfold Wn;rw[h];exact a
def ao(v:Vt_)(w' :Wt_)(h:s.run P w=.ok v w')(a:K v w'):rv P s w K:=bo h a
def iE{s:Sem Unit}{K:World->Prop}(h:s.run P w=.ok () w')(a:K w'):ru P s w K:=by
 rw[Bv];unfold V3;rw[h];exact a
def nE{s:Sem Unit}{K:World->Prop}(w' :Wt_)(h:s.run P w=.ok () w')(a:K w'):ru P s w K:=iE h a
def uz{s:Sem Next}(h:s.run P w=.ok (.value v) w')(a:K v w'):rn P s w K:=by
 rw[pV];unfold OZ;rw[h];exact a
def iI{s:Sem Next}(v:Vt_)(w' :Wt_)(h:s.run P w=.ok (.value v) w')(a:K v w'):rn P s w K:=uz h a
def cK{K:Value->Prop}(h:s.run P w=.ok v w)(a:K v):nV P s w K:=by
 rw[yn];unfold GV;rw[h];exact⟨rfl,a⟩
def lN{K:Value->Prop}(v:Vt_)(h:s.run P w=.ok v w)(a:K v):nV P s w K:=cK h a
def cx{K:Value->Prop}(h:∀w,s.run P w=.ok v w)(a:K v):jC P s K:=⟨⟨v,h,a⟩⟩
def du{K:Value->Prop}(v:Vt_)(h:∀w,s.run P w=.ok v w)(a:K v):jC P s K:=cx h a
def qa(h:P.underlying t=some (.slice e)):P.underlying t=some (.slice (P.elem t))/\P.elem t=e:=by
 have:P.elem t=e:=by simp[Program.elem,h]
 rw[this];exact⟨h,rfl⟩
def Rd.part{cs:LV_}(F:P.underlying t=some (.slice e))(C:P.cellsOf e=sz+1)(h:Rd w (sz+1) v n cs)
  {lo hi:Nat}(h1:lo<=hi)(D:hi<=n)(kl kh:IntKind):
  ∃k,(∀W,(Instr.sliceAt t v (some (.int kl (lo:Int))) (some (.int kh (hi:Int))) none).run P W=.ok k W)/\Rd w (sz+1) k (hi - lo) ((cs.drop (lo*(sz+1))).take ((hi - lo)*(sz+1)))/\(∀b,tq k b->tq v b):=by
 obtain⟨y,H⟩:=qa F;obtain⟨z,o⟩:=h
 obtain⟨a,d,rfl,u⟩:∃a d,v=.slice a n d/\(n<=d\/n=0):=by
  rcases o with⟨rfl,a,c,rfl⟩|⟨b,g,d,rfl,C,_⟩
  ·grind
  ·grind
 refine⟨sliced a lo hi d (sz+1),λW=>?_,?_,?_⟩
 ·rw[run_sliceAt_slice W t _ _ _ _ y,run_slice_lh W t a n d y kl kh lo hi qZ qZ qZ,H,lI C];simp[Result.andThen]
 ·refine⟨?_,?_⟩
  ·rw[az,bC,z];have:=cH (sz+1) D;rw[mQ];omega
  ·by_cases s:hi - lo=0
   ·left;exact⟨s,_,_,by unfold sliced;rw[s]⟩
   ·rcases o with⟨p,_⟩|⟨b,g,j,f,l,x⟩
    ·omega
    injection f with i E B;subst i;subst B;right;refine⟨b,g+lo*(sz+1),d - lo,?_,qZ,?_⟩
    ·unfold sliced;rw[aa qZ];simp[bK]
    ·have:=x.sub (lo*(sz+1)) ((hi - lo)*(sz+1)) (by
      rw[z,<-ej];exact cH _ qZ)
     exact this
 ·rintro b ⟨J,m,I,A,K,rfl⟩;unfold sliced at A;injection A with i E B;by_cases r:d=lo
  ·grind
  ·rw[aa r]at i;cases a with
   |none=>cases i
   |some G=>
    simp only[eQ,gL]at i;refine⟨G,n,d,rfl,qZ,?_⟩;rcases o with⟨p,_⟩|⟨b,g,j,f,l,x⟩
    ·omega
    ·injection f with q;injection q with q;subst q;rw[<-i,bK]
def Rd.from_{cs:LV_}(j:P.underlying t=some (.slice e))(k:P.cellsOf e=sz+1)(h:Rd w (sz+1) v n cs)
  {lo:Nat}(h1:lo<=n)(kl:IntKind):
  ∃f,(∀W,(Instr.sliceAt t v (some (.int kl (lo:Int))) none none).run P W=.ok f W)/\Rd w (sz+1) f (n - lo) (cs.drop (lo*(sz+1)))/\(∀b,tq f b->tq v b):=by
 obtain⟨f,p,l,m⟩:=h.part j k h1 (aD n) kl .i64;obtain⟨g,s⟩:=qa j;refine⟨f,λW=>?_,?_,m⟩
 ·rw[<-p W];obtain⟨r,q⟩:=h
  obtain⟨a,d,rfl,i⟩:∃a d,v=.slice a n d/\(n<=d\/n=0):=by
   rcases q with⟨rfl,a,c,rfl⟩|⟨b,o,d,rfl,k,_⟩
   ·grind
   ·grind
  rw[run_sliceAt_slice W t _ _ _ _ g,run_sliceAt_slice W t _ _ _ _ g,run_slice_lh W t a n d g kl .i64 lo n qZ qZ qZ,run_slice_l W t a n d g kl lo qZ qZ];rfl
 ·have e:(cs.drop (lo*(sz+1))).take ((n - lo)*(sz+1))=cs.drop (lo*(sz+1)):=by
   rw[aC];rw[bC,h.1,mQ];omega
  rwa[e]at l
def Rd.byte{l:List UInt8}(h:Rd w 1 v n (bv l)){i:Nat}(hi:i<n)(j:i<l.length):
  ∃b c a C e d,v=.slice (some ⟨b,c,none⟩) n a/\n<=a/\hp w b=some (.cells C e d)/\C[c+i]? =some (gB (l[i].toNat:Int)):=by
 obtain⟨_,⟨m,_⟩|⟨b,c,a,rfl,k,g⟩⟩:=h
 ·omega
 ·obtain⟨C,e,d,hC,f⟩:=g.get;exact⟨b,c,a,C,e,d,rfl,k,hC,f i _ (by rw[bv,cz,av j];rfl)⟩
def ZU{by_ m:Nat}{x:Vt_}{a:LV_}(g:P.underlying t=some (.slice e))(i:wq P e sz by_)(u:Rd w sz x m a)(h1:a.all (·.oneCell')=true)(c:m*by_<=140737488355328)
  (q:∀d f,ic f e sz d m a->M0 w f->(∀b,aF d b->w.heap.size<=b)->K d f):
  rx P (rg t 0 []) w λv l=>rx P (fb #[t,t] t [v,x]) l K:=by
 refine nI [] g i rfl rfl (by simp) qZ ?_;have j:∀o,M0 w (w.alloc o):=λo=>(aR.refl _ w).alloc o;refine kg (n:=0) (m:=m) (cs:=[]) g g i ?_ (u.mod (j _) d9) h1 (by grind) λd f r s p=>?_
 ·refine⟨by simp,.inr ⟨w.heap.size,0,[],rfl,aD _,?_,by simp⟩⟩;rw[er,ae rfl];simp
 ·have k:∀b,aF (.slice (some ⟨w.heap.size,0,none⟩) 0 0) b->w.heap.size<=b:=λb c=>by
   simp only[aF,Sr]at c;have:=cZ c;omega
  refine q d f (by simpa using r) ((j _).on s λb c=>.inr (k b c)) λb c=>?_;rcases p b c with h|h
  ·exact k b h
  ·rw[cw]at h;omega
def DN:∀a:List UInt8,(bv a).flatMap (·.cells.toList)=bv a
 | []=>rfl
 |u::a=>by
  show(Value.cells (Value.int .u8 u.toNat)).toList++(bv a).flatMap (λv=>v.cells.toList)=_;rw[DN a];rfl
def Xv{a:List (Nat×Value)}(c:List UInt8)(i:P.underlying t=some (.slice e))(l:wq P e 1 1)(f:a=c.zipIdx.map λp=>(p.2,gB p.1.toNat))(h:c.length=n)(g:n<=1000)
  (j:∀v d,ic d e 1 v n (bv c)->M0 w d->(∀b,aF v b->w.heap.size<=b/\b<d.heap.size)->K v d):rx P (rg t n a) w K:=by
 have k:a=(bv c).zipIdx.map λp=>(p.2,p.1):=by
  rw[f,bv,List.zipIdx_map,dQ];rfl
 have m:=DN c
 refine nI (bv c) i l k (by simpa using h) (λv o=>by
  obtain⟨u,_,rfl⟩:=aL.1 o;rfl) qZ ?_
 rw[m];refine j _ _ ⟨by simpa using h,.inr ⟨_,n,[],rfl,aD _,by show hp _ _=_;simp[go_sem],by simp,by simp⟩⟩ mG λb g=>?_;have:b=w.heap.size:=by cases g;rfl
 rw[cw];omega
def aR.hpk{F:NP_}(h:aR F w w'){b:Nat}{o:Obj}(c:hp w b=some o)(a:¬F b):hp w' b=some o:=h.keep c a
def ew{n:Int}(a: -9223372036854775808<=n)(h1:n<9223372036854775808):IntKind.i64.wrap n=n:=by rw[bV];omega
def ly{n:Int}(a:0<=n)(h1:n<18446744073709551616):IntKind.u64.wrap n=n:=by rw[IntKind.wrap_u64];omega
structure As where
 P:World->(Nat->Prop)->Prop
 lt:∀{w F b},P w F->F b->b<w.heap.size
 md:∀{w w' F G},P w F->aR G w w' ->(∀b,F b->¬G b)->P w' F
def uy(w:Wt_):List As->(Nat->Prop)->Prop
 | [],F=>∀b,¬F b
 |A::L,F=>∃F1 F2,A.P w F1/\uy w L F2/\(∀b,F1 b->¬F2 b)/\∀b,F b↔F1 b\/F2 b
def uy.lt:∀{L:List As} {F:NP_},uy w L F->∀{b},F b->b<w.heap.size
 | [],F,h,b,c=>absurd c (h b)
 |A::L,F,⟨f,g,h1,d,_,e⟩,b,c=>((e b).1 c).elim (A.lt h1) (uy.lt d)
def uy.md{G:NP_}(m:aR G w w'):∀{L:List As} {F:NP_},uy w L F->(∀b,F b->¬G b)->uy w' L F
 | [],F,h,_=>h
 |A::L,F,⟨i,g,h1,f,j,d⟩,e=>⟨i,g,A.md h1 m λb c=>e b ((d b).2 (.inl c)),uy.md m f λb c=>e b ((d b).2 (.inr c)),j,d⟩
structure Ss(w:Wt_)(L:List As):Prop where
 out:∃F,uy w L F
abbrev WP:=World->Prop
structure Gs(L:List As)(φ:WP):Prop where
 go:∀w,Ss w L->φ w
section
variable{A B A' :As}{L L' M:List As}{φ ψ:WP}{w w' :Wt_}
def Ss.cons:Ss w (A::L)↔∃d c,A.P w d/\uy w L c/\∀b,d b->¬c b:=
 ⟨λ⟨_,d,c,h1,e,f,_⟩=>⟨d,c,h1,e,f⟩,λ⟨d,c,h1,e,f⟩=>⟨_,d,c,h1,e,f,λ_=>aG⟩⟩
def Ss.tail(h:Ss w (A::L)):Ss w L:=by
 obtain⟨d,f,h1,c,e⟩:=Ss.cons.1 h;exact⟨_,c⟩
end
structure eG(L M:List As):Prop where
 out:∀w F,uy w L F↔uy w M F
section
variable{A B A' :As}{L L' M:List As}{φ ψ:WP}{w w' :Wt_}
def Gm{F:NP_}(h:uy w (A::B::L) F):uy w (B::A::L) F:=by
 obtain⟨f,p,h1,⟨F3,g,o,j,m,e⟩,l,i⟩:=h;refine⟨F3,λb=>f b\/g b,o,⟨f,g,h1,j,λb d c=>l b d ((e b).2 (.inr c)),λ_=>aG⟩,λb d c=>?_,λb=>?_⟩
 ·rcases c with c|c
  ·grind
  ·exact m b d c
 ·rw[i,e];constructor
  ·rintro(h|h|h)
   ·exact .inr (.inl h)
   ·exact .inl h
   ·exact .inr (.inr h)
  ·rintro(h|h|h)
   ·exact .inr (.inl h)
   ·exact .inl h
   ·exact .inr (.inr h)
def eG.swap:eG (A::B::L) (B::A::L):=⟨λ_ _=>⟨Gm,Gm⟩⟩
def eG.refl:eG L L:=⟨λ_ _=>aG⟩
def eG.symm(h:eG L M):eG M L:=⟨λw F=>(h.out w F).symm⟩
def eG.trans(h:eG L M)(c:eG M L'):eG L L' :=⟨λw F=>(h.out w F).trans (c.out w F)⟩
def eG.cons(h:eG L M):eG (A::L) (A::M):=⟨λw F=>⟨λ⟨e,c,h1,d,g,f⟩=>⟨e,c,h1,(h.out w c).1 d,g,f⟩,λ⟨e,c,h1,d,g,f⟩=>⟨e,c,h1,(h.out w c).2 d,g,f⟩⟩⟩
def Ou:eG (A::L) (A::L):=.refl
def OV(h:eG L (A::M)):eG (B::L) (A::B::M):=(eG.cons h).trans .swap
def Zo(h:eG L (A::M))(c:eG M L'):eG L (A::L'):=h.trans c.cons
def fR(h:eG L M:=by repeat first|(with_reducible exact Ou)|(with_reducible apply OV)):eG L M:=h
def iP(h:eG L M:=by repeat first|(with_reducible exact eG.refl)|((apply Zo);(·repeat first|(with_reducible exact Ou)|(with_reducible apply OV)))):eG L M:=h
def Gs.pk(h:Gs M φ)(k:eG L M:=by exact iP):Gs L φ:=⟨λw ⟨F,x⟩=>h.go w ⟨F,(k.out w F).1 x⟩⟩
structure Sb(L M:List As):Prop where
 out:∀w F,uy w L F->∃F',uy w M F' /\∀b,F' b->F b
def Sb.refl:Sb L L:=⟨λ_ F h=>⟨F,h,λ_ h=>h⟩⟩
def Sb.drop(h:Sb L M):Sb (A::L) M:=⟨λw F ⟨i,g,h1,d,j,e⟩=>(h.out w g d).elim λc ⟨k1,k2⟩=>⟨c,k1,λb f=>(e b).2 (.inr (k2 b f))⟩⟩
def Sb.pick(h:eG L (A::L'))(f:Sb L' M):Sb L (A::M):=⟨λw F x=>by
 obtain⟨i,e,h1,g,l,j⟩:=(h.out w F).1 x;obtain⟨d,k1,k2⟩:=f.out w e g;exact⟨_,⟨i,d,h1,k1,λb c m=>l b c (k2 b m),λ_=>aG⟩,λb c=>(j b).2 (c.imp id (k2 b))⟩⟩
def sbZ(h:Sb L M:=by repeat first|(with_reducible exact Sb.refl)|((apply Sb.pick);(·repeat first|(with_reducible exact Ou)|(with_reducible apply OV)))|(with_reducible apply Sb.drop)):Sb L M:=h
def Gs.fin(h:Gs M φ)(p:Sb L M:=by exact sbZ):Gs L φ:=⟨λw ⟨F,x⟩=>(p.out w F x).elim λc k=>h.go w ⟨c,k.1⟩⟩
def Gs.drop(h:Gs L φ):Gs (A::L) φ:=⟨λw x=>h.go w x.tail⟩
def Vw(P:Program)(s:Sem Value)(k:Value->WP):WP:=λw=>rv P s w k
def Uw(P:Program)(s:Sem Unit)(k:WP):WP:=λw=>ru P s w k
def Xw(P:Program)(s:Sem Value)(k:Value->WP):WP:=λw=>rx P s w k
def Yw(P:Program)(s:Sem Unit)(k:WP):WP:=λw=>yS P s w k
def Nw(P:Program)(s:Sem Next)(k:Value->WP):WP:=λw=>rn P s w k
def Pw(P:Program)(s:Sem Value)(k:Value->WP):WP:=λw=>jC P s λv=>k v w
def Ww(P:Program)(s:Sem Value)(k:Value->WP):WP:=λw=>nV P s w λv=>k v w
def PXw(P:Program)(s:Sem Value)(k:Value->WP):WP:=λw=>Hg P s λv=>k v w
def Yc(P:Program)(s:Sem Value)(k:Value->WP):WP:=λw=>ID P s w λv=>k v w
def Ew(P:Program)(s:Sem Value)(v:Vt_)(k:WP):WP:=λw=>s.run P w=.ok v w/\k w
def Dw(k:WP):WP:=λw=>k w.drew
def Aw(a b:WP):WP:=λw=>a w/\b w
def Iw(v:Vt_)(a b:WP):WP:=λw=>sx v (a w) (b w)
def Bw(v:Vt_)(k:Bool->WP):WP:=λw=>FH v λb=>k b w
def Qw(v:Vt_)(k:Value->WP):WP:=λw=>pJ v λv=>k v w
def Cw(P:Program)(f:FuncId)(args:Array Value)(k:Value->WP):WP:=λw=>Ca P f args w k
def Fw(P:Program)(f:Vt_)(args:LV_)(k:Value->WP):WP:=λw=>lA P f args w k
def Jw{S:Type}(a:(S->WP)->WP)(b:S->WP):WP:=λw=>cT (λJ=>a J w) b
def Zw(k:WP):WP:=λw=>∀_:Nat->Value,k w
def Hw(b:Bool)(x y:WP):WP:=λw=>bc b (x w) (y w)
def Gw(l:Nat)(k:WP):WP:=λw=>qt l w k
def Tw(ds:List Nat)(k:WP):WP:=λw=>Ap ds w k
def Rw(P:Program)(ro:Option Nat)(gv:Vt_)(np:Nat)(rnd:Nat->List Value->WP->(Code->WP)->WP)(after:List Nat->Option Code->WP):WP:=λw=>FO P ro gv w np (λl x w kn kj=>rnd l x kn kj w) after
def Lw{S:Type}(body:S->(S->WP)->WP)(s:S):WP:=λw=>oJ (λs w k=>body s k w) s w
variable{P:Program}{s:Sem Value}{v:Vt_}{k:Value->WP}{u:Sem Unit}{n:Sem Next}{k0 a b:WP}
def Gs.V(h:∀w,Ss w L->s.run P w=.ok v w)(c:Gs L (k v)):Gs L (Vw P s k):=⟨λw x=>bo (h w x) (c.go w x)⟩
def Gs.W(h:∀w,Ss w L->s.run P w=.ok v w)(c:Gs L (k v)):Gs L (Ww P s k):=⟨λw x=>cK (h w x) (c.go w x)⟩
def Gs.E(h:∀w,Ss w L->s.run P w=.ok v w)(c:Gs L k0):Gs L (Ew P s v k0):=⟨λw x=>⟨h w x,c.go w x⟩⟩
def Gs.N(h:∀w,Ss w L->n.run P w=.ok (.value v) w)(c:Gs L (k v)):Gs L (Nw P n k):=⟨λw x=>uz (h w x) (c.go w x)⟩
def Gs.Pu(h:∀w,s.run P w=.ok v w)(c:Gs L (k v)):Gs L (Pw P s k):=⟨λw x=>cx h (c.go w x)⟩
def Gs.X(h:∀w,Ss w L->s.run P w=.ok v w)(c:Gs L (k v)):Gs L (Xw P s k):=⟨λw x=>kY (h w x) (c.go w x)⟩
def Gs.WX(h:∀w,Ss w L->s.run P w=.ok v w)(c:Gs L (k v)):Gs L (Yc P s k):=⟨λw x=>sk (h w x) (c.go w x)⟩
def md0(w:Wt_):M0 w w.drew:=(aR.refl _ w).drew
def Ss.md0(m:M0 w w')(h:Ss w L):Ss w' L:=h.out.elim λF x=>⟨F,x.md m d9⟩
def Gs.D(c:Gs L k0):Gs L (Dw k0):=⟨λw x=>c.go _ (x.md0 (Go.Vc.md0 w))⟩
def Gs.An(c:Gs L a)(d:Gs L b):Gs L (Aw a b):=⟨λw x=>⟨c.go w x,d.go w x⟩⟩
def Gs.It(c:Gs L a):Gs L (Iw (.bool true) a b):=⟨λw x=>c.go w x⟩
def Gs.If(c:Gs L b):Gs L (Iw (.bool false) a b):=⟨λw x=>c.go w x⟩
def Gs.I{p:Prop} [Decidable p](c:p->Gs L a)(d:¬p->Gs L b):Gs L (Iw (.bool (decide p)) a b):=⟨λw x=>by
 unfold Iw;rw[ay];by_cases h:p
 ·rw[ae (by simpa using h)];exact(c h).go w x
 ·rw[aa (by simpa using h)];exact(d h).go w x⟩
def Gs.Q{x:Addr}{k:Value->WP}(h:Gs L (k (.pointer (some x)))):Gs L (Qw (.pointer (some x)) k):=⟨λw y=>h.go w y⟩
def Gs.ca{f:FuncId}{c:Array Value}{φ:WP}(h:∀w,φ w->Ca P f c w k)(g:Gs L φ):Gs L (Cw P f c k):=⟨λw x=>h w (g.go w x)⟩
end
end Go.Vc
