/- Part of a proof. -/
import Derived.MapKept
import Derived.ProofKit
import Derived.ChangeReads
import Derived.OpenShut
import Derived.ChangeKeysEq
import Derived.Test.YtekbnpagidkbbaaGreatProg
import Derived.Test.YtekbnpagidkbbaaGreatQ3
set_option linter.all false
namespace Go.Vc
open Go Go.Vc
section
variable{κ ν:Type} [DecidableEq κ]
def lk:List (κ×ν)->κ->Option ν
 | [],_=>none
 |(a,b)::r,k=>if a=k then some b else lk r k
def put:List (κ×ν)->κ->ν->List (κ×ν)
 | [],k,v=>[(k,v)]
 |(a,b)::r,k,v=>if a=k then(k,v)::r else(a,b)::put r k v
def ze:List (κ×ν)->κ->List (κ×ν)
 | [],_=>[]
 |(a,b)::r,k=>if a=k then r else(a,b)::ze r k
def kJ(L:List (κ×ν))(k j:κ)(v:ν):lk (put L k v) j=if k=j then some v else lk L j:=by
 induction L with
 |nil=>simp[put,lk]
 |cons p r c=>
  obtain⟨a,b⟩:=p;simp only[put];by_cases h:a=k
  ·subst h;rw[ae rfl];simp only[lk];split<;>rfl
  ·rw[aa h];simp only[lk,c];by_cases d:a=j
   ·grind
   ·grind
def om{L:List (κ×ν)}{k:κ}(h:k ∉ L.map (·.1)):lk L k=none:=by
 induction L with
 |nil=>rfl
 |cons p r c=>
  obtain⟨a,b⟩:=p;simp only[aD,ar,lD]at h;simp only[lk];rw[aa (λe=>h.1 e.symm)];exact c h.2
def NM{L:List (κ×ν)}(c:(L.map (·.1)).Nodup)(k j:κ):lk (ze L k) j=if k=j then none else lk L j:=by
 induction L with
 |nil=>simp[ze,lk]
 |cons p r d=>
  obtain⟨a,b⟩:=p;simp only[aD,bY]at c;simp only[ze];by_cases h:a=k
  ·subst h;rw[ae rfl];simp only[lk];split
   ·subst_vars;exact om c.1
   ·rfl
  ·rw[aa h];simp only[lk,d c.2];by_cases e:a=j
   ·grind
   ·grind
def PO(L:List (κ×ν))(k:κ)(v:ν):(put L k v).map (·.1)=if k∈L.map (·.1)then L.map (·.1)else L.map (·.1)++[k]:=by
 induction L with
 |nil=>simp[put]
 |cons p r c=>
  obtain⟨a,b⟩:=p;simp only[put];by_cases h:a=k
  ·subst h;simp
  ·grind
def B8{L:List (κ×ν)}(h:(L.map (·.1)).Nodup)(k:κ)(v:ν):((put L k v).map (·.1)).Nodup:=by
 rw[PO];split
 ·exact h
 ·grind
def zJ(L:List (κ×ν))(k:κ):(ze L k).Sublist L:=by
 induction L with
 |nil=>exact bZ _
 |cons p r c=>
  obtain⟨a,b⟩:=p;simp only[ze];split
  ·grind
  ·exact c.cons_cons _
def LD{L:List (κ×ν)}(h:(L.map (·.1)).Nodup)(k:κ):((ze L k).map (·.1)).Nodup:=h.sublist ((zJ L k).map _)
def xD{L:List (κ×ν)}{k:κ}{v:ν}(h:lk L k=some v):(k,v)∈L:=by
 induction L with
 |nil=>cases h
 |cons q r c=>
  obtain⟨a,b⟩:=q;simp only[lk]at h;split at h
  ·grind
  ·grind
end
structure qK(P:Program)(k:TypeId){κ:Type} [DecidableEq κ](enc:κ->Value):Prop where
 check:∀(w:Wt_) (em:Bool) (x:κ),(Instr.checkKey em 10000 k (enc x)).run P w=.ok () w
 same:∀(w:Wt_) (x:κ) (es:List MapEntry) (ks:List κ),es.map (·.key)=ks.map enc->
  ((Instr.findKey k (enc x) es).run P w=.ok none w/\x ∉ ks)\/∃i v,(Instr.findKey k (enc x) es).run P w=.ok (some (i,v)) w/\(es[i]?).map (·.val)=some v/\ks[i]? =some x/\∀j,j<i->ks[j]? ≠some x
 stays:∀(w:Wt_) (x:κ),(Instr.keyThatStays (enc x) (enc x)).run P w=.ok (enc x) w
section
variable{P:Program}{k:TypeId}{κ:Type} [DecidableEq κ]{enc:κ->Value}
def yE(b:∀(w:Wt_) (x y:κ),(Op.equal k (enc x) (enc y)).run P w=.ok (decide (x=y)) w)(w:Wt_)(x:κ):
  ∀(es:List MapEntry) (a:List κ) (o:Nat),es.map (·.key)=a.map enc->
  ((Instr.findAsking k (enc x) es o).run P w=.ok none w/\x ∉ a)\/∃i v,(Instr.findAsking k (enc x) es o).run P w=.ok (some (o+i,v)) w/\(es[i]?).map (·.val)=some v/\a[i]? =some x/\∀j,j<i->a[j]? ≠some x
 | [],a,o,h=>by
  have:a=[]:=by cases a<;>simp_all
  subst this;exact .inl ⟨by simp[Instr.findAsking],by simp⟩
 |e::es,[],o,h=>by simp at h
 |e::es,y::a,o,h=>by
  simp only[aD,jr]at h;obtain⟨h1,g⟩:=h;by_cases c:x=y
  ·subst c;refine .inr ⟨0,e.val,?_,by simp,by simp,λj f=>absurd f (Nat.not_lt_zero _)⟩;simp[Instr.findAsking,h1,b,Result.andThen]
  ·have p:(Instr.findAsking k (enc x) (e::es) o).run P w=(Instr.findAsking k (enc x) es (o+1)).run P w:=by
    simp[Instr.findAsking,h1,b,Result.andThen,c]
   rcases yE b w x es a (o+1) g with⟨m,d⟩|⟨i,v,m,d,l,n⟩
   ·grind
   ·refine .inr ⟨i+1,v,by grind,by simpa using d,by simpa using l,λj f=>?_⟩;cases j with
    |zero=>simp;exact λe=>c e.symm
    |succ j=>simpa using n j qZ
def qK.asking{d:TypeDesc}(f:P.underlying k=some d)(b:∀x y,Instr.sameNow d (enc x) (enc y)=none)
  (c:∀(w:Wt_) (x y:κ),(Op.equal k (enc x) (enc y)).run P w=.ok (decide (x=y)) w)
  (l:∀(w:Wt_) (i:Bool) (x:κ),(Instr.checkKey i 10000 k (enc x)).run P w=.ok () w)(hs:∀x,Instr.sameBits 10000 (enc x) (enc x)=true):qK P k enc where
 check:=l
 stays w x:=by simp[Instr.keyThatStays,hs]
 same w x es a h:=by
  cases es with
  |nil=>
   have:a=[]:=by cases a<;>simp_all
   subst this;exact .inl ⟨by simp[Instr.findKey,aO f,Result.andThen,Instr.findNow],by simp⟩
  |cons e es=>
   cases a with
   |nil=>simp at h
   |cons y a=>
    have h1:e.key=enc y:=by grind
    have g:Instr.findNow d (enc x) (e::es) 0=none:=by simp[Instr.findNow,h1,b]
    have j:(Instr.findKey k (enc x) (e::es)).run P w=(Instr.findAsking k (enc x) (e::es)).run P w:=by
     simp[Instr.findKey,aO f,Result.andThen,g]
    rw[j];have:=yE c w x (e::es) (y::a) 0 h;simpa using this
def Gn{d:TypeDesc}(a:∀x y,Instr.sameNow d (enc x) (enc y)=some (decide (x=y)))(x:κ):
  ∀(es:List MapEntry) (b:List κ) (o:Nat),es.map (·.key)=b.map enc->
  (Instr.findNow d (enc x) es o=some none/\x ∉ b)\/∃i v,Instr.findNow d (enc x) es o=some (some (o+i,v))/\(es[i]?).map (·.val)=some v/\b[i]? =some x/\∀j,j<i->b[j]? ≠some x
 | [],b,o,h=>by
  have:b=[]:=by cases b<;>simp_all
  subst this;exact .inl ⟨by simp[Instr.findNow],by simp⟩
 |e::es,[],o,h=>by simp at h
 |e::es,y::b,o,h=>by
  simp only[aD,jr]at h;obtain⟨h1,l⟩:=h;by_cases c:x=y
  ·subst c;refine .inr ⟨0,e.val,?_,by simp,by simp,λj g=>absurd g (Nat.not_lt_zero _)⟩;simp[Instr.findNow,h1,a]
  ·have q:Instr.findNow d (enc x) (e::es) o=Instr.findNow d (enc x) es (o+1):=by
    simp[Instr.findNow,h1,a,c]
   rcases Gn a x es b (o+1) l with⟨n,f⟩|⟨i,v,n,f,m,p⟩
   ·grind
   ·refine .inr ⟨i+1,v,by grind,by simpa using f,by simpa using m,λj g=>?_⟩;cases j with
    |zero=>simp;exact λe=>c e.symm
    |succ j=>simpa using p j qZ
def qK.now{d:TypeDesc}(c:P.underlying k=some d)(a:∀x y,Instr.sameNow d (enc x) (enc y)=some (decide (x=y)))
  (f:∀(w:Wt_) (e:Bool) (x:κ),(Instr.checkKey e 10000 k (enc x)).run P w=.ok () w)(hs:∀x,Instr.sameBits 10000 (enc x) (enc x)=true):qK P k enc where
 check:=f
 stays w x:=by simp[Instr.keyThatStays,hs]
 same w x es ks h:=by
  rcases Gn a x es ks 0 h with⟨h1,b⟩|⟨i,v,h1,b⟩
  ·exact .inl ⟨by simp[Instr.findKey,aO c,Result.andThen,h1],b⟩
  ·exact .inr ⟨i,v,by simp[Instr.findKey,aO c,Result.andThen,h1],b⟩
def qK.int{b:IntKind}(a:P.underlying k=some (.int b)):qK P k (λn:Int=>.int b n):=
 qK.now a (λx y=>by simp only[Instr.sameNow,cZ];congr 1) (λw c x=>by
  unfold Instr.checkKey;simp[aO a,Result.andThen]) (λx=>by simp[Instr.sameBits])
end
section
variable{P:Program}{k:TypeId}{κ ν:Type} [DecidableEq κ]{enc:κ->Value}{ev:ν->Value}
def eF(enc:κ->Value)(ev:ν->Value)(w:Wt_)(b:Nat)(L:List (κ×ν)):Prop:=
 (L.map (·.1)).Nodup/\∃es clock,w.heap[b]? =some (.map es clock)/\es.toList.map (λe=>(e.key,e.val))=L.map (λp=>(enc p.1,ev p.2))/\
  (∀x∈es.toList,x.born<clock)/\(es.toList.map (·.born)).Nodup
def eF.keep{w w' :Wt_}{b:Nat}{L:List (κ×ν)}(h:eF enc ev w b L)(e:w'.heap[b]? =w.heap[b]?):eF enc ev w' b L:=by
 obtain⟨f,es,a,c,d⟩:=h;exact⟨f,es,a,by rw[e];exact c,d⟩
def eF.lt{w:Wt_}{b:Nat}{L:List (κ×ν)}(h:eF enc ev w b L):b<w.heap.size:=by
 obtain⟨e,es,a,c,d⟩:=h;exact ay c
def eF.mod{F:NP_}{w w' :Wt_}{b:Nat}{L:List (κ×ν)}(h:eF enc ev w b L)(a:aS F w w')(c:¬F b):eF enc ev w' b L:=
 h.keep (a.blk b h.lt c)
def eF.new(w:Wt_):eF enc ev (w.alloc (.map #[] 0)) w.heap.size ([]:List (κ×ν)):=
 ⟨by simp,#[],0,by rw[ec,ae rfl],by simp,by simp,by simp⟩
def pT{es:List MapEntry}{L:List (κ×ν)}(h:es.map (λe=>(e.key,e.val))=L.map (λp=>(enc p.1,ev p.2))):es.map (·.key)=(L.map (·.1)).map enc:=by
 have:=dW (List.map Prod.fst) h;simp only[dK]at this|-;exact this
def XZ{L:List (κ×ν)}{x:κ}{i:Nat}{p:κ×ν}(h1:L[i]? =some p)(c:p.1=x)(d:∀j,j<i->(L.map (·.1))[j]? ≠some x):lk L x=some p.2:=by
 induction L generalizing i with
 |nil=>simp at h1
 |cons q r f=>
  obtain⟨a,b⟩:=q;cases i with
  |zero=>
   simp only[List.getElem?_cons_zero,gE]at h1;subst h1;simp only at c;simp[lk,c]
  |succ i=>
   have:a≠x:=λe=>d 0 qZ (by simp[e]);simp only[lk,aa this];exact f (by simpa using h1) (λj g=>by grind)
def Wc{L:List (κ×ν)}{x:κ}{v:ν}{i:Nat}(h1:(L.map (·.1))[i]? =some x)(d:∀j,j<i->(L.map (·.1))[j]? ≠some x):put L x v=L.set i (x,v):=by
 induction L generalizing i with
 |nil=>simp at h1
 |cons q r c=>
  obtain⟨a,b⟩:=q;cases i with
  |zero=>
   have:a=x:=by simpa using h1
   simp[put,this]
  |succ i=>
   have:a≠x:=λe=>d 0 qZ (by simp[e]);simp only[put,aa this,List.set_cons_succ];rw[c (by simpa using h1) (λj f=>by grind)]
def WD{L:List (κ×ν)}{x:κ}{i:Nat}(h1:(L.map (·.1))[i]? =some x)(d:∀j,j<i->(L.map (·.1))[j]? ≠some x):ze L x=L.eraseIdx i:=by
 induction L generalizing i with
 |nil=>simp at h1
 |cons q r c=>
  obtain⟨a,b⟩:=q;cases i with
  |zero=>
   have:a=x:=by simpa using h1
   simp[ze,this]
  |succ i=>
   have:a≠x:=λe=>d 0 qZ (by simp[e]);simp only[ze,aa this,js];rw[c (by simpa using h1) (λj f=>by grind)]
def zr{L:List (κ×ν)}{x:κ}{v:ν}(h:x ∉ L.map (·.1)):put L x v=L++[(x,v)]:=by
 induction L with
 |nil=>rfl
 |cons q r c=>
  obtain⟨a,b⟩:=q;simp only[aD,ar,lD]at h;have h1:¬a=x:=λe=>h.1 e.symm;simp only[put,aa h1,c h.2,fg]
def GK{L:List (κ×ν)}{x:κ}(h:x ∉ L.map (·.1)):ze L x=L:=by
 induction L with
 |nil=>rfl
 |cons q r c=>
  obtain⟨a,b⟩:=q;simp only[aD,ar,lD]at h;have h1:¬a=x:=λe=>h.1 e.symm;simp only[ze,aa h1,c h.2]
def nA{α β:Type}(f:α->β):∀(l:List α) (i:Nat),(l.eraseIdx i).map f=(l.map f).eraseIdx i
 | [],_=>rfl
 |_::_,0=>rfl
 |a::l,i+1=>by simp[nA f l i]
def lw(P:Program)(t:TypeId):Option Value:=(P.info? t).bind (·.zero)
def yx{t:TypeId}{z:Vt_}(h:lw P t=some z)(w:Wt_):(zeroValue t).run P w=.ok z w:=by
 unfold lw at h;cases a:P.info? t with
 |none=>simp[a]at h
 |some i=>simp[a]at h;simp[zeroValue,typeInfo,a,h]
def yW(enc:κ->Value)(ev:ν->Value)(w:Wt_)(m:Vt_)(L:List (κ×ν)):Prop:=
 (m=.map none/\L=[])\/∃b,m=.map (some b)/\eF enc ev w b L
def mB{t e:TypeId}{w:Wt_}{m:Vt_}{L:List (κ×ν)}{x:κ}{ok:Bool}{z:Vt_}(d:P.underlying t=some (.map k e))(c:qK P k enc)
  (j:lw P e=some z)(u:yW enc ev w m L):
  (Instr.lookup t m (enc x) ok).run P w=.ok (match lk L x with|some v=>if ok then .tuple #[ev v,.bool true]else ev v|none=>if ok then .tuple #[z,.bool false]else z) w:=by
 rcases u with⟨rfl,rfl⟩|⟨b,rfl,A,es,g,h,p,_⟩
 ·rcases c.same w x [] [] rfl with⟨h1,_⟩|⟨i,v,_,a,_⟩
  ·simp[Instr.lookup,aO d,c.check,h1,yx j,Result.andThen,lk]
  ·simp at a
 ·rcases c.same w x es.toList (L.map (·.1)) (pT p)with⟨h1,a⟩|⟨i,v,h1,a,n,q⟩
  ·simp[Instr.lookup,aO d,MapKept.run_getObj_map h,c.check,h1,yx j,Result.andThen,om a]
  ·have r:i<L.length:=by simpa using(aF.1 n).1
   have f:L[i]? =some L[i]:=aq r;have s:(L[i]).1=x:=by simpa [f]using n
   have y:v=ev (L[i]).2:=by
    have:=dW (λl=>(l[i]?).map Prod.snd) p;simp only[cz,f,Option.map_map,eI]at this;have o:(es.toList[i]?).map (·.val)=some (ev (L[i]).2):=by grind
    rw[a]at o;exact cS o
   simp[Instr.lookup,aO d,MapKept.run_getObj_map h,c.check,h1,Result.andThen,XZ f s q,y]
def wo{t e:TypeId}{w:Wt_}{K:aY}{m:Vt_}{L:List (κ×ν)}{x:κ}(z:Vt_)(c:P.underlying t=some (.map k e))(b:qK P k enc)
  (d:lw P e=some z)(a:yW enc ev w m L)(f:K ((lk L x).elim z ev) w):rx P (ju t m (enc x) false) w K:=
 jP (by unfold ju;exact mB c b d a) (by grind)
def wm{t e:TypeId}{w:Wt_}{K:aY}{m:Vt_}{L:List (κ×ν)}{x:κ}(z:Vt_)(c:P.underlying t=some (.map k e))(b:qK P k enc)
  (d:lw P e=some z)(a:yW enc ev w m L)(f:K (.tuple #[(lk L x).elim z ev,.bool (lk L x).isSome]) w):rx P (ju t m (enc x) true) w K:=
 jP (by unfold ju;exact mB c b d a) (by grind)
def C6{t e:TypeId}{w:Wt_}{K:Value->Prop}{m:Vt_}{L:List (κ×ν)}{x:κ}(z:Vt_)(c:P.underlying t=some (.map k e))(b:qK P k enc)
  (d:lw P e=some z)(a:yW enc ev w m L)(f:K (.tuple #[(lk L x).elim z ev,.bool (lk L x).isSome])):BL P (ju t m (enc x) true) w K:=
 nt (by unfold ju;exact mB c b d a) (by grind)
def MK{es:List MapEntry}{L:List (κ×ν)}{i:Nat}{x:κ}{v:ν}{key val:Vt_}(h:es.map (λe=>(e.key,e.val))=L.map (λp=>(enc p.1,ev p.2)))(a:key=enc x)(b:val=ev v):
  (es.modify i λe=>{e with key:=key,val:=val}).map (λe=>(e.key,e.val))=(L.set i (x,v)).map (λp=>(enc p.1,ev p.2)):=by
 subst a b;apply jM;intro j;have f:=dW (λl=>l[j]?) h;simp only[cz]at f;simp only[cz,kB,List.getElem?_set];by_cases c:i=j
 ·subst c;simp only[cZ];have g:es.length=L.length:=by simpa using dW List.length h
  by_cases d:i<L.length
  ·grind
  ·grind
 ·grind
def BP{t e:TypeId}{w:Wt_}{b:Nat}{L:List (κ×ν)}{x:κ}{v:ν}(B:P.underlying t=some (.map k e))(p:qK P k enc)(F:eF enc ev w b L):
  ∃o,(Instr.mapUpdate t (.map (some b)) (enc x) (ev v)).run P w=.ok () (w.putObj b o)/\eF enc ev (w.putObj b o) b (put L x v):=by
 obtain⟨D,es,a,f,q,r,s⟩:=F;rcases p.same w x es.toList (L.map (·.1)) (pT q)with⟨h1,A⟩|⟨i,u,h1,A,z,E⟩
 ·refine⟨.map (es.push {key:=enc x,val:=ev v,born:=a}) (a+1),?_,B8 D x v,_,_,by rw[dM,ae rfl,f];rfl,?_,?_,?_⟩
  ·simp[Instr.mapUpdate,aO B,MapKept.run_getObj_map f,p.check,h1,MapKept.run_setObj_map _ f,Result.andThen,World.putObj]
  ·simp[q,zr A]
  ·intro y m;simp only[Array.toList_push,bm,bN]at m;rcases m with m|rfl
   ·grind
   ·grind
  ·grind
 ·have h:(Option.map (λe=>e.key) es[i]?).getD (enc x)=enc x:=by
   have:=dW (λl=>l[i]?) (pT q);simp only[cz]at this z;rw[z]at this;rw[jX]at this;rw[this];rfl
  have c:(es.modify i λe=>{e with key:=enc x,val:=ev v}).toList=es.toList.modify i λe=>{e with key:=enc x,val:=ev v}:=by simp
  refine⟨.map (es.modify i λe=>{e with key:=enc x,val:=ev v}) a,?_,B8 D x v,_,_,by rw[dM,ae rfl,f];rfl,?_,?_,?_⟩
  ·simp[Instr.mapUpdate,aO B,MapKept.run_getObj_map f,p.check,h1,MapKept.run_setObj_map _ f,Result.andThen,h,p.stays,World.putObj]
  ·rw[Wc z E,c];exact MK q rfl rfl
  ·rw[c];intro y m;obtain⟨j,n⟩:=List.mem_iff_getElem?.1 m;rw[kB]at n;cases d:es.toList[j]? with
   |none=>simp[d]at n
   |some C=>
    rw[d]at n;replace n:(if i=j then _ else C)=y:=cS n;have:=r C (cX d);by_cases g:i=j
    ·grind
    ·grind
  ·rw[c]
   have:(es.toList.modify i λe=>{e with key:=enc x,val:=ev v}).map (·.born)=es.toList.map (·.born):=by
    apply jM;intro j;simp only[cz,kB];by_cases g:i=j
    ·grind
    ·simp[g]
   rw[this];exact s
def gL{t e:TypeId}{w:Wt_}{K:World->Prop}{b:Nat}{L:List (κ×ν)}{x:κ}{v:ν}(i:P.underlying t=some (.map k e))(d:qK P k enc)(c:eF enc ev w b L)
  (g:∀a,eF enc ev a b (put L x v)->aS (λh=>h=b) w a->a.heap.size=w.heap.size->K a):vD P (qw t (.map (some b)) (enc x) (ev v)) w K:=by
 obtain⟨o,h1,f⟩:=BP (v:=v) (x:=x) i d c;exact Qm (by unfold qw;exact h1) (g _ f ((aS.refl _ w).putObj (b:=b) (.inl (by simp)) _) (iM ..))
def Cp{t u e:TypeId}{w:Wt_}{K:aY}{A:TypeId}{m:Vt_}{L:List (κ×ν)}{x:κ}(h:P.underlying t=some (.map k e))(f:qK P k enc)(z:yW enc ev w m L)
  (l:∀d,yW enc ev d m (ze L x)->aS (λr=>m=.map (some r)) w d->d.heap.size=w.heap.size->K (.tuple #[]) d):rx P (sQ #[t,u] A [m,enc x]) w K:=by
 rcases z with⟨rfl,rfl⟩|⟨b,rfl,q,es,a,c,p,n,o⟩
 ·exact oI (.tuple #[]) w (by simp[sQ,Builtin.delete_,aO h,f.check,Result.andThen]) (l _ (.inl ⟨rfl,rfl⟩) oU rfl)
 ·rcases f.same w x es.toList (L.map (·.1)) (pT p)with⟨h1,g⟩|⟨i,v,h1,g,y,s⟩
  ·refine oI (.tuple #[]) (w.putObj b (.map es a)) (by simp[sQ,Builtin.delete_,aO h,MapKept.run_getObj_map c,f.check,h1,MapKept.run_setObj_map _ c,Result.andThen,World.putObj])
    (l _ (.inr ⟨b,rfl,by rw[GK g];exact q,es,a,by rw[dM,ae rfl,c];rfl,by rw[GK g];exact p,n,o⟩) ((aS.refl _ w).putObj (b:=b) (.inl (by simp)) _) (iM ..))
  ·have j:(es.eraseIdxIfInBounds i).toList=es.toList.eraseIdx i:=by simp
   refine oI (.tuple #[]) (w.putObj b (.map (es.eraseIdxIfInBounds i) a)) (by simp[sQ,Builtin.delete_,aO h,MapKept.run_getObj_map c,f.check,h1,MapKept.run_setObj_map _ c,Result.andThen,World.putObj])
    (l _ (.inr ⟨b,rfl,LD q x,es.eraseIdxIfInBounds i,a,by rw[dM,ae rfl,c];rfl,?_,?_,?_⟩) ((aS.refl _ w).putObj (b:=b) (.inl (by simp)) _) (iM ..))
   ·rw[WD y s,j,nA,p,<-nA]
   ·grind
   ·grind
end
end Go.Vc
namespace Go.Vc
open Go Go.ChangeShapes Go.WideShapes Go.ChangeAt Go.RowKit
section
variable{H:Type}{enc:TypeId×Value->H}{P:Program}
def aS.same{W a:Wt_}(h:M0 W a){p:MemPlace}(hp:p.block<W.heap.size):W.sameAt a p:=by
 cases p with
 |cell b o=>exact World.cell?_of_block (w:=W) (h.blk b hp id)
 |map b=>exact h.blk b hp id
def aS.frame{W a:Wt_}(h:M0 W a)(may:MemPlace->Prop):W.keptBut a may:=by
 refine⟨h.os,h.out,λi b=>?_⟩;rw[h.blk i b id];split<;>simp_all
def ve{W k:Wt_}(g:laidOutB P=true)(j:M0 W k):∀{e:List TypeId} {vs:LV_} {ds:List (DataW H)} {a:List MemPlace},
  (∀t∈e,P.readableRec t=true/\t<P.types.size)->(∀x∈a,x.block<W.heap.size)->DataW.TrodAll enc P W 0 (λ_=>true) true e vs ds a->
  DataW.TrodAll enc P k 0 (λb=>decide (b<W.heap.size)) true e vs ds a
 | [],[],[],_,_,_,h=>h
 |t::e,v::vs,d::ds,a,f,hp,⟨p,q,h1,l,m⟩=>by
  subst m;refine⟨p,q,?_,ve g j (λt h=>f t (af _ h)) (λx c=>hp x (fE _ c)) l,rfl⟩;have i:=f t ai;exact WideElems.Trod_stays g i.1 i.2 h1 (λx c=>j.same (hp x (cY _ c))) (λx c=>by grind)
def Ha{f:Func}{s:ChangeSpec}{fresh a:Bool}{W v:Wt_}{b:Array Value}{ds m:List (DataW H)}{c:List MemPlace}{n:TypeId}
  (z:laidOutB P=true)(w:(f.params.toList.all λt=>P.readableRec t&& Nat.blt t P.types.size)=true)(r:s.vars=[])
  (l:DataW.Whole enc P f.params.toList s.vars false W b.toList ds m c)(o:M0 W v)
  (g:f.resultTypes= #[n])(k:P.underlying n=some .bool)(d:s.fn H (ds++m)={results:=[.lit (.bool true)],args:=ds}):
  s.post enc P f false fresh a false W b (.bool true) v:=by
 have e:=l;obtain⟨p,q,y,u,rfl,C,A⟩:=l;rw[r]at u;obtain⟨rfl,rfl⟩:=trodVars_none u
 have j:∀t∈f.params.toList,P.readableRec t=true/\t<P.types.size:=λt h=>by
  have:=bf.1 w t h;simp only[ao,lC]at this;exact this
 have i:=e.lt;refine⟨ds,[],p++[],[],p,[],e,?_,?_,?_,o.frame _,λh=>by cases h⟩
 ·rw[d,g];exact trodAll_cons_mk (shut_bool k true) trodAll_mk0
 ·rw[d];exact ve z o j (λx B=>i x (by simpa using B)) y
 ·rw[r,d];rfl
def H1{w:Wt_}{a:Addr}{v:Vt_}(h:w.cell? a=some v):a.spot=none/\∃C e c,w.heap[a.block]? =some (.cells C e c)/\C[a.off]? =some v:=by
 unfold World.cell? at h;cases b:w.heap[a.block]? with
 |none=>rw[b]at h;cases h
 |some o=>
  rw[b]at h;cases o<;>simp at h
  obtain⟨d,f⟩:=h;exact⟨d,_,_,_,rfl,f⟩
def FJ{w:Wt_}{a:Addr}{n cap sz:Nat}{cs:LV_}(s:n<=cap)(j:cs.length=n*sz)(d:∀i v,cs[i]? =some v->w.cell? (a.add i)=some v)(q:0<sz):Rd w sz (.slice (some a) n cap) n cs:=by
 by_cases m:n=0
 ·subst m;exact⟨j,.inl ⟨rfl,_,_,rfl⟩⟩
 have f:0<cs.length:=by rw[j];exact Nat.mul_pos qZ q
 obtain⟨b,c,k⟩:=a;obtain⟨g,C,e,o,hC,-⟩:=H1 (by have:=d 0 _ (aq f);simpa [Addr.add]using this);simp only at g hC;subst g
 have h:∀i v,cs[i]? =some v->C[c+i]? =some v:=by
  intro i v l;have h1:=d i v l;have r:(Addr.add ⟨b,c,none⟩ i)=⟨b,c+i,none⟩:=bD b c i;rw[r]at h1;simpa [World.cell?,hC]using h1
 have p:c+(cs.length - 1)<C.size:=(iI.1 (h (cs.length - 1) _ (aq qZ))).1;refine⟨j,.inr ⟨b,c,cap,rfl,s,C,e,o,hC,qZ,?_⟩⟩;apply jM;intro i;rw[fb];by_cases l:i<cs.length
 ·grind
 ·grind
end
section
variable{H:Type}{enc:TypeId×Value->H}{P:Program}{w:Wt_}{base:Nat}{spare:Nat->Bool}{held:Bool}
def Wt(P:Program)(B:Nat)(t:TypeId)(d:DataW H):Prop:=∀m∈d.weights P t,m<=B
def t7{e:TypeId}:∀{l:List (DataW H)} {d:DataW H},d∈l->∀m∈d.weights P e,m∈DataW.weightsAll P e l
 |a::l,d,b,m,c=>by
  simp only[DataW.weightsAll,bm];rcases ar.1 b with rfl|b
  ·exact .inl c
  ·exact .inr (t7 b m c)
def wM{g:Field->Option (DataW H×List MemPlace)}:∀{l:List Field} {r:List (DataW H×List MemPlace)},l.mapM g=some r->∀f∈l,∃y,g f=some y/\∀m∈y.1.weights P f.type,m∈DataW.weightsEach P (l.map (·.type)) (r.map (·.1))
 | [],_,_,x,c=>by cases c
 |a::l,r,h,x,c=>by
  rw[oF]at h;cases e:g a with
  |none=>simp[e]at h
  |some b=>
   cases d:l.mapM g with
   |none=>simp[e,d]at h
   |some k=>
    simp[e,d]at h;subst h;simp only[aD,DataW.weightsEach,bm];rcases ar.1 c with rfl|c
    ·grind
    ·obtain⟨y,h1,i⟩:=wM d x c;exact⟨y,h1,λm j=>.inr (i m j)⟩
def Wt.slice{t e:TypeId}{B:Nat}{l r:List (DataW H)}(c:P.underlying t=some (.slice e))(h:Wt P B t (.slice l r)):(l.length+r.length)*P.bytesOf e<=B/\∀d∈l,Wt P B e d:=by
 unfold Wt at h;simp only[DataW.weights,c,ar,bm]at h;exact⟨h _ (.inl rfl),λd a m b=>h m (.inr (.inl (t7 a m b)))⟩
def Tm{t e:TypeId}{sz:Nat}{m:Nat}{cs:LV_}{x:DataW H×List MemPlace}(G:P.underlying t=some (.slice e))(hc:P.cellsOf e=sz)(D:0<sz)
  {B:Nat}(N:DataW.trod enc P w base spare held m t cs=some x)(Z:Wt P B t x.1):
  ∃v,cs=[v]/\∃L:List (List Value),Rd w sz v L.length L.flatten/\L.length*P.bytesOf e<=B/\∀c∈L,c.length=sz/\∃W y,DataW.trod enc P w base spare held W e c=some y/\Wt P B e y.1:=by
 rcases DataW.trod_slice G N with⟨rfl,-⟩|⟨a,len,O,z,rest,n,hf,rfl,rfl,hb,U,hm,K,A,Y,S⟩
 ·exact⟨_,rfl,[],⟨by simp,.inl ⟨rfl,_,_,rfl⟩⟩,by simp,by simp⟩
 ·obtain⟨u,E⟩:=Z.slice G
  have l:∀i,i<len->∃c,w.cells? base (a.add (i*sz)) sz=some c/\∃y,DataW.trod enc P w base spare held n e c=some y/\Wt P B e y.1:=by
   intro i b;have h1:=A i b;rw[aq qZ,hc,Option.bind_eq_some_iff]at h1;obtain⟨c,g,q⟩:=h1;exact⟨c,g,_,q,E _ (aL.2 ⟨_,av _,rfl⟩)⟩
  have Q:∀k,k<=len->∃L:List (List Value),L.length=k/\∀i (b:i<L.length),w.cells? base (a.add (i*sz)) sz=some L[i]/\∃y,DataW.trod enc P w base spare held n e L[i]=some y/\Wt P B e y.1:=by
   intro k;induction k with
   |zero=>exact λ_=>⟨[],rfl,λi b=>by simp at b⟩
   |succ k o=>
    intro hk;obtain⟨L,h1,g⟩:=o qZ;obtain⟨c,q,I⟩:=l k qZ;refine⟨L++[c],by simp[h1],λi b=>?_⟩;by_cases R:i<L.length
    ·grind
    ·grind
  obtain⟨L,h1,g⟩:=Q len (az _)
  have d:∀c∈L,c.length=sz:=by
   intro c f;obtain⟨i,b,rfl⟩:=bM f;exact(World.cells?_some (g i b).1).2.1
  have V:∀(M:List (List Value)),(∀c∈M,c.length=sz)->M.flatten.length=M.length*sz:=by
   intro M;induction M with
   |nil=>intro _;simp
   |cons c M o=>
    intro j;rw[List.flatten_cons,ag,o λc h=>j c (af _ h),j c ai,be,nD,nH]
  have p:∀(M:List (List Value)),(∀c∈M,c.length=sz)->∀i v,M.flatten[i]? =some v->∃h:i / sz<M.length,M[i / sz][i%sz]? =some v:=by
   intro M;induction M with
   |nil=>intro _ i v h;simp at h
   |cons c M o=>
    intro j i v h;have F:=j c ai;rw[List.flatten_cons]at h;by_cases b:i<sz
    ·rw[cn qZ]at h;rw[Nat.div_eq_of_lt b,Nat.mod_eq_of_lt b];exact⟨by simp,by simpa using h⟩
    ·rw[bH qZ,F]at h;obtain⟨h1,g⟩:=o (λc h=>j c (af _ h)) (i - sz) v h
     have r:i / sz=(i - sz) / sz+1:=by
      rw[Nat.div_eq_sub_div D qZ]
     have C:i%sz=(i - sz)%sz:=by
      rw[Nat.mod_eq_sub_mod qZ]
     refine⟨by grind,?_⟩;simp only[r,C,il];exact g
  refine⟨_,rfl,L,?_,ci (cF _ (by simp;omega)) u,λc f=>⟨d c f,?_⟩⟩
  ·rw[h1];refine FJ U (by grind) (λi v b=>?_) D;obtain⟨q,I⟩:=p L d i v b;obtain⟨h5,X⟩:=World.cells?_some (g _ q).1 |>.2
   have s:=gp i D;have J:=X (i%sz) s
   have e:((a.add (i / sz*sz)).add (i%sz))=a.add i:=by
    have T:i / sz*sz+i%sz=i:=by rw[eE];exact lq i sz
    conv=>rhs;rw[<-T]
    simp only[Addr.add];by_cases r:i / sz*sz=0
    ·simp[r]
    ·by_cases C:i%sz=0
     ·simp[C,r]
     ·grind
   rw[e]at J;rw[J];exact I
  ·obtain⟨i,b,rfl⟩:=bM f;exact⟨n,(g i b).2⟩
def CW{t:TypeId}{d:Array Field}{a:Nat}{cs:LV_}{x:DataW H×List MemPlace}{B:Nat}(c:P.underlying t=some (.struct d))(b:DataW.trod enc P w base spare held a t cs=some x)(k:Wt P B t x.1):
  ∀f∈d.toList,∃i y,DataW.trod enc P w base spare held i f.type ((cs.drop f.offset).take (P.cellsOf f.type))=some y/\Wt P B f.type y.1:=by
 cases a with
 |zero=>simp[DataW.trod]at b
 |succ n=>
  intro f g;simp only[DataW.trod,c]at b;split at b
  ·rw[Option.map_eq_some_iff]at b;obtain⟨l,h1,rfl⟩:=b;obtain⟨y,h,e⟩:=wM (P:=P) h1 f g;refine⟨n,y,h,λm j=>k m ?_⟩;simp only[DataW.weights,c];exact e m j
  ·cases b
end
end Go.Vc
namespace Go.Vc
open Go Go.Vc
variable {sz n:Nat}{P:Program}{s:Sem Value}{e t:TypeId}{v:Vt_}{w w' :Wt_}{K:aY}
structure AD(P:Program)(gv:Vt_)(xs:List (List Value))(Ok:World->Prop):Prop where
 out:∃f first captured,gv=.func (.func f) first captured/\∀(y:Vt_) (J:(Nat->Prop)->Nat->World->Prop) (Js:World->Prop) (W:Wt_) (K:aY),Ok W->
  (∀Q W1,M0 W W1->(∀b,Q b->W.heap.size<=b/\b<W1.heap.size)->J Q 0 W1)->
  (∀Q i W W',J Q i W->M0 W W' ->J Q i W')->
  (∀Q i x W,xs[i]? =some x->J Q i W->∀K' :aY,(∀W',J Q (i+1) W' ->(∀b,Q b->W'.heap[b]? =W.heap[b]?)->K' (.bool true) W')->(∀W',Js W' ->K' (.bool false) W')->mM P y x W K')->
  (∀Q W,J Q xs.length W->K (.tuple #[]) W)->(∀W,Js W->K (.tuple #[]) W)->Ca P f ⟨first.toList++(y::captured.toList)⟩ W K
def qQ{l:Nat}{W:Wt_}{K:World->Prop}{r:Loop}(h:W.heap[l]? =some (.loop r))(hs:r.state=.ready)(a:K (W.putObj l (.loop {r with state:=.busy}))):pP l W K:=
 ⟨⟨r,h,hs,a⟩⟩
section
variable{P:Program}{gv:Vt_}{w1:Wt_}{np:Nat}{rnd:Nat->List Value->World->(World->Prop)->(Code->World->Prop)->Prop}{after:List Nat->Option Code->World->Prop}
 {xs:List (List Value)}{Ok:World->Prop}
def R9{f:FuncId}{first e:Array Value}{mk:List Nat}
  (B:∀(y:Vt_) (J:(Nat->Prop)->Nat->World->Prop) (V:World->Prop) (W:Wt_) (K:aY),Ok W->
   (∀Q z,M0 W z->(∀b,Q b->W.heap.size<=b/\b<z.heap.size)->J Q 0 z)->
   (∀Q i W a,J Q i W->M0 W a->J Q i a)->
   (∀Q i x W,xs[i]? =some x->J Q i W->∀u:aY,(∀a,J Q (i+1) a->(∀b,Q b->a.heap[b]? =W.heap[b]?)->u (.bool true) a)->(∀a,V a->u (.bool false) a)->mM P y x W u)->
   (∀Q W,J Q xs.length W->K (.tuple #[]) W)->(∀W,V W->K (.tuple #[]) W)->Ca P f ⟨first.toList++(y::e.toList)⟩ W K)
  (O:∀x∈xs,x.length=np)(J:(Nat->Prop)->Nat->World->Prop)(I:Code->World->Prop)
  (N:∀o,Ok (w1.alloc (.loop o)))
  (Y:∀o Q W,M0 (w1.alloc (.loop o)) W->(∀b,Q b->w1.heap.size<b/\b<W.heap.size)->J Q 0 W)
  (l:∀Q i W a,J Q i W->aS (λb=>b=w1.heap.size) W a->J Q i a)
  (q:∀Q i x W r,xs[i]? =some x->J Q i W->W.heap[w1.heap.size]? =some (.loop r)->r.state=.ready->∀R S,
   (∀a,J Q (i+1) a->a.heap[w1.heap.size]? =some (.loop {r with state:=.busy})->(∀b,Q b->a.heap[b]? =W.heap[b]?)->R a)->
   (∀c a,I c a->a.heap[w1.heap.size]? =some (.loop {r with state:=.busy})->S c a)->rnd w1.heap.size x W R S)
  (v:∀Q W o,J Q xs.length W->after mk none (W.putObj w1.heap.size (.loop o)))
  (s:∀c W o,I c W->after mk (some c) (W.putObj w1.heap.size (.loop o)))
  (d:Loop)(g:d.state=.ready)(j:d.pending=none)
  (hY:∀(h:LV_) (W:Wt_) (K:aY),h.length=np->O3 W w1.heap.size d->
    rnd w1.heap.size h W
     (λa=>∃r,tO a w1.heap.size r/\K (.bool true) (a.putObj w1.heap.size (.loop {r with state:=.ready,pending:=none})))
     (λc a=>∃r,tO a w1.heap.size r/\K (.bool false) (a.putObj w1.heap.size (.loop {r with state:=.done,pending:=some c})))->
    Yl P w1.heap.size ⟨h⟩ W K):
  Ca P f ⟨first.toList++(.func (.yield w1.heap.size) #[] #[]::e.toList)⟩ (w1.alloc (.loop d)) λ_ W=>
    ∃r,tO W w1.heap.size r/\r.state≠ .busy/\after mk r.pending (W.putObj w1.heap.size (.loop {r with state:=.exhausted})):=by
 have D:∀(W:Wt_) (o:Obj),aS (λb=>b=w1.heap.size) W (W.putObj w1.heap.size o):=λW o=>(aS.refl _ W).putObj (b:=w1.heap.size) (.inl (by simp)) o;have n:(w1.alloc (.loop d)).heap[w1.heap.size]? =some (.loop d):=by rw[ec,ae rfl]
 have T:(w1.alloc (.loop d)).heap.size=w1.heap.size+1:=cm ..
 refine B _ (λQ i W=>J Q i W/\W.heap[w1.heap.size]? =some (.loop d)/\∀b,Q b->w1.heap.size<b)
  (λW=>∃c r t,I c t/\W=t.putObj w1.heap.size (.loop r)/\W.heap[w1.heap.size]? =some (.loop r)/\r.state=.done/\r.pending=some c) _ _ (N d) ?_ ?_ ?_ ?_ ?_
 ·intro Q z C w;refine⟨Y d Q z C λb E=>⟨?_,(w b E).2⟩,C.keep n id,λb E=>?_⟩
  ·grind
  ·grind
 ·rintro Q i W a ⟨A,m,w⟩ C;exact⟨l Q i W a A (C.mono λ_ _ hf=>hf.elim),C.keep m id,w⟩
 ·rintro Q i x W U ⟨A,m,w⟩ u hT hF;apply kE.2;show Yl P w1.heap.size ⟨_⟩ W u;have F:x.length=np:=O x (cX U);have e1:(#[]:Array Value).toList++x=x:=rfl;rw[e1];apply hY x W u F ⟨d.state,d.pending,m⟩;refine q Q i x W d U A m g _ _ ?_ ?_
  ·intro a G k Z;refine⟨_,k,hT _ ⟨l _ _ _ _ G (D _ _),?_,w⟩ λb E=>?_⟩
   ·rw[dM,ae rfl,k];simp[<-g,<-j]
   ·rw[dM,aa (by grind)];exact Z b E
  ·intro c a p k;refine⟨_,k,hF _ ⟨c,{d with state:=.done,pending:=some c},a,p,rfl,?_,rfl,rfl⟩⟩;rw[dM,ae rfl,k];rfl
 ·rintro Q W ⟨A,m,_⟩;refine⟨d,m,by rw[g];decide,?_⟩;rw[j];exact v Q W _ A
 ·rintro W ⟨c,r,t,p,rfl,m,L,H⟩;refine⟨r,m,by rw[L];decide,?_⟩
  have X:∀o M:Obj,(t.putObj w1.heap.size o).putObj w1.heap.size M=t.putObj w1.heap.size M:=λo M=>by
   simp[World.putObj]
  rw[X,H];exact s c t _ p
def GM{w:Wt_}(hit:AD P gv xs Ok)(l:∀x∈xs,x.length=np)(J:(Nat->Prop)->Nat->World->Prop)(k:Code->World->Prop)
  (q:∀o,Ok ((w.alloc (.deferred (some []))).alloc (.loop o)))
  (z:∀o Q W,M0 ((w.alloc (.deferred (some []))).alloc (.loop o)) W->(∀b,Q b->w.heap.size+1<b/\b<W.heap.size)->J Q 0 W)
  (u:∀Q i W a,J Q i W->aS (λb=>b=w.heap.size+1) W a->J Q i a)
  (n:∀Q i x W r,xs[i]? =some x->J Q i W->W.heap[w.heap.size+1]? =some (.loop r)->r.state=.ready->∀s v,
   (∀a,J Q (i+1) a->a.heap[w.heap.size+1]? =some (.loop {r with state:=.busy})->(∀b,Q b->a.heap[b]? =W.heap[b]?)->s a)->
   (∀c a,k c a->a.heap[w.heap.size+1]? =some (.loop {r with state:=.busy})->v c a)->rnd (w.heap.size+1) x W s v)
  (t:∀Q W o,J Q xs.length W->after [w.heap.size] none (W.putObj (w.heap.size+1) (.loop o)))
  (p:∀c W o,k c W->after [w.heap.size] (some c) (W.putObj (w.heap.size+1) (.loop o))):
  Et P none gv w np rnd after:=by
 obtain⟨f,first,g,rfl,h⟩:=hit.out;apply sV.2;show∀j:Loop,_;intro j d e A y;have m:(w.alloc (.deferred (some []))).heap.size=w.heap.size+1:=cm ..;refine R9 (w1:=w.alloc (.deferred (some []))) h l J k q ?_ ?_ ?_ ?_ ?_ j d e y
 all_goals rw[m]
 all_goals assumption
end
def Jv{C xs a:LV_}{o:Nat}(h:o+xs.length+a.length<=C.length):iC (iC C o xs) (o+xs.length) a=iC C o (xs++a):=by
 unfold iC
 have h1:(C.take o++xs++C.drop (o+xs.length)).take (o+xs.length)=C.take o++xs:=by
  rw[aN (by simp;omega),aC (by simp;omega)]
 have b:(C.take o++xs++C.drop (o+xs.length)).drop (o+xs.length+a.length)=C.drop (o+(xs++a).length):=by
  rw[mQ,List.drop_eq_nil_of_le (by simp;omega),eX,cB];congr 1;simp;omega
 rw[h1,b];simp[aH]
section
variable{P:Program}{k:TypeId}{κ ν:Type}{enc:κ->Value}{ev:ν->Value}
def kR(enc:κ->Value)(ev:ν->Value)(w:Wt_)(it m:Nat)(rest:List (κ×ν)):Prop:=
 ∃es clock seen,w.heap[m]? =some (.map es clock)/\w.heap[it]? =some (.mapIter (some m) clock seen clock)/\(∀x∈es.toList,x.born<clock)/\(es.toList.map (·.born)).Nodup/\
  (es.toList.filter λe=> !seen.contains e.born).map (λe=>(e.key,e.val))=rest.map (λp=>(enc p.1,ev p.2))
def kR.keep{w w' :Wt_}{it m:Nat}{rest:List (κ×ν)}(h:kR enc ev w it m rest)(h1:w'.heap[m]? =w.heap[m]?)(c:w'.heap[it]? =w.heap[it]?):kR enc ev w' it m rest:=by
 obtain⟨es,a,seen,b,e,d⟩:=h;exact⟨es,a,seen,by rw[h1];exact b,by rw[c];exact e,d⟩
def kR.lt{w:Wt_}{it m:Nat}{rest:List (κ×ν)}(h:kR enc ev w it m rest):m<w.heap.size/\it<w.heap.size:=by
 obtain⟨es,a,seen,b,c,d⟩:=h;exact⟨ay b,ay c⟩
def kR.mod{F:NP_}{w w' :Wt_}{it m:Nat}{rest:List (κ×ν)}(h:kR enc ev w it m rest)(a:aS F w w')(h1:¬F m)(b:¬F it):kR enc ev w' it m rest:=
 h.keep (a.blk m h.lt.1 h1) (a.blk it h.lt.2 b)
def rj(it m:Nat)(w:Wt_):Nat:=
 match w.heap[it]?,w.heap[m]? with
 |some (.mapIter _ _ seen _),some (.map es _)=>(es.toList.filter λe=> !seen.contains e.born).length
 |_,_=>0
def kR.left{w:Wt_}{it m:Nat}{rest:List (κ×ν)}(h:kR enc ev w it m rest):rj it m w=rest.length:=by
 obtain⟨es,a,seen,b,d,_,_,c⟩:=h;unfold rj;rw[b,d];simpa using dW List.length c
def sD [DecidableEq κ]{t e:TypeId}{w:Wt_}{K:aY}{b:Nat}{L:List (κ×ν)}(l:P.underlying t=some (.map k e))(h:eF enc ev w b L)
  (j:∀d,kR enc ev d w.heap.size b L->M0 w d->K (bO w.heap.size 0) d):rx P (Ao t (.map (some b))) w K:=by
 obtain⟨m,es,a,g,i,c,f⟩:=h;refine oI (bO w.heap.size 0) (w.alloc (.mapIter (some b) a #[] a)) ?_ (j _ ⟨es,a,#[],?_,?_,c,f,?_⟩ kU)
 ·simp[Ao,Instr.range,aO l,MapKept.run_getObj_map g,Result.andThen]
 ·rw[ec,aa (by grind)];exact g
 ·rw[ec,ae rfl]
 ·rw[<-i];congr 1;exact cL.2 λ_ _=>by simp
def qx{w:Wt_}{r:Nat}{m:Option Nat}{a:Nat}{s:Array Nat}{c:Nat}(b:w.heap[r]? =some (.mapIter m a s c)):(getObj r).run P w=.ok (.mapIter m a s c) w:=by
 simp[getObj,Sem.run,b]
def y8{w:Wt_}{r:Nat}{m:Option Nat}{a:Nat}{s:Array Nat}{c:Nat}(o:Obj)(b:w.heap[r]? =some (.mapIter m a s c)):(setObj r o).run P w=.ok () (w.putObj r o):=by
 simp[setObj,Sem.run,b,World.putObj]
def xE(enc:κ->Value)(ev:ν->Value)(w:Wt_)(it m:Nat)(p:κ×ν):Prop:=
 ∃es clock since seen stamp e,w.heap[m]? =some (.map es clock)/\w.heap[it]? =some (.mapIter (some m) since seen clock)/\seen.back? =some stamp/\es.find? (λx=>x.born==stamp)=some e/\e.key=enc p.1/\e.val=ev p.2
def xE.mod{F:NP_}{w w' :Wt_}{it m:Nat}{p:κ×ν}(h:xE enc ev w it m p)(g:aS F w w')(h1:¬F m)(i:¬F it):xE enc ev w' it m p:=by
 obtain⟨es,d,c,seen,f,e,a,b,r⟩:=h;exact⟨es,d,c,seen,f,e,g.keep a h1,g.keep b i,r⟩
def si{w:Wt_}{K:aY}{it m:Nat}{p:κ×ν}(h:xE enc ev w it m p)(g:K (.tuple #[enc p.1,ev p.2]) w):rx P (Ap (bO it 0)) w K:=by
 obtain⟨es,b,a,seen,c,e,l,j,d,i,f,n⟩:=h;refine jP ?_ g;simp[Ap,Instr.entry,qx j,MapKept.run_getObj_map l,Result.andThen,d,i,f,n]
def Lb{l:List MapEntry}{x:MapEntry}(b:(l.map (·.born)).Nodup)(a:x∈l):l.find? (λe=>e.born==x.born)=some x:=by
 induction l with
 |nil=>cases a
 |cons y l c=>
  simp only[aD,bY]at b;rcases ar.1 a with rfl|a
  ·simp
  ·grind
def GA(es:List MapEntry)(seen:Array Nat)(x:MapEntry)(c:(es.map (·.born)).Nodup)(g:x∈es)(hs: !seen.contains x.born)(i:Nat)
  (hi:(es.filter λe=> !seen.contains e.born)[i]? =some x):
  es.filter (λe=> !(seen.push x.born).contains e.born)=(es.filter λe=> !seen.contains e.born).eraseIdx i:=by
 have d:es.filter (λe=> !(seen.push x.born).contains e.born)=(es.filter λe=> !seen.contains e.born).filter (λe=> !(e.born==x.born)):=by
  rw[gl];apply dH;intro e _;simp only[Array.contains_push,Bool.not_or];rw[Bool.and_comm]
 rw[d];have a:((es.filter λe=> !seen.contains e.born).map (·.born)).Nodup:=c.sublist (ew.map _);generalize(es.filter λe=> !seen.contains e.born)=l at hi a;clear d hs g c;induction l generalizing i with
 |nil=>simp at hi
 |cons y l j=>
  simp only[aD,bY]at a;cases i with
  |zero=>
   have:y=x:=by simpa using hi
   subst this;rw[aU (by simp)];simp only[List.eraseIdx_cons_zero];refine cL.2 λz f=>?_;have:z.born≠y.born:=λh=>a.1 (h▸aR f);simpa using this
  |succ i=>
   have b:x∈l:=cX (by simpa using hi);have:y.born≠x.born:=λh=>a.1 (h▸aR b);rw[bI (by simpa using this)];simp only[js];rw[j i (by simpa using hi) a.2]
def uS{t:TypeId}{w:Wt_}{K:aY}{it m:Nat}{rest:List (κ×ν)}(h:kR enc ev w it m rest)
  (Y:rest=[]->∀s,M0 w s->s.heap=w.heap->K (.tuple #[.bool false]) s)
  (h1:∀i p,rest[i]? =some p->∀s,kR enc ev s it m (rest.eraseIdx i)->xE enc ev s it m p->aS (λb=>b=it) w s->s.heap.size=w.heap.size->K (.tuple #[.bool true,enc p.1,ev p.2]) s):
  rx P (C7 (bO it 0) false t) w K:=by
 obtain⟨es,a,seen,J,L,u,D,R⟩:=h
 have f:(!seen.isEmpty&& !es.isEmpty&& es.all (λx=>decide (x.born≥a)))=false:=by
  cases r:es.isEmpty with
  |true=>simp
  |false=>
   have O:0<es.size:=by
    rcases Nat.eq_zero_or_pos es.size with h|h
    ·rw[Array.isEmpty_iff.2 (gO h)]at r;cases r
    ·exact h
   have:(es.all λx=>decide (x.born≥a))=false:=by
    rw[ez];intro X;have h2:=u es[0] (by simp);have Z:=Array.all_eq_true.1 X 0 O;simp at Z;omega
   rw[this];simp
 have g:(es.filter λe=> !seen.contains e.born).filter (λe=>decide (e.born<a))=es.filter λe=> !seen.contains e.born:=by
  refine Array.filter_eq_self.2 λx F=>?_;exact aQ (u x (by simpa using(Array.mem_filter.1 F).1))
 have j:(es.filter λe=> !seen.contains e.born).filter (λe=>decide (e.born≥a))= #[]:=by
  refine Array.filter_eq_empty_iff.2 λx F=>?_;have:=u x (by simpa using(Array.mem_filter.1 F).1);simp;omega
 have c:(es.filter λe=> !seen.contains e.born).toList=es.toList.filter λe=> !seen.contains e.born:=by simp
 generalize T:(es.filter λe=> !seen.contains e.born)=left at g j c
 have v:left.size=rest.length:=by
  rw[<-Array.length_toList,c];simpa using dW List.length R
 by_cases U:rest=[]
 ·subst U;have N:left= #[]:=gO (by simpa using v);subst N
  have n:(Instr.next (bO it 0) false t).run P w=.ok (.tuple #[.bool false]) w:=by
   unfold Instr.next;simp only[dh,qx L,MapKept.run_getObj_map J,Result.andThen];rw[f];simp only[bj,da];rw[T,g,j];have Q:((if(#[]:Array MapEntry).isEmpty=true then #[none]else #[])++((#[]:Array MapEntry)++ #[]).map some)= #[none]:=by simp
   rw[Q];simp[run_choose,Question.forced,Result.andThen]
  exact jP (by unfold C7;exact n) (Y rfl w oU rfl)
 ·have d:0<left.size:=by
   rw[v];exact List.length_pos_iff.2 U
  have r:left.isEmpty=false:=by
   cases h:left.isEmpty with
   |false=>rfl
   |true=>rw[Array.isEmpty_iff.1 h]at d;simp at d
  obtain⟨i,q,M,I,B⟩:∃(i:Nat) (q:Wt_),i<left.size/\(q=w\/q=w.drew)/\(choose (Question.mapNext left.size)).run P w=.ok i q:=by
   by_cases V:(Question.mapNext left.size).forced=true
   ·exact⟨0,w,d,.inl rfl,by rw[run_choose,ae V]⟩
   ·refine⟨_,w.drew,?_,.inr rfl,by rw[run_choose,aa V];rfl⟩;exact gp _ d
  have F:left[i]? =some left[i]:=gz M
  have z:(es.toList.filter λe=> !seen.contains e.born)[i]? =some left[i]:=by
   rw[<-c,jX];exact F
  have E:=cX z;have H:i<rest.length:=qZ
  have hp:(left[i].key,left[i].val)=(enc rest[i].1,ev rest[i].2):=by
   have:=dW (λl=>l[i]?) R;simp only[cz,z,aq H,eI,gE]at this;exact this
  have o:q.heap=w.heap:=by rcases I with rfl|rfl<;>rfl
  have A:q.heap[it]? =some (.mapIter (some m) a seen a):=by rw[o];exact L
  have G:q.heap[m]? =some (.map es a):=by rw[o];exact J
  have C:aS (λb=>b=it) w q:=by
   rcases I with rfl|rfl
   ·exact oU
   ·exact(aS.refl _ _).drew
  have y:it≠m:=by
   intro h;subst h;rw[L]at J;cases J
  have n:(Instr.next (bO it 0) false t).run P w=.ok (.tuple #[.bool true,left[i].key,left[i].val]) (q.putObj it (.mapIter (some m) a (seen.push left[i].born) a)):=by
   unfold Instr.next;simp only[dh,qx L,MapKept.run_getObj_map J,Result.andThen];rw[f];simp only[bj,da];rw[T,g,j,r];have Q:((if false=true then #[none]else #[])++(left++ #[]).map some)=left.map some:=by simp
   rw[Q];simp only[dh,ib,Array.size_map,B,Result.andThen,Array.getElem?_map,F,eI,y8 _ A]
  apply jP (by unfold C7;exact n);have S:left[i].key=enc rest[i].1:=(Prod.mk.inj hp).1;have W:left[i].val=ev rest[i].2:=(Prod.mk.inj hp).2;rw[S,W];refine h1 i rest[i] (aq H) _ ⟨es,a,seen.push left[i].born,?_,?_,u,D,?_⟩ ?_ (C.putObj (.inl rfl) _) ?_
  ·rw[dM,aa (λe=>y e.symm)];exact G
  ·rw[dM,ae rfl,A];rfl
  ·rw[GA es.toList seen left[i] D (aT.1 E).1 (aT.1 E).2 i z,nA,R,<-nA]
  ·refine⟨es,a,a,seen.push left[i].born,left[i].born,left[i],?_,?_,by simp,?_,S,W⟩
   ·rw[dM,aa (λe=>y e.symm)];exact G
   ·rw[dM,ae rfl,A];rfl
   ·rw[<-Array.find?_toList];exact Lb D (aT.1 E).1
  ·rw[iM,o]
end
def rP{h:TypeId}{len:Nat}{cs:Array Value}{k:IntKind}{i:Nat}(j:P.underlying h=some (.array len e))(f:lI P e=false)(g:(P.underlying e).isSome=true)(l:P.cellsOf e=0+1)(hi:i<len)(m:cs[i]? =some v):
  (Instr.index h (.agg cs) (.int k i)).run P w=.ok v w:=by
 have c:(i:Int)<len:=qZ
 have b:(isAgg e).run P w=.ok false w:=by
  unfold isAgg;unfold lI at f;cases a:P.underlying e with
  |none=>rw[a]at g;cases g
  |some d=>
   rw[a]at f;simp only[dh,aO a,Result.andThen];cases d<;>first|rfl|(simp at f)
 simp[Instr.index,aO j,Result.andThen,c,hi,kZ l,part,b,asIntOf,m]
def xL{κ ν:Type} [DecidableEq κ]{enc:κ->Value}{ev:ν->Value}{t k e:TypeId}{w:Wt_}{m:Vt_}{L:List (κ×ν)}{x:κ}{z:Vt_}(d:P.underlying t=some (.map k e))(b:qK P k enc)
  (c:lw P e=some z)(a:yW enc ev w m L):(ju t m (enc x) true).run P w=.ok (.tuple #[(lk L x).elim z ev,.bool (lk L x).isSome]) w:=by
 unfold ju;rw[mB d b c a];cases lk L x<;>rfl
def IZ{κ ν:Type} [DecidableEq κ]{enc:κ->Value}{ev:ν->Value}{t k e ty:TypeId}{w:Wt_}{b:Nat}{L:List (κ×ν)}(c:P.underlying t=some (.map k e))(h:eF enc ev w b L):
  (Builtin.len_ #[t] ty #[.map (some b)]).run P w=.ok (gI L.length) w:=by
 obtain⟨i,es,a,d,g,_⟩:=h;have f:es.size=L.length:=by simpa using dW List.length g
 simp[Builtin.len_,aO c,MapKept.run_getObj_map d,Result.andThen,goInt,f]
def ny{α:Type}{l:List α}{i:Nat}{p:α}(h:l[i]? =some p):l.Perm (p::l.eraseIdx i):=by
 induction l generalizing i with
 |nil=>simp at h
 |cons x l a=>
  cases i with
  |zero=>
   have:x=p:=by simpa using h
   subst this;exact cR _
  |succ i=>
   simp only[js];exact((a (by simpa using h)).cons x).trans (List.Perm.swap ..)
def d8{S:Type}{body:S->World->(S->World->Prop)->Prop}{s:S}(I:S->World->Prop)(m:S->World->Nat)(e:I s w)
  (h:∀s w,I s w->∀c:S->World->Prop,(∀a b,I a b->m a b<m s w->c a b)->body s w c):nU body s w:=
 ⟨⟨I,m,e,λs w f=>h s w f _ λ_ _ h1 d=>⟨h1,d⟩⟩⟩
def aZ{f:FuncId}{b a:Array Value}(h1:b=a)(c:w=w'):Ca P f b w K=Ca P f a w' K:=by subst h1 c;rfl
def bh(h:s.run P w=.ok v w')(a:K v w'):rv P s w K:=by
 rw[A2];unfold UJ;rw[h];exact a
def ax(v:Vt_)(w' :Wt_)(h:s.run P w=.ok v w')(a:K v w'):rv P s w K:=bh h a
def gg{s:Sem Unit}{K:World->Prop}(h:s.run P w=.ok () w')(a:K w'):ru P s w K:=by
 rw[Ax];unfold Up;rw[h];exact a
def pl{s:Sem Unit}{K:World->Prop}(w' :Wt_)(h:s.run P w=.ok () w')(a:K w'):ru P s w K:=gg h a
def sr{s:Sem Next}(h:s.run P w=.ok (.value v) w')(a:K v w'):rn P s w K:=by
 rw[py];unfold Nu;rw[h];exact a
def iq{s:Sem Next}(v:Vt_)(w' :Wt_)(h:s.run P w=.ok (.value v) w')(a:K v w'):rn P s w K:=sr h a
def cK{K:Value->Prop}(h:s.run P w=.ok v w)(a:K v):l8 P s w K:=by
 rw[xd];unfold Fe;rw[h];exact⟨rfl,a⟩
def qy{K:Value->Prop}(v:Vt_)(h:s.run P w=.ok v w)(a:K v):l8 P s w K:=cK h a
def bQ{K:Value->Prop}(h:∀w,s.run P w=.ok v w)(a:K v):g9 P s K:=⟨⟨v,h,a⟩⟩
def cT{K:Value->Prop}(v:Vt_)(h:∀w,s.run P w=.ok v w)(a:K v):g9 P s K:=bQ h a
def pC(h:P.underlying t=some (.slice e)):P.underlying t=some (.slice (P.elem t))/\P.elem t=e:=by
 have:P.elem t=e:=by simp[Program.elem,h]
 rw[this];exact⟨h,rfl⟩
def Rd.part{cs:LV_}(F:P.underlying t=some (.slice e))(C:P.cellsOf e=sz+1)(h:Rd w (sz+1) v n cs)
  {lo hi:Nat}(h1:lo<=hi)(D:hi<=n)(kl kh:IntKind):
  ∃k,(∀W,(Instr.sliceAt t v (some (.int kl (lo:Int))) (some (.int kh (hi:Int))) none).run P W=.ok k W)/\Rd w (sz+1) k (hi - lo) ((cs.drop (lo*(sz+1))).take ((hi - lo)*(sz+1)))/\(∀b,vw k b->vw v b):=by
 obtain⟨y,H⟩:=pC F;obtain⟨z,o⟩:=h
 obtain⟨a,d,rfl,u⟩:∃a d,v=.slice a n d/\(n<=d\/n=0):=by
  rcases o with⟨rfl,a,c,rfl⟩|⟨b,g,d,rfl,C,_⟩
  ·grind
  ·grind
 refine⟨sliced a lo hi d (sz+1),λW=>?_,?_,?_⟩
 ·rw[run_sliceAt_slice W t _ _ _ _ y,run_slice_lh W t a n d y kl kh lo hi qZ qZ qZ,H,kZ C];simp[Result.andThen]
 ·refine⟨?_,?_⟩
  ·rw[aB,bq,z];have:=cF (sz+1) D;rw[mq];omega
  ·by_cases s:hi - lo=0
   ·left;exact⟨s,_,_,by unfold sliced;rw[s]⟩
   ·rcases o with⟨p,_⟩|⟨b,g,j,f,l,x⟩
    ·omega
    injection f with i E B;subst i;subst B;right;refine⟨b,g+lo*(sz+1),d - lo,?_,qZ,?_⟩
    ·unfold sliced;rw[aa qZ];simp[bD]
    ·have:=x.sub (lo*(sz+1)) ((hi - lo)*(sz+1)) (by
      rw[z,<-er];exact cF _ qZ)
     exact this
 ·rintro b ⟨J,m,I,A,K,rfl⟩;unfold sliced at A;injection A with i E B;by_cases r:d=lo
  ·grind
  ·rw[aa r]at i;cases a with
   |none=>cases i
   |some G=>
    simp only[eI,gE]at i;refine⟨G,n,d,rfl,qZ,?_⟩;rcases o with⟨p,_⟩|⟨b,g,j,f,l,x⟩
    ·omega
    ·injection f with q;injection q with q;subst q;rw[<-i,bD]
def Rd.from_{cs:LV_}(j:P.underlying t=some (.slice e))(k:P.cellsOf e=sz+1)(h:Rd w (sz+1) v n cs)
  {lo:Nat}(h1:lo<=n)(kl:IntKind):
  ∃f,(∀W,(Instr.sliceAt t v (some (.int kl (lo:Int))) none none).run P W=.ok f W)/\Rd w (sz+1) f (n - lo) (cs.drop (lo*(sz+1)))/\(∀b,vw f b->vw v b):=by
 obtain⟨f,p,l,m⟩:=h.part j k h1 (az n) kl .i64;obtain⟨g,s⟩:=pC j;refine⟨f,λW=>?_,?_,m⟩
 ·rw[<-p W];obtain⟨r,q⟩:=h
  obtain⟨a,d,rfl,i⟩:∃a d,v=.slice a n d/\(n<=d\/n=0):=by
   rcases q with⟨rfl,a,c,rfl⟩|⟨b,o,d,rfl,k,_⟩
   ·grind
   ·grind
  rw[run_sliceAt_slice W t _ _ _ _ g,run_sliceAt_slice W t _ _ _ _ g,run_slice_lh W t a n d g kl .i64 lo n qZ qZ qZ,run_slice_l W t a n d g kl lo qZ qZ];rfl
 ·have e:(cs.drop (lo*(sz+1))).take ((n - lo)*(sz+1))=cs.drop (lo*(sz+1)):=by
   rw[aC];rw[bq,h.1,mq];omega
  rwa[e]at l
def Rd.byte{l:List UInt8}(h:Rd w 1 v n (bv l)){i:Nat}(hi:i<n)(j:i<l.length):
  ∃b c a C e d,v=.slice (some ⟨b,c,none⟩) n a/\n<=a/\hp w b=some (.cells C e d)/\C[c+i]? =some (gB (l[i].toNat:Int)):=by
 obtain⟨_,⟨m,_⟩|⟨b,c,a,rfl,k,g⟩⟩:=h
 ·omega
 ·obtain⟨C,e,d,hC,f⟩:=g.get;exact⟨b,c,a,C,e,d,rfl,k,hC,f i _ (by rw[bv,cz,aq j];rfl)⟩
def YB{by_ m:Nat}{x:Vt_}{a:LV_}(g:P.underlying t=some (.slice e))(i:vi P e sz by_)(u:Rd w sz x m a)(h1:a.all (·.oneCell')=true)(c:m*by_<=140737488355328)
  (q:∀d f,gD f e sz d m a->M0 w f->(∀b,aK d b->w.heap.size<=b)->K d f):
  rx P (pN t 0 []) w λv l=>rx P (eZ #[t,t] t [v,x]) l K:=by
 refine nK [] g i rfl rfl (by simp) qZ ?_;have j:∀o,M0 w (w.alloc o):=λo=>(aS.refl _ w).alloc o;refine jJ (n:=0) (m:=m) (cs:=[]) g g i ?_ (u.mod (j _) dS) h1 (by grind) λd f r s p=>?_
 ·refine⟨by simp,.inr ⟨w.heap.size,0,[],rfl,az _,?_,by simp⟩⟩;rw[ec,ae rfl];simp
 ·have k:∀b,aK (.slice (some ⟨w.heap.size,0,none⟩) 0 0) b->w.heap.size<=b:=λb c=>by
   simp only[aK,QM]at c;have:=cS c;omega
  refine q d f (by simpa using r) ((j _).on s λb c=>.inr (k b c)) λb c=>?_;rcases p b c with h|h
  ·exact k b h
  ·rw[cm]at h;omega
def CI:∀a:List UInt8,(bv a).flatMap (·.cells.toList)=bv a
 | []=>rfl
 |u::a=>by
  show(Value.cells (Value.int .u8 u.toNat)).toList++(bv a).flatMap (λv=>v.cells.toList)=_;rw[CI a];rfl
def Pf{a:List (Nat×Value)}(c:List UInt8)(i:P.underlying t=some (.slice e))(l:vi P e 1 1)(f:a=c.zipIdx.map λp=>(p.2,gB p.1.toNat))(h:c.length=n)(g:n<=1000)
  (j:∀v d,gD d e 1 v n (bv c)->M0 w d->(∀b,aK v b->w.heap.size<=b/\b<d.heap.size)->K v d):rx P (pN t n a) w K:=by
 have k:a=(bv c).zipIdx.map λp=>(p.2,p.1):=by
  rw[f,bv,List.zipIdx_map,dK];rfl
 have m:=CI c
 refine nK (bv c) i l k (by simpa using h) (λv o=>by
  obtain⟨u,_,rfl⟩:=aL.1 o;rfl) qZ ?_
 rw[m];refine j _ _ ⟨by simpa using h,.inr ⟨_,n,[],rfl,az _,by show hp _ _=_;simp[go_sem],by simp,by simp⟩⟩ kU λb g=>?_;have:b=w.heap.size:=by cases g;rfl
 rw[cm];omega
def aS.hpk{F:NP_}(h:aS F w w'){b:Nat}{o:Obj}(c:hp w b=some o)(a:¬F b):hp w' b=some o:=h.keep c a
def fI{n:Int}(a: -9223372036854775808<=n)(h1:n<9223372036854775808):IntKind.i64.wrap n=n:=by rw[bU];omega
def qC{n:Int}(a:0<=n)(h1:n<18446744073709551616):IntKind.u64.wrap n=n:=by rw[IntKind.wrap_u64];omega
end Go.Vc
namespace Go.Proofs
open Go Go.Vc
section
variable{P:Program}{s:Sem Value}{u:Sem Unit}{n:Sem Next}{w w' :Wt_}{K:aY}{A B:World->Prop}{C D:Prop}{L:World->Prop}{M:Value->Prop}{v:Vt_}{p q r:Prop}
def dq(a:K v w')(h:s.run P w=.ok v w' :=by simp[-Int.natCast_add,go_sem]<;>first|exact⟨rfl,rfl⟩|exact rfl):rv P s w K:=bh h a
def lY(v:Vt_)(a:K v w')(h:s.run P w=.ok v w' :=by simp[go_sem]<;>first|exact⟨rfl,rfl⟩|exact rfl):rv P s w K:=bh h a
def jZ(a:A w')(h:s.run P w=.ok (.bool true) w' :=by simp[go_sem]<;>first|exact⟨rfl,rfl⟩|exact rfl):rv P s w λv w=>qr v (A w) (B w):=bh h (by rw[jV];exact a)
def eK(a:B w')(h:s.run P w=.ok (.bool false) w' :=by simp[go_sem]<;>first|exact⟨rfl,rfl⟩|exact rfl):rv P s w λv w=>qr v (A w) (B w):=bh h (by rw[ij];exact a)
def Hn(a:K v w')(h:n.run P w=.ok (.value v) w' :=by simp[-Int.natCast_add,go_sem]<;>first|exact⟨rfl,rfl⟩|exact rfl):rn P n w K:=sr h a
def rD(a:M v)(h:∀w,s.run P w=.ok v w:=by intro _;simp[-Int.natCast_add,go_sem]<;>first|exact⟨rfl,rfl⟩|exact rfl):g9 P s M:=bQ h a
def Mg(v:Vt_)(a:M v)(h:∀w,s.run P w=.ok v w:=by intro _;simp[go_sem]<;>first|exact⟨rfl,rfl⟩|exact rfl):g9 P s M:=bQ h a
def XD(a:M v)(h:s.run P w=.ok v w:=by simp[-Int.natCast_add,go_sem]<;>first|exact⟨rfl,rfl⟩|exact rfl):l8 P s w M:=cK h a
def dE(f:p)(a:K v w')(h:p->s.run P w=.ok v w' :=by intro f;simp[-Int.natCast_add,go_sem,f]<;>first|exact⟨rfl,rfl⟩|exact rfl):rv P s w K:=bh (h f) a
def tX(v:Vt_)(f:p)(a:K v w')(h:p->s.run P w=.ok v w' :=by intro f;simp[go_sem,f]<;>first|exact⟨rfl,rfl⟩|exact rfl):rv P s w K:=bh (h f) a
def dB(f:p)(a:A w')(h:p->s.run P w=.ok (.bool true) w' :=by intro f;simp[go_sem,f]<;>first|exact⟨rfl,rfl⟩|exact rfl):rv P s w λv w=>qr v (A w) (B w):=bh (h f) (by rw[jV];exact a)
def ey(f:p)(a:B w')(h:p->s.run P w=.ok (.bool false) w' :=by intro f;simp[go_sem,f]<;>first|exact⟨rfl,rfl⟩|exact rfl):rv P s w λv w=>qr v (A w) (B w):=bh (h f) (by rw[ij];exact a)
def MU(f:p)(a:L w')(h:p->u.run P w=.ok () w' :=by intro f;simp[-Int.natCast_add,go_sem,f]<;>first|exact⟨rfl,rfl⟩|exact rfl):ru P u w L:=gg (h f) a
def qN1(f:p)(a:K v w')(h:p->n.run P w=.ok (.value v) w' :=by intro f;simp[-Int.natCast_add,go_sem,f]<;>first|exact⟨rfl,rfl⟩|exact rfl):rn P n w K:=sr (h f) a
def qP1(f:p)(a:M v)(h:p->∀w,s.run P w=.ok v w:=by intro f _;simp[-Int.natCast_add,go_sem,f]<;>first|exact⟨rfl,rfl⟩|exact rfl):g9 P s M:=bQ (h f) a
def XJ(v:Vt_)(f:p)(a:M v)(h:p->∀w,s.run P w=.ok v w:=by intro f _;simp[go_sem,f]<;>first|exact⟨rfl,rfl⟩|exact rfl):g9 P s M:=bQ (h f) a
def Ih(f:p)(a:C)(h:p->∀w,s.run P w=.ok (.bool true) w:=by intro f _;simp[go_sem,f]<;>first|exact⟨rfl,rfl⟩|exact rfl):g9 P s λv=>qr v C D:=bQ (h f) (by rw[jV];exact a)
def IR(f:p)(a:D)(h:p->∀w,s.run P w=.ok (.bool false) w:=by intro f _;simp[go_sem,f]<;>first|exact⟨rfl,rfl⟩|exact rfl):g9 P s λv=>qr v C D:=bQ (h f) (by rw[ij];exact a)
def xj(f:p)(a:M v)(h:p->s.run P w=.ok v w:=by intro f;simp[-Int.natCast_add,go_sem,f]<;>first|exact⟨rfl,rfl⟩|exact rfl):l8 P s w M:=cK (h f) a
def S6(v:Vt_)(f:p)(a:M v)(h:p->s.run P w=.ok v w:=by intro f;simp[go_sem,f]<;>first|exact⟨rfl,rfl⟩|exact rfl):l8 P s w M:=cK (h f) a
def mK(f:p)(g:q)(a:K v w')(h:p->q->s.run P w=.ok v w' :=by intro f g;simp[-Int.natCast_add,go_sem,f,g]<;>first|exact⟨rfl,rfl⟩|exact rfl):rv P s w K:=bh (h f g) a
def Me(v:Vt_)(f:p)(g:q)(a:K v w')(h:p->q->s.run P w=.ok v w' :=by intro f g;simp[go_sem,f,g]<;>first|exact⟨rfl,rfl⟩|exact rfl):rv P s w K:=bh (h f g) a
def ZZ(f:p)(g:q)(a:L w')(h:p->q->u.run P w=.ok () w' :=by intro f g;simp[-Int.natCast_add,go_sem,f,g]<;>first|exact⟨rfl,rfl⟩|exact rfl):ru P u w L:=gg (h f g) a
def qW2(f:p)(g:q)(a:M v)(h:p->q->s.run P w=.ok v w:=by intro f g;simp[-Int.natCast_add,go_sem,f,g]<;>first|exact⟨rfl,rfl⟩|exact rfl):l8 P s w M:=cK (h f g) a
def XG(v:Vt_)(f:p)(g:q)(a:M v)(h:p->q->s.run P w=.ok v w:=by intro f g;simp[go_sem,f,g]<;>first|exact⟨rfl,rfl⟩|exact rfl):l8 P s w M:=cK (h f g) a
def qS3(f:p)(g:q)(i:r)(a:K v w')(h:p->q->r->s.run P w=.ok v w' :=by intro f g i;simp[-Int.natCast_add,go_sem,f,g,i]<;>first|exact⟨rfl,rfl⟩|exact rfl):rv P s w K:=bh (h f g i) a
def V4(v:Vt_)(f:p)(g:q)(i:r)(a:K v w')(h:p->q->r->s.run P w=.ok v w' :=by intro f g i;simp[go_sem,f,g,i]<;>first|exact⟨rfl,rfl⟩|exact rfl):rv P s w K:=bh (h f g i) a
def qSi(n:Int)(a:K (gI n) w)(h:s.run P w=.ok (gI n) w:=by simp[go_sem];rw[fI qZ qZ]<;>omega):rv P s w K:=bh h a
def TT(i:Nat)(a:K (gI ((i+1:Nat):Int)) w)(h:s.run P w=.ok (gI ((i+1:Nat):Int)) w:=by simp[go_sem];rw[fI qZ qZ]<;>omega):rv P s w K:=bh h a
def lL{n:Int}(a: -9223372036854775808<=n:=by omega)(h1:n<9223372036854775808:=by omega):IntKind.i64.wrap n=n:=fI a h1
def Iy{n:Int}(a:0<=n:=by omega)(h1:n<18446744073709551616:=by omega):IntKind.u64.wrap n=n:=qC a h1
end
end Go.Proofs
namespace Go.Proofs
open Go Go.Vc
noncomputable abbrev pQ:=Tryz.prog
def Tryz.noNum:tP Tryz.prog=true:=cy
end Go.Proofs
