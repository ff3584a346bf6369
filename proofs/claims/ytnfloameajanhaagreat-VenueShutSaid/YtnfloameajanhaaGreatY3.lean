/- Part of a proof. -/
import Derived.Test.YtnfloameajanhaaGreatProg
import Derived.Test.YtnfloameajanhaaGreatY2
set_option linter.all false
namespace Go.Vc
open Go Go.Vc
variable {sz n:Nat}{P:Program}{s:Sem Value}{e t:TypeId}{v:Value}{w w' :World}{K:cG}
section
variable{P:Program}{k:TypeId}{κ ν:Type}{enc:κ->Value}{ev:ν->Value}
def nD(enc:κ->Value)(ev:ν->Value)(w:World)(it m:Nat)(rest:List (κ×ν)):Prop:=
 ∃es clock seen,w.heap[m]? =some (.map es clock)/\w.heap[it]? =some (.mapIter (some m) clock seen clock)/\(∀x∈es.toList,x.born<clock)/\(es.toList.map (·.born)).Nodup/\
  (es.toList.filter λe=> !seen.contains e.born).map (λe=>(e.key,e.val))=rest.map (λp=>(enc p.1,ev p.2))
def nD.keep{w w' :World}{b m:Nat}{rest:List (κ×ν)}(h:nD enc ev w b m rest)(f:w'.heap[m]? =w.heap[m]?)(d:w'.heap[b]? =w.heap[b]?):nD enc ev w' b m rest:=by
 obtain⟨g,a,seen,c,i,e⟩:=h;exact⟨g,a,seen,by rw[f];exact c,by rw[d];exact i,e⟩
def nD.lt{w:World}{b m:Nat}{rest:List (κ×ν)}(h:nD enc ev w b m rest):m<w.heap.size/\b<w.heap.size:=by
 obtain⟨f,a,seen,c,d,e⟩:=h;exact⟨cB c,cB d⟩
def nD.mod{F:Nat->Prop}{w w' :World}{a m:Nat}{rest:List (κ×ν)}(h:nD enc ev w a m rest)(b:de F w w')(d:¬F m)(c:¬F a):nD enc ev w' a m rest:=
 h.keep (b.blk m h.lt.1 d) (b.blk a h.lt.2 c)
def rm(it m:Nat)(w:World):Nat:=
 match w.heap[it]?,w.heap[m]? with
 |some (.mapIter _ _ seen _),some (.map es _)=>(es.toList.filter λe=> !seen.contains e.born).length
 |_,_=>0
def nD.left{w:World}{b m:Nat}{rest:List (κ×ν)}(h:nD enc ev w b m rest):rm b m w=rest.length:=by
 obtain⟨f,a,seen,c,e,_,_,d⟩:=h;unfold rm;rw[c,e];simpa using fC List.length d
def sw [DecidableEq κ]{t e:TypeId}{w:World}{K:cG}{b:Nat}{L:List (κ×ν)}(m:P.underlying t=some (.map k e))(h:fB enc ev w b L)
  (j:∀d,nD enc ev d w.heap.size b L->M0 w d->K (.pointer (some ⟨w.heap.size,0,none⟩)) d):rx P (ue t (.map (some b))) w K:=by
 obtain⟨n,l,a,g,i,c,f⟩:=h;refine sq (.pointer (some ⟨w.heap.size,0,none⟩)) (w.alloc (.mapIter (some b) a #[] a)) ?_ (j _ ⟨l,a,#[],?_,?_,c,f,?_⟩ lm)
 ·simp[ue,Instr.range,dx m,MapKept.run_getObj_map g,Result.andThen]
 ·rw[gy,aZ (by grind)];exact g
 ·rw[gy,bZ rfl]
 ·rw[<-i];congr 1;exact fi.2 λ_ _=>by simp
def uk{w:World}{r:Nat}{m:Option Nat}{a:Nat}{s:Array Nat}{c:Nat}(b:w.heap[r]? =some (.mapIter m a s c)):(getObj r).run P w=.ok (.mapIter m a s c) w:=by
 simp[getObj,Sem.run,b]
def BY{w:World}{r:Nat}{m:Option Nat}{a:Nat}{s:Array Nat}{c:Nat}(o:Obj)(b:w.heap[r]? =some (.mapIter m a s c)):(setObj r o).run P w=.ok () (w.putObj r o):=by
 simp[setObj,Sem.run,b,World.putObj]
def PE(enc:κ->Value)(ev:ν->Value)(w:World)(it m:Nat)(p:κ×ν):Prop:=
 ∃es clock since seen stamp e,w.heap[m]? =some (.map es clock)/\w.heap[it]? =some (.mapIter (some m) since seen clock)/\seen.back? =some stamp/\es.find? (λx=>x.born==stamp)=some e/\e.key=enc p.1/\e.val=ev p.2
def sg{w:World}{K:cG}{d m:Nat}{p:κ×ν}(h:PE enc ev w d m p)(i:K (.tuple #[enc p.1,ev p.2]) w):rx P (uf (.pointer (some ⟨d,0,none⟩))) w K:=by
 obtain⟨q,b,a,seen,c,e,n,l,f,j,g,o⟩:=h;refine iW ?_ i;simp[uf,Instr.entry,uk l,MapKept.run_getObj_map n,Result.andThen,f,j,g,o]
def My{l:List MapEntry}{x:MapEntry}(b:(l.map (·.born)).Nodup)(a:x∈l):l.find? (λe=>e.born==x.born)=some x:=by
 induction l with
 |nil=>cases a
 |cons y l c=>
  simp only[cM,dA]at b;rcases cH.1 a with rfl|a
  ·simp
  ·grind
def Ig(b:List MapEntry)(seen:Array Nat)(x:MapEntry)(d:(b.map (·.born)).Nodup)(m:x∈b)(j: !seen.contains x.born)(i:Nat)
  (hi:(b.filter λe=> !seen.contains e.born)[i]? =some x):
  b.filter (λe=> !(seen.push x.born).contains e.born)=(b.filter λe=> !seen.contains e.born).eraseIdx i:=by
 have f:b.filter (λe=> !(seen.push x.born).contains e.born)=(b.filter λe=> !seen.contains e.born).filter (λe=> !(e.born==x.born)):=by
  rw[lF];apply gF;intro e _;simp only[Array.contains_push,Bool.not_or];rw[Bool.and_comm]
 rw[f];have a:((b.filter λe=> !seen.contains e.born).map (·.born)).Nodup:=d.sublist (jv.map _);generalize(b.filter λe=> !seen.contains e.born)=l at hi a;clear f j m d;induction l generalizing i with
 |nil=>simp at hi
 |cons y l n=>
  simp only[cM,dA]at a;cases i with
  |zero=>
   have:y=x:=by simpa using hi
   subst this;rw[cY (by simp)];simp only[List.eraseIdx_cons_zero];refine fi.2 λz g=>?_;have:z.born≠y.born:=λh=>a.1 (h▸dn g);simpa using this
  |succ i=>
   have c:x∈l:=dL (by simpa using hi);have:y.born≠x.born:=λh=>a.1 (h▸dn c);rw[dI (by simpa using this)];simp only[mT];rw[n i (by simpa using hi) a.2]
def uv{t:TypeId}{w:World}{K:cG}{q m:Nat}{rest:List (κ×ν)}(h:nD enc ev w q m rest)
  (h0:rest=[]->∀v,M0 w v->v.heap=w.heap->K (.tuple #[.bool false]) v)
  (h1:∀i p,rest[i]? =some p->∀v,nD enc ev v q m (rest.eraseIdx i)->PE enc ev v q m p->de (λb=>b=q) w v->v.heap.size=w.heap.size->K (.tuple #[.bool true,enc p.1,ev p.2]) v):
  rx P (wh (.pointer (some ⟨q,0,none⟩)) false t) w K:=by
 obtain⟨c,a,seen,M,N,y,F,T⟩:=h
 have g:(!seen.isEmpty&& !c.isEmpty&& c.all (λx=>decide (x.born≥a)))=false:=by
  cases u:c.isEmpty with
  |true=>simp
  |false=>
   have R:0<c.size:=by
    rcases Nat.eq_zero_or_pos c.size with h|h
    ·rw[Array.isEmpty_iff.2 (lh h)]at u;cases u
    ·exact h
   have:(c.all λx=>decide (x.born≥a))=false:=by
    rw[kI];intro Z;have h2:=y c[0] (by simp);have h3:=Array.all_eq_true.1 Z 0 R;simp at h3;omega
   rw[this];simp
 have j:(c.filter λe=> !seen.contains e.born).filter (λe=>decide (e.born<a))=c.filter λe=> !seen.contains e.born:=by
  refine Array.filter_eq_self.2 λx H=>?_;exact db (y x (by simpa using(Array.mem_filter.1 H).1))
 have n:(c.filter λe=> !seen.contains e.born).filter (λe=>decide (e.born≥a))= #[]:=by
  refine Array.filter_eq_empty_iff.2 λx H=>?_;have:=y x (by simpa using(Array.mem_filter.1 H).1);simp;omega
 have d:(c.filter λe=> !seen.contains e.born).toList=c.toList.filter λe=> !seen.contains e.born:=by simp
 generalize V:(c.filter λe=> !seen.contains e.born)=left at j n d
 have z:left.size=rest.length:=by
  rw[<-mI,d];simpa using fC List.length T
 by_cases W:rest=[]
 ·subst W;have Q:left= #[]:=lh (by simpa using z);subst Q
  have o:(Instr.next (.pointer (some ⟨q,0,none⟩)) false t).run P w=.ok (.tuple #[.bool false]) w:=by
   unfold Instr.next;simp only[fE,uk N,MapKept.run_getObj_map M,Result.andThen];rw[g];simp only[dE,eW];rw[V,j,n];have S:((if(#[]:Array MapEntry).isEmpty=true then #[none]else #[])++((#[]:Array MapEntry)++ #[]).map some)= #[none]:=by simp
   rw[S];simp[run_choose,Question.forced,Result.andThen]
  exact iW (by unfold wh;exact o) (h0 rfl w lX rfl)
 ·have f:0<left.size:=by
   rw[z];exact List.length_pos_iff.2 W
  have u:left.isEmpty=false:=by
   cases h:left.isEmpty with
   |false=>rfl
   |true=>rw[Array.isEmpty_iff.1 h]at f;simp at f
  obtain⟨i,s,O,L,D⟩:∃(i:Nat) (s:World),i<left.size/\(s=w\/s=w.drew)/\(choose (Question.mapNext left.size)).run P w=.ok i s:=by
   by_cases X:(Question.mapNext left.size).forced=true
   ·exact⟨0,w,f,.inl rfl,by rw[run_choose,bZ X]⟩
   ·refine⟨_,w.drew,?_,.inr rfl,by rw[run_choose,aZ X];rfl⟩;exact gR _ f
  have H:left[i]? =some left[i]:=kz O
  have B:(c.toList.filter λe=> !seen.contains e.born)[i]? =some left[i]:=by
   rw[<-d,nN];exact H
  have G:=dL B;have J:i<rest.length:=qZ
  have hp:(left[i].key,left[i].val)=(enc rest[i].1,ev rest[i].2):=by
   have:=fC (λl=>l[i]?) T;simp only[dO,B,cE J,iD,jr]at this;exact this
  have r:s.heap=w.heap:=by rcases L with rfl|rfl<;>rfl
  have C:s.heap[q]? =some (.mapIter (some m) a seen a):=by rw[r];exact N
  have I:s.heap[m]? =some (.map c a):=by rw[r];exact M
  have E:de (λb=>b=q) w s:=by
   rcases L with rfl|rfl
   ·exact lX
   ·exact(de.refl _ _).drew
  have A:q≠m:=by
   intro h;subst h;rw[N]at M;cases M
  have o:(Instr.next (.pointer (some ⟨q,0,none⟩)) false t).run P w=.ok (.tuple #[.bool true,left[i].key,left[i].val]) (s.putObj q (.mapIter (some m) a (seen.push left[i].born) a)):=by
   unfold Instr.next;simp only[fE,uk N,MapKept.run_getObj_map M,Result.andThen];rw[g];simp only[dE,eW];rw[V,j,n,u];have S:((if false=true then #[none]else #[])++(left++ #[]).map some)=left.map some:=by simp
   rw[S];simp only[fE,ly,Array.size_map,D,Result.andThen,Array.getElem?_map,H,iD,BY _ C]
  apply iW (by unfold wh;exact o);have U:left[i].key=enc rest[i].1:=(Prod.mk.inj hp).1;have Y:left[i].val=ev rest[i].2:=(Prod.mk.inj hp).2;rw[U,Y];refine h1 i rest[i] (cE J) _ ⟨c,a,seen.push left[i].born,?_,?_,y,F,?_⟩ ?_ (E.putObj (.inl rfl) _) ?_
  ·rw[fY,aZ (λe=>A e.symm)];exact I
  ·rw[fY,bZ rfl,C];rfl
  ·rw[Ig c.toList seen left[i] F (cO.1 G).1 (cO.1 G).2 i B,qY,T,<-qY]
  ·refine⟨c,a,a,seen.push left[i].born,left[i].born,left[i],?_,?_,by simp,?_,U,Y⟩
   ·rw[fY,aZ (λe=>A e.symm)];exact I
   ·rw[fY,bZ rfl,C];rfl
   ·rw[<-Array.find?_toList];exact My F (cO.1 G).1
  ·rw[lQ,r]
end
def vD{h:TypeId}{len:Nat}{cs:Array Value}{k:IntKind}{i:Nat}(j:P.underlying h=some (.array len e))(f:pY P e=false)(g:(P.underlying e).isSome=true)(l:P.cellsOf e=0+1)(hi:i<len)(m:cs[i]? =some v):
  (Instr.index h (.agg cs) (.int k i)).run P w=.ok v w:=by
 have c:(i:Int)<len:=qZ
 have b:(isAgg e).run P w=.ok false w:=by
  unfold isAgg;unfold pY at f;cases a:P.underlying e with
  |none=>rw[a]at g;cases g
  |some d=>
   rw[a]at f;simp only[fE,dx a,Result.andThen];cases d<;>first|rfl|(simp at f)
 simp[Instr.index,dx j,Result.andThen,c,hi,oK l,part,b,asIntOf,m]
def Ey{κ ν:Type} [DecidableEq κ]{enc:κ->Value}{ev:ν->Value}{t k e:TypeId}{w:World}{m:Value}{L:List (κ×ν)}{x:κ}{z:Value}(d:P.underlying t=some (.map k e))(b:vB P k enc)
  (c:qw P e=some z)(a:DR enc ev w m L):(ji t m (enc x) true).run P w=.ok (.tuple #[(lk L x).elim z ev,.bool (lk L x).isSome]) w:=by
 unfold ji;rw[rA d b c a];cases lk L x<;>rfl
def Kn{κ ν:Type} [DecidableEq κ]{enc:κ->Value}{ev:ν->Value}{t k e ty:TypeId}{w:World}{b:Nat}{L:List (κ×ν)}(c:P.underlying t=some (.map k e))(h:fB enc ev w b L):
  (Builtin.len_ #[t] ty #[.map (some b)]).run P w=.ok (.int .i64 L.length) w:=by
 obtain⟨j,g,a,d,i,_⟩:=h;have f:g.size=L.length:=by simpa using fC List.length i
 simp[Builtin.len_,dx c,MapKept.run_getObj_map d,Result.andThen,goInt,f]
def oY{α:Type}{l:List α}{i:Nat}{p:α}(h:l[i]? =some p):l.Perm (p::l.eraseIdx i):=by
 induction l generalizing i with
 |nil=>simp at h
 |cons x l a=>
  cases i with
  |zero=>
   have:x=p:=by simpa using h
   subst this;exact fw _
  |succ i=>
   simp only[mT];exact((a (by simpa using h)).cons x).trans (List.Perm.swap ..)
def eS{S:Type}{body:S->World->(S->World->Prop)->Prop}{s:S}(I:S->World->Prop)(m:S->World->Nat)(f:I s w)
  (h:∀s w,I s w->∀c:S->World->Prop,(∀a b,I a b->m a b<m s w->c a b)->body s w c):lG body s w:=
 ⟨⟨I,m,f,λs w g=>h s w g _ λ_ _ e d=>⟨e,d⟩⟩⟩
def cR{f:FuncId}{b a:Array Value}(d:b=a)(c:w=w'):Ca P f b w K=Ca P f a w' K:=by subst d c;rfl
def cI(h:s.run P w=.ok v w')(a:K v w'):rv P s w K:=by
 rw[FN];unfold Yq;rw[h];exact a
def cx(v:Value)(w' :World)(h:s.run P w=.ok v w')(a:K v w'):rv P s w K:=cI h a
def ir{s:Sem Unit}{K:World->Prop}(h:s.run P w=.ok () w')(a:K w'):ru P s w K:=by
 rw[Fo];unfold XO;rw[h];exact a
def pH{s:Sem Unit}{K:World->Prop}(w' :World)(h:s.run P w=.ok () w')(a:K w'):ru P s w K:=ir h a
def mB{s:Sem Next}(h:s.run P w=.ok (.value v) w')(a:K v w'):rn P s w K:=by
 rw[sN];unfold Ol;rw[h];exact a
def jm{s:Sem Next}(v:Value)(w' :World)(h:s.run P w=.ok (.value v) w')(a:K v w'):rn P s w K:=mB h a
def dp{K:Value->Prop}(h:s.run P w=.ok v w)(a:K v):uc P s w K:=by
 rw[Am];unfold Hl;rw[h];exact⟨rfl,a⟩
def oy{K:Value->Prop}(v:Value)(h:s.run P w=.ok v w)(a:K v):uc P s w K:=dp h a
def dw{K:Value->Prop}(h:∀w,s.run P w=.ok v w)(a:K v):wS P s K:=⟨⟨v,h,a⟩⟩
def dX{K:Value->Prop}(v:Value)(h:∀w,s.run P w=.ok v w)(a:K v):wS P s K:=dw h a
def sS(h:P.underlying t=some (.slice e)):P.underlying t=some (.slice (P.elem t))/\P.elem t=e:=by
 have:P.elem t=e:=by simp[Program.elem,h]
 rw[this];exact⟨h,rfl⟩
def Rd.part{cs:List Value}(F:P.underlying t=some (.slice e))(C:P.cellsOf e=sz+1)(h:Rd w (sz+1) v n cs)
  {lo hi:Nat}(J:lo<=hi)(D:hi<=n)(kl kh:IntKind):
  ∃k,(∀W,(Instr.sliceAt t v (some (.int kl (lo:Int))) (some (.int kh (hi:Int))) none).run P W=.ok k W)/\Rd w (sz+1) k (hi - lo) ((cs.drop (lo*(sz+1))).take ((hi - lo)*(sz+1)))/\(∀b,BQ k b->BQ v b):=by
 obtain⟨y,G⟩:=sS F;obtain⟨z,o⟩:=h
 obtain⟨a,d,rfl,u⟩:∃a d,v=.slice a n d/\(n<=d\/n=0):=by
  rcases o with⟨rfl,a,c,rfl⟩|⟨b,g,d,rfl,C,_⟩
  ·grind
  ·grind
 refine⟨sliced a lo hi d (sz+1),λW=>?_,?_,?_⟩
 ·rw[run_sliceAt_slice W t _ _ _ _ y,run_slice_lh W t a n d y kl kh lo hi qZ qZ qZ,G,oK C];simp[Result.andThen]
 ·refine⟨?_,?_⟩
  ·rw[cZ,dV,z];have:=dM (sz+1) D;rw[qf];omega
  ·by_cases s:hi - lo=0
   ·left;exact⟨s,_,_,by unfold sliced;rw[s]⟩
   ·rcases o with⟨p,_⟩|⟨b,g,j,f,l,x⟩
    ·omega
    injection f with i E B;subst i;subst B;right;refine⟨b,g+lo*(sz+1),d - lo,?_,qZ,?_⟩
    ·unfold sliced;rw[aZ qZ];simp[cS]
    ·have:=x.sub (lo*(sz+1)) ((hi - lo)*(sz+1)) (by
      rw[z,<-im];exact dM _ qZ)
     exact this
 ·rintro b ⟨I,m,H,A,K,rfl⟩;unfold sliced at A;injection A with i E B;by_cases r:d=lo
  ·grind
  ·rw[aZ r]at i;cases a with
   |none=>cases i
   |some a0=>
    simp only[iD,jr]at i;refine⟨a0,n,d,rfl,qZ,?_⟩;rcases o with⟨p,_⟩|⟨b,g,j,f,l,x⟩
    ·omega
    ·injection f with q;injection q with q;subst q;rw[<-i,cS]
def Rd.from_{cs:List Value}(j:P.underlying t=some (.slice e))(k:P.cellsOf e=sz+1)(h:Rd w (sz+1) v n cs)
  {lo:Nat}(o:lo<=n)(kl:IntKind):
  ∃f,(∀W,(Instr.sliceAt t v (some (.int kl (lo:Int))) none none).run P W=.ok f W)/\Rd w (sz+1) f (n - lo) (cs.drop (lo*(sz+1)))/\(∀b,BQ f b->BQ v b):=by
 obtain⟨f,q,l,m⟩:=h.part j k o (cJ n) kl .i64;obtain⟨g,u⟩:=sS j;refine⟨f,λW=>?_,?_,m⟩
 ·rw[<-q W];obtain⟨s,r⟩:=h
  obtain⟨a,d,rfl,i⟩:∃a d,v=.slice a n d/\(n<=d\/n=0):=by
   rcases r with⟨rfl,a,c,rfl⟩|⟨b,p,d,rfl,k,_⟩
   ·grind
   ·grind
  rw[run_sliceAt_slice W t _ _ _ _ g,run_sliceAt_slice W t _ _ _ _ g,run_slice_lh W t a n d g kl .i64 lo n qZ qZ qZ,run_slice_l W t a n d g kl lo qZ qZ];rfl
 ·have e:(cs.drop (lo*(sz+1))).take ((n - lo)*(sz+1))=cs.drop (lo*(sz+1)):=by
   rw[cT];rw[dV,h.1,qf];omega
  rwa[e]at l
def Rd.byte{l:List UInt8}(h:Rd w 1 v n (bv l)){i:Nat}(hi:i<n)(g:i<l.length):
  ∃b c a C e fz,v=.slice (some ⟨b,c,none⟩) n a/\n<=a/\hp w b=some (.cells C e fz)/\C[c+i]? =some (.int .u8 (l[i].toNat:Int)):=by
 obtain⟨_,⟨k,_⟩|⟨b,c,a,rfl,j,f⟩⟩:=h
 ·omega
 ·obtain⟨C,e,fz,hC,d⟩:=f.get;exact⟨b,c,a,C,e,fz,rfl,j,hC,d i _ (by rw[bv,dO,cE g];rfl)⟩
def af6{by_ m:Nat}{x:Value}{a:List Value}(g:P.underlying t=some (.slice e))(i:wd P e sz by_)(y:Rd w sz x m a)(q:a.all (·.oneCell')=true)(c:m*by_<=140737488355328)
  (r:∀d f,jo f e sz d m a->M0 w f->(∀b,cK d b->w.heap.size<=b)->K d f):
  rx P (jQ t 0 []) w λv l=>rx P (eg #[t,t] t [v,x]) l K:=by
 refine oJ [] g i rfl rfl (by simp) qZ ?_;have j:∀o,M0 w (w.alloc o):=λo=>(de.refl _ w).alloc o;refine jR (n:=0) (m:=m) (cs:=[]) g g i ?_ (y.mod (j _) eQ) q (by grind) λd f s u p=>?_
 ·refine⟨by simp,.inr ⟨w.heap.size,0,[],rfl,cJ _,?_,by simp⟩⟩;rw[gy,bZ rfl];simp
 ·have k:∀b,cK (.slice (some ⟨w.heap.size,0,none⟩) 0 0) b->w.heap.size<=b:=λb c=>by
   simp only[cK,It]at c;have:=dB c;omega
  refine r d f (by simpa using s) ((j _).on u λb c=>.inr (k b c)) λb c=>?_;rcases p b c with h|h
  ·exact k b h
  ·rw[eG]at h;omega
def EJ:∀a:List UInt8,(bv a).flatMap (·.cells.toList)=bv a
 | []=>rfl
 |u::a=>by
  show(Value.cells (Value.int .u8 u.toNat)).toList++(bv a).flatMap (λv=>v.cells.toList)=_;rw[EJ a];rfl
def Qm{a:List (Nat×Value)}(c:List UInt8)(i:P.underlying t=some (.slice e))(l:wd P e 1 1)(f:a=c.zipIdx.map λp=>(p.2,.int .u8 p.1.toNat))(h:c.length=n)(g:n<=1000)
  (j:∀v d,jo d e 1 v n (bv c)->M0 w d->(∀b,cK v b->w.heap.size<=b/\b<d.heap.size)->K v d):rx P (jQ t n a) w K:=by
 have k:a=(bv c).zipIdx.map λp=>(p.2,p.1):=by
  rw[f,bv,List.zipIdx_map,dQ];rfl
 have m:=EJ c
 refine oJ (bv c) i l k (by simpa using h) (λv o=>by
  obtain⟨u,_,rfl⟩:=cF.1 o;rfl) qZ ?_
 rw[m];refine j _ _ ⟨by simpa using h,.inr ⟨_,n,[],rfl,cJ _,by show hp _ _=_;simp[go_sem],by simp,by simp⟩⟩ lm λb g=>?_;have:b=w.heap.size:=by cases g;rfl
 rw[eG];omega
def de.hpk{F:Nat->Prop}(h:de F w w'){b:Nat}{o:Obj}(c:hp w b=some o)(a:¬F b):hp w' b=some o:=h.keep c a
def uP{n:Int}(b: -9223372036854775808<=n)(a:n<9223372036854775808):IntKind.i64.wrap n=n:=by rw[eF];omega
def G8{n:Int}(b:0<=n)(a:n<18446744073709551616):IntKind.u64.wrap n=n:=by rw[IntKind.wrap_u64];omega
end Go.Vc
namespace Go.Proofs
open Go Go.Vc
section
variable{P:Program}{s:Sem Value}{u:Sem Unit}{n:Sem Next}{w w' :World}{K:cG}{A B:World->Prop}{C D:Prop}{L:World->Prop}{M:Value->Prop}{v:Value}{p q r:Prop}
def qS0(a:K v w')(h:s.run P w=.ok v w' :=by simp[-Int.natCast_add,go_sem]<;>first|exact⟨rfl,rfl⟩|exact rfl):rv P s w K:=cI h a
def qSv0(v:Value)(a:K v w')(h:s.run P w=.ok v w' :=by simp[go_sem]<;>first|exact⟨rfl,rfl⟩|exact rfl):rv P s w K:=cI h a
def qSt0(a:A w')(h:s.run P w=.ok (.bool true) w' :=by simp[go_sem]<;>first|exact⟨rfl,rfl⟩|exact rfl):rv P s w λv w=>cV v (A w) (B w):=cI h (by rw[kx];exact a)
def qSf0(a:B w')(h:s.run P w=.ok (.bool false) w' :=by simp[go_sem]<;>first|exact⟨rfl,rfl⟩|exact rfl):rv P s w λv w=>cV v (A w) (B w):=cI h (by rw[gP];exact a)
def qN0(a:K v w')(h:n.run P w=.ok (.value v) w' :=by simp[-Int.natCast_add,go_sem]<;>first|exact⟨rfl,rfl⟩|exact rfl):rn P n w K:=mB h a
def qP0(a:M v)(h:∀w,s.run P w=.ok v w:=by intro _;simp[-Int.natCast_add,go_sem]<;>first|exact⟨rfl,rfl⟩|exact rfl):wS P s M:=dw h a
def qPv0(v:Value)(a:M v)(h:∀w,s.run P w=.ok v w:=by intro _;simp[go_sem]<;>first|exact⟨rfl,rfl⟩|exact rfl):wS P s M:=dw h a
def qPt0(a:C)(h:∀w,s.run P w=.ok (.bool true) w:=by intro _;simp[go_sem]<;>first|exact⟨rfl,rfl⟩|exact rfl):wS P s λv=>cV v C D:=dw h (by rw[kx];exact a)
def qW0(a:M v)(h:s.run P w=.ok v w:=by simp[-Int.natCast_add,go_sem]<;>first|exact⟨rfl,rfl⟩|exact rfl):uc P s w M:=dp h a
def qS1(f:p)(a:K v w')(h:p->s.run P w=.ok v w' :=by intro f;simp[-Int.natCast_add,go_sem,f]<;>first|exact⟨rfl,rfl⟩|exact rfl):rv P s w K:=cI (h f) a
def qSv1(v:Value)(f:p)(a:K v w')(h:p->s.run P w=.ok v w' :=by intro f;simp[go_sem,f]<;>first|exact⟨rfl,rfl⟩|exact rfl):rv P s w K:=cI (h f) a
def qSt1(f:p)(a:A w')(h:p->s.run P w=.ok (.bool true) w' :=by intro f;simp[go_sem,f]<;>first|exact⟨rfl,rfl⟩|exact rfl):rv P s w λv w=>cV v (A w) (B w):=cI (h f) (by rw[kx];exact a)
def qSf1(f:p)(a:B w')(h:p->s.run P w=.ok (.bool false) w' :=by intro f;simp[go_sem,f]<;>first|exact⟨rfl,rfl⟩|exact rfl):rv P s w λv w=>cV v (A w) (B w):=cI (h f) (by rw[gP];exact a)
def qU1(f:p)(a:L w')(h:p->u.run P w=.ok () w' :=by intro f;simp[-Int.natCast_add,go_sem,f]<;>first|exact⟨rfl,rfl⟩|exact rfl):ru P u w L:=ir (h f) a
def qN1(f:p)(a:K v w')(h:p->n.run P w=.ok (.value v) w' :=by intro f;simp[-Int.natCast_add,go_sem,f]<;>first|exact⟨rfl,rfl⟩|exact rfl):rn P n w K:=mB (h f) a
def qP1(f:p)(a:M v)(h:p->∀w,s.run P w=.ok v w:=by intro f _;simp[-Int.natCast_add,go_sem,f]<;>first|exact⟨rfl,rfl⟩|exact rfl):wS P s M:=dw (h f) a
def qPv1(v:Value)(f:p)(a:M v)(h:p->∀w,s.run P w=.ok v w:=by intro f _;simp[go_sem,f]<;>first|exact⟨rfl,rfl⟩|exact rfl):wS P s M:=dw (h f) a
def qPt1(f:p)(a:C)(h:p->∀w,s.run P w=.ok (.bool true) w:=by intro f _;simp[go_sem,f]<;>first|exact⟨rfl,rfl⟩|exact rfl):wS P s λv=>cV v C D:=dw (h f) (by rw[kx];exact a)
def qPf1(f:p)(a:D)(h:p->∀w,s.run P w=.ok (.bool false) w:=by intro f _;simp[go_sem,f]<;>first|exact⟨rfl,rfl⟩|exact rfl):wS P s λv=>cV v C D:=dw (h f) (by rw[gP];exact a)
def qW1(f:p)(a:M v)(h:p->s.run P w=.ok v w:=by intro f;simp[-Int.natCast_add,go_sem,f]<;>first|exact⟨rfl,rfl⟩|exact rfl):uc P s w M:=dp (h f) a
def qWv1(v:Value)(f:p)(a:M v)(h:p->s.run P w=.ok v w:=by intro f;simp[go_sem,f]<;>first|exact⟨rfl,rfl⟩|exact rfl):uc P s w M:=dp (h f) a
def qS2(f:p)(g:q)(a:K v w')(h:p->q->s.run P w=.ok v w' :=by intro f g;simp[-Int.natCast_add,go_sem,f,g]<;>first|exact⟨rfl,rfl⟩|exact rfl):rv P s w K:=cI (h f g) a
def qSv2(v:Value)(f:p)(g:q)(a:K v w')(h:p->q->s.run P w=.ok v w' :=by intro f g;simp[go_sem,f,g]<;>first|exact⟨rfl,rfl⟩|exact rfl):rv P s w K:=cI (h f g) a
def qU2(f:p)(g:q)(a:L w')(h:p->q->u.run P w=.ok () w' :=by intro f g;simp[-Int.natCast_add,go_sem,f,g]<;>first|exact⟨rfl,rfl⟩|exact rfl):ru P u w L:=ir (h f g) a
def qW2(f:p)(g:q)(a:M v)(h:p->q->s.run P w=.ok v w:=by intro f g;simp[-Int.natCast_add,go_sem,f,g]<;>first|exact⟨rfl,rfl⟩|exact rfl):uc P s w M:=dp (h f g) a
def qWv2(v:Value)(f:p)(g:q)(a:M v)(h:p->q->s.run P w=.ok v w:=by intro f g;simp[go_sem,f,g]<;>first|exact⟨rfl,rfl⟩|exact rfl):uc P s w M:=dp (h f g) a
def qS3(f:p)(g:q)(i:r)(a:K v w')(h:p->q->r->s.run P w=.ok v w' :=by intro f g i;simp[-Int.natCast_add,go_sem,f,g,i]<;>first|exact⟨rfl,rfl⟩|exact rfl):rv P s w K:=cI (h f g i) a
def qSv3(v:Value)(f:p)(g:q)(i:r)(a:K v w')(h:p->q->r->s.run P w=.ok v w' :=by intro f g i;simp[go_sem,f,g,i]<;>first|exact⟨rfl,rfl⟩|exact rfl):rv P s w K:=cI (h f g i) a
def qSi(n:Int)(a:K (.int .i64 n) w)(h:s.run P w=.ok (.int .i64 n) w:=by simp[go_sem];rw[uP qZ qZ]<;>omega):rv P s w K:=cI h a
def qSj(i:Nat)(a:K (.int .i64 ((i+1:Nat):Int)) w)(h:s.run P w=.ok (.int .i64 ((i+1:Nat):Int)) w:=by simp[go_sem];rw[uP qZ qZ]<;>omega):rv P s w K:=cI h a
def qPi(n:Int)(a:M (.int .i64 n))(h:∀w,s.run P w=.ok (.int .i64 n) w:=by intro _;simp[go_sem];rw[uP qZ qZ]<;>omega):wS P s M:=dw h a
def wI_{n:Int}(b: -9223372036854775808<=n:=by omega)(a:n<9223372036854775808:=by omega):IntKind.i64.wrap n=n:=uP b a
def wU_{n:Int}(b:0<=n:=by omega)(a:n<18446744073709551616:=by omega):IntKind.u64.wrap n=n:=G8 b a
end
end Go.Proofs
namespace Go.Vc
variable {n:Nat}
def pP(n:Nat):List UInt8:=if n<128 then [UInt8.ofNat n]else UInt8.ofNat (n%128+128)::pP (n / 128)
 termination_by n
 decreasing_by omega
def wK(h:n<128):pP n=[UInt8.ofNat n]:=by rw[pP,bZ h]
def Co(h:¬n<128):pP n=UInt8.ofNat (n%128+128)::pP (n / 128):=by rw[pP,aZ h]
def Hi:∀(k n:Nat),n<128 ^ (k+1)->(pP n).length<=k+1
 |0,n,h=>by rw[wK (by simpa using h)];simp
 |k+1,n,h=>by
  by_cases a:n<128
  ·rw[wK a];simp
  ·rw[Co a];have:=Hi k (n / 128) (by grind);simp only[dc];omega
def CT(h:n<18446744073709551616):(pP n).length<=10:=Hi 9 n (ep h (by decide))
def Lq(h:n<256):(UInt8.ofNat n).toNat=n:=by simp;omega
def ID:List UInt8->Nat->Nat->Except Nat (Nat×Nat)
 | [],_,_=>.error 4
 |x::r,k,acc=>
  if k=9/\1<x.toNat\/9<k then .error 5
  else if x.toNat<128 then(if x.toNat=0/\0<k then .error 5 else .ok (acc+x.toNat%128*128 ^ k,k+1))
  else ID r (k+1) (acc+x.toNat%128*128 ^ k)
def zr:∀(l:List UInt8) (k acc n m:Nat),ID l k acc=.ok (n,m)->k<=9->
  ∃d,n=acc+d*128 ^ k/\m=k+(pP d).length/\(pP d).length<=l.length/\l.take (pP d).length=pP d/\(0<d\/k=0)/\d*128 ^ k<18446744073709551616
 | [],_,_,_,_,h,_=>by cases h
 |x::r,k,acc,n,m,h,H=>by
  have J:=x.toNat_lt;simp only[ID]at h;by_cases q:k=9/\1<x.toNat\/9<k
  ·grind
  rw[aZ q]at h;have c:UInt8.ofNat x.toNat=x:=by simp
  have w:128 ^ k*128 ^ (9 - k)=9223372036854775808:=by
   rw[<-qh,show k+(9 - k)=9 by omega]
  by_cases a:x.toNat<128
  ·rw[bZ a]at h;by_cases v:x.toNat=0/\0<k
   ·grind
   rw[aZ v]at h;cases h;refine⟨x.toNat,by grind,?_,?_,?_,by omega,?_⟩
   ·rw[wK a];rfl
   ·rw[wK a];simp
   ·rw[wK a,c];simp
   ·by_cases A:k=9
    ·grind
    ·have D:128 ^ k<=128 ^ 8:=lS (by decide) (by omega);have I:=jE (show x.toNat<=127 by omega) D;have e:(127:Nat)*128 ^ 8<18446744073709551616:=by decide
     omega
  ·rw[aZ a]at h;have B:k≠9:=λe=>q (.inl ⟨e,by omega⟩);obtain⟨d,g,u,y,j,F,C⟩:=zr r (k+1) _ n m h (by omega);have t:0<d:=by omega
   have z:(x.toNat%128+d*128) / 128=d:=by omega
   have p:(x.toNat%128+d*128)%128+128=x.toNat:=by omega
   have o:pP (x.toNat%128+d*128)=x::pP d:=by rw[Co (by omega),z,p,c]
   have s:(x.toNat%128+d*128)*128 ^ k=x.toNat%128*128 ^ k+d*128 ^ (k+1):=by
    rw[im,Nat.pow_succ,fe (128 ^ k) 128,mN]
   refine⟨x.toNat%128+d*128,?_,?_,?_,?_,by omega,?_⟩
   ·rw[g,s];omega
   ·grind
   ·grind
   ·rw[o];simp[j]
   ·rw[s]
    have E:x.toNat%128*128 ^ k<128 ^ (k+1):=by
     rw[Nat.pow_succ,fe];exact Nat.mul_lt_mul_of_pos_left (gR _ (by decide)) (Nat.pow_pos (by decide))
    have b:128 ^ (k+1)*128 ^ (8 - k)=9223372036854775808:=by
     rw[<-qh,show k+1+(8 - k)=9 by omega]
    have i:d<2*128 ^ (8 - k):=by
     apply dU;intro G;have:=dM (128 ^ (k+1)) (nW G);rw[mN,fe (128 ^ (8 - k)),b]at this;omega
    have f:=dM (128 ^ (k+1)) (show d+1<=2*128 ^ (8 - k)from i);rw[mN,fe (128 ^ (8 - k)),b,im]at f;omega
def Sx{l:List UInt8}{m:Nat}(h:ID l 0 0=.ok (n,m)):m=(pP n).length/\m<=l.length/\l.take m=pP n/\n<18446744073709551616:=by
 obtain⟨d,c,b,f,e,_,a⟩:=zr l 0 0 n m h (by omega);simp only[Nat.pow_zero,pX,eU]at c b a;subst c;subst b;exact⟨rfl,f,e,a⟩
structure Rs where
 at_:Nat
 e:Nat
def uu(l:List UInt8)(most:Nat)(s:Rs):Nat×Rs:=
 if s.e≠0 then(0,s)else
 match ID (l.drop s.at_) 0 0 with
 | .error e=>(0,{s with e:=e})
 | .ok (n,k)=>if most<n then(0,{s with e:=5})else(n,{s with at_:=s.at_+k})
def Gn(l:List UInt8)(s:Rs):Nat:=if s.e=0/\s.at_<l.length then 5 else s.e
structure Tn where
 c:Nat
 q:Nat
 b:List UInt8
def Tn.May(o:Tn):Prop:=o.c<64/\o.q≠0/\o.b.length<=2000
instance(o:Tn):Decidable o.May:=by unfold Tn.May;infer_instance
end Go.Vc
namespace Go.Proofs
open Go Go.Vc
variable {n:Int}{x y:Int×Int}
section
variable{κ ν:Type} [DecidableEq κ]
def mem_lk{L:List (κ×ν)}(c:(L.map (·.1)).Nodup){k:κ}{v:ν}(h:(k,v)∈L):lk L k=some v:=by
 induction L with
 |nil=>cases h
 |cons p L d=>
  obtain⟨a,b⟩:=p;simp only[cM,dA]at c;rcases cH.1 h with h|h
  ·cases h;simp[lk]
  ·have:a≠k:=λe=>c.1 (e▸dn (f:=(·.1)) h);simp only[lk,aZ this];exact d c.2 h
def lk_iff{L:List (κ×ν)}(a:(L.map (·.1)).Nodup){k:κ}{v:ν}:lk L k=some v↔(k,v)∈L:=⟨AC,mem_lk a⟩
def lk_perm{A L:List (κ×ν)}(c:(A.map (·.1)).Nodup)(h:A.Perm L)(k:κ):lk A k=lk L k:=by
 have a:(L.map (·.1)).Nodup:=(h.map _).nodup_iff.1 c;cases b:lk A k with
 |some v=>exact(mem_lk a (h.mem_iff.1 (AC b))).symm
 |none=>
  cases d:lk L k with
  |none=>rfl
  |some v=>rw[mem_lk c (h.mem_iff.2 (AC d))]at b;cases b
def Oc{L:List (κ×ν)}(c:(L.map (·.1)).Nodup)(k:κ)(v:ν):(put L k v).Perm ((k,v)::L.filter (λp=>p.1≠k)):=by
 induction L with
 |nil=>exact fw _
 |cons p L d=>
  obtain⟨a,b⟩:=p;simp only[cM,dA]at c;simp only[put];by_cases h:a=k
  ·subst h;rw[bZ rfl,cY (by simp)];apply List.Perm.cons _;rw[fi.2 λx f=>?_];have:x.1≠a:=λe=>c.1 (e▸dn f);simpa using this
  ·rw[aZ h,dI (by simpa using h)];exact((d c.2).cons _).trans (List.Perm.swap ..)
def Ia{A L:List (κ×ν)}(a:(A.map (·.1)).Nodup)(h:A.Perm L)(k:κ)(v:ν):(put A k v).Perm ((k,v)::L.filter (λp=>p.1≠k)):=
 (Oc a k v).trans ((h.filter _).cons _)
def N9{L:List (κ×ν)}(c:(L.map (·.1)).Nodup)(k:κ):DF L k=L.filter (λp=>p.1≠k):=by
 induction L with
 |nil=>rfl
 |cons p L f=>
  obtain⟨a,b⟩:=p;simp only[cM,dA]at c;simp only[DF];by_cases h:a=k
  ·subst h;rw[bZ rfl,cY (by simp)];rw[fi.2 λx d=>?_];have:x.1≠a:=λe=>c.1 (e▸dn d);simpa using this
  ·grind
def Pq{A L:List (κ×ν)}(a:(A.map (·.1)).Nodup)(h:A.Perm L)(k:κ):(DF A k).Perm (L.filter (λp=>p.1≠k)):=by
 rw[N9 a];exact h.filter _
end
def perm_sum{l l' :List Int}(h:l.Perm l'):l.sum=l'.sum:=by
 induction h with
 |nil=>rfl
 |cons x _ a=>simp[a]
 |swap x y l=>simp;omega
 |trans _ _ c b=>exact c.trans b
structure Ac where
 num:Int
 cash:Int
 kil:Bool
 dfl:Bool
 deriving DecidableEq
variable {a:Ac}{l:List Ac}
structure Po where
 c:Int
 a:Int
 q:Int
 b:Int
 deriving DecidableEq
structure Led where
 fund:Int
 all:List Ac
 held:List Po
variable {S:Led}
instance:Inhabited Ac:=⟨⟨0,0,false,false⟩⟩
instance:Inhabited Po:=⟨⟨0,0,0,0⟩⟩
def Po.key(p:Po):Int×Int:=(p.c,p.a)
def Po.isZ(p:Po):Bool:=decide (p.q=0/\p.b=0)
def klt(x y:Int×Int):Bool:=decide (x.1<y.1\/(x.1=y.1/\x.2<y.2))
def klt_iff:klt x y=true↔(x.1<y.1\/(x.1=y.1/\x.2<y.2)):=by simp[klt]
def klt_tri(x y:Int×Int):klt x y=true\/x=y\/klt y x=true:=by
 rw[klt_iff,klt_iff,Prod.ext_iff];omega
def klt_trans{z:Int×Int}(h:klt x y=true)(a:klt y z=true):klt x z=true:=by
 rw[klt_iff]at*;omega
def klt_irr:klt x x=false:=by
 rw[kI,Ne,klt_iff];omega
def vC(h:klt x y=true):x≠y:=by
 intro e;subst e;rw[klt_irr]at h;cases h
def klt_asymm(h:klt x y=true):klt y x=false:=by
 rw[klt_iff]at h;rw[kI,Ne,klt_iff];omega
def insA(l:List Ac)(a:Ac):List Ac:=l.filter (λx=>decide (x.num<a.num))++a::l.filter (λx=>decide (a.num<x.num))
def G0(l:List Po)(p:Po):List Po:=l.filter (λx=>klt x.key p.key)++((if p.isZ then []else [p])++l.filter (λx=>klt p.key x.key))
def SortA(l:List Ac):Prop:=l.Pairwise λx y=>x.num<y.num
def SortP(l:List Po):Prop:=l.Pairwise λx y=>klt x.key y.key=true
def mem_insA{x:Ac}:x∈insA l a↔(x∈l/\x.num≠a.num)\/x=a:=by
 simp only[insA,dg,cH,cO,dN];constructor
 ·rintro(⟨h,b⟩|h|⟨h,b⟩)
  ·grind
  ·exact .inr h
  ·grind
 ·rintro(⟨h,b⟩|h)
  ·rcases Int.lt_or_gt_of_ne b with c|c
   ·exact .inl ⟨h,c⟩
   ·grind
  ·exact .inr (.inl h)
def mem_insP{l:List Po}{p x:Po}:x∈G0 l p↔(x∈l/\x.key≠p.key)\/(x=p/\p.isZ=false):=by
 have c:x∈(if p.isZ=true then []else [p])↔x=p/\p.isZ=false:=by
  cases p.isZ<;>simp
 simp only[G0,dg,cO,c];constructor
 ·rintro(⟨h,a⟩|h|⟨h,a⟩)
  ·exact .inl ⟨h,vC a⟩
  ·exact .inr h
  ·exact .inl ⟨h,λe=>vC a e.symm⟩
 ·rintro(⟨h,a⟩|h)
  ·rcases klt_tri x.key p.key with b|b|b
   ·exact .inl ⟨h,b⟩
   ·exact absurd b a
   ·grind
  ·exact .inr (.inl h)
def insA_sort(h:SortA l)(a:Ac):SortA (insA l a):=by
 unfold SortA insA;rw[lV,fO];refine⟨h.filter _,⟨λx d=>by grind,h.filter _⟩,λx d y b=>?_⟩;have c:x.num<a.num:=by grind
 rcases cH.1 b with rfl|b
 ·exact c
 ·grind
theorem qn{l:List Po}(h:SortP l)(p:Po):SortP (G0 l p):=by
 unfold SortP G0;rw[lV,lV];have d:∀x∈(if p.isZ=true then []else [p]),x=p:=λx b=>by grind
 refine⟨h.filter _,⟨?_,h.filter _,λx b y a=>?_⟩,λx b y a=>?_⟩
 ·cases p.isZ<;>simp
 ·grind
 ·have c:klt x.key p.key=true:=(cO.1 b).2;rcases dg.1 a with a|a
  ·rw[d y a];exact c
  ·exact klt_trans c (cO.1 a).2
def SortA.nodup(h:SortA l):(l.map (·.num)).Nodup:=by
 rw[List.Nodup,fD];exact h.imp λh=>by omega
def SortP.nodup{l:List Po}(h:SortP l):(l.map Po.key).Nodup:=by
 rw[List.Nodup,fD];exact h.imp λh=>vC h
def Ai{α:Type}(l:List α)(p q:α->Bool)(h:∀x∈l,p x=true->q x=false):(l.filter p++l.filter q).Perm (l.filter λx=>p x||q x):=by
 induction l with
 |nil=>exact fw _
 |cons x l b=>
  have b:=b λy c=>h y (cu _ c);cases hp:p x with
  |true=>
   have a:=h x cw hp;rw[dI hp,cY (by simp[a]),dI (by simp[hp])];exact b.cons x
  |false=>
   cases a:q x with
   |true=>
    rw[cY (by simp[hp]),dI a,dI (by simp[a])];exact qL.trans (b.cons x)
   |false=>
    rw[cY (by simp[hp]),cY (by simp[a]),cY (by simp[hp,a])];exact b
theorem xR(l:List Ac)(a:Ac):(insA l a).Perm (a::l.filter λx=>decide (x.num≠a.num)):=by
 refine qL.trans (List.Perm.cons _ ((Ai l _ _ λx _ h=>?_).trans (lI (gF λx _=>?_))))
 ·grind
 ·grind
def AW(l:List Po)(p:Po):(G0 l p).Perm ((if p.isZ then []else [p])++l.filter λx=>decide (x.key≠p.key)):=by
 refine List.perm_append_comm_assoc .. |>.trans (List.Perm.append_left _ ((Ai l _ _ λx _ h=>?_).trans (lI (gF λx _=>?_))))
 ·exact klt_asymm h
 ·rw[iC];have:=klt_tri x.key p.key;simp only[rt,dN];constructor
  ·rintro(h|h) e
   ·exact vC h e
   ·exact vC h e.symm
  ·intro h;rcases this with a|a|a
   ·exact .inl a
   ·exact absurd a h
   ·exact .inr a
def OU{l' :List Ac}(h:SortA l)(c:SortA l')(hp:l.Perm l'):l=l' :=
 hp.eq_of_pairwise (λa b _ _ e d=>qZ) h c
def Led.find(S:Led)(n:Int):Option Ac:=S.all.find? λx=>decide (x.num=n)
def Led.pos? (S:Led)(k:Int×Int):Option Po:=S.held.find? λx=>decide (x.key=k)
def fundAc(f:Int):Ac:=⟨0,f,false,false⟩
def Led.getO(S:Led)(n:Int):Option Ac:=if n=0 then some (fundAc S.fund)else S.find n
def Led.funds(S:Led):Int:=S.fund+(S.all.map (·.cash)).sum
def Led.putA(S:Led)(a:Ac):Led:=if a.num=0 then{S with fund:=a.cash}else{S with all:=insA S.all a}
def Led.putP(S:Led)(p:Po):Led:={S with held:=G0 S.held p}
def amongB(n lo hi:Int):Bool:=decide (lo<=n/\n<=hi)
def MF:Int:=1000000000000000
def MP:Int:=10000000
def Led.deposit(S:Led)(n m:Int):Int×Led:=
 if amongB m 1 MF then
  if S.getO n=none/\64<=S.all.length then(9,S)
  else if S.funds+m>MF then(6,S)
  else(0,S.putA {(S.getO n).getD ⟨0,0,false,false⟩with num:=n,cash:=((S.getO n).getD ⟨0,0,false,false⟩).cash+m})
 else(2,S)
def Led.withdraw(S:Led)(n m:Int):Int×Led:=
 if n=0\/amongB m 1 MF=false then(2,S)
 else match S.find n with
  |none=>(7,S)
  |some a=>if a.cash<m then(90,S)else(0,S.putA {a with cash:=a.cash - m})
def Led.set(S:Led)(a:Ac):Int×Led:=
 if amongB a.cash 0 MF=false\/(a.num=0/\(a.kil=true\/a.dfl=true))then(2,S)
 else if S.getO a.num=none then(7,S)else(0,S.putA a)
def Led.position(S:Led)(c a:Int):Po:=(S.pos? (c,a)).getD ⟨c,a,0,0⟩
def Led.trade(S:Led)(c b s p n:Int):Int×Led:=
 if c=0\/b=0\/s=0\/b=s\/amongB p 1 MP=false\/amongB n 1 MP=false then(2,S)
 else if S.find b=none\/S.find s=none then(7,S)
 else
  let x:Po:=⟨c,b,(S.position c b).q+n,(S.position c b).b+p*n⟩
  let y:Po:=⟨c,s,(S.position c s).q - n,(S.position c s).b - p*n⟩
  if MP<x.q\/y.q< -MP\/MF<x.b\/y.b< -MF then(6,S)else(0,(S.putP x).putP y)
def Led.holders(S:Led)(c:Int):List Po:=S.held.filter λp=>decide (p.c=c)
def Led.ofA(S:Led)(a:Int):List Po:=S.held.filter λp=>decide (p.a=a)
def Po.mark(p:Po)(price:Int)(cl:Bool):Po:=if cl then⟨p.c,p.a,0,0⟩else{p with b:=p.q*price}
def Led.marked(S:Led)(l:List Po)(price:Int)(cl:Bool):Led:=l.foldl (λS p=>S.putP (p.mark price cl)) S
def Led.mark(S:Led)(c price:Int)(cl:Bool):Int×List (Int×Int)×Led:=
 if c=0\/amongB price 1 MP=false then(2,[],S)
 else(0,(S.holders c).map (λp=>(p.a,p.q*price - p.b)),S.marked (S.holders c) price cl)
structure Led.Ok(S:Led):Prop where
 fund:0<=S.fund/\S.fund<=MF
 sa:SortA S.all
 sp:SortP S.held
 len:S.all.length<=64
 acc:∀a∈S.all,0<a.num/\a.num<4294967296/\0<=a.cash/\a.cash<=MF
 pos:∀p∈S.held,0<p.c/\p.c<4294967296/\p.isZ=false/\ -MP<=p.q/\p.q<=MP/\ -MF<=p.b/\p.b<=MF/\∃a∈S.all,a.num=p.a
def Led.accs(S:Led):List (Int×Ac):=(0,fundAc S.fund)::S.all.map λa=>(a.num,a)
def Led.poss(S:Led):List ((Int×Int)×Po):=S.held.map λp=>(p.key,p)
def LU(l:List Ac)(n:Int):lk (l.map λa=>(a.num,a)) n=l.find? λx=>decide (x.num=n):=by
 induction l with
 |nil=>rfl
 |cons a l b=>
  simp only[cM,lk,b,jL];by_cases h:a.num=n<;>simp[h]
def Lv(l:List Po)(k:Int×Int):lk (l.map λp=>(p.key,p)) k=l.find? λx=>decide (x.key=k):=by
 induction l with
 |nil=>rfl
 |cons a l b=>
  simp only[cM,lk,b,jL];by_cases h:a.key=k<;>simp[h]
def Led.lk_accs(S:Led)(n:Int):lk S.accs n=S.getO n:=by
 simp only[Led.accs,lk,LU,Led.getO,Led.find];by_cases h:n=0
 ·simp[h]
 ·grind
def Led.lk_poss(S:Led)(k:Int×Int):lk S.poss k=S.pos? k:=Lv _ _
def BF(l:List Ac)(n:Int):(l.map λa=>(a.num,a)).filter (λp=>decide (p.1≠n))=(l.filter λx=>decide (x.num≠n)).map λa=>(a.num,a):=by
 rw[List.filter_map];rfl
def BK(l:List Po)(k:Int×Int):(l.map λp=>(p.key,p)).filter (λp=>decide (p.1≠k))=(l.filter λx=>decide (x.key≠k)).map λp=>(p.key,p):=by
 rw[List.filter_map];rfl
def Led.Ok.put_accs(h:S.Ok){A:List (Int×Ac)}(e:(A.map (·.1)).Nodup)(hp:A.Perm S.accs)(a:Ac)(c:a.num=0->a=fundAc a.cash):(put A a.num a).Perm (S.putA a).accs:=by
 apply(Ia e hp _ _).trans;unfold Led.putA;by_cases b:a.num=0
 ·rw[bZ b];simp only[Led.accs];rw[cY (by simp[b]),BF,b];rw[fi.2 λx d=>by have:=(h.acc x d).1;simp;omega];rw[<-c b]
 ·rw[aZ b];simp only[Led.accs];rw[dI (by grind),BF];refine(List.Perm.swap ..).trans (List.Perm.cons _ ?_);exact((xR S.all a).map λa=>(a.num,a)).symm
def Led.put_poss{B:List ((Int×Int)×Po)}(a:(B.map (·.1)).Nodup)(hp:B.Perm S.poss)(p:Po)(b:p.isZ=false):(put B p.key p).Perm (S.putP p).poss:=by
 apply(Ia a hp _ _).trans;simp only[Led.poss,Led.putP];rw[BK];have:=(AW S.held p).map λp=>(p.key,p)
 rw[b]at this;exact this.symm
def Led.del_poss{B:List ((Int×Int)×Po)}(a:(B.map (·.1)).Nodup)(hp:B.Perm S.poss)(p:Po)(b:p.isZ=true):(DF B p.key).Perm (S.putP p).poss:=by
 apply(Pq a hp _).trans;simp only[Led.poss,Led.putP];rw[BK];have:=(AW S.held p).map λp=>(p.key,p)
 rw[b]at this;exact this.symm
def Led.find_mem(h:S.find n=some a):a∈S.all/\a.num=n:=by
 unfold Led.find at h;exact⟨fl h,by grind⟩
def Led.pos_mem{k:Int×Int}{p:Po}(h:S.pos? k=some p):p∈S.held/\p.key=k:=by
 unfold Led.pos? at h;exact⟨fl h,by grind⟩
def Led.find_some(h:SortA S.all){a:Ac}(b:a∈S.all):S.find a.num=some a:=by
 unfold Led.find;rw[<-LU];exact mem_lk (by rw[dQ];exact h.nodup) (dn (f:=λa:Ac=>(a.num,a)) b)
def Led.pos_some(h:SortP S.held){p:Po}(hp:p∈S.held):S.pos? p.key=some p:=by
 unfold Led.pos?;rw[<-Lv];exact mem_lk (by rw[dQ];exact h.nodup) (dn (f:=λp:Po=>(p.key,p)) hp)
def Led.Ok.position(h:S.Ok)(c a:Int):(S.position c a).c=c/\(S.position c a).a=a/\ -MP<=(S.position c a).q/\(S.position c a).q<=MP/\ -MF<=(S.position c a).b/\(S.position c a).b<=MF:=by
 unfold Led.position;cases hp:S.pos? (c,a)with
 |none=>simp[MP,MF]
 |some p=>
  obtain⟨d,b⟩:=Led.pos_mem hp;have:=h.pos p d;simp only[Po.key,ou]at b;exact⟨b.1,b.2,this.2.2.2.1,this.2.2.2.2.1,this.2.2.2.2.2.1,this.2.2.2.2.2.2.1⟩
def CN(l:List Ac)(a:Ac):(insA l a).length<=l.length+1:=by
 rw[(xR l a).length_eq];simp only[dc];exact Nat.succ_le_succ (dm ..)
def DH(h:∃x∈l,x.num=a.num):(insA l a).length<=l.length:=by
 rw[(xR l a).length_eq];obtain⟨x,b,e⟩:=h;simp only[dc];exact lu.2 ⟨x,b,by simp[e]⟩
def Led.Ok.putA(h:S.Ok){a:Ac}(r:0<=a.num/\a.num<4294967296)(k:0<=a.cash/\a.cash<=MF)(b:S.find a.num≠none\/S.all.length<64\/a.num=0):(S.putA a).Ok:=by
 unfold Led.putA;by_cases g:a.num=0
 ·rw[bZ g];exact{h with fund:=k}
 ·rw[aZ g];refine{fund:=h.fund,sa:=insA_sort h.sa a,sp:=h.sp,len:=?_,acc:=λx c=>?_,pos:=λp hp=>?_}
  ·rcases b with b|b|b
   ·obtain⟨x,c⟩:=Option.ne_none_iff_exists'.1 b;obtain⟨f,e⟩:=Led.find_mem c;exact dD (DH ⟨x,f,e⟩) h.len
   ·exact dD (CN ..) b
   ·exact absurd b g
  ·rcases mem_insA.1 c with⟨c,_⟩|rfl
   ·exact h.acc x c
   ·grind
  ·obtain⟨g1,l,q,n,o,j,m,x,c,d⟩:=h.pos p hp;refine⟨g1,l,q,n,o,j,m,?_⟩;by_cases i:x.num=a.num
   ·exact⟨a,mem_insA.2 (.inr rfl),i.symm.trans d⟩
   ·exact⟨x,mem_insA.2 (.inl ⟨c,i⟩),d⟩
def Led.Ok.putP(h:S.Ok){p:Po}(d:0<p.c/\p.c<4294967296)(c: -MP<=p.q/\p.q<=MP)(e: -MF<=p.b/\p.b<=MF)(f:∃a∈S.all,a.num=p.a):(S.putP p).Ok:=by
 refine{fund:=h.fund,sa:=h.sa,sp:=qn h.sp p,len:=h.len,acc:=h.acc,pos:=λx b=>?_};rcases mem_insP.1 b with⟨b,_⟩|⟨rfl,g⟩
 ·exact h.pos x b
 ·exact⟨d.1,d.2,g,c.1,c.2,e.1,e.2,f⟩
def Led.Ok.getO(h:S.Ok){n:Int}{a:Ac}(b:S.getO n=some a):a.num=n/\0<=a.num/\a.num<4294967296/\0<=a.cash/\a.cash<=MF/\(a.num=0->a=fundAc a.cash):=by
 unfold Led.getO at b;split at b
 ·rename_i i
  cases b;exact⟨by simp[fundAc,i],by simp[fundAc],by simp[fundAc],h.fund.1,h.fund.2,λ_=>rfl⟩
 ·obtain⟨f,d⟩:=Led.find_mem b;obtain⟨j,e,g,c⟩:=h.acc a f;exact⟨d,qZ,e,g,c,qZ⟩
def Led.Ok.funds(h:S.Ok):0<=S.funds/\S.funds<=MF*65:=by
 have key:∀l:List Ac,(∀a∈l,0<=a.cash/\a.cash<=MF)->0<=(l.map (·.cash)).sum/\(l.map (·.cash)).sum<=MF*l.length:=by
  intro l b;induction l with
  |nil=>simp
  |cons a l e=>
   have f:=b a cw;have d:=e λx g=>b x (cu _ g);simp only[cM,di,dc,MF]at*;omega
 have f:=key S.all λa c=>(h.acc a c).2.2;have d:=h.fund;have i:=h.len;unfold Led.funds;simp only[MF]at*;omega
def Xn(h:∀a∈l,0<=a.cash):0<=(l.map (·.cash)).sum/\∀a∈l,a.cash<=(l.map (·.cash)).sum:=by
 induction l with
 |nil=>simp
 |cons a l c=>
  have f:=h a cw;obtain⟨e,d⟩:=c λx b=>h x (cu _ b);simp only[cM,di];refine⟨qZ,λx b=>?_⟩;rcases cH.1 b with rfl|b
  ·omega
  ·have:=d x b;omega
def Led.Ok.cash_le(h:S.Ok){n:Int}{a:Ac}(b:S.getO n=some a):a.cash<=S.funds:=by
 have d:=Xn (l:=S.all) λa c=>(h.acc a c).2.2.1;have e:=h.fund;unfold Led.funds;unfold Led.getO at b;split at b
 ·cases b;simp only[fundAc];omega
 ·have:=d.2 a (Led.find_mem b).1;omega
def amongB_iff{lo hi:Int}:amongB n lo hi=true↔lo<=n/\n<=hi:=by simp[amongB]
def mul_bd{x y m:Int}(c: -m<=x/\x<=m)(a:0<=y/\y<=n): -(m*n)<=x*y/\x*y<=m*n:=by
 have b:0<=m:=qZ;constructor
 ·have d:(-x)*y<=m*n:=Int.mul_le_mul qZ a.2 a.1 b;have:(-x)*y= -(x*y):=Int.neg_mul x y;omega
 ·exact Int.mul_le_mul c.2 a.2 a.1 b
end Go.Proofs
namespace Go.Proofs
open Go Go.Vc
def Tryz.noNum:wV Tryz.prog=true:=cU
end Go.Proofs
set_option maxRecDepth 100000
namespace Go.Proofs
open Go Go.Vc
abbrev gr(s:Sem Value)(w:World)(K:cG):=rv Tryz.prog s w K
abbrev gp(s:Sem Value)(K:Value->Prop):=wS Tryz.prog s K
abbrev gw(s:Sem Value)(w:World)(K:Value->Prop):=uc Tryz.prog s w K
abbrev gx(s:Sem Value)(w:World)(K:cG):=rx Tryz.prog s w K
abbrev gl(t:TypeId)(p:Value)(w:World)(K:cG):=rv Tryz.prog (Instr.loadAt t p) w K
abbrev gf(t:TypeId)(p:Value)(i:Nat)(w:World)(K:cG):=rv Tryz.prog (Instr.fieldAt t p i) w K
abbrev eP(t:TypeId)(p:Value)(w:World)(K:Value->Prop):=uc Tryz.prog (Instr.loadAt t p) w K
abbrev kg(t:TypeId)(p:Value)(i:Nat)(K:Value->Prop):=wS Tryz.prog (Instr.fieldAt t p i) K
abbrev gs(t:TypeId)(p v:Value)(w:World)(K:World->Prop):=ru Tryz.prog (Instr.storeAt t p v) w K
abbrev gb(o:BinOp)(t:TypeId)(c:Bool)(a b:Value)(w:World)(K:cG):=rv Tryz.prog (qE o t c a b) w K
abbrev my(o:BinOp)(t:TypeId)(c:Bool)(a b:Value)(K:Value->Prop):=wS Tryz.prog (qE o t c a b) K
abbrev ge(a:Value)(i:Nat)(w:World)(K:cG):=rv Tryz.prog (Instr.extract a i) w K
abbrev ga(t:TypeId)(w:World)(K:cG):=rv Tryz.prog (Instr.alloc t true (.tuple #[])) w K
abbrev gq(t:TypeId)(a:Value)(w:World)(K:cG):=rv Tryz.prog (Instr.box t a) w K
abbrev gi(t:TypeId)(a i:Value)(w:World)(K:cG):=rv Tryz.prog (Instr.indexAt t a i) w K
abbrev mf(t:TypeId)(a i:Value)(K:Value->Prop):=wS Tryz.prog (Instr.indexAt t a i) K
abbrev gn(t:TypeId)(c:Bool)(a:Value)(w:World)(K:cG):=rn Tryz.prog (builtin .len #[t] 3 #[c] #[a]) w K
@[simp] abbrev gk (t:TypeId) (p v:Value) (w:World):=Sem.run Tryz.prog (Instr.loadAt t p) w=.ok v w
abbrev dz(t:TypeId)(p:Value)(i:Nat)(u:TypeId)(w:World)(K:cG):=gf t p i w λa b=>gl u a b K
abbrev qM(t:TypeId)(p:Value)(i:Nat)(u:TypeId)(v:Value)(w:World)(K:World->Prop):=gf t p i w λa b=>gs u a v b K
abbrev gY(t:TypeId)(p:Value)(i:Nat)(u:TypeId)(w:World)(K:Value->Prop):=kg t p i λa=>eP u a w K
abbrev uB(t:TypeId)(a i:Value)(u:TypeId)(w:World)(K:cG):=gi t a i w λa b=>gl u a b K
abbrev gv(t:TypeId)(x:Value)(w:World)(K:cG):=ga t w λa b=>gs t a x b λc=>K a c
abbrev nR(x:Value)(w:World)(K:Value->Value->World->Prop):=ge x 0 w λa b=>ge x 1 b λc d=>K a c d
abbrev NV:=Nat->Value
abbrev gI(n:Int):Value:=.int .i64 n
abbrev iL:= @Instr.loadAt
abbrev iF:= @Instr.fieldAt
abbrev iS:= @Instr.storeAt
abbrev iA:= @Instr.alloc
abbrev iX:= @Instr.indexAt
abbrev gU(n:Int):Value:=.int .u32 n
abbrev gQ(n:Int):Value:=.int .u64 n
abbrev gB(n:Int):Value:=.int .u8 n
abbrev Wt_:=World
abbrev Vt_:=Value
abbrev NP_:=Nat->Prop
abbrev LV_:=List Value
abbrev pt(b o:Nat):Value:=.pointer (some ⟨b,o,none⟩)
noncomputable abbrev pQ:=Tryz.prog
abbrev T1:=Value×Unit
abbrev T2:=Value×Value×Unit
abbrev T3:=Value×Value×Value×Unit
abbrev T4:=Value×Value×Value×Value×Unit
abbrev Wp:=World->Prop
abbrev gc(a b:Value)(w:World)(K:cG):=NV->gb .lss 3 false a b w K
abbrev g1(v:Value)(w:World)(K:cG):=gb .add 3 true v (gI 1) w K
abbrev gE(v:Value)(w:World)(K:cG):=gb .neq 43 true v (gI 0) w K
abbrev gC(v:Value)(n:Int)(w:World)(K:cG):=gb .eql 22 true v (.int .u8 n) w K
abbrev gT(a b:Value):Value:=.tuple #[a,b]
abbrev bF:Value:=.bool false
abbrev bT:Value:=.bool true
abbrev jW:= @dK T1
abbrev qA:= @lG T1
abbrev qB:= @lG T2
abbrev qC:= @lG T3
abbrev qD:= @lG T4
abbrev gt(a:Value)(w:World)(K:cG):=rv Tryz.prog (Op.unary .not a) w K
def cj{f:FuncId}{fn:Func}{g:List Value}{w:World}{K:cG}{F:Prop}(j:Tryz.prog.funcs[f]? =some fn)(h:F)(i:okF Tryz.prog fn g.length=true:=by kernel_rfl)(e:VH Tryz.prog fn g w K=F:=by kernel_rfl):Ca Tryz.prog f ⟨g⟩ w K:=NY Tryz.noNum j i (by rw[e];exact h)
section
variable{a b c d e f:Value}{W:World}{Z:cG}
def az0(j:gr (Instr.makeMap 130 none) W λa b=>gr (Instr.build 70 #[]) b λc d=>nj Tryz.prog (nm 130 a (.int .u32 0) c) d λe=>gr (Instr.makeMap 131 none) e λf g=>gr (Instr.build 133 #[(0,a),(1,f)]) g λh i=>gq 133 h i Z):Ca Tryz.prog 50 #[] W Z:=cj Tryz.func50 j
def ay6(h:gb .neq 34 true a (.pointer none) W λb c=>cV b (ez a λd=>dz 133 d 0 130 c λe f=>gb .neq 130 true e (.map none) f Z) (Z bF c)):Ca Tryz.prog 52 #[a] W Z:=cj Tryz.func52 h
def ab8(h:gb .geq 2 false a b W λd e=>cV d (gb .leq 2 false a c e Z) (Z bF e)):Ca Tryz.prog 121 #[a,b,c] W Z:=cj Tryz.func121 h
def UP(a:cG)(b c d e:Value)(f:T1)(g:World):=NV->cV f.1 (a (gI 9) g) (Ca Tryz.prog 122 #[b] g λh i=>gb .add 2 false h c i λj k=>gb .gtr 2 true j (gI 1000000000000000) k λl m=>cV l (a (gI 6) m) (qM 70 d 0 23 e m λn=>dz 70 d 1 2 n λo p=>gb .add 2 false o c p λq r=>qM 70 d 1 2 q r λs=>ez b λt=>gY 133 t 0 130 s.drew λu=>eP 70 d s.drew λv=>nj Tryz.prog (nm 130 u e v) s.drew λw=>a (gI 0) w))
def az9(F:Ca Tryz.prog 52 #[a] W λd e=>gt d e λf g=>cV f (Z (gI 1) g) (ez a λh=>dz 133 h 0 130 g λi j=>gx (ji 130 i b true) j λk l=>nR k l λm n o=>gv 70 m o λp q=>Ca Tryz.prog 121 #[c,(gI 1),(gI 1000000000000000)] q λr s=>gt r s λt u=>cV t (Z (gI 2) u) (jW (λv=>gt n u λw x=>cV w (ez a λy=>dz 133 y 0 130 x λz A=>gn 130 false z A λB C=>gb .gtr 3 true B (gI 64) C λD E=>v (D,()) E) (v (bF,()) x)) (UP Z a c p b)))):Ca Tryz.prog 82 #[a,b,c] W Z:=cj Tryz.func82 F
def Pk(a:cG)(b c d e f:Value)(g:T1)(h:World):=NV->cV g.1 (a (gI 2) h) (gt b h λi j=>cV i (a (gI 7) j) (dz 70 c 1 2 j λk l=>gb .lss 2 false k d l λm n=>cV m (a (gI 90) n) (dz 70 c 1 2 n λo p=>gb .sub 2 false o d p λq r=>qM 70 c 1 2 q r λs=>ez e λt=>gY 133 t 0 130 s.drew λu=>eP 70 c s.drew λv=>nj Tryz.prog (nm 130 u f v) s.drew λw=>a (gI 0) w)))
def ap7(y:Ca Tryz.prog 52 #[a] W λd e=>gt d e λf g=>cV f (Z (gI 1) g) (ez a λh=>dz 133 h 0 130 g λi j=>gx (ji 130 i b true) j λk l=>nR k l λm n o=>gv 70 m o λp q=>jW (λr=>gb .eql 23 true b (.int .u32 0) q λs t=>cV s (r (bT,()) t) (Ca Tryz.prog 121 #[c,(gI 1),(gI 1000000000000000)] t λu v=>gt u v λw x=>r (w,()) x)) (Pk Z n p c a b))):Ca Tryz.prog 123 #[a,b,c] W Z:=cj Tryz.func123 y
def aB1(G:ga 70 W λc d=>Ca Tryz.prog 52 #[a] d λe f=>gt e f λg h=>cV g (gr (Instr.build 70 #[]) h λi j=>gs 70 c i j λk=>eP 70 c k λl=>Z (gT l (gI 1)) k) (ez a λm=>dz 133 m 0 130 h λn o=>gx (ji 130 n b true) o λp q=>nR p q λr s t=>gv 70 r t λu v=>gt s v λw x=>cV w (gr (Instr.build 70 #[]) x λy z=>gs 70 c y z λA=>eP 70 c A λB=>Z (gT B (gI 7)) A) (gl 70 u x λC D=>gs 70 c C D λE=>eP 70 c E λF=>Z (gT F (gI 0)) E))):Ca Tryz.prog 28 #[a,b] W Z:=cj Tryz.func28 G
def Wn(a:cG)(b c:Value)(d:T1)(e:World):=NV->cV d.1 (a (gI 2) e) (ez b λf=>kg 133 f 0 λg=>eP 130 g e.drew λh=>kg 70 c 0 λi=>eP 23 i e.drew λj=>pS Tryz.prog (ji 130 h j true) e.drew λk=>gp (Instr.extract k 0) λl=>gp (Instr.extract k 1) λm=>ga 70 e.drew λn o=>Sem.run Tryz.prog (ji 130 h j true) o=.ok k o/\gk 23 i j o/\gk 130 g h o/\(gs 70 n l o λp=>gt m p λq r=>cV q (a (gI 7) r) (ez b λs=>gY 133 s 0 130 r.drew λt=>gY 70 c 0 23 r.drew λu=>eP 70 c r.drew λv=>nj Tryz.prog (nm 130 t u v) r.drew λw=>a (gI 0) w)))
def aw3(x:gq 70 b W λc d=>Ca Tryz.prog 52 #[a] d λe f=>gt e f λg h=>cV g (Z (gI 1) h) (jW (λi=>dz 70 c 1 2 h λj k=>Ca Tryz.prog 121 #[j,(gI 0),(gI 1000000000000000)] k λl m=>gt l m λn o=>cV n (i (bT,()) o) (dz 70 c 0 23 o λp q=>gb .eql 23 true p (.int .u32 0) q λr s=>cV r (dz 70 c 2 4 s λt u=>cV t (i (bT,()) u) (dz 70 c 3 4 u λv w=>i (v,()) w)) (i (bF,()) s))) (Wn Z a c))):Ca Tryz.prog 96 #[a,b] W Z:=cj Tryz.func96 x
def ay2(J:ga 79 W λd e=>gr (Instr.build 79 #[(0,b),(1,c)]) e λf g=>gv 79 f g λh i=>Ca Tryz.prog 52 #[a] i λj k=>cV j (ez a λl=>dz 133 l 1 131 k λm n=>gr (Instr.build 140 #[(0,b),(1,c)]) n λo p=>gx (ji 131 m o true) p λq r=>nR q r λs t u=>gv 79 s u λv w=>cV t (gl 79 v w λx y=>gs 79 d x y λz=>eP 79 d z λA=>Z A z) (gl 79 h w λB C=>gs 79 d B C λD=>eP 79 d D λE=>Z E D)) (gl 79 h k λF G=>gs 79 d F G λH=>eP 79 d H λI=>Z I H)):Ca Tryz.prog 30 #[a,b,c] W Z:=cj Tryz.func30 J
def RU(a b:Value)(c:cG)(d:Value)(e:T1)(f:World):=NV->cV e.1 (ez a λg=>gY 133 g 1 131 f.drew λh=>eP 140 b f.drew λi=>gx (wo #[131,140] 0 [h,i]) f.drew λj k=>c (.tuple #[]) k) (ez a λl=>gY 133 l 1 131 f.drew λm=>eP 140 b f.drew λn=>eP 79 d f.drew λo=>nj Tryz.prog (nm 131 m n o) f.drew λp=>c (.tuple #[]) p)
def as3(v:gq 79 b W λc d=>dz 79 c 0 23 d λe f=>dz 79 c 1 23 f λg h=>gr (Instr.build 140 #[(0,e),(1,g)]) h λi j=>gv 140 i j λk l=>jW (λm=>dz 79 c 2 2 l λn o=>gb .eql 2 true n (gI 0) o λp q=>cV p (dz 79 c 3 2 q λr s=>gb .eql 2 true r (gI 0) s λt u=>m (t,()) u) (m (bF,()) q)) (RU a k Z c)):Ca Tryz.prog 198 #[a,b] W Z:=cj Tryz.func198 v
def ar6(j:gb .lss 2 true a (gI 0) W λb c=>cV b (gr (convert 2 24 a) c λd e=>gr (Op.unary .neg d) e λf g=>Z (gT f bT) g) (gr (convert 2 24 a) c λh i=>Z (gT h bF) i)):Ca Tryz.prog 156 #[a] W Z:=cj Tryz.func156 j
def af7(l:Ca Tryz.prog 156 #[a] W λc d=>nR c d λe f g=>gb .geq 2 true b (gI 0) g λh i=>cV h (gr (convert 2 24 b) i λj k=>gb .leq 24 false e j k Z) (Z bF i)):Ca Tryz.prog 108 #[a,b] W Z:=cj Tryz.func108 l
def Ju(a:cG)(b:T2)(c:T2->Wp)(d:T1)(e:World):=NV->cV d.1 (a (gI 6) e) (g1 b.2.1 e λf g=>c (b.1,f,()) g)
def RP(a b:Value)(c:cG)(d e f:Value)(g:T2)(h:World)(i:T2->Wp):=gc g.2.1 a h λj k=>cV j (uB 58 b g.2.1 79 k λl m=>gv 79 l m λn o=>jW (λp=>dz 79 n 2 2 o λq r=>Ca Tryz.prog 108 #[q,(gI 10000000)] r λs t=>gt s t λu v=>cV u (p (bT,()) v) (dz 79 n 3 2 v λw x=>Ca Tryz.prog 108 #[w,(gI 1000000000000000)] x λy z=>gt y z λA B=>p (A,()) B)) (Ju c g i)) (gl 79 d k λC D=>Ca Tryz.prog 198 #[e,C] D λE F=>gl 79 f F λG H=>Ca Tryz.prog 198 #[e,G] H λI J=>c (gI 0) J)
def PR(a:cG)(b c d e f g:Value)(h:T1)(i:World):=NV->cV h.1 (a (gI 7) i) (Ca Tryz.prog 30 #[b,c,d] i λj k=>Ca Tryz.prog 30 #[b,c,e] k λl m=>ga 79 m λn o=>ga 79 o λp q=>gs 79 n j q λr=>gs 79 p l r λs=>dz 79 n 2 2 s λt u=>gb .add 2 false t f u λv w=>qM 79 n 2 2 v w λx=>dz 79 n 3 2 x λy z=>gb .mul 2 false g f z λA B=>gb .add 2 false y A B λC D=>qM 79 n 3 2 C D λE=>dz 79 p 2 2 E λF G=>gb .sub 2 false F f G λH I=>qM 79 p 2 2 H I λJ=>dz 79 p 3 2 J λK L=>gb .mul 2 false g f L λM N=>gb .sub 2 false K M N λO P=>qM 79 p 3 2 O P λQ=>gl 79 n Q λR S=>gl 79 p S λT U=>gx (jQ 58 2 [(0,R),(1,T)]) U λV X=>gn 58 false V X λY aa=>qB (RP Y V a n b p) ((gI 0),(gI 0),()) aa)
def Qh(a:cG)(b c d e f g:Value)(h:T1)(i:World):=NV->cV h.1 (a (gI 2) i) (ez b λj=>dz 133 j 0 130 i λk l=>gx (ji 130 k c true) l λm n=>nR m n λo p q=>gv 70 o q λr s=>ez b λt=>dz 133 t 0 130 s λu v=>gx (ji 130 u d true) v λw x=>nR w x λy z A=>gv 70 y A λB C=>jW (λD=>gt p C λE F=>cV E (D (bT,()) F) (gt z F λG H=>D (G,()) H)) (PR a b e c d f g))
def aq8(B:Ca Tryz.prog 52 #[a] W λg h=>gt g h λi j=>cV i (Z (gI 1) j) (jW (λk=>gb .eql 23 true b (.int .u32 0) j λl m=>cV l (k (bT,()) m) (gb .eql 23 true c (.int .u32 0) m λn o=>cV n (k (bT,()) o) (gb .eql 23 true d (.int .u32 0) o λp q=>cV p (k (bT,()) q) (gb .eql 23 false c d q λr s=>cV r (k (bT,()) s) (Ca Tryz.prog 121 #[e,(gI 1),(gI 10000000)] s λt u=>gt t u λv w=>cV v (k (bT,()) w) (Ca Tryz.prog 121 #[f,(gI 1),(gI 10000000)] w λx y=>gt x y λz A=>k (z,()) A)))))) (Qh Z a c d b f e))):Ca Tryz.prog 175 #[a,b,c,d,e,f] W Z:=cj Tryz.func175 B
def PY(a:Value)(b:cG)(c:T1)(d:World)(e:T1->Wp):=NV->gx (wh a false 0) d λf g=>ge f 0 g λh i=>cV h (gx (uf a) i λj k=>ge j 1 k λl m=>gv 70 l m λn o=>dz 70 n 1 2 o λp q=>gb .add 2 false c.1 p q λr s=>e (r,()) s) (b c.1 i)
def af3(k:Ca Tryz.prog 52 #[a] W λb c=>gt b c λd e=>cV d (Z (gI 0) e) (ez a λf=>dz 133 f 0 130 e λg h=>gx (ue 130 g) h λi j=>qA (PY i Z) ((gI 0),()) j)):Ca Tryz.prog 122 #[a] W Z:=cj Tryz.func122 k
def ak6(h:gq 56 a W λb c=>Z (.func (.func 151) #[] #[b]) c):Ca Tryz.prog 102 #[a] W Z:=cj Tryz.func102 h
def Q7(a b c:Value)(d:cG)(e:T1)(f:World)(g:T1->Wp):=gc e.1 a f λh i=>cV h (uB 56 b e.1 70 i λj k=>gv 70 j k λl m=>gl 70 l m λn o=>iv Tryz.prog c [n] o λp q=>gt p q λr s=>cV r (d (.tuple #[]) s) (g1 e.1 s λt u=>g (t,()) u)) (d (.tuple #[]) i)
def aj3(h:gl 56 b W λc d=>gn 56 false c d λe f=>qA (Q7 e c a Z) ((gI 0),()) f):Ca Tryz.prog 151 #[a,b] W Z:=cj Tryz.func151 h
def an2(h:gq 58 a W λb c=>Z (.func (.func 195) #[] #[b]) c):Ca Tryz.prog 155 #[a] W Z:=cj Tryz.func155 h
def P3(a b c:Value)(d:cG)(e:T1)(f:World)(g:T1->Wp):=gc e.1 a f λh i=>cV h (uB 58 b e.1 79 i λj k=>gv 79 j k λl m=>gl 79 l m λn o=>iv Tryz.prog c [n] o λp q=>gt p q λr s=>cV r (d (.tuple #[]) s) (g1 e.1 s λt u=>g (t,()) u)) (d (.tuple #[]) i)
def as5(h:gl 58 b W λc d=>gn 58 false c d λe f=>qA (P3 e c a Z) ((gI 0),()) f):Ca Tryz.prog 195 #[a,b] W Z:=cj Tryz.func195 h
def au4(h:gq 34 a W λb c=>Z (.func (.func 99) #[] #[b]) c):Ca Tryz.prog 43 #[a] W Z:=cj Tryz.func43 h
def VO(a:Value)(b:T1->Wp)(c:T1)(d:World)(e:T1->Wp):=NV->gx (wh a false 0) d λf g=>ge f 0 g λh i=>cV h (gx (uf a) i λj k=>nR j k λl m n=>gv 70 m n λo p=>gb .neq 23 true l (.int .u32 0) p λq r=>cV q (gl 70 o r λs t=>gx (jQ 56 1 [(0,s)]) t λu v=>gx (eg #[56,56] 56 [c.1,u]) v λw x=>e (w,()) x) (e (c.1,()) r)) (b (c.1,()) i)
def WT(a:Value)(b:cG)(c:T1)(d:World):=NV->Ca Tryz.prog 100 #[c.1,(.func (.func 101) #[] #[])] d λe f=>Ca Tryz.prog 102 #[c.1] f λg h=>iv Tryz.prog g [a] h λi j=>b (.tuple #[]) j
def aw2(o:jW (λc=>gl 34 b W λd e=>Ca Tryz.prog 52 #[d] e λf g=>cV f (gl 34 b g λh i=>ez h λj=>dz 133 j 0 130 i λk l=>gx (ue 130 k) l λm n=>qA (VO m c) ((.slice none 0 0),()) n) (c ((.slice none 0 0),()) g)) (WT a Z)):Ca Tryz.prog 99 #[a,b] W Z:=cj Tryz.func99 o
def as0(m:gq 70 a W λc d=>gq 70 b d λe f=>dz 70 c 0 23 f λg h=>dz 70 e 0 23 h λi j=>gb .lss 23 false g i j λk l=>cV k (Z (gI (-1)) l) (Z (gI 1) l)):Ca Tryz.prog 101 #[a,b] W Z:=cj Tryz.func101 m
def Vv(h:gq 34 a W λc d=>gq 185 b d λe f=>Z (.func (.func 152) #[] #[c,e]) f):Ca Tryz.prog 103 #[a,b] W Z:=cj Tryz.func103 h
def OP(a b:Value)(c:T1->Wp)(d:T1)(e:World)(f:T1->Wp):=NV->gx (wh a false 0) e λg h=>ge g 0 h λi j=>cV i (gx (uf a) j λk l=>ge k 1 l λm n=>gv 79 m n λo p=>gl 185 b p λq r=>gl 79 o r λs t=>iv Tryz.prog q [s] t λu v=>cV u (gl 79 o v λw x=>gx (jQ 58 1 [(0,w)]) x λy z=>gx (eg #[58,58] 58 [d.1,y]) z λA B=>f (A,()) B) (f (d.1,()) v)) (c (d.1,()) j)
def OB(a:Value)(b:cG)(c:T1)(d:World):=NV->Ca Tryz.prog 153 #[c.1,(.func (.func 154) #[] #[])] d λe f=>Ca Tryz.prog 155 #[c.1] f λg h=>iv Tryz.prog g [a] h λi j=>b (.tuple #[]) j
def af4(p:jW (λd=>gl 34 b W λe f=>Ca Tryz.prog 52 #[e] f λg h=>cV g (gl 34 b h λi j=>ez i λk=>dz 133 k 1 131 j λl m=>gx (ue 131 l) m λn o=>qA (OP n c d) ((.slice none 0 0),()) o) (d ((.slice none 0 0),()) h)) (OB a Z)):Ca Tryz.prog 152 #[a,b,c] W Z:=cj Tryz.func152 p
def Oo(a:cG)(b c:Value)(d:T1)(e:World):=NV->cV d.1 (a (gI (-1)) e) (gl 79 b e λf g=>gl 79 c g λh i=>gb .eql 79 false f h i λj k=>cV j (a (gI 0) k) (a (gI 1) k))
def ak5(z:gq 79 a W λc d=>gq 79 b d λe f=>jW (λg=>dz 79 c 0 23 f λh i=>dz 79 e 0 23 i λj k=>gb .lss 23 false h j k λl m=>cV l (g (bT,()) m) (dz 79 c 0 23 m λn o=>dz 79 e 0 23 o λp q=>gb .eql 23 false n p q λr s=>cV r (dz 79 c 1 23 s λt u=>dz 79 e 1 23 u λv w=>gb .lss 23 false t v w λx y=>g (x,()) y) (g (bF,()) s))) (Oo Z c e)):Ca Tryz.prog 154 #[a,b] W Z:=cj Tryz.func154 z
def au1(h:gq 23 b W λc d=>Ca Tryz.prog 103 #[a,(.func (.func 104) #[] #[c])] d Z):Ca Tryz.prog 44 #[a,b] W Z:=cj Tryz.func44 h
def an9(i:gq 79 a W λc d=>dz 79 c 0 23 d λe f=>gl 23 b f λg h=>gb .eql 23 false e g h Z):Ca Tryz.prog 104 #[a,b] W Z:=cj Tryz.func104 i
def ad6(h:gq 23 b W λc d=>Ca Tryz.prog 103 #[a,(.func (.func 165) #[] #[c])] d Z):Ca Tryz.prog 132 #[a,b] W Z:=cj Tryz.func132 h
def ak0(i:gq 79 a W λc d=>dz 79 c 1 23 d λe f=>gl 23 b f λg h=>gb .eql 23 false e g h Z):Ca Tryz.prog 165 #[a,b] W Z:=cj Tryz.func165 i
def P5(a b:Value)(c:Wp)(d:Unit)(e:World):=NV->gl 34 a e λf g=>gl 79 b g λh i=>Ca Tryz.prog 198 #[f,h] i λj k=>c k
def QP(a b c d:Value)(e:Nat)(f:List Value)(g:World)(h:Wp)(i:Code->Wp):=gv 79 (f.getD 0 undef) g λj k=>lC e k λl=>gl 252 a l λm n=>dz 79 j 1 23 n λo p=>dz 79 j 2 2 p λq r=>gl 2 b r λs t=>gb .mul 2 false q s t λu v=>dz 79 j 3 2 v λw x=>gb .sub 2 false u w x λy z=>gr (Instr.build 256 #[(0,o),(1,y)]) z λA B=>gx (jQ 252 1 [(0,A)]) B λC D=>gx (eg #[252,252] 252 [m,C]) D λE F=>gs 252 a E F λG=>dz 79 j 2 2 G λH I=>gl 2 b I λJ K=>gb .mul 2 false H J K λL M=>qM 79 j 3 2 L M λN=>dK (S:=Unit) (λO=>gl 4 c N λP Q=>cV P (qM 79 j 2 2 (gI 0) Q λR=>qM 79 j 3 2 (gI 0) R λS=>O (()) S) (O (()) Q)) (P5 d j h)
def Ps(a:Value)(b:cG)(c:List Nat)(d:Option Code)(e:World):=iJ (λf=>gl 252 a f λg h=>lj (c++[]) h λi=>b (gT g (gI 0)) i) (λj=>lj (c++[]) j λk=>b (gT (.slice none 0 0) (gI 0)) k) (λl m=>bc (Nat.beq l 0) (gl 252 a m λn o=>lj (c++[]) o λp=>b (gT n (gI 0)) p) (False)) d e
def Se(a:cG)(b c d e:Value)(f:T1)(g:World):=NV->cV f.1 (a (gT (.slice none 0 0) (gI 2)) g) (ga 252 g λh i=>gl 34 b i λj k=>Ca Tryz.prog 44 #[j,c] k λl m=>yP Tryz.prog none l m 1 (QP h d e b) (Ps h a))
def ZD(z:gq 34 a W λe f=>gq 2 c f λg h=>gq 4 d h λi j=>gl 34 e j λk l=>Ca Tryz.prog 52 #[k] l λm n=>gt m n λo p=>cV o (Z (gT (.slice none 0 0) (gI 1)) p) (jW (λq=>gb .eql 23 true b (.int .u32 0) p λr s=>cV r (q (bT,()) s) (gl 2 g s λt u=>Ca Tryz.prog 121 #[t,(gI 1),(gI 10000000)] u λv w=>gt v w λx y=>q (x,()) y)) (Se Z e b g i))):Ca Tryz.prog 163 #[a,b,c,d] W Z:=cj Tryz.func163 z
def Vm(a b:Value)(c:cG)(d:Unit)(e:World)(f:Unit->Wp):=NV->gx (wh a false 0) e λg h=>ge g 0 h λi j=>cV i (gx (uf a) j λk l=>nR k l λm n o=>ga 140 o λp q=>ga 79 q λr s=>gs 140 p m s λt=>gs 79 r n t λu=>ez b λv=>gY 133 v 1 131 u.drew λw=>eP 140 p u.drew λx=>eP 79 r u.drew λy=>nj Tryz.prog (nm 131 w x y) u.drew λz=>f (()) z) (c b j)
def WO(a b c:Value)(d:cG)(e:Unit)(f:World)(g:Unit->Wp):=NV->gx (wh a false 0) f λh i=>ge h 0 i λj k=>cV j (gx (uf a) k λl m=>nR l m λn o p=>gv 70 o p λq r=>ez b λs=>gY 133 s 0 130 r.drew λt=>eP 70 q r.drew λu=>nj Tryz.prog (nm 130 t n u) r.drew λv=>g (()) v) (ez c λw=>dz 133 w 1 131 k λx y=>gx (ue 131 x) y λz A=>lG (S:=Unit) (Vm z b d) (()) A)
def aE5(m:Ca Tryz.prog 52 #[a] W λb c=>gt b c λd e=>cV d (Z (.pointer none) e) (Ca Tryz.prog 50 #[] e λf g=>ez a λh=>dz 133 h 0 130 g λi j=>gx (ue 130 i) j λk l=>lG (S:=Unit) (WO k f a Z) (()) l)):Ca Tryz.prog 46 #[a] W Z:=cj Tryz.func46 m
end
end Go.Proofs
namespace Go.Proofs
open Go Go.Vc
variable {n a m:Int}{S:Led}{A:List (Int×Ac)}{F:NP_}{l c:Nat}{w w' :Wt_}{K:cG}
def Bt{S:Type}{body:S->World->(S->World->Prop)->Prop}{s:S}(I:S->World->Prop)(m:S->World->Nat)(f:I s w)
  (h:∀s w,I s w->∀c:S->World->Prop,(∀a b,I a b->m a b<m s w->c a b)->body s w c):lG body s w:=
 ⟨⟨I,m,f,λs w g=>h s w g _ λ_ _ e d=>⟨e,d⟩⟩⟩
def iG(l:Nat):Value:=pt l 0
def dH(a:Ac):List Value:=[.int .u32 a.num,gI a.cash,.bool a.kil,.bool a.dfl]
def oz(a:Ac):Value:=.agg #[.int .u32 a.num,gI a.cash,.bool a.kil,.bool a.dfl]
def ec(p:Po):List Value:=[.int .u32 p.c,gU p.a,gI p.q,gI p.b]
def tn(p:Po):Value:=.agg #[.int .u32 p.c,gU p.a,gI p.q,gI p.b]
def iI(n:Int):Value:=gU n
def l9(k:Int×Int):Value:=.agg #[.int .u32 k.1,gU k.2]
def az1:Tryz.prog.underlying 23=some (.int .u32):=cU
def rP:vB pQ 23 iI:=vB.int az1
def XU:Tryz.prog.underlying 140=some (.struct (Tryz.prog.fieldsOf 140)):=cU
def ZL:Tryz.prog.fieldsOf 140= #[{name:= "contract",type:=23,offset:=0,embedded:=false,tag:= "",pkgPath:= "broadside/ledger",byteOffset:=0},{name:= "account",type:=23,offset:=1,embedded:=false,tag:= "",pkgPath:= "broadside/ledger",byteOffset:=4}]:=cU
def ah8(b:Bool)(n:Nat)(k:IntKind)(f:Int)(w:Wt_):(Instr.checkKey b (n+1) 23 (.int k f)).run pQ w=.ok () w:=by
 unfold Instr.checkKey;simp[go_sem]
def al9(w:Wt_)(x y:Int×Int):(Op.equal 140 (l9 x) (l9 y)).run pQ w=.ok (decide (x=y)) w:=by
 have h:Tryz.prog.stoodInHeld 140=false:=cU;obtain⟨f,a⟩:=x;obtain⟨d,c⟩:=y;unfold Op.equal Op.maxDepth l9;rw[run_equalIn_struct w 9999 140 _ _ XU h,ZL];have b:∀(x y:Int) (w:Wt_),(Op.equalIn 9999 23 (gU x) (gU y)).run pQ w=.ok (x==y) w:=λx y w=>run_equalIn_int w 9998 23 .u32 .u32 x y cU;simp[Op.eqFields,part,isAgg,go_sem,b];by_cases g:f=d<;>by_cases e:a=c<;>simp_all
def ah5(w:Wt_)(b:Bool)(x:Int×Int):(Instr.checkKey b 10000 140 (l9 x)).run pQ w=.ok () w:=by
 obtain⟨f,a⟩:=x;unfold Instr.checkKey l9;have c:∀(x:Int) (w:Wt_),(Instr.checkKey b 9999 23 (gU x)).run pQ w=.ok () w:=λx w=>ah8 b 9998 .u32 x w;simp[go_sem,XU,ZL,c]
def SM:vB pQ 140 l9:=
 vB.asking XU (λx y=>rfl) al9 ah5 (λx=>by simp[l9,Instr.sameBits])
def vh:Tryz.prog.underlying 130=some (.map 23 70):=cU
def DZ:Tryz.prog.underlying 131=some (.map 140 79):=cU
def Ze:qw pQ 70=some (oz ⟨0,0,false,false⟩):=cU
def zPo:qw pQ 79=some (tn ⟨0,0,0,0⟩):=cU
structure lA(w:Wt_)(l:Nat)(F:NP_)(S:Led):Prop where
 out:∃m1 m2 A B,hC w l #[.map (some m1),.map (some m2)] 133/\fB iI oz w m1 A/\fB l9 tn w m2 B/\A.Perm S.accs/\B.Perm S.poss/\
  (∀b,F b↔b=l\/b=m1\/b=m2)/\l≠m1/\l≠m2/\m1≠m2
 ok:S.Ok
def lA.mod{G:NP_}(h:lA w l F S)(g:de G w w')(c:∀b,F b->¬G b):lA w' l F S:=by
 obtain⟨⟨e,d,A,B,k,i,o,j,n,a,m⟩,f⟩:=h;exact⟨⟨e,d,A,B,g.keep k (c l ((a l).2 (.inl rfl))),i.mod g (c e ((a e).2 (.inr (.inl rfl)))),o.mod g (c d ((a d).2 (.inr (.inr rfl)))),j,n,a,m⟩,f⟩
def lA.lt(h:lA w l F S){b:Nat}(c:F b):b<w.heap.size:=by
 obtain⟨⟨n,i,A,B,d,a,e,j,m,g,k⟩,f⟩:=h;rcases(g b).1 c with rfl|rfl|rfl
 ·exact cB d
 ·exact a.lt
 ·exact e.lt
def uA{lo hi:Int}(a:K (.bool (amongB n lo hi)) w):Ca pQ 121 #[.int .i64 n,gI lo,gI hi] w K:=by
 apply ab8;simp[go_sem];unfold amongB at a;split
 ·grind
 ·grind
def pU(h:lA w l F S)(b:K (.bool true) w):Ca pQ 52 #[iG l] w K:=by
 obtain⟨⟨j,d,A,B,a,e,k,f,i,m,g⟩,c⟩:=h;apply ay6;simp[go_sem,iG,a];exact b
def QV(h:lA w l F S)(Q:∀d,M0 w d->K (gI S.funds) d):Ca pQ 122 #[iG l] w K:=by
 have v:=h;obtain⟨⟨C,m2,A,B,P,M,h3,I,h5,h6,h7⟩,e⟩:=h;apply af3;apply pU v;simp[go_sem,iG,P];refine sw vh M λw1 k n=>?_;generalize hg:w.heap.size=E at k
 refine Bt (λs W=>∃(x:Int) (rest:List (Int×Ac)),s=(gI x,())/\nD iI oz W E C rest/\M0 w W/\x+(rest.map (·.2.cash)).sum=S.funds/\0<=x/\∀p∈rest,0<=p.2.cash)
  (λs W=>rm E C W) ?_ ?_
 ·refine⟨0,A,rfl,k,n,?_,qZ,λp hp=>?_⟩
  ·rw[perm_sum (I.map (·.2.cash))];simp[Led.accs,fundAc,Led.funds,Function.comp_def]
  ·have:=I.mem_iff.1 hp;simp only[Led.accs,cH,cF]at this;rcases this with rfl|⟨a,ha,rfl⟩
   ·exact e.fund.1
   ·exact(e.acc a ha).2.2.1
 ·rintro⟨_,_⟩ W ⟨x,rest,⟨⟩,m,H,V,Z,L⟩ KN j;unfold PY;intro _;refine uv m ?_ ?_
  ·intro v d D _;subst v;have:x=S.funds:=by simpa using V
   simp[go_sem];rw[this];exact Q _ (H.trans D)
  ·intro i p u d r t D R;simp[go_sem];apply sg t;simp[go_sem,oz];have g:=oY u
   have Y:p.2.cash+((rest.eraseIdx i).map (·.2.cash)).sum=(rest.map (·.2.cash)).sum:=by
    rw[perm_sum (g.map (·.2.cash))];simp
   have U:=L p (dL u);have c:∀q∈rest.eraseIdx i,0<=q.2.cash:=λq O=>L q (List.mem_of_mem_eraseIdx O)
   have J:0<=((rest.eraseIdx i).map (·.2.cash)).sum:=by
    clear g Y u r j;generalize rest.eraseIdx i=l at c;induction l with
    |nil=>simp
    |cons q l ih=>
     have:=c q cw;have:=ih λy T=>c y (cu _ T);simp only[cM,di];omega
   have z:=e.funds.2
   have G:IntKind.i64.wrap (x+p.2.cash)=x+p.2.cash:=by
    rw[eF];simp only[MF]at z;omega
   rw[G];have X:∀o,M0 w (d.alloc o):=λo=>(H.on D λb N=>.inr (by subst N;omega)).alloc o;have f:∀o,nD iI oz (d.alloc o) E C (rest.eraseIdx i):=λo=>r.mod ((de.refl (λ_=>False) d).alloc o) id id;apply j _ _ ⟨_,_,rfl,f _,X _,qZ,qZ,c⟩;rw[(f _).left,m.left,kP];have:i<rest.length:=(cP.1 u).1;rw[bZ this];omega
def vX(o:Option Ac):o.elim (oz ⟨0,0,false,false⟩) oz=oz (o.getD ⟨0,0,false,false⟩):=by cases o<;>rfl
def Ow(o:Option Po):o.elim (tn ⟨0,0,0,0⟩) tn=tn (o.getD ⟨0,0,0,0⟩):=by cases o<;>rfl
def lA.lkA(a:fB iI oz w c A)(b:A.Perm S.accs)(n:Int):lk A n=S.getO n:=by
 rw[lk_perm a.1 b,S.lk_accs]
def lA.lkP{B:List ((Int×Int)×Po)}{a:Nat}(c:fB l9 tn w a B)(b:B.Perm S.poss)(k:Int×Int):lk B k=S.pos? k:=by
 rw[lk_perm c.1 b,S.lk_poss]
def lA.putA{d:Nat}{B:List ((Int×Int)×Po)}(m:hC w l #[.map (some c),.map (some d)] 133)
  (j:fB iI oz w c A)(p:fB l9 tn w d B)(k:A.Perm S.accs)(n:B.Perm S.poss)(q:∀b,F b↔b=l\/b=c\/b=d)(g:l≠c/\l≠d/\c≠d)(h:S.Ok)(a:Ac)
  (r:a.num=0->a=fundAc a.cash)(f:(S.putA a).Ok)(o:fB iI oz w' c (put A a.num a))(i:de (λb=>b=c) w w'):lA w' l F (S.putA a):=by
 refine⟨⟨c,d,_,B,i.keep m g.1,o,p.mod i (λe=>g.2.2 e.symm),h.put_accs j.1 k a r,?_,q,g⟩,f⟩;rw[show(S.putA a).poss=S.poss by unfold Led.putA;split<;>rfl];exact n
def Kl(h:lA w l F S)(X:0<=n/\n<4294967296)
  (f:∀U,lA U l F (S.deposit n m).2->de F w U->K (gI (S.deposit n m).1) U):Ca pQ 82 #[iG l,gU n,gI m] w K:=by
 have h0:=h;obtain⟨⟨m1,m2,A,B,L,C,h3,P,h5,h6,h7⟩,g⟩:=h;apply az9;apply pU h0;simp[go_sem,iG,L];apply zC (enc:=iI) (ev:=oz) (x:=n) (oz ⟨0,0,false,false⟩) vh rP Ze (.inr ⟨m1,rfl,C⟩);rw[vX,lA.lkA C P];generalize d:(S.getO n).getD ⟨0,0,false,false⟩=a;simp[go_sem,oz];apply uA;have hlt:=cB L;have hM:amongB m 1 1000000000000000=amongB m 1 MF:=rfl;rw[hM];have hMF:MF=1000000000000000:=rfl;generalize r:w.alloc (.cells #[.int .u32 a.num,gI a.cash,.bool a.kil,.bool a.dfl] 70)=R;have c:M0 w R:=by subst r;exact(de.refl _ w).alloc _
 have t:hC R w.heap.size #[.int .u32 a.num,gI a.cash,.bool a.kil,.bool a.dfl] 70:=by subst r;simp[go_sem]
 have z:=c.keep L id;have q:=C.mod c id;have J:=h0.mod c eQ;simp[go_sem,fy z,Kn vh q,(show Tryz.prog.underlying 3=some (.int .i64)from by kernel_rfl)];have Z:A.length=S.all.length+1:=by rw[P.length_eq];simp[Led.accs]
 unfold Led.deposit at f;by_cases u:amongB m 1 MF=true
 ·have hmr:1<=m/\m<=1000000000000000:=amongB_iff.1 u;rw[bZ u]at f|-;refine dK.at (λs W=>s=(.bool (decide (S.getO n=none/\64<=S.all.length)),())/\W=R) ?_ ?_
  ·split
   ·grind
   ·grind
  rintro _ W ⟨rfl,rfl⟩;unfold UP;intro _;by_cases H:S.getO n=none/\64<=S.all.length
  ·rw[bZ H]at f;simp only[db H,cy,fh];exact f _ J (c.to)
  ·rw[aZ H]at f;simp only[ej H,cy,dE,eW];refine QV J λY e=>?_;have T:=g.funds;have k:=e.keep t id;have D:=e.keep z id;have h2x:=q.mod e id;have h3x:=(h3.mod c id).mod e id;have p:=c.trans e;have N:IntKind.i64.wrap (S.funds+m)=S.funds+m:=by rw[eF];omega
   simp[go_sem,N,fy k,fy D];by_cases ho:S.funds+m>MF
   ·rw[bZ ho]at f;rw[bZ qZ];exact f _ (J.mod e eQ) (p.to)
   ·rw[aZ ho]at f;rw[aZ qZ];rw[d]at f
    have V:0<=a.cash/\a.cash<=MF/\(n=0->a.kil=false/\a.dfl=false):=by
     cases o:S.getO n with
     |none=>
      rw[o]at d;subst d;exact⟨by simp,by simp[MF],λ_=>⟨rfl,rfl⟩⟩
     |some x=>
      rw[o]at d;simp only[fT]at d;subst d;obtain⟨g1,g2,g3,g4,g5,g6⟩:=g.getO o;refine⟨g4,g5,λX=>?_⟩;have:=g6 (g1.trans X);rw[this];exact sI
    have E:IntKind.i64.wrap (a.cash+m)=a.cash+m:=by rw[eF];omega
    have M:l≠w.heap.size:=qZ;simp[go_sem,E,fy k,fy D,M];generalize O:(Y.setCell ⟨w.heap.size,0,none⟩ (gU n)).setCell ⟨w.heap.size,1,none⟩ (gI (a.cash+m))=G;have m3:de (λb=>b=w.heap.size) Y G:=by subst O;exact((de.refl _ Y).setCell (by simp) _ _).setCell (by simp) _ _
    have j:M0 w G:=p.on m3 λb d=>gz;let I:Ac:={a with num:=n,cash:=a.cash+m}
    refine kV (enc:=iI) (ev:=oz) (x:=n) (v:=I) vh rP ((C.mod j id).mod ((de.refl (λ_=>False) G).drew) id) λw4 hA m4 hs4=>?_;have y:de (λb=>b=m1) G w4:=mP.trans m4
    have Q:a.cash<=S.funds:=by
     cases o:S.getO n with
     |none=>rw[o]at d;subst d;exact T.1
     |some x=>
      rw[o]at d;simp only[fT]at d;subst d;exact g.cash_le o
    refine f w4 (lA.putA (a:=I) (j.keep L id) (C.mod j id) (h3.mod j id) P h5 h6 h7 g ?_ ?_ hA y) ?_
    ·intro i;have:=V.2.2 i;simp only[fundAc,I,this,Ac.mk.injEq,and_true,tJ];exact i
    ·apply g.putA X ⟨by grind,by grind⟩;simp only[I];by_cases i:n=0
     ·exact .inr (.inr i)
     ·by_cases o:S.getO n=none
      ·grind
      ·refine .inl ?_;unfold Led.getO at o
       rwa[aZ i]at o
    ·exact(j.to).on y λb d=>.inl ((h6 b).2 (.inr (.inl d)))
 ·simp only[Bool.not_eq_true]at u;rw[aZ (by simp[u])]at f;rw[aZ (by simp[u])];exact f _ J (c.to)
def vR(h:n≠0):S.getO n=S.find n:=by unfold Led.getO;rw[aZ h]
def GF(h:lA w l F S)(hn:0<=n/\n<4294967296)
  (i:∀J,lA J l F (S.withdraw n m).2->de F w J->K (gI (S.withdraw n m).1) J):Ca pQ 123 #[iG l,gU n,gI m] w K:=by
 have Q:=h;obtain⟨⟨H,m2,A,B,G,r,h3,R,h5,V,h7⟩,q⟩:=h;apply ap7;apply pU Q;simp[go_sem,iG,G];apply zC (enc:=iI) (ev:=oz) (x:=n) (oz ⟨0,0,false,false⟩) vh rP Ze (.inr ⟨H,rfl,r⟩);rw[vX,lA.lkA r R];generalize o:(S.getO n).getD ⟨0,0,false,false⟩=a;have X:=cB G;simp[go_sem,oz];generalize y:w.alloc (.cells #[.int .u32 a.num,gI a.cash,.bool a.kil,.bool a.dfl] 70)=C;have d:M0 w C:=by subst y;exact(de.refl _ w).alloc _
 have j:hC C w.heap.size #[.int .u32 a.num,gI a.cash,.bool a.kil,.bool a.dfl] 70:=by subst y;simp[go_sem]
 have O:=d.keep G id;have h2w:=r.mod d id;have T:=Q.mod d eQ;have U:de F w C:=d.to;have hMF:MF=1000000000000000:=rfl;unfold Led.withdraw at i;refine dK.at (λs W=>s=(.bool (decide (n=0\/amongB m 1 MF=false)),())/\W=C) ?_ ?_
 ·by_cases f:n=0
  ·simp[go_sem,f]
  ·simp[go_sem,f];apply uA;have Z:amongB m 1 1000000000000000=amongB m 1 MF:=rfl;simp[go_sem,Z]
 rintro _ W ⟨rfl,rfl⟩;unfold Pk;intro _;by_cases z:n=0\/amongB m 1 MF=false
 ·rw[bZ z]at i;simp only[db z,cy,fh];exact i _ T U
 ·rw[aZ z]at i;simp only[ej z,cy,dE,eW];obtain⟨f,M⟩:n≠0/\amongB m 1 MF=true:=⟨λe=>z (.inl e),by grind⟩
  have hmr:=amongB_iff.1 M;rw[vR f]at o;rw[vR f];cases E:S.find n with
  |none=>
   rw[E]at i;simp[go_sem];exact i _ T U
  |some x=>
   rw[E]at i o;simp only[fT]at o;subst o;obtain⟨hx,N⟩:=Led.find_mem E;obtain⟨g1,g2,g3,g4⟩:=q.acc x hx;simp only at i;simp[go_sem,fy j];by_cases k:x.cash<m
   ·grind
   ·rw[aZ k]at i|-;have v:IntKind.i64.wrap (x.cash - m)=x.cash - m:=by rw[eF];omega
    have I:l≠w.heap.size:=qZ;simp[go_sem,v,fy j,fy O,I];generalize L:(W.setCell ⟨w.heap.size,1,none⟩ (gI (x.cash - m)))=D;have Y:de (λb=>b=w.heap.size) W D:=by subst L;exact((de.refl _ W).setCell (by simp) _ _)
    have g:M0 w D:=d.on Y λb o=>gz;let u:Ac:={x with cash:=x.cash - m}
    have c:u.num=n:=N
    have p:∀W:World,∀K:World->Prop,nj pQ (nm 130 (.map (some H)) (iI u.num) (oz u)) W K->nj pQ (nm 130 (.map (some H)) (gU n) (.agg #[.int .u32 x.num,gI (x.cash - m),.bool x.kil,.bool x.dfl])) W K:=by
     intro W K h;have:iI u.num=gU n:=by rw[c];rfl
     rw[this]at h;exact h
    apply p _ _;refine kV (enc:=iI) (ev:=oz) vh rP ((r.mod g id).mod ((de.refl (λ_=>False) D).drew) id) λP hA m4 hs4=>?_;have t:de (λb=>b=H) D P:=mP.trans m4;refine i P (lA.putA (a:=u) (g.keep G id) (r.mod g id) (h3.mod g id) R h5 V h7 q ?_ ?_ hA t) ?_
    ·grind
    ·refine q.putA ⟨by rw[c];omega,by rw[c];omega⟩ ⟨by grind,by grind⟩ (.inl ?_);rw[c,E];simp
    ·exact(g.to).on t λb o=>.inl ((V b).2 (.inr (.inl o)))
def Led.getV(S:Led)(n:Int):Ac×Int:=((S.getO n).getD ⟨0,0,false,false⟩,if S.getO n=none then 7 else 0)
def ug(h:lA w l F S)
  (d:∀k,M0 w k->K (.tuple #[oz (S.getV n).1,gI (S.getV n).2]) k):Ca pQ 28 #[iG l,gU n] w K:=by
 have p:=h;obtain⟨⟨t,v,A,B,s,j,C,q,z,D,y⟩,u⟩:=h;apply aB1;simp[go_sem];generalize e:w.alloc _=f;have a:M0 w f:=by subst e;exact(de.refl _ w).alloc _
 have b:hC f w.heap.size #[.int .u32 0,gI 0,.bool false,.bool false] 70:=by subst e;simp[go_sem]
 have r:=p.mod a eQ;apply pU r;have i:=a.keep s id;have g:=j.mod a id;simp[go_sem,iG,fy i];apply zC (enc:=iI) (ev:=oz) (x:=n) (oz ⟨0,0,false,false⟩) vh rP Ze (.inr ⟨t,rfl,g⟩);rw[vX,lA.lkA j q];have o:=cB b;have c:w.heap.size≠f.heap.size:=qZ;unfold Led.getV at d;cases m:S.getO n with
 |none=>
  rw[m]at d;simp[go_sem,oz,fy b,c];apply d _;exact((((a.alloc _).setCell (.inr (cJ _)) _ _).setCell (.inr (cJ _)) _ _).setCell (.inr (cJ _)) _ _).setCell (.inr (cJ _)) _ _
 |some x=>
  rw[m]at d;simp[go_sem,oz,fy b,c];apply d _;exact((((a.alloc _).setCell (.inr (cJ _)) _ _).setCell (.inr (cJ _)) _ _).setCell (.inr (cJ _)) _ _).setCell (.inr (cJ _)) _ _
def Tw(e: -9223372036854775808<=a/\a<9223372036854775808)(b:K (.tuple #[.int .u64 (if a<0 then -a else a),.bool (decide (a<0))]) w):Ca pQ 156 #[.int .i64 a] w K:=by
 apply ar6;simp[go_sem];by_cases h:a<0
 ·rw[bZ h]at b|-
  have c:IntKind.u64.wrap a=a+18446744073709551616:=by
   simp[IntKind.wrap,IntKind.bits,IntKind.signed];omega
  have d:IntKind.u64.wrap (-(a+18446744073709551616))= -a:=by
   simp[IntKind.wrap,IntKind.bits,IntKind.signed];omega
  simp[c,d,h]at b|-;exact b
 ·rw[aZ h]at b|-
  have c:IntKind.u64.wrap a=a:=by
   simp[IntKind.wrap,IntKind.bits,IntKind.signed];omega
  simp[c,h]at b|-;exact b
def lH(f: -9223372036854775808<=a/\a<9223372036854775808)(c:0<=m/\m<9223372036854775808)(b:K (.bool (amongB a (-m) m)) w):Ca pQ 108 #[.int .i64 a,gI m] w K:=by
 apply af7;apply Tw f
 have d:IntKind.u64.wrap m=m:=by
  simp[IntKind.wrap,IntKind.bits,IntKind.signed];omega
 simp[go_sem,d,c.1]
 have e:amongB a (-m) m=decide ((if a<0 then -a else a)<=m):=by
  unfold amongB;rw[qP];split<;>omega
 rw[e]at b;exact b
def rK{c:Int}(h:lA w l F S)
  (k:∀o,M0 w o->K (tn (S.position c a)) o):Ca pQ 30 #[iG l,gU c,gU a] w K:=by
 have t:=h;obtain⟨⟨G,s,A,B,v,C,q,D,y,H,E⟩,z⟩:=h;apply ay2;simp[go_sem];generalize g:World.alloc _ _=i;have d:M0 w i:=by subst g;exact lm.alloc _
 have e:hC i w.heap.size #[.int .u32 0,gU 0,gI 0,gI 0] 79:=by subst g;simp[go_sem]
 have b:hC i (w.heap.size+1) #[.int .u32 c,gU a,gI 0,gI 0] 79:=by subst g;simp[go_sem]
 have u:=t.mod d eQ;apply pU u;have n:=d.keep v id;have m:=q.mod d id;simp[go_sem,iG,fy n];apply zC (enc:=l9) (ev:=tn) (x:=(c,a)) (tn ⟨0,0,0,0⟩) DZ SM zPo (.inr ⟨s,rfl,m⟩);rw[Ow,lA.lkP q y];have r:=cB b;have j:w.heap.size≠i.heap.size:=qZ;have f:w.heap.size+1≠i.heap.size:=qZ;unfold Led.position at k;cases p:S.pos? (c,a)with
 |none=>
  rw[p]at k;simp[go_sem,tn,fy e,fy b,j,f];apply k _;exact((((d.alloc _).setCell (.inr (cJ _)) _ _).setCell (.inr (cJ _)) _ _).setCell (.inr (cJ _)) _ _).setCell (.inr (cJ _)) _ _
 |some x=>
  rw[p]at k;simp[go_sem,tn,fy e,fy b,j,f];apply k _;exact((((d.alloc _).setCell (.inr (cJ _)) _ _).setCell (.inr (cJ _)) _ _).setCell (.inr (cJ _)) _ _).setCell (.inr (cJ _)) _ _
def lA.putP{a:Nat}{e:List ((Int×Int)×Po)}(j:hC w l #[.map (some c),.map (some a)] 133)
  (h:fB iI oz w c A)(i:A.Perm S.accs)(m:∀b,F b↔b=l\/b=c\/b=a)(f:l≠c/\l≠a/\c≠a)(p:Po)
  (n:e.Perm (S.putP p).poss)(d:(S.putP p).Ok)(k:fB l9 tn w' a e)(g:de (λb=>b=a) w w'):lA w' l F (S.putP p):=
 ⟨⟨c,a,A,e,g.keep j f.2.1,h.mod g f.2.2,k,i,n,m,f⟩,d⟩
def Kh{p:Po}(h:lA w l F S)(g:(S.putP p).Ok)
  (I:∀u,lA u l F (S.putP p)->de F w u->K (.tuple #[]) u):Ca pQ 198 #[iG l,tn p] w K:=by
 obtain⟨⟨O,r,A,B,M,D,z,E,H,t,G⟩,N⟩:=h;apply as3;simp[go_sem,tn];generalize k:World.alloc _ _=q;have a:M0 w q:=by subst k;exact lm.alloc _
 have i:hC q w.heap.size #[.int .u32 p.c,gU p.a,gI p.q,gI p.b] 79:=by subst k;simp[go_sem]
 have c:hC q (w.heap.size+1) #[.int .u32 p.c,gU p.a] 140:=by subst k;simp[go_sem]
 have f:=a.keep M id;refine dK.at (λs W=>s=(.bool p.isZ,())/\W=q) ?_ ?_
 ·simp[go_sem,fy i];unfold Po.isZ;by_cases L:p.q=0<;>by_cases j:p.b=0<;>simp[L,j]
 rintro _ W ⟨rfl,rfl⟩;unfold RU;intro _;have o:fB l9 tn W.drew r B:=(z.mod a id).mod ((de.refl (λ_=>False) W).drew) id;cases J:p.isZ with
 |true=>
  simp[go_sem,iG,fy f,fy c];refine Em (enc:=l9) (ev:=tn) (x:=p.key) DZ SM (.inr ⟨r,rfl,o⟩) λn m C y=>?_;rcases m with⟨m,_⟩|⟨b,j,m⟩
  ·cases m
  cases j;have d:de (λb=>b=r) W n:=(mP.trans (C.mono λb _ e=>by cases e;rfl))
  apply I n (lA.putP f (D.mod a id) E t G p (Led.del_poss z.1 H p J) g m d);exact(a.to).on d λb j=>.inl ((t b).2 (.inr (.inr j)))
 |false=>
  simp[go_sem,iG,fy f,fy i,fy c];refine kV (enc:=l9) (ev:=tn) (x:=p.key) (v:=p) DZ SM o λn m C y=>?_;have d:de (λb=>b=r) W n:=mP.trans C;apply I n (lA.putP f (D.mod a id) E t G p (Led.put_poss z.1 H p J) g m d);exact(a.to).on d λb j=>.inl ((t b).2 (.inr (.inr j)))
end Go.Proofs
