/- Part of a proof. -/
import Derived.ChangeKeysEq
import Derived.Test.YtgebhcgmckjbbaaGreatProg
import Derived.Test.YtgebhcgmckjbbaaGreatB3
set_option linter.all false
namespace Go.Vc
open Go Go.Vc
section
variable{P:Program}{k:TypeId}{κ ν:Type}{enc:κ->Value}{ev:ν->Value}
def fN(enc:κ->Value)(ev:ν->Value)(w:World)(it m:Nat)(rest:List (κ×ν)):Prop:=
 ∃es clock seen,w.heap[m]? =some (.map es clock)/\w.heap[it]? =some (.mapIter (some m) clock seen clock)/\(∀x∈es.toList,x.born<clock)/\(es.toList.map (·.born)).Nodup/\
  (es.toList.filter λe=> !seen.contains e.born).map (λe=>(e.key,e.val))=rest.map (λp=>(enc p.1,ev p.2))
def fN.keep{w w' :World}{b m:Nat}{rest:List (κ×ν)}(h:fN enc ev w b m rest)(h1:w'.heap[m]? =w.heap[m]?)(d:w'.heap[b]? =w.heap[b]?):fN enc ev w' b m rest:=by
 obtain⟨f,a,seen,c,g,e⟩:=h;exact⟨f,a,seen,by rw[h1];exact c,by rw[d];exact g,e⟩
def fN.lt{w:World}{b m:Nat}{rest:List (κ×ν)}(h:fN enc ev w b m rest):m<w.heap.size/\b<w.heap.size:=by
 obtain⟨f,a,seen,c,d,e⟩:=h;exact⟨cn c,cn d⟩
def fN.mod{F:Nat->Prop}{w w' :World}{a m:Nat}{rest:List (κ×ν)}(h:fN enc ev w a m rest)(b:cl F w w')(h1:¬F m)(c:¬F a):fN enc ev w' a m rest:=
 h.keep (b.blk m h.lt.1 h1) (b.blk a h.lt.2 c)
def jx(it m:Nat)(w:World):Nat:=
 match w.heap[it]?,w.heap[m]? with
 |some (.mapIter _ _ seen _),some (.map es _)=>(es.toList.filter λe=> !seen.contains e.born).length
 |_,_=>0
def fN.left{w:World}{b m:Nat}{rest:List (κ×ν)}(h:fN enc ev w b m rest):jx b m w=rest.length:=by
 obtain⟨f,a,seen,c,e,_,_,d⟩:=h;unfold jx;rw[c,e];simpa using congrArg List.length d
def kL [DecidableEq κ]{t e:TypeId}{w:World}{K:cm}{b:Nat}{L:List (κ×ν)}(m:P.underlying t=some (.map k e))(h:cU enc ev w b L)
  (j:∀c,fN enc ev c w.heap.size b L->cl (λ_=>False) w c->K (.pointer (some ⟨w.heap.size,0,none⟩)) c):rx P (ly t (.map (some b))) w K:=by
 obtain⟨n,l,a,g,i,d,f⟩:=h;refine fM (v:=.pointer (some ⟨w.heap.size,0,none⟩)) (w' :=w.alloc (.mapIter (some b) a #[] a)) ?_ (j _ ⟨l,a,#[],?_,?_,d,f,?_⟩ ((cl.refl _ w).alloc _))
 ·simp[ly,Instr.range,run_underlying m,MapKept.run_getObj_map g,Result.andThen]
 ·rw[cY,if_neg (by have:=cn g;omega)];exact g
 ·rw[cY,if_pos rfl]
 ·rw[<-i];congr 1;exact List.filter_eq_self.2 λ_ _=>by simp
def j9{w:World}{r:Nat}{m:Option Nat}{a:Nat}{s:Array Nat}{c:Nat}(b:w.heap[r]? =some (.mapIter m a s c)):(getObj r).run P w=.ok (.mapIter m a s c) w:=by
 simp[getObj,Sem.run,b]
def sC{w:World}{r:Nat}{m:Option Nat}{a:Nat}{s:Array Nat}{c:Nat}(o:Obj)(b:w.heap[r]? =some (.mapIter m a s c)):(setObj r o).run P w=.ok () (w.putObj r o):=by
 simp[setObj,Sem.run,b,World.putObj]
def Ev(enc:κ->Value)(ev:ν->Value)(w:World)(it m:Nat)(p:κ×ν):Prop:=
 ∃es clock since seen stamp e,w.heap[m]? =some (.map es clock)/\w.heap[it]? =some (.mapIter (some m) since seen clock)/\seen.back? =some stamp/\es.find? (λx=>x.born==stamp)=some e/\e.key=enc p.1/\e.val=ev p.2
def kE{w:World}{K:cm}{d m:Nat}{p:κ×ν}(h:Ev enc ev w d m p)(i:K (.tuple #[enc p.1,ev p.2]) w):rx P (lz (.pointer (some ⟨d,0,none⟩))) w K:=by
 obtain⟨q,b,a,seen,c,e,n,l,f,j,g,o⟩:=h;refine fM ?_ i;simp[lz,Instr.entry,j9 l,MapKept.run_getObj_map n,Result.andThen,f,j,g,o]
def Cq{l:List MapEntry}{x:MapEntry}(b:(l.map (·.born)).Nodup)(a:x∈l):l.find? (λe=>e.born==x.born)=some x:=by
 induction l with
 |nil=>cases a
 |cons y l c=>
  simp only[List.map_cons,List.nodup_cons]at b;rcases List.mem_cons.1 a with rfl|a
  ·simp
  ·have:y.born≠x.born:=λh=>b.1 (h▸List.mem_map_of_mem a);rw[List.find?_cons_of_neg (by simpa using this)];exact c b.2 a
def y9(b:List MapEntry)(seen:Array Nat)(x:MapEntry)(d:(b.map (·.born)).Nodup)(m:x∈b)(j: !seen.contains x.born)(i:Nat)
  (hi:(b.filter λe=> !seen.contains e.born)[i]? =some x):
  b.filter (λe=> !(seen.push x.born).contains e.born)=(b.filter λe=> !seen.contains e.born).eraseIdx i:=by
 have f:b.filter (λe=> !(seen.push x.born).contains e.born)=(b.filter λe=> !seen.contains e.born).filter (λe=> !(e.born==x.born)):=by
  rw[List.filter_filter];apply List.filter_congr;intro e _;simp only[Array.contains_push,Bool.not_or];rw[Bool.and_comm]
 rw[f];have a:((b.filter λe=> !seen.contains e.born).map (·.born)).Nodup:=d.sublist (List.filter_sublist.map _);generalize(b.filter λe=> !seen.contains e.born)=l at hi a;clear f j m d;induction l generalizing i with
 |nil=>simp at hi
 |cons y l n=>
  simp only[List.map_cons,List.nodup_cons]at a;cases i with
  |zero=>
   have:y=x:=by simpa using hi
   subst this;rw[List.filter_cons_of_neg (by simp)];simp only[List.eraseIdx_cons_zero];refine List.filter_eq_self.2 λz g=>?_;have:z.born≠y.born:=λh=>a.1 (h▸List.mem_map_of_mem g);simpa using this
  |succ i=>
   have c:x∈l:=List.mem_of_getElem? (by simpa using hi);have:y.born≠x.born:=λh=>a.1 (h▸List.mem_map_of_mem c);rw[List.filter_cons_of_pos (by simpa using this)];simp only[List.eraseIdx_cons_succ];rw[n i (by simpa using hi) a.2]
def mL{t:TypeId}{w:World}{K:cm}{q m:Nat}{rest:List (κ×ν)}(h:fN enc ev w q m rest)
  (h0:rest=[]->∀v,cl (λ_=>False) w v->v.heap=w.heap->K (.tuple #[.bool false]) v)
  (h1:∀i p,rest[i]? =some p->∀v,fN enc ev v q m (rest.eraseIdx i)->Ev enc ev v q m p->cl (λb=>b=q) w v->v.heap.size=w.heap.size->K (.tuple #[.bool true,enc p.1,ev p.2]) v):
  rx P (ol (.pointer (some ⟨q,0,none⟩)) false t) w K:=by
 obtain⟨c,a,seen,M,N,y,F,T⟩:=h
 have g:(!seen.isEmpty&& !c.isEmpty&& c.all (λx=>decide (x.born≥a)))=false:=by
  cases u:c.isEmpty with
  |true=>simp
  |false=>
   have R:0<c.size:=by
    rcases Nat.eq_zero_or_pos c.size with h|h
    ·rw[Array.isEmpty_iff.2 (Array.eq_empty_of_size_eq_zero h)]at u;cases u
    ·exact h
   have:(c.all λx=>decide (x.born≥a))=false:=by
    rw[Bool.eq_false_iff];intro Z;have h2:=y c[0] (by simp);have h3:=Array.all_eq_true.1 Z 0 R;simp at h3;omega
   rw[this];simp
 have j:(c.filter λe=> !seen.contains e.born).filter (λe=>decide (e.born<a))=c.filter λe=> !seen.contains e.born:=by
  refine Array.filter_eq_self.2 λx H=>?_;exact decide_eq_true (y x (by simpa using(Array.mem_filter.1 H).1))
 have n:(c.filter λe=> !seen.contains e.born).filter (λe=>decide (e.born≥a))= #[]:=by
  refine Array.filter_eq_empty_iff.2 λx H=>?_;have:=y x (by simpa using(Array.mem_filter.1 H).1);simp;omega
 have d:(c.filter λe=> !seen.contains e.born).toList=c.toList.filter λe=> !seen.contains e.born:=by simp
 generalize V:(c.filter λe=> !seen.contains e.born)=left at j n d
 have z:left.size=rest.length:=by
  rw[<-Array.length_toList,d];simpa using congrArg List.length T
 by_cases W:rest=[]
 ·subst W;have Q:left= #[]:=Array.eq_empty_of_size_eq_zero (by simpa using z);subst Q
  have o:(Instr.next (.pointer (some ⟨q,0,none⟩)) false t).run P w=.ok (.tuple #[.bool false]) w:=by
   unfold Instr.next;simp only[Sem.run_bind,j9 N,MapKept.run_getObj_map M,Result.andThen];rw[g];simp only[Bool.false_eq_true,if_false];rw[V,j,n];have S:((if(#[]:Array MapEntry).isEmpty=true then #[none]else #[])++((#[]:Array MapEntry)++ #[]).map some)= #[none]:=by simp
   rw[S];simp[run_choose,Question.forced,Result.andThen]
  exact fM (by unfold ol;exact o) (h0 rfl w (cl.refl _ w) rfl)
 ·have f:0<left.size:=by
   rw[z];exact List.length_pos_iff.2 W
  have u:left.isEmpty=false:=by
   cases h:left.isEmpty with
   |false=>rfl
   |true=>rw[Array.isEmpty_iff.1 h]at f;simp at f
  obtain⟨i,s,O,L,D⟩:∃(i:Nat) (s:World),i<left.size/\(s=w\/s=w.drew)/\(choose (Question.mapNext left.size)).run P w=.ok i s:=by
   by_cases X:(Question.mapNext left.size).forced=true
   ·exact⟨0,w,f,.inl rfl,by rw[run_choose,if_pos X]⟩
   ·refine⟨_,w.drew,?_,.inr rfl,by rw[run_choose,if_neg X];rfl⟩;exact Nat.mod_lt _ f
  have H:left[i]? =some left[i]:=Array.getElem?_eq_getElem O
  have B:(c.toList.filter λe=> !seen.contains e.born)[i]? =some left[i]:=by
   rw[<-d,Array.getElem?_toList];exact H
  have G:=List.mem_of_getElem? B;have J:i<rest.length:=by omega
  have hp:(left[i].key,left[i].val)=(enc rest[i].1,ev rest[i].2):=by
   have:=congrArg (λl=>l[i]?) T;simp only[List.getElem?_map,B,List.getElem?_eq_getElem J,Option.map_some,Option.some.injEq]at this;exact this
  have r:s.heap=w.heap:=by rcases L with rfl|rfl<;>rfl
  have C:s.heap[q]? =some (.mapIter (some m) a seen a):=by rw[r];exact N
  have I:s.heap[m]? =some (.map c a):=by rw[r];exact M
  have E:cl (λb=>b=q) w s:=by
   rcases L with rfl|rfl
   ·exact cl.refl _ _
   ·exact(cl.refl _ _).drew
  have A:q≠m:=by
   intro h;subst h;rw[N]at M;cases M
  have o:(Instr.next (.pointer (some ⟨q,0,none⟩)) false t).run P w=.ok (.tuple #[.bool true,left[i].key,left[i].val]) (s.putObj q (.mapIter (some m) a (seen.push left[i].born) a)):=by
   unfold Instr.next;simp only[Sem.run_bind,j9 N,MapKept.run_getObj_map M,Result.andThen];rw[g];simp only[Bool.false_eq_true,if_false];rw[V,j,n,u];have S:((if false=true then #[none]else #[])++(left++ #[]).map some)=left.map some:=by simp
   rw[S];simp only[Sem.run_bind,Sem.run_pure,Array.size_map,D,Result.andThen,Array.getElem?_map,H,Option.map_some,sC _ C]
  refine fM (by unfold ol;exact o) ?_;have U:left[i].key=enc rest[i].1:=(Prod.mk.inj hp).1;have Y:left[i].val=ev rest[i].2:=(Prod.mk.inj hp).2;rw[U,Y];refine h1 i rest[i] (List.getElem?_eq_getElem J) _ ⟨c,a,seen.push left[i].born,?_,?_,y,F,?_⟩ ?_ (E.putObj (.inl rfl) _) ?_
  ·rw[dc,if_neg (λe=>A e.symm)];exact I
  ·rw[dc,if_pos rfl,C];rfl
  ·rw[y9 c.toList seen left[i] F (List.mem_filter.1 G).1 (List.mem_filter.1 G).2 i B,lE,T,<-lE]
  ·refine⟨c,a,a,seen.push left[i].born,left[i].born,left[i],?_,?_,by simp,?_,U,Y⟩
   ·rw[dc,if_neg (λe=>A e.symm)];exact I
   ·rw[dc,if_pos rfl,C];rfl
   ·rw[<-Array.find?_toList];exact Cq F (List.mem_filter.1 G).1
  ·rw[World.putObj_size,r]
end
def oY{P:Program}{w:World}{h e:TypeId}{len:Nat}{cs:Array Value}{k:IntKind}{i:Nat}{v:Value}(j:P.underlying h=some (.array len e))(f:iA P e=false)(g:(P.underlying e).isSome=true)(l:P.cellsOf e=0+1)(hi:i<len)(m:cs[i]? =some v):
  (Instr.index h (.agg cs) (.int k i)).run P w=.ok v w:=by
 have c:(i:Int)<len:=by omega
 have b:(isAgg e).run P w=.ok false w:=by
  unfold isAgg;unfold iA at f;cases a:P.underlying e with
  |none=>rw[a]at g;cases g
  |some d=>
   rw[a]at f;simp only[Sem.run_bind,run_underlying a,Result.andThen];cases d<;>first|rfl|(simp at f)
 simp[Instr.index,run_underlying j,Result.andThen,c,hi,fX l,part,b,asIntOf,m]
def CC{P:Program}{κ ν:Type} [DecidableEq κ]{enc:κ->Value}{ev:ν->Value}{t k e:TypeId}{w:World}{m:Value}{L:List (κ×ν)}{x:κ}{z:Value}(d:P.underlying t=some (.map k e))(b:ml P k enc)
  (c:jL P e=some z)(a:Aq enc ev w m L):(fA t m (enc x) true).run P w=.ok (.tuple #[(lk L x).elim z ev,.bool (lk L x).isSome]) w:=by
 unfold fA;rw[jD d b c a];cases lk L x<;>rfl
def Bh{P:Program}{κ ν:Type} [DecidableEq κ]{enc:κ->Value}{ev:ν->Value}{t k e ty:TypeId}{w:World}{b:Nat}{L:List (κ×ν)}(c:P.underlying t=some (.map k e))(h:cU enc ev w b L):
  (Builtin.len_ #[t] ty #[.map (some b)]).run P w=.ok (.int .i64 L.length) w:=by
 obtain⟨j,g,a,d,i,_⟩:=h;have f:g.size=L.length:=by simpa using congrArg List.length i
 simp[Builtin.len_,run_underlying c,MapKept.run_getObj_map d,Result.andThen,goInt,f]
def iu{α:Type}{l:List α}{i:Nat}{p:α}(h:l[i]? =some p):l.Perm (p::l.eraseIdx i):=by
 induction l generalizing i with
 |nil=>simp at h
 |cons x l a=>
  cases i with
  |zero=>
   have:x=p:=by simpa using h
   subst this;exact List.Perm.refl _
  |succ i=>
   simp only[List.eraseIdx_cons_succ];exact((a (by simpa using h)).cons x).trans (List.Perm.swap ..)
end Go.Vc
namespace Go.Proofs
open Go Go.Vc
section
variable{κ ν:Type} [DecidableEq κ]
def qS{L:List (κ×ν)}(c:(L.map (·.1)).Nodup){k:κ}{v:ν}(h:(k,v)∈L):lk L k=some v:=by
 induction L with
 |nil=>cases h
 |cons p L d=>
  obtain⟨a,b⟩:=p;simp only[List.map_cons,List.nodup_cons]at c;rcases List.mem_cons.1 h with h|h
  ·cases h;simp[lk]
  ·have:a≠k:=λe=>c.1 (e▸List.mem_map_of_mem (f:=(·.1)) h);simp only[lk,if_neg this];exact d c.2 h
def GO{L:List (κ×ν)}(a:(L.map (·.1)).Nodup){k:κ}{v:ν}:lk L k=some v↔(k,v)∈L:=⟨wv,qS a⟩
def tg{A L:List (κ×ν)}(c:(A.map (·.1)).Nodup)(h:A.Perm L)(k:κ):lk A k=lk L k:=by
 have a:(L.map (·.1)).Nodup:=(h.map _).nodup_iff.1 c;cases b:lk A k with
 |some v=>exact(qS a (h.mem_iff.1 (wv b))).symm
 |none=>
  cases d:lk L k with
  |none=>rfl
  |some v=>rw[qS c (h.mem_iff.2 (wv d))]at b;cases b
def Dj{L:List (κ×ν)}(c:(L.map (·.1)).Nodup)(k:κ)(v:ν):(put L k v).Perm ((k,v)::L.filter (λp=>p.1≠k)):=by
 induction L with
 |nil=>exact List.Perm.refl _
 |cons p L d=>
  obtain⟨a,b⟩:=p;simp only[List.map_cons,List.nodup_cons]at c;simp only[put];by_cases h:a=k
  ·subst h;rw[if_pos rfl,List.filter_cons_of_neg (by simp)];refine List.Perm.cons _ ?_;rw[List.filter_eq_self.2 λx f=>?_];have:x.1≠a:=λe=>c.1 (e▸List.mem_map_of_mem f);simpa using this
  ·rw[if_neg h,List.filter_cons_of_pos (by simpa using h)];exact((d c.2).cons _).trans (List.Perm.swap ..)
def FY{A L:List (κ×ν)}(a:(A.map (·.1)).Nodup)(h:A.Perm L)(k:κ)(v:ν):(put A k v).Perm ((k,v)::L.filter (λp=>p.1≠k)):=
 (Dj a k v).trans ((h.filter _).cons _)
end
def xV{l l' :List Int}(h:l.Perm l'):l.sum=l'.sum:=by
 induction h with
 |nil=>rfl
 |cons x _ a=>simp[a]
 |swap x y l=>simp;omega
 |trans _ _ h1 b=>exact h1.trans b
structure Ac where
 num:Int
 cash:Int
 kil:Bool
 dfl:Bool
 deriving DecidableEq
structure Po where
 c:Int
 a:Int
 q:Int
 b:Int
 deriving DecidableEq
structure dM where
 fund:Int
 all:List Ac
 held:List Po
instance:Inhabited Ac:=⟨⟨0,0,false,false⟩⟩
instance:Inhabited Po:=⟨⟨0,0,0,0⟩⟩
def Po.key(p:Po):Int×Int:=(p.c,p.a)
def Po.isZ(p:Po):Bool:=decide (p.q=0/\p.b=0)
def ni(x y:Int×Int):Bool:=decide (x.1<y.1\/(x.1=y.1/\x.2<y.2))
def jh{x y:Int×Int}:ni x y=true↔(x.1<y.1\/(x.1=y.1/\x.2<y.2)):=by simp[ni]
def Bv(x y:Int×Int):ni x y=true\/x=y\/ni y x=true:=by
 rw[jh,jh,Prod.ext_iff];omega
def qZ{x y z:Int×Int}(h:ni x y=true)(a:ni y z=true):ni x z=true:=by
 rw[jh]at*;omega
def wy{x:Int×Int}:ni x x=false:=by
 rw[Bool.eq_false_iff,Ne,jh];omega
def Fa{x y:Int×Int}(h:ni x y=true):x≠y:=by
 intro e;subst e;rw[wy]at h;cases h
def vd{x y:Int×Int}(h:ni x y=true):ni y x=false:=by
 rw[jh]at h;rw[Bool.eq_false_iff,Ne,jh];omega
def xY(l:List Ac)(a:Ac):List Ac:=l.filter (λx=>decide (x.num<a.num))++a::l.filter (λx=>decide (a.num<x.num))
def pS(l:List Ac):Prop:=l.Pairwise λx y=>x.num<y.num
def mM(l:List Po):Prop:=l.Pairwise λx y=>ni x.key y.key=true
def uz{l:List Ac}{a x:Ac}:x∈xY l a↔(x∈l/\x.num≠a.num)\/x=a:=by
 simp only[xY,List.mem_append,List.mem_cons,List.mem_filter,decide_eq_true_eq];constructor
 ·rintro(⟨h,b⟩|h|⟨h,b⟩)
  ·exact .inl ⟨h,by omega⟩
  ·exact .inr h
  ·exact .inl ⟨h,by omega⟩
 ·rintro(⟨h,b⟩|h)
  ·rcases Int.lt_or_gt_of_ne b with c|c
   ·exact .inl ⟨h,c⟩
   ·exact .inr (.inr ⟨h,c⟩)
  ·exact .inr (.inl h)
def Ci{l:List Ac}(h:pS l)(a:Ac):pS (xY l a):=by
 unfold pS xY;rw[List.pairwise_append,List.pairwise_cons];refine⟨h.filter _,⟨λx c=>by simpa using(List.mem_filter.1 c).2,h.filter _⟩,λx c y b=>?_⟩;have h1:x.num<a.num:=by simpa using(List.mem_filter.1 c).2
 rcases List.mem_cons.1 b with rfl|b
 ·exact h1
 ·have d:a.num<y.num:=by simpa using(List.mem_filter.1 b).2
  omega
def pS.nodup{l:List Ac}(h:pS l):(l.map (·.num)).Nodup:=by
 rw[List.Nodup,List.pairwise_map];exact h.imp λh=>by omega
def mM.nodup{l:List Po}(h:mM l):(l.map Po.key).Nodup:=by
 rw[List.Nodup,List.pairwise_map];exact h.imp λh=>Fa h
def xi{α:Type}(l:List α)(p q:α->Bool)(h:∀x∈l,p x=true->q x=false):(l.filter p++l.filter q).Perm (l.filter λx=>p x||q x):=by
 induction l with
 |nil=>exact List.Perm.refl _
 |cons x l b=>
  have b:=b λy c=>h y (List.mem_cons_of_mem _ c);cases hp:p x with
  |true=>
   have a:=h x List.mem_cons_self hp;rw[List.filter_cons_of_pos hp,List.filter_cons_of_neg (by simp[a]),List.filter_cons_of_pos (by simp[hp])];exact b.cons x
  |false=>
   cases a:q x with
   |true=>
    rw[List.filter_cons_of_neg (by simp[hp]),List.filter_cons_of_pos a,List.filter_cons_of_pos (by simp[a])];exact List.perm_middle.trans (b.cons x)
   |false=>
    rw[List.filter_cons_of_neg (by simp[hp]),List.filter_cons_of_neg (by simp[a]),List.filter_cons_of_neg (by simp[hp,a])];exact b
theorem rh(l:List Ac)(a:Ac):(xY l a).Perm (a::l.filter λx=>decide (x.num≠a.num)):=by
 refine List.perm_middle.trans (List.Perm.cons _ ((xi l _ _ λx _ h=>?_).trans (List.Perm.of_eq (List.filter_congr λx _=>?_))))
 ·have:x.num<a.num:=by simpa using h
  simp;omega
 ·rw[Bool.eq_iff_iff];simp;omega
def dM.find(S:dM)(n:Int):Option Ac:=S.all.find? λx=>decide (x.num=n)
def dM.pos? (S:dM)(k:Int×Int):Option Po:=S.held.find? λx=>decide (x.key=k)
def ji(f:Int):Ac:=⟨0,f,false,false⟩
def dM.getO(S:dM)(n:Int):Option Ac:=if n=0 then some (ji S.fund)else S.find n
def dM.funds(S:dM):Int:=S.fund+(S.all.map (·.cash)).sum
def dM.putA(S:dM)(a:Ac):dM:=if a.num=0 then{S with fund:=a.cash}else{S with all:=xY S.all a}
def cy(n lo hi:Int):Bool:=decide (lo<=n/\n<=hi)
def MF:Int:=1000000000000000
def MP:Int:=10000000
def dM.deposit(S:dM)(n m:Int):Int×dM:=
 if cy m 1 MF then
  if S.getO n=none/\64<=S.all.length then(9,S)
  else if S.funds+m>MF then(6,S)
  else(0,S.putA {(S.getO n).getD ⟨0,0,false,false⟩with num:=n,cash:=((S.getO n).getD ⟨0,0,false,false⟩).cash+m})
 else(2,S)
def dM.holders(S:dM)(c:Int):List Po:=S.held.filter λp=>decide (p.c=c)
structure dM.Ok(S:dM):Prop where
 fund:0<=S.fund/\S.fund<=MF
 sa:pS S.all
 sp:mM S.held
 len:S.all.length<=64
 acc:∀a∈S.all,0<a.num/\a.num<4294967296/\0<=a.cash/\a.cash<=MF
 pos:∀p∈S.held,0<p.c/\p.c<4294967296/\p.isZ=false/\ -MP<=p.q/\p.q<=MP/\ -MF<=p.b/\p.b<=MF/\∃a∈S.all,a.num=p.a
def dM.accs(S:dM):List (Int×Ac):=(0,ji S.fund)::S.all.map λa=>(a.num,a)
def dM.poss(S:dM):List ((Int×Int)×Po):=S.held.map λp=>(p.key,p)
def xr(l:List Ac)(n:Int):lk (l.map λa=>(a.num,a)) n=l.find? λx=>decide (x.num=n):=by
 induction l with
 |nil=>rfl
 |cons a l b=>
  simp only[List.map_cons,lk,b,List.find?_cons];by_cases h:a.num=n<;>simp[h]
def BN(l:List Po)(k:Int×Int):lk (l.map λp=>(p.key,p)) k=l.find? λx=>decide (x.key=k):=by
 induction l with
 |nil=>rfl
 |cons a l b=>
  simp only[List.map_cons,lk,b,List.find?_cons];by_cases h:a.key=k<;>simp[h]
def dM.lk_accs(S:dM)(n:Int):lk S.accs n=S.getO n:=by
 simp only[dM.accs,lk,xr,dM.getO,dM.find];by_cases h:n=0
 ·simp[h]
 ·rw[if_neg (λe=>h e.symm),if_neg h]
def dM.lk_poss(S:dM)(k:Int×Int):lk S.poss k=S.pos? k:=BN _ _
def sf(l:List Ac)(n:Int):(l.map λa=>(a.num,a)).filter (λp=>decide (p.1≠n))=(l.filter λx=>decide (x.num≠n)).map λa=>(a.num,a):=by
 rw[List.filter_map];rfl
def dM.Ok.put_accs{S:dM}(h:S.Ok){A:List (Int×Ac)}(f:(A.map (·.1)).Nodup)(hp:A.Perm S.accs)(a:Ac)(c:a.num=0->a=ji a.cash):(put A a.num a).Perm (S.putA a).accs:=by
 refine(FY f hp _ _).trans ?_;unfold dM.putA;by_cases b:a.num=0
 ·rw[if_pos b];simp only[dM.accs];rw[List.filter_cons_of_neg (by simp[b]),sf,b];rw[List.filter_eq_self.2 λx d=>by have:=(h.acc x d).1;simp;omega];rw[<-c b]
 ·rw[if_neg b];simp only[dM.accs];rw[List.filter_cons_of_pos (by simpa using λe=>b e.symm),sf];refine(List.Perm.swap ..).trans (List.Perm.cons _ ?_);exact((rh S.all a).map λa=>(a.num,a)).symm
def dM.find_mem{S:dM}{n:Int}{a:Ac}(h:S.find n=some a):a∈S.all/\a.num=n:=by
 unfold dM.find at h;exact⟨List.mem_of_find?_eq_some h,by simpa using List.find?_some h⟩
def dM.find_some{S:dM}(h:pS S.all){a:Ac}(b:a∈S.all):S.find a.num=some a:=by
 unfold dM.find;rw[<-xr];exact qS (by rw[List.map_map];exact h.nodup) (List.mem_map_of_mem (f:=λa:Ac=>(a.num,a)) b)
def dM.pos_some{S:dM}(h:mM S.held){p:Po}(hp:p∈S.held):S.pos? p.key=some p:=by
 unfold dM.pos?;rw[<-BN];exact qS (by rw[List.map_map];exact h.nodup) (List.mem_map_of_mem (f:=λp:Po=>(p.key,p)) hp)
def tz(l:List Ac)(a:Ac):(xY l a).length<=l.length+1:=by
 rw[(rh l a).length_eq];simp only[List.length_cons];exact Nat.succ_le_succ (List.length_filter_le ..)
def uF{l:List Ac}{a:Ac}(h:∃x∈l,x.num=a.num):(xY l a).length<=l.length:=by
 rw[(rh l a).length_eq];obtain⟨x,b,e⟩:=h;simp only[List.length_cons];exact List.length_filter_lt_length_iff_exists.2 ⟨x,b,by simp[e]⟩
def dM.Ok.putA{S:dM}(h:S.Ok){a:Ac}(h1:0<=a.num/\a.num<4294967296)(i:0<=a.cash/\a.cash<=MF)(b:S.find a.num≠none\/S.all.length<64\/a.num=0):(S.putA a).Ok:=by
 unfold dM.putA;by_cases g:a.num=0
 ·rw[if_pos g];exact{h with fund:=i}
 ·rw[if_neg g];refine{fund:=h.fund,sa:=Ci h.sa a,sp:=h.sp,len:=?_,acc:=λx c=>?_,pos:=λp hp=>?_}
  ·rcases b with b|b|b
   ·obtain⟨x,c⟩:=Option.ne_none_iff_exists'.1 b;obtain⟨f,e⟩:=dM.find_mem c;exact Nat.le_trans (uF ⟨x,f,e⟩) h.len
   ·exact Nat.le_trans (tz ..) b
   ·exact absurd b g
  ·rcases uz.1 c with⟨c,_⟩|rfl
   ·exact h.acc x c
   ·exact⟨by omega,h1.2,i⟩
  ·obtain⟨o,l,r,n,q,k,m,x,c,d⟩:=h.pos p hp;refine⟨o,l,r,n,q,k,m,?_⟩;by_cases j:x.num=a.num
   ·exact⟨a,uz.2 (.inr rfl),j.symm.trans d⟩
   ·exact⟨x,uz.2 (.inl ⟨c,j⟩),d⟩
def dM.Ok.getO{S:dM}(h:S.Ok){n:Int}{a:Ac}(b:S.getO n=some a):a.num=n/\0<=a.num/\a.num<4294967296/\0<=a.cash/\a.cash<=MF/\(a.num=0->a=ji a.cash):=by
 unfold dM.getO at b;split at b
 ·rename_i g
  cases b;exact⟨by simp[ji,g],by simp[ji],by simp[ji],h.fund.1,h.fund.2,λ_=>rfl⟩
 ·obtain⟨h1,d⟩:=dM.find_mem b;obtain⟨i,e,f,c⟩:=h.acc a h1;exact⟨d,by omega,e,f,c,by omega⟩
def dM.Ok.funds{S:dM}(h:S.Ok):0<=S.funds/\S.funds<=MF*65:=by
 have key:∀l:List Ac,(∀a∈l,0<=a.cash/\a.cash<=MF)->0<=(l.map (·.cash)).sum/\(l.map (·.cash)).sum<=MF*l.length:=by
  intro l b;induction l with
  |nil=>simp
  |cons a l e=>
   have h1:=b a List.mem_cons_self;have d:=e λx f=>b x (List.mem_cons_of_mem _ f);simp only[List.map_cons,List.sum_cons,List.length_cons,MF]at*;omega
 have h1:=key S.all λa c=>(h.acc a c).2.2;have d:=h.fund;have g:=h.len;unfold dM.funds;simp only[MF]at*;omega
def KP{l:List Ac}(h:∀a∈l,0<=a.cash):0<=(l.map (·.cash)).sum/\∀a∈l,a.cash<=(l.map (·.cash)).sum:=by
 induction l with
 |nil=>simp
 |cons a l c=>
  have h1:=h a List.mem_cons_self;obtain⟨e,d⟩:=c λx b=>h x (List.mem_cons_of_mem _ b);simp only[List.map_cons,List.sum_cons];refine⟨by omega,λx b=>?_⟩;rcases List.mem_cons.1 b with rfl|b
  ·omega
  ·have:=d x b;omega
def dM.Ok.cash_le{S:dM}(h:S.Ok){n:Int}{a:Ac}(b:S.getO n=some a):a.cash<=S.funds:=by
 have d:=KP (l:=S.all) λa c=>(h.acc a c).2.2.1;have e:=h.fund;unfold dM.funds;unfold dM.getO at b;split at b
 ·cases b;simp only[ji];omega
 ·have:=d.2 a (dM.find_mem b).1;omega
def zU{n lo hi:Int}:cy n lo hi=true↔lo<=n/\n<=hi:=by simp[cy]
end Go.Proofs
namespace Go.Vc
open Go Go.Vc
structure tO(P:Program)(gv:Value)(xs:List (List Value))(Ok:World->Prop):Prop where
 out:∃f first captured,gv=.func (.func f) first captured/\∀(y:Value) (J:(Nat->Prop)->Nat->World->Prop) (Js:World->Prop) (W:World) (K:cm),Ok W->
  (∀Q W1,cl (λ_=>False) W W1->(∀b,Q b->W.heap.size<=b/\b<W1.heap.size)->J Q 0 W1)->
  (∀Q i W W',J Q i W->cl (λ_=>False) W W' ->J Q i W')->
  (∀Q i x W,xs[i]? =some x->J Q i W->∀K' :cm,(∀W',J Q (i+1) W' ->(∀b,Q b->W'.heap[b]? =W.heap[b]?)->K' (.bool true) W')->(∀W',Js W' ->K' (.bool false) W')->dX P y x W K')->
  (∀Q W,J Q xs.length W->K (.tuple #[]) W)->(∀W,Js W->K (.tuple #[]) W)->Ca P f ⟨first.toList++(y::captured.toList)⟩ W K
def lO{l:Nat}{W:World}{K:World->Prop}{r:Loop}(h:W.heap[l]? =some (.loop r))(b:r.state=.ready)(a:K (W.putObj l (.loop {r with state:=.busy}))):iF l W K:=
 ⟨⟨r,h,b,a⟩⟩
section
variable{P:Program}{gv:Value}{w1:World}{np:Nat}{rnd:Nat->List Value->World->(World->Prop)->(Code->World->Prop)->Prop}{after:List Nat->Option Code->World->Prop}
 {xs:List (List Value)}{Ok:World->Prop}
def HG{f:FuncId}{first e:Array Value}{mk:List Nat}
  (C:∀(y:Value) (J:(Nat->Prop)->Nat->World->Prop) (V:World->Prop) (W:World) (K:cm),Ok W->
   (∀Q A,cl (λ_=>False) W A->(∀b,Q b->W.heap.size<=b/\b<A.heap.size)->J Q 0 A)->
   (∀Q i W a,J Q i W->cl (λ_=>False) W a->J Q i a)->
   (∀Q i x W,xs[i]? =some x->J Q i W->∀w:cm,(∀a,J Q (i+1) a->(∀b,Q b->a.heap[b]? =W.heap[b]?)->w (.bool true) a)->(∀a,V a->w (.bool false) a)->dX P y x W w)->
   (∀Q W,J Q xs.length W->K (.tuple #[]) W)->(∀W,V W->K (.tuple #[]) W)->Ca P f ⟨first.toList++(y::e.toList)⟩ W K)
  (O:∀x∈xs,x.length=np)(J:(Nat->Prop)->Nat->World->Prop)(I:Code->World->Prop)
  (N:∀o,Ok (w1.alloc (.loop o)))
  (Y:∀o Q W,cl (λ_=>False) (w1.alloc (.loop o)) W->(∀b,Q b->w1.heap.size<b/\b<W.heap.size)->J Q 0 W)
  (m:∀Q i W a,J Q i W->cl (λb=>b=w1.heap.size) W a->J Q i a)
  (t:∀Q i x W r,xs[i]? =some x->J Q i W->W.heap[w1.heap.size]? =some (.loop r)->r.state=.ready->∀R S,
   (∀a,J Q (i+1) a->a.heap[w1.heap.size]? =some (.loop {r with state:=.busy})->(∀b,Q b->a.heap[b]? =W.heap[b]?)->R a)->
   (∀c a,I c a->a.heap[w1.heap.size]? =some (.loop {r with state:=.busy})->S c a)->rnd w1.heap.size x W R S)
  (z:∀Q W o,J Q xs.length W->after mk none (W.putObj w1.heap.size (.loop o)))
  (u:∀c W o,I c W->after mk (some c) (W.putObj w1.heap.size (.loop o)))
  (d:Loop)(g:d.state=.ready)(j:d.pending=none)
  (hY:∀(h:List Value) (W:World) (K:cm),h.length=np->EW W w1.heap.size d->
    rnd w1.heap.size h W
     (λa=>∃r,mR a w1.heap.size r/\K (.bool true) (a.putObj w1.heap.size (.loop {r with state:=.ready,pending:=none})))
     (λc a=>∃r,mR a w1.heap.size r/\K (.bool false) (a.putObj w1.heap.size (.loop {r with state:=.done,pending:=some c})))->
    Yl P w1.heap.size ⟨h⟩ W K):
  Ca P f ⟨first.toList++(.func (.yield w1.heap.size) #[] #[]::e.toList)⟩ (w1.alloc (.loop d)) λ_ W=>
    ∃r,mR W w1.heap.size r/\r.state≠ .busy/\after mk r.pending (W.putObj w1.heap.size (.loop {r with state:=.exhausted})):=by
 have E:∀(W:World) (o:Obj),cl (λb=>b=w1.heap.size) W (W.putObj w1.heap.size o):=λW o=>(cl.refl _ W).putObj (b:=w1.heap.size) (.inl (by simp)) o;have p:(w1.alloc (.loop d)).heap[w1.heap.size]? =some (.loop d):=by rw[cY,if_pos rfl]
 have T:(w1.alloc (.loop d)).heap.size=w1.heap.size+1:=World.size_alloc ..
 refine C _ (λQ i W=>J Q i W/\W.heap[w1.heap.size]? =some (.loop d)/\∀b,Q b->w1.heap.size<b)
  (λW=>∃c r v,I c v/\W=v.putObj w1.heap.size (.loop r)/\W.heap[w1.heap.size]? =some (.loop r)/\r.state=.done/\r.pending=some c) _ _ (N d) ?_ ?_ ?_ ?_ ?_
 ·intro Q A D l;refine⟨Y d Q A D λb q=>⟨?_,(l b q).2⟩,D.keep p id,λb q=>?_⟩
  ·have:=(l b q).1;omega
  ·have:=(l b q).1;omega
 ·rintro Q i W a ⟨B,n,l⟩ D;exact⟨m Q i W a B (D.mono λ_ _ hf=>hf.elim),D.keep n id,l⟩
 ·rintro Q i x W U ⟨B,n,l⟩ w hT hF;refine iI.2 ?_;show Yl P w1.heap.size ⟨_⟩ W w;have F:x.length=np:=O x (List.mem_of_getElem? U);have e1:(#[]:Array Value).toList++x=x:=rfl;rw[e1];refine hY x W w F ⟨d.state,d.pending,n⟩ ?_;refine t Q i x W d U B n g _ _ ?_ ?_
  ·intro a G k Z;refine⟨_,k,hT _ ⟨m _ _ _ _ G (E _ _),?_,l⟩ λb q=>?_⟩
   ·rw[dc,if_pos rfl,k];simp[<-g,<-j]
   ·rw[dc,if_neg (by have:=l b q;omega)];exact Z b q
  ·intro c a s k;refine⟨_,k,hF _ ⟨c,{d with state:=.done,pending:=some c},a,s,rfl,?_,rfl,rfl⟩⟩;rw[dc,if_pos rfl,k];rfl
 ·rintro Q W ⟨B,n,_⟩;refine⟨d,n,by rw[g];decide,?_⟩;rw[j];exact z Q W _ B
 ·rintro W ⟨c,r,v,s,rfl,n,L,H⟩;refine⟨r,n,by rw[L];decide,?_⟩
  have X:∀o M:Obj,(v.putObj w1.heap.size o).putObj w1.heap.size M=v.putObj w1.heap.size M:=λo M=>by
   simp[World.putObj]
  rw[X,H];exact u c v _ s
def GP{w:World}(hit:tO P gv xs Ok)(l:∀x∈xs,x.length=np)(J:(Nat->Prop)->Nat->World->Prop)(k:Code->World->Prop)
  (q:∀o,Ok ((w.alloc (.deferred (some []))).alloc (.loop o)))
  (z:∀o Q W,cl (λ_=>False) ((w.alloc (.deferred (some []))).alloc (.loop o)) W->(∀b,Q b->w.heap.size+1<b/\b<W.heap.size)->J Q 0 W)
  (u:∀Q i W a,J Q i W->cl (λb=>b=w.heap.size+1) W a->J Q i a)
  (n:∀Q i x W r,xs[i]? =some x->J Q i W->W.heap[w.heap.size+1]? =some (.loop r)->r.state=.ready->∀s v,
   (∀a,J Q (i+1) a->a.heap[w.heap.size+1]? =some (.loop {r with state:=.busy})->(∀b,Q b->a.heap[b]? =W.heap[b]?)->s a)->
   (∀c a,k c a->a.heap[w.heap.size+1]? =some (.loop {r with state:=.busy})->v c a)->rnd (w.heap.size+1) x W s v)
  (t:∀Q W o,J Q xs.length W->after [w.heap.size] none (W.putObj (w.heap.size+1) (.loop o)))
  (p:∀c W o,k c W->after [w.heap.size] (some c) (W.putObj (w.heap.size+1) (.loop o))):
  xy P none gv w np rnd after:=by
 obtain⟨f,first,g,rfl,h⟩:=hit.out;refine mi.2 ?_;show∀j:Loop,_;intro j d e A y;have m:(w.alloc (.deferred (some []))).heap.size=w.heap.size+1:=World.size_alloc ..;refine HG (w1:=w.alloc (.deferred (some []))) h l J k q ?_ ?_ ?_ ?_ ?_ j d e y
 all_goals rw[m]
 all_goals assumption
end
end Go.Vc
namespace Go.Vc
open Go Go.Vc
end Go.Vc
namespace Go.Proofs
open Go Go.Vc
def Tryz.noNum:mU Tryz.prog=true:=by kernel_rfl
end Go.Proofs
set_option maxRecDepth 100000
namespace Go.Proofs
open Go Go.Vc
abbrev gr(s:Sem Value)(w:World)(K:cm):=rv Tryz.prog s w K
abbrev gp(s:Sem Value)(K:Value->Prop):=sO Tryz.prog s K
abbrev gw(s:Sem Value)(w:World)(K:Value->Prop):=sY Tryz.prog s w K
abbrev gx(s:Sem Value)(w:World)(K:cm):=rx Tryz.prog s w K
abbrev gl(t:TypeId)(p:Value)(w:World)(K:cm):=rv Tryz.prog (Instr.loadAt t p) w K
abbrev gf(t:TypeId)(p:Value)(i:Nat)(w:World)(K:cm):=rv Tryz.prog (Instr.fieldAt t p i) w K
abbrev de(t:TypeId)(p:Value)(w:World)(K:Value->Prop):=sY Tryz.prog (Instr.loadAt t p) w K
abbrev dD(t:TypeId)(p:Value)(i:Nat)(K:Value->Prop):=sO Tryz.prog (Instr.fieldAt t p i) K
abbrev gs(t:TypeId)(p v:Value)(w:World)(K:World->Prop):=ru Tryz.prog (Instr.storeAt t p v) w K
abbrev gb(o:BinOp)(t:TypeId)(c:Bool)(a b:Value)(w:World)(K:cm):=rv Tryz.prog (tf o t c a b) w K
abbrev ia(o:BinOp)(t:TypeId)(c:Bool)(a b:Value)(K:Value->Prop):=sO Tryz.prog (tf o t c a b) K
abbrev ge(a:Value)(i:Nat)(w:World)(K:cm):=rv Tryz.prog (Instr.extract a i) w K
abbrev ga(t:TypeId)(w:World)(K:cm):=rv Tryz.prog (Instr.alloc t true (.tuple #[])) w K
abbrev gq(t:TypeId)(a:Value)(w:World)(K:cm):=rv Tryz.prog (Instr.box t a) w K
abbrev gi(t:TypeId)(a i:Value)(w:World)(K:cm):=rv Tryz.prog (Instr.indexAt t a i) w K
abbrev mQ(t:TypeId)(a i:Value)(K:Value->Prop):=sO Tryz.prog (Instr.indexAt t a i) K
abbrev gn(t:TypeId)(c:Bool)(a:Value)(w:World)(K:cm):=rn Tryz.prog (builtin .len #[t] 3 #[c] #[a]) w K
@[simp] abbrev gk (t:TypeId) (p v:Value) (w:World):=Sem.run Tryz.prog (Instr.loadAt t p) w=.ok v w
abbrev cG(t:TypeId)(p:Value)(i:Nat)(u:TypeId)(w:World)(K:cm):=gf t p i w λa b=>gl u a b K
abbrev kK(t:TypeId)(p:Value)(i:Nat)(u:TypeId)(v:Value)(w:World)(K:World->Prop):=gf t p i w λa b=>gs u a v b K
abbrev dZ(t:TypeId)(p:Value)(i:Nat)(u:TypeId)(w:World)(K:Value->Prop):=dD t p i λa=>de u a w K
abbrev lJ(t:TypeId)(a i:Value)(u:TypeId)(w:World)(K:cm):=gi t a i w λa b=>gl u a b K
abbrev gv(t:TypeId)(x:Value)(w:World)(K:cm):=ga t w λa b=>gs t a x b λc=>K a c
abbrev kS(x:Value)(w:World)(K:Value->Value->World->Prop):=ge x 0 w λa b=>ge x 1 b λc d=>K a c d
abbrev NV:=Nat->Value
abbrev gI(n:Int):Value:=.int .i64 n
abbrev T1:=Value×Unit
abbrev T2:=Value×Value×Unit
abbrev T3:=Value×Value×Value×Unit
abbrev T4:=Value×Value×Value×Value×Unit
abbrev Wp:=World->Prop
abbrev gt(a:Value)(w:World)(K:cm):=rv Tryz.prog (Op.unary .not a) w K
def cj{f:FuncId}{fn:Func}{a:List Value}{w:World}{K:cm}{F:Prop}(c:Tryz.prog.funcs[f]? =some fn)(h:F)(b:P9 Tryz.prog fn a.length=true:=by kernel_rfl)(e:JT Tryz.prog fn a w K=F:=by kernel_rfl):Ca Tryz.prog f ⟨a⟩ w K:=Dc Tryz.noNum c b (by rw[e];exact h)
def Qp{a:World}{b:cm}(l:gr (Instr.makeMap 198 none) a λc d=>gr (Instr.build 92 #[]) d λe f=>gh Tryz.prog (gY 198 c (.int .u32 0) e) f λg=>gr (Instr.makeMap 199 none) g λh i=>gr (Instr.build 201 #[(0,c),(1,h)]) i λj k=>gq 201 j k b):Ca Tryz.prog 36 #[] a b:=cj Tryz.func36 l
def MU{a:Value}{b:World}{c:cm}(i:gb .neq 62 true a (.pointer none) b λd e=>cz d (cD a λf=>cG 201 f 0 198 e λg h=>gb .neq 198 true g (.map none) h c) (c (.bool false) e)):Ca Tryz.prog 136 #[a] b c:=cj Tryz.func136 i
def Nl{a b c:Value}{d:World}{e:cm}(h:gb .geq 2 false a b d λf g=>cz f (gb .leq 2 false a c g e) (e (.bool false) g)):Ca Tryz.prog 194 #[a,b,c] d e:=cj Tryz.func194 h
def Dw(a:cm)(b c d e:Value)(f:T1)(g:World):=NV->cz f.1 (a (gI 9) g) (Ca Tryz.prog 195 #[b] g λh i=>gb .add 2 false h c i λj k=>gb .gtr 2 true j (gI 1000000000000000) k λl m=>cz l (a (gI 6) m) (kK 92 d 0 35 e m λn=>cG 92 d 1 2 n λo p=>gb .add 2 false o c p λq r=>kK 92 d 1 2 q r λs=>cD b λt=>dZ 201 t 0 198 s.drew λu=>de 92 d s.drew λv=>gh Tryz.prog (gY 198 u e v) s.drew λw=>a (gI 0) w))
def OO{a b c:Value}{d:World}{e:cm}(H:Ca Tryz.prog 136 #[a] d λf g=>gt f g λh i=>cz h (e (gI 1) i) (cD a λj=>cG 201 j 0 198 i λk l=>gx (fA 198 k b true) l λm n=>kS m n λo p q=>gv 92 o q λr s=>Ca Tryz.prog 194 #[c,(gI 1),(gI 1000000000000000)] s λt u=>gt t u λv w=>cz v (e (gI 2) w) (cB (S:=T1) (λx=>gt p w λy z=>cz y (cD a λA=>cG 201 A 0 198 z λB C=>gn 198 false B C λD E=>gb .gtr 3 true D (gI 64) E λF G=>x (F,()) G) (x ((.bool false),()) z)) (Dw e a c r b)))):Ca Tryz.prog 112 #[a,b,c] d e:=cj Tryz.func112 H
def QZ{a b:Value}{c:World}{d:cm}(I:ga 92 c λe f=>Ca Tryz.prog 136 #[a] f λg h=>gt g h λi j=>cz i (gr (Instr.build 92 #[]) j λk l=>gs 92 e k l λm=>de 92 e m λn=>d (.tuple #[n,(gI 1)]) m) (cD a λo=>cG 201 o 0 198 j λp q=>gx (fA 198 p b true) q λr s=>kS r s λt u v=>gv 92 t v λw x=>gt u x λy z=>cz y (gr (Instr.build 92 #[]) z λA B=>gs 92 e A B λC=>de 92 e C λD=>d (.tuple #[D,(gI 7)]) C) (gl 92 w z λE F=>gs 92 e E F λG=>de 92 e G λH=>d (.tuple #[H,(gI 0)]) G))):Ca Tryz.prog 52 #[a,b] c d:=cj Tryz.func52 I
def MQ{a:Value}{b:World}{c:cm}(l:gb .lss 2 true a (gI 0) b λd e=>cz d (gr (convert 2 27 a) e λf g=>gr (Op.unary .neg f) g λh i=>c (.tuple #[h,(.bool true)]) i) (gr (convert 2 27 a) e λj k=>c (.tuple #[j,(.bool false)]) k)):Ca Tryz.prog 221 #[a] b c:=cj Tryz.func221 l
def OF{a b:Value}{c:World}{d:cm}(n:Ca Tryz.prog 221 #[a] c λe f=>kS e f λg h i=>gb .geq 2 true b (gI 0) i λj k=>cz j (gr (convert 2 27 b) k λl m=>gb .leq 27 false g l m d) (d (.bool false) k)):Ca Tryz.prog 130 #[a,b] c d:=cj Tryz.func130 n
def EK(a:Value)(b:cm)(c:T1)(d:World)(e:T1->Wp):=NV->gx (ol a false 0) d λf g=>ge f 0 g λh i=>cz h (gx (lz a) i λj k=>ge j 1 k λl m=>gv 92 l m λn o=>cG 92 n 1 2 o λp q=>gb .add 2 false c.1 p q λr s=>e (r,()) s) (b c.1 i)
def PS{a:Value}{b:World}{c:cm}(m:Ca Tryz.prog 136 #[a] b λd e=>gt d e λf g=>cz f (c (gI 0) g) (cD a λh=>cG 201 h 0 198 g λi j=>gx (ly 198 i) j λk l=>cS (S:=T1) (EK k c) ((gI 0),()) l)):Ca Tryz.prog 195 #[a] b c:=cj Tryz.func195 m
def Nn{a:Value}{b:World}{c:cm}(h:gq 44 a b λd e=>c (.func (.func 231) #[] #[d]) e):Ca Tryz.prog 141 #[a] b c:=cj Tryz.func141 h
def D3(a b c:Value)(d:cm)(e:T1)(f:World)(g:T1->Wp):=NV->gb .lss 3 false e.1 a f λh i=>cz h (lJ 44 b e.1 92 i λj k=>gv 92 j k λl m=>gl 92 l m λn o=>dX Tryz.prog c [n] o λp q=>gt p q λr s=>cz r (d (.tuple #[]) s) (gb .add 3 true e.1 (gI 1) s λt u=>g (t,()) u)) (d (.tuple #[]) i)
def ND{a b:Value}{c:World}{d:cm}(i:gl 44 b c λe f=>gn 44 false e f λg h=>cS (S:=T1) (D3 g e a d) ((gI 0),()) h):Ca Tryz.prog 231 #[a,b] c d:=cj Tryz.func231 i
def Pw{a:Value}{b:World}{c:cm}(h:gq 46 a b λd e=>c (.func (.func 286) #[] #[d]) e):Ca Tryz.prog 235 #[a] b c:=cj Tryz.func235 h
def FG(a b c:Value)(d:cm)(e:T1)(f:World)(g:T1->Wp):=NV->gb .lss 3 false e.1 a f λh i=>cz h (lJ 46 b e.1 112 i λj k=>gv 112 j k λl m=>gl 112 l m λn o=>dX Tryz.prog c [n] o λp q=>gt p q λr s=>cz r (d (.tuple #[]) s) (gb .add 3 true e.1 (gI 1) s λt u=>g (t,()) u)) (d (.tuple #[]) i)
def O1{a b:Value}{c:World}{d:cm}(i:gl 46 b c λe f=>gn 46 false e f λg h=>cS (S:=T1) (FG g e a d) ((gI 0),()) h):Ca Tryz.prog 286 #[a,b] c d:=cj Tryz.func286 i
def QL{a:Value}{b:World}{c:cm}(h:gq 62 a b λd e=>c (.func (.func 138) #[] #[d]) e):Ca Tryz.prog 55 #[a] b c:=cj Tryz.func55 h
def Fo(a:Value)(b:T1->Wp)(c:T1)(d:World)(e:T1->Wp):=NV->gx (ol a false 0) d λf g=>ge f 0 g λh i=>cz h (gx (lz a) i λj k=>kS j k λl m n=>gv 92 m n λo p=>gb .neq 35 true l (.int .u32 0) p λq r=>cz q (gl 92 o r λs t=>gx (dP 44 1 [(0,s)]) t λu v=>gx (cv #[44,44] 44 [c.1,u]) v λw x=>e (w,()) x) (e (c.1,()) r)) (b (c.1,()) i)
def GH(a:Value)(b:cm)(c:T1)(d:World):=NV->Ca Tryz.prog 139 #[c.1,(.func (.func 140) #[] #[])] d λe f=>Ca Tryz.prog 141 #[c.1] f λg h=>dX Tryz.prog g [a] h λi j=>b (.tuple #[]) j
def O7{a b:Value}{c:World}{d:cm}(q:cB (S:=T1) (λe=>gl 62 b c λf g=>Ca Tryz.prog 136 #[f] g λh i=>cz h (gl 62 b i λj k=>cD j λl=>cG 201 l 0 198 k λm n=>gx (ly 198 m) n λo p=>cS (S:=T1) (Fo o e) ((.slice none 0 0),()) p) (e ((.slice none 0 0),()) i)) (GH a d)):Ca Tryz.prog 138 #[a,b] c d:=cj Tryz.func138 q
def Pl{a b:Value}{c:World}{d:cm}(o:gq 92 a c λe f=>gq 92 b f λg h=>cG 92 e 0 35 h λi j=>cG 92 g 0 35 j λk l=>gb .lss 35 false i k l λm n=>cz m (d (gI (-1)) n) (d (gI 1) n)):Ca Tryz.prog 140 #[a,b] c d:=cj Tryz.func140 o
def Np{a b:Value}{c:World}{d:cm}(i:gq 62 a c λe f=>gq 244 b f λg h=>d (.func (.func 232) #[] #[e,g]) h):Ca Tryz.prog 142 #[a,b] c d:=cj Tryz.func142 i
def EM(a b:Value)(c:T1->Wp)(d:T1)(e:World)(f:T1->Wp):=NV->gx (ol a false 0) e λg h=>ge g 0 h λi j=>cz i (gx (lz a) j λk l=>ge k 1 l λm n=>gv 112 m n λo p=>gl 244 b p λq r=>gl 112 o r λs t=>dX Tryz.prog q [s] t λu v=>cz u (gl 112 o v λw x=>gx (dP 46 1 [(0,w)]) x λy z=>gx (cv #[46,46] 46 [d.1,y]) z λA B=>f (A,()) B) (f (d.1,()) v)) (c (d.1,()) j)
def FE(a:Value)(b:cm)(c:T1)(d:World):=NV->Ca Tryz.prog 233 #[c.1,(.func (.func 234) #[] #[])] d λe f=>Ca Tryz.prog 235 #[c.1] f λg h=>dX Tryz.prog g [a] h λi j=>b (.tuple #[]) j
def Ny{a b c:Value}{d:World}{e:cm}(r:cB (S:=T1) (λf=>gl 62 b d λg h=>Ca Tryz.prog 136 #[g] h λi j=>cz i (gl 62 b j λk l=>cD k λm=>cG 201 m 1 199 l λn o=>gx (ly 199 n) o λp q=>cS (S:=T1) (EM p c f) ((.slice none 0 0),()) q) (f ((.slice none 0 0),()) j)) (FE a e)):Ca Tryz.prog 232 #[a,b,c] d e:=cj Tryz.func232 r
def FW(a:cm)(b c:Value)(d:T1)(e:World):=NV->cz d.1 (a (gI (-1)) e) (gl 112 b e λf g=>gl 112 c g λh i=>gb .eql 112 false f h i λj k=>cz j (a (gI 0) k) (a (gI 1) k))
def MI{a b:Value}{c:World}{d:cm}(B:gq 112 a c λe f=>gq 112 b f λg h=>cB (S:=T1) (λi=>cG 112 e 0 35 h λj k=>cG 112 g 0 35 k λl m=>gb .lss 35 false j l m λn o=>cz n (i ((.bool true),()) o) (cG 112 e 0 35 o λp q=>cG 112 g 0 35 q λr s=>gb .eql 35 false p r s λt u=>cz t (cG 112 e 1 35 u λv w=>cG 112 g 1 35 w λx y=>gb .lss 35 false v x y λz A=>i (z,()) A) (i ((.bool false),()) u))) (FW d e g)):Ca Tryz.prog 234 #[a,b] c d:=cj Tryz.func234 B
def Qf{a b:Value}{c:World}{d:cm}(h:gq 35 b c λe f=>Ca Tryz.prog 142 #[a,(.func (.func 143) #[] #[e])] f d):Ca Tryz.prog 56 #[a,b] c d:=cj Tryz.func56 h
def PH{a b:Value}{c:World}{d:cm}(k:gq 112 a c λe f=>cG 112 e 0 35 f λg h=>gl 35 b h λi j=>gb .eql 35 false g i j d):Ca Tryz.prog 143 #[a,b] c d:=cj Tryz.func143 k
def DK(a b:Value)(c:cm)(d:Unit)(e:World)(f:Unit->Wp):=NV->gx (ol a false 0) e λg h=>ge g 0 h λi j=>cz i (gx (lz a) j λk l=>kS k l λm n o=>ga 224 o λp q=>ga 112 q λr s=>gs 224 p m s λt=>gs 112 r n t λu=>cD b λv=>dZ 201 v 1 199 u.drew λw=>de 224 p u.drew λx=>de 112 r u.drew λy=>gh Tryz.prog (gY 199 w x y) u.drew λz=>f (()) z) (c b j)
def FJ(a b c:Value)(d:cm)(e:Unit)(f:World)(g:Unit->Wp):=NV->gx (ol a false 0) f λh i=>ge h 0 i λj k=>cz j (gx (lz a) k λl m=>kS l m λn o p=>gv 92 o p λq r=>cD b λs=>dZ 201 s 0 198 r.drew λt=>de 92 q r.drew λu=>gh Tryz.prog (gY 198 t n u) r.drew λv=>g (()) v) (cD c λw=>cG 201 w 1 199 k λx y=>gx (ly 199 x) y λz A=>cS (S:=Unit) (DK z b d) (()) A)
def Ot{a:Value}{b:World}{c:cm}(o:Ca Tryz.prog 136 #[a] b λd e=>gt d e λf g=>cz f (c (.pointer none) g) (Ca Tryz.prog 36 #[] g λh i=>cD a λj=>cG 201 j 0 198 i λk l=>gx (ly 198 k) l λm n=>cS (S:=Unit) (FJ m h a c) (()) n)):Ca Tryz.prog 109 #[a] b c:=cj Tryz.func109 o
end Go.Proofs
namespace Go.Proofs
open Go Go.Vc
def jQ{S:Type}{a:S->World->(S->World->Prop)->Prop}{s:S}{w:World}(I:S->World->Prop)(m:S->World->Nat)(f:I s w)
  (h:∀s w,I s w->∀d:S->World->Prop,(∀b c,I b c->m b c<m s w->d b c)->a s w d):cS a s w:=
 ⟨⟨I,m,f,λs w g=>h s w g _ λ_ _ h1 e=>⟨h1,e⟩⟩⟩
def dm(l:Nat):Value:=.pointer (some ⟨l,0,none⟩)
def cJ(a:Ac):List Value:=[.int .u32 a.num,.int .i64 a.cash,.bool a.kil,.bool a.dfl]
def gR(a:Ac):Value:=.agg #[.int .u32 a.num,.int .i64 a.cash,.bool a.kil,.bool a.dfl]
def cK(p:Po):List Value:=[.int .u32 p.c,.int .u32 p.a,.int .i64 p.q,.int .i64 p.b]
def kU(p:Po):Value:=.agg #[.int .u32 p.c,.int .u32 p.a,.int .i64 p.q,.int .i64 p.b]
def d8(n:Int):Value:=.int .u32 n
def eV(k:Int×Int):Value:=.agg #[.int .u32 k.1,.int .u32 k.2]
def Q9:Tryz.prog.underlying 35=some (.int .u32):=by kernel_rfl
def pG:ml Tryz.prog 35 d8:=ml.int Q9
def Le:Tryz.prog.underlying 224=some (.struct (Tryz.prog.fieldsOf 224)):=by kernel_rfl
def ME:Tryz.prog.fieldsOf 224= #[{name:= "contract",type:=35,offset:=0,embedded:=false,tag:= "",pkgPath:= "broadside/ledger",byteOffset:=0},{name:= "account",type:=35,offset:=1,embedded:=false,tag:= "",pkgPath:= "broadside/ledger",byteOffset:=4}]:=by kernel_rfl
def Ol(b:Bool)(n:Nat)(k:IntKind)(f:Int)(w:World):(Instr.checkKey b (n+1) 35 (.int k f)).run Tryz.prog w=.ok () w:=by
 unfold Instr.checkKey;simp[go_sem]
def OK(w:World)(x y:Int×Int):(Op.equal 224 (eV x) (eV y)).run Tryz.prog w=.ok (decide (x=y)) w:=by
 have h:Tryz.prog.stoodInHeld 224=false:=by kernel_rfl
 obtain⟨f,a⟩:=x;obtain⟨f',c⟩:=y;unfold Op.equal Op.maxDepth eV;rw[run_equalIn_struct w 9999 224 _ _ Le h,ME];have b:∀(x y:Int) (w:World),(Op.equalIn 9999 35 (.int .u32 x) (.int .u32 y)).run Tryz.prog w=.ok (x==y) w:=λx y w=>run_equalIn_int w 9998 35 .u32 .u32 x y (by kernel_rfl);simp[Op.eqFields,part,isAgg,go_sem,b];by_cases h1:f=f' <;>by_cases d:a=c<;>simp_all
def Oa(w:World)(b:Bool)(x:Int×Int):(Instr.checkKey b 10000 224 (eV x)).run Tryz.prog w=.ok () w:=by
 obtain⟨f,a⟩:=x;unfold Instr.checkKey eV;have c:∀(x:Int) (w:World),(Instr.checkKey b 9999 35 (.int .u32 x)).run Tryz.prog w=.ok () w:=λx w=>Ol b 9998 .u32 x w;simp[go_sem,Le,ME,c]
def Me:ml Tryz.prog 224 eV:=
 ml.asking Le (λx y=>rfl) OK Oa (λx=>by simp[eV,Instr.sameBits])
def lU:Tryz.prog.underlying 198=some (.map 35 92):=by kernel_rfl
def Bj:Tryz.prog.underlying 199=some (.map 224 112):=by kernel_rfl
def Qd:jL Tryz.prog 92=some (gR ⟨0,0,false,false⟩):=by kernel_rfl
structure iC(w:World)(l:Nat)(F:Nat->Prop)(S:dM):Prop where
 out:∃m1 m2 A B,hp w l=some (.cells #[.map (some m1),.map (some m2)] 201 (0,0))/\cU d8 gR w m1 A/\cU eV kU w m2 B/\A.Perm S.accs/\B.Perm S.poss/\
  (∀b,F b↔b=l\/b=m1\/b=m2)/\l≠m1/\l≠m2/\m1≠m2
 ok:S.Ok
def iC.mod{F G:Nat->Prop}{w w' :World}{l:Nat}{S:dM}(h:iC w l F S)(g:cl G w w')(c:∀b,F b->¬G b):iC w' l F S:=by
 obtain⟨⟨e,d,A,B,h1,i,n,j,m,a,k⟩,f⟩:=h;exact⟨⟨e,d,A,B,g.keep h1 (c l ((a l).2 (.inl rfl))),i.mod g (c e ((a e).2 (.inr (.inl rfl)))),n.mod g (c d ((a d).2 (.inr (.inr rfl)))),j,m,a,k⟩,f⟩
def iC.lt{F:Nat->Prop}{w:World}{l:Nat}{S:dM}(h:iC w l F S){b:Nat}(c:F b):b<w.heap.size:=by
 obtain⟨⟨m,g,A,B,h1,a,d,i,k,f,j⟩,e⟩:=h;rcases(f b).1 c with rfl|rfl|rfl
 ·exact cn h1
 ·exact a.lt
 ·exact d.lt
def rG{n lo hi:Int}{w:World}{K:cm}(a:K (.bool (cy n lo hi)) w):Ca Tryz.prog 194 #[.int .i64 n,.int .i64 lo,.int .i64 hi] w K:=by
 apply Nl;simp[go_sem];unfold cy at a;split
 ·rename_i h
  have e:decide (lo<=n/\n<=hi)=decide (n<=hi):=by rw[decide_eq_decide];omega
  rw[<-e];exact a
 ·rename_i h
  have e:decide (lo<=n/\n<=hi)=false:=by rw[decide_eq_false_iff_not];omega
  rw[e]at a;exact a
def lI{w:World}{l:Nat}{F:Nat->Prop}{S:dM}{K:cm}(h:iC w l F S)(a:K (.bool true) w):Ca Tryz.prog 136 #[dm l] w K:=by
 obtain⟨⟨i,c,A,B,h1,d,j,e,g,k,f⟩,b⟩:=h;apply MU;simp[go_sem,dm,h1];exact a
def FI{w:World}{l:Nat}{F:Nat->Prop}{S:dM}{K:cm}(h:iC w l F S)(P:∀d,cl (λ_=>False) w d->K (.int .i64 S.funds) d):Ca Tryz.prog 195 #[dm l] w K:=by
 have v:=h;obtain⟨⟨C,m2,A,B,h1,M,h3,I,h5,h6,h7⟩,e⟩:=h;apply PS;refine lI v ?_;simp[go_sem,dm,h1];refine kL lU M λw1 k n=>?_;generalize hg:w.heap.size=E at k
 refine jQ (λs W=>∃(x:Int) (rest:List (Int×Ac)),s=(.int .i64 x,())/\fN d8 gR W E C rest/\cl (λ_=>False) w W/\x+(rest.map (·.2.cash)).sum=S.funds/\0<=x/\∀p∈rest,0<=p.2.cash)
  (λs W=>jx E C W) ?_ ?_
 ·refine⟨0,A,rfl,k,n,?_,by omega,λp hp=>?_⟩
  ·rw[xV (I.map (·.2.cash))];simp[dM.accs,ji,dM.funds,Function.comp_def]
  ·have:=I.mem_iff.1 hp;simp only[dM.accs,List.mem_cons,List.mem_map]at this;rcases this with rfl|⟨a,Z,rfl⟩
   ·exact e.fund.1
   ·exact(e.acc a Z).2.2.1
 ·rintro⟨_,_⟩ W ⟨x,rest,⟨⟩,m,H,U,Y,L⟩ KN j;unfold EK;intro _;refine mL m ?_ ?_
  ·intro v d D _;subst v;have:x=S.funds:=by simpa using U
   simp[go_sem];rw[this];exact P _ (H.trans D)
  ·intro i p u d r t D Q;simp[go_sem];refine kE t ?_;simp[go_sem,gR];have g:=iu u
   have X:p.2.cash+((rest.eraseIdx i).map (·.2.cash)).sum=(rest.map (·.2.cash)).sum:=by
    rw[xV (g.map (·.2.cash))];simp
   have T:=L p (List.mem_of_getElem? u);have c:∀q∈rest.eraseIdx i,0<=q.2.cash:=λq O=>L q (List.mem_of_mem_eraseIdx O)
   have J:0<=((rest.eraseIdx i).map (·.2.cash)).sum:=by
    clear g X u r j;generalize rest.eraseIdx i=l at c;induction l with
    |nil=>simp
    |cons q l ih=>
     have:=c q List.mem_cons_self;have:=ih λy R=>c y (List.mem_cons_of_mem _ R);simp only[List.map_cons,List.sum_cons];omega
   have z:=e.funds.2
   have G:IntKind.i64.wrap (x+p.2.cash)=x+p.2.cash:=by
    rw[IntKind.wrap_i64];simp only[MF]at z;omega
   rw[G];have V:∀o,cl (λ_=>False) w (d.alloc o):=λo=>(H.on D λb N=>.inr (by subst N;omega)).alloc o;have f:∀o,fN d8 gR (d.alloc o) E C (rest.eraseIdx i):=λo=>r.mod ((cl.refl (λ_=>False) d).alloc o) id id;refine j _ _ ⟨_,_,rfl,f _,V _,by omega,by omega,c⟩ ?_;rw[(f _).left,m.left,List.length_eraseIdx];have:i<rest.length:=(List.getElem?_eq_some_iff.1 u).1;rw[if_pos this];omega
def qu(o:Option Ac):o.elim (gR ⟨0,0,false,false⟩) gR=gR (o.getD ⟨0,0,false,false⟩):=by cases o<;>rfl
def iC.lkA{A:List (Int×Ac)}{S:dM}{w:World}{c:Nat}(a:cU d8 gR w c A)(b:A.Perm S.accs)(n:Int):lk A n=S.getO n:=by
 rw[tg a.1 b,S.lk_accs]
def iC.lkP{B:List ((Int×Int)×Po)}{S:dM}{w:World}{a:Nat}(c:cU eV kU w a B)(b:B.Perm S.poss)(k:Int×Int):lk B k=S.pos? k:=by
 rw[tg c.1 b,S.lk_poss]
def iC.putA{w w' :World}{l c d:Nat}{F:Nat->Prop}{S:dM}{A:List (Int×Ac)}{B:List ((Int×Int)×Po)}(h1:hp w l=some (.cells #[.map (some c),.map (some d)] 201 (0,0)))
  (j:cU d8 gR w c A)(o:cU eV kU w d B)(k:A.Perm S.accs)(m:B.Perm S.poss)(p:∀b,F b↔b=l\/b=c\/b=d)(g:l≠c/\l≠d/\c≠d)(h:S.Ok)(a:Ac)
  (q:a.num=0->a=ji a.cash)(f:(S.putA a).Ok)(n:cU d8 gR w' c (put A a.num a))(i:cl (λb=>b=c) w w'):iC w' l F (S.putA a):=by
 refine⟨⟨c,d,_,B,i.keep h1 g.1,n,o.mod i (λe=>g.2.2 e.symm),h.put_accs j.1 k a q,?_,p,g⟩,f⟩;rw[show(S.putA a).poss=S.poss by unfold dM.putA;split<;>rfl];exact m
def Bf{w:World}{l:Nat}{F:Nat->Prop}{S:dM}{K:cm}{n m:Int}(h:iC w l F S)(X:0<=n/\n<4294967296)
  (g:∀U,iC U l F (S.deposit n m).2->cl F w U->K (.int .i64 (S.deposit n m).1) U):Ca Tryz.prog 112 #[dm l,.int .u32 n,.int .i64 m] w K:=by
 have h0:=h;obtain⟨⟨m1,m2,A,B,h1,H,h3,P,h5,h6,h7⟩,i⟩:=h;apply OO;refine lI h0 ?_;simp[go_sem,dm,h1];refine yj (enc:=d8) (ev:=gR) (x:=n) (gR ⟨0,0,false,false⟩) lU pG Qd (.inr ⟨m1,rfl,H⟩) ?_;rw[qu,iC.lkA H P];generalize e:(S.getO n).getD ⟨0,0,false,false⟩=a;simp[go_sem,gR];refine rG ?_;have hlt:=cn h1;have hM:cy m 1 1000000000000000=cy m 1 MF:=rfl;rw[hM];have hMF:MF=1000000000000000:=rfl;generalize u:w.alloc (.cells #[.int .u32 a.num,.int .i64 a.cash,.bool a.kil,.bool a.dfl] 92)=R;have d:cl (λ_=>False) w R:=by subst u;exact(cl.refl _ w).alloc _
 have z:hp R w.heap.size=some (.cells #[.int .u32 a.num,.int .i64 a.cash,.bool a.kil,.bool a.dfl] 92 (0,0)):=by subst u;simp[go_sem]
 have G:=d.keep h1 id;have t:=H.mod d id;have L:=h0.mod d λ_ _ h=>h;simp[go_sem,cO G,Bh lU t,(show Tryz.prog.underlying 3=some (.int .i64)from by kernel_rfl)];have r:A.length=S.all.length+1:=by rw[P.length_eq];simp[dM.accs]
 unfold dM.deposit at g;by_cases D:cy m 1 MF=true
 ·have hmr:1<=m/\m<=1000000000000000:=zU.1 D;rw[if_pos D]at g|-;refine cB.at (λs W=>s=(.bool (decide (S.getO n=none/\64<=S.all.length)),())/\W=R) ?_ ?_
  ·split
   ·rename_i c
    refine⟨?_,rfl⟩;congr 2;rw[decide_eq_decide];simp[c,r];omega
   ·rename_i c
    refine⟨?_,rfl⟩;simp[c]
  rintro _ W ⟨rfl,rfl⟩;unfold Dw;intro _;by_cases C:S.getO n=none/\64<=S.all.length
  ·rw[if_pos C]at g;simp only[decide_eq_true C,ci,if_true];exact g _ L (d.mono λ_ _ h=>h.elim)
  ·rw[if_neg C]at g;simp only[decide_eq_false C,ci,Bool.false_eq_true,if_false];refine FI L λY f=>?_;have T:=i.funds;have o:=f.keep z id;have I:=f.keep G id;have h2x:=t.mod f id;have h3x:=(h3.mod d id).mod f id;have q:=d.trans f;have N:IntKind.i64.wrap (S.funds+m)=S.funds+m:=by rw[IntKind.wrap_i64];omega
   simp[go_sem,N,cO o,cO I];by_cases Z:S.funds+m>MF
   ·rw[if_pos Z]at g;rw[if_pos (by omega)];exact g _ (L.mod f λ_ _ h=>h) (q.mono λ_ _ h=>h.elim)
   ·rw[if_neg Z]at g;rw[if_neg (by omega)];rw[e]at g
    have V:0<=a.cash/\a.cash<=MF/\(n=0->a.kil=false/\a.dfl=false):=by
     cases c:S.getO n with
     |none=>
      rw[c]at e;subst e;exact⟨by simp,by simp[MF],λ_=>⟨rfl,rfl⟩⟩
     |some x=>
      rw[c]at e;simp only[Option.getD_some]at e;subst e;obtain⟨g1,g2,g3,g4,g5,g6⟩:=i.getO c;refine⟨g4,g5,λX=>?_⟩;have:=g6 (g1.trans X);rw[this];exact⟨rfl,rfl⟩
    have J:IntKind.i64.wrap (a.cash+m)=a.cash+m:=by rw[IntKind.wrap_i64];omega
    have M:l≠w.heap.size:=by omega
    simp[go_sem,J,cO o,cO I,M];generalize O:(Y.setCell ⟨w.heap.size,0,none⟩ (.int .u32 n)).setCell ⟨w.heap.size,1,none⟩ (.int .i64 (a.cash+m))=y;have m3:cl (λb=>b=w.heap.size) Y y:=by subst O;exact((cl.refl _ Y).setCell (by simp) _ _).setCell (by simp) _ _
    have k:cl (λ_=>False) w y:=q.on m3 λb e=>.inr (by omega);let p:Ac:={a with num:=n,cash:=a.cash+m}
    refine fm (enc:=d8) (ev:=gR) (x:=n) (v:=p) lU pG ((H.mod k id).mod ((cl.refl (λ_=>False) y).drew) id) λw4 hA m4 hs4=>?_;have E:cl (λb=>b=m1) y w4:=((cl.refl _ y).drew).trans m4
    have Q:a.cash<=S.funds:=by
     cases c:S.getO n with
     |none=>rw[c]at e;subst e;exact T.1
     |some x=>
      rw[c]at e;simp only[Option.getD_some]at e;subst e;exact i.cash_le c
    refine g w4 (iC.putA (a:=p) (k.keep h1 id) (H.mod k id) (h3.mod k id) P h5 h6 h7 i ?_ ?_ hA E) ?_
    ·intro j;have:=V.2.2 j;simp only[ji,p,this,Ac.mk.injEq,and_true,true_and];exact j
    ·refine i.putA X ⟨by simp only[p];omega,by simp only[p];omega⟩ ?_;simp only[p];by_cases j:n=0
     ·exact .inr (.inr j)
     ·by_cases c:S.getO n=none
      ·exact .inr (.inl (Nat.lt_of_not_le λh=>C ⟨c,h⟩))
      ·refine .inl ?_;unfold dM.getO at c
       rwa[if_neg j]at c
    ·exact(k.mono λ_ _ h=>h.elim).on E λb e=>.inl ((h6 b).2 (.inr (.inl e)))
 ·simp only[Bool.not_eq_true]at D;rw[if_neg (by simp[D])]at g;rw[if_neg (by simp[D])];exact g _ L (d.mono λ_ _ h=>h.elim)
def dM.getV(S:dM)(n:Int):Ac×Int:=((S.getO n).getD ⟨0,0,false,false⟩,if S.getO n=none then 7 else 0)
def zY{w:World}{l:Nat}{F:Nat->Prop}{S:dM}{K:cm}{n:Int}(h:iC w l F S)
  (d:∀k,cl (λ_=>False) w k->K (.tuple #[gR (S.getV n).1,.int .i64 (S.getV n).2]) k):Ca Tryz.prog 52 #[dm l,.int .u32 n] w K:=by
 have q:=h;obtain⟨⟨t,v,A,B,h1,j,C,r,z,D,y⟩,u⟩:=h;have p:=cn h1;apply QZ;simp[go_sem];generalize e:w.alloc _=f;have a:cl (λ_=>False) w f:=by subst e;exact(cl.refl _ w).alloc _
 have b:hp f w.heap.size=some (.cells #[.int .u32 0,.int .i64 0,.bool false,.bool false] 92 (0,0)):=by subst e;simp[go_sem]
 have s:=q.mod a λ_ _ h=>h;refine lI s ?_;have i:=a.keep h1 id;have g:=j.mod a id;simp[go_sem,dm,cO i];refine yj (enc:=d8) (ev:=gR) (x:=n) (gR ⟨0,0,false,false⟩) lU pG Qd (.inr ⟨t,rfl,g⟩) ?_;rw[qu,iC.lkA j r];have m:=cn b;have c:w.heap.size≠f.heap.size:=by omega
 unfold dM.getV at d;cases o:S.getO n with
 |none=>
  rw[o]at d;simp[go_sem,gR,cO b,c];refine d _ ?_;exact((((a.alloc _).setCell (.inr (Nat.le_refl _)) _ _).setCell (.inr (Nat.le_refl _)) _ _).setCell (.inr (Nat.le_refl _)) _ _).setCell (.inr (Nat.le_refl _)) _ _
 |some x=>
  rw[o]at d;simp[go_sem,gR,cO b,c];refine d _ ?_;exact((((a.alloc _).setCell (.inr (Nat.le_refl _)) _ _).setCell (.inr (Nat.le_refl _)) _ _).setCell (.inr (Nat.le_refl _)) _ _).setCell (.inr (Nat.le_refl _)) _ _
def H8{a:Int}{w:World}{K:cm}(e: -9223372036854775808<=a/\a<9223372036854775808)(b:K (.tuple #[.int .u64 (if a<0 then -a else a),.bool (decide (a<0))]) w):Ca Tryz.prog 221 #[.int .i64 a] w K:=by
 apply MQ;simp[go_sem];by_cases h:a<0
 ·rw[if_pos h]at b|-
  have c:IntKind.u64.wrap a=a+18446744073709551616:=by
   simp[IntKind.wrap,IntKind.bits,IntKind.signed];omega
  have d:IntKind.u64.wrap (-(a+18446744073709551616))= -a:=by
   simp[IntKind.wrap,IntKind.bits,IntKind.signed];omega
  simp[c,d,h]at b|-;exact b
 ·rw[if_neg h]at b|-
  have c:IntKind.u64.wrap a=a:=by
   simp[IntKind.wrap,IntKind.bits,IntKind.signed];omega
  simp[c,h]at b|-;exact b
def qX{a m:Int}{w:World}{K:cm}(f: -9223372036854775808<=a/\a<9223372036854775808)(c:0<=m/\m<9223372036854775808)(b:K (.bool (cy a (-m) m)) w):Ca Tryz.prog 130 #[.int .i64 a,.int .i64 m] w K:=by
 apply OF;refine H8 f ?_
 have d:IntKind.u64.wrap m=m:=by
  simp[IntKind.wrap,IntKind.bits,IntKind.signed];omega
 simp[go_sem,d,c.1]
 have e:cy a (-m) m=decide ((if a<0 then -a else a)<=m):=by
  unfold cy;rw[decide_eq_decide];split<;>omega
 rw[e]at b;exact b
def Lj:eN Tryz.prog 112 4 24=true:=by kernel_rfl
end Go.Proofs
