/- Part of a proof. -/
import Derived.Laws.CopyRow
import Derived.Laws.Append
import Derived.Laws.MakeOwn
import Derived.Laws.IdiomStrings
import Derived.Laws.BytesString
import Derived.MapKept
import Derived.ProofKit
import Derived.ChangeReads
import Derived.OpenShut
import Derived.Test.YtgebhcgmckjbbaaGreatRows
import Derived.WalkKit
import Derived.Test.YtgebhcgmckjbbaaGreatB2
set_option linter.all false
namespace Go.Vc
open Go Go.Vc
def fM{P:Program}{s:Sem Value}{w:World}{K:cm}{v:Value}{w' :World}(h:s.run P w=.ok v w')(a:K v w'):rx P s w K:=
 ⟨⟨by unfold Kd;rw[h];exact a⟩⟩
def Gr{P:Program}{s:Sem Unit}{w:World}{K:World->Prop}{w' :World}(h:s.run P w=.ok () w')(a:K w'):gh P s w K:=
 ⟨⟨by unfold JG;rw[h];exact a⟩⟩
def jg{P:Program}{s:Sem Value}{w:World}{K:Value->Prop}{v:Value}(h:s.run P w=.ok v w)(a:K v):iD P s w K:=
 ⟨⟨by unfold yr;rw[h];exact⟨rfl,a⟩⟩⟩
def cC(b off i:Nat):(⟨b,off,none⟩:Addr).add i=⟨b,off+i,none⟩:=by
 unfold Addr.add;split<;>simp_all
def dx(w:World)(g:Nat)(cs:Array Value)(b:Nat):(w.setRow g cs).heap[b]? =if b=g then(match w.heap[g]? with|some (.cells _ t c)=>some (.cells cs t c)|o=>o)else w.heap[b]? :=by
 by_cases h:b=g
 ·subst h;rw[if_pos rfl];cases a:w.heap[b]? with
  |none=>
   simp only;have:w.heap.size<=b:=by simpa using a
   simp[World.setRow,this]
  |some o=>
   cases o<;>first|exact setRow_heap w b _ cs _ _ a|(simp only[World.setRow,Array.getElem?_modify,if_true,a];rfl)
 ·rw[if_neg h];exact setRow_other w g b cs h
@[go_sem] theorem vz (w:World) (g:Nat) (cs:Array Value) (b:Nat):hp (w.setRow g cs) b=if b=g then(match hp w g with|some (.cells _ t a)=>some (.cells cs t a)|o=>o)else hp w b:=dx w g cs b
attribute [go_sem] setRow_size
def cl.setRow{F:Nat->Prop}{w w' :World}(h:cl F w w'){b:Nat}(a:F b\/w.heap.size<=b)(cs:Array Value):cl F w (w'.setRow b cs):=
 ⟨by rw[setRow_size];exact h.size,h.out,h.os,λf c d=>by
  rw[setRow_other _ _ _ _ (λe=>by subst e;rcases a with a|a;exact d a;omega)];exact h.blk f c d⟩
def At(w:World)(b off:Nat)(cs:List Value):Prop:=∃c e fz,w.heap[b]? =some (.cells c e fz)/\off+cs.length<=c.size/\(c.toList.drop off).take cs.length=cs
def At.cell{w:World}{b off:Nat}{cs:List Value}(h:At w b off cs)(j:Nat)(v:Value)(a:cs[j]? =some v):w.cell? ⟨b,off+j,none⟩=some v:=by
 obtain⟨c,e,i,g,k,f⟩:=h;have d:j<cs.length:=(List.getElem?_eq_some_iff.1 a).1;rw[<-f,List.getElem?_take,if_pos d,List.getElem?_drop]at a;simp only[World.cell?,g];simpa using a
def At.get{w:World}{b off:Nat}{cs:List Value}(h:At w b off cs):∃C e a,hp w b=some (.cells C e a)/\∀j v,cs[j]? =some v->C[off+j]? =some v:=by
 obtain⟨c,e,a,i,k,g⟩:=h;refine⟨c,e,a,i,λj v d=>?_⟩;have f:j<cs.length:=(List.getElem?_eq_some_iff.1 d).1;rw[<-g,List.getElem?_take,if_pos f,List.getElem?_drop]at d;simpa using d
def At.loads{P:Program}{w:World}{b off:Nat}{cs:List Value}(h:At w b off cs):(loadCells ⟨b,off,none⟩ cs.length).run P w=.ok cs.toArray w:=
 run_loadCells_list w _ cs λj v a=>by rw[cC];exact h.cell j v a
def At.keep{w w' :World}{b off:Nat}{cs:List Value}(h:At w b off cs)(f:w'.heap[b]? =w.heap[b]?):At w' b off cs:=by
 obtain⟨c,e,a,g,d⟩:=h;exact⟨c,e,a,by rw[f];exact g,d⟩
def At.mod{F:Nat->Prop}{w w' :World}{b off:Nat}{cs:List Value}(h:At w b off cs)(d:cl F w w')(f:¬F b):At w' b off cs:=by
 obtain⟨c,e,a,i,g⟩:=h;exact⟨c,e,a,d.keep i f,g⟩
def At.lt{w:World}{b off:Nat}{cs:List Value}(h:At w b off cs):b<w.heap.size:=by
 obtain⟨c,e,d,a,_⟩:=h;exact cn a
def At.sub{w:World}{b off:Nat}{cs:List Value}(h:At w b off cs)(i k:Nat)(j:i+k<=cs.length):At w b (off+i) ((cs.drop i).take k):=by
 obtain⟨c,e,d,g,l,f⟩:=h;have a:((cs.drop i).take k).length=k:=by simp;omega
 refine⟨c,e,d,g,by rw[a];omega,?_⟩;rw[a]
 conv=>rhs;rw[<-f]
 rw[List.drop_take,List.take_take,List.drop_drop,Nat.min_eq_left (by omega)]
def iA(P:Program)(t:TypeId):Bool:=
 match P.underlying t with
 |some (.struct _)|some (.array ..)=>true
 |_=>false
def rp{P:Program}{t:TypeId}(h:iA P t=true)(w:World):(isAgg t).run P w=.ok true w:=by
 unfold iA at h;unfold isAgg;split at h
 ·rename_i a;simp[Sem.run_bind,run_underlying a,Result.andThen]
 ·rename_i a;simp[Sem.run_bind,run_underlying a,Result.andThen]
 ·cases h
def jM{P:Program}{t:TypeId}{n:Nat}(h:P.cellsOf t=n+1):∃i,P.info? t=some i/\i.size=n+1:=by
 unfold Program.cellsOf at h;cases a:P.info? t with
 |none=>simp[a]at h
 |some i=>exact⟨i,rfl,by simpa [a]using h⟩
def fX{P:Program}{t:TypeId}{n:Nat}(h:P.cellsOf t=n+1)(w:World):(sizeOf t).run P w=.ok (n+1) w:=by
 obtain⟨i,b,a⟩:=jM h;simp[sizeOf,typeInfo,b,a]
def fw{P:Program}{t:TypeId}{w:World}{b off:Nat}{cs:List Value}{n:Nat}(d:iA P t=true)(c:P.cellsOf t=n+1)(a:cs.length=n+1)(h:At w b off cs):
  (dh t (.pointer (some ⟨b,off,none⟩))).run P w=.ok (.agg cs.toArray) w:=by
 have:=h.loads (P:=P);rw[a]at this;simp[dh,Instr.loadAt,Instr.sureAddr,loadVar,Sem.run_bind,rp d,fX c,Result.andThen,this]
def ey{P:Program}{t:TypeId}{w:World}{K:cm}{b off:Nat}(cs:List Value)(n:Nat)(e:iA P t=true)(c:P.cellsOf t=n+1)(a:cs.length=n+1)(h:At w b off cs)(d:K (.agg cs.toArray) w):
  rx P (dh t (.pointer (some ⟨b,off,none⟩))) w K:=fM (fw e c a h) d
def eX{P:Program}{t:TypeId}{w:World}{K:Value->Prop}{b off:Nat}(cs:List Value)(n:Nat)(e:iA P t=true)(c:P.cellsOf t=n+1)(a:cs.length=n+1)(h:At w b off cs)(d:K (.agg cs.toArray)):
  iD P (dh t (.pointer (some ⟨b,off,none⟩))) w K:=jg (fw e c a h) d
def iL(c:List Value)(off:Nat)(cs:List Value):List Value:=c.take off++cs++c.drop (off+cs.length)
def jI{c cs:List Value}(h:cs.length=c.length):iL c 0 cs=cs:=by simp[iL,h]
def jw{cs:List Value}(h:cs.all (·.oneCell')=true):∀v∈cs,v.oneCell' =true:=λv a=>List.all_eq_true.1 h v a
def qF{P:Program}{t:TypeId}{w:World}{b off:Nat}{cs:List Value}{n:Nat}{c:Array Value}{e:TypeId}(f:P.cellsOf t=n+1)(d:cs.length=n+1)
  (h:w.heap[b]? =some (.cells c e (0,0)))(a:off+cs.length<=c.size)(h1:cs.all (·.oneCell')=true):
  (ew t (.pointer (some ⟨b,off,none⟩)) (.agg cs.toArray)).run P w=.ok () (w.setRow b (iL c.toList off cs).toArray):=by
 have:=run_storeCells_at P b off e cs 0 c w h (by simpa using a) (jw h1);simp only[Nat.add_zero]at this;simp[ew,Instr.storeAt,Instr.sureAddr,storeVar,Sem.run_bind,fX f,Value.cells,d,Result.andThen,this,iL]
def iO{P:Program}{t:TypeId}{w:World}{K:World->Prop}{b off:Nat}{cs:List Value}{n:Nat}{c:Array Value}{e:TypeId}(f:P.cellsOf t=n+1)(d:cs.length=n+1)
  (h:w.heap[b]? =some (.cells c e (0,0)))(a:off+cs.length<=c.size)(h1:cs.all (·.oneCell')=true)(g:K (w.setRow b (iL c.toList off cs).toArray)):
  gh P (ew t (.pointer (some ⟨b,off,none⟩)) (.agg cs.toArray)) w K:=Gr (qF f d h a h1) g
def kW(P:Program)(t:TypeId):List Value:=
 match (P.info? t).bind (·.zero)with
 |some z=>z.cells.toList
 |none=>[]
def kX(P:Program)(t:TypeId):Bool:=((P.info? t).bind (·.zero)).isSome
def GX{P:Program}{t:TypeId}{w:World}(c:kX P t=true):
  (iz t).run P w=.ok (.pointer (some ⟨w.heap.size,0,none⟩)) (w.alloc (.cells (kW P t).toArray t)):=by
 unfold kX at c;cases b:P.info? t with
 |none=>simp[b]at c
 |some i=>
  cases a:i.zero with
  |none=>simp[b,a]at c
  |some z=>simp[iz,Instr.alloc,zeroValue,typeInfo,b,a,newVar,newRow,kW]
def kY{P:Program}{t:TypeId}{w:World}{K:cm}(b:kX P t=true)(a:K (.pointer (some ⟨w.heap.size,0,none⟩)) (w.alloc (.cells (kW P t).toArray t))):
  rx P (iz t) w K:=fM (GX b) a
def oz{P:Program}{t:TypeId}{a:Array (Nat×Value)}{w:World}{K:cm}{b:Array Value}(h:P.built t a.toList=some b)(c:K (.agg b) w):
  rx P (sF t a) w K:=fM (by unfold sF;exact run_build w t a b h) c
def GN{c:List Value}{off:Nat}{v:Value}{a:List Value}(h:off+(a.length+1)<=c.length):iL (c.set off v) (off+1) a=iL c off (v::a):=by
 simp only[iL,List.length_cons]
 have b:(c.set off v).take (off+1)=c.take off++[v]:=by
  rw[List.take_succ_eq_append_getElem (by simp;omega),List.take_set_of_le (Nat.le_refl _)];simp
 have d:(c.set off v).drop (off+1+a.length)=c.drop (off+(a.length+1)):=by
  rw[List.drop_set_of_lt (by omega),show off+1+a.length=off+(a.length+1) by omega]
 rw[b,d];simp
def ve(off:Nat):∀(a:List Value) (k:Nat) (c:Array Value),off+k+a.length<=c.size->
  ((a.zipIdx k).foldl (λb p=>b.setIfInBounds (off+p.2) p.1) c).toList=iL c.toList (off+k) a
 | [],k,c,_=>by simp[iL]
 |v::a,k,c,h=>by
  simp only[List.zipIdx_cons,List.foldl_cons];simp only[List.length_cons]at h;rw[ve off a (k+1) _ (by simp;omega),Array.toList_setIfInBounds,show off+(k+1)=off+k+1 by omega,GN (by simp;omega)]
def oG{b:Nat->Option (Nat×Nat)}{a:List Value}{i off size:Nat}{v:Value}{rest:List (Nat×Value)}(hp:b i=some (off,size))(d:v.cells.size=size)(h:off+size<=a.length):
  Instr.fill b a.toArray ((i,v)::rest)=Instr.fill b (iL a off v.cells.toList).toArray rest:=by
 have c:¬(v.cells.size≠size\/off+v.cells.size>a.toArray.size):=by simp only[List.size_toArray];omega
 simp only[Instr.fill,hp];rw[if_neg (by simpa using c)];congr 1;apply Array.ext';have:=ve off v.cells.toList 0 a.toArray (by simp;omega);simp only[Nat.add_zero]at this;rw[<-this,<-Array.toList_zipIdx,Array.foldl_toList]
def t7{b:Nat->Option (Nat×Nat)}{a:Array Value}:Instr.fill b a []=some a:=rfl
def Rd(w:World)(sz:Nat)(v:Value)(n:Nat)(cs:List Value):Prop:=
 cs.length=n*sz/\((n=0/\∃a c,v=.slice a 0 c)\/∃b off cap,v=.slice (some ⟨b,off,none⟩) n cap/\n<=cap/\At w b off cs)
def eM(v:Value)(b:Nat):Prop:=∃a n c,v=.slice (some a) n c/\n≠0/\a.block=b
def uw:Value->Option Nat
 | .slice (some a) _ _=>some a.block
 |_=>none
def dW(w:World)(e:TypeId)(sz:Nat)(v:Value)(n:Nat)(cs:List Value):Prop:=
 cs.length=n*sz/\((v=.slice none 0 0/\n=0)\/∃b cap rest,v=.slice (some ⟨b,0,none⟩) n cap/\n<=cap/\w.heap[b]? =some (.cells (cs++rest).toArray e (0,0))/\rest.length=(cap - n)*sz/\(rest.all (·.oneCell')=true))
def co(v:Value)(b:Nat):Prop:=uw v=some b
def dW.keep{w w' :World}{e:TypeId}{sz:Nat}{v:Value}{n:Nat}{cs:List Value}(h:dW w e sz v n cs)(g:∀b,co v b->w'.heap[b]? =w.heap[b]?):dW w' e sz v n cs:=by
 obtain⟨c,h|⟨b,a,rest,rfl,i,d,f⟩⟩:=h
 ·exact⟨c,.inl h⟩
 ·exact⟨c,.inr ⟨b,a,rest,rfl,i,by rw[g b rfl];exact d,f⟩⟩
def dW.lt{w:World}{e:TypeId}{sz:Nat}{v:Value}{n:Nat}{cs:List Value}(h:dW w e sz v n cs){b:Nat}(a:co v b):b<w.heap.size:=by
 obtain⟨f,⟨rfl,_⟩|⟨i,d,rest,rfl,j,c,g⟩⟩:=h
 ·cases a
 ·cases a;exact cn c
def dW.nil(w:World)(e:TypeId)(sz:Nat):dW w e sz (.slice none 0 0) 0 []:=⟨by simp,.inl ⟨rfl,rfl⟩⟩
def dW.mod{F:Nat->Prop}{w w' :World}{e:TypeId}{sz:Nat}{v:Value}{n:Nat}{cs:List Value}(h:dW w e sz v n cs)(c:cl F w w')(d:∀b,co v b->¬F b):dW w' e sz v n cs:=
 h.keep λb a=>c.blk b (h.lt a) (d b a)
def eM.sl{v:Value}{b:Nat}(h:eM v b):co v b:=by
 obtain⟨a,n,c,rfl,-,rfl⟩:=h;rfl
def dW.rd{w:World}{e:TypeId}{sz:Nat}{v:Value}{n:Nat}{cs:List Value}(h:dW w e sz v n cs):Rd w sz v n cs:=by
 obtain⟨c,⟨rfl,rfl⟩|⟨b,a,rest,rfl,f,d,g⟩⟩:=h
 ·exact⟨c,.inl ⟨rfl,_,_,rfl⟩⟩
 ·exact⟨c,.inr ⟨b,0,a,rfl,f,⟨_,_,_,d,by simp,by simp⟩⟩⟩
def Rd.keep{w w' :World}{sz:Nat}{v:Value}{n:Nat}{cs:List Value}(h:Rd w sz v n cs)(g:∀b,eM v b->w'.heap[b]? =w.heap[b]?):Rd w' sz v n cs:=by
 obtain⟨c,h|⟨b,a,d,rfl,i,f⟩⟩:=h
 ·exact⟨c,.inl h⟩
 ·by_cases e:n=0
  ·subst e;exact⟨c,.inl ⟨rfl,_,_,rfl⟩⟩
  ·exact⟨c,.inr ⟨b,a,d,rfl,i,f.keep (g b ⟨_,_,_,rfl,e,rfl⟩)⟩⟩
def Rd.lt{w:World}{sz:Nat}{v:Value}{n:Nat}{cs:List Value}(h:Rd w sz v n cs){b:Nat}(f:eM v b):b<w.heap.size:=by
 obtain⟨a,m,c,rfl,q,rfl⟩:=f;obtain⟨p,⟨rfl,o,l,e⟩|⟨b,j,g,e,s,k⟩⟩:=h
 ·injection e with d i;omega
 ·injection e with d i r;injection d with d;subst d;exact k.lt
def Rd.mod{F:Nat->Prop}{w w' :World}{sz:Nat}{v:Value}{n:Nat}{cs:List Value}(h:Rd w sz v n cs)(c:cl F w w')(d:∀b,eM v b->¬F b):Rd w' sz v n cs:=
 h.keep λb a=>c.blk b (h.lt a) (d b a)
def Rd.first{P:Program}{w:World}{sz:Nat}{v:Value}{n:Nat}{cs:List Value}(h:Rd w sz v n cs)(j:0<sz):
  (Builtin.firstCells sz n v).run P w=.ok cs.toArray w:=by
 obtain⟨d,⟨rfl,a,c,rfl⟩|⟨b,e,g,rfl,i,f⟩⟩:=h
 ·have:cs=[]:=by simpa using d
  subst this;cases a<;>simp[Builtin.firstCells,loadCells,loadCellsFrom]
 ·have:=f.loads (P:=P);rw[d]at this;simpa [Builtin.firstCells]using this
def Rd.isSl{w:World}{sz:Nat}{v:Value}{n:Nat}{cs:List Value}(h:Rd w sz v n cs):∃a c,v=.slice a n c:=by
 obtain⟨_,⟨rfl,a,c,rfl⟩|⟨b,d,e,rfl,_⟩⟩:=h
 ·exact⟨_,_,rfl⟩
 ·exact⟨_,_,rfl⟩
def Rd.lenOf{P:Program}{w:World}{sz:Nat}{v:Value}{n:Nat}{cs:List Value}(h:Rd w sz v n cs)(w1:World):(Builtin.lenOf v).run P w1=.ok n w1:=by
 obtain⟨f,⟨rfl,a,c,rfl⟩|⟨b,d,e,rfl,i,g⟩⟩:=h<;>rfl
end Go.Vc
namespace Go.Vc
open Go Go.Vc
structure pg(P:Program)(e:TypeId)(sz by_:Nat):Prop where
 ok:∃i z,P.info? e=some i/\i.zero=some z/\i.size=sz/\i.bytes=by_/\z.cells.size=sz/\z.cells.toList.all (·.oneCell')=true
 pos:0<sz
 bpos:0<by_
def eN(P:Program)(e:TypeId)(sz by_:Nat):Bool:=
 Nat.blt 0 sz&& Nat.blt 0 by_&& match P.info? e with
 |none=>false
 |some i=>match i.zero with
  |none=>false
  |some z=>Nat.beq i.size sz&& Nat.beq i.bytes by_&& Nat.beq z.cells.size sz&& z.cells.toList.all (·.oneCell')
def cI{P:Program}{e:TypeId}{sz a:Nat}(h:eN P e sz a=true):pg P e sz a:=by
 unfold eN at h;simp only[Bool.and_eq_true]at h;obtain⟨⟨h1,f⟩,h⟩:=h;cases b:P.info? e with
 |none=>rw[b]at h;cases h
 |some i=>
  rw[b]at h;simp only at h;cases c:i.zero with
  |none=>rw[c]at h;cases h
  |some z=>
   rw[c]at h;simp only[Bool.and_eq_true]at h;obtain⟨⟨⟨k,g⟩,j⟩,d⟩:=h;exact⟨⟨i,z,b,c,Nat.eq_of_beq_eq_true k,Nat.eq_of_beq_eq_true g,Nat.eq_of_beq_eq_true j,d⟩,by simpa [Nat.blt_eq]using h1,by simpa [Nat.blt_eq]using f⟩
def jH{z:Array Value}(h:z.toList.all (·.oneCell')=true)(hp:0<z.size)(n:Nat):(Builtin.zeroCells z n).toList.all (·.oneCell')=true:=by
 unfold Builtin.zeroCells;simp only[Array.toList_map,List.all_map,List.all_eq_true];intro i _;have a:i%z.size<z.size:=Nat.mod_lt _ hp;simp only[Function.comp_apply];rw[getElem!_pos z _ a];exact List.all_eq_true.1 h _ (by simp)
def jK(z:Array Value)(n:Nat):(Builtin.zeroCells z n).toList.length=n*z.size:=by simp[Builtin.zeroCells]
def dt{P:Program}{t u ty e:TypeId}{sz q:Nat}{w:World}{K:cm}{s x:Value}{n m:Nat}{cs a:List Value}
  (Q:P.underlying t=some (.slice e)){e' :TypeId}(X:P.underlying u=some (.slice e'))(hE:pg P e sz q)
  (L:dW w e sz s n cs)(C:Rd w sz x m a)(h1:a.all (·.oneCell')=true)(I:(n+m)*q<=140737488355328)
  (T:∀M E,dW E e sz M (n+m) (cs++a)->cl (co s) w E->(∀b,co M b->co s b\/w.heap.size<=b)->K M E):
  rx P (cv #[t,u] ty [s,x]) w K:=by
 obtain⟨⟨i,z,Y,hz,y,W,G,S⟩,k,r⟩:=hE;have V:n+m<=140737488355328:=Nat.le_trans (Nat.le_mul_of_pos_right _ r) I;have g:cs.length=n*sz:=L.1;have d:a.length=m*sz:=C.1;have B:=λw1 (h:Rd w1 sz x m a)=>h.first (P:=P) k
 obtain⟨f,c,O,hcap,H⟩:∃f c,s=.slice f n c/\n<=c/\((f=none/\n=0/\c=0/\cs=[])\/∃b rest,f=some ⟨b,0,none⟩/\w.heap[b]? =some (.cells (cs++rest).toArray e (0,0))/\rest.length=(c - n)*sz/\rest.all (·.oneCell')=true):=by
  rcases L.2 with⟨rfl,rfl⟩|⟨b,c,rest,rfl,hc,J,hr⟩
  ·exact⟨none,0,rfl,Nat.le_refl _,.inl ⟨rfl,rfl,rfl,by simpa using g⟩⟩
  ·exact⟨_,c,rfl,hc,.inr ⟨b,rest,rfl,J,hr⟩⟩
 subst O;by_cases j:n+m<=c
 ·rcases H with⟨rfl,rfl,rfl,rfl⟩|⟨b,rest,rfl,J,F,Z⟩
  ·have hm:m=0:=by omega
   subst hm;have A:a=[]:=by simpa using d
   subst A;refine fM (v:=.slice none 0 0) (w' :=w) ?_ (T _ _ L (cl.refl _ _) (λb I=>.inl I));have:=B w C;simp[cv,Builtin.append_,run_underlying Q,sizeOf,typeInfo,Y,y,run_underlying X,C.lenOf,Result.andThen,this]
  ·have o:=run_storeCells_at P b (n*sz) e a 0 (cs++rest).toArray w J (by simp[g,F,d];exact Nat.mul_le_mul_right _ (by omega)) (jw h1);simp only[Nat.add_zero]at o
   have p:(cs++rest).take (n*sz)++a++(cs++rest).drop (n*sz+a.length)=(cs++a)++rest.drop a.length:=by
    rw[<-g];simp[List.append_assoc]
   refine fM (v:=.slice (some ⟨b,0,none⟩) (n+m) c) (w' :=w.setRow b ((cs++a)++rest.drop a.length).toArray) ?_ (T _ _ ⟨?_,.inr ⟨b,c,rest.drop a.length,rfl,j,?_,?_,?_⟩⟩ ?_ ?_)
   ·have:=B w C;simp only[p]at o;have e0:(⟨b,0,none⟩:Addr).add (n*sz)=⟨b,n*sz,none⟩:=by rw[cC];simp
    simp[cv,Builtin.append_,run_underlying Q,sizeOf,typeInfo,Y,y,run_underlying X,C.lenOf,Result.andThen,this,j,e0,o]
   ·simp[g,d,Nat.add_mul]
   ·rw[dx,if_pos rfl,J]
   ·simp[F,d];rw[<-Nat.sub_mul];congr 1;omega
   ·exact List.all_eq_true.2 λv hv=>List.all_eq_true.1 Z v (List.mem_of_mem_drop hv)
   ·exact(cl.refl (co (.slice (some ⟨b,0,none⟩) n c)) w).setRow (.inl (show co _ b from rfl)) _
   ·intro b' D;exact .inl D
 ·have hfit:=growslice_fits (old:=c) (need:=n+m) (bytes:=q) (by omega) I;have N:¬(281474976710656<Builtin.nextslicecap (n+m) c*i.bytes):=by rw[W];omega
  have U:¬(9223372036854775807<((n:Int)+(m:Int))):=by omega
  have l:n+m<=grownCap w (n+m) c e:=by simp[grownCap,Question.cut]
  have R:Rd w.drew sz (.slice f n c) n cs:=L.rd.keep λ_ _=>rfl;have hf1:=R.first (P:=P) k;have hf2:=B w.drew (C.keep λ_ _=>rfl)
  refine fM (v:=.slice (some ⟨w.heap.size,0,none⟩) (n+m) (grownCap w (n+m) c e))
   (w' :=w.drew.alloc (.cells (cs.toArray++a.toArray++Builtin.zeroCells z.cells (grownCap w (n+m) c e - (n+m))) e)) ?_ (T _ _ ⟨?_,.inr ⟨w.heap.size,_,(Builtin.zeroCells z.cells (grownCap w (n+m) c e - (n+m))).toList,rfl,l,?_,?_,?_⟩⟩ ?_ ?_)
  ·simp[cv,Builtin.append_,run_underlying Q,sizeOf,typeInfo,zeroValue,Y,hz,y,run_underlying X,C.lenOf,Result.andThen,j,U,N,Question.forced,hf1,hf2,newRow,grownCap];rw[<-Array.append_assoc];congr 2;simp
  ·simp[g,d,Nat.add_mul]
  ·rw[cY,if_pos (show w.heap.size=w.drew.heap.size from rfl)];simp
  ·rw[jK,G]
  ·exact jH S (by rw[G];exact k) _
  ·exact((cl.refl _ w).drew).alloc _
  ·rintro b' D;cases D;exact .inr (Nat.le_refl _)
def wT(w:World)(c:Array Value)(t:TypeId)(cs:Array Value):(w.alloc (.cells c t)).setRow w.heap.size cs=w.alloc (.cells cs t):=by
 unfold World.setRow World.alloc;simp only;congr 1;apply Array.ext
 ·simp
 ·intro i h1 b;simp only[Array.getElem_modify,Array.getElem_push];by_cases h:w.heap.size=i
  ·subst h;simp
  ·have a:i<w.heap.size:=by simp at h1;omega
   simp[h,a]
def Cp{P:Program}{t:TypeId}{w:World}{K:cm}{cs:List Value}(n:Nat)(i:kX P t=true)(f:P.cellsOf t=n+1)(b:cs.length=n+1)(a:(kW P t).length=n+1)(h1:cs.all (·.oneCell')=true)
  (g:K (.pointer (some ⟨w.heap.size,0,none⟩)) (w.alloc (.cells cs.toArray t))):rx P (iz t) w λv d=>gh P (ew t v (.agg cs.toArray)) d λh=>K v h:=by
 refine kY i ?_;refine iO (c:=(kW P t).toArray) (e:=t) f b (by rw[cY,if_pos rfl]) (by simp[b,a]) h1 ?_;rw[jI (by simp[b,a]),wT];exact g
def jd{α:Type}(f:α->List Value)(sz:Nat):∀(a:List α) (i:Nat) (b:∀x∈a,(f x).length=sz) (h:i<a.length),((a.flatMap f).drop (i*sz)).take sz=f a[i]
 |x::a,0,b,h=>by simp[List.take_append_of_le_length (Nat.le_of_eq (b x (by simp)).symm),List.take_of_length_le (Nat.le_of_eq (b x (by simp)))]
 |x::a,i+1,b,h=>by
  have e:(i+1)*sz=(f x).length+i*sz:=by rw[b x (by simp),Nat.add_mul];omega
  simp only[List.flatMap_cons,List.getElem_cons_succ];rw[e,<-List.drop_drop,List.drop_left];exact jd f sz a i (λy c=>b y (by simp[c])) (by simpa using h)
def kw{α:Type}(f:α->List Value)(sz:Nat):∀(a:List α) (b:∀x∈a,(f x).length=sz),(a.flatMap f).length=a.length*sz
 | [],_=>by simp
 |x::a,b=>by simp[b x (by simp),kw f sz a λy c=>b y (by simp[c]),Nat.add_mul];omega
def dW.isSl{w:World}{e:TypeId}{sz:Nat}{s:Value}{n:Nat}{cs:List Value}(h:dW w e sz s n cs):∃a c,s=.slice a n c/\n<=c:=by
 obtain⟨_,⟨rfl,rfl⟩|⟨b,d,_,rfl,f,_⟩⟩:=h
 ·exact⟨none,0,rfl,Nat.le_refl _⟩
 ·exact⟨_,_,rfl,f⟩
def dW.elem{w:World}{e:TypeId}{sz:Nat}{s:Value}{n:Nat}{cs:List Value}(h:dW w e sz s n cs){i:Nat}(hi:i<n):
  ∃b a,s=.slice (some ⟨b,0,none⟩) n a/\At w b (i*sz) ((cs.drop (i*sz)).take sz):=by
 obtain⟨f,⟨rfl,rfl⟩|⟨b,a,rest,rfl,k,g,j⟩⟩:=h
 ·omega
 ·have c:i*sz+sz<=cs.length:=by
   rw[f];have:(i+1)*sz<=n*sz:=Nat.mul_le_mul_right _ hi;rw[Nat.add_mul]at this;omega
  have d:At w b 0 cs:=⟨_,_,_,g,by simp,by simp⟩
  have:=d.sub (i*sz) sz c;exact⟨b,a,rfl,by simpa using this⟩
def yQ(sz:Nat):∀(b:List Value) (i:Nat) (pre rest:List Value),(∀v∈b,v.cells.size=sz)->pre.length=i*sz->rest.length=b.length*sz->
  Instr.fill (λi=>some (i*sz,sz)) (pre++rest).toArray ((b.zipIdx i).map λp=>(p.2,p.1))=some (pre++b.flatMap (·.cells.toList)).toArray
 | [],i,pre,rest,_,_,c=>by
  have:rest=[]:=by simpa using c
  subst this;simp[t7]
 |v::b,i,pre,rest,f,hp,c=>by
  have a:=f v (by simp);have g:sz<=rest.length:=by rw[c,List.length_cons,Nat.add_mul];omega
  simp only[List.zipIdx_cons,List.map_cons];rw[oG (off:=i*sz) (size:=sz) rfl a (by simp;omega)]
  have e:iL (pre++rest) (i*sz) v.cells.toList=(pre++v.cells.toList)++rest.drop sz:=by
   have d:v.cells.toList.length=sz:=by simpa using a
   simp only[iL,d];rw[<-hp,List.take_left,<-List.drop_drop,List.drop_left]
  rw[e,yQ sz b (i+1) _ _ (λu h=>f u (by simp[h])) (by simp[a,hp,Nat.add_mul]) (by simp[c,Nat.add_mul])];simp
def fg{P:Program}{t e:TypeId}{sz j n:Nat}{w:World}{K:cm}{a:List (Nat×Value)}(b:List Value)(q:P.underlying t=some (.slice e))(B:pg P e sz j)
  (hp:a=b.zipIdx.map λp=>(p.2,p.1))(D:b.length=n)(E:∀v∈b,v.cells.size=sz)(F:n*sz<=16777216)
  (x:K (.slice (some ⟨w.heap.size,0,none⟩) n n) (w.alloc (.cells (b.flatMap (·.cells.toList)).toArray e))):rx P (dP t n a) w K:=by
 obtain⟨⟨i,z,s,A,d,C,m,y⟩,r,l⟩:=B;subst hp;have o:¬(2 ^ 24<n*sz):=by omega
 refine fM ?_ x
 have c:∀f:Array Value,(f.toList.length=n*sz)->Instr.fill (λi=>some (i*sz,sz)) f (b.zipIdx.map λp=>(p.2,p.1))=some (b.flatMap (·.cells.toList)).toArray:=λf k=>by
  have:=yQ sz b 0 [] f.toList E (by simp) (by rw[D];exact k);simpa using this
 by_cases g:n*sz=0
 ·have h:=c (Array.map (λ_=>default) (Array.range 0)) (by simp[g]);simp[dP,Instr.buildSlice,run_underlying q,sizeOf,typeInfo,s,d,g,h,newRow,Result.andThen]
 ·have h:=c ((Array.range (n*sz)).map (z.cells[·%z.cells.size]!)) (by simp);have u:Instr.fill (λi=>some (i*sz,sz)) ((Array.range (n*sz)).map (z.cells[·%sz]!)) (b.zipIdx.map λp=>(p.2,p.1))=some (b.flatMap (·.cells.toList)).toArray:=by rw[<-m]at h|-;exact h
  simp[dP,Instr.buildSlice,run_underlying q,sizeOf,typeInfo,zeroValue,s,A,d,g,o,h,u,newRow,Result.andThen]
def bv(l:List UInt8):List Value:=l.map λu=>.int .u8 (u.toNat:Int)
@[simp] theorem L5 (l:List UInt8):(bv l).length=l.length:=by simp[bv]
@[simp] theorem RO:bv []=[]:=rfl
@[simp] theorem kp (l l' :List UInt8):bv (l++l')=bv l++bv l' :=by simp[bv]
def II(l:List UInt8)(n:Nat):(bv l).drop n=bv (l.drop n):=by simp[bv]
def rl(l:List UInt8):(bv l).all (·.oneCell')=true:=by simp[bv,Value.oneCell']
def Cl(ns:List UInt8):∀s:ByteArray,((ns.map λu=>(u.toNat:Int)).foldl (λr n=>r.push (UInt8.ofNat n.toNat)) s)=⟨s.data++ns.toArray⟩:=by
 induction ns with
 |nil=>intro s;simp
 |cons n ns a=>
  intro s;simp only[List.map_cons,List.foldl_cons];rw[a];simp[ByteArray.push]
def jT(l:List UInt8):ByteArray:=⟨l.toArray⟩
def rk{P:Program}{s d e:TypeId}{w:World}{v:Value}{n:Nat}{l:List UInt8}
  (k:P.underlying s=some (.slice e))(m:P.underlying e=some (.int .u8))(i:P.underlying d=some .string)(h:Rd w 1 v n (bv l)):
  (nK s d v).run P w=.ok (.string (jT l)) w:=by
 have j:l.length=n:=by simpa using h.1
 obtain⟨_,⟨rfl,a,c,rfl⟩|⟨b,g,o,rfl,q,p⟩⟩:=h
 ·have:l=[]:=by simpa using j
  subst this;unfold nK;rw[run_convert_bytes_string w s d e _ _ _ k m i];cases a<;>rfl
 ·have f:(loadCells ⟨b,g,none⟩ n).run P w=.ok (bv l).toArray w:=by
   have:=p.loads (P:=P);simpa [j]using this
  unfold nK;rw[run_convert_bytes_string w s d e _ _ _ k m i,run_bytesToString w _ _ _ (l.map λu=>(u.toNat:Int)) (by rw[f];simp[bv]),Cl];simp[jT,ByteArray.empty,ByteArray.emptyWithCapacity];rfl
def EL{P:Program}{s d e:TypeId}{w:World}{K:cm}{v:Value}{n:Nat}{l:List UInt8}
  (f:P.underlying s=some (.slice e))(b:P.underlying e=some (.int .u8))(a:P.underlying d=some .string)(h:Rd w 1 v n (bv l))(c:K (.string (jT l)) w):
  rx P (nK s d v) w K:=fM (rk f b a h) c
def vW{P:Program}{s d e:TypeId}{w:World}{K:Value->Prop}{v:Value}{n:Nat}{l:List UInt8}
  (f:P.underlying s=some (.slice e))(b:P.underlying e=some (.int .u8))(a:P.underlying d=some .string)(h:Rd w 1 v n (bv l))(c:K (.string (jT l))):
  iD P (nK s d v) w K:=jg (rk f b a h) c
@[simp] theorem Iw (l l' :List UInt8):jT l++jT l' =jT (l++l'):=by
 apply ByteArray.ext;simp[jT]
@[simp] theorem K4 (l:List UInt8):(jT l).size=l.length:=by simp[jT,ByteArray.size]
@[simp] theorem IA (l:List UInt8):(jT l).toList=l:=ByteArray.toList_mk l
@[simp] theorem L4 {l l' :List UInt8}:jT l=jT l' ↔l=l' :=by
 refine⟨λh=>?_,λh=>by rw[h]⟩;have:=congrArg (λb:ByteArray=>b.data.toList) h;simpa [jT]using this
section
variable{κ ν:Type} [DecidableEq κ]
def lk:List (κ×ν)->κ->Option ν
 | [],_=>none
 |(a,b)::r,k=>if a=k then some b else lk r k
def put:List (κ×ν)->κ->ν->List (κ×ν)
 | [],k,v=>[(k,v)]
 |(a,b)::r,k,v=>if a=k then(k,v)::r else(a,b)::put r k v
def lD(L:List (κ×ν))(k j:κ)(v:ν):lk (put L k v) j=if k=j then some v else lk L j:=by
 induction L with
 |nil=>simp[put,lk]
 |cons p r d=>
  obtain⟨a,b⟩:=p;simp only[put];by_cases h:a=k
  ·subst h;rw[if_pos rfl];simp only[lk];split<;>rfl
  ·rw[if_neg h];simp only[lk,d];by_cases c:a=j
   ·rw[if_pos c,if_pos c,if_neg (λe=>h (c.trans e.symm))]
   ·rw[if_neg c,if_neg c]
def kT{L:List (κ×ν)}{k:κ}(h:k ∉ L.map (·.1)):lk L k=none:=by
 induction L with
 |nil=>rfl
 |cons p r c=>
  obtain⟨a,b⟩:=p;simp only[List.map_cons,List.mem_cons,not_or]at h;simp only[lk];rw[if_neg (λe=>h.1 e.symm)];exact c h.2
def FA(L:List (κ×ν))(k:κ)(v:ν):(put L k v).map (·.1)=if k∈L.map (·.1)then L.map (·.1)else L.map (·.1)++[k]:=by
 induction L with
 |nil=>simp[put]
 |cons p r c=>
  obtain⟨a,b⟩:=p;simp only[put];by_cases h:a=k
  ·subst h;simp
  ·rw[if_neg h];simp only[List.map_cons,c,List.mem_cons];have:¬k=a:=λe=>h e.symm;simp only[this,false_or];split<;>simp
def vf{L:List (κ×ν)}(h:(L.map (·.1)).Nodup)(k:κ)(v:ν):((put L k v).map (·.1)).Nodup:=by
 rw[FA];split
 ·exact h
 ·rename_i d
  exact List.nodup_append.2 ⟨h,by simp,λa f b c=>by simp at c;subst c;exact λe=>d (e▸f)⟩
def wv{L:List (κ×ν)}{k:κ}{v:ν}(h:lk L k=some v):(k,v)∈L:=by
 induction L with
 |nil=>cases h
 |cons q r c=>
  obtain⟨a,b⟩:=q;simp only[lk]at h;split at h
  ·cases h;subst_vars;exact List.mem_cons_self ..
  ·exact List.mem_cons_of_mem _ (c h)
end
structure ml(P:Program)(k:TypeId){κ:Type} [DecidableEq κ](enc:κ->Value):Prop where
 check:∀(w:World) (em:Bool) (x:κ),(Instr.checkKey em 10000 k (enc x)).run P w=.ok () w
 same:∀(w:World) (x:κ) (es:List MapEntry) (ks:List κ),es.map (·.key)=ks.map enc->
  ((Instr.findKey k (enc x) es).run P w=.ok none w/\x ∉ ks)\/∃i v,(Instr.findKey k (enc x) es).run P w=.ok (some (i,v)) w/\(es[i]?).map (·.val)=some v/\ks[i]? =some x/\∀j,j<i->ks[j]? ≠some x
 stays:∀(w:World) (x:κ),(Instr.keyThatStays (enc x) (enc x)).run P w=.ok (enc x) w
section
variable{P:Program}{k:TypeId}{κ:Type} [DecidableEq κ]{enc:κ->Value}
def rY(d:∀(w:World) (x y:κ),(Op.equal k (enc x) (enc y)).run P w=.ok (decide (x=y)) w)(w:World)(x:κ):
  ∀(c:List MapEntry) (a:List κ) (o:Nat),c.map (·.key)=a.map enc->
  ((Instr.findAsking k (enc x) c o).run P w=.ok none w/\x ∉ a)\/∃i v,(Instr.findAsking k (enc x) c o).run P w=.ok (some (o+i,v)) w/\(c[i]?).map (·.val)=some v/\a[i]? =some x/\∀j,j<i->a[j]? ≠some x
 | [],a,o,h=>by
  have:a=[]:=by cases a<;>simp_all
  subst this;exact .inl ⟨by simp[Instr.findAsking],by simp⟩
 |e::c,[],o,h=>by simp at h
 |e::c,y::a,o,h=>by
  simp only[List.map_cons,List.cons.injEq]at h;obtain⟨h1,n⟩:=h;by_cases b:x=y
  ·subst b;refine .inr ⟨0,e.val,?_,by simp,by simp,λj m=>absurd m (Nat.not_lt_zero _)⟩;simp[Instr.findAsking,h1,d,Result.andThen]
  ·have l:(Instr.findAsking k (enc x) (e::c) o).run P w=(Instr.findAsking k (enc x) c (o+1)).run P w:=by
    simp[Instr.findAsking,h1,d,Result.andThen,b]
   rcases rY d w x c a (o+1) n with⟨g,f⟩|⟨i,v,g,f,p,q⟩
   ·exact .inl ⟨by rw[l];exact g,by simp[b,f]⟩
   ·refine .inr ⟨i+1,v,by rw[l,g,show o+1+i=o+(i+1) by omega],by simpa using f,by simpa using p,λj m=>?_⟩;cases j with
    |zero=>simp;exact λe=>b e.symm
    |succ j=>simpa using q j (by omega)
def ml.asking{d:TypeDesc}(g:P.underlying k=some d)(c:∀x y,Instr.sameNow d (enc x) (enc y)=none)
  (f:∀(w:World) (x y:κ),(Op.equal k (enc x) (enc y)).run P w=.ok (decide (x=y)) w)
  (n:∀(w:World) (j:Bool) (x:κ),(Instr.checkKey j 10000 k (enc x)).run P w=.ok () w)(m:∀x,Instr.sameBits 10000 (enc x) (enc x)=true):ml P k enc where
 check:=n
 stays w x:=by simp[Instr.keyThatStays,m]
 same w x a b h:=by
  cases a with
  |nil=>
   have:b=[]:=by cases b<;>simp_all
   subst this;exact .inl ⟨by simp[Instr.findKey,run_underlying g,Result.andThen,Instr.findNow],by simp⟩
  |cons e a=>
   cases b with
   |nil=>simp at h
   |cons y b=>
    have h1:e.key=enc y:=by simpa using(List.cons.inj h).1
    have i:Instr.findNow d (enc x) (e::a) 0=none:=by simp[Instr.findNow,h1,c]
    have l:(Instr.findKey k (enc x) (e::a)).run P w=(Instr.findAsking k (enc x) (e::a)).run P w:=by
     simp[Instr.findKey,run_underlying g,Result.andThen,i]
    rw[l];have:=rY f w x (e::a) (y::b) 0 h;simpa using this
def yY{d:TypeDesc}(a:∀x y,Instr.sameNow d (enc x) (enc y)=some (decide (x=y)))(x:κ):
  ∀(f:List MapEntry) (b:List κ) (o:Nat),f.map (·.key)=b.map enc->
  (Instr.findNow d (enc x) f o=some none/\x ∉ b)\/∃i v,Instr.findNow d (enc x) f o=some (some (o+i,v))/\(f[i]?).map (·.val)=some v/\b[i]? =some x/\∀j,j<i->b[j]? ≠some x
 | [],b,o,h=>by
  have:b=[]:=by cases b<;>simp_all
  subst this;exact .inl ⟨by simp[Instr.findNow],by simp⟩
 |e::f,[],o,h=>by simp at h
 |e::f,y::b,o,h=>by
  simp only[List.map_cons,List.cons.injEq]at h;obtain⟨h1,p⟩:=h;by_cases c:x=y
  ·subst c;refine .inr ⟨0,e.val,?_,by simp,by simp,λj n=>absurd n (Nat.not_lt_zero _)⟩;simp[Instr.findNow,h1,a]
  ·have m:Instr.findNow d (enc x) (e::f) o=Instr.findNow d (enc x) f (o+1):=by
    simp[Instr.findNow,h1,a,c]
   rcases yY a x f b (o+1) p with⟨l,g⟩|⟨i,v,l,g,q,r⟩
   ·exact .inl ⟨by rw[m];exact l,by simp[c,g]⟩
   ·refine .inr ⟨i+1,v,by rw[m,l,show o+1+i=o+(i+1) by omega],by simpa using g,by simpa using q,λj n=>?_⟩;cases j with
    |zero=>simp;exact λe=>c e.symm
    |succ j=>simpa using r j (by omega)
def ml.now{d:TypeDesc}(c:P.underlying k=some d)(a:∀x y,Instr.sameNow d (enc x) (enc y)=some (decide (x=y)))
  (g:∀(w:World) (e:Bool) (x:κ),(Instr.checkKey e 10000 k (enc x)).run P w=.ok () w)(f:∀x,Instr.sameBits 10000 (enc x) (enc x)=true):ml P k enc where
 check:=g
 stays w x:=by simp[Instr.keyThatStays,f]
 same w x es ks h:=by
  rcases yY a x es ks 0 h with⟨h1,b⟩|⟨i,v,h1,b⟩
  ·exact .inl ⟨by simp[Instr.findKey,run_underlying c,Result.andThen,h1],b⟩
  ·exact .inr ⟨i,v,by simp[Instr.findKey,run_underlying c,Result.andThen,h1],b⟩
def ml.int{b:IntKind}(a:P.underlying k=some (.int b)):ml P k (λn:Int=>.int b n):=
 ml.now a (λx y=>by simp only[Instr.sameNow,if_true];congr 1) (λw c x=>by
  unfold Instr.checkKey;simp[run_underlying a,Result.andThen]) (λx=>by simp[Instr.sameBits])
end
section
variable{P:Program}{k:TypeId}{κ ν:Type} [DecidableEq κ]{enc:κ->Value}{ev:ν->Value}
def cU(enc:κ->Value)(ev:ν->Value)(w:World)(b:Nat)(L:List (κ×ν)):Prop:=
 (L.map (·.1)).Nodup/\∃es clock,w.heap[b]? =some (.map es clock)/\es.toList.map (λe=>(e.key,e.val))=L.map (λp=>(enc p.1,ev p.2))/\
  (∀x∈es.toList,x.born<clock)/\(es.toList.map (·.born)).Nodup
def cU.keep{w w' :World}{b:Nat}{L:List (κ×ν)}(h:cU enc ev w b L)(f:w'.heap[b]? =w.heap[b]?):cU enc ev w' b L:=by
 obtain⟨g,e,a,c,d⟩:=h;exact⟨g,e,a,by rw[f];exact c,d⟩
def cU.lt{w:World}{b:Nat}{L:List (κ×ν)}(h:cU enc ev w b L):b<w.heap.size:=by
 obtain⟨f,e,a,c,d⟩:=h;exact cn c
def cU.mod{F:Nat->Prop}{w w' :World}{b:Nat}{L:List (κ×ν)}(h:cU enc ev w b L)(a:cl F w w')(c:¬F b):cU enc ev w' b L:=
 h.keep (a.blk b h.lt c)
def cU.new(w:World):cU enc ev (w.alloc (.map #[] 0)) w.heap.size ([]:List (κ×ν)):=
 ⟨by simp,#[],0,by rw[cY,if_pos rfl],by simp,by simp,by simp⟩
def lG{a:List MapEntry}{L:List (κ×ν)}(h:a.map (λe=>(e.key,e.val))=L.map (λp=>(enc p.1,ev p.2))):a.map (·.key)=(L.map (·.1)).map enc:=by
 have:=congrArg (List.map Prod.fst) h;simp only[List.map_map]at this|-;exact this
def MR{L:List (κ×ν)}{x:κ}{i:Nat}{p:κ×ν}(h1:L[i]? =some p)(c:p.1=x)(d:∀j,j<i->(L.map (·.1))[j]? ≠some x):lk L x=some p.2:=by
 induction L generalizing i with
 |nil=>simp at h1
 |cons q r f=>
  obtain⟨a,b⟩:=q;cases i with
  |zero=>
   simp only[List.getElem?_cons_zero,Option.some.injEq]at h1;subst h1;simp only at c;simp[lk,c]
  |succ i=>
   have:a≠x:=λe=>d 0 (by omega) (by simp[e]);simp only[lk,if_neg this];exact f (by simpa using h1) (λj g=>by simpa using d (j+1) (by omega))
def Lt{L:List (κ×ν)}{x:κ}{v:ν}{i:Nat}(h1:(L.map (·.1))[i]? =some x)(c:∀j,j<i->(L.map (·.1))[j]? ≠some x):put L x v=L.set i (x,v):=by
 induction L generalizing i with
 |nil=>simp at h1
 |cons q r d=>
  obtain⟨a,b⟩:=q;cases i with
  |zero=>
   have:a=x:=by simpa using h1
   simp[put,this]
  |succ i=>
   have:a≠x:=λe=>c 0 (by omega) (by simp[e]);simp only[put,if_neg this,List.set_cons_succ];rw[d (by simpa using h1) (λj f=>by simpa using c (j+1) (by omega))]
def sX{L:List (κ×ν)}{x:κ}{v:ν}(h:x ∉ L.map (·.1)):put L x v=L++[(x,v)]:=by
 induction L with
 |nil=>rfl
 |cons q r c=>
  obtain⟨a,b⟩:=q;simp only[List.map_cons,List.mem_cons,not_or]at h;have h1:¬a=x:=λe=>h.1 e.symm;simp only[put,if_neg h1,c h.2,List.cons_append]
def lE{α β:Type}(f:α->β):∀(l:List α) (i:Nat),(l.eraseIdx i).map f=(l.map f).eraseIdx i
 | [],_=>rfl
 |_::_,0=>rfl
 |a::l,i+1=>by simp[lE f l i]
def jL(P:Program)(t:TypeId):Option Value:=(P.info? t).bind (·.zero)
def rM{t:TypeId}{z:Value}(h:jL P t=some z)(w:World):(zeroValue t).run P w=.ok z w:=by
 unfold jL at h;cases a:P.info? t with
 |none=>simp[a]at h
 |some i=>simp[a]at h;simp[zeroValue,typeInfo,a,h]
def Aq(enc:κ->Value)(ev:ν->Value)(w:World)(m:Value)(L:List (κ×ν)):Prop:=
 (m=.map none/\L=[])\/∃b,m=.map (some b)/\cU enc ev w b L
def jD{t e:TypeId}{w:World}{m:Value}{L:List (κ×ν)}{x:κ}{ok:Bool}{z:Value}(d:P.underlying t=some (.map k e))(c:ml P k enc)
  (j:jL P e=some z)(y:Aq enc ev w m L):
  (Instr.lookup t m (enc x) ok).run P w=.ok (match lk L x with|some v=>if ok then .tuple #[ev v,.bool true]else ev v|none=>if ok then .tuple #[z,.bool false]else z) w:=by
 rcases y with⟨rfl,rfl⟩|⟨b,rfl,B,n,g,h,q,_⟩
 ·rcases c.same w x [] [] rfl with⟨h1,_⟩|⟨i,v,_,a,_⟩
  ·simp[Instr.lookup,run_underlying d,c.check,h1,rM j,Result.andThen,lk]
  ·simp at a
 ·rcases c.same w x n.toList (L.map (·.1)) (lG q)with⟨h1,a⟩|⟨i,v,h1,a,o,r⟩
  ·simp[Instr.lookup,run_underlying d,MapKept.run_getObj_map h,c.check,h1,rM j,Result.andThen,kT a]
  ·have s:i<L.length:=by simpa using(List.getElem?_eq_some_iff.1 o).1
   have f:L[i]? =some L[i]:=List.getElem?_eq_getElem s;have u:(L[i]).1=x:=by simpa [f]using o
   have A:v=ev (L[i]).2:=by
    have:=congrArg (λl=>(l[i]?).map Prod.snd) q;simp only[List.getElem?_map,f,Option.map_map,Option.map_some]at this;have p:(n.toList[i]?).map (·.val)=some (ev (L[i]).2):=by simpa [Function.comp_def]using this
    rw[a]at p;exact Option.some.inj p
   simp[Instr.lookup,run_underlying d,MapKept.run_getObj_map h,c.check,h1,Result.andThen,MR f u r,A]
def yj{t e:TypeId}{w:World}{K:cm}{m:Value}{L:List (κ×ν)}{x:κ}(z:Value)(d:P.underlying t=some (.map k e))(c:ml P k enc)
  (f:jL P e=some z)(b:Aq enc ev w m L)(a:K (.tuple #[(lk L x).elim z ev,.bool (lk L x).isSome]) w):rx P (fA t m (enc x) true) w K:=
 fM (by unfold fA;exact jD d c f b) (by revert a;cases lk L x<;>intro a<;>exact a)
def C6{t e:TypeId}{w:World}{K:Value->Prop}{m:Value}{L:List (κ×ν)}{x:κ}(z:Value)(d:P.underlying t=some (.map k e))(c:ml P k enc)
  (f:jL P e=some z)(b:Aq enc ev w m L)(a:K (.tuple #[(lk L x).elim z ev,.bool (lk L x).isSome])):iD P (fA t m (enc x) true) w K:=
 jg (by unfold fA;exact jD d c f b) (by revert a;cases lk L x<;>intro a<;>exact a)
def C7{f:List MapEntry}{L:List (κ×ν)}{i:Nat}{x:κ}{v:ν}{key val:Value}(h:f.map (λe=>(e.key,e.val))=L.map (λp=>(enc p.1,ev p.2)))(b:key=enc x)(c:val=ev v):
  (f.modify i λe=>{e with key:=key,val:=val}).map (λe=>(e.key,e.val))=(L.set i (x,v)).map (λp=>(enc p.1,ev p.2)):=by
 subst b c;apply List.ext_getElem?;intro j;have g:=congrArg (λl=>l[j]?) h;simp only[List.getElem?_map]at g;simp only[List.getElem?_map,List.getElem?_modify,List.getElem?_set];by_cases d:i=j
 ·subst d;simp only[if_true];have m:f.length=L.length:=by simpa using congrArg List.length h
  by_cases a:i<L.length
  ·rw[if_pos a,List.getElem?_eq_getElem (by omega)];rfl
  ·rw[if_neg a,List.getElem?_eq_none (by omega)];rfl
 ·simp only[if_neg d];simpa using g
def uR{t e:TypeId}{w:World}{b:Nat}{L:List (κ×ν)}{x:κ}{v:ν}(E:P.underlying t=some (.map k e))(A:ml P k enc)(I:cU enc ev w b L):
  ∃o,(Instr.mapUpdate t (.map (some b)) (enc x) (ev v)).run P w=.ok () (w.putObj b o)/\cU enc ev (w.putObj b o) b (put L x v):=by
 obtain⟨G,g,c,q,B,p,s⟩:=I;rcases A.same w x g.toList (L.map (·.1)) (lG B)with⟨h1,D⟩|⟨i,u,h1,D,C,H⟩
 ·refine⟨.map (g.push {key:=enc x,val:=ev v,born:=c}) (c+1),?_,vf G x v,_,_,by rw[dc,if_pos rfl,q];rfl,?_,?_,?_⟩
  ·simp[Instr.mapUpdate,run_underlying E,MapKept.run_getObj_map q,A.check,h1,MapKept.run_setObj_map _ q,Result.andThen,World.putObj]
  ·simp[B,sX D]
  ·intro y m;simp only[Array.toList_push,List.mem_append,List.mem_singleton]at m;rcases m with m|rfl
   ·exact Nat.lt_succ_of_lt (p y m)
   ·exact Nat.lt_succ_self _
  ·simp only[Array.toList_push,List.map_append,List.map_cons,List.map_nil];refine List.nodup_append.2 ⟨s,by simp,?_⟩;intro a J K z;simp only[List.mem_singleton]at z;subst z;obtain⟨y,m,rfl⟩:=List.mem_map.1 J;exact Nat.ne_of_lt (p y m)
 ·have r:(Option.map (λe=>e.key) g[i]?).getD (enc x)=enc x:=by
   have:=congrArg (λl=>l[i]?) (lG B);simp only[List.getElem?_map]at this C;rw[C]at this;rw[Array.getElem?_toList]at this;rw[this];rfl
  have f:(g.modify i λe=>{e with key:=enc x,val:=ev v}).toList=g.toList.modify i λe=>{e with key:=enc x,val:=ev v}:=by simp
  refine⟨.map (g.modify i λe=>{e with key:=enc x,val:=ev v}) c,?_,vf G x v,_,_,by rw[dc,if_pos rfl,q];rfl,?_,?_,?_⟩
  ·simp[Instr.mapUpdate,run_underlying E,MapKept.run_getObj_map q,A.check,h1,MapKept.run_setObj_map _ q,Result.andThen,r,A.stays,World.putObj]
  ·rw[Lt C H,f];exact C7 B rfl rfl
  ·rw[f];intro y m;obtain⟨j,h⟩:=List.mem_iff_getElem?.1 m;rw[List.getElem?_modify]at h;cases n:g.toList[j]? with
   |none=>simp[n]at h
   |some F=>
    rw[n]at h;replace h:(if i=j then _ else F)=y:=Option.some.inj h;have:=p F (List.mem_of_getElem? n);by_cases d:i=j
    ·rw[if_pos d]at h;subst h;exact this
    ·rw[if_neg d]at h;subst h;exact this
  ·rw[f]
   have:(g.toList.modify i λe=>{e with key:=enc x,val:=ev v}).map (·.born)=g.toList.map (·.born):=by
    apply List.ext_getElem?;intro j;simp only[List.getElem?_map,List.getElem?_modify];by_cases d:i=j
    ·subst d;cases g.toList[i]? <;>simp
    ·simp[d]
   rw[this];exact s
def fm{t e:TypeId}{w:World}{K:World->Prop}{b:Nat}{L:List (κ×ν)}{x:κ}{v:ν}(i:P.underlying t=some (.map k e))(d:ml P k enc)(c:cU enc ev w b L)
  (g:∀a,cU enc ev a b (put L x v)->cl (λh=>h=b) w a->a.heap.size=w.heap.size->K a):gh P (gY t (.map (some b)) (enc x) (ev v)) w K:=by
 obtain⟨o,h1,f⟩:=uR (v:=v) (x:=x) i d c;exact Gr (by unfold gY;exact h1) (g _ f ((cl.refl _ w).putObj (b:=b) (.inl (by simp)) _) (World.putObj_size ..))
end
end Go.Vc
namespace Go.Vc
open Go Go.ChangeShapes Go.WideShapes Go.ChangeAt Go.RowKit
section
variable{H:Type}{enc:TypeId×Value->H}{P:Program}
def cl.same{W a:World}(h:cl (λ_=>False) W a){p:MemPlace}(hp:p.block<W.heap.size):W.sameAt a p:=by
 cases p with
 |cell b o=>exact World.cell?_of_block (w:=W) (h.blk b hp id)
 |map b=>exact h.blk b hp id
def cl.frame{W a:World}(h:cl (λ_=>False) W a)(may:MemPlace->Prop):W.keptBut a may:=by
 refine⟨h.os,h.out,λi b=>?_⟩;rw[h.blk i b id];split<;>simp_all
def oT{W l:World}(i:laidOutB P=true)(k:cl (λ_=>False) W l):∀{e:List TypeId} {f:List Value} {ds:List (DataW H)} {c:List MemPlace},
  (∀t∈e,P.readableRec t=true/\t<P.types.size)->(∀x∈c,x.block<W.heap.size)->DataW.TrodAll enc P W 0 (λ_=>true) true e f ds c->
  DataW.TrodAll enc P l 0 (λb=>decide (b<W.heap.size)) true e f ds c
 | [],[],[],_,_,_,h=>h
 |t::e,v::f,d::ds,c,g,hp,⟨p,q,h1,m,n⟩=>by
  subst n;refine⟨p,q,?_,oT i k (λt h=>g t (List.mem_cons_of_mem _ h)) (λx a=>hp x (List.mem_append_right _ a)) m,rfl⟩;have j:=g t List.mem_cons_self;exact WideElems.Trod_stays i j.1 j.2 h1 (λx a=>k.same (hp x (List.mem_append_left _ a))) (λx a=>by simpa using hp x (List.mem_append_left _ a))
def zo{f:Func}{s:ChangeSpec}{fresh a:Bool}{W u:World}{b:Array Value}{ds gs:List (DataW H)}{c:List MemPlace}{m:TypeId}
  (y:laidOutB P=true)(v:(f.params.toList.all λt=>P.readableRec t&& Nat.blt t P.types.size)=true)(o:s.vars=[])
  (l:DataW.Whole enc P f.params.toList s.vars false W b.toList ds gs c)(n:cl (λ_=>False) W u)
  (g:f.resultTypes= #[m])(k:P.underlying m=some .bool)(d:s.fn H (ds++gs)={results:=[.lit (.bool true)],args:=ds}):
  s.post enc P f false fresh a false W b (.bool true) u:=by
 have e:=l;obtain⟨p,q,w,r,rfl,B,z⟩:=l;rw[o]at r;obtain⟨rfl,rfl⟩:=trodVars_none r
 have j:∀t∈f.params.toList,P.readableRec t=true/\t<P.types.size:=λt h=>by
  have:=List.all_eq_true.1 v t h;simp only[Bool.and_eq_true,Nat.blt_eq]at this;exact this
 have i:=e.lt;refine⟨ds,[],p++[],[],p,[],e,?_,?_,?_,n.frame _,λh=>by cases h⟩
 ·rw[d,g];exact trodAll_cons_mk (shut_bool k true) trodAll_mk0
 ·rw[d];exact oT y n j (λx A=>i x (by simpa using A)) w
 ·rw[o,d];rfl
def Ai{w:World}{a:Addr}{v:Value}(h:w.cell? a=some v):a.spot=none/\∃C e c,w.heap[a.block]? =some (.cells C e c)/\C[a.off]? =some v:=by
 unfold World.cell? at h;cases b:w.heap[a.block]? with
 |none=>rw[b]at h;cases h
 |some o=>
  rw[b]at h;cases o<;>simp at h
  obtain⟨d,f⟩:=h;exact⟨d,_,_,_,rfl,f⟩
def yF{w:World}{a:Addr}{n cap sz:Nat}{cs:List Value}(t:n<=cap)(l:cs.length=n*sz)(d:∀i v,cs[i]? =some v->w.cell? (a.add i)=some v)(r:0<sz):Rd w sz (.slice (some a) n cap) n cs:=by
 by_cases o:n=0
 ·subst o;exact⟨l,.inl ⟨rfl,_,_,rfl⟩⟩
 have h:0<cs.length:=by rw[l];exact Nat.mul_pos (by omega) r
 obtain⟨b,c,m⟩:=a;obtain⟨j,C,e,p,k,-⟩:=Ai (by have:=d 0 _ (List.getElem?_eq_getElem h);simpa [Addr.add]using this);simp only at j k;subst j
 have f:∀i v,cs[i]? =some v->C[c+i]? =some v:=by
  intro i v g;have h1:=d i v g;have s:(Addr.add ⟨b,c,none⟩ i)=⟨b,c+i,none⟩:=cC b c i;rw[s]at h1;simpa [World.cell?,k]using h1
 have q:c+(cs.length - 1)<C.size:=(Array.getElem?_eq_some_iff.1 (f (cs.length - 1) _ (List.getElem?_eq_getElem (by omega)))).1;refine⟨l,.inr ⟨b,c,cap,rfl,t,C,e,p,k,by omega,?_⟩⟩;apply List.ext_getElem?;intro i;rw[List.getElem?_take];by_cases g:i<cs.length
 ·rw[if_pos g,List.getElem?_drop,Array.getElem?_toList,f i _ (List.getElem?_eq_getElem g),List.getElem?_eq_getElem g]
 ·rw[if_neg g,List.getElem?_eq_none (by omega)]
end
section
variable{H:Type}{enc:TypeId×Value->H}{P:Program}{w:World}{base:Nat}{spare:Nat->Bool}{held:Bool}
def Wt(P:Program)(B:Nat)(t:TypeId)(d:DataW H):Prop:=∀m∈d.weights P t,m<=B
def nr{e:TypeId}:∀{l:List (DataW H)} {d:DataW H},d∈l->∀m∈d.weights P e,m∈DataW.weightsAll P e l
 |a::l,d,b,m,c=>by
  simp only[DataW.weightsAll,List.mem_append];rcases List.mem_cons.1 b with rfl|b
  ·exact .inl c
  ·exact .inr (nr b m c)
def qG{g:Field->Option (DataW H×List MemPlace)}:∀{l:List Field} {r:List (DataW H×List MemPlace)},l.mapM g=some r->∀f∈l,∃y,g f=some y/\∀m∈y.1.weights P f.type,m∈DataW.weightsEach P (l.map (·.type)) (r.map (·.1))
 | [],_,_,x,c=>by cases c
 |a::l,r,h,x,c=>by
  rw[List.mapM_cons]at h;cases d:g a with
  |none=>simp[d]at h
  |some b=>
   cases e:l.mapM g with
   |none=>simp[d,e]at h
   |some k=>
    simp[d,e]at h;subst h;simp only[List.map_cons,DataW.weightsEach,List.mem_append];rcases List.mem_cons.1 c with rfl|c
    ·exact⟨b,d,λm i=>.inl i⟩
    ·obtain⟨y,h1,j⟩:=qG e x c;exact⟨y,h1,λm i=>.inr (j m i)⟩
def Wt.slice{t e:TypeId}{B:Nat}{l r:List (DataW H)}(c:P.underlying t=some (.slice e))(h:Wt P B t (.slice l r)):(l.length+r.length)*P.bytesOf e<=B/\∀d∈l,Wt P B e d:=by
 unfold Wt at h;simp only[DataW.weights,c,List.mem_cons,List.mem_append]at h;exact⟨h _ (.inl rfl),λd a m b=>h m (.inr (.inl (nr a m b)))⟩
def IF{t e:TypeId}{sz:Nat}{q:Nat}{cs:List Value}{x:DataW H×List MemPlace}(K:P.underlying t=some (.slice e))(Z:P.cellsOf e=sz)(F:0<sz)
  {B:Nat}(Q:DataW.trod enc P w base spare held q t cs=some x)(Y:Wt P B t x.1):
  ∃v,cs=[v]/\∃L:List (List Value),Rd w sz v L.length L.flatten/\L.length*P.bytesOf e<=B/\∀c∈L,c.length=sz/\∃f' y,DataW.trod enc P w base spare held f' e c=some y/\Wt P B e y.1:=by
 rcases DataW.trod_slice K Q with⟨rfl,-⟩|⟨a,len,R,C,rest,n,hf,rfl,rfl,hb,V,hm,O,E,X,T⟩
 ·exact⟨_,rfl,[],⟨by simp,.inl ⟨rfl,_,_,rfl⟩⟩,by simp,by simp⟩
 ·obtain⟨A,G⟩:=Y.slice K
  have o:∀i,i<len->∃c,w.cells? base (a.add (i*sz)) sz=some c/\∃y,DataW.trod enc P w base spare held n e c=some y/\Wt P B e y.1:=by
   intro i d;have h1:=E i d;rw[List.getElem?_eq_getElem (by omega),Z,Option.bind_eq_some_iff]at h1;obtain⟨c,f,p⟩:=h1;exact⟨c,f,_,p,G _ (List.mem_map.2 ⟨_,List.getElem_mem _,rfl⟩)⟩
  have S:∀k,k<=len->∃L:List (List Value),L.length=k/\∀i (d:i<L.length),w.cells? base (a.add (i*sz)) sz=some L[i]/\∃y,DataW.trod enc P w base spare held n e L[i]=some y/\Wt P B e y.1:=by
   intro k;induction k with
   |zero=>exact λ_=>⟨[],rfl,λi d=>by simp at d⟩
   |succ k r=>
    intro hk;obtain⟨L,h1,f⟩:=r (by omega);obtain⟨c,p,D⟩:=o k (by omega);refine⟨L++[c],by simp[h1],λi d=>?_⟩;by_cases m:i<L.length
    ·rw[List.getElem_append_left m];exact f i m
    ·have:i=k:=by simp at d;omega
     subst this;rw[List.getElem_append_right (by omega)];simp only[h1,Nat.sub_self,List.getElem_cons_zero];exact⟨p,D⟩
  obtain⟨L,h1,f⟩:=S len (Nat.le_refl _)
  have b:∀c∈L,c.length=sz:=by
   intro c g;obtain⟨i,d,rfl⟩:=List.getElem_of_mem g;exact(World.cells?_some (f i d).1).2.1
  have I:∀(M:List (List Value)),(∀c∈M,c.length=sz)->M.flatten.length=M.length*sz:=by
   intro M;induction M with
   |nil=>intro _;simp
   |cons c M r=>
    intro l;rw[List.flatten_cons,List.length_append,r λc h=>l c (List.mem_cons_of_mem _ h),l c List.mem_cons_self,List.length_cons,Nat.succ_mul,Nat.add_comm]
  have s:∀(M:List (List Value)),(∀c∈M,c.length=sz)->∀i v,M.flatten[i]? =some v->∃h:i / sz<M.length,M[i / sz][i%sz]? =some v:=by
   intro M;induction M with
   |nil=>intro _ i v h;simp at h
   |cons c M r=>
    intro l i v h;have J:=l c List.mem_cons_self;rw[List.flatten_cons]at h;by_cases d:i<sz
    ·rw[List.getElem?_append_left (by omega)]at h;rw[Nat.div_eq_of_lt d,Nat.mod_eq_of_lt d];exact⟨by simp,by simpa using h⟩
    ·rw[List.getElem?_append_right (by omega),J]at h;obtain⟨h1,f⟩:=r (λc h=>l c (List.mem_cons_of_mem _ h)) (i - sz) v h
     have j:i / sz=(i - sz) / sz+1:=by
      rw[Nat.div_eq_sub_div F (by omega)]
     have u:i%sz=(i - sz)%sz:=by
      rw[Nat.mod_eq_sub_mod (by omega)]
     refine⟨by rw[j,List.length_cons];omega,?_⟩;simp only[j,u,List.getElem_cons_succ];exact f
  refine⟨_,rfl,L,?_,Nat.le_trans (Nat.mul_le_mul_right _ (by simp;omega)) A,λc g=>⟨b c g,?_⟩⟩
  ·rw[h1];refine yF V (by rw[I L b,h1]) (λi v d=>?_) F;obtain⟨p,D⟩:=s L b i v d;obtain⟨h5,W⟩:=World.cells?_some (f _ p).1 |>.2
   have z:=Nat.mod_lt i F;have N:=W (i%sz) z
   have e:((a.add (i / sz*sz)).add (i%sz))=a.add i:=by
    have U:i / sz*sz+i%sz=i:=by rw[Nat.mul_comm];exact Nat.div_add_mod i sz
    conv=>rhs;rw[<-U]
    simp only[Addr.add];by_cases j:i / sz*sz=0
    ·simp[j]
    ·by_cases u:i%sz=0
     ·simp[u,j]
     ·simp[j,u,Nat.add_assoc]
   rw[e]at N;rw[N];exact D
  ·obtain⟨i,d,rfl⟩:=List.getElem_of_mem g;exact⟨n,(f i d).2⟩
def jB{t:TypeId}{d:Array Field}{a:Nat}{cs:List Value}{x:DataW H×List MemPlace}{B:Nat}(c:P.underlying t=some (.struct d))(b:DataW.trod enc P w base spare held a t cs=some x)(j:Wt P B t x.1):
  ∀f∈d.toList,∃f' y,DataW.trod enc P w base spare held f' f.type ((cs.drop f.offset).take (P.cellsOf f.type))=some y/\Wt P B f.type y.1:=by
 cases a with
 |zero=>simp[DataW.trod]at b
 |succ n=>
  intro f g;simp only[DataW.trod,c]at b;split at b
  ·rw[Option.map_eq_some_iff]at b;obtain⟨k,h1,rfl⟩:=b;obtain⟨y,h,e⟩:=qG (P:=P) h1 f g;refine⟨n,y,h,λm i=>j m ?_⟩;simp only[DataW.weights,c];exact e m i
  ·cases b
end
end Go.Vc
namespace Go.Proofs.YtgebhcgmckjbbaaGreat
open Go Go.Vc Go.Proofs Go.ChangeShapes Go.WideShapes Go.ChangeAt Go.RowKit
def own:ownKnob Tryz.prog.godebug=none:=by kernel_rfl
def laidOut:laidOutB Tryz.prog=true:=by kernel_rfl
end Go.Proofs.YtgebhcgmckjbbaaGreat
