/- Part of a proof. -/
import Derived.Shelf.SlSortCmp.NoneTotal
import Derived.Shelf.Lay
import Derived.Ground.SlsfProg
import Derived.Test.YtgebhcgmckjbbaaGreatB6
set_option linter.all false
namespace Go.Proofs
open Go Go.Vc
attribute [local congr] cr
def tZ{l:List Od}{n:Int}:(l.findIdx? λx=>decide (x.num=n)).isSome=l.any λx=>decide (x.num=n):=by
 rw[List.findIdx?_isSome]
set_option maxRecDepth 10000 in
def IK{w:World}{K:cm}{s:Nat}{F:Nat->Prop}{buy:Bool}{l:List Od}{o:Od}(h:eJ w s F buy l)(hof:o.Fit)
  (C:∀F' t,eJ t s F' buy (jp buy l o).2->cl F w t->(∀b,F' b->F b\/w.heap.size<=b)->K (.int .i64 (jp buy l o).1) t):Ca Tryz.prog 274 #[cT s,ig o] w K:=by
 apply NR;have y:∀{W W' :World},cl (λ_=>False) W W' ->cl F W W' :=λm=>m.mono λ_ _ h=>h.elim;have m0:cl (λ_=>False) w (w.alloc (.cells #[cT s] 228)):=(cl.refl _ w).alloc _;obtain⟨p,L⟩:∃p,p=w.heap.size:=⟨_,rfl⟩
 refine ck (v:=.pointer (some ⟨p,0,none⟩)) (w' :=w.alloc (.cells #[cT s] 228)) (by rw[L];simp[go_sem,cT]) ?_;have b0:hp (w.alloc (.cells #[cT s] 228)) p=some (.cells #[cT s] 228 (0,0)):=by rw[L];simp[go_sem]
 generalize w.alloc (.cells #[cT s] 228)=w0 at m0 b0|-;obtain⟨O,e1,b1,m1⟩:=qi o w0;refine ck e1 ?_;obtain⟨q,hq0⟩:∃q,q=w0.heap.size:=⟨_,rfl⟩
 rw[<-hq0]at b1|-;have p1:=m1.hpk b0 id;have M1:=m0.trans m1;have h1:=h.mod M1 λ_ _ h=>h;have hpq:p<q:=by have:=cn b0;omega
 have pF:∀{b},F b->b<p:=λc=>by rw[L];exact h.lt c
 have j:∀{W},cl (λ_=>False) O W->hp W p=some (.cells #[cT s] 228 (0,0)):=λm=>m.hpk p1 id;have n:∀{W},cl (λ_=>False) O W->hp W q=some (.cells (da o).toArray ir (0,0)):=λm=>m.hpk b1 id;refine ck (by simp[-Int.natCast_add,go_sem,p1]<;>first|exact⟨rfl,rfl⟩|exact rfl) ?_;refine jv h1 ?_;refine ck (v:=.bool false) (by simp[go_sem]<;>first|exact⟨rfl,rfl⟩|exact rfl) ?_;rw[ci,if_neg Bool.false_ne_true];refine cB.at (λst W=>st=(.bool (decide (¬o.may\/o.buy≠buy)),())/\cl (λ_=>False) O W) ?_ ?_
 ·have md:cl (λ_=>False) O O.drew:=(cl.refl _ O).drew;refine cx (gM (o:=o) (At.all (n md))) ?_;refine xb λw2 I=>?_;have H:=md.trans I;refine cq (v:=.bool (!o.may)) (λW=>by simp[go_sem]) ?_;cases hm:o.may with
  |false=>
   rw[ci,if_pos (by simp)];exact⟨by simp,H⟩
  |true=>
   rw[ci,if_neg (by simp)];have N:=n H;unfold da at N;obtain⟨⟨sl,D,c2,c3,c4⟩,c5,c6⟩:=h1.mod H λ_ _ h=>h;have p2:=j H;refine cq (λ_=>by simp[-Int.natCast_add,go_sem]<;>first|exact⟨rfl,rfl⟩|exact rfl) ?_;refine cx (by simp[-Int.natCast_add,go_sem,N]<;>first|exact⟨rfl,rfl⟩|exact rfl) ?_;refine cx (v:=cT s) (by simp[go_sem,p2]) ?_;simp only[cT,cw];refine cq (λ_=>by simp[-Int.natCast_add,go_sem]<;>first|exact⟨rfl,rfl⟩|exact rfl) ?_;refine cx (by simp[-Int.natCast_add,go_sem,D]<;>first|exact⟨rfl,rfl⟩|exact rfl) ?_;refine cq (v:=.bool (decide (o.buy≠buy))) (λW=>by cases o.buy<;>cases buy<;>simp[go_sem]) ?_;exact⟨by simp,H⟩
 rintro _ w2 ⟨rfl,I⟩;unfold D8;intro _;have H:=M1.trans I;have T:=h1.mod I λ_ _ h=>h;by_cases d:¬o.may\/o.buy≠buy
 ·have J:jp buy l o=(2,l):=by unfold jp;rw[if_pos d]
  rw[J]at C;rw[ci,if_pos (by simpa using d)];exact C F _ T (y H) λb c=>.inl c
 rw[ci,if_neg (by simpa using d)];have p2:=j I;have N:=n I;refine ck (by simp[-Int.natCast_add,go_sem,p2]<;>first|exact⟨rfl,rfl⟩|exact rfl) ?_;unfold da at N;refine ck (by simp[-Int.natCast_add,go_sem,N]<;>first|exact⟨rfl,rfl⟩|exact rfl) ?_;refine ck (by simp[-Int.natCast_add,go_sem,N]<;>first|exact⟨rfl,rfl⟩|exact rfl) ?_;refine Gk T λw3 m3=>?_;have M3:=I.trans m3;have X:=M1.trans M3;have h3:=T.mod m3 λ_ _ h=>h;by_cases k:(l.any λx=>decide (x.num=o.num))=true
 ·have J:jp buy l o=(8,l):=by unfold jp;rw[if_neg d,if_pos k]
  rw[J]at C;rw[<-tZ]at k;obtain⟨i,hi⟩:=Option.isSome_iff_exists.1 k;obtain⟨_,_,_,e⟩:=nR hi;rw[e];refine ck (v:=.bool true) (by simp[go_sem]<;>first|exact⟨rfl,rfl⟩|exact rfl) ?_;rw[ci,if_pos rfl];exact C F _ h3 (y X) λb c=>.inl c
 have hno:(l.findIdx? λx=>decide (x.num=o.num))=none:=by
  cases A:l.findIdx? λx=>decide (x.num=o.num)with
  |none=>rfl
  |some i=>exact absurd (by rw[<-tZ,A];rfl) k
 rw[(pP hno).2];refine ck (v:=.bool false) (by simp[go_sem]<;>first|exact⟨rfl,rfl⟩|exact rfl) ?_;rw[ci,if_neg Bool.false_ne_true];obtain⟨⟨sl,D,c2,c3,c4⟩,c5,c6⟩:=id h3;obtain⟨sa,sc,P,-⟩:=c2.isSl;have p3:=j M3;refine ck (v:=cT s) (w' :=w3) (by simp[go_sem,p3]) ?_;simp only[cT,cw];refine ck (by simp[-Int.natCast_add,go_sem,D]<;>first|exact⟨rfl,rfl⟩|exact rfl) ?_;refine ck (by simp[-Int.natCast_add,go_sem,D]<;>first|exact⟨rfl,rfl⟩|exact rfl) ?_;refine fi (v:=.int .i64 (l.length:Int)) (w' :=w3) (by rw[P];simp[go_sem]) ?_;by_cases r:100<=l.length
 ·have J:jp buy l o=(9,l):=by unfold jp;rw[if_neg d,if_neg k,if_pos r]
  rw[J]at C;have f:(100:Int)<=(l.length:Int):=by omega
  refine ck (v:=.bool true) (by simp[go_sem,f]<;>first|exact⟨rfl,rfl⟩|exact rfl) ?_;rw[ci,if_pos rfl];exact C F _ h3 (y X) λb c=>.inl c
 have f:¬(100:Int)<=(l.length:Int):=by omega
 refine ck (v:=.bool false) (by simp[go_sem,f]<;>first|exact⟨rfl,rfl⟩|exact rfl) ?_;rw[ci,if_neg Bool.false_ne_true];have J:jp buy l o=(0,iU buy l o):=by unfold jp;rw[if_neg d,if_neg k,if_neg r]
 rw[J]at C;refine ck (v:=cT s) (w' :=w3) (by simp[go_sem,p3]) ?_;simp only[cT,cw];refine ck (by simp[-Int.natCast_add,go_sem,D]<;>first|exact⟨rfl,rfl⟩|exact rfl) ?_;refine ck (by simp[-Int.natCast_add,go_sem,D]<;>first|exact⟨rfl,rfl⟩|exact rfl) ?_;refine tF (p:=λx=>dn buy o.price x.price) c2.rd (by omega) ⟨_,_,rfl,λx u W mW K' hK' =>?_⟩ λg m4=>?_
 ·apply PQ;obtain⟨W1,e1,d1,n1⟩:=qi x W;refine ck e1 ?_;have MW:=(M3.trans mW).trans n1;have pW:=j MW;have qW:=n MW;unfold da at d1 qW;refine ck (v:=cT s) (w' :=W1) (by simp[go_sem,pW]) ?_;refine ck (by simp[-Int.natCast_add,go_sem,qW]<;>first|exact⟨rfl,rfl⟩|exact rfl) ?_;refine ck (by simp[-Int.natCast_add,go_sem,qW]<;>first|exact⟨rfl,rfl⟩|exact rfl) ?_;refine ck (by simp[-Int.natCast_add,go_sem,d1]<;>first|exact⟨rfl,rfl⟩|exact rfl) ?_;refine ck (by simp[-Int.natCast_add,go_sem,d1]<;>first|exact⟨rfl,rfl⟩|exact rfl) ?_;refine uB (h1.mod MW λ_ _ h=>h) ?_;exact hK' _ n1
 have S:=M3.trans m4;have h4:=h3.mod m4 λ_ _ h=>h;have z:=m4.hpk D id
 have Y:xn buy l o.price<=l.length:=by
  unfold xn;cases A:l.findIdx? λx=>dn buy o.price x.price with
  |none=>exact Nat.le_refl _
  |some i=>
   obtain⟨hi,_⟩:=nR A;simp only[Option.getD_some];omega
 refine cB.at (λst W=>st=(.int .i64 (xn buy l o.price:Nat),())/\W=g) ?_ ?_
 ·cases A:l.findIdx? λx=>dn buy o.price x.price with
  |none=>
   rw[(pP A).2];refine ck (v:=.bool true) (by simp[go_sem]<;>first|exact⟨rfl,rfl⟩|exact rfl) ?_;rw[ci,if_pos rfl];have p4:=j S;refine ck (v:=cT s) (w' :=g) (by simp[go_sem,p4]) ?_;simp only[cT,cw];refine ck (by simp[-Int.natCast_add,go_sem,z]<;>first|exact⟨rfl,rfl⟩|exact rfl) ?_;refine ck (by simp[-Int.natCast_add,go_sem,z]<;>first|exact⟨rfl,rfl⟩|exact rfl) ?_;refine fi (v:=.int .i64 (l.length:Int)) (w' :=g) (by rw[P];simp[go_sem]) ?_;refine⟨?_,rfl⟩;unfold xn;rw[A];rfl
  |some i=>
   obtain⟨_,_,_,e⟩:=nR A;rw[e];refine ck (v:=.bool false) (by simp[go_sem]<;>first|exact⟨rfl,rfl⟩|exact rfl) ?_;rw[ci,if_neg Bool.false_ne_true];refine⟨?_,rfl⟩;unfold xn;rw[A];rfl
 rintro _ g ⟨rfl,rfl⟩;unfold D7;intro _;have md:cl (λ_=>False) g g.drew:=(cl.refl _ g).drew;have pd:=j (S.trans md);have qd:=n (S.trans md);have cd:=md.hpk z id;refine cx (v:=cT s) (by simp[go_sem,pd]) ?_;refine cx (v:=cT s) (by simp[go_sem,pd]) ?_;simp only[cT,cw];refine cq (λ_=>by simp[-Int.natCast_add,go_sem]<;>first|exact⟨rfl,rfl⟩|exact rfl) ?_;refine cx (by simp[-Int.natCast_add,go_sem,cd]<;>first|exact⟨rfl,rfl⟩|exact rfl) ?_;refine cx (gM (o:=o) (At.all qd)) ?_;refine fg [ig o] eW (cI Bw) rfl rfl (by intro v hv;rw[List.mem_singleton.1 hv];rfl) (by omega) ?_;have e0:(([ig o]:List Value).flatMap (·.cells.toList)).toArray=(da o).toArray:=rfl;rw[e0];have m5:cl (λ_=>False) g.drew (g.drew.alloc (.cells (da o).toArray ir)):=(cl.refl _ g.drew).alloc _;have U:=md.trans m5
 have R:kR (g.drew.alloc (.cells (da o).toArray ir)) (.slice (some ⟨g.drew.heap.size,0,none⟩) 1 1) [o]:=
  ⟨rfl,.inr ⟨_,1,[],rfl,Nat.le_refl _,by rw[cY,if_pos rfl];simp,by simp,by simp⟩⟩
 have Z:∀b,co (.slice (some ⟨g.drew.heap.size,0,none⟩) 1 1) b->b=g.drew.heap.size:=λb c=>by cases c;rfl
 generalize g.drew.alloc (.cells (da o).toArray ir)=w5 at m5 U R|-;have p5:=j (S.trans U);have E:=U.hpk z id;refine⟨by simp[go_sem,E],by simp[go_sem,p5,cT],by simp[go_sem,p5,cT],?_⟩;obtain⟨⟨M,k1,k2,k3,k4⟩,k5,k6⟩:=h4.mod U λ_ _ h=>h
 have esl:M=sl:=by
  have:=E.symm.trans k1;simp only[Option.some.injEq,Obj.cells.injEq]at this;have:=congrArg (λa:Array Value=>a[2]?) this.1;simp at this;exact this.symm
 subst esl;have Q:∀b,co M b->b<w3.heap.size:=λb c=>c2.lt c;have hsz43:=m4.size;refine xQ k2 R (λb c hb' =>by have h1:=Q b c;have T:=Z b hb';rw[vm]at T;omega) Y (by omega) λs6 w6 o6 m6 n6=>?_;obtain⟨xa,xc,hs6,-⟩:=o6.isSl;have hps:¬co M p:=λc=>by have:=pF ((k3 p).2 (.inr c));omega
 have p6:=m6.hpk p5 hps;have c6' :=m6.hpk E k4;refine⟨by simp[go_sem,p6,cT],?_⟩;refine cq (λ_=>by simp[-Int.natCast_add,go_sem]<;>first|exact⟨rfl,rfl⟩|exact rfl) ?_;obtain⟨w7,e7,b7,m7⟩:=AM (v:=s6) c6' ⟨_,_,_,hs6⟩;refine dI e7 ?_;have G:=M1.trans (S.trans U)
 have B:¬co s6 s:=λc=>by
  rcases n6 s c with V|V
  ·exact k4 V
  ·have:=pF h.self;have:=G.size;omega
 have MF:cl F w w7:=((y G).on m6 λb c=>.inl ((k3 b).2 (.inr c))).on m7 λb c=>.inl (by rw[c];exact h.self);refine C (λb=>b=s\/co s6 b) w7 ⟨⟨s6,b7,o6.mod m7 λb c e=>B (by rw[<-e];exact c),λb=>Iff.rfl,B⟩,?_,?_⟩ MF λb c=>?_
 ·unfold iU;rw[List.length_append,List.length_take,List.length_cons,List.length_drop,Nat.min_eq_left Y];omega
 ·intro x u;unfold iU at u;rcases List.mem_append.1 u with u|u
  ·exact k6 x (List.mem_of_mem_take u)
  ·rcases List.mem_cons.1 u with rfl|u
   ·have:x.may=true/\x.buy=buy:=by
     constructor
     ·apply Classical.byContradiction;intro hc;exact d (.inl hc)
     ·apply Classical.byContradiction;intro hc;exact d (.inr hc)
    exact⟨this.1,this.2,hof⟩
   ·exact k6 x (List.mem_of_mem_drop u)
 ·rcases c with rfl|c
  ·exact .inl h.self
  ·rcases n6 b c with V|V
   ·exact .inl ((k3 b).2 (.inr V))
   ·have:=G.size;exact .inr (by omega)
end Go.Proofs
namespace Go.Vc
open Go Go.Shelf Go.RowKit Go.Lib Go.Sort Go.Proofs
def t8{P:Program}(h:mU P=true){g:FuncId}(e:∃fn,P.funcs[g]? =some fn/\fn.body.isSome=true)(c:Array Value)(w:World):(callFunc g c).run P w=.ok (.enter g c) w:=by
 obtain⟨fn,f,e⟩:=e
 have d:(fn.name== "runtime.NumGoroutine")=false:=by
  have:=(Array.all_eq_true'.1 h) fn (Array.mem_of_getElem? f);simpa using this
 have a:¬fn.name= "runtime.NumGoroutine" :=by simpa using d
 have b:¬fn.body=none:=by intro i;rw[i]at e;exact absurd e (by simp)
 unfold callFunc;simp[Sem.run_bind,Result.andThen,f,a,b]
def qI{α:Type} [Inhabited α](enc:α->List Value)(k:Nat)(e:0<k)(a:∀x,(enc x).length=k)(d:Array α):(flatK enc k d).toList=d.toList.flatMap enc:=by
 have j:(d.toList.flatMap enc).length=d.size*k:=by rw[kw enc k _ λx _=>a x];simp
 apply List.ext_getElem?;intro t;by_cases b:t<d.size*k
 ·have h1:(flatK enc k d).toList[t]? =some (flatK enc k d)[t]! :=by
   rw[Array.getElem?_toList,Array.getElem?_eq_getElem (by simpa using b),getElem!_pos _ t (by simpa using b)]
  rw[h1,get_flatK enc k d t b];have f:t / k<d.size:=Nat.div_lt_of_lt_mul (by rw[Nat.mul_comm];exact b);have c:t%k<k:=Nat.mod_lt _ e;have g:=jd enc k d.toList (t / k) (λx _=>a x) (by simpa using f)
  have i:(d.toList.flatMap enc)[t]? =((d.toList.flatMap enc).drop (t / k*k) |>.take k)[t%k]? :=by
   rw[List.getElem?_take,if_pos c,List.getElem?_drop,Nat.div_add_mod']
  rw[i,g]
  have h:d[t / k]! =d.toList[t / k]'(by simpa using f):=by
   rw[getElem!_pos d _ f];simp
  rw[h,getElem!_pos _ _ (by rw[a];exact c),List.getElem?_eq_getElem (by rw[a];exact c)]
 ·rw[List.getElem?_eq_none (by simp;omega),List.getElem?_eq_none (by omega)]
def xo(F rest cs:List Value)(h:F.length=cs.length):putCells id 0 F.toArray (cs++rest).toArray=(F++rest).toArray:=by
 apply Array.ext_getElem?;intro t;simp only[putCells,Array.getElem?_mapIdx,List.getElem?_toArray,List.size_toArray,Nat.zero_le,true_and,Nat.zero_add,Nat.sub_zero,id];by_cases a:t<F.length
 ·rw[List.getElem?_append_left (by omega),List.getElem?_append_left a,List.getElem?_eq_getElem (show t<cs.length by omega),Option.map_some,if_pos a,List.getElem?_eq_getElem a];rw[getElem!_pos _ t (by simpa using a)];simp
 ·rw[List.getElem?_append_right (by omega),List.getElem?_append_right (by omega),h];cases rest[t - cs.length]? with
  |none=>rfl
  |some v=>rw[Option.map_some,if_neg (by omega)]
section
variable{P:Program}{ρ:Ren}{α:Type} [Inhabited α]
def yu(hP:mU P=true)(L:SlLaysF0.n6 P ρ)(k:Nat)(U:iA P (ρ.t 24)=true)(V:P.cellsOf (ρ.t 24)=k+1)(enc:α->List Value)(u:∀x,(enc x).length=k+1)(h1:∀x,(enc x).all (·.oneCell')=true)
  (A:α->α->Int)(X:SWO (ltOf A))(g:Nat)(D:∀(x y:α) (W:World),Ca P g #[.agg (enc x).toArray,.agg (enc y).toArray] W λv w' =>v=.int .i64 (A x y)/\∃q os,w' =grow (W.drewN q) os)
  {e:TypeId}{w:World}{sl:Value}{n:Nat}{d:List α}{K:cm}(S:dW w e (k+1) sl n (d.flatMap enc))(hn:n<4611686018427387904)
  (R:∀(w' :World) (a:List α),dW w' e (k+1) sl n (a.flatMap enc)->a.Perm d->a.Pairwise (λx y=>ltOf A y x=false)->cl (co sl) w w' ->K (.tuple #[]) w'):
  Ca P (ρ.f 6) #[sl,.func (.func g) #[] #[]] w K:=by
 have c:d.length=n:=by
  have:=S.1;rw[kw enc (k+1) d λx _=>u x]at this;exact Nat.eq_of_mul_eq_mul_right (Nat.succ_pos k) this
 obtain⟨F,⟨rfl,rfl⟩|⟨b,p,rest,rfl,hc,G,hr,N⟩⟩:=S
 ·have T:d=[]:=List.length_eq_zero_iff.1 c;subst T;have:=AnyF.slices_SortFunc_none L none 0 (.func (.func g) #[] #[]) w;exact⟨Calls.mono this λe w' ⟨B,I⟩=>⟨_,B,by subst I;exact R _ [] (dW.nil ..) (List.Perm.refl _) List.Pairwise.nil (cl.refl _ _)⟩⟩
 ·have Q:b<w.heap.size:=cn G;have O:=t8 hP (D default default w).bodied
  have hH:HoldsK enc (k+1) w b 0 d.toArray:=by
   intro j t;rw[size_flatK]at t
   have Z:(flatK enc (k+1) d.toArray)[j]! =(d.flatMap enc)[j]'(by rw[F,<-c];simpa using t):=by
    rw[getElem!_pos _ j (by rw[size_flatK];exact t),<-Array.getElem_toList];congr 1;exact qI enc (k+1) (Nat.succ_pos k) u d.toArray
   have J:j<(d.flatMap enc).length:=by rw[F,<-c];simpa using t
   constructor
   ·simp only[World.cell?,G,Nat.zero_add];rw[Z];simp[List.getElem?_append_left J]
   ·simp[World.frozen?,G]
  have C:CmpLays P g #[] enc (k+1) A b 0 d.toArray.size w:=λm os dk _ x y=>by
   refine Calls.mono (D x y _).out ?_;rintro e w' ⟨v,rfl,rfl,I⟩;exact⟨rfl,I⟩
  have o:=AnyQ.slices_SortFunc L (k+1) (rp U) (fX V) enc u (λx v hv=>List.all_eq_true.1 (h1 x) v hv) A X g #[] b 0 p d.toArray w O C hH Q (by simpa [c]using hn);rw[show d.toArray.size=n by simpa using c]at o;refine⟨Calls.mono o ?_⟩;rintro e' w' ⟨rfl,a,m,os,hp,hs,rfl⟩;refine⟨_,rfl,?_⟩;have r:a.size=n:=by rw[hp.1];simpa using c
  have M:(flatK enc (k+1) a).toList=a.toList.flatMap enc:=qI enc (k+1) (Nat.succ_pos k) u a;have E:flatK enc (k+1) a=(a.toList.flatMap enc).toArray:=by rw[<-M]
  have h:(a.toList.flatMap enc).length=(d.flatMap enc).length:=by
   rw[F,kw enc (k+1) _ λx _=>u x];simp[r]
  have f:∀l,l<w.heap.size->(sortWorldK enc (k+1) w b 0 m a os).heap[l]? =if l=b then some (.cells (a.toList.flatMap enc++rest).toArray e (0,0))else w.heap[l]? :=by
   intro l s;show((w.heap.modify b (onCells (putCells id 0 (flatK enc (k+1) a))))++os)[l]? =_;rw[Array.getElem?_append_left (by simpa using s),Array.getElem?_modify];by_cases B:l=b
   ·subst B;rw[if_pos rfl,if_pos rfl,G];simp only[Option.map_some,onCells];rw[E,xo _ _ _ h]
   ·rw[if_neg (λe=>B e.symm),if_neg B]
  have z:cl (co (.slice (some ⟨b,0,none⟩) n p)) w (sortWorldK enc (k+1) w b 0 m a os):=by
   refine⟨?_,rfl,rfl,λl s hf=>?_⟩
   ·show w.heap.size<=((w.heap.modify b _)++os).size;simp
   ·rw[f l s,if_neg (λe=>hf (by subst e;rfl))]
  refine R _ a.toList ⟨by rw[h,F],.inr ⟨b,p,rest,rfl,hc,by rw[f b Q,if_pos rfl],hr,N⟩⟩ ?_ ?_ z
  ·have:=hp.2.2;have e1:a.extract 0 n=a:=by rw[<-r];simp
   have Y:d.toArray.extract 0 n=d.toArray:=by rw[<-c];simp
   rw[e1,Y]at this;simpa using this
  ·rw[List.pairwise_iff_getElem];intro i j hi t H;have:=hs i j (Nat.zero_le _) H (by rw[<-r];simpa using t);rw[getElem!_pos a i (by simpa using hi),getElem!_pos a j (by simpa using t)]at this;simpa using this
end
end Go.Vc
namespace Go.Proofs
open Go Go.Vc Go.Shelf Go.RowKit Go.Lib Go.Sort
theorem dk_ {p : Prop} (h : p := by first | kernel_rfl | (intro _; kernel_rfl)) : p := h
theorem de_ {f : FuncId} {B : Func} (h : ((Tryz.prog.funcs[f]?.elim "" (·.name)) == "runtime.NumGoroutine") = false := by kernel_rfl) (g : Tryz.prog.funcs[f]? = some {B with name := Tryz.prog.funcs[f]?.elim "" (·.name)} := by kernel_rfl) : Bears Tryz.prog f B := ⟨_, h, g⟩
def Tryz.sortAc_ren : Ren := ⟨fun | 6 => 139 | 15 => 230 | 14 => 229 | 28 => 283 | 29 => 284 | 20 => 275 | 21 => 276 | 22 => 277 | 23 => 278 | 24 => 279 | 25 => 280 | 26 => 281 | 27 => 282 | 46 => 313 | 47 => 314 | 48 => 315 | 49 => 316 | 50 => 317 | 57 => 353 | n => n, fun | 22 => 44 | 24 => 92 | 25 => 241 | 3 => 3 | 39 => 249 | 0 => 0 | 53 => 35 | 55 => 27 | 4 => 4 | 46 => 385 | 45 => 384 | 50 => 292 | 5 => 5 | 9 => 9 | 66 => 421 | 70 => 424 | 76 => 453 | 77 => 454 | n => n, fun n => n⟩
theorem Tryz.sortAc : SlLaysF0.n6 Tryz.prog Tryz.sortAc_ren := by constructor <;> first | exact dk_ | exact de_
def Tryz.sortPo_ren : Ren := ⟨fun | 6 => 233 | 15 => 230 | 14 => 285 | 28 => 283 | 29 => 284 | 20 => 318 | 21 => 319 | 22 => 320 | 23 => 321 | 24 => 322 | 25 => 323 | 26 => 324 | 27 => 325 | 46 => 354 | 47 => 314 | 48 => 315 | 49 => 355 | 50 => 356 | 57 => 370 | n => n, fun | 22 => 46 | 24 => 112 | 25 => 330 | 3 => 3 | 39 => 249 | 0 => 0 | 53 => 35 | 55 => 27 | 4 => 4 | 46 => 385 | 45 => 384 | 50 => 292 | 5 => 5 | 9 => 9 | 66 => 421 | 70 => 424 | 76 => 453 | 77 => 454 | n => n, fun n => n⟩
theorem Tryz.sortPo : SlLaysF0.n6 Tryz.prog Tryz.sortPo_ren := by constructor <;> first | exact dk_ | exact de_
end Go.Proofs
namespace Go.Proofs
open Go Go.Vc Go.Sort
def nO(W:World)(o o' :Obj):∃q os,(W.alloc o).alloc o' =grow (W.drewN q) os:=
 ⟨0,#[o]++ #[o'],by rw[alloc_eq_grow,alloc_eq_grow,grow_grow];rfl⟩
def rP(x y:Ac):Int:=if x.num<y.num then -1 else 1
def pX(x y:Po):Int:=if ni x.key y.key then -1 else if x=y then 0 else 1
def EX(x y:Ac):ltOf rP x y=decide (x.num<y.num):=by
 unfold ltOf rP;split<;>simp_all
def Fy(x y:Po):ltOf pX x y=ni x.key y.key:=by
 unfold ltOf pX;cases h:ni x.key y.key
 ·by_cases a:x=y<;>simp[a]
 ·simp
def N0:SWO (ltOf rP) where
 irrefl x:=by rw[EX];simp
 trans x y z h1 h2:=by rw[EX]at*;simp at*;omega
 ntrans x y z h1 h2:=by rw[EX]at*;simp at*;omega
def O4:SWO (ltOf pX) where
 irrefl x:=by rw[Fy];exact wy
 trans x y z h1 h2:=by rw[Fy]at*;exact qZ h1 h2
 ntrans x y z h1 h2:=by
  rw[Fy]at*;rw[Bool.eq_false_iff,Ne,jh]at*;omega
def Et(x y:Ac)(W:World):Ca Tryz.prog 140 #[.agg (cJ x).toArray,.agg (cJ y).toArray] W λv a=>v=.int .i64 (rP x y)/\∃q os,a=grow (W.drewN q) os:=by
 apply Pl;simp[go_sem,cJ];unfold rP;split
 ·exact⟨rfl,nO ..⟩
 ·exact⟨rfl,nO ..⟩
def Ga(x y:Po)(W:World):Ca Tryz.prog 234 #[.agg (cK x).toArray,.agg (cK y).toArray] W λv n=>v=.int .i64 (pX x y)/\∃q os,n=grow (W.drewN q) os:=by
 apply MI;simp[go_sem,cK];generalize d:World.alloc _ _=e;have g:∃q os,e=grow (W.drewN q) os:=by subst d;exact nO ..
 have m:hp e W.heap.size=some (.cells #[.int .u32 x.c,.int .u32 x.a,.int .i64 x.q,.int .i64 x.b] 112 (0,0)):=by subst d;simp[go_sem]
 have k:hp e (W.heap.size+1)=some (.cells #[.int .u32 y.c,.int .u32 y.a,.int .i64 y.q,.int .i64 y.b] 112 (0,0)):=by subst d;simp[go_sem]
 refine cB.at (λs o=>s=(.bool (ni x.key y.key),())/\o=e) ?_ ?_
 ·simp[go_sem,cO m,cO k];unfold ni Po.key;by_cases h1:x.c<y.c
  ·simp[h1]
  ·by_cases f:x.c=y.c
   ·simp[h1,f]
   ·simp[h1,f]
 rintro _ e ⟨rfl,rfl⟩;unfold FW;intro _;cases i:ni x.key y.key
 ·simp[go_sem,cO m,cO k]
  have h:x=y↔x.c=y.c/\x.a=y.a/\x.q=y.q/\x.b=y.b:=by
   obtain⟨c,a,q,b⟩:=x;obtain⟨p,t,u,r⟩:=y;simp
  by_cases h1:x.c=y.c<;>by_cases f:x.a=y.a<;>by_cases l:x.q=y.q<;>by_cases j:x.b=y.b<;>simp[h1,f,l,j]<;>exact⟨by simp[pX,i,h,h1,f,l,j],g⟩
 ·simp;exact⟨by simp[pX,i],g⟩
def Ou:eN Tryz.prog 92 4 24=true:=by kernel_rfl
def CI{w:World}{sl:Value}{n:Nat}{d:List Ac}{K:cm}(b:dW w 92 4 sl n (d.flatMap cJ))(e:n<4611686018427387904)
  (c:∀(w' :World) (a:List Ac),dW w' 92 4 sl n (a.flatMap cJ)->a.Perm d->a.Pairwise (λx y=>ltOf rP y x=false)->cl (co sl) w w' ->K (.tuple #[]) w'):
  Ca Tryz.prog 139 #[sl,.func (.func 140) #[] #[]] w K:=
 yu (P:=Tryz.prog) (α:=Ac) Tryz.noNum Tryz.sortAc 3 (by kernel_rfl) (by kernel_rfl) cJ (λ_=>rfl) (λ_=>rfl) rP N0 140 Et b e c
def zM{y sl:Value}{b n:Nat}{T:TypeId}{xs:List Ac}(J:Nat->World->Prop)(I:World->Prop){W:World}{K:cm}(O:hp W b=some (.cells #[sl] T (0,0)))(z:dW W 92 4 sl n (xs.flatMap cJ))(hn:n<4611686018427387904)
  (N:J 0 W)(m:∀i W a,J i W->cl (λ_=>False) W a->J i a)
  (d:∀i x W,xs[i]? =some x->J i W->∀D:cm,(∀a,J (i+1) a->(∀b,co sl b->a.heap[b]? =W.heap[b]?)->D (.bool true) a)->(∀a,I a->D (.bool false) a)->dX Tryz.prog y [gR x] W D)
  (g:∀W,J xs.length W->K (.tuple #[]) W)(B:∀W,I W->K (.tuple #[]) W):Ca Tryz.prog 231 #[y,.pointer (some ⟨b,0,none⟩)] W K:=by
 have w:xs.length=n:=by
  have:=z.1;rw[kw cJ 4 xs λx _=>rfl]at this;omega
 obtain⟨sa,H,rfl,X⟩:=z.isSl;apply ND;simp[go_sem,cO O]
 refine jQ (λs a=>∃i:Nat,i<=n/\s=(.int .i64 i,())/\J i a/\dW a 92 4 (.slice sa n H) n (xs.flatMap cJ))
  (λs _=>match s.1 with| .int _ i=>n - i.toNat|_=>0) ⟨0,by omega,rfl,N,z⟩ ?_
 rintro⟨_,_⟩ a ⟨i,hi,⟨⟩,F,E⟩ Y r;unfold D3;intro _;by_cases f:i<n
 ·obtain⟨M,v,u,p⟩:=dW.elem E f;obtain⟨rfl,-,rfl⟩:sa=some ⟨M,0,none⟩/\True/\H=v:=by injection u with U e2 V;exact⟨U,trivial,V⟩
  rw[jd cJ 4 _ _ (λ_ _=>rfl) (by omega)]at p;obtain⟨C,e,Z,L,c⟩:=p.get;have k:=c 0 _ rfl;have q:=c 1 _ rfl;have j:=c 2 _ rfl;have l:=c 3 _ rfl;simp only[Nat.zero_add,Nat.add_zero]at k q j l;have A:IntKind.i64.wrap ((i:Int)+1)=((i+1:Nat):Int):=by rw[IntKind.wrap_i64];omega
  simp[-Int.natCast_add,go_sem,f,L,k,q,j,l];have R:xs[i]? =some xs[i]:=List.getElem?_eq_getElem (by omega);have G:∀o,cl (λ_=>False) a (a.alloc o):=λo=>(cl.refl _ a).alloc o;refine d i _ _ R (m _ _ _ F (G _)) _ (λS t P=>?_) (λS Q=>?_)
  ·simp[-Int.natCast_add,go_sem,A];refine r _ _ ⟨i+1,by omega,rfl,t,(E.mod (G _) λ_ _ h=>h).keep P⟩ (by simp;omega)
  ·simp[go_sem];exact B _ Q
 ·obtain rfl:i=n:=by omega
  simp[go_sem];exact g _ (w▸F)
def Da{w:World}{sl:Value}{n:Nat}{d:List Po}{K:cm}(b:dW w 112 4 sl n (d.flatMap cK))(e:n<4611686018427387904)
  (c:∀(w' :World) (a:List Po),dW w' 112 4 sl n (a.flatMap cK)->a.Perm d->a.Pairwise (λx y=>ltOf pX y x=false)->cl (co sl) w w' ->K (.tuple #[]) w'):
  Ca Tryz.prog 233 #[sl,.func (.func 234) #[] #[]] w K:=
 yu (P:=Tryz.prog) (α:=Po) Tryz.noNum Tryz.sortPo 3 (by kernel_rfl) (by kernel_rfl) cK (λ_=>rfl) (λ_=>rfl) pX O4 234 Ga b e c
def zR{y sl:Value}{b n:Nat}{T:TypeId}{xs:List Po}(J:Nat->World->Prop)(I:World->Prop){W:World}{K:cm}(O:hp W b=some (.cells #[sl] T (0,0)))(z:dW W 112 4 sl n (xs.flatMap cK))(hn:n<4611686018427387904)
  (N:J 0 W)(m:∀i W a,J i W->cl (λ_=>False) W a->J i a)
  (d:∀i x W,xs[i]? =some x->J i W->∀D:cm,(∀a,J (i+1) a->(∀b,co sl b->a.heap[b]? =W.heap[b]?)->D (.bool true) a)->(∀a,I a->D (.bool false) a)->dX Tryz.prog y [kU x] W D)
  (g:∀W,J xs.length W->K (.tuple #[]) W)(B:∀W,I W->K (.tuple #[]) W):Ca Tryz.prog 286 #[y,.pointer (some ⟨b,0,none⟩)] W K:=by
 have w:xs.length=n:=by
  have:=z.1;rw[kw cK 4 xs λx _=>rfl]at this;omega
 obtain⟨sa,H,rfl,X⟩:=z.isSl;apply O1;simp[go_sem,cO O]
 refine jQ (λs a=>∃i:Nat,i<=n/\s=(.int .i64 i,())/\J i a/\dW a 112 4 (.slice sa n H) n (xs.flatMap cK))
  (λs _=>match s.1 with| .int _ i=>n - i.toNat|_=>0) ⟨0,by omega,rfl,N,z⟩ ?_
 rintro⟨_,_⟩ a ⟨i,hi,⟨⟩,F,E⟩ Y r;unfold FG;intro _;by_cases f:i<n
 ·obtain⟨M,v,u,p⟩:=dW.elem E f;obtain⟨rfl,-,rfl⟩:sa=some ⟨M,0,none⟩/\True/\H=v:=by injection u with U e2 V;exact⟨U,trivial,V⟩
  rw[jd cK 4 _ _ (λ_ _=>rfl) (by omega)]at p;obtain⟨C,e,Z,L,c⟩:=p.get;have k:=c 0 _ rfl;have q:=c 1 _ rfl;have j:=c 2 _ rfl;have l:=c 3 _ rfl;simp only[Nat.zero_add,Nat.add_zero]at k q j l;have A:IntKind.i64.wrap ((i:Int)+1)=((i+1:Nat):Int):=by rw[IntKind.wrap_i64];omega
  simp[-Int.natCast_add,go_sem,f,L,k,q,j,l];have R:xs[i]? =some xs[i]:=List.getElem?_eq_getElem (by omega);have G:∀o,cl (λ_=>False) a (a.alloc o):=λo=>(cl.refl _ a).alloc o;refine d i _ _ R (m _ _ _ F (G _)) _ (λS t P=>?_) (λS Q=>?_)
  ·simp[-Int.natCast_add,go_sem,A];refine r _ _ ⟨i+1,by omega,rfl,t,(E.mod (G _) λ_ _ h=>h).keep P⟩ (by simp;omega)
  ·simp[go_sem];exact B _ Q
 ·obtain rfl:i=n:=by omega
  simp[go_sem];exact g _ (w▸F)
def HS{d l:List Ac}(c:pS l)(hp:d.Perm l)(j:d.Pairwise λx y=>ltOf rP y x=false):d=l:=by
 refine hp.eq_of_pairwise (λa b k n h1 g=>?_) j (c.imp λh=>?_)
 ·rw[EX]at h1 g;simp only[decide_eq_false_iff_not]at h1 g;have f:=hp.mem_iff.1 k;have e:a.num=b.num:=by omega
  have i:=dM.find_some (S:=⟨0,l,[]⟩) c f;have m:=dM.find_some (S:=⟨0,l,[]⟩) c n;rw[e,m]at i;exact(Option.some.inj i).symm
 ·rw[EX];simp only[decide_eq_false_iff_not];omega
def Ia{d l:List Po}(f:mM l)(hp:d.Perm l)(j:d.Pairwise λx y=>ltOf pX y x=false):d=l:=by
 refine hp.eq_of_pairwise (λa b k n h1 c=>?_) j (f.imp λh=>?_)
 ·rw[Fy]at h1 c;have g:=hp.mem_iff.1 k
  have e:a.key=b.key:=by
   rcases Bv a.key b.key with h|h|h
   ·rw[h]at c;cases c
   ·exact h
   ·rw[h]at h1;cases h1
  have i:=dM.pos_some (S:=⟨0,[],l⟩) f g;have m:=dM.pos_some (S:=⟨0,[],l⟩) f n;rw[e,m]at i;exact(Option.some.inj i).symm
 ·rw[Fy];exact vd h
def Ec{e ty g:TypeId}{k a:Nat}{α:Type}{enc:α->List Value}{w:World}{v:Value}{d:List α}{x:α}{K:cm}(i:Tryz.prog.underlying g=some (.slice e))(q:eN Tryz.prog e (k+1) a=true)(r:(enc x).length=k+1)(h1:(enc x).all (·.oneCell')=true)(E:k<1000)(l:a<=10000)
  (z:dW w e (k+1) v d.length (d.flatMap enc))(D:d.length<4294967296)
  (y:∀f c,dW c e (k+1) f (d++[x]).length ((d++[x]).flatMap enc)->cl (co v) w c->(∀b,co f b->co v b\/w.heap.size<=b)->K f c):
  rx Tryz.prog (dP g 1 [(0,.agg (enc x).toArray)]) w λp j=>rx Tryz.prog (cv #[g,g] ty [v,p]) j K:=by
 refine fg (e:=e) (sz:=k+1) [.agg (enc x).toArray] i (cI q) rfl rfl (by simp[Value.cells,r]) (by omega) ?_;have s:∀o,cl (λ_=>False) w (w.alloc o):=λo=>(cl.refl _ w).alloc o
 have A:Rd (w.alloc (.cells (([Value.agg (enc x).toArray].flatMap (·.cells.toList)).toArray) e)) (k+1) (.slice (some ⟨w.heap.size,0,none⟩) 1 1) 1 (enc x):=by
  refine⟨by rw[r];omega,.inr ⟨_,0,1,rfl,Nat.le_refl _,⟨_,_,_,by rw[cY,if_pos rfl],?_,?_⟩⟩⟩
  ·simp[Value.cells]
  ·simp[Value.cells]
 refine dt (n:=d.length) (m:=1) i i (cI q) (z.mod (s _) λ_ _ h=>h) A h1 ?_ λf c B C t=>?_
 ·have:(d.length+1)*a<=4294967296*10000:=Nat.mul_le_mul (by omega) l;omega
 ·refine y f c ?_ (((s _).mono λ_ _ h=>h.elim).trans C) λb u=>?_
  ·simpa using B
  ·rcases t b u with h|h
   ·exact .inl h
   ·rw[World.size_alloc]at h;exact .inr (by omega)
def PK:Tryz.prog.underlying 44=some (.slice 92):=by kernel_rfl
def LR:Tryz.prog.underlying 46=some (.slice 112):=by kernel_rfl
def zn{l b:Nat}{S:dM}{T:TypeId}:tO Tryz.prog (.func (.func 138) #[] #[.pointer (some ⟨b,0,none⟩)]) (S.all.map λa=>[gR a]) (λW=>hp W b=some (.cells #[dm l] T (0,0))/\∃F,iC W l F S):=by
 refine⟨⟨_,_,_,rfl,?_⟩⟩;rintro y J Js W K ⟨c,F,hq⟩ hQ I w H hex;have hq0:=hq;obtain⟨⟨t,m2,A,B,h1,X,h3,h4,h5,h6,h7⟩,j⟩:=hq;show Ca Tryz.prog _ #[y,.pointer (some ⟨b,0,none⟩)] W K;apply O7;refine cB.at (λs f=>∃(d:List Ac) (v:Value),s=(v,())/\dW f 92 4 v d.length (d.flatMap cJ)/\d.Perm S.all/\cl (λ_=>False) W f/\∀b,co v b->W.heap.size<=b) ?_ ?_
 ·simp[go_sem,cO c];refine lI hq0 ?_;simp[go_sem,cO c,dm,cO h1];refine kL lU X λw1 O L=>?_;generalize hg:W.heap.size=q at O
  refine jQ (λs f=>∃(d:List Ac) (v:Value) (rest:List (Int×Ac)),s=(v,())/\dW f 92 4 v d.length (d.flatMap cJ)/\fN d8 gR f q t rest/\(d++(rest.filter λp=>decide (p.1≠0)).map (·.2)).Perm S.all/\cl (λ_=>False) W f/\∀b,co v b->q<b)
   (λs W=>jx q t W) ⟨[],_,A,rfl,dW.nil ..,O,?_,L,λb c=>by cases c⟩ ?_
  ·have:=(h4.filter λp=>decide (p.1≠0)).map (·.2);refine this.trans (List.Perm.of_eq ?_);simp only[dM.accs];rw[List.filter_cons_of_neg (by simp),List.filter_eq_self.2 ?_,List.map_map]
   ·exact List.map_id _
   ·intro p hp;obtain⟨a,ha,rfl⟩:=List.mem_map.1 hp;have:=(j.acc a ha).1;simp;omega
  rintro⟨v,_⟩ W1 ⟨d,_,rest,⟨⟩,R,u,hp,V,g⟩ KN E;unfold Fo;intro _;refine mL u ?_ ?_
  ·intro h0 C P hh;subst h0;simp[go_sem];exact⟨d,R.mod P λ_ _ h=>h,by simpa using hp,V.trans P,λb c=>by have:=g b c;omega⟩
  ·intro i p hi C it' D P Y;simp[go_sem];refine kE D ?_;simp[go_sem,gR,d8];have M:=iu hi;have U:∀o,cl (λ_=>False) W (C.alloc o):=λo=>(V.on P λb c=>.inr (by subst c;omega)).alloc o;have m:∀o,fN d8 gR (C.alloc o) q t (rest.eraseIdx i):=λo=>it'.mod ((cl.refl (λ_=>False) C).alloc o) id id;have oA:∀o,dW (C.alloc o) 92 4 v d.length (d.flatMap cJ):=λo=>(R.mod P λb c e=>by have:=g b c;omega).mod ((cl.refl (λ_=>False) C).alloc o) λ_ _ h=>h
   have G:∀f,fN d8 gR f q t (rest.eraseIdx i)->jx q t f<jx q t W1:=λf h=>by
    rw[h.left,u.left,List.length_eraseIdx];have:i<rest.length:=(List.getElem?_eq_some_iff.1 hi).1;rw[if_pos this];omega
   have hdl:d.length<=64:=by
    have h1:=hp.length_eq;have X:=j.len;simp only[List.length_append]at h1;omega
   by_cases Q:p.1=0
   ·rw[if_pos Q];refine E _ _ ⟨d,_,_,rfl,oA _,m _,?_,U _,g⟩ (G _ (m _));refine(List.Perm.append_left d ?_).trans hp;have:=(M.filter λp=>decide (p.1≠0)).map (·.2);rw[List.filter_cons_of_neg (by simp[Q])]at this;exact this.symm
   ·rw[if_neg Q];refine Ec (d:=d) (enc:=cJ) (x:=p.2) (k:=3) PK Ou rfl rfl (by omega) (by omega) (oA _) (by omega) λv' w'' o' z n' =>?_;have r:¬co v q:=λh=>by have:=g q h;omega
    have N:¬co v t:=λh=>by have:=g t h;have:=X.lt;omega
    refine E _ _ ⟨d++[p.2],v',_,rfl,o',(m _).mod z N r,?_,(U _).on z λb c=>.inr (by have:=g b c;omega),λb c=>?_⟩ (G _ ((m _).mod z N r))
    ·have:=(M.filter λp=>decide (p.1≠0)).map (·.2);rw[List.filter_cons_of_pos (by simpa using Q),List.map_cons]at this;rw[List.append_assoc];exact(List.Perm.append_left d this.symm).trans hp
    ·rcases n' b c with h|h
     ·exact g b h
     ·rw[World.size_alloc,Y]at h;have:=u.lt.2;omega
 rintro _ W1 ⟨d,v,rfl,R,hp,V,g⟩;unfold GH;intro _
 have hdl:d.length<=64:=by
  have h1:=hp.length_eq;have X:=j.len;omega
 refine CI R (by omega) λw2 d' o2 p2 s2 m2' =>?_;obtain rfl:d' =S.all:=HS j.sa (p2.trans hp) s2;obtain⟨sa,sc,rfl,hsc⟩:=o2.isSl;apply Nn;simp[go_sem];have mW2:cl (λ_=>False) W w2:=V.on m2' λb c=>.inr (g b c);have U:∀o,cl (λ_=>False) W (w2.alloc o):=λo=>mW2.alloc o;refine zM (n:=d.length) (sl:=.slice sa d.length sc) (T:=44) (J (co (.slice sa d.length sc))) Js (by simp[go_sem]) (o2.mod ((cl.refl (λ_=>False) w2).alloc _) λ_ _ h=>h) (by omega) (hQ _ _ (U _) λb c=>⟨g b c,?_⟩) (I _) ?_ ?_ hex
 ·have:=o2.lt c;rw[World.size_alloc];omega
 ·intro i x f hx Z K' hT hF;exact w _ i [gR x] f (by simp[hx]) Z K' hT hF
 ·intro f Z;exact H _ f (by simpa using Z)
def IX{l b b2 f:Nat}{cap:Array Value}{S:dM}{T T2:TypeId}{want:Po->Bool}{Wk:World->Prop}(hWk:∀W g,Wk W->cl (λ_=>False) W g->Wk g)
  (M:∀p W (K:cm),Wk W->(∀g,cl (λ_=>False) W g->K (.bool (want p)) g)->Ca Tryz.prog f ⟨kU p::cap.toList⟩ W K):
  tO Tryz.prog (.func (.func 232) #[] #[.pointer (some ⟨b,0,none⟩),.pointer (some ⟨b2,0,none⟩)]) ((S.held.filter want).map λa=>[kU a])
   (λW=>hp W b=some (.cells #[dm l] T (0,0))/\hp W b2=some (.cells #[.func (.func f) #[] cap] T2 (0,0))/\Wk W/\S.held.length<4294967295/\∃F,iC W l F S):=by
 refine⟨⟨_,_,_,rfl,?_⟩⟩;rintro y J Js W K ⟨c,G,hwk,hlen,F,hq⟩ hQ Z E Y hex;have hq0:=hq;obtain⟨⟨m1,u,A,B,h1,h2,h3,h4,h5,h6,h7⟩,hok⟩:=hq;show Ca Tryz.prog _ #[y,.pointer (some ⟨b,0,none⟩),.pointer (some ⟨b2,0,none⟩)] W K;apply Ny;refine cB.at (λs g=>∃(d:List Po) (v:Value),s=(v,())/\dW g 112 4 v d.length (d.flatMap cK)/\d.Perm (S.held.filter want)/\cl (λ_=>False) W g/\∀b,co v b->W.heap.size<=b) ?_ ?_
 ·simp[go_sem,cO c];refine lI hq0 ?_;simp[go_sem,cO c,dm,cO h1];refine kL Bj h3 λw1 it1 mod1=>?_;generalize hg:W.heap.size=r at it1
  refine jQ (λs g=>∃(d:List Po) (v:Value) (rest:List ((Int×Int)×Po)),s=(v,())/\dW g 112 4 v d.length (d.flatMap cK)/\fN eV kU g r u rest/\(d++(rest.map (·.2)).filter want).Perm (S.held.filter want)/\cl (λ_=>False) W g/\∀b,co v b->r<b)
   (λs W=>jx r u W) ⟨[],_,B,rfl,dW.nil ..,it1,?_,mod1,λb c=>by cases c⟩ ?_
  ·have:=(h5.map (·.2)).filter want;refine this.trans (List.Perm.of_eq ?_);simp only[dM.poss,List.map_map];congr 1;exact List.map_id _
  rintro⟨v,_⟩ W1 ⟨d,_,rest,⟨⟩,oW,D,q,N,m⟩ KN R;unfold EM;intro _;refine mL D ?_ ?_
  ·intro h0 L O hh;subst h0;simp[go_sem];exact⟨d,oW.mod O λ_ _ h=>h,by simpa using q,N.trans O,λb c=>by have:=m b c;omega⟩
  ·intro i p hi L it' Q O hsz;simp[go_sem];refine kE Q ?_;have V:∀o,cl (λ_=>False) W (L.alloc o):=λo=>(N.on O λb c=>.inr (by subst c;omega)).alloc o;have hb2' :=λo=>(V o).keep G id
   have hne2:b2≠L.heap.size:=by
    have h1:=cn G;have h2:=N.size;omega
   have hb2w:L.heap[b2]? =some (.cells #[.func (.func f) #[] cap] T2 (0,0)):=(N.on (F:=λ_=>False) O λb c=>.inr (by subst c;omega)).keep G id;simp[go_sem,kU,eV,cO hb2w,hne2];have hpe:=iu hi;generalize z:World.alloc _ _=w;have mA:cl (λ_=>False) W w:=by subst z;exact V _
   have U:hp w L.heap.size=some (.cells #[.int .u32 p.2.c,.int .u32 p.2.a,.int .i64 p.2.q,.int .i64 p.2.b] 112 (0,0)):=by subst z;simp[go_sem]
   have m02:cl (λ_=>False) L w:=by subst z;exact(cl.refl _ L).alloc _
   refine M p.2 w _ (hWk _ _ hwk mA) λw3 m3=>?_;have C:=m3.keep U id;have I:=m02.trans m3;have P:=mA.trans m3;have j:fN eV kU w3 r u (rest.eraseIdx i):=it'.mod I id id;have o3:dW w3 112 4 v d.length (d.flatMap cK):=(oW.mod O λb c e=>by have:=m b c;omega).mod I λ_ _ h=>h
   have X:∀g,fN eV kU g r u (rest.eraseIdx i)->jx r u g<jx r u W1:=λg h=>by
    rw[h.left,D.left,List.length_eraseIdx];have:i<rest.length:=(List.getElem?_eq_some_iff.1 hi).1;rw[if_pos this];omega
   have hdl:d.length<4294967295:=by
    have h1:=q.length_eq;have h2:=List.length_filter_le want S.held;simp only[List.length_append]at h1;omega
   cases hz:want p.2
   ·simp;refine R _ _ ⟨d,_,_,rfl,o3,j,?_,P,m⟩ (X _ j);refine(List.Perm.append_left d ?_).trans q;have:=(hpe.map (·.2)).filter want;rw[List.map_cons,List.filter_cons_of_neg (by simp[hz])]at this;exact this.symm
   ·simp[go_sem,cO C];refine Ec (d:=d) (enc:=cK) (x:=p.2) (k:=3) LR Lj rfl rfl (by omega) (by omega) o3 (by omega) λv' w'' o' H n' =>?_;have t:¬co v r:=λh=>by have:=m r h;omega
    have hmv:¬co v u:=λh=>by have:=m u h;have:=h3.lt;omega
    refine R _ _ ⟨d++[p.2],v',_,rfl,o',j.mod H hmv t,?_,P.on H λb c=>.inr (by have:=m b c;omega),λb c=>?_⟩ (X _ (j.mod H hmv t))
    ·have:=(hpe.map (·.2)).filter want;rw[List.map_cons,List.filter_cons_of_pos (by simpa using hz)]at this;rw[List.append_assoc];exact(List.Perm.append_left d this.symm).trans q
    ·rcases n' b c with h|h
     ·exact m b h
     ·have:=j.lt.2;have:=I.size;have:=D.lt.2;omega
 rintro _ W1 ⟨d,v,rfl,oW,hp,N,m⟩;unfold FE;intro _
 have hdl:d.length<4294967295:=by
  have h1:=hp.length_eq;have h2:=List.length_filter_le want S.held;omega
 refine Da oW (by omega) λw d' o2 p2 s2 m2' =>?_;obtain rfl:d' =S.held.filter want:=Ia (hok.sp.filter want) (p2.trans hp) s2;obtain⟨sa,sc,rfl,hsc⟩:=o2.isSl;apply Pw;simp[go_sem];have mW2:cl (λ_=>False) W w:=N.on m2' λb c=>.inr (m b c);have mA:∀o,cl (λ_=>False) W (w.alloc o):=λo=>mW2.alloc o;refine zR (n:=d.length) (sl:=.slice sa d.length sc) (T:=46) (J (co (.slice sa d.length sc))) Js (by simp[go_sem]) (o2.mod ((cl.refl (λ_=>False) w).alloc _) λ_ _ h=>h) (by omega) (hQ _ _ (mA _) λb c=>⟨m b c,?_⟩) (Z _) ?_ ?_ hex
 ·have:=o2.lt c;rw[World.size_alloc];omega
 ·intro i x g hx hJ K' hT hF;exact E _ i [kU x] g (by simp[hx]) hJ K' hT hF
 ·intro g hJ;exact Y _ g (by simpa using hJ)
structure ye(gv:Value)(xs:List (List Value))(w:World):Prop where
 out:∃Ok,tO Tryz.prog gv xs Ok/\∀W,cl (λ_=>False) w W->Ok W
 fn:∃f cap,gv=.func (.func f) #[] cap
def nZ{w:World}{l:Nat}{F:Nat->Prop}{S:dM}{K:cm}(h:iC w l F S)
  (d:∀gv c,ye gv (S.all.map λa=>[gR a]) c->cl (λ_=>False) w c->K gv c):Ca Tryz.prog 55 #[dm l] w K:=by
 apply QL;simp[go_sem,dm];refine d _ _ ⟨⟨_,zn (l:=l) (b:=w.heap.size) (T:=62),λW m=>⟨m.keep ?_ id,F,h.mod (((cl.refl (λ_=>False) w).alloc _).trans m) λ_ _ h=>h⟩⟩,_,_,rfl⟩ ((cl.refl _ w).alloc _);rw[cY,if_pos rfl];rfl
def AA{w:World}{l:Nat}{F:Nat->Prop}{S:dM}{K:cm}{c:Int}(h:iC w l F S)(s:S.held.length<4294967295)
  (j:∀gv i,ye gv ((S.holders c).map λa=>[kU a]) i->cl (λ_=>False) w i->K gv i):Ca Tryz.prog 56 #[dm l,.int .u32 c] w K:=by
 apply Qf;simp[go_sem];apply Np;simp[go_sem,dm];generalize d:World.alloc _ _=e;have k:cl (λ_=>False) w e:=by subst d;exact(((cl.refl _ w).alloc _).alloc _).alloc _
 have q:hp e w.heap.size=some (.cells #[.int .u32 c] 35 (0,0)):=by subst d;simp[go_sem]
 have r:hp e (w.heap.size+1)=some (.cells #[dm l] 62 (0,0)):=by subst d;simp[go_sem,dm]
 have o:hp e (w.heap.size+2)=some (.cells #[.func (.func 143) #[] #[.pointer (some ⟨w.heap.size,0,none⟩)]] 244 (0,0)):=by subst d;simp[go_sem]
 refine j _ _ ⟨⟨_,IX (l:=l) (b:=w.heap.size+1) (b2:=w.heap.size+2) (f:=143) (cap:=#[.pointer (some ⟨w.heap.size,0,none⟩)]) (T:=62) (T2:=244) (Wk:=λW=>hp W w.heap.size=some (.cells #[.int .u32 c] 35 (0,0)))
  (want:=λp=>decide (p.c=c)) (λW u t m=>m.keep t id) ?_,λW m=>⟨m.keep r id,m.keep o id,m.keep q id,s,F,h.mod (k.trans m) λ_ _ h=>h⟩⟩,_,_,rfl⟩ k
 intro p W K n j;apply PH;have g:=cn n;simp[go_sem,kU,cO n,Rg g];have:=j _ ((cl.refl _ W).alloc (.cells #[.int .u32 p.c,.int .u32 p.a,.int .i64 p.q,.int .i64 p.b] 112));rw[show(p.c==c)=decide (p.c=c) by rw[Bool.eq_iff_iff];simp];exact this
def HR{d:Nat}{ds:List Nat}{w:World}{K:World->Prop}:jF (d::ds) w K↔hp w d=some (.deferred (some []))/\jF ds (w.putObj d (.deferred none)) K:=Iff.rfl
def EQ{w:World}{K:World->Prop}:jF [] w K↔K w:=Iff.rfl
end Go.Proofs
namespace Go.Proofs
open Go Go.Vc
attribute [local congr] cr
def Il{W:World}{K:World->Prop}:∀{ds:List Nat},ds.Nodup->(∀d∈ds,hp W d=some (.deferred (some [])))->(∀a,cl (λb=>b∈ds) W a->K a)->jF ds W K:=by
 intro ds;induction ds generalizing W with
 |nil=>intro _ _ c;exact EQ.2 (c W (cl.refl _ _))
 |cons d ds k=>
  intro j f c;obtain⟨h1,h⟩:=List.nodup_cons.1 j;refine HR.2 ⟨f d List.mem_cons_self,k h (λx g=>?_) λa m=>c a ?_⟩
  ·rw[CB,if_neg (λe:x=d=>h1 (e▸g))];exact f x (List.mem_cons_of_mem _ g)
  ·exact((cl.refl (λb=>b∈d::ds) W).putObj (b:=d) (.inl List.mem_cons_self) _).trans (m.mono λb _ i=>List.mem_cons_of_mem _ i)
def Iz{s b:Nat}{buy:Bool}{l:List Od}{T:TypeId}:tO Tryz.prog (.func (.func 236) #[] #[.pointer (some ⟨b,0,none⟩)]) (l.map λo=>[ig o]) (λW=>hp W b=some (.cells #[cT s] T (0,0))/\∃F,eJ W s F buy l):=by
 refine⟨⟨_,_,_,rfl,?_⟩⟩;rintro y J Js W K ⟨e,F,G⟩ R k c g A;show Ca Tryz.prog _ #[y,.pointer (some ⟨b,0,none⟩)] W K;apply MT;refine ck (v:=cT s) (w' :=W) (by simp[go_sem,e]) ?_;refine jv G ?_;refine ck (v:=.bool false) (by simp[go_sem]<;>first|exact⟨rfl,rfl⟩|exact rfl) ?_;rw[ci,if_neg Bool.false_ne_true];obtain⟨⟨sl,I,U,c3,c4⟩,c5,c6⟩:=id G;refine ck (v:=cT s) (w' :=W) (by simp[go_sem,e]) ?_;simp only[cT,cw];refine ck (by simp[-Int.natCast_add,go_sem,I]<;>first|exact⟨rfl,rfl⟩|exact rfl) ?_;refine ck (by simp[-Int.natCast_add,go_sem,I]<;>first|exact⟨rfl,rfl⟩|exact rfl) ?_;refine pr (l:=l) U.rd (by omega) λm N w P n2=>?_;obtain⟨sa,sc,z,-⟩:=w.isSl;refine fi (v:=.int .i64 (l.length:Int)) (w' :=N) (by rw[z];simp[go_sem]) ?_;have x:J (co m) 0 N:=R _ _ P λb e=>⟨n2 b e,w.lt e⟩
 refine dp (λst d=>∃i:Nat,i<=l.length/\st=(.int .i64 i,())/\J (co m) i d/\kR d m l)
  (λst _=>match st.1 with| .int _ i=>l.length - i.toNat|_=>0) ⟨0,by omega,rfl,x,w⟩ ?_
 rintro⟨_,_⟩ d ⟨i,hi,⟨⟩,L,H⟩ KN r;unfold Hh;intro _;by_cases f:i<l.length
 ·have j:(i:Int)<(l.length:Int):=by omega
  refine ck (v:=.bool true) (by simp[go_sem,j]<;>first|exact⟨rfl,rfl⟩|exact rfl) ?_;rw[ci,if_pos rfl];obtain⟨b',D,S,n,B⟩:=H.load f;refine ck (n .i64) (ck B ?_);obtain⟨w3,X,E,Q⟩:=iJ d;refine ck X ?_;obtain⟨q,u⟩:∃q,q=d.heap.size:=⟨_,rfl⟩
  rw[<-u]at E|-;obtain⟨C,Y,V,Z⟩:=gm (o' :=l[i]) E;refine dI Y ?_;have O:cl (λ_=>False) d C:=Q.on Z λb e=>.inr (by omega);refine ck (gM (o:=l[i]) (At.all V)) ?_;have p:=H.mod O λ_ _ h=>h;refine c (co m) i [ig l[i]] C (by simp[f]) (k _ _ _ _ L O) _ (λM a t=>?_) λM a=>?_
  ·refine ck (v:=.bool false) (by simp[go_sem]<;>first|exact⟨rfl,rfl⟩|exact rfl) ?_;rw[ci,if_neg Bool.false_ne_true];refine ck (v:=.int .i64 ((i+1:Nat):Int)) (w' :=M) (by simp[go_sem];rw[cV (by omega) (by omega)]) ?_;exact r _ _ ⟨i+1,by omega,rfl,a,p.keep t⟩ (by show l.length - (((i+1:Nat):Int)).toNat<l.length - ((i:Int)).toNat;omega)
  ·refine ck (v:=.bool true) (by simp[go_sem]<;>first|exact⟨rfl,rfl⟩|exact rfl) ?_;rw[ci,if_pos rfl];exact A _ a
 ·obtain rfl:i=l.length:=by omega
  refine ck (v:=.bool false) (by simp[go_sem]<;>first|exact⟨rfl,rfl⟩|exact rfl) ?_;rw[ci,if_neg Bool.false_ne_true];exact g _ d (by simpa using L)
def BA{w:World}{K:cm}{s:Nat}{F:Nat->Prop}{buy:Bool}{l:List Od}(h:eJ w s F buy l)
  (d:∀gv a,ye gv (l.map λo=>[ig o]) a->cl (λ_=>False) w a->K gv a):Ca Tryz.prog 146 #[cT s] w K:=by
 apply My;have m0:cl (λ_=>False) w (w.alloc (.cells #[cT s] 228)):=(cl.refl _ w).alloc _;refine ck (v:=.pointer (some ⟨w.heap.size,0,none⟩)) (w' :=w.alloc (.cells #[cT s] 228)) (by simp[go_sem,cT]) ?_;have c:hp (w.alloc (.cells #[cT s] 228)) w.heap.size=some (.cells #[cT s] 228 (0,0)):=by simp[go_sem]
 exact d _ _ ⟨⟨_,Iz (s:=s) (b:=w.heap.size) (buy:=buy) (l:=l) (T:=228),λW m=>⟨m.hpk c id,F,h.mod (m0.trans m) λ_ _ h=>h⟩⟩,_,_,rfl⟩ m0
def H6{l:List Int}{B:Int}(h:∀x∈l,0<=x/\x<=B):0<=l.sum/\l.sum<=l.length*B:=by
 induction l with
 |nil=>simp
 |cons x l a=>
  have h1:=h x (by simp);have c:=a λy b=>h y (by simp[b]);rw[List.sum_cons,List.length_cons];have e:((l.length+1:Nat):Int)*B=l.length*B+B:=by rw[Int.natCast_add,Int.add_mul];omega
  rw[e];omega
def oq(l:List Od)(acct:Int):Int:=((l.filter λo=>decide (o.acct≠acct)).map (·.left)).sum
def vY(l:List Od)(o:Od)(acct:Int):oq (l++[o]) acct=oq l acct+(if o.acct≠acct then o.left else 0):=by
 unfold oq;rw[List.filter_append,List.map_append,List.sum_append];congr 1;by_cases h:o.acct=acct<;>simp[h]
def IC{l:List Od}{acct:Int}(h:∀o∈l,1<=o.left/\o.left<=1000000):0<=oq l acct/\oq l acct<=l.length*1000000:=by
 have h1:=H6 (l:=(l.filter λo=>decide (o.acct≠acct)).map (·.left)) (B:=1000000) λx b=>by
  obtain⟨o,a,rfl⟩:=List.mem_map.1 b;have:=h o (List.mem_filter.1 a).1;omega
 rw[List.length_map]at h1;have c:=List.length_filter_le (λo:Od=>decide (o.acct≠acct)) l;unfold oq;omega
def Od.left_bd{o:Od}(h:o.may=true):1<=o.left/\o.left<=1000000:=by
 unfold Od.may at h;simp only[Bool.and_eq_true]at h;exact of_decide_eq_true h.2
def HE{l:List Od}{p:Od->Bool}{j:Nat}(b:j<l.length)(h:∀o∈l.take j,p o=true)(a:p l[j]=false):l.takeWhile p=l.take j:=by
 induction l generalizing j with
 |nil=>simp at b
 |cons x l d=>
  cases j with
  |zero=>
   simp only[List.getElem_cons_zero]at a;rw[List.takeWhile_cons,a];simp
  |succ j=>
   have e:=h x (by simp);rw[List.takeWhile_cons,e];simp only[if_true,List.take_succ_cons];rw[d (by simpa using b) (λo c=>h o (by simp[c])) (by simpa using a)]
def KG{l:List Od}{p:Od->Bool}(h:∀o∈l,p o=true):l.takeWhile p=l:=by
 induction l with
 |nil=>rfl
 |cons x l b=>
  rw[List.takeWhile_cons,h x (by simp)];simp only[if_true];rw[b λo a=>h o (by simp[a])]
set_option maxRecDepth 10000 in
def CO{w:World}{K:cm}{s:Nat}{F:Nat->Prop}{buy:Bool}{l:List Od}{price acct:Int}(h:eJ w s F buy l)
  (hK:∀y,cl (λ_=>False) w y->K (.int .i64 (eI buy l price acct)) y):Ca Tryz.prog 226 #[cT s,.int .i64 price,.int .u32 acct] w K:=by
 apply PF;obtain⟨a,n⟩:∃a,a=w.heap.size:=⟨_,rfl⟩
 have hlay:∃C,((w.alloc (.cells #[cT s] 228)).alloc (.cells #[.int .i64 price] 2) |>.alloc (.cells #[.int .u32 acct] 35) |>.alloc (.cells #[.int .i64 0] 2))=C/\C.heap.size=a+4/\cl (λ_=>False) w C/\
   hp C a=some (.cells #[cT s] 228 (0,0))/\hp C (a+1)=some (.cells #[.int .i64 price] 2 (0,0))/\hp C (a+2)=some (.cells #[.int .u32 acct] 35 (0,0))/\hp C (a+3)=some (.cells #[.int .i64 0] 2 (0,0)):=by
  refine⟨_,rfl,by simp[go_sem,n],((((cl.refl _ w).alloc _).alloc _).alloc _).alloc _,?_,?_,?_,?_⟩<;>simp[go_sem,n]
 obtain⟨C,hw4,hsz4,m4,b0,b1,b2,b3⟩:=hlay;refine ck (v:=.pointer (some ⟨a,0,none⟩)) (w' :=w.alloc (.cells #[cT s] 228)) (by simp[go_sem,cT,n]) ?_;refine ck (v:=.pointer (some ⟨a+1,0,none⟩)) (w' :=(w.alloc (.cells #[cT s] 228)).alloc (.cells #[.int .i64 price] 2)) (by simp[go_sem,n]) ?_;refine ck (v:=.pointer (some ⟨a+2,0,none⟩)) (w' :=((w.alloc (.cells #[cT s] 228)).alloc (.cells #[.int .i64 price] 2)).alloc (.cells #[.int .u32 acct] 35)) (by simp[go_sem,n]) ?_;refine ck (v:=.pointer (some ⟨a+3,0,none⟩)) (w' :=C) (by rw[<-hw4];simp[go_sem,n]) ?_;clear hw4;refine ck (v:=cT s) (w' :=C) (by simp[go_sem,b0]) ?_;refine BA (h.mod m4 λ_ _ h=>h) λgv i ht X=>?_;obtain⟨⟨Ok,hit,hOk⟩,f,cap,rfl⟩:=ht;have M5:=m4.trans X;have q5:=h.mod M5 λ_ _ h=>h;have d0:=X.hpk b0 id;have d1:=X.hpk b1 id;have d2:=X.hpk b2 id;have d3:=X.hpk b3 id;have hs5:=X.size;have R:∀b,F b->b<a:=λb g=>by rw[n];exact h.lt g
 let p:Od->Bool:=λo=> !dn buy price o.price
 let J:(Nat->Prop)->Nat->World->Prop:=λQ j W=>eJ W s F buy l/\hp W a=some (.cells #[cT s] 228 (0,0))/\hp W (a+1)=some (.cells #[.int .i64 price] 2 (0,0))/\hp W (a+2)=some (.cells #[.int .u32 acct] 35 (0,0))/\
  hp W (a+3)=some (.cells #[.int .i64 (oq (l.take j) acct)] 2 (0,0))/\(∀o∈l.take j,p o=true)/\hp W i.heap.size=some (.deferred (some []))/\cl (λb=>b=a+3) i W/\∀b,Q b->i.heap.size+1<b/\b<W.heap.size
 let Jx:Code->World->Prop:=λc W=>c=.exit 0/\hp W (a+3)=some (.cells #[.int .i64 (eI buy l price acct)] 2 (0,0))/\hp W i.heap.size=some (.deferred (some []))/\cl (λb=>b=a+3) i W;have e5:∀o,cl (λ_=>False) i ((i.alloc (.deferred (some []))).alloc (.loop o)):=λo=>((cl.refl _ i).alloc _).alloc _
 have fin:∀W o,hp W (a+3)=some (.cells #[.int .i64 (eI buy l price acct)] 2 (0,0))->hp W i.heap.size=some (.deferred (some []))->cl (λb=>b=a+3) i W->
   rv Tryz.prog (Instr.loadAt 2 (.pointer (some ⟨a+3,0,none⟩))) (W.putObj (i.heap.size+1) (.loop o)) λv52 w53=>
    ru Tryz.prog (Instr.storeAt 2 (.pointer (some ⟨a+3,0,none⟩)) v52) w53 λw54=>
    jF ([i.heap.size]++[]) w54 λw55=>
    sY Tryz.prog (Instr.loadAt 2 (.pointer (some ⟨a+3,0,none⟩))) w55 λv56=>K v56 w55:=by
  intro W o k1 k2 k3;have mp:cl (λb=>b=i.heap.size+1) W (W.putObj (i.heap.size+1) (.loop o)):=(cl.refl (λb=>b=i.heap.size+1) W).putObj (.inl rfl) _;have H:=mp.hpk k1 (by omega);have k2' :=mp.hpk k2 (by omega);generalize W.putObj (i.heap.size+1) (.loop o)=T at mp H k2' |-;refine ck (v:=.int .i64 (eI buy l price acct)) (w' :=T) (by simp[go_sem,H]) ?_;refine dI (w' :=T.setCell ⟨a+3,0,none⟩ (.int .i64 (eI buy l price acct))) (by simp[go_sem,H]) ?_;have ms:cl (λb=>b=a+3) T (T.setCell ⟨a+3,0,none⟩ (.int .i64 (eI buy l price acct))):=(cl.refl (λb=>b=a+3) T).setCell (.inl rfl) _ _;have k3' :hp (T.setCell ⟨a+3,0,none⟩ (.int .i64 (eI buy l price acct))) (a+3)=some (.cells #[.int .i64 (eI buy l price acct)] 2 (0,0)):=by simp[go_sem,H]
  have k4' :=ms.hpk k2' (by omega);generalize T.setCell ⟨a+3,0,none⟩ (.int .i64 (eI buy l price acct))=W2 at ms k3' k4' |-;refine Il (by simp) (λd hd=>by rw[List.mem_singleton.1 hd];exact k4') λW3 m3=>?_;have k5:=m3.hpk k3' (by simp;omega);refine cx (v:=.int .i64 (eI buy l price acct)) (by simp[go_sem,k5]) ?_;refine hK _ ((((M5.on k3 λb g=>.inr (by omega)).on mp λb g=>.inr (by omega)).on ms λb g=>.inr (by omega)).on m3 λb g=>.inr ?_);have hb' :b=i.heap.size:=by simpa using g
  omega
 refine GP (xs:=l.map λo=>[ig o]) hit (by simp) J Jx (λo=>hOk _ (e5 o)) ?_ ?_ ?_ ?_ ?_
 ·intro o Q W mo hQ;have Z:=(e5 o).trans mo;have hd:hp ((i.alloc (.deferred (some []))).alloc (.loop o)) i.heap.size=some (.deferred (some [])):=by simp[go_sem]
  exact⟨q5.mod Z λ_ _ h=>h,Z.hpk d0 id,Z.hpk d1 id,Z.hpk d2 id,Z.hpk d3 id,by simp,mo.hpk hd id,Z.mono λ_ _ h=>h.elim,hQ⟩
 ·rintro Q j W W' ⟨U,j1,j2,j3,V,L,j6,O,t⟩ I;exact⟨U.mod I λb g e=>by have:=R b g;omega,I.hpk j1 (by omega),I.hpk j2 (by omega),I.hpk j3 (by omega),I.hpk V (by omega),L,I.hpk j6 (by omega),O.on I λb g=>.inr (by omega),λb g=>⟨(t b g).1,Nat.lt_of_lt_of_le (t b g).2 I.size⟩⟩
 ·rintro Q j x W r hx ⟨U,j1,j2,j3,V,L,j6,O,t⟩ z E KN KJ P hKJ
  obtain⟨Y,hxo⟩:∃Y:j<l.length,x=[ig l[j]]:=by
   rw[List.getElem?_map]at hx;cases hh:l[j]? with
   |none=>rw[hh]at hx;cases hx
   |some o=>
    obtain⟨Y,he⟩:=List.getElem?_eq_some_iff.1 hh;rw[hh]at hx;exact⟨Y,by rw[he];exact(Option.some.inj hx).symm⟩
  subst hxo;obtain⟨B,hrc⟩:∃B,B=i.heap.size+1:=⟨_,rfl⟩
  rw[<-hrc]at z P hKJ t|-;have hrl:=cn z;unfold E8;obtain⟨w6,e6,b6,m6⟩:=iJ W;refine ck e6 ?_;obtain⟨q,hq0⟩:∃q,q=W.heap.size:=⟨_,rfl⟩
  rw[<-hq0]at b6|-;obtain⟨M,e7,b7,m7⟩:=gm (o' :=l[j]) b6;show ru Tryz.prog (Instr.storeAt ir (.pointer (some ⟨q,0,none⟩)) (ig l[j])) w6 _;refine dI e7 ?_;have M7:cl (λ_=>False) W M:=m6.on m7 λb g=>.inr (by omega);have A:M.heap[B]? =some (.loop r):=M7.keep z id;refine lO (r:=r) A E ?_;have m8:cl (λb=>b=B) M (M.putObj B (.loop {r with state:=.busy})):=(cl.refl (λb=>b=B) M).putObj (.inl rfl) _;have k:(M.putObj B (.loop {r with state:=.busy})).heap[B]? =some (.loop {r with state:=.busy}):=by rw[dc,if_pos rfl,A];rfl
  generalize M.putObj B (.loop {r with state:=.busy})=G at m8 k|-;have u:cl (λb=>b=B) W G:=(M7.mono λ_ _ h=>h.elim).trans m8;have g0:=u.hpk j1 (by omega);have g1:=u.hpk j2 (by omega);have g2:=u.hpk j3 (by omega);have g3:=u.hpk V (by omega);have gd:=u.hpk j6 (by omega);have zgq:=m8.hpk b7 (by omega);have gS:=U.mod u λb g e=>by have:=R b g;omega
  have m:=zgq;unfold da at m;refine ck (v:=cT s) (w' :=G) (by simp[go_sem,g0]) ?_;refine ck (by simp[-Int.natCast_add,go_sem,g1]<;>first|exact⟨rfl,rfl⟩|exact rfl) ?_;refine ck (by simp[-Int.natCast_add,go_sem,m]<;>first|exact⟨rfl,rfl⟩|exact rfl) ?_;refine ck (by simp[-Int.natCast_add,go_sem,m]<;>first|exact⟨rfl,rfl⟩|exact rfl) ?_;refine uB gS ?_;cases hbt:dn buy price l[j].price with
  |true=>
   rw[ci,if_pos rfl];refine hKJ _ _ ⟨rfl,?_,gd,O.on u λb g=>.inr (by omega)⟩ k
   have:eI buy l price acct=oq (l.take j) acct:=by
    unfold eI oq;rw[HE (p:=p) Y L (by simp[p,hbt])]
   rw[this];exact g3
  |false=>
   rw[ci,if_neg Bool.false_ne_true]
   have S:l.take (j+1)=l.take j++[l[j]]:=by
    rw[List.take_add_one,List.getElem?_eq_getElem Y];rfl
   have hp1:∀o∈l.take (j+1),p o=true:=by
    rw[S];intro o N;rcases List.mem_append.1 N with N|N
    ·exact L o N
    ·rw[List.mem_singleton.1 N];simp[p,hbt]
   refine ck (by simp[-Int.natCast_add,go_sem,m]<;>first|exact⟨rfl,rfl⟩|exact rfl) ?_;refine ck (by simp[-Int.natCast_add,go_sem,m]<;>first|exact⟨rfl,rfl⟩|exact rfl) ?_;refine ck (by simp[-Int.natCast_add,go_sem,g2]<;>first|exact⟨rfl,rfl⟩|exact rfl) ?_;by_cases ha:l[j].acct=acct
   ·refine ck (v:=.bool false) (by simp[go_sem,ha]<;>first|exact⟨rfl,rfl⟩|exact rfl) ?_;rw[ci,if_neg Bool.false_ne_true];refine P _ ⟨gS,g0,g1,g2,?_,hp1,gd,O.on u λb g=>.inr (by omega),λb g=>⟨by have:=(t b g).1;omega,Nat.lt_of_lt_of_le (t b g).2 u.size⟩⟩ k λb g=>?_
    ·rw[S,vY,if_neg (by simp[ha]),Int.add_zero];exact g3
    ·exact u.blk b (t b g).2 (by have:=(t b g).1;omega)
   ·refine ck (v:=.bool true) (by simp[go_sem,ha]<;>first|exact⟨rfl,rfl⟩|exact rfl) ?_;rw[ci,if_pos rfl];refine ck (by simp[-Int.natCast_add,go_sem,g3]<;>first|exact⟨rfl,rfl⟩|exact rfl) ?_;refine ck (by simp[-Int.natCast_add,go_sem,m]<;>first|exact⟨rfl,rfl⟩|exact rfl) ?_;refine ck (by simp[-Int.natCast_add,go_sem,m]<;>first|exact⟨rfl,rfl⟩|exact rfl) ?_;have hbd1:=IC (l:=l.take j) (acct:=acct) λo N=>Od.left_bd (U.may o (List.mem_of_mem_take N)).1;have hbd2:=Od.left_bd (U.may l[j] (List.getElem_mem Y)).1;have hlen:=U.len;have hlt:(l.take j).length<=100:=by rw[List.length_take];omega
    refine ck (v:=.int .i64 (oq (l.take (j+1)) acct)) (w' :=G) (by
     rw[S,vY,if_pos ha];simp[go_sem];rw[cV (by omega) (by omega)]) ?_
    refine dI (w' :=G.setCell ⟨a+3,0,none⟩ (.int .i64 (oq (l.take (j+1)) acct))) (by simp[go_sem,g3]) ?_;have D:cl (λb=>b=a+3) G (G.setCell ⟨a+3,0,none⟩ (.int .i64 (oq (l.take (j+1)) acct))):=(cl.refl (λb=>b=a+3) G).setCell (.inl rfl) _ _;have k3:hp (G.setCell ⟨a+3,0,none⟩ (.int .i64 (oq (l.take (j+1)) acct))) (a+3)=some (.cells #[.int .i64 (oq (l.take (j+1)) acct)] 2 (0,0)):=by simp[go_sem,g3]
    generalize G.setCell ⟨a+3,0,none⟩ (.int .i64 (oq (l.take (j+1)) acct))=w9 at D k3|-;refine P _ ⟨gS.mod D λb g e=>by have:=R b g;omega,D.hpk g0 (by omega),D.hpk g1 (by omega),D.hpk g2 (by omega),k3,hp1,D.hpk gd (by omega),(O.on u λb g=>.inr (by omega)).trans D,λb g=>⟨by have:=(t b g).1;omega,Nat.lt_of_lt_of_le (t b g).2 (Nat.le_trans u.size D.size)⟩⟩ (D.keep k (by omega)) λb g=>?_;rw[D.blk b (Nat.lt_of_lt_of_le (t b g).2 u.size) (by have:=(t b g).1;omega)];exact u.blk b (t b g).2 (by have:=(t b g).1;omega)
 ·rintro Q W o ⟨U,j1,j2,j3,V,L,j6,O,t⟩;have hend:(l.map λo=>[ig o]).length=l.length:=by simp
  rw[hend,List.take_length]at V L;unfold Ba;simp only[fk];refine fin W o ?_ j6 O
  have:eI buy l price acct=oq l acct:=by
   unfold eI oq;rw[KG (p:=p) L]
  rw[this];exact V
 ·rintro c W o ⟨rfl,k1,k2,k3⟩;unfold Ba;simp only[fk];exact fin W o k1 k2 k3
end Go.Proofs
