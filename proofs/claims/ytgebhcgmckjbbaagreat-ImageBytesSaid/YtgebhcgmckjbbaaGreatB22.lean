/- Part of a proof. -/
import Derived.Test.YtgebhcgmckjbbaaGreatB21
set_option linter.all false
namespace Go.Proofs
open Go Go.Vc
def kG:List (Int×Od)->(Int->Bk)->Option (Int->Bk)
 | [],B=>some B
 |x::l,B=>
  if(B x.1 x.2.buy).any (λy=>decide (y.num=x.2.num))=true\/100<=(B x.1 x.2.buy).length then none
  else kG l (fV B x.1 ((B x.1).set x.2.buy (B x.1 x.2.buy++[x.2])))
def xI(B:Bk):Prop:=∀b∈B true,∀s∈B false,b.price<s.price
def kJ(B:Bk)(d:Bool)(l:List Od):B.set d l d=l:=if_pos rfl
def jG(B:Bk){d e:Bool}(l:List Od)(h:e≠d):B.set d l e=B e:=if_neg h
def BI{B:Bk}{o:Od}:xI (B.set o.buy (B o.buy++[o]))↔xI B/\∀x∈B !o.buy,d9 o x.price=false:=by
 unfold xI d9;cases e:o.buy with
 |true=>
  rw[kJ,jG _ _ (by decide)];simp only[List.mem_append,List.mem_singleton,Bool.not_true,if_true];constructor
  ·intro h;refine⟨λb h1 s a=>h b (.inl h1) s a,λx d=>?_⟩;have:=h o (.inr rfl) x d;simp;omega
  ·rintro⟨h,c⟩ b (h1|rfl) s a
   ·exact h b h1 s a
   ·have:=c s a;simp at this;omega
 |false=>
  rw[kJ,jG _ _ (by decide)];simp only[List.mem_append,List.mem_singleton,Bool.not_false,Bool.false_eq_true,if_false];constructor
  ·intro h;refine⟨λb h1 s a=>h b h1 s (.inl a),λx d=>?_⟩;have:=h x d o (.inr rfl);simp;omega
  ·rintro⟨h,c⟩ b h1 s (a|rfl)
   ·exact h b h1 s a
   ·have:=c b h1;simp at this;omega
def vN:∀{l:List (Int×Od)} {B B' :Int->Bk},kG l B=some B' ->∀n d,∀x∈B n d,x∈B' n d
 | [],B,B',h,n,d,x,a=>by cases h;exact a
 |y::l,B,B',h,n,d,x,a=>by
  unfold kG at h;split at h
  ·cases h
  ·refine vN h n d x ?_;by_cases c:n=y.1
   ·subst c;rw[dJ];by_cases b:d=y.2.buy
    ·subst b;rw[kJ];exact List.mem_append_left _ a
    ·rw[jG _ _ b];exact a
   ·rw[eB _ _ _ c];exact a
def Dv{B B' :Bk}(h:∀d,∀x∈B d,x∈B' d)(c:xI B'):xI B:=λb h1 s a=>c b (h true b h1) s (h false s a)
def pO(S:dF)(a:Bool)(U:List Int)(x:Int×Od):S.stnd a U x=true↔S.stnd a [] x=true/\x.2.num ∉ U:=by
 unfold dF.stnd;simp only[Bool.and_eq_true,decide_eq_true_eq,Bool.not_eq_true',List.contains_nil];constructor
 ·rintro⟨h1,c,g,d,f,b,e⟩;exact⟨⟨h1,c,g,d,f,b,trivial⟩,by simpa using e⟩
 ·rintro⟨⟨h1,c,g,d,f,b,-⟩,e⟩;exact⟨h1,c,g,d,f,b,by simpa using e⟩
def rF{S T:dF}(h1:T.cal=S.cal)(b:T.led=S.led)(c:T.next=S.next)(a:Bool)(U:List Int)(x:Int×Od):T.stnd a U x=S.stnd a U x:=by
 unfold dF.stnd;rw[h1,b,c]
structure zq(S0 S:dF)(U:List Int)(B:Int->Bk):Prop where
 fill:kd S0 S U
 bk:∀n d,S.bk n d=ie d (B n d)
def zq.mem{S0 S:dF}{U:List Int}{B:Int->Bk}(h:zq S0 S U B){n:Int}{d:Bool}{x:Od}:x∈S.bk n d↔x∈B n d:=by
 rw[h.bk];exact(mB d _).2.mem_iff
def zq.len{S0 S:dF}{U:List Int}{B:Int->Bk}(h:zq S0 S U B)(n:Int)(d:Bool):(S.bk n d).length=(B n d).length:=by
 rw[h.bk];exact iN d _
def zq.stnd{S0 S:dF}{U:List Int}{B:Int->Bk}(h:zq S0 S U B)(a:Bool)(V:List Int)(x:Int×Od):S.stnd a V x=S0.stnd a V x:=rF h.fill.cal h.fill.led h.fill.next a V x
def zq.fresh{S0 S:dF}{U:List Int}{B:Int->Bk}(h:zq S0 S U B){n:Int}{d:Bool}{x:Od}(a:x∈B n d):x.num∈U:=h.fill.nums n x (kO (h.mem.2 a))
def zq.step{S0 S:dF}{U:List Int}{B:Int->Bk}(h:zq S0 S U B){x:Int×Od}(i:x.2.Fit)(k:S.stnd true U x=true)(j:(B x.1 x.2.buy).length<100)(l:∀y∈B x.1 !x.2.buy,d9 x.2 y.price=false):
  (db (S.bk x.1) x.2 4).1=0/\(db (S.bk x.1) x.2 4).2.2.gone=[]/\
  zq S0 {S with bk:=fV S.bk x.1 (db (S.bk x.1) x.2 4).2.1} (x.2.num::U) (fV B x.1 ((B x.1).set x.2.buy (B x.1 x.2.buy++[x.2]))):=by
 have a:=kZ k;have hp:=GF (B:=S.bk x.1) (o:=x.2) a.may (λd y c e=>a.new (e▸h.fresh (h.mem.1 c))) (by rw[h.len];exact j) λy c=>l y (h.mem.1 c);have g:(db (S.bk x.1) x.2 4).1=0:=by rw[hp]
 refine⟨g,by rw[hp],h.fill.order a i g,λn d=>?_⟩;show fV S.bk x.1 (db (S.bk x.1) x.2 4).2.1 n d=_;rw[hp];simp only;by_cases f:n=x.1
 ·subst f;rw[dJ,dJ];by_cases b:d=x.2.buy
  ·subst b;rw[kJ,kJ,vB,h.bk]
  ·rw[jG _ _ b,jG _ _ b,h.bk]
 ·rw[eB _ _ _ f,eB _ _ _ f,h.bk]
def um{S0:dF}:∀{l:List (Int×Od)} {U:List Int} {S:dF} {B:Int->Bk} {x:List Int×dF},zq S0 S U B->(∀n,xI (B n))->(∀y∈l,y.2.Fit)->iX l U S=some x->
  (∀y∈l,S0.stnd true [] y=true)/\(l.map (·.2.num)).Nodup/\(∀y∈l,y.2.num ∉ U)/\x.1=(l.map (·.2.num)).reverse++U/\∃f,kG l B=some f/\zq S0 x.2 x.1 f/\∀n,xI (f n)
 | [],U,S,B,x,h,k,m,e=>by cases e;exact⟨λy o=>(by cases o),List.nodup_nil,λy o=>(by cases o),rfl,B,rfl,h,k⟩
 |y::l,U,S,B,x,h,k,m,e=>by
  unfold iX at e;by_cases h1:S.stnd true U y=false
  ·rw[if_pos h1]at e;cases e
  rw[if_neg h1]at e;by_cases j:(db (S.bk y.1) y.2 4).1≠0\/(db (S.bk y.1) y.2 4).2.2.gone≠ []
  ·rw[if_pos j]at e;cases e
  rw[if_neg j]at e;have r:S.stnd true U y=true:=by simpa using h1
  have E:(db (S.bk y.1) y.2 4).1=0:=Classical.byContradiction λb=>j (.inl b);have u:(db (S.bk y.1) y.2 4).2.2.gone=[]:=Classical.byContradiction λb=>j (.inr b);obtain⟨C,p⟩:=G1 (h.fill.ok.ord.bkMay y.1) (by rw[h.bk];exact(mB _ _).1) E u;have i:∀z∈B y.1 !y.2.buy,d9 y.2 z.price=false:=λz a=>C z (h.mem.2 a);rw[h.len]at p;obtain⟨-,-,v⟩:=h.step (m y List.mem_cons_self) r p i
  have t:∀n,xI (fV B y.1 ((B y.1).set y.2.buy (B y.1 y.2.buy++[y.2])) n):=λn=>by
   by_cases g:n=y.1
   ·subst g;rw[dJ];exact BI.2 ⟨k _,i⟩
   ·rw[eB _ _ _ g];exact k n
  obtain⟨F,G,q,A,f,w,D,s⟩:=um v t (λz a=>m z (List.mem_cons_of_mem _ a)) e;have c:=r;rw[h.stnd,pO]at c;refine⟨λz a=>?_,?_,λz a=>?_,?_,f,?_,D,s⟩
  ·rcases List.mem_cons.1 a with rfl|a
   ·exact c.1
   ·exact F z a
  ·rw[List.map_cons,List.nodup_cons];refine⟨λb=>?_,G⟩;obtain⟨z,a,d⟩:=List.mem_map.1 b;exact q z a (by rw[d];exact List.mem_cons_self)
  ·rcases List.mem_cons.1 a with rfl|a
   ·exact c.2
   ·exact λb=>q z a (List.mem_cons_of_mem _ b)
  ·rw[A];simp
  ·unfold kG;rw[if_neg]
   ·exact w
   ·rintro(b|b)
    ·obtain⟨z,a,d⟩:=List.any_eq_true.1 b;exact c.2 (of_decide_eq_true d▸h.fresh a)
    ·omega
def t0{S0:dF}:∀{l:List (Int×Od)} {U:List Int} {S:dF} {B B' :Int->Bk},zq S0 S U B->(∀y∈l,y.2.Fit)->(∀y∈l,S0.stnd true [] y=true)->(l.map (·.2.num)).Nodup->(∀y∈l,y.2.num ∉ U)->kG l B=some B' ->(∀n,xI (B' n))->
  ∃i,iX l U S=some ((l.map (·.2.num)).reverse++U,i)/\zq S0 i ((l.map (·.2.num)).reverse++U) B'
 | [],U,S,B,B',h,j,m,g,k,e,o=>by cases e;exact⟨S,rfl,h⟩
 |y::l,U,S,B,B',h,j,m,g,k,e,o=>by
  unfold kG at e;split at e
  ·cases e
  ·rename_i h1
   simp only[not_or]at h1
   have c:S.stnd true U y=true:=by
    rw[h.stnd,pO];exact⟨m y List.mem_cons_self,k y List.mem_cons_self⟩
   have r:xI ((B y.1).set y.2.buy (B y.1 y.2.buy++[y.2])):=by
    refine Dv (B' :=B' y.1) (λd z a=>?_) (o y.1);refine vN e y.1 d z ?_;rw[dJ];exact a
   obtain⟨-,b⟩:=BI.1 r;obtain⟨q,v,s⟩:=h.step (j y List.mem_cons_self) c (by omega) b;rw[List.map_cons,List.nodup_cons]at g
   obtain⟨i,t,u⟩:=t0 s (λz a=>j z (List.mem_cons_of_mem _ a)) (λz a=>m z (List.mem_cons_of_mem _ a)) g.2 (λz a b=>by
    rcases List.mem_cons.1 b with b|b
    ·exact g.1 (b▸List.mem_map_of_mem (f:=λz:Int×Od=>z.2.num) a)
    ·exact k z (List.mem_cons_of_mem _ a) b) e o
   have p:(List.map (·.2.num) (y::l)).reverse++U=(List.map (·.2.num) l).reverse++(y.2.num::U):=by simp
   refine⟨i,?_,?_⟩
   ·unfold iX;rw[if_neg (by rw[c];decide),if_neg (by rw[q,v];simp),p];exact t
   ·rw[p];exact u
def lp:List (Int×Od)->(Int->List Od)->Option (Int->List Od)
 | [],D=>some D
 |x::l,D=>
  if 50<=(D x.1).length\/(0<(D x.1).length/\x.2.num<=((D x.1).getD ((D x.1).length - 1) fI).num)then none
  else lp l (fV D x.1 (D x.1++[x.2]))
def dq(l:List (Int×Od))(n:Int):List Od:=(l.filter λx=>decide (x.1=n)).map (·.2)
def Gy(l:List Od):Prop:=l.Pairwise λa b=>a.num<b.num
def jN(x:Int×Od)(l:List (Int×Od))(n:Int):dq (x::l) n=if x.1=n then x.2::dq l n else dq l n:=by
 unfold dq;by_cases h:x.1=n
 ·rw[if_pos h,List.filter_cons_of_pos (by simpa using h)];rfl
 ·rw[if_neg h,List.filter_cons_of_neg (by simpa using h)]
def lR(D:Int->List Od)(x:Int×Od)(l:List (Int×Od))(m:Int):fV D x.1 (D x.1++[x.2]) m++dq l m=D m++dq (x::l) m:=by
 rw[jN];by_cases h:x.1=m
 ·subst h;rw[dJ,if_pos rfl];simp
 ·rw[eB _ _ _ (Ne.symm h),if_neg h]
def zh{l:List Od}{o:Od}:Gy (l++[o])↔Gy l/\(0<l.length->(l.getD (l.length - 1) fI).num<o.num):=by
 unfold Gy;rw[List.pairwise_append];constructor
 ·rintro⟨h1,-,c⟩;refine⟨h1,λk=>?_⟩;have d:l.getD (l.length - 1) fI=l[l.length - 1]:=by simp[List.getD,List.getElem?_eq_getElem (show l.length - 1<l.length by omega)]
  rw[d];exact c _ (List.getElem_mem _) o (List.mem_singleton_self _)
 ·rintro⟨h1,c⟩;refine⟨h1,List.pairwise_singleton _ _,λa g b h=>?_⟩;rw[List.mem_singleton.1 h];obtain⟨i,j,rfl⟩:=List.mem_iff_getElem.1 g;have d:l.getD (l.length - 1) fI=l[l.length - 1]:=by simp[List.getD,List.getElem?_eq_getElem (show l.length - 1<l.length by omega)]
  have e:=c (by omega);rw[d]at e;by_cases f:i=l.length - 1
  ·subst f;exact e
  ·have:=List.pairwise_iff_getElem.1 h1 i (l.length - 1) j (by omega) (by omega);omega
def zf:∀{l:List (Int×Od)} {D:Int->List Od},(∀m,(D m++dq l m).length<=50/\Gy (D m++dq l m))->lp l D=some λm=>D m++dq l m
 | [],D,h=>by
  have:(λm=>D m++dq [] m)=D:=by funext m;simp[dq]
  rw[this];rfl
 |x::l,D,h=>by
  have h1:=h x.1;rw[jN,if_pos rfl]at h1
  have b:Gy (D x.1++[x.2]):=by
   refine List.Pairwise.sublist ?_ h1.2;exact List.Sublist.append (List.Sublist.refl _) (List.singleton_sublist.2 List.mem_cons_self)
  rw[zh]at b;unfold lp;rw[if_neg]
  ·have:=zf (l:=l) (D:=fV D x.1 (D x.1++[x.2])) λm=>by rw[lR];exact h m
   rw[this];congr 1;funext m;exact lR D x l m
  ·rintro(d|⟨a,c⟩)
   ·have:=h1.1;simp only[List.length_append,List.length_cons]at this;omega
   ·have:=b.2 a;omega
def vG:∀{l:List (Int×Od)} {D a:Int->List Od},lp l D=some a->(∀m,(D m).length<=50/\Gy (D m))->(∀m,a m=D m++dq l m)/\∀m,(a m).length<=50/\Gy (a m)
 | [],D,a,h,b=>by cases h;exact⟨λm=>by simp[dq],b⟩
 |x::l,D,a,h,b=>by
  unfold lp at h;split at h
  ·cases h
  ·rename_i h1
   simp only[not_or,not_and]at h1;have g:=b x.1
   obtain⟨e,f⟩:=vG h λm=>by
    by_cases c:m=x.1
    ·subst c;rw[dJ,List.length_append,List.length_singleton];refine⟨by omega,zh.2 ⟨g.2,λd=>?_⟩⟩;have:=h1.2 d;omega
    ·rw[eB _ _ _ c];exact b m
   exact⟨λm=>by rw[e,lR],f⟩
def L0:List (Int×Od)->Option Int->Int->Prop
 | [],_,_=>True
 |x::l,pc,n=>(if pc≠none/\pc≠some x.1 then 0 else n)<x.2.num/\L0 l (some x.1) x.2.num
def Gi:∀{l:List (Int×Od)} {pc:Option Int} {n:Int},(∀x∈l,0<x.2.num)->(∀x∈l,(pc=none\/pc=some x.1)->n<x.2.num)->(l.Pairwise λa b=>a.1=b.1->a.2.num<b.2.num)->L0 l pc n
 | [],_,_,_,_,_=>trivial
 |x::l,pc,n,d,h1,e=>by
  obtain⟨i,g⟩:=List.pairwise_cons.1 e;refine⟨?_,Gi (λy c=>d y (List.mem_cons_of_mem _ c)) (λy c h=>?_) g⟩
  ·split
   ·exact d x List.mem_cons_self
   ·rename_i j
    refine h1 x List.mem_cons_self ?_;by_cases hp:pc=none
    ·exact .inl hp
    ·exact .inr (Classical.byContradiction λf=>j ⟨hp,f⟩)
  ·rcases h with h|h
   ·cases h
   ·exact i y c (Option.some.inj h)
def BP:∀{l:List (Int×Od)},(∀m,Gy (dq l m))->l.Pairwise λa b=>a.1=b.1->a.2.num<b.2.num
 | [],_=>List.Pairwise.nil
 |x::l,h=>by
  refine List.pairwise_cons.2 ⟨λy d c=>?_,BP λm=>?_⟩
  ·have:=h x.1;rw[jN,if_pos rfl]at this;refine(List.pairwise_cons.1 this).1 y.2 ?_;unfold dq;exact List.mem_map.2 ⟨y,List.mem_filter.2 ⟨d,by simpa using c.symm⟩,rfl⟩
  ·have:=h m;rw[jN]at this;split at this
   ·exact(List.pairwise_cons.1 this).2
   ·exact this
def Bx{m:Int}{R:List (Int×Od)}:∀{K:List Od} {pc:Option Int} {n:Int},L0 (K.map (λo=>(m,o))++R) pc n->Gy K/\(pc=some m->∀x∈K,n<x.num)/\∃a d,L0 R a d
 | [],pc,n,h=>⟨List.Pairwise.nil,λ_ x i=>(by cases i),pc,n,h⟩
 |x::K,pc,n,h=>by
  obtain⟨h1,e⟩:=h;obtain⟨j,c,f⟩:=Bx e;refine⟨List.pairwise_cons.2 ⟨c rfl,j⟩,λhp y b=>?_,f⟩;rw[if_neg (by rintro⟨-,k⟩;exact k hp)]at h1;rcases List.mem_cons.1 b with rfl|b
  ·exact h1
  ·have:=c rfl y b;have g:n<x.num:=h1;omega
def x8{L:Int->List Od}:∀{ns:List Int} {pc:Option Int} {n:Int},L0 (ns.flatMap λn=>(L n).map λo=>(n,o)) pc n->∀m∈ns,Gy (L m)
 | [],_,_,_,m,a=>by cases a
 |k::ns,pc,n,h,m,a=>by
  rw[List.flatMap_cons]at h;obtain⟨c,-,b,e,d⟩:=Bx h;rcases List.mem_cons.1 a with rfl|a
  ·exact c
  ·exact x8 d m a
def uX{S0:dF}:∀{l:List (Int×Od)} {pc:Option Int} {n:Int} {U:List Int} {S c:dF},S.cal=S0.cal->S.led=S0.led->S.next=S0.next->jm l pc n U S=some c->(∀m,(S.bd m).length<=50)->
  (∀y∈l,S0.stnd false [] y=true)/\(l.map (·.2.num)).Nodup/\(∀y∈l,y.2.num ∉ U)/\L0 l pc n/\c={S with bd:=λm=>S.bd m++dq l m}/\∀m,(c.bd m).length<=50
 | [],pc,n,U,S,c,b,g,j,e,f=>by
  cases e;refine⟨λy h=>(by cases h),List.nodup_nil,λy h=>(by cases h),trivial,?_,f⟩;have:(λm=>S.bd m++dq [] m)=S.bd:=by funext m;simp[dq]
  rw[this]
 |y::l,pc,n,U,S,c,b,g,j,e,f=>by
  unfold jm at e;by_cases h1:S.stnd false U y=false
  ·rw[if_pos h1]at e;cases e
  rw[if_neg h1]at e;by_cases k:y.2.num<=(if pc≠none/\pc≠some y.1 then 0 else n)
  ·rw[if_pos k]at e;cases e
  rw[if_neg k]at e;by_cases p:50<=(S.bd y.1).length
  ·rw[if_pos p]at e;cases e
  rw[if_neg p]at e;have i:S.stnd false U y=true:=by simpa using h1
  rw[rF b g j,pO]at i
  obtain⟨u,v,o,s,r,t⟩:=uX (S0:=S0) (S:={S with bd:=fV S.bd y.1 (S.bd y.1++[y.2])}) b g j e λm=>by
   show(fV S.bd y.1 (S.bd y.1++[y.2]) m).length<=50;by_cases q:m=y.1
   ·subst q;rw[dJ,List.length_append,List.length_singleton];omega
   ·rw[eB _ _ _ q];exact f m
  refine⟨λz a=>?_,?_,λz a=>?_,⟨by omega,s⟩,?_,t⟩
  ·rcases List.mem_cons.1 a with rfl|a
   ·exact i.1
   ·exact u z a
  ·rw[List.map_cons,List.nodup_cons];refine⟨λb=>?_,v⟩;obtain⟨z,a,d⟩:=List.mem_map.1 b;exact o z a (by rw[d];exact List.mem_cons_self)
  ·rcases List.mem_cons.1 a with rfl|a
   ·exact i.2
   ·exact λb=>o z a (List.mem_cons_of_mem _ b)
  ·rw[r];have:(λm=>fV S.bd y.1 (S.bd y.1++[y.2]) m++dq l m)=λm=>S.bd m++dq (y::l) m:=funext λm=>lR S.bd y l m;show({S with bd:=λm=>fV S.bd y.1 (S.bd y.1++[y.2]) m++dq l m}:dF)=_;rw[this]
def yx{S0:dF}:∀{l:List (Int×Od)} {pc:Option Int} {n:Int} {U:List Int} {S:dF},S.cal=S0.cal->S.led=S0.led->S.next=S0.next->(∀y∈l,S0.stnd false [] y=true)->(l.map (·.2.num)).Nodup->(∀y∈l,y.2.num ∉ U)->L0 l pc n->(∀m,(S.bd m++dq l m).length<=50)->
  jm l pc n U S=some {S with bd:=λm=>S.bd m++dq l m}
 | [],pc,n,U,S,a,g,i,h1,b,h,d,e=>by
  have:(λm=>S.bd m++dq [] m)=S.bd:=by funext m;simp[dq]
  rw[this];rfl
 |y::l,pc,n,U,S,a,g,i,h1,b,h,d,e=>by
  rw[List.map_cons,List.nodup_cons]at b
  have k:S.stnd false U y=true:=by
   rw[rF a g i,pO];exact⟨h1 y List.mem_cons_self,h y List.mem_cons_self⟩
  have o:=e y.1;rw[jN,if_pos rfl,List.length_append,List.length_cons]at o;unfold jm;rw[if_neg (by rw[k];decide),if_neg (by have:=d.1;omega),if_neg (by omega)]
  have:=yx (S0:=S0) (l:=l) (pc:=some y.1) (n:=y.2.num) (U:=y.2.num::U) (S:={S with bd:=fV S.bd y.1 (S.bd y.1++[y.2])}) a g i (λz c=>h1 z (List.mem_cons_of_mem _ c)) b.2 (λz c a=>by
   rcases List.mem_cons.1 a with a|a
   ·exact b.1 (a▸List.mem_map_of_mem (f:=λz:Int×Od=>z.2.num) c)
   ·exact h z (List.mem_cons_of_mem _ c) a) d.2 λm=>by
    show(fV S.bd y.1 (S.bd y.1++[y.2]) m++dq l m).length<=50;rw[lR];exact e m
  rw[this];have j:(λm=>fV S.bd y.1 (S.bd y.1++[y.2]) m++dq l m)=λm=>S.bd m++dq (y::l) m:=funext λm=>lR S.bd y l m;show some ({S with bd:=λm=>fV S.bd y.1 (S.bd y.1++[y.2]) m++dq l m}:dF)=_;rw[j]
def jP(s:iq):List Int:=s.cts.map (·.spec.num)
def ou(s:iq)(B:Int->Bk):List (Int×Od):=(jP s).flatMap λn=>(ie true (B n true)++ie false (B n false)).map λo=>(n,o)
def kr(s:iq)(D:Int->List Od):List (Int×Od):=(jP s).flatMap λn=>(D n).map λo=>(n,o)
structure RP(s:iq)(B:Int->Bk)(D:Int->List Od):Prop where
 from0:jV s
 len:s.ords.length<=3200/\s.bids.length<=800
 ords:∀x∈s.ords,(eZ s).stnd true [] x=true
 bids:∀x∈s.bids,(eZ s).stnd false [] x=true
 nums:((s.ords++s.bids).map (·.2.num)).Nodup
 addO:kG s.ords (λ_=>Bk.empty)=some B
 cross:∀n∈jP s,xI (B n)
 addB:lp s.bids (λ_=>[])=some D
 eqO:ou s B=s.ords
 eqB:kr s D=s.bids
def Hn(s:iq):Prop:=∃B D,RP s B D
def gV{α β:Type}{f:α->List β}{k:Nat}:∀{l:List α},(∀x∈l,(f x).length<=k)->(l.flatMap f).length<=k*l.length
 | [],_=>by simp
 |x::l,h=>by
  have h1:=h x List.mem_cons_self;have b:=gV (l:=l) (f:=f) (k:=k) λy a=>h y (List.mem_cons_of_mem _ a);rw[List.flatMap_cons,List.length_append,List.length_cons,Nat.mul_succ];omega
def xW{S:dF}{a:Bool}{x:Int×Od}(h:S.stnd a [] x=true)(c:x.2.Fit):0<x.2.num:=by
 have b:=(kZ h).may;unfold Od.may at b;simp only[Bool.and_eq_true,decide_eq_true_eq]at b;have:=b.1.1.1;have:=c.1.1;omega
def tN:∀{l:List (Int×Od)} {U:List Int} {S:dF} {y:List Int×dF},iX l U S=some y->y.2.bd=S.bd
 | [],U,S,y,e=>by cases e;rfl
 |z::l,U,S,y,e=>by
  unfold iX at e;split at e
  ·cases e
  ·split at e
   ·cases e
   ·have:=tN e;exact this
def MZ{s:iq}(h:jV s)(a:s.Fit):zq (eZ s) (eZ s) [] λ_=>Bk.empty:=⟨kd.zero h a,λn d=>rfl⟩
def Pj:∀n:Int,xI ((λ_=>Bk.empty:Int->Bk) n):=λn b a=>by cases a
def Lk{s:iq}{S:dF}(G:s.Fit)(h:fZ s=some S):Hn s:=by
 unfold fZ at h;split at h
 ·rename_i z
  unfold pY at h;cases h1:iX s.ords [] (eZ s)with
  |none=>rw[h1]at h;cases h
  |some x=>
   rw[h1]at h;simp only[Option.bind_some]at h;cases q:jm s.bids none 0 x.1 x.2 with
   |none=>rw[q]at h;cases h
   |some T=>
    rw[q]at h;simp only[Option.bind_some]at h;split at h
    ·rename_i H
     cases h;obtain⟨Z,a2,a3,U,B,R,b,M⟩:=um (MZ z G) Pj (λy d=>(G.ords y d).2) h1;have c:∀m,x.2.bd m=[]:=λm=>by rw[tN h1];rfl
     obtain⟨K,W,O,X,w,N⟩:=uX (S0:=eZ s) b.fill.cal b.fill.led b.fill.next q λm=>by rw[c];decide
     have j:∀m,S.bd m=dq s.bids m:=λm=>by rw[w];show x.2.bd m++_=_;rw[c];rfl
     have E:∀m,(S.bk m).all=ie true (B m true)++ie false (B m false):=λm=>by
      rw[w];show(x.2.bk m).all=_;unfold Bk.all;rw[b.bk,b.bk]
     have g:S.cal=(eZ s).cal:=by rw[w];exact b.fill.cal
     have a:S.nums=jP s:=by unfold dF.nums;rw[g];rfl
     have J:ou s B=s.ords:=by
      rw[<-H.1];show _=S.nums.flatMap λn=>(S.bk n).all.map λo=>(n,o)
      rw[a];unfold ou;congr 1;funext n;rw[E]
     have t:kr s (dq s.bids)=s.bids:=by
      have:s.bids=S.state.bids:=H.2.symm;rw[this];show _=S.nums.flatMap λn=>(S.bd n).map λo=>(n,o)
      rw[a];unfold kr;congr 1;funext n;rw[j,<-this]
     have hc:=x8 (L:=dq s.bids) (ns:=jP s) (pc:=none) (n:=0) (by
      have:kr s (dq s.bids)=_:=t;unfold kr at this;rw[this];exact X)
     have C:∀m,Gy (dq s.bids m):=λm=>by
      by_cases I:m∈jP s
      ·exact hc m I
      ·have:dq s.bids m=[]:=by
        unfold dq;rw[List.map_eq_nil_iff,List.filter_eq_nil_iff];intro y d F;rw[<-t]at d;unfold kr at d;obtain⟨k,P,A⟩:=List.mem_flatMap.1 d;obtain⟨o,ho,rfl⟩:=List.mem_map.1 A;exact I ((of_decide_eq_true F:k=m)▸P)
       rw[this];exact List.Pairwise.nil
     have r:(jP s).length<=16:=by unfold jP;rw[List.length_map];exact z.len
     have p:∀m,(dq s.bids m).length<=50:=λm=>by rw[<-j];exact N m
     refine⟨B,dq s.bids,z,⟨?_,?_⟩,Z,K,?_,R,λn _=>M n,?_,J,t⟩
     ·have i:=b.fill.ok.ord;rw[<-J];unfold ou
      have:=gV (l:=jP s) (k:=200) (f:=λn=>(ie true (B n true)++ie false (B n false)).map λo=>(n,o)) λn _=>by
       rw[List.length_map,List.length_append,<-b.bk,<-b.bk];have h1:=(i.side n true).1;have q:=(i.side n false).1;omega
      omega
     ·have Q:(kr s (dq s.bids)).length=s.bids.length:=by rw[t]
      rw[<-Q];unfold kr;have:=gV (l:=jP s) (k:=50) (f:=λn=>(dq s.bids n).map λo=>(n,o)) λn _=>by rw[List.length_map];exact p n
      omega
     ·rw[List.map_append,List.nodup_append];refine⟨a2,W,λu V v Y e=>?_⟩;obtain⟨y,d,rfl⟩:=List.mem_map.1 Y;refine O y d ?_;rw[U,List.append_nil,List.mem_reverse,<-e];exact V
     ·have:=zf (l:=s.bids) (D:=λ_=>[]) λm=>⟨p m,C m⟩
      rw[this];rfl
    ·cases h
 ·cases h
def Lr{s:iq}(u:s.Fit)(h:Hn s):∃S,fZ s=some S:=by
 obtain⟨B,D,h⟩:=h;have j:=h.nums;rw[List.map_append,List.nodup_append]at j;obtain⟨M,O,H⟩:=j
 have N:∀n,xI (B n):=λn=>by
  by_cases G:n∈jP s
  ·exact h.cross n G
  ·
   have:∀(l:List (Int×Od)) (t q:Int->Bk),kG l t=some q->(∀x∈l,x.1≠n)->q n=t n:=by
    intro l;induction l with
    |nil=>intro t q e _;cases e;rfl
    |cons z l L=>
     intro t q e F;unfold kG at e;split at e
     ·cases e
     ·rw[L _ _ e λx b=>F x (List.mem_cons_of_mem _ b),eB _ _ _ λp=>F z List.mem_cons_self p.symm]
   rw[this _ _ _ h.addO λx b p=>G (by
    have C:=(kZ (h.ords x b)).alive;obtain⟨k,-,-,K,J⟩:=ox C;rw[<-p,<-K];exact List.mem_map_of_mem (f:=λk:Ct=>k.spec.num) J)]
   exact Pj n
 obtain⟨g,w,d⟩:=t0 (MZ h.from0 u) (λy v=>(u.ords y v).2) h.ords M (λy v=>by simp) h.addO N;rw[List.append_nil]at w d;obtain⟨d1,d2⟩:=vG h.addB λm=>⟨by decide,List.Pairwise.nil⟩
 have I:D=dq s.bids:=by funext m;rw[d1];rfl
 subst I;have c:g.bd=λ_=>[]:=tN w
 have i:=yx (S0:=eZ s) (l:=s.bids) (pc:=none) (n:=0) (U:=(s.ords.map (·.2.num)).reverse) (S:=g) d.fill.cal d.fill.led d.fill.next h.bids O (λy v p=>H _ (List.mem_reverse.1 p) _ (List.mem_map_of_mem (f:=λz:Int×Od=>z.2.num) v) rfl)
  (Gi (λx b=>xW (h.bids x b) (u.bids x b).2) (λx b _=>xW (h.bids x b) (u.bids x b).2) (BP λm=>(d2 m).2)) λm=>by rw[c];exact(d2 m).1
 obtain⟨T,r⟩:∃T:dF,T={g with bd:=λm=>g.bd m++dq s.bids m}:=⟨_,rfl⟩
 rw[<-r]at i
 have a:T.nums=jP s:=by
  rw[r];show g.nums=_;unfold dF.nums;rw[d.fill.cal];rfl
 have E:∀m,T.bd m=dq s.bids m:=λm=>by rw[r];show g.bd m++_=_;rw[c];rfl
 have A:∀m,(T.bk m).all=ie true (B m true)++ie false (B m false):=λm=>by
  rw[r];show(g.bk m).all=_;unfold Bk.all;rw[d.bk,d.bk]
 refine⟨T,?_⟩;unfold fZ;rw[if_pos h.from0];unfold pY;rw[w];simp only[Option.bind_some];rw[i];simp only[Option.bind_some];rw[if_pos];refine⟨?_,?_⟩
 ·show(T.nums.flatMap λn=>(T.bk n).all.map λo=>(n,o))=_;rw[a,<-h.eqO];unfold ou;congr 1;funext n;rw[A]
 ·show(T.nums.flatMap λn=>(T.bd n).map λo=>(n,o))=_;rw[a];have:=h.eqB;unfold kr at this;rw[<-this];congr 1;funext n;rw[E]
end Go.Proofs
namespace Go.Proofs
open Go Go.Vc
attribute [local congr] cr
def Mf:Tryz.prog.underlying 46=some (.slice 112):=by kernel_rfl
def OC:eN Tryz.prog 112 4 24=true:=by kernel_rfl
def QX:Tryz.prog.underlying 47=some (.slice 119):=by kernel_rfl
def QB:eN Tryz.prog 119 6 40=true:=by kernel_rfl
def KF(p:Po)(W:World):∃a d,(Instr.alloc 112 true (.tuple #[])).run Tryz.prog W=.ok (.pointer (some ⟨W.heap.size,0,none⟩)) a/\(Instr.storeAt 112 (.pointer (some ⟨W.heap.size,0,none⟩)) (kU p)).run Tryz.prog a=.ok () d/\hp d W.heap.size=some (.cells (cK p).toArray 112 (0,0))/\cl (λ_=>False) W d:=by
 obtain⟨a,c⟩:∃a,a=W.alloc (.cells (cK ⟨0,0,0,0⟩).toArray 112):=⟨_,rfl⟩
 have g:cl (λ_=>False) W a:=by rw[c];exact(cl.refl _ W).alloc _
 have e:hp a W.heap.size=some (.cells (cK ⟨0,0,0,0⟩).toArray 112 (0,0)):=by rw[c];simp[go_sem]
 obtain⟨d,i,h,f⟩:=(uc (b:=p) e).2;exact⟨a,d,by rw[c];simp[go_sem,cK],i,h,g.on f λx j=>.inr (by omega)⟩
def Ln(x:Int×Od)(W:World):∃c a,(Instr.alloc 119 true (.tuple #[])).run Tryz.prog W=.ok (.pointer (some ⟨W.heap.size,0,none⟩)) c/\(Instr.storeAt 119 (.pointer (some ⟨W.heap.size,0,none⟩)) (xf x)).run Tryz.prog c=.ok () a/\lK a W.heap.size x/\cl (λ_=>False) W a:=by
 obtain⟨c,e,d,h⟩:=D9 W;obtain⟨a,i,g,f⟩:=OW (b:=x) d;exact⟨c,a,e,i,g,h.on f λx j=>.inr (by omega)⟩
def Kg{a:Ac}{W:World}{p:Nat}(h:hp W p=some (.cells (cJ a).toArray 92 (0,0))):(Instr.loadAt 92 (.pointer (some ⟨p,0,none⟩))).run Tryz.prog W=.ok (gR a) W:=(wq (b:=⟨0,0,false,false⟩) h).1
def KB{a:Po}{W:World}{p:Nat}(h:hp W p=some (.cells (cK a).toArray 112 (0,0))):(Instr.loadAt 112 (.pointer (some ⟨p,0,none⟩))).run Tryz.prog W=.ok (kU a) W:=(uc (b:=⟨0,0,0,0⟩) h).1
def OH{a:Int×Od}{W:World}{p:Nat}(h:lK W p a):(Instr.loadAt 119 (.pointer (some ⟨p,0,none⟩))).run Tryz.prog W=.ok (xf a) W:=K8 h
set_option maxRecDepth 10000 in
def zD{w:World}{K:cm}{r most:Nat}{v fv:Value}{l:List UInt8}{s:Rs}{f:Rs->Ac×Rs}{ik:World->Rs->Prop}(hI:ik w s)(z:∀W t,ik W t->dz W r v l t)(Q:∀W c t t',ik W t->dz c r v l t' ->cl (λb=>b=r) W c->ik c t')
  (g:∀W c t (F:Nat->Prop),ik W t->cl F W c->(∀y,F y->w.heap.size<=y)->ik c t)
  (k:∀W t (K' :cm),ik W t->(∀c,ik c (f t).2->cl (λb=>b=r) W c->K' (gR (f t).1) c)->dX Tryz.prog fv [] W K')(hmost:most<=100000)
  (L:∀sl j,dW j 92 4 sl (dO l f most s).1.length ((dO l f most s).1.flatMap cJ)->ik j (dO l f most s).2->cl (λb=>b=r) w j->(∀y,co sl y->w.heap.size<=y)->K sl j):
  Ca Tryz.prog 63 #[CE r,.int .u64 most,fv] w K:=by
 apply Rc;have hrl:r<w.heap.size:=(z _ _ hI).lt;obtain⟨w1,e1,V,m1⟩:=vL r w;obtain⟨u,hu⟩:∃u,u=w.heap.size:=⟨_,rfl⟩
 rw[<-hu]at e1 V;refine ck e1 (ck (qR _ _) (ck (ny V) ?_));have i1:=g _ _ _ _ hI m1 (λ_ h=>h.elim);refine fJ (z _ _ i1) (most:=most) (by omega) λw2 r2 m2=>?_;have i2:=Q _ _ _ _ i1 r2 m2;have b2:ft w2 u r:=m2.hpk V (by omega);have M2:cl (λb=>b=r) w w2:=(m1.mono λ_ _ h=>h.elim).trans m2;have T:(cN l most s).1<=most:=fB;have d:dO l f most s=dY l f (cN l most s).1 [] (cN l most s).2:=rfl;obtain⟨n,hn⟩:∃n,n=(cN l most s).1:=⟨_,rfl⟩
 obtain⟨I,H⟩:∃I,I=(cN l most s).2:=⟨_,rfl⟩
 rw[<-hn]at T|-;rw[<-H]at i2;rw[<-hn,<-H]at d;rw[d]at L
 refine dp (λst W=>∃(i:Nat) (acc:List (Ac)) (sl:Value) (t:Rs),i<=n/\acc.length=i/\st=(sl,.int .u64 i,())/\ik W t/\dW W 92 4 sl acc.length (acc.flatMap cJ)/\(∀y,co sl y->u<y)/\dY l f n [] I=dY l f (n - i) acc t/\ft W u r/\cl (λb=>b=r) w W)
  (λst _=>match st.2.1 with| .int _ i=>n - i.toNat|_=>0) ⟨0,[],cF,I,by omega,rfl,rfl,i2,dW.nil _ _ _,λy a=>(by cases a),rfl,b2,M2⟩ ?_
 rintro⟨_,_⟩ W ⟨i,acc,sl,t,hi,C,⟨⟩,iW,oW,A,m,bW,MW⟩ KN X;unfold Kl;intro _;refine ck (v:=.bool (decide (i<n))) (w' :=W) (by simp[go_sem]) ?_;by_cases E:i<n
 ·rw[ci,if_pos (by simpa using E)];refine k W t _ iW λW1 iW1 q=>?_;have oW1:=oW.mod q λy a e=>by have:=A y a;omega
  have G:ft W1 u r:=q.hpk bW (by omega);have hu1:=cn G;obtain⟨W2,W3,e2,e3,b3,O⟩:=yn (f t).1 W1;refine ck e2 (dI e3 ?_);have J:=g _ _ _ _ iW1 O (λ_ h=>h.elim);have p:ft W3 u r:=O.hpk G id;have S:=oW1.mod O λ_ _ h=>h;have U:=z _ _ J;have hle:=U.le
  have o:dY l f (n - i) acc t=if l.length - (f t).2.at_=0/\en l (f t).2≠0 then([],(f t).2)else dY l f (n - (i+1)) (acc++[(f t).1]) (f t).2:=by
   rw[show n - i=(n - (i+1))+1 by omega];rfl
  rw[o]at m;refine cB.at (λst c=>st=(.bool (decide (l.length - (f t).2.at_=0/\en l (f t).2≠0)),())/\cl (λ_=>False) W3 c) ?_ ?_
  ·refine ck (qR _ _) (ck (ny p) ?_);refine qh U λY N=>?_;by_cases h0:l.length - (f t).2.at_=0
   ·rw[h0];refine ck (v:=.bool true) (w' :=Y) (by simp[go_sem]) ?_;rw[ci,if_pos rfl];have Z:ft Y u r:=N.hpk p id;refine ck (qR _ _) (ck (ny Z) ?_);refine qp (U.mod N id λ_ _ h=>h) λW5 m5=>?_;refine ck (v:=.bool (decide (en l (f t).2≠0))) (w' :=W5) (by simp[go_sem];try rw[Bool.eq_iff_iff];simp) ?_;exact⟨by simp,N.trans m5⟩
   ·have h0' :¬((l.length - (f t).2.at_:Nat):Int)=0:=by omega
    refine ck (v:=.bool false) (w' :=Y) (by simp[go_sem,h0'];try omega) ?_;rw[ci,if_neg Bool.false_ne_true];exact⟨by simp[h0],N⟩
  rintro _ W6 ⟨rfl,D⟩;unfold Kp;intro _;have B:=g _ _ _ _ J D (λ_ h=>h.elim);have M6:=((MW.trans q).on O λ_ h=>h.elim).on D λ_ h=>h.elim;have M:ft W6 u r:=D.hpk p id;have hu6:=cn M;by_cases P:l.length - (f t).2.at_=0/\en l (f t).2≠0
  ·rw[if_pos P]at m;rw[m]at L;rw[ci,if_pos (by simpa using P)];exact L cF W6 (dW.nil _ _ _) B M6 λy a=>(by cases a)
  ·rw[if_neg P]at m;rw[ci,if_neg (by simpa using P)];refine ck (Kg (D.hpk b3 id)) ?_;refine tV (x:=(f t).1) (f:=cJ) Hr (cI OR) (λ_=>rfl) rfl rfl (S.mod D λ_ _ h=>h) (by rw[C];omega) (by omega) λsl' W7 o7 R n7=>?_;refine ck (v:=.int .u64 ((i+1:Nat):Int)) (w' :=W7) (by simp[go_sem];rw[fG (by omega) (by omega)]) ?_;refine X _ _ ⟨i+1,acc++[(f t).1],sl',(f t).2,by omega,by simp[C],rfl,g _ _ _ _ B R (λy a=>by have:=A y a;omega),o7,λy a=>?_,m,R.hpk M λhc=>(by have:=A u hc;omega),M6.on R λy a=>.inr (by have:=A y a;omega)⟩ (by show n - (((i+1:Nat):Int)).toNat<n - ((i:Int)).toNat;omega);rcases n7 y a with h' |h'
   ·exact A y h'
   ·omega
 ·rw[ci,if_neg (by simpa using E)];obtain rfl:i=n:=by omega
  rw[Nat.sub_self]at m;have hT' :dY l f i [] I=(acc,t):=m;rw[hT']at L;exact L _ W oW iW MW λy a=>by have:=A y a;omega
set_option maxRecDepth 10000 in
def Au{w:World}{K:cm}{r most:Nat}{v fv:Value}{l:List UInt8}{s:Rs}{f:Rs->Po×Rs}{ik:World->Rs->Prop}(hI:ik w s)(z:∀W t,ik W t->dz W r v l t)(Q:∀W c t t',ik W t->dz c r v l t' ->cl (λb=>b=r) W c->ik c t')
  (g:∀W c t (F:Nat->Prop),ik W t->cl F W c->(∀y,F y->w.heap.size<=y)->ik c t)
  (k:∀W t (K' :cm),ik W t->(∀c,ik c (f t).2->cl (λb=>b=r) W c->K' (kU (f t).1) c)->dX Tryz.prog fv [] W K')(hmost:most<=100000)
  (L:∀sl j,dW j 112 4 sl (dO l f most s).1.length ((dO l f most s).1.flatMap cK)->ik j (dO l f most s).2->cl (λb=>b=r) w j->(∀y,co sl y->w.heap.size<=y)->K sl j):
  Ca Tryz.prog 70 #[CE r,.int .u64 most,fv] w K:=by
 apply Qr;have hrl:r<w.heap.size:=(z _ _ hI).lt;obtain⟨w1,e1,V,m1⟩:=vL r w;obtain⟨u,hu⟩:∃u,u=w.heap.size:=⟨_,rfl⟩
 rw[<-hu]at e1 V;refine ck e1 (ck (qR _ _) (ck (ny V) ?_));have i1:=g _ _ _ _ hI m1 (λ_ h=>h.elim);refine fJ (z _ _ i1) (most:=most) (by omega) λw2 r2 m2=>?_;have i2:=Q _ _ _ _ i1 r2 m2;have b2:ft w2 u r:=m2.hpk V (by omega);have M2:cl (λb=>b=r) w w2:=(m1.mono λ_ _ h=>h.elim).trans m2;have T:(cN l most s).1<=most:=fB;have d:dO l f most s=dY l f (cN l most s).1 [] (cN l most s).2:=rfl;obtain⟨n,hn⟩:∃n,n=(cN l most s).1:=⟨_,rfl⟩
 obtain⟨I,H⟩:∃I,I=(cN l most s).2:=⟨_,rfl⟩
 rw[<-hn]at T|-;rw[<-H]at i2;rw[<-hn,<-H]at d;rw[d]at L
 refine dp (λst W=>∃(i:Nat) (acc:List (Po)) (sl:Value) (t:Rs),i<=n/\acc.length=i/\st=(sl,.int .u64 i,())/\ik W t/\dW W 112 4 sl acc.length (acc.flatMap cK)/\(∀y,co sl y->u<y)/\dY l f n [] I=dY l f (n - i) acc t/\ft W u r/\cl (λb=>b=r) w W)
  (λst _=>match st.2.1 with| .int _ i=>n - i.toNat|_=>0) ⟨0,[],cF,I,by omega,rfl,rfl,i2,dW.nil _ _ _,λy a=>(by cases a),rfl,b2,M2⟩ ?_
 rintro⟨_,_⟩ W ⟨i,acc,sl,t,hi,C,⟨⟩,iW,oW,A,m,bW,MW⟩ KN X;unfold Kr;intro _;refine ck (v:=.bool (decide (i<n))) (w' :=W) (by simp[go_sem]) ?_;by_cases E:i<n
 ·rw[ci,if_pos (by simpa using E)];refine k W t _ iW λW1 iW1 q=>?_;have oW1:=oW.mod q λy a e=>by have:=A y a;omega
  have G:ft W1 u r:=q.hpk bW (by omega);have hu1:=cn G;obtain⟨W2,W3,e2,e3,b3,O⟩:=KF (f t).1 W1;refine ck e2 (dI e3 ?_);have J:=g _ _ _ _ iW1 O (λ_ h=>h.elim);have p:ft W3 u r:=O.hpk G id;have S:=oW1.mod O λ_ _ h=>h;have U:=z _ _ J;have hle:=U.le
  have o:dY l f (n - i) acc t=if l.length - (f t).2.at_=0/\en l (f t).2≠0 then([],(f t).2)else dY l f (n - (i+1)) (acc++[(f t).1]) (f t).2:=by
   rw[show n - i=(n - (i+1))+1 by omega];rfl
  rw[o]at m;refine cB.at (λst c=>st=(.bool (decide (l.length - (f t).2.at_=0/\en l (f t).2≠0)),())/\cl (λ_=>False) W3 c) ?_ ?_
  ·refine ck (qR _ _) (ck (ny p) ?_);refine qh U λY N=>?_;by_cases h0:l.length - (f t).2.at_=0
   ·rw[h0];refine ck (v:=.bool true) (w' :=Y) (by simp[go_sem]) ?_;rw[ci,if_pos rfl];have Z:ft Y u r:=N.hpk p id;refine ck (qR _ _) (ck (ny Z) ?_);refine qp (U.mod N id λ_ _ h=>h) λW5 m5=>?_;refine ck (v:=.bool (decide (en l (f t).2≠0))) (w' :=W5) (by simp[go_sem];try rw[Bool.eq_iff_iff];simp) ?_;exact⟨by simp,N.trans m5⟩
   ·have h0' :¬((l.length - (f t).2.at_:Nat):Int)=0:=by omega
    refine ck (v:=.bool false) (w' :=Y) (by simp[go_sem,h0'];try omega) ?_;rw[ci,if_neg Bool.false_ne_true];exact⟨by simp[h0],N⟩
  rintro _ W6 ⟨rfl,D⟩;unfold Kc;intro _;have B:=g _ _ _ _ J D (λ_ h=>h.elim);have M6:=((MW.trans q).on O λ_ h=>h.elim).on D λ_ h=>h.elim;have M:ft W6 u r:=D.hpk p id;have hu6:=cn M;by_cases P:l.length - (f t).2.at_=0/\en l (f t).2≠0
  ·rw[if_pos P]at m;rw[m]at L;rw[ci,if_pos (by simpa using P)];exact L cF W6 (dW.nil _ _ _) B M6 λy a=>(by cases a)
  ·rw[if_neg P]at m;rw[ci,if_neg (by simpa using P)];refine ck (KB (D.hpk b3 id)) ?_;refine tV (x:=(f t).1) (f:=cK) Mf (cI OC) (λ_=>rfl) rfl rfl (S.mod D λ_ _ h=>h) (by rw[C];omega) (by omega) λsl' W7 o7 R n7=>?_;refine ck (v:=.int .u64 ((i+1:Nat):Int)) (w' :=W7) (by simp[go_sem];rw[fG (by omega) (by omega)]) ?_;refine X _ _ ⟨i+1,acc++[(f t).1],sl',(f t).2,by omega,by simp[C],rfl,g _ _ _ _ B R (λy a=>by have:=A y a;omega),o7,λy a=>?_,m,R.hpk M λhc=>(by have:=A u hc;omega),M6.on R λy a=>.inr (by have:=A y a;omega)⟩ (by show n - (((i+1:Nat):Int)).toNat<n - ((i:Int)).toNat;omega);rcases n7 y a with h' |h'
   ·exact A y h'
   ·omega
 ·rw[ci,if_neg (by simpa using E)];obtain rfl:i=n:=by omega
  rw[Nat.sub_self]at m;have hT' :dY l f i [] I=(acc,t):=m;rw[hT']at L;exact L _ W oW iW MW λy a=>by have:=A y a;omega
set_option maxRecDepth 10000 in
def uy{w:World}{K:cm}{r most:Nat}{v fv:Value}{l:List UInt8}{s:Rs}{f:Rs->(Int×Od)×Rs}{ik:World->Rs->Prop}(hI:ik w s)(z:∀W t,ik W t->dz W r v l t)(Q:∀W c t t',ik W t->dz c r v l t' ->cl (λb=>b=r) W c->ik c t')
  (g:∀W c t (F:Nat->Prop),ik W t->cl F W c->(∀y,F y->w.heap.size<=y)->ik c t)
  (k:∀W t (K' :cm),ik W t->(∀c,ik c (f t).2->cl (λb=>b=r) W c->K' (xf (f t).1) c)->dX Tryz.prog fv [] W K')(hmost:most<=100000)
  (L:∀sl j,dW j 119 6 sl (dO l f most s).1.length ((dO l f most s).1.flatMap du)->ik j (dO l f most s).2->cl (λb=>b=r) w j->(∀y,co sl y->w.heap.size<=y)->K sl j):
  Ca Tryz.prog 72 #[CE r,.int .u64 most,fv] w K:=by
 apply RS;have hrl:r<w.heap.size:=(z _ _ hI).lt;obtain⟨w1,e1,V,m1⟩:=vL r w;obtain⟨u,hu⟩:∃u,u=w.heap.size:=⟨_,rfl⟩
 rw[<-hu]at e1 V;refine ck e1 (ck (qR _ _) (ck (ny V) ?_));have i1:=g _ _ _ _ hI m1 (λ_ h=>h.elim);refine fJ (z _ _ i1) (most:=most) (by omega) λw2 r2 m2=>?_;have i2:=Q _ _ _ _ i1 r2 m2;have b2:ft w2 u r:=m2.hpk V (by omega);have M2:cl (λb=>b=r) w w2:=(m1.mono λ_ _ h=>h.elim).trans m2;have T:(cN l most s).1<=most:=fB;have d:dO l f most s=dY l f (cN l most s).1 [] (cN l most s).2:=rfl;obtain⟨n,hn⟩:∃n,n=(cN l most s).1:=⟨_,rfl⟩
 obtain⟨I,H⟩:∃I,I=(cN l most s).2:=⟨_,rfl⟩
 rw[<-hn]at T|-;rw[<-H]at i2;rw[<-hn,<-H]at d;rw[d]at L
 refine dp (λst W=>∃(i:Nat) (acc:List ((Int×Od))) (sl:Value) (t:Rs),i<=n/\acc.length=i/\st=(sl,.int .u64 i,())/\ik W t/\dW W 119 6 sl acc.length (acc.flatMap du)/\(∀y,co sl y->u<y)/\dY l f n [] I=dY l f (n - i) acc t/\ft W u r/\cl (λb=>b=r) w W)
  (λst _=>match st.2.1 with| .int _ i=>n - i.toNat|_=>0) ⟨0,[],cF,I,by omega,rfl,rfl,i2,dW.nil _ _ _,λy a=>(by cases a),rfl,b2,M2⟩ ?_
 rintro⟨_,_⟩ W ⟨i,acc,sl,t,hi,C,⟨⟩,iW,oW,A,m,bW,MW⟩ KN X;unfold Ku;intro _;refine ck (v:=.bool (decide (i<n))) (w' :=W) (by simp[go_sem]) ?_;by_cases E:i<n
 ·rw[ci,if_pos (by simpa using E)];refine k W t _ iW λW1 iW1 q=>?_;have oW1:=oW.mod q λy a e=>by have:=A y a;omega
  have G:ft W1 u r:=q.hpk bW (by omega);have hu1:=cn G;obtain⟨W2,W3,e2,e3,b3,O⟩:=Ln (f t).1 W1;refine ck e2 (dI e3 ?_);have J:=g _ _ _ _ iW1 O (λ_ h=>h.elim);have p:ft W3 u r:=O.hpk G id;have S:=oW1.mod O λ_ _ h=>h;have U:=z _ _ J;have hle:=U.le
  have o:dY l f (n - i) acc t=if l.length - (f t).2.at_=0/\en l (f t).2≠0 then([],(f t).2)else dY l f (n - (i+1)) (acc++[(f t).1]) (f t).2:=by
   rw[show n - i=(n - (i+1))+1 by omega];rfl
  rw[o]at m;refine cB.at (λst c=>st=(.bool (decide (l.length - (f t).2.at_=0/\en l (f t).2≠0)),())/\cl (λ_=>False) W3 c) ?_ ?_
  ·refine ck (qR _ _) (ck (ny p) ?_);refine qh U λY N=>?_;by_cases h0:l.length - (f t).2.at_=0
   ·rw[h0];refine ck (v:=.bool true) (w' :=Y) (by simp[go_sem]) ?_;rw[ci,if_pos rfl];have Z:ft Y u r:=N.hpk p id;refine ck (qR _ _) (ck (ny Z) ?_);refine qp (U.mod N id λ_ _ h=>h) λW5 m5=>?_;refine ck (v:=.bool (decide (en l (f t).2≠0))) (w' :=W5) (by simp[go_sem];try rw[Bool.eq_iff_iff];simp) ?_;exact⟨by simp,N.trans m5⟩
   ·have h0' :¬((l.length - (f t).2.at_:Nat):Int)=0:=by omega
    refine ck (v:=.bool false) (w' :=Y) (by simp[go_sem,h0'];try omega) ?_;rw[ci,if_neg Bool.false_ne_true];exact⟨by simp[h0],N⟩
  rintro _ W6 ⟨rfl,D⟩;unfold JI;intro _;have B:=g _ _ _ _ J D (λ_ h=>h.elim);have M6:=((MW.trans q).on O λ_ h=>h.elim).on D λ_ h=>h.elim;have M:ft W6 u r:=D.hpk p id;have hu6:=cn M;by_cases P:l.length - (f t).2.at_=0/\en l (f t).2≠0
  ·rw[if_pos P]at m;rw[m]at L;rw[ci,if_pos (by simpa using P)];exact L cF W6 (dW.nil _ _ _) B M6 λy a=>(by cases a)
  ·rw[if_neg P]at m;rw[ci,if_neg (by simpa using P)];refine ck (OH (D.hpk b3 id)) ?_;refine tV (x:=(f t).1) (f:=du) QX (cI QB) (λ_=>rfl) rfl rfl (S.mod D λ_ _ h=>h) (by rw[C];omega) (by omega) λsl' W7 o7 R n7=>?_;refine ck (v:=.int .u64 ((i+1:Nat):Int)) (w' :=W7) (by simp[go_sem];rw[fG (by omega) (by omega)]) ?_;refine X _ _ ⟨i+1,acc++[(f t).1],sl',(f t).2,by omega,by simp[C],rfl,g _ _ _ _ B R (λy a=>by have:=A y a;omega),o7,λy a=>?_,m,R.hpk M λhc=>(by have:=A u hc;omega),M6.on R λy a=>.inr (by have:=A y a;omega)⟩ (by show n - (((i+1:Nat):Int)).toNat<n - ((i:Int)).toNat;omega);rcases n7 y a with h' |h'
   ·exact A y h'
   ·omega
 ·rw[ci,if_neg (by simpa using E)];obtain rfl:i=n:=by omega
  rw[Nat.sub_self]at m;have hT' :dY l f i [] I=(acc,t):=m;rw[hT']at L;exact L _ W oW iW MW λy a=>by have:=A y a;omega
set_option maxRecDepth 10000 in
def zF{w:World}{K:cm}{r most:Nat}{v fv:Value}{l:List UInt8}{s:Rs}{f:Rs->Ct×Rs}{ik:World->Rs->Prop}(hI:ik w s)(A:∀W t,ik W t->dz W r v l t)(T:∀W c t t',ik W t->dz c r v l t' ->cl (λb=>b=r) W c->ik c t')
  (g:∀W c t (F:Nat->Prop),ik W t->cl F W c->(∀y,F y->w.heap.size<=y)->ik c t)
  (m:∀W t (K' :cm),ik W t->(∀c,ik c (f t).2->cl (λb=>b=r) W c->K' (.agg (dN (f t).1).toArray) c)->dX Tryz.prog fv [] W K')(hmost:most<=100000)
  (O:∀sl j,dW j 108 27 sl (dO l f most s).1.length ((dO l f most s).1.flatMap dN)->ik j (dO l f most s).2->cl (λb=>b=r) w j->(∀y,co sl y->w.heap.size<=y)->K sl j):
  Ca Tryz.prog 66 #[CE r,.int .u64 most,fv] w K:=by
 apply QU;have hrl:r<w.heap.size:=(A _ _ hI).lt;obtain⟨w1,e1,b1,m1⟩:=vL r w;obtain⟨u,hu⟩:∃u,u=w.heap.size:=⟨_,rfl⟩
 rw[<-hu]at e1 b1;refine ck e1 (ck (qR _ _) (ck (ny b1) ?_));have i1:=g _ _ _ _ hI m1 (λ_ h=>h.elim);refine fJ (A _ _ i1) (most:=most) (by omega) λw2 r2 m2=>?_;have i2:=T _ _ _ _ i1 r2 m2;have b2:ft w2 u r:=m2.hpk b1 (by omega);have M2:cl (λb=>b=r) w w2:=(m1.mono λ_ _ h=>h.elim).trans m2;have Y:(cN l most s).1<=most:=fB;have d:dO l f most s=dY l f (cN l most s).1 [] (cN l most s).2:=rfl;obtain⟨n,hn⟩:∃n,n=(cN l most s).1:=⟨_,rfl⟩
 obtain⟨M,L⟩:∃M,M=(cN l most s).2:=⟨_,rfl⟩
 rw[<-hn]at Y|-;rw[<-L]at i2;rw[<-hn,<-L]at d;rw[d]at O
 refine dp (λst W=>∃(i:Nat) (acc:List (Ct)) (sl:Value) (t:Rs),i<=n/\acc.length=i/\st=(sl,.int .u64 i,())/\ik W t/\dW W 108 27 sl acc.length (acc.flatMap dN)/\(∀y,co sl y->u<y)/\dY l f n [] M=dY l f (n - i) acc t/\ft W u r/\cl (λb=>b=r) w W)
  (λst _=>match st.2.1 with| .int _ i=>n - i.toNat|_=>0) ⟨0,[],cF,M,by omega,rfl,rfl,i2,dW.nil _ _ _,λy a=>(by cases a),rfl,b2,M2⟩ ?_
 rintro⟨_,_⟩ W ⟨i,acc,sl,t,hi,D,⟨⟩,iW,oW,B,o,bW,MW⟩ KN hKN;unfold Ks;intro _;refine ck (v:=.bool (decide (i<n))) (w' :=W) (by simp[go_sem]) ?_;by_cases G:i<n
 ·rw[ci,if_pos (by simpa using G)];refine m W t _ iW λk iW1 z=>?_;have oW1:=oW.mod z λy a e=>by have:=B y a;omega
  have H:ft k u r:=z.hpk bW (by omega);have hu1:=cn H;refine kY PD ?_;rw[wH];have J:cl (λ_=>False) k (k.alloc (.cells (dN nU).toArray gQ)):=(cl.refl _ k).alloc _;have I:su (k.alloc (.cells (dN nU).toArray gQ)) k.heap.size nU:=by show hp _ _=_;simp[go_sem]
  generalize k.alloc (.cells (dN nU).toArray gQ)=W2 at J I|-;refine Mq (k' :=(f t).1) I λU b3 m3' =>?_;have R:cl (λ_=>False) k U:=J.on m3' λy a=>.inr (by omega);have N:=g _ _ _ _ iW1 R (λ_ h=>h.elim);have q:ft U u r:=R.hpk H id;have X:=oW1.mod R λ_ _ h=>h;have Z:=A _ _ N;have hle:=Z.le
  have p:dY l f (n - i) acc t=if l.length - (f t).2.at_=0/\en l (f t).2≠0 then([],(f t).2)else dY l f (n - (i+1)) (acc++[(f t).1]) (f t).2:=by
   rw[show n - i=(n - (i+1))+1 by omega];rfl
  rw[p]at o;refine cB.at (λst c=>st=(.bool (decide (l.length - (f t).2.at_=0/\en l (f t).2≠0)),())/\cl (λ_=>False) U c) ?_ ?_
  ·refine ck (qR _ _) (ck (ny q) ?_);refine qh Z λW4 Q=>?_;by_cases h0:l.length - (f t).2.at_=0
   ·rw[h0];refine ck (v:=.bool true) (w' :=W4) (by simp[go_sem]) ?_;rw[ci,if_pos rfl];have bW4:ft W4 u r:=Q.hpk q id;refine ck (qR _ _) (ck (ny bW4) ?_);refine qp (Z.mod Q id λ_ _ h=>h) λW5 m5=>?_;refine ck (v:=.bool (decide (en l (f t).2≠0))) (w' :=W5) (by simp[go_sem];try rw[Bool.eq_iff_iff];simp) ?_;exact⟨by simp,Q.trans m5⟩
   ·have h0' :¬((l.length - (f t).2.at_:Nat):Int)=0:=by omega
    refine ck (v:=.bool false) (w' :=W4) (by simp[go_sem,h0'];try omega) ?_;rw[ci,if_neg Bool.false_ne_true];exact⟨by simp[h0],Q⟩
  rintro _ W6 ⟨rfl,E⟩;unfold Kf;intro _;have C:=g _ _ _ _ N E (λ_ h=>h.elim);have M6:=((MW.trans z).on R λ_ h=>h.elim).on E λ_ h=>h.elim;have P:ft W6 u r:=E.hpk q id;have hu6:=cn P;by_cases S:l.length - (f t).2.at_=0/\en l (f t).2≠0
  ·rw[if_pos S]at o;rw[o]at O;rw[ci,if_pos (by simpa using S)];exact O cF W6 (dW.nil _ _ _) C M6 λy a=>(by cases a)
  ·rw[if_neg S]at o;rw[ci,if_neg (by simpa using S)];refine ey (dN (f t).1) 26 LF I2 (qN _) (At.all (E.hpk b3 id)) ?_;refine tV (x:=(f t).1) (f:=dN) ua (cI R0) (λ_=>cX _) (qa _) rfl (X.mod E λ_ _ h=>h) (by rw[D];omega) (by omega) λsl' W7 o7 V n7=>?_;refine ck (v:=.int .u64 ((i+1:Nat):Int)) (w' :=W7) (by simp[go_sem];rw[fG (by omega) (by omega)]) ?_;refine hKN _ _ ⟨i+1,acc++[(f t).1],sl',(f t).2,by omega,by simp[D],rfl,g _ _ _ _ C V (λy a=>by have:=B y a;omega),o7,λy a=>?_,o,V.hpk P λhc=>(by have:=B u hc;omega),M6.on V λy a=>.inr (by have:=B y a;omega)⟩ (by show n - (((i+1:Nat):Int)).toNat<n - ((i:Int)).toNat;omega);rcases n7 y a with h' |h'
   ·exact B y h'
   ·omega
 ·rw[ci,if_neg (by simpa using G)];obtain rfl:i=n:=by omega
  rw[Nat.sub_self]at o;have hT' :dY l f i [] M=(acc,t):=o;rw[hT']at O;exact O _ W oW iW MW λy a=>by have:=B y a;omega
def xU{α:Type}{P:α->Prop}{l:List UInt8}{f:Rs->α×Rs}(b:∀s,P (f s).1):∀(n:Nat) (acc:List α) (s:Rs),(∀x∈acc,P x)->∀x∈(dY l f n acc s).1,P x
 |0,acc,s,h=>h
 |n+1,acc,s,h=>by
  unfold dY;split
  ·intro x a;cases a
  ·refine xU b n _ _ λx a=>?_;rcases List.mem_append.1 a with a|a
   ·exact h x a
   ·rw[List.mem_singleton.1 a];exact b s
def BU{α:Type}{l:List UInt8}{f:Rs->α×Rs}:∀(n:Nat) (acc:List α) (s:Rs),(dY l f n acc s).1.length<=acc.length+n
 |0,acc,s=>Nat.le_refl _
 |n+1,acc,s=>by
  unfold dY;split
  ·exact Nat.zero_le _
  ·have:=BU (l:=l) (f:=f) n (acc++[(f s).1]) (f s).2;rw[List.length_append,List.length_singleton]at this;omega
def qq{α:Type}{l:List UInt8}{f:Rs->α×Rs}(most:Nat)(s:Rs):(dO l f most s).1.length<=most:=by
 have:=BU (l:=l) (f:=f) (cN l most s).1 [] (cN l most s).2;have a:=fB (l:=l) (most:=most) (s:=s);unfold dO;rw[List.length_nil]at this;omega
def om{α:Type}{P:α->Prop}{l:List UInt8}{f:Rs->α×Rs}(a:∀s,P (f s).1)(most:Nat)(s:Rs):∀x∈(dO l f most s).1,P x:=xU a _ _ _ λx b=>(by cases b)
section
attribute [local irreducible] cM dQ gz lw dO
def we(l:List UInt8):(jq l).1.Fit where
 day:=im ..
 next:=wu ..
 fund:=fP ..
 accts:=λa b=>om (f:=pv l) (P:=λa=>fq a.num/\eQ a.cash) (λs=>⟨im _ _,fP _ _⟩) 64 _ a b
 cts:=λa b=>om (f:=mJ l) (P:=Ct.Fit) (λs=>⟨FT _ _,xh _ _,fP _ _⟩) 16 _ a b
 poss:=λa b=>om (f:=pI l) (P:=λp=>(fq p.c/\fq p.a)/\eQ p.q/\eQ p.b) (λs=>⟨⟨im _ _,im _ _⟩,fP _ _,fP _ _⟩) 1024 _ a b
 ords:=λa b=>om (f:=kC l) (P:=λx=>fq x.1/\x.2.Fit) (λs=>⟨im _ _,wu _ _,im _ _,fP _ _,fP _ _⟩) 3200 _ a b
 bids:=λa b=>om (f:=kC l) (P:=λx=>fq x.1/\x.2.Fit) (λs=>⟨im _ _,wu _ _,im _ _,fP _ _,fP _ _⟩) 800 _ a b
def wg(l:List UInt8):(jq l).1.accts.length<=64/\(jq l).1.cts.length<=16/\(jq l).1.poss.length<=1024/\(jq l).1.ords.length<=3200/\(jq l).1.bids.length<=800:=
 ⟨qq ..,qq ..,qq ..,qq ..,qq ..⟩
end
noncomputable def lu (l:List UInt8):Option (iq×dF):=if en l (jq l).2=0 then(fZ (jq l).1).map λS=>((jq l).1,S)else none
section
variable{w:World}{K:cm}{v:Value}{l:List UInt8}
set_option maxRecDepth 10000 in
set_option maxHeartbeats 4000000 in
def xX(h:Rd w 1 v l.length (bv l))(hl:l.length<=1000000000)
  (hok:∀s S ss O,lu l=some (s,S)->eS O ss s->cl (λ_=>False) w O->K (.tuple #[Io s ss,.int .i64 0]) O)
  (hno:∀O,lu l=none->cl (λ_=>False) w O->K (.tuple #[oJ 0 0 0 (jY cF),.int .i64 5]) O):Ca Tryz.prog 18 #[v] w K:=by
 have hv0:∀b,eM v b->b<w.heap.size:=λb hb=>h.lt hb;apply Rq;obtain⟨w1,e1,b1,m1⟩:=kV w;obtain⟨q,hq⟩:∃q,q=w.heap.size:=⟨_,rfl⟩
 rw[<-hq]at e1 b1;refine ck e1 ?_;refine wG (h.mod m1 λ_ _ h=>h) hl λw2 r2 m2=>?_;have b2:cR w2 q 0 0 0 (jY cF):=m2.hpk b1 id;obtain⟨r,hr⟩:∃r,r=w1.heap.size:=⟨_,rfl⟩
 rw[<-hr]at r2|-;have hqr:q<r:=by have:=cn b1;omega
 refine ck (v:=CE r) (w' :=w2) (by simp[go_sem,fW,CE]) ?_;obtain⟨c,hc⟩:∃c,c=w2.heap.size:=⟨_,rfl⟩
 have hlay:∃w4,(w2.alloc (.cells #[.pointer none] xk)).setCell ⟨c,0,none⟩ (fW r)=w4/\cl (λ_=>False) w2 w4/\ft w4 c r:=
  ⟨_,rfl,((cl.refl _ w2).alloc _).setCell (.inr (by omega)) _ _,by show hp _ _=_;rw[hc];simp[go_sem,fW]⟩
 obtain⟨w4,hw4,m4,v4⟩:=hlay;refine ck (v:=.pointer (some ⟨c,0,none⟩)) (w' :=w2.alloc (.cells #[.pointer none] xk)) (by rw[hc];simp[go_sem]) ?_;refine dI (w' :=w4) (by rw[<-hw4,hc];simp[go_sem,fW,CE]) ?_;clear hw4;have hrc:r<c:=by have:=r2.lt;omega
 have h4:pH w4 c r v l ⟨0,0⟩:=⟨r2.mod m4 id λ_ _ h=>h,v4,by omega⟩
 obtain⟨w5,e5,b5,m5⟩:=kV w4;obtain⟨p,hp0⟩:∃p,p=w4.heap.size:=⟨_,rfl⟩
 rw[<-hp0]at e5 b5;refine ck e5 ?_;have hcp:c<p:=by have:=cn v4;omega
 have md:=(cl.refl (λ_=>False) w5).drew;have h5:=(h4.md0 m5).md0 md;have p5:cR w5.drew p 0 0 0 (jY cF):=md.hpk b5 id;have q5:cR w5.drew q 0 0 0 (jY cF):=md.hpk (m5.hpk (m4.hpk b2 id) id) id;have M5:cl (λb=>b=r) w w5.drew:=((((m1.trans m2).trans m4).trans m5).trans md).mono λ_ _ h=>h.elim;generalize w5.drew=u5 at h5 p5 q5 M5|-;have hpu:=cn p5;have hv:∀b,eM v b->b<q:=λb hb=>by have:=hv0 b hb;omega
 have A:∀{W k:World} {z:Nat},q<=z->cl (λb=>b=r) w W->cl (λy=>y=z) W k->cl (λb=>b=r) w k:=λhz a b=>a.on b λy g=>.inr (by omega);have o:∀{W k:World} {t:Rs},pH W c r v l t->cl (λy=>y=p) W k->pH k c r v l t:=λh m=>h.st (by omega) hcp (λb hb=>by have:=hv b hb;omega) m;refine cx (qm h5.var) (cq (λW=>qR W c) (cx (ny h5.var) (cq (λW=>qR W c) (cx (ny h5.var) ?_))));refine lP h5.at_ λw6 r6 m6=>?_;have h6:=h5.to r6 m6;refine⟨ny h6.var,ny h6.var,cq (λW=>eF W 0 (by omega)) ?_⟩;refine xD h6.at_ λw7 r7 m7=>?_;have h7:=h6.to r7 m7;refine⟨ny h7.var,?_⟩;refine lr h7.at_ λw8 r8 m8=>?_;have h8:=h7.to r8 m8;obtain⟨a1,ha1⟩:∃a,a=cM l jj ⟨0,0⟩:=⟨_,rfl⟩
 rw[<-ha1]at h8|-;obtain⟨a2,ha2⟩:∃a,a=cM l xw a1.2:=⟨_,rfl⟩
 rw[<-ha2]at h8|-;obtain⟨a3,ha3⟩:∃a,a=dQ l a2.2:=⟨_,rfl⟩
 rw[<-ha3]at h8|-;have p8:cR w8 p 0 0 0 (jY cF):=m8.hpk (m7.hpk (m6.hpk p5 (by omega)) (by omega)) (by omega);have q8:cR w8 q 0 0 0 (jY cF):=m8.hpk (m7.hpk (m6.hpk q5 (by omega)) (by omega)) (by omega);have M8:=((M5.trans m6).trans m7).trans m8;obtain⟨w9,e9,p9,m9⟩:=(As p8).1 a1.1;refine dI e9 (cq (λW=>eF W 1 (by omega)) ?_);obtain⟨w10,e10,p10,m10⟩:=(As p9).2.1 a2.1;refine dI e10 (cq (λW=>eF W 2 (by omega)) ?_);obtain⟨w11,e11,p11,m11⟩:=(As p10).2.2 a3.1;refine dI e11 ?_;have h11:=o (o (o h8 m9) m10) m11;have q11:cR w11 q 0 0 0 (jY cF):=m11.hpk (m10.hpk (m9.hpk q8 (by omega)) (by omega)) (by omega);have M11:=A (by omega) (A (by omega) (A (by omega) M8 m9) m10) m11
 have kt:∀{W:World} {t:Rs},pH W c r v l t->∀W1 W2 t (F:Nat->Prop),pH W1 c r v l t->cl F W1 W2->(∀y,F y->W.heap.size<=y)->pH W2 c r v l t:=λhW W1 W2 t F G m hF=>by
  obtain⟨z1,z2,z3⟩:=hW.lt;exact⟨G.at_.mod m (λhf=>by have:=hF _ hf;omega) λb hb hf=>by have:=hF _ hf;have:=z3 b hb;omega,m.hpk G.var λhf=>by have:=hF _ hf;omega,G.ne⟩
 refine ck (qm h11.var) ?_;refine zD (most:=64) (f:=pv l) (ik:=λW t=>pH W c r v l t) h11 (λW t h=>h.at_) (λW k t t' h T m=>h.to T m) (kt h11) (λW t K' G hk=>by rw[eR];exact HZ G hk) (by omega) λs3 w12 o12 h12 m12 n12=>?_;have hs3:∃a n c,s3=.slice a n c:=by obtain⟨a,c,e,-⟩:=o12.isSl;exact⟨a,_,c,e⟩
 obtain⟨a4,ha4⟩:∃a,a=dO l (pv l) 64 a3.2:=⟨_,rfl⟩
 rw[<-ha4]at o12 h12;have p12:cR w12 p a1.1 a2.1 a3.1 (jY cF):=m12.hpk p11 (by omega);have q12:cR w12 q 0 0 0 (jY cF):=m12.hpk q11 (by omega);have hp11:=cn p11;refine ck (eF _ 3 (by omega)) ?_;obtain⟨w13,e13,p13,Z⟩:=nv p12 xd 3 (by omega) (by omega) hs3;refine dI e13 ?_;have sl3:=iw xd 3 hs3;have j:∀y,co s3 y->p<y:=λy g=>by have:=n12 y g;omega
 have o13:=o12.mod Z λy g e=>by have:=j y g;omega
 have h13:=o h12 Z;have q13:cR w13 q 0 0 0 (jY cF):=Z.hpk q12 (by omega);have M13:=A (by omega) (M11.trans m12) Z;refine ck (qm h13.var) ?_;refine zF (most:=16) (f:=mJ l) (ik:=λW t=>pH W c r v l t) h13 (λW t h=>h.at_) (λW k t t' h T m=>h.to T m) (kt h13) (λW t K' G hk=>by rw[eR];exact ID G hk) (by omega) λs4 w14 o14 h14 X n14=>?_;have hs4:∃a n c,s4=.slice a n c:=by obtain⟨a,c,e,-⟩:=o14.isSl;exact⟨a,_,c,e⟩
 obtain⟨a5,ha5⟩:∃a,a=dO l (mJ l) 16 a4.2:=⟨_,rfl⟩
 rw[<-ha5]at o14 h14;have p14:cR w14 p a1.1 a2.1 a3.1 (dg (jY cF) 3 s3):=X.hpk p13 (by omega);have q14:cR w14 q 0 0 0 (jY cF):=X.hpk q13 (by omega);have hp13:=cn p13;refine ck (eF _ 4 (by omega)) ?_;obtain⟨w15,e15,p15,R⟩:=nv p14 sl3 4 (by omega) (by omega) hs4;refine dI e15 ?_;have sl4:=iw sl3 4 hs4;have B:∀y,co s4 y->p<y:=λy g=>by have:=n14 y g;omega
 have oA15:=(o13.mod X λy g e=>by have:=j y g;omega).mod R λy g e=>by have:=j y g;omega
 have oC15:=o14.mod R λy g e=>by have:=B y g;omega
 have h15:=o h14 R;have q15:cR w15 q 0 0 0 (jY cF):=R.hpk q14 (by omega);have M15:=A (by omega) (M13.trans X) R;refine ck (qm h15.var) ?_;refine Au (most:=1024) (f:=pI l) (ik:=λW t=>pH W c r v l t) h15 (λW t h=>h.at_) (λW k t t' h T m=>h.to T m) (kt h15) (λW t K' G hk=>by rw[eR];exact Ix G hk) (by omega) λs5 w16 o16 h16 P n16=>?_;have hs5:∃a n c,s5=.slice a n c:=by obtain⟨a,c,e,-⟩:=o16.isSl;exact⟨a,_,c,e⟩
 obtain⟨a6,ha6⟩:∃a,a=dO l (pI l) 1024 a5.2:=⟨_,rfl⟩
 rw[<-ha6]at o16 h16;have p16:cR w16 p a1.1 a2.1 a3.1 (dg (dg (jY cF) 3 s3) 4 s4):=P.hpk p15 (by omega);have q16:cR w16 q 0 0 0 (jY cF):=P.hpk q15 (by omega);have hp15:=cn p15;refine ck (eF _ 5 (by omega)) ?_;obtain⟨w17,e17,p17,M⟩:=nv p16 sl4 5 (by omega) (by omega) hs5;refine dI e17 ?_;have sl5:=iw sl4 5 hs5;have J:∀y,co s5 y->p<y:=λy g=>by have:=n16 y g;omega
 have oA17:=(oA15.mod P λy g e=>by have:=j y g;omega).mod M λy g e=>by have:=j y g;omega
 have oC17:=(oC15.mod P λy g e=>by have:=B y g;omega).mod M λy g e=>by have:=B y g;omega
 have oP17:=o16.mod M λy g e=>by have:=J y g;omega
 have h17:=o h16 M;have q17:cR w17 q 0 0 0 (jY cF):=M.hpk q16 (by omega);have M17:=A (by omega) (M15.trans P) M;refine ck (qm h17.var) (ck (qm h17.var) ?_)
 have hcl:∀W t (K' :cm),pH W c r v l t->(∀k,pH k c r v l (kC l t).2->cl (λb=>b=r) W k->K' (xf (kC l t).1) k)->dX Tryz.prog (.func (.func 73) #[CE r] #[]) [] W K' :=λW t K' G hk=>by
  rw[eR];exact I3 G.at_ λk T m' =>hk k (G.to T m') m'
 refine uy (most:=3200) (f:=kC l) (ik:=λW t=>pH W c r v l t) h17 (λW t h=>h.at_) (λW k t t' h T m=>h.to T m) (kt h17) hcl (by omega) λs6 w18 o18 h18 L n18=>?_;have hs6:∃a n c,s6=.slice a n c:=by obtain⟨a,c,e,-⟩:=o18.isSl;exact⟨a,_,c,e⟩
 obtain⟨a7,ha7⟩:∃a,a=dO l (kC l) 3200 a6.2:=⟨_,rfl⟩
 rw[<-ha7]at o18 h18;have p18:cR w18 p a1.1 a2.1 a3.1 (dg (dg (dg (jY cF) 3 s3) 4 s4) 5 s5):=L.hpk p17 (by omega);have q18:cR w18 q 0 0 0 (jY cF):=L.hpk q17 (by omega);have hp17:=cn p17;refine ck (eF _ 6 (by omega)) ?_;obtain⟨w19,e19,p19,E⟩:=nv p18 sl5 6 (by omega) (by omega) hs6;refine dI e19 ?_;have sl6:=iw sl5 6 hs6;have N18:∀y,co s6 y->p<y:=λy g=>by have:=n18 y g;omega
 have oA19:=(oA17.mod L λy g e=>by have:=j y g;omega).mod E λy g e=>by have:=j y g;omega
 have oC19:=(oC17.mod L λy g e=>by have:=B y g;omega).mod E λy g e=>by have:=B y g;omega
 have oP19:=(oP17.mod L λy g e=>by have:=J y g;omega).mod E λy g e=>by have:=J y g;omega
 have oO19:=o18.mod E λy g e=>by have:=N18 y g;omega
 have h19:=o h18 E;have q19:cR w19 q 0 0 0 (jY cF):=E.hpk q18 (by omega);have M19:=A (by omega) (M17.trans L) E;refine ck (qm h19.var) (ck (qm h19.var) ?_);refine uy (most:=800) (f:=kC l) (ik:=λW t=>pH W c r v l t) h19 (λW t h=>h.at_) (λW k t t' h T m=>h.to T m) (kt h19) hcl (by omega) λs7 w20 o20 h20 H n20=>?_;have hs7:∃a n c,s7=.slice a n c:=by obtain⟨a,c,e,-⟩:=o20.isSl;exact⟨a,_,c,e⟩
 obtain⟨a8,ha8⟩:∃a,a=dO l (kC l) 800 a7.2:=⟨_,rfl⟩
 rw[<-ha8]at o20 h20;have p20:cR w20 p a1.1 a2.1 a3.1 (dg (dg (dg (dg (jY cF) 3 s3) 4 s4) 5 s5) 6 s6):=H.hpk p19 (by omega);have q20:cR w20 q 0 0 0 (jY cF):=H.hpk q19 (by omega);have hp19:=cn p19;refine ck (eF _ 7 (by omega)) ?_;obtain⟨U,e21,p21,u⟩:=nv p20 sl6 7 (by omega) (by omega) hs7;refine dI e21 ?_;have sl7:=iw sl6 7 hs7;have N20:∀y,co s7 y->p<y:=λy g=>by have:=n20 y g;omega
 have oA:=(oA19.mod H λy g e=>by have:=j y g;omega).mod u λy g e=>by have:=j y g;omega
 have oC:=(oC19.mod H λy g e=>by have:=B y g;omega).mod u λy g e=>by have:=B y g;omega
 have oP:=(oP19.mod H λy g e=>by have:=J y g;omega).mod u λy g e=>by have:=J y g;omega
 have oO:=(oO19.mod H λy g e=>by have:=N18 y g;omega).mod u λy g e=>by have:=N18 y g;omega
 have oB:=o20.mod u λy g e=>by have:=N20 y g;omega
 have h21:=o h20 u;have q21:cR U q 0 0 0 (jY cF):=u.hpk q20 (by omega);have M21:=A (by omega) (M19.trans H) u;have M21' :cl (λ_=>False) w U:=(cl.refl _ w).on M21 λy g=>.inr (by omega);obtain⟨ss,Y⟩:∃ss,ss=dg (dg (dg (dg (dg (jY cF) 3 s3) 4 s4) 5 s5) 6 s6) 7 s7:=⟨_,rfl⟩
 obtain⟨st,Q⟩:∃st:iq,st=⟨a1.1,a2.1,a3.1,a4.1,a5.1,a6.1,a7.1,a8.1⟩:=⟨_,rfl⟩
 have C:jq l=(st,a8.2):=by
  rw[Q];subst ha8 ha7 ha6 ha5 ha4 ha3 ha2 ha1;rfl
 have G:eS U ss st:=by
  intro i hi hj;have:i=3\/i=4\/i=5\/i=6\/i=7:=by omega
  rw[Y,Q];rcases this with rfl|rfl|rfl|rfl|rfl
  ·exact oA.rd
  ·exact oC.rd
  ·exact oP.rd
  ·exact oO.rd
  ·exact oB.rd
 have hfit:st.Fit:=by have:=we l;rw[C]at this;exact this
 have hlen:=wg l;rw[C]at hlen;have hp21:cR U p st.day st.next st.fund ss:=by rw[Y,Q];exact p21
 rw[<-Y]at sl7;have D:lu l=if en l a8.2=0 then(fZ st).map λS=>(st,S)else none:=by unfold lu;rw[C]
 have fail:∀W,cl (λ_=>False) U W->lu l=none->rv Tryz.prog (Instr.build lY #[]) W λv75 w76=>ru Tryz.prog (Instr.storeAt lY (.pointer (some ⟨q,0,none⟩)) v75) w76 λw77=>sY Tryz.prog (Instr.loadAt lY (.pointer (some ⟨q,0,none⟩))) w77 λv78=>K (.tuple #[v78,.int .i64 5]) w77:=by
  intro W m hn;refine ck (LM W) ?_;obtain⟨k,e',b',m'⟩:=uH (d:=0) (n:=0) (f:=0) (ss:=jY cF) (m.hpk q21 id) rfl xd;refine dI e' (cx (sq b') ?_);exact hno k hn ((M21'.trans m).on m' λy g=>.inr (by omega))
 refine ck (qR _ _) (ck (ny h21.var) ?_);refine qp h21.at_ λw22 V=>?_;refine ck (v:=.bool (decide (en l a8.2≠0))) (w' :=w22) (by simp[go_sem];try rw[Bool.eq_iff_iff];simp) ?_;by_cases hd:en l a8.2=0
 ·rw[ci,if_neg (by simpa using hd)];rw[if_pos hd]at D;have p22:cR w22 p st.day st.next st.fund ss:=V.hpk hp21 id;refine ck (sq p22) ?_;simp only at hlen;refine qK (s:=st) (G.md0 V) hfit ⟨by omega,by omega,by omega,by omega,by omega⟩ λx e w23 m23 hx=>?_;refine ck (by simp[-Int.natCast_add,go_sem]<;>first|exact⟨rfl,rfl⟩|exact rfl) ?_;refine ck (by simp[-Int.natCast_add,go_sem]<;>first|exact⟨rfl,rfl⟩|exact rfl) ?_;have I:=V.trans m23;cases hf:fZ st with
  |none=>
   rw[hf]at hx D;obtain⟨rfl,rfl⟩:=hx;refine ck (v:=.bool true) (w' :=w23) (by simp[go_sem]) ?_;rw[ci,if_pos rfl];exact fail w23 I D
  |some S=>
   rw[hf]at hx D;obtain⟨rfl,-⟩:=hx;refine ck (v:=.bool false) (w' :=w23) (by simp[go_sem]) ?_;rw[ci,if_neg Bool.false_ne_true];refine ck (sq (m23.hpk p22 id)) ?_;obtain⟨w24,e24,b24,m24⟩:=uH (d:=st.day) (n:=st.next) (f:=st.fund) (ss:=ss) (I.hpk q21 id) rfl sl7;refine dI e24 (cx (sq b24) ?_);refine hok st S ss w24 D (λi hi hj=>((G.md0 I) i hi hj).mod m24 λy g e=>?_) ((M21'.trans I).on m24 λy g=>.inr (by omega));have N:=eM.sl g;have:i=3\/i=4\/i=5\/i=6\/i=7:=by omega
   rw[Y]at N;rcases this with rfl|rfl|rfl|rfl|rfl
   ·have:=j y N;omega
   ·have:=B y N;omega
   ·have:=J y N;omega
   ·have:=N18 y N;omega
   ·have:=N20 y N;omega
 ·rw[ci,if_pos (by simpa using hd)];rw[if_neg hd]at D;exact fail w22 V D
end
end Go.Proofs
