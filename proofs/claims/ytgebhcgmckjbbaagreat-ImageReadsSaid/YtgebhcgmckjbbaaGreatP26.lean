/- Part of a proof. -/
import Derived.Test.YtgebhcgmckjbbaaGreatP25
set_option linter.all false
namespace Go.Proofs
open Go Go.Vc
def kH:List (Int×Od)->(Int->Bk)->Option (Int->Bk)
 | [],B=>some B
 |x::l,B=>
  if(B x.1 x.2.buy).any (λy=>decide (y.num=x.2.num))=true\/100<=(B x.1 x.2.buy).length then none
  else kH l (fU B x.1 ((B x.1).set x.2.buy (B x.1 x.2.buy++[x.2])))
def x5(B:Bk):Prop:=∀b∈B true,∀s∈B false,b.price<s.price
def kK(B:Bk)(d:Bool)(l:List Od):B.set d l d=l:=if_pos rfl
def jE(B:Bk){d e:Bool}(l:List Od)(h:e≠d):B.set d l e=B e:=if_neg h
def Ce{B:Bk}{o:Od}:x5 (B.set o.buy (B o.buy++[o]))↔x5 B/\∀x∈B !o.buy,ec o x.price=false:=by
 unfold x5 ec;cases e:o.buy with
 |true=>
  rw[kK,jE _ _ (by decide)];simp only[List.mem_append,List.mem_singleton,Bool.not_true,if_true];constructor
  ·intro h;refine⟨λb h1 s a=>h b (.inl h1) s a,λx d=>?_⟩;have:=h o (.inr rfl) x d;simp;omega
  ·rintro⟨h,c⟩ b (h1|rfl) s a
   ·exact h b h1 s a
   ·have:=c s a;simp at this;omega
 |false=>
  rw[kK,jE _ _ (by decide)];simp only[List.mem_append,List.mem_singleton,Bool.not_false,Bool.false_eq_true,if_false];constructor
  ·intro h;refine⟨λb h1 s a=>h b h1 s (.inl a),λx d=>?_⟩;have:=h x d o (.inr rfl);simp;omega
  ·rintro⟨h,c⟩ b h1 s (a|rfl)
   ·exact h b h1 s a
   ·have:=c b h1;simp at this;omega
def wm:∀{l:List (Int×Od)} {B B' :Int->Bk},kH l B=some B' ->∀n d,∀x∈B n d,x∈B' n d
 | [],B,B',h,n,d,x,a=>by cases h;exact a
 |y::l,B,B',h,n,d,x,a=>by
  unfold kH at h;split at h
  ·cases h
  ·refine wm h n d x ?_;by_cases c:n=y.1
   ·subst c;rw[dI];by_cases b:d=y.2.buy
    ·subst b;rw[kK];exact List.mem_append_left _ a
    ·rw[jE _ _ b];exact a
   ·rw[eE _ _ _ c];exact a
def D3{B B' :Bk}(h:∀d,∀x∈B d,x∈B' d)(c:x5 B'):x5 B:=λb h1 s a=>c b (h true b h1) s (h false s a)
def qg(S:dx)(a:Bool)(U:List Int)(x:Int×Od):S.stnd a U x=true↔S.stnd a [] x=true/\x.2.num ∉ U:=by
 unfold dx.stnd;simp only[Bool.and_eq_true,decide_eq_true_eq,Bool.not_eq_true',List.contains_nil];constructor
 ·rintro⟨h1,c,g,d,f,b,e⟩;exact⟨⟨h1,c,g,d,f,b,trivial⟩,by simpa using e⟩
 ·rintro⟨⟨h1,c,g,d,f,b,-⟩,e⟩;exact⟨h1,c,g,d,f,b,by simpa using e⟩
def sg{S T:dx}(h1:T.cal=S.cal)(b:T.led=S.led)(c:T.next=S.next)(a:Bool)(U:List Int)(x:Int×Od):T.stnd a U x=S.stnd a U x:=by
 unfold dx.stnd;rw[h1,b,c]
structure zV(S0 S:dx)(U:List Int)(B:Int->Bk):Prop where
 fill:im S0 S U
 bk:∀n d,S.bk n d=gZ d (B n d)
def zV.mem{S0 S:dx}{U:List Int}{B:Int->Bk}(h:zV S0 S U B){n:Int}{d:Bool}{x:Od}:x∈S.bk n d↔x∈B n d:=by
 rw[h.bk];exact(mL d _).2.mem_iff
def zV.len{S0 S:dx}{U:List Int}{B:Int->Bk}(h:zV S0 S U B)(n:Int)(d:Bool):(S.bk n d).length=(B n d).length:=by
 rw[h.bk];exact iU d _
def zV.stnd{S0 S:dx}{U:List Int}{B:Int->Bk}(h:zV S0 S U B)(a:Bool)(V:List Int)(x:Int×Od):S.stnd a V x=S0.stnd a V x:=sg h.fill.cal h.fill.led h.fill.next a V x
def zV.fresh{S0 S:dx}{U:List Int}{B:Int->Bk}(h:zV S0 S U B){n:Int}{d:Bool}{x:Od}(a:x∈B n d):x.num∈U:=h.fill.nums n x (kS (h.mem.2 a))
def zV.step{S0 S:dx}{U:List Int}{B:Int->Bk}(h:zV S0 S U B){x:Int×Od}(i:x.2.Fit)(k:S.stnd true U x=true)(j:(B x.1 x.2.buy).length<100)(l:∀y∈B x.1 !x.2.buy,ec x.2 y.price=false):
  (cY (S.bk x.1) x.2 4).1=0/\(cY (S.bk x.1) x.2 4).2.2.gone=[]/\
  zV S0 {S with bk:=fU S.bk x.1 (cY (S.bk x.1) x.2 4).2.1} (x.2.num::U) (fU B x.1 ((B x.1).set x.2.buy (B x.1 x.2.buy++[x.2]))):=by
 have a:=jJ k;have hp:=Hq (B:=S.bk x.1) (o:=x.2) a.may (λd y c e=>a.new (e▸h.fresh (h.mem.1 c))) (by rw[h.len];exact j) λy c=>l y (h.mem.1 c);have g:(cY (S.bk x.1) x.2 4).1=0:=by rw[hp]
 refine⟨g,by rw[hp],h.fill.order a i g,λn d=>?_⟩;show fU S.bk x.1 (cY (S.bk x.1) x.2 4).2.1 n d=_;rw[hp];simp only;by_cases f:n=x.1
 ·subst f;rw[dI,dI];by_cases b:d=x.2.buy
  ·subst b;rw[kK,kK,vZ,h.bk]
  ·rw[jE _ _ b,jE _ _ b,h.bk]
 ·rw[eE _ _ _ f,eE _ _ _ f,h.bk]
def uG{S0:dx}:∀{l:List (Int×Od)} {U:List Int} {S:dx} {B:Int->Bk} {x:List Int×dx},zV S0 S U B->(∀n,x5 (B n))->(∀y∈l,y.2.Fit)->io l U S=some x->
  (∀y∈l,S0.stnd true [] y=true)/\(l.map (·.2.num)).Nodup/\(∀y∈l,y.2.num ∉ U)/\x.1=(l.map (·.2.num)).reverse++U/\∃f,kH l B=some f/\zV S0 x.2 x.1 f/\∀n,x5 (f n)
 | [],U,S,B,x,h,k,m,e=>by cases e;exact⟨λy o=>(by cases o),List.nodup_nil,λy o=>(by cases o),rfl,B,rfl,h,k⟩
 |y::l,U,S,B,x,h,k,m,e=>by
  unfold io at e;by_cases h1:S.stnd true U y=false
  ·rw[if_pos h1]at e;cases e
  rw[if_neg h1]at e;by_cases j:(cY (S.bk y.1) y.2 4).1≠0\/(cY (S.bk y.1) y.2 4).2.2.gone≠ []
  ·rw[if_pos j]at e;cases e
  rw[if_neg j]at e;have r:S.stnd true U y=true:=by simpa using h1
  have E:(cY (S.bk y.1) y.2 4).1=0:=Classical.byContradiction λb=>j (.inl b);have u:(cY (S.bk y.1) y.2 4).2.2.gone=[]:=Classical.byContradiction λb=>j (.inr b);obtain⟨C,p⟩:=HN (h.fill.ok.ord.bkMay y.1) (by rw[h.bk];exact(mL _ _).1) E u;have i:∀z∈B y.1 !y.2.buy,ec y.2 z.price=false:=λz a=>C z (h.mem.2 a);rw[h.len]at p;obtain⟨-,-,v⟩:=h.step (m y List.mem_cons_self) r p i
  have t:∀n,x5 (fU B y.1 ((B y.1).set y.2.buy (B y.1 y.2.buy++[y.2])) n):=λn=>by
   by_cases g:n=y.1
   ·subst g;rw[dI];exact Ce.2 ⟨k _,i⟩
   ·rw[eE _ _ _ g];exact k n
  obtain⟨F,G,q,A,f,w,D,s⟩:=uG v t (λz a=>m z (List.mem_cons_of_mem _ a)) e;have c:=r;rw[h.stnd,qg]at c;refine⟨λz a=>?_,?_,λz a=>?_,?_,f,?_,D,s⟩
  ·rcases List.mem_cons.1 a with rfl|a
   ·exact c.1
   ·exact F z a
  ·rw[List.map_cons,List.nodup_cons];refine⟨λb=>?_,G⟩;obtain⟨z,a,d⟩:=List.mem_map.1 b;exact q z a (by rw[d];exact List.mem_cons_self)
  ·rcases List.mem_cons.1 a with rfl|a
   ·exact c.2
   ·exact λb=>q z a (List.mem_cons_of_mem _ b)
  ·rw[A];simp
  ·unfold kH;rw[if_neg]
   ·exact w
   ·rintro(b|b)
    ·obtain⟨z,a,d⟩:=List.any_eq_true.1 b;exact c.2 (of_decide_eq_true d▸h.fresh a)
    ·omega
def uq{S0:dx}:∀{l:List (Int×Od)} {U:List Int} {S:dx} {B B' :Int->Bk},zV S0 S U B->(∀y∈l,y.2.Fit)->(∀y∈l,S0.stnd true [] y=true)->(l.map (·.2.num)).Nodup->(∀y∈l,y.2.num ∉ U)->kH l B=some B' ->(∀n,x5 (B' n))->
  ∃i,io l U S=some ((l.map (·.2.num)).reverse++U,i)/\zV S0 i ((l.map (·.2.num)).reverse++U) B'
 | [],U,S,B,B',h,j,m,g,k,e,o=>by cases e;exact⟨S,rfl,h⟩
 |y::l,U,S,B,B',h,j,m,g,k,e,o=>by
  unfold kH at e;split at e
  ·cases e
  ·rename_i h1
   simp only[not_or]at h1
   have c:S.stnd true U y=true:=by
    rw[h.stnd,qg];exact⟨m y List.mem_cons_self,k y List.mem_cons_self⟩
   have r:x5 ((B y.1).set y.2.buy (B y.1 y.2.buy++[y.2])):=by
    refine D3 (B' :=B' y.1) (λd z a=>?_) (o y.1);refine wm e y.1 d z ?_;rw[dI];exact a
   obtain⟨-,b⟩:=Ce.1 r;obtain⟨q,v,s⟩:=h.step (j y List.mem_cons_self) c (by omega) b;rw[List.map_cons,List.nodup_cons]at g
   obtain⟨i,t,u⟩:=uq s (λz a=>j z (List.mem_cons_of_mem _ a)) (λz a=>m z (List.mem_cons_of_mem _ a)) g.2 (λz a b=>by
    rcases List.mem_cons.1 b with b|b
    ·exact g.1 (b▸List.mem_map_of_mem (f:=λz:Int×Od=>z.2.num) a)
    ·exact k z (List.mem_cons_of_mem _ a) b) e o
   have p:(List.map (·.2.num) (y::l)).reverse++U=(List.map (·.2.num) l).reverse++(y.2.num::U):=by simp
   refine⟨i,?_,?_⟩
   ·unfold io;rw[if_neg (by rw[c];decide),if_neg (by rw[q,v];simp),p];exact t
   ·rw[p];exact u
def lp:List (Int×Od)->(Int->List Od)->Option (Int->List Od)
 | [],D=>some D
 |x::l,D=>
  if 50<=(D x.1).length\/(0<(D x.1).length/\x.2.num<=((D x.1).getD ((D x.1).length - 1) fH).num)then none
  else lp l (fU D x.1 (D x.1++[x.2]))
def dy(l:List (Int×Od))(n:Int):List Od:=(l.filter λx=>decide (x.1=n)).map (·.2)
def Hh(l:List Od):Prop:=l.Pairwise λa b=>a.num<b.num
def jP(x:Int×Od)(l:List (Int×Od))(n:Int):dy (x::l) n=if x.1=n then x.2::dy l n else dy l n:=by
 unfold dy;by_cases h:x.1=n
 ·rw[if_pos h,List.filter_cons_of_pos (by simpa using h)];rfl
 ·rw[if_neg h,List.filter_cons_of_neg (by simpa using h)]
def lO(D:Int->List Od)(x:Int×Od)(l:List (Int×Od))(m:Int):fU D x.1 (D x.1++[x.2]) m++dy l m=D m++dy (x::l) m:=by
 rw[jP];by_cases h:x.1=m
 ·subst h;rw[dI,if_pos rfl];simp
 ·rw[eE _ _ _ (Ne.symm h),if_neg h]
def zM{l:List Od}{o:Od}:Hh (l++[o])↔Hh l/\(0<l.length->(l.getD (l.length - 1) fH).num<o.num):=by
 unfold Hh;rw[List.pairwise_append];constructor
 ·rintro⟨h1,-,c⟩;refine⟨h1,λk=>?_⟩;have d:l.getD (l.length - 1) fH=l[l.length - 1]:=by simp[List.getD,List.getElem?_eq_getElem (show l.length - 1<l.length by omega)]
  rw[d];exact c _ (List.getElem_mem _) o (List.mem_singleton_self _)
 ·rintro⟨h1,c⟩;refine⟨h1,List.pairwise_singleton _ _,λa g b h=>?_⟩;rw[List.mem_singleton.1 h];obtain⟨i,j,rfl⟩:=List.mem_iff_getElem.1 g;have d:l.getD (l.length - 1) fH=l[l.length - 1]:=by simp[List.getD,List.getElem?_eq_getElem (show l.length - 1<l.length by omega)]
  have e:=c (by omega);rw[d]at e;by_cases f:i=l.length - 1
  ·subst f;exact e
  ·have:=List.pairwise_iff_getElem.1 h1 i (l.length - 1) j (by omega) (by omega);omega
def zI:∀{l:List (Int×Od)} {D:Int->List Od},(∀m,(D m++dy l m).length<=50/\Hh (D m++dy l m))->lp l D=some λm=>D m++dy l m
 | [],D,h=>by
  have:(λm=>D m++dy [] m)=D:=by funext m;simp[dy]
  rw[this];rfl
 |x::l,D,h=>by
  have h1:=h x.1;rw[jP,if_pos rfl]at h1
  have b:Hh (D x.1++[x.2]):=by
   refine List.Pairwise.sublist ?_ h1.2;exact List.Sublist.append (List.Sublist.refl _) (List.singleton_sublist.2 List.mem_cons_self)
  rw[zM]at b;unfold lp;rw[if_neg]
  ·have:=zI (l:=l) (D:=fU D x.1 (D x.1++[x.2])) λm=>by rw[lO];exact h m
   rw[this];congr 1;funext m;exact lO D x l m
  ·rintro(d|⟨a,c⟩)
   ·have:=h1.1;simp only[List.length_append,List.length_cons]at this;omega
   ·have:=b.2 a;omega
def wi:∀{l:List (Int×Od)} {D a:Int->List Od},lp l D=some a->(∀m,(D m).length<=50/\Hh (D m))->(∀m,a m=D m++dy l m)/\∀m,(a m).length<=50/\Hh (a m)
 | [],D,a,h,b=>by cases h;exact⟨λm=>by simp[dy],b⟩
 |x::l,D,a,h,b=>by
  unfold lp at h;split at h
  ·cases h
  ·rename_i h1
   simp only[not_or,not_and]at h1;have g:=b x.1
   obtain⟨e,f⟩:=wi h λm=>by
    by_cases c:m=x.1
    ·subst c;rw[dI,List.length_append,List.length_singleton];refine⟨by omega,zM.2 ⟨g.2,λd=>?_⟩⟩;have:=h1.2 d;omega
    ·rw[eE _ _ _ c];exact b m
   exact⟨λm=>by rw[e,lO],f⟩
def MZ:List (Int×Od)->Option Int->Int->Prop
 | [],_,_=>True
 |x::l,pc,n=>(if pc≠none/\pc≠some x.1 then 0 else n)<x.2.num/\MZ l (some x.1) x.2.num
def GY:∀{l:List (Int×Od)} {pc:Option Int} {n:Int},(∀x∈l,0<x.2.num)->(∀x∈l,(pc=none\/pc=some x.1)->n<x.2.num)->(l.Pairwise λa b=>a.1=b.1->a.2.num<b.2.num)->MZ l pc n
 | [],_,_,_,_,_=>trivial
 |x::l,pc,n,d,h1,e=>by
  obtain⟨i,g⟩:=List.pairwise_cons.1 e;refine⟨?_,GY (λy c=>d y (List.mem_cons_of_mem _ c)) (λy c h=>?_) g⟩
  ·split
   ·exact d x List.mem_cons_self
   ·rename_i j
    refine h1 x List.mem_cons_self ?_;by_cases hp:pc=none
    ·exact .inl hp
    ·exact .inr (Classical.byContradiction λf=>j ⟨hp,f⟩)
  ·rcases h with h|h
   ·cases h
   ·exact i y c (Option.some.inj h)
def Cp:∀{l:List (Int×Od)},(∀m,Hh (dy l m))->l.Pairwise λa b=>a.1=b.1->a.2.num<b.2.num
 | [],_=>List.Pairwise.nil
 |x::l,h=>by
  refine List.pairwise_cons.2 ⟨λy d c=>?_,Cp λm=>?_⟩
  ·have:=h x.1;rw[jP,if_pos rfl]at this;refine(List.pairwise_cons.1 this).1 y.2 ?_;unfold dy;exact List.mem_map.2 ⟨y,List.mem_filter.2 ⟨d,by simpa using c.symm⟩,rfl⟩
  ·have:=h m;rw[jP]at this;split at this
   ·exact(List.pairwise_cons.1 this).2
   ·exact this
def BX{m:Int}{R:List (Int×Od)}:∀{K:List Od} {pc:Option Int} {n:Int},MZ (K.map (λo=>(m,o))++R) pc n->Hh K/\(pc=some m->∀x∈K,n<x.num)/\∃a d,MZ R a d
 | [],pc,n,h=>⟨List.Pairwise.nil,λ_ x i=>(by cases i),pc,n,h⟩
 |x::K,pc,n,h=>by
  obtain⟨h1,e⟩:=h;obtain⟨j,c,f⟩:=BX e;refine⟨List.pairwise_cons.2 ⟨c rfl,j⟩,λhp y b=>?_,f⟩;rw[if_neg (by rintro⟨-,k⟩;exact k hp)]at h1;rcases List.mem_cons.1 b with rfl|b
  ·exact h1
  ·have:=c rfl y b;have g:n<x.num:=h1;omega
def yo{L:Int->List Od}:∀{ns:List Int} {pc:Option Int} {n:Int},MZ (ns.flatMap λn=>(L n).map λo=>(n,o)) pc n->∀m∈ns,Hh (L m)
 | [],_,_,_,m,a=>by cases a
 |k::ns,pc,n,h,m,a=>by
  rw[List.flatMap_cons]at h;obtain⟨c,-,b,e,d⟩:=BX h;rcases List.mem_cons.1 a with rfl|a
  ·exact c
  ·exact yo d m a
def vA{S0:dx}:∀{l:List (Int×Od)} {pc:Option Int} {n:Int} {U:List Int} {S c:dx},S.cal=S0.cal->S.led=S0.led->S.next=S0.next->iO l pc n U S=some c->(∀m,(S.bd m).length<=50)->
  (∀y∈l,S0.stnd false [] y=true)/\(l.map (·.2.num)).Nodup/\(∀y∈l,y.2.num ∉ U)/\MZ l pc n/\c={S with bd:=λm=>S.bd m++dy l m}/\∀m,(c.bd m).length<=50
 | [],pc,n,U,S,c,b,g,j,e,f=>by
  cases e;refine⟨λy h=>(by cases h),List.nodup_nil,λy h=>(by cases h),trivial,?_,f⟩;have:(λm=>S.bd m++dy [] m)=S.bd:=by funext m;simp[dy]
  rw[this]
 |y::l,pc,n,U,S,c,b,g,j,e,f=>by
  unfold iO at e;by_cases h1:S.stnd false U y=false
  ·rw[if_pos h1]at e;cases e
  rw[if_neg h1]at e;by_cases k:y.2.num<=(if pc≠none/\pc≠some y.1 then 0 else n)
  ·rw[if_pos k]at e;cases e
  rw[if_neg k]at e;by_cases p:50<=(S.bd y.1).length
  ·rw[if_pos p]at e;cases e
  rw[if_neg p]at e;have i:S.stnd false U y=true:=by simpa using h1
  rw[sg b g j,qg]at i
  obtain⟨u,v,o,s,r,t⟩:=vA (S0:=S0) (S:={S with bd:=fU S.bd y.1 (S.bd y.1++[y.2])}) b g j e λm=>by
   show(fU S.bd y.1 (S.bd y.1++[y.2]) m).length<=50;by_cases q:m=y.1
   ·subst q;rw[dI,List.length_append,List.length_singleton];omega
   ·rw[eE _ _ _ q];exact f m
  refine⟨λz a=>?_,?_,λz a=>?_,⟨by omega,s⟩,?_,t⟩
  ·rcases List.mem_cons.1 a with rfl|a
   ·exact i.1
   ·exact u z a
  ·rw[List.map_cons,List.nodup_cons];refine⟨λb=>?_,v⟩;obtain⟨z,a,d⟩:=List.mem_map.1 b;exact o z a (by rw[d];exact List.mem_cons_self)
  ·rcases List.mem_cons.1 a with rfl|a
   ·exact i.2
   ·exact λb=>o z a (List.mem_cons_of_mem _ b)
  ·rw[r];have:(λm=>fU S.bd y.1 (S.bd y.1++[y.2]) m++dy l m)=λm=>S.bd m++dy (y::l) m:=funext λm=>lO S.bd y l m;show({S with bd:=λm=>fU S.bd y.1 (S.bd y.1++[y.2]) m++dy l m}:dx)=_;rw[this]
def yQ{S0:dx}:∀{l:List (Int×Od)} {pc:Option Int} {n:Int} {U:List Int} {S:dx},S.cal=S0.cal->S.led=S0.led->S.next=S0.next->(∀y∈l,S0.stnd false [] y=true)->(l.map (·.2.num)).Nodup->(∀y∈l,y.2.num ∉ U)->MZ l pc n->(∀m,(S.bd m++dy l m).length<=50)->
  iO l pc n U S=some {S with bd:=λm=>S.bd m++dy l m}
 | [],pc,n,U,S,a,g,i,h1,b,h,d,e=>by
  have:(λm=>S.bd m++dy [] m)=S.bd:=by funext m;simp[dy]
  rw[this];rfl
 |y::l,pc,n,U,S,a,g,i,h1,b,h,d,e=>by
  rw[List.map_cons,List.nodup_cons]at b
  have k:S.stnd false U y=true:=by
   rw[sg a g i,qg];exact⟨h1 y List.mem_cons_self,h y List.mem_cons_self⟩
  have o:=e y.1;rw[jP,if_pos rfl,List.length_append,List.length_cons]at o;unfold iO;rw[if_neg (by rw[k];decide),if_neg (by have:=d.1;omega),if_neg (by omega)]
  have:=yQ (S0:=S0) (l:=l) (pc:=some y.1) (n:=y.2.num) (U:=y.2.num::U) (S:={S with bd:=fU S.bd y.1 (S.bd y.1++[y.2])}) a g i (λz c=>h1 z (List.mem_cons_of_mem _ c)) b.2 (λz c a=>by
   rcases List.mem_cons.1 a with a|a
   ·exact b.1 (a▸List.mem_map_of_mem (f:=λz:Int×Od=>z.2.num) c)
   ·exact h z (List.mem_cons_of_mem _ c) a) d.2 λm=>by
    show(fU S.bd y.1 (S.bd y.1++[y.2]) m++dy l m).length<=50;rw[lO];exact e m
  rw[this];have j:(λm=>fU S.bd y.1 (S.bd y.1++[y.2]) m++dy l m)=λm=>S.bd m++dy (y::l) m:=funext λm=>lO S.bd y l m;show some ({S with bd:=λm=>fU S.bd y.1 (S.bd y.1++[y.2]) m++dy l m}:dx)=_;rw[j]
def jQ(s:iN):List Int:=s.cts.map (·.spec.num)
def oy(s:iN)(B:Int->Bk):List (Int×Od):=(jQ s).flatMap λn=>(gZ true (B n true)++gZ false (B n false)).map λo=>(n,o)
def kw(s:iN)(D:Int->List Od):List (Int×Od):=(jQ s).flatMap λn=>(D n).map λo=>(n,o)
structure SM(s:iN)(B:Int->Bk)(D:Int->List Od):Prop where
 from0:jW s
 len:s.ords.length<=3200/\s.bids.length<=800
 ords:∀x∈s.ords,(eR s).stnd true [] x=true
 bids:∀x∈s.bids,(eR s).stnd false [] x=true
 nums:((s.ords++s.bids).map (·.2.num)).Nodup
 addO:kH s.ords (λ_=>Bk.empty)=some B
 cross:∀n∈jQ s,x5 (B n)
 addB:lp s.bids (λ_=>[])=some D
 eqO:oy s B=s.ords
 eqB:kw s D=s.bids
def K6(s:iN):Prop:=∃B D,SM s B D
def gP{α β:Type}{f:α->List β}{k:Nat}:∀{l:List α},(∀x∈l,(f x).length<=k)->(l.flatMap f).length<=k*l.length
 | [],_=>by simp
 |x::l,h=>by
  have h1:=h x List.mem_cons_self;have b:=gP (l:=l) (f:=f) (k:=k) λy a=>h y (List.mem_cons_of_mem _ a);rw[List.flatMap_cons,List.length_append,List.length_cons,Nat.mul_succ];omega
def yk{S:dx}{a:Bool}{x:Int×Od}(h:S.stnd a [] x=true)(c:x.2.Fit):0<x.2.num:=by
 have b:=(jJ h).may;unfold Od.may at b;simp only[Bool.and_eq_true,decide_eq_true_eq]at b;have:=b.1.1.1;have:=c.1.1;omega
def uc:∀{l:List (Int×Od)} {U:List Int} {S:dx} {y:List Int×dx},io l U S=some y->y.2.bd=S.bd
 | [],U,S,y,e=>by cases e;rfl
 |z::l,U,S,y,e=>by
  unfold io at e;split at e
  ·cases e
  ·split at e
   ·cases e
   ·have:=uc e;exact this
def Oc{s:iN}(h:jW s)(a:s.Fit):zV (eR s) (eR s) [] λ_=>Bk.empty:=⟨im.zero h a,λn d=>rfl⟩
def P6:∀n:Int,x5 ((λ_=>Bk.empty:Int->Bk) n):=λn b a=>by cases a
def Mj{s:iN}{S:dx}(G:s.Fit)(h:gm s=some S):K6 s:=by
 unfold gm at h;split at h
 ·rename_i z
  unfold nO at h;cases h1:io s.ords [] (eR s)with
  |none=>rw[h1]at h;cases h
  |some x=>
   rw[h1]at h;simp only[Option.bind_some]at h;cases q:iO s.bids none 0 x.1 x.2 with
   |none=>rw[q]at h;cases h
   |some T=>
    rw[q]at h;simp only[Option.bind_some]at h;split at h
    ·rename_i H
     cases h;obtain⟨Z,a2,a3,U,B,R,b,M⟩:=uG (Oc z G) P6 (λy d=>(G.ords y d).2) h1;have c:∀m,x.2.bd m=[]:=λm=>by rw[uc h1];rfl
     obtain⟨K,W,O,X,w,N⟩:=vA (S0:=eR s) b.fill.cal b.fill.led b.fill.next q λm=>by rw[c];decide
     have j:∀m,S.bd m=dy s.bids m:=λm=>by rw[w];show x.2.bd m++_=_;rw[c];rfl
     have E:∀m,(S.bk m).all=gZ true (B m true)++gZ false (B m false):=λm=>by
      rw[w];show(x.2.bk m).all=_;unfold Bk.all;rw[b.bk,b.bk]
     have g:S.cal=(eR s).cal:=by rw[w];exact b.fill.cal
     have a:S.nums=jQ s:=by unfold dx.nums;rw[g];rfl
     have J:oy s B=s.ords:=by
      rw[<-H.1];show _=S.nums.flatMap λn=>(S.bk n).all.map λo=>(n,o)
      rw[a];unfold oy;congr 1;funext n;rw[E]
     have t:kw s (dy s.bids)=s.bids:=by
      have:s.bids=S.state.bids:=H.2.symm;rw[this];show _=S.nums.flatMap λn=>(S.bd n).map λo=>(n,o)
      rw[a];unfold kw;congr 1;funext n;rw[j,<-this]
     have hc:=yo (L:=dy s.bids) (ns:=jQ s) (pc:=none) (n:=0) (by
      have:kw s (dy s.bids)=_:=t;unfold kw at this;rw[this];exact X)
     have C:∀m,Hh (dy s.bids m):=λm=>by
      by_cases I:m∈jQ s
      ·exact hc m I
      ·have:dy s.bids m=[]:=by
        unfold dy;rw[List.map_eq_nil_iff,List.filter_eq_nil_iff];intro y d F;rw[<-t]at d;unfold kw at d;obtain⟨k,P,A⟩:=List.mem_flatMap.1 d;obtain⟨o,ho,rfl⟩:=List.mem_map.1 A;exact I ((of_decide_eq_true F:k=m)▸P)
       rw[this];exact List.Pairwise.nil
     have r:(jQ s).length<=16:=by unfold jQ;rw[List.length_map];exact z.len
     have p:∀m,(dy s.bids m).length<=50:=λm=>by rw[<-j];exact N m
     refine⟨B,dy s.bids,z,⟨?_,?_⟩,Z,K,?_,R,λn _=>M n,?_,J,t⟩
     ·have i:=b.fill.ok.ord;rw[<-J];unfold oy
      have:=gP (l:=jQ s) (k:=200) (f:=λn=>(gZ true (B n true)++gZ false (B n false)).map λo=>(n,o)) λn _=>by
       rw[List.length_map,List.length_append,<-b.bk,<-b.bk];have h1:=(i.side n true).1;have q:=(i.side n false).1;omega
      omega
     ·have Q:(kw s (dy s.bids)).length=s.bids.length:=by rw[t]
      rw[<-Q];unfold kw;have:=gP (l:=jQ s) (k:=50) (f:=λn=>(dy s.bids n).map λo=>(n,o)) λn _=>by rw[List.length_map];exact p n
      omega
     ·rw[List.map_append,List.nodup_append];refine⟨a2,W,λu V v Y e=>?_⟩;obtain⟨y,d,rfl⟩:=List.mem_map.1 Y;refine O y d ?_;rw[U,List.append_nil,List.mem_reverse,<-e];exact V
     ·have:=zI (l:=s.bids) (D:=λ_=>[]) λm=>⟨p m,C m⟩
      rw[this];rfl
    ·cases h
 ·cases h
def Mr{s:iN}(u:s.Fit)(h:K6 s):∃S,gm s=some S:=by
 obtain⟨B,D,h⟩:=h;have j:=h.nums;rw[List.map_append,List.nodup_append]at j;obtain⟨M,O,H⟩:=j
 have N:∀n,x5 (B n):=λn=>by
  by_cases G:n∈jQ s
  ·exact h.cross n G
  ·
   have:∀(l:List (Int×Od)) (t q:Int->Bk),kH l t=some q->(∀x∈l,x.1≠n)->q n=t n:=by
    intro l;induction l with
    |nil=>intro t q e _;cases e;rfl
    |cons z l L=>
     intro t q e F;unfold kH at e;split at e
     ·cases e
     ·rw[L _ _ e λx b=>F x (List.mem_cons_of_mem _ b),eE _ _ _ λp=>F z List.mem_cons_self p.symm]
   rw[this _ _ _ h.addO λx b p=>G (by
    have C:=(jJ (h.ords x b)).alive;obtain⟨k,-,-,K,J⟩:=oJ C;rw[<-p,<-K];exact List.mem_map_of_mem (f:=λk:Ct=>k.spec.num) J)]
   exact P6 n
 obtain⟨g,w,d⟩:=uq (Oc h.from0 u) (λy v=>(u.ords y v).2) h.ords M (λy v=>by simp) h.addO N;rw[List.append_nil]at w d;obtain⟨d1,d2⟩:=wi h.addB λm=>⟨by decide,List.Pairwise.nil⟩
 have I:D=dy s.bids:=by funext m;rw[d1];rfl
 subst I;have c:g.bd=λ_=>[]:=uc w
 have i:=yQ (S0:=eR s) (l:=s.bids) (pc:=none) (n:=0) (U:=(s.ords.map (·.2.num)).reverse) (S:=g) d.fill.cal d.fill.led d.fill.next h.bids O (λy v p=>H _ (List.mem_reverse.1 p) _ (List.mem_map_of_mem (f:=λz:Int×Od=>z.2.num) v) rfl)
  (GY (λx b=>yk (h.bids x b) (u.bids x b).2) (λx b _=>yk (h.bids x b) (u.bids x b).2) (Cp λm=>(d2 m).2)) λm=>by rw[c];exact(d2 m).1
 obtain⟨T,r⟩:∃T:dx,T={g with bd:=λm=>g.bd m++dy s.bids m}:=⟨_,rfl⟩
 rw[<-r]at i
 have a:T.nums=jQ s:=by
  rw[r];show g.nums=_;unfold dx.nums;rw[d.fill.cal];rfl
 have E:∀m,T.bd m=dy s.bids m:=λm=>by rw[r];show g.bd m++_=_;rw[c];rfl
 have A:∀m,(T.bk m).all=gZ true (B m true)++gZ false (B m false):=λm=>by
  rw[r];show(g.bk m).all=_;unfold Bk.all;rw[d.bk,d.bk]
 refine⟨T,?_⟩;unfold gm;rw[if_pos h.from0];unfold nO;rw[w];simp only[Option.bind_some];rw[i];simp only[Option.bind_some];rw[if_pos];refine⟨?_,?_⟩
 ·show(T.nums.flatMap λn=>(T.bk n).all.map λo=>(n,o))=_;rw[a,<-h.eqO];unfold oy;congr 1;funext n;rw[A]
 ·show(T.nums.flatMap λn=>(T.bd n).map λo=>(n,o))=_;rw[a];have:=h.eqB;unfold kw at this;rw[<-this];congr 1;funext n;rw[E]
end Go.Proofs
namespace Go.Proofs
open Go Go.Vc
attribute [local congr] cq
section
variable{w:World}{K:cm}
set_option maxRecDepth 10000 in
def CW{s:Sp}{n:Int}(F:s.Fit)(c:∀i,cl (λ_=>False) w i->K (.bool (s.isQty n)) i):Ca Tryz.prog 172 #[.agg (dl s).toArray,.int .i64 n] w K:=by
 apply Qj;obtain⟨p,e⟩:∃p,p=w.heap.size:=⟨_,rfl⟩
 have y:cl (λ_=>False) w (w.alloc (.cells (dl s).toArray 38)):=(cl.refl _ w).alloc _;refine ck (v:=.pointer (some ⟨p,0,none⟩)) (w' :=w.alloc (.cells (dl s).toArray 38)) (by rw[e];rfl) ?_;have t:iG (w.alloc (.cells (dl s).toArray 38)) p (dl s):=by show hp _ _=_;rw[e];simp[go_sem]
 generalize w.alloc (.cells (dl s).toArray 38)=g at y t|-;have md:=(cl.refl (λ_=>False) g).drew;have l:iG g.drew p (dl s):=md.hpk t id;have z:=y.trans md;generalize g.drew=I at l z|-;refine eX (dl s) 24 ve ry (cJ _) (At.all l) ?_;refine qR F λC u=>?_;have x:iG C p (dl s):=u.hpk l id;have k:=z.trans u;unfold Sp.isQty at c;cases a:s.may with
 |false=>
  rw[a]at c;rw[ci,if_neg Bool.false_ne_true];exact c _ k
 |true=>
 rw[a,Bool.true_and]at c;rw[ci,if_pos rfl];refine jB ?_;cases j:cD n 1 1000000 with
 |false=>
  rw[j]at c;rw[ci,if_neg Bool.false_ne_true];exact c _ k
 |true=>
 rw[j,Bool.true_and]at c;rw[ci,if_pos rfl];have H:=of_decide_eq_true j
 have d:0<s.lot:=by
  have:=tm s;rw[a]at this;have:=((Bool.and_eq_true ..).mp this.symm).1;unfold Sp.pre at this;simp only[Bool.and_eq_true]at this;have:=of_decide_eq_true this.2.2.2.1;omega
 have r:¬s.lot=0:=by omega
 obtain⟨A,B,E,f⟩:=tU d (show 0<=n by omega);generalize D:n.tdiv s.lot=q at A B E f;refine co (λW=>(sX p W).1 3 (by omega)) (cB (zL x).2.2.2.1 ?_);refine co (v:=.int .i64 q) (λW=>by simp[go_sem,r,D];try rw[cS (by omega) (by omega)]) ?_;refine co (λW=>(sX p W).1 3 (by omega)) (cB (zL x).2.2.2.1 ?_);have o:0<=q*s.lot:=Int.mul_nonneg A (by omega);generalize G:q*s.lot=m at B f o;refine co (v:=.int .i64 m) (λW=>by simp[go_sem,G];rw[cS (by omega) (by omega)]) ?_
 refine co (v:=.bool (decide (n.tmod s.lot=0))) (λW=>by
  by_cases b:m=n
  ·simp[go_sem,b,f.1 b]
  ·have:¬n.tmod s.lot=0:=λh=>b (f.2 h);simp[go_sem,b,this]) ?_
 exact c _ k
abbrev J4:TypeId:=166
def If(c l:Nat)(sB sD:Value)(nx:Int):Array Value:=#[pt c,pt l,sB,sD,.int .u64 nx]
abbrev AS(w:World)(v c l:Nat)(sB sD:Value)(nx:Int):Prop:=hp w v=some (.cells (If c l sB sD nx) J4 (0,0))
def rD(v:Nat)(i:Nat)(hi:i<5)(W:World):(Instr.fieldAt J4 (pt v) i).run Tryz.prog W=.ok (.pointer (some ⟨v,i,none⟩)) W:=by
 rcases(show i=0\/i=1\/i=2\/i=3\/i=4 by omega)with rfl|rfl|rfl|rfl|rfl<;>simp[go_sem]
def uZ{v c l:Nat}{e d:Value}{nx:Int}(h:AS w v c l e d nx)(h1:∃a n c,e=.slice a n c)(f:∃a n c,d=.slice a n c):(Instr.loadAt 157 (.pointer (some ⟨v,0,none⟩))).run Tryz.prog w=.ok (pt c) w/\(Instr.loadAt 160 (.pointer (some ⟨v,1,none⟩))).run Tryz.prog w=.ok (pt l) w/\
  (Instr.loadAt 163 (.pointer (some ⟨v,2,none⟩))).run Tryz.prog w=.ok e w/\(Instr.loadAt 164 (.pointer (some ⟨v,3,none⟩))).run Tryz.prog w=.ok d w/\(Instr.loadAt 27 (.pointer (some ⟨v,4,none⟩))).run Tryz.prog w=.ok (.int .u64 nx) w:=by
 obtain⟨m,k,g,rfl⟩:=h1;obtain⟨i,o,j,rfl⟩:=f;have b:hp w v=some (.cells #[pt c,pt l,.slice m k g,.slice i o j,.int .u64 nx] J4 (0,0)):=h;exact⟨by simp[go_sem,b],by simp[go_sem,b],by simp[go_sem,b],by simp[go_sem,b],by simp[go_sem,b]⟩
def xm(L:List Ct)(n:Int):match Ck L n with
  |none=>ek L n=none
  |some i=>∃h:i<L.length,ek L n=some L[i]:=by
 unfold Ck ek;cases a:L.findIdx? λk=>decide (k.spec.num=n)with
 |none=>exact List.find?_eq_none.2 λx e=>by have:=List.findIdx?_eq_none_iff.1 a x e;simpa using this
 |some i=>
  obtain⟨h1,c,d⟩:=List.findIdx?_eq_some_iff_getElem.1 a;exact⟨h1,List.find?_eq_some_iff_getElem.2 ⟨c,i,h1,rfl,λj b=>by simpa using d j b⟩⟩
def Fp{W:World}{p:Nat}{x:Int×Od}(h:u7 W p x):(Instr.loadAt 2 (.pointer (some ⟨p,1+3,none⟩))).run Tryz.prog W=.ok (.int .i64 x.2.price) W/\(Instr.loadAt 2 (.pointer (some ⟨p,1+4,none⟩))).run Tryz.prog W=.ok (.int .i64 x.2.left) W:=⟨(vl h).2.2.2.1,(vl h).2.2.2.2⟩
set_option maxRecDepth 10000 in
set_option maxHeartbeats 1000000 in
def BF{v c l:Nat}{sB sD:Value}{F F' :Nat->Prop}{x:Int×Od}{d:Bool}{S:dx}(hv:AS w v c l sB sD S.next)(h1:∃a n c,sB=.slice a n c)(h2:∃a n c,sD=.slice a n c)
  (hC:pO w c F S.cal.day S.cal.l)(hL:Aa w l F' S.led)(hkf:∀k∈S.cal.l,k.Fit)(hx:iC x.1/\x.2.Fit)(hl:S.cal.l.length<=100000)(hla:S.led.all.length<=100000)
  (t:∀w',cl (λ_=>False) w w' ->K (.bool (S.stnd d [] x)) w'):Ca Tryz.prog 87 #[pt v,vw x,.bool d] w K:=by
 apply Q6;unfold pt;obtain⟨w1,e1,b1,m1⟩:=Gi x w;obtain⟨p,hp0⟩:∃p,p=w.heap.size:=⟨_,rfl⟩
 rw[<-hp0]at e1 b1;refine ck e1 ?_;have md:=(cl.refl (λ_=>False) w1).drew;have b2:u7 w1.drew p x:=md.hpk b1 id;have B:=m1.trans md;generalize w1.drew=I at b2 B|-;have bV:∀{W:World},cl (λ_=>False) I W->AS W v c l sB sD S.next:=λm=>(B.trans m).hpk hv id;have T:∀{W:World},cl (λ_=>False) I W->u7 W p x:=λm=>m.hpk b2 id;rw[cr];refine co (λW=>rD v 0 (by omega) W) (cB (uZ (bV (cl.refl _ _)) h1 h2).1 ?_);refine co (λW=>(kA p W).1) (cB (sU b2) ?_);refine oF (hC.md0 B) hl ?_
 have o:S.stnd d [] x=(decide (dg S.cal.l x.1=0)&& (S.led.stB x.2.acct&& (x.2.may&& ((fD S.cal.l x.1).1.spec.isPrice x.2.price&& ((!d||(fD S.cal.l x.1).1.spec.isQty x.2.left)&& decide (x.2.num<S.next)))))):=by
  unfold dx.stnd;simp
 have z:(S.led.getV x.2.acct).2≠0->S.led.stB x.2.acct=false:=λh=>by
  unfold dM.getV at h;unfold dM.stB;cases hg:S.led.getO x.2.acct with
  |none=>rfl
  |some a=>
   rw[hg]at h;simp at h
 have u:(S.led.getV x.2.acct).2=0->S.led.stB x.2.acct=(!(S.led.getV x.2.acct).1.dfl&& !(S.led.getV x.2.acct).1.kil):=λh=>by
  unfold dM.getV at h|-;unfold dM.stB;cases hg:S.led.getO x.2.acct with
  |none=>rw[hg]at h;exact absurd h (by rw[if_pos rfl];decide)
  |some a=>rfl
 have f:=xm S.cal.l x.1;obtain⟨A,hA⟩:∃A,A=S.led.getV x.2.acct:=⟨_,rfl⟩
 rw[<-hA]at z u;refine cy.at (λst W=>∃q,st=(pt q,.int .i64 A.2,())/\zZ W q A.1/\cl (λ_=>False) I W) ?_ ?_
 ·have J:=(cl.refl (λ_=>False) I).drew;generalize I.drew=w3 at J|-;rw[cr];refine co (λW=>rD v 1 (by omega) W) (cB (uZ (bV J) h1 h2).2.1 ?_);refine co (λW=>(kA p W).2) (co (λW=>xF 1 (by omega) p W) (cB (vl (T J)).2.1 ⟨?_,?_⟩))
  ·refine BZ (hL.modF (B.trans J)) (by omega) λw4 m4=>?_;rw[<-hA];refine co (v:=ii A.1) (λW=>by simp[go_sem]) (co (v:=.int .i64 A.2) (λW=>by simp[go_sem]) ?_);obtain⟨w5,e5,U,G⟩:=tL w4;refine ck e5 ?_;obtain⟨N,e6,M,m6⟩:=xM A.1 U;refine dt e6 ?_;exact⟨_,rfl,M,(J.trans m4).trans (G.on m6 λy hy=>.inr (by omega))⟩
  ·obtain⟨w5,e5,U,G⟩:=tL w3;refine ck e5 ?_;have H:=J.trans G;refine⟨(vl (T H)).2.1,(uZ (bV H) h1 h2).2.1,?_⟩;refine BZ (hL.modF (B.trans H)) (by omega) λw4 m4=>?_;rw[<-hA];refine co (v:=ii A.1) (λW=>by simp[go_sem]) (co (v:=.int .i64 A.2) (λW=>by simp[go_sem]) ?_);obtain⟨N,e6,M,m6⟩:=xM A.1 (m4.hpk U id);refine dt e6 ?_;exact⟨_,rfl,M,J.trans ((G.trans m4).on m6 λy hy=>.inr (by omega))⟩
 rintro _ W ⟨q,rfl,bA,mW⟩;unfold Kp;intro _;obtain⟨Q,hQ⟩:∃Q:Prop,Q=(∃k,ek S.cal.l x.1=some k/\S.led.stB x.2.acct=true/\x.2.may=true/\x.2.num<S.next):=⟨_,rfl⟩
 refine cy.at (λst W' =>∃D:Bool,st=(.bool D,())/\cl (λ_=>False) I W' /\(D=true->S.stnd d [] x=false)/\(D=false->Q)) ?_ ?_
 ·have O:=mW.drew;have P:zZ W.drew q A.1:=((cl.refl (λ_=>False) W).drew).hpk bA id;generalize W.drew=V at O P|-;have no:∀(X:World),cl (λ_=>False) I X->S.stnd d [] x=false->∃D:Bool,((Value.bool true,()):Value×Unit)=(.bool D,())/\cl (λ_=>False) I X/\(D=true->S.stnd d [] x=false)/\(D=false->Q):=λX m h=>⟨true,rfl,m,λ_=>h,λh=>(by cases h)⟩
  cases j:Ck S.cal.l x.1 with
  |none=>
   rw[j]at f;have e:kT S.cal.l x.1= -1:=by unfold kT;rw[j]
   rw[e];refine co (v:=.bool true) (λW=>by simp[go_sem]) ?_;rw[ci,if_pos rfl];exact no _ O (by rw[o];unfold dg;simp only at f;rw[f];rfl)
  |some i=>
  rw[j]at f;obtain⟨E,g⟩:=f;have e:kT S.cal.l x.1=(i:Int):=by unfold kT;rw[j]
  rw[e];refine co (v:=.bool false) (λW=>by simp[go_sem]) ?_;rw[ci,if_neg Bool.false_ne_true];by_cases C:A.2=0
  rotate_left
  ·refine co (v:=.bool true) (λW=>by simp[go_sem,C]) ?_;rw[ci,if_pos rfl];exact no _ O (by rw[o,z C];simp)
  refine co (v:=.bool false) (λW=>by simp[go_sem,C]) ?_;rw[ci,if_neg Bool.false_ne_true];have hB:=u C;refine co (λW=>vj 3 (by omega) q W) (cB (CQ P).2 ?_);cases hdf:A.1.dfl with
  |true=>
   rw[ci,if_pos rfl];exact no _ O (by rw[o,hB,hdf];simp)
  |false=>
  rw[ci,if_neg Bool.false_ne_true];refine co (λW=>vj 2 (by omega) q W) (cB (CQ P).1 ?_);cases hki:A.1.kil with
  |true=>
   rw[ci,if_pos rfl];exact no _ O (by rw[o,hB,hki];simp)
  |false=>
  rw[ci,if_neg Bool.false_ne_true];refine co (λW=>(kA p W).2) (cB (Ha (T O)) ?_);refine zv hx.2 λw5 G=>?_;have H:=O.trans G;refine co (v:=.bool (!x.2.may)) (λW=>by simp[go_sem]) ?_;cases s:x.2.may with
  |false=>
   rw[show(!false)=true from rfl,ci,if_pos rfl];exact no _ H (by rw[o,s];simp)
  |true=>
  rw[show(!true)=false from rfl,ci,if_neg Bool.false_ne_true];refine co (λW=>(kA p W).2) (co (λW=>xF 0 (by omega) p W) (cB (vl (T H)).1 ?_));rw[cr];refine co (λW=>rD v 4 (by omega) W) (cB (uZ (bV H) h1 h2).2.2.2.2 ?_);refine co (v:=.bool (decide (S.next<=x.2.num))) (λW=>by simp[go_sem]) ?_;refine⟨_,rfl,H,λh=>?_,λh=>hQ▸⟨_,g,by rw[hB,hdf,hki];rfl,s,?_⟩⟩
  ·have:=of_decide_eq_true h;rw[o,decide_eq_false (p:=x.2.num<S.next) (by omega)];simp
  ·have:=of_decide_eq_false h;omega
 rintro _ V ⟨D,rfl,mV,hbt,hbf⟩;unfold J8;intro _;cases D with
 |true=>
  rw[ci,if_pos rfl];rw[hbt rfl]at t;exact t _ (B.trans mV)
 |false=>
 rw[ci,if_neg Bool.false_ne_true,cr];obtain⟨k0,hk0,hstb,s,hnum⟩:∃k,ek S.cal.l x.1=some k/\S.led.stB x.2.acct=true/\x.2.may=true/\x.2.num<S.next:=hQ▸hbf rfl;cases j:Ck S.cal.l x.1 with
 |none=>rw[j]at f;simp only at f;rw[hk0]at f;cases f
 |some i=>
 rw[j]at f;obtain⟨E,g⟩:=f;have e:kT S.cal.l x.1=(i:Int):=by unfold kT;rw[j]
 rw[e];have L:(S.cal.l[i]).Fit:=hkf _ (List.getElem_mem E);obtain⟨k,hk⟩:∃k,k=S.cal.l[i]:=⟨_,rfl⟩
 rw[<-hk]at g L
 have Y:S.stnd d [] x=(decide (k.st≠3)&& (k.spec.isPrice x.2.price&& (!d||k.spec.isQty x.2.left))):=by
  have e1:(fD S.cal.l x.1).1=k:=by unfold fD;rw[g]
  have e2:decide (dg S.cal.l x.1=0)=decide (k.st≠3):=by
   unfold dg;rw[g];by_cases R:k.st=3<;>simp[R]
  rw[o,e1,e2,hstb,s,decide_eq_true hnum];simp
 rw[Y]at t;obtain⟨sl,fl,-,ls,hR,-,ln⟩:=(hC.md0 (B.trans mV)).ld;refine ck (rD v 0 (by omega) _) (ck (uZ (bV mV) h1 h2).1 ?_);rw[cr];obtain⟨b,off,cap,hse,hcap,Z⟩:=hR.item cX E rfl;rw[<-hk]at Z;refine ck (fl 1 (by omega) _) (ck ls (ck (v:=.pointer (some ⟨b,off+i*27,none⟩)) (w' :=V) (by rw[hse];simp[go_sem,E,cE,Bl]) ?_));refine eK (dU k) 26 C4 zY (cX k) Z ?_;refine nL _ λw5 U G=>?_;obtain⟨r,hr0⟩:∃r,r=V.heap.size:=⟨_,rfl⟩
 rw[<-hr0]at U|-;refine zp (k' :=k) U λN M m6=>?_;have M6' :cl (λ_=>False) V N:=G.on m6 λy hy=>.inr (by omega);have M6:=mV.trans M6';refine ck (lJ r N).2.1 (ck (qj M) ?_);refine ck (v:=.bool (decide (k.st≠3))) (w' :=N) (by by_cases R:k.st=3<;>simp[go_sem,R]) ?_;by_cases R:k.st=3
 ·rw[decide_eq_false (by simpa using R)]at t|-;rw[ci,if_neg Bool.false_ne_true];exact t _ (B.trans M6)
 rw[decide_eq_true R]at t|-;rw[ci,if_pos rfl];rw[Bool.true_and]at t;refine ck (lJ r N).1 (eK (dl k.spec) 24 ve ry (cJ _) (lw (At.all M)) ?_);refine ck (kA p N).2 (ck (xF 3 (by omega) p _) (ck (Fp (T M6)).1 ?_));refine ox L.1 λw7 m7=>?_;have M7:=M6.trans m7;have b7:tR w7 r k:=m7.hpk M id;cases hpr:k.spec.isPrice x.2.price with
 |false=>
  rw[hpr]at t;rw[ci,if_neg Bool.false_ne_true];exact t _ (B.trans M7)
 |true=>
 rw[hpr,Bool.true_and]at t;rw[ci,if_pos rfl];refine ck (v:=.bool (!d)) (w' :=w7) (by simp[go_sem]) ?_;cases d with
 |false=>
  rw[show(!false)=true from rfl,ci,if_pos rfl];exact t _ (B.trans M7)
 |true=>
 rw[show(!true)=false from rfl,ci,if_neg Bool.false_ne_true];refine ck (lJ r w7).1 (eK (dl k.spec) 24 ve ry (cJ _) (lw (At.all b7)) ?_);refine ck (kA p w7).2 (ck (xF 4 (by omega) p _) (ck (Fp (T M7)).2 ?_));refine CW L.1 λw8 m8=>?_;exact t _ (B.trans (M7.trans m8))
end
structure Eh(w:World)(b:Nat)(d nx fu:Int)(ss:Nat->Value)(O Bd:List (Int×Od))(lo:Nat):Prop where
 at_:cR w b d nx fu ss
 sl:∀i,3<=i->i<=7->∃a n c,ss i=.slice a n c
 o:d7 w 119 6 (ss 6) O.length (O.flatMap dB)
 bd:d7 w 119 6 (ss 7) Bd.length (Bd.flatMap dB)
 dj:∀y,cv (ss 6) y->¬cv (ss 7) y
 nw:∀y,cv (ss 6) y\/cv (ss 7) y->lo<=y/\y≠b
 lb:lo<=b
section
variable{w w' :World}{b lo:Nat}{d nx fu:Int}{ss:Nat->Value}{O Bd:List (Int×Od)}{K:World->Prop}
def Eh.md0(h:Eh w b d nx fu ss O Bd lo)(m:cl (λ_=>False) w w'):Eh w' b d nx fu ss O Bd lo:=
 ⟨m.hpk h.at_ id,h.sl,h.o.mod m λ_ _ h=>h,h.bd.mod m λ_ _ h=>h,h.dj,h.nw,h.lb⟩
set_option maxRecDepth 10000 in
def LX(h:Eh w b d nx fu ss O Bd lo){x:Int×Od}(hn:O.length<=1000000)(hlo:lo<=w.heap.size)
  (hK:∀k w',Eh w' b d nx fu k (O++[x]) Bd lo->(∀j,j≠6->k j=ss j)->cl (λy=>y=b\/cv (ss 6) y) w w' ->(∀y,cv (k 6) y->cv (ss 6) y\/w.heap.size<=y)->K w'):
  rx Tryz.prog (dQ 47 1 [(0,.agg (dB x).toArray)]) w λv s=>Sem.run Tryz.prog (Instr.loadAt 47 (.pointer (some ⟨b,6,none⟩))) s=.ok (ss 6) s/\(rx Tryz.prog (cx #[47,47] 47 [ss 6,v]) s λv2 V=>sm Tryz.prog (Instr.fieldAt kJ (pt b) 6) λY=>ru Tryz.prog (Instr.storeAt 47 Y v2) V K):=by
 refine fE [.agg (dB x).toArray] nj (cK (show eO Tryz.prog 119 6 40=true by kernel_rfl)) rfl rfl (by intro v hv;rw[List.mem_singleton.1 hv];rfl) (by omega) ?_;have X:(([.agg (dB x).toArray]:List Value).flatMap (·.cells.toList)).toArray=(dB x).toArray:=rfl;rw[X];have r:cl (λ_=>False) w (w.alloc (.cells (dB x).toArray 119)):=(cl.refl _ w).alloc _
 have R:Rd (w.alloc (.cells (dB x).toArray 119)) 6 (.slice (some ⟨w.heap.size,0,none⟩) 1 1) 1 (dB x):=
  ⟨rfl,.inr ⟨_,0,1,rfl,Nat.le_refl _,At.all (cN (by rw[cU,if_pos rfl]))⟩⟩
 have I:(w.alloc (.cells (dB x).toArray 119)).heap.size=w.heap.size+1:=World.size_alloc ..;have A:=r.hpk h.at_ id;refine⟨dR A h.sl 6 (by omega) (by omega),?_⟩;have T:d7 (w.alloc (.cells (dB x).toArray 119)) 119 6 (ss 6) O.length (O.flatMap dB):=h.o.mod r λ_ _ h=>h;have J:d7 (w.alloc (.cells (dB x).toArray 119)) 119 6 (ss 7) Bd.length (Bd.flatMap dB):=h.bd.mod r λ_ _ h=>h;generalize w.alloc (.cells (dB x).toArray 119)=s at r R I A T J|-;refine dz (n:=O.length) (m:=1) nj nj (cK (show eO Tryz.prog 119 6 40=true by kernel_rfl)) T R rfl (by omega) λg V U L z=>?_;refine co (λW=>dZ b 6 (by omega) W) ?_;have M:¬cv (ss 6) b:=λN=>(h.nw b (.inl N)).2 rfl;have b2:=L.hpk A M;obtain⟨a,c,o,-⟩:=U.isSl;obtain⟨H,e3,Z,E⟩:=pE b2 h.sl 6 (by omega) (by omega) (s' :=g) ⟨_,_,_,o⟩;refine dt e3 ?_;have u:O.flatMap dB++dB x=(O++[x]).flatMap dB:=by simp
 have C:(O++[x]).length=O.length+1:=by simp
 have i:∀y,cv g y->lo<=y/\y≠b:=λy f=>by
  rcases z y f with p|p
  ·exact h.nw y (.inl p)
  ·have:=cn h.at_;exact⟨by omega,by omega⟩
 have Q:=h.lb;refine hK (dq ss 6 g) H ⟨Z,lZ h.sl 6 ⟨_,_,_,o⟩,?_,?_,λy t q=>?_,λy f=>?_,Q⟩ (λj hj=>if_neg hj) ?_ λy f=>?_
 ·show d7 H _ 6 (dq ss 6 g 6) _ _;rw[show dq ss 6 g 6=g from if_pos rfl,C,<-u];exact U.mod E λy f e=>(i y f).2 e
 ·show d7 H _ 6 (dq ss 6 g 7) _ _;rw[show dq ss 6 g 7=ss 7 from if_neg (by decide)];exact(J.mod L λy f N=>h.dj y N f).mod E λy f e=>(h.nw y (.inr f)).2 e
 ·have t:cv (dq ss 6 g 6) y:=t;have q:cv (dq ss 6 g 7) y:=q;simp only[dq,if_pos,if_neg,show¬(7=6)from by decide,show¬(6=7)from by decide,if_true,if_false]at t q;rcases z y t with p|p
  ·exact h.dj y p q
  ·have:=J.lt q;omega
 ·simp only[dq,if_pos,if_neg,show¬(7=6)from by decide,show¬(6=7)from by decide,if_true,if_false]at f;rcases f with f|f
  ·exact i y f
  ·exact h.nw y (.inr f)
 ·exact(r.mono λ_ _ h=>h.elim).trans ((L.mono λy _ f=>.inr f).trans (E.mono λy _ f=>.inl f))
 ·have f:cv (dq ss 6 g 6) y:=f;rw[show dq ss 6 g 6=g from if_pos rfl]at f;exact(z y f).imp id λh=>by omega
set_option maxRecDepth 10000 in
def MH(h:Eh w b d nx fu ss O Bd lo){x:Int×Od}(hn:Bd.length<=1000000)(hlo:lo<=w.heap.size)
  (hK:∀k w',Eh w' b d nx fu k O (Bd++[x]) lo->(∀j,j≠7->k j=ss j)->cl (λy=>y=b\/cv (ss 7) y) w w' ->(∀y,cv (k 7) y->cv (ss 7) y\/w.heap.size<=y)->K w'):
  rx Tryz.prog (dQ 47 1 [(0,.agg (dB x).toArray)]) w λv s=>Sem.run Tryz.prog (Instr.loadAt 47 (.pointer (some ⟨b,7,none⟩))) s=.ok (ss 7) s/\(rx Tryz.prog (cx #[47,47] 47 [ss 7,v]) s λv2 V=>sm Tryz.prog (Instr.fieldAt kJ (pt b) 7) λY=>ru Tryz.prog (Instr.storeAt 47 Y v2) V K):=by
 refine fE [.agg (dB x).toArray] nj (cK (show eO Tryz.prog 119 6 40=true by kernel_rfl)) rfl rfl (by intro v hv;rw[List.mem_singleton.1 hv];rfl) (by omega) ?_;have X:(([.agg (dB x).toArray]:List Value).flatMap (·.cells.toList)).toArray=(dB x).toArray:=rfl;rw[X];have q:cl (λ_=>False) w (w.alloc (.cells (dB x).toArray 119)):=(cl.refl _ w).alloc _
 have R:Rd (w.alloc (.cells (dB x).toArray 119)) 6 (.slice (some ⟨w.heap.size,0,none⟩) 1 1) 1 (dB x):=
  ⟨rfl,.inr ⟨_,0,1,rfl,Nat.le_refl _,At.all (cN (by rw[cU,if_pos rfl]))⟩⟩
 have I:(w.alloc (.cells (dB x).toArray 119)).heap.size=w.heap.size+1:=World.size_alloc ..;have A:=q.hpk h.at_ id;refine⟨dR A h.sl 7 (by omega) (by omega),?_⟩;have T:d7 (w.alloc (.cells (dB x).toArray 119)) 119 6 (ss 7) Bd.length (Bd.flatMap dB):=h.bd.mod q λ_ _ h=>h;have J:d7 (w.alloc (.cells (dB x).toArray 119)) 119 6 (ss 6) O.length (O.flatMap dB):=h.o.mod q λ_ _ h=>h;generalize w.alloc (.cells (dB x).toArray 119)=s at q R I A T J|-;refine dz (n:=Bd.length) (m:=1) nj nj (cK (show eO Tryz.prog 119 6 40=true by kernel_rfl)) T R rfl (by omega) λg V U L z=>?_;refine co (λW=>dZ b 7 (by omega) W) ?_;have M:¬cv (ss 7) b:=λN=>(h.nw b (.inr N)).2 rfl;have b2:=L.hpk A M;obtain⟨a,c,o,-⟩:=U.isSl;obtain⟨H,e3,Z,E⟩:=pE b2 h.sl 7 (by omega) (by omega) (s' :=g) ⟨_,_,_,o⟩;refine dt e3 ?_;have u:Bd.flatMap dB++dB x=(Bd++[x]).flatMap dB:=by simp
 have C:(Bd++[x]).length=Bd.length+1:=by simp
 have i:∀y,cv g y->lo<=y/\y≠b:=λy f=>by
  rcases z y f with p|p
  ·exact h.nw y (.inr p)
  ·have:=cn h.at_;exact⟨by omega,by omega⟩
 have Q:=h.lb;refine hK (dq ss 7 g) H ⟨Z,lZ h.sl 7 ⟨_,_,_,o⟩,?_,?_,λy r t=>?_,λy f=>?_,Q⟩ (λj hj=>if_neg hj) ?_ λy f=>?_
 ·show d7 H _ 6 (dq ss 7 g 6) _ _;rw[show dq ss 7 g 6=ss 6 from if_neg (by decide)];exact(J.mod L λy f N=>h.dj y f N).mod E λy f e=>(h.nw y (.inl f)).2 e
 ·show d7 H _ 6 (dq ss 7 g 7) _ _;rw[show dq ss 7 g 7=g from if_pos rfl,C,<-u];exact U.mod E λy f e=>(i y f).2 e
 ·have r:cv (dq ss 7 g 6) y:=r;have t:cv (dq ss 7 g 7) y:=t;simp only[dq,if_pos,if_neg,show¬(7=6)from by decide,show¬(6=7)from by decide,if_true,if_false]at r t;rcases z y t with p|p
  ·exact h.dj y r p
  ·have:=J.lt r;omega
 ·simp only[dq,if_pos,if_neg,show¬(7=6)from by decide,show¬(6=7)from by decide,if_true,if_false]at f;rcases f with f|f
  ·exact h.nw y (.inl f)
  ·exact i y f
 ·exact(q.mono λ_ _ h=>h.elim).trans ((L.mono λy _ f=>.inr f).trans (E.mono λy _ f=>.inl f))
 ·have f:cv (dq ss 7 g 7) y:=f;rw[show dq ss 7 g 7=g from if_pos rfl]at f;exact(z y f).imp id λh=>by omega
end
def pm(p:Nat)(buy:Bool):Nat:=if buy then p - 2 else p - 1
structure pi(w:World)(v c l:Nat)(sB sD:Value)(F F' :Nat->Prop)(S:dx)(P:List Nat)(B:Nat->Bool->List Od)(D:Nat->List Od)(dS:Nat->Value)(G:Nat->Prop):Prop where
 vn:AS w v c l sB sD S.next
 cal:pO w c F S.cal.day S.cal.l
 led:Aa w l F' S.led
 len:P.length=S.cal.l.length
 bks:Rd w 1 sB P.length (P.flatMap λp=>[pt p])
 bds:Rd w 1 sD P.length ((List.range P.length).flatMap λi=>[dS i])
 bk:∀i (h:i<P.length),hp w P[i]=some (.cells #[pt (pm P[i] true),pt (pm P[i] false)] zu (0,0))
 sd:∀i (h:i<P.length) b,BM w (pm P[i] b) b (B i b) G
 bd:∀i,i<P.length->Rd w 5 (dS i) (D i).length ((D i).flatMap da)
section
variable{w w' :World}{v c l:Nat}{sB sD:Value}{F F' G:Nat->Prop}{S:dx}{P:List Nat}{B:Nat->Bool->List Od}{D:Nat->List Od}{dS:Nat->Value}{K:cm}
def pi.md0(h:pi w v c l sB sD F F' S P B D dS G)(m:cl (λ_=>False) w w'):pi w' v c l sB sD F F' S P B D dS G:=
 ⟨m.hpk h.vn id,h.cal.md0 m,h.led.modF m,h.len,h.bks.mod m λ_ _ h=>h,h.bds.mod m λ_ _ h=>h,λi a=>m.hpk (h.bk i a) id,λi a b=>(h.sd i a b).md0 m,λi a=>(h.bd i a).mod m λ_ _ h=>h⟩
def JQ:Tryz.prog.underlying 163=some (.slice 169):=by kernel_rfl
def HH:Tryz.prog.underlying 164=some (.slice gO):=by kernel_rfl
def pi.book(h:pi w v c l sB sD F F' S P B D dS G){i:Nat}(hi:i<P.length):∃b a,(∀V,(Instr.indexAt 163 sB (.int .i64 (i:Int))).run Tryz.prog V=.ok (.pointer (some ⟨b,a,none⟩)) V)/\(Instr.loadAt 169 (.pointer (some ⟨b,a,none⟩))).run Tryz.prog w=.ok (pt P[i]) w:=by
 obtain⟨b,a,n,g,k,o⟩:=h.bks.item (f:=λp=>[pt p]) (λ_=>rfl) hi rfl;obtain⟨C,e,q,h1,m⟩:=o.get;have j:=m 0 _ rfl;rw[Nat.add_zero,Nat.mul_one]at j;exact⟨b,a+i,λV=>by rw[g];simp[go_sem,hi,cE,JQ],by simp[go_sem,h1,j]⟩
def pi.bids(h:pi w v c l sB sD F F' S P B D dS G){i:Nat}(hi:i<P.length):∃b a,(∀V,(Instr.indexAt 164 sD (.int .i64 (i:Int))).run Tryz.prog V=.ok (.pointer (some ⟨b,a,none⟩)) V)/\(Instr.loadAt gO (.pointer (some ⟨b,a,none⟩))).run Tryz.prog w=.ok (dS i) w:=by
 have q:i<(List.range P.length).length:=by rw[List.length_range];exact hi
 obtain⟨b,a,n,j,k,p⟩:=h.bds.item (f:=λi=>[dS i]) (λ_=>rfl) q (by rw[List.length_range]);obtain⟨C,e,s,h1,m⟩:=p.get;have g:=m 0 _ rfl;rw[Nat.add_zero,List.getElem_range,Nat.mul_one]at g;obtain⟨u,x,o⟩:=gG (h.bd i hi);obtain⟨t,r⟩:=o;refine⟨b,a+i,λV=>by rw[j];simp[go_sem,hi,cE,HH],?_⟩;rw[r]at g|-;simp[go_sem,h1,g]
def jX(L:List Ct)(i:Nat):Int:=((L.map (·.spec.num)).getD i 0)
def ue(L:List Ct)(B:Nat->Bool->List Od)(k:Nat):List (Int×Od):=(List.range k).flatMap λi=>(gZ true (B i true)++gZ false (B i false)).map λo=>(jX L i,o)
def vq(L:List Ct)(D:Nat->List Od)(k:Nat):List (Int×Od):=(List.range k).flatMap λi=>(D i).map λo=>(jX L i,o)
def pB{α:Type}{f:Nat->List α}{k:Nat}:(List.range (k+1)).flatMap f=(List.range k).flatMap f++f k:=by rw[List.range_succ,List.flatMap_append];simp
def R1(S:dx)(B:Nat->Bool->List Od)(D:Nat->List Od):iN:=⟨S.cal.day,S.next,S.led.fund,S.led.all,S.cal.l,S.led.held,ue S.cal.l B S.cal.l.length,vq S.cal.l D S.cal.l.length⟩
set_option maxRecDepth 10000 in
set_option maxHeartbeats 4000000 in
def Dg(h:pi w v c l sB sD F F' S P B D dS G)(hl:S.cal.l.length<=16)(hB:∀i b,i<P.length->(B i b).length<=100)(hD:∀i,i<P.length->(D i).length<=50)
  (hK:∀w' ss,eW w' ss (R1 S B D)->cl (λ_=>False) w w' ->K (pU S.cal.day S.next S.led.fund ss) w'):Ca Tryz.prog 90 #[pt v] w K:=by
 have hsB:=gG h.bks;have hsD:=gG h.bds;have hlen:=h.len;apply Rm;unfold pt;obtain⟨w1,e1,b1,m1⟩:=kD w;obtain⟨z,hz⟩:∃z,z=w.heap.size:=⟨_,rfl⟩
 rw[<-hz]at e1 b1;refine ck e1 ?_;have md:=m1.drew;have b2:cR w1.drew z 0 0 0 (ij cG):=((cl.refl (λ_=>False) w1).drew).hpk b1 id;generalize w1.drew=u at md b2|-;have H:=h.md0 md;obtain⟨sc,fC,lC0,lC1,rC,-,lnC⟩:=H.cal.ld;obtain⟨⟨sA,sH,bL,rA,rH,-,-⟩,-,-⟩:=id H.led;obtain⟨a1,a2,eA⟩:=rA.isSl;obtain⟨c1,c2,eH⟩:=rH.isSl
 have fL:∀i,i<3->∀W,(Instr.fieldAt 269 (pt l) i).run Tryz.prog W=.ok (.pointer (some ⟨l,i,none⟩)) W:=λi hi W=>by
  rcases(show i=0\/i=1\/i=2 by omega)with rfl|rfl|rfl<;>simp[go_sem]
 have lL:∀{W:World},cl (λ_=>False) u W->(Instr.loadAt 2 (.pointer (some ⟨l,0,none⟩))).run Tryz.prog W=.ok (.int .i64 S.led.fund) W/\(Instr.loadAt 44 (.pointer (some ⟨l,1,none⟩))).run Tryz.prog W=.ok sA W/\(Instr.loadAt 46 (.pointer (some ⟨l,2,none⟩))).run Tryz.prog W=.ok sH W:=λm=>by
  have:=m.hpk bL id;rw[eA,eH]at this|-;exact⟨by simp[go_sem,this],by simp[go_sem,this],by simp[go_sem,this]⟩
 have lC:∀{W:World},cl (λ_=>False) u W->(Instr.loadAt 35 (.pointer (some ⟨c,0,none⟩))).run Tryz.prog W=.ok (.int .u32 S.cal.day) W/\(Instr.loadAt 45 (.pointer (some ⟨c,1,none⟩))).run Tryz.prog W=.ok sc W:=λm=>by
  obtain⟨⟨sl,g1,g2,g3⟩,-,-⟩:=id H.cal;obtain⟨sx,-,k0,k1,-,-,-⟩:=(H.cal.md0 m).ld
  have e:sl=sc:=by
   obtain⟨p1,p2,pe⟩:=g2.isSl;have:(Instr.loadAt 45 (.pointer (some ⟨c,1,none⟩))).run Tryz.prog u=.ok sl u:=by rw[pe]at g1|-;simp[go_sem,g1]
   rw[lC1]at this;cases this;rfl
  subst e;have g1' :=m.hpk g1 id;obtain⟨p1,p2,pe⟩:=g2.isSl;rw[pe]at g1' |-;exact⟨by simp[go_sem,g1'],by simp[go_sem,g1']⟩
 have C:∀{W:World},cl (λ_=>False) u W->_:=λ{W} m=>uZ (m.hpk H.vn id) hsB hsD;have M:=cl.refl (λ_=>False) u;simp only[cr];refine co (λW=>rD v 0 (by omega) W) (cB (C M).1 (co (λW=>fC 0 (by omega) W) (cB (lC M).1 ?_)));refine co (λW=>rD v 4 (by omega) W) (cB (C M).2.2.2.2 ?_);refine co (λW=>rD v 1 (by omega) W) (cB (C M).2.1 (co (λW=>fL 0 (by omega) W) (cB (lL M).1 ?_)));refine co (λW=>rD v 1 (by omega) W) (cB (C M).2.1 (co (λW=>fL 1 (by omega) W) (cB (lL M).2.1 ?_)));refine co (λW=>rD v 0 (by omega) W) (cB (C M).1 (co (λW=>fC 1 (by omega) W) (cB (lC M).2 ?_)));refine co (λW=>rD v 1 (by omega) W) (cB (C M).2.1 (co (λW=>fL 2 (by omega) W) (cB (lL M).2.2 ?_)));obtain⟨E,L⟩:∃E:Nat->Value,E=λi=>if i=3 then sA else if i=4 then sc else if i=5 then sH else cG:=⟨_,rfl⟩
 have hq3:E 3=sA:=by rw[L];rfl
 have hq4:E 4=sc:=by rw[L];rfl
 have hq5:E 5=sH:=by rw[L];rfl
 have N:E 6=cG:=by rw[L];rfl
 have U:E 7=cG:=by rw[L];rfl
 obtain⟨d1,d2,eC⟩:=rC.isSl
 have slQ:∀i,3<=i->i<=7->∃a n c,E i=.slice a n c:=λi h1 H=>by
  rcases(show i=3\/i=4\/i=5\/i=6\/i=7 by omega)with rfl|rfl|rfl|rfl|rfl
  ·rw[hq3,eA];exact⟨_,_,_,rfl⟩
  ·rw[hq4,eC];exact⟨_,_,_,rfl⟩
  ·rw[hq5,eH];exact⟨_,_,_,rfl⟩
  ·rw[N];exact⟨_,_,_,rfl⟩
  ·rw[U];exact⟨_,_,_,rfl⟩
 refine co (v:=pU S.cal.day S.next S.led.fund E) (λW=>by rw[eA,eC,eH];simp[go_sem,pU,nv,hq3,hq4,hq5,N,U,eA,eC,eH,cG]) ?_;obtain⟨w3,e3,b3,J⟩:=kD u;obtain⟨q,hq⟩:∃q,q=u.heap.size:=⟨_,rfl⟩
 rw[<-hq]at e3 b3;refine ck e3 ⟨(lL J).2.2,(C J).2.1,(lC J).2,(C J).1,(lL J).2.1,(C J).2.1,(lL J).1,(C J).2.1,(C J).2.2.2.2,(lC J).1,(C J).1,?_⟩;obtain⟨w4,e4,b4,m4⟩:=th (d:=S.cal.day) (n:=S.next) (f:=S.led.fund) (ss:=E) b3 rfl slQ;refine dt e4 ?_;have M4:cl (λ_=>False) u w4:=J.on m4 λy p=>.inr (by omega);have hz2:=cn b2;have w0z:=md.size;have st4:Eh w4 q S.cal.day S.next S.led.fund E [] [] u.heap.size:=⟨b4,slQ,by rw[N];exact d7.nil _ _ _,by rw[U];exact d7.nil _ _ _,λy h6=>(by rw[N]at h6;cases h6),λy p=>(by rw[N,U]at p;rcases p with p|p<;>cases p),by omega⟩
 refine dp (λst W=>∃(i:Nat) (ss:Nat->Value),i<=P.length/\st=(.int .i64 i,())/\Eh W q S.cal.day S.next S.led.fund ss (ue S.cal.l B i) (vq S.cal.l D i) u.heap.size/\(∀j,j≠6->j≠7->ss j=E j)/\cl (λ_=>False) u W)
  (λst _=>match st.1 with| .int _ i=>P.length - i.toNat|_=>0) ⟨0,E,by omega,rfl,st4,λ_ _ _=>rfl,M4⟩ ?_
 rintro _ W ⟨i,ss,hi,rfl,t,R,Q⟩ KN hKN
 have olen:(ue S.cal.l B i).length<=3200/\(vq S.cal.l D i).length<=800:=by
  constructor
  ·have:=gP (k:=200) (l:=List.range i) (f:=λi=>(gZ true (B i true)++gZ false (B i false)).map λo=>(jX S.cal.l i,o)) λx hx=>by
    have hxi:=List.mem_range.1 hx;rw[List.length_map,List.length_append,iU,iU];have h1:=hB x true (by omega);have H:=hB x false (by omega);omega
   rw[List.length_range]at this;unfold ue;omega
  ·have:=gP (k:=50) (l:=List.range i) (f:=λi=>(D i).map λo=>(jX S.cal.l i,o)) λx hx=>by
    have hxi:=List.mem_range.1 hx;rw[List.length_map];exact hD x (by omega)
   rw[List.length_range]at this;unfold vq;omega
 unfold LD;intro _
 have lnB:∀W,(builtin .len #[163] 3 #[false] #[sB]).run Tryz.prog W=.ok (.value (.int .i64 (P.length:Int))) W:=λW=>by
  obtain⟨x1,x2,ex⟩:=h.bks.isSl;rw[ex];simp[go_sem]
 simp only[cr];refine ck (rD v 2 (by omega) _) (ck (C Q).2.2.1 (fI (lnB _) ?_));by_cases r:i<P.length
 ·have hlt' :(i:Int)<(P.length:Int):=by omega
  refine ck (v:=.bool true) (by simp[go_sem,hlt']<;>first|exact⟨rfl,rfl⟩|exact rfl) ?_;rw[ci,if_pos rfl];have hiL:i<S.cal.l.length:=by omega
  have hnum:jX S.cal.l i=S.cal.l[i].spec.num:=by unfold jX;simp[List.getD,hiL]
  have hRW:=rC.mod Q λ_ _ h=>h;obtain⟨b,off,cap,hse,hcap,hA⟩:=hRW.item cX hiL rfl;refine ck (rD v 0 (by omega) _) (ck (C Q).1 (ck (fC 1 (by omega) _) (ck (lC Q).2 ?_)));refine ck (v:=.pointer (some ⟨b,off+i*27,none⟩)) (w' :=W) (by rw[hse];simp[go_sem,hiL,cE,Bl]) ?_;refine ck (v:=.pointer (some ⟨b,off+i*27,none⟩)) (w' :=W) (by simp[go_sem,cE]) (ck (v:=.pointer (some ⟨b,off+i*27,none⟩)) (w' :=W) (by simp[go_sem,cE]) (ck (Bz hA) ?_));rw[<-hnum];have hW:=H.md0 Q;obtain⟨b',o',ib,lb⟩:=hW.book r;refine ck (rD v 2 (by omega) _) (ck (C Q).2.2.1 (ck (ib W) (ck lb ?_)));have hBt:=hB i true r;have hBf:=hB i false r;refine zF (hW.bk i r) (hW.sd i r true) (hW.sd i r false) ⟨by omega,by omega⟩ λs5 w5 o5 m5 n5=>?_;obtain⟨X,hX⟩:∃X,X=gZ true (B i true)++gZ false (B i false):=⟨_,rfl⟩
  rw[<-hX]at o5;have hXl:X.length<=200:=by rw[hX,List.length_append,iU,iU];omega
  have M5:=Q.trans m5;have hm5:=m5.size
  refine dp (λst V=>∃(k:Nat) (ss:Nat->Value),k<=X.length/\st=(.int .i64 k,())/\Eh V q S.cal.day S.next S.led.fund ss (ue S.cal.l B i++(X.take k).map λo=>(jX S.cal.l i,o)) (vq S.cal.l D i) u.heap.size/\(∀j,j≠6->j≠7->ss j=E j)/\kV V s5 X/\(∀y,cv s5 y->¬(cv (ss 6) y\/cv (ss 7) y\/y=q))/\cl (λ_=>False) u V)
   (λst _=>match st.1 with| .int _ k=>X.length - k.toNat|_=>0) ⟨0,ss,by omega,rfl,by simpa using t.md0 m5,R,o5,λy p A=>?_,M5⟩ ?_
  ·have h1:=n5 y p;rcases A with A|A|A
   ·have:=t.o.lt A;omega
   ·have:=t.bd.lt A;omega
   ·have:=cn t.at_;omega
  rintro _ V ⟨k,ss1,hk,rfl,I,hss1,oV,dV,mV⟩ KN1 hKN1;unfold Ly;intro _;refine fI (pM oV.rd _) ?_;by_cases hkl:k<X.length
  ·have hkl' :(k:Int)<(X.length:Int):=by omega
   refine ck (v:=.bool true) (by simp[go_sem,hkl']<;>first|exact⟨rfl,rfl⟩|exact rfl) ?_;rw[ci,if_pos rfl];have mE:=(cl.refl (λ_=>False) V).drew;have g:=I.md0 mE;have oE:=oV.mod mE λ_ _ h=>h;have s:=mV.trans mE;generalize V.drew=V1 at mE g oE s|-;refine co (λW=>dZ q 6 (by omega) W) (cB (dR g.at_ g.sl 6 (by omega) (by omega)) ?_);obtain⟨b6,o6,i6,A6⟩:=yn oE.rd hkl;refine co (λW=>i6 W _) (cB (gL A6) (co (λW=>Cd _ _ W) ?_));refine LX g (by rw[List.length_append,List.length_map,List.length_take];omega) s.size λss2 w7 st7 T m7 n7=>?_;refine ck (v:=.int .i64 ((k+1:Nat):Int)) (w' :=w7) (by simp[go_sem];rw[cS (by omega) (by omega)]) ?_;have hlo:=g.lb;refine hKN1 _ _ ⟨k+1,ss2,by omega,rfl,?_,λj h6 h7=>by rw[T j h6];exact hss1 j h6 h7,oE.mod m7 λy p A=>dV y p (A.elim (λh=>.inr (.inr h)) .inl),λy p A=>?_,s.on m7 λy p=>?_⟩ (by show X.length - (((k+1:Nat):Int)).toNat<X.length - ((k:Int)).toNat;omega)
   ·rw[cV hkl,List.map_append,<-List.append_assoc];exact st7
   ·have dE:=oE.lt p;rcases A with A|A|A
    ·rcases n7 y A with h' |h'
     ·exact dV y p (.inl h')
     ·omega
    ·rw[T 7 (by decide)]at A;exact dV y p (.inr (.inl A))
    ·exact dV y p (.inr (.inr A))
   ·rcases p with rfl|p
    ·exact .inr hlo
    ·exact .inr (g.nw y (.inl p)).1
  ·obtain rfl:k=X.length:=by omega
   refine ck (v:=.bool false) (by simp[go_sem]<;>first|exact⟨rfl,rfl⟩|exact rfl) ?_;rw[ci,if_neg Bool.false_ne_true];rw[List.take_length]at I;have ord1:ue S.cal.l B (i+1)=ue S.cal.l B i++X.map λo=>(jX S.cal.l i,o):=by rw[hX];exact pB
   rw[<-ord1]at I;have olen1:(ue S.cal.l B (i+1)).length<=3400:=by rw[ord1,List.length_append,List.length_map];omega
   have hDi:=hD i r
   refine dp (λst Y=>∃(k:Nat) (ss:Nat->Value),k<=(D i).length/\st=(.int .i64 k,())/\Eh Y q S.cal.day S.next S.led.fund ss (ue S.cal.l B (i+1)) (vq S.cal.l D i++((D i).take k).map λo=>(jX S.cal.l i,o)) u.heap.size/\(∀j,j≠6->j≠7->ss j=E j)/\cl (λ_=>False) u Y)
    (λst _=>match st.1 with| .int _ k=>(D i).length - k.toNat|_=>0) ⟨0,ss1,by omega,rfl,by simpa using I,hss1,mV⟩ ?_
   rintro _ Y ⟨k,ss3,hk3,rfl,Z,hss3,mY⟩ KN2 hKN2;unfold Kn;intro _;simp only[cr];obtain⟨b8,o8,i8,l8⟩:=(H.md0 mY).bids r;refine ck (rD v 3 (by omega) _) (ck (C mY).2.2.2.1 (ck (i8 Y) (ck l8 (fI (pM (h.bd i r) _) ?_))));by_cases hkd:k<(D i).length
   ·have hkd' :(k:Int)<((D i).length:Int):=by omega
    refine ck (v:=.bool true) (by simp[go_sem,hkd']<;>first|exact⟨rfl,rfl⟩|exact rfl) ?_;rw[ci,if_pos rfl];have mE:=(cl.refl (λ_=>False) Y).drew;have g:=Z.md0 mE;have s:=mY.trans mE;generalize Y.drew=V1 at mE g s|-;refine co (λW=>dZ q 7 (by omega) W) (cB (dR g.at_ g.sl 7 (by omega) (by omega)) ?_);obtain⟨b8,o8,i8,l8⟩:=(H.md0 s).bids r;refine co (λW=>rD v 3 (by omega) W) (cB (C s).2.2.2.1 (co (λW=>i8 W) (cB l8 ?_)));obtain⟨b6,o6,i6,A6⟩:=yn ((H.md0 s).bd i r) hkd;refine co (λW=>i6 W _) (cB (gL A6) (co (λW=>Cd _ _ W) ?_));refine MH g (by rw[List.length_append,List.length_map,List.length_take];omega) s.size λss2 w7 st7 T m7 n7=>?_;refine ck (v:=.int .i64 ((k+1:Nat):Int)) (w' :=w7) (by simp[go_sem];rw[cS (by omega) (by omega)]) ?_;have hlo:=g.lb;refine hKN2 _ _ ⟨k+1,ss2,by omega,rfl,?_,λj h6 h7=>by rw[T j h7];exact hss3 j h6 h7,s.on m7 λy p=>?_⟩ (by show(D i).length - (((k+1:Nat):Int)).toNat<(D i).length - ((k:Int)).toNat;omega)
    ·rw[cV hkd,List.map_append,<-List.append_assoc];exact st7
    ·rcases p with rfl|p
     ·exact .inr hlo
     ·exact .inr (g.nw y (.inr p)).1
   ·obtain rfl:k=(D i).length:=by omega
    refine ck (v:=.bool false) (by simp[go_sem]<;>first|exact⟨rfl,rfl⟩|exact rfl) ?_;rw[ci,if_neg Bool.false_ne_true];rw[List.take_length]at Z;have bid1:vq S.cal.l D (i+1)=vq S.cal.l D i++(D i).map λo=>(jX S.cal.l i,o):=pB;rw[<-bid1]at Z;refine ck (v:=.int .i64 ((i+1:Nat):Int)) (w' :=Y) (by simp[go_sem];rw[cS (by omega) (by omega)]) ?_;exact hKN _ _ ⟨i+1,ss3,by omega,rfl,Z,hss3,mY⟩ (by show P.length - (((i+1:Nat):Int)).toNat<P.length - ((i:Int)).toNat;omega)
 ·obtain rfl:i=P.length:=by omega
  refine ck (v:=.bool false) (by simp[go_sem]<;>first|exact⟨rfl,rfl⟩|exact rfl) ?_;rw[ci,if_neg Bool.false_ne_true];refine ck (mz t.at_) ?_;obtain⟨w8,e8,b8,m8⟩:=th (d:=S.cal.day) (n:=S.next) (f:=S.led.fund) (ss:=ss) (Q.hpk b2 id) rfl t.sl;refine dt e8 (cB (mz b8) ?_);have hlW:∀{sv:Value} {sz n:Nat} {cs:List Value},Rd w sz sv n cs->Rd w8 sz sv n cs:=λhr=>((hr.mod md λ_ _ h=>h).mod Q λ_ _ h=>h).mod m8 λy p e=>by have:=hr.lt p;omega
  obtain⟨⟨sA',sH',bL',rA',rH',-,-⟩,-,-⟩:=id h.led
  have eL:sA' =sA/\sH' =sH:=by
   have:=(md.hpk bL' id).symm.trans bL;simp only[Option.some.injEq,Obj.cells.injEq]at this;have h1:=congrArg (λa:Array Value=>a[1]?) this.1;have H:=congrArg (λa:Array Value=>a[2]?) this.1;simp at h1 H;exact⟨h1,H⟩
  obtain⟨rfl,rfl⟩:=eL;obtain⟨⟨sc',bC',rC',-⟩,-,-⟩:=id h.cal;obtain⟨⟨sc2,bC2,rC2,-⟩,-,-⟩:=id H.cal
  have eC1:sc' =sc2:=by
   have:=(md.hpk bC' id).symm.trans bC2;simp only[Option.some.injEq,Obj.cells.injEq]at this;have h1:=congrArg (λa:Array Value=>a[1]?) this.1;simpa using h1
  have eC2:sc2=sc:=by
   obtain⟨p1,p2,pe⟩:=rC2.isSl;have:(Instr.loadAt 45 (.pointer (some ⟨c,1,none⟩))).run Tryz.prog u=.ok sc2 u:=by rw[pe]at bC2|-;simp[go_sem,bC2]
   rw[lC1]at this;cases this;rfl
  rw[eC1,eC2]at rC';refine hK w8 ss (λj h3 h7=>?_) ((md.trans Q).on m8 λy p=>.inr (by omega));rcases(show j=3\/j=4\/j=5\/j=6\/j=7 by omega)with rfl|rfl|rfl|rfl|rfl
  ·rw[R 3 (by decide) (by decide),hq3];exact hlW rA'
  ·rw[R 4 (by decide) (by decide),hq4];exact hlW rC'
  ·rw[R 5 (by decide) (by decide),hq5];exact hlW rH'
  ·have:=(t.o.mod m8 λy p e=>by have:=(t.nw y (.inl p)).1;omega).rd;rw[hlen]at this;exact this
  ·have:=(t.bd.mod m8 λy p e=>by have:=(t.nw y (.inr p)).1;omega).rd;rw[hlen]at this;exact this
end
end Go.Proofs
