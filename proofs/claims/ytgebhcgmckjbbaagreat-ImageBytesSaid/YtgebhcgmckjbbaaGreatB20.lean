/- Part of a proof. -/
import Derived.Laws.BitsAllLaws
import Derived.Laws.DeepNot64
import Derived.Test.YtgebhcgmckjbbaaGreatB19
set_option linter.all false
namespace Go.Proofs
open Go Go.Vc
attribute [local congr] cr
def jE{n lo hi:Int}{w:World}{K:cm}(a:K (.bool (cy n lo hi)) w):Ca Tryz.prog 238 #[.int .i64 n,.int .i64 lo,.int .i64 hi] w K:=by
 apply MO;unfold cy at a;by_cases h:lo<=n
 ·simp[go_sem,h]at a|-;exact a
 ·simp[go_sem,h]at a|-;exact a
def tB{n t:Int}(e:0<t)(b:0<=n):0<=n.tdiv t/\n.tdiv t*t<=n/\n.tdiv t<=n/\(n.tdiv t*t=n↔n.tmod t=0):=by
 have h1:=Int.mul_tdiv_add_tmod n t;have c:n.tmod t=n%t:=Int.tmod_eq_emod_of_nonneg b;have f:=Int.emod_nonneg n (show t≠0 by omega);have a:0<=n.tdiv t:=Int.tdiv_nonneg b (by omega);rw[Int.mul_comm t]at h1;have d:n.tdiv t*1<=n.tdiv t*t:=Int.mul_le_mul_of_nonneg_left (by omega) a;exact⟨a,by omega,by omega,by constructor<;>intro h<;>omega⟩
def vO{tick n:Int}{w:World}{K:cm}(k:0<tick)(b:K (.bool (mg tick n)) w):Ca Tryz.prog 239 #[.int .i64 tick,.int .i64 n] w K:=by
 apply Oi;unfold mg cy MP at b;have g:¬tick=0:=by omega
 by_cases h1:1<=n
 ·refine ck (v:=.bool true) (by simp[go_sem,h1]<;>first|exact⟨rfl,rfl⟩|exact rfl) ?_;rw[ci,if_pos rfl];by_cases e:n<=10000000
  ·refine ck (v:=.bool true) (by simp[go_sem,e]<;>first|exact⟨rfl,rfl⟩|exact rfl) ?_;rw[ci,if_pos rfl];obtain⟨i,j,o,d⟩:=tB k (show 0<=n by omega);have c:decide (1<=n/\n<=10000000)=true:=by simpa using⟨h1,e⟩
   rw[c,Bool.true_and]at b;generalize l:n.tdiv tick=q at i j o d;refine ck (v:=.int .i64 q) (w' :=w) (by simp[go_sem,g,l];try rw[cV (by omega) (by omega)]) ?_;have f:0<=q*tick:=Int.mul_nonneg i (by omega);generalize p:q*tick=m at j d f;refine ck (v:=.int .i64 m) (w' :=w) (by simp[go_sem,p];rw[cV (by omega) (by omega)]) ?_
   refine ck (v:=.bool (decide (n.tmod tick=0))) (w' :=w) (by
    by_cases a:m=n
    ·simp[go_sem,a,d.1 a]
    ·have:¬n.tmod tick=0:=λh=>a (d.2 h);simp[go_sem,a,this]) ?_
   exact b
  ·refine ck (v:=.bool false) (by simp[go_sem,e]<;>first|exact⟨rfl,rfl⟩|exact rfl) ?_;rw[ci,if_neg Bool.false_ne_true];have c:decide (1<=n/\n<=10000000)=false:=by simp;omega
   rw[c,Bool.false_and]at b;exact b
 ·refine ck (v:=.bool false) (by simp[go_sem,h1]<;>first|exact⟨rfl,rfl⟩|exact rfl) ?_;rw[ci,if_neg Bool.false_ne_true];have c:decide (1<=n/\n<=10000000)=false:=by simp;omega
  rw[c,Bool.false_and]at b;exact b
def Sp.pre(s:Sp):Bool:=decide (s.num≠0)&& (cy s.route 1 8&& (cy s.tick 1 MP&& (cy s.lot 1 1000000&& (cy s.band 0 MP&& (cy s.limit 1 MP&& cy s.credit 0 MP)))))
def Sp.end_(s:Sp):Bool:=iy s.shifts.toList&& (s.shifts.toList.any (λx=>decide (0<x))&& (s.shifts.toList.any (λx=>decide (x<0))&& mg s.tick s.first))
def sR(s:Sp):s.may=(s.pre&& s.end_):=by
 unfold Sp.may Sp.pre Sp.end_;cases iy s.shifts.toList<;>cases s.shifts.toList.any (λx=>decide (0<x))<;>cases s.shifts.toList.any (λx=>decide (x<0))<;>simp[Bool.and_assoc]
def JL{l:List Int}{p:Int->Bool}:(0<((l.countP p:Nat):Int))↔l.any p=true:=by
 rw[List.any_eq_true];constructor
 ·intro h;have:0<l.countP p:=by omega
  exact List.countP_pos_iff.1 this
 ·intro h;have:=List.countP_pos_iff.2 h;omega
def x9{l:List Int}{p:Int->Bool}{i:Nat}(h:i<l.length):(l.take (i+1)).countP p=(l.take i).countP p+if p l[i]! =true then 1 else 0:=by
 rw[List.take_add_one,List.getElem?_eq_getElem h,List.countP_append];have:l[i]! =l[i]:=by simp[h]
 rw[this];simp[List.countP_cons]
set_option maxRecDepth 10000 in
def sZ{s:Sp}{w:World}{K:cm}(hf:s.Fit)(Y:∀f,cl (λ_=>False) w f->K (.bool s.may) f):Ca Tryz.prog 152 #[.agg (dl s).toArray] w K:=by
 apply NL;obtain⟨p,F⟩:∃p,p=w.heap.size:=⟨_,rfl⟩
 have H:cl (λ_=>False) w (w.alloc (.cells (dl s).toArray 38)):=(cl.refl _ w).alloc _;refine ck (v:=.pointer (some ⟨p,0,none⟩)) (w' :=w.alloc (.cells (dl s).toArray 38)) (by rw[F];rfl) ?_;have e:hp (w.alloc (.cells (dl s).toArray 38)) p=some (.cells (dl s).toArray 38 (0,0)):=by rw[F];simp[go_sem]
 generalize w.alloc (.cells (dl s).toArray 38)=q at H e|-;obtain⟨f1,f2,f3,f4,f5,f6,f7,f8,f9,f10⟩:=hf;have a:∀i:Nat,(dl s)[i]? =(dl s++[])[i]? :=λi=>by rw[List.append_nil]
 have g0:(dl s).toArray[0]? =some (.int .u32 s.num):=by rw[List.getElem?_toArray,a];exact Mj s []
 have J:(dl s).toArray[1]? =some (.int .u8 s.route):=by rw[List.getElem?_toArray,a];exact PU s []
 have I:(dl s).toArray[2]? =some (.int .i64 s.tick):=by rw[List.getElem?_toArray,a];exact Li s []
 have g3:(dl s).toArray[3]? =some (.int .i64 s.lot):=by rw[List.getElem?_toArray,a];exact Oe s []
 have g4:(dl s).toArray[4]? =some (.int .i64 s.band):=by rw[List.getElem?_toArray,a];exact Nu s []
 have g5:(dl s).toArray[5]? =some (.int .i64 s.limit):=by rw[List.getElem?_toArray,a];exact MN s []
 have G:(dl s).toArray[22]? =some (.int .i64 s.credit):=by rw[List.getElem?_toArray,a];exact GD s []
 have C:(dl s).toArray[24]? =some (.int .i64 s.first):=by rw[List.getElem?_toArray,a];exact Hc s []
 have hl:s.shifts.toList.length=16:=by simp
 have A:=sR s;obtain⟨P,V⟩:∃P,P=s.pre:=⟨_,rfl⟩
 rw[<-V]at A;refine cB.at (λst W=>st=(.bool (!P),())/\W=q) ?_ ?_
 ·have c:∀(b:Bool),b=(!s.pre)->((Value.bool b,()):Value×Unit)=(.bool (!P),())/\q=q:=λb h=>by rw[h,V];exact⟨rfl,rfl⟩
  unfold Sp.pre MP at c;refine ck (by simp[-Int.natCast_add,go_sem,e,g0]<;>first|exact⟨rfl,rfl⟩|exact rfl) ?_;refine ck (by simp[-Int.natCast_add,go_sem,e,g0]<;>first|exact⟨rfl,rfl⟩|exact rfl) ?_;by_cases L:s.num=0
  ·refine ck (v:=.bool true) (by simp[go_sem,L]<;>first|exact⟨rfl,rfl⟩|exact rfl) ?_;rw[ci,if_pos rfl];exact c _ (by simp[L])
  refine ck (v:=.bool false) (by simp[go_sem,L]<;>first|exact⟨rfl,rfl⟩|exact rfl) ?_;rw[ci,if_neg Bool.false_ne_true];have Q:decide (s.num≠0)=true:=by simpa using L
  rw[Q]at c;refine ck (by simp[-Int.natCast_add,go_sem,e,J]<;>first|exact⟨rfl,rfl⟩|exact rfl) ?_;refine ck (by simp[-Int.natCast_add,go_sem,e,J]<;>first|exact⟨rfl,rfl⟩|exact rfl) ?_;by_cases hr1:s.route<1
  ·refine ck (v:=.bool true) (w' :=q) (by simp[go_sem];omega) ?_;rw[ci,if_pos rfl];exact c true (by rw[show cy s.route 1 8=false from decide_eq_false (by omega)];rfl)
  refine ck (v:=.bool false) (w' :=q) (by simp[go_sem];omega) ?_;rw[ci,if_neg Bool.false_ne_true];refine ck (by simp[-Int.natCast_add,go_sem,e,J]<;>first|exact⟨rfl,rfl⟩|exact rfl) ?_;refine ck (by simp[-Int.natCast_add,go_sem,e,J]<;>first|exact⟨rfl,rfl⟩|exact rfl) ?_;by_cases hr2:8<s.route
  ·refine ck (v:=.bool true) (w' :=q) (by simp[go_sem];omega) ?_;rw[ci,if_pos rfl];exact c true (by rw[show cy s.route 1 8=false from decide_eq_false (by omega)];rfl)
  refine ck (v:=.bool false) (w' :=q) (by simp[go_sem];omega) ?_;rw[ci,if_neg Bool.false_ne_true];have hr:cy s.route 1 8=true:=decide_eq_true (by omega);rw[hr]at c;refine ck (by simp[-Int.natCast_add,go_sem,e,I]<;>first|exact⟨rfl,rfl⟩|exact rfl) ?_;refine ck (by simp[-Int.natCast_add,go_sem,e,I]<;>first|exact⟨rfl,rfl⟩|exact rfl) ?_;refine jE ?_;refine ck (v:=.bool (!cy s.tick 1 10000000)) (w' :=q) (by simp[go_sem]) ?_;cases h2:cy s.tick 1 10000000 with
  |false=>rw[ci,if_pos (show(!false)=true from rfl)];exact c _ (by rw[h2];rfl)
  |true=>
  rw[h2]at c;rw[ci,if_neg (by simp)];refine ck (by simp[-Int.natCast_add,go_sem,e,g3]<;>first|exact⟨rfl,rfl⟩|exact rfl) ?_;refine ck (by simp[-Int.natCast_add,go_sem,e,g3]<;>first|exact⟨rfl,rfl⟩|exact rfl) ?_;refine jE ?_;refine ck (v:=.bool (!cy s.lot 1 1000000)) (w' :=q) (by simp[go_sem]) ?_;cases h3:cy s.lot 1 1000000 with
  |false=>rw[ci,if_pos (show(!false)=true from rfl)];exact c _ (by rw[h3];rfl)
  |true=>
  rw[h3]at c;rw[ci,if_neg (by simp)];refine ck (by simp[-Int.natCast_add,go_sem,e,g4]<;>first|exact⟨rfl,rfl⟩|exact rfl) ?_;refine ck (by simp[-Int.natCast_add,go_sem,e,g4]<;>first|exact⟨rfl,rfl⟩|exact rfl) ?_;refine jE ?_;refine ck (v:=.bool (!cy s.band 0 10000000)) (w' :=q) (by simp[go_sem]) ?_;cases h4:cy s.band 0 10000000 with
  |false=>rw[ci,if_pos (show(!false)=true from rfl)];exact c _ (by rw[h4];rfl)
  |true=>
  rw[h4]at c;rw[ci,if_neg (by simp)];refine ck (by simp[-Int.natCast_add,go_sem,e,g5]<;>first|exact⟨rfl,rfl⟩|exact rfl) ?_;refine ck (by simp[-Int.natCast_add,go_sem,e,g5]<;>first|exact⟨rfl,rfl⟩|exact rfl) ?_;refine jE ?_;refine ck (v:=.bool (!cy s.limit 1 10000000)) (w' :=q) (by simp[go_sem]) ?_;cases h5:cy s.limit 1 10000000 with
  |false=>rw[ci,if_pos (show(!false)=true from rfl)];exact c _ (by rw[h5];rfl)
  |true=>
  rw[h5]at c;rw[ci,if_neg (by simp)];refine ck (by simp[-Int.natCast_add,go_sem,e,G]<;>first|exact⟨rfl,rfl⟩|exact rfl) ?_;refine ck (by simp[-Int.natCast_add,go_sem,e,G]<;>first|exact⟨rfl,rfl⟩|exact rfl) ?_;refine jE ?_;refine ck (v:=.bool (!cy s.credit 0 10000000)) (w' :=q) (by simp[go_sem]) ?_;exact c _ rfl
 rintro⟨_,_⟩ W ⟨⟨⟩,rfl⟩;unfold GU;intro _;cases g:P with
 |false=>
  rw[g]at A;rw[ci,if_pos (show(!false)=true from rfl)];rw[show false=s.may from A.symm];exact Y _ H
 |true=>
 rw[g,Bool.true_and]at A;rw[ci,if_neg (by simp)]
 refine dp (λst o=>∃(i:Nat) (x:Value),i<=16/\st=(x,.int .i64 (((s.shifts.toList.take i).countP λx=>decide (0<x):Nat):Int),.int .i64 (((s.shifts.toList.take i).countP λx=>decide (x<0):Nat):Int),.int .i64 i,())/\o=W/\iy (s.shifts.toList.take i)=true)
  (λst _=>match st.2.2.2.1 with| .int _ i=>16 - i.toNat|_=>0) ⟨0,.bool false,by omega,rfl,rfl,rfl⟩ ?_
 rintro⟨x,_⟩ o ⟨i,_,hi,⟨⟩,rfl,r⟩ KN O;unfold FD;intro _;by_cases z:i<16
 ·have E:(i:Int)<16:=by omega
  have k:i<s.shifts.toList.length:=by omega
  have hx:eQ s.shifts.toList[i]! :=by
   rw[getElem!_pos s.shifts.toList i k];exact f7 _ (List.getElem_mem k)
  have gS:(dl s).toArray[6+i]? =some (.int .i64 s.shifts.toList[i]!):=by
   rw[List.getElem?_toArray];have h1:=sJ s.shifts i z;rw[List.getElem?_toArray,<-lN,List.getElem?_take,if_pos z,List.getElem?_drop]at h1;exact h1
  have c1:(s.shifts.toList.take i).countP (λx=>decide (0<x))<=16:=Nat.le_trans List.countP_le_length (by simp;omega);have c2:(s.shifts.toList.take i).countP (λx=>decide (x<0))<=16:=Nat.le_trans List.countP_le_length (by simp;omega)
  have t:∀(R:cm),R (.int .i64 s.shifts.toList[i]!) o->rv Tryz.prog (Instr.fieldAt 38 (.pointer (some ⟨p,0,none⟩)) 6) o λT Z=>rv Tryz.prog (Instr.indexAt 36 T (.int .i64 i)) Z λv73 N=>rv Tryz.prog (Instr.loadAt 2 v73) N λS X=>R S X:=by
   intro R hR;refine ck (v:=.pointer (some ⟨p,6,none⟩)) (w' :=o) (by simp[go_sem]) ?_;have D:¬(16:Int)<=(i:Int):=by omega
   refine ck (v:=.pointer (some ⟨p,6+i,none⟩)) (w' :=o) (by simp[go_sem,z,D,cC]<;>omega) ?_;refine ck (v:=.int .i64 s.shifts.toList[i]!) (w' :=o) (by simp[go_sem,e,gS]) ?_;exact hR
  refine ck (v:=.bool true) (by simp[go_sem,E]<;>first|exact⟨rfl,rfl⟩|exact rfl) ?_;rw[ci,if_pos rfl];have hw:IntKind.i64.wrap ((i:Int)+1)=((i+1:Nat):Int):=by rw[cV (by omega) (by omega)];omega
  have cu:=x9 (p:=λx=>decide (0<x)) k;have cd:=x9 (p:=λx=>decide (x<0)) k;have ca:=yN (p:=λx=>cy x (-MP) MP) k;generalize hy:s.shifts.toList[i]! =y at*;generalize hU:(s.shifts.toList.take i).countP (λx=>decide (0<x))=u at*;generalize hD:(s.shifts.toList.take i).countP (λx=>decide (x<0))=d at*;simp only[decide_eq_true_eq]at cu cd;refine cB.at (λst W=>st=(.int .i64 ((if y<0 then d+1 else d:Nat):Int),.int .i64 ((if 0<y then u+1 else u:Nat):Int),x,())/\W=o/\cy y (-10000000) 10000000=true) ?_ ?_
  ·refine t _ ?_;refine jE ?_;refine ck (v:=.bool (!cy y (-10000000) 10000000)) (w' :=o) (by simp[go_sem]) ?_;cases M:cy y (-10000000) 10000000 with
   |false=>
    rw[ci,if_pos (show(!false)=true from rfl)]
    have:s.may=false:=by
     have h1:iy s.shifts.toList=false:=by
      rw[Bool.eq_false_iff];intro hc;have:=(List.all_eq_true.1 hc) y (by rw[<-hy,getElem!_pos s.shifts.toList i k];exact List.getElem_mem k);unfold MP at this;rw[M]at this;cases this
     rw[A];unfold Sp.end_;rw[h1];rfl
    rw[<-this];exact Y _ H
   |true=>
   rw[ci,if_neg (by simp)];refine cB.at (λst W=>st=(.int .i64 ((if 0<y then u+1 else u:Nat):Int),())/\W=o) ?_ ?_
   ·refine t _ ?_;by_cases n:0<y
    ·refine ck (v:=.bool true) (by simp[go_sem,n]<;>first|exact⟨rfl,rfl⟩|exact rfl) ?_;rw[ci,if_pos rfl];rw[if_pos n];refine ck (v:=.int .i64 ((u+1:Nat):Int)) (w' :=o) (by simp[go_sem];rw[cV (by omega) (by omega)]) ?_;exact⟨rfl,rfl⟩
    ·refine ck (v:=.bool false) (by simp[go_sem,n]<;>first|exact⟨rfl,rfl⟩|exact rfl) ?_;rw[ci,if_neg Bool.false_ne_true];rw[if_neg n];exact⟨rfl,rfl⟩
   rintro⟨_,_⟩ U ⟨⟨⟩,rfl⟩;unfold GV;intro _;refine t _ ?_;by_cases m:y<0
   ·refine ck (v:=.bool true) (by simp[go_sem,m]<;>first|exact⟨rfl,rfl⟩|exact rfl) ?_;rw[ci,if_pos rfl];rw[if_pos m];refine ck (v:=.int .i64 ((d+1:Nat):Int)) (w' :=U) (by simp[go_sem];rw[cV (by omega) (by omega)]) ?_;exact⟨rfl,rfl,by trivial⟩
   ·refine ck (v:=.bool false) (by simp[go_sem,m]<;>first|exact⟨rfl,rfl⟩|exact rfl) ?_;rw[ci,if_neg Bool.false_ne_true];rw[if_neg m];exact⟨rfl,rfl,by trivial⟩
  rintro⟨_,_⟩ U ⟨⟨⟩,rfl,M⟩;unfold DC;intro _;refine ck (v:=.int .i64 ((i+1:Nat):Int)) (w' :=U) (by simp[go_sem];rw[cV (by omega) (by omega)]) ?_;have eu:(s.shifts.toList.take (i+1)).countP (λx=>decide (0<x))=if 0<y then u+1 else u:=by rw[cu];split<;>omega
  have ed:(s.shifts.toList.take (i+1)).countP (λx=>decide (x<0))=if y<0 then d+1 else d:=by rw[cd];split<;>omega
  refine O _ _ ⟨i+1,x,by omega,by rw[eu,ed],rfl,?_⟩ (by show 16 - (((i+1:Nat):Int)).toNat<16 - ((i:Int)).toNat;omega);unfold iy;rw[ca];show(iy _&& _)=true;rw[r];simpa [MP]using M
 ·obtain rfl:i=16:=by omega
  rw[List.take_of_length_le (by omega)]at r;rw[List.take_of_length_le (by omega)];refine ck (v:=.bool false) (by simp[go_sem]<;>first|exact⟨rfl,rfl⟩|exact rfl) ?_;rw[ci,if_neg Bool.false_ne_true];have j:∀b:Bool,b=s.may->K (.bool b) o:=λb h=>by rw[h];exact Y _ H
  rw[A]at j;unfold Sp.end_ at j;rw[r,Bool.true_and]at j
  refine ck (v:=.bool (s.shifts.toList.any λx=>decide (0<x))) (w' :=o) (by
   have:=JL (l:=s.shifts.toList) (p:=λx=>decide (0<x));cases B:s.shifts.toList.any λx=>decide (0<x)<;>rw[B]at this<;>simp[-List.countP_pos_iff,go_sem]at this|- <;>omega) ?_
  cases B:s.shifts.toList.any λx=>decide (0<x)with
  |false=>
   rw[ci,if_neg Bool.false_ne_true];exact j _ (by rw[B];rfl)
  |true=>
  rw[B,Bool.true_and]at j;rw[ci,if_pos rfl]
  refine ck (v:=.bool (s.shifts.toList.any λx=>decide (x<0))) (w' :=o) (by
   have:=JL (l:=s.shifts.toList) (p:=λx=>decide (x<0));cases B:s.shifts.toList.any λx=>decide (x<0)<;>rw[B]at this<;>simp[-List.countP_pos_iff,go_sem]at this|- <;>omega) ?_
  cases hd:s.shifts.toList.any λx=>decide (x<0)with
  |false=>
   rw[ci,if_neg Bool.false_ne_true];exact j _ (by rw[hd];rfl)
  |true=>
  rw[hd,Bool.true_and]at j;rw[ci,if_pos rfl];refine ck (by simp[-Int.natCast_add,go_sem,e,I]<;>first|exact⟨rfl,rfl⟩|exact rfl) ?_;refine ck (by simp[-Int.natCast_add,go_sem,e,I]<;>first|exact⟨rfl,rfl⟩|exact rfl) ?_;refine ck (by simp[-Int.natCast_add,go_sem,e,C]<;>first|exact⟨rfl,rfl⟩|exact rfl) ?_;refine ck (by simp[-Int.natCast_add,go_sem,e,C]<;>first|exact⟨rfl,rfl⟩|exact rfl) ?_
  have ht:0<s.tick:=by
   rw[V]at g;unfold Sp.pre MP at g;simp only[Bool.and_eq_true]at g;have:=of_decide_eq_true g.2.2.1;omega
  refine vO ht ?_;exact j _ rfl
def ot{s:Sp}{n:Int}{w:World}{K:cm}(o:s.Fit)(c:∀g,cl (λ_=>False) w g->K (.bool (s.isPrice n)) g):Ca Tryz.prog 165 #[.agg (dl s).toArray,.int .i64 n] w K:=by
 apply OB;obtain⟨p,e⟩:∃p,p=w.heap.size:=⟨_,rfl⟩
 have l:cl (λ_=>False) w (w.alloc (.cells (dl s).toArray 38)):=(cl.refl _ w).alloc _;refine ck (v:=.pointer (some ⟨p,0,none⟩)) (w' :=w.alloc (.cells (dl s).toArray 38)) (by rw[e];rfl) ?_;have f:hp (w.alloc (.cells (dl s).toArray 38)) p=some (.cells (dl s).toArray 38 (0,0)):=by rw[e];simp[go_sem]
 generalize w.alloc (.cells (dl s).toArray 38)=q at l f|-;refine ey (dl s) 24 uS sm (cL _) ⟨_,_,_,f,by simp,by simp⟩ ?_;refine sZ o λr h=>?_;have k:=h.hpk f id;have d:=l.trans h;unfold Sp.isPrice at c;cases a:s.may with
 |false=>
  rw[a]at c;rw[ci,if_neg Bool.false_ne_true];exact c _ d
 |true=>
 rw[a,Bool.true_and]at c;rw[ci,if_pos rfl];have b:∀i:Nat,(dl s)[i]? =(dl s++[])[i]? :=λi=>by rw[List.append_nil]
 have j:(dl s).toArray[2]? =some (.int .i64 s.tick):=by rw[List.getElem?_toArray,b];exact Li s []
 refine ck (by simp[-Int.natCast_add,go_sem,k,j]<;>first|exact⟨rfl,rfl⟩|exact rfl) ?_;refine ck (by simp[-Int.natCast_add,go_sem,k,j]<;>first|exact⟨rfl,rfl⟩|exact rfl) ?_
 have m:0<s.tick:=by
  have:=sR s;rw[a]at this;have:=(Bool.and_eq_true .. |>.mp this.symm).1;unfold Sp.pre MP at this;simp only[Bool.and_eq_true]at this;have:=of_decide_eq_true this.2.2.1;omega
 refine vO m ?_;exact c _ d
end Go.Proofs
namespace Go.Vc
def eG(n:Nat):List UInt8:=if n<128 then [UInt8.ofNat n]else UInt8.ofNat (n%128+128)::eG (n / 128)
 termination_by n
 decreasing_by omega
def lq{n:Nat}(h:n<128):eG n=[UInt8.ofNat n]:=by rw[eG,if_pos h]
def qL{n:Nat}(h:¬n<128):eG n=UInt8.ofNat (n%128+128)::eG (n / 128):=by rw[eG,if_neg h]
def tR:∀(k n:Nat),n<128 ^ (k+1)->(eG n).length<=k+1
 |0,n,h=>by rw[lq (by simpa using h)];simp
 |k+1,n,h=>by
  by_cases h1:n<128
  ·rw[lq h1];simp
  ·rw[qL h1];have:=tR k (n / 128) (by rw[Nat.div_lt_iff_lt_mul (by decide)];rw[Nat.pow_succ]at h;exact h);simp only[List.length_cons];omega
def tJ{n:Nat}(h:n<18446744073709551616):(eG n).length<=10:=tR 9 n (Nat.lt_of_lt_of_le h (by decide))
def vK{n:Nat}(h:n<256):(UInt8.ofNat n).toNat=n:=by simp;omega
def uV:List UInt8->Nat->Nat->Except Nat (Nat×Nat)
 | [],_,_=>.error 4
 |x::r,k,acc=>
  if k=9/\1<x.toNat\/9<k then .error 5
  else if x.toNat<128 then(if x.toNat=0/\0<k then .error 5 else .ok (acc+x.toNat%128*128 ^ k,k+1))
  else uV r (k+1) (acc+x.toNat%128*128 ^ k)
def qg:∀(j n k acc:Nat) (r:List UInt8),n<128 ^ (j+1)->k+j=9->n*128 ^ k<18446744073709551616->(0<n\/k=0)->uV (eG n++r) k acc=.ok (acc+n*128 ^ k,k+(eG n).length)
 |j,n,k,acc,r,a,g,f,d=>by
  by_cases h1:n<128
  ·rw[lq h1];simp only[List.cons_append,List.nil_append,uV,vK (show n<256 by omega),List.length_singleton]
   have b:¬(k=9/\1<n\/9<k):=by
    rintro(⟨rfl,h⟩|h)
    ·have:2*128 ^ 9<=n*128 ^ 9:=Nat.mul_le_mul_right _ h;have e:(2:Nat)*128 ^ 9=18446744073709551616:=by decide
     omega
    ·omega
   rw[if_neg b,if_pos h1,if_neg (by omega),Nat.mod_eq_of_lt h1]
  ·rw[qL h1];cases j with
   |zero=>simp at a;omega
   |succ j=>
    have b:¬(k=9/\1<n%128+128\/9<k):=by omega
    have c:(n%128+128)%128=n%128:=by omega
    simp only[List.cons_append,uV,vK (show n%128+128<256 by omega),List.length_cons];rw[if_neg b,if_neg (by omega),c]
    have e:n%128*128 ^ k+n / 128*128 ^ (k+1)=n*128 ^ k:=by
     rw[Nat.pow_succ,Nat.mul_comm (128 ^ k) 128,<-Nat.mul_assoc,<-Nat.add_mul];congr 1;omega
    rw[qg j (n / 128) (k+1) _ r (by rw[Nat.div_lt_iff_lt_mul (by decide)];rw[Nat.pow_succ]at a;exact a) (by omega) (by omega) (by omega),Nat.add_assoc,e];congr 2;omega
def Dq{n:Nat}(r:List UInt8)(h:n<18446744073709551616):uV (eG n++r) 0 0=.ok (n,(eG n).length):=by
 have:=qg 9 n 0 0 r (Nat.lt_of_lt_of_le h (by decide)) rfl (by simpa using h) (.inr rfl);simpa using this
def pU:∀(l:List UInt8) (k acc n m:Nat),uV l k acc=.ok (n,m)->k<=9->
  ∃d,n=acc+d*128 ^ k/\m=k+(eG d).length/\(eG d).length<=l.length/\l.take (eG d).length=eG d/\(0<d\/k=0)/\d*128 ^ k<18446744073709551616
 | [],_,_,_,_,h,_=>by cases h
 |x::r,k,acc,n,m,h,G=>by
  have I:=x.toNat_lt;simp only[uV]at h;by_cases q:k=9/\1<x.toNat\/9<k
  ·rw[if_pos q]at h;cases h
  rw[if_neg q]at h;have c:UInt8.ofNat x.toNat=x:=by simp
  have y:128 ^ k*128 ^ (9 - k)=9223372036854775808:=by
   rw[<-Nat.pow_add,show k+(9 - k)=9 by omega]
  by_cases h1:x.toNat<128
  ·rw[if_pos h1]at h;by_cases u:x.toNat=0/\0<k
   ·rw[if_pos u]at h;cases h
   rw[if_neg u]at h;cases h;refine⟨x.toNat,by rw[Nat.mod_eq_of_lt h1],?_,?_,?_,by omega,?_⟩
   ·rw[lq h1];rfl
   ·rw[lq h1];simp
   ·rw[lq h1,c];simp
   ·by_cases j:k=9
    ·subst j;have:x.toNat<=1:=by omega
     have:=Nat.mul_le_mul_right (128 ^ 9) this;have e:(128:Nat) ^ 9=9223372036854775808:=by decide
     omega
    ·have C:128 ^ k<=128 ^ 8:=Nat.pow_le_pow_right (by decide) (by omega);have H:=Nat.mul_le_mul (show x.toNat<=127 by omega) C;have e:(127:Nat)*128 ^ 8<18446744073709551616:=by decide
     omega
  ·rw[if_neg h1]at h;have A:k≠9:=λe=>q (.inl ⟨e,by omega⟩);obtain⟨d,o,f,i,s,E,B⟩:=pU r (k+1) _ n m h (by omega);have w:0<d:=by omega
   have z:(x.toNat%128+d*128) / 128=d:=by omega
   have t:(x.toNat%128+d*128)%128+128=x.toNat:=by omega
   have a:eG (x.toNat%128+d*128)=x::eG d:=by rw[qL (by omega),z,t,c]
   have v:(x.toNat%128+d*128)*128 ^ k=x.toNat%128*128 ^ k+d*128 ^ (k+1):=by
    rw[Nat.add_mul,Nat.pow_succ,Nat.mul_comm (128 ^ k) 128,Nat.mul_assoc]
   refine⟨x.toNat%128+d*128,?_,?_,?_,?_,by omega,?_⟩
   ·rw[o,v];omega
   ·rw[a,f,List.length_cons];omega
   ·rw[a];simpa using i
   ·rw[a];simp[s]
   ·rw[v]
    have D:x.toNat%128*128 ^ k<128 ^ (k+1):=by
     rw[Nat.pow_succ,Nat.mul_comm];exact Nat.mul_lt_mul_of_pos_left (Nat.mod_lt _ (by decide)) (Nat.pow_pos (by decide))
    have b:128 ^ (k+1)*128 ^ (8 - k)=9223372036854775808:=by
     rw[<-Nat.pow_add,show k+1+(8 - k)=9 by omega]
    have p:d<2*128 ^ (8 - k):=by
     apply Classical.byContradiction;intro F;have:=Nat.mul_le_mul_right (128 ^ (k+1)) (Nat.le_of_not_lt F);rw[Nat.mul_assoc,Nat.mul_comm (128 ^ (8 - k)),b]at this;omega
    have g:=Nat.mul_le_mul_right (128 ^ (k+1)) (show d+1<=2*128 ^ (8 - k)from p);rw[Nat.mul_assoc,Nat.mul_comm (128 ^ (8 - k)),b,Nat.add_mul]at g;omega
def G9{l:List UInt8}{n m:Nat}(h:uV l 0 0=.ok (n,m)):m=(eG n).length/\m<=l.length/\l.take m=eG n/\n<18446744073709551616:=by
 obtain⟨d,h1,b,e,c,_,a⟩:=pU l 0 0 n m h (by omega);simp only[Nat.pow_zero,Nat.mul_one,Nat.zero_add]at h1 b a;subst h1;subst b;exact⟨rfl,e,c,a⟩
structure Rs where
 at_:Nat
 e:Nat
def cN(l:List UInt8)(most:Nat)(s:Rs):Nat×Rs:=
 if s.e≠0 then(0,s)else
 match uV (l.drop s.at_) 0 0 with
 | .error e=>(0,{s with e:=e})
 | .ok (n,k)=>if most<n then(0,{s with e:=5})else(n,{s with at_:=s.at_+k})
def en(l:List UInt8)(s:Rs):Nat:=if s.e=0/\s.at_<l.length then 5 else s.e
def fB{l:List UInt8}{most:Nat}{s:Rs}:(cN l most s).1<=most:=by
 unfold cN;split
 ·exact Nat.zero_le _
 ·split
  ·exact Nat.zero_le _
  ·split
   ·exact Nat.zero_le _
   ·rename_i h;exact Nat.le_of_not_lt h
structure Tn where
 c:Nat
 q:Nat
 b:List UInt8
def Tn.May(o:Tn):Prop:=o.c<64/\o.q≠0/\o.b.length<=2000
instance(o:Tn):Decidable o.May:=by unfold Tn.May;infer_instance
end Go.Vc
namespace Go.Proofs
open Go Go.Vc
attribute [local congr] cr
def zx:eN Tryz.prog 5 1 1=true:=by kernel_rfl
def Sj:Tryz.prog.cellsOf 5=0+1:=by kernel_rfl
abbrev MB:TypeId:=54
def rT:Tryz.prog.underlying MB=some (.slice 5):=Tryz.underlying54
set_option maxRecDepth 100000 in
def IQ(n:Nat):bits .or .u8 (IntKind.u8.wrap (n:Int)) 128=((UInt8.ofNat (n%128+128)).toNat:Int):=by
 have a:IntKind.u8.wrap (n:Int)=((n%256:Nat):Int):=by rw[IntKind.wrap_u8];omega
 have b:(UInt8.ofNat (n%128+128)).toNat=n%128+128:=vK (by omega);rw[a,show(128:Int)=((128:Nat):Int)from rfl,u8_or_nat _ _ (by omega) (by omega),b];congr 1;have h:∀m:Fin 256,m.val|||128=m.val%128+128:=by decide
 have:=h ⟨n%256,by omega⟩;simp only at this;rw[this];omega
def IM{w:World}{K:cm}{s:Value}{k n:Nat}{l:List UInt8}(h:dW w 5 1 s k (bv l))(H:n<18446744073709551616)(M:k<=1000000000)
  (E:∀g d,dW d 5 1 g (k+(eG n).length) (bv (l++eG n))->cl (co s) w d->(∀b,co g b->co s b\/w.heap.size<=b)->K g d):
  Ca Tryz.prog 100 #[s,.int .u64 n] w K:=by
 apply MK
 refine dp (λst W=>∃(m:Nat) (pre:List UInt8) (g:Value),eG n=pre++eG m/\m<=n/\st=(.int .u64 (m:Int),g,())/\dW W 5 1 g (k+pre.length) (bv (l++pre))/\cl (co s) w W/\(∀b,co g b->co s b\/w.heap.size<=b))
  (λst _=>match st.1 with| .int _ i=>i.toNat|_=>0) ⟨n,[],s,rfl,Nat.le_refl _,rfl,by simpa using h,cl.refl _ _,λb o=>.inl o⟩ ?_
 rintro⟨_,_⟩ W ⟨m,pre,g,a,N,⟨⟩,A,r,f⟩ L x;unfold Fj;intro _;have p:=tJ H;rw[a,List.length_append]at p;by_cases D:128<=m
 ·have c:(128:Int)<=(m:Int):=by omega
  refine ck (v:=.bool true) (w' :=W) (by simp[go_sem,c]) ?_;rw[ci,if_pos rfl];refine ck (v:=.int .u8 (IntKind.u8.wrap (m:Int))) (w' :=W) (by simp[go_sem]) ?_;refine ck (v:=.int .u8 (bits .or .u8 (IntKind.u8.wrap (m:Int)) 128)) (w' :=W) (by simp[go_sem]) ?_;rw[IQ];refine wM [UInt8.ofNat (m%128+128)] rT (cI zx) rfl rfl (by omega) λv F y j J=>?_;refine dt (m:=1) rT rT (cI zx) (A.mod j λ_ _ h=>h) y.rd (rl _) (by omega) λC B q t u=>?_;refine ck (v:=.int .u64 ((m / 128:Nat):Int)) (w' :=B) (by simp[go_sem]) ?_;have z:eG m=UInt8.ofNat (m%128+128)::eG (m / 128):=qL (by omega);refine x _ _ ⟨m / 128,pre++[UInt8.ofNat (m%128+128)],C,by rw[a,z];simp,by omega,rfl,?_,?_,?_⟩ ?_
  ·rw[<-kp,List.append_assoc]at q;have e:k+(pre++[UInt8.ofNat (m%128+128)]).length=k+pre.length+1:=by simp;omega
   rw[e];exact q
  ·exact(r.on j λ_ h=>h.elim).on t f
  ·intro b o;rcases u b o with h1|h1
   ·exact f b h1
   ·have:=(r.on j (G:=λ_=>False) λ_ h=>h.elim).size;omega
  ·show(((m / 128:Nat):Int)).toNat<((m:Int)).toNat;omega
 ·have c:¬(128:Int)<=(m:Int):=by omega
  refine ck (v:=.bool false) (w' :=W) (by simp[go_sem,c]) ?_;rw[ci,if_neg Bool.false_ne_true]
  have I:IntKind.u8.wrap (m:Int)=((UInt8.ofNat m).toNat:Int):=by
   rw[vK (by omega),IntKind.wrap_u8];omega
  refine ck (v:=.int .u8 (IntKind.u8.wrap (m:Int))) (w' :=W) (by simp[go_sem]) ?_;rw[I];refine wM [UInt8.ofNat m] rT (cI zx) rfl rfl (by omega) λv F y j J=>?_;refine dt (m:=1) rT rT (cI zx) (A.mod j λ_ _ h=>h) y.rd (rl _) (by omega) λC B q t u=>?_;have z:eG m=[UInt8.ofNat m]:=lq (by omega);refine E _ _ ?_ ((r.on j λ_ h=>h.elim).on t f) ?_
  ·rw[a,z];rw[<-kp,List.append_assoc]at q;have e:k+(pre++[UInt8.ofNat m]).length=k+pre.length+1:=by simp;omega
   rw[e];exact q
  ·intro b o;rcases u b o with h1|h1
   ·exact f b h1
   ·have:=(r.on j (G:=λ_=>False) λ_ h=>h.elim).size;omega
def fW(r:Nat):Value:=.pointer (some ⟨r,0,none⟩)
structure dz(w:World)(r:Nat)(v:Value)(l:List UInt8)(s:Rs):Prop where
 blk:hp w r=some (.cells #[v,.int .i64 s.at_,.int .i64 s.e] 248 (0,0))
 rd:Rd w 1 v l.length (bv l)
 le:s.at_<=l.length
 ne:¬eM v r
 len:l.length<=1000000000
def dz.mod{F:Nat->Prop}{w w' :World}{r:Nat}{v:Value}{l:List UInt8}{s:Rs}(h:dz w r v l s)(a:cl F w w')(h1:¬F r)(c:∀b,eM v b->¬F b):dz w' r v l s:=
 ⟨a.keep h.blk h1,h.rd.mod a c,h.le,h.ne,h.len⟩
def dz.lt{w:World}{r:Nat}{v:Value}{l:List UInt8}{s:Rs}(h:dz w r v l s):r<w.heap.size:=cn h.blk
def wG{w:World}{K:cm}{v:Value}{l:List UInt8}(h:Rd w 1 v l.length (bv l))(d:l.length<=1000000000)
  (e:∀b,dz b w.heap.size v l ⟨0,0⟩->cl (λ_=>False) w b->K (fW w.heap.size) b):Ca Tryz.prog 59 #[v] w K:=by
 obtain⟨a,c,rfl⟩:=h.isSl;apply Ru;simp[go_sem];refine e _ ⟨?_,h.mod ((cl.refl _ w).alloc _) (λ_ _ h=>h),Nat.zero_le _,λf=>Nat.lt_irrefl _ (h.lt f),d⟩ ((cl.refl _ w).alloc _);simp[go_sem]
def AC{w:World}{K:cm}{r:Nat}{v:Value}{l:List UInt8}{s:Rs}(h:dz w r v l s)(a:K (.bool (decide (s.e≠0))) w):Ca Tryz.prog 148 #[fW r] w K:=by
 apply O0;have c:=h.blk;simp[go_sem,fW,c]
 have e:((s.e:Int) != 0)=decide (s.e≠0):=by
  by_cases b:s.e=0<;>simp[b]
 first
  |exact a
  |(rw[e];exact a)
  |(simpa using a)
def zw(l:List UInt8)(at_:Nat):Value:=
 match uV (l.drop at_) 0 0 with
 | .error e=>.tuple #[.int .u64 0,.int .i64 0,.int .i64 e]
 | .ok (n,k)=>.tuple #[.int .u64 n,.int .i64 (at_+k:Nat),.int .i64 0]
def RJ(k:Nat):(2:Int) ^ (7*k)=((128 ^ k:Nat):Int):=by
 rw[Int.pow_mul];simp
set_option maxRecDepth 10000 in
def Ll{w:World}{K:cm}{r:Nat}{v:Value}{l:List UInt8}{s:Rs}(h:dz w r v l s)(I:∀c,cl (λ_=>False) w c->K (zw l s.at_) c):Ca Tryz.prog 150 #[fW r] w K:=by
 have M:=h.blk;have hle:=h.le;have hlen:=h.len;obtain⟨v',B,H,hin⟩:=h.rd.from_ (P:=Tryz.prog) rT Sj h.le .i64;simp only[Nat.zero_add,Nat.mul_one]at H;rw[II]at H;apply PV;simp only[fW,cw];refine cq (v:=.pointer (some ⟨r,0,none⟩)) (λW=>by simp[go_sem]) ?_;refine cx (v:=v) (by simp[go_sem,M]) ?_;refine cq (v:=.pointer (some ⟨r,1,none⟩)) (λW=>by simp[go_sem]) ?_;refine cx (v:=.int .i64 s.at_) (by simp[go_sem,M]) ?_;refine cq (v:=v') B ?_;obtain⟨a',c',hv'⟩:=H.isSl;refine cx (v:=.int .i64 ((l.length - s.at_:Nat):Int)) (by rw[hv'];simp[go_sem]) ?_;have p:=H.mod (cl.refl (λ_=>False) w).drew λ_ _ h=>h;generalize N:w.drew=Y at p|-;have k:cl (λ_=>False) w Y:=by subst N;exact(cl.refl _ w).drew
 have hb1:hp Y r=some (.cells #[v,.int .i64 s.at_,.int .i64 s.e] 248 (0,0)):=k.keep M id;obtain⟨L,t⟩:∃L,L=l.drop s.at_:=⟨_,rfl⟩
 rw[<-t]at p;have hLl:L.length=l.length - s.at_:=by rw[t];simp
 refine dp (λst W=>∃(i acc:Nat),i<=L.length/\i<=9/\acc<128 ^ i/\uV L 0 0=uV (L.drop i) i acc/\(∃x1 x2:Value,st=(.int .u64 (acc:Int),x1,x2,.int .i64 (i:Int),()))/\W=Y)
  (λst _=>match st.2.2.2.1 with| .int _ i=>10 - i.toNat|_=>0) ⟨0,0,by omega,by omega,by decide,rfl,⟨_,_,rfl⟩,rfl⟩ ?_
 rintro⟨_,_⟩ W ⟨i,acc,hi,T,z,E,⟨x1,x2,⟨⟩⟩,rfl⟩ KN Q;unfold Fi;intro _;by_cases y:i<L.length
 ·obtain⟨b,R,cap,C,e,fz,U,hcap,hC,V⟩:=p.byte (i:=i) (by omega) y;have hx:=(L[i]).toNat_lt;have hdr:L.drop i=L[i]::L.drop (i+1):=List.drop_eq_getElem_cons y;have j:(i:Int)<((l.length - s.at_:Nat):Int):=by omega
  refine ck (v:=.bool true) (w' :=W) (by simp[go_sem,j]) ?_;rw[ci,if_pos rfl,U];have F:i<l.length - s.at_:=by omega
  refine ck (v:=.pointer (some ⟨b,R+i,none⟩)) (w' :=W) (by simp[go_sem,F,cC]) ?_;refine ck (v:=.int .u8 ((L[i]).toNat:Int)) (w' :=W) (by simp[go_sem,hC,V]) ?_;obtain⟨x,o⟩:∃x,x=(L[i]).toNat:=⟨_,rfl⟩
  rw[<-o];rw[<-o]at hx
  have a:uV L 0 0=if i=9/\1<x\/9<i then .error 5
    else if x<128 then(if x=0/\0<i then .error 5 else .ok (acc+x%128*128 ^ i,i+1))
    else uV (L.drop (i+1)) (i+1) (acc+x%128*128 ^ i):=by
   rw[E,hdr];simp only[uV];rw[<-o]
  refine cB.at (λst X=>st=(.bool (decide (i=9/\1<x\/9<i)),())/\X=W) ?_ ?_
  ·by_cases J:i=9
   ·subst J;refine ck (v:=.bool true) (w' :=W) (by simp[go_sem]) ?_;rw[ci,if_pos rfl];by_cases h1:1<x
    ·have q:(1:Int)<(x:Int):=by omega
     refine ck (v:=.bool true) (w' :=W) (by simp[go_sem,q]) ?_;rw[ci,if_pos rfl];exact⟨by simp[h1],rfl⟩
    ·have q:¬(1:Int)<(x:Int):=by omega
     refine ck (v:=.bool false) (w' :=W) (by simp[go_sem,q]) ?_;rw[ci,if_neg Bool.false_ne_true];refine ck (v:=.bool false) (w' :=W) (by simp[go_sem]) ?_;exact⟨by simp[h1],rfl⟩
   ·have O:¬(i:Int)=9:=by omega
    have A:¬(9:Int)<(i:Int):=by omega
    refine ck (v:=.bool false) (w' :=W) (by simp[go_sem,O]) ?_;rw[ci,if_neg Bool.false_ne_true];refine ck (v:=.bool false) (w' :=W) (by simp[go_sem,A]) ?_;exact⟨by simp[J];omega,rfl⟩
  rintro _ W ⟨rfl,rfl⟩;unfold Dt;intro _;by_cases d:i=9/\1<x\/9<i
  ·rw[if_pos d]at a;simp only[d,decide_true,ci,if_true];have:=I _ k;unfold zw at this;rw[<-t,a]at this;exact this
  rw[if_neg d]at a;simp only[d,decide_false,ci,Bool.false_eq_true,if_false]
  have ea:bits .and .u8 (x:Int) 127=((x%128:Nat):Int):=by
   rw[show(127:Int)=((127:Nat):Int)from rfl,u8_and_nat _ _ (by omega) (by omega)];congr 1;exact Nat.and_two_pow_sub_one_eq_mod x 7
  have hs:x%128*128 ^ i<18446744073709551616:=by
   by_cases J:i=9
   ·subst J;have:x<=1:=by omega
    have e9:(128:Nat) ^ 9=9223372036854775808:=by decide
    rw[e9];omega
   ·have h8:128 ^ i<=128 ^ 8:=Nat.pow_le_pow_right (by decide) (by omega);have h7:=Nat.mul_le_mul (show x%128<=127 by omega) h8;have e8:(127:Nat)*128 ^ 8<18446744073709551616:=by decide
    omega
  have g:acc<18446744073709551616:=by
   have h8:128 ^ i<=128 ^ 9:=Nat.pow_le_pow_right (by decide) T;have e9:(128:Nat) ^ 9=9223372036854775808:=by decide
   omega
  have eo:acc|||(x%128*128 ^ i)=acc+x%128*128 ^ i:=by
   have e1:(128:Nat) ^ i=2 ^ (7*i):=by rw[Nat.pow_mul]
   have:=Nat.two_pow_add_eq_or_of_lt (i:=7*i) (b:=acc) (by rw[<-e1];exact z) (x%128);rw[<-e1,Nat.mul_comm (128 ^ i)]at this;rw[Nat.or_comm,<-this,Nat.add_comm]
  have hsum:acc+x%128*128 ^ i<18446744073709551616:=by
   rw[<-eo];exact Nat.or_lt_two_pow (n:=64) g hs
  refine ck (v:=.int .u8 ((x%128:Nat):Int)) (w' :=W) (by simp only[go_sem];simp[-Int.natCast_emod,go_sem,ea]) ?_;refine ck (v:=.int .u64 ((x%128:Nat):Int)) (w' :=W) (by simp[-Int.natCast_emod,go_sem,fG (n:=((x%128:Nat):Int)) (by omega) (by omega)]) ?_;refine ck (v:=.int .i64 ((7*i:Nat):Int)) (w' :=W) (by simp[go_sem];rw[cV (by omega) (by omega)]) ?_;refine ck (v:=.int .u64 ((x%128*128 ^ i:Nat):Int)) (w' :=W) ?_ ?_
  ·have e7:((7*i:Nat):Int).toNat=7*i:=by omega
   have e8:¬((7*i:Nat):Int)<0:=by omega
   simp[-Int.natCast_mul,-Int.natCast_emod,go_sem,e7,e8];rw[RJ,<-Int.natCast_mul,fG (by omega) (by omega)]
  refine ck (v:=.int .u64 ((acc+x%128*128 ^ i:Nat):Int)) (w' :=W) ?_ ?_
  ·simp only[go_sem];simp[-Int.natCast_add,-Int.natCast_mul,-Int.natCast_emod,go_sem];rw[u64_or_nat _ _ g hs,eo]
  by_cases m:x<128
  ·have f:(x:Int)<128:=by omega
   rw[if_pos m]at a;refine ck (v:=.bool true) (w' :=W) (by simp[go_sem,f]) ?_;rw[ci,if_pos rfl];refine cB.at (λst X=>st=(.bool (decide (x=0/\0<i)),())/\X=W) ?_ ?_
   ·by_cases Z:x=0
    ·refine ck (v:=.bool true) (w' :=W) (by simp[go_sem,Z]) ?_;rw[ci,if_pos rfl];refine ck (v:=.bool (decide ((0:Int)<(i:Int)))) (w' :=W) (by simp[go_sem]) ?_;refine⟨?_,rfl⟩;have e:decide ((0:Int)<(i:Int))=decide (x=0/\0<i):=by rw[decide_eq_decide];omega
     rw[e]
    ·have h0' :¬(x:Int)=0:=by omega
     refine ck (v:=.bool false) (w' :=W) (by simp[go_sem,Z]) ?_;rw[ci,if_neg Bool.false_ne_true];exact⟨by simp[Z],rfl⟩
   rintro _ W ⟨rfl,rfl⟩;unfold EJ;intro _;by_cases G:x=0/\0<i
   ·rw[if_pos G]at a;simp only[G,and_self,decide_true,ci,if_true];have:=I _ k;unfold zw at this;rw[<-t,a]at this;exact this
   rw[if_neg G]at a;simp only[G,decide_false,ci,Bool.false_eq_true,if_false];have hat:s.at_+i+1<9223372036854775808:=by omega
   simp only[fW,cw];refine cq (v:=.pointer (some ⟨r,1,none⟩)) (λW=>by simp[go_sem]) ?_
   have u:∀D,D.heap=W.heap->(Instr.loadAt 3 (.pointer (some ⟨r,1,none⟩))).run Tryz.prog D=.ok (.int .i64 s.at_) D:=λD e=>by
    have S:hp D r=some (.cells #[v,.int .i64 s.at_,.int .i64 s.e] 248 (0,0)):=by unfold hp;rw[e];exact hb1
    simp[go_sem,S]
   refine cx (v:=.int .i64 s.at_) (u _ rfl) ?_;refine cq (v:=.int .i64 ((s.at_+i:Nat):Int)) (λW=>by simp[go_sem];rw[cV (by omega) (by omega)]) ?_;refine cq (v:=.int .i64 ((s.at_+(i+1):Nat):Int)) (λW=>by simp[go_sem];rw[cV (by omega) (by omega)];omega) ?_;refine⟨u _ rfl,?_⟩;have:=I _ k.drew;unfold zw at this;rw[<-t,a]at this;exact this
  ·have f:¬(x:Int)<128:=by omega
   rw[if_neg m]at a;refine ck (v:=.bool false) (w' :=W) (by simp[go_sem,f]) ?_;rw[ci,if_neg Bool.false_ne_true];refine ck (v:=.int .i64 ((i+1:Nat):Int)) (w' :=W) (by simp[go_sem];rw[cV (by omega) (by omega)]) ?_;have hi9' :i≠9:=λe=>d (.inl ⟨e,by omega⟩);refine Q _ _ ⟨i+1,_,by omega,by omega,?_,a,⟨_,_,rfl⟩,rfl⟩ ?_
   ·rw[Nat.pow_succ];have:x%128*128 ^ i<=127*128 ^ i:=Nat.mul_le_mul_right _ (by omega);omega
   ·show 10 - (((i+1:Nat):Int)).toNat<10 - ((i:Int)).toNat;omega
 ·have j:¬(i:Int)<((l.length - s.at_:Nat):Int):=by omega
  refine ck (v:=.bool false) (w' :=W) (by simp[go_sem,j]) ?_;rw[ci,if_neg Bool.false_ne_true]
  have a:uV L 0 0=.error 4:=by
   rw[E,List.drop_eq_nil_of_le (by omega)];rfl
  have:=I _ k;unfold zw at this;rw[<-t,a]at this;exact this
end Go.Proofs
namespace Go.Proofs
open Go Go.Vc
attribute [local congr] cr
def Im{l:List UInt8}:∀{k acc e:Nat},uV l k acc=.error e->e=4\/e=5:=by
 induction l with
 |nil=>intro k acc e h;cases h;exact .inl rfl
 |cons x r a=>
  intro k acc e h;simp only[uV]at h;split at h
  ·cases h;exact .inr rfl
  ·split at h
   ·split at h
    ·cases h;exact .inr rfl
    ·cases h
   ·exact a h
def dz.fault{w:World}{r:Nat}{v:Value}{l:List UInt8}{s:Rs}(h:dz w r v l s)(e:Nat):
  dz (w.setCell ⟨r,2,none⟩ (.int .i64 e)) r v l {s with e:=e}/\cl (λb=>b=r) w (w.setCell ⟨r,2,none⟩ (.int .i64 e)):=by
 have a:cl (λb=>b=r) w (w.setCell ⟨r,2,none⟩ (.int .i64 e)):=(cl.refl (λb=>b=r) w).setCell (.inl rfl) _ _;exact⟨⟨by simp[go_sem,h.blk],h.rd.mod a λb c e=>h.ne (by rw[<-e];exact c),h.le,h.ne,h.len⟩,a⟩
def dz.go{w:World}{r:Nat}{v:Value}{l:List UInt8}{s:Rs}(h:dz w r v l s)(a:Nat)(d:a<=l.length):
  dz (w.setCell ⟨r,1,none⟩ (.int .i64 a)) r v l {s with at_:=a}/\cl (λb=>b=r) w (w.setCell ⟨r,1,none⟩ (.int .i64 a)):=by
 have c:cl (λb=>b=r) w (w.setCell ⟨r,1,none⟩ (.int .i64 a)):=(cl.refl (λb=>b=r) w).setCell (.inl rfl) _ _;exact⟨⟨by simp[go_sem,h.blk],h.rd.mod c λb f e=>h.ne (by rw[<-e];exact f),d,h.ne,h.len⟩,c⟩
def fJ{w:World}{K:cm}{r most:Nat}{v:Value}{l:List UInt8}{s:Rs}(h:dz w r v l s)(y:most<18446744073709551616)
  (j:∀c,dz c r v l (cN l most s).2->cl (λb=>b=r) w c->K (.int .u64 (cN l most s).1) c):Ca Tryz.prog 69 #[fW r,.int .u64 most] w K:=by
 apply Qi;refine AC h ?_;by_cases u:s.e≠0
 ·rw[ci,if_pos (by simpa using u)];have f:cN l most s=(0,s):=by unfold cN;rw[if_pos u]
  rw[f]at j;exact j _ h (cl.refl _ _)
 rw[ci,if_neg (by simpa using u)];have D:s.e=0:=by omega
 have f:cN l most s=match uV (l.drop s.at_) 0 0 with
  | .error e=>(0,{s with e:=e})
  | .ok (n,k)=>if most<n then(0,{s with e:=5})else(n,{s with at_:=s.at_+k}):=by unfold cN;rw[if_neg u]<;>cases uV (l.drop s.at_) 0 0<;>rfl
 refine Ll h λa t=>?_;have h1:=h.mod t id λ_ _ h=>h
 have o:∀(e n k:Nat) (a:World),dz a r v l s->cl (λ_=>False) w a->s.at_+k<=l.length->
   (if e≠0 then cN l most s=(0,{s with e:=e})else cN l most s=(n,{s with at_:=s.at_+k}))->
   BO (fW r) K (.int .i64 (s.at_+k:Nat)) (.int .u64 n) (.int .i64 e,()) a:=by
  intro e n k a h1 t E x;unfold BO;intro _;have B:∀z,cl (λb=>b=r) a z->cl (λb=>b=r) w z:=λz C=>(t.mono λ_ _ h=>h.elim).trans C;by_cases A:e≠0
  ·rw[if_pos A]at x;rw[x]at j;have i:¬(e:Int)=0:=by omega
   refine ck (v:=.bool true) (w' :=a) (by simp[go_sem,i];omega) ?_;rw[ci,if_pos rfl];obtain⟨q,m⟩:=h1.fault e;simp only[fW,cw];refine ck (v:=.pointer (some ⟨r,2,none⟩)) (w' :=a) (by simp[go_sem]) ?_;refine dI (w' :=a.setCell ⟨r,2,none⟩ (.int .i64 e)) (by simp[go_sem,h1.blk]) ?_;exact j _ q (B _ m)
  ·rw[if_neg A]at x;rw[x]at j;have i:(e:Int)=0:=by omega
   refine ck (v:=.bool false) (w' :=a) (by simp[go_sem,i]) ?_;rw[ci,if_neg Bool.false_ne_true];obtain⟨q,m⟩:=h1.go (s.at_+k) E;simp only[fW,cw];refine ck (v:=.pointer (some ⟨r,1,none⟩)) (w' :=a) (by simp[go_sem]) ?_;refine dI (w' :=a.setCell ⟨r,1,none⟩ (.int .i64 (s.at_+k:Nat))) (by simp[-Int.natCast_add,go_sem,h1.blk]) ?_;exact j _ q (B _ m)
 cases g:uV (l.drop s.at_) 0 0 with
 |error e=>
  have F:=Im g;unfold zw;rw[g]at f|-;simp only at f|-;refine ck (v:=.int .u64 0) (w' :=a) (by simp[go_sem]) ?_;refine ck (v:=.int .i64 0) (w' :=a) (by simp[go_sem]) ?_;refine ck (v:=.int .i64 e) (w' :=a) (by simp[go_sem]) ?_;refine cB.at (λst W=>st=(.int .i64 e,())/\W=a) ?_ ?_
  ·refine cB.at (λst W=>st=(.bool false,())/\W=a) ?_ ?_
   ·have i:¬(e:Int)=0:=by omega
    refine ck (v:=.bool false) (w' :=a) (by simp[go_sem];omega) ?_;rw[ci,if_neg Bool.false_ne_true];exact⟨rfl,rfl⟩
   ·rintro _ a ⟨rfl,rfl⟩;unfold Gd;intro _;rw[ci,if_neg Bool.false_ne_true];exact⟨rfl,rfl⟩
  ·rintro _ a ⟨rfl,rfl⟩;have I:e≠0:=by omega
   unfold BO;intro _;rw[f]at j;refine ck (v:=.bool true) (w' :=a) (by simp[go_sem];omega) ?_;rw[ci,if_pos rfl];obtain⟨q,m⟩:=h1.fault e;simp only[fW,cw];refine ck (v:=.pointer (some ⟨r,2,none⟩)) (w' :=a) (by simp[go_sem]) ?_;refine dI (w' :=a.setCell ⟨r,2,none⟩ (.int .i64 e)) (by simp[go_sem,h1.blk]) ?_;exact j _ q ((t.mono λ_ _ h=>h.elim).trans m)
 |ok p=>
  obtain⟨n,k⟩:=p;have G:=G9 g;have H:=h.le;rw[List.length_drop]at G;unfold zw;rw[g]at f|-;simp only at f|-;refine ck (v:=.int .u64 n) (w' :=a) (by simp[go_sem]) ?_;refine ck (v:=.int .i64 (s.at_+k:Nat)) (w' :=a) (by simp[go_sem]) ?_;refine ck (v:=.int .i64 0) (w' :=a) (by simp[go_sem]) ?_;refine cB.at (λst W=>st=(.int .i64 (if most<n then 5 else 0:Nat),())/\W=a) ?_ ?_
  ·refine cB.at (λst W=>st=(.bool (decide (most<n)),())/\W=a) ?_ ?_
   ·refine ck (v:=.bool true) (w' :=a) (by simp[go_sem]) ?_;rw[ci,if_pos rfl];refine ck (v:=.bool (decide (most<n))) (w' :=a) (by simp[go_sem]) ?_;exact⟨rfl,rfl⟩
   ·rintro _ a ⟨rfl,rfl⟩;unfold Gd;intro _;by_cases d:most<n
    ·rw[ci,if_pos (by simpa using d),if_pos d];simp
    ·rw[ci,if_neg (by simpa using d),if_neg d];simp
  ·rintro _ a ⟨rfl,rfl⟩;refine o (if most<n then 5 else 0) n k _ h1 t (by omega) ?_;by_cases d:most<n
   ·rw[if_pos d]at f|-;rw[if_pos (by decide)];exact f
   ·rw[if_neg d]at f|-;rw[if_neg (by simp)];exact f
def BC{w:World}{K:cm}{r:Nat}{v:Value}{l:List UInt8}{s:Rs}(h:dz w r v l s)
  (c:∀a,dz a r v l (cN l 18446744073709551615 s).2->cl (λb=>b=r) w a->K (.int .u64 (cN l 18446744073709551615 s).1) a):Ca Tryz.prog 61 #[fW r] w K:=by
 apply QE;exact fJ h (by decide) c
def qp{w:World}{K:cm}{r:Nat}{v:Value}{l:List UInt8}{s:Rs}(h:dz w r v l s)
  (g:∀b,cl (λ_=>False) w b->K (.int .i64 (en l s)) b):Ca Tryz.prog 74 #[fW r] w K:=by
 have d:=h.blk;obtain⟨a,c,rfl⟩:=h.rd.isSl;apply QR;refine ck (v:=.bool false) (w' :=w) (by simp[go_sem,fW]) ?_;rw[ci,if_neg Bool.false_ne_true];refine cB.at (λst W=>st=(.bool (decide (s.e=0/\s.at_<l.length)),())/\W=w.drew) ?_ ?_
 ·simp only[fW,cw];refine cq (v:=.pointer (some ⟨r,2,none⟩)) (λW=>by simp[go_sem]) ?_;refine cx (v:=.int .i64 s.e) (by simp[go_sem,d]) ?_;by_cases f:s.e=0
  ·refine cq (v:=.bool true) (λW=>by simp[go_sem,f]) ?_;rw[ci,if_pos rfl];refine cq (v:=.pointer (some ⟨r,1,none⟩)) (λW=>by simp[go_sem]) ?_;refine cx (v:=.int .i64 s.at_) (by simp[go_sem,d]) ?_;refine cq (v:=.pointer (some ⟨r,0,none⟩)) (λW=>by simp[go_sem]) ?_;refine cx (v:=.slice a l.length c) (by simp[go_sem,d]) ?_;refine cx (v:=.int .i64 l.length) (by simp[go_sem]) ?_;refine cq (v:=.bool (decide (s.at_<l.length))) (λW=>by simp[go_sem]) ?_;simp[f]
  ·refine cq (v:=.bool false) (λW=>by simp[go_sem];omega) ?_;rw[ci,if_neg Bool.false_ne_true];simp[f]
 rintro _ _ ⟨rfl,rfl⟩;unfold JB;intro _;have i:cl (λ_=>False) w w.drew:=(cl.refl _ w).drew;by_cases e:s.e=0/\s.at_<l.length
 ·rw[ci,if_pos (by simpa using e)];have:=g _ i;unfold en at this;rw[if_pos e]at this;exact this
 ·rw[ci,if_neg (by simpa using e)];have:=g _ i;unfold en at this;rw[if_neg e]at this;simp only[fW,cw];refine ck (v:=.pointer (some ⟨r,2,none⟩)) (w' :=w.drew) (by simp[go_sem]) ?_;refine ck (v:=.int .i64 s.e) (w' :=w.drew) (by simp[go_sem,d]) ?_;exact this
end Go.Proofs
namespace Go.Proofs
open Go Go.Vc
def xR(x:Int):Nat:=if 0<=x then 2*x.toNat else 2*(-x - 1).toNat+1
def JZ(n:Nat):Int:=if n%2=0 then(n / 2:Nat)else -((n / 2:Nat):Int) - 1
def Ja(x:Int):JZ (xR x)=x:=by
 unfold xR;by_cases h:0<=x
 ·rw[if_pos h];unfold JZ;rw[if_pos (by omega)];omega
 ·rw[if_neg h];unfold JZ;rw[if_neg (by omega)];omega
def tM{x:Int}(h:eQ x):xR x<18446744073709551616:=by
 unfold xR;split<;>omega
def IJ{n:Nat}(h:n<18446744073709551616):eQ (JZ n):=by
 unfold JZ;split<;>(constructor<;>omega)
def cE(x:Int):List UInt8:=eG x.toNat
def dG(x:Int):List UInt8:=eG (xR x)
def eK(f:Bool):List UInt8:=[if f then 1 else 0]
def vu(s:Sp):List UInt8:=
 if s.may then cE s.num++(cE s.route++(cE s.tick++(cE s.lot++(cE s.band++cE s.limit))))++s.shifts.toList.flatMap dG++(cE s.credit++(cE s.last++cE s.first))else []
def qQ(a:Ac):List UInt8:=cE a.num++(dG a.cash++(eK a.kil++eK a.dfl))
def qD(k:Ct):List UInt8:=vu k.spec++(cE k.st++dG k.price)
def pM(p:Po):List UInt8:=cE p.c++(cE p.a++(dG p.q++dG p.b))
def jl(x:Int×Od):List UInt8:=cE x.1++(cE x.2.num++(cE x.2.acct++(eK x.2.buy++(dG x.2.price++dG x.2.left))))
def gG{α:Type}(f:α->List UInt8)(l:List α):List UInt8:=eG l.length++l.flatMap f
def kF(s:iq):List UInt8:=cE s.day++(cE s.next++(dG s.fund++(gG qQ s.accts++(gG qD s.cts++(gG pM s.poss++(gG jl s.ords++gG jl s.bids))))))
def cM(l:List UInt8)(most:Nat)(s:Rs):Int×Rs:=((cN l most s).1,(cN l most s).2)
def dQ(l:List UInt8)(s:Rs):Int×Rs:=(JZ (cN l 18446744073709551615 s).1,(cN l 18446744073709551615 s).2)
def gz(l:List UInt8)(s:Rs):Bool×Rs:=
 if s.e≠0 then(false,s)else if s.at_=l.length then(false,{s with e:=4})
 else if 1<(l.getD s.at_ 0).toNat then(false,{s with e:=5})else(decide ((l.getD s.at_ 0).toNat=1),{s with at_:=s.at_+1})
def An(e:Nat)(s:Rs):Rs:=if s.e≠0 then s else{s with e:=e}
def er(l:List UInt8):Nat->Rs->List Int×Rs
 |0,s=>([],s)
 |n+1,s=>((dQ l s).1::(er l n (dQ l s).2).1,(er l n (dQ l s).2).2)
def pJ(l:List UInt8):∀(n:Nat) (s:Rs),(er l n s).1.length=n
 |0,s=>rfl
 |n+1,s=>by simp only[er,List.length_cons,pJ l n]
def jj:Nat:=4294967295
def iM:Nat:=9223372036854775807
def xw:Nat:=18446744073709551615
def lQ(l:List UInt8)(s:Rs):Sp×Rs:=
 let a:=cM l jj s;let b:=cM l 255 a.2;let c:=cM l iM b.2;let d:=cM l iM c.2;let e:=cM l iM d.2;let f:=cM l iM e.2;let g:=er l 16 f.2;let h:=cM l iM g.2;let i:=cM l jj h.2;let j:=cM l iM i.2
 (⟨a.1,b.1,c.1,d.1,e.1,f.1,⟨g.1.toArray,by simp[g,pJ]⟩,h.1,i.1,j.1⟩,j.2)
def lw(l:List UInt8)(s:Rs):Sp×Rs:=if(lQ l s).1.may then lQ l s else(ng,An 5 (lQ l s).2)
def pv(l:List UInt8)(s:Rs):Ac×Rs:=
 let a:=cM l jj s;let b:=dQ l a.2;let c:=gz l b.2;let d:=gz l c.2
 (⟨a.1,b.1,c.1,d.1⟩,d.2)
def mJ(l:List UInt8)(s:Rs):Ct×Rs:=
 let a:=lw l s;let b:=cM l 255 a.2;let c:=dQ l b.2
 (⟨a.1,b.1,c.1⟩,c.2)
def pI(l:List UInt8)(s:Rs):Po×Rs:=
 let a:=cM l jj s;let b:=cM l jj a.2;let c:=dQ l b.2;let d:=dQ l c.2
 (⟨a.1,b.1,c.1,d.1⟩,d.2)
def kC(l:List UInt8)(s:Rs):(Int×Od)×Rs:=
 let a:=cM l jj s;let b:=cM l xw a.2;let c:=cM l jj b.2;let d:=gz l c.2;let e:=dQ l d.2;let f:=dQ l e.2
 ((a.1,⟨b.1,c.1,d.1,e.1,f.1⟩),f.2)
def dY{α:Type}(l:List UInt8)(f:Rs->α×Rs):Nat->List α->Rs->List α×Rs
 |0,acc,s=>(acc,s)
 |n+1,acc,s=>if l.length - (f s).2.at_=0/\en l (f s).2≠0 then([],(f s).2)else dY l f n (acc++[(f s).1]) (f s).2
def dO{α:Type}(l:List UInt8)(f:Rs->α×Rs)(most:Nat)(s:Rs):List α×Rs:=dY l f (cN l most s).1 [] (cN l most s).2
def jq(l:List UInt8):iq×Rs:=
 let a:=cM l jj ⟨0,0⟩;let b:=cM l xw a.2;let c:=dQ l b.2;let d:=dO l (pv l) 64 c.2;let e:=dO l (mJ l) 16 d.2;let f:=dO l (pI l) 1024 e.2;let g:=dO l (kC l) 3200 f.2;let h:=dO l (kC l) 800 g.2
 (⟨a.1,b.1,c.1,d.1,e.1,f.1,g.1,h.1⟩,h.2)
attribute [local irreducible] cM dQ gz er
attribute [local irreducible] lw pv mJ pI kC dO
end Go.Proofs
namespace Go.Proofs
open Go Go.Vc
attribute [local congr] cr
def Rl(a b:Nat)(W:World):(tf .lss 3 false (.int .i64 (a:Int)) (.int .i64 (b:Int))).run Tryz.prog W=.ok (.bool (decide (a<b))) W:=by simp[go_sem]
def Pe{i:Nat}(h:i<1000000)(W:World):(tf .add 3 true (.int .i64 (i:Int)) (.int .i64 1)).run Tryz.prog W=.ok (.int .i64 ((i+1:Nat):Int)) W:=by
 simp[go_sem];rw[cV (by omega) (by omega)]
def E6(a:Nat)(b:a<9223372036854775808):bits .xor .i64 (a:Int) 0=(a:Int):=by
 show IntKind.i64.wrap ((BitVec.ofInt 64 (a:Int) ^^^ BitVec.ofInt 64 0).toNat:Int)=_;have h1:BitVec.ofInt 64 0=0#64:=by decide
 rw[h1,BitVec.xor_zero,ofInt_u64 a (by omega)];simp[IntKind.wrap,IntKind.bits,IntKind.signed];omega
def Ge(a:Nat)(b:a<9223372036854775808):bits .xor .i64 (a:Int) (-1)= -1 - (a:Int):=by
 rw[<-i64_not a b];show IntKind.i64.wrap ((BitVec.ofInt 64 (a:Int) ^^^ BitVec.ofInt 64 (-1)).toNat:Int)=IntKind.i64.wrap ((BitVec.ofInt 64 (-1) ^^^ BitVec.ofInt 64 (a:Int)).toNat:Int);rw[BitVec.xor_comm]
def Fg(a:Nat)(b:a<18446744073709551616):bits .xor .u64 (a:Int) 18446744073709551615=((18446744073709551615 - a:Nat):Int):=by
 show IntKind.u64.wrap ((BitVec.ofInt 64 (a:Int) ^^^ BitVec.ofInt 64 18446744073709551615).toNat:Int)=_;have h1:BitVec.ofInt 64 18446744073709551615=BitVec.allOnes 64:=by decide
 rw[h1,BitVec.xor_allOnes,BitVec.toNat_not,ofInt_u64 a b,IntKind.wrap_u64];omega
def FU(a:Nat)(b:a<18446744073709551616):bits .xor .u64 (a:Int) 0=(a:Int):=by
 have:=u64_xor_nat a 0 b (by omega);simpa using this
def lr{w:World}{K:cm}{r:Nat}{v:Value}{l:List UInt8}{s:Rs}(h:dz w r v l s)
  (f:∀a,dz a r v l (dQ l s).2->cl (λb=>b=r) w a->K (.int .i64 (dQ l s).1) a):Ca Tryz.prog 62 #[fW r] w K:=by
 apply Ry;refine BC h λc h1 g=>?_;have d:=f c h1 g;unfold dQ at d;simp only at d;have i:(cN l 18446744073709551615 s).1<=18446744073709551615:=fB;generalize(cN l 18446744073709551615 s).1=n at d i|-;refine ck (v:=.int .u64 ((n / 2:Nat):Int)) (w' :=c) (by simp[go_sem]) ?_;refine ck (v:=.int .i64 ((n / 2:Nat):Int)) (w' :=c) (by simp[-Int.natCast_ediv,go_sem];rw[cV (by omega) (by omega)]) ?_;refine ck (v:=.int .u64 ((n%2:Nat):Int)) (w' :=c) (by simp only[go_sem];simp[-Int.natCast_emod,go_sem];rw[show(1:Int)=((1:Nat):Int)from rfl,u64_and_nat _ _ (by omega) (by omega),nat_mask1]) ?_;refine ck (v:=.int .i64 ((n%2:Nat):Int)) (w' :=c) (by simp[-Int.natCast_emod,go_sem];rw[cV (by omega) (by omega)]) ?_;by_cases e:n%2=0
 ·rw[e];refine ck (v:=.int .i64 0) (w' :=c) (by simp[go_sem];decide) ?_;refine ck (v:=.int .i64 ((n / 2:Nat):Int)) (w' :=c) (by simp only[go_sem];simp[-Int.natCast_ediv,go_sem];rw[E6 _ (by omega)]) ?_;unfold JZ at d;rw[if_pos e]at d;exact d
 ·rw[show n%2=1 by omega];refine ck (v:=.int .i64 (-1)) (w' :=c) (by simp[go_sem];decide) ?_;refine ck (v:=.int .i64 (-((n / 2:Nat):Int) - 1)) (w' :=c) (by simp only[go_sem];simp[-Int.natCast_ediv,go_sem];rw[Ge _ (by omega)];omega) ?_;unfold JZ at d;rw[if_neg e]at d;exact d
def wj(W:World){r:Nat}{v:Value}{l:List UInt8}{s:Rs}(h:dz W r v l s):(Instr.loadAt 54 (.pointer (some ⟨r,0,none⟩))).run Tryz.prog W=.ok v W/\(Instr.loadAt 3 (.pointer (some ⟨r,1,none⟩))).run Tryz.prog W=.ok (.int .i64 s.at_) W:=by
 obtain⟨a,c,rfl⟩:=h.rd.isSl;have b:=h.blk;exact⟨by simp[go_sem,b],by simp[go_sem,b]⟩
def rJ(i:Nat)(hi:i<3)(W:World){r:Nat}:(Instr.fieldAt 248 (.pointer (some ⟨r,0,none⟩)) i).run Tryz.prog W=.ok (.pointer (some ⟨r,i,none⟩)) W:=by
 have:i=0\/i=1\/i=2:=by omega
 rcases this with rfl|rfl|rfl<;>simp[go_sem]
def dz.drew{w:World}{r:Nat}{v:Value}{l:List UInt8}{s:Rs}(h:dz w r v l s):dz w.drew r v l s:=h.mod (cl.refl (λ_=>False) w).drew id λ_ _ h=>h
set_option maxRecDepth 10000 in
def tm{w:World}{K:cm}{r:Nat}{v:Value}{l:List UInt8}{s:Rs}(h:dz w r v l s)
  (c:∀k,dz k r v l (gz l s).2->cl (λb=>b=r) w k->K (.bool (gz l s).1) k):Ca Tryz.prog 65 #[fW r] w K:=by
 have N:=h.le;have G:=h.len;apply Rj;refine AC h ?_;unfold gz at c;by_cases u:s.e≠0
 ·rw[ci,if_pos (by simpa using u)];rw[if_pos u]at c;exact c _ h (cl.refl _ _)
 rw[ci,if_neg (by simpa using u)];rw[if_neg u]at c;obtain⟨P,vc,M⟩:=h.rd.isSl;have h1:=h.drew;have H:cl (λb=>b=r) w w.drew:=(cl.refl _ w).drew;simp only[fW,cw];refine cq (λW=>rJ 1 (by omega) W) (cx (wj _ h1).2 ?_);refine cq (λW=>rJ 0 (by omega) W) (cx (wj _ h1).1 ?_);refine cx (v:=.int .i64 l.length) (by rw[M];simp[go_sem]) ?_;refine cq (v:=.bool (decide (s.at_=l.length))) (λW=>by simp[go_sem];rw[Bool.eq_iff_iff];simp;omega) ?_;by_cases a:s.at_=l.length
 ·rw[if_pos a]at c;rw[ci,if_pos (by simpa using a)];obtain⟨p,m⟩:=h1.fault 4;refine ck (rJ 2 (by omega) _) (dI (w' :=w.drew.setCell ⟨r,2,none⟩ (.int .i64 4)) (by simp[go_sem,h1.blk]) ?_);exact c _ p (H.trans m)
 rw[if_neg a]at c;rw[ci,if_neg (by simpa using a)];have d:s.at_<l.length:=by omega
 have f:=h1.drew;have z:cl (λb=>b=r) w w.drew.drew:=H.drew;generalize w.drew.drew=n at f z|-;obtain⟨b,q,J,C,L,I,j,F,D,A⟩:=Rd.byte f.rd d d;have y:l.getD s.at_ 0=l[s.at_]:=by simp[d]
 rw[y]at c;generalize l[s.at_]=x at A c;refine cq (λW=>rJ 0 (by omega) W) (cx (wj _ f).1 ?_);refine cq (λW=>rJ 1 (by omega) W) (cx (wj _ f).2 ?_);have i:¬(l.length:Int)<=(s.at_:Int):=by omega
 refine cq (v:=.pointer (some ⟨b,q+s.at_,none⟩)) (λW=>by rw[j];simp[go_sem,i,d,cC]) ?_;refine cx (v:=.int .u8 (x.toNat:Int)) (by simp[go_sem,D,A]) ?_;refine cq (v:=.bool (decide (1<x.toNat))) (λW=>by simp[go_sem];omega) ?_;by_cases g:1<x.toNat
 ·rw[if_pos g]at c;rw[ci,if_pos (by simpa using g)];obtain⟨p,m⟩:=f.fault 5;refine ck (rJ 2 (by omega) _) (dI (w' :=n.setCell ⟨r,2,none⟩ (.int .i64 5)) (by simp[go_sem,f.blk]) ?_);exact c _ p (z.trans m)
 rw[if_neg g]at c;rw[ci,if_neg (by simpa using g)];refine ck (rJ 1 (by omega) _) (ck (wj _ f).2 ?_);refine ck (v:=.int .i64 ((s.at_+1:Nat):Int)) (w' :=n) (by simp[go_sem];rw[cV (by omega) (by omega)]) ?_;obtain⟨p,m⟩:=f.go (s.at_+1) (by omega);refine ck (rJ 1 (by omega) _) (dI (w' :=n.setCell ⟨r,1,none⟩ (.int .i64 (s.at_+1:Nat))) (by simp[-Int.natCast_add,go_sem,f.blk]) ?_);have t:=p.drew;have E:cl (λb=>b=r) w (n.setCell ⟨r,1,none⟩ (.int .i64 (s.at_+1:Nat))).drew:=(z.trans m).drew;have B:b≠r:=λe=>f.ne (by rw[j,<-e];exact⟨_,_,_,rfl,by omega,rfl⟩);have o:hp (n.setCell ⟨r,1,none⟩ (.int .i64 (s.at_+1:Nat))).drew b=some (.cells C L I):=(m.drew).hpk D B;generalize(n.setCell ⟨r,1,none⟩ (.int .i64 (s.at_+1:Nat))).drew=O at t E o|-;refine cq (λW=>rJ 0 (by omega) W) (cx (wj _ t).1 ?_);refine cq (λW=>rJ 1 (by omega) W) (cx (wj _ t).2 ?_);refine cq (v:=.int .i64 (s.at_:Int)) (λW=>by simp[go_sem];rw[cV (by omega) (by omega)]) ?_;refine cq (v:=.pointer (some ⟨b,q+s.at_,none⟩)) (λW=>by rw[j];simp[go_sem,i,d,cC]) ?_;refine cx (v:=.int .u8 (x.toNat:Int)) (by simp[go_sem,o,A]) ?_;refine cq (v:=.bool (decide (x.toNat=1))) (λW=>by simp[go_sem];rw[Bool.eq_iff_iff];simp;omega) ?_;exact c _ t E
def qh{w:World}{K:cm}{r:Nat}{v:Value}{l:List UInt8}{s:Rs}(h:dz w r v l s)
  (e:∀a,cl (λ_=>False) w a->K (.int .i64 ((l.length - s.at_:Nat):Int)) a):Ca Tryz.prog 147 #[fW r] w K:=by
 have d:=h.le;have b:=h.len;apply OG;refine ck (v:=.bool false) (w' :=w) (by simp[go_sem,fW]) ?_;rw[ci,if_neg Bool.false_ne_true];simp only[fW,cw];have h1:=h.drew;obtain⟨f,vc,c⟩:=h.rd.isSl;refine cq (λW=>rJ 0 (by omega) W) (cx (wj _ h1).1 ?_);refine cx (v:=.int .i64 l.length) (by rw[c];simp[go_sem]) ?_;refine cq (λW=>rJ 1 (by omega) W) (cx (wj _ h1).2 ?_);refine cq (v:=.int .i64 ((l.length - s.at_:Nat):Int)) (λW=>by simp[go_sem];rw[cV (by omega) (by omega)];omega) ?_;exact e _ (cl.refl _ w).drew
def GI{w:World}{K:cm}{r e:Nat}{v:Value}{l:List UInt8}{s:Rs}(h:dz w r v l s)
  (c:∀a,dz a r v l (An e s)->cl (λb=>b=r) w a->K (.tuple #[]) a):Ca Tryz.prog 149 #[fW r,.int .i64 e] w K:=by
 apply OS;refine AC h ?_;refine ck (v:=.bool (decide (s.e=0))) (w' :=w) (by simp[go_sem]) ?_;unfold An at c;by_cases d:s.e≠0
 ·rw[if_pos d]at c;rw[ci,if_neg (by simpa using d)];exact c _ h (cl.refl _ _)
 ·rw[if_neg d]at c;rw[ci,if_pos (by simpa using d)];simp only[fW,cw];obtain⟨g,f⟩:=h.fault e;refine ck (rJ 2 (by omega) _) (dI (w' :=w.setCell ⟨r,2,none⟩ (.int .i64 e)) (by simp[go_sem,h.blk]) ?_);exact c _ g f
def Dg{x:Int}{w:World}{K:cm}(h:eQ x)(a:K (.int .u64 (xR x:Int)) w):Ca Tryz.prog 240 #[.int .i64 x] w K:=by
 apply PG;by_cases b:0<=x
 ·obtain⟨n,rfl⟩:=Int.eq_ofNat_of_zero_le b;have c:xR ((n:Nat):Int)=2*n:=by unfold xR;rw[if_pos b];simp
  rw[c]at a;refine ck (v:=.int .u64 (n:Int)) (w' :=w) (by simp[go_sem];rw[fG (by omega) (by omega)]) ?_;refine ck (v:=.int .u64 ((2*n:Nat):Int)) (w' :=w) (by simp[-Int.natCast_mul,go_sem];rw[fG (by omega) (by omega)];omega) ?_;refine ck (v:=.int .i64 0) (w' :=w) (by simp[go_sem];omega) ?_;refine ck (v:=.int .u64 0) (w' :=w) (by simp[go_sem];decide) ?_;refine ck (v:=.int .u64 ((2*n:Nat):Int)) (w' :=w) (by simp only[go_sem];simp[-Int.natCast_mul,go_sem];rw[FU _ (by omega)]) ?_;exact a
 ·have c:(xR x:Int)= -2*x - 1:=by unfold xR;rw[if_neg b];omega
  rw[c]at a;obtain⟨m,d⟩:∃m:Nat,(m:Int)=18446744073709551616+2*x:=⟨(18446744073709551616+2*x).toNat,by omega⟩
  refine ck (v:=.int .u64 (18446744073709551616+x)) (w' :=w) (by simp[go_sem];rw[IntKind.wrap_u64];omega) ?_;refine ck (v:=.int .u64 (m:Int)) (w' :=w) (by simp[go_sem];rw[IntKind.wrap_u64];omega) ?_;refine ck (v:=.int .i64 (-1)) (w' :=w) (by simp[go_sem];omega) ?_;refine ck (v:=.int .u64 18446744073709551615) (w' :=w) (by simp[go_sem];decide) ?_;refine ck (v:=.int .u64 (-2*x - 1)) (w' :=w) (by simp only[go_sem];simp[go_sem];rw[Fg _ (by omega)];omega) ?_;exact a
abbrev eg(w:World)(s:Value)(l:List UInt8):Prop:=dW w 5 1 s l.length (bv l)
def gy{w:World}{K:cm}{s:Value}{n:Nat}{l:List UInt8}(h:eg w s l)(g:n<18446744073709551616)(e:l.length<=1000000000)
  (f:∀a c,eg c a (l++eG n)->cl (co s) w c->(∀b,co a b->co s b\/w.heap.size<=b)->K a c):Ca Tryz.prog 100 #[s,.int .u64 n] w K:=
 IM h g e λa c o m d=>f a c (by unfold eg;rw[List.length_append];exact o) m d
def ko{w:World}{K:cm}{s:Value}{x:Int}{l:List UInt8}(h:eg w s l)(d:eQ x)(e:l.length<=1000000000)
  (f:∀a c,eg c a (l++dG x)->cl (co s) w c->(∀b,co a b->co s b\/w.heap.size<=b)->K a c):Ca Tryz.prog 154 #[s,.int .i64 x] w K:=by
 apply OE;refine Dg d ?_;exact gy h (tM d) e f
def uf{w:World}{K:cm}{s:Value}{f:Bool}{l:List UInt8}(h:eg w s l)(y:l.length<=1000000000)
  (n:∀c e,eg e c (l++eK f)->cl (co s) w e->(∀b,co c b->co s b\/w.heap.size<=b)->K c e):Ca Tryz.prog 157 #[s,.bool f] w K:=by
 have a:∀u:UInt8,eK f=[u]->rx Tryz.prog (dP MB 1 [(0,.int .u8 u.toNat)]) w λo x=>rx Tryz.prog (cv #[MB,MB] MB [s,o]) x K:=λu r=>by
  refine wM [u] rT (cI zx) rfl rfl (by omega) λv z p d A=>?_;refine dt (m:=1) rT rT (cI zx) (h.mod d λ_ _ h=>h) p.rd (rl _) (by omega) λt q g i k=>?_;refine n t q ?_ ((d.mono λ_ _ h=>h.elim).trans i) λb j=>(k b j).imp id λh=>by have:=d.size;omega
  rw[r];unfold eg;rw[<-kp]at g;rw[List.length_append];exact g
 apply NZ;cases f with
 |true=>rw[ci,if_pos rfl];exact a 1 rfl
 |false=>rw[ci,if_neg Bool.false_ne_true];exact a 0 rfl
end Go.Proofs
