/- Part of a proof. -/
import Derived.Lib.Overlaps
import Derived.Test.YtgebhcgmckjbbaaGreatP6
set_option linter.all false
namespace Go.Proofs
open Go Go.Vc
attribute [local congr] cq
structure fg(w:World)(r:Nat)(v:Value)(l:List UInt8)(s:Rs):Prop where
 out:∃vB,hp w r=some (.cells #[vB,.int .i64 s.e] 154 (0,0))/\Rd w 1 vB (l.length - s.at_) (bv (l.drop s.at_))/\∀b,eh vB b->eh v b
 le:s.at_<=l.length
 ne:¬eh v r
 len:l.length<=1000000000
 rd:Rd w 1 v l.length (bv l)
def fg.mod{F:Nat->Prop}{w w' :World}{r:Nat}{v:Value}{l:List UInt8}{s:Rs}(h:fg w r v l s)(c:cl F w w')(h1:¬F r)(d:∀b,eh v b->¬F b):fg w' r v l s:=by
 obtain⟨⟨i,a,f,e⟩,k,g,j,m⟩:=h;exact⟨⟨i,c.keep a h1,f.mod c λb a=>d b (e b a),e⟩,k,g,j,m.mod c d⟩
def BJ(l:List UInt8):Value:=
 match oZ l 0 0 with
 | .error e=>.tuple #[.int .u64 0,.int .i64 0,.int .i64 e]
 | .ok (n,k)=>.tuple #[.int .u64 n,.int .i64 k,.int .i64 0]
def ww:∀(l:List UInt8) (j:Nat),nm (l.drop j)<=nm l
 | [],j=>by simp
 |x::r,0=>Nat.le_refl _
 |x::r,j+1=>by
  have:=ww r j;simp only[List.drop_succ_cons,nm];omega
def Gj{L:List UInt8}{k:Nat}(c:k<=ff L)(a:k<L.length):(128<=(L[k]).toNat->k+1<=ff L)/\(¬128<=(L[k]).toNat->ff L=k):=by
 induction L generalizing k with
 |nil=>simp at a
 |cons x r e=>
  by_cases d:x.toNat<128
  ·have b:ff (x::r)=0:=by simp only[ff];rw[if_pos d]
   rw[b]at c|-;obtain rfl:k=0:=by omega
   simp only[List.getElem_cons_zero];exact⟨λh=>absurd h (by omega),λ_=>by trivial⟩
  ·have b:ff (x::r)=ff r+1:=by simp only[ff];rw[if_neg d]
   rw[b]at c|-;cases k with
   |zero=>simp only[List.getElem_cons_zero];omega
   |succ k=>
    have:=e (k:=k) (by omega) (by simpa using a);simp only[List.getElem_cons_succ];omega
set_option maxRecDepth 10000 in
def JV{w:World}{K:cm}{r:Nat}{v:Value}{l:List UInt8}{s:Rs}(h:fg w r v l s)(o:K (BJ (l.drop s.at_)) w):Ca Tryz.prog 151 #[dJ r] w K:=by
 obtain⟨⟨vB,hb,R,M⟩,hle,-,hlen,-⟩:=h;obtain⟨L,hL⟩:∃L,L=l.drop s.at_:=⟨_,rfl⟩
 rw[<-hL]at R o;have hLl:L.length=l.length - s.at_:=by rw[hL];simp
 rw[<-hLl]at R;obtain⟨a,c,P⟩:=R.isSl;have U:L.length<=1000000000:=by omega
 unfold BJ at o;rw[ut]at o;apply Ph
 refine dp (λst W=>∃k:Nat,k<=ff L/\k<=L.length/\st=(.int .i64 (k:Int),())/\W=w)
  (λst _=>match st.1 with| .int _ i=>L.length - i.toNat|_=>0) ⟨0,by omega,by omega,rfl,rfl⟩ ?_
 rintro⟨_,_⟩ W ⟨k,hk,hkl,⟨⟩,rfl⟩ KN y;unfold FK;intro _
 have d:∀i:Nat,∀M:i<L.length,∃p,(∀kk:IntKind,(Instr.indexAt LP vB (.int kk (i:Int))).run Tryz.prog W=.ok p W)/\(Instr.loadAt 5 p).run Tryz.prog W=.ok (.int .u8 ((L[i]).toNat:Int)) W:=by
  intro i M;obtain⟨b,off,cap,C,e,fz,hv2,hcap,hC,hCi⟩:=R.byte (i:=i) M M;refine⟨.pointer (some ⟨b,off+i,none⟩),λkk=>?_,?_⟩
  ·rw[hv2];simp[go_sem,M,cE,ny]
  ·simp[go_sem,hC,hCi]
 have q:(Instr.fieldAt 154 (.pointer (some ⟨r,0,none⟩)) 0).run Tryz.prog W=.ok (.pointer (some ⟨r,0,none⟩)) W:=by simp[go_sem]
 have t:(Instr.loadAt LP (.pointer (some ⟨r,0,none⟩))).run Tryz.prog W=.ok vB W:=by simp[go_sem,hb]
 refine cy.at (λst f=>st=(.bool (decide (k<ff L)),())/\f=W) ?_ ?_
 ·simp only[dJ,cr];refine ck q (ck t ?_);refine fI (v:=.int .i64 L.length) (w' :=W) (by rw[P];simp[go_sem]) ?_;by_cases n:k<L.length
  ·obtain⟨p,h1,h2⟩:=d k n;refine ck (v:=.bool true) (w' :=W) (by simp[go_sem,n]) ?_;rw[ci,if_pos rfl];refine ck q (ck t (ck (h1 _) (ck h2 ?_)));refine ck (v:=.bool (decide ((128:Int)<=((L[k]).toNat:Int)))) (w' :=W) (by simp[go_sem]) ?_;refine⟨?_,rfl⟩;have:=Gj hk n;have e:decide ((128:Int)<=((L[k]).toNat:Int))=decide (k<ff L):=by rw[decide_eq_decide];omega
   rw[e]
  ·have hck:=AR L;refine ck (v:=.bool false) (w' :=W) (by simp[go_sem,n]) ?_;rw[ci,if_neg Bool.false_ne_true];have:¬k<ff L:=by omega
   simp[this]
 rintro _ W ⟨rfl,rfl⟩;unfold Fh;intro _;by_cases H:k<ff L
 ·rw[ci,if_pos (by simpa using H)];have hck:=AR L;refine ck (v:=.int .i64 ((k+1:Nat):Int)) (w' :=W) (by simp[go_sem];rw[cS (by omega) (by omega)]) ?_;refine y _ _ ⟨k+1,by omega,by omega,rfl,rfl⟩ ?_;show L.length - (((k+1:Nat):Int)).toNat<L.length - ((k:Int)).toNat;omega
 rw[ci,if_neg (by simpa using H)];obtain rfl:k=ff L:=by omega
 clear y;simp only[dJ,cr];refine ck q (ck t ?_);refine fI (v:=.int .i64 L.length) (w' :=W) (by rw[P];simp[go_sem]) ?_;unfold In at o;by_cases g:L.length<=ff L
 ·rw[if_pos g]at o;refine ck (v:=.bool true) (w' :=W) (by simp[go_sem,g]) ?_;rw[ci,if_pos rfl];by_cases I:10<=ff L
  ·rw[if_pos I]at o;have x:(10:Int)<=(ff L:Int):=by omega
   refine ck (v:=.bool true) (w' :=W) (by simp[go_sem,x]) ?_;rw[ci,if_pos rfl];exact o
  ·rw[if_neg I]at o;have x:¬(10:Int)<=(ff L:Int):=by omega
   refine ck (v:=.bool false) (w' :=W) (by simp[go_sem,x]) ?_;rw[ci,if_neg Bool.false_ne_true];exact o
 rw[if_neg g]at o;have n:ff L<L.length:=by omega
 refine ck (v:=.bool false) (w' :=W) (by simp[go_sem,g]) ?_;rw[ci,if_neg Bool.false_ne_true];obtain⟨pk,N,F⟩:=d (ff L) n;have hgk:L.getD (ff L) 0=L[ff L]:=by simp[n]
 have zk:∀z:Value×Unit->World->Prop,z (.bool (decide (0<ff L/\(L.getD (ff L) 0).toNat=0)),()) W->
   (rv Tryz.prog (nE .gtr 3 true (.int .i64 (ff L:Int)) (.int .i64 0)) W λv70 J=>
    cC v70
     (cF (.pointer (some ⟨r,0,none⟩)) λv72=>rv Tryz.prog (Instr.fieldAt 154 v72 0) J λv73 w74=>
      rv Tryz.prog (Instr.loadAt LP v73) w74 λv75 w76=>
      rv Tryz.prog (Instr.indexAt LP v75 (.int .i64 (ff L:Int))) w76 λv77 w78=>
      rv Tryz.prog (Instr.loadAt 5 v77) w78 λv79 w80=>
      rv Tryz.prog (nE .eql 5 true v79 (.int .u8 0)) w80 λv81 w82=>z (v81,()) w82)
     (z (.bool false,()) J)):=by
  intro z V;by_cases S:0<ff L
  ·refine ck (v:=.bool true) (w' :=W) (by simp[go_sem,S]) ?_;rw[ci,if_pos rfl];simp only[cr];refine ck q (ck t (ck (N _) (ck F ?_)));refine ck (v:=.bool (decide ((L[ff L]).toNat=0))) (w' :=W) ?_ ?_
   ·have e:((L[ff L]).toNat=0)↔L[ff L]=0:=⟨λh=>UInt8.toNat_inj.1 h,λh=>by rw[h];rfl⟩
    simp[go_sem,e];rw[Bool.eq_iff_iff];simp only[beq_iff_eq,decide_eq_true_eq];rw[<-e];omega
   rw[hgk]at V;simpa [S]using V
  ·refine ck (v:=.bool false) (w' :=W) (by simp[go_sem,S]) ?_;rw[ci,if_neg Bool.false_ne_true];simpa [S]using V
 refine cy.at (λst f=>st=(.bool (decide (9<ff L\/ff L=9/\1<(L.getD 9 0).toNat\/0<ff L/\(L.getD (ff L) 0).toNat=0)),())/\f=W) ?_ ?_
 ·by_cases h9:9<ff L
  ·have B:(9:Int)<(ff L:Int):=by omega
   refine ck (v:=.bool true) (w' :=W) (by simp[go_sem,B]) ?_;rw[ci,if_pos rfl];simp[h9]
  ·have B:¬(9:Int)<(ff L:Int):=by omega
   refine ck (v:=.bool false) (w' :=W) (by simp[go_sem,B]) ?_;rw[ci,if_neg Bool.false_ne_true];by_cases G:ff L=9
   ·have u:(ff L:Int)=9:=by omega
    refine ck (v:=.bool true) (w' :=W) (by simp[go_sem,u]) ?_;rw[ci,if_pos rfl];have A:9<L.length:=by omega
    obtain⟨p9,E,D⟩:=d 9 A;have Q:L.getD 9 0=L[9]:=by simp[A]
    refine ck q (ck t (ck (E .i64) (ck D ?_)));refine ck (v:=.bool (decide (1<(L[9]).toNat))) (w' :=W) ?_ ?_
    ·simp only[go_sem];simp;omega
    by_cases h1:1<(L[9]).toNat
    ·rw[ci,if_pos (by simpa using h1)];refine⟨?_,rfl⟩;rw[Q];simp[G,h1]
    ·rw[ci,if_neg (by simpa using h1)];refine zk (λst f=>st=_/\f=W) ⟨?_,rfl⟩;rw[Q];simp[h9,h1]
   ·have u:¬(ff L:Int)=9:=by omega
    refine ck (v:=.bool false) (w' :=W) (by simp[go_sem,u]) ?_;rw[ci,if_neg Bool.false_ne_true];refine zk (λst f=>st=_/\f=W) ⟨?_,rfl⟩;simp[h9,G]
 rintro _ W ⟨rfl,rfl⟩;unfold Ez;intro _;by_cases m:9<ff L\/ff L=9/\1<(L.getD 9 0).toNat\/0<ff L/\(L.getD (ff L) 0).toNat=0
 ·rw[ci,if_pos (by simpa using m)];rw[if_pos m]at o;exact o
 rw[ci,if_neg (by simpa using m)]
 have Y:oZ L 0 0=.ok (nm (L.take (ff L+1)),ff L+1):=by
  rw[ut];unfold In;rw[if_neg g,if_neg m]
 rw[if_neg m]at o;have O:=(oz Y).2.2.2;obtain⟨X,T⟩:∃X,X=L.take (ff L+1):=⟨_,rfl⟩
 rw[<-T]at O o;have hXl:X.length=ff L+1:=by rw[T,List.length_take];omega
 refine dp (λst f=>∃j:Nat,j<=ff L+1/\st=(.int .u64 (nm (X.drop j):Int),.int .i64 ((j:Int) - 1),())/\f=W)
  (λst _=>match st.2.1 with| .int _ i=>(i+1).toNat|_=>0) ⟨ff L+1,by omega,by rw[List.drop_eq_nil_of_le (by omega)];simp[nm],rfl⟩ ?_
 rintro⟨_,_⟩ f ⟨j,hj,⟨⟩,rfl⟩ KN y;unfold GG;intro _;by_cases Z:j=0
 ·subst Z;refine ck (v:=.bool false) (w' :=f) (by simp[go_sem]) ?_;rw[ci,if_neg Bool.false_ne_true];refine ck (v:=.int .i64 ((ff L+1:Nat):Int)) (w' :=f) (by simp[go_sem];rw[cS (by omega) (by omega)]) ?_;exact o
 ·obtain⟨i,rfl⟩:∃i,j=i+1:=⟨j - 1,by omega⟩
  have hiL:i<L.length:=by omega
  obtain⟨p,E,D⟩:=d i hiL;have e1:(((i+1:Nat):Int) - 1)=(i:Int):=by omega
  rw[e1];have hgi:X[i]'(by omega)=L[i]:=by simp[T]
  have hdr:X.drop i=L[i]::X.drop (i+1):=by rw[List.drop_eq_getElem_cons (by omega),hgi]
  have hv:nm (X.drop i)=(L[i]).toNat%128+128*nm (X.drop (i+1)):=by rw[hdr];rfl
  have hle2:=ww X i;refine ck (v:=.bool true) (w' :=f) (by simp[go_sem]) ?_;rw[ci,if_pos rfl];refine ck (v:=.int .u64 ((nm (X.drop (i+1))*128:Nat):Int)) (w' :=f) (by simp[go_sem];rw[eP (by omega) (by omega)]) ?_;simp only[cr];refine ck q (ck t (ck (E _) (ck D ?_)));have hx:=(L[i]).toNat_lt;refine ck (v:=.int .u64 ((L[i]).toNat:Int)) (w' :=f) (by simp[go_sem];rw[eP (by omega) (by omega)]) ?_;refine ck (v:=.int .u64 (((L[i]).toNat%128:Nat):Int)) (w' :=f) (by simp[go_sem];try rw[Int.tmod_eq_emod_of_nonneg (by omega)]) ?_;refine ck (v:=.int .u64 (nm (X.drop i):Int)) (w' :=f) (by simp only[go_sem];simp;rw[eP (by omega) (by omega)];omega) ?_;refine ck (v:=.int .i64 ((i:Int) - 1)) (w' :=f) (by simp[go_sem];rw[cS (by omega) (by omega)]) ?_;refine y _ _ ⟨i,by omega,rfl,rfl⟩ ?_;show((i:Int) - 1+1).toNat<(((i+1:Nat):Int) - 1+1).toNat;omega
def fg.fault{w:World}{r:Nat}{v:Value}{l:List UInt8}{s:Rs}(h:fg w r v l s)(e:Nat):
  fg (w.setCell ⟨r,1,none⟩ (.int .i64 e)) r v l {s with e:=e}/\cl (λb=>b=r) w (w.setCell ⟨r,1,none⟩ (.int .i64 e)):=by
 have c:cl (λb=>b=r) w (w.setCell ⟨r,1,none⟩ (.int .i64 e)):=(cl.refl (λb=>b=r) w).setCell (.inl rfl) _ _;obtain⟨⟨j,a,g,f⟩,m,d,k,i⟩:=h;exact⟨⟨⟨j,by simp[go_sem,a],g.mod c λb a e=>d (by rw[<-e];exact f b a),f⟩,m,d,k,i.mod c λb a e=>d (by rw[<-e];exact a)⟩,c⟩
def fg.on{w:World}{r:Nat}{v j c:Value}{l:List UInt8}{s:Rs}(h:fg w r v l s){a:Nat}(i:a<=l.length)(d:hp w r=some (.cells #[j,.int .i64 s.e] 154 (0,0)))
  (g:Rd w 1 c (l.length - a) (bv (l.drop a)))(hi:∀b,eh c b->eh v b):
  fg (w.setCell ⟨r,0,none⟩ c) r v l {s with at_:=a}/\cl (λb=>b=r) w (w.setCell ⟨r,0,none⟩ c):=by
 have f:cl (λb=>b=r) w (w.setCell ⟨r,0,none⟩ c):=(cl.refl (λb=>b=r) w).setCell (.inl rfl) _ _;refine⟨⟨⟨c,by simp[go_sem,d],g.mod f λb d e=>h.ne (by rw[<-e];exact hi b d),hi⟩,i,h.ne,h.len,h.rd.mod f λb d e=>h.ne (by rw[<-e];exact d)⟩,f⟩
def fS{w:World}{K:cm}{r most:Nat}{v:Value}{l:List UInt8}{s:Rs}(h:fg w r v l s)(y:most<18446744073709551616)
  (m:∀c,fg c r v l (cw l most s).2->cl (λb=>b=r) w c->K (.int .u64 (cw l most s).1) c):Ca Tryz.prog 75 #[dJ r,.int .u64 most] w K:=by
 obtain⟨⟨J,j,G,M⟩,N,H,D,E⟩:=id h;apply Sh;simp only[dJ,cr];refine ck (v:=.pointer (some ⟨r,1,none⟩)) (w' :=w) (by simp[go_sem]) ?_;refine ck (v:=.int .i64 s.e) (w' :=w) (by simp[go_sem,j]) ?_;by_cases F:s.e≠0
 ·refine ck (v:=.bool true) (w' :=w) (by simp[go_sem];omega) ?_;rw[ci,if_pos rfl];have f:cw l most s=(0,s):=by unfold cw;rw[if_pos F]
  rw[f]at m;exact m _ h (cl.refl _ _)
 have t:s.e=0:=by omega
 refine ck (v:=.bool false) (w' :=w) (by simp[go_sem,t]) ?_;rw[ci,if_neg Bool.false_ne_true]
 have f:cw l most s=match oZ (l.drop s.at_) 0 0 with
  | .error e=>(0,{s with e:=e})
  | .ok (n,k)=>if most<n then(0,{s with e:=5})else(n,{s with at_:=s.at_+k}):=by unfold cw;rw[if_neg F]<;>cases oZ (l.drop s.at_) 0 0<;>rfl
 refine JV h ?_
 have bad:∀(e:Nat) (C q:Value),e≠0->cw l most s=(0,{s with e:=e})->BO (.pointer (some ⟨r,0,none⟩)) K q C (.int .i64 e,()) w:=by
  intro e C q R O;rw[O]at m;unfold BO;intro _;refine ck (v:=.bool true) (w' :=w) (by simp[go_sem];omega) ?_;rw[ci,if_pos rfl];obtain⟨z,u⟩:=h.fault e;simp only[cr];refine ck (v:=.pointer (some ⟨r,1,none⟩)) (w' :=w) (by simp[go_sem]) ?_;refine dt (w' :=w.setCell ⟨r,1,none⟩ (.int .i64 e)) (by simp[go_sem,j]) ?_;exact m _ z u
 cases i:oZ (l.drop s.at_) 0 0 with
 |error e=>
  have I:=B9 i;unfold BJ;rw[i]at f|-;simp only at f|-;refine ck (v:=.int .u64 0) (w' :=w) (by simp[go_sem]) ?_;refine ck (v:=.int .i64 0) (w' :=w) (by simp[go_sem]) ?_;refine ck (v:=.int .i64 e) (w' :=w) (by simp[go_sem]) ?_;refine cy.at (λst W=>st=(.int .i64 e,())/\W=w) ?_ ?_
  ·refine cy.at (λst W=>st=(.bool false,())/\W=w) ?_ ?_
   ·refine ck (v:=.bool false) (w' :=w) (by simp[go_sem];omega) ?_;rw[ci,if_neg Bool.false_ne_true];exact⟨rfl,rfl⟩
   ·rintro _ _ ⟨rfl,rfl⟩;unfold J69_0;intro _;rw[ci,if_neg Bool.false_ne_true];exact⟨rfl,rfl⟩
  ·rintro _ _ ⟨rfl,rfl⟩;exact bad e _ _ (by omega) f
 |ok p=>
  obtain⟨n,k⟩:=p;have L:=oz i;rw[List.length_drop]at L;unfold BJ;rw[i]at f|-;simp only at f|-;refine ck (v:=.int .u64 n) (w' :=w) (by simp[go_sem]) ?_;refine ck (v:=.int .i64 k) (w' :=w) (by simp[go_sem]) ?_;refine ck (v:=.int .i64 0) (w' :=w) (by simp[go_sem]) ?_;refine cy.at (λst W=>st=(.int .i64 (if most<n then 5 else 0:Nat),())/\W=w) ?_ ?_
  ·refine cy.at (λst W=>st=(.bool (decide (most<n)),())/\W=w) ?_ ?_
   ·refine ck (v:=.bool true) (w' :=w) (by simp[go_sem]) ?_;rw[ci,if_pos rfl];refine ck (v:=.bool (decide (most<n))) (w' :=w) (by simp[go_sem]) ?_;exact⟨rfl,rfl⟩
   ·rintro _ _ ⟨rfl,rfl⟩;unfold J69_0;intro _;by_cases d:most<n
    ·rw[ci,if_pos (by simpa using d),if_pos d];simp
    ·rw[ci,if_neg (by simpa using d),if_neg d];simp
  ·rintro _ w ⟨rfl,rfl⟩;by_cases d:most<n
   ·rw[if_pos d]at f|-;exact bad 5 _ _ (by omega) f
   rw[if_neg d]at f|-;rw[f]at m;unfold BO;intro _;refine ck (v:=.bool false) (w' :=w) (by simp[go_sem]) ?_;rw[ci,if_neg Bool.false_ne_true];simp only[cr];refine ck (v:=.pointer (some ⟨r,0,none⟩)) (w' :=w) (by simp[go_sem]) ?_;refine ck (v:=J) (w' :=w) (by simp[go_sem,j]) ?_;obtain⟨B,o,g,A⟩:=G.from_ (P:=Tryz.prog) (lo:=k) ny Rj (by omega) .i64;refine ck (v:=B) (w' :=w) (o w) ?_;refine ck (v:=.pointer (some ⟨r,0,none⟩)) (w' :=w) (by simp[go_sem]) ?_;obtain⟨S,Q,x⟩:=g.isSl;refine dt (w' :=w.setCell ⟨r,0,none⟩ B) (by rw[x];simp[go_sem,j]) ?_;simp only[Nat.zero_add,Nat.mul_one]at g;rw[xA,List.drop_drop,Nat.sub_sub]at g;obtain⟨z,u⟩:=h.on (a:=s.at_+k) (by omega) j g λb j=>M b (A b j);exact m _ z u
def yx{w:World}{K:cm}{r:Nat}{v:Value}{l:List UInt8}{s:Rs}(h:fg w r v l s)
  (c:∀a,fg a r v l (cw l 18446744073709551615 s).2->cl (λb=>b=r) w a->K (.int .u64 (cw l 18446744073709551615 s).1) a):Ca Tryz.prog 76 #[dJ r] w K:=by
 apply QX;exact fS h (by decide) c
def GH{w:World}{K:cm}{r:Nat}{v:Value}{l:List UInt8}{s:Rs}(h:fg w r v l s)
  (b:K (.int .i64 (de l s)) w):Ca Tryz.prog 81 #[dJ r] w K:=by
 obtain⟨⟨o,f,m,q⟩,p,n,j,k⟩:=id h;obtain⟨a,c,g⟩:=m.isSl;apply Sa;refine cy.at (λst W=>st=(.bool (decide (s.e=0/\s.at_<l.length)),())/\W=w) ?_ ?_
 ·simp only[dJ,cr];refine ck (v:=.pointer (some ⟨r,1,none⟩)) (w' :=w) (by simp[go_sem]) ?_;refine ck (v:=.int .i64 s.e) (w' :=w) (by simp[go_sem,f]) ?_;by_cases i:s.e=0
  ·refine ck (v:=.bool true) (w' :=w) (by simp[go_sem,i]) ?_;rw[ci,if_pos rfl];refine ck (v:=.pointer (some ⟨r,0,none⟩)) (w' :=w) (by simp[go_sem]) ?_;refine ck (v:=o) (w' :=w) (by simp[go_sem,f]) ?_;refine fI (v:=.int .i64 (l.length - s.at_:Nat)) (w' :=w) (by rw[g];simp[go_sem]) ?_;refine ck (v:=.bool (decide ((0:Int)<(l.length - s.at_:Nat)))) (w' :=w) (by simp only[go_sem];simp) ?_;refine⟨?_,rfl⟩;have e:decide ((0:Int)<(l.length - s.at_:Nat))=decide (s.e=0/\s.at_<l.length):=by rw[decide_eq_decide];omega
   rw[e]
  ·refine ck (v:=.bool false) (w' :=w) (by simp[go_sem];omega) ?_;rw[ci,if_neg Bool.false_ne_true];simp[i]
 rintro _ w ⟨rfl,rfl⟩;unfold KB;intro _;unfold de at b;by_cases d:s.e=0/\s.at_<l.length
 ·rw[ci,if_pos (by simpa using d)];rw[if_pos d]at b;exact b
 ·rw[ci,if_neg (by simpa using d)];rw[if_neg d]at b;simp only[dJ,cr];refine ck (v:=.pointer (some ⟨r,1,none⟩)) (w' :=w) (by simp[go_sem]) ?_;refine ck (v:=.int .i64 s.e) (w' :=w) (by simp[go_sem,f]) ?_;exact b
def qN:∀(n:Nat) (x:n<18446744073709551616) {w:World} {K:cm}
  (f:∀j a,d7 a 5 1 j (fq n).length (bv (fq n))->cl (λ_=>False) w a->(∀b,cv j b->w.heap.size<=b)->K j a),Ca Tryz.prog 91 #[.int .u64 n] w K:=by
 intro n;induction n using Nat.strongRecOn with
 |_ n z=>
  intro x w K f;apply Sn;by_cases h1:n<128
  ·have c:(n:Int)<128:=by omega
   refine ck (v:=.bool true) (w' :=w) (by simp[go_sem,c]) ?_;rw[ci,if_pos rfl]
   have y:IntKind.u8.wrap (n:Int)=((UInt8.ofNat n).toNat:Int):=by
    rw[Ci (by omega),IntKind.wrap_u8];omega
   refine ck (v:=.int .u8 (IntKind.u8.wrap (n:Int))) (w' :=w) (by simp[go_sem]) ?_;rw[y];refine xl [UInt8.ofNat n] ny (cK zU) rfl rfl (by omega) λv q l g i=>?_;rw[mH h1]at f;exact f _ _ l g λb d=>(i b d).1
  ·have c:¬(n:Int)<128:=by omega
   refine ck (v:=.bool false) (w' :=w) (by simp[go_sem,c]) ?_;rw[ci,if_neg Bool.false_ne_true];refine ck (v:=.int .u64 ((n%128:Nat):Int)) (w' :=w) (by simp[go_sem];try rw[Int.tmod_eq_emod_of_nonneg (by omega)]) ?_;refine ck (v:=.int .u8 ((n%128:Nat):Int)) (w' :=w) (by simp[go_sem];rw[IntKind.wrap_u8];omega) ?_;refine ck (v:=.int .u8 ((UInt8.ofNat (n%128+128)).toNat:Int)) (w' :=w) (by rw[Ci (by omega)];simp[go_sem];rw[IntKind.wrap_u8];omega) ?_;refine xl [UInt8.ofNat (n%128+128)] ny (cK zU) rfl rfl (by omega) λv q l g i=>?_;refine ck (v:=.int .u64 ((n / 128:Nat):Int)) (w' :=q) (by simp[go_sem];try rw[eP (by omega) (by omega)]) ?_;refine z (n / 128) (by omega) (by omega) λG D t k E=>?_;have F:=t8 (n:=n / 128) (by omega);refine dz (m:=(fq (n / 128)).length) ny ny (cK zU) (l.mod k λ_ _ h=>h) t.rd (pS _) (by omega) λC B p A s=>?_;rw[<-lW]at p;rw[tz h1]at f;have u:=g.size;have r:=k.size;refine f _ _ ?_ ((g.trans k).on A λb d=>.inr (i b d).1) λb d=>?_
   ·have e:(UInt8.ofNat (n%128+128)::fq (n / 128)).length=1+(fq (n / 128)).length:=by simp;omega
    rw[e];exact p
   ·rcases s b d with o|o
    ·exact(i b o).1
    ·omega
end Go.Proofs
namespace Go.Vc
open Go Go.Vc
end Go.Vc
namespace Go.Vc
open Go Go.Vc
def xJ{P:Program}{t u ty e s:TypeId}{sz:Nat}{w:World}{K:cm}{b off n m cap:Nat}{C:Array Value}{T:TypeId}{x:Value}{a:List Value}
  (p:P.underlying t=some (.slice e))(y:P.underlying u=some (.slice s))(A:P.cellsOf e=sz+1)(q:w.heap[b]? =some (.cells C T (0,0)))(c:n+m<=cap)
  (l:Rd w (sz+1) x m a)(h1:a.all (·.oneCell')=true)(h:off+(n+m)*(sz+1)<=C.size)
  (r:K (.slice (some ⟨b,off,none⟩) (n+m) cap) (w.setRow b (iJ C.toList (off+n*(sz+1)) a).toArray)):rx P (cx #[t,u] ty [.slice (some ⟨b,off,none⟩) n cap,x]) w K:=by
 obtain⟨i,z,j⟩:=jN (n:=sz) A;have g:a.length=m*(sz+1):=l.1;have k:=l.first (P:=P) (Nat.succ_pos _);have d:=run_storeCells_at P b (off+n*(sz+1)) T a 0 C w q (by simp only[g];rw[Nat.add_mul]at h;omega) (jv h1);simp only[Nat.add_zero]at d;refine fM (v:=.slice (some ⟨b,off,none⟩) (n+m) cap) (w' :=w.setRow b (iJ C.toList (off+n*(sz+1)) a).toArray) ?_ r;have o:(⟨b,off,none⟩:Addr).add (n*(sz+1))=⟨b,off+n*(sz+1),none⟩:=by rw[cE]
 unfold iJ;simp[cx,Builtin.append_,run_underlying p,sizeOf,typeInfo,z,j,run_underlying y,l.lenOf,Result.andThen,k,c];rw[o,d];simp[List.append_assoc]
def qp{P:Program}{C sT ty e:TypeId}{sz:Nat}{w:World}{K:cm}{g o j r d k:Nat}{q:Value}{all:List Value}{l:Array Value}{t:TypeId}
  (L:P.underlying C=some (.slice e))(M:P.cellsOf e=sz+1)(E:w.heap[g]? =some (.cells l t (0,0)))(m:Rd w (sz+1) q d all)(y:k=Nat.min d j)
  (u:o+k*(sz+1)<=l.size)(h1:all.all (·.oneCell')=true)(G:K (.int .i64 k) (w.setRow g (iJ l.toList o (all.take (k*(sz+1)))).toArray)):
  rx P (sF #[C,sT] ty [.slice (some ⟨g,o,none⟩) j r,q]) w K:=by
 obtain⟨i,N,A⟩:=jN (n:=sz) M;have I:all.length=d*(sz+1):=m.1;have x:k<=d:=by rw[y];exact Nat.min_le_left _ _
 have D:k*(sz+1)<=d*(sz+1):=Nat.mul_le_mul_right _ x;have s:(all.take (k*(sz+1))).length=k*(sz+1):=by rw[List.length_take,I];omega
 have B:∀v∈all.take (k*(sz+1)),v.oneCell' =true:=λv O=>jv h1 v (List.mem_of_mem_take O);have p:=run_storeCells_at P g o t (all.take (k*(sz+1))) 0 l w E (by rw[s];simpa using u) B;simp only[Nat.add_zero]at p
 have h:(Builtin.firstCells (sz+1) k q).run P w=.ok (all.take (k*(sz+1))).toArray w:=by
  obtain⟨_,⟨Q,a,c,rfl⟩|⟨b,H,F,rfl,R,J⟩⟩:=m
  ·have z:k=0:=by omega
   subst z;cases a<;>simp[Builtin.firstCells,loadCells,loadCellsFrom]
  ·have:=(J.sub 0 (k*(sz+1)) (by omega)).loads (P:=P);simp only[List.drop_zero,Nat.add_zero,s]at this;simpa [Builtin.firstCells]using this
 refine fM (v:=goInt (Nat.min d j)) (w' :=w.setRow g (iJ l.toList o (all.take (k*(sz+1)))).toArray) ?_ (by rw[<-y];exact G);rw[y]at h p|-;simp[sF,Builtin.copy_,run_underlying L,m.lenOf,sizeOf,typeInfo,N,A,Result.andThen,h,p,iJ]
def CZ{P:Program}{t ty e:TypeId}{sz:Nat}{w:World}{K:cm}{g o n c:Nat}{a:Array Value}{T:TypeId}{p:Nat}(s:P.underlying t=some (.slice e))(A:px P e (sz+1) p)
  (u:w.heap[g]? =some (.cells a T (0,0)))(h:o+n*(sz+1)<=a.size)
  (k:∀z:List Value,z.length=n*(sz+1)->z.all (·.oneCell')=true->K (.tuple #[]) (w.setRow g (iJ a.toList o z).toArray)):
  rx P (tK #[t] ty [.slice (some ⟨g,o,none⟩) n c]) w K:=by
 obtain⟨⟨i,z,D,y,x,B,j,l⟩,d,q⟩:=A;have r:(Builtin.zeroCells z.cells n).toList.length=n*(sz+1):=by rw[jL,j]
 have h1:=jG l (by rw[j];exact d) n;have k:=k _ r h1;have b:=run_storeCells_at P g o T (Builtin.zeroCells z.cells n).toList 0 a w u (by rw[r];simpa using h) (jv h1);simp only[Nat.add_zero]at b;refine fM (v:=.tuple #[]) (w' :=w.setRow g (iJ a.toList o (Builtin.zeroCells z.cells n).toList).toArray) ?_ k;cases n with
 |zero=>
  have e:(Builtin.zeroCells z.cells 0).toList=[]:=List.eq_nil_of_length_eq_zero (by rw[r];simp);rw[e];have C:=setRow_self w g a T (0,0) u;simp[tK,Builtin.clear_,run_underlying s,Result.andThen,iJ,C]
 |succ m=>simp[tK,Builtin.clear_,run_underlying s,zeroValue,typeInfo,D,y,Result.andThen,b,iJ]
def y9{P:Program}{t u ty e:TypeId}{ku:IntKind}{sz q:Nat}{w:World}{K:cm}{s:Value}{n m:Nat}{cs:List Value}
  (W:P.underlying t=some (.slice e))(hu:P.underlying u=some (.int ku))(hE:px P e (sz+1) q)
  (X:d7 w e (sz+1) s n cs)(E:(n+m)*q<=140737488355328)
  (hK:∀s' J z,z.length=m*(sz+1)->z.all (·.oneCell')=true->d7 J e (sz+1) s' (n+m) (cs++z)->cl (cv s) w J->(∀b,cv s' b->cv s b\/w.heap.size<=b)->(∀a c,s=.slice a n c->c<n+m->cl (λ_=>False) w J/\∀b,cv s' b->w.heap.size<=b)->K s' J):
  rx P (cx #[t,u] ty [s,.int .i64 (m:Int)]) w K:=by
 obtain⟨⟨i,z,hi,hz,r,T,x,V⟩,o,M⟩:=hE;have hneed:n+m<=140737488355328:=Nat.le_trans (Nat.le_mul_of_pos_right _ M) E;have hmb:m*q<=140737488355328:=Nat.le_trans (Nat.mul_le_mul_right _ (by omega)) E;have g:cs.length=n*(sz+1):=X.1;have B:(Builtin.zeroCells z.cells m).toList.length=m*(sz+1):=by rw[jL,x]
 have h1:=jG V (by rw[x];exact o) m;have l:IntKind.i64.wrap (m:Int)=(m:Int):=by rw[IntKind.wrap_i64];omega
 have A:¬(m:Int)<0:=by omega
 have D:¬(281474976710656:Int)<(m:Int)*(i.bytes:Int):=by
  rw[T,<-Int.natCast_mul];omega
 obtain⟨h,d,hsv,O,C⟩:∃h d,s=.slice h n d/\n<=d/\((h=none/\n=0/\d=0/\cs=[])\/∃b rest,h=some ⟨b,0,none⟩/\w.heap[b]? =some (.cells (cs++rest).toArray e (0,0))/\rest.length=(d - n)*(sz+1)/\rest.all (·.oneCell')=true):=by
  rcases X.2 with⟨rfl,rfl⟩|⟨b,d,rest,rfl,hc,F,hr⟩
  ·exact⟨none,0,rfl,Nat.le_refl _,.inl ⟨rfl,rfl,rfl,by simpa using g⟩⟩
  ·exact⟨_,d,rfl,hc,.inr ⟨b,rest,rfl,F,hr⟩⟩
 subst hsv;obtain⟨L,Y⟩:∃L:Int,(m:Int)=L:=⟨_,rfl⟩
 rw[Y];rw[Y]at l;have l:IntKind.i64.wrap L=(m:Int):=l.trans Y.symm;clear Y;generalize hZ:Builtin.zeroCells z.cells m=Z at B h1;by_cases h0:m=0
 ·subst h0;have hZ0:Z= #[]:=Array.eq_empty_of_size_eq_zero (by rw[<-Array.length_toList,B];simp);refine fM (v:=.slice h n d) (w' :=w) ?_ (hK _ _ [] (by simp) rfl (by simpa using X) (cl.refl _ _) (λb E=>.inl E) λa c he R=>by injection he with e1 e2 e3;omega);rcases C with⟨rfl,rfl,rfl,rfl⟩|⟨b,rest,rfl,F,G,Q⟩
  ·simp[cx,Builtin.append_,run_underlying W,sizeOf,typeInfo,hi,r,run_underlying hu,Result.andThen,asInt,asIntOf,l]
  ·have k:=run_storeCells_at P b (n*(sz+1)) e [] 0 (cs++rest).toArray w F (by simp[g]) (by simp);simp only[Nat.add_zero]at k;have N:=setRow_self w b (cs++rest).toArray e (0,0) F;have e0:(⟨b,0,none⟩:Addr).add (n*(sz+1))=⟨b,n*(sz+1),none⟩:=by rw[cE];simp
   have hnc:¬d<n:=by omega
   simp at k;simp[cx,Builtin.append_,run_underlying W,sizeOf,typeInfo,hi,r,run_underlying hu,Result.andThen,asInt,asIntOf,l,O,e0,k];simpa using N
 have U:¬m*(sz+1)=0:=by
  rw[Nat.mul_eq_zero];omega
 by_cases j:n+m<=d
 ·rcases C with⟨rfl,rfl,rfl,rfl⟩|⟨b,rest,rfl,F,G,Q⟩
  ·omega
  ·have k:=run_storeCells_at P b (n*(sz+1)) e Z.toList 0 (cs++rest).toArray w F (by
    simp only[List.size_toArray,List.length_append,g,G,B];have:=Nat.mul_le_mul_right (sz+1) j;rw[Nat.add_mul]at this;rw[Nat.sub_mul];omega) (jv h1)
   simp only[Nat.add_zero]at k
   have I:(cs++rest).take (n*(sz+1))++Z.toList++(cs++rest).drop (n*(sz+1)+Z.toList.length)=(cs++Z.toList)++rest.drop Z.toList.length:=by
    rw[<-g];simp[List.append_assoc]
   refine fM (v:=.slice (some ⟨b,0,none⟩) (n+m) d) (w' :=w.setRow b ((cs++Z.toList)++rest.drop Z.toList.length).toArray) ?_ (hK _ _ Z.toList B h1 ⟨?_,.inr ⟨b,d,rest.drop Z.toList.length,rfl,j,?_,?_,?_⟩⟩ ?_ ?_ λa c he R=>by injection he with e1 e2 e3;omega)
   ·simp only[I]at k;have e0:(⟨b,0,none⟩:Addr).add (n*(sz+1))=⟨b,n*(sz+1),none⟩:=by rw[cE];simp
    simp[cx,Builtin.append_,run_underlying W,sizeOf,typeInfo,zeroValue,hz,hi,r,run_underlying hu,Result.andThen,asInt,asIntOf,l,j,e0,A,D,h0,hZ,k];have y:=k;simp at y;rw[if_neg U];simp only;rw[y]
   ·rw[List.length_append,g,B,Nat.add_mul]
   ·rw[dw,if_pos rfl,F]
   ·rw[List.length_drop,G,B,<-Nat.sub_mul];congr 1;omega
   ·exact List.all_eq_true.2 λv hv=>List.all_eq_true.1 Q v (List.mem_of_mem_drop hv)
   ·exact(cl.refl (cv (.slice (some ⟨b,0,none⟩) n d)) w).setRow (.inl (show cv _ b from rfl)) _
   ·intro b' H;exact .inl H
 ·have hfit:=growslice_fits (old:=d) (need:=n+m) (bytes:=q) (by omega) E;have h48:¬(281474976710656<Builtin.nextslicecap (n+m) d*i.bytes):=by rw[T];omega
  have h63:¬(9223372036854775807<((n:Int)+(m:Int))):=by omega
  have p:n+m<=grownCap w (n+m) d e:=by simp[grownCap,Question.cut]
  have hrs:Rd w.drew (sz+1) (.slice h n d) n cs:=X.rd.keep λ_ _=>rfl;have hf1:=hrs.first (P:=P) o
  refine fM (v:=.slice (some ⟨w.heap.size,0,none⟩) (n+m) (grownCap w (n+m) d e))
   (w' :=w.drew.alloc (.cells (cs.toArray++Z++Builtin.zeroCells z.cells (grownCap w (n+m) d e - (n+m))) e)) ?_ (hK _ _ Z.toList B h1 ⟨?_,.inr ⟨w.heap.size,_,(Builtin.zeroCells z.cells (grownCap w (n+m) d e - (n+m))).toList,rfl,p,?_,?_,?_⟩⟩ ?_ ?_ λa c he R=>⟨((cl.refl _ w).drew).alloc _,λb E=>by cases E;exact Nat.le_refl _⟩)
  ·simp[cx,Builtin.append_,run_underlying W,sizeOf,typeInfo,zeroValue,hi,hz,r,run_underlying hu,Result.andThen,asInt,asIntOf,l,A,D,h0,j,h63,h48,Question.forced,hf1,newRow,grownCap,hZ];rw[if_neg U];rfl
  ·rw[List.length_append,g,B,Nat.add_mul]
  ·rw[cU,if_pos (show w.heap.size=w.drew.heap.size from rfl)];simp
  ·rw[jL,x]
  ·exact jG V (by rw[x];exact o) _
  ·exact((cl.refl _ w).drew).alloc _
  ·rintro b' H;cases H;exact .inr (Nat.le_refl _)
section
variable{α:Type}{f:α->List Value}{S:Nat}
def QE(a:∀x,(f x).length=S):∀(l:List α) (i:Nat),(l.flatMap f).take (i*S)=(l.take i).flatMap f
 | [],i=>by simp
 |x::l,0=>by simp
 |x::l,i+1=>by
  have e:(i+1)*S=(f x).length+i*S:=by rw[a x,Nat.add_mul];omega
  rw[List.flatMap_cons,List.take_succ_cons,List.flatMap_cons,e,List.take_length_add_append,QE a l i]
def QL(a:∀x,(f x).length=S):∀(l:List α) (i:Nat),(l.flatMap f).drop (i*S)=(l.drop i).flatMap f
 | [],i=>by simp
 |x::l,0=>by simp
 |x::l,i+1=>by
  have e:(i+1)*S=(f x).length+i*S:=by rw[a x,Nat.add_mul];omega
  rw[List.flatMap_cons,List.drop_succ_cons,e,<-List.drop_drop,List.drop_left,QL a l i]
def Bj(a:∀x,(f x).length=S)(l:List α):(l.flatMap f).length=l.length*S:=ky f S l λx _=>a x
def IN(a:∀x,(f x).all (·.oneCell')=true)(l:List α):(l.flatMap f).all (·.oneCell')=true:=by
 rw[List.all_flatMap,List.all_eq_true];exact λx _=>a x
def Rd.item{w:World}{v:Value}{n:Nat}{l:List α}(d:∀x,(f x).length=S)(h:Rd w S v n (l.flatMap f)){i:Nat}(hi:i<l.length)(o:n=l.length):
  ∃b c a,v=.slice (some ⟨b,c,none⟩) n a/\n<=a/\At w b (c+i*S) (f l[i]):=by
 obtain⟨m,⟨k,_⟩|⟨b,c,a,rfl,j,e⟩⟩:=h
 ·omega
 ·refine⟨b,c,a,rfl,j,?_⟩;have g:(i+1)*S<=l.length*S:=Nat.mul_le_mul_right S hi;rw[Nat.add_mul]at g;have:=e.sub (i*S) S (by rw[Bj d];omega)
  rwa[ji f S l i (λx _=>d x) hi]at this
end
def d7.pos{w:World}{e:TypeId}{sz:Nat}{v:Value}{n:Nat}{cs:List Value}(h:d7 w e sz v n cs)(d:0<n):
  ∃b a rest,v=.slice (some ⟨b,0,none⟩) n a/\n<=a/\w.heap[b]? =some (.cells (cs++rest).toArray e (0,0))/\rest.length=(a - n)*sz/\(rest.all (·.oneCell')=true):=by
 obtain⟨c,⟨rfl,rfl⟩|h⟩:=h
 ·omega
 ·exact h
def D9{P:Program}{t e:TypeId}{b n cap hi:Nat}{sz:Nat}{kh:IntKind}(d:P.underlying t=some (.slice e))(g:P.cellsOf e=sz+1)(h:hi<=cap)(i:0<cap)(W:World):
  (Instr.sliceAt t (.slice (some ⟨b,0,none⟩) n cap) none (some (.int kh (hi:Int))) none).run P W=.ok (.slice (some ⟨b,0,none⟩) hi cap) W:=by
 obtain⟨a,c⟩:=iE d;rw[run_sliceAt_slice W t _ _ _ _ a,run_slice_h W t _ n cap a kh hi (by omega) (by omega),c,fY g];simp only[Result.andThen,sliced,Int.toNat_natCast,Nat.zero_mul,Nat.sub_zero];rw[if_neg (by omega),Option.map_some,cE]
def MV{P:Program}{t e:TypeId}{b n cap lo hi:Nat}{sz:Nat}{kl kh:IntKind}(c:P.underlying t=some (.slice e))(g:P.cellsOf e=sz+1)(h1:lo<=hi)(h:hi<=cap)(i:lo<cap)(W:World):
  (Instr.sliceAt t (.slice (some ⟨b,0,none⟩) n cap) (some (.int kl (lo:Int))) (some (.int kh (hi:Int))) none).run P W=.ok (.slice (some ⟨b,lo*(sz+1),none⟩) (hi - lo) (cap - lo)) W:=by
 obtain⟨a,d⟩:=iE c;rw[run_sliceAt_slice W t _ _ _ _ a,run_slice_lh W t _ n cap a kl kh lo hi (by omega) (by omega) (by omega),d,fY g];simp only[Result.andThen,sliced,Int.toNat_natCast];rw[if_neg (by omega),Option.map_some,cE,Nat.zero_add]
def AZ{P:Program}{t e:TypeId}{b n cap lo:Nat}{sz:Nat}{kl:IntKind}(d:P.underlying t=some (.slice e))(g:P.cellsOf e=sz+1)(h1:lo<=n)(h:n<=cap)(i:lo<cap)(W:World):
  (Instr.sliceAt t (.slice (some ⟨b,0,none⟩) n cap) (some (.int kl (lo:Int))) none none).run P W=.ok (.slice (some ⟨b,lo*(sz+1),none⟩) (n - lo) (cap - lo)) W:=by
 obtain⟨a,c⟩:=iE d;rw[run_sliceAt_slice W t _ _ _ _ a,run_slice_l W t _ n cap a kl lo (by omega) (by omega),c,fY g];simp only[Result.andThen,sliced,Int.toNat_natCast];rw[if_neg (by omega),Option.map_some,cE,Nat.zero_add]
def L8{P:Program}{t e:TypeId}{a:Option Addr}{n cap lo hi mx:Nat}{sz:Nat}{kl kh km:IntKind}(g:P.underlying t=some (.slice e))(d:P.cellsOf e=sz+1)(h1:lo<=hi)(i:hi<=mx)(j:mx<=cap)(W:World):
  ∃v,(Instr.sliceAt t (.slice a n cap) (some (.int kl (lo:Int))) (some (.int kh (hi:Int))) (some (.int km (mx:Int)))).run P W=.ok v W:=by
 obtain⟨b,h⟩:=iE g;have c:=run_slice_lhm W t a n cap b kl kh km lo hi mx (by omega) (by omega) (by omega) (by omega);rw[h,fY d]at c;exact⟨_,(run_sliceAt_slice W t _ _ _ _ b).trans c⟩
end Go.Vc
namespace Go.Proofs
open Go Go.Vc
attribute [local congr] cq
structure Od where
 num:Int
 acct:Int
 buy:Bool
 price:Int
 left:Int
 deriving DecidableEq
def da(o:Od):List Value:=[.int .u64 o.num,.int .u32 o.acct,.bool o.buy,.int .i64 o.price,.int .i64 o.left]
def dF(o:Od):(da o).length=5:=rfl
def gY(o:Od):(da o).all (·.oneCell')=true:=rfl
def Od.Fit(o:Od):Prop:=I2 o.num/\iC o.acct/\fW o.price/\fW o.left
abbrev iq:TypeId:=117
abbrev gO:TypeId:=133
def eV:Tryz.prog.underlying gO=some (.slice iq):=by kernel_rfl
def tj:Tryz.prog.cellsOf iq=4+1:=by kernel_rfl
def BW:eO Tryz.prog iq 5 32=true:=by kernel_rfl
abbrev kV(w:World)(s:Value)(l:List Od):Prop:=d7 w iq 5 s l.length (l.flatMap da)
def pJ{w:World}{K:cm}{s:Value}{l:List Od}(h:Rd w 5 s l.length (l.flatMap da))(q:l.length<=1000000)
  (j:∀e d,kV d e l->cl (λ_=>False) w d->(∀b,cv e b->w.heap.size<=b)->K e d):Ca Tryz.prog 111 #[s] w K:=by
 apply PK;obtain⟨a,c,f⟩:=h.isSl;by_cases i:a=none
 ·subst i;refine ck (v:=.bool true) (w' :=w) (by rw[f];simp[go_sem]) ?_;rw[ci,if_pos rfl]
  have p:l=[]:=by
   obtain⟨-,⟨g,_⟩|⟨b,o,n,k,_⟩⟩:=h
   ·exact List.eq_nil_of_length_eq_zero g
   ·rw[f]at k;cases k
  subst p;exact j _ _ (d7.nil _ _ _) (cl.refl _ _) λb m=>by cases m
 ·refine ck (v:=.bool false) (w' :=w) (by rw[f];cases a;exact absurd rfl i;simp[go_sem]) ?_;rw[ci,if_neg Bool.false_ne_true];exact OP eV (cK BW) h (IN gY l) (by omega) j
set_option maxRecDepth 10000 in
def sq{w:World}{K:cm}{s:Value}{l:List Od}{i j:Nat}(h:kV w s l)(N:i<j)(L:j<=l.length)(U:l.length<=1000000)
  (Q:∀x k,kV k x (l.take i++l.drop j)->cl (cv s) w k->(∀b,cv x b->cv s b)->K x k):Ca Tryz.prog 212 #[s,.int .i64 (i:Int),.int .i64 (j:Int)] w K:=by
 obtain⟨b,c,rest,rfl,I,M,q,E⟩:=h.pos (by omega);have D:=h.1;apply Ol;refine fI (v:=.int .i64 (l.length:Int)) (w' :=w) (by simp[go_sem]) ?_;obtain⟨T,A⟩:=L8 (P:=Tryz.prog) (t:=gO) (a:=some ⟨b,0,none⟩) (n:=l.length) (cap:=c) (lo:=i) (hi:=j) (mx:=l.length) (kl:=.i64) (kh:=.i64) (km:=.i64) eV tj (by omega) L I w;refine ck A ?_;have y:¬(i:Int)=(j:Int):=by omega
 refine ck (v:=.bool false) (by simp[go_sem,y]<;>first|exact⟨rfl,rfl⟩|exact rfl) ?_;rw[ci,if_neg Bool.false_ne_true];refine fI (v:=.int .i64 (l.length:Int)) (w' :=w) (by simp[go_sem]) ?_;refine co (λW=>D9 eV tj (show i<=c by omega) (by omega) W) ?_;have G:Rd w 5 (.slice (some ⟨b,0,none⟩) l.length c) l.length (l.flatMap da):=h.rd;obtain⟨S,C,e,-⟩:=Rd.from_ (P:=Tryz.prog) (kl:=.i64) (lo:=j) eV tj G L;refine co (λW=>C W) ?_;simp only[Nat.reduceAdd]at e;rw[QL dF]at e;have O:((l.drop j).flatMap da).length=(l.length - j)*5:=by rw[Bj dF,List.length_drop]
 have u:w.drew.heap[b]? =some (.cells (l.flatMap da++rest).toArray iq (0,0)):=M;have p:(l.flatMap da++rest).length=c*5:=by rw[List.length_append,D,q];omega
 refine xJ (m:=l.length - j) eV eV tj u (by omega) (e.keep λ_ _=>rfl) (IN gY _) (by rw[List.size_toArray,p];omega) ?_;have H:cl (cv (.slice (some ⟨b,0,none⟩) l.length c)) w (w.drew.setRow b (iJ (l.flatMap da++rest) (0+i*5) ((l.drop j).flatMap da)).toArray):=((cl.refl _ w).drew).setRow (.inl (show cv (.slice (some ⟨b,0,none⟩) l.length c) b from rfl)) _
 have r:iJ (l.flatMap da++rest) (0+i*5) ((l.drop j).flatMap da)=(l.take i++l.drop j).flatMap da++(l.flatMap da++rest).drop ((i+(l.length - j))*5):=by
  unfold iJ;rw[O,Nat.zero_add,List.take_append_of_le_length (by rw[D];omega),QE dF,List.flatMap_append,List.append_assoc,List.append_assoc,<-Nat.add_mul]
 have g:(w.drew.setRow b (iJ (l.flatMap da++rest) (0+i*5) ((l.drop j).flatMap da)).toArray).heap[b]? =some (.cells ((l.take i++l.drop j).flatMap da++(l.flatMap da++rest).drop ((i+(l.length - j))*5)).toArray iq (0,0)):=by
  rw[dw,if_pos rfl,u,r]
 rw[show(l.flatMap da++rest).toArray.toList=l.flatMap da++rest from rfl];generalize w.drew.setRow b (iJ (l.flatMap da++rest) (0+i*5) ((l.drop j).flatMap da)).toArray=W at H g|-;refine fI (v:=.int .i64 ((i+(l.length - j):Nat):Int)) (w' :=W) (by simp[go_sem]) ?_;refine ck (MV eV tj (show i+(l.length - j)<=l.length by omega) I (by omega) W) ?_
 have o:((l.take i++l.drop j).flatMap da).length=(i+(l.length - j))*5:=by
  rw[Bj dF,List.length_append,List.length_take,List.length_drop,Nat.min_eq_left (by omega)]
 refine CZ eV (cK BW) g (by rw[List.size_toArray,List.length_append,List.length_drop,o,p];omega) λz J B=>?_
 have f:iJ ((l.take i++l.drop j).flatMap da++(l.flatMap da++rest).drop ((i+(l.length - j))*5)) ((i+(l.length - j))*5) z=(l.take i++l.drop j).flatMap da++(z++rest):=by
  unfold iJ;rw[J,List.take_append_of_le_length (by rw[o];exact Nat.le_refl _),List.take_of_length_le (by rw[o];exact Nat.le_refl _),<-List.drop_drop,<-o,List.drop_left,List.append_assoc,List.drop_drop,o];congr 2;rw[show(i+(l.length - j))*5+(l.length - (i+(l.length - j)))*5=(l.flatMap da).length by rw[D];omega,List.drop_left]
 have d:(l.take i++l.drop j).length=i+(l.length - j):=by rw[List.length_append,List.length_take,List.length_drop,Nat.min_eq_left (by omega)]
 refine Q _ _ ⟨by rw[o,d],.inr ⟨b,c,z++rest,by rw[d],by omega,?_,?_,?_⟩⟩ (H.setRow (.inl (show cv (.slice (some ⟨b,0,none⟩) l.length c) b from rfl)) _) λR F=>F
 ·show(W.setRow b (iJ ((l.take i++l.drop j).flatMap da++(l.flatMap da++rest).drop ((i+(l.length - j))*5)) ((i+(l.length - j))*5) z).toArray).heap[b]? =_;rw[dw,if_pos rfl,g,f]
 ·rw[List.length_append,J,q,d];omega
 ·rw[List.all_append,B,E];rfl
def S8{w:World}{b:Nat}{C:Array Value}{T:TypeId}{a:Nat×Nat}(h:w.heap[b]? =some (.cells C T a)):w.shape? b=some (T,C.size):=by simp[World.shape?,h]
def Kd{w:World}{b:Nat}{C:Array Value}{T:TypeId}(h:w.heap[b]? =some (.cells C T (0,0)))(i:Nat):w.frozen? ⟨b,i,none⟩=false:=by simp[go_sem,cN h]
def Tm(w:World):(Go.sizeOf iq).run Tryz.prog w=.ok 5 w:=Go.Vc.fY tj w
def L1:Extern.find Tryz.f351=some (Extern.SlicesOverlaps.overlaps #[gO,gO] #[4]):=by kernel_rfl
set_option maxRecDepth 10000 in
def yf{w:World}{K:cm}{s v:Value}{l:List Od}{o:Od}{i:Nat}(h:kV w s l)(hv:kV w v [o])(hd:∀b,cv s b->¬cv v b)(hi:i<=l.length)(hn:l.length<=1000000)
  (hK:∀s' B,kV B s' (l.take i++o::l.drop i)->cl (cv s) w B->(∀b,cv s' b->cv s b\/w.heap.size<=b)->K s' B):Ca Tryz.prog 312 #[s,.int .i64 (i:Int),v] w K:=by
 obtain⟨vb,j,vrest,rfl,hvc,E,hvl,hv1⟩:=hv.pos (by simp);simp only[List.length_singleton]at hvc hvl
 have m:(l.take i++o::l.drop i).length=l.length+1:=by
  rw[List.length_append,List.length_take,List.length_cons,List.length_drop,Nat.min_eq_left hi];omega
 have Z:([o].flatMap da)=da o:=by simp
 apply Oi;obtain⟨v0,hv0,-,-⟩:=Rd.from_ (P:=Tryz.prog) (kl:=.i64) (lo:=i) eV tj (h.rd:Rd w (4+1) s l.length (l.flatMap da)) hi;refine ck (hv0 w) ?_;refine fI (v:=.int .i64 1) (w' :=w) (by simp[go_sem]) ?_;refine ck (v:=.bool false) (by simp[go_sem]<;>first|exact⟨rfl,rfl⟩|exact rfl) ?_;rw[ci,if_neg Bool.false_ne_true];obtain⟨sa,sc,hs,-⟩:=h.isSl;refine fI (v:=.int .i64 l.length) (w' :=w) (by rw[hs];simp[go_sem]) ?_;by_cases hil:i=l.length
 ·have A:(i:Int)=(l.length:Int):=by omega
  refine ck (v:=.bool true) (by simp[go_sem,A]<;>first|exact⟨rfl,rfl⟩|exact rfl) ?_;rw[ci,if_pos rfl];refine dz eV eV (cK BW) h hv.rd (IN gY _) (by simp only[List.length_singleton];omega) λs3 F o3 I n3=>?_;refine hK _ _ ?_ I n3;have:l.take i++o::l.drop i=l++[o]:=by rw[hil,List.take_length,List.drop_length]
  rw[this];unfold kV;rw[List.flatMap_append,List.length_append];exact o3
 have A:¬(i:Int)=(l.length:Int):=by omega
 refine ck (v:=.bool false) (by simp[go_sem,A]<;>first|exact⟨rfl,rfl⟩|exact rfl) ?_;rw[ci,if_neg Bool.false_ne_true];obtain⟨b,c,rest,hse,hc,T,D,M⟩:=h.pos (by omega);clear hs;subst hse;have hne:vb≠b:=λe=>hd b rfl (by rw[<-e];rfl);have S:=h.1;refine ck (v:=.int .i64 ((l.length+1:Nat):Int)) (w' :=w) (by simp[go_sem];rw[cS (by omega) (by omega)]) ?_;refine fI (v:=.int .i64 (c:Int)) (w' :=w) (by simp[go_sem,eV]) ?_;have f:(l.flatMap da++rest).length=c*5:=by rw[List.length_append,S,D];omega
 by_cases hroom:c<l.length+1
 ·have g:(c:Int)<(l.length:Int)+1:=by omega
  refine ck (v:=.bool true) (by simp[go_sem,g]<;>first|exact⟨rfl,rfl⟩|exact rfl) ?_;rw[ci,if_pos rfl];refine ck (D9 eV tj (show i<=c by omega) (by omega) w) ?_;refine ck (v:=.int .i64 ((l.length+1:Nat):Int)) (w' :=w) (by simp[go_sem];rw[cS (by omega) (by omega)]) ?_;refine ck (v:=.int .i64 ((l.length+1 - i:Nat):Int)) (w' :=w) (by simp only[go_sem];simp;rw[cS (by omega) (by omega)];omega) ?_
  have hOi:d7 w iq (4+1) (.slice (some ⟨b,0,none⟩) i c) i ((l.take i).flatMap da):=by
   refine⟨by rw[Bj dF,List.length_take,Nat.min_eq_left hi],.inr ⟨b,c,(l.flatMap da++rest).drop (i*5),rfl,by omega,?_,?_,?_⟩⟩
   ·rw[T];congr 2
    have:(l.take i).flatMap da=(l.flatMap da++rest).take (i*5):=by
     rw[List.take_append_of_le_length (by rw[S];omega),QE dF]
    rw[this,List.take_append_drop]
   ·rw[List.length_drop,f];omega
   ·refine List.all_eq_true.2 λx L=>?_;have L:=List.mem_of_mem_drop L;rcases List.mem_append.1 L with h1|h1
    ·exact List.all_eq_true.1 (IN gY l) x h1
    ·exact List.all_eq_true.1 M x h1
  refine y9 eV Tryz.underlying3 (cK BW) hOi (by omega) λs2 J z hz hz1 o2 m2 n2 hfar=>?_;obtain⟨mF,nF⟩:=hfar _ _ rfl (by omega);rw[show i+(l.length+1 - i)=l.length+1 by omega]at o2;obtain⟨q,wZ,a,rfl,O,hb2,y,Y⟩:=o2.pos (by omega);have H:w.heap.size<=q:=nF q rfl;have hbb:b≠q:=by have:=cn T;omega
  have hvbb:vb≠q:=by have:=cn E;omega
  refine ck (AZ eV tj (by omega) O (by omega) J) ?_;have G:((l.take i).flatMap da).length=i*5:=by rw[Bj dF,List.length_take,Nat.min_eq_left hi]
  have hsz2:((l.take i).flatMap da++z++a).length=wZ*5:=by rw[List.length_append,List.length_append,G,hz,y];omega
  have hv2:Rd J 5 (.slice (some ⟨vb,0,none⟩) 1 j) 1 (da o):=by
   have:=hv.rd.mod mF λ_ _ h=>h;rw[Z]at this;exact this
  refine qp (sz:=4) (k:=1) eV tj hb2 hv2 (by show _=min _ _;omega) (by rw[List.size_toArray,hsz2];omega) (gY o) ?_;have I:cl (λb=>b=q) J (J.setRow q (iJ ((l.take i).flatMap da++z++a) (i*5) ((da o).take 5)).toArray):=(cl.refl (λb=>b=q) J).setRow (.inl rfl) _;have e5:(da o).take 5=da o:=rfl
  have Q:iJ ((l.take i).flatMap da++z++a) (i*5) (da o)=(l.take i).flatMap da++da o++(z++a).drop 5:=by
   unfold iJ;rw[List.append_assoc ((l.take i).flatMap da) z a,<-G,List.take_left,dF,<-List.drop_drop,List.drop_left]
  have t:(J.setRow q (iJ ((l.take i).flatMap da++z++a) (i*5) ((da o).take 5)).toArray).heap[q]? =some (.cells ((l.take i).flatMap da++da o++(z++a).drop 5).toArray iq (0,0)):=by
   rw[dw,if_pos rfl,hb2,e5,Q]
  show sm _ _ _;rw[show((l.take i).flatMap da++z++a).toArray.toList=(l.take i).flatMap da++z++a from rfl,show 1*(4+1)=5 from rfl];generalize J.setRow q (iJ ((l.take i).flatMap da++z++a) (i*5) ((da o).take 5)).toArray=F at I t|-;refine co (v:=.int .i64 ((i+1:Nat):Int)) (λW=>by simp[go_sem];rw[cS (by omega) (by omega)]) ?_;refine co (λW=>AZ eV tj (show i+1<=l.length+1 by omega) O (by omega) W) ?_;refine co (λW=>AZ eV tj (show i<=l.length by omega) hc (by omega) W) ?_;have mD:cl (λb=>b=q) J F.drew:=I.drew;have u:F.drew.heap[q]? =some (.cells ((l.take i).flatMap da++da o++(z++a).drop 5).toArray iq (0,0)):=t
  have C:Rd F.drew (4+1) (.slice (some ⟨b,i*(4+1),none⟩) (l.length - i) (c - i)) (l.length - i) ((l.drop i).flatMap da):=by
   have N:At w b 0 (l.flatMap da):=⟨_,_,_,T,by rw[List.size_toArray,f,S];omega,by simp⟩
   have h1:=N.sub (i*5) ((l.length - i)*5) (by rw[S];omega);rw[QL dF,List.take_of_length_le (by rw[Bj dF,List.length_drop];exact Nat.le_refl _),Nat.zero_add]at h1;refine⟨by rw[Bj dF,List.length_drop],.inr ⟨b,i*(4+1),c - i,rfl,by omega,?_⟩⟩;exact(h1.mod mF id).mod mD λe=>hbb e
  have hsz3:((l.take i).flatMap da++da o++(z++a).drop 5).length=wZ*5:=by
   rw[List.length_append,List.length_append,G,dF,List.length_drop,List.length_append,hz,y];omega
  refine qp (sz:=4) (k:=l.length - i) eV tj u C (by show _=min _ _;omega) (by rw[List.size_toArray,hsz3];omega) (IN gY _) ?_;have r:((l.drop i).flatMap da).length=(l.length - i)*5:=by rw[Bj dF,List.length_drop]
  have R:iJ ((l.take i).flatMap da++da o++(z++a).drop 5) ((i+1)*(4+1)) (((l.drop i).flatMap da).take ((l.length - i)*(4+1)))=(l.take i++o::l.drop i).flatMap da++a:=by
   have hAo:((l.take i).flatMap da++da o).length=(i+1)*(4+1):=by rw[List.length_append,G,dF];omega
   have e2:((l.drop i).flatMap da).take ((l.length - i)*(4+1))=(l.drop i).flatMap da:=List.take_of_length_le (by rw[r];exact Nat.le_refl _);rw[e2];unfold iJ;rw[<-hAo,List.take_left,r,<-List.drop_drop,List.drop_left,List.drop_drop];rw[show 5+(l.length - i)*5=z.length by rw[hz];omega,List.drop_left];simp[List.append_assoc]
  refine hK _ _ ⟨by rw[Bj dF,m],.inr ⟨q,wZ,a,by rw[m],by rw[m];exact O,?_,by rw[m];exact y,Y⟩⟩ ?_ λX p=>?_
  ·rw[dw,if_pos rfl,u];show some (Obj.cells (iJ ((l.take i).flatMap da++da o++(z++a).drop 5) ((i+1)*(4+1)) (((l.drop i).flatMap da).take ((l.length - i)*(4+1)))).toArray iq (0,0))=_;rw[R]
  ·exact((mF.mono λ_ _ h=>h.elim).on mD λX p=>.inr (by rw[p];exact H)).setRow (.inr H) _
  ·have:X=q:=by cases p;rfl
   exact .inr (by omega)
 ·have g:¬(c:Int)<(l.length:Int)+1:=by omega
  refine ck (v:=.bool false) (by simp[go_sem,g]<;>first|exact⟨rfl,rfl⟩|exact rfl) ?_;rw[ci,if_neg Bool.false_ne_true];refine ck (v:=.int .i64 ((l.length+1:Nat):Int)) (w' :=w) (by simp[go_sem];rw[cS (by omega) (by omega)]) ?_;refine ck (D9 eV tj (show l.length+1<=c by omega) (by omega) w) ?_;refine ck (v:=.int .i64 ((i+1:Nat):Int)) (w' :=w) (by simp[go_sem];rw[cS (by omega) (by omega)]) ?_;refine ck (AZ eV tj (show i+1<=l.length+1 by omega) (by omega) (by omega) w) ?_
  have hov:(callFunc 351 #[.slice (some ⟨vb,0,none⟩) 1 j,.slice (some ⟨b,(i+1)*(4+1),none⟩) (l.length+1 - (i+1)) (c - (i+1))]).run Tryz.prog w=.ok (.value (.bool false)) w:=by
   rw[run_callFunc_extern Tryz.func351 (by kernel_rfl) (by kernel_rfl) (by kernel_rfl) L1];rw[Lib.run_overlaps_apart w gO 4 iq eV 5 Tm ⟨vb,0,none⟩ ⟨b,(i+1)*(4+1),none⟩ 1 j _ _ hne iq iq _ _ (S8 E) (S8 T) (by rw[List.size_toArray,f];omega) (Kd E _) (Kd E _)];rfl
  refine⟨?_⟩;show rn Tryz.prog (callFunc 351 #[.slice (some ⟨vb,0,none⟩) 1 j,.slice (some ⟨b,(i+1)*(4+1),none⟩) (l.length+1 - (i+1)) (c - (i+1))]) w _;refine fI hov ?_;refine ck (v:=.bool true) (by simp[go_sem]<;>first|exact⟨rfl,rfl⟩|exact rfl) ?_;rw[ci,if_pos rfl];refine co (v:=.int .i64 ((i+1:Nat):Int)) (λW=>by simp[go_sem];rw[cS (by omega) (by omega)]) ?_;refine co (λW=>AZ eV tj (show i+1<=l.length+1 by omega) (by omega) (by omega) W) ?_;refine co (λW=>AZ eV tj (show i<=l.length+1 by omega) (by omega) (by omega) W) ?_;have u:w.drew.heap[b]? =some (.cells (l.flatMap da++rest).toArray iq (0,0)):=T;have U:5<=rest.length:=by rw[D];omega
  have C:Rd w.drew (4+1) (.slice (some ⟨b,i*(4+1),none⟩) (l.length+1 - i) (c - i)) (l.length+1 - i) ((l.drop i).flatMap da++rest.take 5):=by
   have N:At w b 0 (l.flatMap da++rest):=At.all (cN T);have h1:=N.sub (i*5) ((l.length+1 - i)*5) (by rw[f];omega);rw[List.drop_append_of_le_length (by rw[S];omega),QL dF,Nat.zero_add]at h1
   have e1:((l.drop i).flatMap da++rest).take ((l.length+1 - i)*5)=(l.drop i).flatMap da++rest.take 5:=by
    have hd:((l.drop i).flatMap da).length=(l.length - i)*5:=by rw[Bj dF,List.length_drop]
    rw[show(l.length+1 - i)*5=((l.drop i).flatMap da).length+5 by rw[hd];omega,List.take_length_add_append]
   rw[e1]at h1;refine⟨by rw[List.length_append,Bj dF,List.length_drop,List.length_take,Nat.min_eq_left U];omega,.inr ⟨b,i*(4+1),c - i,rfl,by omega,h1.keep rfl⟩⟩
  have r:((l.drop i).flatMap da).length=(l.length - i)*5:=by rw[Bj dF,List.length_drop]
  refine qp (sz:=4) (k:=l.length - i) eV tj u C (by show _=min _ _;omega) (by rw[List.size_toArray,f];omega) (by rw[List.all_append,IN gY];exact List.all_eq_true.2 λx L=>List.all_eq_true.1 M x (List.mem_of_mem_take L)) ?_;have G:((l.take i).flatMap da).length=i*5:=by rw[Bj dF,List.length_take,Nat.min_eq_left hi]
  obtain⟨d,V,n⟩:∃d:List Value,l.flatMap da++rest=(l.take i).flatMap da++(d++((l.flatMap da++rest).drop ((i+1)*5)))/\d.length=5:=by
   refine⟨((l.flatMap da++rest).drop (i*5)).take 5,?_,by rw[List.length_take,List.length_drop,f];omega⟩;have e1:(l.take i).flatMap da=(l.flatMap da++rest).take (i*5):=by rw[List.take_append_of_le_length (by rw[S];omega),QE dF]
   rw[e1,show(i+1)*5=i*5+5 by omega,<-List.drop_drop,List.take_append_drop,List.take_append_drop]
  have Q:iJ (l.flatMap da++rest) ((i+1)*(4+1)) (((l.drop i).flatMap da++rest.take 5).take ((l.length - i)*(4+1)))=(l.take i).flatMap da++d++((l.drop i).flatMap da++rest.drop 5):=by
   have e2:((l.drop i).flatMap da++rest.take 5).take ((l.length - i)*(4+1))=(l.drop i).flatMap da:=by
    rw[show(l.length - i)*(4+1)=((l.drop i).flatMap da).length by rw[r],List.take_left]
   have e3:(l.flatMap da++rest).take ((i+1)*(4+1))=(l.take i).flatMap da++d:=by
    rw[V,<-List.append_assoc,show(i+1)*(4+1)=((l.take i).flatMap da++d).length by rw[List.length_append,G,n];omega,List.take_left]
   have e4:(l.flatMap da++rest).drop ((i+1)*(4+1)+(l.length - i)*5)=rest.drop 5:=by
    rw[show(i+1)*(4+1)+(l.length - i)*5=(l.flatMap da).length+5 by rw[S];omega,<-List.drop_drop,List.drop_left]
   unfold iJ;rw[e2,r,e3,e4];simp[List.append_assoc]
  have I:cl (cv (.slice (some ⟨b,0,none⟩) l.length c)) w (w.drew.setRow b (iJ (l.flatMap da++rest) ((i+1)*(4+1)) (((l.drop i).flatMap da++rest.take 5).take ((l.length - i)*(4+1)))).toArray):=((cl.refl _ w).drew).setRow (.inl (show cv (.slice (some ⟨b,0,none⟩) l.length c) b from rfl)) _
  have t:(w.drew.setRow b (iJ (l.flatMap da++rest) ((i+1)*(4+1)) (((l.drop i).flatMap da++rest.take 5).take ((l.length - i)*(4+1)))).toArray).heap[b]? =some (.cells ((l.take i).flatMap da++d++((l.drop i).flatMap da++rest.drop 5)).toArray iq (0,0)):=by
   rw[dw,if_pos rfl,u,Q]
  rw[show(l.flatMap da++rest).toArray.toList=l.flatMap da++rest from rfl];generalize w.drew.setRow b (iJ (l.flatMap da++rest) ((i+1)*(4+1)) (((l.drop i).flatMap da++rest.take 5).take ((l.length - i)*(4+1)))).toArray=F at I t|-;refine ck (AZ eV tj (show i<=l.length+1 by omega) (by omega) (by omega) F) ?_
  have hv3:Rd F 5 (.slice (some ⟨vb,0,none⟩) 1 j) 1 (da o):=by
   have:=hv.rd.mod I λX p hs' =>hd X hs' p.sl;rw[Z]at this;exact this
  refine qp (sz:=4) (k:=1) eV tj t hv3 (by show _=min _ _;omega) (by rw[List.size_toArray,List.length_append,List.length_append,List.length_append,G,n,r,List.length_drop,D];omega) (gY o) ?_
  have R:iJ ((l.take i).flatMap da++d++((l.drop i).flatMap da++rest.drop 5)) (i*(4+1)) ((da o).take (1*(4+1)))=(l.take i++o::l.drop i).flatMap da++rest.drop 5:=by
   have e5:(da o).take (1*(4+1))=da o:=rfl;rw[e5];unfold iJ;rw[dF,show i*(4+1)=((l.take i).flatMap da).length by rw[G],List.append_assoc ((l.take i).flatMap da) d,List.take_left,<-List.drop_drop,List.drop_left,<-n,List.drop_left];simp[List.append_assoc]
  refine hK _ _ ⟨by rw[Bj dF,m],.inr ⟨b,c,rest.drop 5,by rw[m],by rw[m];omega,?_,by rw[m,List.length_drop,D];omega,List.all_eq_true.2 λx L=>List.all_eq_true.1 M x (List.mem_of_mem_drop L)⟩⟩ (I.setRow (.inl (show cv (.slice (some ⟨b,0,none⟩) l.length c) b from rfl)) _) λX p=>.inl p;show(F.setRow b (iJ ((l.take i).flatMap da++d++((l.drop i).flatMap da++rest.drop 5)) (i*(4+1)) ((da o).take (1*(4+1)))).toArray).heap[b]? =_;rw[dw,if_pos rfl,t,R]
def LY(w:World)(fv:Value)(p:Od->Bool)(l:List Od):Prop:=
 ∃g cp,fv=.func (.func g) #[] cp/\∀x∈l,∀W,cl (λ_=>False) w W->∀K:cm,(∀W',cl (λ_=>False) W W' ->K (.bool (p x)) W')->Ca Tryz.prog g ⟨[.agg (da x).toArray]++cp.toList⟩ W K
def vk{α:Type}(l:List α)(p:α->Bool):Int:=match l.findIdx? p with|some i=>(i:Int)|none=> -1
def tZ{w:World}{K:cm}{s fv:Value}{l:List Od}{p:Od->Bool}(h:Rd w 5 s l.length (l.flatMap da))(Z:l.length<=1000000)(P:LY w fv p l)
  (E:∀m,cl (λ_=>False) w m->K (.int .i64 (vk l p)) m):Ca Tryz.prog 210 #[s,fv] w K:=by
 obtain⟨g,J,rfl,A⟩:=P;apply OV;obtain⟨a,c,R⟩:=h.isSl;refine fI (v:=.int .i64 (l.length:Int)) (w' :=w) (by rw[R];simp[go_sem]) ?_
 refine dp (λst W=>∃(i:Nat) (x:Value),i<=l.length/\st=(x,.int .i64 i,())/\cl (λ_=>False) w W/\∀j:Nat,∀k:j<l.length,j<i->p l[j]=false)
  (λst _=>match st.2.1 with| .int _ i=>l.length - i.toNat|_=>0) ⟨0,.int .i64 0,by omega,rfl,cl.refl _ _,λj _ h=>by omega⟩ ?_
 rintro⟨_,_⟩ W ⟨i,x,Y,⟨⟩,n,f⟩ V y;unfold Ff;intro _;by_cases d:i<l.length
 ·have q:(i:Int)<(l.length:Int):=by omega
  refine ck (v:=.bool true) (by simp[go_sem,q]<;>first|exact⟨rfl,rfl⟩|exact rfl) ?_;rw[ci,if_pos rfl];obtain⟨b,z,O,u,F,Q⟩:=(h.mod n λ_ _ h=>h).item dF d rfl;obtain⟨C,e,X,M,o⟩:=Q.get;have D:=o 0 (.int .u64 l[i].num) rfl;have I:=o 1 (.int .u32 l[i].acct) rfl;have B:=o 2 (.bool l[i].buy) rfl;have L:=o 3 (.int .i64 l[i].price) rfl;have H:=o 4 (.int .i64 l[i].left) rfl;simp only[Nat.add_assoc,Nat.add_zero]at D I B L H;refine ck (v:=.pointer (some ⟨b,z+i*5,none⟩)) (w' :=W) (by rw[u];simp[go_sem,d,cE]) ?_;refine ck (v:=.agg (da l[i]).toArray) (w' :=W) (by simp[go_sem,cN M,D,I,B,L,H,da]) ?_;simp only[iH];have G:(#[.agg (da l[i]).toArray]++J:Array Value)=⟨[.agg (da l[i]).toArray]++J.toList⟩:=by apply Array.ext';simp
  refine A l[i] (List.getElem_mem d) W n _ λU t=>?_;cases hp:p l[i]with
  |true=>
   rw[ci,if_pos rfl]
   have:vk l p=(i:Int):=by
    unfold vk
    have:l.findIdx? p=some i:=by
     rw[List.findIdx?_eq_some_iff_getElem];refine⟨d,hp,λj k=>?_⟩;rw[f j (by omega) k];simp
    rw[this]
   have r:=E _ (n.trans t);rw[this]at r;exact r
  |false=>
   rw[ci,if_neg Bool.false_ne_true];refine ck (v:=.int .i64 ((i+1:Nat):Int)) (w' :=U) (by simp[go_sem];rw[cS (by omega) (by omega)]) ?_;refine y _ _ ⟨i+1,_,by omega,rfl,n.trans t,λj k N=>?_⟩ (by show l.length - (((i+1:Nat):Int)).toNat<l.length - ((i:Int)).toNat;omega);by_cases T:j=i
   ·subst T;exact hp
   ·exact f j k (by omega)
 ·obtain rfl:i=l.length:=by omega
  refine ck (v:=.bool false) (by simp[go_sem]<;>first|exact⟨rfl,rfl⟩|exact rfl) ?_;rw[ci,if_neg Bool.false_ne_true]
  have:vk l p= -1:=by
   unfold vk
   have:l.findIdx? p=none:=by
    rw[List.findIdx?_eq_none_iff];intro x S;obtain⟨j,k,rfl⟩:=List.getElem_of_mem S;exact f j k k
   rw[this]
  have r:=E _ n;rw[this]at r;exact r
end Go.Proofs
