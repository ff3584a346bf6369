/- Part of a proof. -/
import Derived.Laws.Externs
import Derived.Shelf.Bits.Mul64
import Derived.Shelf.Small.Bits
import Derived.Shelf.Lay
import Derived.Ground.NamesProg
import Derived.Lib.ItoaNum
import Derived.Laws.Bits64b
import Derived.Test.YtgebhcgmckjbbaaGreatB9
set_option linter.all false
namespace Go.Proofs
open Go Go.Vc
attribute [local congr] cr
def xO{l:List Ct}(m:nY l){n:Int}{k:Ct}(h:ek l n=some k):∃d:oZ l n<l.length,l[oZ l n]=k/\k.spec.num=n:=by
 unfold ek at h;obtain⟨o,i,d,b,g⟩:=List.find?_eq_some_iff_getElem.1 h;have a:k.spec.num=n:=by simpa using o
 have e:oZ l n=i:=by
  refine tG (by omega) (λj f c=>?_) λf=>by rw[b];omega
  have:=List.pairwise_iff_getElem.1 m j i f d c;rw[b]at this;omega
 subst e;exact⟨d,b,a⟩
def AJ{l:List Ct}{n:Int}{k:Ct}(h:ek l n=some k):k∈l:=List.mem_of_find?_eq_some h
def KU{w:World}{K:cm}{c:Nat}{F:Nat->Prop}{S:Aa}{n:Int}(h:nG w c F S)
  (f:∀a,cl (λ_=>False) w a->K (.tuple #[.int .i64 (oZ S.l n),.bool (ek S.l n).isSome]) a):Ca Tryz.prog 198 #[dK c,.int .u32 n] w K:=by
 obtain⟨⟨sl,h1,e,m,j⟩,l,o,k,g⟩:=h;apply PO;unfold dK;simp only[cw];obtain⟨sa,p,b,-⟩:=e.isSl;refine ck (by simp[-Int.natCast_add,go_sem]<;>first|exact⟨rfl,rfl⟩|exact rfl) ?_;refine ck (v:=sl) (w' :=w) (by simp[go_sem,h1,b]) ?_;refine Ih e.rd (by omega) g λd i=>?_;refine ck (v:=.int .i64 (oZ S.l n)) (w' :=d) (by simp[go_sem]) ?_;refine ck (v:=.bool (ek S.l n).isSome) (w' :=d) (by simp[go_sem]) ?_;exact f _ i
def di(l:List Ct)(n:Int):Int:=match ek l n with|none=>7|some k=>if k.st=3 then 50 else 0
def Lw.item{w:World}{sl:Value}{l:List Ct}(h:Lw w sl l){i:Nat}(hi:i<l.length):
  ∃b a rest,sl=.slice (some ⟨b,0,none⟩) l.length a/\(∀k:IntKind,(Instr.indexAt GZ sl (.int k (i:Int))).run Tryz.prog w=.ok (.pointer (some ⟨b,i*27,none⟩)) w)/\At w b (i*27) (dN l[i])/\
   hp w b=some (.cells (l.flatMap dN++rest).toArray gQ (0,0))/\∀j,j<27->(l.flatMap dN++rest)[i*27+j]? =(dN l[i])[j]? :=by
 obtain⟨b,a,rest,rfl,o,e,n⟩:=h.pos (by omega);have d:At w b 0 (l.flatMap dN++rest):=At.all (cO e);have c:=h.1;have h1:=d.sub (i*27) 27 (by rw[List.length_append,c];omega);rw[List.drop_append_of_le_length (by rw[c];omega),List.take_append_of_le_length (by rw[List.length_drop,c];omega),jd dN 27 l i (λx _=>cX x) hi,Nat.zero_add]at h1;refine⟨b,a,rest,rfl,λk=>by simp[go_sem,hi,cC,ua],h1,cO e,λj m=>?_⟩;rw[List.getElem?_append_left (by rw[c];omega)];have g:=jd dN 27 l i (λx _=>cX x) hi;have f:(((l.flatMap dN).drop (i*27)).take 27)[j]? =(dN l[i])[j]? :=by rw[g]
 rw[List.getElem?_take,if_pos m,List.getElem?_drop]at f;exact f
def BQ{w:World}{K:cm}{c:Nat}{F:Nat->Prop}{S:Aa}(h:nG w c F S)(a:K (.int .u32 S.day) w):Ca Tryz.prog 53 #[dK c] w K:=by
 obtain⟨⟨sl,h1,b,f,d⟩,e⟩:=id h;apply Qs;refine oI h ?_;refine ck (v:=.bool false) (by simp[go_sem]<;>first|exact⟨rfl,rfl⟩|exact rfl) ?_;rw[ci,if_neg Bool.false_ne_true];simp only[dK,cw];refine ck (by simp[-Int.natCast_add,go_sem]<;>first|exact⟨rfl,rfl⟩|exact rfl) ?_;refine ck (by simp[-Int.natCast_add,go_sem,h1]<;>first|exact⟨rfl,rfl⟩|exact rfl) ?_;exact a
def ng:Sp:=⟨0,0,0,0,0,0,Vector.replicate 16 0,0,0,0⟩
def nU:Ct:=⟨ng,0,0⟩
def wH:kW Tryz.prog gQ=dN nU:=by kernel_rfl
def Iy:Tryz.prog.built gQ []=some (dN nU).toArray:=by kernel_rfl
def Kh{W:World}{q:Nat}{k0 k:Ct}{K:Value->World->Prop}(h:hp W q=some (.cells (dN k0).toArray gQ (0,0)))
  (i:∀d,cl (λb=>b=q) W d->K (.agg (dN k).toArray) d):
  gh Tryz.prog (ew gQ (.pointer (some ⟨q,0,none⟩)) (.agg (dN k).toArray)) W λa=>iD Tryz.prog (dh gQ (.pointer (some ⟨q,0,none⟩))) a λj=>K j a:=by
 refine iO (n:=26) (c:=(dN k0).toArray) (e:=gQ) xz (cX k) h (by rw[cX,List.size_toArray,cX];exact Nat.le_refl _) (th k) ?_;rw[show(dN k0).toArray.toList=dN k0 from rfl,jI (by rw[cX,cX])]
 have f:hp (W.setRow q (dN k).toArray) q=some (.cells (dN k).toArray gQ (0,0)):=by
  show(W.setRow q _).heap[q]? =_;have g:W.heap[q]? =some (.cells (dN k0).toArray gQ (0,0)):=h;rw[dx,if_pos rfl,g]
 refine eX (dN k) 26 zV xz (cX k) (At.all f) ?_;exact i _ ((cl.refl (λb=>b=q) W).setRow (.inl rfl) _)
def fE(l:List Ct)(n:Int):Ct×Int:=match ek l n with|none=>(nU,7)|some k=>(k,0)
def IY{w:World}{K:cm}{c:Nat}{F:Nat->Prop}{S:Aa}{n:Int}(h:nG w c F S)
  (d:∀a,cl (λ_=>False) w a->K (.tuple #[.agg (dN (fE S.l n).1).toArray,.int .i64 (fE S.l n).2]) a):Ca Tryz.prog 123 #[dK c,.int .u32 n] w K:=by
 apply Pk;refine kY QM ?_;obtain⟨q,e⟩:∃q,q=w.heap.size:=⟨_,rfl⟩
 have m0:cl (λ_=>False) w (w.alloc (.cells (kW Tryz.prog gQ).toArray gQ)):=(cl.refl _ w).alloc _;have t:hp (w.alloc (.cells (kW Tryz.prog gQ).toArray gQ)) q=some (.cells (dN nU).toArray gQ (0,0)):=by rw[wH,e];simp[go_sem]
 rw[<-e];generalize w.alloc (.cells (kW Tryz.prog gQ).toArray gQ)=M at m0 t|-;have i:=h.mod m0 λ_ _ h=>h;refine oI i ?_;refine ck (v:=.bool false) (by simp[go_sem]<;>first|exact⟨rfl,rfl⟩|exact rfl) ?_;rw[ci,if_neg Bool.false_ne_true];refine KU i λg o=>?_;have B:=i.mod o λ_ _ h=>h;have s:=m0.trans o;have r:=o.hpk t id;refine ck (v:=.int .i64 (oZ S.l n)) (w' :=g) (by simp[go_sem]) ?_;refine ck (v:=.bool (ek S.l n).isSome) (w' :=g) (by simp[go_sem]) ?_;unfold fE at d;cases j:ek S.l n with
 |none=>
  rw[j]at d;refine ck (v:=.bool true) (by simp[go_sem]<;>first|exact⟨rfl,rfl⟩|exact rfl) ?_;rw[ci,if_pos rfl];refine oz Iy ?_;refine Kh r λE p=>?_;exact d _ (s.on p λx D=>.inr (by omega))
 |some k=>
  rw[j]at d;refine ck (v:=.bool false) (by simp[go_sem]<;>first|exact⟨rfl,rfl⟩|exact rfl) ?_;rw[ci,if_neg Bool.false_ne_true];obtain⟨C,m,z⟩:=xO h.srt j;obtain⟨⟨sl,h1,A,N,H⟩,J,O,I,L⟩:=B;obtain⟨b,l,rest,rfl,f,u,G,y⟩:=A.item C;simp only[dK,cw];refine ck (by simp[-Int.natCast_add,go_sem]<;>first|exact⟨rfl,rfl⟩|exact rfl) ?_;refine ck (v:=.slice (some ⟨b,0,none⟩) S.l.length l) (w' :=g) (by simp[go_sem,h1]) ?_;refine ck (f .i64) ?_;rw[m]at u;refine ey (dN k) 26 zV xz (cX k) u ?_;refine Kh r λE p=>?_;exact d _ (s.on p λx D=>.inr (by omega))
def nV{w:World}{K:cm}{c:Nat}{F:Nat->Prop}{S:Aa}(h:nG w c F S)
  (J:∀z C g,nG g z C S->cl (λ_=>False) w g->(∀b,C b->w.heap.size<=b)->K (dK z) g):Ca Tryz.prog 108 #[dK c] w K:=by
 obtain⟨⟨sl,h1,u,X,V⟩,I,R,H,N⟩:=id h;obtain⟨sa,Y,d,-⟩:=u.isSl;apply NS;refine oI h ?_;refine ck (v:=.bool false) (by simp[go_sem]<;>first|exact⟨rfl,rfl⟩|exact rfl) ?_;rw[ci,if_neg Bool.false_ne_true];simp only[dK,cw];refine ck (v:=.agg #[.bool true,.int .u32 S.day,sl]) (w' :=w) (by simp[go_sem,h1,d]) ?_;obtain⟨q,j⟩:∃q,q=w.heap.size:=⟨_,rfl⟩
 have n:∃a,(Instr.alloc 197 true (.tuple #[])).run Tryz.prog w=.ok (.pointer (some ⟨q,0,none⟩)) a/\∃i,(Instr.storeAt 197 (.pointer (some ⟨q,0,none⟩)) (.agg #[.bool true,.int .u32 S.day,sl])).run Tryz.prog a=.ok () i/\
   hp i q=some (.cells #[.bool true,.int .u32 S.day,sl] 197 (0,0))/\cl (λ_=>False) w i/\w.heap.size<i.heap.size:=by
  obtain⟨a,f⟩:∃a,a=w.alloc (.cells #[.bool false,.int .u32 0,.slice none 0 0] 197):=⟨_,rfl⟩
  have O:cl (λ_=>False) w a:=by rw[f];exact(cl.refl _ w).alloc _
  have t:hp a q=some (.cells #[.bool false,.int .u32 0,.slice none 0 0] 197 (0,0)):=by rw[f,j];simp[go_sem]
  have M:a.heap.size=w.heap.size+1:=by rw[f,World.size_alloc]
  refine⟨a,by rw[f,j];simp[go_sem],((a.setCell ⟨q,0,none⟩ (.bool true)).setCell ⟨q,1,none⟩ (.int .u32 S.day)).setCell ⟨q,2,none⟩ sl,by rw[d];simp[go_sem,t],by rw[d];simp[go_sem,t],?_,by simp only[mh];omega⟩;exact O.on ((((cl.refl (λx=>x=q) a).setCell (.inl rfl) _ _).setCell (.inl rfl) _ _).setCell (.inl rfl) _ _) λx k=>.inr (by omega)
 obtain⟨a,T,i,L,P,p,Q⟩:=n;refine ck T ?_;refine dI L ?_;have k1:=p.hpk h1 id;refine ck (by simp[-Int.natCast_add,go_sem]<;>first|exact⟨rfl,rfl⟩|exact rfl) ?_;refine ck (v:=sl) (w' :=i) (by simp[go_sem,k1,d]) ?_;refine pB (l:=S.l) (u.mod p λ_ _ h=>h).rd (by omega) λm o E y A=>?_;have B:=y.hpk P id;refine ck (by simp[-Int.natCast_add,go_sem]<;>first|exact⟨rfl,rfl⟩|exact rfl) ?_;obtain⟨W,U,r,-⟩:=E.isSl;refine dI (w' :=o.setCell ⟨q,2,none⟩ m) (by rw[r];simp[go_sem,B]) ?_;have G:cl (λx=>x=q) o (o.setCell ⟨q,2,none⟩ m):=(cl.refl (λx=>x=q) o).setCell (.inl rfl) _ _;have D:¬co m q:=λk=>by have:=A q k;omega
 refine J q (λb=>b=q\/co m b) _ ⟨⟨m,by simp[go_sem,B],E.mod G λx k e=>D (e▸k),λb=>Iff.rfl,D⟩,I,R,H,N⟩ ((p.trans y).on G λx k=>.inr (by omega)) λb s=>?_;rcases s with rfl|s
 ·omega
 ·have:=A b s;omega
def Lw.ld{w:World}{s:Value}{l:List Ct}(h:Rd w 27 s l.length (l.flatMap dN)){x:Nat}(e:x<l.length):
  ∃p,(Instr.indexAt GZ s (.int .i64 (x:Int))).run Tryz.prog w=.ok p w/\(dh gQ p).run Tryz.prog w=.ok (.agg (dN l[x]).toArray) w:=by
 obtain⟨b,a,f,c,d,g⟩:=h.item cX e rfl;exact⟨.pointer (some ⟨b,a+x*27,none⟩),by rw[c];simp[go_sem,e,cC,ua],fw zV xz (cX _) g⟩
def JD{W:World}{k:Ct}{K:Value->World->Prop}(c:∀a,hp a W.heap.size=some (.cells (dN k).toArray gQ (0,0))->cl (λ_=>False) W a->K (.pointer (some ⟨W.heap.size,0,none⟩)) a):
  rx Tryz.prog (iz gQ) W λv b=>gh Tryz.prog (ew gQ v (.agg (dN k).toArray)) b λa=>K v a:=by
 refine Cp 26 QM xz (cX k) RC (th k) ?_;exact c _ (by simp[go_sem]) ((cl.refl _ W).alloc _)
def In{c b:Nat}{S:Aa}{T:TypeId}:tO Tryz.prog (.func (.func 131) #[] #[.pointer (some ⟨b,0,none⟩)]) (S.l.map λk=>[.agg (dN k).toArray]) (λW=>hp W b=some (.cells #[dK c] T (0,0))/\∃F,nG W c F S):=by
 refine⟨⟨_,_,_,rfl,?_⟩⟩;rintro y J Js W K ⟨g,F,A⟩ N m d f z;show Ca Tryz.prog _ #[y,.pointer (some ⟨b,0,none⟩)] W K;apply MS;refine ck (v:=dK c) (w' :=W) (by simp[go_sem,g,dK]) ?_;refine oI A ?_;refine ck (v:=.bool false) (by simp[go_sem]<;>first|exact⟨rfl,rfl⟩|exact rfl) ?_;rw[ci,if_neg Bool.false_ne_true];obtain⟨⟨sl,C,D,Z,Y⟩,c5,c6⟩:=id A;refine ck (v:=dK c) (w' :=W) (by simp[go_sem,g,dK]) ?_;simp only[dK,cw];obtain⟨X,V,t,-⟩:=D.isSl;refine ck (by simp[-Int.natCast_add,go_sem,C]<;>first|exact⟨rfl,rfl⟩|exact rfl) ?_;refine ck (v:=sl) (w' :=W) (by simp[go_sem,C,t]) ?_;refine pB (l:=S.l) D.rd (by omega) λn H u M R=>?_;obtain⟨sa,sc,x,-⟩:=u.isSl;refine fi (v:=.int .i64 (S.l.length:Int)) (w' :=H) (by rw[x];simp[go_sem]) ?_;have w:J (co n) 0 H:=N _ _ M λb g=>⟨R b g,u.lt g⟩
 refine dp (λst o=>∃i:Nat,i<=S.l.length/\st=(.int .i64 i,())/\J (co n) i o/\Lw o n S.l)
  (λst _=>match st.1 with| .int _ i=>S.l.length - i.toNat|_=>0) ⟨0,by omega,rfl,w,u⟩ ?_
 rintro⟨_,_⟩ o ⟨i,hi,⟨⟩,E,B⟩ U r;unfold Gz;intro _;by_cases e:i<S.l.length
 ·have j:(i:Int)<(S.l.length:Int):=by omega
  refine ck (v:=.bool true) (by simp[go_sem,j]<;>first|exact⟨rfl,rfl⟩|exact rfl) ?_;rw[ci,if_pos rfl];obtain⟨p,O,Q⟩:=Lw.ld B.rd e;refine ck O ?_;refine fM Q ?_;refine JD λL P I=>?_;refine ey (dN S.l[i]) 26 zV xz (cX _) (At.all P) ?_;have q:=B.mod I λ_ _ h=>h;refine d (co n) i [.agg (dN S.l[i]).toArray] L (by simp[e]) (m _ _ _ _ E I) _ (λG a s=>?_) λG a=>?_
  ·refine ck (v:=.bool false) (by simp[go_sem]<;>first|exact⟨rfl,rfl⟩|exact rfl) ?_;rw[ci,if_neg Bool.false_ne_true];refine ck (v:=.int .i64 ((i+1:Nat):Int)) (w' :=G) (by simp[go_sem];rw[cV (by omega) (by omega)]) ?_;exact r _ _ ⟨i+1,by omega,rfl,a,q.keep s⟩ (by show S.l.length - (((i+1:Nat):Int)).toNat<S.l.length - ((i:Int)).toNat;omega)
  ·refine ck (v:=.bool true) (by simp[go_sem]<;>first|exact⟨rfl,rfl⟩|exact rfl) ?_;rw[ci,if_pos rfl];exact z _ a
 ·obtain rfl:i=S.l.length:=by omega
  refine ck (v:=.bool false) (by simp[go_sem]<;>first|exact⟨rfl,rfl⟩|exact rfl) ?_;rw[ci,if_neg Bool.false_ne_true];exact f _ o (by simpa using E)
def Bt{w:World}{K:cm}{c:Nat}{F:Nat->Prop}{S:Aa}(h:nG w c F S)
  (e:∀gv a,jC gv (S.l.map λk=>[.agg (dN k).toArray]) a->cl (λ_=>False) w a->K gv a):Ca Tryz.prog 47 #[dK c] w K:=by
 apply Qg;have m0:cl (λ_=>False) w (w.alloc (.cells #[dK c] 61)):=(cl.refl _ w).alloc _;refine ck (v:=.pointer (some ⟨w.heap.size,0,none⟩)) (w' :=w.alloc (.cells #[dK c] 61)) (by simp[go_sem,dK]) ?_;have d:hp (w.alloc (.cells #[dK c] 61)) w.heap.size=some (.cells #[dK c] 61 (0,0)):=by simp[go_sem]
 exact e _ _ ⟨⟨_,E4 (In (c:=c) (b:=w.heap.size) (S:=S) (T:=61)),λW m=>⟨m.hpk d id,F,h.mod (m0.trans m) λ_ _ h=>h⟩⟩,_,_,rfl⟩ m0
end Go.Proofs
set_option maxRecDepth 100000
namespace Go.Proofs
open Go Go.Vc
end Go.Proofs
namespace Go.Proofs
open Go Go.Vc
attribute [local congr] cr
end Go.Proofs
set_option maxRecDepth 100000
namespace Go.Proofs
open Go Go.Vc
end Go.Proofs
namespace Go.Proofs
open Go Go.Vc Go.Shelf
attribute [local congr] cr
section
variable{y1 y0 r0 u q r:Nat}
end
end Go.Proofs
namespace Go.Srt
open Go.Vc Go.Proofs
section
variable{α:Type}(lt:α->α->Bool)
end
end Go.Srt
namespace Go.Proofs
open Go Go.Vc Go.Srt
attribute [local congr] cr
section
variable{w0:World}{sl fv:Value}{cf:Int->Int->Int}{l0:List Int}
end
end Go.Proofs
namespace Go.Proofs
open Go Go.Vc Go.Srt
attribute [local congr] cr
section
variable{w0:World}{sl fv:Value}{cf:Int->Int->Int}{l0:List Int}
end
section
variable{w0:World}{sl fv:Value}{cf:Int->Int->Int}{l0:List Int}
end
section
variable{w0:World}{sl fv:Value}{cf:Od->Od->Int}{l0:List Od}
end
section
variable{w0:World}{sl fv:Value}{cf:Od->Od->Int}{l0:List Od}
end
section
variable{w0:World}{sl fv:Value}{cf:Od->Od->Int}{l0:List Od}
end
end Go.Proofs
namespace Go.Proofs
open Go Go.Vc
attribute [local congr] cr
section
variable{α:Type}{f:α->List Value}{S:Nat}
end
def HH(n:Int):Value:=.int .u64 n
def Oq:Tryz.prog.underlying 27=some (.int .u64):=by kernel_rfl
def NM:ml Tryz.prog 27 HH:=ml.int Oq
def Ju:Tryz.prog.underlying 232=some (.map 27 3):=by kernel_rfl
structure Fl where
 num:Int
 acct:Int
 qty:Int
end Go.Proofs
namespace Go.Proofs
open Go Go.Vc
structure Cm where
 kind:Int
 acct:Int
 ct:Int
 num:Int
 amt:Int
 spec:Sp
 on:Bool
 buy:Bool
 ty:Int
 price:Int
 qty:Int
 deriving DecidableEq
def Cm.Fit(c:Cm):Prop:=(0<=c.kind/\c.kind<256)/\fq c.acct/\fq c.ct/\ER c.num/\eQ c.amt/\c.spec.Fit/\(0<=c.ty/\c.ty<256)/\eQ c.price/\eQ c.qty
def jk:Cm:=⟨0,0,0,0,0,ng,false,false,0,0,0⟩
def lH(c:Cm):List Value:=[.int .u8 c.kind,.int .u32 c.acct,.int .u32 c.ct,.int .u64 c.num,.int .i64 c.amt]++(dl c.spec++[.bool c.on,.bool c.buy,.int .u8 c.ty,.int .i64 c.price,.int .i64 c.qty])
def Cm.bare(c:Cm):Cm:=
 let b:Cm:={jk with kind:=c.kind}
 if c.kind=1\/c.kind=2 then{b with acct:=c.acct,amt:=c.amt}
 else if c.kind=3 then{b with spec:=c.spec}
 else if c.kind=4 then{b with ct:=c.ct,on:=c.on}
 else if c.kind=5 then{c with num:=0,amt:=0,spec:=ng,on:=false}
 else if c.kind=6 then{b with acct:=c.acct,num:=c.num}
 else if c.kind=7 then{b with acct:=c.acct,num:=c.num,price:=c.price,qty:=c.qty}
 else if c.kind=8 then{b with acct:=c.acct,ct:=c.ct}
 else if c.kind=9 then{b with acct:=c.acct,ct:=c.ct,buy:=c.buy,price:=c.price,qty:=c.qty}
 else if c.kind=10 then{b with acct:=c.acct,on:=c.on}
 else if c.kind=11 then{b with ct:=c.ct,price:=c.price}
 else if c.kind=13 then{b with acct:=c.acct}
 else if c.kind=14 then{b with ct:=c.ct}
 else b
def Cm.may(c:Cm):Bool:=decide (1<=c.kind/\c.kind<=14)&& decide (c=c.bare)&& (decide (c.kind≠3)||c.spec.may)
structure Rp where
 err:Int
 num:Int
 filled:Int
 left:Int
 trades:List Td
 gone:List Int
 accts:List Int
 deriving DecidableEq
def AS:Rp:=⟨0,0,0,0,[],[],[]⟩
def oU(e:Int):Rp:={AS with err:=e}
structure dF where
 cal:Aa
 led:dM
 bk:Int->Bk
 bd:Int->List Od
 next:Int
def dF.empty:dF:=⟨⟨0,[]⟩,⟨0,[],[]⟩,λ_=>Bk.empty,λ_=>[],1⟩
def fV{α:Type}(f:Int->α)(n:Int)(x:α):Int->α:=λm=>if m=n then x else f m
def dJ{α:Type}(f:Int->α)(n:Int)(x:α):fV f n x n=x:=if_pos rfl
def eB{α:Type}(f:Int->α)(n:Int)(x:α){m:Int}(h:m≠n):fV f n x m=f m:=if_neg h
def dF.nums(S:dF):List Int:=S.cal.l.map (·.spec.num)
def jz:Int:=4611686018427387904
structure iq where
 day:Int
 next:Int
 fund:Int
 accts:List Ac
 cts:List Ct
 poss:List Po
 ords:List (Int×Od)
 bids:List (Int×Od)
def dF.state(S:dF):iq:=
 ⟨S.cal.day,S.next,S.led.fund,S.led.all,S.cal.l,S.nums.flatMap S.led.holders,S.nums.flatMap λn=>(S.bk n).all.map λo=>(n,o),S.nums.flatMap λn=>(S.bd n).map λo=>(n,o)⟩
end Go.Proofs
namespace Go.Proofs
open Go Go.Vc
attribute [local congr] cr
inductive Pt where
 |v
 |cal
 |led
 |mb
 |md
 |bk (n:Int)
 |bd (n:Int)
 deriving DecidableEq
def eh(v:Nat):Value:=.pointer (some ⟨v,0,none⟩)
def uK(x:Value):Value:=x
abbrev pl:TypeId:=66
def rE(D:List (Int×Value))(n:Int):Value:=(lk D n).getD cF
structure iV(w:World)(v c l mb md:Nat)(A:List (Int×Nat))(D:List (Int×Value))(fp:Pt->Nat->Prop)(S:dF):Prop where
 blk:hp w v=some (.cells #[dK c,dm l,.map (some mb),.map (some md),.int .u64 S.next] pl (0,0))
 cal:nG w c (fp .cal) S.cal
 led:iC w l (fp .led) S.led
 mbk:cU d8 eY w mb A
 mbd:cU d8 uK w md D
 bk:∀n b,lk A n=some b->eU w b (fp (.bk n)) (S.bk n)
 nbk:∀n,lk A n=none->S.bk n=Bk.empty/\∀x,¬fp (.bk n) x
 bd:∀n,kR w (rE D n) (S.bd n)
 fv:∀x,fp .v x↔x=v
 fmb:∀x,fp .mb x↔x=mb
 fmd:∀x,fp .md x↔x=md
 fbd:∀n x,fp (.bd n) x↔co (rE D n) x
 dj:∀p q x,fp p x->fp q x->p=q
structure gZ(w:World)(v c l mb md:Nat)(A:List (Int×Nat))(D:List (Int×Value))(fp:Pt->Nat->Prop)(S:dF):Prop extends iV w v c l mb md A D fp S where
 dom:∀n,(lk A n).isSome=(ek S.cal.l n).isSome
 dod:∀n,(lk D n).isSome=true->(ek S.cal.l n).isSome=true
def kQ(w:World)(v:Nat)(F:Nat->Prop)(S:dF):Prop:=∃c l mb md A D fp,gZ w v c l mb md A D fp S/\∀x,F x↔∃p,fp p x
def fy(fp:Pt->Nat->Prop):Nat->Prop:=λx=>∃p,fp p x
def oM(fp:Pt->Nat->Prop)(p:Pt)(G:Nat->Prop):Pt->Nat->Prop:=λq=>if q=p then G else fp q
def eE(fp:Pt->Nat->Prop)(p:Pt)(G:Nat->Prop):oM fp p G p=G:=if_pos rfl
def cZ{fp:Pt->Nat->Prop}{p q:Pt}{G:Nat->Prop}(h:q≠p):oM fp p G q=fp q:=if_neg h
section
variable{w w' :World}{v c l mb md:Nat}{A:List (Int×Nat)}{D:List (Int×Value)}{fp:Pt->Nat->Prop}{S:dF}
def gZ.q(h:gZ w v c l mb md A D fp S):kQ w v (fy fp) S:=⟨c,l,mb,md,A,D,fp,h,λ_=>Iff.rfl⟩
def iV.lt(h:iV w v c l mb md A D fp S){p:Pt}{x:Nat}(a:fp p x):x<w.heap.size:=by
 cases p with
 |v=>rw[(h.fv x).1 a];exact cn h.blk
 |cal=>exact h.cal.lt a
 |led=>exact h.led.lt a
 |mb=>rw[(h.fmb x).1 a];exact h.mbk.lt
 |md=>rw[(h.fmd x).1 a];exact h.mbd.lt
 |bk n=>
  cases d:lk A n with
  |none=>exact absurd a ((h.nbk n d).2 x)
  |some b=>exact(h.bk n b d).lt a
 |bd n=>exact(h.bd n).lt ((h.fbd n x).1 a)
def iV.self(h:iV w v c l mb md A D fp S):fp .v v:=(h.fv v).2 rfl
def kQ.self{F:Nat->Prop}(h:kQ w v F S):F v:=by
 obtain⟨c,l,mb,md,A,D,fp,a,b⟩:=h;exact(b v).2 ⟨.v,a.self⟩
def iV.mod{G:Nat->Prop}(h:iV w v c l mb md A D fp S)(d:cl G w w')(a:∀p x,fp p x->¬G x):iV w' v c l mb md A D fp S where
 blk:=d.hpk h.blk (a .v v h.self)
 cal:=h.cal.mod d (a .cal)
 led:=h.led.mod d (a .led)
 mbk:=h.mbk.mod d (a .mb mb ((h.fmb mb).2 rfl))
 mbd:=h.mbd.mod d (a .md md ((h.fmd md).2 rfl))
 bk n b hl:=(h.bk n b hl).mod d (a (.bk n))
 nbk:=h.nbk
 bd n:=(h.bd n).mod d λx e=>a (.bd n) x ((h.fbd n x).2 e)
 fv:=h.fv
 fmb:=h.fmb
 fmd:=h.fmd
 fbd:=h.fbd
 dj:=h.dj
def gZ.mod{G:Nat->Prop}(h:gZ w v c l mb md A D fp S)(b:cl G w w')(a:∀p x,fp p x->¬G x):gZ w' v c l mb md A D fp S:=⟨h.toiV.mod b a,h.dom,h.dod⟩
def kQ.mod{F G:Nat->Prop}(h:kQ w v F S)(d:cl G w w')(b:∀x,F x->¬G x):kQ w' v F S:=by
 obtain⟨c,l,mb,md,A,D,fp,e,a⟩:=h;exact⟨c,l,mb,md,A,D,fp,e.mod d λp x f=>b x ((a x).2 ⟨p,f⟩),a⟩
def gZ.md0(h:gZ w v c l mb md A D fp S)(a:cl (λ_=>False) w w'):gZ w' v c l mb md A D fp S:=h.mod a λ_ _ _ h=>h
def kQ.md0{F:Nat->Prop}(h:kQ w v F S)(a:cl (λ_=>False) w w'):kQ w' v F S:=h.mod a λ_ _ h=>h
def iV.djU(h:iV w v c l mb md A D fp S){p:Pt}{G:Nat->Prop}(g:∀x,G x->fp p x\/w.heap.size<=x):∀q r x,oM fp p G q x->oM fp p G r x->q=r:=by
 have key:∀q x,q≠p->fp q x->¬G x:=λq x a e f=>by
  rcases g x f with h1|h1
  ·exact a (h.dj _ _ _ e h1)
  ·have:=h.lt e;omega
 intro q r x a d;by_cases h1:q=p
 ·by_cases b:r=p
  ·rw[h1,b]
  ·subst h1;rw[eE]at a;rw[cZ b]at d;exact absurd a (key r x b d)
 ·rw[cZ h1]at a;by_cases b:r=p
  ·subst b;rw[eE]at d;exact absurd d (key q x h1 a)
  ·rw[cZ b]at d;exact h.dj _ _ _ a d
def iV.ap(h:iV w v c l mb md A D fp S){p q:Pt}(a:q≠p):∀x,fp q x->¬fp p x:=λx h1 b=>a (h.dj _ _ _ h1 b)
def gZ.setLed(h:gZ w v c l mb md A D fp S){L:dM}(a:cl (fp .led) w w')(d:iC w' l (fp .led) L):gZ w' v c l mb md A D fp {S with led:=L} where
 blk:=a.hpk h.blk (h.ap (by simp) _ h.self)
 cal:=h.cal.mod a (h.ap (by simp))
 led:=d
 mbk:=h.mbk.mod a (h.ap (by simp) _ ((h.fmb mb).2 rfl))
 mbd:=h.mbd.mod a (h.ap (by simp) _ ((h.fmd md).2 rfl))
 dom:=h.dom
 dod:=h.dod
 bk n b hl:=(h.bk n b hl).mod a (h.ap (by simp))
 nbk:=h.nbk
 bd n:=(h.bd n).mod a λx e=>h.ap (by simp) x ((h.fbd n x).2 e)
 fv:=h.fv
 fmb:=h.fmb
 fmd:=h.fmd
 fbd:=h.fbd
 dj:=h.dj
def gZ.setBk(h:gZ w v c l mb md A D fp S){n:Int}{b:Nat}{G:Nat->Prop}{B:Bk}(g:lk A n=some b)(f:cl (fp (.bk n)) w w')(i:eU w' b G B)(k:∀x,G x->fp (.bk n) x\/w.heap.size<=x):
  gZ w' v c l mb md A D (oM fp (.bk n) G) {S with bk:=fV S.bk n B} where
 blk:=f.hpk h.blk (h.ap (by simp) _ h.self)
 cal:=by rw[cZ (by simp)];exact h.cal.mod f (h.ap (by simp))
 led:=by rw[cZ (by simp)];exact h.led.mod f (h.ap (by simp))
 mbk:=h.mbk.mod f (h.ap (by simp) _ ((h.fmb mb).2 rfl))
 mbd:=h.mbd.mod f (h.ap (by simp) _ ((h.fmd md).2 rfl))
 dom:=h.dom
 dod:=h.dod
 bk m b' hl:=by
  by_cases a:m=n
  ·subst a;rw[g]at hl;cases hl;show eU w' b _ (fV S.bk m B m);rw[eE,dJ];exact i
  ·have d:Pt.bk m≠Pt.bk n:=by simpa using a
   show eU w' b' _ (fV S.bk n B m);rw[cZ d,eB _ _ _ a];exact(h.bk m b' hl).mod f (h.ap d)
 nbk m hl:=by
  have a:m≠n:=λe=>by subst e;rw[g]at hl;cases hl
  have d:Pt.bk m≠Pt.bk n:=by simpa using a
  show fV S.bk n B m=_/\_;rw[cZ d,eB _ _ _ a];exact h.nbk m hl
 bd m:=(h.bd m).mod f λx j=>h.ap (by simp) x ((h.fbd m x).2 j)
 fv:=by rw[cZ (by simp)];exact h.fv
 fmb:=by rw[cZ (by simp)];exact h.fmb
 fmd:=by rw[cZ (by simp)];exact h.fmd
 fbd m:=by rw[cZ (by simp)];exact h.fbd m
 dj:=h.djU k
def yq(D:List (Int×Value))(n m:Int)(x:Value):rE (put D n x) m=if m=n then x else rE D m:=by
 unfold rE;rw[lD];by_cases a:m=n
 ·subst a;simp
 ·rw[if_neg λe=>a e.symm,if_neg a]
def iV.setBdG(h:iV w v c l mb md A D fp S){w1:World}{n:Int}{L:List Od}{sl:Value}{E:Nat->Prop}(r:cl E w w1)(t:∀p x,p≠ .bd n->fp p x->¬E x)(g:kR w1 sl L)(q:∀x,co sl x->fp (.bd n) x\/w.heap.size<=x)
  (j:cU d8 uK w' md (put D n sl))(o:cl (λx=>x=md) w1 w'):iV w' v c l mb md A (put D n sl) (oM fp (.bd n) (co sl)) {S with bd:=fV S.bd n L}:=by
 have u:=h.lt (p:=.md) ((h.fmd md).2 rfl);have s:=r.size;have i:cl (λx=>E x\/x=md) w w' :=(r.mono λx _ e=>.inl e).on o λx e=>.inl (.inr e)
 have d:∀p,p≠ .bd n->p≠ .md->∀x,fp p x->¬(E x\/x=md):=λp h1 j x e g=>by
  rcases g with g|g
  ·exact t p x h1 e g
  ·exact j (h.dj _ _ _ e ((h.fmd x).2 g))
 exact{
  blk:=i.hpk h.blk (d .v (by simp) (by simp) _ h.self)
  cal:=by rw[cZ (by simp)];exact h.cal.mod i (d .cal (by simp) (by simp))
  led:=by rw[cZ (by simp)];exact h.led.mod i (d .led (by simp) (by simp))
  mbk:=h.mbk.mod i (d .mb (by simp) (by simp) _ ((h.fmb mb).2 rfl))
  mbd:=j
  bk:=λm b k=>by rw[cZ (by simp)];exact(h.bk m b k).mod i (d (.bk m) (by simp) (by simp))
  nbk:=λm k=>by rw[cZ (by simp)];exact h.nbk m k
  bd:=λm=>by
   show kR w' _ (fV S.bd n L m);rw[yq];by_cases a:m=n
   ·subst a;rw[if_pos rfl,dJ];refine g.mod o λx e y=>?_;rcases q x e with h1|h1
    ·exact absurd (h.dj _ _ _ h1 ((h.fmd x).2 y)) (by simp)
    ·omega
   ·have f:Pt.bd m≠Pt.bd n:=by simpa using a
    rw[if_neg a,eB _ _ _ a];exact(h.bd m).mod i λx e=>d (.bd m) f (by simp) x ((h.fbd m x).2 e)
  fv:=by rw[cZ (by simp)];exact h.fv
  fmb:=by rw[cZ (by simp)];exact h.fmb
  fmd:=by rw[cZ (by simp)];exact h.fmd
  fbd:=λm x=>by
   rw[yq];by_cases a:m=n
   ·subst a;rw[if_pos rfl,eE]
   ·have f:Pt.bd m≠Pt.bd n:=by simpa using a
    rw[if_neg a,cZ f];exact h.fbd m x
  dj:=h.djU q}
def iV.setBd(h:iV w v c l mb md A D fp S){w1:World}{n:Int}{L:List Od}{sl:Value}(a:cl (fp (.bd n)) w w1)(e:kR w1 sl L)(f:∀x,co sl x->fp (.bd n) x\/w.heap.size<=x)
  (d:cU d8 uK w' md (put D n sl))(b:cl (λx=>x=md) w1 w'):iV w' v c l mb md A (put D n sl) (oM fp (.bd n) (co sl)) {S with bd:=fV S.bd n L}:=
 h.setBdG a (λp x hp=>h.ap hp x) e f d b
def gZ.setBd(h:gZ w v c l mb md A D fp S){w1:World}{n:Int}{L:List Od}{sl:Value}(d:(ek S.cal.l n).isSome=true)(f:cl (fp (.bd n)) w w1)(j:kR w1 sl L)(k:∀x,co sl x->fp (.bd n) x\/w.heap.size<=x)
  (g:cU d8 uK w' md (put D n sl))(i:cl (λx=>x=md) w1 w'):gZ w' v c l mb md A (put D n sl) (oM fp (.bd n) (co sl)) {S with bd:=fV S.bd n L}:=
 ⟨h.toiV.setBd f j k g i,h.dom,λm a=>by
  by_cases b:m=n
  ·subst b;exact d
  ·rw[lD,if_neg λe=>b e.symm]at a;exact h.dod m a⟩
def iV.addBk(h:iV w v c l mb md A D fp S){w1:World}{n:Int}{b:Nat}{G:Nat->Prop}{B:Bk}(C:lk A n=none)(t:cl (λ_=>False) w w1)(o:eU w1 b G B)(s:∀x,G x->w.heap.size<=x)
  (k:cU d8 eY w' mb (put A n b))(q:cl (λx=>x=mb) w1 w'):iV w' v c l mb md (put A n b) D (oM fp (.bk n) G) {S with bk:=fV S.bk n B}:=by
 have y:=h.lt (p:=.mb) ((h.fmb mb).2 rfl);have u:=t.size;have j:cl (λx=>x=mb) w w' :=(t.mono λ_ _ h=>h.elim).trans q;have d:∀p,p≠ .mb->∀x,fp p x->¬x=mb:=λp k x i o=>k (h.dj _ _ _ i ((h.fmb x).2 o));have z:∀x,G x->¬x=mb:=λx i e=>by have:=s x i;omega
 exact{
  blk:=j.hpk h.blk (d .v (by simp) _ h.self)
  cal:=by rw[cZ (by simp)];exact h.cal.mod j (d .cal (by simp))
  led:=by rw[cZ (by simp)];exact h.led.mod j (d .led (by simp))
  mbk:=k
  mbd:=h.mbd.mod j (d .md (by simp) _ ((h.fmd md).2 rfl))
  bk:=λm r f=>by
   rw[lD]at f;show eU w' r _ (fV S.bk n B m);by_cases a:m=n
   ·subst a;rw[if_pos rfl]at f;cases f;rw[eE,dJ];exact o.mod q z
   ·have g:Pt.bk m≠Pt.bk n:=by simpa using a
    rw[if_neg λe=>a e.symm]at f;rw[cZ g,eB _ _ _ a];exact(h.bk m r f).mod j (d (.bk m) (by simp))
  nbk:=λm f=>by
   rw[lD]at f;show fV S.bk n B m=_/\_;by_cases a:m=n
   ·subst a;rw[if_pos rfl]at f;cases f
   ·have g:Pt.bk m≠Pt.bk n:=by simpa using a
    rw[if_neg λe=>a e.symm]at f;rw[cZ g,eB _ _ _ a];exact h.nbk m f
  bd:=λm=>(h.bd m).mod j λx i=>d (.bd m) (by simp) x ((h.fbd m x).2 i)
  fv:=by rw[cZ (by simp)];exact h.fv
  fmb:=by rw[cZ (by simp)];exact h.fmb
  fmd:=by rw[cZ (by simp)];exact h.fmd
  fbd:=λm x=>by rw[cZ (by simp)];exact h.fbd m x
  dj:=h.djU (p:=.bk n) λx i=>.inr (s x i)}
end
end Go.Proofs
namespace Go.Proofs
open Go Go.Vc
def Od.key(o:Od):Int×Int×Bool×Int:=(o.num,o.acct,o.buy,o.price)
def lg{o o' :Od}(h:o.key=o'.key):o.num=o'.num:=congrArg (·.1) h
def tE{o o' :Od}(h:o.key=o'.key):o.acct=o'.acct:=congrArg (·.2.1) h
def Ii{o o' :Od}(h:o.key=o'.key):o.buy=o'.buy:=congrArg (·.2.2.1) h
def vt{o o' :Od}(h:o.key=o'.key):o.price=o'.price:=congrArg (·.2.2.2) h
structure qk(l' l:List Od):Prop where
 sub:(l'.map Od.key).Sublist (l.map Od.key)
 left:∀o∈l',1<=o.left/\o.left<=1000000
def fR{o:Od}(h:o.may=true):1<=o.left/\o.left<=1000000:=Od.left_bd h
def wh{o o' :Od}(h:o.key=o'.key)(a:o.may=true)(b:1<=o'.left/\o'.left<=1000000):o'.may=true:=by
 unfold Od.may at*;rw[<-lg h,<-tE h,<-vt h];simp only[Bool.and_eq_true]at a|-;exact⟨a.1,decide_eq_true b⟩
def qk.refl{l:List Od}(h:∀o∈l,o.may=true):qk l l:=⟨List.Sublist.refl _,λo a=>fR (h o a)⟩
def qk.mem{l' l:List Od}(h:qk l' l){o:Od}(b:o∈l'):∃a∈l,a.key=o.key:=by
 have:=h.sub.mem (List.mem_map_of_mem (f:=Od.key) b);obtain⟨a,d,c⟩:=List.mem_map.1 this;exact⟨a,d,c⟩
def BD(l:List Od):l.map (·.num)=(l.map Od.key).map (·.1):=by rw[List.map_map];rfl
def qk.nums{l' l:List Od}(h:qk l' l):(l'.map (·.num)).Sublist (l.map (·.num)):=by
 rw[BD,BD];exact h.sub.map _
def qk.len{l' l:List Od}(h:qk l' l):l'.length<=l.length:=by
 have:=h.sub.length_le
 rwa[List.length_map,List.length_map]at this
structure LO(o:Od)(left:Int)(L:List Od)(x:Int×List Od×List Td×List Int×Int):Prop where
 sub:qk x.2.1 L
 rest:0<=x.1/\x.1<=left
 fill:x.2.2.2.2+x.1=left
 qty:(x.2.2.1.map (·.qty)).sum=x.2.2.2.2
 tr:∀t∈x.2.2.1,1<=t.qty/\t.qty<=1000000/\t.acct≠o.acct/\∃b∈L,b.num=t.num/\b.acct=t.acct/\b.price=t.price/\t.qty<=b.left/\d9 o b.price=true
 gone:∀g∈x.2.2.2.1,∃b∈L,b.num=g/\b.acct=o.acct
def ww{o:Od}:∀{L:List Od} {left:Int},0<=left->(∀b∈L,b.may=true)->LO o left L (dU o left L)
 | [],left,l,m=>⟨⟨List.Sublist.refl _,by simp[dU]⟩,by simp[dU];omega,by simp[dU],by simp[dU],by simp[dU],by simp[dU]⟩
 |b::r,left,l,m=>by
  have v:=fR (m b List.mem_cons_self);have u:∀x∈r,x.may=true:=λx B=>m x (List.mem_cons_of_mem _ B);by_cases h1:left<=0\/d9 o b.price=false
  ·have e:dU o left (b::r)=(left,b::r,[],[],0):=by unfold dU;rw[if_pos h1]
   rw[e];exact⟨qk.refl m,⟨l,Int.le_refl _⟩,by simp,by simp,by simp,by simp⟩
  ·have y:d9 o b.price=true:=by
    cases h:d9 o b.price with
    |true=>rfl
    |false=>exact absurd (.inr h) h1
   by_cases j:b.acct=o.acct
   ·have c:=ww (o:=o) (L:=r) l u
    have e:dU o left (b::r)=((dU o left r).1,(dU o left r).2.1,(dU o left r).2.2.1,b.num::(dU o left r).2.2.2.1,(dU o left r).2.2.2.2):=by
     conv=>lhs;unfold dU
     rw[if_neg h1,if_pos j]
    rw[e];refine⟨⟨c.sub.sub.trans (List.sublist_cons_self _ _),c.sub.left⟩,c.rest,c.fill,c.qty,λt d=>?_,λg k=>?_⟩
    ·obtain⟨s,n,p,f,a,i⟩:=c.tr t d;exact⟨s,n,p,f,List.mem_cons_of_mem _ a,i⟩
    ·rcases List.mem_cons.1 k with rfl|k
     ·exact⟨b,List.mem_cons_self,rfl,j⟩
     ·obtain⟨f,a,i⟩:=c.gone g k;exact⟨f,List.mem_cons_of_mem _ a,i⟩
   ·by_cases w:left<b.left
    ·have e:dU o left (b::r)=(0,{b with left:=b.left - left}::r,[⟨b.price,left,b.num,b.acct⟩],[],left):=by unfold dU;rw[if_neg h1,if_neg j,if_pos w]
     rw[e];refine⟨⟨List.Sublist.refl _,λA q=>?_⟩,⟨Int.le_refl _,l⟩,by simp,by simp,λt d=>?_,by simp⟩
     ·rcases List.mem_cons.1 q with rfl|q
      ·show 1<=b.left - left/\b.left - left<=1000000;omega
      ·exact fR (u A q)
     ·rw[List.mem_singleton.1 d];exact⟨by show 1<=left;omega,by show left<=1000000;omega,j,b,List.mem_cons_self,rfl,rfl,rfl,by show left<=b.left;omega,y⟩
    ·have c:=ww (o:=o) (L:=r) (left:=left - b.left) (by omega) u
     have e:dU o left (b::r)=((dU o (left - b.left) r).1,(dU o (left - b.left) r).2.1,⟨b.price,b.left,b.num,b.acct⟩::(dU o (left - b.left) r).2.2.1,(dU o (left - b.left) r).2.2.2.1,b.left+(dU o (left - b.left) r).2.2.2.2):=by
      conv=>lhs;unfold dU
      rw[if_neg h1,if_neg j,if_neg w]
     rw[e];have z:=c.rest;have C:=c.fill;refine⟨⟨c.sub.sub.trans (List.sublist_cons_self _ _),c.sub.left⟩,⟨z.1,by show _<=left;omega⟩,by show _+_+_=left;omega,?_,λt d=>?_,λg k=>?_⟩
     ·show(List.map _ (_::_)).sum=_;rw[List.map_cons,List.sum_cons,c.qty]
     ·rcases List.mem_cons.1 d with rfl|d
      ·exact⟨v.1,v.2,j,b,List.mem_cons_self,rfl,rfl,rfl,Int.le_refl _,y⟩
      ·obtain⟨s,n,p,f,a,i⟩:=c.tr t d;exact⟨s,n,p,f,List.mem_cons_of_mem _ a,i⟩
     ·obtain⟨f,a,i⟩:=c.gone g k;exact⟨f,List.mem_cons_of_mem _ a,i⟩
def Gw(B:Bk):Prop:=∀d,∀o∈B d,o.may=true/\o.buy=d
def kA(buy:Bool)(l:List Od)(o:Od):(iU buy l o).Perm (o::l):=by
 unfold iU;refine List.perm_middle.trans ?_;rw[List.take_append_drop]
def yi{buy:Bool}{l:List Od}{o:Od}(b:o.may=true)(d:o.buy=buy):
  ((jp buy l o).2=l/\(jp buy l o).1≠0)\/((jp buy l o).2.Perm (o::l)/\l.length<100/\(∀x∈l,x.num≠o.num)/\(jp buy l o).2=iU buy l o):=by
 unfold jp;rw[if_neg (by simp[b,d])];by_cases h1:(l.any λx=>decide (x.num=o.num))=true
 ·rw[if_pos h1];exact .inl ⟨rfl,by simp⟩
 ·rw[if_neg h1];by_cases a:100<=l.length
  ·rw[if_pos a];exact .inl ⟨rfl,by simp⟩
  ·rw[if_neg a];refine .inr ⟨kA _ _ _,by omega,λx e c=>h1 ?_,rfl⟩;rw[List.any_eq_true];exact⟨x,e,decide_eq_true c⟩
structure Lo(B:Bk)(o:Od)(x:Bk×Pm):Prop where
 opp:qk (x.1 (!o.buy)) (B !o.buy)
 own:x.1 o.buy=B o.buy\/(0<x.2.left/\x.1 o.buy=iU o.buy (B o.buy) {o with left:=x.2.left}/\(B o.buy).length<100/\∀y∈B o.buy,y.num≠o.num)
 fill:0<=x.2.left/\0<=x.2.filled/\x.2.filled+x.2.left<=o.left
 qty:(x.2.trades.map (·.qty)).sum=x.2.filled
 tr:∀t∈x.2.trades,1<=t.qty/\t.qty<=1000000/\t.acct≠o.acct/\∃b∈B !o.buy,b.num=t.num/\b.acct=t.acct/\b.price=t.price/\t.qty<=b.left/\d9 o b.price=true
def Bk.set_ne(B:Bk){d e:Bool}(l:List Od)(h:e≠d):B.set d l e=B e:=if_neg h
def BV{B:Bk}{o:Od}{rests:Bool}(m:Gw B)(f:o.may=true):Lo B o (fj B o rests):=by
 have r:=fR f;have a:=ww (o:=o) (L:=B !o.buy) (left:=o.left) (by omega) λb h=>(m _ b h).1;obtain⟨x,g⟩:∃x,x=dU o o.left (B !o.buy):=⟨_,rfl⟩
 rw[<-g]at a;have n:=a.rest;have p:=a.fill;have q:0<=x.2.2.2.2:=by omega
 have c:o.buy≠ !o.buy:=by cases o.buy<;>simp
 unfold fj;simp only[<-g];by_cases d:rests=true/\0<x.1
 ·rw[if_pos d];have h1:=wh (o:=o) (o' :={o with left:=x.1}) rfl f (by show 1<=x.1/\x.1<=1000000;omega);refine⟨?_,?_,by show 0<=x.1/\0<=x.2.2.2.2/\x.2.2.2.2+x.1<=o.left;omega,a.qty,a.tr⟩
  ·show qk (Bk.set _ _ _ _) _;rw[Bk.set_other,Bk.set_self];exact a.sub
  ·show Bk.set _ _ _ _=_\/(0<x.1/\Bk.set _ _ _ _=iU _ _ {o with left:=x.1}/\_);rw[Bk.set_self,Bk.set_ne _ _ c];rcases yi (l:=B o.buy) (buy:=o.buy) h1 rfl with⟨e,-⟩|⟨e,k,i,j⟩
   ·exact .inl e
   ·exact .inr ⟨d.2,j,k,i⟩
 ·rw[if_neg d];refine⟨?_,.inl ?_,by show(0:Int)<=0/\0<=x.2.2.2.2/\x.2.2.2.2+0<=o.left;omega,a.qty,a.tr⟩
  ·show qk (Bk.set _ _ _ _) _;rw[Bk.set_self];exact a.sub
  ·show Bk.set _ _ _ _=_;rw[Bk.set_ne _ _ c]
def Bu{B:Bk}{o:Od}:o∈B.all↔∃d,o∈B d:=by
 unfold Bk.all;rw[List.mem_append];constructor
 ·rintro(h|h)
  ·exact⟨true,h⟩
  ·exact⟨false,h⟩
 ·rintro⟨d,h⟩;cases d
  ·exact .inr h
  ·exact .inl h
def Av(g:Po->Int)(l:List Po):Int:=(l.map g).sum
def zgq(c:Int)(p:Po):Int:=if p.c=c then p.q else 0
def P5(c:Int)(p:Po):Int:=if p.c=c then p.b else 0
def dM.Zero(S:dM):Prop:=∀c,Av (zgq c) S.held=0/\Av (P5 c) S.held=0
def dM.empty_zero:dM.Zero ⟨0,[],[]⟩:=λc=>⟨rfl,rfl⟩
structure Aa.Ok(C:Aa):Prop where
 len:C.l.length<=16
 day:fq C.day
 ok:∀k∈C.l,k.Ok
 srt:nY C.l
def dF.ords(S:dF)(n:Int):List Od:=(S.bk n).all++S.bd n
def dM.Stands(L:dM)(a:Int):Prop:=∃x,L.find a=some x/\x.kil=false/\x.dfl=false
structure dF.Std(S:dF)(o:Od):Prop where
 may:o.may=true
 fit:o.Fit
 num:o.num<S.next
 acc:S.led.Stands o.acct
structure AV(S:dF):Prop where
 out:∀n,di S.cal.l n≠0->S.ords n=[]
 side:∀n d,(S.bk n d).length<=100/\∀o∈S.bk n d,o.buy=d
 std:∀n,∀o∈S.ords n,S.Std o
 nd:∀n,((S.ords n).map (·.num)).Nodup
 apart:∀n m o o',o∈S.ords n->o' ∈S.ords m->o.num=o'.num->n=m
 bdl:∀n,(S.bd n).length<=50
structure RZ(C:Aa)(L:dM):Prop where
 led:L.Ok
 held:∀p∈L.held,di C.l p.c=0
 zero:L.Zero
structure dF.Ok(S:dF):Prop where
 cal:S.cal.Ok
 led:RZ S.cal S.led
 ord:AV S
 next:1<=S.next/\S.next<=jz+1
 fnd:S.led.funds<=MF
def kO{S:dF}{n:Int}{d:Bool}{o:Od}(h:o∈S.bk n d):o∈S.ords n:=List.mem_append_left _ (Bu.2 ⟨d,h⟩)
def rI{S:dF}{n:Int}{o:Od}(h:o∈S.bd n):o∈S.ords n:=List.mem_append_right _ h
def pR{S:dF}{n:Int}{o:Od}(h:o∈S.ords n):(∃d,o∈S.bk n d)\/o∈S.bd n:=(List.mem_append.1 h).imp Bu.1 id
def AV.bkMay{S:dF}(h:AV S)(n:Int):Gw (S.bk n):=λd o a=>⟨(h.std n o (kO a)).may,(h.side n d).2 o a⟩
def AV.bdMay{S:dF}(h:AV S)(n:Int):∀o∈S.bd n,o.may=true:=λo a=>(h.std n o (rI a)).may
def pu{a d b e c c' :List Int}(f:d.Sublist a)(g:e.Sublist b)(i:c'.Sublist c)(h:(a++b++c).Nodup):(d++e++c').Nodup:=h.sublist ((f.append g).append i)
def xG(S:dF)(n:Int):(S.ords n).map (·.num)=(S.bk n true).map (·.num)++(S.bk n false).map (·.num)++(S.bd n).map (·.num):=by
 unfold dF.ords Bk.all;rw[List.map_append,List.map_append]
def H5{o o' :Od}(h:o.key=o'.key)(a:o.Fit)(b:1<=o'.left/\o'.left<=1000000):o'.Fit:=by
 unfold Od.Fit at*;rw[<-lg h,<-tE h,<-vt h];exact⟨a.1,a.2.1,a.2.2.1,by constructor<;>omega⟩
def AV.addBk{S:dF}(h:AV S){n:Int}{x:Od}{B:Bk}{nx:Int}(H:di S.cal.l n=0)(O:x.may=true)(M:x.Fit)(C:x.num<nx)(E:S.led.Stands x.acct)(p:∀m,∀o∈S.ords m,o.num≠x.num)
  (opp:qk (B !x.buy) (S.bk n !x.buy))(own:B x.buy=S.bk n x.buy\/((B x.buy).Perm (x::S.bk n x.buy)/\(S.bk n x.buy).length<100))(G:S.next<=nx):AV {S with bk:=fV S.bk n B,next:=nx}:=by
 have l:=h.bkMay;have u:=h.bdMay
 have back:∀m,∀o∈({S with bk:=fV S.bk n B,next:=nx}:dF).ords m,(∃q∈S.ords m,q.key=o.key/\1<=o.left/\o.left<=1000000)\/(o=x/\m=n):=by
  intro m o j;by_cases c:m=n
  ·subst c;rcases pR j with⟨d,h1⟩|h1
   ·replace h1:o∈fV S.bk m B m d:=h1;rw[dJ]at h1;by_cases s:d=x.buy
    ·subst s;rcases own with f|⟨f,-⟩
     ·rw[f]at h1;exact .inl ⟨o,kO h1,rfl,fR (l m _ o h1).1⟩
     ·rcases List.mem_cons.1 (f.mem_iff.1 h1)with rfl|g
      ·exact .inr ⟨rfl,rfl⟩
      ·exact .inl ⟨o,kO g,rfl,fR (l m _ o g).1⟩
    ·obtain rfl:d= !x.buy:=by cases d<;>cases C:x.buy<;>simp_all
     obtain⟨q,g,i⟩:=opp.mem h1;exact .inl ⟨q,kO g,i,opp.left o h1⟩
   ·exact .inl ⟨o,rI h1,rfl,fR (u m o h1)⟩
  ·have:o∈S.ords m:=by
    have e:({S with bk:=fV S.bk n B,next:=nx}:dF).ords m=S.ords m:=by
     show(fV S.bk n B m).all++S.bd m=_;rw[eB _ _ _ c];rfl
    rwa[e]at j
   exact .inl ⟨o,this,rfl,fR (h.std m o this).may⟩
 have k:∀d,((B d).map (·.num)).Sublist ((S.bk n d).map (·.num))\/(d=x.buy/\((B d).map (·.num)).Perm (x.num::(S.bk n d).map (·.num))):=λd=>by
  by_cases s:d=x.buy
  ·subst s;rcases own with f|⟨f,-⟩
   ·rw[f];exact .inl (List.Sublist.refl _)
   ·exact .inr ⟨rfl,f.map _⟩
  ·obtain rfl:d= !x.buy:=by cases d<;>cases C:x.buy<;>simp_all
   exact .inl opp.nums
 refine⟨λm t=>?_,λm d=>?_,λm o j=>?_,λm=>?_,λN J o L j v w=>?_,h.bdl⟩
 ·have c:m≠n:=λe=>by subst e;exact t H
  show(fV S.bk n B m).all++S.bd m=[]
  rw[eB _ _ _ c];exact h.out m t
 ·show(fV S.bk n B m d).length<=100/\∀o∈fV S.bk n B m d,_;by_cases c:m=n
  ·subst c;rw[dJ];by_cases s:d=x.buy
   ·subst s;rcases own with f|⟨f,g⟩
    ·rw[f];exact h.side m _
    ·refine⟨by have:=f.length_eq;rw[List.length_cons]at this;omega,λo j=>?_⟩;rcases List.mem_cons.1 (f.mem_iff.1 j)with rfl|i
     ·rfl
     ·exact(h.side m _).2 o i
   ·obtain rfl:d= !x.buy:=by cases d<;>cases C:x.buy<;>simp_all
    refine⟨Nat.le_trans opp.len (h.side m _).1,λo j=>?_⟩;obtain⟨q,g,i⟩:=opp.mem j;rw[<-Ii i];exact(h.side m _).2 q g
  ·rw[eB _ _ _ c];exact h.side m d
 ·rcases back m o j with⟨q,f,g,i⟩|⟨rfl,rfl⟩
  ·have A:=h.std m q f;exact⟨wh g A.may i,H5 g A.fit i,by rw[<-lg g];exact Int.lt_of_lt_of_le A.num G,by rw[<-tE g];exact A.acc⟩
  ·exact⟨O,M,C,E⟩
 ·by_cases c:m=n
  ·subst c;rw[xG];show(List.map _ (fV S.bk m B m true)++List.map _ (fV S.bk m B m false)++List.map _ (S.bd m)).Nodup;rw[dJ];have D:=h.nd m
   have y:x.num ∉ (S.ords m).map (·.num):=λP=>by
    obtain⟨o,j,w⟩:=List.mem_map.1 P;exact p m o j w
   rw[xG]at D y;have h1:(x.num::((S.bk m true).map (·.num)++(S.bk m false).map (·.num)++(S.bd m).map (·.num))).Nodup:=List.nodup_cons.2 ⟨y,D⟩;rcases k true with z|⟨K,z⟩
   ·rcases k false with r|⟨I,r⟩
    ·exact pu z r (List.Sublist.refl _) D
    ·have hp:((S.bk m true).map (·.num)++(B false).map (·.num)++(S.bd m).map (·.num)).Perm (x.num::((S.bk m true).map (·.num)++(S.bk m false).map (·.num)++(S.bd m).map (·.num))):=by
      refine((List.Perm.append_left _ r).append_right _).trans ?_;rw[List.append_assoc,List.append_assoc];exact List.perm_middle
     exact pu z (List.Sublist.refl _) (List.Sublist.refl _) (hp.nodup_iff.2 h1)
   ·rcases k false with r|⟨I,r⟩
    ·have hp:((B true).map (·.num)++(S.bk m false).map (·.num)++(S.bd m).map (·.num)).Perm (x.num::((S.bk m true).map (·.num)++(S.bk m false).map (·.num)++(S.bd m).map (·.num))):=
      (z.append_right _).append_right _
     exact pu (List.Sublist.refl _) r (List.Sublist.refl _) (hp.nodup_iff.2 h1)
    ·rw[<-I]at K;cases K
  ·show(((fV S.bk n B m).all++S.bd m).map (·.num)).Nodup;rw[eB _ _ _ c];exact h.nd m
 ·rcases back N o j with⟨a,f,g,-⟩|⟨rfl,rfl⟩
  ·rcases back J L v with⟨b,i,F,-⟩|⟨rfl,rfl⟩
   ·exact h.apart _ _ a b f i (by rw[lg g,lg F];exact w)
   ·exact absurd ((lg g).trans w) (p _ a f)
  ·rcases back J L v with⟨b,i,F,-⟩|⟨rfl,rfl⟩
   ·exact absurd ((lg F).trans w.symm) (p _ b i)
   ·rfl
def AV.addBd{S:dF}(h:AV S){n:Int}{x:Od}{nx:Int}(u:di S.cal.l n=0)(B:x.may=true)(y:x.Fit)(A:x.num<nx)(q:S.led.Stands x.acct)(i:∀m,∀o∈S.ords m,o.num≠x.num)
  (D:(S.bd n).length<50)(s:S.next<=nx):AV {S with bd:=fV S.bd n (S.bd n++[x]),next:=nx}:=by
 have back:∀m,∀o∈({S with bd:=fV S.bd n (S.bd n++[x]),next:=nx}:dF).ords m,o∈S.ords m\/(o=x/\m=n):=by
  intro m o g;by_cases c:m=n
  ·subst c;rcases pR g with⟨d,h1⟩|h1
   ·exact .inl (kO h1)
   ·replace h1:o∈fV S.bd m (S.bd m++[x]) m:=h1;rw[dJ]at h1;rcases List.mem_append.1 h1 with f|f
    ·exact .inl (rI f)
    ·exact .inr ⟨List.mem_singleton.1 f,rfl⟩
  ·left
   have e:({S with bd:=fV S.bd n (S.bd n++[x]),next:=nx}:dF).ords m=S.ords m:=by
    show(S.bk m).all++fV S.bd n _ m=_;rw[eB _ _ _ c];rfl
   rwa[e]at g
 refine⟨λm j=>?_,h.side,λm o g=>?_,λm=>?_,λz v o p g k t=>?_,λm=>?_⟩
 ·have c:m≠n:=λe=>by subst e;exact j u
  show(S.bk m).all++fV S.bd n _ m=[]
  rw[eB _ _ _ c];exact h.out m j
 ·rcases back m o g with f|⟨rfl,rfl⟩
  ·have l:=h.std m o f;exact⟨l.may,l.fit,Int.lt_of_lt_of_le l.num s,l.acc⟩
  ·exact⟨B,y,A,q⟩
 ·by_cases c:m=n
  ·subst c;show(((S.bk m).all++fV S.bd m _ m).map (·.num)).Nodup;rw[dJ,<-List.append_assoc,List.map_append,List.nodup_append];refine⟨h.nd m,by simp,λa C b w=>?_⟩;obtain⟨o,g,rfl⟩:=List.mem_map.1 C;rw[List.map_cons,List.map_nil,List.mem_singleton]at w;rw[w];exact i m o g
  ·show(((S.bk m).all++fV S.bd n _ m).map (·.num)).Nodup;rw[eB _ _ _ c];exact h.nd m
 ·rcases back z o g with f|⟨rfl,rfl⟩
  ·rcases back v p k with r|⟨rfl,rfl⟩
   ·exact h.apart _ _ o p f r t
   ·exact absurd t (i _ o f)
  ·rcases back v p k with r|⟨rfl,rfl⟩
   ·exact absurd t.symm (i _ p r)
   ·rfl
 ·show(fV S.bd n _ m).length<=50;by_cases c:m=n
  ·subst c;rw[dJ,List.length_append];show(S.bd m).length+1<=50;omega
  ·rw[eB _ _ _ c];exact h.bdl m
def ox{l:List Ct}{n:Int}(h:di l n=0):∃k,ek l n=some k/\k.st≠3/\k.spec.num=n/\k∈l:=by
 unfold di at h;cases a:ek l n with
 |none=>rw[a]at h;cases h
 |some k=>
  rw[a]at h;refine⟨k,rfl,λb=>?_,by simpa using List.find?_some a,AJ a⟩;simp only at h;rw[if_pos b]at h;cases h
def Ey{o:Od}(h:o.Fit){x:Int}(a:0<=x/\x<=1000000):({o with left:=x}:Od).Fit:=⟨h.1,h.2.1,h.2.2.1,by constructor<;>show _<;>simp only<;>omega⟩
def Ar{S:dF}(h:AV S){n:Int}{o:Od}{rests:Bool}{nx:Int}(d:di S.cal.l n=0)(e:o.may=true)(g:o.Fit)(i:o.num<nx)(b:S.led.Stands o.acct)(a:∀m,∀y∈S.ords m,y.num≠o.num)(c:S.next<=nx):
  AV {S with bk:=fV S.bk n (fj (S.bk n) o rests).1,next:=nx}:=by
 have f:=BV (B:=S.bk n) (o:=o) (rests:=rests) (h.bkMay n) e;have q:=fR e;rcases f.own with h1|⟨h1,j,k,p⟩
 ·exact h.addBk d e g i b a f.opp (.inl h1) c
 ·have l:=f.fill;refine h.addBk (x:={o with left:=(fj (S.bk n) o rests).2.left}) d (wh (o:=o) rfl e ⟨h1,?_⟩) (Ey g ?_) i b a f.opp (.inr ⟨?_,k⟩) c
  ·show(fj (S.bk n) o rests).2.left<=1000000;omega
  ·omega
  ·show List.Perm ((fj (S.bk n) o rests).1 o.buy) _;rw[j];exact kA _ _ _
def BZ{B:Bk}{o:Od}{k:Int}(h:(db B o k).1=0):db B o k=(0,fj B o (decide (k=1\/k=4)))/\o.may=true/\1<=k/\k<=4:=by
 unfold db at h|-;split at h
 ·cases h
 ·rename_i h1
  rw[if_neg h1];split at h
  ·cases h
  ·rename_i a
   rw[if_neg a];split at h
   ·cases h
   ·rename_i d
    rw[if_neg d];split at h
    ·cases h
    ·rename_i b
     rw[if_neg b];split at h
     ·cases h
     ·rename_i c
      rw[if_neg c];simp only[not_or]at h1;exact⟨rfl,by simpa using h1.1,by omega,by omega⟩
def ul:dF.empty.Ok:=by
 refine⟨⟨by show(0:Nat)<=16;omega,⟨by show(0:Int)<=0;omega,by show(0:Int)<4294967296;omega⟩,λk c=>(by cases c),List.Pairwise.nil⟩,⟨⟨⟨by show(0:Int)<=0;omega,by show(0:Int)<=MF;unfold MF;omega⟩,List.Pairwise.nil,List.Pairwise.nil,by show(0:Nat)<=64;omega,λa e=>(by cases e),λp hp=>(by cases hp)⟩,λp hp=>(by cases hp),dM.empty_zero⟩,
  ⟨λn _=>rfl,λn d=>⟨by show(0:Nat)<=100;omega,λo b=>(by cases b)⟩,λn o b=>(by cases b),λn=>List.nodup_nil,λn m o f b=>(by cases b),λn=>(by show(0:Nat)<=50;omega)⟩,⟨by show(1:Int)<=1;omega,by show(1:Int)<=jz+1;unfold jz;omega⟩,by show(0+(0:Int))<=MF;unfold MF;omega⟩
end Go.Proofs
namespace Go.Proofs
open Go Go.Vc
attribute [local congr] cr
end Go.Proofs
