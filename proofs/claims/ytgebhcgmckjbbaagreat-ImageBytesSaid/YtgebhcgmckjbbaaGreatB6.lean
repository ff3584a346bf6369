/- Part of a proof. -/
import Derived.Lib.Overlaps
import Derived.Test.YtgebhcgmckjbbaaGreatB5
set_option linter.all false
namespace Go.Proofs
open Go Go.Vc
attribute [local congr] cr
structure Od where
 num:Int
 acct:Int
 buy:Bool
 price:Int
 left:Int
 deriving DecidableEq
def da(o:Od):List Value:=[.int .u64 o.num,.int .u32 o.acct,.bool o.buy,.int .i64 o.price,.int .i64 o.left]
def dB(o:Od):(da o).length=5:=rfl
def ic(o:Od):(da o).all (·.oneCell')=true:=rfl
def Od.Fit(o:Od):Prop:=ER o.num/\fq o.acct/\eQ o.price/\eQ o.left
abbrev ir:TypeId:=117
abbrev gU:TypeId:=133
def eW:Tryz.prog.underlying gU=some (.slice ir):=by kernel_rfl
def sL:Tryz.prog.cellsOf ir=4+1:=by kernel_rfl
def Bw:eN Tryz.prog ir 5 32=true:=by kernel_rfl
abbrev kR(w:World)(s:Value)(l:List Od):Prop:=dW w ir 5 s l.length (l.flatMap da)
def pr{w:World}{K:cm}{s:Value}{l:List Od}(h:Rd w 5 s l.length (l.flatMap da))(q:l.length<=1000000)
  (j:∀e d,kR d e l->cl (λ_=>False) w d->(∀b,co e b->w.heap.size<=b)->K e d):Ca Tryz.prog 111 #[s] w K:=by
 apply OV;obtain⟨a,c,f⟩:=h.isSl;by_cases i:a=none
 ·subst i;refine ck (v:=.bool true) (w' :=w) (by rw[f];simp[go_sem]) ?_;rw[ci,if_pos rfl]
  have p:l=[]:=by
   obtain⟨-,⟨g,_⟩|⟨b,o,n,k,_⟩⟩:=h
   ·exact List.eq_nil_of_length_eq_zero g
   ·rw[f]at k;cases k
  subst p;exact j _ _ (dW.nil _ _ _) (cl.refl _ _) λb m=>by cases m
 ·refine ck (v:=.bool false) (w' :=w) (by rw[f];cases a;exact absurd rfl i;simp[go_sem]) ?_;rw[ci,if_neg Bool.false_ne_true];exact NQ eW (cI Bw) h (HQ ic l) (by omega) j
set_option maxRecDepth 10000 in
def rN{w:World}{K:cm}{s:Value}{l:List Od}{i j:Nat}(h:kR w s l)(N:i<j)(L:j<=l.length)(U:l.length<=1000000)
  (Q:∀x k,kR k x (l.take i++l.drop j)->cl (co s) w k->(∀b,co x b->co s b)->K x k):Ca Tryz.prog 212 #[s,.int .i64 (i:Int),.int .i64 (j:Int)] w K:=by
 obtain⟨b,c,rest,rfl,I,M,q,E⟩:=h.pos (by omega);have D:=h.1;apply Nk;refine fi (v:=.int .i64 (l.length:Int)) (w' :=w) (by simp[go_sem]) ?_;obtain⟨T,A⟩:=Lb (P:=Tryz.prog) (t:=gU) (a:=some ⟨b,0,none⟩) (n:=l.length) (cap:=c) (lo:=i) (hi:=j) (mx:=l.length) (kl:=.i64) (kh:=.i64) (km:=.i64) eW sL (by omega) L I w;refine ck A ?_;have y:¬(i:Int)=(j:Int):=by omega
 refine ck (v:=.bool false) (by simp[go_sem,y]<;>first|exact⟨rfl,rfl⟩|exact rfl) ?_;rw[ci,if_neg Bool.false_ne_true];refine fi (v:=.int .i64 (l.length:Int)) (w' :=w) (by simp[go_sem]) ?_;refine cq (λW=>KI eW sL (show i<=c by omega) (by omega) W) ?_;have G:Rd w 5 (.slice (some ⟨b,0,none⟩) l.length c) l.length (l.flatMap da):=h.rd;obtain⟨S,C,e,-⟩:=Rd.from_ (P:=Tryz.prog) (kl:=.i64) (lo:=j) eW sL G L;refine cq (λW=>C W) ?_;simp only[Nat.reduceAdd]at e;rw[P3 dB]at e;have O:((l.drop j).flatMap da).length=(l.length - j)*5:=by rw[AH dB,List.length_drop]
 have u:w.drew.heap[b]? =some (.cells (l.flatMap da++rest).toArray ir (0,0)):=M;have p:(l.flatMap da++rest).length=c*5:=by rw[List.length_append,D,q];omega
 refine xm (m:=l.length - j) eW eW sL u (by omega) (e.keep λ_ _=>rfl) (HQ ic _) (by rw[List.size_toArray,p];omega) ?_;have H:cl (co (.slice (some ⟨b,0,none⟩) l.length c)) w (w.drew.setRow b (iL (l.flatMap da++rest) (0+i*5) ((l.drop j).flatMap da)).toArray):=((cl.refl _ w).drew).setRow (.inl (show co (.slice (some ⟨b,0,none⟩) l.length c) b from rfl)) _
 have r:iL (l.flatMap da++rest) (0+i*5) ((l.drop j).flatMap da)=(l.take i++l.drop j).flatMap da++(l.flatMap da++rest).drop ((i+(l.length - j))*5):=by
  unfold iL;rw[O,Nat.zero_add,List.take_append_of_le_length (by rw[D];omega),PW dB,List.flatMap_append,List.append_assoc,List.append_assoc,<-Nat.add_mul]
 have g:(w.drew.setRow b (iL (l.flatMap da++rest) (0+i*5) ((l.drop j).flatMap da)).toArray).heap[b]? =some (.cells ((l.take i++l.drop j).flatMap da++(l.flatMap da++rest).drop ((i+(l.length - j))*5)).toArray ir (0,0)):=by
  rw[dx,if_pos rfl,u,r]
 rw[show(l.flatMap da++rest).toArray.toList=l.flatMap da++rest from rfl];generalize w.drew.setRow b (iL (l.flatMap da++rest) (0+i*5) ((l.drop j).flatMap da)).toArray=W at H g|-;refine fi (v:=.int .i64 ((i+(l.length - j):Nat):Int)) (w' :=W) (by simp[go_sem]) ?_;refine ck (LY eW sL (show i+(l.length - j)<=l.length by omega) I (by omega) W) ?_
 have o:((l.take i++l.drop j).flatMap da).length=(i+(l.length - j))*5:=by
  rw[AH dB,List.length_append,List.length_take,List.length_drop,Nat.min_eq_left (by omega)]
 refine Cs eW (cI Bw) g (by rw[List.size_toArray,List.length_append,List.length_drop,o,p];omega) λz J B=>?_
 have f:iL ((l.take i++l.drop j).flatMap da++(l.flatMap da++rest).drop ((i+(l.length - j))*5)) ((i+(l.length - j))*5) z=(l.take i++l.drop j).flatMap da++(z++rest):=by
  unfold iL;rw[J,List.take_append_of_le_length (by rw[o];exact Nat.le_refl _),List.take_of_length_le (by rw[o];exact Nat.le_refl _),<-List.drop_drop,<-o,List.drop_left,List.append_assoc,List.drop_drop,o];congr 2;rw[show(i+(l.length - j))*5+(l.length - (i+(l.length - j)))*5=(l.flatMap da).length by rw[D];omega,List.drop_left]
 have d:(l.take i++l.drop j).length=i+(l.length - j):=by rw[List.length_append,List.length_take,List.length_drop,Nat.min_eq_left (by omega)]
 refine Q _ _ ⟨by rw[o,d],.inr ⟨b,c,z++rest,by rw[d],by omega,?_,?_,?_⟩⟩ (H.setRow (.inl (show co (.slice (some ⟨b,0,none⟩) l.length c) b from rfl)) _) λR F=>F
 ·show(W.setRow b (iL ((l.take i++l.drop j).flatMap da++(l.flatMap da++rest).drop ((i+(l.length - j))*5)) ((i+(l.length - j))*5) z).toArray).heap[b]? =_;rw[dx,if_pos rfl,g,f]
 ·rw[List.length_append,J,q,d];omega
 ·rw[List.all_append,B,E];rfl
def R4{w:World}{b:Nat}{C:Array Value}{T:TypeId}{a:Nat×Nat}(h:w.heap[b]? =some (.cells C T a)):w.shape? b=some (T,C.size):=by simp[World.shape?,h]
def Jk{w:World}{b:Nat}{C:Array Value}{T:TypeId}(h:w.heap[b]? =some (.cells C T (0,0)))(i:Nat):w.frozen? ⟨b,i,none⟩=false:=by simp[go_sem,cO h]
def Sh(w:World):(Go.sizeOf ir).run Tryz.prog w=.ok 5 w:=Go.Vc.fX sL w
def K3:Extern.find Tryz.f351=some (Extern.SlicesOverlaps.overlaps #[gU,gU] #[4]):=by kernel_rfl
set_option maxRecDepth 10000 in
def xQ{w:World}{K:cm}{s v:Value}{l:List Od}{o:Od}{i:Nat}(h:kR w s l)(hv:kR w v [o])(hd:∀b,co s b->¬co v b)(hi:i<=l.length)(hn:l.length<=1000000)
  (hK:∀s' B,kR B s' (l.take i++o::l.drop i)->cl (co s) w B->(∀b,co s' b->co s b\/w.heap.size<=b)->K s' B):Ca Tryz.prog 312 #[s,.int .i64 (i:Int),v] w K:=by
 obtain⟨N,j,vrest,rfl,hvc,E,hvl,hv1⟩:=hv.pos (by simp);simp only[List.length_singleton]at hvc hvl
 have m:(l.take i++o::l.drop i).length=l.length+1:=by
  rw[List.length_append,List.length_take,List.length_cons,List.length_drop,Nat.min_eq_left hi];omega
 have hcs:([o].flatMap da)=da o:=by simp
 apply Nh;obtain⟨v0,hv0,-,-⟩:=Rd.from_ (P:=Tryz.prog) (kl:=.i64) (lo:=i) eW sL (h.rd:Rd w (4+1) s l.length (l.flatMap da)) hi;refine ck (hv0 w) ?_;refine fi (v:=.int .i64 1) (w' :=w) (by simp[go_sem]) ?_;refine ck (v:=.bool false) (by simp[go_sem]<;>first|exact⟨rfl,rfl⟩|exact rfl) ?_;rw[ci,if_neg Bool.false_ne_true];obtain⟨sa,sc,hs,-⟩:=h.isSl;refine fi (v:=.int .i64 l.length) (w' :=w) (by rw[hs];simp[go_sem]) ?_;by_cases hil:i=l.length
 ·have A:(i:Int)=(l.length:Int):=by omega
  refine ck (v:=.bool true) (by simp[go_sem,A]<;>first|exact⟨rfl,rfl⟩|exact rfl) ?_;rw[ci,if_pos rfl];refine dt eW eW (cI Bw) h hv.rd (HQ ic _) (by simp only[List.length_singleton];omega) λs3 F o3 I n3=>?_;refine hK _ _ ?_ I n3;have:l.take i++o::l.drop i=l++[o]:=by rw[hil,List.take_length,List.drop_length]
  rw[this];unfold kR;rw[List.flatMap_append,List.length_append];exact o3
 have A:¬(i:Int)=(l.length:Int):=by omega
 refine ck (v:=.bool false) (by simp[go_sem,A]<;>first|exact⟨rfl,rfl⟩|exact rfl) ?_;rw[ci,if_neg Bool.false_ne_true];obtain⟨b,c,rest,hse,hc,U,D,M⟩:=h.pos (by omega);clear hs;subst hse;have hne:N≠b:=λe=>hd b rfl (by rw[<-e];rfl);have T:=h.1;refine ck (v:=.int .i64 ((l.length+1:Nat):Int)) (w' :=w) (by simp[go_sem];rw[cV (by omega) (by omega)]) ?_;refine fi (v:=.int .i64 (c:Int)) (w' :=w) (by simp[go_sem,eW]) ?_;have f:(l.flatMap da++rest).length=c*5:=by rw[List.length_append,T,D];omega
 by_cases hroom:c<l.length+1
 ·have g:(c:Int)<(l.length:Int)+1:=by omega
  refine ck (v:=.bool true) (by simp[go_sem,g]<;>first|exact⟨rfl,rfl⟩|exact rfl) ?_;rw[ci,if_pos rfl];refine ck (KI eW sL (show i<=c by omega) (by omega) w) ?_;refine ck (v:=.int .i64 ((l.length+1:Nat):Int)) (w' :=w) (by simp[go_sem];rw[cV (by omega) (by omega)]) ?_;refine ck (v:=.int .i64 ((l.length+1 - i:Nat):Int)) (w' :=w) (by simp only[go_sem];simp;rw[cV (by omega) (by omega)];omega) ?_
  have hOi:dW w ir (4+1) (.slice (some ⟨b,0,none⟩) i c) i ((l.take i).flatMap da):=by
   refine⟨by rw[AH dB,List.length_take,Nat.min_eq_left hi],.inr ⟨b,c,(l.flatMap da++rest).drop (i*5),rfl,by omega,?_,?_,?_⟩⟩
   ·rw[U];congr 2
    have:(l.take i).flatMap da=(l.flatMap da++rest).take (i*5):=by
     rw[List.take_append_of_le_length (by rw[T];omega),PW dB]
    rw[this,List.take_append_drop]
   ·rw[List.length_drop,f];omega
   ·refine List.all_eq_true.2 λx L=>?_;have L:=List.mem_of_mem_drop L;rcases List.mem_append.1 L with h1|h1
    ·exact List.all_eq_true.1 (HQ ic l) x h1
    ·exact List.all_eq_true.1 M x h1
  refine yG eW Tryz.underlying3 (cI Bw) hOi (by omega) λs2 J z hz hz1 o2 m2 n2 hfar=>?_;obtain⟨mF,nF⟩:=hfar _ _ rfl (by omega);rw[show i+(l.length+1 - i)=l.length+1 by omega]at o2;obtain⟨q,wz,a,rfl,Q,hb2,y,Z⟩:=o2.pos (by omega);have H:w.heap.size<=q:=nF q rfl;have hbb:b≠q:=by have:=cn U;omega
  have hvbb:N≠q:=by have:=cn E;omega
  refine ck (Ax eW sL (by omega) Q (by omega) J) ?_;have G:((l.take i).flatMap da).length=i*5:=by rw[AH dB,List.length_take,Nat.min_eq_left hi]
  have hsz2:((l.take i).flatMap da++z++a).length=wz*5:=by rw[List.length_append,List.length_append,G,hz,y];omega
  have hv2:Rd J 5 (.slice (some ⟨N,0,none⟩) 1 j) 1 (da o):=by
   have:=hv.rd.mod mF λ_ _ h=>h;rw[hcs]at this;exact this
  refine pT (sz:=4) (k:=1) eW sL hb2 hv2 (by show _=min _ _;omega) (by rw[List.size_toArray,hsz2];omega) (ic o) ?_;have I:cl (λb=>b=q) J (J.setRow q (iL ((l.take i).flatMap da++z++a) (i*5) ((da o).take 5)).toArray):=(cl.refl (λb=>b=q) J).setRow (.inl rfl) _;have e5:(da o).take 5=da o:=rfl
  have R:iL ((l.take i).flatMap da++z++a) (i*5) (da o)=(l.take i).flatMap da++da o++(z++a).drop 5:=by
   unfold iL;rw[List.append_assoc ((l.take i).flatMap da) z a,<-G,List.take_left,dB,<-List.drop_drop,List.drop_left]
  have t:(J.setRow q (iL ((l.take i).flatMap da++z++a) (i*5) ((da o).take 5)).toArray).heap[q]? =some (.cells ((l.take i).flatMap da++da o++(z++a).drop 5).toArray ir (0,0)):=by
   rw[dx,if_pos rfl,hb2,e5,R]
  show sO _ _ _;rw[show((l.take i).flatMap da++z++a).toArray.toList=(l.take i).flatMap da++z++a from rfl,show 1*(4+1)=5 from rfl];generalize J.setRow q (iL ((l.take i).flatMap da++z++a) (i*5) ((da o).take 5)).toArray=F at I t|-;refine cq (v:=.int .i64 ((i+1:Nat):Int)) (λW=>by simp[go_sem];rw[cV (by omega) (by omega)]) ?_;refine cq (λW=>Ax eW sL (show i+1<=l.length+1 by omega) Q (by omega) W) ?_;refine cq (λW=>Ax eW sL (show i<=l.length by omega) hc (by omega) W) ?_;have mD:cl (λb=>b=q) J F.drew:=I.drew;have u:F.drew.heap[q]? =some (.cells ((l.take i).flatMap da++da o++(z++a).drop 5).toArray ir (0,0)):=t
  have C:Rd F.drew (4+1) (.slice (some ⟨b,i*(4+1),none⟩) (l.length - i) (c - i)) (l.length - i) ((l.drop i).flatMap da):=by
   have O:At w b 0 (l.flatMap da):=⟨_,_,_,U,by rw[List.size_toArray,f,T];omega,by simp⟩
   have h1:=O.sub (i*5) ((l.length - i)*5) (by rw[T];omega);rw[P3 dB,List.take_of_length_le (by rw[AH dB,List.length_drop];exact Nat.le_refl _),Nat.zero_add]at h1;refine⟨by rw[AH dB,List.length_drop],.inr ⟨b,i*(4+1),c - i,rfl,by omega,?_⟩⟩;exact(h1.mod mF id).mod mD λe=>hbb e
  have hsz3:((l.take i).flatMap da++da o++(z++a).drop 5).length=wz*5:=by
   rw[List.length_append,List.length_append,G,dB,List.length_drop,List.length_append,hz,y];omega
  refine pT (sz:=4) (k:=l.length - i) eW sL u C (by show _=min _ _;omega) (by rw[List.size_toArray,hsz3];omega) (HQ ic _) ?_;have r:((l.drop i).flatMap da).length=(l.length - i)*5:=by rw[AH dB,List.length_drop]
  have S:iL ((l.take i).flatMap da++da o++(z++a).drop 5) ((i+1)*(4+1)) (((l.drop i).flatMap da).take ((l.length - i)*(4+1)))=(l.take i++o::l.drop i).flatMap da++a:=by
   have hAo:((l.take i).flatMap da++da o).length=(i+1)*(4+1):=by rw[List.length_append,G,dB];omega
   have e2:((l.drop i).flatMap da).take ((l.length - i)*(4+1))=(l.drop i).flatMap da:=List.take_of_length_le (by rw[r];exact Nat.le_refl _);rw[e2];unfold iL;rw[<-hAo,List.take_left,r,<-List.drop_drop,List.drop_left,List.drop_drop];rw[show 5+(l.length - i)*5=z.length by rw[hz];omega,List.drop_left];simp[List.append_assoc]
  refine hK _ _ ⟨by rw[AH dB,m],.inr ⟨q,wz,a,by rw[m],by rw[m];exact Q,?_,by rw[m];exact y,Z⟩⟩ ?_ λY p=>?_
  ·rw[dx,if_pos rfl,u];show some (Obj.cells (iL ((l.take i).flatMap da++da o++(z++a).drop 5) ((i+1)*(4+1)) (((l.drop i).flatMap da).take ((l.length - i)*(4+1)))).toArray ir (0,0))=_;rw[S]
  ·exact((mF.mono λ_ _ h=>h.elim).on mD λY p=>.inr (by rw[p];exact H)).setRow (.inr H) _
  ·have:Y=q:=by cases p;rfl
   exact .inr (by omega)
 ·have g:¬(c:Int)<(l.length:Int)+1:=by omega
  refine ck (v:=.bool false) (by simp[go_sem,g]<;>first|exact⟨rfl,rfl⟩|exact rfl) ?_;rw[ci,if_neg Bool.false_ne_true];refine ck (v:=.int .i64 ((l.length+1:Nat):Int)) (w' :=w) (by simp[go_sem];rw[cV (by omega) (by omega)]) ?_;refine ck (KI eW sL (show l.length+1<=c by omega) (by omega) w) ?_;refine ck (v:=.int .i64 ((i+1:Nat):Int)) (w' :=w) (by simp[go_sem];rw[cV (by omega) (by omega)]) ?_;refine ck (Ax eW sL (show i+1<=l.length+1 by omega) (by omega) (by omega) w) ?_
  have hov:(callFunc 351 #[.slice (some ⟨N,0,none⟩) 1 j,.slice (some ⟨b,(i+1)*(4+1),none⟩) (l.length+1 - (i+1)) (c - (i+1))]).run Tryz.prog w=.ok (.value (.bool false)) w:=by
   rw[run_callFunc_extern Tryz.func351 (by kernel_rfl) (by kernel_rfl) (by kernel_rfl) K3];rw[Lib.run_overlaps_apart w gU 4 ir eW 5 Sh ⟨N,0,none⟩ ⟨b,(i+1)*(4+1),none⟩ 1 j _ _ hne ir ir _ _ (R4 E) (R4 U) (by rw[List.size_toArray,f];omega) (Jk E _) (Jk E _)];rfl
  refine⟨?_⟩;show rn Tryz.prog (callFunc 351 #[.slice (some ⟨N,0,none⟩) 1 j,.slice (some ⟨b,(i+1)*(4+1),none⟩) (l.length+1 - (i+1)) (c - (i+1))]) w _;refine fi hov ?_;refine ck (v:=.bool true) (by simp[go_sem]<;>first|exact⟨rfl,rfl⟩|exact rfl) ?_;rw[ci,if_pos rfl];refine cq (v:=.int .i64 ((i+1:Nat):Int)) (λW=>by simp[go_sem];rw[cV (by omega) (by omega)]) ?_;refine cq (λW=>Ax eW sL (show i+1<=l.length+1 by omega) (by omega) (by omega) W) ?_;refine cq (λW=>Ax eW sL (show i<=l.length+1 by omega) (by omega) (by omega) W) ?_;have u:w.drew.heap[b]? =some (.cells (l.flatMap da++rest).toArray ir (0,0)):=U;have V:5<=rest.length:=by rw[D];omega
  have C:Rd w.drew (4+1) (.slice (some ⟨b,i*(4+1),none⟩) (l.length+1 - i) (c - i)) (l.length+1 - i) ((l.drop i).flatMap da++rest.take 5):=by
   have O:At w b 0 (l.flatMap da++rest):=At.all (cO U);have h1:=O.sub (i*5) ((l.length+1 - i)*5) (by rw[f];omega);rw[List.drop_append_of_le_length (by rw[T];omega),P3 dB,Nat.zero_add]at h1
   have e1:((l.drop i).flatMap da++rest).take ((l.length+1 - i)*5)=(l.drop i).flatMap da++rest.take 5:=by
    have hd:((l.drop i).flatMap da).length=(l.length - i)*5:=by rw[AH dB,List.length_drop]
    rw[show(l.length+1 - i)*5=((l.drop i).flatMap da).length+5 by rw[hd];omega,List.take_length_add_append]
   rw[e1]at h1;refine⟨by rw[List.length_append,AH dB,List.length_drop,List.length_take,Nat.min_eq_left V];omega,.inr ⟨b,i*(4+1),c - i,rfl,by omega,h1.keep rfl⟩⟩
  have r:((l.drop i).flatMap da).length=(l.length - i)*5:=by rw[AH dB,List.length_drop]
  refine pT (sz:=4) (k:=l.length - i) eW sL u C (by show _=min _ _;omega) (by rw[List.size_toArray,f];omega) (by rw[List.all_append,HQ ic];exact List.all_eq_true.2 λx L=>List.all_eq_true.1 M x (List.mem_of_mem_take L)) ?_;have G:((l.take i).flatMap da).length=i*5:=by rw[AH dB,List.length_take,Nat.min_eq_left hi]
  obtain⟨d,X,n⟩:∃d:List Value,l.flatMap da++rest=(l.take i).flatMap da++(d++((l.flatMap da++rest).drop ((i+1)*5)))/\d.length=5:=by
   refine⟨((l.flatMap da++rest).drop (i*5)).take 5,?_,by rw[List.length_take,List.length_drop,f];omega⟩;have e1:(l.take i).flatMap da=(l.flatMap da++rest).take (i*5):=by rw[List.take_append_of_le_length (by rw[T];omega),PW dB]
   rw[e1,show(i+1)*5=i*5+5 by omega,<-List.drop_drop,List.take_append_drop,List.take_append_drop]
  have R:iL (l.flatMap da++rest) ((i+1)*(4+1)) (((l.drop i).flatMap da++rest.take 5).take ((l.length - i)*(4+1)))=(l.take i).flatMap da++d++((l.drop i).flatMap da++rest.drop 5):=by
   have e2:((l.drop i).flatMap da++rest.take 5).take ((l.length - i)*(4+1))=(l.drop i).flatMap da:=by
    rw[show(l.length - i)*(4+1)=((l.drop i).flatMap da).length by rw[r],List.take_left]
   have e3:(l.flatMap da++rest).take ((i+1)*(4+1))=(l.take i).flatMap da++d:=by
    rw[X,<-List.append_assoc,show(i+1)*(4+1)=((l.take i).flatMap da++d).length by rw[List.length_append,G,n];omega,List.take_left]
   have e4:(l.flatMap da++rest).drop ((i+1)*(4+1)+(l.length - i)*5)=rest.drop 5:=by
    rw[show(i+1)*(4+1)+(l.length - i)*5=(l.flatMap da).length+5 by rw[T];omega,<-List.drop_drop,List.drop_left]
   unfold iL;rw[e2,r,e3,e4];simp[List.append_assoc]
  have I:cl (co (.slice (some ⟨b,0,none⟩) l.length c)) w (w.drew.setRow b (iL (l.flatMap da++rest) ((i+1)*(4+1)) (((l.drop i).flatMap da++rest.take 5).take ((l.length - i)*(4+1)))).toArray):=((cl.refl _ w).drew).setRow (.inl (show co (.slice (some ⟨b,0,none⟩) l.length c) b from rfl)) _
  have t:(w.drew.setRow b (iL (l.flatMap da++rest) ((i+1)*(4+1)) (((l.drop i).flatMap da++rest.take 5).take ((l.length - i)*(4+1)))).toArray).heap[b]? =some (.cells ((l.take i).flatMap da++d++((l.drop i).flatMap da++rest.drop 5)).toArray ir (0,0)):=by
   rw[dx,if_pos rfl,u,R]
  rw[show(l.flatMap da++rest).toArray.toList=l.flatMap da++rest from rfl];generalize w.drew.setRow b (iL (l.flatMap da++rest) ((i+1)*(4+1)) (((l.drop i).flatMap da++rest.take 5).take ((l.length - i)*(4+1)))).toArray=F at I t|-;refine ck (Ax eW sL (show i<=l.length+1 by omega) (by omega) (by omega) F) ?_
  have hv3:Rd F 5 (.slice (some ⟨N,0,none⟩) 1 j) 1 (da o):=by
   have:=hv.rd.mod I λY p hs' =>hd Y hs' p.sl;rw[hcs]at this;exact this
  refine pT (sz:=4) (k:=1) eW sL t hv3 (by show _=min _ _;omega) (by rw[List.size_toArray,List.length_append,List.length_append,List.length_append,G,n,r,List.length_drop,D];omega) (ic o) ?_
  have S:iL ((l.take i).flatMap da++d++((l.drop i).flatMap da++rest.drop 5)) (i*(4+1)) ((da o).take (1*(4+1)))=(l.take i++o::l.drop i).flatMap da++rest.drop 5:=by
   have e5:(da o).take (1*(4+1))=da o:=rfl;rw[e5];unfold iL;rw[dB,show i*(4+1)=((l.take i).flatMap da).length by rw[G],List.append_assoc ((l.take i).flatMap da) d,List.take_left,<-List.drop_drop,List.drop_left,<-n,List.drop_left];simp[List.append_assoc]
  refine hK _ _ ⟨by rw[AH dB,m],.inr ⟨b,c,rest.drop 5,by rw[m],by rw[m];omega,?_,by rw[m,List.length_drop,D];omega,List.all_eq_true.2 λx L=>List.all_eq_true.1 M x (List.mem_of_mem_drop L)⟩⟩ (I.setRow (.inl (show co (.slice (some ⟨b,0,none⟩) l.length c) b from rfl)) _) λY p=>.inl p;show(F.setRow b (iL ((l.take i).flatMap da++d++((l.drop i).flatMap da++rest.drop 5)) (i*(4+1)) ((da o).take (1*(4+1)))).toArray).heap[b]? =_;rw[dx,if_pos rfl,t,S]
def KZ(w:World)(fv:Value)(p:Od->Bool)(l:List Od):Prop:=
 ∃g cp,fv=.func (.func g) #[] cp/\∀x∈l,∀W,cl (λ_=>False) w W->∀K:cm,(∀W',cl (λ_=>False) W W' ->K (.bool (p x)) W')->Ca Tryz.prog g ⟨[.agg (da x).toArray]++cp.toList⟩ W K
def uM{α:Type}(l:List α)(p:α->Bool):Int:=match l.findIdx? p with|some i=>(i:Int)|none=> -1
def tF{w:World}{K:cm}{s fv:Value}{l:List Od}{p:Od->Bool}(h:Rd w 5 s l.length (l.flatMap da))(Z:l.length<=1000000)(P:KZ w fv p l)
  (E:∀m,cl (λ_=>False) w m->K (.int .i64 (uM l p)) m):Ca Tryz.prog 210 #[s,fv] w K:=by
 obtain⟨g,J,rfl,A⟩:=P;apply NY;obtain⟨a,c,R⟩:=h.isSl;refine fi (v:=.int .i64 (l.length:Int)) (w' :=w) (by rw[R];simp[go_sem]) ?_
 refine dp (λst W=>∃(i:Nat) (x:Value),i<=l.length/\st=(x,.int .i64 i,())/\cl (λ_=>False) w W/\∀j:Nat,∀k:j<l.length,j<i->p l[j]=false)
  (λst _=>match st.2.1 with| .int _ i=>l.length - i.toNat|_=>0) ⟨0,.int .i64 0,by omega,rfl,cl.refl _ _,λj _ h=>by omega⟩ ?_
 rintro⟨_,_⟩ W ⟨i,x,Y,⟨⟩,n,f⟩ V y;unfold EC;intro _;by_cases d:i<l.length
 ·have q:(i:Int)<(l.length:Int):=by omega
  refine ck (v:=.bool true) (by simp[go_sem,q]<;>first|exact⟨rfl,rfl⟩|exact rfl) ?_;rw[ci,if_pos rfl];obtain⟨b,z,O,u,F,Q⟩:=(h.mod n λ_ _ h=>h).item dB d rfl;obtain⟨C,e,X,M,o⟩:=Q.get;have D:=o 0 (.int .u64 l[i].num) rfl;have I:=o 1 (.int .u32 l[i].acct) rfl;have B:=o 2 (.bool l[i].buy) rfl;have L:=o 3 (.int .i64 l[i].price) rfl;have H:=o 4 (.int .i64 l[i].left) rfl;simp only[Nat.add_assoc,Nat.add_zero]at D I B L H;refine ck (v:=.pointer (some ⟨b,z+i*5,none⟩)) (w' :=W) (by rw[u];simp[go_sem,d,cC]) ?_;refine ck (v:=.agg (da l[i]).toArray) (w' :=W) (by simp[go_sem,cO M,D,I,B,L,H,da]) ?_;simp only[eR];have G:(#[.agg (da l[i]).toArray]++J:Array Value)=⟨[.agg (da l[i]).toArray]++J.toList⟩:=by apply Array.ext';simp
  refine A l[i] (List.getElem_mem d) W n _ λU t=>?_;cases hp:p l[i]with
  |true=>
   rw[ci,if_pos rfl]
   have:uM l p=(i:Int):=by
    unfold uM
    have:l.findIdx? p=some i:=by
     rw[List.findIdx?_eq_some_iff_getElem];refine⟨d,hp,λj k=>?_⟩;rw[f j (by omega) k];simp
    rw[this]
   have r:=E _ (n.trans t);rw[this]at r;exact r
  |false=>
   rw[ci,if_neg Bool.false_ne_true];refine ck (v:=.int .i64 ((i+1:Nat):Int)) (w' :=U) (by simp[go_sem];rw[cV (by omega) (by omega)]) ?_;refine y _ _ ⟨i+1,_,by omega,rfl,n.trans t,λj k N=>?_⟩ (by show l.length - (((i+1:Nat):Int)).toNat<l.length - ((i:Int)).toNat;omega);by_cases T:j=i
   ·subst T;exact hp
   ·exact f j k (by omega)
 ·obtain rfl:i=l.length:=by omega
  refine ck (v:=.bool false) (by simp[go_sem]<;>first|exact⟨rfl,rfl⟩|exact rfl) ?_;rw[ci,if_neg Bool.false_ne_true]
  have:uM l p= -1:=by
   unfold uM
   have:l.findIdx? p=none:=by
    rw[List.findIdx?_eq_none_iff];intro x S;obtain⟨j,k,rfl⟩:=List.getElem_of_mem S;exact f j k k
   rw[this]
  have r:=E _ n;rw[this]at r;exact r
def Od.may(o:Od):Bool:=decide (o.num≠0)&& decide (o.acct≠0)&& cy o.price 1 MP&& cy o.left 1 1000000
def ig(o:Od):Value:=.agg (da o).toArray
def fI:Od:=⟨0,0,false,0,0⟩
def dn(buy:Bool)(a b:Int):Bool:=if buy then decide (b<a)else decide (a<b)
def xn(buy:Bool)(l:List Od)(price:Int):Nat:=(l.findIdx? λx=>dn buy price x.price).getD l.length
def iU(buy:Bool)(l:List Od)(o:Od):List Od:=l.take (xn buy l o.price)++o::l.drop (xn buy l o.price)
def jp(buy:Bool)(l:List Od)(o:Od):Int×List Od:=
 if¬o.may\/o.buy≠buy then(2,l)else if(l.any λx=>decide (x.num=o.num))then(8,l)else if 100<=l.length then(9,l)else(0,iU buy l o)
def jR(l:List Od)(n:Int):Option Od:=l.find? λx=>decide (x.num=n)
def pQ(l:List Od)(n:Int):List Od:=l.eraseP λx=>decide (x.num=n)
def fQ(l:List Od)(n:Int):List Od:=
 match l with
 | []=>[]
 |o::r=>if o.left - n=0 then r else{o with left:=o.left - n}::r
def eI(buy:Bool)(l:List Od)(price:Int)(acct:Int):Int:=
 (((l.takeWhile λo=> !dn buy price o.price).filter λo=>decide (o.acct≠acct)).map (·.left)).sum
def qi(o:Od)(w:World):∃a,(Instr.box ir (ig o)).run Tryz.prog w=.ok (.pointer (some ⟨w.heap.size,0,none⟩)) a/\hp a w.heap.size=some (.cells (da o).toArray ir (0,0))/\cl (λ_=>False) w a:=
 ⟨w.alloc (.cells (da o).toArray ir),rfl,by simp[go_sem],(cl.refl _ w).alloc _⟩
def xb{o:Od}{w:World}{K:cm}(b:∀g,cl (λ_=>False) w g->K (.bool o.may) g):Ca Tryz.prog 222 #[ig o] w K:=by
 apply Pf;obtain⟨j,h,a,i⟩:=qi o w;have b:=b _ i;refine ck h ?_;unfold Od.may cy MP at b;unfold da at a;refine ck (by simp[-Int.natCast_add,go_sem,a]<;>first|exact⟨rfl,rfl⟩|exact rfl) ?_;refine ck (by simp[-Int.natCast_add,go_sem,a]<;>first|exact⟨rfl,rfl⟩|exact rfl) ?_;by_cases c:o.num=0
 ·refine ck (v:=.bool false) (by simp[go_sem,c]<;>first|exact⟨rfl,rfl⟩|exact rfl) ?_;rw[ci,if_neg Bool.false_ne_true];simpa [c]using b
 refine ck (v:=.bool true) (by simp[go_sem,c]<;>first|exact⟨rfl,rfl⟩|exact rfl) ?_;rw[ci,if_pos rfl];refine ck (by simp[-Int.natCast_add,go_sem,a]<;>first|exact⟨rfl,rfl⟩|exact rfl) ?_;refine ck (by simp[-Int.natCast_add,go_sem,a]<;>first|exact⟨rfl,rfl⟩|exact rfl) ?_;by_cases h1:o.acct=0
 ·refine ck (v:=.bool false) (by simp[go_sem,h1]<;>first|exact⟨rfl,rfl⟩|exact rfl) ?_;rw[ci,if_neg Bool.false_ne_true];simpa [h1]using b
 refine ck (v:=.bool true) (by simp[go_sem,h1]<;>first|exact⟨rfl,rfl⟩|exact rfl) ?_;rw[ci,if_pos rfl];refine ck (by simp[-Int.natCast_add,go_sem,a]<;>first|exact⟨rfl,rfl⟩|exact rfl) ?_;refine ck (by simp[-Int.natCast_add,go_sem,a]<;>first|exact⟨rfl,rfl⟩|exact rfl) ?_;by_cases d:1<=o.price
 ·refine ck (v:=.bool true) (by simp[go_sem,d]<;>first|exact⟨rfl,rfl⟩|exact rfl) ?_;rw[ci,if_pos rfl];refine ck (by simp[-Int.natCast_add,go_sem,a]<;>first|exact⟨rfl,rfl⟩|exact rfl) ?_;refine ck (by simp[-Int.natCast_add,go_sem,a]<;>first|exact⟨rfl,rfl⟩|exact rfl) ?_;by_cases e:o.price<=10000000
  ·refine ck (v:=.bool true) (by simp[go_sem,e]<;>first|exact⟨rfl,rfl⟩|exact rfl) ?_;rw[ci,if_pos rfl];refine ck (by simp[-Int.natCast_add,go_sem,a]<;>first|exact⟨rfl,rfl⟩|exact rfl) ?_;refine ck (by simp[-Int.natCast_add,go_sem,a]<;>first|exact⟨rfl,rfl⟩|exact rfl) ?_;by_cases f:1<=o.left
   ·refine ck (v:=.bool true) (by simp[go_sem,f]<;>first|exact⟨rfl,rfl⟩|exact rfl) ?_;rw[ci,if_pos rfl];refine ck (by simp[-Int.natCast_add,go_sem,a]<;>first|exact⟨rfl,rfl⟩|exact rfl) ?_;refine ck (by simp[-Int.natCast_add,go_sem,a]<;>first|exact⟨rfl,rfl⟩|exact rfl) ?_;refine ck (by simp[-Int.natCast_add,go_sem]<;>first|exact⟨rfl,rfl⟩|exact rfl) ?_;simpa [c,h1,d,e,f]using b
   ·refine ck (v:=.bool false) (by simp[go_sem,f]<;>first|exact⟨rfl,rfl⟩|exact rfl) ?_;rw[ci,if_neg Bool.false_ne_true];simpa [c,h1,d,e,f]using b
  ·refine ck (v:=.bool false) (by simp[go_sem,e]<;>first|exact⟨rfl,rfl⟩|exact rfl) ?_;rw[ci,if_neg Bool.false_ne_true];simpa [c,h1,d,e]using b
 ·refine ck (v:=.bool false) (by simp[go_sem,d]<;>first|exact⟨rfl,rfl⟩|exact rfl) ?_;rw[ci,if_neg Bool.false_ne_true];simpa [c,h1,d]using b
structure eJ(w:World)(s:Nat)(F:Nat->Prop)(buy:Bool)(l:List Od):Prop where
 out:∃sl,hp w s=some (.cells #[.bool true,.bool buy,sl] 320 (0,0))/\kR w sl l/\(∀b,F b↔b=s\/co sl b)/\¬co sl s
 len:l.length<=100
 may:∀o∈l,o.may=true/\o.buy=buy/\o.Fit
def eJ.mod{F G:Nat->Prop}{w w' :World}{s:Nat}{buy:Bool}{l:List Od}(h:eJ w s F buy l)(d:cl G w w')(c:∀b,F b->¬G b):eJ w' s F buy l:=by
 obtain⟨⟨sl,h1,e,a,g⟩,i,j⟩:=h;exact⟨⟨sl,d.hpk h1 (c s ((a s).2 (.inl rfl))),e.mod d λb f=>c b ((a b).2 (.inr f)),a,g⟩,i,j⟩
def eJ.lt{F:Nat->Prop}{w:World}{s:Nat}{buy:Bool}{l:List Od}(h:eJ w s F buy l){b:Nat}(a:F b):b<w.heap.size:=by
 obtain⟨⟨sl,h1,c,d,f⟩,g,e⟩:=h;rcases(d b).1 a with rfl|a
 ·exact cn h1
 ·exact c.lt a
def eJ.self{F:Nat->Prop}{w:World}{s:Nat}{buy:Bool}{l:List Od}(h:eJ w s F buy l):F s:=by
 obtain⟨⟨sl,h1,c,a,d⟩,e,b⟩:=h;exact(a s).2 (.inl rfl)
def cT(s:Nat):Value:=.pointer (some ⟨s,0,none⟩)
def yf{w:World}{K:cm}{buy:Bool}(c:∀s F a,eJ a s F buy []->cl (λ_=>False) w a->(∀b,F b->w.heap.size<=b)->K (cT s) a):Ca Tryz.prog 133 #[.bool buy] w K:=by
 apply PM;simp[go_sem];refine c _ (λb=>b=w.heap.size) _ ⟨⟨.slice none 0 0,by simp[go_sem],dW.nil _ _ _,λb=>⟨λh=>.inl h,λh=>by rcases h with h|h;exact h;cases h⟩,λh=>by cases h⟩,by simp,λo h=>by cases h⟩ ((cl.refl _ w).alloc _) λb d=>by rw[d];exact Nat.le_refl _
def jv{w:World}{K:cm}{s:Nat}{F:Nat->Prop}{buy:Bool}{l:List Od}(h:eJ w s F buy l)(a:K (.bool true) w):Ca Tryz.prog 237 #[cT s] w K:=by
 obtain⟨⟨sl,h1,c,f,d⟩,e,b⟩:=h;apply Pi;unfold cT;refine ck (v:=.bool true) (by simp[go_sem]<;>first|exact⟨rfl,rfl⟩|exact rfl) ?_;rw[ci,if_pos rfl];simp only[cw];refine ck (by simp[-Int.natCast_add,go_sem,h1]<;>first|exact⟨rfl,rfl⟩|exact rfl) ?_;refine ck (by simp[-Int.natCast_add,go_sem,h1]<;>first|exact⟨rfl,rfl⟩|exact rfl) ?_;exact a
def uB{w:World}{K:cm}{s:Nat}{F:Nat->Prop}{buy:Bool}{l:List Od}{x y:Int}(h:eJ w s F buy l)(a:K (.bool (dn buy x y)) w):Ca Tryz.prog 270 #[cT s,.int .i64 x,.int .i64 y] w K:=by
 obtain⟨⟨sl,h1,b,e,c⟩,d,f⟩:=h;apply Oj;unfold cT;simp only[cw];refine ck (by simp[-Int.natCast_add,go_sem,h1]<;>first|exact⟨rfl,rfl⟩|exact rfl) ?_;refine ck (by simp[-Int.natCast_add,go_sem,h1]<;>first|exact⟨rfl,rfl⟩|exact rfl) ?_;unfold dn at a;cases buy with
 |true=>
  rw[ci,if_pos rfl];refine ck (by simp[-Int.natCast_add,go_sem]<;>first|exact⟨rfl,rfl⟩|exact rfl) ?_;simpa using a
 |false=>
  rw[ci,if_neg Bool.false_ne_true];refine ck (by simp[-Int.natCast_add,go_sem]<;>first|exact⟨rfl,rfl⟩|exact rfl) ?_;simpa using a
def Gk{w:World}{K:cm}{s:Nat}{F:Nat->Prop}{buy:Bool}{l:List Od}{n:Int}(h:eJ w s F buy l)
  (o:∀c,cl (λ_=>False) w c->K (.int .i64 (uM l λx=>decide (x.num=n))) c):Ca Tryz.prog 310 #[cT s,.int .u64 n] w K:=by
 obtain⟨⟨sl,h1,m,A,y⟩,z,C⟩:=h;apply N1;unfold cT;have d:cl (λ_=>False) w (w.alloc (.cells #[.int .u64 n] 27)):=(cl.refl _ w).alloc _;obtain⟨p,b⟩:∃p,p=w.heap.size:=⟨_,rfl⟩
 refine ck (v:=.pointer (some ⟨p,0,none⟩)) (w' :=w.alloc (.cells #[.int .u64 n] 27)) (by rw[b];simp[go_sem]) ?_;have g:hp (w.alloc (.cells #[.int .u64 n] 27)) p=some (.cells #[.int .u64 n] 27 (0,0)):=by rw[b];simp[go_sem]
 generalize w.alloc (.cells #[.int .u64 n] 27)=u at d g|-;have a:=d.hpk h1 id;simp only[cw];refine ck (by simp[-Int.natCast_add,go_sem,a]<;>first|exact⟨rfl,rfl⟩|exact rfl) ?_;refine ck (by simp[-Int.natCast_add,go_sem,a]<;>first|exact⟨rfl,rfl⟩|exact rfl) ?_;refine tF (m.mod d λ_ _ h=>h).rd (by omega) ⟨_,_,rfl,λx B W j E f=>?_⟩ λD k=>o _ (d.trans k);apply MA;obtain⟨q,t,e,i⟩:=qi x W;refine ck t ?_;unfold da at e;have r:=i.hpk (j.hpk g id) id;refine ck (by simp[-Int.natCast_add,go_sem,e]<;>first|exact⟨rfl,rfl⟩|exact rfl) ?_;refine ck (by simp[-Int.natCast_add,go_sem,e]<;>first|exact⟨rfl,rfl⟩|exact rfl) ?_;refine ck (by simp[-Int.natCast_add,go_sem,r]<;>first|exact⟨rfl,rfl⟩|exact rfl) ?_;refine ck (v:=.bool (decide (x.num=n))) (w' :=q) (by simp[go_sem];rw[Bool.eq_iff_iff];simp) ?_;exact f _ i
def nR{α:Type}{l:List α}{p:α->Bool}{i:Nat}(h:l.findIdx? p=some i):∃a:i<l.length,p l[i]=true/\l.find? p=some l[i]/\uM l p=(i:Int):=by
 obtain⟨a,h1,c⟩:=List.findIdx?_eq_some_iff_getElem.1 h;refine⟨a,h1,?_,by unfold uM;rw[h]⟩;rw[List.find?_eq_some_iff_getElem];exact⟨h1,i,a,rfl,λj b=>by simpa using c j b⟩
def pP{α:Type}{l:List α}{p:α->Bool}(h:l.findIdx? p=none):l.find? p=none/\uM l p= -1:=by
 refine⟨?_,by unfold uM;rw[h]⟩;rw[List.findIdx?_eq_none_iff]at h;rw[List.find?_eq_none];exact λx a=>by rw[h x a];simp
def EU{w:World}{K:cm}{s:Nat}{F:Nat->Prop}{buy:Bool}{l:List Od}{n:Int}(h:eJ w s F buy l)
  (a:∀c,cl (λ_=>False) w c->K (.tuple #[.int .i64 ((l.findIdx? λx=>decide (x.num=n)).getD 0:Nat),.int .i64 (if(l.findIdx? λx=>decide (x.num=n)).isSome then 0 else 7)]) c):Ca Tryz.prog 299 #[cT s,.int .u64 n] w K:=by
 apply NO;refine jv h ?_;refine ck (v:=.bool false) (by simp[go_sem]<;>first|exact⟨rfl,rfl⟩|exact rfl) ?_;rw[ci,if_neg Bool.false_ne_true];refine Gk h λf d=>?_;have a:=a _ d;cases b:l.findIdx? λx=>decide (x.num=n)with
 |none=>
  rw[b]at a;rw[(pP b).2];refine ck (v:=.bool false) (by simp[go_sem]<;>first|exact⟨rfl,rfl⟩|exact rfl) ?_;rw[ci,if_neg Bool.false_ne_true];simpa using a
 |some i=>
  rw[b]at a;obtain⟨_,_,_,e⟩:=nR b;rw[e];refine ck (v:=.bool true) (by simp[go_sem]<;>first|exact⟨rfl,rfl⟩|exact rfl) ?_;rw[ci,if_pos rfl];simpa using a
def Qx{W:World}{p off:Nat}{C:Array Value}{T:TypeId}{o:Od}(h:hp W p=some (.cells C T (0,0)))(a:off+5<=C.size):
  (Instr.storeAt ir (.pointer (some ⟨p,off,none⟩)) (ig o)).run Tryz.prog W=.ok () (W.setRow p (iL C.toList off (da o)).toArray):=by
 have h1:=qF (P:=Tryz.prog) (t:=ir) (w:=W) (b:=p) (off:=off) (cs:=da o) (n:=4) sL rfl h a (ic o);exact h1
def gM{W:World}{p off:Nat}{o:Od}(h:At W p off (da o)):(Instr.loadAt ir (.pointer (some ⟨p,off,none⟩))).run Tryz.prog W=.ok (ig o) W:=
 fw (P:=Tryz.prog) (t:=ir) (by kernel_rfl) sL rfl h
def iJ(w:World):∃a,(Instr.alloc ir true (.tuple #[])).run Tryz.prog w=.ok (.pointer (some ⟨w.heap.size,0,none⟩)) a/\hp a w.heap.size=some (.cells (da fI).toArray ir (0,0))/\cl (λ_=>False) w a:=
 ⟨w.alloc (.cells (da fI).toArray ir),by simp[go_sem,da,fI],by simp[go_sem],(cl.refl _ w).alloc _⟩
def gm{W:World}{p:Nat}{o o' :Od}{T:TypeId}(h:hp W p=some (.cells (da o).toArray T (0,0))):
  ∃a,(Instr.storeAt ir (.pointer (some ⟨p,0,none⟩)) (ig o')).run Tryz.prog W=.ok () a/\hp a p=some (.cells (da o').toArray T (0,0))/\cl (λb=>b=p) W a:=by
 refine⟨_,Qx h (Nat.le_refl _),?_,(cl.refl (λb=>b=p) W).setRow (.inl rfl) _⟩;show(W.setRow p _).heap[p]? =_;have c:W.heap[p]? =some (.cells (da o).toArray T (0,0)):=h;rw[dx,if_pos rfl,c,jI (by rfl)]
def kR.load{w:World}{sl:Value}{l:List Od}(h:kR w sl l){i:Nat}(hi:i<l.length):
  ∃b a,sl=.slice (some ⟨b,0,none⟩) l.length a/\(∀k:IntKind,(Instr.indexAt gU sl (.int k (i:Int))).run Tryz.prog w=.ok (.pointer (some ⟨b,i*5,none⟩)) w)/\(Instr.loadAt ir (.pointer (some ⟨b,i*5,none⟩))).run Tryz.prog w=.ok (ig l[i]) w:=by
 obtain⟨b,a,rest,rfl,g,e,f⟩:=h.pos (by omega);have c:At w b 0 (l.flatMap da++rest):=At.all (cO e);have d:=h.1;have h1:=c.sub (i*5) 5 (by rw[List.length_append,d];omega);rw[List.drop_append_of_le_length (by rw[d];omega),List.take_append_of_le_length (by rw[List.length_drop,d];omega),jd da 5 l i (λx _=>dB x) hi,Nat.zero_add]at h1;refine⟨b,a,rfl,λk=>?_,gM h1⟩;simp[go_sem,hi,cC,eW]
def vg{w:World}{K:cm}{s:Nat}{F:Nat->Prop}{buy:Bool}{l:List Od}{n:Int}(h:eJ w s F buy l)
  (f:jR l n=none->l.findIdx? (λx=>decide (x.num=n))=none->∀a,cl (λ_=>False) w a->K (.tuple #[.int .i64 0,.int .i64 7]) a)
  (e:∀i:Nat,∀b:i<l.length,jR l n=some l[i]->l.findIdx? (λx=>decide (x.num=n))=some i->∀a,cl (λ_=>False) w a->K (.tuple #[.int .i64 (i:Int),.int .i64 0]) a):Ca Tryz.prog 299 #[cT s,.int .u64 n] w K:=by
 refine EU h λg c=>?_;cases b:l.findIdx? λx=>decide (x.num=n)with
 |none=>exact f (pP b).1 b _ c
 |some i=>
  obtain⟨h1,j,d,k⟩:=nR b;exact e i h1 d b _ c
def Ht{w:World}{K:cm}{s:Nat}{F:Nat->Prop}{buy:Bool}{l:List Od}{n:Int}(h:eJ w s F buy l)
  (c:∀f,cl (λ_=>False) w f->K (.tuple #[ig ((jR l n).getD fI),.int .i64 (if(jR l n).isSome then 0 else 7)]) f):Ca Tryz.prog 269 #[cT s,.int .u64 n] w K:=by
 apply Oy;obtain⟨I,H,e,q⟩:=iJ w;refine ck H ?_;obtain⟨p,r⟩:∃p,p=w.heap.size:=⟨_,rfl⟩
 rw[<-r]at e|-;have h1:=h.mod q λ_ _ h=>h;refine vg h1 (λk _ y a=>?_) λi G k _ y a=>?_
 ·have m:=a.hpk e id;rw[k]at c;refine ck (by simp[-Int.natCast_add,go_sem]<;>first|exact⟨rfl,rfl⟩|exact rfl) ?_;refine ck (by simp[-Int.natCast_add,go_sem]<;>first|exact⟨rfl,rfl⟩|exact rfl) ?_;refine ck (v:=.bool true) (by simp[go_sem]<;>first|exact⟨rfl,rfl⟩|exact rfl) ?_;rw[ci,if_pos rfl];refine ck (v:=ig fI) (w' :=y) (by simp[go_sem,ig,da,fI]) ?_;obtain⟨A,u,j,g⟩:=gm (o' :=fI) m;refine dI u ?_;refine cx (gM (o:=fI) (At.all j)) ?_;exact c _ ((q.trans a).on g λb B=>.inr (by omega))
 ·have m:=a.hpk e id;have z:=h1.mod a λ_ _ h=>h;obtain⟨⟨sl,x,E,J,N⟩,L,M⟩:=z;obtain⟨b,D,C,d,t⟩:=E.load G;rw[k]at c;refine ck (by simp[-Int.natCast_add,go_sem]<;>first|exact⟨rfl,rfl⟩|exact rfl) ?_;refine ck (by simp[-Int.natCast_add,go_sem]<;>first|exact⟨rfl,rfl⟩|exact rfl) ?_;refine ck (v:=.bool false) (by simp[go_sem]<;>first|exact⟨rfl,rfl⟩|exact rfl) ?_;rw[ci,if_neg Bool.false_ne_true];simp only[cT,cw];refine ck (by simp[-Int.natCast_add,go_sem,x]<;>first|exact⟨rfl,rfl⟩|exact rfl) ?_;refine ck (by simp[-Int.natCast_add,go_sem,x]<;>first|exact⟨rfl,rfl⟩|exact rfl) ?_;refine ck (d _) ?_;refine ck t ?_;obtain⟨A,u,j,g⟩:=gm (o' :=l[i]) m;refine dI u ?_;refine cx (gM (o:=l[i]) (At.all j)) ?_;exact c _ ((q.trans a).on g λb B=>.inr (by omega))
def Fx{w:World}{K:cm}{s:Nat}{F:Nat->Prop}{buy:Bool}{l:List Od}(h:eJ w s F buy l)
  (x:∀c,cl (λ_=>False) w c->K (.tuple #[ig (l.head?.getD fI),.bool l.head?.isSome]) c):Ca Tryz.prog 271 #[cT s] w K:=by
 apply Mt;obtain⟨a,C,f,m⟩:=iJ w;refine ck C ?_;obtain⟨p,n⟩:∃p,p=w.heap.size:=⟨_,rfl⟩
 rw[<-n]at f|-;have h1:=h.mod m λ_ _ h=>h;obtain⟨⟨sl,d,y,D,I⟩,E,H⟩:=id h1;obtain⟨sa,G,k,-⟩:=y.isSl;refine cB.at (λst W=>st=(.bool (decide (l.length=0)),())/\W=a) ?_ ?_
 ·refine jv h1 ?_;refine ck (v:=.bool false) (by simp[go_sem]<;>first|exact⟨rfl,rfl⟩|exact rfl) ?_;rw[ci,if_neg Bool.false_ne_true];simp only[cT,cw];refine ck (by simp[-Int.natCast_add,go_sem,d]<;>first|exact⟨rfl,rfl⟩|exact rfl) ?_;refine ck (by simp[-Int.natCast_add,go_sem,d]<;>first|exact⟨rfl,rfl⟩|exact rfl) ?_;refine fi (v:=.int .i64 (l.length:Int)) (w' :=a) (by rw[k];simp[go_sem]) ?_;refine ck (v:=.bool (decide (l.length=0))) (w' :=a) (by simp[go_sem];rw[Bool.eq_iff_iff];simp) ?_;exact⟨rfl,rfl⟩
 rintro _ a ⟨rfl,rfl⟩;unfold FQ;intro _;cases l with
 |nil=>
  rw[ci,if_pos (by simp)];refine ck (v:=ig fI) (w' :=a) (by simp[go_sem,ig,da,fI]) ?_;obtain⟨z,t,j,g⟩:=gm (o' :=fI) f;refine dI t ?_;refine cx (gM (o:=fI) (At.all j)) ?_;exact x _ (m.on g λb A=>.inr (by omega))
 |cons o r=>
  rw[ci,if_neg (by simp)];obtain⟨b,B,u,e,q⟩:=y.load (i:=0) (by simp);simp only[cT,cw];refine ck (by simp[-Int.natCast_add,go_sem,d]<;>first|exact⟨rfl,rfl⟩|exact rfl) ?_;refine ck (by simp[-Int.natCast_add,go_sem,d]<;>first|exact⟨rfl,rfl⟩|exact rfl) ?_;refine ck (e .i64) ?_;refine ck q ?_;obtain⟨z,t,j,g⟩:=gm (o' :=o) f;refine dI t ?_;refine cx (gM (o:=o) (At.all j)) ?_;exact x _ (m.on g λb A=>.inr (by omega))
def HM{w:World}{K:cm}{s:Nat}{F:Nat->Prop}{buy:Bool}{l:List Od}(h:eJ w s F buy l)(d:K (.int .i64 (l.length:Int)) w):Ca Tryz.prog 227 #[cT s] w K:=by
 obtain⟨⟨sl,b,c,f,j⟩,g,i⟩:=id h;obtain⟨sa,e,a,-⟩:=c.isSl;apply NP;refine jv h ?_;refine ck (v:=.bool false) (by simp[go_sem]<;>first|exact⟨rfl,rfl⟩|exact rfl) ?_;rw[ci,if_neg Bool.false_ne_true];simp only[cT,cw];refine ck (by simp[-Int.natCast_add,go_sem,b]<;>first|exact⟨rfl,rfl⟩|exact rfl) ?_;refine ck (by simp[-Int.natCast_add,go_sem,b]<;>first|exact⟨rfl,rfl⟩|exact rfl) ?_;refine fi (v:=.int .i64 (l.length:Int)) (w' :=w) (by rw[a];simp[go_sem]) ?_;exact d
def xF{w:World}{K:cm}{s:Nat}{F:Nat->Prop}{buy:Bool}{l:List Od}(h:eJ w s F buy l)
  (p:∀j n e,eJ e j n buy l->cl (λ_=>False) w e->(∀b,n b->w.heap.size<=b)->K (cT j) e):Ca Tryz.prog 193 #[cT s] w K:=by
 obtain⟨⟨sl,q,r,z,y⟩,t,u⟩:=id h;apply N9;refine jv h ?_;refine ck (v:=.bool false) (by simp[go_sem]<;>first|exact⟨rfl,rfl⟩|exact rfl) ?_;rw[ci,if_neg Bool.false_ne_true];have md:cl (λ_=>False) w w.drew:=(cl.refl _ w).drew;have d1:=md.hpk q id;simp only[cT,cw];refine cq (λ_=>by simp[-Int.natCast_add,go_sem]<;>first|exact⟨rfl,rfl⟩|exact rfl) ?_;refine cx (by simp[-Int.natCast_add,go_sem,d1]<;>first|exact⟨rfl,rfl⟩|exact rfl) ?_;refine cq (λ_=>by simp[-Int.natCast_add,go_sem]<;>first|exact⟨rfl,rfl⟩|exact rfl) ?_;refine cx (by simp[-Int.natCast_add,go_sem,d1]<;>first|exact⟨rfl,rfl⟩|exact rfl) ?_;refine pr (l:=l) (r.mod md λ_ _ h=>h).rd (by omega) λd a f k x=>?_;have o:=md.trans k;have d2:=k.hpk d1 id;refine⟨by simp[go_sem,d2],?_⟩;obtain⟨sa,A,i,-⟩:=f.isSl;refine cq (v:=.agg #[.bool true,.bool buy,d]) (λW=>by rw[i];simp[go_sem]) ?_;have m:cl (λ_=>False) a (a.alloc (.cells #[.bool true,.bool buy,d] 320)):=(cl.refl _ a).alloc _;refine ck (v:=cT a.heap.size) (w' :=a.alloc (.cells #[.bool true,.bool buy,d] 320)) rfl ?_;have g:=o.size;refine p a.heap.size (λb=>b=a.heap.size\/co d b) _ ⟨⟨d,by simp[go_sem],f.mod m λ_ _ h=>h,λb=>Iff.rfl,λc=>?_⟩,t,u⟩ (o.trans m) λb c=>?_
 ·have:=f.lt c;omega
 ·rcases c with rfl|c
  ·exact g
  ·exact x b c
def AM{W:World}{s:Nat}{e f i v:Value}(h:hp W s=some (.cells #[e,f,i] 320 (0,0)))(g:∃a n c,v=.slice a n c):
  ∃d,(Instr.storeAt gU (.pointer (some ⟨s,2,none⟩)) v).run Tryz.prog W=.ok () d/\hp d s=some (.cells #[e,f,v] 320 (0,0))/\cl (λb=>b=s) W d:=by
 obtain⟨a,n,c,rfl⟩:=g;refine⟨W.setCell ⟨s,2,none⟩ (.slice a n c),by simp[go_sem,h],by simp[go_sem,h],(cl.refl (λb=>b=s) W).setCell (.inl rfl) _ _⟩
def qV{l:List Od}{n:Int}{i:Nat}(h:l.findIdx? (λx=>decide (x.num=n))=some i):pQ l n=l.take i++l.drop (i+1):=by
 unfold pQ;rw[List.eraseP_eq_eraseIdx,h];exact List.eraseIdx_eq_take_drop_succ l i
def Df(l:List Od)(n:Int):(pQ l n).length<=l.length:=List.length_eraseP_le
def C9{l:List Od}{n:Int}{o:Od}(h:o∈pQ l n):o∈l:=List.mem_of_mem_eraseP h
def GC{w:World}{K:cm}{s:Nat}{F:Nat->Prop}{buy:Bool}{l:List Od}{n:Int}(h:eJ w s F buy l)
  (G:∀F' t,eJ t s F' buy (pQ l n)->cl F w t->(∀b,F' b->F b\/w.heap.size<=b)->K (.tuple #[ig ((jR l n).getD fI),.int .i64 (if(jR l n).isSome then 0 else 7)]) t):Ca Tryz.prog 259 #[cT s,.int .u64 n] w K:=by
 apply Nf;obtain⟨w1,e1,N,Z⟩:=iJ w;refine ck e1 ?_;obtain⟨p,u⟩:∃p,p=w.heap.size:=⟨_,rfl⟩
 rw[<-u]at N|-;have h1:=h.mod Z λ_ _ h=>h;have k:∀{W W' :World},cl (λ_=>False) W W' ->cl F W W' :=λm=>m.mono λ_ _ h=>h.elim;have X:∀{b},F b->b<p:=λa=>by rw[u];exact h.lt a
 refine vg h1 (λQ d y g=>?_) λi hi Q c y g=>?_
 ·have H:=g.hpk N id
  have Y:pQ l n=l:=by
   unfold pQ;rw[List.eraseP_eq_eraseIdx,d]
  rw[Q,Y]at G;refine ck (by simp[-Int.natCast_add,go_sem]<;>first|exact⟨rfl,rfl⟩|exact rfl) ?_;refine ck (by simp[-Int.natCast_add,go_sem]<;>first|exact⟨rfl,rfl⟩|exact rfl) ?_;refine ck (v:=.bool true) (by simp[go_sem]<;>first|exact⟨rfl,rfl⟩|exact rfl) ?_;rw[ci,if_pos rfl];refine ck (v:=ig fI) (w' :=y) (by simp[go_sem,ig,da,fI]) ?_;obtain⟨w3,e3,z,E⟩:=gm (o' :=fI) H;refine dI e3 ?_;refine cx (gM (o:=fI) (At.all z)) ?_;have M2:=Z.trans g;exact G F _ ((h.mod M2 λ_ _ h=>h).mod E λb a e=>by have:=X a;omega) ((k M2).on E λb a=>.inr (by omega)) λb a=>.inl a
 ·have H:=g.hpk N id;have h2:=h1.mod g λ_ _ h=>h;obtain⟨⟨sl,U,J,V,c4⟩,c5,c6⟩:=id h2;obtain⟨b,cap,hsl,d,M⟩:=J.load hi;rw[Q,qV c]at G;refine ck (by simp[-Int.natCast_add,go_sem]<;>first|exact⟨rfl,rfl⟩|exact rfl) ?_;refine ck (by simp[-Int.natCast_add,go_sem]<;>first|exact⟨rfl,rfl⟩|exact rfl) ?_;refine ck (v:=.bool false) (by simp[go_sem]<;>first|exact⟨rfl,rfl⟩|exact rfl) ?_;rw[ci,if_neg Bool.false_ne_true];simp only[cT,cw];refine ck (by simp[-Int.natCast_add,go_sem,U]<;>first|exact⟨rfl,rfl⟩|exact rfl) ?_;refine ck (by simp[-Int.natCast_add,go_sem,U]<;>first|exact⟨rfl,rfl⟩|exact rfl) ?_;refine ck (d _) ?_;refine ck M ?_;obtain⟨w3,e3,z,E⟩:=iJ y;refine ck e3 ?_;obtain⟨q,T⟩:∃q,q=y.heap.size:=⟨_,rfl⟩
  rw[<-T]at z|-;obtain⟨w4,e4,b4,m4⟩:=gm (o' :=l[i]) z;refine dI e4 ?_;have D:cl (λ_=>False) y w4:=E.on m4 λb a=>.inr (by omega);have f:=D.hpk U id;have R:=D.hpk H id;have S:=J.mod D λ_ _ h=>h;refine ck (by simp[-Int.natCast_add,go_sem,f]<;>first|exact⟨rfl,rfl⟩|exact rfl) ?_;refine ck (by simp[-Int.natCast_add,go_sem,f]<;>first|exact⟨rfl,rfl⟩|exact rfl) ?_;refine ck (v:=.int .i64 ((i+1:Nat):Int)) (w' :=w4) (by simp[go_sem];rw[cV (by omega) (by omega)]) ?_;refine rN S (Nat.lt_succ_self i) hi (by omega) λr w5 o5 A C=>?_;obtain⟨sa,sc,O,-⟩:=o5.isSl;have P:¬co sl s:=c4;have x:¬co sl p:=λa=>by have:=X ((V p).2 (.inr a));omega
  have hqn:¬co sl q:=λa=>by have:=J.lt a;omega
  have j:=A.hpk f P;have p5:=A.hpk R x;have q5:=A.hpk b4 hqn;refine ck (by simp[-Int.natCast_add,go_sem,j]<;>first|exact⟨rfl,rfl⟩|exact rfl) ?_;obtain⟨w6,e6,b6,B⟩:=AM (v:=r) j ⟨_,_,_,O⟩;refine dI e6 ?_;have hsp:s<p:=X h.self;have hpq:p<q:=by have:=cn H;omega
  have q6:=B.hpk q5 (by omega);have p6:=B.hpk p5 (by omega);refine ck (gM (o:=l[i]) (At.all q6)) ?_;obtain⟨I,e7,b7,L⟩:=gm (o' :=l[i]) p6;refine dI e7 ?_;refine cx (gM (o:=l[i]) (At.all b7)) ?_;have s7:=L.hpk b6 (by omega);have o6:kR w6 r (l.take i++l.drop (i+1)):=o5.mod B λb a e=>c4 (by rw[<-e];exact C b a);have o7:kR I r (l.take i++l.drop (i+1)):=o6.mod L λb a e=>x (by rw[<-e];exact C b a)
  have MF:cl F w I:=by
   have a1:=k ((Z.trans g).trans D);have a2:cl F w w5:=a1.on A λb a=>.inl ((V b).2 (.inr a));have a3:cl F w w6:=a2.on B λb a=>.inl (by rw[a];exact h.self);exact a3.on L λb a=>.inr (by omega)
  refine G (λb=>b=s\/co r b) I ⟨⟨r,s7,o7,λb=>Iff.rfl,λa=>c4 (C s a)⟩,?_,?_⟩ MF λb a=>?_
  ·rw[<-qV c];exact Nat.le_trans (Df l n) c5
  ·intro o ho;rw[<-qV c]at ho;exact c6 o (C9 ho)
  ·rcases a with rfl|a
   ·exact .inl h.self
   ·exact .inl ((V b).2 (.inr (C b a)))
def qf:∀(l:List Od) (i:Nat) (hi:i<l.length) (x:Int),(l.flatMap da).set (i*5+4) (.int .i64 x)=(l.set i {l[i]with left:=x}).flatMap da
 |o::l,0,_,x=>rfl
 |o::l,i+1,hi,x=>by
  have e:(i+1)*5+4=(da o).length+(i*5+4):=by rw[dB];omega
  rw[List.flatMap_cons,e,List.set_append_right _ _ (by omega),Nat.add_sub_cancel_left,qf l i (by simpa using hi) x];simp
def kR.setLeft{w:World}{sl:Value}{l:List Od}(h:kR w sl l){i:Nat}(hi:i<l.length)(x:Int):
  ∃b a e,sl=.slice (some ⟨b,0,none⟩) l.length a/\(∀k:IntKind,(Instr.indexAt gU sl (.int k (i:Int))).run Tryz.prog w=.ok (.pointer (some ⟨b,i*5,none⟩)) w)/\
   (Instr.fieldAt ir (.pointer (some ⟨b,i*5,none⟩)) 4).run Tryz.prog w=.ok (.pointer (some ⟨b,i*5+4,none⟩)) w/\(Instr.loadAt 2 (.pointer (some ⟨b,i*5+4,none⟩))).run Tryz.prog w=.ok (.int .i64 l[i].left) w/\
   (Instr.storeAt 2 (.pointer (some ⟨b,i*5+4,none⟩)) (.int .i64 x)).run Tryz.prog w=.ok () e/\kR e sl (l.set i {l[i]with left:=x})/\cl (co sl) w e:=by
 obtain⟨b,a,rest,rfl,o,f,g,j⟩:=h.pos (by omega);have n:=h.1
 have c:(l.flatMap da++rest)[i*5+4]? =some (.int .i64 l[i].left):=by
  rw[List.getElem?_append_left (by rw[n];omega)];have h1:=jd da 5 l i (λx _=>dB x) hi;have m:(((l.flatMap da).drop (i*5)).take 5)[4]? =(da l[i])[4]? :=by rw[h1]
  rw[List.getElem?_take,if_pos (by omega),List.getElem?_drop]at m;rw[m];rfl
 have d:((l.flatMap da++rest).toArray.setIfInBounds (i*5+4) (.int .i64 x))=((l.set i {l[i]with left:=x}).flatMap da++rest).toArray:=by
  rw[List.setIfInBounds_toArray,List.set_append_left _ _ (by rw[n];omega),qf l i hi x]
 refine⟨b,a,w.setCell ⟨b,i*5+4,none⟩ (.int .i64 x),rfl,λk=>by simp[go_sem,hi,cC,eW],by simp[go_sem,cC],by simp[go_sem,cO f,c],by simp[go_sem,cO f,c],⟨by rw[AH dB,List.length_set],.inr ⟨b,a,rest,by rw[List.length_set],by rw[List.length_set];exact o,?_,by rw[List.length_set];exact g,j⟩⟩,(cl.refl _ w).setCell (.inl (show co (.slice (some ⟨b,0,none⟩) l.length a) b from rfl)) _ _⟩;rw[mH,if_pos rfl,f,eO,d]
def Fq{w:World}{K:cm}{s:Nat}{F:Nat->Prop}{buy:Bool}{o:Od}{r:List Od}{n:Int}(h:eJ w s F buy (o::r))(h1:1<=n)(h2:n<=o.left)
  (hK:∀F' y,eJ y s F' buy (fQ (o::r) n)->cl F w y->(∀b,F' b->F b\/w.heap.size<=b)->K (.tuple #[ig {o with left:=o.left - n},.int .i64 0]) y):Ca Tryz.prog 273 #[cT s,.int .i64 n] w K:=by
 have G:=h.may o (by simp)
 have hm:1<=o.left/\o.left<=1000000:=by
  have:=G.1;unfold Od.may at this;simp only[Bool.and_eq_true]at this;exact of_decide_eq_true this.2
 apply Ml;obtain⟨C,e1,b1,m1⟩:=iJ w;refine ck e1 ?_;obtain⟨p,M⟩:∃p,p=w.heap.size:=⟨_,rfl⟩
 rw[<-M]at b1|-;have q1:=h.mod m1 λ_ _ h=>h;have I:∀{W W' :World},cl (λ_=>False) W W' ->cl F W W' :=λm=>m.mono λ_ _ h=>h.elim;have pF:∀{b},F b->b<p:=λa=>by rw[M];exact h.lt a
 have hsp:s<p:=pF h.self;obtain⟨⟨sl,u,T,P,R⟩,c5,c6⟩:=id q1;obtain⟨sa,sc,Y,-⟩:=T.isSl;have B:¬co sl p:=λa=>by have:=pF ((P p).2 (.inr a));omega
 obtain⟨b,cap,w2,hsl',d,f,t,E,o2,S⟩:=T.setLeft (i:=0) (by simp) (o.left - n);simp only[List.getElem_cons_zero,Nat.zero_mul,Nat.zero_add,List.set_cons_zero]at d f t E o2;refine jv q1 ?_;refine ck (v:=.bool false) (by simp[go_sem]<;>first|exact⟨rfl,rfl⟩|exact rfl) ?_;rw[ci,if_neg Bool.false_ne_true];simp only[cT,cw];refine ck (by simp[-Int.natCast_add,go_sem,u]<;>first|exact⟨rfl,rfl⟩|exact rfl) ?_;refine ck (by simp[-Int.natCast_add,go_sem,u]<;>first|exact⟨rfl,rfl⟩|exact rfl) ?_;refine fi (v:=.int .i64 ((o::r).length:Int)) (w' :=C) (by rw[Y];simp[go_sem]) ?_;have hne:¬(((o::r).length:Nat):Int)=0:=by simp;omega
 refine ck (v:=.bool false) (w' :=C) (by simp only[go_sem];simp;omega) ?_;rw[ci,if_neg Bool.false_ne_true];refine cB.at (λst W=>st=(.bool false,())/\W=C) ?_ ?_
 ·have h1' :¬n<1:=by omega
  refine ck (v:=.bool false) (by simp[go_sem,h1']<;>first|exact⟨rfl,rfl⟩|exact rfl) ?_;rw[ci,if_neg Bool.false_ne_true];refine ck (by simp[-Int.natCast_add,go_sem,u]<;>first|exact⟨rfl,rfl⟩|exact rfl) ?_;refine ck (by simp[-Int.natCast_add,go_sem,u]<;>first|exact⟨rfl,rfl⟩|exact rfl) ?_;refine ck (d .i64) (ck f (ck t ?_));have h2' :¬o.left<n:=by omega
  refine ck (v:=.bool false) (w' :=C) (by simp[go_sem,h2']) ?_;exact⟨rfl,rfl⟩
 rintro _ C ⟨rfl,rfl⟩;unfold DG;intro _;rw[ci,if_neg Bool.false_ne_true];simp only[cw];refine ck (by simp[-Int.natCast_add,go_sem,u]<;>first|exact⟨rfl,rfl⟩|exact rfl) ?_;refine ck (by simp[-Int.natCast_add,go_sem,u]<;>first|exact⟨rfl,rfl⟩|exact rfl) ?_;refine ck (d .i64) (ck f (ck t ?_));refine ck (v:=.int .i64 (o.left - n)) (w' :=C) (by simp[go_sem];rw[cV (by omega) (by omega)]) ?_;refine ck (d .i64) (ck f ?_);refine dI E ?_;have A:=S.hpk u R;have p2:=S.hpk b1 B;refine ck (by simp[-Int.natCast_add,go_sem,A]<;>first|exact⟨rfl,rfl⟩|exact rfl) ?_;refine ck (by simp[-Int.natCast_add,go_sem,A]<;>first|exact⟨rfl,rfl⟩|exact rfl) ?_;obtain⟨b',cap',hsl2,J,D⟩:=o2.load (i:=0) (by simp);refine ck (J .i64) (ck D ?_);simp only[List.getElem_cons_zero];obtain⟨w3,e3,b3,m3⟩:=iJ w2;refine ck e3 ?_;obtain⟨q,Z⟩:∃q,q=w2.heap.size:=⟨_,rfl⟩
 rw[<-Z]at b3|-;obtain⟨w4,e4,b4,m4⟩:=gm (o' :={o with left:=o.left - n}) b3;refine dI e4 ?_;have Q:cl (λ_=>False) w2 w4:=m3.on m4 λb a=>.inr (by omega);have k:=Q.hpk A id;have p4:=Q.hpk p2 id;have o4:=o2.mod Q λ_ _ h=>h;have hpq:p<q:=by have:=cn p2;omega
 have hqn:¬co sl q:=λa=>by have:=T.lt a;have:=S.size;omega
 have L:cl F w w4:=((I m1).on S λb a=>.inl ((P b).2 (.inr a))).trans (I Q)
 have V:∀(g:List Od) (c:Value) (W:World),hp W s=some (.cells #[.bool true,.bool buy,c] 320 (0,0))->kR W c g->(∀b,co c b->co sl b)->hp W q=some (.cells (da {o with left:=o.left - n}).toArray ir (0,0))->hp W p=some (.cells (da fI).toArray ir (0,0))->
   cl F w W->g=fQ (o::r) n->AX (.pointer (some ⟨q,0,none⟩)) (.pointer (some ⟨p,0,none⟩)) K () W:=by
  intro g c W k1 k2 k3 k4 k5 k6 k7;unfold AX;intro _;refine ck (gM (o:={o with left:=o.left - n}) (At.all k4)) ?_;obtain⟨w7,e7,b7,U⟩:=gm (o' :={o with left:=o.left - n}) k5;refine dI e7 ?_;refine cx (gM (o:={o with left:=o.left - n}) (At.all b7)) ?_;have s7:=U.hpk k1 (by omega);have o7:kR w7 c g:=k2.mod U λb a e=>B (by rw[<-e];exact k3 b a);subst k7;refine hK (λb=>b=s\/co c b) w7 ⟨⟨c,s7,o7,λb=>Iff.rfl,λa=>R (k3 s a)⟩,?_,?_⟩ (k6.on U λb a=>.inr (by omega)) λb a=>?_
  ·unfold fQ;simp only;have:=c5;simp only[List.length_cons]at this;split
   ·omega
   ·simp only[List.length_cons];omega
  ·intro x l;unfold fQ at l;simp only at l;by_cases z:o.left - n=0
   ·rw[if_pos z]at l;exact c6 x (List.mem_cons_of_mem _ l)
   ·rw[if_neg z]at l;rcases List.mem_cons.1 l with rfl|l
    ·obtain⟨a1,a2,a3⟩:=G;refine⟨?_,a2,a3.1,a3.2.1,a3.2.2.1,by unfold eQ;simp only;omega⟩;unfold Od.may at a1|-;simp only[Bool.and_eq_true]at a1|-;exact⟨a1.1,by unfold cy;rw[decide_eq_true_eq];omega⟩
    ·exact c6 x (List.mem_cons_of_mem _ l)
  ·rcases a with rfl|a
   ·exact .inl h.self
   ·exact .inl ((P b).2 (.inr (k3 b a)))
 refine cB.at (λst W=>∃c g,hp W s=some (.cells #[.bool true,.bool buy,c] 320 (0,0))/\kR W c g/\(∀b,co c b->co sl b)/\hp W q=some (.cells (da {o with left:=o.left - n}).toArray ir (0,0))/\hp W p=some (.cells (da fI).toArray ir (0,0))/\cl F w W/\g=fQ (o::r) n) ?_ ?_
 ·have q4:=b4;unfold da at q4;refine ck (by simp[-Int.natCast_add,go_sem,q4]<;>first|exact⟨rfl,rfl⟩|exact rfl) ?_;refine ck (by simp[-Int.natCast_add,go_sem,q4]<;>first|exact⟨rfl,rfl⟩|exact rfl) ?_;by_cases z:o.left - n=0
  ·refine ck (v:=.bool true) (by simp[go_sem,z]<;>first|exact⟨rfl,rfl⟩|exact rfl) ?_;rw[ci,if_pos rfl];refine ck (by simp[-Int.natCast_add,go_sem,k]<;>first|exact⟨rfl,rfl⟩|exact rfl) ?_;refine ck (by simp[-Int.natCast_add,go_sem,k]<;>first|exact⟨rfl,rfl⟩|exact rfl) ?_;refine rN (i:=0) (j:=1) o4 (by omega) (by simp) (by simp only[List.length_cons]at c5|-;omega) λc w5 o5 N n5=>?_;obtain⟨xa,xc,X,-⟩:=o5.isSl;have H:=N.hpk k R;refine ck (by simp[-Int.natCast_add,go_sem,H]<;>first|exact⟨rfl,rfl⟩|exact rfl) ?_;obtain⟨w6,e6,b6,O⟩:=AM (v:=c) H ⟨_,_,_,X⟩;refine dI e6 ?_;refine⟨c,_,b6,o5.mod O λb a e=>R (by rw[<-e];exact n5 b a),n5,O.hpk (N.hpk b4 hqn) (by omega),O.hpk (N.hpk p4 B) (by omega),(L.on N λb a=>.inl ((P b).2 (.inr a))).on O λb a=>.inl (by rw[a];exact h.self),?_⟩;unfold fQ;simp[z]
  ·refine ck (v:=.bool false) (by simp[go_sem,z]<;>first|exact⟨rfl,rfl⟩|exact rfl) ?_;rw[ci,if_neg Bool.false_ne_true];refine⟨sl,_,k,o4,λb a=>a,b4,p4,L,?_⟩;unfold fQ;simp[z]
 ·rintro⟨⟩ W ⟨c,g,k1,k2,k3,k4,k5,k6,k7⟩;exact V g c W k1 k2 k3 k4 k5 k6 k7
end Go.Proofs
