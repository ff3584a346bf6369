/- Part of a proof. -/
import Derived.Test.YtgebhcgmckjbbaaGreatB22
set_option linter.all false
namespace Go.Proofs
open Go Go.Vc
attribute [local congr] cr
def dF.dep(S:dF)(x:Cm):Int×Rp×dF:=((S.led.deposit x.acct x.amt).1,AS,{S with led:=(S.led.deposit x.acct x.amt).2})
def dF.depA(S:dF)(x:Cm):Rp×dF:=if x.may=false then(oU 160,S)else if(S.dep x).1≠0 then(oU (S.dep x).1,S)else((S.dep x).2.1,(S.dep x).2.2)
set_option maxRecDepth 10000 in
set_option maxHeartbeats 8000000 in
def zP{w:World}{K:cm}{v:Nat}{F:Nat->Prop}{S:dF}{x:Cm}(h:kQ w v F S)(hx:x.Fit)(k1:x.kind=1)(hK:E5 w v F (S.dep x) K):Ca Tryz.prog 44 #[eh v,Aj x] w K:=by
 have hQ:=h;obtain⟨c,l,mb,md,A,D,k,X,t⟩:=h;apply Qh;obtain⟨U,e1,G,m1⟩:=BB x w;refine ck e1 ?_;obtain⟨p,M⟩:∃p,p=w.heap.size:=⟨_,rfl⟩
 rw[<-M]at G|-;obtain⟨i,e3,z,Q⟩:=BR U;refine ck e3 ?_;obtain⟨q,H⟩:∃q,q=U.heap.size:=⟨_,rfl⟩
 rw[<-H]at z|-;have hpq:p<q:=by have:=cn G;omega
 have J:=m1.trans Q;have P:df i p x:=Q.hpk G id;have h3:=X.md0 J;have Q3:=hQ.md0 J;have s:∀y,F y->y<p:=λy d=>by obtain⟨pt,hp⟩:=(t y).1 d;have:=X.lt hp;omega
 have g:∀pt y,k pt y->F y:=λpt y d=>(t y).2 ⟨_,d⟩;have B:∀y,fy k y↔F y:=λy=>(t y).symm;have hq3:q<i.heap.size:=cn z;have N:∀{pt y},k pt y->y≠q/\y≠p:=λd=>by have:=s _ (g _ _ d);omega
 obtain⟨f1,f2,f3,f4,f5,f6,f7,f8,f9⟩:=id hx
 have n:∀(e:Int) (T:dF) (L:Nat->Prop) (W:World),S.dep x=(e,AS,T)->kQ W v L T->hp W q=some (.cells (Dm AS cF cF cF).toArray wE (0,0))->cl F w W->(∀y,L y->(F y\/w.heap.size<=y)/\y≠q)->
   ru Tryz.prog (Instr.storeAt wE (.pointer (some ⟨q,0,none⟩)) (C2 AS cF cF cF)) W λo=>sY Tryz.prog (Instr.loadAt wE (.pointer (some ⟨q,0,none⟩))) o λu=>K (.tuple #[u,.int .i64 e]) o:=by
  intro e T L W he a b m Z;obtain⟨W1,g1,x1,O⟩:=Fh (r:=AS) b rfl ⟨mq,mq,mq⟩;refine dI g1 (cx (Aw x1) ?_);exact hK.nil he (a.mod O λy d e=>(Z y d).2 e) (m.on O λy d=>.inr (by omega)) λy d=>(Z y d).1
 refine ck (CW _) (ck (C4 P) ?_);have kq:∀{W R:World} {pt:Pt},cl (k pt) W R->hp W q=some (.cells (Dm AS cF cF cF).toArray wE (0,0))->hp R q=some (.cells (Dm AS cF cF cF).toArray wE (0,0)):=λm hh=>m.hpk hh λhc=>(N hc).1 rfl;have f:cl (λ_=>False) i i.drew:=(cl.refl _ i).drew;have I:=h3.md0 f;have V:df i.drew p x:=f.hpk P id;have bd:=f.hpk z id;have Md:=J.trans f;have C:∀{W T},gZ W v c l mb md A D k T->kQ W v F T:=λa=>⟨c,l,mb,md,A,D,k,a,t⟩
 have j:∀y,F y->(F y\/w.heap.size<=y)/\y≠q:=λy d=>⟨.inl d,by have:=s y d;omega⟩
 have MF:∀{W:World} {pt:Pt},cl (k pt) i.drew W->cl F w W:=λm=>(Md.mono λ_ _ h=>h.elim).trans (m.mono λy _ d=>g _ y d);refine ck (v:=.bool true) (w' :=i) (by simp[go_sem,k1]) ?_;rw[ci,if_pos rfl];simp only[eh,cw];refine cx (Aw bd) ?_;refine cq (jX 1 (by omega)) (cx (uC _ I.blk) ?_);refine cq pi (cx (yC V) ?_);refine cq Ij (cx (Ly V) ?_);refine Bf I.led f2 λw4 q4 E=>?_;have Y:=kq E bd;refine⟨Aw Y,?_⟩;exact n _ {S with led:=(S.led.deposit x.acct x.amt).2} F w4 rfl (C (I.setLed E q4)) Y (MF E) j
set_option maxRecDepth 10000 in
set_option maxHeartbeats 2000000 in
def zN{w:World}{K:cm}{v:Nat}{F:Nat->Prop}{S:dF}{x:Cm}(h:kQ w v F S)(hok:S.Ok)(hx:x.Fit)(hk1:x.kind=1)
  (hK:∀H I L F' o,kQ o v F' (S.depA x).2->Dl o H I L (S.depA x).1->cl F w o->(∀y,F' y->F y\/w.heap.size<=y)->(∀y,co H y\/co I y\/co L y->w.heap.size<=y/\¬F' y)->K (C2 (S.depA x).1 H I L) o):
  Ca Tryz.prog 12 #[eh v,Aj x] w K:=by
 have hQ:=h;obtain⟨c,l,mb,md,A,D,fp,hr,hF⟩:=h;apply RT;obtain⟨w1,e1,b1,m1⟩:=BB x w;refine ck e1 ?_;obtain⟨p,hp0⟩:∃p,p=w.heap.size:=⟨_,rfl⟩
 rw[<-hp0]at b1|-;obtain⟨w3,e3,b3,m3⟩:=BR w1;refine ck e3 ?_;obtain⟨q,hq0⟩:∃q,q=w1.heap.size:=⟨_,rfl⟩
 rw[<-hq0]at b3|-;have hpq:p<q:=by have:=cn b1;omega
 have M3:=m1.trans m3;have c3:df w3 p x:=m3.hpk b1 id;have h3:=hr.md0 M3;have U:∀y,F y->y<p:=λy a=>by obtain⟨pt,hp⟩:=(hF y).1 a;have:=hr.lt hp;omega
 have hq3:q<w3.heap.size:=cn b3
 have s:∀(e:Int) (W:World),S.depA x=(oU e,S)->cl (λ_=>False) w W->hp W q=some (.cells (Dm AS cF cF cF).toArray wE (0,0))->
   Ca Tryz.prog 41 #[.int .i64 e] W λv8 w9=>ru Tryz.prog (Instr.storeAt wE (.pointer (some ⟨q,0,none⟩)) v8) w9 λj=>sY Tryz.prog (Instr.loadAt wE (.pointer (some ⟨q,0,none⟩))) j λv11=>K v11 j:=by
  intro e W he m b;refine Cw λW1 C=>?_;obtain⟨W2,g2,x2,y2⟩:=Fh (r:=oU e) (sT:=cF) (sG:=cF) (sA:=cF) (C.hpk b id) rfl ⟨mq,mq,mq⟩;refine dI g2 (cx (Aw x2) ?_);have N:=hK cF cF cF F W2;rw[he]at N;refine N ((hQ.md0 (m.trans C)).mod y2 λy a e=>by have:=U y a;omega) (Dl.nil _ e) (((m.trans C).mono λ_ _ h=>h.elim).on y2 λy a=>.inr (by have:=m1.size;omega)) (λy a=>.inl a) λy a=>?_;rcases a with a|a|a<;>cases a
 refine rj h3.blk ?_;refine ck (v:=.bool false) (w' :=w3) (by simp[go_sem]) ?_;rw[ci,if_neg Bool.false_ne_true];refine fM (yh c3) ?_;refine Iq hx λJ m4=>?_;have M4:=M3.trans m4;have c4:df J p x:=m4.hpk c3 id;have b4:=m4.hpk b3 id;refine ck (v:=.bool (!x.may)) (w' :=J) (by simp[go_sem]) ?_;cases n:x.may with
 |false=>
  rw[show(!false)=true from rfl,ci,if_pos rfl];exact s 160 J (by unfold dF.depA;rw[if_pos n]) M4 b4
 |true=>
  rw[show(!true)=false from rfl,ci,if_neg Bool.false_ne_true];refine yk (hr.md0 M4) hok λu Fu w5 Q5 M n5=>?_;have M5:=M4.trans M;have c5:df w5 p x:=M.hpk c4 id;have b5:=M.hpk b4 id;have v5:=M.hpk (m4.hpk h3.blk id) id;have hs5:=M4.size;have hq4:q<J.heap.size:=cn b4;have hs45:=M.size;refine fM (yh c5) ?_;refine zP Q5 hx hk1 λH I L F6 w6 a1 a2 a3 a4 T=>?_;obtain⟨Y,hY⟩:∃Y,Y=S.dep x:=⟨_,rfl⟩
  rw[<-hY]at a1 a2|-;refine ck (by simp[-Int.natCast_add,go_sem]<;>first|exact⟨rfl,rfl⟩|exact rfl) ?_;refine ck (by simp[-Int.natCast_add,go_sem]<;>first|exact⟨rfl,rfl⟩|exact rfl) ?_
  have B:∀y,F6 y->J.heap.size<=y:=λy a=>by
   rcases a4 y a with d|d
   ·exact n5 y d
   ·omega
  have P:∀{y},y<J.heap.size->¬Fu y:=λh1 h2=>by have:=n5 _ h2;omega
  have b6:=a3.hpk b5 (P hq4);have hvw:v<w.heap.size:=by have:=U v hQ.self;omega
  have v6:=a3.hpk v5 (P (by omega));have M6:cl (λ_=>False) w w6:=M5.on a3 λy a=>.inr (by have:=n5 y a;omega);obtain⟨w7,e7,b7,m7⟩:=BR w6;refine ck e7 ?_;obtain⟨z,hz⟩:∃z,z=w6.heap.size:=⟨_,rfl⟩
  rw[<-hz]at b7|-;obtain⟨t1,t2,t3⟩:=a2.isSl;obtain⟨w8,e8,b8,m8⟩:=Fh (r:=Y.2.1) b7 rfl ⟨t1,t2,t3⟩;refine dI e8 ?_;have V:cl (λ_=>False) w6 w8:=m7.on m8 λy a=>.inr (by omega);have Z:=M6.trans V;have Q8:=a1.md0 V;have R8:=a2.mod V λ_ _ h=>h;have R:=V.hpk b6 id;have v8:=V.hpk v6 id;have i:S.depA x=if Y.1≠0 then(oU Y.1,S)else(Y.2.1,Y.2.2):=by unfold dF.depA;rw[if_neg (by rw[n];simp),hY]
  by_cases g:Y.1≠0
  ·rw[if_pos g]at i;refine ck (v:=.bool true) (w' :=w8) (by simp[go_sem,g]) ?_;rw[ci,if_pos rfl];exact s Y.1 w8 i Z R
  rw[if_neg g]at i;have hY0:Y.1=0:=by simpa using g
  refine ck (v:=.bool false) (w' :=w8) (by simp[go_sem,hY0]) ?_;rw[ci,if_neg Bool.false_ne_true];obtain⟨c6,l6,mb6,md6,A6,D6,t,O,k⟩:=Q8;simp only[eh,cw];refine ck (NI O.blk) ?_;obtain⟨w9,e9,b9,X⟩:=Mn (c' :=c6) (l' :=l6) (mb' :=mb6) (md' :=md6) (n' :=Y.2.2.next) v8;refine dI e9 ?_;have hv6:∀pt,¬t pt v:=λpt hc=>by have:=B v ((k v).2 ⟨pt,hc⟩);omega
  have h9:=O.move (λpt _=>hv6 pt) b9 X;have R9:=R8.mod X λy a e=>by have:=(T y a).1;omega
  have b9z:=X.hpk b8 (by have:=M6.size;omega);have b9q:=X.hpk R (by omega);refine ck (Aw b9z) ?_;obtain⟨j,e10,b10,E⟩:=Fh (r:=Y.2.1) b9q rfl ⟨t1,t2,t3⟩;refine dI e10 (cx (Aw b10) ?_)
  have f:∀y,fy (oM t .v λy=>y=v) y->y=v\/F6 y:=λy ⟨pt,a⟩=>by
   by_cases Q:pt=.v
   ·subst Q;rw[eE]at a;exact .inl a
   ·rw[cZ Q]at a;exact .inr ((k y).2 ⟨pt,a⟩)
  have N:=hK H I L (fy (oM t .v λy=>y=v)) j;rw[i]at N;refine N (h9.mod E λpt y a e=>?_).q (R9.mod E λy a e=>?_) (((Z.mono (G:=F) λ_ _ h=>h.elim).trans (X.mono λy _ a=>by rw[a];exact hQ.self)).on E λy a=>.inr (by omega)) (λy a=>?_) λy a=>⟨?_,λhc=>?_⟩
  ·rcases f y ⟨pt,a⟩with d|d
   ·omega
   ·have:=B y d;omega
  ·have:=(T y a).1;omega
  ·rcases f y a with d|d
   ·exact .inl (d▸hQ.self)
   ·exact .inr (by have:=B y d;omega)
  ·have:=(T y a).1;omega
  ·rcases f y hc with d|d
   ·have:=(T y a).1;omega
   ·exact(T y a).2 d
end Go.Proofs
set_option maxRecDepth 100000
namespace Go.Proofs
open Go Go.Vc
def QI{a:World}{b:cm}(E:Ca Tryz.prog 10 #[] a λc d=>Ca Tryz.prog 21 #[c] d λe f=>kS e f λg h i=>Ca Tryz.prog 20 #[g] i λj k=>kS j k λl m n=>gb .eql 26 true h (gI 0) n λo p=>cz o (gx (nK 54 9 g) p λq r=>gb .eql 9 true q (.string ⟨#[0,1,0,0,0,0,0,0]⟩) r λs t=>cz s (gb .eql 26 true m (gI 0) t λu v=>cz u (gb .neq 23 true l (.pointer none) v λw x=>cz w (gx (sF 41 #[(0,(.int .u8 1)),(1,(.int .u32 1)),(4,(gI 5))]) x λy z=>Ca Tryz.prog 12 #[l,y] z λA B=>gr (Instr.field 32 A 0) B λC D=>gb .eql 26 true C (gI 0) D b) (b (.bool false) x)) (b (.bool false) v)) (b (.bool false) t)) (b (.bool false) p)):Ca Tryz.prog 17 #[] a b:=cj Tryz.func17 E
end Go.Proofs
namespace Go.Proofs
open Go Go.Vc
attribute [local congr] cr
def vA:eG 0=[0]:=by unfold eG;rfl
def Pz:eG 1=[1]:=by unfold eG;rfl
def NU:dG 0=[0]:=by unfold dG;exact vA
section
variable{w:World}{K:cm}{s sl fv:Value}{l:List UInt8}
def Ab(h:eg w s l)(f:Rd w 4 sl 0 [])(k:l.length<=1000)(g:∀e d,eg d e (l++[0])->cl (co s) w d->(∀b,co e b->co s b\/w.heap.size<=b)->K e d):Ca Tryz.prog 155 #[s,sl,fv] w K:=by
 apply Km;obtain⟨a,c,rfl⟩:=f.isSl;refine fi (v:=.int .i64 0) (w' :=w) (by simp[go_sem]) (ck (v:=.int .u64 0) (w' :=w) (by simp[go_sem];decide) ?_);refine gy (n:=0) h (by omega) (by omega) λe d o m n=>?_;rw[vA]at o;refine fi (v:=.int .i64 0) (w' :=d) (by simp[go_sem]) ?_;refine dp (λst W=>st=(e,.int .i64 0,())/\d=W) (λ_ _=>0) ⟨rfl,rfl⟩ ?_;rintro _ _ ⟨rfl,rfl⟩ j i;unfold Bc;intro _;refine ck (v:=.bool false) (w' :=d) (by simp[go_sem]) ?_;rw[ci,if_neg Bool.false_ne_true];exact g _ _ o m n
def AY(h:eg w s l)(f:Rd w 27 sl 0 [])(k:l.length<=1000)(g:∀e d,eg d e (l++[0])->cl (co s) w d->(∀b,co e b->co s b\/w.heap.size<=b)->K e d):Ca Tryz.prog 158 #[s,sl,fv] w K:=by
 apply J3;obtain⟨a,c,rfl⟩:=f.isSl;refine fi (v:=.int .i64 0) (w' :=w) (by simp[go_sem]) (ck (v:=.int .u64 0) (w' :=w) (by simp[go_sem];decide) ?_);refine gy (n:=0) h (by omega) (by omega) λe d o m n=>?_;rw[vA]at o;refine fi (v:=.int .i64 0) (w' :=d) (by simp[go_sem]) ?_;refine dp (λst W=>st=(e,.int .i64 0,())/\d=W) (λ_ _=>0) ⟨rfl,rfl⟩ ?_;rintro _ _ ⟨rfl,rfl⟩ j i;unfold A8;intro _;refine ck (v:=.bool false) (w' :=d) (by simp[go_sem]) ?_;rw[ci,if_neg Bool.false_ne_true];exact g _ _ o m n
def zZ(h:eg w s l)(f:Rd w 4 sl 0 [])(k:l.length<=1000)(g:∀e d,eg d e (l++[0])->cl (co s) w d->(∀b,co e b->co s b\/w.heap.size<=b)->K e d):Ca Tryz.prog 161 #[s,sl,fv] w K:=by
 apply KD;obtain⟨a,c,rfl⟩:=f.isSl;refine fi (v:=.int .i64 0) (w' :=w) (by simp[go_sem]) (ck (v:=.int .u64 0) (w' :=w) (by simp[go_sem];decide) ?_);refine gy (n:=0) h (by omega) (by omega) λe d o m n=>?_;rw[vA]at o;refine fi (v:=.int .i64 0) (w' :=d) (by simp[go_sem]) ?_;refine dp (λst W=>st=(e,.int .i64 0,())/\d=W) (λ_ _=>0) ⟨rfl,rfl⟩ ?_;rintro _ _ ⟨rfl,rfl⟩ j i;unfold AN;intro _;refine ck (v:=.bool false) (w' :=d) (by simp[go_sem]) ?_;rw[ci,if_neg Bool.false_ne_true];exact g _ _ o m n
def tk(h:eg w s l)(f:Rd w 6 sl 0 [])(k:l.length<=1000)(g:∀e d,eg d e (l++[0])->cl (co s) w d->(∀b,co e b->co s b\/w.heap.size<=b)->K e d):Ca Tryz.prog 163 #[s,sl,fv] w K:=by
 apply Jj;obtain⟨a,c,rfl⟩:=f.isSl;refine fi (v:=.int .i64 0) (w' :=w) (by simp[go_sem]) (ck (v:=.int .u64 0) (w' :=w) (by simp[go_sem];decide) ?_);refine gy (n:=0) h (by omega) (by omega) λe d o m n=>?_;rw[vA]at o;refine fi (v:=.int .i64 0) (w' :=d) (by simp[go_sem]) ?_;refine dp (λst W=>st=(e,.int .i64 0,())/\d=W) (λ_ _=>0) ⟨rfl,rfl⟩ ?_;rintro _ _ ⟨rfl,rfl⟩ j i;unfold zQ;intro _;refine ck (v:=.bool false) (w' :=d) (by simp[go_sem]) ?_;rw[ci,if_neg Bool.false_ne_true];exact g _ _ o m n
end
def b8:List UInt8:=[0,1,0,0,0,0,0,0]
set_option maxRecDepth 10000 in
def DD{w:World}{K:cm}{ss:Nat->Value}(h:eS w ss zC)(hK:∀P Q,eg Q P b8->cl (λ_=>False) w Q->(∀b,co P b->w.heap.size<=b)->K P Q):Ca Tryz.prog 82 #[oJ 0 1 0 ss] w K:=by
 have d:=h.sl;apply Ox;obtain⟨g,e1,E,m1⟩:=js 0 1 0 ss w;obtain⟨sb,L⟩:∃p,p=w.heap.size:=⟨_,rfl⟩
 rw[<-L]at e1 E;refine ck e1 ?_;have md:=(cl.refl (λ_=>False) g).drew;have o:cR g.drew sb 0 1 0 ss:=md.hpk E id;have M2:=m1.trans md;generalize g.drew=w2 at md o M2|-;refine cq (λW=>dv sb 0 (by omega) W) (cx (fe o).1 ?_);refine cx (v:=.int .u64 0) (by simp[go_sem];decide) ?_;refine cq (λW=>dv sb 1 (by omega) W) (cx (fe o).2.1 ?_);refine cq (λW=>dv sb 2 (by omega) W) (cx (fe o).2.2 ?_);refine gy (n:=0) (s:=cF) (l:=[]) (dW.nil _ _ _) (by omega) (by decide) λs3 w3 Z I n3=>?_;rw[vA]at Z;have k3:∀{W k:World} {s:Value} {z:Nat},cR W sb 0 1 0 ss->cl (co s) W k->(∀b,co s b->g.heap.size<=b)->cR k sb 0 1 0 ss:=λe m S=>m.hpk e λB=>by have:=S sb B;have:=cn E;omega
 have hsz2:g.heap.size<=w2.heap.size:=md.size;have hw1:w.heap.size<=g.heap.size:=m1.size;have r:cR w3 sb 0 1 0 ss:=I.hpk o λB=>by cases B
 have C:∀b,co s3 b->g.heap.size<=b:=λb e=>by rcases n3 b e with c|c;cases c;omega
 refine⟨(fe r).2.2,(fe r).2.1,?_⟩;refine gy (n:=1) Z (by omega) (by decide) λs4 w4 o4 A n4=>?_;rw[Pz]at o4;have z3:=I.size;have b4:cR w4 sb 0 1 0 ss:=k3 (z:=0) r A C;have O:∀b,co s4 b->g.heap.size<=b:=λb e=>by rcases n4 b e with c|c;exact C b c;omega
 refine⟨(fe b4).2.2,?_⟩;refine ko (x:=0) o4 ⟨by decide,by decide⟩ (by decide) λs5 w5 V u n5=>?_;rw[NU]at V;have z4:=A.size;have b5:cR w5 sb 0 1 0 ss:=k3 (z:=0) b4 u O;have N:∀b,co s5 b->g.heap.size<=b:=λb e=>by rcases n5 b e with c|c;exact O b c;omega
 have f:∀{F:Nat->Prop} {W:World},cl (λ_=>False) w W->∀{k:World},cl F W k->(∀b,F b->g.heap.size<=b)->cl (λ_=>False) w k:=λa _ b S=>a.on b λy G=>.inr (by have:=S y G;omega);have M5:=f (f (M2.on I λy G=>by cases G) A C) u O;have z5:=u.size;refine ck (dv sb 3 (by omega) _) (ck (eP b5 d).1 ?_);refine Ab V ((h.md0 M5).accts) (by decide) λs6 w6 o6 D n6=>?_;have b6:cR w6 sb 0 1 0 ss:=k3 (z:=0) b5 D N;have M:∀b,co s6 b->g.heap.size<=b:=λb e=>by rcases n6 b e with c|c;exact N b c;omega
 have Y:=f M5 D N;have z6:=D.size;refine ck (dv sb 4 (by omega) _) (ck (eP b6 d).2.1 ?_);refine AY o6 ((h.md0 Y).cts) (by decide) λs7 w7 o7 t n7=>?_;have b7:cR w7 sb 0 1 0 ss:=k3 (z:=0) b6 t M;have J:∀b,co s7 b->g.heap.size<=b:=λb e=>by rcases n7 b e with c|c;exact M b c;omega
 have X:=f Y t M;have z7:=t.size;refine ck (dv sb 5 (by omega) _) (ck (eP b7 d).2.2 ?_);refine zZ o7 ((h.md0 X).poss) (by decide) λs8 j o8 U n8=>?_;have b8:cR j sb 0 1 0 ss:=k3 (z:=0) b7 U J;have T:∀b,co s8 b->g.heap.size<=b:=λb e=>by rcases n8 b e with c|c;exact J b c;omega
 have M8:=f X U J;have z8:=U.size;have i:=(cl.refl (λ_=>False) j).drew;have q:cR j.drew sb 0 1 0 ss:=i.hpk b8 id;have o9:eg j.drew s8 _:=o8.mod i λ_ _ h=>h;have H:=M8.trans i;have z9:=i.size;generalize j.drew=w9 at i q o9 H z9|-;refine cq (λW=>dv sb 6 (by omega) W) (cx (i0 q d).1 ?_);refine cq (λW=>dv sb 7 (by omega) W) (cx (i0 q d).2 ?_);refine tk o9 ((h.md0 H).ords) (by decide) λsa wa oa R na=>?_;have ba:cR wa sb 0 1 0 ss:=k3 (z:=0) q R T;have Na:∀b,co sa b->g.heap.size<=b:=λb e=>by rcases na b e with c|c;exact T b c;omega
 have Ma:=f H R T;have za:=R.size;refine⟨(i0 ba d).2,?_⟩;refine tk oa ((h.md0 Ma).bids) (by decide) λsc wc oc mc nc=>?_;refine hK sc wc oc (f Ma mc Na) λb e=>?_;rcases nc b e with c|c
 ·have:=Na b c;omega
 ·omega
def Es{w:World}{K:cm}{v:Nat}{F:Nat->Prop}(h:kQ w v F dF.empty)(q:∀a d,eg d a b8->cl (λ_=>False) w d->K (.tuple #[a,.int .i64 0]) d):Ca Tryz.prog 21 #[eh v] w K:=by
 obtain⟨c,l,mb,md,A,D,y,f,G⟩:=h;apply Qu;refine yk f ul λx C j E g H=>?_;refine ck (v:=.bool false) (w' :=j) (by simp[go_sem,eh]) ?_;rw[ci,if_neg Bool.false_ne_true];refine uZ (f.md0 g) ul λss b I u p t k z=>?_;have e:eS u ss zC:=λi h1 m=>(p.own i h1 m).rd;refine DD e λa o r n B=>?_;exact q a o r ((g.trans k).trans n)
def I7{w:World}{K:cm}{v:Value}{l:List UInt8}(h:Rd w 1 v l.length (bv l))(R:l.length<=1000000000)
  (H:∀x s S F a,lu l=some (s,S)->kQ a x F S->(∀y,F y->w.heap.size<=y)->cl (λ_=>False) w a->K (.tuple #[eh x,.int .i64 0]) a)
  (A:∀a,lu l=none->cl (λ_=>False) w a->K (.tuple #[.pointer none,.int .i64 5]) a):Ca Tryz.prog 20 #[v] w K:=by
 apply Rn;refine xX h R (λs S ss b c m z=>?_) λb c z=>?_
 ·have g:=m.sl
  have i:fZ s=some S/\s=(jq l).1:=by
   unfold lu at c;by_cases L:en l (jq l).2=0
   ·rw[if_pos L]at c;cases E:fZ (jq l).1 with
    |none=>rw[E]at c;cases c
    |some T=>rw[E]at c;cases c;exact⟨E,rfl⟩
   ·rw[if_neg L]at c;cases c
  have t:s.Fit:=by rw[i.2];exact we l
  have q:=wg l;rw[<-i.2]at q;refine ck (v:=Io s ss) (w' :=b) (by simp[go_sem]) (ck (v:=.int .i64 0) (w' :=b) (by simp[go_sem]) ?_);obtain⟨W,r,u,C⟩:=kV b;obtain⟨p,j⟩:∃p,p=b.heap.size:=⟨_,rfl⟩
  rw[<-j]at r u;obtain⟨k,J,N,D⟩:=uH (d:=s.day) (n:=s.next) (f:=s.fund) (ss:=ss) u rfl g;refine ck r (dI J ?_);have o:cl (λ_=>False) b k:=C.on D λy G=>.inr (by omega);refine ck (v:=.bool false) (w' :=k) (by simp[go_sem]) ?_;rw[ci,if_neg Bool.false_ne_true];have I:cR k p s.day s.next s.fund ss:=N;refine ck (jU I g) ?_;refine qK (s:=s) (m.md0 o) t ⟨by omega,by omega,by omega,by omega,by omega⟩ λx e B V O=>?_;rw[i.1]at O;obtain⟨rfl,M,F,rfl,Q,P⟩:=O;refine ck (v:=eh M) (w' :=B) (by simp[go_sem]) (ck (v:=.int .i64 0) (w' :=B) (by simp[go_sem]) ?_);have X:=z.size;have U:=o.size;exact H M s S F B c Q (λy G=>by have:=P y G;omega) ((z.trans o).trans V)
 ·refine ck (v:=oJ 0 0 0 (jY cF)) (w' :=b) (by simp[go_sem]) (ck (v:=.int .i64 5) (w' :=b) (by simp[go_sem]) ?_);obtain⟨W,r,u,C⟩:=kV b;obtain⟨p,j⟩:∃p,p=b.heap.size:=⟨_,rfl⟩
  rw[<-j]at r u;obtain⟨k,J,N,D⟩:=uH (d:=0) (n:=0) (f:=0) (ss:=jY cF) u rfl xd;refine ck r (dI J ?_);have o:cl (λ_=>False) b k:=C.on D λy G=>.inr (by omega);refine ck (v:=.bool true) (w' :=k) (by simp[go_sem]) ?_;rw[ci,if_pos rfl];exact A _ c (z.trans o)
def BK:lu b8=some (zC,dF.empty):=by
 have h1:jq b8=(zC,⟨8,0⟩):=by kernel_rfl
 unfold lu;rw[h1];have a:en b8 ⟨8,0⟩=0:=by kernel_rfl
 rw[if_pos a,Ay];rfl
def Gf:Cm:={jk with kind:=1,acct:=1,amt:=5}
def FB:Gf.Fit:=⟨⟨by decide,by decide⟩,⟨by decide,by decide⟩,⟨by decide,by decide⟩,⟨by decide,by decide⟩,⟨by decide,by decide⟩,Br,⟨by decide,by decide⟩,⟨by decide,by decide⟩,⟨by decide,by decide⟩⟩
def LW:(dF.empty.depA Gf).1.err=0:=by rfl
def PN:Tryz.prog.built mP [(0,.int .u8 1),(1,.int .u32 1),(4,.int .i64 5)]=some (lH Gf).toArray:=by kernel_rfl
def LZ{w:World}{K:cm}(a:K (Aj Gf) w):rx Tryz.prog (sF mP #[(0,.int .u8 1),(1,.int .u32 1),(4,.int .i64 5)]) w K:=oz PN a
def K9(r:Rp)(sT sG sA:Value)(W:World):(Instr.field 32 (C2 r sT sG sA) 0).run Tryz.prog W=.ok (.int .i64 r.err) W:=by
 simp[Instr.field,go_sem,part,isAgg,asAgg,C2]
def py{w:World}{K:cm}(n:∀a,cl (λ_=>False) w a->K (.bool true) a):Ca Tryz.prog 17 #[] w K:=by
 apply QI;refine IS λv F r m i I=>?_;refine Es m λs j g f=>?_;refine ck (v:=s) (w' :=j) (by simp[go_sem]) (ck (v:=.int .i64 0) (w' :=j) (by simp[go_sem]) ?_);refine I7 g.rd (by decide) (λx t S C b c o k e=>?_) λb c e=>?_
 rotate_left
 ·rw[BK]at c;cases c
 rw[BK]at c;cases c;refine ck (v:=eh x) (w' :=b) (by simp[go_sem]) (ck (v:=.int .i64 0) (w' :=b) (by simp[go_sem]) ?_);refine ck (v:=.bool true) (w' :=b) (by simp[go_sem]) ?_;rw[ci,if_pos rfl];refine EL (l:=b8) rT (by kernel_rfl) (by kernel_rfl) (g.rd.mod e λ_ _ h=>h) ?_;refine ck (v:=.bool true) (w' :=b) (by simp[go_sem,b8,jT]) ?_;rw[ci,if_pos rfl];refine ck (v:=.bool true) (w' :=b) (by simp[go_sem]) ?_;rw[ci,if_pos rfl];refine ck (v:=.bool true) (w' :=b) (by simp[go_sem,eh]) ?_;rw[ci,if_pos rfl];refine LZ ?_;refine zN o ul FB rfl λD G E A d H B q z u=>?_;refine ck (v:=.int .i64 (dF.empty.depA Gf).1.err) (w' :=d) (K9 _ _ _ _ _) ?_;rw[LW];refine ck (v:=.bool true) (w' :=d) (by simp[go_sem]) ?_;refine n d (((i.trans f).trans e).on q λy p=>.inr ?_);have:=k y p;have:=i.size;have:=f.size;omega
def fd{α:Type}{g:α->List UInt8}{m:Nat}:∀{L:List α},(∀x∈L,(g x).length<=m)->(L.flatMap g).length<=m*L.length
 | [],_=>Nat.zero_le _
 |x::L,h=>by
  have h1:=h x List.mem_cons_self;have b:=fd (L:=L) λy a=>h y (List.mem_cons_of_mem _ a);rw[List.flatMap_cons,List.length_append,List.length_cons,Nat.mul_add];omega
def ii{n:Nat}(h:n<18446744073709551616):(eG n).length<=10:=tR 9 n (by omega)
def JY{W:World}{s:Value}{L:List Ac}(h:Rd W 4 s L.length (L.flatMap cJ)){i:Nat}(hi:i<L.length):
  ∃b a,(Instr.indexAt 44 s (.int .i64 (i:Int))).run Tryz.prog W=.ok (.pointer (some ⟨b,a,none⟩)) W/\(Instr.loadAt 92 (.pointer (some ⟨b,a,none⟩))).run Tryz.prog W=.ok (gR L[i]) W:=by
 obtain⟨b,a,e,c,d,f⟩:=h.item (show∀x,(cJ x).length=4 from λ_=>rfl) hi rfl;have u:Tryz.prog.underlying 44=some (.slice 92):=by kernel_rfl
 refine⟨b,a+i*4,by rw[c];simp[go_sem,hi,cC,u],?_⟩;exact fw (P:=Tryz.prog) (t:=92) (by kernel_rfl) (show Tryz.prog.cellsOf 92=3+1 by kernel_rfl) rfl f
set_option maxRecDepth 10000 in
set_option maxHeartbeats 1000000 in
def CU{w:World}{K:cm}{s v fv:Value}{l:List UInt8}{L:List (Ac)}{g:Ac->List UInt8}(h:eg w s l)(N:Rd w 4 v L.length (L.flatMap cJ))(f:∀y,eM v y->¬co s y)(hl:l.length<=100000000)(hn:L.length<=3200)(U:∀x∈L,(g x).length<=300)
  (c:∀W a r x (H:cm),x∈L->eg W a r->r.length<=900000000->(∀e D,eg D e (r++g x)->cl (co a) W D->(∀b,co e b->co a b\/W.heap.size<=b)->H e D)->dX Tryz.prog fv [a,gR x] W H)
  (hK:∀a o,eg o a (l++gG g L)->cl (co s) w o->(∀b,co a b->co s b\/w.heap.size<=b)->K a o):Ca Tryz.prog 155 #[s,v,fv] w K:=by
 apply Km;obtain⟨va,vc,hv⟩:=N.isSl;have M:∀W,(builtin .len #[44] 3 #[false] #[v]).run Tryz.prog W=.ok (.value (.int .i64 (L.length:Int))) W:=λW=>by rw[hv];simp[go_sem]
 refine fi (M _) (ck (v:=.int .u64 (L.length:Int)) (w' :=w) (by simp[go_sem];rw[fG (by omega) (by omega)]) ?_);have J:(eG L.length).length<=10:=ii (by omega);refine gy (n:=L.length) h (by omega) (by omega) λs1 w1 V m1 Y=>?_;refine fi (M _) ?_
 have A:∀k,((L.take k).flatMap g).length<=960000:=λk=>by
  have h1:=fd (m:=300) (g:=g) (L:=L.take k) λx i=>U x (List.mem_of_mem_take i);have h2:(L.take k).length<=L.length:=by rw[List.length_take];omega
  omega
 refine dp (λst W=>∃(k:Nat) (a:Value),k<=L.length/\st=(a,.int .i64 k,())/\eg W a (l++eG L.length++(L.take k).flatMap g)/\cl (co s) w W/\∀b,co a b->co s b\/w.heap.size<=b)
  (λst _=>match st.2.1 with| .int _ k=>L.length - k.toNat|_=>0) ⟨0,s1,by omega,rfl,by rw[List.take_zero,List.flatMap_nil,List.append_nil];exact V,m1,Y⟩ ?_
 rintro _ W ⟨k,a,hk,rfl,t,q,u⟩ KN z;unfold Bc;intro _;by_cases d:k<L.length
 ·have p:(k:Int)<(L.length:Int):=by omega
  refine ck (v:=.bool true) (by simp[go_sem,p]<;>first|exact⟨rfl,rfl⟩|exact rfl) ?_;rw[ci,if_pos rfl];have B:=N.mod q f;have j:=List.getElem_mem d;have E:=cQ d;obtain⟨eb,eo,S,Z⟩:=JY B d;refine ck S (ck Z ?_);obtain⟨x,i⟩:∃x,x=L[k]:=⟨_,rfl⟩
  rw[<-i];obtain⟨W2,G,R,f3,P,F⟩:=yn x W;refine ck R (dI f3 (ck (Kg P) ?_));refine c G a _ x _ (i▸j) (t.mod F λ_ _ h=>h) (by simp only[List.length_append];have:=A k;omega) λs2 X o4 T n4=>?_;refine ck (v:=.int .i64 ((k+1:Nat):Int)) (w' :=X) (by simp[go_sem];rw[cV (by omega) (by omega)]) ?_;have hz:=q.size;have Q:=F.size;have C:cl (co s) w G:=q.trans (F.mono λ_ _ h=>h.elim);refine z _ _ ⟨k+1,s2,by omega,rfl,?_,C.on T u,λb O=>?_⟩ (by show L.length - (((k+1:Nat):Int)).toNat<L.length - ((k:Int)).toNat;omega)
  ·rw[E,<-i,List.flatMap_append,List.flatMap_cons,List.flatMap_nil,List.append_nil,<-List.append_assoc];exact o4
  ·rcases n4 b O with I|I
   ·exact u b I
   ·exact .inr (by omega)
 ·obtain rfl:k=L.length:=by omega
  refine ck (v:=.bool false) (by simp[go_sem]<;>first|exact⟨rfl,rfl⟩|exact rfl) ?_;rw[ci,if_neg Bool.false_ne_true];rw[List.take_length,List.append_assoc]at t;exact hK _ _ t q u
def NB(k:Ct):Value:=.agg (dN k).toArray
set_option maxRecDepth 10000 in
set_option maxHeartbeats 1000000 in
def CX{w:World}{K:cm}{s v fv:Value}{l:List UInt8}{L:List (Ct)}{g:Ct->List UInt8}(h:eg w s l)(U:Rd w 27 v L.length (L.flatMap dN))(i:∀y,eM v y->¬co s y)(hl:l.length<=100000000)(hn:L.length<=3200)(hg:∀x∈L,(g x).length<=300)
  (d:∀W a u x (Q:cm),x∈L->eg W a u->u.length<=900000000->(∀e G,eg G e (u++g x)->cl (co a) W G->(∀b,co e b->co a b\/W.heap.size<=b)->Q e G)->dX Tryz.prog fv [a,NB x] W Q)
  (hK:∀a f,eg f a (l++gG g L)->cl (co s) w f->(∀b,co a b->co s b\/w.heap.size<=b)->K a f):Ca Tryz.prog 158 #[s,v,fv] w K:=by
 apply J3;obtain⟨va,vc,hv⟩:=U.isSl;have T:∀W,(builtin .len #[45] 3 #[false] #[v]).run Tryz.prog W=.ok (.value (.int .i64 (L.length:Int))) W:=λW=>by rw[hv];simp[go_sem]
 refine fi (T _) (ck (v:=.int .u64 (L.length:Int)) (w' :=w) (by simp[go_sem];rw[fG (by omega) (by omega)]) ?_);have S:(eG L.length).length<=10:=ii (by omega);refine gy (n:=L.length) h (by omega) (by omega) λs1 w1 o1 m1 n1=>?_;refine fi (T _) ?_
 have D:∀k,((L.take k).flatMap g).length<=960000:=λk=>by
  have h1:=fd (m:=300) (g:=g) (L:=L.take k) λx j=>hg x (List.mem_of_mem_take j);have h2:(L.take k).length<=L.length:=by rw[List.length_take];omega
  omega
 refine dp (λst W=>∃(k:Nat) (a:Value),k<=L.length/\st=(a,.int .i64 k,())/\eg W a (l++eG L.length++(L.take k).flatMap g)/\cl (co s) w W/\∀b,co a b->co s b\/w.heap.size<=b)
  (λst _=>match st.2.1 with| .int _ k=>L.length - k.toNat|_=>0) ⟨0,s1,by omega,rfl,by rw[List.take_zero,List.flatMap_nil,List.append_nil];exact o1,m1,n1⟩ ?_
 rintro _ W ⟨k,a,hk,rfl,z,r,A⟩ KN B;unfold A8;intro _;by_cases c:k<L.length
 ·have q:(k:Int)<(L.length:Int):=by omega
  refine ck (v:=.bool true) (by simp[go_sem,q]<;>first|exact⟨rfl,rfl⟩|exact rfl) ?_;rw[ci,if_pos rfl];have E:=U.mod r i;have o:=List.getElem_mem c;have H:=cQ c;obtain⟨b,C,cap,I,N,P⟩:=E.item cX c rfl;obtain⟨x,j⟩:∃x,x=L[k]:=⟨_,rfl⟩
  rw[<-j]at P;refine ck (v:=.pointer (some ⟨b,C+k*27,none⟩)) (w' :=W) (by rw[I];simp[go_sem,c,cC,ua]) ?_;refine ey (dN x) 26 zV xz (cX x) P ?_;refine nE _ λw5 O Y=>?_;obtain⟨p,M⟩:∃p,p=W.heap.size:=⟨_,rfl⟩
  rw[<-M]at O|-;refine wW (k' :=x) O λt X m3=>?_;have J:cl (λ_=>False) W t:=Y.on m3 λy hy=>.inr (by omega);refine ey (dN x) 26 zV xz (cX x) (At.all X) ?_;refine d t a _ x _ (j▸o) (z.mod J λ_ _ h=>h) (by simp only[List.length_append];have:=D k;omega) λs2 W4 o4 m4 n4=>?_;refine ck (v:=.int .i64 ((k+1:Nat):Int)) (w' :=W4) (by simp[go_sem];rw[cV (by omega) (by omega)]) ?_;have hz:=r.size;have Z:=J.size;have F:cl (co s) w t:=r.trans (J.mono λ_ _ h=>h.elim);refine B _ _ ⟨k+1,s2,by omega,rfl,?_,F.on m4 A,λb V=>?_⟩ (by show L.length - (((k+1:Nat):Int)).toNat<L.length - ((k:Int)).toNat;omega)
  ·rw[H,<-j,List.flatMap_append,List.flatMap_cons,List.flatMap_nil,List.append_nil,<-List.append_assoc];exact o4
  ·rcases n4 b V with R|R
   ·exact A b R
   ·exact .inr (by omega)
 ·obtain rfl:k=L.length:=by omega
  refine ck (v:=.bool false) (by simp[go_sem]<;>first|exact⟨rfl,rfl⟩|exact rfl) ?_;rw[ci,if_neg Bool.false_ne_true];rw[List.take_length,List.append_assoc]at z;exact hK _ _ z r A
set_option maxRecDepth 10000 in
set_option maxHeartbeats 1000000 in
def CQ{w:World}{K:cm}{s v fv:Value}{l:List UInt8}{L:List (Po)}{g:Po->List UInt8}(h:eg w s l)(N:Rd w 4 v L.length (L.flatMap cK))(f:∀y,eM v y->¬co s y)(hl:l.length<=100000000)(hn:L.length<=3200)(U:∀x∈L,(g x).length<=300)
  (c:∀W a r x (H:cm),x∈L->eg W a r->r.length<=900000000->(∀e D,eg D e (r++g x)->cl (co a) W D->(∀b,co e b->co a b\/W.heap.size<=b)->H e D)->dX Tryz.prog fv [a,kU x] W H)
  (hK:∀a o,eg o a (l++gG g L)->cl (co s) w o->(∀b,co a b->co s b\/w.heap.size<=b)->K a o):Ca Tryz.prog 161 #[s,v,fv] w K:=by
 apply KD;obtain⟨va,vc,hv⟩:=N.isSl;have M:∀W,(builtin .len #[46] 3 #[false] #[v]).run Tryz.prog W=.ok (.value (.int .i64 (L.length:Int))) W:=λW=>by rw[hv];simp[go_sem]
 refine fi (M _) (ck (v:=.int .u64 (L.length:Int)) (w' :=w) (by simp[go_sem];rw[fG (by omega) (by omega)]) ?_);have J:(eG L.length).length<=10:=ii (by omega);refine gy (n:=L.length) h (by omega) (by omega) λs1 w1 V m1 Y=>?_;refine fi (M _) ?_
 have A:∀k,((L.take k).flatMap g).length<=960000:=λk=>by
  have h1:=fd (m:=300) (g:=g) (L:=L.take k) λx i=>U x (List.mem_of_mem_take i);have h2:(L.take k).length<=L.length:=by rw[List.length_take];omega
  omega
 refine dp (λst W=>∃(k:Nat) (a:Value),k<=L.length/\st=(a,.int .i64 k,())/\eg W a (l++eG L.length++(L.take k).flatMap g)/\cl (co s) w W/\∀b,co a b->co s b\/w.heap.size<=b)
  (λst _=>match st.2.1 with| .int _ k=>L.length - k.toNat|_=>0) ⟨0,s1,by omega,rfl,by rw[List.take_zero,List.flatMap_nil,List.append_nil];exact V,m1,Y⟩ ?_
 rintro _ W ⟨k,a,hk,rfl,t,q,u⟩ KN z;unfold AN;intro _;by_cases d:k<L.length
 ·have p:(k:Int)<(L.length:Int):=by omega
  refine ck (v:=.bool true) (by simp[go_sem,p]<;>first|exact⟨rfl,rfl⟩|exact rfl) ?_;rw[ci,if_pos rfl];have B:=N.mod q f;have j:=List.getElem_mem d;have E:=cQ d;obtain⟨eb,eo,S,Z⟩:=KV B d;refine ck S (ck Z ?_);obtain⟨x,i⟩:∃x,x=L[k]:=⟨_,rfl⟩
  rw[<-i];obtain⟨W2,G,R,f3,P,F⟩:=Bl x W;refine ck R (dI f3 (ck (KB P) ?_));refine c G a _ x _ (i▸j) (t.mod F λ_ _ h=>h) (by simp only[List.length_append];have:=A k;omega) λs2 X o4 T n4=>?_;refine ck (v:=.int .i64 ((k+1:Nat):Int)) (w' :=X) (by simp[go_sem];rw[cV (by omega) (by omega)]) ?_;have hz:=q.size;have Q:=F.size;have C:cl (co s) w G:=q.trans (F.mono λ_ _ h=>h.elim);refine z _ _ ⟨k+1,s2,by omega,rfl,?_,C.on T u,λb O=>?_⟩ (by show L.length - (((k+1:Nat):Int)).toNat<L.length - ((k:Int)).toNat;omega)
  ·rw[E,<-i,List.flatMap_append,List.flatMap_cons,List.flatMap_nil,List.append_nil,<-List.append_assoc];exact o4
  ·rcases n4 b O with I|I
   ·exact u b I
   ·exact .inr (by omega)
 ·obtain rfl:k=L.length:=by omega
  refine ck (v:=.bool false) (by simp[go_sem]<;>first|exact⟨rfl,rfl⟩|exact rfl) ?_;rw[ci,if_neg Bool.false_ne_true];rw[List.take_length,List.append_assoc]at t;exact hK _ _ t q u
set_option maxRecDepth 10000 in
set_option maxHeartbeats 1000000 in
def vj{w:World}{K:cm}{s v fv:Value}{l:List UInt8}{L:List (Int×Od)}{g:Int×Od->List UInt8}(h:eg w s l)(N:Rd w 6 v L.length (L.flatMap du))(f:∀y,eM v y->¬co s y)(hl:l.length<=100000000)(hn:L.length<=3200)(T:∀x∈L,(g x).length<=300)
  (c:∀W a r x (H:cm),x∈L->eg W a r->r.length<=900000000->(∀e D,eg D e (r++g x)->cl (co a) W D->(∀b,co e b->co a b\/W.heap.size<=b)->H e D)->dX Tryz.prog fv [a,sI x] W H)
  (hK:∀a o,eg o a (l++gG g L)->cl (co s) w o->(∀b,co a b->co s b\/w.heap.size<=b)->K a o):Ca Tryz.prog 163 #[s,v,fv] w K:=by
 apply Jj;obtain⟨va,vc,hv⟩:=N.isSl;have M:∀W,(builtin .len #[47] 3 #[false] #[v]).run Tryz.prog W=.ok (.value (.int .i64 (L.length:Int))) W:=λW=>by rw[hv];simp[go_sem]
 refine fi (M _) (ck (v:=.int .u64 (L.length:Int)) (w' :=w) (by simp[go_sem];rw[fG (by omega) (by omega)]) ?_);have J:(eG L.length).length<=10:=ii (by omega);refine gy (n:=L.length) h (by omega) (by omega) λs1 w1 V m1 Y=>?_;refine fi (M _) ?_
 have A:∀k,((L.take k).flatMap g).length<=960000:=λk=>by
  have h1:=fd (m:=300) (g:=g) (L:=L.take k) λx i=>T x (List.mem_of_mem_take i);have h2:(L.take k).length<=L.length:=by rw[List.length_take];omega
  omega
 refine dp (λst W=>∃(k:Nat) (a:Value),k<=L.length/\st=(a,.int .i64 k,())/\eg W a (l++eG L.length++(L.take k).flatMap g)/\cl (co s) w W/\∀b,co a b->co s b\/w.heap.size<=b)
  (λst _=>match st.2.1 with| .int _ k=>L.length - k.toNat|_=>0) ⟨0,s1,by omega,rfl,by rw[List.take_zero,List.flatMap_nil,List.append_nil];exact V,m1,Y⟩ ?_
 rintro _ W ⟨k,a,hk,rfl,t,q,u⟩ KN z;unfold zQ;intro _;by_cases d:k<L.length
 ·have p:(k:Int)<(L.length:Int):=by omega
  refine ck (v:=.bool true) (by simp[go_sem,p]<;>first|exact⟨rfl,rfl⟩|exact rfl) ?_;rw[ci,if_pos rfl];have B:=N.mod q f;have j:=List.getElem_mem d;have E:=cQ d;obtain⟨eb,eo,Z,U⟩:=nj B d;refine ck (Z W _) (ck (jy U) ?_);obtain⟨x,i⟩:∃x,x=L[k]:=⟨_,rfl⟩
  rw[<-i];obtain⟨W2,G,R,f3,P,F⟩:=Ak x W;refine ck R (dI f3 (ck (jy (At.all P)) ?_));refine c G a _ x _ (i▸j) (t.mod F λ_ _ h=>h) (by simp only[List.length_append];have:=A k;omega) λs2 X o4 S n4=>?_;refine ck (v:=.int .i64 ((k+1:Nat):Int)) (w' :=X) (by simp[go_sem];rw[cV (by omega) (by omega)]) ?_;have hz:=q.size;have Q:=F.size;have C:cl (co s) w G:=q.trans (F.mono λ_ _ h=>h.elim);refine z _ _ ⟨k+1,s2,by omega,rfl,?_,C.on S u,λb O=>?_⟩ (by show L.length - (((k+1:Nat):Int)).toNat<L.length - ((k:Int)).toNat;omega)
  ·rw[E,<-i,List.flatMap_append,List.flatMap_cons,List.flatMap_nil,List.append_nil,<-List.append_assoc];exact o4
  ·rcases n4 b O with I|I
   ·exact u b I
   ·exact .inr (by omega)
 ·obtain rfl:k=L.length:=by omega
  refine ck (v:=.bool false) (by simp[go_sem]<;>first|exact⟨rfl,rfl⟩|exact rfl) ?_;rw[ci,if_neg Bool.false_ne_true];rw[List.take_length,List.append_assoc]at t;exact hK _ _ t q u
structure eT(w:World)(s:Value)(w' :World)(s' :Value)(l:List UInt8):Prop where
 own:eg w' s' l
 md:cl (co s) w w'
 nw:∀b,co s' b->co s b\/w.heap.size<=b
section
variable{w w1 w2:World}{s s1 s2:Value}{l l1 l2:List UInt8}{K:cm}
def eT.zero(h:eg w s l)(m:cl (λ_=>False) w w1):eT w s w1 s l:=⟨h.mod m λ_ _ h=>h,m.mono λ_ _ h=>h.elim,λb a=>.inl a⟩
def eT.go(h:eT w s w1 s1 l1)(o:eg w2 s2 l2)(m:cl (co s1) w1 w2)(n:∀b,co s2 b->co s1 b\/w1.heap.size<=b):eT w s w2 s2 l2:=
 ⟨o,h.md.on m h.nw,λb c=>by
  rcases n b c with a|a
  ·exact h.nw b a
  ·have:=h.md.size;exact .inr (by omega)⟩
def eT.dr(h:eT w s w1 s1 l1)(m:cl (λ_=>False) w1 w2):eT w s w2 s1 l1:=⟨h.own.mod m λ_ _ h=>h,h.md.trans (m.mono λ_ _ h=>h.elim),h.nw⟩
def eT.np(h:eT w s w1 s1 l1){p:Nat}(h1:¬co s p)(c:p<w.heap.size):¬co s1 p:=λb=>by
 rcases h.nw p b with a|a
 ·exact h1 a
 ·omega
def eT.back{w0:World}(h:eT w s w1 s1 l1)(m:cl (λ_=>False) w0 w):cl (co s) w0 w1/\∀b,co s1 b->co s b\/w0.heap.size<=b:=
 ⟨(m.mono λ_ _ h=>h.elim).trans h.md,λb a=>(h.nw b a).imp id λc=>by have:=m.size;omega⟩
def io{x:Int}(h:eg w s l)(f:0<=x/\x<18446744073709551616)(d:l.length<=1000000000)
  (e:∀a c,eg c a (l++cE x)->cl (co s) w c->(∀b,co a b->co s b\/w.heap.size<=b)->K a c):Ca Tryz.prog 100 #[s,.int .u64 x] w K:=by
 obtain⟨n,rfl⟩:=Int.eq_ofNat_of_zero_le f.1;exact gy h (by omega) d e
def dw(x:Int)(h:x<18446744073709551616):(cE x).length<=10:=ii (by omega)
def fS{x:Int}(h:eQ x):(dG x).length<=10:=ii (tM h)
def KK(x:Ac)(w:World):∃w1,(Instr.box 92 (gR x)).run Tryz.prog w=.ok (.pointer (some ⟨w.heap.size,0,none⟩)) w1/\zr w1 w.heap.size x/\cl (λ_=>False) w w1:=
 ⟨w.alloc (.cells (cJ x).toArray 92),rfl,by show hp _ _=_;simp[go_sem],(cl.refl _ w).alloc _⟩
def uL(i:Nat)(hi:i<4)(p:Nat)(W:World):(Instr.fieldAt 92 (.pointer (some ⟨p,0,none⟩)) i).run Tryz.prog W=.ok (.pointer (some ⟨p,i,none⟩)) W:=by
 rcases(show i=0\/i=1\/i=2\/i=3 by omega)with rfl|rfl|rfl|rfl<;>simp[go_sem]
def GQ{W:World}{p:Nat}{a:Ac}(h:zr W p a):(Instr.loadAt 35 (.pointer (some ⟨p,0,none⟩))).run Tryz.prog W=.ok (.int .u32 a.num) W/\(Instr.loadAt 2 (.pointer (some ⟨p,1,none⟩))).run Tryz.prog W=.ok (.int .i64 a.cash) W:=by
 have b:hp W p=some (.cells (cJ a).toArray 92 (0,0)):=h;simp only[cJ]at b;exact⟨by simp[go_sem,b],by simp[go_sem,b]⟩
def iY{x:Int}(a:fq x)(W:World):(convert 35 27 (.int .u32 x)).run Tryz.prog W=.ok (.int .u64 x) W:=by
 obtain⟨h1,b⟩:=a;simp[go_sem];rw[fG (by omega) (by omega)]
set_option maxRecDepth 10000 in
def EY{x:Ac}(h:eg w s l)(c:fq x.num/\eQ x.cash)(X:l.length<=900000000)
  (P:∀i m,eg m i (l++qQ x)->cl (co s) w m->(∀b,co i b->co s b\/w.heap.size<=b)->K i m):Ca Tryz.prog 156 #[s,gR x] w K:=by
 apply PE;obtain⟨w1,C,r,S⟩:=KK x w;obtain⟨p,o⟩:∃p,p=w.heap.size:=⟨_,rfl⟩
 rw[<-o]at C r;have np:¬co s p:=λU=>by have:=h.lt U;omega
 refine ck C ?_;have g:=S.trans (cl.refl (λ_=>False) w1).drew;have a:zr w1.drew p x:=((cl.refl (λ_=>False) w1).drew).hpk r id;have j:eg w1.drew s l:=h.mod g λ_ _ h=>h;generalize w1.drew=w2 at g a j|-;have d:p<w2.heap.size:=cn a;have O:eT w2 s w2 s l:=eT.zero j (cl.refl _ _);have l1:=dw x.num (by have:=c.1.2;omega);have l2:=fS c.2;refine cq (λW=>uL 0 (by omega) p W) (cx (GQ a).1 (cx (iY c.1 _) ?_));refine cq (λW=>uL 1 (by omega) p W) (cx (GQ a).2 ?_);refine cq (λW=>uL 2 (by omega) p W) (cx (qU a).1 ?_);refine cq (λW=>uL 3 (by omega) p W) (cx (qU a).2 ?_);refine io j ⟨c.1.1,by have:=c.1.2;omega⟩ (by omega) λY J z t M=>?_;have q:=O.go z t M;have f:zr J p x:=t.hpk a np;refine⟨(qU f).2,(qU f).1,(GQ f).2,?_⟩;refine ko z c.2 (by simp only[List.length_append];omega) λV E B D N=>?_;have v:=q.go B D N;have n:zr E p x:=D.hpk f (q.np np d);refine⟨(qU n).2,(qU n).1,?_⟩;refine uf B (by simp only[List.length_append];omega) λZ T y A I=>?_;have Q:=v.go y A I;have H:zr T p x:=A.hpk n (v.np np d);refine⟨(qU H).2,?_⟩;refine uf y (by simp only[List.length_append,eK,List.length_singleton];omega) λF L k G R=>?_;have u:=Q.go k G R;have e:l++cE x.num++dG x.cash++eK x.kil++eK x.dfl=l++qQ x:=by unfold qQ;simp only[List.append_assoc]
 rw[e]at k;exact P F L k (u.back g).1 (u.back g).2
def Lf(x:Po)(w:World):∃w1,(Instr.box 112 (kU x)).run Tryz.prog w=.ok (.pointer (some ⟨w.heap.size,0,none⟩)) w1/\KS w1 w.heap.size x/\cl (λ_=>False) w w1:=
 ⟨w.alloc (.cells (cK x).toArray 112),rfl,by show hp _ _=_;simp[go_sem],(cl.refl _ w).alloc _⟩
def yO(i:Nat)(hi:i<4)(p:Nat)(W:World):(Instr.fieldAt 112 (.pointer (some ⟨p,0,none⟩)) i).run Tryz.prog W=.ok (.pointer (some ⟨p,i,none⟩)) W:=by
 rcases(show i=0\/i=1\/i=2\/i=3 by omega)with rfl|rfl|rfl|rfl<;>simp[go_sem]
def si{W:World}{p:Nat}{a:Po}(h:KS W p a):(Instr.loadAt 35 (.pointer (some ⟨p,1,none⟩))).run Tryz.prog W=.ok (.int .u32 a.a) W/\(Instr.loadAt 2 (.pointer (some ⟨p,2,none⟩))).run Tryz.prog W=.ok (.int .i64 a.q) W/\(Instr.loadAt 2 (.pointer (some ⟨p,3,none⟩))).run Tryz.prog W=.ok (.int .i64 a.b) W:=by
 have b:hp W p=some (.cells (cK a).toArray 112 (0,0)):=h;simp only[cK]at b;exact⟨by simp[go_sem,b],by simp[go_sem,b],by simp[go_sem,b]⟩
set_option maxRecDepth 10000 in
def DO{x:Po}(h:eg w s l)(X:(fq x.c/\fq x.a)/\eQ x.q/\eQ x.b)(hl:l.length<=900000000)
  (S:∀j n,eg n j (l++pM x)->cl (co s) w n->(∀b,co j b->co s b\/w.heap.size<=b)->K j n):Ca Tryz.prog 162 #[s,kU x] w K:=by
 obtain⟨⟨c,f⟩,z,P⟩:=X;apply Pp;obtain⟨w1,E,t,V⟩:=Lf x w;obtain⟨p,q⟩:∃p,p=w.heap.size:=⟨_,rfl⟩
 rw[<-q]at E t;have np:¬co s p:=λc=>by have:=h.lt c;omega
 refine ck E ?_;have i:=V.trans (cl.refl (λ_=>False) w1).drew;have a:KS w1.drew p x:=((cl.refl (λ_=>False) w1).drew).hpk t id;have k:eg w1.drew s l:=h.mod i λ_ _ h=>h;generalize w1.drew=w2 at i a k|-;have d:p<w2.heap.size:=cn a;have R:eT w2 s w2 s l:=eT.zero k (cl.refl _ _);have l1:=dw x.c (by have:=c.2;omega);have l2:=dw x.a (by have:=f.2;omega);have l3:=fS z;refine cq (λW=>yO 0 (by omega) p W) (cx (LD a) (cx (iY c _) ?_));refine cq (λW=>yO 1 (by omega) p W) (cx (si a).1 (cx (iY f _) ?_));refine cq (λW=>yO 2 (by omega) p W) (cx (si a).2.1 ?_);refine cq (λW=>yO 3 (by omega) p W) (cx (si a).2.2 ?_);refine io k ⟨c.1,by have:=c.2;omega⟩ (by omega) λs3 M B u O=>?_;have r:=R.go B u O;have g:KS M p x:=u.hpk a np;refine⟨(si g).2.2,(si g).2.1,iY f _,(si g).1,?_⟩;refine io B ⟨f.1,by have:=f.2;omega⟩ (by simp only[List.length_append];omega) λZ G D F Q=>?_;have y:=r.go D F Q;have o:KS G p x:=F.hpk g (r.np np d);refine⟨(si o).2.2,(si o).2.1,?_⟩;refine ko D z (by simp only[List.length_append];omega) λs5 Y A C L=>?_;have T:=y.go A C L;have J:KS Y p x:=C.hpk o (y.np np d);refine⟨(si J).2.2,?_⟩;refine ko A P (by simp only[List.length_append];omega) λH N m I U=>?_;have v:=T.go m I U;have e:l++cE x.c++cE x.a++dG x.q++dG x.b=l++pM x:=by unfold pM;simp only[List.append_assoc]
 rw[e]at m;exact S H N m (v.back i).1 (v.back i).2
def qH(i:Nat)(hi:i<5)(p:Nat)(W:World):(Instr.fieldAt ir (.pointer (some ⟨p,1,none⟩)) i).run Tryz.prog W=.ok (.pointer (some ⟨p,1+i,none⟩)) W:=by
 rcases(show i=0\/i=1\/i=2\/i=3\/i=4 by omega)with rfl|rfl|rfl|rfl|rfl<;>simp[go_sem,cC]
def lB{W:World}{p:Nat}{x:Int×Od}(h:qw W p x):(Instr.loadAt 27 (.pointer (some ⟨p,1+0,none⟩))).run Tryz.prog W=.ok (.int .u64 x.2.num) W/\(Instr.loadAt 35 (.pointer (some ⟨p,1+1,none⟩))).run Tryz.prog W=.ok (.int .u32 x.2.acct) W/\(Instr.loadAt 4 (.pointer (some ⟨p,1+2,none⟩))).run Tryz.prog W=.ok (.bool x.2.buy) W/\
  (Instr.loadAt 2 (.pointer (some ⟨p,1+3,none⟩))).run Tryz.prog W=.ok (.int .i64 x.2.price) W/\(Instr.loadAt 2 (.pointer (some ⟨p,1+4,none⟩))).run Tryz.prog W=.ok (.int .i64 x.2.left) W:=by
 have a:hp W p=some (.cells (du x).toArray nS (0,0)):=h;simp only[du,da]at a;exact⟨by simp[go_sem,a],by simp[go_sem,a],by simp[go_sem,a],by simp[go_sem,a],by simp[go_sem,a]⟩
set_option maxRecDepth 10000 in
def vQ{x:Int×Od}(h:eg w s l)(X:fq x.1/\x.2.Fit)(hl:l.length<=900000000)
  (hK:∀u v,eg v u (l++jl x)->cl (co s) w v->(∀b,co u b->co s b\/w.heap.size<=b)->K u v):Ca Tryz.prog 164 #[s,sI x] w K:=by
 obtain⟨c,z,d,i,o⟩:=X;apply NG;obtain⟨w1,D,F,m1⟩:=BH x w;obtain⟨p,y⟩:∃p,p=w.heap.size:=⟨_,rfl⟩
 rw[<-y]at D F;have np:¬co s p:=λc=>by have:=h.lt c;omega
 refine ck D ?_;have k:=m1.trans (cl.refl (λ_=>False) w1).drew;have f:qw w1.drew p x:=((cl.refl (λ_=>False) w1).drew).hpk F id;have r:eg w1.drew s l:=h.mod k λ_ _ h=>h;generalize w1.drew=w2 at k f r|-;have a:p<w2.heap.size:=cn f;have U:eT w2 s w2 s l:=eT.zero r (cl.refl _ _);have l1:=dw x.1 (by have:=c.2;omega);have l2:=dw x.2.num (by have:=z.2;omega);have l3:=dw x.2.acct (by have:=d.2;omega);have l4:=fS i;refine cq (λW=>(iR p W).1) (cx (ri f) (cx (iY c _) ?_));refine cq (λW=>(iR p W).2) (cq (λW=>qH 0 (by omega) p W) (cx (lB f).1 ?_));refine cq (λW=>(iR p W).2) (cq (λW=>qH 1 (by omega) p W) (cx (lB f).2.1 (cx (iY d _) ?_)));refine io r ⟨c.1,by have:=c.2;omega⟩ (by omega) λs3 w3 B I n3=>?_;have H:=U.go B I n3;have n:qw w3 p x:=I.hpk f np;refine⟨iY d _,(lB n).2.1,(lB n).1,?_⟩;refine io B ⟨z.1,by have:=z.2;omega⟩ (by simp only[List.length_append];omega) λs4 w4 Q E n4=>?_;have N:=H.go Q E n4;have P:qw w4 p x:=E.hpk n (H.np np a);refine⟨iY d _,(lB P).2.1,?_⟩;refine io Q ⟨d.1,by have:=d.2;omega⟩ (by simp only[List.length_append];omega) λs5 m T C Z=>?_;have r5:=N.go T C Z;have Y:qw m p x:=C.hpk P (N.np np a);have md:=(cl.refl (λ_=>False) m).drew;have j:=r5.dr md;have g:qw m.drew p x:=md.hpk Y id;have J:=j.own;generalize m.drew=w6 at md j g J|-;refine cq (λW=>(iR p W).2) (cq (λW=>qH 2 (by omega) p W) (cx (lB g).2.2.1 ?_));refine cq (λW=>(iR p W).2) (cq (λW=>qH 3 (by omega) p W) (cx (lB g).2.2.2.1 ?_));refine cq (λW=>(iR p W).2) (cq (λW=>qH 4 (by omega) p W) (cx (lB g).2.2.2.2 ?_));refine uf J (by simp only[List.length_append];omega) λs7 S L A V=>?_;have G:=j.go L A V;have t:qw S p x:=A.hpk g (j.np np a);refine⟨(lB t).2.2.2.2,(lB t).2.2.2.1,?_⟩;refine ko L i (by simp only[List.length_append,eK,List.length_singleton];omega) λs8 w8 O R n8=>?_;have r8:=G.go O R n8;have b8:qw w8 p x:=R.hpk t (G.np np a);refine⟨(lB b8).2.2.2.2,?_⟩;refine ko O o (by simp only[List.length_append,eK,List.length_singleton];omega) λs9 w9 q m9 n9=>?_;have M:=r8.go q m9 n9;have e:l++cE x.1++cE x.2.num++cE x.2.acct++eK x.2.buy++dG x.2.price++dG x.2.left=l++jl x:=by unfold jl;simp only[List.append_assoc]
 rw[e]at q;exact hK s9 w9 q (M.back k).1 (M.back k).2
end
def RA:eN Tryz.prog 2 1 8=true:=by kernel_rfl
def Ls:Tryz.prog.underlying 333=some (.slice 2):=by kernel_rfl
def Jh(x:Sp):(dl x)[0]? =some (.int .u32 x.num)/\(dl x)[1]? =some (.int .u8 x.route)/\(dl x)[2]? =some (.int .i64 x.tick)/\(dl x)[3]? =some (.int .i64 x.lot)/\(dl x)[4]? =some (.int .i64 x.band)/\(dl x)[5]? =some (.int .i64 x.limit)/\
  (dl x)[22]? =some (.int .i64 x.credit)/\(dl x)[23]? =some (.int .u32 x.last)/\(dl x)[24]? =some (.int .i64 x.first):=by
 have h:∀i:Nat,(dl x)[i]? =(dl x++[])[i]? :=λi=>by rw[List.append_nil]
 refine⟨rfl,rfl,rfl,rfl,rfl,rfl,?_,?_,?_⟩
 ·rw[h];exact GD x []
 ·rw[h];exact Pq x []
 ·rw[h];exact Hc x []
section
variable{w w' :World}{s:Value}{l:List UInt8}{K:cm}{p:Nat}{x:Sp}
def xl(h:jZ w p (dl x)):(Instr.loadAt 35 (.pointer (some ⟨p,0,none⟩))).run Tryz.prog w=.ok (.int .u32 x.num) w/\(Instr.loadAt 5 (.pointer (some ⟨p,1,none⟩))).run Tryz.prog w=.ok (.int .u8 x.route) w/\
  (Instr.loadAt 2 (.pointer (some ⟨p,2,none⟩))).run Tryz.prog w=.ok (.int .i64 x.tick) w/\(Instr.loadAt 2 (.pointer (some ⟨p,3,none⟩))).run Tryz.prog w=.ok (.int .i64 x.lot) w/\
  (Instr.loadAt 2 (.pointer (some ⟨p,4,none⟩))).run Tryz.prog w=.ok (.int .i64 x.band) w/\(Instr.loadAt 2 (.pointer (some ⟨p,5,none⟩))).run Tryz.prog w=.ok (.int .i64 x.limit) w:=by
 have a:hp w p=some (.cells (dl x).toArray fO (0,0)):=h;obtain⟨f,e,c,g,b,d,i,j,k⟩:=Jh x;exact⟨by simp[go_sem,a,f],by simp[go_sem,a,e],by simp[go_sem,a,c],by simp[go_sem,a,g],by simp[go_sem,a,b],by simp[go_sem,a,d]⟩
def wD(h:jZ w p (dl x)):(Instr.loadAt 2 (.pointer (some ⟨p,22,none⟩))).run Tryz.prog w=.ok (.int .i64 x.credit) w/\(Instr.loadAt 35 (.pointer (some ⟨p,23,none⟩))).run Tryz.prog w=.ok (.int .u32 x.last) w/\
  (Instr.loadAt 2 (.pointer (some ⟨p,24,none⟩))).run Tryz.prog w=.ok (.int .i64 x.first) w:=by
 have a:hp w p=some (.cells (dl x).toArray fO (0,0)):=h;obtain⟨j,i,f,k,e,g,b,c,d⟩:=Jh x;exact⟨by simp[go_sem,a,b],by simp[go_sem,a,c],by simp[go_sem,a,d]⟩
def nQ(p:Nat)(W:World):(∀i,i<7->(Instr.fieldAt fO (.pointer (some ⟨p,0,none⟩)) i).run Tryz.prog W=.ok (.pointer (some ⟨p,i,none⟩)) W)/\(Instr.fieldAt fO (.pointer (some ⟨p,0,none⟩)) 7).run Tryz.prog W=.ok (.pointer (some ⟨p,22,none⟩)) W/\
  (Instr.fieldAt fO (.pointer (some ⟨p,0,none⟩)) 8).run Tryz.prog W=.ok (.pointer (some ⟨p,23,none⟩)) W/\(Instr.fieldAt fO (.pointer (some ⟨p,0,none⟩)) 9).run Tryz.prog W=.ok (.pointer (some ⟨p,24,none⟩)) W:=by
 refine⟨λi a=>?_,by simp[go_sem],by simp[go_sem],by simp[go_sem]⟩;rcases(show i=0\/i=1\/i=2\/i=3\/i=4\/i=5\/i=6 by omega)with rfl|rfl|rfl|rfl|rfl|rfl|rfl<;>simp[go_sem]
def nM{x:Int}(a:0<=x)(h1:x<9223372036854775808)(W:World):(convert 2 27 (.int .i64 x)).run Tryz.prog W=.ok (.int .u64 x) W:=by
 simp[go_sem];rw[fG (by omega) (by omega)]
def fF(x:Sp):List Int:=[x.num,x.route,x.tick,x.lot,x.band,x.limit]
def tx(h:x.Fit)(b:x.may=true):(∀n∈fF x,0<=n/\n<9223372036854775808)/\(0<=x.credit/\x.credit<9223372036854775808)/\(0<=x.first/\x.first<9223372036854775808):=by
 obtain⟨c,d,o,j,f,g,v,e,y,a⟩:=h;unfold Sp.may mg cy at b;simp only[Bool.and_eq_true,decide_eq_true_eq]at b;obtain⟨⟨⟨⟨⟨⟨⟨⟨⟨⟨-,-⟩,-⟩,-⟩,-⟩,t⟩,m⟩,u⟩,q⟩,k⟩,r,-⟩:=b;refine⟨λn i=>?_,⟨by omega,e.2⟩,⟨by omega,a.2⟩⟩;have:n=x.num\/n=x.route\/n=x.tick\/n=x.lot\/n=x.band\/n=x.limit:=by simpa [fF]using i
 rcases this with rfl|rfl|rfl|rfl|rfl|rfl
 ·exact⟨c.1,by have:=c.2;omega⟩
 ·exact⟨d.1,by have:=d.2;omega⟩
 ·exact⟨by omega,o.2⟩
 ·exact⟨by omega,j.2⟩
 ·exact⟨by omega,f.2⟩
 ·exact⟨by omega,g.2⟩
set_option maxRecDepth 10000 in
set_option maxHeartbeats 2000000 in
def H9(h:eg w s l)(hx:x.Fit)(hl:l.length<=900000000)
  (hK:∀z w',eg w' z (l++vu x)->cl (co s) w w' ->(∀b,co z b->co s b\/w.heap.size<=b)->K z w'):Ca Tryz.prog 160 #[s,.agg (dl x).toArray] w K:=by
 apply Ng;obtain⟨p,Q⟩:∃p,p=w.heap.size:=⟨_,rfl⟩
 have m1:cl (λ_=>False) w (w.alloc (.cells (dl x).toArray fO)):=(cl.refl _ w).alloc _;have b1:jZ (w.alloc (.cells (dl x).toArray fO)) p (dl x):=by show hp _ _=_;rw[Q];simp[go_sem]
 refine ck (v:=.pointer (some ⟨p,0,none⟩)) (w' :=w.alloc (.cells (dl x).toArray fO)) (by rw[Q];rfl) ?_;generalize w.alloc (.cells (dl x).toArray fO)=w1 at m1 b1|-;refine ey (dl x) 24 uS sm (cL _) (At.all b1) ?_;refine nJ hx λf m2=>?_;refine ck (v:=.bool (!x.may)) (w' :=f) (by simp[go_sem]) ?_;have U:=m1.trans m2;cases hm:x.may with
 |false=>
  rw[show(!false)=true from rfl,ci,if_pos rfl];have e:vu x=[]:=by unfold vu;rw[if_neg (by rw[hm];simp)]
  rw[e]at hK;exact hK s f (by rw[List.append_nil];exact h.mod U λ_ _ h=>h) (U.mono λ_ _ h=>h.elim) λb hb=>.inl hb
 |true=>
 rw[show(!true)=false from rfl,ci,if_neg Bool.false_ne_true];obtain⟨E,r,a⟩:=tx hx hm;have b2:jZ f p (dl x):=m2.hpk b1 id;have R:eg f s l:=h.mod U λ_ _ h=>h;have t:¬co s p:=λhc=>by have:=h.lt hc;omega
 obtain⟨g0,g1,g2,g3,g4,g5⟩:=xl b2;have F:=(nQ p f).1;obtain⟨n0,n1,n2,n3,n4,n5⟩:(0<=x.num/\x.num<9223372036854775808)/\(0<=x.route/\x.route<9223372036854775808)/\True/\True/\True/\True:=⟨E _ (by simp[fF]),E _ (by simp[fF]),trivial,trivial,trivial,trivial⟩
 refine ck (F 0 (by omega)) (ck g0 (ck (v:=.int .i64 x.num) (w' :=f) (by simp[go_sem];rw[cV (by omega) (by omega)]) ?_));refine ck (F 1 (by omega)) (ck g1 (ck (v:=.int .i64 x.route) (w' :=f) (by simp[go_sem];rw[cV (by omega) (by omega)]) ?_));refine ck (F 2 (by omega)) (ck g2 (ck (F 3 (by omega)) (ck g3 (ck (F 4 (by omega)) (ck g4 (ck (F 5 (by omega)) (ck g5 ?_)))))));obtain⟨q,hq⟩:∃q,q=f.heap.size:=⟨_,rfl⟩
 refine fg ((fF x).map λn=>.int .i64 n) Ls (cI RA) rfl rfl (by intro v hv;obtain⟨n,-,rfl⟩:=List.mem_map.1 hv;rfl) (by omega) ?_;rw[<-hq];have e0:((((fF x).map λn=>(.int .i64 n:Value)).flatMap (·.cells.toList)).toArray)=((fF x).map λn=>(.int .i64 n:Value)).toArray:=rfl;rw[e0];have S:cl (λ_=>False) f (f.alloc (.cells ((fF x).map λn=>(.int .i64 n:Value)).toArray 2)):=(cl.refl _ f).alloc _;have bq:hp (f.alloc (.cells ((fF x).map λn=>(.int .i64 n:Value)).toArray 2)) q=some (.cells ((fF x).map λn=>(.int .i64 n:Value)).toArray 2 (0,0)):=by rw[hq];simp[go_sem]
 generalize f.alloc (.cells ((fF x).map λn=>(.int .i64 n:Value)).toArray 2)=B at S bq|-;have M3:=U.trans S;have h3:eg B s l:=R.mod S λ_ _ h=>h;have Z:jZ B p (dl x):=S.hpk b2 id;have hqs:¬co s q:=λhc=>by have:=R.lt hc;omega
 have H:p<B.heap.size:=cn Z;have hq3:q<B.heap.size:=cn bq;have hlen:(fF x).length=6:=rfl;have Y:∀n∈fF x,(cE n).length<=10:=λn y=>dw n (by have:=(E n y).2;omega);refine fi (v:=.int .i64 6) (w' :=B) (by simp[go_sem]) ?_
 refine dp (λst W=>∃(i:Nat) (z:Value),i<=6/\st=(z,.int .i64 i,())/\eT B s W z (l++((fF x).take i).flatMap cE))
  (λst _=>match st.2.1 with| .int _ i=>6 - i.toNat|_=>0) ⟨0,s,by omega,rfl,by rw[List.take_zero,List.flatMap_nil,List.append_nil];exact eT.zero h3 (cl.refl _ _)⟩ ?_
 rintro _ W ⟨i,z,hi,rfl,G⟩ KN hKN;unfold D0;intro _
 have hfl:(((fF x).take i).flatMap cE).length<=60:=by
  have h1:=fd (m:=10) (g:=cE) (L:=(fF x).take i) λn y=>Y n (List.mem_of_mem_take y);have R:((fF x).take i).length<=6:=by rw[List.length_take];omega
  omega
 by_cases k:i<6
 ·have o:(i:Int)<6:=by omega
  have c:i<(fF x).length:=k;refine ck (v:=.bool true) (by simp[go_sem,o]<;>first|exact⟨rfl,rfl⟩|exact rfl) ?_;rw[ci,if_pos rfl];obtain⟨n,y⟩:∃n,n=(fF x)[i]:=⟨_,rfl⟩
  have d:n∈fF x:=y▸List.getElem_mem c;have bqW:=G.md.hpk bq hqs;have hgi:((fF x).map λn=>(.int .i64 n:Value))[i]? =some (.int .i64 n):=by rw[List.getElem?_map,List.getElem?_eq_getElem c,y];rfl
  have N:¬(6:Int)<=(i:Int):=by omega
  refine ck (v:=.pointer (some ⟨q,i,none⟩)) (w' :=W) (by simp[go_sem,k,N,cC]) ?_;refine ck (v:=.int .i64 n) (w' :=W) (by simp[go_sem,bqW,hgi]) ?_;refine ck (nM (E n d).1 (E n d).2 _) ?_;refine io G.own ⟨(E n d).1,by have:=(E n d).2;omega⟩ (by simp only[List.length_append];omega) λO W2 o2 C A=>?_;refine ck (v:=.int .i64 ((i+1:Nat):Int)) (w' :=W2) (by simp[go_sem];rw[cV (by omega) (by omega)]) ?_;have r2:=G.go o2 C A;refine hKN _ _ ⟨i+1,O,by omega,rfl,?_⟩ (by show 6 - (((i+1:Nat):Int)).toNat<6 - ((i:Int)).toNat;omega);rw[cQ c,<-y,List.flatMap_append,List.flatMap_cons,List.flatMap_nil,List.append_nil,<-List.append_assoc];exact r2
 obtain rfl:i=6:=by omega
 refine ck (v:=.bool false) (by simp[go_sem]<;>first|exact⟨rfl,rfl⟩|exact rfl) ?_;rw[ci,if_neg Bool.false_ne_true];have b4:jZ W p (dl x):=G.md.hpk Z t;refine ck ((nQ p W).1 6 (by omega)) ?_
 have hA:At W p 6 (zt x.shifts):=by
  have:=(At.all b4).sub 6 16 (by rw[cL];omega);rw[lN]at this;simpa using this
 refine ey (zt x.shifts) 15 RX R3 (kj _) hA ?_;obtain⟨f1,f2,f3,f4,f5,f6,f7,f8,J,f10⟩:=hx;have hsl:x.shifts.toList.length=16:=by simp
 obtain⟨M,D⟩:∃M,M=l++((fF x).take 6).flatMap cE:=⟨_,rfl⟩
 rw[<-D]at G;have hl6' :M.length<=900000060:=by rw[D,List.length_append];omega
 refine dp (λst W' =>∃(i:Nat) (O:Value),i<=16/\st=(O,.int .i64 i,())/\eT B s W' O (M++(x.shifts.toList.take i).flatMap dG))
  (λst _=>match st.2.1 with| .int _ i=>16 - i.toNat|_=>0) ⟨0,z,by omega,rfl,by rw[List.take_zero,List.flatMap_nil,List.append_nil];exact G⟩ ?_
 rintro _ V ⟨j,O,hj,rfl,X⟩ KN2 P;unfold EO;intro _
 have hfl2:((x.shifts.toList.take j).flatMap dG).length<=160:=by
  have h1:=fd (m:=10) (g:=dG) (L:=x.shifts.toList.take j) λn y=>fS (f7 n (List.mem_of_mem_take y));have R:(x.shifts.toList.take j).length<=16:=by rw[List.length_take];omega
  omega
 by_cases k:j<16
 ·have o:(j:Int)<16:=by omega
  have c:j<x.shifts.toList.length:=by omega
  refine ck (v:=.bool true) (by simp[go_sem,o]<;>first|exact⟨rfl,rfl⟩|exact rfl) ?_;rw[ci,if_pos rfl];refine ck (v:=.int .i64 x.shifts.toList[j]!) (w' :=V) (oY Se OP Ms OQ k (sJ _ j k)) ?_;rw[getElem!_pos x.shifts.toList j c];refine ko X.own (f7 _ (List.getElem_mem c)) (by simp only[List.length_append];omega) λs4 W2 o2 C A=>?_;refine ck (v:=.int .i64 ((j+1:Nat):Int)) (w' :=W2) (by simp[go_sem];rw[cV (by omega) (by omega)]) ?_;have r2:=X.go o2 C A;refine P _ _ ⟨j+1,s4,by omega,rfl,?_⟩ (by show 16 - (((j+1:Nat):Int)).toNat<16 - ((j:Int)).toNat;omega);rw[cQ c,List.flatMap_append,List.flatMap_cons,List.flatMap_nil,List.append_nil,<-List.append_assoc];exact r2
 obtain rfl:j=16:=by omega
 refine ck (v:=.bool false) (by simp[go_sem]<;>first|exact⟨rfl,rfl⟩|exact rfl) ?_;rw[ci,if_neg Bool.false_ne_true];have md:=(cl.refl (λ_=>False) V).drew;have T:=X.dr md;have I:jZ V.drew p (dl x):=md.hpk (X.md.hpk Z t) id;have oD:=T.own;generalize V.drew=u at md T I oD|-;have c1:=dw x.credit (by have:=r.2;omega);have c2:=dw x.last (by have:=J.2;omega);refine cq (λW=>(nQ p W).2.1) (cx (wD I).1 (cx (nM r.1 r.2 _) ?_));refine cq (λW=>(nQ p W).2.2.1) (cx (wD I).2.1 (cx (iY J _) ?_));refine cq (λW=>(nQ p W).2.2.2) (cx (wD I).2.2 (cx (nM a.1 a.2 _) ?_));refine io oD ⟨r.1,by have:=r.2;omega⟩ (by simp only[List.length_append];omega) λs5 w5 o5 m5 n5=>?_;have r5:=T.go o5 m5 n5;have b6:jZ w5 p (dl x):=m5.hpk I (T.np t H);refine⟨nM a.1 a.2 _,(wD b6).2.2,iY J _,(wD b6).2.1,?_⟩;refine io o5 ⟨J.1,by have:=J.2;omega⟩ (by simp only[List.length_append];omega) λs6 w6 o6 m6 n6=>?_;have r6:=r5.go o6 m6 n6;have b7:jZ w6 p (dl x):=m6.hpk b6 (r5.np t H);refine⟨nM a.1 a.2 _,(wD b7).2.2,?_⟩;refine io o6 ⟨a.1,by have:=a.2;omega⟩ (by simp only[List.length_append];omega) λs7 w7 o7 m7 n7=>?_;have r7:=r6.go o7 m7 n7
 have e:M++(x.shifts.toList.take 16).flatMap dG++cE x.credit++cE x.last++cE x.first=l++vu x:=by
  rw[D,List.take_of_length_le (by omega),List.take_of_length_le (by omega)];unfold vu;rw[if_pos hm];simp[fF]
 rw[e]at o7;exact hK s7 w7 o7 (r7.back M3).1 (r7.back M3).2
def A9(f:x.Fit):(vu x).length<=250:=by
 unfold vu;by_cases c:x.may
 ·rw[if_pos c];obtain⟨q,d,e⟩:=tx f c;obtain⟨u,F,H,G,B,E,i,r,o,h⟩:=f;have a:∀n∈fF x,(cE n).length<=10:=λn b=>dw n (by have:=(q n b).2;omega);have k:=fd (m:=10) (g:=dG) (L:=x.shifts.toList) λn b=>fS (i n b);have j:x.shifts.toList.length=16:=by simp
  have y:=a x.num (by simp[fF]);have z:=a x.route (by simp[fF]);have A:=a x.tick (by simp[fF]);have C:=a x.lot (by simp[fF]);have J:=a x.band (by simp[fF]);have D:=a x.limit (by simp[fF]);have I:=dw x.credit (by have:=d.2;omega);have v:=dw x.last (by have:=o.2;omega);have t:=dw x.first (by have:=e.2;omega);simp only[List.length_append];omega
 ·rw[if_neg c];exact Nat.zero_le _
end
section
variable{w:World}{s:Value}{l:List UInt8}{K:cm}
set_option maxRecDepth 10000 in
def DW{x:Ct}(h:eg w s l)(Q:x.Fit)(V:l.length<=900000000)
  (N:∀k w',eg w' k (l++qD x)->cl (co s) w w' ->(∀b,co k b->co s b\/w.heap.size<=b)->K k w'):Ca Tryz.prog 159 #[s,NB x] w K:=by
 apply Nw;obtain⟨p,f⟩:∃p,p=w.heap.size:=⟨_,rfl⟩
 have C:cl (λ_=>False) w (w.alloc (.cells (dN x).toArray gQ)):=(cl.refl _ w).alloc _;have u:sM (w.alloc (.cells (dN x).toArray gQ)) p x:=by show hp _ _=_;rw[f];simp[go_sem]
 refine ck (v:=.pointer (some ⟨p,0,none⟩)) (w' :=w.alloc (.cells (dN x).toArray gQ)) (by rw[f];rfl) ?_;generalize w.alloc (.cells (dN x).toArray gQ)=d at C u|-;have np:¬co s p:=λS=>by have:=h.lt S;omega
 have j:=C.trans (cl.refl (λ_=>False) d).drew;have c:sM d.drew p x:=((cl.refl (λ_=>False) d).drew).hpk u id;have m:eg d.drew s l:=h.mod j λ_ _ h=>h;generalize d.drew=t at j c m|-;have q:p<t.heap.size:=cn c;have M:eT t s t s l:=eT.zero m (cl.refl _ _);obtain⟨i,a,r⟩:=Q;have Z:=A9 i;have l2:=dw x.st (by have:=a.2;omega)
 have g:∀W,(convert 106 27 (.int .u8 x.st)).run Tryz.prog W=.ok (.int .u64 x.st) W:=λW=>by
  obtain⟨Y,a2⟩:=a;simp[go_sem];rw[fG (by omega) (by omega)]
 refine cq (λW=>(kx p W).1) (eX (dl x.spec) 24 uS sm (cL _) (kz (At.all c)) ?_);refine cq (λW=>(kx p W).2.1) (cx (nz c) (cx (g _) ?_));refine cq (λW=>(kx p W).2.2.1) (cx (vM c) ?_);refine H9 m i (by omega) λX H B z I=>?_;have y:=M.go B z I;have n:sM H p x:=z.hpk c np;refine⟨vM n,g _,nz n,?_⟩;refine io B ⟨a.1,by have:=a.2;omega⟩ (by simp only[List.length_append];omega) λU F D E J=>?_;have L:=y.go D E J;have P:sM F p x:=E.hpk n (y.np np q);refine⟨vM P,?_⟩;refine ko D r (by simp only[List.length_append];omega) λT R o O G=>?_;have A:=L.go o O G;have e:l++vu x.spec++cE x.st++dG x.price=l++qD x:=by unfold qD;simp only[List.append_assoc]
 rw[e]at o;exact N T R o (A.back j).1 (A.back j).2
end
end Go.Proofs
