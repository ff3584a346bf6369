/- Part of a proof. -/
import Derived.Test.YtgebhcgmckjbbaaGreatB23
set_option linter.all false
namespace Go.Proofs
open Go Go.Vc
attribute [local congr] cr
def zO{x:Ac}(h:fq x.num/\eQ x.cash):(qQ x).length<=300:=by
 have a:=dw x.num (by have:=h.1.2;omega);have b:=fS h.2;unfold qQ eK;simp only[List.length_append,List.length_singleton];omega
def zG{x:Po}(h:(fq x.c/\fq x.a)/\eQ x.q/\eQ x.b):(pM x).length<=300:=by
 have b:=dw x.c (by have:=h.1.1.2;omega);have c:=dw x.a (by have:=h.1.2.2;omega);have d:=fS h.2.1;have a:=fS h.2.2;unfold pM;simp only[List.length_append];omega
def AR{x:Ct}(h:x.Fit):(qD x).length<=300:=by
 have a:=A9 h.1;have b:=dw x.st (by have:=h.2.1.2;omega);have c:=fS h.2.2;unfold qD;simp only[List.length_append];omega
def nu{x:Int×Od}(h:fq x.1/\x.2.Fit):(jl x).length<=300:=by
 obtain⟨d,e,c,a,b⟩:=h;have g:=dw x.1 (by have:=d.2;omega);have i:=dw x.2.num (by have:=e.2;omega);have k:=dw x.2.acct (by have:=c.2;omega);have f:=fS a;have j:=fS b;unfold jl eK;simp only[List.length_append,List.length_singleton];omega
def mf{α:Type}{g:α->List UInt8}{L:List α}(a:∀x∈L,(g x).length<=300)(c:L.length<=3200):(gG g L).length<=960010:=by
 have h1:=fd a;have b:=ii (n:=L.length) (by omega);unfold gG;rw[List.length_append];omega
section
variable{w:World}{K:cm}{ss:Nat->Value}{s:iq}
set_option maxRecDepth 10000 in
set_option maxHeartbeats 2000000 in
def FP(h:eS w ss s)(f:s.Fit)(hl:s.accts.length<=3200/\s.cts.length<=3200/\s.poss.length<=3200/\s.ords.length<=3200/\s.bids.length<=3200)
  (hK:∀m P,eg P m (kF s)->cl (λ_=>False) w P->(∀b,co m b->w.heap.size<=b)->K m P):Ca Tryz.prog 82 #[oJ s.day s.next s.fund ss] w K:=by
 obtain⟨hA,hC,hP,n,hB⟩:=hl;have a:=h.sl;have gA:∀x∈s.accts,(qQ x).length<=300:=λx d=>zO (f.accts x d);have gC:∀x∈s.cts,(qD x).length<=300:=λx d=>AR (f.cts x d);have gP:∀x∈s.poss,(pM x).length<=300:=λx d=>zG (f.poss x d);have V:∀x∈s.ords,(jl x).length<=300:=λx d=>nu (f.ords x d);have gB:∀x∈s.bids,(jl x).length<=300:=λx d=>nu (f.bids x d);have n1:=dw s.day (by have:=f.day.2;omega);have n2:=dw s.next (by have:=f.next.2;omega);have n3:=fS f.fund;have n4:=mf gA hA;have n5:=mf gC hC;have n6:=mf gP hP;have n7:=mf V n;apply Ox;obtain⟨I,U,b1,m1⟩:=js s.day s.next s.fund ss w;obtain⟨sb,O⟩:∃p,p=w.heap.size:=⟨_,rfl⟩
 rw[<-O]at U b1;refine ck U ?_;have A:=m1.trans (cl.refl (λ_=>False) I).drew;have u:cR I.drew sb s.day s.next s.fund ss:=((cl.refl (λ_=>False) I).drew).hpk b1 id;generalize I.drew=B at A u|-;have c:sb<B.heap.size:=cn u;have nsb:¬co cF sb:=λN=>by cases N
 have r2:eT B cF B cF []:=eT.zero (dW.nil _ _ _) (cl.refl _ _)
 have k:∀{W:World} {m:Value} {l:List UInt8},eT B cF W m l->∀i,3<=i->i<=7->∀y,eM (ss i) y->¬co m y:=λr i h1 h2 y hy N=>by
  have:=(h i h1 h2).lt hy;have:=A.size;rcases r.nw y N with z|z
  ·cases z
  ·omega
 have o:∀{W:World} {m:Value} {l:List UInt8},eT B cF W m l->eS W ss s:=λr=>h.md0 (A.trans (r.md.mono λ_ _ h=>by cases h));refine cq (λW=>dv sb 0 (by omega) W) (cx (fe u).1 (cx (iY f.day _) ?_));refine cq (λW=>dv sb 1 (by omega) W) (cx (fe u).2.1 ?_);refine cq (λW=>dv sb 2 (by omega) W) (cx (fe u).2.2 ?_);refine io r2.own ⟨f.day.1,by have:=f.day.2;omega⟩ (by simp) λs3 w3 S m3 k3=>?_;have r3:=r2.go S m3 k3;have M:cR w3 sb s.day s.next s.fund ss:=m3.hpk u nsb;refine⟨(fe M).2.2,(fe M).2.1,?_⟩;refine io S ⟨f.next.1,by have:=f.next.2;omega⟩ (by simp only[List.length_append,List.length_nil];omega) λs4 w4 o4 X k4=>?_;have r4:=r3.go o4 X k4;have b4:cR w4 sb s.day s.next s.fund ss:=X.hpk M (r3.np nsb c);refine⟨(fe b4).2.2,?_⟩;refine ko o4 f.fund (by simp only[List.length_append,List.length_nil];omega) λs5 w5 Q T k5=>?_;have J:=r4.go Q T k5;have b5:cR w5 sb s.day s.next s.fund ss:=T.hpk b4 (r4.np nsb c);refine ck (dv sb 3 (by omega) _) (ck (eP b5 a).1 ?_);refine CU (g:=qQ) Q (o J).accts (k J 3 (by omega) (by omega)) (by simp only[List.length_append,List.length_nil];omega) hA gA (λW m E x G d n j q=>by rw[eR];exact EY n (f.accts x d) j q) λs6 w6 o6 Z k6=>?_;have C:=J.go o6 Z k6;have b6:cR w6 sb s.day s.next s.fund ss:=Z.hpk b5 (J.np nsb c);refine ck (dv sb 4 (by omega) _) (ck (eP b6 a).2.1 ?_);refine CX (g:=qD) o6 (o C).cts (k C 4 (by omega) (by omega)) (by simp only[List.length_append,List.length_nil];omega) hC gC (λW m E x G d n j q=>by rw[eR];exact DW n (f.cts x d) j q) λs7 w7 o7 R k7=>?_;have F:=C.go o7 R k7;have b7:cR w7 sb s.day s.next s.fund ss:=R.hpk b6 (C.np nsb c);refine ck (dv sb 5 (by omega) _) (ck (eP b7 a).2.2 ?_);refine CQ (g:=pM) o7 (o F).poss (k F 5 (by omega) (by omega)) (by simp only[List.length_append,List.length_nil];omega) hP gP (λW m E x G d n j q=>by rw[eR];exact DO n (f.poss x d) j q) λs8 H o8 m8 k8=>?_;have r8:=F.go o8 m8 k8;have b8:cR H sb s.day s.next s.fund ss:=m8.hpk b7 (F.np nsb c);have md:=(cl.refl (λ_=>False) H).drew;have t:=r8.dr md;have D:cR H.drew sb s.day s.next s.fund ss:=md.hpk b8 id;have o9:=t.own;generalize H.drew=w9 at md t D o9|-;refine cq (λW=>dv sb 6 (by omega) W) (cx (i0 D a).1 ?_);refine cq (λW=>dv sb 7 (by omega) W) (cx (i0 D a).2 ?_);refine vj (g:=jl) o9 (o t).ords (k t 6 (by omega) (by omega)) (by simp only[List.length_append,List.length_nil];omega) n V (λW m E x G d n j q=>by rw[eR];exact vQ n (f.ords x d) j q) λsa wa oa ma ka=>?_;have ra:=t.go oa ma ka;have ba:cR wa sb s.day s.next s.fund ss:=ma.hpk D (t.np nsb c);refine⟨(i0 ba a).2,?_⟩;refine vj (g:=jl) oa (o ra).bids (k ra 7 (by omega) (by omega)) (by simp only[List.length_append,List.length_nil];omega) hB gB (λW m E x G d n j q=>by rw[eR];exact vQ n (f.bids x d) j q) λsc wc L mc kc=>?_;have Y:=ra.go L mc kc;have e: []++cE s.day++cE s.next++dG s.fund++gG qQ s.accts++gG qD s.cts++gG pM s.poss++gG jl s.ords++gG jl s.bids=kF s:=by unfold kF;simp only[List.append_assoc,List.nil_append]
 rw[e]at L;refine hK sc wc L (A.trans (Y.md.mono λ_ _ h=>by cases h)) λb hb=>?_;rcases Y.nw b hb with z|z
 ·cases z
 ·have:=A.size;omega
def EV{S:dF}(h:eS w ss s)(m:s.Fit)(B:s.accts.length<=64/\s.cts.length<=16/\s.poss.length<=1024/\s.ords.length<=3200/\s.bids.length<=800)(i:fZ s=some S)
  (t:∀c b,eg b c (kF s)->cl (λ_=>False) w b->K (.tuple #[c,.int .i64 0]) b):Ca Tryz.prog 24 #[oJ s.day s.next s.fund ss] w K:=by
 have a:=h.sl;apply Of;obtain⟨z,o,f,k⟩:=js s.day s.next s.fund ss w;obtain⟨sb,j⟩:∃p,p=w.heap.size:=⟨_,rfl⟩
 rw[<-j]at o f;refine ck o (ck (jU f a) ?_);refine qK (s:=s) (h.md0 k) m ⟨by omega,by omega,by omega,by omega,by omega⟩ λx e d g n=>?_;rw[i]at n;obtain⟨rfl,v,F,rfl,-,-⟩:=n;refine ck (v:=eh v) (w' :=d) (by simp[go_sem]) (ck (v:=.int .i64 0) (w' :=d) (by simp[go_sem]) ?_);refine ck (v:=.bool false) (w' :=d) (by simp[go_sem]) ?_;rw[ci,if_neg Bool.false_ne_true];have y:cR d sb s.day s.next s.fund ss:=g.hpk f id;refine ck (jU y a) ?_;refine FP (h.md0 (k.trans g)) m ⟨by omega,by omega,by omega,by omega,by omega⟩ λc r u q A=>?_;exact t c r u ((k.trans g).trans q)
end
section
variable{w:World}{K:cm}{v:Value}{l:List UInt8}
end
def qz:∀(n:Nat) (x:n<18446744073709551616) {w:World} {K:cm}
  (f:∀j a,dW a 5 1 j (eG n).length (bv (eG n))->cl (λ_=>False) w a->(∀b,co j b->w.heap.size<=b)->K j a),Ca Tryz.prog 91 #[.int .u64 n] w K:=by
 intro n;induction n using Nat.strongRecOn with
 |_ n z=>
  intro x w K f;apply Ro;by_cases h1:n<128
  ·have c:(n:Int)<128:=by omega
   refine ck (v:=.bool true) (w' :=w) (by simp[go_sem,c]) ?_;rw[ci,if_pos rfl]
   have y:IntKind.u8.wrap (n:Int)=((UInt8.ofNat n).toNat:Int):=by
    rw[vK (by omega),IntKind.wrap_u8];omega
   refine ck (v:=.int .u8 (IntKind.u8.wrap (n:Int))) (w' :=w) (by simp[go_sem]) ?_;rw[y];refine wM [UInt8.ofNat n] rT (cI zx) rfl rfl (by omega) λv q l g i=>?_;rw[lq h1]at f;exact f _ _ l g λb d=>(i b d).1
  ·have c:¬(n:Int)<128:=by omega
   refine ck (v:=.bool false) (w' :=w) (by simp[go_sem,c]) ?_;rw[ci,if_neg Bool.false_ne_true];refine ck (v:=.int .u64 ((n%128:Nat):Int)) (w' :=w) (by simp[go_sem];try rw[Int.tmod_eq_emod_of_nonneg (by omega)]) ?_;refine ck (v:=.int .u8 ((n%128:Nat):Int)) (w' :=w) (by simp[go_sem];rw[IntKind.wrap_u8];omega) ?_;refine ck (v:=.int .u8 ((UInt8.ofNat (n%128+128)).toNat:Int)) (w' :=w) (by rw[vK (by omega)];simp[go_sem];rw[IntKind.wrap_u8];omega) ?_;refine wM [UInt8.ofNat (n%128+128)] rT (cI zx) rfl rfl (by omega) λv q l g i=>?_;refine ck (v:=.int .u64 ((n / 128:Nat):Int)) (w' :=q) (by simp[go_sem];try rw[fG (by omega) (by omega)]) ?_;refine z (n / 128) (by omega) (by omega) λG D t k E=>?_;have F:=tJ (n:=n / 128) (by omega);refine dt (m:=(eG (n / 128)).length) rT rT (cI zx) (l.mod k λ_ _ h=>h) t.rd (rl _) (by omega) λC B p A s=>?_;rw[<-kp]at p;rw[qL h1]at f;have u:=g.size;have r:=k.size;refine f _ _ ?_ ((g.trans k).on A λb d=>.inr (i b d).1) λb d=>?_
   ·have e:(UInt8.ofNat (n%128+128)::eG (n / 128)).length=1+(eG (n / 128)).length:=by simp;omega
    rw[e];exact p
   ·rcases s b d with o|o
    ·exact(i b o).1
    ·omega
section
variable{w:World}{K:cm}{r:Nat}{v:Value}{l:List UInt8}{s:Rs}
end
end Go.Proofs
set_option maxRecDepth 100000
namespace Go.Proofs
open Go Go.Vc
def Jd(a:cm)(b c d e:Value)(f:T1)(g:World):=NV->cz f.1 (a (.bool false) g) (cD b λh=>cG 166 h 0 157 g λi j=>cD i λk=>cG 168 k 1 45 j λl m=>gi 45 l c m λn o=>gx (dh 108 n) o λp q=>gx (iz 108) q λr s=>gh Tryz.prog (ew 108 r p) s λt=>cG 108 r 1 106 t λu v=>gb .neq 106 true u (.int .u8 3) v λw x=>cz w (gf 108 r 0 x λy z=>gx (dh 38 y) z λA B=>gf 119 d 1 B λC D=>cG 117 C 3 2 D λE F=>Ca Tryz.prog 165 #[A,E] F λG H=>cz G (gt e H λI J=>cz I (a (.bool true) J) (gf 108 r 0 J λK L=>gx (dh 38 K) L λM N=>gf 119 d 1 N λO P=>cG 117 O 4 2 P λQ R=>Ca Tryz.prog 172 #[M,Q] R a)) (a (.bool false) H)) (a (.bool false) x))
def Jv(a b c:Value)(d:cm)(e:Value)(f:T2)(g:World):=NV->cB (S:=T1) (λh=>ia .lss 3 true a (gI 0) λi=>cz i (h ((.bool true),()) g.drew) (ia .neq 26 true f.2.1 (gI 0) λj=>cz j (h ((.bool true),()) g.drew) (dZ 92 f.1 3 4 g.drew λk=>cz k (h ((.bool true),()) g.drew) (dZ 92 f.1 2 4 g.drew λl=>cz l (h ((.bool true),()) g.drew) (dZ 119 b 1 117 g.drew λm=>Ca Tryz.prog 171 #[m] g.drew λn o=>gp (Op.unary .not n) λp=>cz p (h ((.bool true),()) o) (dD 119 b 1 λq=>dZ 117 q 0 27 o λr=>cD c λs=>dZ 166 s 4 27 o λt=>ia .geq 27 false r t λu=>h (u,()) o)))))) (Jd d c a b e)
def Ql{a b c:Value}{d:World}{e:cm}(G:gq 119 b d λf g=>cD a λh=>dZ 166 h 0 157 g.drew λi=>dZ 119 f 0 35 g.drew λj=>Ca Tryz.prog 86 #[i,j] g.drew λk l=>cB (S:=T2) (λm=>cD a λn=>dD 166 n 1 λo=>de 160 o l.drew λp=>dD 119 f 1 λq=>dD 117 q 1 λr=>de 35 r l.drew λs=>(Ca Tryz.prog 170 #[p,s] l.drew λt u=>gp (Instr.extract t 0) λv=>gp (Instr.extract t 1) λw=>gv 92 v u λx y=>m (x,w,()) y)/\(ga 92 l.drew λz A=>gk 35 r s A/\gk 160 o p A/\(Ca Tryz.prog 170 #[p,s] A λB C=>gp (Instr.extract B 0) λD=>gp (Instr.extract B 1) λE=>gs 92 z D C λF=>m (z,E,()) F))) (Jv k f a e c)):Ca Tryz.prog 87 #[a,b,c] d e:=cj Tryz.func87 G
def Jt(a:Value)(b:T1)(c d:Value)(e:T1->Wp)(f:T1)(g:World)(h:T1->Wp):=NV->cD a λi=>cG 166 i 3 164 g λj k=>lJ 164 j b.1 133 k λl m=>gn 133 false l m λn o=>gb .lss 3 false f.1 n o λp q=>cz p (dD 49 c 7 λr=>de 47 r q.drew λs=>cD a λt=>dZ 166 t 3 164 q.drew λu=>mQ 164 u b.1 λv=>de 133 v q.drew λw=>mQ 133 w f.1 λx=>de 117 x q.drew λy=>gp (Instr.build 119 #[(0,d),(1,y)]) λz=>gx (dP 47 1 [(0,z)]) q.drew λA B=>gk 47 r s B/\(gx (cv #[47,47] 47 [s,A]) B λC D=>dD 49 c 7 λE=>gs 47 E C D λF=>gb .add 3 true f.1 (gI 1) F λG H=>h (G,()) H)) (gb .add 3 true b.1 (gI 1) q λI J=>e (I,()) J)
def KA(a b c d:Value)(e:T1)(f:T1->Wp)(g:T1)(h:World)(i:T1->Wp):=NV->gn 133 false a h λj k=>gb .lss 3 false g.1 j k λl m=>cz l (dD 49 b 6 λn=>de 47 n m.drew λo=>mQ 133 a g.1 λp=>de 117 p m.drew λq=>gp (Instr.build 119 #[(0,c),(1,q)]) λr=>gx (dP 47 1 [(0,r)]) m.drew λs t=>gk 47 n o t/\(gx (cv #[47,47] 47 [o,s]) t λu v=>dD 49 b 6 λw=>gs 47 w u v λx=>gb .add 3 true g.1 (gI 1) x λy z=>i (y,()) z)) (cS (S:=T1) (Jt d e b c f) ((gI 0),()) m)
def KE(a b c:Value)(d:cm)(e:T1)(f:World)(g:T1->Wp):=NV->cD a λh=>cG 166 h 2 163 f λi j=>gn 163 false i j λk l=>gb .lss 3 false e.1 k l λm n=>cz m (cD a λo=>cG 166 o 0 157 n λp q=>cD p λr=>cG 168 r 1 45 q λs t=>gi 45 s e.1 t λu v=>gf 108 u 0 v λw x=>cG 38 w 0 35 x λy z=>cD a λA=>cG 166 A 2 163 z λB C=>lJ 163 B e.1 169 C λD E=>Ca Tryz.prog 175 #[D] E λF G=>cS (S:=T1) (KA F b y a e g) ((gI 0),()) G) (gl 49 b n λH I=>gs 49 c H I λJ=>de 49 c J λK=>d K J)
def Qy{a:Value}{b:World}{c:cm}(Q:ga 49 b λd e=>cD a λf=>dD 166 f 0 λg=>de 157 g e.drew λh=>cD h λi=>dD 168 i 0 λj=>de 35 j e.drew λk=>cD a λl=>dD 166 l 4 λm=>de 27 m e.drew λn=>cD a λo=>dD 166 o 1 λp=>de 160 p e.drew λq=>cD q λr=>dD 269 r 0 λs=>de 2 s e.drew λt=>cD a λu=>dD 166 u 1 λv=>de 160 v e.drew λw=>cD w λx=>dD 269 x 1 λy=>de 44 y e.drew λz=>cD a λA=>dD 166 A 0 λB=>de 157 B e.drew λC=>cD C λD=>dD 168 D 1 λE=>de 45 E e.drew λF=>cD a λG=>dD 166 G 1 λH=>de 160 H e.drew λI=>cD I λJ=>dD 269 J 2 λK=>de 46 K e.drew λL=>gp (Instr.build 49 #[(0,k),(1,n),(2,t),(3,z),(4,F),(5,L)]) λM=>ga 49 e.drew λN O=>gk 46 K L O/\gk 160 H I O/\gk 45 E F O/\gk 157 B C O/\gk 44 y z O/\gk 160 v w O/\gk 2 s t O/\gk 160 p q O/\gk 27 m n O/\gk 35 j k O/\gk 157 g h O/\(gs 49 N M O λP=>cS (S:=T1) (KE a N d c) ((gI 0),()) P)):Ca Tryz.prog 90 #[a] b c:=cj Tryz.func90 Q
def JS(a b:Value)(c:cm)(d:T2)(e:World)(f:T2->Wp):=NV->gn 47 false a e λg h=>gb .lss 3 false d.2.1 g h λi j=>cz i (mQ 47 a d.2.1 λk=>de 119 k j.drew λl=>mQ 47 b d.2.1 λm=>de 119 m j.drew λn=>ia .neq 119 false l n λo=>cz o (c (.bool false) j.drew) (gb .add 3 true d.2.1 (gI 1) j.drew λp q=>f (d.1,p,()) q)) (c (.bool true) j)
def Ri{a b:Value}{c:World}{d:cm}(k:gn 47 false a c λe f=>gn 47 false b f λg h=>gb .neq 3 false e g h λi j=>cz i (d (.bool false) j) (cS (S:=T2) (JS a b d) ((.bool false),(gI 0),()) j)):Ca Tryz.prog 58 #[a,b] c d:=cj Tryz.func58 k
def DE(a b:Value)(c:cm)(d:T2)(e:World)(f:T2->Wp):=NV->cG 49 a 5 46 e λg h=>gn 46 false g h λi j=>gb .lss 3 false d.2.1 i j λk l=>cz k (dZ 49 a 5 46 l.drew λm=>mQ 46 m d.2.1 λn=>de 112 n l.drew λo=>dZ 49 b 5 46 l.drew λp=>mQ 46 p d.2.1 λq=>de 112 q l.drew λr=>ia .neq 112 false o r λs=>cz s (c (.bool false) l.drew) (gb .add 3 true d.2.1 (gI 1) l.drew λt u=>f (d.1,t,()) u)) (cG 49 a 6 47 l λv w=>cG 49 b 6 47 w λx y=>Ca Tryz.prog 58 #[v,x] y λz A=>cz z (cG 49 a 7 47 A λB C=>cG 49 b 7 47 C λD E=>Ca Tryz.prog 58 #[B,D] E c) (c (.bool false) A))
def Em(a b:Value)(c:cm)(d:T2)(e:World)(f:T2->Wp):=NV->cG 49 a 4 45 e λg h=>gn 45 false g h λi j=>gb .lss 3 false d.2.1 i j λk l=>cz k (dZ 49 a 4 45 l.drew λm=>mQ 45 m d.2.1 λn=>iD Tryz.prog (dh 108 n) l.drew λo=>dZ 49 b 4 45 l.drew λp=>mQ 45 p d.2.1 λq=>iD Tryz.prog (dh 108 q) l.drew λr=>ia .neq 108 false o r λs=>cz s (c (.bool false) l.drew) (gb .add 3 true d.2.1 (gI 1) l.drew λt u=>f (d.1,t,()) u)) (cS (S:=T2) (DE a b c) (d.1,(gI 0),()) l)
def E3(a b:Value)(c:cm)(d:T2)(e:World)(f:T2->Wp):=NV->cG 49 a 3 44 e λg h=>gn 44 false g h λi j=>gb .lss 3 false d.2.1 i j λk l=>cz k (dZ 49 a 3 44 l.drew λm=>mQ 44 m d.2.1 λn=>de 92 n l.drew λo=>dZ 49 b 3 44 l.drew λp=>mQ 44 p d.2.1 λq=>de 92 q l.drew λr=>ia .neq 92 false o r λs=>cz s (c (.bool false) l.drew) (gb .add 3 true d.2.1 (gI 1) l.drew λt u=>f (d.1,t,()) u)) (cS (S:=T2) (Em a b c) (d.1,(gI 0),()) l)
def Jp(a:cm)(b c:Value)(d:T1)(e:World):=NV->cz d.1 (a (.bool false) e) (cS (S:=T2) (E3 b c a) ((.bool false),(gI 0),()) e)
def QH{a b:Value}{c:World}{d:cm}(h0:gq 49 a c λe f=>gq 49 b f λg h=>cB (S:=T1) (λi=>cG 49 e 0 35 h λj k=>cG 49 g 0 35 k λl m=>gb .neq 35 false j l m λn o=>cz n (i ((.bool true),()) o) (cG 49 e 1 27 o λp q=>cG 49 g 1 27 q λr s=>gb .neq 27 false p r s λt u=>cz t (i ((.bool true),()) u) (cG 49 e 2 2 u λv w=>cG 49 g 2 2 w λx y=>gb .neq 2 false v x y λz A=>cz z (i ((.bool true),()) A) (cG 49 e 3 44 A λB C=>gn 44 false B C λD E=>cG 49 g 3 44 E λF G=>gn 44 false F G λH I=>gb .neq 3 false D H I λJ K=>cz J (i ((.bool true),()) K) (cG 49 e 4 45 K λL M=>gn 45 false L M λN O=>cG 49 g 4 45 O λP Q=>gn 45 false P Q λR S=>gb .neq 3 false N R S λT U=>cz T (i ((.bool true),()) U) (cG 49 e 5 46 U λV W=>gn 46 false V W λX Y=>cG 49 g 5 46 Y λZ aa=>gn 46 false Z aa λab ac=>gb .neq 3 false X ab ac λad ae=>i (ad,()) ae)))))) (Jp d e g)):Ca Tryz.prog 16 #[a,b] c d:=cj Tryz.func16 h0
def QK{a:Value}{b:World}{c:cm}(U:gq 49 a b λd e=>ga 49 e λf g=>gx (dP 44 0 []) g λh i=>cG 49 d 3 44 i λj k=>gx (cv #[44,44] 44 [h,j]) k λl m=>kK 49 d 3 44 l m λn=>gx (dP 45 0 []) n λo p=>cG 49 d 4 45 p λq r=>gx (cv #[45,45] 45 [o,q]) r λs t=>kK 49 d 4 45 s t λu=>gx (dP 46 0 []) u λv w=>cG 49 d 5 46 w λx y=>gx (cv #[46,46] 46 [v,x]) y λz A=>kK 49 d 5 46 z A λB=>gx (dP 47 0 []) B λC D=>cG 49 d 6 47 D λE F=>gx (cv #[47,47] 47 [C,E]) F λG H=>kK 49 d 6 47 G H λI=>gx (dP 47 0 []) I λJ K=>cG 49 d 7 47 K λL M=>gx (cv #[47,47] 47 [J,L]) M λN O=>kK 49 d 7 47 N O λP=>gl 49 d P λQ R=>gs 49 f Q R λS=>de 49 f S λT=>c T S):Ca Tryz.prog 23 #[a] b c:=cj Tryz.func23 U
def JF(a:T3)(b:Value)(c:cm)(d:T3->Wp)(e:T3)(f:World)(g:T3->Wp):=NV->gb .lss 3 false e.2.2.1 a.2.2.1 f λh i=>cz h (mQ 47 b e.2.2.1 λj=>dD 119 j 1 λk=>dZ 117 k 0 27 i.drew λl=>mQ 47 b a.2.2.1 λm=>dD 119 m 1 λn=>dZ 117 n 0 27 i.drew λo=>ia .eql 27 false l o λp=>cz p (c (.tuple #[(.pointer none),(gI 2)]) i.drew) (gb .add 3 true e.2.2.1 (gI 1) i.drew λq r=>g (e.1,e.2.1,q,()) r)) (gb .add 3 true a.2.2.1 (gI 1) i λs t=>d (e.2.1,e.1,s,()) t)
def Kk(a:Value)(b:cm)(c:T3)(d:T3->Wp)(e:T1)(f:World):=NV->gl 117 a f λg h=>Ca Tryz.prog 88 #[e.1,g] h λi j=>gb .neq 26 true i (gI 0) j λk l=>cz k (b (.tuple #[(.pointer none),(gI 2)]) l) (gb .add 3 true c.2.2.1 (gI 1) l λm n=>d (c.1,c.2.1,m,()) n)
def J4(a:cm)(b c d:Value)(e:T3)(f:T3->Wp)(g:T1)(h:World):=NV->cz g.1 (a (.tuple #[(.pointer none),(gI 2)]) h) (cD b λi=>dD 166 i 3 λj=>de 164 j h.drew λk=>cD b λl=>dD 166 l 3 λm=>de 164 m h.drew λn=>mQ 164 n c λo=>de 133 o h.drew λp=>dZ 49 d 7 47 h.drew λq=>mQ 47 q e.2.2.1 λr=>dZ 119 r 1 117 h.drew λs=>gx (dP 133 1 [(0,s)]) h.drew λt u=>gk 133 o p u/\gk 164 m n u/\gk 164 j k u/\(gx (cv #[133,133] 133 [p,t]) u λv w=>gk 164 j k w/\(mQ 164 k c λx=>gs 133 x v w λy=>gb .add 3 true e.2.2.1 (gI 1) y λz A=>f (e.1,e.2.1,z,()) A)))
def Gp(a b c:Value)(d:cm)(e:T3)(f:World)(g:T3->Wp):=NV->cG 49 a 7 47 f λh i=>gn 47 false h i λj k=>gb .lss 3 false e.2.2.1 j k λl m=>cz l (cG 49 a 7 47 m λn o=>gi 47 n e.2.2.1 o λp q=>cG 119 p 0 35 q λr s=>Ca Tryz.prog 86 #[b,r] s λt u=>cD c λv=>cG 166 v 3 164 u λw x=>lJ 164 w t 133 x λy z=>gn 133 false y z λA B=>cB (S:=T1) (λC=>ia .geq 3 true A (gI 50) λD=>cz D (C ((.bool true),()) B.drew) (ia .gtr 3 true A (gI 0) λE=>cz E (cD c λF=>dZ 166 F 3 164 B.drew λG=>mQ 164 G t λH=>de 133 H B.drew λI=>ia .sub 3 true A (gI 1) λJ=>mQ 133 I J λK=>dZ 117 K 0 27 B.drew λL=>dZ 49 a 7 47 B.drew λM=>mQ 47 M e.2.2.1 λN=>dD 119 N 1 λO=>dZ 117 O 0 27 B.drew λP=>ia .geq 27 false L P λQ=>C (Q,()) B.drew) (C ((.bool false),()) B.drew))) (J4 d c t a e g)) (de 49 a m.drew λR=>Ca Tryz.prog 90 #[c] m.drew λS T=>gk 49 a R T/\(Ca Tryz.prog 16 #[S,R] T λU V=>gp (Op.unary .not U) λW=>cz W (d (.tuple #[(.pointer none),(gI 2)]) V) (d (.tuple #[c,(gI 0)]) V)))
def EH(a:Value)(b:cm)(c d:Value)(e:T3)(f:World)(g:T3->Wp):=NV->cD a λh=>cG 166 h 2 163 f λi j=>gn 163 false i j λk l=>gb .lss 3 false e.2.2.1 k l λm n=>cz m (cD a λo=>cG 166 o 2 163 n λp q=>lJ 163 p e.2.2.1 169 q λr s=>cD r λt=>cG 175 t 0 173 s λu v=>Ca Tryz.prog 89 #[u] v λw x=>kS w x λy z A=>gv 117 y A λB C=>cD a λD=>cG 166 D 2 163 C λE F=>lJ 163 E e.2.2.1 169 F λG H=>cD G λI=>cG 175 I 1 173 H λJ K=>Ca Tryz.prog 89 #[J] K λL M=>kS L M λN O P=>gv 117 N P λQ R=>cB (S:=T1) (λS=>cz z (cz O (cG 117 B 3 2 R λT U=>cG 117 Q 3 2 U λV W=>gb .geq 2 false T V W λX Y=>S (X,()) Y) (S ((.bool false),()) R)) (S ((.bool false),()) R)) (mO b e g)) (cS (S:=T3) (Gp c d a b) (e.2.1,e.1,(gI 0),()) n)
def DY(a b c:Value)(d:cm)(e:T3)(f:World)(g:T3->Wp):=NV->cG 49 a 6 47 f λh i=>gn 47 false h i λj k=>gb .lss 3 false e.2.2.1 j k λl m=>cz l (cG 49 a 6 47 m λn o=>gi 47 n e.2.2.1 o λp q=>cG 119 p 1 117 q λr s=>gv 117 r s λt u=>cD b λv=>dD 166 v 2 λw=>de 163 w u.drew λx=>dZ 49 a 6 47 u.drew λy=>mQ 47 y e.2.2.1 λz=>dZ 119 z 0 35 u.drew λA=>Ca Tryz.prog 86 #[c,A] u.drew λB C=>gk 163 w x C/\(mQ 163 x B λD=>de 169 D C λE=>cD E λF=>cG 175 F 1 173 C λG H=>cB (S:=T1) (λI=>cG 117 t 2 4 H λJ K=>cz J (cD E λL=>cG 175 L 0 173 K λM N=>I (M,()) N) (I (G,()) K)) (Kk t d e g))) (cS (S:=T3) (EH b d a c) (e.2.1,e.1,(gI 0),()) m)
def FF(a b c:Value)(d:cm)(e:Value)(f:T3)(g:World)(h:T3->Wp):=NV->gn 47 false a g λi j=>gb .lss 3 false f.2.2.1 i j λk l=>cz k (mQ 47 a f.2.2.1 λm=>de 119 m l.drew λn=>dZ 49 b 6 47 l.drew λo=>gw (Builtin.len_ #[47] 3 #[o]) l.drew λp=>ia .lss 3 false f.2.2.1 p λq=>Ca Tryz.prog 87 #[c,n,q] l.drew λr s=>gp (Op.unary .not r) λt=>cz t (d (.tuple #[(.pointer none),(gI 2)]) s) (cS (S:=T3) (JF f a d h) (f.2.1,f.1,(gI 0),()) s)) (cS (S:=T3) (DY b c e d) (f.2.1,f.1,(gI 0),()) l)
def JK(a:cm)(b c d:Value)(e:T3)(f:T1)(g:World):=NV->cz f.1 (a (.tuple #[(.pointer none),(gI 2)]) g) (dD 49 b 6 λh=>de 47 h g.drew λi=>dD 49 b 7 λj=>de 47 j g.drew λk=>gx (dP 47 0 []) g.drew λl m=>gk 47 j k m/\gk 47 h i m/\(gx (cv #[47,47] 47 [l,i]) m λn o=>gk 47 j k o/\(gx (cv #[47,47] 47 [n,k]) o λp q=>cS (S:=T3) (FF p b c a d) (e.2.1,e.1,(gI 0),()) q)))
def zT(a b:Value)(c:cm)(d:Value)(e:T3)(f:World)(g:T3->Wp):=NV->cG 49 a 5 46 f λh i=>gn 46 false h i λj k=>gb .lss 3 false e.2.2.1 j k λl m=>cz l (cG 49 a 5 46 m λn o=>gi 46 n e.2.2.1 o λp q=>cG 112 p 0 35 q λr s=>Ca Tryz.prog 86 #[b,r] s λt u=>cB (S:=T1) (λv=>gb .lss 3 true t (gI 0) u λw x=>cz w (v ((.bool true),()) x) (cD b λy=>cG 168 y 1 45 x λz A=>gi 45 z t A λB C=>cG 108 B 1 106 C λD E=>gb .eql 106 true D (.int .u8 3) E λF G=>v (F,()) G)) (mO c e g)) (cB (S:=T1) (λH=>cG 49 a 6 47 m λI J=>gn 47 false I J λK L=>gb .gtr 3 true K (gI 3200) L λM N=>cz M (H ((.bool true),()) N) (cG 49 a 7 47 N λO P=>gn 47 false O P λQ R=>gb .gtr 3 true Q (gI 800) R λS T=>H (S,()) T)) (JK c a d b e))
def zK(a b c:Value)(d:cm)(e:T1)(f:World)(g:T1->Wp):=NV->cD a λh=>cG 168 h 1 45 f λi j=>gn 45 false i j λk l=>gb .lss 3 false e.1 k l λm n=>cz m (cD b λo=>dD 166 o 2 λp=>de 163 p n.drew λq=>Ca Tryz.prog 85 #[] n.drew λr s=>gk 163 p q s/\(gx (dP 163 1 [(0,r)]) s λt u=>gk 163 p q u/\(gx (cv #[163,163] 163 [q,t]) u λv w=>cD b λx=>dD 166 x 2 λy=>gs 163 y v w λz=>cD b λA=>cG 166 A 3 164 z λB C=>gx (dP 164 1 [(0,(.slice none 0 0))]) C λD E=>gx (cv #[164,164] 164 [B,D]) E λF G=>cD b λH=>kK 166 H 3 164 F G λI=>gb .add 3 true e.1 (gI 1) I λJ K=>g (J,()) K))) (cS (S:=T3) (zT c a d b) ((.pointer none),(gI 0),(gI 0),()) n)
def zy(a:cm)(b c d:Value)(e:T1)(f:World):=NV->cz e.1 (a (.tuple #[(.pointer none),(gI 2)]) f) (cG 49 b 1 27 f λg h=>gr (Instr.build 166 #[(0,c),(1,d),(4,g)]) h λi j=>gq 166 i j λk l=>cS (S:=T1) (zK c k b a) ((gI 0),()) l)
def QO{a:Value}{b:World}{c:cm}(M:gq 49 a b λd e=>cG 49 d 0 35 e λf g=>cG 49 d 4 45 g λh i=>Ca Tryz.prog 83 #[f,h] i λj k=>kS j k λl m n=>gb .neq 26 true m (gI 0) n λo p=>cz o (c (.tuple #[(.pointer none),(gI 2)]) p) (cG 49 d 2 2 p λq r=>cG 49 d 3 44 r λs t=>cG 49 d 5 46 t λu v=>Ca Tryz.prog 84 #[q,s,u] v λw x=>kS w x λy z A=>cB (S:=T1) (λB=>gb .neq 26 true z (gI 0) A λC D=>cz C (B ((.bool true),()) D) (cG 49 d 1 27 D λE F=>gb .lss 27 true E (.int .u64 1) F λG H=>cz G (B ((.bool true),()) H) (cG 49 d 1 27 H λI J=>gb .gtr 27 true I (.int .u64 4611686018427387905) J λK L=>B (K,()) L))) (zy c d l y))):Ca Tryz.prog 25 #[a] b c:=cj Tryz.func25 M
def QV{a:Value}{b:World}{c:cm}(Z:gq 119 a b λd e=>cG 119 d 0 35 e λf g=>gr (convert 35 27 f) g λh i=>Ca Tryz.prog 91 #[h] i λj k=>gf 119 d 1 k λl m=>cG 117 l 0 27 m λn o=>Ca Tryz.prog 91 #[n] o λp q=>gx (cv #[54,54] 54 [j,p]) q λr s=>gf 119 d 1 s λt u=>cG 117 t 1 35 u λv w=>gr (convert 35 27 v) w λx y=>Ca Tryz.prog 91 #[x] y λz A=>gx (cv #[54,54] 54 [r,z]) A λB C=>gf 119 d 1 C λD E=>cG 117 D 2 4 E λF G=>Ca Tryz.prog 93 #[F] G λH I=>gx (cv #[54,54] 54 [B,H]) I λJ K=>gf 119 d 1 K λL M=>cG 117 L 3 2 M λN O=>Ca Tryz.prog 92 #[N] O λP Q=>gx (cv #[54,54] 54 [J,P]) Q λR S=>gf 119 d 1 S λT U=>cG 117 T 4 2 U λV W=>Ca Tryz.prog 92 #[V] W λX Y=>gx (cv #[54,54] 54 [R,X]) Y c):Ca Tryz.prog 95 #[a] b c:=cj Tryz.func95 Z
def Hk(a:Value)(b:cm)(c:T2)(d:World)(e:T2->Wp):=NV->cG 49 a 7 47 d λf g=>gn 47 false f g λh i=>gb .lss 3 false c.2.1 h i λj k=>cz j (cG 49 a 7 47 k λl m=>lJ 47 l c.2.1 119 m λn o=>Ca Tryz.prog 95 #[n] o λp q=>gx (cv #[54,54] 54 [c.1,p]) q λr s=>gb .add 3 true c.2.1 (gI 1) s λt u=>e (r,t,()) u) (b c.1 k)
def GT(a:Value)(b:cm)(c:T2)(d:World)(e:T2->Wp):=NV->cG 49 a 6 47 d λf g=>gn 47 false f g λh i=>gb .lss 3 false c.2.1 h i λj k=>cz j (cG 49 a 6 47 k λl m=>lJ 47 l c.2.1 119 m λn o=>Ca Tryz.prog 95 #[n] o λp q=>gx (cv #[54,54] 54 [c.1,p]) q λr s=>gb .add 3 true c.2.1 (gI 1) s λt u=>e (r,t,()) u) (cG 49 a 7 47 k λv w=>gn 47 false v w λx y=>gr (convert 3 27 x) y λz A=>Ca Tryz.prog 91 #[z] A λB C=>gx (cv #[54,54] 54 [c.1,B]) C λD E=>cS (S:=T2) (Hk a b) (D,(gI 0),()) E)
def Eo(a:Value)(b:cm)(c:T2)(d:World)(e:T2->Wp):=NV->cG 49 a 5 46 d λf g=>gn 46 false f g λh i=>gb .lss 3 false c.2.1 h i λj k=>cz j (cG 49 a 5 46 k λl m=>lJ 46 l c.2.1 112 m λn o=>gv 112 n o λp q=>cG 112 p 0 35 q λr s=>gr (convert 35 27 r) s λt u=>Ca Tryz.prog 91 #[t] u λv w=>gx (cv #[54,54] 54 [c.1,v]) w λx y=>cG 112 p 1 35 y λz A=>gr (convert 35 27 z) A λB C=>Ca Tryz.prog 91 #[B] C λD E=>gx (cv #[54,54] 54 [x,D]) E λF G=>cG 112 p 2 2 G λH I=>Ca Tryz.prog 92 #[H] I λJ K=>gx (cv #[54,54] 54 [F,J]) K λL M=>cG 112 p 3 2 M λN O=>Ca Tryz.prog 92 #[N] O λP Q=>gx (cv #[54,54] 54 [L,P]) Q λR S=>gb .add 3 true c.2.1 (gI 1) S λT U=>e (R,T,()) U) (cG 49 a 6 47 k λV W=>gn 47 false V W λX Y=>gr (convert 3 27 X) Y λZ aa=>Ca Tryz.prog 91 #[Z] aa λab ac=>gx (cv #[54,54] 54 [c.1,ab]) ac λad ae=>cS (S:=T2) (GT a b) (ad,(gI 0),()) ae)
def Fe(a:Value)(b:cm)(c:T2)(d:World)(e:T2->Wp):=NV->cG 49 a 4 45 d λf g=>gn 45 false f g λh i=>gb .lss 3 false c.2.1 h i λj k=>cz j (cG 49 a 4 45 k λl m=>gi 45 l c.2.1 m λn o=>gf 108 n 0 o λp q=>gx (dh 38 p) q λr s=>Ca Tryz.prog 94 #[r] s λt u=>gx (cv #[54,54] 54 [c.1,t]) u λv w=>cG 49 a 4 45 w λx y=>gi 45 x c.2.1 y λz A=>cG 108 z 1 106 A λB C=>gr (convert 106 27 B) C λD E=>Ca Tryz.prog 91 #[D] E λF G=>gx (cv #[54,54] 54 [v,F]) G λH I=>cG 49 a 4 45 I λJ K=>gi 45 J c.2.1 K λL M=>cG 108 L 2 2 M λN O=>Ca Tryz.prog 92 #[N] O λP Q=>gx (cv #[54,54] 54 [H,P]) Q λR S=>gb .add 3 true c.2.1 (gI 1) S λT U=>e (R,T,()) U) (cG 49 a 5 46 k λV W=>gn 46 false V W λX Y=>gr (convert 3 27 X) Y λZ aa=>Ca Tryz.prog 91 #[Z] aa λab ac=>gx (cv #[54,54] 54 [c.1,ab]) ac λad ae=>cS (S:=T2) (Eo a b) (ad,(gI 0),()) ae)
def Hb(a:Value)(b:cm)(c:T2)(d:World)(e:T2->Wp):=NV->cG 49 a 3 44 d λf g=>gn 44 false f g λh i=>gb .lss 3 false c.2.1 h i λj k=>cz j (cG 49 a 3 44 k λl m=>lJ 44 l c.2.1 92 m λn o=>gv 92 n o λp q=>cG 92 p 0 35 q λr s=>gr (convert 35 27 r) s λt u=>Ca Tryz.prog 91 #[t] u λv w=>gx (cv #[54,54] 54 [c.1,v]) w λx y=>cG 92 p 1 2 y λz A=>Ca Tryz.prog 92 #[z] A λB C=>gx (cv #[54,54] 54 [x,B]) C λD E=>cG 92 p 2 4 E λF G=>Ca Tryz.prog 93 #[F] G λH I=>gx (cv #[54,54] 54 [D,H]) I λJ K=>cG 92 p 3 4 K λL M=>Ca Tryz.prog 93 #[L] M λN O=>gx (cv #[54,54] 54 [J,N]) O λP Q=>gb .add 3 true c.2.1 (gI 1) Q λR S=>e (P,R,()) S) (cG 49 a 4 45 k λT U=>gn 45 false T U λV W=>gr (convert 3 27 V) W λX Y=>Ca Tryz.prog 91 #[X] Y λZ aa=>gx (cv #[54,54] 54 [c.1,Z]) aa λab ac=>cS (S:=T2) (Fe a b) (ab,(gI 0),()) ac)
def QA{a:Value}{b:World}{c:cm}(H:gq 49 a b λd e=>cG 49 d 0 35 e λf g=>gr (convert 35 27 f) g λh i=>Ca Tryz.prog 91 #[h] i λj k=>cG 49 d 1 27 k λl m=>Ca Tryz.prog 91 #[l] m λn o=>gx (cv #[54,54] 54 [j,n]) o λp q=>cG 49 d 2 2 q λr s=>Ca Tryz.prog 92 #[r] s λt u=>gx (cv #[54,54] 54 [p,t]) u λv w=>cG 49 d 3 44 w λx y=>gn 44 false x y λz A=>gr (convert 3 27 z) A λB C=>Ca Tryz.prog 91 #[B] C λD E=>gx (cv #[54,54] 54 [v,D]) E λF G=>cS (S:=T2) (Hb d c) (F,(gI 0),()) G):Ca Tryz.prog 26 #[a] b c:=cj Tryz.func26 H
end Go.Proofs
namespace Go.Proofs
open Go Go.Vc
attribute [local congr] cr
def KT(p:Nat):¬co cF p:=λh=>by cases h
section
variable{w0 w w1:World}{s v:Value}{l m:List UInt8}{K:cm}{x:Int}
def eT.m0(r:eT w0 cF w s l):cl (λ_=>False) w0 w:=r.md.mono λ_ _ h=>KT _ h
def eT.pre(r:eT w0 cF w s l)(m:cl (λ_=>False) w1 w0):eT w1 cF w s l:=
 ⟨r.own,(m.trans r.m0).mono λ_ _ h=>h.elim,λb a=>(r.nw b a).imp id λh=>by have:=m.size;omega⟩
def eT.fre(o:eg w s l)(m:cl (λ_=>False) w0 w)(n:∀b,co s b->w0.heap.size<=b):eT w0 cF w s l:=⟨o,m.mono λ_ _ h=>h.elim,λb a=>.inr (n b a)⟩
def eT.none(w:World):eT w cF w cF []:=eT.zero (dW.nil _ _ _) (cl.refl _ _)
def mI(r:eT w0 cF w s l)(o:eg w v m)(j:l.length+m.length<=1000000000)(g:∀a b,eT w0 cF b a (l++m)->K a b):rx Tryz.prog (cv #[54,54] 54 [s,v]) w K:=by
 refine dt (n:=l.length) (m:=m.length) rT rT (cI zx) r.own o.rd (rl _) (by omega) λf d c h i=>?_;rw[<-kp]at c;have e:(l++m).length=l.length+m.length:=List.length_append;exact g f d (r.go (by show dW _ _ _ _ _ _;rw[e];exact c) h i)
def pV{p:Nat}{o:Obj}(r:eT w0 cF w s l)(f:hp w p=some o)(g:¬co s p)(q:eg w v m)(y:l.length+m.length<=1000000000)(k:∀a b,eT w0 cF b a (l++m)->hp b p=some o->¬co a p->K a b):rx Tryz.prog (cv #[54,54] 54 [s,v]) w K:=by
 refine dt (n:=l.length) (m:=m.length) rT rT (cI zx) r.own q.rd (rl _) (by omega) λj i d c h=>?_;rw[<-kp]at d;have e:(l++m).length=l.length+m.length:=List.length_append;have t:=cn f;exact k j i (r.go (by show dW _ _ _ _ _ _;rw[e];exact d) c h) (c.hpk f g) λu=>(h p u).elim g (by omega)
def ff(r:eT w0 cF w s l)(i:0<=x/\x<18446744073709551616)(o:l.length<=900000000)(f:∀a b,eT w0 cF b a (l++cE x)->K a b):
  Ca Tryz.prog 91 #[.int .u64 x] w λg e=>rx Tryz.prog (cv #[54,54] 54 [s,g]) e K:=by
 obtain⟨n,rfl⟩:=Int.eq_ofNat_of_zero_le i.1;have c:n<18446744073709551616:=by omega
 refine qz n c λk j d h p=>?_;have:=ii c;exact mI (r.dr h) d (by omega) f
def yW(h:0<=x/\x<18446744073709551616)(e:∀a b,eT w cF b a (cE x)->K a b):Ca Tryz.prog 91 #[.int .u64 x] w K:=by
 obtain⟨n,rfl⟩:=Int.eq_ofNat_of_zero_le h.1;have d:n<18446744073709551616:=by omega
 exact qz n d λj i c f g=>e _ _ (eT.fre c f g)
def yH(k:eQ x)(d:∀g a,eT w cF a g (dG x)->K g a):Ca Tryz.prog 92 #[.int .i64 x] w K:=by
 apply Rb;have i:=tM k;have o:K=K:=rfl;unfold dG at d;by_cases h:0<=x
 ·have c:xR x=2*x.toNat:=by unfold xR;rw[if_pos h]
  refine ck (v:=.bool true) (by simp[go_sem,h]<;>first|exact⟨rfl,rfl⟩|exact rfl) ?_;rw[ci,if_pos rfl];refine ck (v:=.int .u64 x) (w' :=w) (by simp[go_sem];rw[fG (by omega) (by omega)]) ?_;refine ck (v:=.int .u64 (xR x:Int)) (w' :=w) (by simp[go_sem];rw[fG (by omega) (by omega),c];omega) ?_;exact qz _ i λn j b e f=>d _ _ (eT.fre b e f)
 ·have c:xR x=2*(-x - 1).toNat+1:=by unfold xR;rw[if_neg h]
  refine ck (v:=.bool false) (by simp[go_sem,h]<;>first|exact⟨rfl,rfl⟩|exact rfl) ?_;rw[ci,if_neg Bool.false_ne_true];refine ck (v:=.int .i64 (x+1)) (w' :=w) (by simp[go_sem];rw[cV (by omega) (by omega)]) ?_;refine ck (v:=.int .i64 (-(x+1))) (w' :=w) (by simp[go_sem];rw[cV (by omega) (by omega)];try omega) ?_;refine ck (v:=.int .u64 (-(x+1))) (w' :=w) (by simp[go_sem];rw[fG (by omega) (by omega)];try omega) ?_;refine ck (v:=.int .u64 (2* -(x+1))) (w' :=w) (by simp only[go_sem];rw[fG (by omega) (by omega)];try rfl) ?_;refine ck (v:=.int .u64 (xR x:Int)) (w' :=w) (by simp only[go_sem];rw[fG (by omega) (by omega),c];simp;omega) ?_;exact qz _ i λn j b e f=>d _ _ (eT.fre b e f)
def oF(r:eT w0 cF w s l)(d:eQ x)(j:l.length<=900000000)(f:∀a b,eT w0 cF b a (l++dG x)->K a b):
  Ca Tryz.prog 92 #[.int .i64 x] w λg e=>rx Tryz.prog (cv #[54,54] 54 [s,g]) e K:=by
 refine yH d λi h c=>?_;have:=fS d;exact mI (r.dr c.m0) c.own (by omega) f
def yJ{f:Bool}(r:eT w0 cF w s l)(k:l.length<=900000000)(e:∀c d,eT w0 cF d c (l++eK f)->K c d):
  Ca Tryz.prog 93 #[.bool f] w λi h=>rx Tryz.prog (cv #[54,54] 54 [s,i]) h K:=by
 apply OI;rw[ci];cases f with
 |true=>
  rw[if_pos rfl];refine wM [1] rT (cI zx) rfl rfl (by omega) λv j b a g=>?_;exact mI (m:=[1]) (r.dr a) b (by simp;omega) e
 |false=>
  rw[if_neg Bool.false_ne_true];refine wM [0] rT (cI zx) rfl rfl (by omega) λv j b a g=>?_;exact mI (m:=[0]) (r.dr a) b (by simp;omega) e
end
section
variable{w0 w w1:World}{s v:Value}{l m:List UInt8}{K:cm}
def hpW{p:Nat}{o:Obj}(r:eT w0 cF w s l)(b:hp w0 p=some o):hp w p=some o:=r.md.hpk b (KT p)
set_option maxRecDepth 10000 in
def Gv{x:Sp}(X:x.Fit)(Z:x.may=true)(hK:∀F d,eT w cF d F (vu x)->K F d):Ca Tryz.prog 94 #[.agg (dl x).toArray] w K:=by
 apply QT;obtain⟨p,C⟩:∃p,p=w.heap.size:=⟨_,rfl⟩
 have m1:cl (λ_=>False) w (w.alloc (.cells (dl x).toArray fO)):=(cl.refl _ w).alloc _;have I:jZ (w.alloc (.cells (dl x).toArray fO)) p (dl x):=by show hp _ _=_;rw[C];simp[go_sem]
 refine ck (v:=.pointer (some ⟨p,0,none⟩)) (w' :=w.alloc (.cells (dl x).toArray fO)) (by rw[C];rfl) ?_;generalize w.alloc (.cells (dl x).toArray fO)=w1 at m1 I|-;obtain⟨o,b,c⟩:=tx X Z;have hf:=(nQ p w1).1;have a:∀n∈fF x,(cE n).length<=10:=λn S=>dw n (by have:=(o n S).2;omega);have n0:=o x.num (by simp[fF]);have n1:=o x.route (by simp[fF]);have N:=o x.tick (by simp[fF]);have P:=o x.lot (by simp[fF]);have Q:=o x.band (by simp[fF]);have J:=o x.limit (by simp[fF]);have l0:=a x.num (by simp[fF]);have l1:=a x.route (by simp[fF]);have l2:=a x.tick (by simp[fF]);have l3:=a x.lot (by simp[fF]);have l4:=a x.band (by simp[fF]);have l5:=a x.limit (by simp[fF]);have O:=X;obtain⟨f1,f2,f3,f4,f5,f6,U,f8,D,f10⟩:=O;have r0:=eT.none w1;have bk:∀{W:World} {F:Value} {l' :List UInt8},eT w1 cF W F l' ->jZ W p (dl x):=λr=>hpW r I;refine ck ((nQ p _).1 0 (by omega)) (ck (xl I).1 (ck (iY f1 _) ?_));refine ff r0 ⟨n0.1,by omega⟩ (by simp) λH w2 r2=>?_;refine ck ((nQ p _).1 1 (by omega)) (ck (xl (bk r2)).2.1 (ck (v:=.int .u64 x.route) (w' :=w2) (by simp[go_sem];rw[fG (by omega) (by omega)]) ?_));refine ff r2 ⟨n1.1,by omega⟩ (by simp only[List.length_append,List.length_nil];omega) λs3 w3 r3=>?_;refine ck ((nQ p _).1 2 (by omega)) (ck (xl (bk r3)).2.2.1 (ck (nM N.1 N.2 _) ?_));refine ff r3 ⟨N.1,by omega⟩ (by simp only[List.length_append,List.length_nil];omega) λs4 w4 G=>?_;refine ck ((nQ p _).1 3 (by omega)) (ck (xl (bk G)).2.2.2.1 (ck (nM P.1 P.2 _) ?_));refine ff G ⟨P.1,by omega⟩ (by simp only[List.length_append,List.length_nil];omega) λs5 w5 A=>?_;refine ck ((nQ p _).1 4 (by omega)) (ck (xl (bk A)).2.2.2.2.1 (ck (nM Q.1 Q.2 _) ?_));refine ff A ⟨Q.1,by omega⟩ (by simp only[List.length_append,List.length_nil];omega) λs6 w6 q=>?_;refine ck ((nQ p _).1 5 (by omega)) (ck (xl (bk q)).2.2.2.2.2 (ck (nM J.1 J.2 _) ?_));refine ff q ⟨J.1,by omega⟩ (by simp only[List.length_append,List.length_nil];omega) λM T t=>?_;obtain⟨u,h⟩:∃u,u=[]++cE x.num++cE x.route++cE x.tick++cE x.lot++cE x.band++cE x.limit:=⟨_,rfl⟩
 rw[<-h]at t;have hl6' :u.length<=60:=by rw[h];simp only[List.length_append,List.length_nil];omega
 have hsl:x.shifts.toList.length=16:=by simp
 refine dp (λst W' =>∃(i:Nat) (H:Value),i<=16/\st=(H,.int .i64 i,())/\eT w1 cF W' H (u++(x.shifts.toList.take i).flatMap dG))
  (λst _=>match st.2.1 with| .int _ i=>16 - i.toNat|_=>0) ⟨0,M,by omega,rfl,by rw[List.take_zero,List.flatMap_nil,List.append_nil];exact t⟩ ?_
 rintro _ V ⟨j,H,hj,rfl,E⟩ KN2 B;unfold Kz;intro _
 have Y:((x.shifts.toList.take j).flatMap dG).length<=160:=by
  have h1:=fd (m:=10) (g:=dG) (L:=x.shifts.toList.take j) λn S=>fS (U n (List.mem_of_mem_take S));have h2:(x.shifts.toList.take j).length<=16:=by rw[List.length_take];omega
  omega
 by_cases f:j<16
 ·have z:(j:Int)<16:=by omega
  have k:j<x.shifts.toList.length:=by omega
  refine ck (v:=.bool true) (by simp[go_sem,z]<;>first|exact⟨rfl,rfl⟩|exact rfl) ?_;rw[ci,if_pos rfl];have bV:=bk E;have R:hp V p=some (.cells (dl x).toArray fO (0,0)):=bV
  have gS:(dl x).toArray[6+j]? =some (.int .i64 x.shifts.toList[j]!):=by
   rw[List.getElem?_toArray];have h1:=sJ x.shifts j f;rw[List.getElem?_toArray,<-lN,List.getElem?_take,if_pos f,List.getElem?_drop]at h1;exact h1
  refine ck (v:=.pointer (some ⟨p,6,none⟩)) (w' :=V) (by simp[go_sem]) ?_;have y:¬(16:Int)<=(j:Int):=by omega
  refine ck (v:=.pointer (some ⟨p,6+j,none⟩)) (w' :=V) (by simp[go_sem,f,y,cC]<;>omega) ?_;refine ck (v:=.int .i64 x.shifts.toList[j]!) (w' :=V) (by simp[go_sem,R,gS]) ?_;rw[getElem!_pos x.shifts.toList j k];refine oF E (U _ (List.getElem_mem k)) (by simp only[List.length_append];omega) λs4 W2 G=>?_;refine ck (v:=.int .i64 ((j+1:Nat):Int)) (w' :=W2) (by simp[go_sem];rw[cV (by omega) (by omega)]) ?_;refine B _ _ ⟨j+1,s4,by omega,rfl,?_⟩ (by show 16 - (((j+1:Nat):Int)).toNat<16 - ((j:Int)).toNat;omega);rw[cQ k,List.flatMap_append,List.flatMap_cons,List.flatMap_nil,List.append_nil,<-List.append_assoc];exact G
 obtain rfl:j=16:=by omega
 refine ck (v:=.bool false) (by simp[go_sem]<;>first|exact⟨rfl,rfl⟩|exact rfl) ?_;rw[ci,if_neg Bool.false_ne_true];have c1:=dw x.credit (by have:=b.2;omega);have c2:=dw x.last (by have:=D.2;omega);refine ck (nQ p _).2.1 (ck (wD (bk E)).1 (ck (nM b.1 b.2 _) ?_));refine ff E ⟨b.1,by have:=b.2;omega⟩ (by simp only[List.length_append];omega) λs5 w5 A=>?_;refine ck (nQ p _).2.2.1 (ck (wD (bk A)).2.1 (ck (iY D _) ?_));refine ff A ⟨D.1,by have:=D.2;omega⟩ (by simp only[List.length_append];omega) λs6 w6 q=>?_;refine ck (nQ p _).2.2.2 (ck (wD (bk q)).2.2 (ck (nM c.1 c.2 _) ?_));refine ff q ⟨c.1,by have:=c.2;omega⟩ (by simp only[List.length_append];omega) λM T t=>?_
 have e:u++(x.shifts.toList.take 16).flatMap dG++cE x.credit++cE x.last++cE x.first=vu x:=by
  rw[h,List.take_of_length_le (by omega)];unfold vu;rw[if_pos Z];simp
 rw[e]at t;exact hK M T (t.pre m1)
set_option maxRecDepth 10000 in
def vJ{x:Int×Od}(B:fq x.1/\x.2.Fit)(z:∀b k,eT w cF k b (jl x)->K b k):Ca Tryz.prog 95 #[sI x] w K:=by
 obtain⟨d,h,c,a,i⟩:=B;apply QV;obtain⟨w1,y,f,A⟩:=BH x w;obtain⟨p,g⟩:∃p,p=w.heap.size:=⟨_,rfl⟩
 rw[<-g]at y f;refine ck y ?_;have bk:∀{W:World} {b:Value} {C:List UInt8},eT w1 cF W b C->qw W p x:=λr=>hpW r f;have P:=dw x.1 (by have:=d.2;omega);have Q:=dw x.2.num (by have:=h.2;omega);have M:=dw x.2.acct (by have:=c.2;omega);have N:=fS a;refine ck (iR p _).1 (ck (ri f) (ck (iY d _) ?_));refine yW ⟨d.1,by have:=d.2;omega⟩ λL R u=>?_;refine ck (iR p _).2 (ck (qH 0 (by omega) p _) (ck (lB (bk u)).1 ?_));refine ff u ⟨h.1,by have:=h.2;omega⟩ (by omega) λO G j=>?_;refine ck (iR p _).2 (ck (qH 1 (by omega) p _) (ck (lB (bk j)).2.1 (ck (iY c _) ?_)));refine ff j ⟨c.1,by have:=c.2;omega⟩ (by simp only[List.length_append];omega) λF D o=>?_;refine ck (iR p _).2 (ck (qH 2 (by omega) p _) (ck (lB (bk o)).2.2.1 ?_));refine yJ o (by simp only[List.length_append];omega) λT S t=>?_;refine ck (iR p _).2 (ck (qH 3 (by omega) p _) (ck (lB (bk t)).2.2.2.1 ?_));refine oF t a (by simp only[List.length_append,eK,List.length_singleton];omega) λE H n=>?_;refine ck (iR p _).2 (ck (qH 4 (by omega) p _) (ck (lB (bk n)).2.2.2.2 ?_));refine oF n i (by simp only[List.length_append,eK,List.length_singleton];omega) λJ I q=>?_;have e:cE x.1++cE x.2.num++cE x.2.acct++eK x.2.buy++dG x.2.price++dG x.2.left=jl x:=by unfold jl;simp only[List.append_assoc]
 rw[e]at q;exact z _ _ (q.pre A)
end
section
variable{w:World}{K:cm}
set_option maxRecDepth 10000 in
def Cn{s:Sp}{n:Int}(F:s.Fit)(c:∀i,cl (λ_=>False) w i->K (.bool (s.isQty n)) i):Ca Tryz.prog 172 #[.agg (dl s).toArray,.int .i64 n] w K:=by
 apply PB;obtain⟨p,e⟩:∃p,p=w.heap.size:=⟨_,rfl⟩
 have y:cl (λ_=>False) w (w.alloc (.cells (dl s).toArray 38)):=(cl.refl _ w).alloc _;refine ck (v:=.pointer (some ⟨p,0,none⟩)) (w' :=w.alloc (.cells (dl s).toArray 38)) (by rw[e];rfl) ?_;have t:jZ (w.alloc (.cells (dl s).toArray 38)) p (dl s):=by show hp _ _=_;rw[e];simp[go_sem]
 generalize w.alloc (.cells (dl s).toArray 38)=g at y t|-;have md:=(cl.refl (λ_=>False) g).drew;have l:jZ g.drew p (dl s):=md.hpk t id;have z:=y.trans md;generalize g.drew=I at l z|-;refine eX (dl s) 24 uS sm (cL _) (At.all l) ?_;refine sZ F λC u=>?_;have x:jZ C p (dl s):=u.hpk l id;have k:=z.trans u;unfold Sp.isQty at c;cases a:s.may with
 |false=>
  rw[a]at c;rw[ci,if_neg Bool.false_ne_true];exact c _ k
 |true=>
 rw[a,Bool.true_and]at c;rw[ci,if_pos rfl];refine jE ?_;cases j:cy n 1 1000000 with
 |false=>
  rw[j]at c;rw[ci,if_neg Bool.false_ne_true];exact c _ k
 |true=>
 rw[j,Bool.true_and]at c;rw[ci,if_pos rfl];have H:=of_decide_eq_true j
 have d:0<s.lot:=by
  have:=sR s;rw[a]at this;have:=((Bool.and_eq_true ..).mp this.symm).1;unfold Sp.pre at this;simp only[Bool.and_eq_true]at this;have:=of_decide_eq_true this.2.2.2.1;omega
 have r:¬s.lot=0:=by omega
 obtain⟨A,B,E,f⟩:=tB d (show 0<=n by omega);generalize D:n.tdiv s.lot=q at A B E f;refine cq (λW=>(nQ p W).1 3 (by omega)) (cx (xl x).2.2.2.1 ?_);refine cq (v:=.int .i64 q) (λW=>by simp[go_sem,r,D];try rw[cV (by omega) (by omega)]) ?_;refine cq (λW=>(nQ p W).1 3 (by omega)) (cx (xl x).2.2.2.1 ?_);have o:0<=q*s.lot:=Int.mul_nonneg A (by omega);generalize G:q*s.lot=m at B f o;refine cq (v:=.int .i64 m) (λW=>by simp[go_sem,G];rw[cV (by omega) (by omega)]) ?_
 refine cq (v:=.bool (decide (n.tmod s.lot=0))) (λW=>by
  by_cases b:m=n
  ·simp[go_sem,b,f.1 b]
  ·have:¬n.tmod s.lot=0:=λh=>b (f.2 h);simp[go_sem,b,this]) ?_
 exact c _ k
abbrev I8:TypeId:=166
def Hl(c l:Nat)(sB sD:Value)(nx:Int):Array Value:=#[pt c,pt l,sB,sD,.int .u64 nx]
abbrev Ap(w:World)(v c l:Nat)(sB sD:Value)(nx:Int):Prop:=hp w v=some (.cells (Hl c l sB sD nx) I8 (0,0))
def rf(v:Nat)(i:Nat)(hi:i<5)(W:World):(Instr.fieldAt I8 (pt v) i).run Tryz.prog W=.ok (.pointer (some ⟨v,i,none⟩)) W:=by
 rcases(show i=0\/i=1\/i=2\/i=3\/i=4 by omega)with rfl|rfl|rfl|rfl|rfl<;>simp[go_sem]
def uI{v c l:Nat}{e d:Value}{nx:Int}(h:Ap w v c l e d nx)(h1:∃a n c,e=.slice a n c)(f:∃a n c,d=.slice a n c):(Instr.loadAt 157 (.pointer (some ⟨v,0,none⟩))).run Tryz.prog w=.ok (pt c) w/\(Instr.loadAt 160 (.pointer (some ⟨v,1,none⟩))).run Tryz.prog w=.ok (pt l) w/\
  (Instr.loadAt 163 (.pointer (some ⟨v,2,none⟩))).run Tryz.prog w=.ok e w/\(Instr.loadAt 164 (.pointer (some ⟨v,3,none⟩))).run Tryz.prog w=.ok d w/\(Instr.loadAt 27 (.pointer (some ⟨v,4,none⟩))).run Tryz.prog w=.ok (.int .u64 nx) w:=by
 obtain⟨m,k,g,rfl⟩:=h1;obtain⟨i,o,j,rfl⟩:=f;have b:hp w v=some (.cells #[pt c,pt l,.slice m k g,.slice i o j,.int .u64 nx] I8 (0,0)):=h;exact⟨by simp[go_sem,b],by simp[go_sem,b],by simp[go_sem,b],by simp[go_sem,b],by simp[go_sem,b]⟩
def wN(L:List Ct)(n:Int):match BM L n with
  |none=>ek L n=none
  |some i=>∃h:i<L.length,ek L n=some L[i]:=by
 unfold BM ek;cases a:L.findIdx? λk=>decide (k.spec.num=n)with
 |none=>exact List.find?_eq_none.2 λx e=>by have:=List.findIdx?_eq_none_iff.1 a x e;simpa using this
 |some i=>
  obtain⟨h1,c,d⟩:=List.findIdx?_eq_some_iff_getElem.1 a;exact⟨h1,List.find?_eq_some_iff_getElem.2 ⟨c,i,h1,rfl,λj b=>by simpa using d j b⟩⟩
def EG{W:World}{p:Nat}{x:Int×Od}(h:qw W p x):(Instr.loadAt 2 (.pointer (some ⟨p,1+3,none⟩))).run Tryz.prog W=.ok (.int .i64 x.2.price) W/\(Instr.loadAt 2 (.pointer (some ⟨p,1+4,none⟩))).run Tryz.prog W=.ok (.int .i64 x.2.left) W:=⟨(lB h).2.2.2.1,(lB h).2.2.2.2⟩
set_option maxRecDepth 10000 in
set_option maxHeartbeats 1000000 in
def Bg{v c l:Nat}{sB sD:Value}{F F' :Nat->Prop}{x:Int×Od}{d:Bool}{S:dF}(hv:Ap w v c l sB sD S.next)(h1:∃a n c,sB=.slice a n c)(h2:∃a n c,sD=.slice a n c)
  (hC:pz w c F S.cal.day S.cal.l)(hL:zu w l F' S.led)(hkf:∀k∈S.cal.l,k.Fit)(hx:fq x.1/\x.2.Fit)(hl:S.cal.l.length<=100000)(hla:S.led.all.length<=100000)
  (t:∀w',cl (λ_=>False) w w' ->K (.bool (S.stnd d [] x)) w'):Ca Tryz.prog 87 #[pt v,sI x,.bool d] w K:=by
 apply Ql;unfold pt;obtain⟨w1,e1,b1,m1⟩:=BH x w;obtain⟨p,hp0⟩:∃p,p=w.heap.size:=⟨_,rfl⟩
 rw[<-hp0]at e1 b1;refine ck e1 ?_;have md:=(cl.refl (λ_=>False) w1).drew;have b2:qw w1.drew p x:=md.hpk b1 id;have B:=m1.trans md;generalize w1.drew=I at b2 B|-;have bV:∀{W:World},cl (λ_=>False) I W->Ap W v c l sB sD S.next:=λm=>(B.trans m).hpk hv id;have T:∀{W:World},cl (λ_=>False) I W->qw W p x:=λm=>m.hpk b2 id;rw[cw];refine cq (λW=>rf v 0 (by omega) W) (cx (uI (bV (cl.refl _ _)) h1 h2).1 ?_);refine cq (λW=>(iR p W).1) (cx (ri b2) ?_);refine ow (hC.md0 B) hl ?_
 have o:S.stnd d [] x=(decide (di S.cal.l x.1=0)&& (S.led.stB x.2.acct&& (x.2.may&& ((fE S.cal.l x.1).1.spec.isPrice x.2.price&& ((!d||(fE S.cal.l x.1).1.spec.isQty x.2.left)&& decide (x.2.num<S.next)))))):=by
  unfold dF.stnd;simp
 have z:(S.led.getV x.2.acct).2≠0->S.led.stB x.2.acct=false:=λh=>by
  unfold dM.getV at h;unfold dM.stB;cases hg:S.led.getO x.2.acct with
  |none=>rfl
  |some a=>
   rw[hg]at h;simp at h
 have u:(S.led.getV x.2.acct).2=0->S.led.stB x.2.acct=(!(S.led.getV x.2.acct).1.dfl&& !(S.led.getV x.2.acct).1.kil):=λh=>by
  unfold dM.getV at h|-;unfold dM.stB;cases hg:S.led.getO x.2.acct with
  |none=>rw[hg]at h;exact absurd h (by rw[if_pos rfl];decide)
  |some a=>rfl
 have f:=wN S.cal.l x.1;obtain⟨A,hA⟩:∃A,A=S.led.getV x.2.acct:=⟨_,rfl⟩
 rw[<-hA]at z u;refine cB.at (λst W=>∃q,st=(pt q,.int .i64 A.2,())/\zr W q A.1/\cl (λ_=>False) I W) ?_ ?_
 ·have J:=(cl.refl (λ_=>False) I).drew;generalize I.drew=w3 at J|-;rw[cw];refine cq (λW=>rf v 1 (by omega) W) (cx (uI (bV J) h1 h2).2.1 ?_);refine cq (λW=>(iR p W).2) (cq (λW=>qH 1 (by omega) p W) (cx (lB (T J)).2.1 ⟨?_,?_⟩))
  ·refine By (hL.modF (B.trans J)) (by omega) λw4 m4=>?_;rw[<-hA];refine cq (v:=gR A.1) (λW=>by simp[go_sem]) (cq (v:=.int .i64 A.2) (λW=>by simp[go_sem]) ?_);obtain⟨w5,e5,U,G⟩:=wk w4;refine ck e5 ?_;obtain⟨N,e6,M,m6⟩:=xp A.1 U;refine dI e6 ?_;exact⟨_,rfl,M,(J.trans m4).trans (G.on m6 λy hy=>.inr (by omega))⟩
  ·obtain⟨w5,e5,U,G⟩:=wk w3;refine ck e5 ?_;have H:=J.trans G;refine⟨(lB (T H)).2.1,(uI (bV H) h1 h2).2.1,?_⟩;refine By (hL.modF (B.trans H)) (by omega) λw4 m4=>?_;rw[<-hA];refine cq (v:=gR A.1) (λW=>by simp[go_sem]) (cq (v:=.int .i64 A.2) (λW=>by simp[go_sem]) ?_);obtain⟨N,e6,M,m6⟩:=xp A.1 (m4.hpk U id);refine dI e6 ?_;exact⟨_,rfl,M,J.trans ((G.trans m4).on m6 λy hy=>.inr (by omega))⟩
 rintro _ W ⟨q,rfl,bA,mW⟩;unfold Jv;intro _;obtain⟨Q,hQ⟩:∃Q:Prop,Q=(∃k,ek S.cal.l x.1=some k/\S.led.stB x.2.acct=true/\x.2.may=true/\x.2.num<S.next):=⟨_,rfl⟩
 refine cB.at (λst W' =>∃D:Bool,st=(.bool D,())/\cl (λ_=>False) I W' /\(D=true->S.stnd d [] x=false)/\(D=false->Q)) ?_ ?_
 ·have O:=mW.drew;have P:zr W.drew q A.1:=((cl.refl (λ_=>False) W).drew).hpk bA id;generalize W.drew=V at O P|-;have no:∀(X:World),cl (λ_=>False) I X->S.stnd d [] x=false->∃D:Bool,((Value.bool true,()):Value×Unit)=(.bool D,())/\cl (λ_=>False) I X/\(D=true->S.stnd d [] x=false)/\(D=false->Q):=λX m h=>⟨true,rfl,m,λ_=>h,λh=>(by cases h)⟩
  cases j:BM S.cal.l x.1 with
  |none=>
   rw[j]at f;have e:kP S.cal.l x.1= -1:=by unfold kP;rw[j]
   rw[e];refine cq (v:=.bool true) (λW=>by simp[go_sem]) ?_;rw[ci,if_pos rfl];exact no _ O (by rw[o];unfold di;simp only at f;rw[f];rfl)
  |some i=>
  rw[j]at f;obtain⟨E,g⟩:=f;have e:kP S.cal.l x.1=(i:Int):=by unfold kP;rw[j]
  rw[e];refine cq (v:=.bool false) (λW=>by simp[go_sem]) ?_;rw[ci,if_neg Bool.false_ne_true];by_cases C:A.2=0
  rotate_left
  ·refine cq (v:=.bool true) (λW=>by simp[go_sem,C]) ?_;rw[ci,if_pos rfl];exact no _ O (by rw[o,z C];simp)
  refine cq (v:=.bool false) (λW=>by simp[go_sem,C]) ?_;rw[ci,if_neg Bool.false_ne_true];have hB:=u C;refine cq (λW=>uL 3 (by omega) q W) (cx (qU P).2 ?_);cases hdf:A.1.dfl with
  |true=>
   rw[ci,if_pos rfl];exact no _ O (by rw[o,hB,hdf];simp)
  |false=>
  rw[ci,if_neg Bool.false_ne_true];refine cq (λW=>uL 2 (by omega) q W) (cx (qU P).1 ?_);cases hki:A.1.kil with
  |true=>
   rw[ci,if_pos rfl];exact no _ O (by rw[o,hB,hki];simp)
  |false=>
  rw[ci,if_neg Bool.false_ne_true];refine cq (λW=>(iR p W).2) (cx (Gs (T O)) ?_);refine yU hx.2 λw5 G=>?_;have H:=O.trans G;refine cq (v:=.bool (!x.2.may)) (λW=>by simp[go_sem]) ?_;cases s:x.2.may with
  |false=>
   rw[show(!false)=true from rfl,ci,if_pos rfl];exact no _ H (by rw[o,s];simp)
  |true=>
  rw[show(!true)=false from rfl,ci,if_neg Bool.false_ne_true];refine cq (λW=>(iR p W).2) (cq (λW=>qH 0 (by omega) p W) (cx (lB (T H)).1 ?_));rw[cw];refine cq (λW=>rf v 4 (by omega) W) (cx (uI (bV H) h1 h2).2.2.2.2 ?_);refine cq (v:=.bool (decide (S.next<=x.2.num))) (λW=>by simp[go_sem]) ?_;refine⟨_,rfl,H,λh=>?_,λh=>hQ▸⟨_,g,by rw[hB,hdf,hki];rfl,s,?_⟩⟩
  ·have:=of_decide_eq_true h;rw[o,decide_eq_false (p:=x.2.num<S.next) (by omega)];simp
  ·have:=of_decide_eq_false h;omega
 rintro _ V ⟨D,rfl,mV,hbt,hbf⟩;unfold Jd;intro _;cases D with
 |true=>
  rw[ci,if_pos rfl];rw[hbt rfl]at t;exact t _ (B.trans mV)
 |false=>
 rw[ci,if_neg Bool.false_ne_true,cw];obtain⟨k0,hk0,hstb,s,hnum⟩:∃k,ek S.cal.l x.1=some k/\S.led.stB x.2.acct=true/\x.2.may=true/\x.2.num<S.next:=hQ▸hbf rfl;cases j:BM S.cal.l x.1 with
 |none=>rw[j]at f;simp only at f;rw[hk0]at f;cases f
 |some i=>
 rw[j]at f;obtain⟨E,g⟩:=f;have e:kP S.cal.l x.1=(i:Int):=by unfold kP;rw[j]
 rw[e];have L:(S.cal.l[i]).Fit:=hkf _ (List.getElem_mem E);obtain⟨k,hk⟩:∃k,k=S.cal.l[i]:=⟨_,rfl⟩
 rw[<-hk]at g L
 have Y:S.stnd d [] x=(decide (k.st≠3)&& (k.spec.isPrice x.2.price&& (!d||k.spec.isQty x.2.left))):=by
  have e1:(fE S.cal.l x.1).1=k:=by unfold fE;rw[g]
  have e2:decide (di S.cal.l x.1=0)=decide (k.st≠3):=by
   unfold di;rw[g];by_cases R:k.st=3<;>simp[R]
  rw[o,e1,e2,hstb,s,decide_eq_true hnum];simp
 rw[Y]at t;obtain⟨sl,fl,-,ls,hR,-,ln⟩:=(hC.md0 (B.trans mV)).ld;refine ck (rf v 0 (by omega) _) (ck (uI (bV mV) h1 h2).1 ?_);rw[cw];obtain⟨b,off,cap,hse,hcap,Z⟩:=hR.item cX E rfl;rw[<-hk]at Z;refine ck (fl 1 (by omega) _) (ck ls (ck (v:=.pointer (some ⟨b,off+i*27,none⟩)) (w' :=V) (by rw[hse];simp[go_sem,E,cC,AI]) ?_));refine ey (dN k) 26 zV xz (cX k) Z ?_;refine nE _ λw5 U G=>?_;obtain⟨r,hr0⟩:∃r,r=V.heap.size:=⟨_,rfl⟩
 rw[<-hr0]at U|-;refine wW (k' :=k) U λN M m6=>?_;have M6' :cl (λ_=>False) V N:=G.on m6 λy hy=>.inr (by omega);have M6:=mV.trans M6';refine ck (kx r N).2.1 (ck (nz M) ?_);refine ck (v:=.bool (decide (k.st≠3))) (w' :=N) (by by_cases R:k.st=3<;>simp[go_sem,R]) ?_;by_cases R:k.st=3
 ·rw[decide_eq_false (by simpa using R)]at t|-;rw[ci,if_neg Bool.false_ne_true];exact t _ (B.trans M6)
 rw[decide_eq_true R]at t|-;rw[ci,if_pos rfl];rw[Bool.true_and]at t;refine ck (kx r N).1 (ey (dl k.spec) 24 uS sm (cL _) (kz (At.all M)) ?_);refine ck (iR p N).2 (ck (qH 3 (by omega) p _) (ck (EG (T M6)).1 ?_));refine ot L.1 λw7 m7=>?_;have M7:=M6.trans m7;have b7:sM w7 r k:=m7.hpk M id;cases hpr:k.spec.isPrice x.2.price with
 |false=>
  rw[hpr]at t;rw[ci,if_neg Bool.false_ne_true];exact t _ (B.trans M7)
 |true=>
 rw[hpr,Bool.true_and]at t;rw[ci,if_pos rfl];refine ck (v:=.bool (!d)) (w' :=w7) (by simp[go_sem]) ?_;cases d with
 |false=>
  rw[show(!false)=true from rfl,ci,if_pos rfl];exact t _ (B.trans M7)
 |true=>
 rw[show(!true)=false from rfl,ci,if_neg Bool.false_ne_true];refine ck (kx r w7).1 (ey (dl k.spec) 24 uS sm (cL _) (kz (At.all b7)) ?_);refine ck (iR p w7).2 (ck (qH 4 (by omega) p _) (ck (EG (T M7)).2 ?_));refine Cn L.1 λw8 m8=>?_;exact t _ (B.trans (M7.trans m8))
end
end Go.Proofs
