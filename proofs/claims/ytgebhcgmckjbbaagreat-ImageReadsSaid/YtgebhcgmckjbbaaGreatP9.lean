/- Part of a proof. -/
import Derived.Test.YtgebhcgmckjbbaaGreatP8
set_option linter.all false
namespace Go.Proofs
open Go Go.Vc Go.Sort
def IQ{d l:List Ac}(c:qm l)(hp:d.Perm l)(j:d.Pairwise λx y=>ltOf sy y x=false):d=l:=by
 refine hp.eq_of_pairwise (λa b k n h1 g=>?_) j (c.imp λh=>?_)
 ·rw[FG]at h1 g;simp only[decide_eq_false_iff_not]at h1 g;have f:=hp.mem_iff.1 k;have e:a.num=b.num:=by omega
  have i:=dM.find_some (S:=⟨0,l,[]⟩) c f;have m:=dM.find_some (S:=⟨0,l,[]⟩) c n;rw[e,m]at i;exact(Option.some.inj i).symm
 ·rw[FG];simp only[decide_eq_false_iff_not];omega
def I3{d l:List Po}(f:kZ l)(hp:d.Perm l)(j:d.Pairwise λx y=>ltOf qu y x=false):d=l:=by
 refine hp.eq_of_pairwise (λa b k n h1 c=>?_) j (f.imp λh=>?_)
 ·rw[Gn]at h1 c;have g:=hp.mem_iff.1 k
  have e:a.key=b.key:=by
   rcases BV a.key b.key with h|h|h
   ·rw[h]at c;cases c
   ·exact h
   ·rw[h]at h1;cases h1
  have i:=dM.pos_some (S:=⟨0,[],l⟩) f g;have m:=dM.pos_some (S:=⟨0,[],l⟩) f n;rw[e,m]at i;exact(Option.some.inj i).symm
 ·rw[Gn];exact vD h
def EM{e ty g:TypeId}{k a:Nat}{α:Type}{enc:α->List Value}{w:World}{v:Value}{d:List α}{x:α}{K:cm}(i:Tryz.prog.underlying g=some (.slice e))(q:eO Tryz.prog e (k+1) a=true)(r:(enc x).length=k+1)(h1:(enc x).all (·.oneCell')=true)(E:k<1000)(l:a<=10000)
  (z:d7 w e (k+1) v d.length (d.flatMap enc))(D:d.length<4294967296)
  (y:∀f c,d7 c e (k+1) f (d++[x]).length ((d++[x]).flatMap enc)->cl (cv v) w c->(∀b,cv f b->cv v b\/w.heap.size<=b)->K f c):
  rx Tryz.prog (dQ g 1 [(0,.agg (enc x).toArray)]) w λp j=>rx Tryz.prog (cx #[g,g] ty [v,p]) j K:=by
 refine fE (e:=e) (sz:=k+1) [.agg (enc x).toArray] i (cK q) rfl rfl (by simp[Value.cells,r]) (by omega) ?_;have s:∀o,cl (λ_=>False) w (w.alloc o):=λo=>(cl.refl _ w).alloc o
 have A:Rd (w.alloc (.cells (([Value.agg (enc x).toArray].flatMap (·.cells.toList)).toArray) e)) (k+1) (.slice (some ⟨w.heap.size,0,none⟩) 1 1) 1 (enc x):=by
  refine⟨by rw[r];omega,.inr ⟨_,0,1,rfl,Nat.le_refl _,⟨_,_,_,by rw[cU,if_pos rfl],?_,?_⟩⟩⟩
  ·simp[Value.cells]
  ·simp[Value.cells]
 refine dz (n:=d.length) (m:=1) i i (cK q) (z.mod (s _) λ_ _ h=>h) A h1 ?_ λf c B C t=>?_
 ·have:(d.length+1)*a<=4294967296*10000:=Nat.mul_le_mul (by omega) l;omega
 ·refine y f c ?_ (((s _).mono λ_ _ h=>h.elim).trans C) λb u=>?_
  ·simpa using B
  ·rcases t b u with h|h
   ·exact .inl h
   ·rw[World.size_alloc]at h;exact .inr (by omega)
def Qr:Tryz.prog.underlying 44=some (.slice 92):=by kernel_rfl
def MM:Tryz.prog.underlying 46=some (.slice 112):=by kernel_rfl
def zR{l b:Nat}{S:dM}{T:TypeId}:ud Tryz.prog (.func (.func 138) #[] #[.pointer (some ⟨b,0,none⟩)]) (S.all.map λa=>[ii a]) (λW=>hp W b=some (.cells #[dn l] T (0,0))/\∃F,iF W l F S):=by
 refine⟨⟨_,_,_,rfl,?_⟩⟩;rintro y J Js W K ⟨c,F,hq⟩ hQ I w H hex;have hq0:=hq;obtain⟨⟨t,m2,A,B,h1,X,h3,h4,h5,h6,h7⟩,j⟩:=hq;show Ca Tryz.prog _ #[y,.pointer (some ⟨b,0,none⟩)] W K;apply PW;refine cy.at (λs f=>∃(d:List Ac) (v:Value),s=(v,())/\d7 f 92 4 v d.length (d.flatMap cM)/\d.Perm S.all/\cl (λ_=>False) W f/\∀b,cv v b->W.heap.size<=b) ?_ ?_
 ·simp[go_sem,cN c];refine lH hq0 ?_;simp[go_sem,cN c,dn,cN h1];refine kN lP X λw1 O L=>?_;generalize hg:W.heap.size=q at O
  refine jR (λs f=>∃(d:List Ac) (v:Value) (rest:List (Int×Ac)),s=(v,())/\d7 f 92 4 v d.length (d.flatMap cM)/\fN d9 ii f q t rest/\(d++(rest.filter λp=>decide (p.1≠0)).map (·.2)).Perm S.all/\cl (λ_=>False) W f/\∀b,cv v b->q<b)
   (λs W=>jw q t W) ⟨[],_,A,rfl,d7.nil ..,O,?_,L,λb c=>by cases c⟩ ?_
  ·have:=(h4.filter λp=>decide (p.1≠0)).map (·.2);refine this.trans (List.Perm.of_eq ?_);simp only[dM.accs];rw[List.filter_cons_of_neg (by simp),List.filter_eq_self.2 ?_,List.map_map]
   ·exact List.map_id _
   ·intro p hp;obtain⟨a,ha,rfl⟩:=List.mem_map.1 hp;have:=(j.acc a ha).1;simp;omega
  rintro⟨v,_⟩ W1 ⟨d,_,rest,⟨⟩,R,u,hp,V,g⟩ KN E;unfold Gd;intro _;refine mR u ?_ ?_
  ·intro h0 C P hh;subst h0;simp[go_sem];exact⟨d,R.mod P λ_ _ h=>h,by simpa using hp,V.trans P,λb c=>by have:=g b c;omega⟩
  ·intro i p hi C it' D P Y;simp[go_sem];refine kG D ?_;simp[go_sem,ii,d9];have M:=iy hi;have U:∀o,cl (λ_=>False) W (C.alloc o):=λo=>(V.on P λb c=>.inr (by subst c;omega)).alloc o;have m:∀o,fN d9 ii (C.alloc o) q t (rest.eraseIdx i):=λo=>it'.mod ((cl.refl (λ_=>False) C).alloc o) id id;have oA:∀o,d7 (C.alloc o) 92 4 v d.length (d.flatMap cM):=λo=>(R.mod P λb c e=>by have:=g b c;omega).mod ((cl.refl (λ_=>False) C).alloc o) λ_ _ h=>h
   have G:∀f,fN d9 ii f q t (rest.eraseIdx i)->jw q t f<jw q t W1:=λf h=>by
    rw[h.left,u.left,List.length_eraseIdx];have:i<rest.length:=(List.getElem?_eq_some_iff.1 hi).1;rw[if_pos this];omega
   have hdl:d.length<=64:=by
    have h1:=hp.length_eq;have X:=j.len;simp only[List.length_append]at h1;omega
   by_cases Q:p.1=0
   ·rw[if_pos Q];refine E _ _ ⟨d,_,_,rfl,oA _,m _,?_,U _,g⟩ (G _ (m _));refine(List.Perm.append_left d ?_).trans hp;have:=(M.filter λp=>decide (p.1≠0)).map (·.2);rw[List.filter_cons_of_neg (by simp[Q])]at this;exact this.symm
   ·rw[if_neg Q];refine EM (d:=d) (enc:=cM) (x:=p.2) (k:=3) Qr Pc rfl rfl (by omega) (by omega) (oA _) (by omega) λv' w'' o' z n' =>?_;have r:¬cv v q:=λh=>by have:=g q h;omega
    have N:¬cv v t:=λh=>by have:=g t h;have:=X.lt;omega
    refine E _ _ ⟨d++[p.2],v',_,rfl,o',(m _).mod z N r,?_,(U _).on z λb c=>.inr (by have:=g b c;omega),λb c=>?_⟩ (G _ ((m _).mod z N r))
    ·have:=(M.filter λp=>decide (p.1≠0)).map (·.2);rw[List.filter_cons_of_pos (by simpa using Q),List.map_cons]at this;rw[List.append_assoc];exact(List.Perm.append_left d this.symm).trans hp
    ·rcases n' b c with h|h
     ·exact g b h
     ·rw[World.size_alloc,Y]at h;have:=u.lt.2;omega
 rintro _ W1 ⟨d,v,rfl,R,hp,V,g⟩;unfold Hs;intro _
 have hdl:d.length<=64:=by
  have h1:=hp.length_eq;have X:=j.len;omega
 refine Di R (by omega) λw2 d' o2 p2 s2 m2' =>?_;obtain rfl:d' =S.all:=IQ j.sa (p2.trans hp) s2;obtain⟨sa,sc,rfl,hsc⟩:=o2.isSl;apply On;simp[go_sem];have mW2:cl (λ_=>False) W w2:=V.on m2' λb c=>.inr (g b c);have U:∀o,cl (λ_=>False) W (w2.alloc o):=λo=>mW2.alloc o;refine Aq (n:=d.length) (sl:=.slice sa d.length sc) (T:=44) (J (cv (.slice sa d.length sc))) Js (by simp[go_sem]) (o2.mod ((cl.refl (λ_=>False) w2).alloc _) λ_ _ h=>h) (by omega) (hQ _ _ (U _) λb c=>⟨g b c,?_⟩) (I _) ?_ ?_ hex
 ·have:=o2.lt c;rw[World.size_alloc];omega
 ·intro i x f hx Z K' hT hF;exact w _ i [ii x] f (by simp[hx]) Z K' hT hF
 ·intro f Z;exact H _ f (by simpa using Z)
def JT{l b b2 f:Nat}{cap:Array Value}{S:dM}{T T2:TypeId}{want:Po->Bool}{Wk:World->Prop}(hWk:∀W g,Wk W->cl (λ_=>False) W g->Wk g)
  (M:∀p W (K:cm),Wk W->(∀g,cl (λ_=>False) W g->K (.bool (want p)) g)->Ca Tryz.prog f ⟨lK p::cap.toList⟩ W K):
  ud Tryz.prog (.func (.func 232) #[] #[.pointer (some ⟨b,0,none⟩),.pointer (some ⟨b2,0,none⟩)]) ((S.held.filter want).map λa=>[lK a])
   (λW=>hp W b=some (.cells #[dn l] T (0,0))/\hp W b2=some (.cells #[.func (.func f) #[] cap] T2 (0,0))/\Wk W/\S.held.length<4294967295/\∃F,iF W l F S):=by
 refine⟨⟨_,_,_,rfl,?_⟩⟩;rintro y J Js W K ⟨c,G,hwk,hlen,F,hq⟩ hQ Z E Y hex;have hq0:=hq;obtain⟨⟨m1,u,A,B,h1,h2,h3,h4,h5,h6,h7⟩,hok⟩:=hq;show Ca Tryz.prog _ #[y,.pointer (some ⟨b,0,none⟩),.pointer (some ⟨b2,0,none⟩)] W K;apply OA;refine cy.at (λs g=>∃(d:List Po) (v:Value),s=(v,())/\d7 g 112 4 v d.length (d.flatMap cL)/\d.Perm (S.held.filter want)/\cl (λ_=>False) W g/\∀b,cv v b->W.heap.size<=b) ?_ ?_
 ·simp[go_sem,cN c];refine lH hq0 ?_;simp[go_sem,cN c,dn,cN h1];refine kN BI h3 λw1 it1 mod1=>?_;generalize hg:W.heap.size=r at it1
  refine jR (λs g=>∃(d:List Po) (v:Value) (rest:List ((Int×Int)×Po)),s=(v,())/\d7 g 112 4 v d.length (d.flatMap cL)/\fN eU lK g r u rest/\(d++(rest.map (·.2)).filter want).Perm (S.held.filter want)/\cl (λ_=>False) W g/\∀b,cv v b->r<b)
   (λs W=>jw r u W) ⟨[],_,B,rfl,d7.nil ..,it1,?_,mod1,λb c=>by cases c⟩ ?_
  ·have:=(h5.map (·.2)).filter want;refine this.trans (List.Perm.of_eq ?_);simp only[dM.poss,List.map_map];congr 1;exact List.map_id _
  rintro⟨v,_⟩ W1 ⟨d,_,rest,⟨⟩,oW,D,q,N,m⟩ KN R;unfold Fy;intro _;refine mR D ?_ ?_
  ·intro h0 L O hh;subst h0;simp[go_sem];exact⟨d,oW.mod O λ_ _ h=>h,by simpa using q,N.trans O,λb c=>by have:=m b c;omega⟩
  ·intro i p hi L it' Q O hsz;simp[go_sem];refine kG Q ?_;have V:∀o,cl (λ_=>False) W (L.alloc o):=λo=>(N.on O λb c=>.inr (by subst c;omega)).alloc o;have hb2' :=λo=>(V o).keep G id
   have hne2:b2≠L.heap.size:=by
    have h1:=cn G;have h2:=N.size;omega
   have hb2w:L.heap[b2]? =some (.cells #[.func (.func f) #[] cap] T2 (0,0)):=(N.on (F:=λ_=>False) O λb c=>.inr (by subst c;omega)).keep G id;simp[go_sem,lK,eU,cN hb2w,hne2];have hpe:=iy hi;generalize z:World.alloc _ _=w;have mA:cl (λ_=>False) W w:=by subst z;exact V _
   have U:hp w L.heap.size=some (.cells #[.int .u32 p.2.c,.int .u32 p.2.a,.int .i64 p.2.q,.int .i64 p.2.b] 112 (0,0)):=by subst z;simp[go_sem]
   have m02:cl (λ_=>False) L w:=by subst z;exact(cl.refl _ L).alloc _
   refine M p.2 w _ (hWk _ _ hwk mA) λw3 m3=>?_;have C:=m3.keep U id;have I:=m02.trans m3;have P:=mA.trans m3;have j:fN eU lK w3 r u (rest.eraseIdx i):=it'.mod I id id;have o3:d7 w3 112 4 v d.length (d.flatMap cL):=(oW.mod O λb c e=>by have:=m b c;omega).mod I λ_ _ h=>h
   have X:∀g,fN eU lK g r u (rest.eraseIdx i)->jw r u g<jw r u W1:=λg h=>by
    rw[h.left,D.left,List.length_eraseIdx];have:i<rest.length:=(List.getElem?_eq_some_iff.1 hi).1;rw[if_pos this];omega
   have hdl:d.length<4294967295:=by
    have h1:=q.length_eq;have h2:=List.length_filter_le want S.held;simp only[List.length_append]at h1;omega
   cases hz:want p.2
   ·simp;refine R _ _ ⟨d,_,_,rfl,o3,j,?_,P,m⟩ (X _ j);refine(List.Perm.append_left d ?_).trans q;have:=(hpe.map (·.2)).filter want;rw[List.map_cons,List.filter_cons_of_neg (by simp[hz])]at this;exact this.symm
   ·simp[go_sem,cN C];refine EM (d:=d) (enc:=cL) (x:=p.2) (k:=3) MM Mi rfl rfl (by omega) (by omega) o3 (by omega) λv' w'' o' H n' =>?_;have t:¬cv v r:=λh=>by have:=m r h;omega
    have hmv:¬cv v u:=λh=>by have:=m u h;have:=h3.lt;omega
    refine R _ _ ⟨d++[p.2],v',_,rfl,o',j.mod H hmv t,?_,P.on H λb c=>.inr (by have:=m b c;omega),λb c=>?_⟩ (X _ (j.mod H hmv t))
    ·have:=(hpe.map (·.2)).filter want;rw[List.map_cons,List.filter_cons_of_pos (by simpa using hz)]at this;rw[List.append_assoc];exact(List.Perm.append_left d this.symm).trans q
    ·rcases n' b c with h|h
     ·exact m b h
     ·have:=j.lt.2;have:=I.size;have:=D.lt.2;omega
 rintro _ W1 ⟨d,v,rfl,oW,hp,N,m⟩;unfold Gv;intro _
 have hdl:d.length<4294967295:=by
  have h1:=hp.length_eq;have h2:=List.length_filter_le want S.held;omega
 refine DJ oW (by omega) λw d' o2 p2 s2 m2' =>?_;obtain rfl:d' =S.held.filter want:=I3 (hok.sp.filter want) (p2.trans hp) s2;obtain⟨sa,sc,rfl,hsc⟩:=o2.isSl;apply Qf;simp[go_sem];have mW2:cl (λ_=>False) W w:=N.on m2' λb c=>.inr (m b c);have mA:∀o,cl (λ_=>False) W (w.alloc o):=λo=>mW2.alloc o;refine Au (n:=d.length) (sl:=.slice sa d.length sc) (T:=46) (J (cv (.slice sa d.length sc))) Js (by simp[go_sem]) (o2.mod ((cl.refl (λ_=>False) w).alloc _) λ_ _ h=>h) (by omega) (hQ _ _ (mA _) λb c=>⟨m b c,?_⟩) (Z _) ?_ ?_ hex
 ·have:=o2.lt c;rw[World.size_alloc];omega
 ·intro i x g hx hJ K' hT hF;exact E _ i [lK x] g (by simp[hx]) hJ K' hT hF
 ·intro g hJ;exact Y _ g (by simpa using hJ)
structure yr(gv:Value)(xs:List (List Value))(w:World):Prop where
 out:∃Ok,ud Tryz.prog gv xs Ok/\∀W,cl (λ_=>False) w W->Ok W
 fn:∃f cap,gv=.func (.func f) #[] cap
def ol{w:World}{l:Nat}{F:Nat->Prop}{S:dM}{K:cm}(h:iF w l F S)
  (d:∀gv c,yr gv (S.all.map λa=>[ii a]) c->cl (λ_=>False) w c->K gv c):Ca Tryz.prog 55 #[dn l] w K:=by
 apply RC;simp[go_sem,dn];refine d _ _ ⟨⟨_,zR (l:=l) (b:=w.heap.size) (T:=62),λW m=>⟨m.keep ?_ id,F,h.mod (((cl.refl (λ_=>False) w).alloc _).trans m) λ_ _ h=>h⟩⟩,_,_,rfl⟩ ((cl.refl _ w).alloc _);rw[cU,if_pos rfl];rfl
def A9{w:World}{l:Nat}{F:Nat->Prop}{S:dM}{K:cm}{c:Int}(h:iF w l F S)(s:S.held.length<4294967295)
  (j:∀gv i,yr gv ((S.holders c).map λa=>[lK a]) i->cl (λ_=>False) w i->K gv i):Ca Tryz.prog 56 #[dn l,.int .u32 c] w K:=by
 apply QW;simp[go_sem];apply Oq;simp[go_sem,dn];generalize d:World.alloc _ _=e;have k:cl (λ_=>False) w e:=by subst d;exact(((cl.refl _ w).alloc _).alloc _).alloc _
 have q:hp e w.heap.size=some (.cells #[.int .u32 c] 35 (0,0)):=by subst d;simp[go_sem]
 have r:hp e (w.heap.size+1)=some (.cells #[dn l] 62 (0,0)):=by subst d;simp[go_sem,dn]
 have o:hp e (w.heap.size+2)=some (.cells #[.func (.func 143) #[] #[.pointer (some ⟨w.heap.size,0,none⟩)]] 244 (0,0)):=by subst d;simp[go_sem]
 refine j _ _ ⟨⟨_,JT (l:=l) (b:=w.heap.size+1) (b2:=w.heap.size+2) (f:=143) (cap:=#[.pointer (some ⟨w.heap.size,0,none⟩)]) (T:=62) (T2:=244) (Wk:=λW=>hp W w.heap.size=some (.cells #[.int .u32 c] 35 (0,0)))
  (want:=λp=>decide (p.c=c)) (λW u t m=>m.keep t id) ?_,λW m=>⟨m.keep r id,m.keep o id,m.keep q id,s,F,h.mod (k.trans m) λ_ _ h=>h⟩⟩,_,_,rfl⟩ k
 intro p W K n j;apply Qo;have g:=cn n;simp[go_sem,lK,cN n,R7 g];have:=j _ ((cl.refl _ W).alloc (.cells #[.int .u32 p.c,.int .u32 p.a,.int .i64 p.q,.int .i64 p.b] 112));rw[show(p.c==c)=decide (p.c=c) by rw[Bool.eq_iff_iff];simp];exact this
def IP{d:Nat}{ds:List Nat}{w:World}{K:World->Prop}:jC (d::ds) w K↔hp w d=some (.deferred (some []))/\jC ds (w.putObj d (.deferred none)) K:=Iff.rfl
def FB{w:World}{K:World->Prop}:jC [] w K↔K w:=Iff.rfl
end Go.Proofs
namespace Go.Proofs
open Go Go.Vc
attribute [local congr] cq
def Jc{W:World}{K:World->Prop}:∀{ds:List Nat},ds.Nodup->(∀d∈ds,hp W d=some (.deferred (some [])))->(∀a,cl (λb=>b∈ds) W a->K a)->jC ds W K:=by
 intro ds;induction ds generalizing W with
 |nil=>intro _ _ c;exact FB.2 (c W (cl.refl _ _))
 |cons d ds k=>
  intro j f c;obtain⟨h1,h⟩:=List.nodup_cons.1 j;refine IP.2 ⟨f d List.mem_cons_self,k h (λx g=>?_) λa m=>c a ?_⟩
  ·rw[Db,if_neg (λe:x=d=>h1 (e▸g))];exact f x (List.mem_cons_of_mem _ g)
  ·exact((cl.refl (λb=>b∈d::ds) W).putObj (b:=d) (.inl List.mem_cons_self) _).trans (m.mono λb _ i=>List.mem_cons_of_mem _ i)
def Jn{s b:Nat}{buy:Bool}{l:List Od}{T:TypeId}:ud Tryz.prog (.func (.func 236) #[] #[.pointer (some ⟨b,0,none⟩)]) (l.map λo=>[g9 o]) (λW=>hp W b=some (.cells #[cQ s] T (0,0))/\∃F,eM W s F buy l):=by
 refine⟨⟨_,_,_,rfl,?_⟩⟩;rintro y J Js W K ⟨e,F,G⟩ R k c g A;show Ca Tryz.prog _ #[y,.pointer (some ⟨b,0,none⟩)] W K;apply N9;refine ck (v:=cQ s) (w' :=W) (by simp[go_sem,e]) ?_;refine ju G ?_;refine ck (v:=.bool false) (by simp[go_sem]<;>first|exact⟨rfl,rfl⟩|exact rfl) ?_;rw[ci,if_neg Bool.false_ne_true];obtain⟨⟨sl,I,U,c3,c4⟩,c5,c6⟩:=id G;refine ck (v:=cQ s) (w' :=W) (by simp[go_sem,e]) ?_;simp only[cQ,cr];refine ck (by simp[-Int.natCast_add,go_sem,I]<;>first|exact⟨rfl,rfl⟩|exact rfl) ?_;refine ck (by simp[-Int.natCast_add,go_sem,I]<;>first|exact⟨rfl,rfl⟩|exact rfl) ?_;refine pJ (l:=l) U.rd (by omega) λm N w P n2=>?_;obtain⟨sa,sc,z,-⟩:=w.isSl;refine fI (v:=.int .i64 (l.length:Int)) (w' :=N) (by rw[z];simp[go_sem]) ?_;have x:J (cv m) 0 N:=R _ _ P λb e=>⟨n2 b e,w.lt e⟩
 refine dp (λst d=>∃i:Nat,i<=l.length/\st=(.int .i64 i,())/\J (cv m) i d/\kV d m l)
  (λst _=>match st.1 with| .int _ i=>l.length - i.toNat|_=>0) ⟨0,by omega,rfl,x,w⟩ ?_
 rintro⟨_,_⟩ d ⟨i,hi,⟨⟩,L,H⟩ KN r;unfold H8;intro _;by_cases f:i<l.length
 ·have j:(i:Int)<(l.length:Int):=by omega
  refine ck (v:=.bool true) (by simp[go_sem,j]<;>first|exact⟨rfl,rfl⟩|exact rfl) ?_;rw[ci,if_pos rfl];obtain⟨b',D,S,n,B⟩:=H.load f;refine ck (n .i64) (ck B ?_);obtain⟨w3,X,E,Q⟩:=iR d;refine ck X ?_;obtain⟨q,u⟩:∃q,q=d.heap.size:=⟨_,rfl⟩
  rw[<-u]at E|-;obtain⟨C,Y,V,Z⟩:=gA (o' :=l[i]) E;refine dt Y ?_;have O:cl (λ_=>False) d C:=Q.on Z λb e=>.inr (by omega);refine ck (gL (o:=l[i]) (At.all V)) ?_;have p:=H.mod O λ_ _ h=>h;refine c (cv m) i [g9 l[i]] C (by simp[f]) (k _ _ _ _ L O) _ (λM a t=>?_) λM a=>?_
  ·refine ck (v:=.bool false) (by simp[go_sem]<;>first|exact⟨rfl,rfl⟩|exact rfl) ?_;rw[ci,if_neg Bool.false_ne_true];refine ck (v:=.int .i64 ((i+1:Nat):Int)) (w' :=M) (by simp[go_sem];rw[cS (by omega) (by omega)]) ?_;exact r _ _ ⟨i+1,by omega,rfl,a,p.keep t⟩ (by show l.length - (((i+1:Nat):Int)).toNat<l.length - ((i:Int)).toNat;omega)
  ·refine ck (v:=.bool true) (by simp[go_sem]<;>first|exact⟨rfl,rfl⟩|exact rfl) ?_;rw[ci,if_pos rfl];exact A _ a
 ·obtain rfl:i=l.length:=by omega
  refine ck (v:=.bool false) (by simp[go_sem]<;>first|exact⟨rfl,rfl⟩|exact rfl) ?_;rw[ci,if_neg Bool.false_ne_true];exact g _ d (by simpa using L)
def B4{w:World}{K:cm}{s:Nat}{F:Nat->Prop}{buy:Bool}{l:List Od}(h:eM w s F buy l)
  (d:∀gv a,yr gv (l.map λo=>[g9 o]) a->cl (λ_=>False) w a->K gv a):Ca Tryz.prog 146 #[cQ s] w K:=by
 apply NJ;have m0:cl (λ_=>False) w (w.alloc (.cells #[cQ s] 228)):=(cl.refl _ w).alloc _;refine ck (v:=.pointer (some ⟨w.heap.size,0,none⟩)) (w' :=w.alloc (.cells #[cQ s] 228)) (by simp[go_sem,cQ]) ?_;have c:hp (w.alloc (.cells #[cQ s] 228)) w.heap.size=some (.cells #[cQ s] 228 (0,0)):=by simp[go_sem]
 exact d _ _ ⟨⟨_,Jn (s:=s) (b:=w.heap.size) (buy:=buy) (l:=l) (T:=228),λW m=>⟨m.hpk c id,F,h.mod (m0.trans m) λ_ _ h=>h⟩⟩,_,_,rfl⟩ m0
def IY{l:List Int}{B:Int}(h:∀x∈l,0<=x/\x<=B):0<=l.sum/\l.sum<=l.length*B:=by
 induction l with
 |nil=>simp
 |cons x l a=>
  have h1:=h x (by simp);have c:=a λy b=>h y (by simp[b]);rw[List.sum_cons,List.length_cons];have e:((l.length+1:Nat):Int)*B=l.length*B+B:=by rw[Int.natCast_add,Int.add_mul];omega
  rw[e];omega
def ow(l:List Od)(acct:Int):Int:=((l.filter λo=>decide (o.acct≠acct)).map (·.left)).sum
def wy(l:List Od)(o:Od)(acct:Int):ow (l++[o]) acct=ow l acct+(if o.acct≠acct then o.left else 0):=by
 unfold ow;rw[List.filter_append,List.map_append,List.sum_append];congr 1;by_cases h:o.acct=acct<;>simp[h]
def Ju{l:List Od}{acct:Int}(h:∀o∈l,1<=o.left/\o.left<=1000000):0<=ow l acct/\ow l acct<=l.length*1000000:=by
 have h1:=IY (l:=(l.filter λo=>decide (o.acct≠acct)).map (·.left)) (B:=1000000) λx b=>by
  obtain⟨o,a,rfl⟩:=List.mem_map.1 b;have:=h o (List.mem_filter.1 a).1;omega
 rw[List.length_map]at h1;have c:=List.length_filter_le (λo:Od=>decide (o.acct≠acct)) l;unfold ow;omega
def Od.left_bd{o:Od}(h:o.may=true):1<=o.left/\o.left<=1000000:=by
 unfold Od.may at h;simp only[Bool.and_eq_true]at h;exact of_decide_eq_true h.2
def Iz{l:List Od}{p:Od->Bool}{j:Nat}(b:j<l.length)(h:∀o∈l.take j,p o=true)(a:p l[j]=false):l.takeWhile p=l.take j:=by
 induction l generalizing j with
 |nil=>simp at b
 |cons x l d=>
  cases j with
  |zero=>
   simp only[List.getElem_cons_zero]at a;rw[List.takeWhile_cons,a];simp
  |succ j=>
   have e:=h x (by simp);rw[List.takeWhile_cons,e];simp only[if_true,List.take_succ_cons];rw[d (by simpa using b) (λo c=>h o (by simp[c])) (by simpa using a)]
def LG{l:List Od}{p:Od->Bool}(h:∀o∈l,p o=true):l.takeWhile p=l:=by
 induction l with
 |nil=>rfl
 |cons x l b=>
  rw[List.takeWhile_cons,h x (by simp)];simp only[if_true];rw[b λo a=>h o (by simp[a])]
set_option maxRecDepth 10000 in
def Do{w:World}{K:cm}{s:Nat}{F:Nat->Prop}{buy:Bool}{l:List Od}{price acct:Int}(h:eM w s F buy l)
  (hK:∀y,cl (λ_=>False) w y->K (.int .i64 (eJ buy l price acct)) y):Ca Tryz.prog 226 #[cQ s,.int .i64 price,.int .u32 acct] w K:=by
 apply Qm;obtain⟨a,n⟩:∃a,a=w.heap.size:=⟨_,rfl⟩
 have hlay:∃C,((w.alloc (.cells #[cQ s] 228)).alloc (.cells #[.int .i64 price] 2) |>.alloc (.cells #[.int .u32 acct] 35) |>.alloc (.cells #[.int .i64 0] 2))=C/\C.heap.size=a+4/\cl (λ_=>False) w C/\
   hp C a=some (.cells #[cQ s] 228 (0,0))/\hp C (a+1)=some (.cells #[.int .i64 price] 2 (0,0))/\hp C (a+2)=some (.cells #[.int .u32 acct] 35 (0,0))/\hp C (a+3)=some (.cells #[.int .i64 0] 2 (0,0)):=by
  refine⟨_,rfl,by simp[go_sem,n],((((cl.refl _ w).alloc _).alloc _).alloc _).alloc _,?_,?_,?_,?_⟩<;>simp[go_sem,n]
 obtain⟨C,hw4,hsz4,m4,b0,b1,b2,b3⟩:=hlay;refine ck (v:=.pointer (some ⟨a,0,none⟩)) (w' :=w.alloc (.cells #[cQ s] 228)) (by simp[go_sem,cQ,n]) ?_;refine ck (v:=.pointer (some ⟨a+1,0,none⟩)) (w' :=(w.alloc (.cells #[cQ s] 228)).alloc (.cells #[.int .i64 price] 2)) (by simp[go_sem,n]) ?_;refine ck (v:=.pointer (some ⟨a+2,0,none⟩)) (w' :=((w.alloc (.cells #[cQ s] 228)).alloc (.cells #[.int .i64 price] 2)).alloc (.cells #[.int .u32 acct] 35)) (by simp[go_sem,n]) ?_;refine ck (v:=.pointer (some ⟨a+3,0,none⟩)) (w' :=C) (by rw[<-hw4];simp[go_sem,n]) ?_;clear hw4;refine ck (v:=cQ s) (w' :=C) (by simp[go_sem,b0]) ?_;refine B4 (h.mod m4 λ_ _ h=>h) λgv i ht X=>?_;obtain⟨⟨Ok,hit,hOk⟩,f,cap,rfl⟩:=ht;have M5:=m4.trans X;have q5:=h.mod M5 λ_ _ h=>h;have d0:=X.hpk b0 id;have d1:=X.hpk b1 id;have d2:=X.hpk b2 id;have d3:=X.hpk b3 id;have hs5:=X.size;have R:∀b,F b->b<a:=λb g=>by rw[n];exact h.lt g
 let p:Od->Bool:=λo=> !du buy price o.price
 let J:(Nat->Prop)->Nat->World->Prop:=λQ j W=>eM W s F buy l/\hp W a=some (.cells #[cQ s] 228 (0,0))/\hp W (a+1)=some (.cells #[.int .i64 price] 2 (0,0))/\hp W (a+2)=some (.cells #[.int .u32 acct] 35 (0,0))/\
  hp W (a+3)=some (.cells #[.int .i64 (ow (l.take j) acct)] 2 (0,0))/\(∀o∈l.take j,p o=true)/\hp W i.heap.size=some (.deferred (some []))/\cl (λb=>b=a+3) i W/\∀b,Q b->i.heap.size+1<b/\b<W.heap.size
 let Jx:Code->World->Prop:=λc W=>c=.exit 0/\hp W (a+3)=some (.cells #[.int .i64 (eJ buy l price acct)] 2 (0,0))/\hp W i.heap.size=some (.deferred (some []))/\cl (λb=>b=a+3) i W;have e5:∀o,cl (λ_=>False) i ((i.alloc (.deferred (some []))).alloc (.loop o)):=λo=>((cl.refl _ i).alloc _).alloc _
 have fin:∀W o,hp W (a+3)=some (.cells #[.int .i64 (eJ buy l price acct)] 2 (0,0))->hp W i.heap.size=some (.deferred (some []))->cl (λb=>b=a+3) i W->
   rv Tryz.prog (Instr.loadAt 2 (.pointer (some ⟨a+3,0,none⟩))) (W.putObj (i.heap.size+1) (.loop o)) λv52 w53=>
    ru Tryz.prog (Instr.storeAt 2 (.pointer (some ⟨a+3,0,none⟩)) v52) w53 λw54=>
    jC ([i.heap.size]++[]) w54 λw55=>
    sI Tryz.prog (Instr.loadAt 2 (.pointer (some ⟨a+3,0,none⟩))) w55 λv56=>K v56 w55:=by
  intro W o k1 k2 k3;have mp:cl (λb=>b=i.heap.size+1) W (W.putObj (i.heap.size+1) (.loop o)):=(cl.refl (λb=>b=i.heap.size+1) W).putObj (.inl rfl) _;have H:=mp.hpk k1 (by omega);have k2' :=mp.hpk k2 (by omega);generalize W.putObj (i.heap.size+1) (.loop o)=T at mp H k2' |-;refine ck (v:=.int .i64 (eJ buy l price acct)) (w' :=T) (by simp[go_sem,H]) ?_;refine dt (w' :=T.setCell ⟨a+3,0,none⟩ (.int .i64 (eJ buy l price acct))) (by simp[go_sem,H]) ?_;have ms:cl (λb=>b=a+3) T (T.setCell ⟨a+3,0,none⟩ (.int .i64 (eJ buy l price acct))):=(cl.refl (λb=>b=a+3) T).setCell (.inl rfl) _ _;have k3' :hp (T.setCell ⟨a+3,0,none⟩ (.int .i64 (eJ buy l price acct))) (a+3)=some (.cells #[.int .i64 (eJ buy l price acct)] 2 (0,0)):=by simp[go_sem,H]
  have k4' :=ms.hpk k2' (by omega);generalize T.setCell ⟨a+3,0,none⟩ (.int .i64 (eJ buy l price acct))=W2 at ms k3' k4' |-;refine Jc (by simp) (λd hd=>by rw[List.mem_singleton.1 hd];exact k4') λW3 m3=>?_;have k5:=m3.hpk k3' (by simp;omega);refine cB (v:=.int .i64 (eJ buy l price acct)) (by simp[go_sem,k5]) ?_;refine hK _ ((((M5.on k3 λb g=>.inr (by omega)).on mp λb g=>.inr (by omega)).on ms λb g=>.inr (by omega)).on m3 λb g=>.inr ?_);have hb' :b=i.heap.size:=by simpa using g
  omega
 refine HB (xs:=l.map λo=>[g9 o]) hit (by simp) J Jx (λo=>hOk _ (e5 o)) ?_ ?_ ?_ ?_ ?_
 ·intro o Q W mo hQ;have Z:=(e5 o).trans mo;have hd:hp ((i.alloc (.deferred (some []))).alloc (.loop o)) i.heap.size=some (.deferred (some [])):=by simp[go_sem]
  exact⟨q5.mod Z λ_ _ h=>h,Z.hpk d0 id,Z.hpk d1 id,Z.hpk d2 id,Z.hpk d3 id,by simp,mo.hpk hd id,Z.mono λ_ _ h=>h.elim,hQ⟩
 ·rintro Q j W W' ⟨U,j1,j2,j3,V,L,j6,O,t⟩ I;exact⟨U.mod I λb g e=>by have:=R b g;omega,I.hpk j1 (by omega),I.hpk j2 (by omega),I.hpk j3 (by omega),I.hpk V (by omega),L,I.hpk j6 (by omega),O.on I λb g=>.inr (by omega),λb g=>⟨(t b g).1,Nat.lt_of_lt_of_le (t b g).2 I.size⟩⟩
 ·rintro Q j x W r hx ⟨U,j1,j2,j3,V,L,j6,O,t⟩ z E KN KJ P hKJ
  obtain⟨Y,hxo⟩:∃Y:j<l.length,x=[g9 l[j]]:=by
   rw[List.getElem?_map]at hx;cases hh:l[j]? with
   |none=>rw[hh]at hx;cases hx
   |some o=>
    obtain⟨Y,he⟩:=List.getElem?_eq_some_iff.1 hh;rw[hh]at hx;exact⟨Y,by rw[he];exact(Option.some.inj hx).symm⟩
  subst hxo;obtain⟨B,hrc⟩:∃B,B=i.heap.size+1:=⟨_,rfl⟩
  rw[<-hrc]at z P hKJ t|-;have hrl:=cn z;unfold FO;obtain⟨w6,e6,b6,m6⟩:=iR W;refine ck e6 ?_;obtain⟨q,hq0⟩:∃q,q=W.heap.size:=⟨_,rfl⟩
  rw[<-hq0]at b6|-;obtain⟨M,e7,b7,m7⟩:=gA (o' :=l[j]) b6;show ru Tryz.prog (Instr.storeAt iq (.pointer (some ⟨q,0,none⟩)) (g9 l[j])) w6 _;refine dt e7 ?_;have M7:cl (λ_=>False) W M:=m6.on m7 λb g=>.inr (by omega);have A:M.heap[B]? =some (.loop r):=M7.keep z id;refine lM (r:=r) A E ?_;have m8:cl (λb=>b=B) M (M.putObj B (.loop {r with state:=.busy})):=(cl.refl (λb=>b=B) M).putObj (.inl rfl) _;have k:(M.putObj B (.loop {r with state:=.busy})).heap[B]? =some (.loop {r with state:=.busy}):=by rw[db,if_pos rfl,A];rfl
  generalize M.putObj B (.loop {r with state:=.busy})=G at m8 k|-;have u:cl (λb=>b=B) W G:=(M7.mono λ_ _ h=>h.elim).trans m8;have g0:=u.hpk j1 (by omega);have g1:=u.hpk j2 (by omega);have g2:=u.hpk j3 (by omega);have g3:=u.hpk V (by omega);have gd:=u.hpk j6 (by omega);have zgq:=m8.hpk b7 (by omega);have gS:=U.mod u λb g e=>by have:=R b g;omega
  have m:=zgq;unfold da at m;refine ck (v:=cQ s) (w' :=G) (by simp[go_sem,g0]) ?_;refine ck (by simp[-Int.natCast_add,go_sem,g1]<;>first|exact⟨rfl,rfl⟩|exact rfl) ?_;refine ck (by simp[-Int.natCast_add,go_sem,m]<;>first|exact⟨rfl,rfl⟩|exact rfl) ?_;refine ck (by simp[-Int.natCast_add,go_sem,m]<;>first|exact⟨rfl,rfl⟩|exact rfl) ?_;refine uT gS ?_;cases hbt:du buy price l[j].price with
  |true=>
   rw[ci,if_pos rfl];refine hKJ _ _ ⟨rfl,?_,gd,O.on u λb g=>.inr (by omega)⟩ k
   have:eJ buy l price acct=ow (l.take j) acct:=by
    unfold eJ ow;rw[Iz (p:=p) Y L (by simp[p,hbt])]
   rw[this];exact g3
  |false=>
   rw[ci,if_neg Bool.false_ne_true]
   have S:l.take (j+1)=l.take j++[l[j]]:=by
    rw[List.take_add_one,List.getElem?_eq_getElem Y];rfl
   have hp1:∀o∈l.take (j+1),p o=true:=by
    rw[S];intro o N;rcases List.mem_append.1 N with N|N
    ·exact L o N
    ·rw[List.mem_singleton.1 N];simp[p,hbt]
   refine ck (by simp[-Int.natCast_add,go_sem,m]<;>first|exact⟨rfl,rfl⟩|exact rfl) ?_;refine ck (by simp[-Int.natCast_add,go_sem,m]<;>first|exact⟨rfl,rfl⟩|exact rfl) ?_;refine ck (by simp[-Int.natCast_add,go_sem,g2]<;>first|exact⟨rfl,rfl⟩|exact rfl) ?_;by_cases ha:l[j].acct=acct
   ·refine ck (v:=.bool false) (by simp[go_sem,ha]<;>first|exact⟨rfl,rfl⟩|exact rfl) ?_;rw[ci,if_neg Bool.false_ne_true];refine P _ ⟨gS,g0,g1,g2,?_,hp1,gd,O.on u λb g=>.inr (by omega),λb g=>⟨by have:=(t b g).1;omega,Nat.lt_of_lt_of_le (t b g).2 u.size⟩⟩ k λb g=>?_
    ·rw[S,wy,if_neg (by simp[ha]),Int.add_zero];exact g3
    ·exact u.blk b (t b g).2 (by have:=(t b g).1;omega)
   ·refine ck (v:=.bool true) (by simp[go_sem,ha]<;>first|exact⟨rfl,rfl⟩|exact rfl) ?_;rw[ci,if_pos rfl];refine ck (by simp[-Int.natCast_add,go_sem,g3]<;>first|exact⟨rfl,rfl⟩|exact rfl) ?_;refine ck (by simp[-Int.natCast_add,go_sem,m]<;>first|exact⟨rfl,rfl⟩|exact rfl) ?_;refine ck (by simp[-Int.natCast_add,go_sem,m]<;>first|exact⟨rfl,rfl⟩|exact rfl) ?_;have hbd1:=Ju (l:=l.take j) (acct:=acct) λo N=>Od.left_bd (U.may o (List.mem_of_mem_take N)).1;have hbd2:=Od.left_bd (U.may l[j] (List.getElem_mem Y)).1;have hlen:=U.len;have hlt:(l.take j).length<=100:=by rw[List.length_take];omega
    refine ck (v:=.int .i64 (ow (l.take (j+1)) acct)) (w' :=G) (by
     rw[S,wy,if_pos ha];simp[go_sem];rw[cS (by omega) (by omega)]) ?_
    refine dt (w' :=G.setCell ⟨a+3,0,none⟩ (.int .i64 (ow (l.take (j+1)) acct))) (by simp[go_sem,g3]) ?_;have D:cl (λb=>b=a+3) G (G.setCell ⟨a+3,0,none⟩ (.int .i64 (ow (l.take (j+1)) acct))):=(cl.refl (λb=>b=a+3) G).setCell (.inl rfl) _ _;have k3:hp (G.setCell ⟨a+3,0,none⟩ (.int .i64 (ow (l.take (j+1)) acct))) (a+3)=some (.cells #[.int .i64 (ow (l.take (j+1)) acct)] 2 (0,0)):=by simp[go_sem,g3]
    generalize G.setCell ⟨a+3,0,none⟩ (.int .i64 (ow (l.take (j+1)) acct))=w9 at D k3|-;refine P _ ⟨gS.mod D λb g e=>by have:=R b g;omega,D.hpk g0 (by omega),D.hpk g1 (by omega),D.hpk g2 (by omega),k3,hp1,D.hpk gd (by omega),(O.on u λb g=>.inr (by omega)).trans D,λb g=>⟨by have:=(t b g).1;omega,Nat.lt_of_lt_of_le (t b g).2 (Nat.le_trans u.size D.size)⟩⟩ (D.keep k (by omega)) λb g=>?_;rw[D.blk b (Nat.lt_of_lt_of_le (t b g).2 u.size) (by have:=(t b g).1;omega)];exact u.blk b (t b g).2 (by have:=(t b g).1;omega)
 ·rintro Q W o ⟨U,j1,j2,j3,V,L,j6,O,t⟩;have hend:(l.map λo=>[g9 o]).length=l.length:=by simp
  rw[hend,List.take_length]at V L;unfold BB;simp only[fk];refine fin W o ?_ j6 O
  have:eJ buy l price acct=ow l acct:=by
   unfold eJ ow;rw[LG (p:=p) L]
  rw[this];exact V
 ·rintro c W o ⟨rfl,k1,k2,k3⟩;unfold BB;simp only[fk];exact fin W o k1 k2 k3
end Go.Proofs
set_option maxRecDepth 100000
namespace Go.Proofs
open Go Go.Vc
def Rc{a:World}{b:cm}(i:Ca Tryz.prog 133 #[(.bool true)] a λc d=>Ca Tryz.prog 133 #[(.bool false)] d λe f=>gr (Instr.build 231 #[(0,c),(1,e)]) f λg h=>gq 231 g h b):Ca Tryz.prog 48 #[] a b:=cj Tryz.func48 i
def P4{a:Value}{b:World}{c:cm}(i:gb .neq 109 true a (.pointer none) b λd e=>cC d (cF a λf=>cI 231 f 0 228 e λg h=>gb .neq 228 true g (.pointer none) h c) (c (.bool false) e)):Ca Tryz.prog 145 #[a] b c:=cj Tryz.func145 i
def Oz{a b:Value}{c:World}{d:cm}(o:cC b (cF a λe=>en 231 e 0 228 c.drew λf=>cF a λg=>dP 231 g 1 λh=>df 228 h c.drew λi=>Sem.run Tryz.prog (Instr.loadAt 228 h) c.drew=.ok i c.drew/\(d (.tuple #[f,i]) c.drew)) (cF a λj=>en 231 j 1 228 c.drew λk=>cF a λl=>dP 231 l 0 λm=>df 228 m c.drew λn=>Sem.run Tryz.prog (Instr.loadAt 228 m) c.drew=.ok n c.drew/\(d (.tuple #[k,n]) c.drew))):Ca Tryz.prog 225 #[a,b] c d:=cj Tryz.func225 o
def Fm(a b c d:Value)(e:cm)(f:T2)(g:World)(h:T2->Wp):=NV->gb .lss 3 false f.2.1 a g λi j=>cC i (kv 246 b f.2.1 228 j λk l=>Ca Tryz.prog 269 #[k,c] l λm n=>kU m n λo p q=>gv 117 o q λr s=>gb .eql 26 true p (gI 0) s λt u=>cC t (gl 117 r u λv w=>gs 117 d v w λx=>df 117 d x λy=>e (.tuple #[y,k]) x) (gb .add 3 true f.2.1 (gI 1) u λz A=>h (f.1,z,()) A)) (gr (Instr.build 117 #[]) j λB C=>gs 117 d B C λD=>df 117 d D λE=>e (.tuple #[E,(.pointer none)]) D)
def Pi{a b:Value}{c:World}{d:cm}(n:ga 117 c λe f=>cF a λg=>en 231 g 0 228 f.drew λh=>cF a λi=>en 231 i 1 228 f.drew λj=>gx (dQ 246 2 [(0,h),(1,j)]) f.drew λk l=>gw (Builtin.len_ #[246] 3 #[k]) l λm=>cO (S:=T2) (Fm m k b e d) ((.pointer none),(gI 0),()) l):Ca Tryz.prog 224 #[a,b] c d:=cj Tryz.func224 n
def PY{a b:Value}{c:World}{d:cm}(m:gq 117 a c λe f=>cI 117 e 2 4 f λg h=>cC g (cI 117 e 3 2 h λi j=>gb .leq 2 false b i j d) (cI 117 e 3 2 h λk l=>gb .geq 2 false b k l d)):Ca Tryz.prog 272 #[a,b] c d:=cj Tryz.func272 m
def HU(a:Value)(b:cm)(c d:Value)(e f:T1)(g:World):=NV->cC f.1 (gr (Instr.build 235 #[]) g λh i=>gs 235 a h i λj=>df 235 a j λk=>b (.tuple #[k,(gI 9)]) j) (gl 117 c g λl m=>Ca Tryz.prog 228 #[d,l,e.1] m λn o=>gs 235 a n o λp=>df 235 a p λq=>b (.tuple #[q,(gI 0)]) p)
def En(a:Value)(b:cm)(c:T1)(d e f g:Value)(h:T1)(i:World):=NV->cC h.1 (gr (Instr.build 235 #[]) i λj k=>gs 235 a j k λl=>df 235 a l λm=>b (.tuple #[m,(gI 71)]) l) (cy (S:=T1) (λn=>cC c.1 (cI 117 d 4 2 i λo p=>gb .lss 2 false e o p λq r=>cC q (Ca Tryz.prog 227 #[f] r λs t=>gb .geq 3 true s (gI 100) t λu v=>n (u,()) v) (n ((.bool false),()) r)) (n ((.bool false),()) i)) (HU a b d g c))
def D7(a:Value)(b:cm)(c d:Value)(e:T1)(f g h:Value)(i:T1)(j:World):=NV->cC i.1 (gr (Instr.build 235 #[]) j λk l=>gs 235 a k l λm=>df 235 a m λn=>b (.tuple #[n,(gI 70)]) m) (cy (S:=T1) (λo=>gb .eql 39 true c (.int .u8 4) j λp q=>cC p (gb .gtr 2 true d (gI 0) q λr s=>o (r,()) s) (o ((.bool false),()) q)) (En a b e f d g h))
def Ea(a b c d:Value)(e:cm)(f g:Value)(h:T1)(i:World):=NV->cy (S:=T1) (λj=>gb .eql 39 true a (.int .u8 3) i λk l=>cC k (cI 117 b 4 2 l λm n=>gb .lss 2 false c m n λo p=>j (o,()) p) (j ((.bool false),()) l)) (D7 d e a c h b f g)
def FA(a:Value)(b:cm)(c d e:Value)(f:T1)(g:World):=NV->cC f.1 (gr (Instr.build 235 #[]) g λh i=>gs 235 a h i λj=>df 235 a j λk=>b (.tuple #[k,(gI 2)]) j) (cI 117 c 0 27 g λl m=>Ca Tryz.prog 224 #[d,l] m λn o=>kU n o λp q r=>gv 117 p r λs t=>gb .neq 228 true q (.pointer none) t λu v=>cC u (gr (Instr.build 235 #[]) v λw x=>gs 235 a w x λy=>df 235 a y λz=>b (.tuple #[z,(gI 8)]) y) (cI 117 c 2 4 v λA B=>Ca Tryz.prog 225 #[d,A] B λC D=>kU C D λE F G=>cI 117 c 3 2 G λH I=>cI 117 c 1 35 I λJ K=>Ca Tryz.prog 226 #[F,H,J] K λL M=>cy (S:=T1) (λN=>gb .eql 39 true e (.int .u8 1) M λO P=>cC O (N ((.bool true),()) P) (gb .eql 39 true e (.int .u8 4) P λQ R=>N (Q,()) R)) (Ea e c L a b E d)))
def Nr{a b c:Value}{d:World}{e:cm}(C:gq 117 b d λf g=>ga 235 g λh i=>Ca Tryz.prog 145 #[a] i λj k=>gt j k λl m=>cC l (gr (Instr.build 235 #[]) m λn o=>gs 235 h n o λp=>df 235 h p λq=>e (.tuple #[q,(gI 1)]) p) (cy (S:=T1) (λr=>gl 117 f m λs t=>Ca Tryz.prog 222 #[s] t λu v=>gt u v λw x=>cC w (r ((.bool true),()) x) (gb .lss 39 true c (.int .u8 1) x λy z=>cC y (r ((.bool true),()) z) (gb .gtr 39 true c (.int .u8 4) z λA B=>r (A,()) B))) (FA h e f a c))):Ca Tryz.prog 135 #[a,b,c] d e:=cj Tryz.func135 C
def Fz(a:Unit->Wp)(b c d e:Value)(f:Unit->Wp)(g:T1)(h:World):=NV->cC g.1 (a (()) h) (cI 117 b 1 35 h λi j=>cI 117 c 1 35 j λk l=>gb .eql 35 false i k l λm n=>cC m (cI 117 b 0 27 n λo p=>Ca Tryz.prog 259 #[d,o] p λq r=>cI 235 e 1 29 r λs t=>cI 117 b 0 27 t λu v=>gx (dQ 29 1 [(0,u)]) v λw x=>gx (cx #[29,29] 29 [s,w]) x λy z=>fZ 235 e 1 29 y z λA=>f (()) A) (cI 117 c 4 2 n λB C=>cI 117 b 4 2 C λD E=>rn Tryz.prog (builtin .min #[2,2] 2 #[false,false] #[B,D]) E λF G=>Ca Tryz.prog 273 #[d,F] G λH I=>cI 117 c 4 2 I λJ K=>gb .sub 2 false J F K λL M=>fZ 117 c 4 2 L M λN=>cI 235 e 2 2 N λO P=>gb .add 2 false O F P λQ R=>fZ 235 e 2 2 Q R λS=>cI 235 e 0 28 S λT U=>cI 117 b 3 2 U λV W=>cI 117 b 0 27 W λX Y=>cI 117 b 1 35 Y λZ aa=>gr (Instr.build 135 #[(0,V),(1,F),(2,X),(3,Z)]) aa λab ac=>gx (dQ 28 1 [(0,ab)]) ac λad ae=>gx (cx #[28,28] 28 [T,ad]) ae λaf ag=>fZ 235 e 0 28 af ag λah=>f (()) ah))
def H7(a b:Value)(c:Unit->Wp)(d:Value)(e:Unit)(f:World)(g:Unit->Wp):=NV->cI 117 a 4 2 f λh i=>gb .gtr 2 true h (gI 0) i λj k=>cC j (Ca Tryz.prog 271 #[b] k λl m=>kU l m λn o p=>gv 117 n p λq r=>cy (S:=T1) (λs=>gt o r λt u=>cC t (s ((.bool true),()) u) (gl 117 a u λv w=>cI 117 q 3 2 w λx y=>Ca Tryz.prog 272 #[v,x] y λz A=>gt z A λB C=>s (B,()) C)) (Fz c q a b d g)) (c (()) k)
def Fs(a b c:Value)(d:cm)(e:T1)(f:World):=NV->cC e.1 (gl 117 a f λg h=>Ca Tryz.prog 274 #[b,g] h λi j=>cI 117 a 4 2 j λk l=>fZ 235 c 3 2 k l λm=>gl 235 c m λn o=>gs 235 c n o λp=>df 235 c p λq=>d q p) (gl 235 c f λr s=>gs 235 c r s λt=>df 235 c t λu=>d u t)
def HS(a b c d:Value)(e:cm)(f:Unit)(g:World):=NV->cy (S:=T1) (λh=>cC a (cI 117 b 4 2 g λi j=>gb .gtr 2 true i (gI 0) j λk l=>h (k,()) l) (h ((.bool false),()) g)) (Fs b c d e)
def PL{a b c:Value}{d:World}{e:cm}(r:gq 117 b d λf g=>ga 235 g λh i=>cI 117 f 2 4 i λj k=>Ca Tryz.prog 225 #[a,j] k λl m=>kU l m λn o p=>cy (S:=Unit) (λq=>cO (S:=Unit) (H7 f o q h) (()) p) (HS c f n h e)):Ca Tryz.prog 228 #[a,b,c] d e:=cj Tryz.func228 r
def RK{a:Value}{b:World}{c:cm}(h:gq 109 a b λd e=>c (.func (.func 144) #[] #[d]) e):Ca Tryz.prog 57 #[a] b c:=cj Tryz.func57 h
def Hr(a:Value)(b:Nat)(c:List Value)(d:World)(e:Wp)(f:Code->Wp):=gv 117 (c.getD 0 undef) d λg h=>iK b h λi=>gl 245 a i λj k=>gl 117 g k λl m=>ew Tryz.prog j [l] m λn o=>gt n o λp q=>cC p (f .ret q) (e q)
def Bi(a:(T1)×List Nat)(b:(T1)×List Nat->Wp)(c:cm)(d:List Nat)(e:Option Code)(f:World):=fk (λg=>gb .add 3 true a.1.1 (gI 1) g λh i=>b ((h,()),(d++a.2)) i) (λj=>jC (d++a.2) j λk=>c (.tuple #[]) k) (λl m=>bc (Nat.beq l 2) (gb .add 3 true a.1.1 (gI 1) m λn o=>b ((n,()),(d++a.2)) o) (bc (Nat.beq l 1) (gb .add 3 true a.1.1 (gI 1) m λp q=>b ((p,()),(d++a.2)) q) (bc (Nat.beq l 0) (jC (d++a.2) m λr=>c (.tuple #[]) r) (False)))) e f
def FV(a b c:Value)(d:cm)(e:(T1)×List Nat)(f:World)(g:(T1)×List Nat->Wp):=NV->gb .lss 3 false e.1.1 a f λh i=>cC h (kv 246 b e.1.1 228 i λj k=>Ca Tryz.prog 146 #[j] k λl m=>xR Tryz.prog none l m 1 (Hr c) (Bi e g d)) (jC e.2 i λn=>d (.tuple #[]) n)
def Pz{a b:Value}{c:World}{d:cm}(x:gq 245 a c λe f=>gl 109 b f λg h=>Ca Tryz.prog 145 #[g] h λi j=>gt i j λk l=>cC k (d (.tuple #[]) l) (gl 109 b l λm n=>Ca Tryz.prog 110 #[m] n λo p=>cF o λq=>en 231 q 0 228 p.drew λr=>cF o λs=>en 231 s 1 228 p.drew λt=>gx (dQ 246 2 [(0,r),(1,t)]) p.drew λu v=>gw (Builtin.len_ #[246] 3 #[u]) v λw=>cO (S:=(T1)×List Nat) (FV w u e d) (((gI 0),()),[]) v)):Ca Tryz.prog 144 #[a,b] c d:=cj Tryz.func144 x
def QB{a:Value}{b:World}{c:cm}(r:Ca Tryz.prog 145 #[a] b λd e=>gt d e λf g=>cC f (c (.pointer none) g) (cF a λh=>en 231 h 0 228 g.drew λi=>cF a λj=>dP 231 j 1 λk=>df 228 k g.drew λl=>Ca Tryz.prog 193 #[i] g.drew λm n=>gk 228 k l n/\(Ca Tryz.prog 193 #[l] n λo p=>gp (Instr.build 231 #[(0,m),(1,o)]) λq=>gq 231 q p c))):Ca Tryz.prog 110 #[a] b c:=cj Tryz.func110 r
def Q9{a:World}{b:cm}(h:gr (Instr.build 197 #[(0,(.bool true))]) a λc d=>gq 197 c d b):Ca Tryz.prog 35 #[] a b:=cj Tryz.func35 h
def OC{a:Value}{b:World}{c:cm}(h:gb .neq 61 true a (.pointer none) b λd e=>cC d (cF a λf=>cI 197 f 0 4 e c) (c (.bool false) e)):Ca Tryz.prog 132 #[a] b c:=cj Tryz.func132 h
def Qv{a b:Value}{c:World}{d:cm}(m:cF a λe=>cI 197 e 2 45 c λf g=>Ca Tryz.prog 249 #[f,b,(.func (.func 250) #[] #[])] g λh i=>kU h i λj k l=>d (.tuple #[j,k]) l):Ca Tryz.prog 198 #[a,b] c d:=cj Tryz.func198 m
def Nx{a b:Value}{c:World}{d:cm}(s:gq 108 a c λe f=>gf 108 e 0 f λg h=>cI 38 g 0 35 h λi j=>gb .lss 35 false i b j λk l=>cC k (d (gI (-1)) l) (gf 108 e 0 l λm n=>cI 38 m 0 35 n λo p=>gb .gtr 35 false o b p λq r=>cC q (d (gI 1) r) (d (gI 0) r))):Ca Tryz.prog 250 #[a,b] c d:=cj Tryz.func250 s
def Rf{a:Value}{b:World}{c:cm}(i:Ca Tryz.prog 132 #[a] b λd e=>gt d e λf g=>cC f (c (.int .u32 0) g) (cF a λh=>cI 197 h 1 35 g c)):Ca Tryz.prog 53 #[a] b c:=cj Tryz.func53 i
def P7{a b:Value}{c:World}{d:cm}(I:gx (ic 108) c λe f=>Ca Tryz.prog 132 #[a] f λg h=>gt g h λi j=>cC i (gx (sf 108 #[]) j λk l=>fV Tryz.prog (ej 108 e k) l λm=>iw Tryz.prog (dm 108 e) m λn=>d (.tuple #[n,(gI 1)]) m) (Ca Tryz.prog 198 #[a,b] j λo p=>kU o p λq r s=>gt r s λt u=>cC t (gx (sf 108 #[]) u λv w=>fV Tryz.prog (ej 108 e v) w λx=>iw Tryz.prog (dm 108 e) x λy=>d (.tuple #[y,(gI 7)]) x) (cF a λz=>cI 197 z 2 45 u λA B=>gi 45 A q B λC D=>gx (dm 108 C) D λE F=>fV Tryz.prog (ej 108 e E) F λG=>iw Tryz.prog (dm 108 e) G λH=>d (.tuple #[H,(gI 0)]) G))):Ca Tryz.prog 123 #[a,b] c d:=cj Tryz.func123 I
def QY{a:Value}{b:World}{c:cm}(h:gq 61 a b λd e=>c (.func (.func 131) #[] #[d]) e):Ca Tryz.prog 47 #[a] b c:=cj Tryz.func47 h
def Hi(a b c:Value)(d:cm)(e:T1)(f:World)(g:T1->Wp):=NV->gb .lss 3 false e.1 a f λh i=>cC h (gi 45 b e.1 i λj k=>gx (dm 108 j) k λl m=>gx (ic 108) m λn o=>fV Tryz.prog (ej 108 n l) o λp=>gx (dm 108 n) p λq r=>ew Tryz.prog c [q] r λs t=>gt s t λu v=>cC u (d (.tuple #[]) v) (gb .add 3 true e.1 (gI 1) v λw x=>g (w,()) x)) (d (.tuple #[]) i)
def N0{a b:Value}{c:World}{d:cm}(t:gl 61 b c λe f=>Ca Tryz.prog 132 #[e] f λg h=>gt g h λi j=>cC i (d (.tuple #[]) j) (gl 61 b j λk l=>cF k λm=>cI 197 m 2 45 l λn o=>Ca Tryz.prog 128 #[n] o λp q=>gn 45 false p q λr s=>cO (S:=T1) (Hi r p a d) ((gI 0),()) s)):Ca Tryz.prog 131 #[a,b] c d:=cj Tryz.func131 t
def OR{a:Value}{b:World}{c:cm}(s:Ca Tryz.prog 132 #[a] b λd e=>gt d e λf g=>cC f (c (.pointer none) g) (cF a λh=>gl 197 h g λi j=>gv 197 i j λk l=>cF a λm=>cI 197 m 2 45 l λn o=>Ca Tryz.prog 128 #[n] o λp q=>fZ 197 k 2 45 p q λr=>c k r)):Ca Tryz.prog 108 #[a] b c:=cj Tryz.func108 s
def Oy{a:Value}{b:World}{c:cm}(h:gb .eql 45 true a (.slice none 0 0) b λd e=>cC d (c (.slice none 0 0) e) (gx (dQ 45 0 []) e λf g=>gx (cx #[45,45] 45 [f,a]) g c)):Ca Tryz.prog 128 #[a] b c:=cj Tryz.func128 h
def EW(a b c d:Value)(e:cm)(f:T2)(g:World)(h:T2->Wp):=NV->gb .lss 3 false f.1 f.2.1 g λi j=>cC i (gb .add 3 false f.1 f.2.1 j λk l=>gr (convert 3 249 k) l λm n=>gb .shr 249 true m (.int .u64 1) n λo p=>gr (convert 249 3 o) p λq r=>gi 45 a q r λs t=>gx (dm 108 s) t λu v=>ew Tryz.prog b [u,c] v λw x=>gb .lss 3 true w (gI 0) x λy z=>cC y (gb .add 3 true q (gI 1) z λA B=>h (A,f.2.1,()) B) (h (f.1,q,()) z)) (gb .lss 3 false f.1 d j λC D=>cC C (gi 45 a f.1 D λE F=>gx (dm 108 E) F λG H=>ew Tryz.prog b [G,c] H λI J=>gb .eql 3 true I (gI 0) J λK L=>e (.tuple #[f.1,K]) L) (e (.tuple #[f.1,(.bool false)]) D))
def Nl{a b c:Value}{d:World}{e:cm}(h:gn 45 false a d λf g=>cO (S:=T2) (EW a c b f e) ((gI 0),f,()) g):Ca Tryz.prog 249 #[a,b,c] d e:=cj Tryz.func249 h
end Go.Proofs
namespace Go.Proofs
open Go Go.Vc
attribute [local congr] cq
abbrev Bk:=Bool->List Od
def Bk.empty:Bk:=λ_=>[]
def Bk.set(B:Bk)(d:Bool)(l:List Od):Bk:=λx=>if x=d then l else B x
def Bk.set_self(B:Bk)(d:Bool)(l:List Od):B.set d l d=l:=by simp[Bk.set]
def Bk.set_other(B:Bk)(d:Bool)(l:List Od):B.set d l (!d)=B (!d):=by cases d<;>simp[Bk.set]
def Bk.set_same(B:Bk)(d:Bool):B.set d (B d)=B:=by
 funext x;unfold Bk.set;by_cases h:x=d<;>simp[h]
def Bk.find(B:Bk)(n:Int):Option (Od×Bool):=
 match jS (B true) n with
 |some o=>some (o,true)
 |none=>match jS (B false) n with
  |some o=>some (o,false)
  |none=>none
structure eT(w:World)(b:Nat)(F:Nat->Prop)(B:Bk):Prop where
 out:∃(s:Bool->Nat) (G:Bool->Nat->Prop),hp w b=some (.cells #[cQ (s true),cQ (s false)] 231 (0,0))/\(∀d,eM w (s d) (G d) d (B d))/\(∀x,F x↔x=b\/G true x\/G false x)/\(∀d,¬G d b)/\∀x,G true x->¬G false x
def eT.mod{F H:Nat->Prop}{w w' :World}{b:Nat}{B:Bk}(h:eT w b F B)(f:cl H w w')(c:∀x,F x->¬H x):eT w' b F B:=by
 obtain⟨s,G,h1,g,a,i,j⟩:=h.out;exact⟨s,G,f.hpk h1 (c b ((a b).2 (.inl rfl))),λd=>(g d).mod f λx e=>c x ((a x).2 (.inr (by cases d;exact .inr e;exact .inl e))),a,i,j⟩
def eT.lt{F:Nat->Prop}{w:World}{b:Nat}{B:Bk}(h:eT w b F B){x:Nat}(a:F x):x<w.heap.size:=by
 obtain⟨s,G,h1,c,d,e,f⟩:=h.out;rcases(d x).1 a with rfl|a|a
 ·exact cn h1
 ·exact(c true).lt a
 ·exact(c false).lt a
def eT.self{F:Nat->Prop}{w:World}{b:Nat}{B:Bk}(h:eT w b F B):F b:=by
 obtain⟨s,G,h1,c,a,d,e⟩:=h.out;exact(a b).2 (.inl rfl)
def eY(b:Nat):Value:=.pointer (some ⟨b,0,none⟩)
def FC{w:World}{K:cm}(r:∀b F c,eT c b F Bk.empty->cl (λ_=>False) w c->(∀x,F x->w.heap.size<=x)->K (eY b) c):Ca Tryz.prog 48 #[] w K:=by
 apply Rc;refine yA λg m y k n u=>?_;refine yA λf l a p i o=>?_;refine ck (v:=.agg #[cQ g,cQ f]) (w' :=a) (by simp[go_sem,cQ]) ?_;have j:cl (λ_=>False) a (a.alloc (.cells #[cQ g,cQ f] 231)):=(cl.refl _ a).alloc _;refine ck (v:=eY a.heap.size) (w' :=a.alloc (.cells #[cQ g,cQ f] 231)) rfl ?_;have s:=n.size;have t:=i.size;refine r a.heap.size (λx=>x=a.heap.size\/m x\/l x) _ ⟨λd=>if d then g else f,λd=>if d then m else l,by simp[go_sem],λd=>?_,λx=>Iff.rfl,λd=>?_,λx h1 q=>?_⟩ ((n.trans i).trans j) λx e=>?_
 ·cases d
  ·exact p.mod j λ_ _ h=>h
  ·exact(k.mod i λ_ _ h=>h).mod j λ_ _ h=>h
 ·cases d
  ·intro h;have:=p.lt h;omega
  ·intro h;have:=k.lt h;omega
 ·have z:=k.lt h1;have A:=o x q;omega
 ·rcases e with rfl|e|e
  ·omega
  ·exact u x e
  ·have:=o x e;omega
def pT{w:World}{K:cm}{b:Nat}{F:Nat->Prop}{B:Bk}(h:eT w b F B)(a:K (.bool true) w):Ca Tryz.prog 145 #[eY b] w K:=by
 obtain⟨s,G,h1,c,f,d,e⟩:=h.out;apply P4;unfold eY;refine ck (v:=.bool true) (by simp[go_sem]<;>first|exact⟨rfl,rfl⟩|exact rfl) ?_;rw[ci,if_pos rfl];simp only[cr];refine ck (by simp[-Int.natCast_add,go_sem,h1]<;>first|exact⟨rfl,rfl⟩|exact rfl) ?_;refine ck (by simp[-Int.natCast_add,go_sem,h1]<;>first|exact⟨rfl,rfl⟩|exact rfl) ?_;refine ck (v:=.bool true) (w' :=w) (by simp[go_sem,cQ]) ?_;exact a
def uY{w:World}{K:cm}{b:Nat}{s:Bool->Nat}{d:Bool}(h1:hp w b=some (.cells #[cQ (s true),cQ (s false)] 231 (0,0)))
  (c:K (.tuple #[cQ (s d),cQ (s !d)]) w.drew):Ca Tryz.prog 225 #[eY b,.bool d] w K:=by
 apply Oz;unfold eY;have a:hp w.drew b=some (.cells #[cQ (s true),cQ (s false)] 231 (0,0)):=h1;simp only[cr];cases d with
 |true=>
  rw[ci,if_pos rfl];refine co (λ_=>by simp[-Int.natCast_add,go_sem]<;>first|exact⟨rfl,rfl⟩|exact rfl) ?_;refine cB (v:=cQ (s true)) (by simp[go_sem,a]) ?_;refine co (λ_=>by simp[-Int.natCast_add,go_sem]<;>first|exact⟨rfl,rfl⟩|exact rfl) ?_;refine cB (v:=cQ (s false)) (by simp[go_sem,a]) ?_;exact⟨by simp[go_sem,a],c⟩
 |false=>
  rw[ci,if_neg Bool.false_ne_true];refine co (λ_=>by simp[-Int.natCast_add,go_sem]<;>first|exact⟨rfl,rfl⟩|exact rfl) ?_;refine cB (v:=cQ (s false)) (by simp[go_sem,a]) ?_;refine co (λ_=>by simp[-Int.natCast_add,go_sem]<;>first|exact⟨rfl,rfl⟩|exact rfl) ?_;refine cB (v:=cQ (s true)) (by simp[go_sem,a]) ?_;exact⟨by simp[go_sem,a],c⟩
def ec(o:Od)(price:Int):Bool:=if o.buy then decide (price<=o.price)else decide (o.price<=price)
def Bq{o:Od}{price:Int}{w:World}{K:cm}(b:∀c,cl (λ_=>False) w c->K (.bool (ec o price)) c):Ca Tryz.prog 272 #[g9 o,.int .i64 price] w K:=by
 apply PY;obtain⟨g,e,a,f⟩:=qB o w;have b:=b _ f;unfold ec at b;refine ck e ?_;unfold da at a;refine ck (by simp[-Int.natCast_add,go_sem,a]<;>first|exact⟨rfl,rfl⟩|exact rfl) ?_;refine ck (by simp[-Int.natCast_add,go_sem,a]<;>first|exact⟨rfl,rfl⟩|exact rfl) ?_;cases d:o.buy with
 |true=>
  rw[d]at b;rw[ci,if_pos rfl];refine ck (by simp[-Int.natCast_add,go_sem,a]<;>first|exact⟨rfl,rfl⟩|exact rfl) ?_;refine ck (by simp[-Int.natCast_add,go_sem,a]<;>first|exact⟨rfl,rfl⟩|exact rfl) ?_;refine ck (by simp[-Int.natCast_add,go_sem]<;>first|exact⟨rfl,rfl⟩|exact rfl) ?_;simpa using b
 |false=>
  rw[d]at b;rw[ci,if_neg Bool.false_ne_true];refine ck (by simp[-Int.natCast_add,go_sem,a]<;>first|exact⟨rfl,rfl⟩|exact rfl) ?_;refine ck (by simp[-Int.natCast_add,go_sem,a]<;>first|exact⟨rfl,rfl⟩|exact rfl) ?_;refine ck (by simp[-Int.natCast_add,go_sem]<;>first|exact⟨rfl,rfl⟩|exact rfl) ?_;simpa using b
def Tf:Tryz.prog.underlying 246=some (.slice 228):=by kernel_rfl
def Ta:eO Tryz.prog 228 1 8=true:=by kernel_rfl
set_option maxRecDepth 10000 in
def Dj{w:World}{K:cm}{b:Nat}{B:Bk}{s:Bool->Nat}{G:Bool->Nat->Prop}{n:Int}(h1:hp w b=some (.cells #[cQ (s true),cQ (s false)] 231 (0,0)))(h2:∀d,eM w (s d) (G d) d (B d))
  (hN:B.find n=none->∀a,cl (λ_=>False) w a->K (.tuple #[g9 fH,.pointer none]) a)
  (hS:∀o d,B.find n=some (o,d)->jS (B d) n=some o->∀a,cl (λ_=>False) w a->K (.tuple #[g9 o,cQ (s d)]) a):Ca Tryz.prog 224 #[eY b,.int .u64 n] w K:=by
 apply Pi;obtain⟨l,e1,A,m1⟩:=iR w;refine ck e1 ?_;obtain⟨p,L⟩:∃p,p=w.heap.size:=⟨_,rfl⟩
 rw[<-L]at A|-;have md:=m1.drew;have R:=md.hpk h1 id;simp only[eY,cr];refine co (λ_=>by simp[-Int.natCast_add,go_sem]<;>first|exact⟨rfl,rfl⟩|exact rfl) ?_;refine cB (v:=cQ (s true)) (by simp[go_sem,R]) ?_;refine co (λ_=>by simp[-Int.natCast_add,go_sem]<;>first|exact⟨rfl,rfl⟩|exact rfl) ?_;refine cB (v:=cQ (s false)) (by simp[go_sem,R]) ?_;refine fE [cQ (s true),cQ (s false)] Tf (cK Ta) rfl rfl (by intro v S;simp only[List.mem_cons,List.not_mem_nil,or_false]at S;rcases S with rfl|rfl<;>rfl) (by omega) ?_;have Y:(([cQ (s true),cQ (s false)]:List Value).flatMap (·.cells.toList)).toArray= #[cQ (s true),cQ (s false)]:=rfl;rw[Y];obtain⟨q,c⟩:∃q,q=l.drew.heap.size:=⟨_,rfl⟩
 have hpq:p<q:=by rw[c,vK];exact cn A
 have T:cl (λ_=>False) w (l.drew.alloc (.cells #[cQ (s true),cQ (s false)] 228)):=md.alloc _;have U:hp (l.drew.alloc (.cells #[cQ (s true),cQ (s false)] 228)) q=some (.cells #[cQ (s true),cQ (s false)] 228 (0,0)):=by rw[c];simp[go_sem]
 have N:hp (l.drew.alloc (.cells #[cQ (s true),cQ (s false)] 228)) p=some (.cells (da fH).toArray iq (0,0)):=by
  rw[H6,if_neg (by rw[<-c];omega)];exact A
 rw[<-c];generalize l.drew.alloc (.cells #[cQ (s true),cQ (s false)] 228)=w2 at T U N|-;refine cB (v:=.int .i64 2) (by simp[go_sem]) ?_
 refine dp (λst W=>∃(i:Nat) (x:Value),i<=2/\st=(x,.int .i64 i,())/\cl (λ_=>False) w2 W/\(1<=i->jS (B true) n=none)/\(2<=i->jS (B false) n=none))
  (λst _=>match st.2.1 with| .int _ i=>2 - i.toNat|_=>0) ⟨0,.pointer none,by omega,rfl,cl.refl _ _,λh=>by omega,λh=>by omega⟩ ?_
 rintro⟨_,_⟩ W ⟨i,x,hi,⟨⟩,u,e,M⟩ KN D;unfold Fm;intro _;have J:=T.trans u;have bW:=u.hpk U id;have P:=u.hpk N id;by_cases z:i<2
 ·have m:(i:Int)<2:=by omega
  refine ck (v:=.bool true) (by simp[go_sem,m]<;>first|exact⟨rfl,rfl⟩|exact rfl) ?_;rw[ci,if_pos rfl]
  obtain⟨d,k⟩:∃d:Bool,(i=0/\d=true)\/(i=1/\d=false):=by
   by_cases h0:i=0
   ·exact⟨true,.inl ⟨h0,rfl⟩⟩
   ·exact⟨false,.inr ⟨by omega,rfl⟩⟩
  have F:(#[cQ (s true),cQ (s false)]:Array Value)[i]? =some (cQ (s d)):=by
   rcases k with⟨rfl,rfl⟩|⟨rfl,rfl⟩<;>rfl
  have t:¬(2:Int)<=(i:Int):=by omega
  refine ck (v:=.pointer (some ⟨q,i,none⟩)) (w' :=W) (by simp[go_sem,z,t,cE]) ?_;refine ck (v:=cQ (s d)) (w' :=W) (by rcases k with⟨rfl,rfl⟩|⟨rfl,rfl⟩<;>simp[go_sem,bW]) ?_;refine Io ((h2 d).mod J λ_ _ h=>h) λj H=>?_;have M3:=J.trans H;refine ck (v:=g9 ((jS (B d) n).getD fH)) (w' :=j) (by simp[go_sem]) ?_;refine ck (v:=.int .i64 (if(jS (B d) n).isSome then 0 else 7)) (w' :=j) (by simp[go_sem]) ?_;obtain⟨w4,e4,V,m4⟩:=iR j;refine ck e4 ?_;obtain⟨r,I⟩:∃r,r=j.heap.size:=⟨_,rfl⟩
  rw[<-I]at V|-;obtain⟨X,e5,Q,Z⟩:=gA (o' :=(jS (B d) n).getD fH) V;refine dt e5 ?_;have f:cl (λ_=>False) j X:=m4.on Z λb O=>.inr (by omega);have M5:=M3.trans f;have p5:=f.hpk (H.hpk P id) id;cases g:jS (B d) n with
  |some o=>
   rw[g]at Q
   have hf:B.find n=some (o,d):=by
    unfold Bk.find;rcases k with⟨rfl,rfl⟩|⟨rfl,rfl⟩
    ·rw[g]
    ·rw[e (by omega)];simp only;rw[g]
   refine ck (v:=.bool true) (by simp[go_sem]<;>first|exact⟨rfl,rfl⟩|exact rfl) ?_;rw[ci,if_pos rfl];refine ck (gL (o:=o) (At.all Q)) ?_;obtain⟨w6,E,C,y⟩:=gA (o' :=o) p5;refine dt E ?_;refine cB (gL (o:=o) (At.all C)) ?_;exact hS o d hf g _ (M5.on y λb O=>.inr (by omega))
  |none=>
   refine ck (v:=.bool false) (by simp[go_sem]<;>first|exact⟨rfl,rfl⟩|exact rfl) ?_;rw[ci,if_neg Bool.false_ne_true];refine ck (v:=.int .i64 ((i+1:Nat):Int)) (w' :=X) (by simp[go_sem];rw[cS (by omega) (by omega)]) ?_;refine D _ _ ⟨i+1,_,by omega,rfl,(u.trans H).trans f,λh=>?_,λh=>?_⟩ (by show 2 - (((i+1:Nat):Int)).toNat<2 - ((i:Int)).toNat;omega)
   ·rcases k with⟨rfl,rfl⟩|⟨rfl,rfl⟩
    ·exact g
    ·exact e (by omega)
   ·rcases k with⟨rfl,rfl⟩|⟨rfl,rfl⟩
    ·omega
    ·exact g
 ·obtain rfl:i=2:=by omega
  refine ck (v:=.bool false) (by simp[go_sem]<;>first|exact⟨rfl,rfl⟩|exact rfl) ?_;rw[ci,if_neg Bool.false_ne_true];refine ck (v:=g9 fH) (w' :=W) (by simp[go_sem,g9,da,fH]) ?_;obtain⟨w6,E,C,y⟩:=gA (o' :=fH) P;refine dt E ?_;refine cB (gL (o:=fH) (At.all C)) ?_;refine hN ?_ _ (J.on y λb O=>.inr (by omega));unfold Bk.find;rw[e (by omega)];simp only;rw[M (by omega)]
structure ik(w:World)(b:Nat)(s:Bool->Nat)(G:Bool->Nat->Prop)(B:Bk):Prop where
 blk:hp w b=some (.cells #[cQ (s true),cQ (s false)] 231 (0,0))
 sd:∀d,eM w (s d) (G d) d (B d)
 nb:∀d,¬G d b
 dj:∀x,G true x->¬G false x
def eT.r{w:World}{b:Nat}{F:Nat->Prop}{B:Bk}(h:eT w b F B):∃s G,ik w b s G B/\∀x,F x↔x=b\/G true x\/G false x:=by
 obtain⟨s,G,h1,a,e,c,d⟩:=h.out;exact⟨s,G,⟨h1,a,c,d⟩,e⟩
def ik.q{w:World}{b:Nat}{s:Bool->Nat}{G:Bool->Nat->Prop}{B:Bk}(h:ik w b s G B):eT w b (λx=>x=b\/G true x\/G false x) B:=
 ⟨s,G,h.blk,h.sd,λ_=>Iff.rfl,h.nb,h.dj⟩
def ik.mod{H:Nat->Prop}{w w' :World}{b:Nat}{s:Bool->Nat}{G:Bool->Nat->Prop}{B:Bk}(h:ik w b s G B)(a:cl H w w')(e:¬H b)(c:∀d x,G d x->¬H x):ik w' b s G B:=
 ⟨a.hpk h.blk e,λd=>(h.sd d).mod a (c d),h.nb,h.dj⟩
def ik.lt{w:World}{b:Nat}{s:Bool->Nat}{G:Bool->Nat->Prop}{B:Bk}(h:ik w b s G B){d:Bool}{x:Nat}(a:G d x):x<w.heap.size:=(h.sd d).lt a
def ik.dj' {w:World}{b:Nat}{s:Bool->Nat}{G:Bool->Nat->Prop}{B:Bk}(h:ik w b s G B){d:Bool}{x:Nat}(a:G d x):¬G (!d) x:=by
 cases d
 ·exact λc=>h.dj x c a
 ·exact h.dj x a
def fG(G:Bool->Nat->Prop)(d:Bool)(G' :Nat->Prop):Bool->Nat->Prop:=λx=>if x=d then G' else G x
def eF(G:Bool->Nat->Prop)(d:Bool)(a:Nat->Prop):fG G d a d=a:=by simp[fG]
def me(G:Bool->Nat->Prop)(d:Bool)(a:Nat->Prop):fG G d a (!d)=G (!d):=by cases d<;>simp[fG]
def ik.upd{w w' :World}{b:Nat}{s:Bool->Nat}{G:Bool->Nat->Prop}{B:Bk}(h:ik w b s G B){d:Bool}{c:Nat->Prop}{l:List Od}(m:cl (G d) w w')(o:eM w' (s d) c d l)(k:∀x,c x->G d x\/w.heap.size<=x):
  ik w' b s (fG G d c) (B.set d l):=by
 have n:=cn h.blk
 have j:∀x,G (!d) x->¬c x:=λx h1 a=>by
  rcases k x a with i|i
  ·exact h.dj' i h1
  ·have:=h.lt h1;omega
 refine⟨m.hpk h.blk (h.nb d),λe=>?_,λe=>?_,λx h1 a=>?_⟩
 ·by_cases g:e=d
  ·subst g;rw[eF,Bk.set_self];exact o
  ·obtain rfl:e= !d:=by cases e<;>cases d<;>simp_all
   rw[me,Bk.set_other];exact(h.sd _).mod m λx h1 a=>h.dj' a h1
 ·by_cases g:e=d
  ·subst g;rw[eF];intro h1;rcases k b h1 with a|a
   ·exact h.nb _ a
   ·omega
  ·obtain rfl:e= !d:=by cases e<;>cases d<;>simp_all
   rw[me];exact h.nb _
 ·cases d
  ·have f:fG G false c true=G true:=me G false c;rw[f]at h1;rw[eF]at a;exact j x h1 a
  ·have f:fG G true c false=G false:=me G true c;rw[f]at a;rw[eF]at h1;exact j x a h1
structure Td where
 price:Int
 qty:Int
 num:Int
 acct:Int
 deriving DecidableEq
def Nb(t:Td):List Value:=[.int .i64 t.price,.int .i64 t.qty,.int .u64 t.num,.int .u32 t.acct]
structure Pm where
 trades:List Td
 gone:List Int
 filled:Int
 left:Int
def Ip(n:Int):List Value:=[.int .u64 n]
def dY(o:Od):Int->List Od->Int×List Od×List Td×List Int×Int
 |left,[]=>(left,[],[],[],0)
 |left,b::r=>
  if left<=0\/ec o b.price=false then(left,b::r,[],[],0)
  else if b.acct=o.acct then let x:=dY o left r;(x.1,x.2.1,x.2.2.1,b.num::x.2.2.2.1,x.2.2.2.2)
  else if left<b.left then(0,{b with left:=b.left - left}::r,[⟨b.price,left,b.num,b.acct⟩],[],left)
  else let x:=dY o (left - b.left) r;(x.1,x.2.1,⟨b.price,b.left,b.num,b.acct⟩::x.2.2.1,x.2.2.2.1,b.left+x.2.2.2.2)
def sZ(t:List Td)(g:List Int)(f:Int)(x:Int×List Od×List Td×List Int×Int):Int×List Od×List Td×List Int×Int:=
 (x.1,x.2.1,t++x.2.2.1,g++x.2.2.2.1,f+x.2.2.2.2)
def fj(B:Bk)(o:Od)(rests:Bool):Bk×Pm:=
 let x:=dY o o.left (B (!o.buy));let B1:=B.set (!o.buy) x.2.1
 if rests=true/\0<x.1 then(B1.set o.buy (jq o.buy (B1 o.buy) {o with left:=x.1}).2,⟨x.2.2.1,x.2.2.2.1,x.2.2.2.2,x.1⟩)
 else(B1,⟨x.2.2.1,x.2.2.2.1,x.2.2.2.2,0⟩)
def mK{o:Od}{left:Int}{l:List Od}(h:left<=0\/l=[]\/∃b r,l=b::r/\ec o b.price=false):dY o left l=(left,l,[],[],0):=by
 cases l with
 |nil=>rfl
 |cons b r=>
  unfold dY;rw[if_pos];rcases h with h|h|⟨c,a,e,h⟩
  ·exact .inl h
  ·cases h
  ·cases e;exact .inr h
def yY(o:Od)(x p:Int):ec {o with left:=x} p=ec o p:=rfl
structure IR(w:World)(sT sG:Value)(t:List Td)(g:List Int):Prop where
 tr:d7 w 135 4 sT t.length (t.flatMap Nb)
 go:d7 w 27 1 sG g.length (g.flatMap Ip)
 dj:∀x,cv sT x->¬cv sG x
def IR.mod{F:Nat->Prop}{w w' :World}{sT sG:Value}{t:List Td}{g:List Int}(h:IR w sT sG t g)(a:cl F w w')(h1:∀x,cv sT x->¬F x)(b:∀x,cv sG x->¬F x):IR w' sT sG t g:=
 ⟨h.tr.mod a h1,h.go.mod a b,h.dj⟩
def RY:Tryz.prog.underlying 28=some (.slice 135):=by kernel_rfl
def Tt:eO Tryz.prog 135 4 32=true:=by kernel_rfl
def PV:Tryz.prog.underlying 29=some (.slice 27):=by kernel_rfl
def Sq:eO Tryz.prog 27 1 8=true:=by kernel_rfl
def J1(t:Td):(Nb t).all (·.oneCell')=true:=rfl
def Em(n:Int):(Ip n).all (·.oneCell')=true:=rfl
def Eg{α:Type}{P:Program}{t e:TypeId}{k d:Nat}{w:World}{K:cm}{s xv:Value}{l:List α}{x:α}{f:α->List Value}(g:P.underlying t=some (.slice e))(m:px P e k d)(n:∀x,(f x).length=k)(j:∀x,(f x).all (·.oneCell')=true)
  (p:xv.cells.toList=f x)(B:d7 w e k s l.length (l.flatMap f))(z:(l.length+1)*d<=140737488355328)(H:k<=1000)
  (A:∀a c,d7 c e k a (l++[x]).length ((l++[x]).flatMap f)->cl (cv s) w c->(∀b,cv a b->cv s b\/w.heap.size<=b)->K a c):
  rx P (dQ t 1 [(0,xv)]) w λv q=>rx P (cx #[t,t] t [s,v]) q K:=by
 have F:xv.cells.size=k:=by rw[<-Array.length_toList,p,n]
 refine fE [xv] g m rfl rfl (by intro v E;rw[List.mem_singleton.1 E];exact F) (by omega) ?_;have u:(([xv]:List Value).flatMap (·.cells.toList)).toArray=(f x).toArray:=by simp[p]
 rw[u];have o:cl (λ_=>False) w (w.alloc (.cells (f x).toArray e)):=(cl.refl _ w).alloc _
 have y:Rd (w.alloc (.cells (f x).toArray e)) k (.slice (some ⟨w.heap.size,0,none⟩) 1 1) 1 (f x):=
  ⟨by rw[n];omega,.inr ⟨_,0,1,rfl,Nat.le_refl _,At.all (cN (by rw[cU,if_pos rfl]))⟩⟩
 refine dz g g m (B.mod o λ_ _ h=>h) y (j x) z λa c C D r=>?_;refine A a c ?_ ((o.mono (G:=cv s) λ_ _ h=>h.elim).trans D) λb i=>?_
 ·rw[List.flatMap_append,List.length_append];simpa using C
 ·rcases r b i with h|h
  ·exact .inl h
  ·rw[World.size_alloc]at h;exact .inr (by omega)
end Go.Proofs
