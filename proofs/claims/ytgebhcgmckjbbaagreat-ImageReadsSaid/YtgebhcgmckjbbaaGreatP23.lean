/- Part of a proof. -/
import Derived.Test.YtgebhcgmckjbbaaGreatP22
set_option linter.all false
namespace Go.Proofs
open Go Go.Vc
attribute [local congr] cq
def jT{α:Type}{g:α->List UInt8}{m:Nat}:∀{L:List α},(∀x∈L,(g x).length<=m)->(L.flatMap g).length<=m*L.length
 | [],_=>Nat.zero_le _
 |x::L,h=>by
  have h1:=h x List.mem_cons_self;have b:=jT (L:=L) λy a=>h y (List.mem_cons_of_mem _ a);rw[List.flatMap_cons,List.length_append,List.length_cons,Nat.mul_add];omega
def oL{n:Nat}(h:n<18446744073709551616):(fq n).length<=10:=ug 9 n (by omega)
def Pj{W:World}{s:Value}{L:List Ac}(h:Rd W 4 s L.length (L.flatMap cM)){i:Nat}(hi:i<L.length):
  ∃b a,(Instr.indexAt 44 s (.int .i64 (i:Int))).run Tryz.prog W=.ok (.pointer (some ⟨b,a,none⟩)) W/\(Instr.loadAt 92 (.pointer (some ⟨b,a,none⟩))).run Tryz.prog W=.ok (ii L[i]) W:=by
 obtain⟨b,a,e,c,d,f⟩:=h.item (show∀x,(cM x).length=4 from λ_=>rfl) hi rfl;have u:Tryz.prog.underlying 44=some (.slice 92):=by kernel_rfl
 refine⟨b,a+i*4,by rw[c];simp[go_sem,hi,cE,u],?_⟩;exact fw (P:=Tryz.prog) (t:=92) (by kernel_rfl) (show Tryz.prog.cellsOf 92=3+1 by kernel_rfl) rfl f
structure gh(w:World)(s:Value)(w' :World)(s' :Value)(l:List UInt8):Prop where
 own:kX w' s' l
 md:cl (cv s) w w'
 nw:∀b,cv s' b->cv s b\/w.heap.size<=b
section
variable{w w1 w2:World}{s s1 s2:Value}{l l1 l2:List UInt8}{K:cm}
def gh.zero(h:kX w s l)(m:cl (λ_=>False) w w1):gh w s w1 s l:=⟨h.mod m λ_ _ h=>h,m.mono λ_ _ h=>h.elim,λb a=>.inl a⟩
def gh.go(h:gh w s w1 s1 l1)(o:kX w2 s2 l2)(m:cl (cv s1) w1 w2)(n:∀b,cv s2 b->cv s1 b\/w1.heap.size<=b):gh w s w2 s2 l2:=
 ⟨o,h.md.on m h.nw,λb c=>by
  rcases n b c with a|a
  ·exact h.nw b a
  ·have:=h.md.size;exact .inr (by omega)⟩
def gh.dr(h:gh w s w1 s1 l1)(m:cl (λ_=>False) w1 w2):gh w s w2 s1 l1:=⟨h.own.mod m λ_ _ h=>h,h.md.trans (m.mono λ_ _ h=>h.elim),h.nw⟩
def eI(x:Int)(h:x<18446744073709551616):(eB x).length<=10:=oL (by omega)
def jg{x:Int}(h:fW x):(iI x).length<=10:=oL (AC h)
def vj(i:Nat)(hi:i<4)(p:Nat)(W:World):(Instr.fieldAt 92 (.pointer (some ⟨p,0,none⟩)) i).run Tryz.prog W=.ok (.pointer (some ⟨p,i,none⟩)) W:=by
 rcases(show i=0\/i=1\/i=2\/i=3 by omega)with rfl|rfl|rfl|rfl<;>simp[go_sem]
def P8{W:World}{p:Nat}{a:Ac}(h:zZ W p a):(Instr.loadAt 35 (.pointer (some ⟨p,0,none⟩))).run Tryz.prog W=.ok (.int .u32 a.num) W/\(Instr.loadAt 2 (.pointer (some ⟨p,1,none⟩))).run Tryz.prog W=.ok (.int .i64 a.cash) W:=by
 have b:hp W p=some (.cells (cM a).toArray 92 (0,0)):=h;simp only[cM]at b;exact⟨by simp[go_sem,b],by simp[go_sem,b]⟩
def sL{x:Int}(a:iC x)(W:World):(convert 35 27 (.int .u32 x)).run Tryz.prog W=.ok (.int .u64 x) W:=by
 obtain⟨h1,b⟩:=a;simp[go_sem];rw[eP (by omega) (by omega)]
def zn(i:Nat)(hi:i<4)(p:Nat)(W:World):(Instr.fieldAt 112 (.pointer (some ⟨p,0,none⟩)) i).run Tryz.prog W=.ok (.pointer (some ⟨p,i,none⟩)) W:=by
 rcases(show i=0\/i=1\/i=2\/i=3 by omega)with rfl|rfl|rfl|rfl<;>simp[go_sem]
def LR{W:World}{p:Nat}{a:Po}(h:Ke W p a):(Instr.loadAt 35 (.pointer (some ⟨p,1,none⟩))).run Tryz.prog W=.ok (.int .u32 a.a) W/\(Instr.loadAt 2 (.pointer (some ⟨p,2,none⟩))).run Tryz.prog W=.ok (.int .i64 a.q) W/\(Instr.loadAt 2 (.pointer (some ⟨p,3,none⟩))).run Tryz.prog W=.ok (.int .i64 a.b) W:=by
 have b:hp W p=some (.cells (cL a).toArray 112 (0,0)):=h;simp only[cL]at b;exact⟨by simp[go_sem,b],by simp[go_sem,b],by simp[go_sem,b]⟩
def xF(i:Nat)(hi:i<5)(p:Nat)(W:World):(Instr.fieldAt iq (.pointer (some ⟨p,1,none⟩)) i).run Tryz.prog W=.ok (.pointer (some ⟨p,1+i,none⟩)) W:=by
 rcases(show i=0\/i=1\/i=2\/i=3\/i=4 by omega)with rfl|rfl|rfl|rfl|rfl<;>simp[go_sem,cE]
def vl{W:World}{p:Nat}{x:Int×Od}(h:u7 W p x):(Instr.loadAt 27 (.pointer (some ⟨p,1+0,none⟩))).run Tryz.prog W=.ok (.int .u64 x.2.num) W/\(Instr.loadAt 35 (.pointer (some ⟨p,1+1,none⟩))).run Tryz.prog W=.ok (.int .u32 x.2.acct) W/\(Instr.loadAt 4 (.pointer (some ⟨p,1+2,none⟩))).run Tryz.prog W=.ok (.bool x.2.buy) W/\
  (Instr.loadAt 2 (.pointer (some ⟨p,1+3,none⟩))).run Tryz.prog W=.ok (.int .i64 x.2.price) W/\(Instr.loadAt 2 (.pointer (some ⟨p,1+4,none⟩))).run Tryz.prog W=.ok (.int .i64 x.2.left) W:=by
 have a:hp W p=some (.cells (dB x).toArray nY (0,0)):=h;simp only[dB,da]at a;exact⟨by simp[go_sem,a],by simp[go_sem,a],by simp[go_sem,a],by simp[go_sem,a],by simp[go_sem,a]⟩
end
def Kb(x:Sp):(dl x)[0]? =some (.int .u32 x.num)/\(dl x)[1]? =some (.int .u8 x.route)/\(dl x)[2]? =some (.int .i64 x.tick)/\(dl x)[3]? =some (.int .i64 x.lot)/\(dl x)[4]? =some (.int .i64 x.band)/\(dl x)[5]? =some (.int .i64 x.limit)/\
  (dl x)[22]? =some (.int .i64 x.credit)/\(dl x)[23]? =some (.int .u32 x.last)/\(dl x)[24]? =some (.int .i64 x.first):=by
 have h:∀i:Nat,(dl x)[i]? =(dl x++[])[i]? :=λi=>by rw[List.append_nil]
 refine⟨rfl,rfl,rfl,rfl,rfl,rfl,?_,?_,?_⟩
 ·rw[h];exact Ho x []
 ·rw[h];exact Qb x []
 ·rw[h];exact HZ x []
section
variable{w w' :World}{s:Value}{l:List UInt8}{K:cm}{p:Nat}{x:Sp}
def zL(h:iG w p (dl x)):(Instr.loadAt 35 (.pointer (some ⟨p,0,none⟩))).run Tryz.prog w=.ok (.int .u32 x.num) w/\(Instr.loadAt 5 (.pointer (some ⟨p,1,none⟩))).run Tryz.prog w=.ok (.int .u8 x.route) w/\
  (Instr.loadAt 2 (.pointer (some ⟨p,2,none⟩))).run Tryz.prog w=.ok (.int .i64 x.tick) w/\(Instr.loadAt 2 (.pointer (some ⟨p,3,none⟩))).run Tryz.prog w=.ok (.int .i64 x.lot) w/\
  (Instr.loadAt 2 (.pointer (some ⟨p,4,none⟩))).run Tryz.prog w=.ok (.int .i64 x.band) w/\(Instr.loadAt 2 (.pointer (some ⟨p,5,none⟩))).run Tryz.prog w=.ok (.int .i64 x.limit) w:=by
 have a:hp w p=some (.cells (dl x).toArray eS (0,0)):=h;obtain⟨f,e,c,g,b,d,i,j,k⟩:=Kb x;exact⟨by simp[go_sem,a,f],by simp[go_sem,a,e],by simp[go_sem,a,c],by simp[go_sem,a,g],by simp[go_sem,a,b],by simp[go_sem,a,d]⟩
def Me(h:iG w p (dl x)):(Instr.loadAt 2 (.pointer (some ⟨p,22,none⟩))).run Tryz.prog w=.ok (.int .i64 x.credit) w/\(Instr.loadAt 35 (.pointer (some ⟨p,23,none⟩))).run Tryz.prog w=.ok (.int .u32 x.last) w/\
  (Instr.loadAt 2 (.pointer (some ⟨p,24,none⟩))).run Tryz.prog w=.ok (.int .i64 x.first) w:=by
 have a:hp w p=some (.cells (dl x).toArray eS (0,0)):=h;obtain⟨j,i,f,k,e,g,b,c,d⟩:=Kb x;exact⟨by simp[go_sem,a,b],by simp[go_sem,a,c],by simp[go_sem,a,d]⟩
def sX(p:Nat)(W:World):(∀i,i<7->(Instr.fieldAt eS (.pointer (some ⟨p,0,none⟩)) i).run Tryz.prog W=.ok (.pointer (some ⟨p,i,none⟩)) W)/\(Instr.fieldAt eS (.pointer (some ⟨p,0,none⟩)) 7).run Tryz.prog W=.ok (.pointer (some ⟨p,22,none⟩)) W/\
  (Instr.fieldAt eS (.pointer (some ⟨p,0,none⟩)) 8).run Tryz.prog W=.ok (.pointer (some ⟨p,23,none⟩)) W/\(Instr.fieldAt eS (.pointer (some ⟨p,0,none⟩)) 9).run Tryz.prog W=.ok (.pointer (some ⟨p,24,none⟩)) W:=by
 refine⟨λi a=>?_,by simp[go_sem],by simp[go_sem],by simp[go_sem]⟩;rcases(show i=0\/i=1\/i=2\/i=3\/i=4\/i=5\/i=6 by omega)with rfl|rfl|rfl|rfl|rfl|rfl|rfl<;>simp[go_sem]
def vS{x:Int}(a:0<=x)(h1:x<9223372036854775808)(W:World):(convert 2 27 (.int .i64 x)).run Tryz.prog W=.ok (.int .u64 x) W:=by
 simp[go_sem];rw[eP (by omega) (by omega)]
def kW(x:Sp):List Int:=[x.num,x.route,x.tick,x.lot,x.band,x.limit]
def yu(h:x.Fit)(b:x.may=true):(∀n∈kW x,0<=n/\n<9223372036854775808)/\(0<=x.credit/\x.credit<9223372036854775808)/\(0<=x.first/\x.first<9223372036854775808):=by
 obtain⟨c,d,o,j,f,g,v,e,y,a⟩:=h;unfold Sp.may mf cD at b;simp only[Bool.and_eq_true,decide_eq_true_eq]at b;obtain⟨⟨⟨⟨⟨⟨⟨⟨⟨⟨-,-⟩,-⟩,-⟩,-⟩,t⟩,m⟩,u⟩,q⟩,k⟩,r,-⟩:=b;refine⟨λn i=>?_,⟨by omega,e.2⟩,⟨by omega,a.2⟩⟩;have:n=x.num\/n=x.route\/n=x.tick\/n=x.lot\/n=x.band\/n=x.limit:=by simpa [kW]using i
 rcases this with rfl|rfl|rfl|rfl|rfl|rfl
 ·exact⟨c.1,by have:=c.2;omega⟩
 ·exact⟨d.1,by have:=d.2;omega⟩
 ·exact⟨by omega,o.2⟩
 ·exact⟨by omega,j.2⟩
 ·exact⟨by omega,f.2⟩
 ·exact⟨by omega,g.2⟩
def HR(f:x.Fit):(IL x).length<=250:=by
 unfold IL;by_cases c:x.may
 ·rw[if_pos c];obtain⟨q,d,e⟩:=yu f c;obtain⟨u,F,H,G,B,E,i,r,o,h⟩:=f;have a:∀n∈kW x,(eB n).length<=10:=λn b=>eI n (by have:=(q n b).2;omega);have k:=jT (m:=10) (g:=iI) (L:=x.shifts.toList) λn b=>jg (i n b);have j:x.shifts.toList.length=16:=by simp
  have y:=a x.num (by simp[kW]);have z:=a x.route (by simp[kW]);have A:=a x.tick (by simp[kW]);have C:=a x.lot (by simp[kW]);have J:=a x.band (by simp[kW]);have D:=a x.limit (by simp[kW]);have I:=eI x.credit (by have:=d.2;omega);have v:=eI x.last (by have:=o.2;omega);have t:=eI x.first (by have:=e.2;omega);simp only[List.length_append];omega
 ·rw[if_neg c];exact Nat.zero_le _
end
section
variable{w:World}{s:Value}{l:List UInt8}{K:cm}
end
def LS{x:Ac}(h:iC x.num/\fW x.cash):(DV x).length<=300:=by
 have a:=eI x.num (by have:=h.1.2;omega);have b:=jg h.2;unfold DV kg;simp only[List.length_append,List.length_singleton];omega
def LO{x:Po}(h:(iC x.c/\iC x.a)/\fW x.q/\fW x.b):(BT x).length<=300:=by
 have b:=eI x.c (by have:=h.1.1.2;omega);have c:=eI x.a (by have:=h.1.2.2;omega);have d:=jg h.2.1;have a:=jg h.2.2;unfold BT;simp only[List.length_append];omega
def MJ{x:Ct}(h:x.Fit):(Dv x).length<=300:=by
 have a:=HR h.1;have b:=eI x.st (by have:=h.2.1.2;omega);have c:=jg h.2.2;unfold Dv;simp only[List.length_append];omega
def wK{x:Int×Od}(h:iC x.1/\x.2.Fit):(qV x).length<=300:=by
 obtain⟨d,e,c,a,b⟩:=h;have g:=eI x.1 (by have:=d.2;omega);have i:=eI x.2.num (by have:=e.2;omega);have k:=eI x.2.acct (by have:=c.2;omega);have f:=jg a;have j:=jg b;unfold qV kg;simp only[List.length_append,List.length_singleton];omega
section
variable{w:World}{K:cm}{ss:Nat->Value}{s:iN}
end
section
variable{w:World}{K:cm}{v:Value}{l:List UInt8}
end
def LQ(p:Nat):¬cv cG p:=λh=>by cases h
section
variable{w0 w w1:World}{s v:Value}{l m:List UInt8}{K:cm}{x:Int}
def gh.m0(r:gh w0 cG w s l):cl (λ_=>False) w0 w:=r.md.mono λ_ _ h=>LQ _ h
def gh.pre(r:gh w0 cG w s l)(m:cl (λ_=>False) w1 w0):gh w1 cG w s l:=
 ⟨r.own,(m.trans r.m0).mono λ_ _ h=>h.elim,λb a=>(r.nw b a).imp id λh=>by have:=m.size;omega⟩
def gh.fre(o:kX w s l)(m:cl (λ_=>False) w0 w)(n:∀b,cv s b->w0.heap.size<=b):gh w0 cG w s l:=⟨o,m.mono λ_ _ h=>h.elim,λb a=>.inr (n b a)⟩
def gh.none(w:World):gh w cG w cG []:=gh.zero (d7.nil _ _ _) (cl.refl _ _)
def mO(r:gh w0 cG w s l)(o:kX w v m)(j:l.length+m.length<=1000000000)(g:∀a b,gh w0 cG b a (l++m)->K a b):rx Tryz.prog (cx #[54,54] 54 [s,v]) w K:=by
 refine dz (n:=l.length) (m:=m.length) ny ny (cK zU) r.own o.rd (pS _) (by omega) λf d c h i=>?_;rw[<-lW]at c;have e:(l++m).length=l.length+m.length:=List.length_append;exact g f d (r.go (by show d7 _ _ _ _ _ _;rw[e];exact c) h i)
def qr{p:Nat}{o:Obj}(r:gh w0 cG w s l)(f:hp w p=some o)(g:¬cv s p)(q:kX w v m)(y:l.length+m.length<=1000000000)(k:∀a b,gh w0 cG b a (l++m)->hp b p=some o->¬cv a p->K a b):rx Tryz.prog (cx #[54,54] 54 [s,v]) w K:=by
 refine dz (n:=l.length) (m:=m.length) ny ny (cK zU) r.own q.rd (pS _) (by omega) λj i d c h=>?_;rw[<-lW]at d;have e:(l++m).length=l.length+m.length:=List.length_append;have t:=cn f;exact k j i (r.go (by show d7 _ _ _ _ _ _;rw[e];exact d) c h) (c.hpk f g) λu=>(h p u).elim g (by omega)
def fd(r:gh w0 cG w s l)(i:0<=x/\x<18446744073709551616)(o:l.length<=900000000)(f:∀a b,gh w0 cG b a (l++eB x)->K a b):
  Ca Tryz.prog 91 #[.int .u64 x] w λg e=>rx Tryz.prog (cx #[54,54] 54 [s,g]) e K:=by
 obtain⟨n,rfl⟩:=Int.eq_ofNat_of_zero_le i.1;have c:n<18446744073709551616:=by omega
 refine qN n c λk j d h p=>?_;have:=oL c;exact mO (r.dr h) d (by omega) f
def zx(h:0<=x/\x<18446744073709551616)(e:∀a b,gh w cG b a (eB x)->K a b):Ca Tryz.prog 91 #[.int .u64 x] w K:=by
 obtain⟨n,rfl⟩:=Int.eq_ofNat_of_zero_le h.1;have d:n<18446744073709551616:=by omega
 exact qN n d λj i c f g=>e _ _ (gh.fre c f g)
def zb(k:fW x)(d:∀g a,gh w cG a g (iI x)->K g a):Ca Tryz.prog 92 #[.int .i64 x] w K:=by
 apply RZ;have i:=AC k;have o:K=K:=rfl;unfold iI at d;by_cases h:0<=x
 ·have c:yg x=2*x.toNat:=by unfold yg;rw[if_pos h]
  refine ck (v:=.bool true) (by simp[go_sem,h]<;>first|exact⟨rfl,rfl⟩|exact rfl) ?_;rw[ci,if_pos rfl];refine ck (v:=.int .u64 x) (w' :=w) (by simp[go_sem];rw[eP (by omega) (by omega)]) ?_;refine ck (v:=.int .u64 (yg x:Int)) (w' :=w) (by simp[go_sem];rw[eP (by omega) (by omega),c];omega) ?_;exact qN _ i λn j b e f=>d _ _ (gh.fre b e f)
 ·have c:yg x=2*(-x - 1).toNat+1:=by unfold yg;rw[if_neg h]
  refine ck (v:=.bool false) (by simp[go_sem,h]<;>first|exact⟨rfl,rfl⟩|exact rfl) ?_;rw[ci,if_neg Bool.false_ne_true];refine ck (v:=.int .i64 (x+1)) (w' :=w) (by simp[go_sem];rw[cS (by omega) (by omega)]) ?_;refine ck (v:=.int .i64 (-(x+1))) (w' :=w) (by simp[go_sem];rw[cS (by omega) (by omega)];try omega) ?_;refine ck (v:=.int .u64 (-(x+1))) (w' :=w) (by simp[go_sem];rw[eP (by omega) (by omega)];try omega) ?_;refine ck (v:=.int .u64 (2* -(x+1))) (w' :=w) (by simp only[go_sem];rw[eP (by omega) (by omega)];try rfl) ?_;refine ck (v:=.int .u64 (yg x:Int)) (w' :=w) (by simp only[go_sem];rw[eP (by omega) (by omega),c];simp;omega) ?_;exact qN _ i λn j b e f=>d _ _ (gh.fre b e f)
def oN(r:gh w0 cG w s l)(d:fW x)(j:l.length<=900000000)(f:∀a b,gh w0 cG b a (l++iI x)->K a b):
  Ca Tryz.prog 92 #[.int .i64 x] w λg e=>rx Tryz.prog (cx #[54,54] 54 [s,g]) e K:=by
 refine zb d λi h c=>?_;have:=jg d;exact mO (r.dr c.m0) c.own (by omega) f
def ze{f:Bool}(r:gh w0 cG w s l)(k:l.length<=900000000)(e:∀c d,gh w0 cG d c (l++kg f)->K c d):
  Ca Tryz.prog 93 #[.bool f] w λi h=>rx Tryz.prog (cx #[54,54] 54 [s,i]) h K:=by
 apply Pw;rw[ci];cases f with
 |true=>
  rw[if_pos rfl];refine xl [1] ny (cK zU) rfl rfl (by omega) λv j b a g=>?_;exact mO (m:=[1]) (r.dr a) b (by simp;omega) e
 |false=>
  rw[if_neg Bool.false_ne_true];refine xl [0] ny (cK zU) rfl rfl (by omega) λv j b a g=>?_;exact mO (m:=[0]) (r.dr a) b (by simp;omega) e
end
section
variable{w0 w w1:World}{s v:Value}{l m:List UInt8}{K:cm}
def hpW{p:Nat}{o:Obj}(r:gh w0 cG w s l)(b:hp w0 p=some o):hp w p=some o:=r.md.hpk b (LQ p)
set_option maxRecDepth 10000 in
def Hc{x:Sp}(X:x.Fit)(Z:x.may=true)(hK:∀F d,gh w cG d F (IL x)->K F d):Ca Tryz.prog 94 #[.agg (dl x).toArray] w K:=by
 apply RL;obtain⟨p,C⟩:∃p,p=w.heap.size:=⟨_,rfl⟩
 have m1:cl (λ_=>False) w (w.alloc (.cells (dl x).toArray eS)):=(cl.refl _ w).alloc _;have I:iG (w.alloc (.cells (dl x).toArray eS)) p (dl x):=by show hp _ _=_;rw[C];simp[go_sem]
 refine ck (v:=.pointer (some ⟨p,0,none⟩)) (w' :=w.alloc (.cells (dl x).toArray eS)) (by rw[C];rfl) ?_;generalize w.alloc (.cells (dl x).toArray eS)=w1 at m1 I|-;obtain⟨o,b,c⟩:=yu X Z;have hf:=(sX p w1).1;have a:∀n∈kW x,(eB n).length<=10:=λn S=>eI n (by have:=(o n S).2;omega);have n0:=o x.num (by simp[kW]);have n1:=o x.route (by simp[kW]);have N:=o x.tick (by simp[kW]);have P:=o x.lot (by simp[kW]);have Q:=o x.band (by simp[kW]);have J:=o x.limit (by simp[kW]);have l0:=a x.num (by simp[kW]);have l1:=a x.route (by simp[kW]);have l2:=a x.tick (by simp[kW]);have l3:=a x.lot (by simp[kW]);have l4:=a x.band (by simp[kW]);have l5:=a x.limit (by simp[kW]);have O:=X;obtain⟨f1,f2,f3,f4,f5,f6,U,f8,D,f10⟩:=O;have r0:=gh.none w1;have bk:∀{W:World} {F:Value} {l' :List UInt8},gh w1 cG W F l' ->iG W p (dl x):=λr=>hpW r I;refine ck ((sX p _).1 0 (by omega)) (ck (zL I).1 (ck (sL f1 _) ?_));refine fd r0 ⟨n0.1,by omega⟩ (by simp) λH w2 r2=>?_;refine ck ((sX p _).1 1 (by omega)) (ck (zL (bk r2)).2.1 (ck (v:=.int .u64 x.route) (w' :=w2) (by simp[go_sem];rw[eP (by omega) (by omega)]) ?_));refine fd r2 ⟨n1.1,by omega⟩ (by simp only[List.length_append,List.length_nil];omega) λs3 w3 r3=>?_;refine ck ((sX p _).1 2 (by omega)) (ck (zL (bk r3)).2.2.1 (ck (vS N.1 N.2 _) ?_));refine fd r3 ⟨N.1,by omega⟩ (by simp only[List.length_append,List.length_nil];omega) λs4 w4 G=>?_;refine ck ((sX p _).1 3 (by omega)) (ck (zL (bk G)).2.2.2.1 (ck (vS P.1 P.2 _) ?_));refine fd G ⟨P.1,by omega⟩ (by simp only[List.length_append,List.length_nil];omega) λs5 w5 A=>?_;refine ck ((sX p _).1 4 (by omega)) (ck (zL (bk A)).2.2.2.2.1 (ck (vS Q.1 Q.2 _) ?_));refine fd A ⟨Q.1,by omega⟩ (by simp only[List.length_append,List.length_nil];omega) λs6 w6 q=>?_;refine ck ((sX p _).1 5 (by omega)) (ck (zL (bk q)).2.2.2.2.2 (ck (vS J.1 J.2 _) ?_));refine fd q ⟨J.1,by omega⟩ (by simp only[List.length_append,List.length_nil];omega) λM T t=>?_;obtain⟨u,h⟩:∃u,u=[]++eB x.num++eB x.route++eB x.tick++eB x.lot++eB x.band++eB x.limit:=⟨_,rfl⟩
 rw[<-h]at t;have hl6' :u.length<=60:=by rw[h];simp only[List.length_append,List.length_nil];omega
 have hsl:x.shifts.toList.length=16:=by simp
 refine dp (λst W' =>∃(i:Nat) (H:Value),i<=16/\st=(H,.int .i64 i,())/\gh w1 cG W' H (u++(x.shifts.toList.take i).flatMap iI))
  (λst _=>match st.2.1 with| .int _ i=>16 - i.toNat|_=>0) ⟨0,M,by omega,rfl,by rw[List.take_zero,List.flatMap_nil,List.append_nil];exact t⟩ ?_
 rintro _ V ⟨j,H,hj,rfl,E⟩ KN2 B;unfold Lx;intro _
 have Y:((x.shifts.toList.take j).flatMap iI).length<=160:=by
  have h1:=jT (m:=10) (g:=iI) (L:=x.shifts.toList.take j) λn S=>jg (U n (List.mem_of_mem_take S));have h2:(x.shifts.toList.take j).length<=16:=by rw[List.length_take];omega
  omega
 by_cases f:j<16
 ·have z:(j:Int)<16:=by omega
  have k:j<x.shifts.toList.length:=by omega
  refine ck (v:=.bool true) (by simp[go_sem,z]<;>first|exact⟨rfl,rfl⟩|exact rfl) ?_;rw[ci,if_pos rfl];have bV:=bk E;have R:hp V p=some (.cells (dl x).toArray eS (0,0)):=bV
  have gS:(dl x).toArray[6+j]? =some (.int .i64 x.shifts.toList[j]!):=by
   rw[List.getElem?_toArray];have h1:=wI x.shifts j f;rw[List.getElem?_toArray,<-oG,List.getElem?_take,if_pos f,List.getElem?_drop]at h1;exact h1
  refine ck (v:=.pointer (some ⟨p,6,none⟩)) (w' :=V) (by simp[go_sem]) ?_;have y:¬(16:Int)<=(j:Int):=by omega
  refine ck (v:=.pointer (some ⟨p,6+j,none⟩)) (w' :=V) (by simp[go_sem,f,y,cE]<;>omega) ?_;refine ck (v:=.int .i64 x.shifts.toList[j]!) (w' :=V) (by simp[go_sem,R,gS]) ?_;rw[getElem!_pos x.shifts.toList j k];refine oN E (U _ (List.getElem_mem k)) (by simp only[List.length_append];omega) λs4 W2 G=>?_;refine ck (v:=.int .i64 ((j+1:Nat):Int)) (w' :=W2) (by simp[go_sem];rw[cS (by omega) (by omega)]) ?_;refine B _ _ ⟨j+1,s4,by omega,rfl,?_⟩ (by show 16 - (((j+1:Nat):Int)).toNat<16 - ((j:Int)).toNat;omega);rw[cV k,List.flatMap_append,List.flatMap_cons,List.flatMap_nil,List.append_nil,<-List.append_assoc];exact G
 obtain rfl:j=16:=by omega
 refine ck (v:=.bool false) (by simp[go_sem]<;>first|exact⟨rfl,rfl⟩|exact rfl) ?_;rw[ci,if_neg Bool.false_ne_true];have c1:=eI x.credit (by have:=b.2;omega);have c2:=eI x.last (by have:=D.2;omega);refine ck (sX p _).2.1 (ck (Me (bk E)).1 (ck (vS b.1 b.2 _) ?_));refine fd E ⟨b.1,by have:=b.2;omega⟩ (by simp only[List.length_append];omega) λs5 w5 A=>?_;refine ck (sX p _).2.2.1 (ck (Me (bk A)).2.1 (ck (sL D _) ?_));refine fd A ⟨D.1,by have:=D.2;omega⟩ (by simp only[List.length_append];omega) λs6 w6 q=>?_;refine ck (sX p _).2.2.2 (ck (Me (bk q)).2.2 (ck (vS c.1 c.2 _) ?_));refine fd q ⟨c.1,by have:=c.2;omega⟩ (by simp only[List.length_append];omega) λM T t=>?_
 have e:u++(x.shifts.toList.take 16).flatMap iI++eB x.credit++eB x.last++eB x.first=IL x:=by
  rw[h,List.take_of_length_le (by omega)];unfold IL;rw[if_pos Z];simp
 rw[e]at t;exact hK M T (t.pre m1)
set_option maxRecDepth 10000 in
def wk{x:Int×Od}(B:iC x.1/\x.2.Fit)(z:∀b k,gh w cG k b (qV x)->K b k):Ca Tryz.prog 95 #[vw x] w K:=by
 obtain⟨d,h,c,a,i⟩:=B;apply RN;obtain⟨w1,y,f,A⟩:=Gi x w;obtain⟨p,g⟩:∃p,p=w.heap.size:=⟨_,rfl⟩
 rw[<-g]at y f;refine ck y ?_;have bk:∀{W:World} {b:Value} {C:List UInt8},gh w1 cG W b C->u7 W p x:=λr=>hpW r f;have P:=eI x.1 (by have:=d.2;omega);have Q:=eI x.2.num (by have:=h.2;omega);have M:=eI x.2.acct (by have:=c.2;omega);have N:=jg a;refine ck (kA p _).1 (ck (sU f) (ck (sL d _) ?_));refine zx ⟨d.1,by have:=d.2;omega⟩ λL R u=>?_;refine ck (kA p _).2 (ck (xF 0 (by omega) p _) (ck (vl (bk u)).1 ?_));refine fd u ⟨h.1,by have:=h.2;omega⟩ (by omega) λO G j=>?_;refine ck (kA p _).2 (ck (xF 1 (by omega) p _) (ck (vl (bk j)).2.1 (ck (sL c _) ?_)));refine fd j ⟨c.1,by have:=c.2;omega⟩ (by simp only[List.length_append];omega) λF D o=>?_;refine ck (kA p _).2 (ck (xF 2 (by omega) p _) (ck (vl (bk o)).2.2.1 ?_));refine ze o (by simp only[List.length_append];omega) λT S t=>?_;refine ck (kA p _).2 (ck (xF 3 (by omega) p _) (ck (vl (bk t)).2.2.2.1 ?_));refine oN t a (by simp only[List.length_append,kg,List.length_singleton];omega) λE H n=>?_;refine ck (kA p _).2 (ck (xF 4 (by omega) p _) (ck (vl (bk n)).2.2.2.2 ?_));refine oN n i (by simp only[List.length_append,kg,List.length_singleton];omega) λJ I q=>?_;have e:eB x.1++eB x.2.num++eB x.2.acct++kg x.2.buy++iI x.2.price++iI x.2.left=qV x:=by unfold qV;simp only[List.append_assoc]
 rw[e]at q;exact z _ _ (q.pre A)
end
section
variable{w0 w w1:World}{s v:Value}{l m:List UInt8}{K:cm}{x:Int}{p:Nat}{o:Obj}
def uf(r:gh w0 cG w s l)(b:hp w p=some o)(g:¬cv s p)(j:0<=x/\x<18446744073709551616)(t:l.length<=900000000)(h:∀s' c,gh w0 cG c s' (l++eB x)->hp c p=some o->¬cv s' p->K s' c):
  Ca Tryz.prog 91 #[.int .u64 x] w λi f=>rx Tryz.prog (cx #[54,54] 54 [s,i]) f K:=by
 obtain⟨n,rfl⟩:=Int.eq_ofNat_of_zero_le j.1;have a:n<18446744073709551616:=by omega
 refine qN n a λq k e d u=>?_;have:=oL a;exact qr (r.dr d) (d.hpk b id) g e (by omega) h
def yK(r:gh w0 cG w s l)(b:hp w p=some o)(h:¬cv s p)(d:fW x)(k:l.length<=900000000)(f:∀s' a,gh w0 cG a s' (l++iI x)->hp a p=some o->¬cv s' p->K s' a):
  Ca Tryz.prog 92 #[.int .i64 x] w λg e=>rx Tryz.prog (cx #[54,54] 54 [s,g]) e K:=by
 refine zb d λj i c=>?_;have:=jg d;exact qr (r.dr c.m0) (hpW c b) h c.own (by omega) f
def Dd{f:Bool}(r:gh w0 cG w s l)(b:hp w p=some o)(g:¬cv s p)(u:l.length<=900000000)(e:∀s' c,gh w0 cG c s' (l++kg f)->hp c p=some o->¬cv s' p->K s' c):
  Ca Tryz.prog 93 #[.bool f] w λi n=>rx Tryz.prog (cx #[54,54] 54 [s,i]) n K:=by
 have j:=cn b;have t:=gh.fre (w0:=w) (w:=w) (s:=cG) (l:=[]) (d7.nil _ _ _) (cl.refl _ _) λb h=>(LQ b h).elim;apply Pw;rw[ci];cases f with
 |true=>
  rw[if_pos rfl];refine xl [1] ny (cK zU) rfl rfl (by omega) λv k d a q=>?_;exact qr (m:=[1]) (r.dr a) (a.hpk b id) g d (by simp;omega) e
 |false=>
  rw[if_neg Bool.false_ne_true];refine xl [0] ny (cK zU) rfl rfl (by omega) λv k d a q=>?_;exact qr (m:=[0]) (r.dr a) (a.hpk b id) g d (by simp;omega) e
def Cj{w:World}{b off:Nat}{k:Ct}(h:At w b off (dU k)):(Instr.loadAt 106 (.pointer (some ⟨b,off+25,none⟩))).run Tryz.prog w=.ok (.int .u8 k.st) w:=by
 obtain⟨C,e,f,h1,a⟩:=h.get;have d:(dU k)[25]? =some (.int .u8 k.st):=by unfold dU;rw[List.getElem?_append_right (by rw[cJ];omega),cJ];rfl
 have c:=a 25 _ d;simp[go_sem,h1,c]
def JS{w:World}{b off:Nat}{k:Ct}(h:At w b off (dU k)):(Instr.loadAt 2 (.pointer (some ⟨b,off+26,none⟩))).run Tryz.prog w=.ok (.int .i64 k.price) w:=by
 obtain⟨C,e,f,h1,a⟩:=h.get;have d:(dU k)[26]? =some (.int .i64 k.price):=by unfold dU;rw[List.getElem?_append_right (by rw[cJ];omega),cJ];rfl
 have c:=a 26 _ d;simp[go_sem,h1,c]
end
section
variable{w w1:World}{sb:Nat}{ss:Nat->Value}{s:iN}{s' :Value}{l:List UInt8}{K:cm}
set_option maxRecDepth 10000 in
def LL(G:cR w1 sb s.day s.next s.fund ss)(d:eW w1 ss s)(D:s.Fit)(hn:s.accts.length<=3200/\s.cts.length<=3200/\s.poss.length<=3200/\s.ords.length<=3200/\s.bids.length<=3200)(hm:∀k∈s.cts,k.spec.may=true)(I:gh w1 cG w s' l)(Y:l.length<=50000000)
  (M:∀j u,gh w1 cG u j (l++s.bids.flatMap qV)->K j u):cO (S:=Value×Value×Unit) (Ic (.pointer (some ⟨sb,0,none⟩)) K) (s',.int .i64 0,()) w:=by
 have a:=d.sl;obtain⟨va,vc,O⟩:=(d.bids).isSl;have Q:∀W,(builtin .len #[47] 3 #[false] #[ss 7]).run Tryz.prog W=.ok (.value (.int .i64 (s.bids.length:Int))) W:=λW=>by rw[O];simp[go_sem]
 have A:∀k,((s.bids.take k).flatMap qV).length<=960000:=λk=>by
  have h1:=jT (m:=300) (g:=qV) (L:=s.bids.take k) λx t=>wK (D.bids x (List.mem_of_mem_take t));have R:(s.bids.take k).length<=3200:=by rw[List.length_take];omega
  omega
 have bk:∀{W:World} {s' :Value} {P:List UInt8},gh w1 cG W s' P->cR W sb s.day s.next s.fund ss:=λr=>hpW r G
 refine dp (λst W=>∃(k:Nat) (s' :Value),k<=s.bids.length/\st=(s',.int .i64 k,())/\gh w1 cG W s' (l++(s.bids.take k).flatMap qV))
  (λst _=>match st.2.1 with| .int _ k=>s.bids.length - k.toNat|_=>0) ⟨0,s',by omega,rfl,by rw[List.take_zero,List.flatMap_nil,List.append_nil];exact I⟩ ?_
 rintro _ W ⟨k,V,U,rfl,e⟩ E z;unfold Ic;intro _;refine ck (dZ sb 7 (by omega) _) (ck (kf (bk e) a).2 (fI (Q _) ?_));have y:Rd W 6 (ss 7) s.bids.length (s.bids.flatMap dB):=(d.md0 e.m0).bids;have B:=A k;by_cases c:k<s.bids.length
 ·have h:(k:Int)<(s.bids.length:Int):=by omega
  refine ck (v:=.bool true) (by simp[go_sem,h]<;>first|exact⟨rfl,rfl⟩|exact rfl) ?_;rw[ci,if_pos rfl];have b:=List.getElem_mem c;have f:=cV c;obtain⟨x,t⟩:∃x,x=s.bids[k]:=⟨_,rfl⟩
  rw[<-t]at b f;have i:=D.bids x b
  have go:∀n q,gh w1 cG q n (l++(s.bids.take k).flatMap qV++qV x)->rv Tryz.prog (nE .add 3 true (.int .i64 (k:Int)) (.int .i64 1)) q λv w=>E (n,v,()) w:=λn q H=>by
   refine ck (v:=.int .i64 ((k+1:Nat):Int)) (w' :=q) (by simp[go_sem];rw[cS (by omega) (by omega)]) ?_;refine z _ _ ⟨k+1,n,by omega,rfl,?_⟩ (by show s.bids.length - (((k+1:Nat):Int)).toNat<s.bids.length - ((k:Int)).toNat;omega);rw[f,List.flatMap_append,List.flatMap_cons,List.flatMap_nil,List.append_nil,<-List.append_assoc];exact H
  have F:(l++(s.bids.take k).flatMap qV).length<=100000000:=by rw[List.length_append];omega
  refine ck (dZ sb 7 (by omega) _) (ck (kf (bk e) a).2 ?_);obtain⟨X,Z,J,N⟩:=og y c;refine ck (J W _) (ck (kL N) ?_);rw[<-t];refine wk i λs3 T C=>?_;have:=wK i;exact mO (e.dr C.m0) C.own (by omega) go
 ·obtain rfl:k=s.bids.length:=by omega
  refine ck (v:=.bool false) (by simp[go_sem]<;>first|exact⟨rfl,rfl⟩|exact rfl) ?_;rw[ci,if_neg Bool.false_ne_true];rw[List.take_length]at e B;exact M _ _ e
set_option maxRecDepth 10000 in
def MC(I:cR w1 sb s.day s.next s.fund ss)(b:eW w1 ss s)(G:s.Fit)(V:s.accts.length<=3200/\s.cts.length<=3200/\s.poss.length<=3200/\s.ords.length<=3200/\s.bids.length<=3200)(X:∀k∈s.cts,k.spec.may=true)(Q:gh w1 cG w s' l)(hl:l.length<=48000000)
  (T:∀y n,gh w1 cG n y (l++(s.ords.flatMap qV++(vd qV s.bids)))->K y n):cO (S:=Value×Value×Unit) (HE (.pointer (some ⟨sb,0,none⟩)) K) (s',.int .i64 0,()) w:=by
 have d:=b.sl;obtain⟨va,vc,Z⟩:=(b.ords).isSl;have ln:∀W,(builtin .len #[47] 3 #[false] #[ss 6]).run Tryz.prog W=.ok (.value (.int .i64 (s.ords.length:Int))) W:=λW=>by rw[Z];simp[go_sem]
 have F:∀k,((s.ords.take k).flatMap qV).length<=960000:=λk=>by
  have h1:=jT (m:=300) (g:=qV) (L:=s.ords.take k) λx C=>wK (G.ords x (List.mem_of_mem_take C));have h2:(s.ords.take k).length<=3200:=by rw[List.length_take];omega
  omega
 have bk:∀{W:World} {s' :Value} {l' :List UInt8},gh w1 cG W s' l' ->cR W sb s.day s.next s.fund ss:=λr=>hpW r I
 refine dp (λst W=>∃(k:Nat) (s' :Value),k<=s.ords.length/\st=(s',.int .i64 k,())/\gh w1 cG W s' (l++(s.ords.take k).flatMap qV))
  (λst _=>match st.2.1 with| .int _ k=>s.ords.length - k.toNat|_=>0) ⟨0,s',by omega,rfl,by rw[List.take_zero,List.flatMap_nil,List.append_nil];exact Q⟩ ?_
 rintro _ W ⟨k,s2,hk,rfl,i⟩ M E;unfold HE;intro _;refine ck (dZ sb 6 (by omega) _) (ck (kf (bk i) d).1 (fI (ln _) ?_));have D:Rd W 6 (ss 6) s.ords.length (s.ords.flatMap dB):=(b.md0 i.m0).ords;have H:=F k;by_cases h:k<s.ords.length
 ·have t:(k:Int)<(s.ords.length:Int):=by omega
  refine ck (v:=.bool true) (by simp[go_sem,t]<;>first|exact⟨rfl,rfl⟩|exact rfl) ?_;rw[ci,if_pos rfl];have f:=List.getElem_mem h;have q:=cV h;obtain⟨x,C⟩:∃x,x=s.ords[k]:=⟨_,rfl⟩
  rw[<-C]at f q;have u:=G.ords x f
  have go:∀j B,gh w1 cG B j (l++(s.ords.take k).flatMap qV++qV x)->rv Tryz.prog (nE .add 3 true (.int .i64 (k:Int)) (.int .i64 1)) B λv w=>M (j,v,()) w:=λj B A=>by
   refine ck (v:=.int .i64 ((k+1:Nat):Int)) (w' :=B) (by simp[go_sem];rw[cS (by omega) (by omega)]) ?_;refine E _ _ ⟨k+1,j,by omega,rfl,?_⟩ (by show s.ords.length - (((k+1:Nat):Int)).toNat<s.ords.length - ((k:Int)).toNat;omega);rw[q,List.flatMap_append,List.flatMap_cons,List.flatMap_nil,List.append_nil,<-List.append_assoc];exact A
  have N:(l++(s.ords.take k).flatMap qV).length<=100000000:=by rw[List.length_append];omega
  refine ck (dZ sb 6 (by omega) _) (ck (kf (bk i) d).1 ?_);obtain⟨eb,eo,R,U⟩:=og D h;refine ck (R W _) (ck (kL U) ?_);rw[<-C];refine wk u λY P z=>?_;have:=wK u;exact mO (i.dr z.m0) z.own (by omega) go
 ·obtain rfl:k=s.ords.length:=by omega
  refine ck (v:=.bool false) (by simp[go_sem]<;>first|exact⟨rfl,rfl⟩|exact rfl) ?_;rw[ci,if_neg Bool.false_ne_true];rw[List.take_length]at i H;refine ck (dZ sb 7 (by omega) _) (ck (kf (bk i) d).2 (fI (v:=.int .i64 (s.bids.length:Int)) (w' :=W) (by obtain⟨a,c,e⟩:=(b.bids).isSl;rw[e];simp[go_sem]) ?_));refine ck (v:=.int .u64 (s.bids.length:Int)) (w' :=W) (by simp[go_sem];rw[eP (by omega) (by omega)]) ?_;refine fd i ⟨by omega,by omega⟩ (by rw[List.length_append];omega) λY P z=>?_;have O:(eB (s.bids.length:Int)).length<=10:=eI _ (by omega);refine LL I b G V X z (by simp only[List.length_append];omega) λj J A=>?_;refine T j J ?_;have e:eB (s.bids.length:Int)=fq s.bids.length:=rfl;rw[e]at A;simpa only[vd,List.append_assoc]using A
set_option maxRecDepth 10000 in
def L3(Q:cR w1 sb s.day s.next s.fund ss)(b:eW w1 ss s)(H:s.Fit)(hn:s.accts.length<=3200/\s.cts.length<=3200/\s.poss.length<=3200/\s.ords.length<=3200/\s.bids.length<=3200)(hm:∀k∈s.cts,k.spec.may=true)(r0:gh w1 cG w s' l)(hl:l.length<=46000000)
  (hK:∀t u,gh w1 cG u t (l++(s.poss.flatMap BT++(vd qV s.ords++(vd qV s.bids))))->K t u):cO (S:=Value×Value×Unit) (EY (.pointer (some ⟨sb,0,none⟩)) K) (s',.int .i64 0,()) w:=by
 have d:=b.sl;obtain⟨va,vc,hv⟩:=(b.poss).isSl;have ln:∀W,(builtin .len #[46] 3 #[false] #[ss 5]).run Tryz.prog W=.ok (.value (.int .i64 (s.poss.length:Int))) W:=λW=>by rw[hv];simp[go_sem]
 have G:∀k,((s.poss.take k).flatMap BT).length<=960000:=λk=>by
  have h1:=jT (m:=300) (g:=BT) (L:=s.poss.take k) λx A=>LO (H.poss x (List.mem_of_mem_take A));have h2:(s.poss.take k).length<=3200:=by rw[List.length_take];omega
  omega
 have bk:∀{W:World} {s' :Value} {l' :List UInt8},gh w1 cG W s' l' ->cR W sb s.day s.next s.fund ss:=λr=>hpW r Q
 refine dp (λst W=>∃(k:Nat) (s' :Value),k<=s.poss.length/\st=(s',.int .i64 k,())/\gh w1 cG W s' (l++(s.poss.take k).flatMap BT))
  (λst _=>match st.2.1 with| .int _ k=>s.poss.length - k.toNat|_=>0) ⟨0,s',by omega,rfl,by rw[List.take_zero,List.flatMap_nil,List.append_nil];exact r0⟩ ?_
 rintro _ W ⟨k,s2,hk,rfl,h⟩ KN F;unfold EY;intro _;refine ck (dZ sb 5 (by omega) _) (ck (eZ (bk h) d).2.2 (fI (ln _) ?_));have M:Rd W 4 (ss 5) s.poss.length (s.poss.flatMap cL):=(b.md0 h.m0).poss;have N:=G k;by_cases i:k<s.poss.length
 ·have z:(k:Int)<(s.poss.length:Int):=by omega
  refine ck (v:=.bool true) (by simp[go_sem,z]<;>first|exact⟨rfl,rfl⟩|exact rfl) ?_;rw[ci,if_pos rfl];have f:=List.getElem_mem i;have y:=cV i;obtain⟨x,A⟩:∃x,x=s.poss[k]:=⟨_,rfl⟩
  rw[<-A]at f y;have O:=H.poss x f
  have go:∀j B,gh w1 cG B j (l++(s.poss.take k).flatMap BT++BT x)->rv Tryz.prog (nE .add 3 true (.int .i64 (k:Int)) (.int .i64 1)) B λv w=>KN (j,v,()) w:=λj B q=>by
   refine ck (v:=.int .i64 ((k+1:Nat):Int)) (w' :=B) (by simp[go_sem];rw[cS (by omega) (by omega)]) ?_;refine F _ _ ⟨k+1,j,by omega,rfl,?_⟩ (by show s.poss.length - (((k+1:Nat):Int)).toNat<s.poss.length - ((k:Int)).toNat;omega);rw[y,List.flatMap_append,List.flatMap_cons,List.flatMap_nil,List.append_nil,<-List.append_assoc];exact q
  have hll:(l++(s.poss.take k).flatMap BT).length<=100000000:=by rw[List.length_append];omega
  refine ck (dZ sb 5 (by omega) _) (ck (eZ (bk h) d).2.2 ?_);obtain⟨eb,eo,e1,e2⟩:=N1 M i;refine ck e1 (ck e2 ?_);rw[<-A];obtain⟨W2,W3,R,Y,D,M3⟩:=Ek x W;obtain⟨p,P⟩:∃p,p=W.heap.size:=⟨_,rfl⟩
  rw[<-P]at R Y D;refine ck R (dt Y ?_);have J:=h.dr M3;have I:¬cv s2 p:=λn=>by have:=h.own.lt n;omega
  obtain⟨⟨n,C⟩,V,E⟩:=id O;have k1:=eI x.c (by have:=n.2;omega);have k2:=eI x.a (by have:=C.2;omega);have k3:=jg V;refine ck (zn 0 (by omega) p _) (ck (PE D) (ck (sL n _) ?_));refine uf J D I ⟨n.1,by have:=n.2;omega⟩ (by omega) λj U q X h4=>?_;refine ck (zn 1 (by omega) p _) (ck (LR X).1 (ck (sL C _) ?_));refine uf q X h4 ⟨C.1,by have:=C.2;omega⟩ (by simp only[List.length_append]at*;omega) λs5 w5 r5 T h5=>?_;refine ck (zn 2 (by omega) p _) (ck (LR T).2.1 ?_);refine yK r5 T h5 V (by simp only[List.length_append]at*;omega) λs6 w6 r6 b6 h6=>?_;refine ck (zn 3 (by omega) p _) (ck (LR b6).2.2 ?_);refine oN r6 E (by simp only[List.length_append]at*;omega) λs7 w7 r7=>?_;exact go s7 w7 (by rw[show BT x=eB x.c++(eB x.a++(iI x.q++iI x.b))from rfl];simpa only[List.append_assoc]using r7)
 ·obtain rfl:k=s.poss.length:=by omega
  refine ck (v:=.bool false) (by simp[go_sem]<;>first|exact⟨rfl,rfl⟩|exact rfl) ?_;rw[ci,if_neg Bool.false_ne_true];rw[List.take_length]at h N;refine ck (dZ sb 6 (by omega) _) (ck (kf (bk h) d).1 (fI (v:=.int .i64 (s.ords.length:Int)) (w' :=W) (by obtain⟨a,c,e⟩:=(b.ords).isSl;rw[e];simp[go_sem]) ?_));refine ck (v:=.int .u64 (s.ords.length:Int)) (w' :=W) (by simp[go_sem];rw[eP (by omega) (by omega)]) ?_;refine fd h ⟨by omega,by omega⟩ (by rw[List.length_append];omega) λs3 w3 J=>?_;have Z:(eB (s.ords.length:Int)).length<=10:=eI _ (by omega);refine MC Q b H hn hm J (by simp only[List.length_append];omega) λj U q=>?_;refine hK j U ?_;have e:eB (s.ords.length:Int)=fq s.ords.length:=rfl;rw[e]at q;simpa only[vd,List.append_assoc]using q
set_option maxRecDepth 10000 in
def Oj(Z:cR w1 sb s.day s.next s.fund ss)(i:eW w1 ss s)(O:s.Fit)(hn:s.accts.length<=3200/\s.cts.length<=3200/\s.poss.length<=3200/\s.ords.length<=3200/\s.bids.length<=3200)(hm:∀k∈s.cts,k.spec.may=true)(r0:gh w1 cG w s' l)(hl:l.length<=44000000)
  (hK:∀z C,gh w1 cG C z (l++(s.cts.flatMap Dv++(vd BT s.poss++(vd qV s.ords++(vd qV s.bids)))))->K z C):cO (S:=Value×Value×Unit) (FU (.pointer (some ⟨sb,0,none⟩)) K) (s',.int .i64 0,()) w:=by
 have f:=i.sl;obtain⟨va,vc,hv⟩:=(i.cts).isSl;have ln:∀W,(builtin .len #[45] 3 #[false] #[ss 4]).run Tryz.prog W=.ok (.value (.int .i64 (s.cts.length:Int))) W:=λW=>by rw[hv];simp[go_sem]
 have M:∀k,((s.cts.take k).flatMap Dv).length<=960000:=λk=>by
  have h1:=jT (m:=300) (g:=Dv) (L:=s.cts.take k) λx F=>MJ (O.cts x (List.mem_of_mem_take F));have h2:(s.cts.take k).length<=3200:=by rw[List.length_take];omega
  omega
 have bk:∀{W:World} {s' :Value} {l' :List UInt8},gh w1 cG W s' l' ->cR W sb s.day s.next s.fund ss:=λr=>hpW r Z
 refine dp (λst W=>∃(k:Nat) (s' :Value),k<=s.cts.length/\st=(s',.int .i64 k,())/\gh w1 cG W s' (l++(s.cts.take k).flatMap Dv))
  (λst _=>match st.2.1 with| .int _ k=>s.cts.length - k.toNat|_=>0) ⟨0,s',by omega,rfl,by rw[List.take_zero,List.flatMap_nil,List.append_nil];exact r0⟩ ?_
 rintro _ W ⟨k,s2,hk,rfl,t⟩ KN J;unfold FU;intro _;refine ck (dZ sb 4 (by omega) _) (ck (eZ (bk t) f).2.1 (fI (ln _) ?_));have hRW:Rd W 27 (ss 4) s.cts.length (s.cts.flatMap dU):=(i.md0 t.m0).cts;have T:=M k;by_cases n:k<s.cts.length
 ·have E:(k:Int)<(s.cts.length:Int):=by omega
  refine ck (v:=.bool true) (by simp[go_sem,E]<;>first|exact⟨rfl,rfl⟩|exact rfl) ?_;rw[ci,if_pos rfl];have j:=List.getElem_mem n;have D:=cV n;obtain⟨x,F⟩:∃x,x=s.cts[k]:=⟨_,rfl⟩
  rw[<-F]at j D;have X:=O.cts x j
  have go:∀y G,gh w1 cG G y (l++(s.cts.take k).flatMap Dv++Dv x)->rv Tryz.prog (nE .add 3 true (.int .i64 (k:Int)) (.int .i64 1)) G λv w=>KN (y,v,()) w:=λy G u=>by
   refine ck (v:=.int .i64 ((k+1:Nat):Int)) (w' :=G) (by simp[go_sem];rw[cS (by omega) (by omega)]) ?_;refine J _ _ ⟨k+1,y,by omega,rfl,?_⟩ (by show s.cts.length - (((k+1:Nat):Int)).toNat<s.cts.length - ((k:Int)).toNat;omega);rw[D,List.flatMap_append,List.flatMap_cons,List.flatMap_nil,List.append_nil,<-List.append_assoc];exact u
  have hll:(l++(s.cts.take k).flatMap Dv).length<=100000000:=by rw[List.length_append];omega
  have Q:∀{V:World} {sv:Value} {lv:List UInt8},gh w1 cG V sv lv->∃b d,(∀W,(Instr.indexAt 45 (ss 4) (.int .i64 (k:Int))).run Tryz.prog W=.ok (.pointer (some ⟨b,d,none⟩)) W)/\At V b d (dU x):=λ{V sv lv} r=>by
   have hV:Rd V 27 (ss 4) s.cts.length (s.cts.flatMap dU):=(i.md0 r.m0).cts;obtain⟨b,d,cap,U,hcap,q⟩:=hV.item cX n rfl;rw[<-F]at q;exact⟨b,d+k*27,λW=>by rw[U];simp[go_sem,n,cE,vr],q⟩
  have N:∀(b d:Nat) (W:World),(Instr.fieldAt ip (.pointer (some ⟨b,d,none⟩)) 0).run Tryz.prog W=.ok (.pointer (some ⟨b,d,none⟩)) W/\(Instr.fieldAt ip (.pointer (some ⟨b,d,none⟩)) 1).run Tryz.prog W=.ok (.pointer (some ⟨b,d+25,none⟩)) W/\(Instr.fieldAt ip (.pointer (some ⟨b,d,none⟩)) 2).run Tryz.prog W=.ok (.pointer (some ⟨b,d+26,none⟩)) W:=λb d W=>⟨by simp[go_sem,cE],by simp[go_sem,cE],by simp[go_sem,cE]⟩
  obtain⟨B,h,R⟩:=id X;have k1:=HR B;have k2:=eI x.st (by have:=h.2;omega)
  have P:∀W,(convert 106 27 (.int .u8 x.st)).run Tryz.prog W=.ok (.int .u64 x.st) W:=λW=>by
   obtain⟨a1,a2⟩:=h;simp[go_sem];rw[eP (by omega) (by omega)]
  refine ck (dZ sb 4 (by omega) _) (ck (eZ (bk t) f).2.1 ?_);obtain⟨b,d,A,q⟩:=Q t;refine ck (A W) (ck (N b d W).1 (eK (dl x.spec) 24 ve ry (cJ _) (lw q) ?_));refine Hc B (hm x j) λs3 w3 I=>?_;refine mO (t.dr I.m0) I.own (by omega) λy H u=>?_;refine ck (dZ sb 4 (by omega) _) (ck (eZ (bk u) f).2.1 ?_);obtain⟨b,d,A,q⟩:=Q u;refine ck (A H) (ck (N b d H).2.1 (ck (Cj q) (ck (P _) ?_)));refine fd u ⟨h.1,by have:=h.2;omega⟩ (by simp only[List.length_append]at*;omega) λs5 w5 Y=>?_;refine ck (dZ sb 4 (by omega) _) (ck (eZ (bk Y) f).2.1 ?_);obtain⟨b,d,A,q⟩:=Q Y;refine ck (A w5) (ck (N b d w5).2.2 (ck (JS q) ?_));refine oN Y R (by simp only[List.length_append]at*;omega) λs6 w6 r6=>?_;exact go s6 w6 (by rw[show Dv x=IL x.spec++(eB x.st++iI x.price)from rfl];simpa only[List.append_assoc]using r6)
 ·obtain rfl:k=s.cts.length:=by omega
  refine ck (v:=.bool false) (by simp[go_sem]<;>first|exact⟨rfl,rfl⟩|exact rfl) ?_;rw[ci,if_neg Bool.false_ne_true];rw[List.take_length]at t T;refine ck (dZ sb 5 (by omega) _) (ck (eZ (bk t) f).2.2 (fI (v:=.int .i64 (s.poss.length:Int)) (w' :=W) (by obtain⟨a,c,e⟩:=(i.poss).isSl;rw[e];simp[go_sem]) ?_));refine ck (v:=.int .u64 (s.poss.length:Int)) (w' :=W) (by simp[go_sem];rw[eP (by omega) (by omega)]) ?_;refine fd t ⟨by omega,by omega⟩ (by rw[List.length_append];omega) λs3 w3 I=>?_;have l10:(eB (s.poss.length:Int)).length<=10:=eI _ (by omega);refine L3 Z i O hn hm I (by simp only[List.length_append];omega) λy H u=>?_;refine hK y H ?_;have e:eB (s.poss.length:Int)=fq s.poss.length:=rfl;rw[e]at u;simpa only[vd,List.append_assoc]using u
set_option maxRecDepth 10000 in
def JJ(P:cR w1 sb s.day s.next s.fund ss)(d:eW w1 ss s)(G:s.Fit)(hn:s.accts.length<=3200/\s.cts.length<=3200/\s.poss.length<=3200/\s.ords.length<=3200/\s.bids.length<=3200)(hm:∀k∈s.cts,k.spec.may=true)(r0:gh w1 cG w s' l)(hl:l.length<=42000000)
  (hK:∀u y,gh w1 cG y u (l++(s.accts.flatMap DV++(vd Dv s.cts++(vd BT s.poss++(vd qV s.ords++(vd qV s.bids))))))->K u y):cO (S:=Value×Value×Unit) (HY (.pointer (some ⟨sb,0,none⟩)) K) (s',.int .i64 0,()) w:=by
 have f:=d.sl;obtain⟨va,vc,hv⟩:=(d.accts).isSl;have ln:∀W,(builtin .len #[44] 3 #[false] #[ss 3]).run Tryz.prog W=.ok (.value (.int .i64 (s.accts.length:Int))) W:=λW=>by rw[hv];simp[go_sem]
 have F:∀k,((s.accts.take k).flatMap DV).length<=960000:=λk=>by
  have h1:=jT (m:=300) (g:=DV) (L:=s.accts.take k) λx B=>LS (G.accts x (List.mem_of_mem_take B));have h2:(s.accts.take k).length<=3200:=by rw[List.length_take];omega
  omega
 have bk:∀{W:World} {s' :Value} {l' :List UInt8},gh w1 cG W s' l' ->cR W sb s.day s.next s.fund ss:=λr=>hpW r P
 refine dp (λst W=>∃(k:Nat) (s' :Value),k<=s.accts.length/\st=(s',.int .i64 k,())/\gh w1 cG W s' (l++(s.accts.take k).flatMap DV))
  (λst _=>match st.2.1 with| .int _ k=>s.accts.length - k.toNat|_=>0) ⟨0,s',by omega,rfl,by rw[List.take_zero,List.flatMap_nil,List.append_nil];exact r0⟩ ?_
 rintro _ W ⟨k,s2,hk,rfl,j⟩ KN E;unfold HY;intro _;refine ck (dZ sb 3 (by omega) _) (ck (eZ (bk j) f).1 (fI (ln _) ?_));have J:Rd W 4 (ss 3) s.accts.length (s.accts.flatMap cM):=(d.md0 j.m0).accts;have M:=F k;by_cases n:k<s.accts.length
 ·have A:(k:Int)<(s.accts.length:Int):=by omega
  refine ck (v:=.bool true) (by simp[go_sem,A]<;>first|exact⟨rfl,rfl⟩|exact rfl) ?_;rw[ci,if_pos rfl];have i:=List.getElem_mem n;have z:=cV n;obtain⟨x,B⟩:∃x,x=s.accts[k]:=⟨_,rfl⟩
  rw[<-B]at i z;have b:=G.accts x i
  have go:∀q C,gh w1 cG C q (l++(s.accts.take k).flatMap DV++DV x)->rv Tryz.prog (nE .add 3 true (.int .i64 (k:Int)) (.int .i64 1)) C λv w=>KN (q,v,()) w:=λq C t=>by
   refine ck (v:=.int .i64 ((k+1:Nat):Int)) (w' :=C) (by simp[go_sem];rw[cS (by omega) (by omega)]) ?_;refine E _ _ ⟨k+1,q,by omega,rfl,?_⟩ (by show s.accts.length - (((k+1:Nat):Int)).toNat<s.accts.length - ((k:Int)).toNat;omega);rw[z,List.flatMap_append,List.flatMap_cons,List.flatMap_nil,List.append_nil,<-List.append_assoc];exact t
  have hll:(l++(s.accts.take k).flatMap DV).length<=100000000:=by rw[List.length_append];omega
  refine ck (dZ sb 3 (by omega) _) (ck (eZ (bk j) f).1 ?_);obtain⟨eb,eo,e1,e2⟩:=Pj J n;refine ck e1 (ck e2 ?_);rw[<-B];obtain⟨W2,W3,Q,Y,D,M3⟩:=BY x W;obtain⟨p,O⟩:∃p,p=W.heap.size:=⟨_,rfl⟩
  rw[<-O]at Q Y D;refine ck Q (dt Y ?_);have I:=j.dr M3;have bA:∀{V U:World} {sa N:Value} {la lb:List UInt8},zZ V p x->gh V cG U N lb->zZ U p x:=λh r=>hpW r h;have H:¬cv s2 p:=λhc=>by have:=j.own.lt hc;omega
  have k1:=eI x.num (by have:=b.1.2;omega);have k2:=jg b.2;refine ck (vj 0 (by omega) p _) (ck (P8 D).1 (ck (sL b.1 _) ?_));refine uf I D H ⟨b.1.1,by have:=b.1.2;omega⟩ (by omega) λq T t X h4=>?_;refine ck (vj 1 (by omega) p _) (ck (P8 X).2 ?_);refine yK t X h4 b.2 (by simp only[List.length_append]at*;omega) λs5 w5 r5 R h5=>?_;refine ck (vj 2 (by omega) p _) (ck (CQ R).1 ?_);refine Dd r5 R h5 (by simp only[List.length_append]at*;omega) λs6 w6 r6 b6 h6=>?_;refine ck (vj 3 (by omega) p _) (ck (CQ b6).2 ?_);refine ze r6 (by simp only[List.length_append,kg,List.length_singleton]at*;omega) λs7 w7 r7=>?_;exact go s7 w7 (by rw[show DV x=eB x.num++(iI x.cash++(kg x.kil++kg x.dfl))from rfl];simpa only[List.append_assoc]using r7)
 ·obtain rfl:k=s.accts.length:=by omega
  refine ck (v:=.bool false) (by simp[go_sem]<;>first|exact⟨rfl,rfl⟩|exact rfl) ?_;rw[ci,if_neg Bool.false_ne_true];rw[List.take_length]at j M;refine ck (dZ sb 4 (by omega) _) (ck (eZ (bk j) f).2.1 (fI (v:=.int .i64 (s.cts.length:Int)) (w' :=W) (by obtain⟨a,c,e⟩:=(d.cts).isSl;rw[e];simp[go_sem]) ?_));refine ck (v:=.int .u64 (s.cts.length:Int)) (w' :=W) (by simp[go_sem];rw[eP (by omega) (by omega)]) ?_;refine fd j ⟨by omega,by omega⟩ (by rw[List.length_append];omega) λs3 w3 I=>?_;have Z:(eB (s.cts.length:Int)).length<=10:=eI _ (by omega);refine Oj P d G hn hm I (by simp only[List.length_append];omega) λq T t=>?_;refine hK q T ?_;have e:eB (s.cts.length:Int)=fq s.cts.length:=rfl;rw[e]at t;simpa only[vd,List.append_assoc]using t
set_option maxRecDepth 10000 in
def CJ(d:eW w ss s)(b:s.Fit)(F:s.accts.length<=3200/\s.cts.length<=3200/\s.poss.length<=3200/\s.ords.length<=3200/\s.bids.length<=3200)(G:∀k∈s.cts,k.spec.may=true)
  (D:∀s' h,gh w cG h s' (Da s)->K s' h):Ca Tryz.prog 26 #[pU s.day s.next s.fund ss] w K:=by
 have f:=d.sl;have P:=eI s.day (by have:=b.day.2;omega);have R:=eI s.next (by have:=b.next.2;omega);have L:=jg b.fund;apply Ro;obtain⟨w1,z,g,u⟩:=pC s.day s.next s.fund ss w;obtain⟨sb,i⟩:∃p,p=w.heap.size:=⟨_,rfl⟩
 rw[<-i]at z g;refine ck z ?_;have bk:∀{W:World} {s' :Value} {H:List UInt8},gh w1 cG W s' H->cR W sb s.day s.next s.fund ss:=λr=>hpW r g;refine ck (dZ sb 0 (by omega) _) (ck (gB g).1 (ck (sL b.day _) ?_));refine zx ⟨b.day.1,by have:=b.day.2;omega⟩ λM Q y=>?_;refine ck (dZ sb 1 (by omega) _) (ck (gB (bk y)).2.1 ?_);refine fd y ⟨b.next.1,by have:=b.next.2;omega⟩ (by omega) λO J n=>?_;refine ck (dZ sb 2 (by omega) _) (ck (gB (bk n)).2.2 ?_);refine oN n b.fund (by simp only[List.length_append];omega) λI j t=>?_;refine ck (dZ sb 3 (by omega) _) (ck (eZ (bk t) f).1 (fI (v:=.int .i64 (s.accts.length:Int)) (w' :=j) (by obtain⟨a,c,e⟩:=(d.accts).isSl;rw[e];simp[go_sem]) ?_));refine ck (v:=.int .u64 (s.accts.length:Int)) (w' :=j) (by simp[go_sem];rw[eP (by omega) (by omega)]) ?_;refine fd t ⟨by omega,by omega⟩ (by simp only[List.length_append];omega) λS N E=>?_;have B:(eB (s.accts.length:Int)).length<=10:=eI _ (by omega);refine JJ g (d.md0 u) b F G E (by simp only[List.length_append];omega) λA C q=>?_;refine D A C (gh.pre ?_ u);have e:eB (s.accts.length:Int)=fq s.accts.length:=rfl;rw[e]at q;simpa only[Da,vd,List.append_assoc]using q
end
def Jt{w:World}{b lo:Nat}{d nx fu:Int}{ss:Nat->Value}{n:Nat->Nat}{cs:Nat->List Value}(h:Ig w b d nx fu ss n cs lo)(i:Nat)(hi:3<=i)(H:i<=7){xv:Value}{c:List Value}{K:World->Prop}(hx:xv.cells.toList=c)(J:c.length=AM i)(M:c.all (·.oneCell')=true)(hn:n i<=1000000)(hlo:lo<=w.heap.size)
  (hK:∀o p,Ig p b d nx fu (dq ss i o) (dq n i (n i+1)) (dq cs i (cs i++c)) lo->cl (λy=>y=b\/cv (ss i) y) w p->(∀y,cv o y->cv (ss i) y\/w.heap.size<=y)->K p):
  rx Tryz.prog (dQ (oI i) 1 [(0,xv)]) w λv w1=>Sem.run Tryz.prog (Instr.loadAt (oI i) (.pointer (some ⟨b,i,none⟩))) w1=.ok (ss i) w1/\(rx Tryz.prog (cx #[oI i,oI i] (oI i) [ss i,v]) w1 λv2 w2=>sm Tryz.prog (Instr.fieldAt kJ (.pointer (some ⟨b,0,none⟩)) i) λv3=>ru Tryz.prog (Instr.storeAt (oI i) v3 v2) w2 K):=by
 have X:xv.cells.size=AM i:=by rw[<-Array.length_toList,hx,J]
 have V:=Og i;refine fE [xv] (Nh i) (cK (I5 i)) rfl rfl (by intro v hv;rw[List.mem_singleton.1 hv];exact X) (by omega) ?_;have e0:(([xv]:List Value).flatMap (·.cells.toList)).toArray=c.toArray:=by simp[hx]
 rw[e0];have m1:cl (λ_=>False) w (w.alloc (.cells c.toArray (DU i))):=(cl.refl _ w).alloc _
 have r1:Rd (w.alloc (.cells c.toArray (DU i))) (AM i) (.slice (some ⟨w.heap.size,0,none⟩) 1 1) 1 c:=
  ⟨by rw[J];omega,.inr ⟨_,0,1,rfl,Nat.le_refl _,At.all (cN (by rw[cU,if_pos rfl]))⟩⟩
 have E:=h.own i hi H;have hbl:b<w.heap.size:=cn h.at_;refine⟨(h.mod m1 id λ_ _ _ _ _ h=>h).ld i hi H,?_⟩;refine dz (Nh i) (Nh i) (cK (I5 i)) (E.mod m1 λ_ _ h=>h) r1 M (Nat.le_trans (Nat.mul_le_mul (show n i+1<=1000001 by omega) V.2) (by decide)) λo p o' m' n' =>?_;refine co (λW=>dX W i (by omega)) ?_;have hsz:(w.alloc (.cells c.toArray (DU i))).heap.size=w.heap.size+1:=World.size_alloc ..;have U:cl (cv (ss i)) w p:=(m1.mono (G:=cv (ss i)) λ_ _ h=>h.elim).trans m'
 have u:∀y,cv o y->cv (ss i) y\/w.heap.size<=y:=λy f=>by
  rcases n' y f with m|m
  ·exact .inl m
  ·exact .inr (by omega)
 have x:=U.hpk h.at_ λJ=>(h.nw i b hi H J).2 rfl;obtain⟨a,cc,S,-⟩:=o'.isSl
 have Q:(Instr.storeAt (oI i) (.pointer (some ⟨b,i,none⟩)) o).run Tryz.prog p=.ok () (p.setCell ⟨b,i,none⟩ o)/\hp (p.setCell ⟨b,i,none⟩ o) b=some (.cells (nv d nx fu (dq ss i o)).toArray kJ (0,0)):=by
  obtain⟨a0,c0,Y,-⟩:=E.isSl;have:i=3\/i=4\/i=5\/i=6\/i=7:=by omega
  rcases this with rfl|rfl|rfl|rfl|rfl<;>(simp only[nv]at x;rw[Y]at x;refine⟨by simp only[oI];rw[S];simp[go_sem,x],by rw[S];simp[go_sem,x,nv,dq]⟩)
 refine dt Q.1 ?_;have Z:cl (λy=>y=b) p (p.setCell ⟨b,i,none⟩ o):=(cl.refl (λy=>y=b) p).setCell (.inl rfl) _ _
 have D:∀y,cv o y->lo<=y/\y≠b:=λy f=>by
  rcases u y f with m|m
  ·exact h.nw i y hi H m
  ·exact⟨by omega,by omega⟩
 refine hK o _ ⟨Q.2,λj k s=>?_,λT R y a1 a2 a3 a4 I F=>?_,λj y k s f=>?_⟩ ((U.mono λy _ f=>.inr f).trans (Z.mono λy _ f=>.inl f)) u
 ·unfold dq;by_cases g:j=i
  ·subst g;rw[if_pos rfl,if_pos rfl,if_pos rfl];exact o'.mod Z λy f e=>(D y f).2 e
  ·rw[if_neg g,if_neg g,if_neg g];exact((h.own j k s).mod U λy f J=>g (h.dj j i y k s hi H f J)).mod Z λy f e=>(h.nw j y k s f).2 e
 ·unfold dq at I F;have N:∀j,3<=j->j<=7->cv (ss j) y->y<w.heap.size:=λj b1 b2 f=>(h.own j b1 b2).lt f;by_cases h1:T=i
  ·by_cases L:R=i
   ·rw[h1,L]
   ·rw[if_pos h1]at I;rw[if_neg L]at F;rcases u y I with m|m
    ·rw[h1];exact h.dj i R y hi H a3 a4 m F
    ·have:=N R a3 a4 F;omega
  ·rw[if_neg h1]at I;by_cases L:R=i
   ·rw[if_pos L]at F;rcases u y F with m|m
    ·rw[L];exact h.dj T i y a1 a2 hi H I m
    ·have:=N T a1 a2 I;omega
   ·rw[if_neg L]at F;exact h.dj T R y a1 a2 a3 a4 I F
 ·unfold dq at f;by_cases g:j=i
  ·rw[if_pos g]at f;exact D y f
  ·rw[if_neg g]at f;exact h.nw j y k s f
section
variable{w:World}{b lo:Nat}{d nx fu:Int}{ss:Nat->Value}{A:List Ac}{C:List Ct}{P:List Po}{O B:List (Int×Od)}
def Gg{i:Nat}(hi:3<=i)(u:i<=7){xv:Value}{c:List Value}{p:List Ac}{C' :List Ct}{s:List Po}{o B' :List (Int×Od)}{K:World->Prop}(h:SB w b d nx fu ss A C P O B lo)(Q:xv.cells.toList=c)(J:c.length=AM i)(k:c.all (·.oneCell')=true)(R:LN A C P O B i<=1000000)(x:lo<=w.heap.size)
  (S:dq (LN A C P O B) i (LN A C P O B i+1)=LN p C' s o B')(L:dq (LC A C P O B) i (LC A C P O B i++c)=LC p C' s o B')
  (I:∀f e,SB e b d nx fu f p C' s o B' lo->cl (XS ss b) w e->(∀y,XS f b y->XS ss b y\/w.heap.size<=y)->K e):
  rx Tryz.prog (dQ (oI i) 1 [(0,xv)]) w λv m=>Sem.run Tryz.prog (Instr.loadAt (oI i) (.pointer (some ⟨b,i,none⟩))) m=.ok (ss i) m/\(rx Tryz.prog (cx #[oI i,oI i] (oI i) [ss i,v]) m λM T=>sm Tryz.prog (Instr.fieldAt kJ (.pointer (some ⟨b,0,none⟩)) i) λH=>ru Tryz.prog (Instr.storeAt (oI i) H M) T K):=by
 refine Jt h i hi u Q J k R x λF e E N G=>I (dq ss i F) e ?_ (N.mono λy _ a=>a.imp id λa=>⟨i,hi,u,a⟩) λy a=>?_
 ·rw[S,L]at E;exact E
 ·rcases a with a|⟨j,n,D,a⟩
  ·exact .inl (.inl a)
  ·unfold dq at a;by_cases g:j=i
   ·rw[if_pos g]at a;exact(G y a).imp (λh=>.inr ⟨i,hi,u,h⟩) id
   ·rw[if_neg g]at a;exact .inl (.inr ⟨j,n,D,a⟩)
def Tp(A:List Ac)(C:List Ct)(P:List Po)(O B:List (Int×Od))(k:Ac):dq (LN A C P O B) 3 (LN A C P O B 3+1)=LN (A++[k]) C P O B:=
 iv (by simp[LN]) λj a=>by unfold LN;split<;>first|rfl|exact absurd rfl a
def Tx(A:List Ac)(C:List Ct)(P:List Po)(O B:List (Int×Od))(k:Ac):dq (LC A C P O B) 3 (LC A C P O B 3++cM k)=LC (A++[k]) C P O B:=
 iv (by simp[LC]) λj a=>by unfold LC;split<;>first|rfl|exact absurd rfl a
def Zr(w0:World)(r z q:Nat)(ss:Nat->Value)(y:Nat):Prop:=y=r\/y=z\/XS ss q y\/y<w0.heap.size
structure kM(w0 W:World)(r z q:Nat)(v:Value)(l:List UInt8)(t:Rs)(d nx fu:Int)(ss:Nat->Value)(A:List Ac)(C:List Ct)(P:List Po)(O B:List (Int×Od)):Prop where
 rd:fg W r v l t
 st:SB W q d nx fu ss A C P O B w0.heap.size
 rs:cR W z 0 0 0 (ij cG)
 md:cl (λ_=>False) w0 W
 ge:w0.heap.size<=r/\w0.heap.size<=z/\w0.heap.size<=q
 rz:r≠z
 nr:¬XS ss q r
 nz:¬XS ss q z
 vb:∀b,eh v b->b<w0.heap.size
variable{w0 W W' :World}{r z q:Nat}{v:Value}{l:List UInt8}{t t' :Rs}
def kM.xge(h:kM w0 W r z q v l t d nx fu ss A C P O B){y:Nat}(a:XS ss q y):w0.heap.size<=y:=by
 rcases a with rfl|⟨i,h1,c,a⟩
 ·exact h.ge.2.2
 ·exact(h.st.nw i y h1 c a).1
def kM.lt(h:kM w0 W r z q v l t d nx fu ss A C P O B){y:Nat}(a:Zr w0 r z q ss y):y<W.heap.size:=by
 have:=h.md.size;rcases a with rfl|rfl|a|a
 ·exact h.rd.lt.1
 ·exact cn h.rs
 ·exact h.st.ltX a
 ·omega
def kM.rdr(h:kM w0 W r z q v l t d nx fu ss A C P O B)(c:fg W' r v l t')(m:cl (λb=>b=r) W W'):kM w0 W' r z q v l t' d nx fu ss A C P O B:=
 ⟨c,h.st.modX m λy a e=>h.nr (e▸a),m.hpk h.rs h.rz.symm,h.md.on m λb f=>.inr (by rw[f];exact h.ge.1),h.ge,h.rz,h.nr,h.nz,h.vb⟩
def kM.md0(h:kM w0 W r z q v l t d nx fu ss A C P O B)(m:cl (λ_=>False) W W'):kM w0 W' r z q v l t d nx fu ss A C P O B:=
 ⟨h.rd.mod m id λ_ _ h=>h,h.st.modX m λ_ _ h=>h,m.hpk h.rs id,h.md.trans m,h.ge,h.rz,h.nr,h.nz,h.vb⟩
def kM.loc(h:kM w0 W r z q v l t d nx fu ss A C P O B){p:Nat}(hp:∀y,Zr w0 r z q ss y->y<p)(m:cl (λy=>y=p) W W'):kM w0 W' r z q v l t d nx fu ss A C P O B:=by
 have h1:=hp r (.inl rfl);have i:=hp z (.inr (.inl rfl));have g:∀y,XS ss q y->y<p:=λy a=>hp y (.inr (.inr (.inl a)));have c:∀y,y<w0.heap.size->y<p:=λy a=>hp y (.inr (.inr (.inr a)));exact⟨h.rd.mod m (by omega) λb f e=>by have:=c b (h.vb b f);omega,h.st.modX m λy a e=>by have:=g y a;omega,m.hpk h.rs (by omega),h.md.on m λb f=>by have:=c b;omega,h.ge,h.rz,h.nr,h.nz,h.vb⟩
def kM.push(h:kM w0 W r z q v l t d nx fu ss A C P O B){a:Nat->Value}{f:List Ac}{C' :List Ct}{i:List Po}{g B' :List (Int×Od)}(j:SB W' q d nx fu a f C' i g B' w0.heap.size)(m:cl (XS ss q) W W')(n:∀y,XS a q y->XS ss q y\/W.heap.size<=y):kM w0 W' r z q v l t d nx fu a f C' i g B' :=
 ⟨h.rd.mod m h.nr λb e c=>by have:=h.vb b e;have:=h.xge c;omega,j,m.hpk h.rs h.nz,h.md.on m λb e=>.inr (h.xge e),h.ge,h.rz,
  λc=>(n r c).elim h.nr λk=>by have:=h.lt (y:=r) (.inl rfl);omega,λc=>(n z c).elim h.nz λk=>by have:=h.lt (y:=z) (.inr (.inl rfl));omega,h.vb⟩
end
end Go.Proofs
