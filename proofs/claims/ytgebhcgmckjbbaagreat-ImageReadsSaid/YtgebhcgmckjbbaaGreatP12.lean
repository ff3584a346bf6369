/- Part of a proof. -/
import Derived.Test.YtgebhcgmckjbbaaGreatP11
set_option linter.all false
namespace Go.Proofs
open Go Go.Vc
def yg(x:Int):Nat:=if 0<=x then 2*x.toNat else 2*(-x - 1).toNat+1
def KU(n:Nat):Int:=if n%2=0 then(n / 2:Nat)else -((n / 2:Nat):Int) - 1
def Jq(n:Nat):yg (KU n)=n:=by
 unfold KU;by_cases h:n%2=0
 ·rw[if_pos h];unfold yg;rw[if_pos (by omega)];omega
 ·rw[if_neg h];unfold yg;rw[if_neg (by omega)];omega
def AC{x:Int}(h:fW x):yg x<18446744073709551616:=by
 unfold yg;split<;>omega
def JD{n:Nat}(h:n<18446744073709551616):fW (KU n):=by
 unfold KU;split<;>(constructor<;>omega)
def eB(x:Int):List UInt8:=fq x.toNat
def iI(x:Int):List UInt8:=fq (yg x)
def kg(f:Bool):List UInt8:=[if f then 1 else 0]
def IL(s:Sp):List UInt8:=
 if s.may then eB s.num++(eB s.route++(eB s.tick++(eB s.lot++(eB s.band++eB s.limit))))++s.shifts.toList.flatMap iI++(eB s.credit++(eB s.last++eB s.first))else []
def DV(a:Ac):List UInt8:=eB a.num++(iI a.cash++(kg a.kil++kg a.dfl))
def Dv(k:Ct):List UInt8:=IL k.spec++(eB k.st++iI k.price)
def BT(p:Po):List UInt8:=eB p.c++(eB p.a++(iI p.q++iI p.b))
def qV(x:Int×Od):List UInt8:=eB x.1++(eB x.2.num++(eB x.2.acct++(kg x.2.buy++(iI x.2.price++iI x.2.left))))
def vd{α:Type}(f:α->List UInt8)(l:List α):List UInt8:=fq l.length++l.flatMap f
def Da(s:iN):List UInt8:=eB s.day++(eB s.next++(iI s.fund++(vd DV s.accts++(vd Dv s.cts++(vd BT s.poss++(vd qV s.ords++vd qV s.bids))))))
def cz(l:List UInt8)(most:Nat)(s:Rs):Int×Rs:=((cw l most s).1,(cw l most s).2)
def di(l:List UInt8)(s:Rs):Int×Rs:=(KU (cw l 18446744073709551615 s).1,(cw l 18446744073709551615 s).2)
def ey(l:List UInt8)(s:Rs):Bool×Rs:=
 if s.e≠0 then(false,s)else if s.at_=l.length then(false,{s with e:=4})
 else if 1<(l.getD s.at_ 0).toNat then(false,{s with e:=5})else(decide ((l.getD s.at_ 0).toNat=1),{s with at_:=s.at_+1})
def mq(e:Nat)(s:Rs):Rs:=if s.e≠0 then s else{s with e:=e}
def dO(l:List UInt8):Nat->Rs->List Int×Rs
 |0,s=>([],s)
 |n+1,s=>((di l s).1::(dO l n (di l s).2).1,(dO l n (di l s).2).2)
def mP(l:List UInt8):∀(n:Nat) (s:Rs),(dO l n s).1.length=n
 |0,s=>rfl
 |n+1,s=>by simp only[dO,List.length_cons,mP l n]
def fF:Nat:=4294967295
def iS:Nat:=9223372036854775807
def qa:Nat:=18446744073709551615
def eQ(l:List UInt8)(s:Rs):Sp×Rs:=
 let a:=cz l fF s;let b:=cz l 255 a.2;let c:=cz l iS b.2;let d:=cz l iS c.2;let e:=cz l iS d.2;let f:=cz l iS e.2;let g:=dO l 16 f.2;let h:=cz l iS g.2;let i:=cz l fF h.2;let j:=cz l iS i.2
 (⟨a.1,b.1,c.1,d.1,e.1,f.1,⟨g.1.toArray,by simp[g,mP]⟩,h.1,i.1,j.1⟩,j.2)
def ir(l:List UInt8)(s:Rs):Sp×Rs:=if(eQ l s).1.may then eQ l s else(ke,mq 5 (eQ l s).2)
def jY(l:List UInt8)(s:Rs):Ac×Rs:=
 let a:=cz l fF s;let b:=di l a.2;let c:=ey l b.2;let d:=ey l c.2
 (⟨a.1,b.1,c.1,d.1⟩,d.2)
def gU(l:List UInt8)(s:Rs):Ct×Rs:=
 let a:=ir l s;let b:=cz l 255 a.2;let c:=di l b.2
 (⟨a.1,b.1,c.1⟩,c.2)
def kd(l:List UInt8)(s:Rs):Po×Rs:=
 let a:=cz l fF s;let b:=cz l fF a.2;let c:=di l b.2;let d:=di l c.2
 (⟨a.1,b.1,c.1,d.1⟩,d.2)
def fe(l:List UInt8)(s:Rs):(Int×Od)×Rs:=
 let a:=cz l fF s;let b:=cz l qa a.2;let c:=cz l fF b.2;let d:=ey l c.2;let e:=di l d.2;let f:=di l e.2
 ((a.1,⟨b.1,c.1,d.1,e.1,f.1⟩),f.2)
def dv{α:Type}(l:List UInt8)(f:Rs->α×Rs):Nat->List α->Rs->List α×Rs
 |0,acc,s=>(acc,s)
 |n+1,acc,s=>if l.length - (f s).2.at_=0/\de l (f s).2≠0 then([],(f s).2)else dv l f n (acc++[(f s).1]) (f s).2
def dG{α:Type}(l:List UInt8)(f:Rs->α×Rs)(most:Nat)(s:Rs):List α×Rs:=dv l f (cw l most s).1 [] (cw l most s).2
def dh(l:List UInt8):iN×Rs:=
 let a:=cz l fF ⟨0,0⟩;let b:=cz l qa a.2;let c:=di l b.2;let d:=dG l (jY l) 64 c.2;let e:=dG l (gU l) 16 d.2;let f:=dG l (kd l) 1024 e.2;let g:=dG l (fe l) 3200 f.2;let h:=dG l (fe l) 800 g.2
 (⟨a.1,b.1,c.1,d.1,e.1,f.1,g.1,h.1⟩,h.2)
def MT{l:List UInt8}:∀{k acc e:Nat},oZ l k acc=.error e->e=4\/e=5:=by
 induction l with
 |nil=>intro k acc e h;cases h;exact .inl rfl
 |cons x r a=>
  intro k acc e h;simp only[oZ]at h;split at h
  ·cases h;exact .inr rfl
  ·split at h
   ·split at h
    ·cases h;exact .inr rfl
    ·cases h
   ·exact a h
structure ie(l:List UInt8)(s s' :Rs)(b:List UInt8):Prop where
 le:s.at_<=l.length->s'.at_<=l.length
 ok:s'.e=0->s.e=0
 eq:s.at_<=l.length->s'.e=0->l.drop s.at_=b++l.drop s'.at_
def ie.trans{l:List UInt8}{s s' a:Rs}{b d:List UInt8}(h:ie l s s' b)(c:ie l s' a d):ie l s a (b++d) where
 le h0:=c.le (h.le h0)
 ok h0:=h.ok (c.ok h0)
 eq h0 h1:=by rw[h.eq h0 (c.ok h1),c.eq (h.le h0) h1,List.append_assoc]
def ie.nil(l:List UInt8)(s:Rs):ie l s s []:=⟨id,id,λ_ _=>rfl⟩
def ie.cast{l:List UInt8}{s s' :Rs}{b a:List UInt8}(h:ie l s s' b)(e:s'.e=0->b=a):ie l s s' a:=⟨h.le,h.ok,λc h1=>by rw[<-e h1];exact h.eq c h1⟩
def pY(l:List UInt8)(most:Nat)(s:Rs):ie l s (cw l most s).2 (fq (cw l most s).1):=by
 refine⟨AD,λh=>?_,λf h1=>?_⟩
 ·unfold cw at h;by_cases a:s.e≠0
  ·rw[if_pos a]at h;exact h
  ·simpa using a
 ·unfold cw at h1|-;by_cases a:s.e≠0
  ·rw[if_pos a]at h1;exact absurd h1 a
  rw[if_neg a]at h1|-;cases b:oZ (l.drop s.at_) 0 0 with
  |error e=>
   rw[b]at h1;rcases(show e=4\/e=5 from MT b)with rfl|rfl<;>cases h1
  |ok p=>
   obtain⟨n,k⟩:=p;rw[b]at h1;simp only at h1|-;by_cases c:most<n
   ·rw[if_pos c]at h1;cases h1
   rw[if_neg c];have d:=oz b;show _=fq n++l.drop (s.at_+k);rw[<-d.2.2.1,<-List.drop_drop,List.take_append_drop]
def eD(l:List UInt8)(most:Nat)(s:Rs):ie l s (cz l most s).2 (eB (cz l most s).1):=by
 have:=pY l most s;unfold eB cz;simpa using this
def iV(l:List UInt8)(s:Rs):ie l s (di l s).2 (iI (di l s).1):=by
 have:=pY l qa s;unfold iI di;rw[Jq];exact this
def rj(l:List UInt8)(s:Rs):ie l s (ey l s).2 (kg (ey l s).1):=by
 unfold ey;by_cases b:s.e≠0
 ·rw[if_pos b];exact⟨id,id,λ_ h=>absurd h b⟩
 rw[if_neg b];have d:s.e=0:=by simpa using b
 by_cases h1:s.at_=l.length
 ·rw[if_pos h1];exact⟨id,λh=>(by cases h),λ_ h=>(by cases h)⟩
 rw[if_neg h1];by_cases c:1<(l.getD s.at_ 0).toNat
 ·rw[if_pos c];exact⟨id,λh=>(by cases h),λ_ h=>(by cases h)⟩
 rw[if_neg c];refine⟨λh=>by show s.at_+1<=_;omega,λ_=>d,λh _=>?_⟩;have a:s.at_<l.length:=by omega
 show l.drop s.at_=kg _++l.drop (s.at_+1);rw[List.drop_eq_getElem_cons a];have e:l.getD s.at_ 0=l[s.at_]:=by simp[a]
 rw[e]at c|-;unfold kg
 have g:(if decide (l[s.at_].toNat=1)=true then(1:UInt8)else 0)=l[s.at_]:=by
  apply UInt8.toNat.inj;by_cases f:l[s.at_].toNat=1
  ·simp[f]
  ·have:l[s.at_].toNat=0:=by omega
   simp[this]
 rw[g];rfl
def wG(l:List UInt8):∀(n:Nat) (s:Rs),ie l s (dO l n s).2 ((dO l n s).1.flatMap iI)
 |0,s=>ie.nil l s
 |n+1,s=>by
  simp only[dO,List.flatMap_cons];exact(iV l s).trans (wG l n _)
attribute [local irreducible] cz di ey dO
def Fj(l:List UInt8)(s:Rs):ie l s (eQ l s).2 (eB (eQ l s).1.num++(eB (eQ l s).1.route++(eB (eQ l s).1.tick++(eB (eQ l s).1.lot++(eB (eQ l s).1.band++eB (eQ l s).1.limit))))++(eQ l s).1.shifts.toList.flatMap iI++(eB (eQ l s).1.credit++(eB (eQ l s).1.last++eB (eQ l s).1.first))):=by
 have h1:=(eD l fF s).trans ((eD l 255 _).trans ((eD l iS _).trans ((eD l iS _).trans ((eD l iS _).trans (eD l iS _)))));have H:=(h1.trans (wG l 16 _)).trans ((eD l iS _).trans ((eD l fF _).trans (eD l iS _)));unfold eQ;simp only;exact H
def JW(l:List UInt8)(s:Rs):ie l s (ir l s).2 (IL (ir l s).1):=by
 have h:=Fj l s;unfold ir;by_cases b:(eQ l s).1.may=true
 ·rw[if_pos b];unfold IL;rw[if_pos b];exact h
 ·rw[if_neg b];refine⟨λa=>?_,λa=>?_,λ_ a=>?_⟩
  ·unfold mq;split
   ·exact h.le a
   ·exact h.le a
  ·exfalso;unfold mq at a;split at a
   ·exact absurd a (by assumption)
   ·cases a
  ·exfalso;unfold mq at a;split at a
   ·exact absurd a (by assumption)
   ·cases a
def wT(l:List UInt8)(s:Rs):ie l s (jY l s).2 (DV (jY l s).1):=by
 have H:=(eD l fF s).trans ((iV l _).trans ((rj l _).trans (rj l _)));unfold jY;simp only;exact H
def tA(l:List UInt8)(s:Rs):ie l s (gU l s).2 (Dv (gU l s).1):=by
 have H:=(JW l s).trans ((eD l 255 _).trans (iV l _));unfold gU;simp only;exact H
def tn(l:List UInt8)(s:Rs):ie l s (kd l s).2 (BT (kd l s).1):=by
 have H:=(eD l fF s).trans ((eD l fF _).trans ((iV l _).trans (iV l _)));unfold kd;simp only;exact H
def lu(l:List UInt8)(s:Rs):ie l s (fe l s).2 (qV (fe l s).1):=by
 have H:=(eD l fF s).trans ((eD l qa _).trans ((eD l fF _).trans ((rj l _).trans ((iV l _).trans (iV l _)))));unfold fe;simp only;exact H
def qZ{l:List UInt8}{s:Rs}(h:l.length - s.at_=0/\de l s≠0):s.e≠0:=by
 intro a;apply h.2;unfold de;rw[if_neg (by omega)];exact a
def zz{α:Type}{l:List UInt8}{f:Rs->α×Rs}{g:α->List UInt8}(b:∀s,ie l s (f s).2 (g (f s).1)):∀(n:Nat) (acc:List α) (s:Rs),(dv l f n acc s).2.e=0->(dv l f n acc s).1.length=acc.length+n
 |0,acc,s,h=>rfl
 |n+1,acc,s,h=>by
  unfold dv at h|-;by_cases a:l.length - (f s).2.at_=0/\de l (f s).2≠0
  ·rw[if_pos a]at h;exact absurd h (qZ a)
  ·rw[if_neg a]at h|-;rw[zz b n _ _ h,List.length_append,List.length_singleton];omega
def oT{α:Type}{l:List UInt8}{f:Rs->α×Rs}{g:α->List UInt8}(b:∀s,ie l s (f s).2 (g (f s).1)):∀(n:Nat) (acc:List α) (s:Rs),
  ∃t,ie l s (dv l f n acc s).2 (t.flatMap g)/\((dv l f n acc s).2.e=0->(dv l f n acc s).1=acc++t)
 |0,acc,s=>⟨[],ie.nil l s,λ_=>(List.append_nil acc).symm⟩
 |n+1,acc,s=>by
  unfold dv;by_cases a:l.length - (f s).2.at_=0/\de l (f s).2≠0
  ·rw[if_pos a];exact⟨[(f s).1],by simpa using b s,λh=>absurd h (qZ a)⟩
  ·rw[if_neg a];obtain⟨t,h1,c⟩:=oT b n (acc++[(f s).1]) (f s).2;refine⟨(f s).1::t,by rw[List.flatMap_cons];exact(b s).trans h1,λh=>?_⟩;rw[c h,List.append_assoc];rfl
def gC{α:Type}{l:List UInt8}{f:Rs->α×Rs}{g:α->List UInt8}(a:∀s,ie l s (f s).2 (g (f s).1))(most:Nat)(s:Rs):ie l s (dG l f most s).2 (vd g (dG l f most s).1):=by
 unfold dG;obtain⟨t,h1,d⟩:=oT a (cw l most s).1 [] (cw l most s).2;refine((pY l most s).trans h1).cast λh=>?_;have c:=zz a (cw l most s).1 [] (cw l most s).2 h;have b:=d h;rw[List.nil_append]at b;unfold vd;rw[c,b];simp
attribute [local irreducible] ir jY gU kd fe dG
def Hn(l:List UInt8):ie l ⟨0,0⟩ (dh l).2 (Da (dh l).1):=by
 have H:=(eD l fF ⟨0,0⟩).trans ((eD l qa _).trans ((iV l _).trans ((gC (wT l) 64 _).trans ((gC (tA l) 16 _).trans ((gC (tn l) 1024 _).trans ((gC (lu l) 3200 _).trans (gC (lu l) 800 _)))))));unfold dh;simp only;exact H
def Eo{l:List UInt8}(h:de l (dh l).2=0):Da (dh l).1=l:=by
 have b:=Hn l;unfold de at h;by_cases c:(dh l).2.e=0/\(dh l).2.at_<l.length
 ·rw[if_pos c]at h;cases h
 rw[if_neg c]at h;have h1:=b.le (Nat.zero_le _);have a:=b.eq (Nat.zero_le _) h;rw[List.drop_zero,show(dh l).2.at_=l.length by omega,List.drop_length,List.append_nil]at a;exact a.symm
end Go.Proofs
namespace Go.Proofs
open Go Go.Vc
attribute [local congr] cq
def Sg(a b:Nat)(W:World):(nE .lss 3 false (.int .i64 (a:Int)) (.int .i64 (b:Int))).run Tryz.prog W=.ok (.bool (decide (a<b))) W:=by simp[go_sem]
def MN{i:Nat}(h:i<1000000)(W:World):(nE .add 3 true (.int .i64 (i:Int)) (.int .i64 1)).run Tryz.prog W=.ok (.int .i64 ((i+1:Nat):Int)) W:=by
 simp[go_sem];rw[cS (by omega) (by omega)]
def FM(a:Nat)(b:a<9223372036854775808):bits .xor .i64 (a:Int) 0=(a:Int):=by
 show IntKind.i64.wrap ((BitVec.ofInt 64 (a:Int) ^^^ BitVec.ofInt 64 0).toNat:Int)=_;have h1:BitVec.ofInt 64 0=0#64:=by decide
 rw[h1,BitVec.xor_zero,ofInt_u64 a (by omega)];simp[IntKind.wrap,IntKind.bits,IntKind.signed];omega
def GT(a:Nat)(b:a<9223372036854775808):bits .xor .i64 (a:Int) (-1)= -1 - (a:Int):=by
 rw[<-i64_not a b];show IntKind.i64.wrap ((BitVec.ofInt 64 (a:Int) ^^^ BitVec.ofInt 64 (-1)).toNat:Int)=IntKind.i64.wrap ((BitVec.ofInt 64 (-1) ^^^ BitVec.ofInt 64 (a:Int)).toNat:Int);rw[BitVec.xor_comm]
def FX(a:Nat)(b:a<18446744073709551616):bits .xor .u64 (a:Int) 18446744073709551615=((18446744073709551615 - a:Nat):Int):=by
 show IntKind.u64.wrap ((BitVec.ofInt 64 (a:Int) ^^^ BitVec.ofInt 64 18446744073709551615).toNat:Int)=_;have h1:BitVec.ofInt 64 18446744073709551615=BitVec.allOnes 64:=by decide
 rw[h1,BitVec.xor_allOnes,BitVec.toNat_not,ofInt_u64 a b,IntKind.wrap_u64];omega
def GL(a:Nat)(b:a<18446744073709551616):bits .xor .u64 (a:Int) 0=(a:Int):=by
 have:=u64_xor_nat a 0 b (by omega);simpa using this
def lq{w:World}{K:cm}{r:Nat}{v:Value}{l:List UInt8}{s:Rs}(h:dD w r v l s)
  (f:∀a,dD a r v l (di l s).2->cl (λb=>b=r) w a->K (.int .i64 (di l s).1) a):Ca Tryz.prog 62 #[dJ r] w K:=by
 apply Sv;refine B6 h λc h1 g=>?_;have d:=f c h1 g;unfold di at d;simp only at d;have i:(cw l 18446744073709551615 s).1<=18446744073709551615:=dN;generalize(cw l 18446744073709551615 s).1=n at d i|-;refine ck (v:=.int .u64 ((n / 2:Nat):Int)) (w' :=c) (by simp[go_sem]) ?_;refine ck (v:=.int .i64 ((n / 2:Nat):Int)) (w' :=c) (by simp[-Int.natCast_ediv,go_sem];rw[cS (by omega) (by omega)]) ?_;refine ck (v:=.int .u64 ((n%2:Nat):Int)) (w' :=c) (by simp only[go_sem];simp[-Int.natCast_emod,go_sem];rw[show(1:Int)=((1:Nat):Int)from rfl,u64_and_nat _ _ (by omega) (by omega),nat_mask1]) ?_;refine ck (v:=.int .i64 ((n%2:Nat):Int)) (w' :=c) (by simp[-Int.natCast_emod,go_sem];rw[cS (by omega) (by omega)]) ?_;by_cases e:n%2=0
 ·rw[e];refine ck (v:=.int .i64 0) (w' :=c) (by simp[go_sem];decide) ?_;refine ck (v:=.int .i64 ((n / 2:Nat):Int)) (w' :=c) (by simp only[go_sem];simp[-Int.natCast_ediv,go_sem];rw[FM _ (by omega)]) ?_;unfold KU at d;rw[if_pos e]at d;exact d
 ·rw[show n%2=1 by omega];refine ck (v:=.int .i64 (-1)) (w' :=c) (by simp[go_sem];decide) ?_;refine ck (v:=.int .i64 (-((n / 2:Nat):Int) - 1)) (w' :=c) (by simp only[go_sem];simp[-Int.natCast_ediv,go_sem];rw[GT _ (by omega)];omega) ?_;unfold KU at d;rw[if_neg e]at d;exact d
def wL(W:World){r:Nat}{v:Value}{l:List UInt8}{s:Rs}(h:dD W r v l s):(Instr.loadAt 54 (.pointer (some ⟨r,0,none⟩))).run Tryz.prog W=.ok v W/\(Instr.loadAt 3 (.pointer (some ⟨r,1,none⟩))).run Tryz.prog W=.ok (.int .i64 s.at_) W:=by
 obtain⟨a,c,rfl⟩:=h.rd.isSl;have b:=h.blk;exact⟨by simp[go_sem,b],by simp[go_sem,b]⟩
def sk(i:Nat)(hi:i<3)(W:World){r:Nat}:(Instr.fieldAt 248 (.pointer (some ⟨r,0,none⟩)) i).run Tryz.prog W=.ok (.pointer (some ⟨r,i,none⟩)) W:=by
 have:i=0\/i=1\/i=2:=by omega
 rcases this with rfl|rfl|rfl<;>simp[go_sem]
def dD.drew{w:World}{r:Nat}{v:Value}{l:List UInt8}{s:Rs}(h:dD w r v l s):dD w.drew r v l s:=h.mod (cl.refl (λ_=>False) w).drew id λ_ _ h=>h
set_option maxRecDepth 10000 in
def tH{w:World}{K:cm}{r:Nat}{v:Value}{l:List UInt8}{s:Rs}(h:dD w r v l s)
  (c:∀k,dD k r v l (ey l s).2->cl (λb=>b=r) w k->K (.bool (ey l s).1) k):Ca Tryz.prog 65 #[dJ r] w K:=by
 have N:=h.le;have G:=h.len;apply Se;refine Bb h ?_;unfold ey at c;by_cases u:s.e≠0
 ·rw[ci,if_pos (by simpa using u)];rw[if_pos u]at c;exact c _ h (cl.refl _ _)
 rw[ci,if_neg (by simpa using u)];rw[if_neg u]at c;obtain⟨P,vc,M⟩:=h.rd.isSl;have h1:=h.drew;have H:cl (λb=>b=r) w w.drew:=(cl.refl _ w).drew;simp only[dJ,cr];refine co (λW=>sk 1 (by omega) W) (cB (wL _ h1).2 ?_);refine co (λW=>sk 0 (by omega) W) (cB (wL _ h1).1 ?_);refine cB (v:=.int .i64 l.length) (by rw[M];simp[go_sem]) ?_;refine co (v:=.bool (decide (s.at_=l.length))) (λW=>by simp[go_sem];rw[Bool.eq_iff_iff];simp;omega) ?_;by_cases a:s.at_=l.length
 ·rw[if_pos a]at c;rw[ci,if_pos (by simpa using a)];obtain⟨p,m⟩:=h1.fault 4;refine ck (sk 2 (by omega) _) (dt (w' :=w.drew.setCell ⟨r,2,none⟩ (.int .i64 4)) (by simp[go_sem,h1.blk]) ?_);exact c _ p (H.trans m)
 rw[if_neg a]at c;rw[ci,if_neg (by simpa using a)];have d:s.at_<l.length:=by omega
 have f:=h1.drew;have z:cl (λb=>b=r) w w.drew.drew:=H.drew;generalize w.drew.drew=n at f z|-;obtain⟨b,q,J,C,L,I,j,F,D,A⟩:=Rd.byte f.rd d d;have y:l.getD s.at_ 0=l[s.at_]:=by simp[d]
 rw[y]at c;generalize l[s.at_]=x at A c;refine co (λW=>sk 0 (by omega) W) (cB (wL _ f).1 ?_);refine co (λW=>sk 1 (by omega) W) (cB (wL _ f).2 ?_);have i:¬(l.length:Int)<=(s.at_:Int):=by omega
 refine co (v:=.pointer (some ⟨b,q+s.at_,none⟩)) (λW=>by rw[j];simp[go_sem,i,d,cE]) ?_;refine cB (v:=.int .u8 (x.toNat:Int)) (by simp[go_sem,D,A]) ?_;refine co (v:=.bool (decide (1<x.toNat))) (λW=>by simp[go_sem];omega) ?_;by_cases g:1<x.toNat
 ·rw[if_pos g]at c;rw[ci,if_pos (by simpa using g)];obtain⟨p,m⟩:=f.fault 5;refine ck (sk 2 (by omega) _) (dt (w' :=n.setCell ⟨r,2,none⟩ (.int .i64 5)) (by simp[go_sem,f.blk]) ?_);exact c _ p (z.trans m)
 rw[if_neg g]at c;rw[ci,if_neg (by simpa using g)];refine ck (sk 1 (by omega) _) (ck (wL _ f).2 ?_);refine ck (v:=.int .i64 ((s.at_+1:Nat):Int)) (w' :=n) (by simp[go_sem];rw[cS (by omega) (by omega)]) ?_;obtain⟨p,m⟩:=f.go (s.at_+1) (by omega);refine ck (sk 1 (by omega) _) (dt (w' :=n.setCell ⟨r,1,none⟩ (.int .i64 (s.at_+1:Nat))) (by simp[-Int.natCast_add,go_sem,f.blk]) ?_);have t:=p.drew;have E:cl (λb=>b=r) w (n.setCell ⟨r,1,none⟩ (.int .i64 (s.at_+1:Nat))).drew:=(z.trans m).drew;have B:b≠r:=λe=>f.ne (by rw[j,<-e];exact⟨_,_,_,rfl,by omega,rfl⟩);have o:hp (n.setCell ⟨r,1,none⟩ (.int .i64 (s.at_+1:Nat))).drew b=some (.cells C L I):=(m.drew).hpk D B;generalize(n.setCell ⟨r,1,none⟩ (.int .i64 (s.at_+1:Nat))).drew=O at t E o|-;refine co (λW=>sk 0 (by omega) W) (cB (wL _ t).1 ?_);refine co (λW=>sk 1 (by omega) W) (cB (wL _ t).2 ?_);refine co (v:=.int .i64 (s.at_:Int)) (λW=>by simp[go_sem];rw[cS (by omega) (by omega)]) ?_;refine co (v:=.pointer (some ⟨b,q+s.at_,none⟩)) (λW=>by rw[j];simp[go_sem,i,d,cE]) ?_;refine cB (v:=.int .u8 (x.toNat:Int)) (by simp[go_sem,o,A]) ?_;refine co (v:=.bool (decide (x.toNat=1))) (λW=>by simp[go_sem];rw[Bool.eq_iff_iff];simp;omega) ?_;exact c _ t E
def qz{w:World}{K:cm}{r:Nat}{v:Value}{l:List UInt8}{s:Rs}(h:dD w r v l s)
  (e:∀a,cl (λ_=>False) w a->K (.int .i64 ((l.length - s.at_:Nat):Int)) a):Ca Tryz.prog 147 #[dJ r] w K:=by
 have d:=h.le;have b:=h.len;apply Ps;refine ck (v:=.bool false) (w' :=w) (by simp[go_sem,dJ]) ?_;rw[ci,if_neg Bool.false_ne_true];simp only[dJ,cr];have h1:=h.drew;obtain⟨f,vc,c⟩:=h.rd.isSl;refine co (λW=>sk 0 (by omega) W) (cB (wL _ h1).1 ?_);refine cB (v:=.int .i64 l.length) (by rw[c];simp[go_sem]) ?_;refine co (λW=>sk 1 (by omega) W) (cB (wL _ h1).2 ?_);refine co (v:=.int .i64 ((l.length - s.at_:Nat):Int)) (λW=>by simp[go_sem];rw[cS (by omega) (by omega)];omega) ?_;exact e _ (cl.refl _ w).drew
def Ht{w:World}{K:cm}{r e:Nat}{v:Value}{l:List UInt8}{s:Rs}(h:dD w r v l s)
  (c:∀a,dD a r v l (mq e s)->cl (λb=>b=r) w a->K (.tuple #[]) a):Ca Tryz.prog 149 #[dJ r,.int .i64 e] w K:=by
 apply PH;refine Bb h ?_;refine ck (v:=.bool (decide (s.e=0))) (w' :=w) (by simp[go_sem]) ?_;unfold mq at c;by_cases d:s.e≠0
 ·rw[if_pos d]at c;rw[ci,if_neg (by simpa using d)];exact c _ h (cl.refl _ _)
 ·rw[if_neg d]at c;rw[ci,if_pos (by simpa using d)];simp only[dJ,cr];obtain⟨g,f⟩:=h.fault e;refine ck (sk 2 (by omega) _) (dt (w' :=w.setCell ⟨r,2,none⟩ (.int .i64 e)) (by simp[go_sem,h.blk]) ?_);exact c _ g f
def DP{x:Int}{w:World}{K:cm}(h:fW x)(a:K (.int .u64 (yg x:Int)) w):Ca Tryz.prog 240 #[.int .i64 x] w K:=by
 apply Qn;by_cases b:0<=x
 ·obtain⟨n,rfl⟩:=Int.eq_ofNat_of_zero_le b;have c:yg ((n:Nat):Int)=2*n:=by unfold yg;rw[if_pos b];simp
  rw[c]at a;refine ck (v:=.int .u64 (n:Int)) (w' :=w) (by simp[go_sem];rw[eP (by omega) (by omega)]) ?_;refine ck (v:=.int .u64 ((2*n:Nat):Int)) (w' :=w) (by simp[-Int.natCast_mul,go_sem];rw[eP (by omega) (by omega)];omega) ?_;refine ck (v:=.int .i64 0) (w' :=w) (by simp[go_sem];omega) ?_;refine ck (v:=.int .u64 0) (w' :=w) (by simp[go_sem];decide) ?_;refine ck (v:=.int .u64 ((2*n:Nat):Int)) (w' :=w) (by simp only[go_sem];simp[-Int.natCast_mul,go_sem];rw[GL _ (by omega)]) ?_;exact a
 ·have c:(yg x:Int)= -2*x - 1:=by unfold yg;rw[if_neg b];omega
  rw[c]at a;obtain⟨m,d⟩:∃m:Nat,(m:Int)=18446744073709551616+2*x:=⟨(18446744073709551616+2*x).toNat,by omega⟩
  refine ck (v:=.int .u64 (18446744073709551616+x)) (w' :=w) (by simp[go_sem];rw[IntKind.wrap_u64];omega) ?_;refine ck (v:=.int .u64 (m:Int)) (w' :=w) (by simp[go_sem];rw[IntKind.wrap_u64];omega) ?_;refine ck (v:=.int .i64 (-1)) (w' :=w) (by simp[go_sem];omega) ?_;refine ck (v:=.int .u64 18446744073709551615) (w' :=w) (by simp[go_sem];decide) ?_;refine ck (v:=.int .u64 (-2*x - 1)) (w' :=w) (by simp only[go_sem];simp[go_sem];rw[FX _ (by omega)];omega) ?_;exact a
abbrev kX(w:World)(s:Value)(l:List UInt8):Prop:=d7 w 5 1 s l.length (bv l)
def kR{w:World}{K:cm}{s:Value}{n:Nat}{l:List UInt8}(h:kX w s l)(g:n<18446744073709551616)(e:l.length<=1000000000)
  (f:∀a c,kX c a (l++fq n)->cl (cv s) w c->(∀b,cv a b->cv s b\/w.heap.size<=b)->K a c):Ca Tryz.prog 100 #[s,.int .u64 n] w K:=
 JH h g e λa c o m d=>f a c (by unfold kX;rw[List.length_append];exact o) m d
def JP{w:World}{K:cm}{s:Value}{x:Int}{l:List UInt8}(h:kX w s l)(d:fW x)(e:l.length<=1000000000)
  (f:∀a c,kX c a (l++iI x)->cl (cv s) w c->(∀b,cv a b->cv s b\/w.heap.size<=b)->K a c):Ca Tryz.prog 154 #[s,.int .i64 x] w K:=by
 apply Pq;refine DP d ?_;exact kR h (AC d) e f
def nG(l:List UInt8):∀(n:Nat) (s:Rs),dO l (n+1) s=((dO l n s).1++[(di l (dO l n s).2).1],(di l (dO l n s).2).2)
 |0,s=>rfl
 |n+1,s=>by
  have a:=nG l n (di l s).2;have e:dO l (n+1+1) s=((di l s).1::(dO l (n+1) (di l s).2).1,(dO l (n+1) (di l s).2).2):=rfl;rw[e,a];rfl
def iP(l:List UInt8)(most:Nat)(s:Rs):0<=(cz l most s).1/\(cz l most s).1<=most:=by
 have:=dN (l:=l) (most:=most) (s:=s);unfold cz;simp only;omega
def fO(l:List UInt8)(s:Rs):fW (di l s).1:=by
 have:=dN (l:=l) (most:=18446744073709551615) (s:=s);exact JD (by omega)
def ua(l:List UInt8):∀(n:Nat) (s:Rs),∀x∈(dO l n s).1,fW x
 |0,s,x,a=>by cases a
 |n+1,s,x,a=>by
  rcases List.mem_cons.1 a with rfl|a
  ·exact fO l s
  ·exact ua l n _ x a
def gg(l:List UInt8)(s:Rs):iC (cz l fF s).1:=by
 have:=iP l fF s;unfold fF at*;exact⟨this.1,by omega⟩
def jH(l:List UInt8)(s:Rs):fW (cz l iS s).1:=by
 have:=iP l iS s;unfold iS at*;constructor<;>omega
def wU(l:List UInt8)(s:Rs):I2 (cz l qa s).1:=by
 have:=iP l qa s;unfold qa at*;exact⟨this.1,by omega⟩
def se(l:List UInt8)(s:Rs):0<=(cz l 255 s).1/\(cz l 255 s).1<256:=by
 have:=iP l 255 s;omega
def rN(l:List UInt8)(s:Rs):(eQ l s).1.Fit:=
 ⟨gg ..,se ..,jH ..,jH ..,jH ..,jH ..,λx a=>ua l 16 _ x (by simpa [eQ]using a),jH ..,gg ..,jH ..⟩
def BP:ke.Fit:=by
 refine⟨?_,?_,?_,?_,?_,?_,λx a=>?_,?_,?_,?_⟩
 all_goals first|(have:x=0:=(by simpa [ke]using a);rw[this];decide)|decide
def GK(l:List UInt8)(s:Rs):(ir l s).1.Fit:=by
 unfold ir;split
 ·exact rN l s
 ·exact BP
def rh(a b t lo bd li:Int)(sh:List Value)(c la f:Int):List Value:=[.int .u32 a,.int .u8 b,.int .i64 t,.int .i64 lo,.int .i64 bd,.int .i64 li]++(sh++[.int .i64 c,.int .u32 la,.int .i64 f])
def NS(s:Sp):dl s=rh s.num s.route s.tick s.lot s.band s.limit (Cz s.shifts) s.credit s.last s.first:=rfl
def qP:lg Tryz.prog 38=dl ke:=by kernel_rfl
def It:lh Tryz.prog 38=true:=by kernel_rfl
def Hx(a b:Int):Tryz.prog.built 38 [(0,.int .u32 a),(1,.int .u8 b)]=some (dl {ke with num:=a,route:=b}).toArray:=by
 have h1:∀c,Tryz.prog.built 38 c=Instr.fill (λi=>#[(0,1),(1,1),(2,1),(3,1),(4,1),(5,1),(6,16),(22,1),(23,1),(24,1)][i]?) (lg Tryz.prog 38).toArray c:=λc=>by kernel_rfl
 rw[h1,qP];rw[oQ (off:=0) (size:=1) rfl rfl (by rw[cJ];omega),oQ (off:=1) (size:=1) rfl rfl (by have:(Value.int .u32 a).cells.size=1:=rfl;simp[cJ,iJ];omega),uv];rfl
def yG:Tryz.prog.built 38 []=some (dl ke).toArray:=by kernel_rfl
def Tz:Tryz.prog.underlying 252=some (.slice 251):=by kernel_rfl
def TC:eO Tryz.prog 251 1 8=true:=by kernel_rfl
abbrev eS:TypeId:=38
abbrev iG(W:World)(p:Nat)(C:List Value):Prop:=hp W p=some (.cells C.toArray eS (0,0))
def Ni{W:World}{p i:Nat}{C C' :List Value}{y x:Int}(h:iG W p C)(d:C[i]? =some (.int .i64 y))(c:C.set i (.int .i64 x)=C'):
  ∃a,(Instr.storeAt 2 (.pointer (some ⟨p,i,none⟩)) (.int .i64 x)).run Tryz.prog W=.ok () a/\iG a p C' /\cl (λb=>b=p) W a:=
 ⟨W.setCell ⟨p,i,none⟩ (.int .i64 x),by simp[go_sem,h,d],by rw[<-c];show hp _ _=_;simp[go_sem,h],(cl.refl (λb=>b=p) W).setCell (.inl rfl) _ _⟩
def KP{W:World}{p i:Nat}{C C' :List Value}{y x:Int}(h:iG W p C)(d:C[i]? =some (.int .u32 y))(c:C.set i (.int .u32 x)=C'):
  ∃a,(Instr.storeAt 35 (.pointer (some ⟨p,i,none⟩)) (.int .u32 x)).run Tryz.prog W=.ok () a/\iG a p C' /\cl (λb=>b=p) W a:=
 ⟨W.setCell ⟨p,i,none⟩ (.int .u32 x),by simp[go_sem,h,d],by rw[<-c];show hp _ _=_;simp[go_sem,h],(cl.refl (λb=>b=p) W).setCell (.inl rfl) _ _⟩
def rf(xs:List Int)(k:Nat):List Value:=xs.map (λn=>.int .i64 n)++List.replicate (16 - k) (.int .i64 0)
def oM{xs:List Int}{k:Nat}(h:xs.length=k)(a:k<=16):(rf xs k).length=16:=by simp[rf,h];omega
def Cb{xs:List Int}{k:Nat}(h:xs.length=k)(a:k<16):(rf xs k)[k]? =some (.int .i64 0):=by
 unfold rf;rw[List.getElem?_append_right (by simp[h])];simp only[List.length_map,h,Nat.sub_self];rw[List.getElem?_replicate,if_pos (by omega)]
def BR{xs:List Int}{k:Nat}(h:xs.length=k)(a:k<16)(x:Int):(rf xs k).set k (.int .i64 x)=rf (xs++[x]) (k+1):=by
 unfold rf;rw[List.set_append_right _ _ (by simp[h]),show 16 - k=(16 - (k+1))+1 by omega,List.replicate_succ];simp[h]
def yz{a b t lo bd e c g f:Int}{d:List Value}{k:Nat}(i:d.length=16)(h:k<16):(rh a b t lo bd e d c g f)[6+k]? =d[k]? :=by
 unfold rh;rw[List.getElem?_append_right (by simp),List.getElem?_append_left (by simp;omega)];congr 1;simp
def zh{a b t lo bd e c g f:Int}{d:List Value}{k:Nat}(i:d.length=16)(h:k<16)(x:Value):(rh a b t lo bd e d c g f).set (6+k) x=rh a b t lo bd e (d.set k x) c g f:=by
 unfold rh;rw[List.set_append_right _ _ (by simp),List.set_append_left _ _ (by simp;omega)];congr 3;simp
def xT{a b t lo bd g c d f:Int}{e:List Value}{k:Nat}(h:e.length=16):(rh a b t lo bd g e c d f)[22+k]? =([.int .i64 c,.int .u32 d,.int .i64 f]:List Value)[k]? :=by
 unfold rh;rw[List.getElem?_append_right (by simp;omega),List.getElem?_append_right (by simp;omega)];congr 1;simp[h];omega
def yS{a b t lo bd e c g f:Int}{d:List Value}{k:Nat}(h:d.length=16)(x:Value):(rh a b t lo bd e d c g f).set (22+k) x=[.int .u32 a,.int .u8 b,.int .i64 t,.int .i64 lo,.int .i64 bd,.int .i64 e]++(d++([.int .i64 c,.int .u32 g,.int .i64 f]:List Value).set k x):=by
 unfold rh;rw[List.set_append_right _ _ (by simp;omega),List.set_append_right _ _ (by simp;omega)];congr 3;simp[h];omega
section
attribute [local irreducible] cz dO
def GA{l:List UInt8}{s:Rs}{i e f b j d h c a:Int×Rs}{g:List Int×Rs}(h1:i=cz l fF s)(k:e=cz l 255 i.2)(q:f=cz l iS e.2)(o:b=cz l iS f.2)(p:j=cz l iS b.2)(r:d=cz l iS j.2)
  (n:g=dO l 16 d.2)(t:h=cz l iS g.2)(m:c=cz l fF h.2)(u:a=cz l iS c.2):
  (eQ l s).2=a.2/\rh i.1 e.1 f.1 b.1 j.1 d.1 (rf g.1 16) h.1 c.1 a.1=dl (eQ l s).1:=by
 subst h1 k q o p r n t m u;rw[NS];unfold eQ Cz rf;simp
end
set_option maxRecDepth 10000 in
set_option maxHeartbeats 4000000 in
def I4{w:World}{K:cm}{r:Nat}{v:Value}{l:List UInt8}{s:Rs}(h:dD w r v l s)
  (hK:∀a,dD a r v l (ir l s).2->cl (λb=>b=r) w a->K (.agg (dl (ir l s).1).toArray) a):Ca Tryz.prog 68 #[dJ r] w K:=by
 apply Rg;have hrl:=h.lt;have R:∀b,eh v b->b<w.heap.size:=λb B=>h.rd.lt B;refine jI It ?_;rw[qP];obtain⟨z,hz⟩:∃z,z=w.heap.size:=⟨_,rfl⟩
 have m1:cl (λ_=>False) w (w.alloc (.cells (dl ke).toArray eS)):=(cl.refl _ w).alloc _;have b1:iG (w.alloc (.cells (dl ke).toArray eS)) z (dl ke):=by show hp _ _=_;rw[hz];simp[go_sem]
 rw[<-hz];generalize w.alloc (.cells (dl ke).toArray eS)=w1 at m1 b1|-;have r1:=h.mod m1 id λ_ _ h=>h;refine fJ r1 (most:=4294967295) (by omega) λw2 r2 m2=>?_;have hz1:=cn b1;have b2:=m2.hpk b1 (by omega);have n1:=gg l s;obtain⟨d,hx1⟩:∃d,d=cz l fF s:=⟨_,rfl⟩
 have e1:(((cw l 4294967295 s).1:Nat):Int)=d.1/\(cw l 4294967295 s).2=d.2:=by rw[hx1];exact⟨rfl,rfl⟩
 rw[e1.1];rw[e1.2]at r2;rw[<-hx1]at n1;refine ck (v:=.int .u32 d.1) (w' :=w2) (by simp[go_sem];rw[IntKind.wrap_u32'];omega) ?_;refine fJ r2 (most:=255) (by omega) λw3 r3 m3=>?_;have b3:=m3.hpk b2 (by omega);have n2:=se l d.2;obtain⟨j,hx2⟩:∃j,j=cz l 255 d.2:=⟨_,rfl⟩
 have e2:(((cw l 255 d.2).1:Nat):Int)=j.1/\(cw l 255 d.2).2=j.2:=by rw[hx2];exact⟨rfl,rfl⟩
 rw[e2.1];rw[e2.2]at r3;rw[<-hx2]at n2;refine ck (v:=.int .u8 j.1) (w' :=w3) (by simp[go_sem];rw[IntKind.wrap_u8'];omega) ?_;refine mw (Hx d.1 j.1) ?_;refine jI It ?_;rw[qP];obtain⟨p,hp0⟩:∃p,p=w3.heap.size:=⟨_,rfl⟩
 have m4:cl (λ_=>False) w3 (w3.alloc (.cells (dl ke).toArray eS)):=(cl.refl _ w3).alloc _;have b4:iG (w3.alloc (.cells (dl ke).toArray eS)) p (dl ke):=by show hp _ _=_;rw[hp0];simp[go_sem]
 rw[<-hp0];generalize w3.alloc (.cells (dl ke).toArray eS)=w4 at m4 b4|-;have r4:=r3.mod m4 id λ_ _ h=>h;have z4:=m4.hpk b3 id;have hz2:=m2.size;have hz3:=m3.size;have hzp:z<p:=by omega
 have hh:w4.heap[p]? =some (.cells (dl ke).toArray eS (0,0)):=b4;refine iu ry (cJ {ke with num:=d.1,route:=j.1}) hh (by rw[List.size_toArray,cJ,cJ];omega) (ko _) ?_;have e5:iJ (dl ke).toArray.toList 0 (dl {ke with num:=d.1,route:=j.1})=dl {ke with num:=d.1,route:=j.1}:=iZ (by rw[cJ];simp[cJ]);rw[e5];have m5:cl (λb=>b=p) w4 (w4.setRow p (dl {ke with num:=d.1,route:=j.1}).toArray):=(cl.refl (λb=>b=p) w4).setRow (.inl rfl) _
 have b5:iG (w4.setRow p (dl {ke with num:=d.1,route:=j.1}).toArray) p (rh d.1 j.1 0 0 0 0 (rf [] 0) 0 0 0):=by
  show(w4.setRow p _).heap[p]? =_;rw[dw,if_pos rfl,hh];rfl
 generalize w4.setRow p (dl {ke with num:=d.1,route:=j.1}).toArray=V at m5 b5|-;have r5:=r4.mod m5 (by omega) λb B e=>by have:=R b B;omega
 have z5:=m5.hpk z4 (by omega);have M5:cl (λb=>b=r) w V:=(((m1.mono (G:=λb=>b=r) λ_ _ h=>h.elim).trans (m2.trans m3)).on m4 λ_ h=>h.elim).on m5 λb B=>.inr (by omega);refine ck (v:=.pointer (some ⟨p,2,none⟩)) (w' :=V) (by simp[go_sem]) ?_;refine ck (v:=.pointer (some ⟨p,3,none⟩)) (w' :=V) (by simp[go_sem]) ?_;refine ck (v:=.pointer (some ⟨p,4,none⟩)) (w' :=V) (by simp[go_sem]) ?_;refine ck (v:=.pointer (some ⟨p,5,none⟩)) (w' :=V) (by simp[go_sem]) ?_;refine fE [.pointer (some ⟨p,2,none⟩),.pointer (some ⟨p,3,none⟩),.pointer (some ⟨p,4,none⟩),.pointer (some ⟨p,5,none⟩)] Tz (cK TC) rfl rfl (by intro x hx;simp at hx;rcases hx with rfl|rfl|rfl|rfl<;>rfl) (by omega) ?_;have e6:(([.pointer (some ⟨p,2,none⟩),.pointer (some ⟨p,3,none⟩),.pointer (some ⟨p,4,none⟩),.pointer (some ⟨p,5,none⟩)]:List Value).flatMap (·.cells.toList)).toArray= #[.pointer (some ⟨p,2,none⟩),.pointer (some ⟨p,3,none⟩),.pointer (some ⟨p,4,none⟩),.pointer (some ⟨p,5,none⟩)]:=rfl;rw[e6];obtain⟨q,hq⟩:∃q,q=V.heap.size:=⟨_,rfl⟩
 have m6:cl (λ_=>False) V (V.alloc (.cells #[.pointer (some ⟨p,2,none⟩),.pointer (some ⟨p,3,none⟩),.pointer (some ⟨p,4,none⟩),.pointer (some ⟨p,5,none⟩)] 251)):=(cl.refl _ _).alloc _;have q6:hp (V.alloc (.cells #[.pointer (some ⟨p,2,none⟩),.pointer (some ⟨p,3,none⟩),.pointer (some ⟨p,4,none⟩),.pointer (some ⟨p,5,none⟩)] 251)) q=some (.cells #[.pointer (some ⟨p,2,none⟩),.pointer (some ⟨p,3,none⟩),.pointer (some ⟨p,4,none⟩),.pointer (some ⟨p,5,none⟩)] 251 (0,0)):=by rw[hq];simp[go_sem]
 rw[<-hq];generalize V.alloc (.cells #[.pointer (some ⟨p,2,none⟩),.pointer (some ⟨p,3,none⟩),.pointer (some ⟨p,4,none⟩),.pointer (some ⟨p,5,none⟩)] 251)=w6 at m6 q6|-;have r6:=r5.mod m6 id λ_ _ h=>h;have b6:=m6.hpk b5 id;have z6:=m6.hpk z5 id;have M6:=M5.on m6 λ_ h=>h.elim;have hpq:p<q:=by have:=cn b5;omega
 refine fI (v:=.int .i64 ((4:Nat):Int)) (w' :=w6) (by simp[go_sem]) ?_;obtain⟨S,hS⟩:∃S:Nat->Rs,S=λk=>Nat.rec j.2 (λ_ t=>(cz l iS t).2) k:=⟨_,rfl⟩
 have hS0:S 0=j.2:=by subst hS;rfl
 have P:∀k,S (k+1)=(cz l iS (S k)).2:=λk=>by subst hS;rfl
 obtain⟨g,hg⟩:∃g:Nat->Nat->Int,g=λk i=>if k<i then(cz l iS (S k)).1 else 0:=⟨_,rfl⟩
 have g0:∀k,g k 0=0:=λk=>by rw[hg];rfl
 have u:∀k i,k<i->g k i=(cz l iS (S k)).1:=λk i h=>by rw[hg];exact if_pos h
 have O:∀k i,¬k<i->g k i=0:=λk i h=>by rw[hg];exact if_neg h
 have C:∀{W W' :World},cl (λb=>b=r\/b=p) W W' ->cl (λb=>b=r) w W->cl (λb=>b=r) w W' :=λm M=>M.on m λb B=>B.elim .inl λB=>.inr (by omega)
 refine dp (λst W=>∃i:Nat,i<=4/\st=(.int .i64 i,())/\dD W r v l (S i)/\iG W p (rh d.1 j.1 (g 0 i) (g 1 i) (g 2 i) (g 3 i) (rf [] 0) 0 0 0)/\cl (λb=>b=r\/b=p) w6 W)
  (λst _=>match st.1 with| .int _ i=>4 - i.toNat|_=>0) ⟨0,by omega,rfl,by rw[hS0];exact r6,by rw[g0,g0,g0,g0];exact b6,cl.refl _ _⟩ ?_
 rintro⟨_,_⟩ W ⟨i,hi,⟨⟩,rW,bW,mW⟩ KN hKN;unfold KI;intro _;refine ck (Sg _ 4 _) ?_;by_cases hlt:i<4
 ·rw[ci,if_pos (by simpa using hlt)];have qW:=mW.hpk q6 (by omega);have hlt' :¬(4:Int)<=(i:Int):=by omega
  refine ck (v:=.pointer (some ⟨q,i,none⟩)) (w' :=W) (by simp[go_sem,hlt',cE]<;>omega) ?_;refine ck (v:=.pointer (some ⟨p,2+i,none⟩)) (w' :=W) (by rcases(show i=0\/i=1\/i=2\/i=3 by omega)with rfl|rfl|rfl|rfl<;>simp[go_sem,qW]) ?_;refine fJ rW (most:=9223372036854775807) (by omega) λW1 rW1 mW1=>?_;have nb:=jH l (S i);have ex:(((cw l 9223372036854775807 (S i)).1:Nat):Int)=(cz l iS (S i)).1/\(cw l 9223372036854775807 (S i)).2=S (i+1):=by rw[P];exact⟨rfl,rfl⟩
  have n0:=(iP l iS (S i)).1;rw[ex.1];rw[ex.2]at rW1;obtain⟨y,hy⟩:∃y,y=(cz l iS (S i)).1:=⟨_,rfl⟩
  rw[<-hy]at nb n0|-;refine ck (v:=.int .i64 y) (w' :=W1) (by simp[go_sem];rw[cS (by omega) (by omega)]) ?_;rw[cr];have bW1:=mW1.hpk bW (by omega)
  have hset:∃C',(rh d.1 j.1 (g 0 i) (g 1 i) (g 2 i) (g 3 i) (rf [] 0) 0 0 0).set (2+i) (.int .i64 y)=C' /\C' =rh d.1 j.1 (g 0 (i+1)) (g 1 (i+1)) (g 2 (i+1)) (g 3 (i+1)) (rf [] 0) 0 0 0/\∃o,(rh d.1 j.1 (g 0 i) (g 1 i) (g 2 i) (g 3 i) (rf [] 0) 0 0 0)[2+i]? =some (.int .i64 o):=by
   rcases(show i=0\/i=1\/i=2\/i=3 by omega)with rfl|rfl|rfl|rfl
   ·exact⟨_,rfl,by rw[u 0 1 (by omega),<-hy,O 1 1 (by omega),O 2 1 (by omega),O 3 1 (by omega),g0,g0,g0,g0];rfl,_,rfl⟩
   ·exact⟨_,rfl,by rw[u 0 2 (by omega),u 1 2 (by omega),<-hy,O 2 2 (by omega),O 3 2 (by omega),u 0 1 (by omega),O 1 1 (by omega),O 2 1 (by omega),O 3 1 (by omega)];rfl,_,rfl⟩
   ·exact⟨_,rfl,by rw[u 0 3 (by omega),u 1 3 (by omega),u 2 3 (by omega),<-hy,O 3 3 (by omega),u 0 2 (by omega),u 1 2 (by omega),O 2 2 (by omega),O 3 2 (by omega)];rfl,_,rfl⟩
   ·exact⟨_,rfl,by rw[u 0 4 (by omega),u 1 4 (by omega),u 2 4 (by omega),u 3 4 (by omega),<-hy,u 0 3 (by omega),u 1 3 (by omega),u 2 3 (by omega),O 3 3 (by omega)];rfl,_,rfl⟩
  obtain⟨C',hs1,hs2,o,hgo⟩:=hset;obtain⟨W2,e2',bW2,mW2⟩:=Ni bW1 hgo hs1;refine dt e2' ?_;refine ck (MN (by omega) _) ?_;refine hKN _ _ ⟨i+1,by omega,rfl,rW1.mod mW2 (by omega) λb B e=>by have:=R b B;omega,by rw[<-hs2];exact bW2,(mW.trans (mW1.mono λ_ _ h=>.inl h)).trans (mW2.mono λ_ _ h=>.inr h)⟩ (by show 4 - (i+1)<4 - i;omega)
 obtain rfl:i=4:=by omega
 rw[ci,if_neg (by simp)];clear hKN;rw[u 0 4 (by omega),u 1 4 (by omega),u 2 4 (by omega),u 3 4 (by omega)]at bW;have MW:=C mW M6;have zW:=mW.hpk z6 (by omega);obtain⟨G,hG⟩:∃G:List Int->Int->Int->Int->Nat->List Value,G=λD c N f k=>rh d.1 j.1 (cz l iS (S 0)).1 (cz l iS (S 1)).1 (cz l iS (S 2)).1 (cz l iS (S 3)).1 (rf D k) c N f:=⟨_,rfl⟩
 have n:∀D c N f k,rh d.1 j.1 (cz l iS (S 0)).1 (cz l iS (S 1)).1 (cz l iS (S 2)).1 (cz l iS (S 3)).1 (rf D k) c N f=G D c N f k:=λD c N f k=>by rw[hG]
 rw[n]at bW
 refine dp (λst X=>∃k:Nat,k<=16/\st=(.int .i64 k,())/\dD X r v l (dO l k (S 4)).2/\iG X p (G (dO l k (S 4)).1 0 0 0 k)/\cl (λb=>b=r\/b=p) W X)
  (λst _=>match st.1 with| .int _ i=>16 - i.toNat|_=>0) ⟨0,by omega,rfl,rW,bW,cl.refl _ _⟩ ?_
 rintro⟨_,_⟩ X ⟨k,Y,⟨⟩,rX,bX,mX⟩ KN2 hKN2;unfold KS;intro _;have J:=mP l k (S 4);refine ck (v:=.bool (decide (k<16))) (w' :=X) (by simp[go_sem];omega) ?_;by_cases A:k<16
 ·rw[ci,if_pos (by simpa using A)];refine lq rX λX1 U F=>?_;have hsn:=nG l k (S 4);have hfi:=fO l (dO l k (S 4)).2;have e7:(di l (dO l k (S 4)).2).2=(dO l (k+1) (S 4)).2:=by rw[hsn]
  rw[e7]at U;have bX1:=F.hpk bX (by omega);refine ck (v:=.pointer (some ⟨p,6,none⟩)) (w' :=X1) (by simp[go_sem]) ?_;have hlt3:¬(16:Int)<=(k:Int):=by omega
  refine ck (v:=.pointer (some ⟨p,6+k,none⟩)) (w' :=X1) (by simp[go_sem,A,hlt3,cE]<;>omega) ?_
  have hgk:(G (dO l k (S 4)).1 0 0 0 k)[6+k]? =some (.int .i64 0):=by
   rw[<-n,yz (oM J (by omega)) A,Cb J A]
  obtain⟨X2,e8,bX2,L⟩:=Ni (x:=(di l (dO l k (S 4)).2).1) bX1 hgk rfl;refine dt e8 ?_;refine ck (MN (by omega) _) ?_;refine hKN2 _ _ ⟨k+1,by omega,rfl,U.mod L (by omega) λb B e=>by have:=R b B;omega,?_,(mX.trans (F.mono λ_ _ h=>.inl h)).trans (L.mono λ_ _ h=>.inr h)⟩ (by show 16 - (k+1)<16 - k;omega);rw[<-n,zh (oM J (by omega)) A,BR J A]at bX2;rw[hsn,<-n];exact bX2
 obtain rfl:k=16:=by omega
 rw[ci,if_neg (by simp)];clear hKN2;have MX:=C mX MW;have zX:=mX.hpk zW (by omega);have Q:=oM J (by omega);obtain⟨D,hxs⟩:∃D,D=(dO l 16 (S 4)).1:=⟨_,rfl⟩
 obtain⟨T,hT⟩:∃T,T=(dO l 16 (S 4)).2:=⟨_,rfl⟩
 rw[<-hxs]at J Q bX;rw[<-hT]at rX;have gE:∀c N f k,(G D c N f 16)[22+k]? =([.int .i64 c,.int .u32 N,.int .i64 f]:List Value)[k]? :=λc N f k=>by rw[<-n];exact xT Q
 have sE:∀c N f k x,(G D c N f 16).set (22+k) x=[.int .u32 d.1,.int .u8 j.1,.int .i64 (cz l iS (S 0)).1,.int .i64 (cz l iS (S 1)).1,.int .i64 (cz l iS (S 2)).1,.int .i64 (cz l iS (S 3)).1]++(rf D 16++([.int .i64 c,.int .u32 N,.int .i64 f]:List Value).set k x):=λc N f k x=>by rw[<-n];exact yS Q x
 have hvr:∀{X X' :World} {t:Rs},dD X r v l t->cl (λb=>b=p) X X' ->dD X' r v l t:=λh m=>h.mod m (by omega) λb B e=>by have:=R b B;omega
 refine fJ rX (most:=9223372036854775807) (by omega) λX1 U F=>?_;have nA:=jH l T;have nA0:=(iP l iS T).1;obtain⟨E,hya⟩:∃y,y=cz l iS T:=⟨_,rfl⟩
 have exA:(((cw l 9223372036854775807 T).1:Nat):Int)=E.1/\(cw l 9223372036854775807 T).2=E.2:=by rw[hya];exact⟨rfl,rfl⟩
 rw[exA.1];rw[exA.2]at U;rw[<-hya]at nA nA0;refine ck (v:=.int .i64 E.1) (w' :=X1) (by simp[go_sem];rw[cS (by omega) (by omega)]) ?_;refine ck (v:=.pointer (some ⟨p,22+0,none⟩)) (w' :=X1) (by simp[go_sem]) ?_;obtain⟨X2,f2,bX2,L⟩:=Ni (x:=E.1) (F.hpk bX (by omega)) (gE 0 0 0 0) (C' :=G D E.1 0 0 16) ((sE 0 0 0 0 _).trans (by rw[<-n];rfl));refine dt f2 ?_;have rX2:=hvr U L;refine fJ rX2 (most:=4294967295) (by omega) λX3 rX3 mX3=>?_;have nB:=gg l E.2;obtain⟨H,hyb⟩:∃y,y=cz l fF E.2:=⟨_,rfl⟩
 have exB:(((cw l 4294967295 E.2).1:Nat):Int)=H.1/\(cw l 4294967295 E.2).2=H.2:=by rw[hyb];exact⟨rfl,rfl⟩
 rw[exB.1];rw[exB.2]at rX3;rw[<-hyb]at nB;refine ck (v:=.int .u32 H.1) (w' :=X3) (by simp[go_sem];rw[IntKind.wrap_u32'];omega) ?_;refine ck (v:=.pointer (some ⟨p,22+1,none⟩)) (w' :=X3) (by simp[go_sem]) ?_;obtain⟨X4,f4,bX4,mX4⟩:=KP (x:=H.1) (mX3.hpk bX2 (by omega)) (gE E.1 0 0 1) (C' :=G D E.1 H.1 0 16) ((sE _ _ _ 1 _).trans (by rw[<-n];rfl));refine dt f4 ?_;have rX4:=hvr rX3 mX4;refine fJ rX4 (most:=9223372036854775807) (by omega) λX5 rX5 mX5=>?_;have nC:=jH l H.2;have nC0:=(iP l iS H.2).1;obtain⟨yc,hyc⟩:∃y,y=cz l iS H.2:=⟨_,rfl⟩
 have Ao:(((cw l 9223372036854775807 H.2).1:Nat):Int)=yc.1/\(cw l 9223372036854775807 H.2).2=yc.2:=by rw[hyc];exact⟨rfl,rfl⟩
 rw[Ao.1];rw[Ao.2]at rX5;rw[<-hyc]at nC nC0;refine ck (v:=.int .i64 yc.1) (w' :=X5) (by simp[go_sem];rw[cS (by omega) (by omega)]) ?_;refine ck (v:=.pointer (some ⟨p,22+2,none⟩)) (w' :=X5) (by simp[go_sem]) ?_;obtain⟨X6,f6,bX6,mX6⟩:=Ni (x:=yc.1) (mX5.hpk bX4 (by omega)) (gE E.1 H.1 0 2) (C' :=G D E.1 H.1 yc.1 16) ((sE _ _ _ 2 _).trans (by rw[<-n];rfl));refine dt f6 ?_;have rX6:=hvr rX5 mX6;have MX6:cl (λb=>b=r) w X6:=C ((((((F.mono λ_ _ h=>.inl h).trans (L.mono λ_ _ h=>.inr h)).trans (mX3.mono λ_ _ h=>.inl h)).trans (mX4.mono λ_ _ h=>.inr h)).trans (mX5.mono λ_ _ h=>.inl h)).trans (mX6.mono λ_ _ h=>.inr h)) MX;have zX6:=mX6.hpk (mX5.hpk (mX4.hpk (mX3.hpk (L.hpk (F.hpk zX (by omega)) (by omega)) (by omega)) (by omega)) (by omega)) (by omega)
 have hsp:(eQ l s).2=yc.2/\G D E.1 H.1 yc.1 16=dl (eQ l s).1:=by
  rw[<-n];have hS1:S 1=(cz l iS (S 0)).2:=P 0;have hS2:S 2=(cz l iS (S 1)).2:=P 1;have hS3:S 3=(cz l iS (S 2)).2:=P 2;have hS4:S 4=(cz l iS (S 3)).2:=P 3;rw[hxs];exact GA hx1 hx2 (by rw[hS0]) (by rw[hS1]) (by rw[hS2]) (by rw[hS3]) (by rw[hS4]) (by rw[hya,hT]) hyb hyc
 obtain⟨Z,hZ⟩:∃Z,Z=eQ l s:=⟨_,rfl⟩
 have hzf:Z.1.Fit:=by rw[hZ];exact rN l s
 rw[<-hZ]at hsp;rw[hsp.2]at bX6;rw[<-hsp.1]at rX6;have Y:=hK;unfold ir at Y;rw[<-hZ]at Y;refine eK (dl Z.1) 24 ve ry (cJ _) (At.all bX6) ?_;refine qn hzf λX7 mX7=>?_;refine ck (v:=.bool (!Z.1.may)) (w' :=X7) (by simp[go_sem]) ?_;have rX7:=rX6.mod mX7 id λ_ _ h=>h;have bX7:=mX7.hpk bX6 id;have zX7:=mX7.hpk zX6 id;have MX7:=MX6.on mX7 λ_ h=>h.elim
 have fin:∀(I:World) (t:Sp) (rs:Rs),dD I r v l rs->cl (λb=>b=r) w I->iG I z (dl ke)->(∀a,dD a r v l rs->cl (λb=>b=r) w a->K (.agg (dl t).toArray) a)->
   fV Tryz.prog (ej eS (.pointer (some ⟨z,0,none⟩)) (.agg (dl t).toArray)) I λw9=>iw Tryz.prog (dm eS (.pointer (some ⟨z,0,none⟩))) w9 λv9=>K v9 w9:=by
  intro I t rs hr hm B Y;have hh:I.heap[z]? =some (.cells (dl ke).toArray eS (0,0)):=B;refine iu ry (cJ t) hh (by rw[List.size_toArray,cJ,cJ];omega) (ko _) ?_;have e5:iJ (dl ke).toArray.toList 0 (dl t)=dl t:=iZ (by rw[cJ];simp[cJ]);rw[e5];have m9:cl (λb=>b=z) I (I.setRow z (dl t).toArray):=(cl.refl (λb=>b=z) I).setRow (.inl rfl) _
  have b9:iG (I.setRow z (dl t).toArray) z (dl t):=by
   show(I.setRow z _).heap[z]? =_;rw[dw,if_pos rfl,hh]
  refine eX (dl t) 24 ve ry (cJ _) (At.all b9) ?_;exact Y _ (hr.mod m9 (by omega) λb B e=>by have:=R b B;omega) (hm.on m9 λb B=>.inr (by omega))
 cases hmay:Z.1.may with
 |false=>
  rw[hmay]at Y;rw[show(!false)=true from rfl,ci,if_pos rfl];refine Ht (e:=5) rX7 λI rX8 mX8=>?_;refine mw yG ?_;exact fin I ke _ rX8 (MX7.trans mX8) (mX8.hpk zX7 (by omega)) (by simpa using Y)
 |true=>
  rw[hmay]at Y;rw[show(!true)=false from rfl,ci,if_neg Bool.false_ne_true];refine eK (dl Z.1) 24 ve ry (cJ _) (At.all bX7) ?_;exact fin X7 Z.1 _ rX7 MX7 zX7 (by simpa using Y)
section
variable{w:World}{K:cm}{r:Nat}{v:Value}{l:List UInt8}{s:Rs}
def jO(h:fg w r v l s)(f:∀a,fg a r v l (di l s).2->cl (λb=>b=r) w a->K (.int .i64 (di l s).1) a):Ca Tryz.prog 77 #[dJ r] w K:=by
 apply Rv;refine yx h λc h1 g=>?_;have d:=f c h1 g;unfold di at d;simp only at d;have i:(cw l 18446744073709551615 s).1<=18446744073709551615:=dN;generalize(cw l 18446744073709551615 s).1=n at d i|-;refine ck (v:=.int .u64 ((n%2:Nat):Int)) (w' :=c) (by simp[go_sem];try rw[Int.tmod_eq_emod_of_nonneg (by omega)]) ?_;unfold KU at d;by_cases e:n%2=0
 ·rw[if_pos e]at d;refine ck (v:=.bool true) (w' :=c) (by simp[go_sem];omega) ?_;rw[ci,if_pos rfl];refine ck (v:=.int .u64 ((n / 2:Nat):Int)) (w' :=c) (by simp[go_sem];try rw[eP (by omega) (by omega)]) ?_;refine ck (v:=.int .i64 ((n / 2:Nat):Int)) (w' :=c) (by simp[-Int.natCast_ediv,go_sem];rw[cS (by omega) (by omega)]) ?_;exact d
 ·rw[if_neg e]at d;refine ck (v:=.bool false) (w' :=c) (by simp[go_sem];omega) ?_;rw[ci,if_neg Bool.false_ne_true];refine ck (v:=.int .u64 ((n / 2:Nat):Int)) (w' :=c) (by simp[go_sem];try rw[eP (by omega) (by omega)]) ?_;refine ck (v:=.int .i64 ((n / 2:Nat):Int)) (w' :=c) (by simp[-Int.natCast_ediv,go_sem];rw[cS (by omega) (by omega)]) ?_;refine ck (v:=.int .i64 (-((n / 2:Nat):Int))) (w' :=c) (by simp[-Int.natCast_ediv,go_sem];rw[cS (by omega) (by omega)]) ?_;refine ck (v:=.int .i64 (-((n / 2:Nat):Int) - 1)) (w' :=c) (by simp[-Int.natCast_ediv,go_sem];rw[cS (by omega) (by omega)]) ?_;exact d
def DA{e:Nat}(h:fg w r v l s)(c:∀a,fg a r v l (mq e s)->cl (λb=>b=r) w a->K (.tuple #[]) a):Ca Tryz.prog 153 #[dJ r,.int .i64 e] w K:=by
 obtain⟨⟨p,g,o,q⟩,k,j,i,f⟩:=id h;apply No;simp only[dJ,cr];refine ck (v:=.pointer (some ⟨r,1,none⟩)) (w' :=w) (by simp[go_sem]) ?_;refine ck (v:=.int .i64 s.e) (w' :=w) (by simp[go_sem,g]) ?_;unfold mq at c;by_cases d:s.e=0
 ·rw[if_neg (by simpa using d)]at c;refine ck (v:=.bool true) (w' :=w) (by simp[go_sem,d]) ?_;rw[ci,if_pos rfl];refine ck (v:=.pointer (some ⟨r,1,none⟩)) (w' :=w) (by simp[go_sem]) ?_;obtain⟨n,m⟩:=h.fault e;refine dt (w' :=w.setCell ⟨r,1,none⟩ (.int .i64 e)) (by simp[go_sem,g]) ?_;exact c _ n m
 ·rw[if_pos d]at c;refine ck (v:=.bool false) (w' :=w) (by simp[go_sem];omega) ?_;rw[ci,if_neg Bool.false_ne_true];exact c w h (cl.refl _ _)
set_option maxRecDepth 10000 in
def rI(h:fg w r v l s)(g:∀d,fg d r v l (ey l s).2->cl (λb=>b=r) w d->K (.bool (ey l s).1) d):Ca Tryz.prog 78 #[dJ r] w K:=by
 obtain⟨⟨R,f,B,hi⟩,hle,Z,T,U⟩:=id h;obtain⟨va,vc,J⟩:=B.isSl;apply Sl;simp only[dJ,cr];have H:∀W,(Instr.fieldAt 154 (.pointer (some ⟨r,0,none⟩)) 1).run Tryz.prog W=.ok (.pointer (some ⟨r,1,none⟩)) W:=λW=>by simp[go_sem]
 have p:∀W,(Instr.fieldAt 154 (.pointer (some ⟨r,0,none⟩)) 0).run Tryz.prog W=.ok (.pointer (some ⟨r,0,none⟩)) W:=λW=>by simp[go_sem]
 have A:(Instr.loadAt LP (.pointer (some ⟨r,0,none⟩))).run Tryz.prog w=.ok R w:=by simp[go_sem,f]
 refine ck (H _) ?_;refine ck (v:=.int .i64 s.e) (w' :=w) (by simp[go_sem,f]) ?_;by_cases N:s.e≠0
 ·have hr:ey l s=(false,s):=by unfold ey;rw[if_pos N]
  rw[hr]at g;refine ck (v:=.bool true) (w' :=w) (by simp[go_sem];omega) ?_;rw[ci,if_pos rfl];exact g w h (cl.refl _ _)
 have O:s.e=0:=by omega
 refine ck (v:=.bool false) (w' :=w) (by simp[go_sem,O]) ?_;rw[ci,if_neg Bool.false_ne_true];refine ck (p _) (ck A ?_);refine fI (v:=.int .i64 (l.length - s.at_:Nat)) (w' :=w) (by rw[J];simp[go_sem]) ?_
 have c:ey l s=if s.at_=l.length then(false,{s with e:=4})else if 1<(l.getD s.at_ 0).toNat then(false,{s with e:=5})else(decide ((l.getD s.at_ 0).toNat=1),{s with at_:=s.at_+1}):=by
  unfold ey;rw[if_neg (by simpa using O)]
 by_cases X:s.at_=l.length
 ·rw[if_pos X]at c;rw[c]at g;have hz:l.length - s.at_=0:=by omega
  refine ck (v:=.bool true) (w' :=w) (by rw[hz];simp[go_sem]) ?_;rw[ci,if_pos rfl];refine ck (H _) ?_;obtain⟨t,o⟩:=h.fault 4;refine dt (w' :=w.setCell ⟨r,1,none⟩ (.int .i64 4)) (by simp[go_sem,f]) ?_;exact g _ t o
 rw[if_neg X]at c;have D:s.at_<l.length:=by omega
 refine ck (v:=.bool false) (w' :=w) (by simp[go_sem];omega) ?_;rw[ci,if_neg Bool.false_ne_true];refine ck (p _) (ck A ?_);obtain⟨x,V⟩:∃x,x=l.getD s.at_ 0:=⟨_,rfl⟩
 have M:(l.drop s.at_)[0]'(by rw[List.length_drop];omega)=x:=by
  rw[List.getElem_drop,V];simp[List.getD,List.getElem?_eq_getElem D]
 obtain⟨Q,z,cap,C,ce,fz,F,S,Y,j⟩:=B.byte (i:=0) (by omega) (by rw[List.length_drop];omega);rw[M]at j;have q:0<l.length - s.at_:=by omega
 have n:(Instr.indexAt LP R (.int .i64 0)).run Tryz.prog w=.ok (.pointer (some ⟨Q,z+0,none⟩)) w:=by rw[F];simp[go_sem,q,cE,ny]
 have u:(Instr.loadAt 5 (.pointer (some ⟨Q,z+0,none⟩))).run Tryz.prog w=.ok (.int .u8 (x.toNat:Int)) w:=by rw[Nat.add_zero]at j|-;simp[go_sem,Y,j]
 refine ck n (ck u ?_);refine ck (v:=.bool (decide (1<x.toNat))) (w' :=w) (by simp[go_sem];omega) ?_;rw[<-V]at c;by_cases h1:1<x.toNat
 ·rw[if_pos h1]at c;rw[c]at g;rw[ci,if_pos (by simpa using h1)];refine ck (H _) ?_;obtain⟨t,o⟩:=h.fault 5;refine dt (w' :=w.setCell ⟨r,1,none⟩ (.int .i64 5)) (by simp[go_sem,f]) ?_;exact g _ t o
 rw[if_neg h1]at c;rw[c]at g;rw[ci,if_neg (by simpa using h1)];refine ck (p _) (ck A (ck n (ck u ?_)));refine ck (v:=.bool (decide (x.toNat=1))) (w' :=w) (by by_cases I:x.toNat=1<;>simp[go_sem,I]<;>omega) ?_;refine ck (p _) (ck A ?_);obtain⟨E,y,k,L⟩:=B.from_ (P:=Tryz.prog) (lo:=1) ny Rj (by omega) .i64;refine ck (v:=E) (w' :=w) (y w) ?_;refine ck (p _) ?_;simp only[Nat.zero_add,Nat.mul_one]at k;rw[xA,List.drop_drop,Nat.sub_sub]at k;have m:Rd w 1 E (l.length - (s.at_+1)) (bv (l.drop (s.at_+1))):=k;obtain⟨t,o⟩:=h.on (a:=s.at_+1) (by omega) f m λb f=>hi b (L b f);obtain⟨va',vc',G⟩:=m.isSl;refine dt (w' :=w.setCell ⟨r,0,none⟩ E) (by rw[G];simp[go_sem,f]) ?_;exact g _ t o
end
end Go.Proofs
