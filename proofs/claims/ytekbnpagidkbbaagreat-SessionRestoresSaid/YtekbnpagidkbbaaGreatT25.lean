/- Part of a proof. -/
import Derived.Test.YtekbnpagidkbbaaGreatT24
set_option linter.all false
set_option maxRecDepth 100000
set_option maxHeartbeats 4000000
namespace Go.Proofs
open Go Go.Vc
section
variable{L L0 M:List As}{K:Value->WP}{r c n most:Nat}{s fv:Vt_}{l t b:List UInt8}{m:Int}
def Vj{x:Ac}(h:gM x.num/\dM x.cash)(a:Gs (qj r s l t::wh c r::M) (K (jG x)))(p:bL L (qj r s l (I5 x++t)::wh c r::M):=by exact kz):Gs L (Cw pQ 109 #[.pointer (some ⟨c,0,none⟩)] K):=by
 unfold I5 at p;simp only[ag]at p;refine Gs.pk ?_ p;refine sN Tryz.func109 ?_;refine au ?_;intro b;refine au ?_;refine vj h.1 ?_;refine au ?_;refine tf h.2 ?_;refine au ?_;refine Cj ?_;refine au ?_;refine Cj ?_;refine au ?_;exact a.fin
def U6{x:Po}(h:(gM x.c/\gM x.a)/\dM x.q/\dM x.b)(a:Gs (qj r s l t::wh c r::M) (K (mK x)))(p:bL L (qj r s l (Jn x++t)::wh c r::M):=by exact kz):Gs L (Cw pQ 115 #[.pointer (some ⟨c,0,none⟩)] K):=by
 unfold Jn at p;simp only[ag]at p;refine Gs.pk ?_ p;refine sN Tryz.func115 ?_;refine au ?_;intro b;refine au ?_;refine vj h.1.1 ?_;refine au ?_;refine vj h.1.2 ?_;refine au ?_;refine tf h.2.1 ?_;refine au ?_;refine tf h.2.2 ?_;refine au ?_;exact a.fin
def LZ{x:Int×Od}(h:gM x.1/\x.2.Fit)(d:Gs (qj r s l t::M) (K (.agg (mH x).toArray)))(p:bL L (qj r s l (FO x++t)::M):=by exact kz):Gs L (Cw pQ 117 #[.agg #[fJ r]] K):=by
 unfold FO at p;simp only[ag]at p;refine Gs.pk ?_ p;refine sN Tryz.func117 ?_;obtain⟨g,e,j,f,i⟩:=h;refine au ?_;intro a;refine au ?_;intro b;refine au ?_;refine vj g ?_;refine au ?_;refine Mp e ?_;refine au ?_;refine vj j ?_;refine au ?_;refine Cj ?_;refine au ?_;refine tf f ?_;refine au ?_;refine tf i ?_;refine au ?_;exact d.fin
def JZ{xs:List Ac}(G:m=most)(F:xs.length<=most)(hl:most<100000)
  (C:∀x∈xs,∀t K L,Gs (qj r s l t::wh c r::L) (K (jG x))->Gs (qj r s l (I5 x++t)::wh c r::L) (Fw pQ fv [] K))
  (B:∀a k,Gs (ow (.slice a xs.length k) 100 4 xs.length (xs.flatMap dr)::qj r s l t::wh c r::M) (K (.slice a xs.length k)))(p:bL L (qj r s l (vy I5 xs++t)::wh c r::M):=by exact kz):
  Gs L (Cw pQ 108 #[.agg #[fJ r],gQ m,fv] K):=by
 unfold vy at p;rw[ag]at p;refine Gs.pk ?_ p;refine sN Tryz.func108 ?_;refine au ?_;intro d;refine au ?_;refine qO G F qZ ?_;refine Gs.nilF 100 4 dr ?_;refine Gs.l (λy:Nat×(Option Addr×Nat)=>(.slice y.2.1 (xs.take y.1).length y.2.2,gQ y.1,())) (xs.length - ·.1) (λy=>ow (.slice y.2.1 (xs.take y.1).length y.2.2) 100 4 (xs.take y.1).length ((xs.take y.1).flatMap dr)::qj r s l ((xs.drop y.1).flatMap I5++t)::wh c r::wh d r::M) (λy=>y.1<=xs.length) (0,none,0) rfl (aw _) ?_ (by simp only[bS,dO,List.length_nil,bo];exact kz);rintro⟨i,a,k⟩ E H g
 dsimp only at E|-
 refine Gs.z (au ?_);refine Gs.I (λh=>?_) λh=>?_
 ·have j:i<xs.length:=qZ;rw[bN j,aT,ag];have w:=ar j;have z:xs.take i++[xs[i]]=xs.take (i+1):=List.take_append_getElem j;have D:(xs.take i).length<=100000:=by rw[av];omega
  have g:=λo u=>g (i+1,o,u) j (by dsimp only;omega)
  dsimp only at g
  generalize xs[i]=x at w z|-;generalize(xs.drop (i+1)).flatMap I5++t=T at g|-;refine Gs.pk (C _ w _ _ _ ?_) kz;refine au ?_;intro e;refine au ?_;refine Gs.j1 (.bool false,()) (λJ v=>?_) ?_
  ·refine au ?_;refine xM ?_;refine au ?_;refine Gs.I (λA=>?_) λ_=>v;have q:T=[]:=by simpa using A
   rw[q]at v|-;refine au ?_;refine uL ?_;refine au ?_;exact v
  refine Gs.z (au ?_);refine Gs.push (l:=xs.take i) (x:=x) (f:=dr) cH (show fj pQ 100 4 24=true by kernel_rfl) (λ_=>rfl) rfl rfl qZ qZ (λo u=>?_) kz;rw[z];refine au ?_;exact(g o u).fin
 ·obtain rfl:i=xs.length:=qZ;rw[eg,aL,bo,cX];exact(B a k).fin
def Jp{xs:List Po}(G:m=most)(F:xs.length<=most)(hl:most<100000)
  (C:∀x∈xs,∀t K L,Gs (qj r s l t::wh c r::L) (K (mK x))->Gs (qj r s l (Jn x++t)::wh c r::L) (Fw pQ fv [] K))
  (B:∀a k,Gs (ow (.slice a xs.length k) 124 4 xs.length (xs.flatMap dR)::qj r s l t::wh c r::M) (K (.slice a xs.length k)))(p:bL L (qj r s l (vy Jn xs++t)::wh c r::M):=by exact kz):
  Gs L (Cw pQ 114 #[.agg #[fJ r],gQ m,fv] K):=by
 unfold vy at p;rw[ag]at p;refine Gs.pk ?_ p;refine sN Tryz.func114 ?_;refine au ?_;intro d;refine au ?_;refine qO G F qZ ?_;refine Gs.nilF 124 4 dR ?_;refine Gs.l (λy:Nat×(Option Addr×Nat)=>(.slice y.2.1 (xs.take y.1).length y.2.2,gQ y.1,())) (xs.length - ·.1) (λy=>ow (.slice y.2.1 (xs.take y.1).length y.2.2) 124 4 (xs.take y.1).length ((xs.take y.1).flatMap dR)::qj r s l ((xs.drop y.1).flatMap Jn++t)::wh c r::wh d r::M) (λy=>y.1<=xs.length) (0,none,0) rfl (aw _) ?_ (by simp only[bS,dO,List.length_nil,bo];exact kz);rintro⟨i,a,k⟩ E H g
 dsimp only at E|-
 refine Gs.z (au ?_);refine Gs.I (λh=>?_) λh=>?_
 ·have j:i<xs.length:=qZ;rw[bN j,aT,ag];have w:=ar j;have z:xs.take i++[xs[i]]=xs.take (i+1):=List.take_append_getElem j;have D:(xs.take i).length<=100000:=by rw[av];omega
  have g:=λo u=>g (i+1,o,u) j (by dsimp only;omega)
  dsimp only at g
  generalize xs[i]=x at w z|-;generalize(xs.drop (i+1)).flatMap Jn++t=T at g|-;refine Gs.pk (C _ w _ _ _ ?_) kz;refine au ?_;intro e;refine au ?_;refine Gs.j1 (.bool false,()) (λJ v=>?_) ?_
  ·refine au ?_;refine xM ?_;refine au ?_;refine Gs.I (λA=>?_) λ_=>v;have q:T=[]:=by simpa using A
   rw[q]at v|-;refine au ?_;refine uL ?_;refine au ?_;exact v
  refine Gs.z (au ?_);refine Gs.push (l:=xs.take i) (x:=x) (f:=dR) cH (show fj pQ 124 4 24=true by kernel_rfl) (λ_=>rfl) rfl rfl qZ qZ (λo u=>?_) kz;rw[z];refine au ?_;exact(g o u).fin
 ·obtain rfl:i=xs.length:=qZ;rw[eg,aL,bo,cX];exact(B a k).fin
def Cr{xs:List (Int×Od)}(G:m=most)(F:xs.length<=most)(hl:most<100000)
  (C:∀x∈xs,∀t K L,Gs (qj r s l t::wh c r::L) (K (.agg #[.int .u32 x.1,gQ x.2.num,gU x.2.acct,.bool x.2.buy,gI x.2.price,gI x.2.left]))->Gs (qj r s l (FO x++t)::wh c r::L) (Fw pQ fv [] K))
  (B:∀a k,Gs (ow (.slice a xs.length k) 132 6 xs.length (xs.flatMap mH)::qj r s l t::wh c r::M) (K (.slice a xs.length k)))(p:bL L (qj r s l (vy FO xs++t)::wh c r::M):=by exact kz):
  Gs L (Cw pQ 116 #[.agg #[fJ r],gQ m,fv] K):=by
 unfold vy at p;rw[ag]at p;refine Gs.pk ?_ p;refine sN Tryz.func116 ?_;refine au ?_;intro d;refine au ?_;refine qO G F qZ ?_;refine Gs.nilF 132 6 mH ?_;refine Gs.l (λy:Nat×(Option Addr×Nat)=>(.slice y.2.1 (xs.take y.1).length y.2.2,gQ y.1,())) (xs.length - ·.1) (λy=>ow (.slice y.2.1 (xs.take y.1).length y.2.2) 132 6 (xs.take y.1).length ((xs.take y.1).flatMap mH)::qj r s l ((xs.drop y.1).flatMap FO++t)::wh c r::wh d r::M) (λy=>y.1<=xs.length) (0,none,0) rfl (aw _) ?_ (by simp only[bS,dO,List.length_nil,bo];exact kz);rintro⟨i,a,k⟩ E H g
 dsimp only at E|-
 refine Gs.z (au ?_);refine Gs.I (λh=>?_) λh=>?_
 ·have j:i<xs.length:=qZ;rw[bN j,aT,ag];have w:=ar j;have z:xs.take i++[xs[i]]=xs.take (i+1):=List.take_append_getElem j;have D:(xs.take i).length<=100000:=by rw[av];omega
  have g:=λo u=>g (i+1,o,u) j (by dsimp only;omega)
  dsimp only at g
  generalize xs[i]=x at w z|-;generalize(xs.drop (i+1)).flatMap FO++t=T at g|-;refine Gs.pk (C _ w _ _ _ ?_) kz;refine au ?_;intro e;refine au ?_;refine Gs.j1 (.bool false,()) (λJ v=>?_) ?_
  ·refine au ?_;refine xM ?_;refine au ?_;refine Gs.I (λA=>?_) λ_=>v;have q:T=[]:=by simpa using A
   rw[q]at v|-;refine au ?_;refine uL ?_;refine au ?_;exact v
  refine Gs.z (au ?_);refine Gs.push (l:=xs.take i) (x:=x) (f:=mH) cH (show fj pQ 132 6 40=true by kernel_rfl) (λ_=>rfl) rfl rfl qZ qZ (λo u=>?_) kz;rw[z];refine au ?_;exact(g o u).fin
 ·obtain rfl:i=xs.length:=qZ;rw[eg,aL,bo,cX];exact(B a k).fin
end
end Go.Proofs
namespace Go.Proofs
open Go Go.Vc
attribute [local congr] bj
def zf(l:List UInt8):∀(n:Nat) (s:Rs),iD l (n+1) s=((iD l n s).1++[(iB l (iD l n s).2).1],(iB l (iD l n s).2).2)
 |0,s=>rfl
 |n+1,s=>by
  have a:=zf l n (iB l s).2;have e:iD l (n+1+1) s=((iB l s).1::(iD l (n+1) (iB l s).2).1,(iD l (n+1) (iB l s).2).2):=rfl;rw[e,a];rfl
def mO(l:List UInt8)(most:Nat)(s:Rs):0<=(cL l most s).1/\(cL l most s).1<=most:=by
 have:=oP (l:=l) (most:=most) (s:=s);unfold cL;simp only;omega
def uY(l:List UInt8)(s:Rs):dM (iB l s).1:=by
 have:=oP (l:=l) (most:=18446744073709551615) (s:=s);exact Vz qZ
def Bq(l:List UInt8):∀(n:Nat) (s:Rs),∀x∈(iD l n s).1,dM x
 |0,s,x,a=>by cases a
 |n+1,s,x,a=>by
  rcases aq.1 a with rfl|a
  ·exact uY l s
  ·exact Bq l n _ x a
def tP(l:List UInt8)(s:Rs):gM (cL l ue s).1:=by
 have:=mO l ue s;unfold ue at*;exact⟨this.1,qZ⟩
def qD(l:List UInt8)(s:Rs):dM (cL l oS s).1:=by
 have:=mO l oS s;unfold oS at*;constructor<;>omega
def Uh(l:List UInt8)(s:Rs):sB (cL l Kr s).1:=by
 have:=mO l Kr s;unfold Kr at*;exact⟨this.1,qZ⟩
def Fu(l:List UInt8)(s:Rs):0<=(cL l 255 s).1/\(cL l 255 s).1<256:=by
 have:=mO l 255 s;omega
def DU(l:List UInt8)(s:Rs):(tT l s).1.Fit:=
 ⟨tP ..,Fu ..,qD ..,qD ..,qD ..,qD ..,λx a=>Bq l 16 _ x (by simpa [tT]using a),qD ..,tP ..,qD ..⟩
def KW:Ay.Fit:=by
 refine⟨?_,?_,?_,?_,?_,?_,λx a=>?_,?_,?_,?_⟩
 all_goals first|(have:x=0:=(by simpa [Ay]using a);rw[this];decide)|decide
def RU(l:List UInt8)(s:Rs):(uh l s).1.Fit:=by
 unfold uh;split
 ·exact DU l s
 ·exact KW
def spL(a b t lo bd li:Int)(sh:LV_)(c la f:Int):List Value:=[.int .u32 a,gB b,gI t,gI lo,gI bd,gI li]++(sh++[.int .i64 c,gU la,gI f])
def ZW(s:Sp):fk s=spL s.num s.route s.tick s.lot s.band s.limit (vl s.shifts) s.credit s.last s.first:=rfl
def Fb:iK pQ 48=fk Ay:=cH
def aj9:mR pQ 48=true:=cH
def SJ(a b:Int):Tryz.prog.built 48 [(0,gU a),(1,gB b)]=some (fk {Ay with num:=a,route:=b}).toArray:=by
 have d:∀c,Tryz.prog.built 48 c=Instr.fill (λi=>#[(0,1),(1,1),(2,1),(3,1),(4,1),(5,1),(6,16),(22,1),(23,1),(24,1)][i]?) (iK pQ 48).toArray c:=λc=>by kernel_rfl
 rw[d,Fb];rw[pA (off:=0) (size:=1) rfl rfl (by rw[bb];omega),pA (off:=1) (size:=1) rfl rfl (by have:(Value.int .u32 a).cells.size=1:=rfl;simp[bb,ji];omega),BY];rfl
def Qo:Tryz.prog.built 48 []=some (fk Ay).toArray:=cH
def uPt:Tryz.prog.underlying 300=some (.slice 299):=cH
def ePt:fj pQ 299 1 8=true:=cH
def shL(xs:List Int)(k:Nat):List Value:=xs.map (λn=>gI n)++List.replicate (16 - k) (gI 0)
section
attribute [local irreducible] cL iD
def YB{l:List UInt8}{s:Rs}{i e f b j d h c a:Int×Rs}{g:List Int×Rs}(p:i=cL l ue s)(k:e=cL l 255 i.2)(r:f=cL l oS e.2)(o:b=cL l oS f.2)(q:j=cL l oS b.2)(t:d=cL l oS j.2)
  (n:g=iD l 16 d.2)(u:h=cL l oS g.2)(m:c=cL l ue h.2)(v:a=cL l oS c.2):
  (tT l s).2=a.2/\spL i.1 e.1 f.1 b.1 j.1 d.1 (shL g.1 16) h.1 c.1 a.1=fk (tT l s).1:=by
 subst p k r o q t n u m v;rw[ZW];unfold tT vl shL;simp
end
end Go.Proofs
namespace Go.Proofs
open Go Go.Vc
attribute [local congr] bj
def Ph{w:Wt_}{K:be}{r:Nat}{v:Vt_}{l:List UInt8}{s:Rs}(h:gE w r v l s)
  (a:∀w',gE w' r v l (cL l Kr s).2->bn (λb=>b=r) w w' ->K (gQ (cL l Kr s).1) w'):Ca pQ 68 #[fJ r] w K:=ER h a
section
variable{w w' :Wt_}{K:be}{c r:Nat}{v:Vt_}{l:List UInt8}{s:Rs}
attribute [local irreducible] cL iB lG uh
end
end Go.Proofs
namespace Go.Proofs
open Go Go.Vc
def rL(r:Nat)(s:Vt_)(l:List UInt8)(x:Rs):As:=⟨λw F=>(hp w r=some (.cells #[s,gI x.at_,gI x.e] 260 (0,0))/\x.at_<=l.length)/\∀b,F b↔b=r,
 λh hb=>by rw[(h.2 _).1 hb];exact aJ h.1.1,λh m hg=>⟨⟨m.keep h.1.1 (hg r ((h.2 r).2 rfl)),h.1.2⟩,h.2⟩⟩
structure By(B:As)(s:Vt_)(l:List UInt8):Prop where
 of:∀{w F},B.P w F->Rd w 1 s l.length (bv l)/\∀b,vP s b->F b
 len:l.length<=1000000000
def By.own{s:Vt_}{l:List UInt8}(h:l.length<=1000000000):By (ow s 5 1 l.length (bv l)) s l:=⟨λh=>⟨h.1.rd,λb a=>(h.2 b).2 a.sl⟩,h⟩
def By.frz{a:Wt_}{s:Vt_}{l:List UInt8}(h:Rd a 1 s l.length (bv l))(hl:l.length<=1000000000):By (uu a λ_=>False) s l:=⟨λk=>⟨h.mod k.2 eI,λb c=>(k.1 b).2 ⟨h.lt c,id⟩⟩,hl⟩
section
variable{L M M2:List As}{B:As}{K:Value->WP}{r most:Nat}{s val:Vt_}{l:List UInt8}{f:FuncId}{args:Array Value}{x x' :Rs}{m:Int}{w:Wt_}
def Lh(b:By B s l)(q:bL M (B::M2))(y:Ss w (rL r s l x::M)):gE w r s l x:=by
 obtain⟨h,g,a,c,d⟩:=Ss.cons.1 y;obtain⟨i,j,k1,k2,k3,k4⟩:=(q.out w g).1 c;exact⟨a.1.1,(b.of k1).1,a.1.2,λe=>d r ((a.2 r).2 rfl) ((k4 r).2 (.inl ((b.of k1).2 r e))),b.len⟩
def Ij(p:bL L (rL r s l x::M))(y:Ss w L):Ss w (rL r s l x::M):=y.out.elim λF z=>⟨F,(p.out w F).1 z⟩
def xZ(g:By B s l)(h:∀w,gE w r s l x->∀K:be,(∀a,gE a r s l x' ->bn (λy=>y=r) w a->K val a)->Ca pQ f args w K)
  (e:Gs (rL r s l x' ::M) (K val))(p:bL L (rL r s l x::M))(q:bL M (B::M2)):Gs L (Cw pQ f args K):=⟨λw y=>
 h w (Lh g q (Ij p y)) _ λa c m=>e.go a ((Ij p y).upd λF d=>⟨F,⟨⟨c.blk,c.le⟩,d.2⟩,m.mono λy _ b=>(d.2 y).2 b,λy b=>.inl b⟩)⟩
def jK(d:By B s l)(a:m=most)(hl:most<18446744073709551616)(b:Gs (rL r s l (cL l most x).2::M) (K (gQ (cL l most x).1)))(p:bL L (rL r s l x::M):=by repeat first|(with_reducible exact cF)|(with_reducible apply cS))(q:bL M (B::M2):=by repeat first|(with_reducible exact cF)|(with_reducible apply cS)):
  Gs L (Cw pQ 67 #[fJ r,gQ m] K):=by
 subst a;exact xZ d (λw h K c=>A0 h hl c) b p q
def xO(c:By B s l)(a:Gs (rL r s l (cL l Kr x).2::M) (K (gQ (cL l Kr x).1)))(p:bL L (rL r s l x::M):=by repeat first|(with_reducible exact cF)|(with_reducible apply cS))(q:bL M (B::M2):=by repeat first|(with_reducible exact cF)|(with_reducible apply cS)):Gs L (Cw pQ 68 #[fJ r] K):=xZ c (λw h K b=>Ph h b) a p q
def xq(c:By B s l)(a:Gs (rL r s l (iB l x).2::M) (K (gI (iB l x).1)))(p:bL L (rL r s l x::M):=by repeat first|(with_reducible exact cF)|(with_reducible apply cS))(q:bL M (B::M2):=by repeat first|(with_reducible exact cF)|(with_reducible apply cS)):Gs L (Cw pQ 107 #[fJ r] K):=xZ c (λw h K b=>LS h b) a p q
def wF(c:By B s l)(a:Gs (rL r s l (lG l x).2::M) (K (.bool (lG l x).1)))(p:bL L (rL r s l x::M):=by repeat first|(with_reducible exact cF)|(with_reducible apply cS))(q:bL M (B::M2):=by repeat first|(with_reducible exact cF)|(with_reducible apply cS)):Gs L (Cw pQ 110 #[fJ r] K):=xZ c (λw h K b=>Gb h b) a p q
def G8(c:By B s l)(a:Gs (rL r s l (vT 5 x)::M) (K (.tuple #[])))(p:bL L (rL r s l x::M):=by repeat first|(with_reducible exact cF)|(with_reducible apply cS))(q:bL M (B::M2):=by repeat first|(with_reducible exact cF)|(with_reducible apply cS)):Gs L (Cw pQ 69 #[fJ r,gI 5] K):=xZ c (λw h K b=>SE (e:=5) h b) a p q
def wB(c:By B s l)(b:Gs L (K (gI (kO l x))))(p:bL L (rL r s l x::M):=by repeat first|(with_reducible exact cF)|(with_reducible apply cS))(q:bL M (B::M2):=by repeat first|(with_reducible exact cF)|(with_reducible apply cS)):Gs L (Cw pQ 70 #[fJ r] K):=⟨λw y=>Ly (Lh c q (Ij p y)) λa m=>b.go a (y.md0 m)⟩
def EG(c:By B s l)(e:∀r,Gs (rL r s l ⟨0,0⟩::L) (K (fJ r)))(q:bL L (B::M2):=by repeat first|(with_reducible exact cF)|(with_reducible apply cS)):Gs L (Cw pQ 65 #[s] K):=⟨λw y=>(fg q y).elim λF h=>xk (c.of h).1 c.len λd a m=>(e _).go d (y.new m (F' :=λb=>b=w.heap.size) ⟨⟨a.blk,a.le⟩,λ_=>aI⟩ λb g=>qZ)⟩
end
end Go.Proofs
namespace Go.Proofs
open Go Go.Vc
def Gs.lit{P:Program}{t e:TypeId}{sz by_ n:Nat}{L:List As}{k:Value->WP}{cs:LV_}{a:List (Nat×Value)}(vs:LV_)(d:P.underlying t=some (.slice e))(g:fj P e sz by_=true)(hp:a=vs.zipIdx.map λp=>(p.2,p.1))(h:vs.length=n)(i:∀v∈vs,v.cells.size=sz)(c:n*sz<=1000)(j:vs.flatMap (·.cells.toList)=cs)(hl:cs.length=n*sz)
  (f:∀b,Gs (ow (.slice (some ⟨b,0,none⟩) n n) e sz n cs::L) (k (.slice (some ⟨b,0,none⟩) n n))):Gs L (Xw P (qL t n a) k):=⟨λw y=>by
 refine oE vs d (dG g) hp h i qZ ?_;rw[j];refine(f _).go _ (y.new ((bn.refl _ w).alloc _) (F' :=aQ (.slice (some ⟨w.heap.size,0,none⟩) n n)) ⟨⟨hl,.inr ⟨_,n,[],rfl,aB _,by rw[dZ,ab rfl];simp,by simp,by simp⟩⟩,λ_=>aI⟩ λb c=>?_);have:w.heap.size=b:=by simpa [aQ,Mm]using c
 omega⟩
def CP(a b:Int)(zs:List Int)(e:LV_):List Value:=[.int .u32 a,gB b]++(zs.map (λn=>gI n)++(List.replicate (20 - zs.length) (gI 0)++e))
def Qy{a b x:Int}{zs:List Int}{e:LV_}{i:Nat}(h:zs.length=i)(hi:i<20):(CP a b zs e)[2+i]? =some (gI 0)/\(CP a b zs e).set (2+i) (gI x)=CP a b (zs++[x]) e:=by
 subst h;unfold CP;rw[show 20 - zs.length=(20 - (zs.length+1))+1 by omega,List.replicate_succ];constructor
 ·rw[bf (by simp),bf (by simp)];simp
 ·rw[cm _ _ (by simp),cm _ _ (by simp)];simp
def Dg{a b:Int}{zs:List Int}{x y z u:Vt_}(h:zs.length=20):((CP a b zs [x,y,z])[22]? =some x/\(CP a b zs [x,y,z])[23]? =some y/\(CP a b zs [x,y,z])[24]? =some z)/\
  (CP a b zs [x,y,z]).set 22 u=CP a b zs [u,y,z]/\(CP a b zs [x,y,z]).set 23 u=CP a b zs [x,u,z]/\(CP a b zs [x,y,z]).set 24 u=CP a b zs [x,y,u]:=by
 have e:∀x y z:Value,CP a b zs [x,y,z]=([.int .u32 a,gB b]++zs.map (λn=>gI n))++[x,y,z]:=λx y z=>by simp[CP,h]
 have c:([Value.int .u32 a,gB b]++zs.map (λn=>gI n)).length=22:=by simp[h]
 simp only[e];refine⟨⟨?_,?_,?_⟩,?_,?_,?_⟩
 all_goals first|(rw[bf qZ,c];rfl)|(rw[cm _ _ qZ,c];rfl)
def LQ(l:List UInt8)(s:Rs):Nat->List Int×Rs
 |0=>([],s)
 |i+1=>((LQ l s i).1++[(cL l oS (LQ l s i).2).1],(cL l oS (LQ l s i).2).2)
def Lc{l:List UInt8}{s:Rs}:∀i,(LQ l s i).1.length=i
 |0=>rfl
 |i+1=>by simp[LQ,Lc i]
section
variable{L M M2:List As}{B:As}{K:Value->WP}{r:Nat}{s:Vt_}{l:List UInt8}{x:Rs}{w:Wt_}
def Gy(D:By B s l)(t:Gs (rL r s l (uh l x).2::M) (K (.agg (fk (uh l x).1).toArray)))(p:bL L (rL r s l x::M):=by repeat first|(with_reducible exact cF)|(with_reducible apply cS))(q:bL M (B::M2):=by repeat first|(with_reducible exact cF)|(with_reducible apply cS)):Gs L (Cw pQ 113 #[fJ r] K):=by
 have t:=Gs.pk t (bL.cons q.symm);refine Gs.pk ?_ (p.trans (bL.cons q));refine sN Tryz.func113 ?_;refine Gs.bA aj9 λz=>?_;rw[Fb];refine jK (most:=ue) D rfl (by decide) ?_;have Q:=tP l x;refine Gs.V (v:=gU (cL l ue x).1) (λw _=>by simp[go_sem];rw[IntKind.wrap_u32'];have:=Q.2;have:=Q.1;omega) ?_;refine jK (most:=255) D rfl (by decide) ?_;have n2:=Fu l (cL l ue x).2;refine Gs.V (v:=gB (cL l 255 (cL l ue x).2).1) (λw _=>by simp[go_sem];rw[iC];omega) ?_;refine Gs.bB (SJ _ _) ?_;refine Gs.bvar cH ud (bb _) (by rw[Fb];exact bb _) (oI _) λq=>?_;generalize hA:cL l ue x=A at Q n2|-;generalize hC:cL l 255 A.2=C at n2|-;rw[show fk {Ay with num:=A.1,route:=C.1}=CP A.1 C.1 [] [.int .i64 0,gU 0,gI 0]from rfl];refine au ?_;refine Gs.lit ((List.range 4).map λj=>.pointer (some ⟨q,2+j,none⟩)) uPt ePt rfl rfl (by intro v hv;obtain⟨n,-,rfl⟩:=aD.1 hv;rfl) (by decide) (cs:=(List.range 4).flatMap λj=>[.pointer (some ⟨q,2+j,none⟩)]) rfl rfl λc=>?_;refine au ?_;refine Gs.l (λi:Nat=>(Value.int .i64 i,())) (4 - ·) (λi=>pt q (CP A.1 C.1 (LQ l C.2 i).1 [.int .i64 0,gU 0,gI 0]) 48::rL r s l (LQ l C.2 i).2::ow (.slice (some ⟨c,0,none⟩) 4 4) 299 1 4 ((List.range 4).flatMap λj=>[.pointer (some ⟨q,2+j,none⟩)])::pt z (fk Ay) 48::B::M2) (·<=4) 0 rfl (aw _) ?_ (by dsimp only[LQ];exact(by repeat first|(with_reducible exact bL.refl)|((apply kp);(·repeat first|(with_reducible exact cF)|(with_reducible apply cS)))));intro i hi K1 o
 dsimp only
 refine Gs.z (au ?_);refine Gs.I (λh=>?_) λh=>?_
 ·refine Gs.it (l:=List.range 4) (f:=λj=>[.pointer (some ⟨q,2+j,none⟩)]) (vf:=λj=>.pointer (some ⟨q,2+j,none⟩)) (sz:=0) (n:=4) uPt cH (λ_=>rfl) (λj w b off h=>?_) (mZ (T:=299) (sz:=1) (n:=4) (by repeat first|(with_reducible exact cF)|(with_reducible apply cS))) rfl (by simpa using(by omega:i<4)) ?_
  ·obtain⟨C,e,fz,hC,hg⟩:=h.get;have W:=hg 0 _ rfl;simp only[bM]at W;simp[go_sem,cO hC,W]
  rw[List.getElem_range];refine jK (most:=oS) D rfl (by decide) ?_;have F:=qD l (LQ l C.2 i).2;have n4:=(mO l oS (LQ l C.2 i).2).1;refine Gs.V (v:=gI (cL l oS (LQ l C.2 i).2).1) (λw _=>by simp[go_sem];rw[ie F.1 F.2]) ?_;refine Gs.Q ?_;obtain⟨I,H⟩:=Qy (a:=A.1) (b:=C.1) (x:=(cL l oS (LQ l C.2 i).2).1) (e:=[.int .i64 0,gU 0,gI 0]) (Lc (l:=l) (s:=C.2) i) qZ;refine Gs.st (by repeat first|(with_reducible exact cF)|(with_reducible apply cS)) (λw h=>by simp[go_sem,h,I]) H ?_;refine au ?_;have:=o (i+1) qZ qZ
  dsimp only[LQ]at this
  exact this.fin
 obtain rfl:i=4:=qZ;clear o;obtain⟨N,U⟩:∃y,y=cL l oS C.2:=⟨_,rfl⟩
 obtain⟨O,X⟩:∃y,y=cL l oS N.2:=⟨_,rfl⟩
 obtain⟨P,S⟩:∃y,y=cL l oS O.2:=⟨_,rfl⟩
 obtain⟨g,h3⟩:∃y,y=cL l oS P.2:=⟨_,rfl⟩
 have hT:LQ l C.2 4=([N.1,O.1,P.1,g.1],g.2):=by subst h3 S X U;rfl
 rw[hT];obtain⟨T,E⟩:=dW [N.1,O.1,P.1,g.1];have h4:T.length=4:=by rw[E];rfl
 rw[<-E];refine Gs.fin (M:=pt q (CP A.1 C.1 T [.int .i64 0,gU 0,gI 0]) 48::rL r s l g.2::pt z (fk Ay) 48::B::M2) ?_;refine Gs.l (λi:Nat=>(Value.int .i64 i,())) (16 - ·) (λi=>pt q (CP A.1 C.1 (T++(iD l i g.2).1) [.int .i64 0,gU 0,gI 0]) 48::rL r s l (iD l i g.2).2::pt z (fk Ay) 48::B::M2) (·<=16) 0 rfl (aw _) ?_ (by dsimp only[iD];rw[aC];exact .refl);intro i hi K1 o
 dsimp only
 refine Gs.z (au ?_);refine Gs.I (λh=>?_) λh=>?_
 ·refine xq D ?_;refine au ?_;refine Gs.V (v:=cU q (2+(4+i))) (λw _=>by simp[go_sem,uSh,h]) ?_;obtain⟨I,H⟩:=Qy (a:=A.1) (b:=C.1) (x:=(iB l (iD l i g.2).2).1) (e:=[.int .i64 0,gU 0,gI 0]) (zs:=T++(iD l i g.2).1) (i:=4+i) (by rw[ad,tO,h4]) qZ;refine Gs.st (by repeat first|(with_reducible exact cF)|(with_reducible apply cS)) (λw h=>by simp[go_sem,h,I]) H ?_;refine au ?_;have:=o (i+1) qZ qZ;rw[zf,<-ag]at this;exact this.fin
 obtain rfl:i=16:=qZ;clear o;have hl:=tO l 16 g.2;have d:(T++(iD l 16 g.2).1).length=20:=by rw[ad];omega
 generalize hG:iD l 16 g.2=G at hl d|-;generalize hz:T++G.1=V at d|-;refine jK (most:=oS) D rfl (by decide) ?_;have F:=qD l G.2;have n4:=(mO l oS G.2).1;refine Gs.V (v:=gI (cL l oS G.2).1) (λw _=>by simp[go_sem];rw[ie F.1 F.2]) ?_;refine au ?_;refine Gs.st (by repeat first|(with_reducible exact cF)|(with_reducible apply cS)) (λw h=>by simp[go_sem,h,(Dg (u:=.bool true) d).1.1]) (Dg d).2.1 ?_;refine jK (most:=ue) D rfl (by decide) ?_;have R:=tP l (cL l oS G.2).2;refine Gs.V (v:=gU (cL l ue (cL l oS G.2).2).1) (λw _=>by simp[go_sem];rw[IntKind.wrap_u32'];have:=R.2;have:=R.1;omega) ?_;refine au ?_;refine Gs.st (by repeat first|(with_reducible exact cF)|(with_reducible apply cS)) (λw h=>by simp[go_sem,h,(Dg (u:=.bool true) d).1.2.1]) (Dg d).2.2.1 ?_;refine jK (most:=oS) D rfl (by decide) ?_;have n6:=qD l (cL l ue (cL l oS G.2).2).2;have n7:=(mO l oS (cL l ue (cL l oS G.2).2).2).1;refine Gs.V (v:=gI (cL l oS (cL l ue (cL l oS G.2).2).2).1) (λw _=>by simp[go_sem];rw[ie n6.1 n6.2]) ?_;refine au ?_;refine Gs.st (by repeat first|(with_reducible exact cF)|(with_reducible apply cS)) (λw h=>by simp[go_sem,h,(Dg (u:=.bool true) d).1.2.2]) (Dg d).2.2.2 ?_;obtain⟨I,H⟩:=YB hA.symm hC.symm U X S h3 hG.symm rfl rfl rfl;rw[show CP A.1 C.1 V [.int .i64 (cL l oS G.2).1,gU (cL l ue (cL l oS G.2).2).1,gI (cL l oS (cL l ue (cL l oS G.2).2).2).1]=fk (tT l x).1 by rw[<-H,<-hz,E];simp[CP,spL,shL,hl],<-I];have Y:=DU l x;unfold uh at t;generalize tT l x=Z at t Y|-;refine Gs.X (eG (cs:=fk Z.1) (by repeat first|(with_reducible exact cF)|(with_reducible apply cS)) yf ud (bb _)) ?_;refine Gs.ro (φ:=λk=>Cw pQ _ _ k) (val:=λ_:Unit=>.bool Z.1.may) (p:=λ_=>True) (λw y K h=>pY Y λw' m=>h () w' trivial m) λ_ _=>?_;refine au ?_;refine Gs.Ib (λJ=>?_) λJ=>?_
 ·rw[aa (by simpa using J)]at t;refine G8 D ?_;refine Gs.bB Qo ?_;refine Gs.stY (cs' :=fk Ay) (n:=24) (by repeat first|(with_reducible exact cF)|(with_reducible apply cS)) (bb _) ud (by simp[bb]) (oI _) (kv (by simp[bb])) ?_;refine Gs.WX (eG (cs:=fk Ay) cF yf ud (bb _)) ?_;exact t.fin
 ·rw[ab (by simpa using J)]at t;refine Gs.X (eG (cs:=fk Z.1) (by repeat first|(with_reducible exact cF)|(with_reducible apply cS)) yf ud (bb _)) ?_;refine Gs.stY (cs' :=fk Z.1) (n:=24) (by repeat first|(with_reducible exact cF)|(with_reducible apply cS)) (bb _) ud (by simp[bb]) (oI _) (kv (by simp[bb])) ?_;refine Gs.WX (eG (cs:=fk Z.1) cF yf ud (bb _)) ?_;exact t.fin
def PG{K:be}(h:gE w r s l x)(f:∀c,gE c r s l (uh l x).2->bn (λb=>b=r) w c->K (.agg (fk (uh l x).1).toArray) c):Ca pQ 113 #[fJ r] w K:=by
 refine Gs.from (φ:=Cw pQ 113 #[fJ r] K) (A:=rL r s l x) (F:=λb=>b=r) ⟨⟨h.blk,h.le⟩,λ_=>aI⟩ ?_;have g:By (uu w λb=>b=r) s l:=⟨λk=>⟨h.rd.mod k.2 λb a e=>h.ne (e▸a),λb a=>(k.1 b).2 ⟨h.rd.lt a,λe=>h.ne (e▸a)⟩⟩,h.len⟩
 refine Gy (M:=[uu w λb=>b=r]) g ⟨λc y=>?_⟩ .refl .refl;obtain⟨i,d,m,-⟩:=y.frz;have:=(d.2 r).2 rfl;exact f c ⟨d.1.1,h.rd.mod m λb a e=>h.ne (e▸a),d.1.2,h.ne,h.len⟩ m
end
end Go.Proofs
namespace Go.Proofs
open Go Go.Vc
def YR:iK pQ lN=dh ⟨Ay,0,0⟩:=cH
def ai1(k:Ct):(dh k)[25]? =some (gB k.st)/\(dh k)[26]? =some (gI k.price):=by
 unfold dh;constructor<;>(rw[bf (by rw[bb];omega),bb];rfl)
def ac9(k:Ct)(x:Int):(dh k).set 25 (gB x)=dh {k with st:=x}/\(dh k).set 26 (gI x)=dh {k with price:=x}:=by
 unfold dh;constructor<;>(rw[cm _ _ (by rw[bb];omega),bb];rfl)
def ah1(k:Ct)(s:Sp):ji (dh k) 0 (fk s)=dh {k with spec:=s}:=by
 unfold dh;simp[ji,bb,List.drop_left']
section
variable{L L0 M:List As}{K:Value->WP}{r c n most:Nat}{s fv:Vt_}{l t b:List UInt8}{m:Int}
def T9{x:Sp}(g:x.Fit)(f:x.may=true)(h:Gs (qj r s l t::M) (K (.agg (fk x).toArray)))(p:bL L (qj r s l (Qh x++t)::M):=by repeat first|(with_reducible exact cF)|(with_reducible apply cS)):Gs L (Cw pQ 113 #[fJ r] K):=by
 refine wA (λw a j K k=>PG j λi d m=>?_) h p;have e:=PR g f _ a t rfl;rw[e]at d|-;exact k i d m
def UU{x:Ct}(d:x.Fit)(a:x.spec.may=true)(e:Gs (qj r s l t::wh c r::M) (K (.agg (dh x).toArray)))(p:bL L (qj r s l (JX x++t)::wh c r::M):=by repeat first|(with_reducible exact bL.refl)|((apply kp);(·repeat first|(with_reducible exact cF)|(with_reducible apply cS)))):Gs L (Cw pQ 112 #[.pointer (some ⟨c,0,none⟩)] K):=by
 unfold JX dL at p;simp only[ag]at p;refine Gs.pk ?_ p;obtain⟨f,i,g⟩:=d;refine sN Tryz.func112 ?_;refine Gs.bA XL λb=>?_;rw[YR];refine au ?_;refine T9 f a ?_;refine au ?_;refine Gs.stY (cs' :=dh ⟨x.spec,0,0⟩) (n:=24) (by repeat first|(with_reducible exact bL.refl)|((apply kp);(·repeat first|(with_reducible exact cF)|(with_reducible apply cS)))) (bb _) ud (by rw[bb,bC];omega) (oI _) (ah1 _ _) ?_;refine au ?_;refine qO (n:=x.st.toNat) (most:=255) rfl qZ (by decide) ?_;rw[Int.toNat_of_nonneg qZ];refine Gs.V (v:=gB x.st) (λw _=>by simp[go_sem];rw[IntKind.wrap_u8'];omega) ?_;refine Gs.V (v:=cU b 25) (λw _=>by simp[go_sem]) ?_;refine Gs.st (cs' :=dh ⟨x.spec,x.st,0⟩) (by repeat first|(with_reducible exact bL.refl)|((apply kp);(·repeat first|(with_reducible exact cF)|(with_reducible apply cS)))) (λw h=>by simp[go_sem,h,ai1]) (ac9 _ _).1 ?_;refine au ?_;refine tf g ?_;refine Gs.V (v:=cU b 26) (λw _=>by simp[go_sem]) ?_;refine Gs.st (cs' :=dh x) (by repeat first|(with_reducible exact bL.refl)|((apply kp);(·repeat first|(with_reducible exact cF)|(with_reducible apply cS)))) (λw h=>by simp[go_sem,h,ai1]) (ac9 ⟨x.spec,x.st,0⟩ _).2 ?_;refine Gs.X (eG (cs:=dh x) (by repeat first|(with_reducible exact bL.refl)|((apply kp);(·repeat first|(with_reducible exact cF)|(with_reducible apply cS)))) Dq qp (bC _)) ?_;refine Gs.stY (cs' :=dh x) (n:=26) (by repeat first|(with_reducible exact bL.refl)|((apply kp);(·repeat first|(with_reducible exact cF)|(with_reducible apply cS)))) (bC _) qp (by rw[bC];decide) (g9 _) (kv rfl) ?_;refine Gs.WX (eG (cs:=dh x) (by repeat first|(with_reducible exact bL.refl)|((apply kp);(·repeat first|(with_reducible exact cF)|(with_reducible apply cS)))) Dq qp (bC _)) ?_;exact e.fin
def Kg{xs:List Ct}(G:m=most)(F:xs.length<=most)(hl:most<100000)
  (C:∀x∈xs,∀t K L,Gs (qj r s l t::wh c r::L) (K (.agg (dh x).toArray))->Gs (qj r s l (JX x++t)::wh c r::L) (Fw pQ fv [] K))
  (B:∀a k,Gs (ow (.slice a xs.length k) lN 27 xs.length (xs.flatMap dh)::qj r s l t::wh c r::M) (K (.slice a xs.length k)))(p:bL L (qj r s l (vy JX xs++t)::wh c r::M):=by repeat first|(with_reducible exact bL.refl)|((apply kp);(·repeat first|(with_reducible exact cF)|(with_reducible apply cS)))):
  Gs L (Cw pQ 111 #[.agg #[fJ r],gQ m,fv] K):=by
 unfold vy at p;rw[ag]at p;refine Gs.pk ?_ p;refine sN Tryz.func111 ?_;refine au ?_;intro d;refine au ?_;refine qO G F qZ ?_;refine Gs.nilF lN 27 dh ?_;refine Gs.l (λy:Nat×(Option Addr×Nat)=>(.slice y.2.1 (xs.take y.1).length y.2.2,gQ y.1,())) (xs.length - ·.1) (λy=>ow (.slice y.2.1 (xs.take y.1).length y.2.2) lN 27 (xs.take y.1).length ((xs.take y.1).flatMap dh)::qj r s l ((xs.drop y.1).flatMap JX++t)::wh c r::wh d r::M) (λy=>y.1<=xs.length) (0,none,0) rfl (aw _) ?_ (by simp only[bS,dO,List.length_nil,bo];exact(by repeat first|(with_reducible exact bL.refl)|((apply kp);(·repeat first|(with_reducible exact cF)|(with_reducible apply cS)))));rintro⟨i,a,k⟩ E H g
 dsimp only at E|-
 refine Gs.z (au ?_);refine Gs.I (λh=>?_) λh=>?_
 ·have j:i<xs.length:=qZ;rw[bN j,aT,ag];have w:=ar j;have z:xs.take i++[xs[i]]=xs.take (i+1):=List.take_append_getElem j;have D:(xs.take i).length<=100000:=by rw[av];omega
  have g:=λo u=>g (i+1,o,u) j (by dsimp only;omega)
  dsimp only at g
  generalize xs[i]=x at w z|-;generalize(xs.drop (i+1)).flatMap JX++t=T at g|-;refine Gs.pk (C _ w _ _ _ ?_) (by repeat first|(with_reducible exact bL.refl)|((apply kp);(·repeat first|(with_reducible exact cF)|(with_reducible apply cS))));refine Gs.bvar XL qp (bC x) ag9 (g9 x) (λe=>?_);refine Gs.j1 (.bool false,()) (λJ v=>?_) ?_
  ·refine au ?_;refine xM ?_;refine au ?_;refine Gs.I (λA=>?_) λ_=>v;have q:T=[]:=by simpa using A
   rw[q]at v|-;refine au ?_;refine uL ?_;refine au ?_;exact v
  refine Gs.z (Gs.Ib (λh=>(by cases h)) λ_=>?_);refine Gs.X (eG (cs:=dh x) (by repeat first|(with_reducible exact bL.refl)|((apply kp);(·repeat first|(with_reducible exact cF)|(with_reducible apply cS)))) Dq qp (bC _)) ?_;refine Gs.push (l:=xs.take i) (x:=x) (f:=dh) pG (show fj pQ lN 27 208=true by kernel_rfl) bC (g9 x) rfl qZ qZ (λo u=>?_) (by repeat first|(with_reducible exact bL.refl)|((apply kp);(·repeat first|(with_reducible exact cF)|(with_reducible apply cS))));rw[z];refine au ?_;exact(g o u).fin
 ·obtain rfl:i=xs.length:=qZ;rw[eg,aL,bo,cX];exact(B a k).fin
def sS(a b c d e:Vt_):Nat->Value
 |3=>a
 |4=>b
 |5=>c
 |6=>d
 |_=>e
abbrev sT(x:zi)(a b c d e:Option Addr×Nat):Nat->Value:=sS (.slice a.1 x.accts.length a.2) (.slice b.1 x.cts.length b.2) (.slice c.1 x.poss.length c.2) (.slice d.1 x.ords.length d.2) (.slice e.1 x.bids.length e.2)
def Gs.st5{φ:WP}{x:zi}{a b c d e:Vt_}(h:Gs (yg (sS a b c d e) x::M) φ)(p:bL L (ow a 100 4 x.accts.length (x.accts.flatMap dr)::ow b lN 27 x.cts.length (x.cts.flatMap dh)::ow c 124 4 x.poss.length (x.poss.flatMap dR)::ow d 132 6 x.ords.length (x.ords.flatMap mH)::ow e 132 6 x.bids.length (x.bids.flatMap mH)::M)):Gs L φ:=Gs.pk ⟨λw y=>by
 obtain⟨F,X,Z,⟨G,P⟩,⟨S,Y,⟨D,E⟩,⟨F3,V,⟨H,Q⟩,⟨U,T,⟨N,R⟩,⟨F5,I,⟨B,z⟩,C,J,j⟩,O,q⟩,d3,v⟩,d2,A⟩,d1,W⟩:=y;have u:∀i,3<=i->i<=7->i=3\/i=4\/i=5\/i=6\/i=7:=λi _ _=>by omega
 refine h.go w (Ss.cons.2 ⟨λy=>∃i,3<=i/\i<=7/\aQ (sS a b c d e i) y,I,⟨λi o k=>?_,λ_=>aI⟩,C,?_⟩)
 ·rcases u i o k with rfl|rfl|rfl|rfl|rfl
  ·exact G
  ·exact D
  ·exact H
  ·exact N
  ·exact B
 ·rintro y ⟨i,o,k,f⟩ g;rcases u i o k with rfl|rfl|rfl|rfl|rfl
  ·exact d1 y ((P y).2 f) ((A y).2 (.inr ((v y).2 (.inr ((q y).2 (.inr ((j y).2 (.inr g))))))))
  ·exact d2 y ((E y).2 f) ((v y).2 (.inr ((q y).2 (.inr ((j y).2 (.inr g))))))
  ·exact d3 y ((Q y).2 f) ((q y).2 (.inr ((j y).2 (.inr g))))
  ·exact O y ((R y).2 f) ((j y).2 (.inr g))
  ·exact J y ((z y).2 f) g⟩ p
def Gs.rdt{φ:WP}{a:List UInt8}(e:t=a)(h:Gs (qj r s l a::M) φ)(p:bL L (qj r s l t::M)):Gs L φ:=by
 subst e;exact h.pk p
def Gs.rvr{φ:WP}(h:Gs (wh c r::M) φ)(p:bL L (pt c [.pointer (some ⟨r,0,none⟩)] 199::M):=by repeat first|(with_reducible exact bL.refl)|((apply kp);(·repeat first|(with_reducible exact cF)|(with_reducible apply cS)))):Gs L φ:=h.pk p
def Gs.fw{f:FuncId}{a b:Array Value}{xs:LV_}(h:Gs L (Cw pQ f ⟨a.toList++(xs++b.toList)⟩ K)):Gs L (Fw pQ (.func (.func f) a b) xs K):=⟨λw y=>jf.2 (h.go w y)⟩
end
end Go.Proofs
namespace Go.Proofs
open Go Go.Vc
section
variable(l:List UInt8)
def kV(x:Cm×Rs):Cm×Rs:=({x.1 with acct:=(cL l ue x.2).1},(cL l ue x.2).2)
def lU(x:Cm×Rs):Cm×Rs:=({x.1 with ct:=(cL l ue x.2).1},(cL l ue x.2).2)
def uc(x:Cm×Rs):Cm×Rs:=({x.1 with num:=(cL l Kr x.2).1},(cL l Kr x.2).2)
def vt(x:Cm×Rs):Cm×Rs:=({x.1 with amt:=(iB l x.2).1},(iB l x.2).2)
def vv(x:Cm×Rs):Cm×Rs:=({x.1 with spec:=(uh l x.2).1},(uh l x.2).2)
def t6(x:Cm×Rs):Cm×Rs:=({x.1 with on:=(lG l x.2).1},(lG l x.2).2)
def sH(x:Cm×Rs):Cm×Rs:=({x.1 with buy:=(lG l x.2).1},(lG l x.2).2)
def vx(x:Cm×Rs):Cm×Rs:=({x.1 with ty:=(cL l 255 x.2).1},(cL l 255 x.2).2)
def pv(x:Cm×Rs):Cm×Rs:=({x.1 with price:=(iB l x.2).1},(iB l x.2).2)
def rm(x:Cm×Rs):Cm×Rs:=({x.1 with qty:=(iB l x.2).1},(iB l x.2).2)
def rdC(k:Int)(z:Cm×Rs):Cm×Rs:=
 if k=1\/k=2 then vt l (kV l z)
 else if k=3 then vv l z
 else if k=4 then t6 l (lU l z)
 else if k=5 then rm l (pv l (vx l (sH l (lU l (kV l z)))))
 else if k=6 then uc l (kV l z)
 else if k=7 then rm l (pv l (uc l (kV l z)))
 else if k=8 then lU l (kV l z)
 else if k=9 then rm l (pv l (sH l (lU l (kV l z))))
 else if k=10 then t6 l (kV l z)
 else if k=11 then pv l (lU l z)
 else if k=13 then kV l z
 else if k=14 then lU l z
 else z
def Dc(k:Int):Cm:={Fj with kind:=k}
def Bo:Cm×Rs:=rdC l (cL l 14 ⟨0,0⟩).1 (Dc (cL l 14 ⟨0,0⟩).1,(cL l 14 ⟨0,0⟩).2)
def Fv:Option Cm:=if kO l (Bo l).2=0/\(Bo l).1.may=true then some (Bo l).1 else none
end
attribute [local irreducible] cL iB lG uh
section
variable{l:List UInt8}{x:Cm×Rs}
def qg(h:x.1.Fit):(kV l x).1.Fit:=by obtain⟨c,j,e,b,f,i,a,d,g⟩:=h;exact⟨c,tP l x.2,e,b,f,i,a,d,g⟩
def rY(h:x.1.Fit):(lU l x).1.Fit:=by obtain⟨d,a,j,c,f,i,b,e,g⟩:=h;exact⟨d,a,tP l x.2,c,f,i,b,e,g⟩
def GJ(h:x.1.Fit):(uc l x).1.Fit:=by obtain⟨c,a,e,j,f,i,b,d,g⟩:=h;exact⟨c,a,e,Uh l x.2,f,i,b,d,g⟩
def Qc(h:x.1.Fit):(vt l x).1.Fit:=by obtain⟨d,a,f,c,j,i,b,e,g⟩:=h;exact⟨d,a,f,c,uY l x.2,i,b,e,g⟩
def Qd(h:x.1.Fit):(vv l x).1.Fit:=by obtain⟨d,a,f,c,g,j,b,e,i⟩:=h;exact⟨d,a,f,c,g,RU l x.2,b,e,i⟩
def GP(h:x.1.Fit):(t6 l x).1.Fit:=h
def Hr(h:x.1.Fit):(sH l x).1.Fit:=h
def PZ(h:x.1.Fit):(vx l x).1.Fit:=by obtain⟨c,a,e,b,f,i,j,d,g⟩:=h;exact⟨c,a,e,b,f,i,Fu l x.2,d,g⟩
def xV(h:x.1.Fit):(pv l x).1.Fit:=by obtain⟨d,a,e,c,f,i,b,j,g⟩:=h;exact⟨d,a,e,c,f,i,b,uY l x.2,g⟩
def BC(h:x.1.Fit):(rm l x).1.Fit:=by obtain⟨d,a,f,c,g,i,b,e,j⟩:=h;exact⟨d,a,f,c,g,i,b,e,uY l x.2⟩
attribute [local irreducible] kV lU uc vt vv t6 sH vx pv rm
def nI{c:Prop} [Decidable c]{a b:Cm×Rs}(d:a.1.Fit)(e:b.1.Fit):(if c then a else b).1.Fit:=by
 by_cases h:c
 ·rw[ab h];exact d
 ·rw[aa h];exact e
def Ue(k:Int)(h:x.1.Fit):(rdC l k x).1.Fit:=
 nI (Qc (qg h)) <| nI (Qd h) <| nI (GP (rY h)) <| nI (BC (xV (PZ (Hr (rY (qg h)))))) <|
  nI (GJ (qg h)) <| nI (BC (xV (GJ (qg h)))) <| nI (rY (qg h)) <| nI (BC (xV (Hr (rY (qg h))))) <|
  nI (GP (qg h)) <| nI (xV (rY h)) <| nI (qg h) <| nI (rY h) h
def UJ{k:Int}(h:0<=k/\k<256):(Dc k).Fit:=by
 have b:gM 0:=by decide
 have c:sB 0:=by decide
 have a:dM 0:=by decide
 have d:(0:Int)<=0/\(0:Int)<256:=by decide
 exact⟨h,b,b,c,a,KW,d,a,a⟩
def G9(l:List UInt8):(Bo l).1.Fit:=Ue _ (UJ (by have:=mO l 14 ⟨0,0⟩;omega))
def Hz{c:Cm}(h:Fv l=some c):c.Fit/\c.may=true:=by
 unfold Fv at h;split at h
 ·rename_i a
  cases h;exact⟨G9 l,a.2⟩
 ·cases h
end
end Go.Proofs
namespace Go.Proofs
open Go Go.Vc
section
variable{L M M2:List As}{B:As}{K:Value->WP}{s:Vt_}{l:List UInt8}{y q r:Nat}{c:Cm}{x:Rs}
abbrev Jg:TypeId:=151
def zM(c:Cm)(i:Nat)(hi:30<=i)(v:Vt_):(jI c).set i v=[.int .u8 c.kind,gU c.acct,gU c.ct,gQ c.num,gI c.amt]++(fk c.spec++[.bool c.on,.bool c.buy,gB c.ty,gI c.price,gI c.qty].set (i - 30) v):=by
 unfold jI;rw[cm _ _ (by show 5<=i;omega),cm _ _ (by rw[bb];show 25<=i - 5;omega),bb];simp only[aR,List.length_nil];congr 3
def ap5(l:List UInt8)(x:Rs):IntKind.u8.wrap (cL l 14 x).1=(cL l 14 x).1:=by have:=mO l 14 x;rw[IntKind.wrap_u8'];omega
def ae3(l:List UInt8)(x:Rs):IntKind.u8.wrap (cL l 255 x).1=(cL l 255 x).1:=by have:=Fu l x;rw[IntKind.wrap_u8'];omega
def al2(l:List UInt8)(x:Rs):IntKind.u32.wrap (cL l ue x).1=(cL l ue x).1:=by obtain⟨a,b⟩:=tP l x;rw[IntKind.wrap_u32'];omega
attribute [local go_sem] ap5 ae3 al2
def ug(b:By B s l)(a:Gs (pt y (jI (kV l (c,x)).1) rF::rL r s l (kV l (c,x)).2::pt q [.pointer (some ⟨r,0,none⟩)] Jg::B::M) (K (.tuple #[])))(p:bL L (pt y (jI c) rF::rL r s l x::pt q [.pointer (some ⟨r,0,none⟩)] Jg::B::M):=by repeat first|(with_reducible exact bL.refl)|((apply kp);(·repeat first|(with_reducible exact cF)|(with_reducible apply cS)))):
  Gs L (Fw pQ (.func (.func 118) #[] #[.pointer (some ⟨q,0,none⟩),.pointer (some ⟨y,0,none⟩)]) [] K):=by
 refine Gs.pk ?_ p;refine Gs.fw ?_;refine sN Tryz.func118 ?_;refine au ?_;refine jK (most:=ue) b rfl (by decide) ?_;refine au ?_;refine Gs.st (cs' :=jI (kV l (c,x)).1) (by repeat first|(with_reducible exact bL.refl)|((apply kp);(·repeat first|(with_reducible exact cF)|(with_reducible apply cS)))) (λw h=>by simp[go_sem,h,Zn]) rfl ?_
 dsimp only[kV,lU,pv,rm]at a|-
 exact a.fin
def yE(b:By B s l)(a:Gs (pt y (jI (lU l (c,x)).1) rF::rL r s l (lU l (c,x)).2::pt q [.pointer (some ⟨r,0,none⟩)] Jg::B::M) (K (.tuple #[])))(p:bL L (pt y (jI c) rF::rL r s l x::pt q [.pointer (some ⟨r,0,none⟩)] Jg::B::M):=by repeat first|(with_reducible exact bL.refl)|((apply kp);(·repeat first|(with_reducible exact cF)|(with_reducible apply cS)))):
  Gs L (Fw pQ (.func (.func 119) #[] #[.pointer (some ⟨q,0,none⟩),.pointer (some ⟨y,0,none⟩)]) [] K):=by
 refine Gs.pk ?_ p;refine Gs.fw ?_;refine sN Tryz.func119 ?_;refine au ?_;refine jK (most:=ue) b rfl (by decide) ?_;refine au ?_;refine Gs.st (cs' :=jI (lU l (c,x)).1) (by repeat first|(with_reducible exact bL.refl)|((apply kp);(·repeat first|(with_reducible exact cF)|(with_reducible apply cS)))) (λw h=>by simp[go_sem,h,Zu]) rfl ?_
 dsimp only[kV,lU,pv,rm]at a|-
 exact a.fin
def Jq(b:By B s l)(a:Gs (pt y (jI (rm l (pv l (c,x))).1) rF::rL r s l (rm l (pv l (c,x))).2::pt q [.pointer (some ⟨r,0,none⟩)] Jg::B::M) (K (.tuple #[])))(p:bL L (pt y (jI c) rF::rL r s l x::pt q [.pointer (some ⟨r,0,none⟩)] Jg::B::M):=by repeat first|(with_reducible exact bL.refl)|((apply kp);(·repeat first|(with_reducible exact cF)|(with_reducible apply cS)))):
  Gs L (Fw pQ (.func (.func 120) #[] #[.pointer (some ⟨q,0,none⟩),.pointer (some ⟨y,0,none⟩)]) [] K):=by
 refine Gs.pk ?_ p;refine Gs.fw ?_;refine sN Tryz.func120 ?_;refine au ?_;refine xq b ?_;refine au ?_;refine xq b ?_;refine au ?_;refine Gs.st (cs' :=jI (pv l (c,x)).1) (by repeat first|(with_reducible exact bL.refl)|((apply kp);(·repeat first|(with_reducible exact cF)|(with_reducible apply cS)))) (λw h=>by simp[go_sem,h,N4]) (zM c 33 (by decide) _) ?_;refine au ?_;refine Gs.st (cs' :=jI (rm l (pv l (c,x))).1) (by repeat first|(with_reducible exact bL.refl)|((apply kp);(·repeat first|(with_reducible exact cF)|(with_reducible apply cS)))) (λw h=>by simp[go_sem,h,Q1]) (zM (pv l (c,x)).1 34 (by decide) _) ?_
 dsimp only[kV,lU,pv,rm]at a|-
 exact a.fin
def ap4:Tryz.prog.built rF []=some (jI Fj).toArray:=cH
def af6(k:Int):(Dc k).kind=k:=rfl
attribute [local go_sem] af6
def OG(b:By B s l)(d:Gs (B::M) (K (.tuple #[Aa ((Fv l).getD Fj),gI (if(Fv l).isSome then 0 else 5)])))(p:bL L (B::M):=by repeat first|(with_reducible exact cF)|(with_reducible apply cS)):Gs L (Cw pQ 43 #[s] K):=by
 refine Gs.pk ?_ p;refine sN Tryz.func43 ?_;refine Gs.bZ λz=>?_;refine au ?_;refine EG b ?_;intro r;refine au ?_;intro q
 dsimp only[fJ]
 refine au ?_;refine jK (most:=14) b rfl (by decide) ?_;refine au ?_;refine Gs.bB (KU _) ?_;refine Gs.bvar (xs:=jI (Dc (cL l 14 ⟨0,0⟩).1)) VT Am (dV _) (by rw[Ep];exact dV _) (tj _) (λy=>?_);refine Gs.j (λ_:Unit=>()) (λ_=>pt y (jI (Bo l).1) rF::rL r s l (Bo l).2::pt q [.pointer (some ⟨r,0,none⟩)] Jg::pt z (jI Fj) rF::B::M) (λ_=>True) (λJ a=>?_) λ_ _=>?_
 ·have a:=a () trivial;unfold Bo at a;generalize cL l 14 ⟨0,0⟩=kx at a|-;obtain⟨k,x⟩:=kx
  dsimp only at a|-
  refine au ?_;refine Gs.j1 (.bool (decide (k=1\/k=2)),()) (λJ a=>?_) ?_
  ·refine au ?_;refine Gs.Ib (λh=>?_) λh=>?_
   ·rw[aA (.inl (by simpa using h))]at a;rw[h];exact a
   ·refine au ?_
    have e:decide (k=1\/k=2)=(k==2):=by
     have:¬k=1:=by simpa using h
     rw[bT];simp[this]
    rw[e]at a;exact a
  refine Gs.z ?_;unfold rdC at a;refine Gs.I (λh=>?_) λh=>?_
  all_goals first|rw[ab h]at a|rw[aa h]at a
  ·skip
   refine au ?_;refine ug b ?_;refine au ?_;refine xq b ?_;refine au ?_;refine Gs.st (cs' :=jI (vt l (kV l (Dc k,x))).1) (by repeat first|(with_reducible exact bL.refl)|((apply kp);(·repeat first|(with_reducible exact cF)|(with_reducible apply cS)))) (λw h=>by simp[go_sem,h,Zp]) rfl ?_
   dsimp only[kV,lU,uc,vt,vv,t6,sH,vx,pv,rm]at a|-
   exact a.fin
  refine au ?_;refine Gs.Ib (λh=>?_) λh=>?_
  all_goals simp only[beq_iff_eq,beq_eq_false_iff_ne]at h
  all_goals first|rw[ab h]at a|rw[aa h]at a
  ·skip
   refine au ?_;refine Gy b ?_;refine au ?_;refine Gs.stY (cs' :=jI (vv l (Dc k,x)).1) (n:=24) (by repeat first|(with_reducible exact bL.refl)|((apply kp);(·repeat first|(with_reducible exact cF)|(with_reducible apply cS)))) (bb _) ud (by rw[bb,dV];decide) (oI _) (QD _ _) ?_
   dsimp only[kV,lU,uc,vt,vv,t6,sH,vx,pv,rm]at a|-
   exact a.fin
  refine au ?_;refine Gs.Ib (λh=>?_) λh=>?_
  all_goals simp only[beq_iff_eq,beq_eq_false_iff_ne]at h
  all_goals first|rw[ab h]at a|rw[aa h]at a
  ·skip
   refine au ?_;refine yE b ?_;refine au ?_;refine wF b ?_;refine au ?_;refine Gs.st (cs' :=jI (t6 l (lU l (Dc k,x))).1) (by repeat first|(with_reducible exact bL.refl)|((apply kp);(·repeat first|(with_reducible exact cF)|(with_reducible apply cS)))) (λw h=>by simp[go_sem,h,IL]) (zM (lU l (Dc k,x)).1 30 (by decide) _) ?_
   dsimp only[kV,lU,uc,vt,vv,t6,sH,vx,pv,rm]at a|-
   exact a.fin
  refine au ?_;refine Gs.Ib (λh=>?_) λh=>?_
  all_goals simp only[beq_iff_eq,beq_eq_false_iff_ne]at h
  all_goals first|rw[ab h]at a|rw[aa h]at a
  ·skip
   refine au ?_;refine ug b ?_;refine au ?_;refine yE b ?_;refine au ?_;refine wF b ?_;refine au ?_;refine Gs.st (cs' :=jI (sH l (lU l (kV l (Dc k,x)))).1) (by repeat first|(with_reducible exact bL.refl)|((apply kp);(·repeat first|(with_reducible exact cF)|(with_reducible apply cS)))) (λw h=>by simp[go_sem,h,MS]) (zM (lU l (kV l (Dc k,x))).1 31 (by decide) _) ?_;refine au ?_;refine jK (most:=255) b rfl (by decide) ?_;refine au ?_;refine Gs.st (cs' :=jI (vx l (sH l (lU l (kV l (Dc k,x))))).1) (by repeat first|(with_reducible exact bL.refl)|((apply kp);(·repeat first|(with_reducible exact cF)|(with_reducible apply cS)))) (λw h=>by simp[go_sem,h,Sj]) (zM (sH l (lU l (kV l (Dc k,x)))).1 32 (by decide) _) ?_;refine au ?_;refine Jq b ?_
   dsimp only[kV,lU,uc,vt,vv,t6,sH,vx,pv,rm]at a|-
   exact a.fin
  refine au ?_;refine Gs.Ib (λh=>?_) λh=>?_
  all_goals simp only[beq_iff_eq,beq_eq_false_iff_ne]at h
  all_goals first|rw[ab h]at a|rw[aa h]at a
  ·skip
   refine au ?_;refine ug b ?_;refine au ?_;refine xO b ?_;refine au ?_;refine Gs.st (cs' :=jI (uc l (kV l (Dc k,x))).1) (by repeat first|(with_reducible exact bL.refl)|((apply kp);(·repeat first|(with_reducible exact cF)|(with_reducible apply cS)))) (λw h=>by simp[go_sem,h,Wz]) rfl ?_
   dsimp only[kV,lU,uc,vt,vv,t6,sH,vx,pv,rm]at a|-
   exact a.fin
  refine au ?_;refine Gs.Ib (λh=>?_) λh=>?_
  all_goals simp only[beq_iff_eq,beq_eq_false_iff_ne]at h
  all_goals first|rw[ab h]at a|rw[aa h]at a
  ·skip
   refine au ?_;refine ug b ?_;refine au ?_;refine xO b ?_;refine au ?_;refine Gs.st (cs' :=jI (uc l (kV l (Dc k,x))).1) (by repeat first|(with_reducible exact bL.refl)|((apply kp);(·repeat first|(with_reducible exact cF)|(with_reducible apply cS)))) (λw h=>by simp[go_sem,h,Wz]) rfl ?_;refine au ?_;refine Jq b ?_
   dsimp only[kV,lU,uc,vt,vv,t6,sH,vx,pv,rm]at a|-
   exact a.fin
  refine au ?_;refine Gs.Ib (λh=>?_) λh=>?_
  all_goals simp only[beq_iff_eq,beq_eq_false_iff_ne]at h
  all_goals first|rw[ab h]at a|rw[aa h]at a
  ·skip
   refine au ?_;refine ug b ?_;refine au ?_;refine yE b ?_
   dsimp only[kV,lU,uc,vt,vv,t6,sH,vx,pv,rm]at a|-
   exact a.fin
  refine au ?_;refine Gs.Ib (λh=>?_) λh=>?_
  all_goals simp only[beq_iff_eq,beq_eq_false_iff_ne]at h
  all_goals first|rw[ab h]at a|rw[aa h]at a
  ·skip
   refine au ?_;refine ug b ?_;refine au ?_;refine yE b ?_;refine au ?_;refine wF b ?_;refine au ?_;refine Gs.st (cs' :=jI (sH l (lU l (kV l (Dc k,x)))).1) (by repeat first|(with_reducible exact bL.refl)|((apply kp);(·repeat first|(with_reducible exact cF)|(with_reducible apply cS)))) (λw h=>by simp[go_sem,h,MS]) (zM (lU l (kV l (Dc k,x))).1 31 (by decide) _) ?_;refine au ?_;refine Jq b ?_
   dsimp only[kV,lU,uc,vt,vv,t6,sH,vx,pv,rm]at a|-
   exact a.fin
  refine au ?_;refine Gs.Ib (λh=>?_) λh=>?_
  all_goals simp only[beq_iff_eq,beq_eq_false_iff_ne]at h
  all_goals first|rw[ab h]at a|rw[aa h]at a
  ·skip
   refine au ?_;refine ug b ?_;refine au ?_;refine wF b ?_;refine au ?_;refine Gs.st (cs' :=jI (t6 l (kV l (Dc k,x))).1) (by repeat first|(with_reducible exact bL.refl)|((apply kp);(·repeat first|(with_reducible exact cF)|(with_reducible apply cS)))) (λw h=>by simp[go_sem,h,IL]) (zM (kV l (Dc k,x)).1 30 (by decide) _) ?_
   dsimp only[kV,lU,uc,vt,vv,t6,sH,vx,pv,rm]at a|-
   exact a.fin
  refine au ?_;refine Gs.Ib (λh=>?_) λh=>?_
  all_goals simp only[beq_iff_eq,beq_eq_false_iff_ne]at h
  all_goals first|rw[ab h]at a|rw[aa h]at a
  ·skip
   refine au ?_;refine yE b ?_;refine au ?_;refine xq b ?_;refine au ?_;refine Gs.st (cs' :=jI (pv l (lU l (Dc k,x))).1) (by repeat first|(with_reducible exact bL.refl)|((apply kp);(·repeat first|(with_reducible exact cF)|(with_reducible apply cS)))) (λw h=>by simp[go_sem,h,N4]) (zM (lU l (Dc k,x)).1 33 (by decide) _) ?_
   dsimp only[kV,lU,uc,vt,vv,t6,sH,vx,pv,rm]at a|-
   exact a.fin
  refine au ?_;refine Gs.Ib (λh=>?_) λh=>?_
  all_goals simp only[beq_iff_eq,beq_eq_false_iff_ne]at h
  all_goals first|rw[ab h]at a|rw[aa h]at a
  ·skip
   refine au ?_;refine ug b ?_
   dsimp only[kV,lU,uc,vt,vv,t6,sH,vx,pv,rm]at a|-
   exact a.fin
  refine au ?_;refine Gs.Ib (λh=>?_) λh=>?_
  all_goals simp only[beq_iff_eq,beq_eq_false_iff_ne]at h
  all_goals first|rw[ab h]at a|rw[aa h]at a
  ·skip
   refine au ?_;refine yE b ?_
   dsimp only[kV,lU,uc,vt,vv,t6,sH,vx,pv,rm]at a|-
   exact a.fin
  exact a.fin
 have f:=G9 l;have j:Fv l=if kO l (Bo l).2=0/\(Bo l).1.may=true then some (Bo l).1 else none:=rfl
 rw[j]at d;generalize Bo l=i at d f|-;obtain⟨c,x⟩:=i
 dsimp only at d f|-
 refine Gs.z ?_;refine Gs.j1 (.bool (!decide (kO l x=0/\c.may=true)),()) (λJ a=>?_) ?_
 ·refine au ?_;refine wB b ?_;refine au ?_;refine Gs.Ib (λh=>?_) λh=>?_
  ·have e:¬kO l x=0:=by simpa using h
   simp only[e,false_and,nG,Bool.not_false]at a;exact a
  ·have e:kO l x=0:=by simpa using h
   simp only[e,oe]at a;refine Gs.X (eG (cs:=jI c) (by repeat first|(with_reducible exact bL.refl)|((apply kp);(·repeat first|(with_reducible exact cF)|(with_reducible apply cS)))) FN Am (dV _)) ?_;refine K0 f ?_;refine au ?_;cases m:c.may<;>simpa [m]using a
 refine Gs.z ?_;refine Gs.Ib (λh=>?_) λh=>?_
 ·have e:¬(kO l x=0/\c.may=true):=λg=>by simp[g.1,g.2]at h
  simp only[aa e,Option.getD_none,Option.isSome_none,bE,dB]at d;refine Gs.bB ap4 ?_;refine Gs.stY (cs' :=jI Fj) (n:=34) (by repeat first|(with_reducible exact bL.refl)|((apply kp);(·repeat first|(with_reducible exact cF)|(with_reducible apply cS)))) (dV _) Am (by simp[dV]) (tj _) (kv (by simp[dV])) ?_;refine Gs.WX (eG (cs:=jI Fj) (by repeat first|(with_reducible exact bL.refl)|((apply kp);(·repeat first|(with_reducible exact cF)|(with_reducible apply cS)))) FN Am (dV _)) ?_;refine au ?_;exact d.fin
 ·have e:kO l x=0/\c.may=true:=by simpa using h
  simp only[ab e,cR,Option.isSome_some,de]at d;refine Gs.X (eG (cs:=jI c) (by repeat first|(with_reducible exact bL.refl)|((apply kp);(·repeat first|(with_reducible exact cF)|(with_reducible apply cS)))) FN Am (dV _)) ?_;refine Gs.stY (cs' :=jI c) (n:=34) (by repeat first|(with_reducible exact bL.refl)|((apply kp);(·repeat first|(with_reducible exact cF)|(with_reducible apply cS)))) (dV _) Am (by simp[dV]) (tj _) (kv (by simp[dV])) ?_;refine Gs.WX (eG (cs:=jI c) (by repeat first|(with_reducible exact bL.refl)|((apply kp);(·repeat first|(with_reducible exact cF)|(with_reducible apply cS)))) FN Am (dV _)) ?_;refine au ?_;exact d.fin
end
end Go.Proofs
namespace Go.Proofs
open Go Go.Vc
abbrev ju(s:Vt_)(l:List UInt8):As:=ow s 5 1 l.length (bv l)
def rq{α:Type}{g:α->List UInt8}{m:Nat}:∀{L:List α},(∀x∈L,(g x).length<=m)->(L.flatMap g).length<=m*L.length
 | [],_=>aw _
 |x::L,h=>by
  have d:=h x ai;have c:=rq (L:=L) λy a=>h y (ae _ a);rw[aT,ad,aR,l8];omega
def fi{n:Nat}(h:n<18446744073709551616):(eF n).length<=10:=Bx 9 n qZ
def gV(x:Int)(h:x<18446744073709551616):(dL x).length<=10:=fi qZ
def nS{x:Int}(h:dM x):(oR x).length<=10:=fi (EI h)
section
variable{x:Sp}
def ao5:fj pQ 2 1 8=true:=cH
def Rz:Tryz.prog.underlying 297=some (.slice 2):=cH
def PD(x:Sp):(fk x)[0]? =some (gU x.num)/\(fk x)[1]? =some (gB x.route)/\(fk x)[2]? =some (gI x.tick)/\(fk x)[3]? =some (gI x.lot)/\(fk x)[4]? =some (gI x.band)/\(fk x)[5]? =some (gI x.limit)/\
  (fk x)[22]? =some (gI x.credit)/\(fk x)[23]? =some (gU x.last)/\(fk x)[24]? =some (gI x.first):=by
 have h:∀i:Nat,(fk x)[i]? =(fk x++[])[i]? :=λi=>by rw[aC]
 refine⟨rfl,rfl,rfl,rfl,rfl,rfl,?_,?_,?_⟩
 ·rw[h];exact Sr x []
 ·rw[h];exact WT x []
 ·rw[h];exact Tj x []
def t9(x:Sp):List Int:=[x.num,x.route,x.tick,x.lot,x.band,x.limit]
def GF(k:x.Fit)(c:x.may=true):(∀n∈t9 x,0<=n/\n<9223372036854775808)/\(0<=x.credit/\x.credit<9223372036854775808)/\(0<=x.first/\x.first<9223372036854775808):=by
 obtain⟨d,e,u,p,i,j,A,h,C,a⟩:=k;unfold Sp.may vL aY at c;simp only[ah,ax]at c;obtain⟨⟨⟨⟨⟨⟨⟨⟨⟨⟨-,-⟩,-⟩,-⟩,-⟩,y⟩,r⟩,z⟩,v⟩,q⟩,w,-⟩:=c;refine⟨λn m=>?_,⟨qZ,h.2⟩,⟨qZ,a.2⟩⟩;have:n=x.num\/n=x.route\/n=x.tick\/n=x.lot\/n=x.band\/n=x.limit:=by simpa [t9]using m
 rcases this with rfl|rfl|rfl|rfl|rfl|rfl
 ·exact⟨d.1,by have:=d.2;omega⟩
 ·exact⟨e.1,by have:=e.2;omega⟩
 ·exact⟨qZ,u.2⟩
 ·exact⟨qZ,p.2⟩
 ·exact⟨qZ,i.2⟩
 ·exact⟨qZ,j.2⟩
def S9(i:x.Fit):(Qh x).length<=250:=by
 unfold Qh;by_cases d:x.may
 ·rw[ab d];obtain⟨u,e,h⟩:=GF i d;obtain⟨y,I,N,J,E,H,k,v,r,j⟩:=i;have a:∀n∈t9 x,(dL n).length<=10:=λn c=>gV n (by have:=(u n c).2;omega);have q:=rq (m:=10) (g:=oR) (L:=x.shifts.toList) λn c=>nS (k n c);have p:x.shifts.toList.length=16:=by simp
  have A:=a x.num (by simp[t9]);have C:=a x.route (by simp[t9]);have D:=a x.tick (by simp[t9]);have F:=a x.lot (by simp[t9]);have P:=a x.band (by simp[t9]);have G:=a x.limit (by simp[t9]);have O:=gV x.credit (by have:=e.2;omega);have z:=gV x.last (by have:=r.2;omega);have w:=gV x.first (by have:=h.2;omega);simp only[ad];omega
 ·rw[aa d];exact aw _
end
def I7{x:Ac}(h:gM x.num/\dM x.cash):(I5 x).length<=300:=by
 have a:=gV x.num (by have:=h.1.2;omega);have c:=nS h.2;unfold I5 qx;simp only[ad,dq];omega
def I2{x:Po}(h:(gM x.c/\gM x.a)/\dM x.q/\dM x.b):(Jn x).length<=300:=by
 have c:=gV x.c (by have:=h.1.1.2;omega);have d:=gV x.a (by have:=h.1.2.2;omega);have e:=nS h.2.1;have a:=nS h.2.2;unfold Jn;simp only[ad];omega
def Kc{x:Ct}(h:x.Fit):(JX x).length<=300:=by
 have a:=S9 h.1;have c:=gV x.st (by have:=h.2.1.2;omega);have d:=nS h.2.2;unfold JX;simp only[ad];omega
def Em{x:Int×Od}(h:gM x.1/\x.2.Fit):(FO x).length<=300:=by
 obtain⟨e,i,d,a,c⟩:=h;have k:=gV x.1 (by have:=e.2;omega);have m:=gV x.2.num (by have:=i.2;omega);have q:=gV x.2.acct (by have:=d.2;omega);have j:=nS a;have p:=nS c;unfold FO qx;simp only[ad,dq];omega
def ti{α:Type}{g:α->List UInt8}{L:List α}(a:∀x∈L,(g x).length<=300)(e:L.length<=3200):(vy g L).length<=960010:=by
 have d:=rq a;have c:=fi (n:=L.length) qZ;unfold vy;rw[ad];omega
section
variable{L L0 M M2:List As}{B:As}{K:Value->WP}{s t fv:Vt_}{l b g:List UInt8}{n:Nat}{x:Int}{o:Bool}{f:FuncId}{args:Array Value}
def FF(j:∀w,CU w s l->∀K:be,(∀a c,CU c a (l++g)->bn (aQ s) w c->(∀b,aQ a b->aQ s b\/w.heap.size<=b)->K a c)->Ca pQ f args w K)
  (e:∀a,Gs (ju a (l++g)::M) (K a))(p:bL L (ju s l::M)):Gs L (Cw pQ f args K):=
 Gs.call (val:=id) (p:=λ_=>True) (B:=λa=>ju a (l++g)) p (λw F h K i=>j w h.1 K λa c o m n=>i a c (aQ a) trivial ⟨o,λ_=>aI⟩ (m.mono λy _ d=>(h.2 y).2 d) λy d=>(n y d).imp (h.2 y).2 id) λa _=>e a
def rI(i:n<18446744073709551616)(c:∀a,Gs (ju a (l++eF n)::M) (K a))(p:bL L (ju s l::M):=by repeat first|(with_reducible exact cF)|(with_reducible apply cS))(e:l.length<=1000000000:=by(try simp only[ad,qx,dq]);omega):Gs L (Cw pQ 72 #[s,gQ n] K):=FF (λw h K d=>Ir h i e d) c p
def jh(e:0<=x/\x<18446744073709551616)(c:∀a,Gs (ju a (l++dL x)::M) (K a))(p:bL L (ju s l::M):=by repeat first|(with_reducible exact cF)|(with_reducible apply cS))(hl:l.length<=1000000000:=by(try simp only[ad,qx,dq]);omega):Gs L (Cw pQ 72 #[s,gQ x] K):=by
 obtain⟨n,rfl⟩:=Int.eq_ofNat_of_zero_le e.1;exact rI qZ c p hl
def rH(i:dM x)(c:∀a,Gs (ju a (l++oR x)::M) (K a))(p:bL L (ju s l::M):=by repeat first|(with_reducible exact cF)|(with_reducible apply cS))(e:l.length<=1000000000:=by(try simp only[ad,qx,dq]);omega):Gs L (Cw pQ 95 #[s,gI x] K):=FF (λw h K d=>VQ h i e d) c p
def Cu(c:∀a,Gs (ju a (l++qx o)::M) (K a))(p:bL L (ju s l::M):=by repeat first|(with_reducible exact cF)|(with_reducible apply cS))(e:l.length<=1000000000:=by(try simp only[ad,qx,dq]);omega):Gs L (Cw pQ 98 #[s,.bool o] K):=FF (λw h K d=>RQ h e d) c p
def BJ{α:Type}{sz:Nat}{A:List α}{fc:α->List Value}{xv:α->Value}{g:α->List UInt8}{tS tE:TypeId}{G:Value->(Value->WP)->WP}(q:Tryz.prog.underlying tS=some (.slice tE))(O:∀{w F},B.P w F->Rd w sz t A.length (A.flatMap fc))(Q:A.length<=4000)(u:∀x∈A,(g x).length<=300)(hl:l.length<=100000000)
  (N:∀i (hi:i<A.length) {L:List As} {k:Value->WP},(∀w,Ss w L->Rd w sz t A.length (A.flatMap fc))->Gs L (k (xv A[i]))->Gs L (G (gI i) k))
  (e:∀x∈A,∀(s:Vt_) (l:List UInt8) (K:Value->WP),l.length<=900000000->(∀d,Gs (ju d (l++g x)::B::M) (K d))->Gs (ju s l::B::M) (Fw pQ fv [s,xv x] K))
  (z:∀d,Gs (ju d (l++vy g A)::B::M) (K d))(p:bL L (ju s l::B::M):=by repeat first|(with_reducible exact bL.refl)|((apply kp);(·repeat first|(with_reducible exact cF)|(with_reducible apply cS)))):
  Gs L (Nw pQ (builtin .len #[tS] 3 #[false] #[t]) λv=>Vw pQ (convert 3 37 v) λv=>Cw pQ 72 #[s,v] λr=>Nw pQ (builtin .len #[tS] 3 #[false] #[t]) λI=>
   Lw (λ(s:Value×Value×Unit) k=>Zw (Vw pQ (nV .lss 3 false s.2.1 I) λv=>Iw v (G s.2.1 λv=>Fw pQ fv [s.1,v] λv=>Vw pQ (nV .add 3 true s.2.1 (gI 1)) λE=>k (v,E,())) (K s.1))) (r,gI 0,())):=by
 refine Gs.pk ?_ p;have c:∀{s l} w,Ss w (ju s l::B::M)->Rd w sz t A.length (A.flatMap fc):=λw y=>(fg (cS cF) y).elim λF h=>O h;have D:=fi (n:=A.length) qZ;refine Gs.len q c ?_;refine au ?_;refine rI (n:=A.length) qZ λs1=>?_;refine Gs.len q c ?_;refine Gs.l (λx:Value×Nat=>(x.1,gI x.2,())) (A.length - ·.2) (λx=>ju x.1 (l++eF A.length++(A.take x.2).flatMap g)::B::M) (λx=>x.2<=A.length) (s1,0) rfl (aw _) ?_ (by rw[bS,bo,aC];exact .refl);rintro⟨s,i⟩ hi P j
 dsimp only at hi j|-
 refine Gs.z (au ?_);refine Gs.I (λh=>?_) λh=>?_
 ·have a:i<A.length:=qZ;refine N i a c ?_;have H:=rq (m:=300) (L:=A.take i) λx J=>u x (bm J);rw[av]at H;refine e _ (ar a) _ _ _ (by simp only[ad];omega) λC=>?_;refine au ?_;have:=j (C,i+1) a (by dsimp only;omega);rw[bV a,bD,aT,bo,aC,<-ag]at this;exact this
 ·obtain rfl:i=A.length:=qZ;have:=z s;rw[aL,ag];exact this
end
end Go.Proofs
