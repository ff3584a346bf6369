/- Part of a proof. -/
import Derived.Laws.BitsAllLaws
import Derived.Test.YtekbnpagidkbbaaGreatRows
import Derived.WalkKit
import Derived.ProofKit
import Derived.OpenShut
import Derived.Test.YtekbnpagidkbbaaGreatQ25
set_option linter.all false
set_option maxRecDepth 100000
set_option maxHeartbeats 1000000
namespace Go.Proofs
open Go Go.Vc
attribute [local congr] aZ
variable {l:List UInt8}{r:Nat}{s:Rs}{v:Vt_}{w:Wt_}{K:aY}
def T6:gP pQ 5 1 1=true:=cy
def u8C:Tryz.prog.cellsOf 5=0+1:=cy
abbrev tBs:TypeId:=28
def Ip:Tryz.prog.underlying tBs=some (.slice 5):=Tryz.underlying28
set_option maxRecDepth 100000 in
def TD(n:Nat):bits .or .u8 (IntKind.u8.wrap (n:Int)) 128=((UInt8.ofNat (n%128+128)).toNat:Int):=by
 have a:IntKind.u8.wrap (n:Int)=((n%256:Nat):Int):=by rw[jm];omega
 have b:(UInt8.ofNat (n%128+128)).toNat=n%128+128:=JZ qZ;rw[a,show(128:Int)=((128:Nat):Int)from rfl,u8_or_nat _ _ qZ qZ,b];congr 1;have h:∀m:Fin 256,m.val|||128=m.val%128+128:=by decide
 have:=h ⟨n%256,qZ⟩;simp only at this;rw[this];omega
def Tu{s:Vt_}{k n:Nat}(h:gD w 5 1 s k (bv l))(I:n<18446744073709551616)(N:k<=1000000000)
  (E:∀g t,gD t 5 1 g (k+(nh n).length) (bv (l++nh n))->aS (aK s) w t->(∀b,aK g b->aK s b\/w.heap.size<=b)->K g t):
  Ca pQ 72 #[s,gQ n] w K:=by
 refine cN Tryz.func72 ?_
 refine d8 (λst W=>∃(m:Nat) (a:List UInt8) (g:Vt_),nh n=a++nh m/\m<=n/\st=(gQ (m:Int),g,())/\gD W 5 1 g (k+a.length) (bv (l++a))/\aS (aK s) w W/\(∀b,aK g b->aK s b\/w.heap.size<=b))
  (λst _=>match st.1 with| .int _ i=>i.toNat|_=>0) ⟨n,[],s,rfl,az _,rfl,by simpa using h,oU,λb o=>.inl o⟩ ?_
 rintro⟨_,_⟩ W ⟨m,a,g,c,O,⟨⟩,B,r,f⟩ M y;refine lE ?_;intro _;have p:=AA I;rw[c,ag]at p;by_cases D:128<=m
 ·have d:(128:Int)<=(m:Int):=qZ;refine dB d ?_;refine dq ?_;refine dq ?_;rw[TD];refine Pf [UInt8.ofNat (m%128+128)] Ip (dp T6) rfl rfl qZ λv H z j L=>?_;refine jJ (m:=1) Ip Ip (dp T6) (B.mod j dS) z.rd (In _) qZ λC F q u x=>?_;refine dq ?_;have A:nh m=UInt8.ofNat (m%128+128)::nh (m / 128):=zC qZ;refine y _ _ ⟨m / 128,a++[UInt8.ofNat (m%128+128)],C,by rw[c,A];simp,qZ,rfl,?_,?_,?_⟩ ?_
  ·rw[<-yj,aH]at q;have e:k+(a++[UInt8.ofNat (m%128+128)]).length=k+a.length+1:=by simp;omega
   rw[e];exact q
  ·exact(r.on j λ_ h=>h.elim).on u f
  ·intro b o;rcases x b o with h1|h1
   ·exact f b h1
   ·have:=(r.on j (G:=λ_=>False) λ_ h=>h.elim).size;omega
  ·grind
 ·have d:¬(128:Int)<=(m:Int):=qZ;refine ey d ?_
  have J:IntKind.u8.wrap (m:Int)=((UInt8.ofNat m).toNat:Int):=by
   rw[JZ qZ,jm];omega
  refine dq ?_;rw[J];refine Pf [UInt8.ofNat m] Ip (dp T6) rfl rfl qZ λv H z j L=>?_;refine jJ (m:=1) Ip Ip (dp T6) (B.mod j dS) z.rd (In _) qZ λC F q u x=>?_;have A:nh m=[UInt8.ofNat m]:=tB qZ;refine E _ _ ?_ ((r.on j λ_ h=>h.elim).on u f) ?_
  ·rw[c,A];rw[<-yj,aH]at q;have e:k+(a++[UInt8.ofNat m]).length=k+a.length+1:=by simp;omega
   rw[e];exact q
  ·intro b o;rcases x b o with h1|h1
   ·exact f b h1
   ·have:=(r.on j (G:=λ_=>False) λ_ h=>h.elim).size;omega
def pw(r:Nat):Value:=bO r 0
structure oY(w:Wt_)(r:Nat)(v:Vt_)(l:List UInt8)(s:Rs):Prop where
 blk:hC w r #[v,gI s.at_,gI s.e] 260
 rd:Rd w 1 v l.length (bv l)
 le:s.at_<=l.length
 ne:¬vw v r
 len:l.length<=1000000000
def oY.mod{F:NP_}{w' :Wt_}(h:oY w r v l s)(a:aS F w w')(h1:¬F r)(c:∀b,vw v b->¬F b):oY w' r v l s:=
 ⟨a.keep h.blk h1,h.rd.mod a c,h.le,h.ne,h.len⟩
def oY.lt(h:oY w r v l s):r<w.heap.size:=ay h.blk
def DH(h:Rd w 1 v l.length (bv l))(d:l.length<=1000000000)
  (e:∀b,oY b w.heap.size v l ⟨0,0⟩->M0 w b->K (pw w.heap.size) b):Ca pQ 65 #[v] w K:=by
 obtain⟨a,c,rfl⟩:=h.isSl;refine cN Tryz.func65 ?_;simp[go_sem];refine e _ ⟨?_,h.mod kU dS,aJ _,λf=>Nat.lt_irrefl _ (h.lt f),d⟩ kU;simp[go_sem]
def VX(h:oY w r v l s)(a:K (.bool (decide (s.e≠0))) w):Ca pQ 168 #[pw r] w K:=by
 unfold pw;refine cN Tryz.func168 ?_;have c:=h.blk;simp[go_sem,pw,c]
 have e:((s.e:Int) != 0)=decide (s.e≠0):=by
  by_cases b:s.e=0<;>simp[b]
 first
  |exact a
  |(rw[e];exact a)
  |(simpa using a)
def Hq(l:List UInt8)(at_:Nat):Value:=
 match Hc (l.drop at_) 0 0 with
 | .error e=>.tuple #[.int .u64 0,gI 0,gI e]
 | .ok (n,k)=>.tuple #[.int .u64 n,gI (at_+k:Nat),gI 0]
def af2(k:Nat):(2:Int) ^ (7*k)=((128 ^ k:Nat):Int):=by
 rw[Int.pow_mul];simp
def VQ(h:oY w r v l s)(G:∀w',M0 w w' ->K (Hq l s.at_) w'):Ca pQ 169 #[pw r] w K:=by
 have H:=h.blk;have hlen:=h.len;obtain⟨v',z,F,hin⟩:=h.rd.from_ (P:=pQ) Ip u8C h.le .i64;simp only[cM,oD]at F;rw[Tr]at F;unfold pw;refine cN Tryz.func169 ?_;simp only[pw,cj];apply cT (bO r 0) (λW=>by simp[go_sem]);refine xj H ?_;apply cT (bO r 1) (λW=>by simp[go_sem]);refine xj H ?_;apply cT v' z;obtain⟨a',c',V⟩:=F.isSl;apply qy (gI ((l.length - s.at_:Nat):Int)) (by rw[V];simp[go_sem]);have o:=F.mod (aS.refl (λ_=>False) w).drew dS;generalize I:w.drew=T at o|-;have j:M0 w T:=by subst I;exact(aS.refl _ w).drew
 have Z:hp T r=some (.cells #[v,gI s.at_,gI s.e] 260 (0,0)):=j.keep H id;obtain⟨L,q⟩:=df (l.drop s.at_);rw[<-q]at o;have hLl:L.length=l.length - s.at_:=by rw[q];simp
 refine d8 (λst W=>∃(i acc:Nat),i<=L.length/\i<=9/\acc<128 ^ i/\Hc L 0 0=Hc (L.drop i) i acc/\(∃x1 x2:Value,st=(gQ (acc:Int),x1,x2,gI (i:Int),()))/\W=T)
  (λst _=>match st.2.2.2.1 with| .int _ i=>10 - i.toNat|_=>0) ⟨0,0,qZ,qZ,by decide,rfl,⟨_,_,rfl⟩,rfl⟩ ?_
 rintro⟨_,_⟩ W ⟨i,acc,hi,O,hacc,B,⟨x1,x2,⟨⟩⟩,rfl⟩ KN M;refine lE ?_;intro _;by_cases u:i<L.length
 ·obtain⟨b,off,cap,C,e,fz,Q,hcap,hC,R⟩:=o.byte (i:=i) qZ u;have hx:=(L[i]).toNat_lt;have X:L.drop i=L[i]::L.drop (i+1):=dA u;have g:(i:Int)<((l.length - s.at_:Nat):Int):=qZ;refine dE g ?_;rw[aw,ae rfl,Q];have D:i<l.length - s.at_:=qZ;refine mK D bD ?_;refine mK hC R ?_;obtain⟨x,m⟩:=df ((L[i]).toNat);rw[<-m];rw[<-m]at hx
  have a:Hc L 0 0=if i=9/\1<x\/9<i then .error 5
    else if x<128 then(if x=0/\0<i then .error 5 else .ok (acc+x%128*128 ^ i,i+1))
    else Hc (L.drop (i+1)) (i+1) (acc+x%128*128 ^ i):=by
   rw[B,X];simp only[Hc];rw[<-m]
  refine cG.at (λst S=>st=(.bool (decide (i=9/\1<x\/9<i)),())/\S=W) ?_ ?_
  ·by_cases Y:i=9
   ·subst Y;refine jZ ?_;by_cases h1:1<x
    ·have p:(1:Int)<(x:Int):=qZ;refine dB p ?_;exact⟨by simp[h1],rfl⟩
    ·have p:¬(1:Int)<(x:Int):=qZ;refine ey p ?_;refine dq ?_;exact⟨by simp[h1],rfl⟩
   ·have J:¬(i:Int)=9:=qZ;have y:¬(9:Int)<(i:Int):=qZ;refine ey J ?_;refine dE y ?_;exact⟨by simp[Y];omega,rfl⟩
  rintro _ W ⟨rfl,rfl⟩;refine jG ?_;intro _;by_cases c:i=9/\1<x\/9<i
  ·rw[ae c]at a;simp only[c,decide_true,aw,cZ];have:=G _ j;unfold Hq at this;rw[<-q,a]at this;exact this
  rw[aa c]at a;simp only[c,decide_false,aw,bj,da]
  have ea:bits .and .u8 (x:Int) 127=((x%128:Nat):Int):=by
   rw[show(127:Int)=((127:Nat):Int)from rfl,u8_and_nat _ _ qZ qZ];congr 1;exact Nat.and_two_pow_sub_one_eq_mod x 7
  have hs:x%128*128 ^ i<18446744073709551616:=by
   by_cases Y:i=9
   ·grind
   ·have h8:128 ^ i<=128 ^ 8:=iO (by decide) qZ;have h7:=fL (show x%128<=127 by omega) h8;have e8:(127:Nat)*128 ^ 8<18446744073709551616:=by decide
    omega
  have f:acc<18446744073709551616:=by
   have h8:128 ^ i<=128 ^ 9:=iO (by decide) O;have e9:(128:Nat) ^ 9=9223372036854775808:=by decide
   omega
  have eo:acc|||(x%128*128 ^ i)=acc+x%128*128 ^ i:=by
   have e1:(128:Nat) ^ i=2 ^ (7*i):=by rw[Nat.pow_mul]
   have:=Nat.two_pow_add_eq_or_of_lt (i:=7*i) (b:=acc) (by grind) (x%128);rw[<-e1,eE (128 ^ i)]at this;rw[Nat.or_comm,<-this,nH]
  have hsum:acc+x%128*128 ^ i<18446744073709551616:=by
   rw[<-eo];exact Nat.or_lt_two_pow (n:=64) f hs
  apply ax (gB ((x%128:Nat):Int)) W (by simp only[go_sem];simp[-Int.natCast_emod,go_sem,ea]);apply ax (gQ ((x%128:Nat):Int)) W (by simp[-Int.natCast_emod,go_sem,qC (n:=((x%128:Nat):Int)) qZ qZ]);apply ax (gI ((7*i:Nat):Int)) W (by simp[go_sem];rw[lL]);refine ax (gQ ((x%128*128 ^ i:Nat):Int)) W ?_ ?_
  ·have e7:((7*i:Nat):Int).toNat=7*i:=qZ;have e8:¬((7*i:Nat):Int)<0:=qZ;simp[-Int.natCast_mul,-Int.natCast_emod,go_sem,e7,e8];rw[af2,<-eH,Iy]
  refine ax (gQ ((acc+x%128*128 ^ i:Nat):Int)) W ?_ ?_
  ·simp only[go_sem];simp[-Int.natCast_add,-Int.natCast_mul,-Int.natCast_emod,go_sem];rw[u64_or_nat _ _ f hs,eo]
  by_cases k:x<128
  ·have d:(x:Int)<128:=qZ;rw[ae k]at a;refine dB d ?_;refine cG.at (λst S=>st=(.bool (decide (x=0/\0<i)),())/\S=W) ?_ ?_
   ·by_cases U:x=0
    ·refine dB U ?_;refine lY (.bool (decide ((0:Int)<(i:Int)))) ?_;refine⟨?_,rfl⟩;have e:decide ((0:Int)<(i:Int))=decide (x=0/\0<i):=by grind
     rw[e]
    ·have h0' :¬(x:Int)=0:=qZ;refine ey U ?_;exact⟨by simp[U],rfl⟩
   rintro _ W ⟨rfl,rfl⟩;refine jG ?_;intro _;by_cases E:x=0/\0<i
   ·rw[ae E]at a;simp only[E,and_self,decide_true,aw,cZ];have:=G _ j;unfold Hq at this;rw[<-q,a]at this;exact this
   rw[aa E]at a;simp only[E,decide_false,aw,bj,da];have hat:s.at_+i+1<9223372036854775808:=qZ;simp only[pw,cj];apply cT (bO r 1) (λW=>by simp[go_sem])
   have t:∀A,A.heap=W.heap->(iL 3 (bO r 1)).run pQ A=.ok (gI s.at_) A:=λA e=>by
    have N:hp A r=some (.cells #[v,gI s.at_,gI s.e] 260 (0,0)):=by unfold hp;rw[e];exact Z
    simp[go_sem,N]
   refine qy (gI s.at_) (t _ rfl) ?_;apply cT (gI ((s.at_+i:Nat):Int)) (λW=>by simp[go_sem];rw[lL]);apply cT (gI ((s.at_+(i+1):Nat):Int)) (λW=>by simp[go_sem];rw[lL];omega);refine⟨t _ rfl,?_⟩;have:=G _ j.drew;unfold Hq at this;rw[<-q,a]at this;exact this
  ·have d:¬(x:Int)<128:=qZ;rw[aa k]at a;refine ey d ?_;apply ax (gI ((i+1:Nat):Int)) W (by simp[go_sem];rw[lL]);have hi9' :i≠9:=λe=>c (.inl ⟨e,qZ⟩);refine M _ _ ⟨i+1,_,qZ,qZ,?_,a,⟨_,_,rfl⟩,rfl⟩ ?_
   ·rw[Nat.pow_succ];have:x%128*128 ^ i<=127*128 ^ i:=cF _ qZ;omega
   ·grind
 ·have g:¬(i:Int)<((l.length - s.at_:Nat):Int):=qZ;refine ey g ?_
  have a:Hc L 0 0=.error 4:=by
   rw[B,List.drop_eq_nil_of_le qZ];rfl
  have:=G _ j;unfold Hq at this;rw[<-q,a]at this;exact this
end Go.Proofs
set_option maxRecDepth 100000
set_option maxHeartbeats 1000000
namespace Go.Proofs
open Go Go.Vc
attribute [local congr] aZ
variable {l:List UInt8}{r:Nat}{s:Rs}{v:Vt_}{w:Wt_}
def SY:∀{k acc e:Nat},Hc l k acc=.error e->e=4\/e=5:=by
 induction l with
 |nil=>intro k acc e h;cases h;exact .inl rfl
 |cons x r a=>
  intro k acc e h;simp only[Hc]at h;split at h
  ·cases h;exact .inr rfl
  ·split at h
   ·split at h
    ·cases h;exact .inr rfl
    ·cases h
   ·exact a h
def oY.fault(h:oY w r v l s)(e:Nat):
  oY (w.setCell ⟨r,2,none⟩ (gI e)) r v l {s with e:=e}/\aS (λb=>b=r) w (w.setCell ⟨r,2,none⟩ (gI e)):=by
 have a:aS (λb=>b=r) w (w.setCell ⟨r,2,none⟩ (gI e)):=(aS.refl (λb=>b=r) w).sc;exact⟨⟨by simp[go_sem,h.blk],h.rd.mod a λb c e=>h.ne (by grind),h.le,h.ne,h.len⟩,a⟩
def oY.go(h:oY w r v l s)(a:Nat)(d:a<=l.length):
  oY (w.setCell ⟨r,1,none⟩ (gI a)) r v l {s with at_:=a}/\aS (λb=>b=r) w (w.setCell ⟨r,1,none⟩ (gI a)):=by
 have c:aS (λb=>b=r) w (w.setCell ⟨r,1,none⟩ (gI a)):=(aS.refl (λb=>b=r) w).sc;exact⟨⟨by simp[go_sem,h.blk],h.rd.mod c λb f e=>h.ne (by grind),d,h.ne,h.len⟩,c⟩
def NV{K:aY}{most:Nat}(h:oY w r v l s)(u:most<18446744073709551616)
  (g:∀t,oY t r v l (qP l most s).2->aS (λb=>b=r) w t->K (gQ (qP l most s).1) t):Ca pQ 67 #[pw r,gQ most] w K:=by
 unfold pw;refine cN Tryz.func67 ?_;apply VX h;by_cases x:s.e≠0
 ·rw[mP x];have i:qP l most s=(0,s):=by unfold qP;rw[ae x]
  rw[i]at g;exact g _ h oU
 rw[aw,aa (by grind)]
 have i:qP l most s=match Hc (l.drop s.at_) 0 0 with
  | .error e=>(0,{s with e:=e})
  | .ok (n,k)=>if most<n then(0,{s with e:=5})else(n,{s with at_:=s.at_+k}):=by unfold qP;rw[aa x];cases Hc (l.drop s.at_) 0 0<;>rfl
 refine VQ h λa o=>?_;have h1:=h.mod o id dS
 have tail:∀(e n k:Nat) (a:Wt_),oY a r v l s->M0 w a->s.at_+k<=l.length->
   (if e≠0 then qP l most s=(0,{s with e:=e})else qP l most s=(n,{s with at_:=s.at_+k}))->
   UX (pw r) K (gI (s.at_+k:Nat)) (gQ n) (gI e,()) a:=by
  intro e n k a h1 o C q;unfold UX;intro _;have A:∀y,aS (λb=>b=r) a y->aS (λb=>b=r) w y:=λy B=>(o.to).trans B;by_cases z:e≠0
  ·rw[ae z]at q;rw[q]at g;have f:¬(e:Int)=0:=qZ;apply ax (.bool true) a (by simp[go_sem,f];omega);rw[jV];obtain⟨m,j⟩:=h1.fault e;simp only[pw,cj];refine dq ?_;refine MU h1.blk ?_;exact g _ m (A _ j)
  ·rw[aa z]at q;rw[q]at g;have f:(e:Int)=0:=qZ;refine ey f ?_;obtain⟨m,j⟩:=h1.go (s.at_+k) C;simp only[pw,cj];refine dq ?_;refine MU h1.blk ?_;exact g _ m (A _ j)
 cases d:Hc (l.drop s.at_) 0 0 with
 |error e=>
  have D:=SY d;unfold Hq;rw[d]at i|-;simp only at i|-;refine dq ?_;refine dq ?_;refine dq ?_;refine cG.at (λst W=>st=(gI e,())/\W=a) ?_ ?_
  ·refine cG.at (λst W=>st=(.bool false,())/\W=a) ?_ ?_
   ·have f:¬(e:Int)=0:=qZ;apply ax (.bool false) a (by simp[go_sem];omega);rw[ij];exact tF
   ·rintro _ a ⟨rfl,rfl⟩;refine jG ?_;intro _;rw[ij];exact tF
  ·rintro _ a ⟨rfl,rfl⟩;have G:e≠0:=qZ;refine jG ?_;intro _;rw[i]at g;apply ax (.bool true) a (by simp[go_sem];omega);rw[jV];obtain⟨m,j⟩:=h1.fault e;simp only[pw,cj];refine dq ?_;refine MU h1.blk ?_;exact g _ m ((o.to).trans j)
 |ok p=>
  obtain⟨n,k⟩:=p;have E:=Re d;have F:=h.le;rw[bq]at E;unfold Hq;rw[d]at i|-;simp only at i|-;refine dq ?_;refine dq ?_;refine dq ?_;refine cG.at (λst W=>st=(gI (if most<n then 5 else 0:Nat),())/\W=a) ?_ ?_
  ·refine cG.at (λst W=>st=(.bool (decide (most<n)),())/\W=a) ?_ ?_
   ·refine jZ ?_;refine dq ?_;exact tF
   ·rintro _ a ⟨rfl,rfl⟩;refine jG ?_;intro _;by_cases c:most<n
    ·rw[mP c,ae c];simp
    ·rw[aw,aa (by grind),aa c];simp
  ·rintro _ a ⟨rfl,rfl⟩;apply tail (if most<n then 5 else 0) n k _ h1 o qZ;by_cases c:most<n
   ·grind
   ·grind
def SL{K:aY}(h:oY w r v l s)
  (g:∀f,M0 w f->K (gI (Eo l s)) f):Ca pQ 70 #[pw r] w K:=by
 have b:=h.blk;obtain⟨a,c,rfl⟩:=h.rd.isSl;unfold pw;refine cN Tryz.func70 ?_;apply ax (.bool false) w (by simp[go_sem,pw]);rw[ij];refine cG.at (λst W=>st=(.bool (decide (s.e=0/\s.at_<l.length)),())/\W=w.drew) ?_ ?_
 ·simp only[pw,cj];apply cT (bO r 2) (λW=>by simp[go_sem]);refine xj b ?_;by_cases d:s.e=0
  ·apply cT (.bool true) (λW=>by simp[go_sem,d]);rw[jV];apply cT (bO r 1) (λW=>by simp[go_sem]);refine xj b ?_;apply cT (bO r 0) (λW=>by simp[go_sem]);refine xj b ?_;refine XD ?_;apply cT (.bool (decide (s.at_<l.length))) (λW=>by simp[go_sem]);simp[d]
  ·apply cT (.bool false) (λW=>by simp[go_sem];omega);rw[ij];simp[d]
 rintro _ _ ⟨rfl,rfl⟩;refine jG ?_;intro _;have i:M0 w w.drew:=sK;by_cases e:s.e=0/\s.at_<l.length
 ·rw[mP e];have:=g _ i;unfold Eo at this;rw[ae e]at this;exact this
 ·rw[aw,aa (by grind)];have:=g _ i;unfold Eo at this;rw[aa e]at this;simp only[pw,cj];refine dq ?_;refine dE b ?_;exact this
end Go.Proofs
set_option maxRecDepth 100000
set_option maxHeartbeats 1000000
namespace Go.Proofs
open Go Go.Vc
attribute [local congr] aZ
def ad0:qP [99] 14 ⟨0,0⟩=(0,⟨0,5⟩):=by rfl
def Y2:Eo [99] ⟨0,5⟩=5:=by rfl
def bkZ:Tryz.prog.built lZ [(0,gB 0)]=some (jO kw).toArray:=cy
def af8:Tryz.prog.built lZ []=some (jO kw).toArray:=cy
def Oa{W:Wt_}{p:Nat}{a b:Cm}{d:World->Prop}(h:dX W p a)(e:∀c,dX c p b->aS (λy=>y=p) W c->d c):vD pQ (oT lZ (bO p 0) (.agg (jO b).toArray)) W d:=by
 refine qX MG (fW b) h (by rw[cI,fW,fW];omega) (Jh b) (e _ ?_ ((aS.refl (λy=>y=p) W).setRow (.inl rfl) _));have f:W.heap[p]? =some (.cells (jO a).toArray lZ (0,0)):=h;show(W.setRow p _).heap[p]? =_;rw[d9,ae rfl,f,lR (by show(jO b).length=(jO a).length;rw[fW,fW])]
def LM{w:Wt_}{K:aY}{v:Vt_}(h:Rd w 1 v 1 (bv [99]))(X:∀E,M0 w E->K (.tuple #[vg kw,gI 5]) E):Ca pQ 43 #[v] w K:=by
 refine cN Tryz.func43 ?_;apply nE TM;rw[Ae];obtain⟨z,H⟩:=df w.heap.size;have A:M0 w (w.alloc (.cells (jO kw).toArray lZ)):=kU;have m:dX (w.alloc (.cells (jO kw).toArray lZ)) z kw:=by show hp _ _=_;rw[H];simp[go_sem]
 rw[<-H];generalize w.alloc (.cells (jO kw).toArray lZ)=O at A m|-;have P:=h.mod A dS;refine DH (l:=[99]) P (by decide) λi B n=>?_;generalize hr:O.heap.size=r at B n|-;have b2:=n.hpk m id;have hzr:z<r:=by have:=ay m;omega
 have Z:w.heap.size<=z:=qZ;have M2:=A.trans n;obtain⟨q,o⟩:=df i.heap.size;have N:r<q:=by have:=B.lt;omega
 have f:∃c,(i.alloc (.cells #[.pointer none] 151)).setCell ⟨q,0,none⟩ (pw r)=c/\M0 i c/\hC c q #[pw r] 151:=
  ⟨_,rfl,kU.setCell (.inr (by grind)) _ _,by rw[o];simp[go_sem,pw]⟩
 obtain⟨c,d,C,L⟩:=f;apply ax (bO q 0) (i.alloc (.cells #[.pointer none] 151)) (by rw[o];simp[go_sem]);apply pl c (by rw[<-d,o];simp[go_sem,pw]);clear d;have S:=B.mod C id dS;have Y:=C.hpk b2 id;apply ax (pw r) c (by simp[go_sem,L,pw]);refine NV (l:=[99]) (s:=⟨0,0⟩) (most:=14) S (by decide) λa G u=>?_;rw[ad0]at G|-;have hql:∀b,vw v b->b<z:=λb F=>by have:=h.lt F;omega
 have c5:=u.hpk Y qZ;have D:=u.hpk L qZ;have Q:M0 w a:=(M2.trans C).on u λy t=>fM;apply ax (gB 0) a (by simp[go_sem];decide);apply lS bkZ;apply nE TM;rw[Ae];obtain⟨y,t⟩:=df a.heap.size;have k:M0 a (a.alloc (.cells (jO kw).toArray lZ)):=kU;have J:dX (a.alloc (.cells (jO kw).toArray lZ)) y kw:=by show hp _ _=_;rw[t];simp[go_sem]
 rw[<-t];generalize a.alloc (.cells (jO kw).toArray lZ)=w6 at k J|-;have hqy:q<y:=by have:=ay D;omega
 refine Oa (b:=kw) J λg M I=>?_;have p:M0 a g:=k.on I λx hx=>fM;have U:=(G.mod k id dS).mod I qZ λb F e=>by grind
 have V:=p.hpk c5 id;have b7:=p.hpk D id;refine cG.at (λs W=>s=()/\W=g) ?_ ?_
 ·apply lY (bO y 0);apply ax (gB 0) g (MA M);refine cG.at (λs W=>s=(.bool false,())/\W=g) ?_ ?_
  ·apply lY (.bool false);rw[ij];apply lY (.bool false);exact tF
  ·rintro _ W ⟨rfl,rfl⟩;refine jG ?_;intro _;rw[ij];apply lY (.bool false);rw[ij];apply lY (.bool false);rw[ij];apply lY (.bool false);rw[ij];apply lY (.bool false);rw[ij];apply lY (.bool false);rw[ij];apply lY (.bool false);rw[ij];apply lY (.bool false);rw[ij];apply lY (.bool false);rw[ij];apply lY (.bool false);rw[ij];apply lY (.bool false);rw[ij];apply lY (.bool false);rw[ij];exact tF
 rintro _ W ⟨rfl,rfl⟩;refine jG ?_;intro _;refine cG.at (λs W' =>s=(.bool true,())/\M0 W W') ?_ ?_
 ·apply ax (pw r) W (by simp[go_sem,b7,pw]);refine SL U λw8 j=>?_;rw[Y2];apply lY (.bool true);rw[jV];exact⟨rfl,j⟩
 rintro _ W8 ⟨rfl,j⟩;refine jG ?_;intro _;rw[jV];apply lS af8;refine Oa (b:=kw) (j.hpk V id) λw9 T R=>?_;apply nt (HX T);exact X w9 (((Q.trans p).trans j).on R λx hx=>fM)
end Go.Proofs
set_option maxRecDepth 100000
set_option maxHeartbeats 1000000
namespace Go.Proofs
open Go Go.Vc
attribute [local congr] aZ
variable {e:Nat}{w:Wt_}{K:aY}
def S7:∀(n:Nat) (t:n<18446744073709551616) {w:Wt_} {K:aY}
  (d:∀g h,gD h 5 1 g (nh n).length (bv (nh n))->M0 w h->(∀b,aK g b->w.heap.size<=b)->K g h),Ca pQ 24 #[.int .u64 n] w K:=by
 intro n;induction n using Nat.strongRecOn with
 |_ n x=>
  intro t w K d;refine cN Tryz.func24 ?_;by_cases h1:n<128
  ·have a:(n:Int)<128:=qZ;apply tX (.bool true) a;rw[jV]
   have u:IntKind.u8.wrap (n:Int)=((UInt8.ofNat n).toNat:Int):=by
    rw[JZ qZ,jm];omega
   apply lY (gB (IntKind.u8.wrap (n:Int)));rw[u];refine Pf [UInt8.ofNat n] Ip (dp T6) rfl rfl qZ λv l j e f=>?_;rw[tB h1]at d;exact d _ _ j e λb c=>(f b c).1
  ·have a:¬(n:Int)<128:=qZ;apply tX (.bool false) a;rw[ij];apply ax (gQ ((n%128:Nat):Int)) w (by simp[go_sem];try rw[gj qZ]);apply ax (gB ((n%128:Nat):Int)) w (by simp[go_sem];rw[jm];omega);apply ax (gB ((UInt8.ofNat (n%128+128)).toNat:Int)) w (by rw[JZ qZ];simp[go_sem];rw[jm];omega);refine Pf [UInt8.ofNat (n%128+128)] Ip (dp T6) rfl rfl qZ λv l j e f=>?_;apply ax (gQ ((n / 128:Nat):Int)) l (by simp[go_sem];try rw[Iy]);refine x (n / 128) qZ qZ λE B q i C=>?_;have D:=AA (n:=n / 128) qZ;refine jJ (m:=(nh (n / 128)).length) Ip Ip (dp T6) (j.mod i dS) q.rd (In _) qZ λA z s y p=>?_;rw[<-yj]at s;rw[zC h1]at d;have r:=e.size;have o:=i.size;refine d _ _ ?_ ((e.trans i).on y λb c=>.inr (f b c).1) λb c=>?_
   ·grind
   ·rcases p b c with k|k
    ·exact(f b k).1
    ·omega
def NK(q:0<e/\e<=999)(k:∀s c,gD c 5 1 s (nh e).length (bv (nh e))->M0 w c->(∀b,aK s b->w.heap.size<=b)->K s c):
  Ca pQ 46 #[wT (iZ e) dQ dQ dQ] w K:=by
 refine cN Tryz.func46 ?_;obtain⟨g,n,a,i⟩:=Kn (iZ e) dQ dQ dQ w;apply bh n;obtain⟨p,d⟩:=df w.heap.size;rw[<-d]at a|-;apply lY (bO p 0);apply ax (gI e) g (by simp[go_sem,a,CL,iZ]);apply ax (gQ e) g (by simp[go_sem];rw[Iy]);refine S7 e qZ λs f l h o=>?_;have m:=h.hpk a id;apply lY (bO p 0);apply ax (gI e) f (by simp[go_sem,m,CL,iZ]);apply ax (.bool true) f (by simp[go_sem];omega);rw[jV];exact k s f l (i.trans h) λb j=>by have:=o b j;have:=i.size;omega
def SD{e:Int}(f:∀b,M0 w b->K (.bool true) b):Ca pQ 194 #[wT (iZ e) dQ dQ dQ] w K:=by
 refine cN Tryz.func194 ?_;obtain⟨c,d,a,g⟩:=Kn (iZ e) dQ dQ dQ w;apply bh d;generalize w.heap.size=p at a|-;simp[go_sem,a,CL,iZ,jw,dQ];exact f c g
def Sq(k:0<e/\e<=999)(h:∀g,M0 w g->K (.bool true) g):Ca pQ 121 #[wT (iZ e) dQ dQ dQ] w K:=by
 refine cN Tryz.func121 ?_;obtain⟨a,j,c,i⟩:=Kn (iZ e) dQ dQ dQ w;apply bh j;generalize w.heap.size=p at c|-;refine cG.at (λs W=>s=(.bool false,())/\M0 w W/\hC W p (CL (iZ e) dQ dQ dQ).toArray qL) ?_ ?_
 ·have lf:(iF qL (bO p 0) 0).run pQ a=.ok (bO p 0) a:=by simp[go_sem]
  have d:(iL 29 (bO p 0)).run pQ a=.ok (gI e) a:=by simp[go_sem,c,CL,iZ]
  refine bh lf (bh d ?_);apply lY (.bool false);rw[ij];refine bh lf (bh d ?_);apply ax (.bool false) a (by simp[go_sem];omega);rw[ij];refine bh lf (bh d ?_);apply ax (.bool true) a (by simp[go_sem];omega);rw[jV];apply bh (SP c);refine SD λl f=>?_;apply lY (.bool false);exact⟨rfl,i.trans f,f.hpk c id⟩
 rintro _ W ⟨rfl,M,b⟩;refine jG ?_;intro _;rw[ij];simp[go_sem,b,CL,iZ,jw,dQ];exact h W M
def N0(B:0<e/\e<=999)(x:∀s g,gD g 5 1 s (nh e).length (bv (nh e))->M0 w g->(∀b,aK s b->w.heap.size<=b)->K (.tuple #[s,gI 0]) g):
  Ca pQ 44 #[wT (iZ e) dQ dQ dQ] w K:=by
 refine cN Tryz.func44 ?_;obtain⟨C,A,d,q⟩:=Kn (iZ e) dQ dQ dQ w;apply bh A;obtain⟨p,i⟩:=df w.heap.size;rw[<-i]at d|-;apply bh (SP d);refine Sq B λj f=>?_;have o:=f.hpk d id;apply lY (.bool false);rw[ij];apply lY (bO p 0);apply ax (gI e) j (by simp[go_sem,o,CL,iZ]);apply ax (gQ e) j (by simp[go_sem];rw[Iy]);refine Tu (l:=[]) (k:=0) (n:=e) (gD.nil _ _ _) qZ qZ λs c m r u=>?_;have a:M0 j c:=r.mono λy _ z=>by cases z
 have v:=a.hpk o id;apply lY (bO p 0);apply ax (gI e) c (by simp[go_sem,v,CL,iZ]);apply ax (.bool true) c (by simp[go_sem];omega);rw[jV];rw[cM,eX]at m
 exact x s c m ((q.trans f).trans a) λb t=>by
  rcases u b t with h|h
  ·cases h
  ·have:=(q.trans f).size;omega
end Go.Proofs
set_option maxRecDepth 100000
set_option maxHeartbeats 1000000
namespace Go.Proofs
open Go Go.Vc
attribute [local congr] aZ
def U5:Tryz.prog.underlying 9=some .string:=cy
def uU8:Tryz.prog.underlying 5=some (.int .u8):=cy
def WQ(x y:List UInt8)(w:Wt_):(gx .eql 9 false (.string (rr x)) (.string (rr y))).run pQ w=.ok (.bool (decide (x=y))) w:=by
 simp[go_sem];by_cases h:x=y<;>simp[h]
def S5{w:Wt_}{K:aY}{v:Nat}{F:NP_}{S:bo}{s:Vt_}(h:oP w v F S)(hs:Rd w 1 s 1 (bv [99]))
  (P:∀f i,gD i 5 1 f (nh 160).length (bv (nh 160))->M0 w i->(∀b,aK f b->w.heap.size<=b)->K f i):Ca pQ 13 #[dL v,s] w K:=by
 unfold dL;refine cN Tryz.func13 ?_;refine Cl λm x=>?_;obtain⟨w2,R,B,H⟩:=UM m;apply bh R;obtain⟨p,k⟩:=df m.heap.size;rw[<-k]at B|-;obtain⟨o,Z,L,I⟩:=VU (r:=iZ 1) (sT:=dQ) (sG:=dQ) (sA:=dQ) B rfl ⟨rO,rO,rO⟩;apply gg Z;have hwp:w.heap.size<=p:=by have:=x.size;omega
 have j:M0 w o:=(x.trans H).on I λy g=>fM;refine cG.at (λ_ W=>M0 w W/\hC W p (CL (iZ 160) dQ dQ dQ).toArray qL) ?_ ?_
 ·have Y:=h.md0 j;obtain⟨c,l,mb,md,A,D,fp,V,hF⟩:=Y;apply CE V.blk;rw[jV];refine LM (hs.mod j dS) λd C=>?_;apply lY (vg kw);apply lY (gI 5);apply nE TM;rw[Ae];obtain⟨z,t⟩:=df d.heap.size;have u:M0 d (d.alloc (.cells (jO kw).toArray lZ)):=kU;have n:dX (d.alloc (.cells (jO kw).toArray lZ)) z kw:=by show hp _ _=_;rw[t];simp[go_sem]
  rw[<-t];generalize d.alloc (.cells (jO kw).toArray lZ)=w5 at u n|-;refine Oa (b:=kw) n λJ b6 G=>?_;have T:M0 o J:=(C.trans u).on G λy g=>.inr (by have:=C.size;omega);refine Cl λw7 U=>?_;have q:=T.trans U;obtain⟨w8,X,b8,O⟩:=VU (r:=iZ 160) (sT:=dQ) (sG:=dQ) (sA:=dQ) (q.hpk L id) rfl ⟨rO,rO,rO⟩;apply gg X;apply lY (.bool false);rw[ij];exact⟨(j.trans q).on O λy g=>fM,b8⟩
 rintro _ W ⟨M,b⟩;refine jG ?_;intro _;apply bh (SP b);refine N0 (e:=160) (by decide) λf w9 E N Q=>?_;obtain⟨a,c,rfl⟩:=E.rd.isSl;apply lY (.slice a (nh 160).length c);apply lY (gI 0);exact P _ w9 E (M.trans N) λy g=>by have:=Q y g;have:=M.size;omega
def QZ{w:Wt_}{K:aY}(p:∀c,M0 w c->K (.bool true) c):Ca pQ 14 #[] w K:=by
 refine MB λv F B o b g j=>?_;refine KT o b λm k z l x=>?_
 have C:∀y,m y->w.heap.size<=y:=λy a=>by
  rcases x y a with h|h
  ·exact j y h
  ·have:=g.size;omega
 have t:M0 w k:=g.on l λy a=>.inr (j y a);apply bQ (λW=>Zp 160 W);show rx pQ (pN tBs 1 [(0,gB (((99:UInt8).toNat:Nat):Int))]) k _;refine Pf [99] Ip (dp T6) rfl rfl qZ λs G r d H=>?_;refine S5 (z.md0 d) r.rd λD A i u I=>?_;apply CV Ip uU8 U5 i.rd;refine NK (e:=160) (by decide) λJ q n f E=>?_;refine⟨CH Ip uU8 U5 (i.mod f dS).rd,?_⟩;apply CV Ip uU8 U5 n.rd;apply bQ (λW=>WQ _ _ W);rw[aQ rfl];exact p q (((t.trans d).trans u).trans f)
end Go.Proofs
namespace Go.Proofs
open Go Go.Vc
attribute [local congr] aZ
section
variable{w:Wt_}{b lo:Nat}{d nx fu:Int}{ss:Nat->Value}{A:List Ac}{C:List Ct}{P:List Po}{O B:List (Int×Od)}
end
def FO{T e:TypeId}(f:Tryz.prog.underlying T=some (.slice e))(a:Option Addr)(n:Nat)(c:Nat)(W:Wt_):(builtin .len #[T] 3 #[false] #[.slice a n c]).run pQ W=.ok (.value (gI (n:Int))) W:=by simp[go_sem,f]
def ZQ(a b:Nat)(W:Wt_):(gx .lss 3 false (gI (a:Int)) (gI (b:Int))).run pQ W=.ok (.bool (decide (a<b))) W:=by simp[go_sem]
def Tg{i:Nat}(h:i<1000000)(W:Wt_):(gx .add 3 true (gI (i:Int)) (gI 1)).run pQ W=.ok (gI ((i+1:Nat):Int)) W:=by
 simp[go_sem];rw[fI qZ qZ]
end Go.Proofs
namespace Go.Proofs.YtekbnpagidkbbaaGreat
open Go Go.Vc Go.Proofs Go.ChangeShapes Go.WideShapes Go.ChangeAt Go.RowKit
variable {n:Int}{c:List Value}{H:Type}{w:World}
def own:ownKnob Tryz.prog.godebug=none:=cy
def laidOut:laidOutB Tryz.prog=true:=cy
def list_choose{α β:Type}{f:β->α}{Q:β->Prop}:∀{L:List α},(∀c∈L,∃o,c=f o/\Q o)->∃l:List β,L=l.map f/\∀o∈l,Q o
 | [],_=>⟨[],rfl,by simp⟩
 |c::L,h=>by
  obtain⟨o,rfl,b⟩:=h c List.mem_cons_self;obtain⟨l,rfl,d⟩:=list_choose λc a=>h c (List.mem_cons_of_mem _ a);exact⟨o::l,rfl,λx e=>by grind⟩
def wfR(h:(Lit.int .i64 n).wf=true):eP n:=by
 simp[Lit.wf,IntKind.min,IntKind.max,IntKind.signed,IntKind.bits]at h;exact⟨qZ,qZ⟩
def wfU(h:(Lit.int .u32 n).wf=true):kV n:=by
 simp[Lit.wf,IntKind.min,IntKind.max,IntKind.signed,IntKind.bits]at h;exact⟨qZ,qZ⟩
def wfQ(h:(Lit.int .u64 n).wf=true):OY n:=by
 simp[Lit.wf,IntKind.min,IntKind.max,IntKind.signed,IntKind.bits]at h;exact⟨qZ,qZ⟩
def wf8(h:(Lit.int .u8 n).wf=true):0<=n/\n<256:=by
 simp[Lit.wf,IntKind.min,IntKind.max,IntKind.signed,IntKind.bits]at h;exact⟨qZ,qZ⟩
section
variable{H:Type}{enc:TypeId×Value->H}{w:World}{c:List Value}{fs:Array Field}
def Flds(enc:TypeId×Value->H)(w:World)(c:List Value)(fs:Array Field):Prop:=
 ∀f∈fs.toList,∃f' y,DataW.trod enc Tryz.prog w 0 (λ_=>true) true f' f.type ((c.drop f.offset).take (Tryz.prog.cellsOf f.type))=some y/\Wt Tryz.prog reachBytes f.type y.1
def Flds.int(h:Flds enc w c fs)(i:Nat){f:Field}(b:fs.toList[i]? =some f){k:IntKind}(d:Tryz.prog.underlying f.type=some (.int k))(g:Tryz.prog.cellsOf f.type=1):∃n,c.drop f.offset=.int k n::c.drop (f.offset+1)/\(Lit.int k n).wf=true:=by
 obtain⟨j,y,h1,-⟩:=h f (List.mem_of_getElem? b);rw[g]at h1;obtain⟨n,e,-,a⟩:=DataW.trod_int d h1;refine⟨n,?_,a⟩;rw[<-List.take_append_drop 1 (c.drop f.offset),e,List.drop_drop];rfl
def Flds.bool(h:Flds enc w c fs)(i:Nat){f:Field}(a:fs.toList[i]? =some f)(b:Tryz.prog.underlying f.type=some .bool)(d:Tryz.prog.cellsOf f.type=1):∃n,c.drop f.offset=.bool n::c.drop (f.offset+1):=by
 obtain⟨g,y,h1,-⟩:=h f (List.mem_of_getElem? a);rw[d]at h1;obtain⟨n,e,-⟩:=DataW.trod_bool b h1;refine⟨n,?_⟩;rw[<-List.take_append_drop 1 (c.drop f.offset),e,List.drop_drop];rfl
end
def drop_at{o n:Nat}{x:List Value}(h:(c.drop o).take n=x):c.drop o=x++c.drop (o+n):=by
 rw[<-h,<-List.drop_drop,List.take_append_drop]
def open_sp{enc:TypeId×Value->H}{f:Nat}{y:DataW H×List MemPlace}(hl:c.length=25)(h:DataW.trod enc Tryz.prog w 0 (λ_=>true) true f 48 c=some y)(hB:Wt Tryz.prog reachBytes 48 y.1):
  ∃o,c=fC o/\o.Fit:=by
 have a:Flds enc w c _:=CW Tryz.underlying48 h hB;obtain⟨W,v,w0⟩:=a.int 0 rfl (k:=.u32) cy cy;obtain⟨n1,E,J⟩:=a.int 1 rfl (k:=.u8) cy cy;obtain⟨n2,C,w2⟩:=a.int 2 rfl (k:=.i64) cy cy;obtain⟨O,F,N⟩:=a.int 3 rfl (k:=.i64) cy cy;obtain⟨R,G,I⟩:=a.int 4 rfl (k:=.i64) cy cy;obtain⟨M,z,U⟩:=a.int 5 rfl (k:=.i64) cy cy;obtain⟨f6,y6,t,-⟩:=a _ (List.mem_of_getElem? (i:=6) rfl);obtain⟨n7,A,S⟩:=a.int 7 rfl (k:=.i64) cy cy;obtain⟨n8,D,w8⟩:=a.int 8 rfl (k:=.u32) cy cy;obtain⟨V,B,w9⟩:=a.int 9 rfl (k:=.i64) cy cy;simp only at v E C F G z A D B t;have b:Tryz.prog.cellsOf 46=16:=cy;have Y:Tryz.prog.cellsOf 2=1:=cy;rw[b]at t;obtain⟨xs,m,-,-,u,K,g⟩:=DataW.trod_array Tryz.underlying46 t;rw[b]at u;rw[Y]at g
 obtain⟨L,X,P⟩:=list_choose (L:=(c.drop 6).take 16) (f:=λn:Int=>Value.int .i64 n) (Q:=eP) λx s=>by
  obtain⟨i,r⟩:=List.getElem?_of_mem s;have d:=(List.getElem?_eq_some_iff.1 r).1;have h1:=g i qZ;rw[Nat.mul_one,List.getElem?_eq_getElem (l:=xs) qZ]at h1;obtain⟨n,e,-,Z⟩:=DataW.trod_int Tryz.underlying2 h1;refine⟨n,?_,wfR Z⟩;rw[List.drop_eq_getElem_cons d,List.take_succ_cons,List.take_zero]at e;rw[List.getElem?_eq_getElem d]at r;exact(Option.some.inj r).symm.trans (List.cons.inj e).1
 have j:L.length=16:=by grind
 refine⟨⟨W,n1,n2,O,R,M,⟨L.toArray,by simpa using j⟩,n7,n8,V⟩,?_,wfU w0,wf8 J,wfR w2,wfR N,wfR I,wfR U,λx g=>P x (by simpa using g),wfR S,wfU w8,wfR w9⟩;have T:=drop_at X;have q:c.drop 25=[]:=List.drop_eq_nil_of_le qZ;have p:c=c.drop 0:=rfl;rw[p,v,E,C,F,G,z,T,A,D,B,q];rfl
def open_cm{enc:TypeId×Value->H}{f:Nat}{y:DataW H×List MemPlace}(W:c.length=35)(h:DataW.trod enc Tryz.prog w 0 (λ_=>true) true f 51 c=some y)(S:Wt Tryz.prog reachBytes 51 y.1):
  ∃o,c=jO o/\o.Fit:=by
 have a:Flds enc w c _:=CW Tryz.underlying51 h S;obtain⟨J,p,M⟩:=a.int 0 rfl (k:=.u8) cy cy;obtain⟨Q,x,C⟩:=a.int 1 rfl (k:=.u32) cy cy;obtain⟨U,u,T⟩:=a.int 2 rfl (k:=.u32) cy cy;obtain⟨F,z,E⟩:=a.int 3 rfl (k:=.u64) cy cy;obtain⟨G,A,B⟩:=a.int 4 rfl (k:=.i64) cy cy;obtain⟨X,V,j,q⟩:=a _ (List.mem_of_getElem? (i:=5) rfl);obtain⟨K,t⟩:=a.bool 6 rfl cy cy;obtain⟨L,r⟩:=a.bool 7 rfl cy cy;obtain⟨O,v,P⟩:=a.int 8 rfl (k:=.u8) cy cy;obtain⟨I,s,R⟩:=a.int 9 rfl (k:=.i64) cy cy;obtain⟨g,b,n⟩:=a.int 10 rfl (k:=.i64) cy cy;simp only at p x u z A t r v s b j q;have m:Tryz.prog.cellsOf 48=25:=cy;rw[m]at j;obtain⟨sp,N,d⟩:=open_sp (by grind) j q;refine⟨⟨J,Q,U,F,G,sp,K,L,O,I,g⟩,?_,wf8 M,wfU C,wfU T,wfQ E,wfR B,d,wf8 P,wfR R,wfR n⟩;have D:=drop_at N;have e:c.drop 35=[]:=List.drop_eq_nil_of_le qZ;have l:c=c.drop 0:=rfl;rw[l,p,x,u,z,A,D,t,r,v,s,b,e];rfl
set_option maxRecDepth 100000 in
def open_cms{enc:TypeId×Value->H}{v0:Value}{j:DataW H}{p:List MemPlace}{d:Nat}(a:Value.okWide Tryz.prog w .any d 36 v0)(g:∃b,DataW.trod enc Tryz.prog w 0 (λ_=>true) true b 36 v0.cells.toList=some (j,p))
  (q:Wt Tryz.prog reachBytes 36 j):∃l:List Cm,Rd w 35 v0 l.length (l.flatMap jO)/\∀x∈l,x.Fit:=by
 have h:v0.cells.toList=[v0]:=by
  unfold Value.okWide at a;rw[Tryz.underlying36]at a;simp only[Cell.okWide,Tryz.underlying36]at a;unfold Cell.ok at a;rw[Tryz.underlying36]at a;cases v0<;>first|rfl|exact a.elim
 obtain⟨b,g⟩:=g;rw[h]at g;obtain⟨v,e,L,k,-,n⟩:=Tm (sz:=35) Tryz.underlying36 cy qZ g q;cases e
 obtain⟨l,rfl,i⟩:=list_choose (f:=jO) (Q:=Cm.Fit) λc r=>by
  obtain⟨h1,s,y,m,o⟩:=n c r;exact open_cm h1 m o
 rw[List.length_map,<-List.flatMap_def]at k;exact⟨l,k,i⟩
end Go.Proofs.YtekbnpagidkbbaaGreat
set_option maxRecDepth 100000
set_option maxHeartbeats 1000000
namespace Go.Proofs
open Go Go.Vc
section
variable{P:Program}{L M:List As}{k:Value->WP}{s:Vt_}{t T:TypeId}{α:Type}{f:α->List Value}{vf:α->Value}{sz i n:Nat}{l:List α}
def Gs.itP(v:P.underlying t=some (.slice T))(A:P.cellsOf T=sz+1)(q:∀x,(f x).length=sz+1)(d:∀x w b a,At w b a (f x)->(iL T (bO b a)).run P w=.ok (vf x) w)
  (z:∀w,Ss w L->Rd w (sz+1) s n (l.flatMap f))(h:n=l.length)(hi:i<l.length)(j:Gs L (k (vf l[i]))):Gs L (Pw P (iX t s (gI (i:Int))) λp=>Ww P (iL T p) k):=⟨λw y=>by
 obtain⟨b,a,m,c,e,o⟩:=(z w y).item q hi h;refine cT (bO b (a+i*(sz+1))) (λW=>by rw[c];subst h;simp[go_sem,hi,bD,v,Go.Vc.kZ A,Result.andThen]) (cK (d _ w _ _ o) (j.go w y))⟩
end
def ad1(x:Td)(w:Wt_):(gx .neq YL false (Xi x) (Xi x)).run pQ w=.ok (.bool false) w:=by simp[go_sem,Xi,Di]
def ZK:Tryz.prog.cellsOf 37=0+1:=cy
def YZ:Tryz.prog.cellsOf 45=0+1:=cy
def Uj(x:Int)(w:Wt_)(b off:Nat)(h:At w b off (ua x)):(iL 37 (bO b off)).run pQ w=.ok (gQ x) w:=by
 obtain⟨C,e,d,hC,c⟩:=h.get;have a:=c 0 (gQ x) rfl;simp only[cx]at a;simp[go_sem,bT hC,a]
def Ui(x:Int)(w:Wt_)(b off:Nat)(h:At w b off (yO x)):(iL 45 (bO b off)).run pQ w=.ok (gU x) w:=by
 obtain⟨C,e,d,hC,c⟩:=h.get;have a:=c 0 (gU x) rfl;simp only[cx]at a;simp[go_sem,bT hC,a]
section
variable{L L0 M:List As}{K:Value->WP}{r:Rp}{t g u t' g' u' :Option Addr×Nat}
set_option maxHeartbeats 2000000 in
def MZ(o:Z5 r)(c:Gs L0 (K (.bool true)))(pk:dV L0 (Ak (ej t r.trades.length) r.trades::sB (ej g r.gone.length) r.gone::yT (ej u r.accts.length) r.accts::Ak (ej t' r.trades.length) r.trades::sB (ej g' r.gone.length) r.gone::yT (ej u' r.accts.length) r.accts::L):=by repeat first|(with_reducible exact dV.refl)|((apply nL);(·repeat first|(with_reducible exact eg)|(with_reducible apply ee)))):
  Gs L0 (Cw pQ 18 #[wT r (ej t r.trades.length) (ej g r.gone.length) (ej u r.accts.length),wT r (ej t' r.trades.length) (ej g' r.gone.length) (ej u' r.accts.length)] K):=by
 refine Gs.pk ?_ pk;replace c:=Gs.pk c pk.symm;obtain⟨m,B,z⟩:=o;obtain⟨e,n,f,l,T,G,U⟩:=r
 dsimp only at m B z c|-
 refine sN Tryz.func18 ?_;refine au ?_;intro p;refine au ?_;intro q;refine au ?_;refine Gs.j1 (.bool false,()) (λJ A=>?_) ?_
 ·refine au ?_;exact A
 refine Gs.z (au ?_);refine Gs.l (λi:Nat=>(.bool false,gI i,())) (T.length - ·) (λ_=>pt q (BF e n f l (ej t' T.length) (ej g' G.length) (ej u' U.length)) qL::pt p (BF e n f l (ej t T.length) (ej g G.length) (ej u U.length)) qL::Ak (ej t T.length) T::sB (ej g G.length) G::yT (ej u U.length) U::Ak (ej t' T.length) T::sB (ej g' G.length) G::yT (ej u' U.length) U::L) (·<=T.length) 0 rfl (aJ _) ?_ .refl;intro i j d b
 dsimp only
 refine Gs.z (au ?_);refine Gs.I (λh=>?_) λh=>?_
 ·have a:i<T.length:=qZ;refine au ?_;refine Gs.itP (f:=Di) FK nTd Em QO (λw y=>mO (s:=ej t T.length) (by repeat first|(with_reducible exact eg)|(with_reducible apply ee)) w y) rfl a ?_;refine au ?_;refine Gs.itP (f:=Di) FK nTd Em QO (λw y=>mO (s:=ej t' T.length) (by repeat first|(with_reducible exact eg)|(with_reducible apply ee)) w y) rfl a ?_;generalize T[i]=x;refine Gs.Pu (v:=.bool false) (λw=>ad1 x w) ?_;refine au ?_;exact b (i+1) a qZ
 obtain rfl:i=T.length:=qZ;clear b;refine Gs.l (λi:Nat=>(.bool false,gI i,())) (G.length - ·) (λ_=>pt q (BF e n f l (ej t' T.length) (ej g' G.length) (ej u' U.length)) qL::pt p (BF e n f l (ej t T.length) (ej g G.length) (ej u U.length)) qL::Ak (ej t T.length) T::sB (ej g G.length) G::yT (ej u U.length) U::Ak (ej t' T.length) T::sB (ej g' G.length) G::yT (ej u' U.length) U::L) (·<=G.length) 0 rfl (aJ _) ?_ .refl;intro i j d b
 dsimp only
 refine Gs.z (au ?_);refine Gs.I (λh=>?_) λh=>?_
 ·have a:i<G.length:=qZ;refine au ?_;refine Gs.itP (f:=ua) wS ZK (λ_=>rfl) Uj (λw y=>mO (s:=ej g G.length) (by repeat first|(with_reducible exact eg)|(with_reducible apply ee)) w y) rfl a ?_;refine au ?_;refine Gs.itP (f:=ua) wS ZK (λ_=>rfl) Uj (λw y=>mO (s:=ej g' G.length) (by repeat first|(with_reducible exact eg)|(with_reducible apply ee)) w y) rfl a ?_;refine au ?_;exact b (i+1) a qZ
 obtain rfl:i=G.length:=qZ;clear b;refine Gs.l (λi:Nat=>(.bool false,gI i,())) (U.length - ·) (λ_=>pt q (BF e n f l (ej t' T.length) (ej g' G.length) (ej u' U.length)) qL::pt p (BF e n f l (ej t T.length) (ej g G.length) (ej u U.length)) qL::Ak (ej t T.length) T::sB (ej g G.length) G::yT (ej u U.length) U::Ak (ej t' T.length) T::sB (ej g' G.length) G::yT (ej u' U.length) U::L) (·<=U.length) 0 rfl (aJ _) ?_ .refl;intro i j d b
 dsimp only
 refine Gs.z (au ?_);refine Gs.I (λh=>?_) λh=>?_
 ·have a:i<U.length:=qZ;refine au ?_;refine Gs.itP (f:=yO) Ik YZ (λ_=>rfl) Ui (λw y=>mO (s:=ej u U.length) (by repeat first|(with_reducible exact eg)|(with_reducible apply ee)) w y) rfl a ?_;refine au ?_;refine Gs.itP (f:=yO) Ik YZ (λ_=>rfl) Ui (λw y=>mO (s:=ej u' U.length) (by repeat first|(with_reducible exact eg)|(with_reducible apply ee)) w y) rfl a ?_;refine au ?_;exact b (i+1) a qZ
 exact c.fin
end
end Go.Proofs
