/- Part of a proof. -/
import Derived.Test.YtgebhcgmckjbbaaGreatB27
set_option linter.all false
namespace Go.Proofs
open Go Go.Vc
end Go.Proofs
namespace Go.Proofs
open Go Go.Vc
attribute [local congr] cr
section
variable{w:World}{K:cm}{v:Value}{l:List UInt8}
def Ni(d nx g:Int)(ss:Nat->Value)(W:World)(h:∀i,3<=i->i<=7->∃a n c,ss i=.slice a n c):∃e b,(Instr.alloc lY true (.tuple #[])).run Tryz.prog W=.ok (.pointer (some ⟨W.heap.size,0,none⟩)) e/\(Instr.storeAt lY (.pointer (some ⟨W.heap.size,0,none⟩)) (oJ d nx g ss)).run Tryz.prog e=.ok () b/\cR b W.heap.size d nx g ss/\cl (λ_=>False) W b:=by
 obtain⟨e,q,j,p⟩:=kV W;obtain⟨b,m,o,k⟩:=uH (d:=d) (n:=nx) (f:=g) (ss:=ss) j rfl h;exact⟨e,b,q,m,o,p.on k λy r=>.inr (by omega)⟩
attribute [local irreducible] jq en kF lu
end
section
variable{w:World}{K:cm}{s:iq}{ss:Nat->Value}
def B8(h:eS w ss s)(n:s.Fit)(o:s.accts.length<=100000/\s.cts.length<=100000/\s.poss.length<=1024/\s.ords.length<=100000/\s.bids.length<=100000)(d:fZ s=none)
  (m:∀a,cl (λ_=>False) w a->K (.tuple #[cF,.int .i64 2]) a):Ca Tryz.prog 24 #[oJ s.day s.next s.fund ss] w K:=by
 have b:=h.sl;apply Of;obtain⟨q,k,g,i⟩:=js s.day s.next s.fund ss w;obtain⟨sb,f⟩:∃p,p=w.heap.size:=⟨_,rfl⟩
 rw[<-f]at k g;refine ck k (ck (jU g b) ?_);refine qK (s:=s) (h.md0 i) n o λx e c l j=>?_;rw[d]at j;obtain⟨rfl,rfl⟩:=j;refine ck (v:=.pointer none) (w' :=c) (by simp[go_sem]) (ck (v:=.int .i64 2) (w' :=c) (by simp[go_sem]) ?_);refine ck (v:=.bool true) (w' :=c) (by simp[go_sem]) ?_;rw[ci,if_pos rfl];exact m c (i.trans l)
def F0(h:DX s=false):s.accts.length<=100/\s.cts.length<=100/\s.poss.length<=300/\s.ords.length<=300/\s.bids.length<=300:=by
 unfold DX at h;simp only[Bool.or_eq_false_iff,decide_eq_false_iff_not]at h;omega
def Iu(b:s.Fit)(c:s.accts.length<=3200/\s.cts.length<=3200/\s.poss.length<=3200/\s.ords.length<=3200/\s.bids.length<=3200):(kF s).length<=1000000000:=by
 have h:=dw s.day (by have:=b.day.2;omega);have f:=dw s.next (by have:=b.next.2;omega);have j:=fS b.fund;have l:=mf (g:=qQ) (λx a=>zO (b.accts x a)) c.1;have i:=mf (g:=qD) (λx a=>AR (b.cts x a)) c.2.1;have d:=mf (g:=pM) (λx a=>zG (b.poss x a)) c.2.2.1;have e:=mf (g:=jl) (λx a=>nu (b.ords x a)) c.2.2.2.1;have k:=mf (g:=jl) (λx a=>nu (b.bids x a)) c.2.2.2.2;unfold kF;simp only[List.length_append];omega
attribute [local irreducible] kF lu
set_option maxRecDepth 10000 in
set_option maxHeartbeats 4000000 in
def uN(h:eS w ss s)(j:s.Fit)(Y:∀c,cl (λ_=>False) w c->K (.bool true) c):Ca Tryz.prog 7 #[oJ s.day s.next s.fund ss] w K:=by
 have a:=h.sl;apply Sw;obtain⟨w1,e1,N,m1⟩:=js s.day s.next s.fund ss w;obtain⟨sb,Q⟩:∃p,p=w.heap.size:=⟨_,rfl⟩
 rw[<-Q]at e1 N;refine ck e1 (ck (jU N a) ?_);refine CN (h.md0 m1) λw2 m2=>?_;have T:=m1.trans m2;cases P:DX s with
 |true=>
  rw[ci,if_pos rfl];exact py λc m=>Y c (T.trans m)
 |false=>
 rw[ci,if_neg Bool.false_ne_true];obtain⟨l1,l2,l3,l4,l5⟩:=F0 P;have k:s.accts.length<=100000/\s.cts.length<=100000/\s.poss.length<=100000/\s.ords.length<=100000/\s.bids.length<=100000:=⟨by omega,by omega,by omega,by omega,by omega⟩
 have J:=m2.hpk N id;refine ck (jU J a) ?_;refine DR (h.md0 T) k λtt w3 q F=>?_;obtain⟨w4,w5,e4,e5,t5,y⟩:=Ni s.day s.next s.fund tt w3 q.sl;refine ck e4 (dI e5 (ck (jU t5 q.sl) ?_));have G:=(T.trans F).trans y;have i:=q.md0 y;have hD:(∃S,fZ s=some S)↔Hn s:=⟨λ⟨S,h⟩=>Lk j h,λh=>Lr j h⟩
 cases d:fZ s with
 |none=>
  have hnd:¬Hn s:=λh=>by
   obtain⟨S,e⟩:=hD.2 h;rw[d]at e;cases e
  refine B8 i j ⟨by omega,by omega,by omega,by omega,by omega⟩ d λA f=>?_;refine ck (v:=cF) (w' :=A) (by simp[go_sem]) (ck (v:=.int .i64 2) (w' :=A) (by simp[go_sem]) ?_);have z:=((F.trans y).trans f).hpk J id;refine ck (jU z a) ?_;refine ub (h.md0 (G.trans f)) j (by omega) (by omega) (by omega) (λW=>absurd W hnd) λ_ t g=>?_;refine ck (v:=.pointer none) (w' :=t) (by simp[go_sem]) (ck (v:=.int .i64 2) (w' :=t) (by simp[go_sem]) ?_);have u:=(G.trans f).trans g;refine ck (jU ((f.trans g).hpk t5 id) q.sl) (ck (jU (g.hpk z id) a) ?_);refine qP (i.md0 (f.trans g)) (h.md0 u) k λb n E L=>?_;rw[L.2 rfl];refine ck (v:=.bool false) (w' :=n) (by simp[go_sem]) ?_;rw[ci,if_neg Bool.false_ne_true];refine ck (v:=.bool true) (w' :=n) (by simp[go_sem]) ?_;rw[ci,if_pos rfl];refine fi (v:=.int .i64 0) (w' :=n) (by simp[go_sem,cF]) (ck (v:=.bool true) (w' :=n) (by simp[go_sem]) ?_);rw[ci,if_pos rfl];refine ck (v:=.bool true) (w' :=n) (by simp[go_sem]) ?_;rw[ci,if_pos rfl];exact py λc m=>Y c ((u.trans E).trans m)
 |some S=>
  have W:Hn s:=hD.1 ⟨S,d⟩;obtain⟨g1,g2,g3⟩:=vU d;refine EV i j ⟨g1,g2,by omega,by omega,by omega⟩ d λsB A oB f=>?_;refine ck (v:=sB) (w' :=A) (by simp[go_sem]) (ck (v:=.int .i64 0) (w' :=A) (by simp[go_sem]) ?_);have z:=((F.trans y).trans f).hpk J id;refine ck (jU z a) ?_;refine ub (h.md0 (G.trans f)) j (by omega) (by omega) (by omega) (λ_ x t g=>?_) λhn=>absurd W hn;refine ck (v:=x) (w' :=t) (by simp[go_sem]) (ck (v:=.int .i64 0) (w' :=t) (by simp[go_sem]) ?_);have u:=(G.trans f).trans g;refine ck (jU ((f.trans g).hpk t5 id) q.sl) (ck (jU (g.hpk z id) a) ?_);refine qP (i.md0 (f.trans g)) (h.md0 u) k λb n E L=>?_;rw[L.2 rfl];refine ck (v:=.bool false) (w' :=n) (by simp[go_sem]) ?_;rw[ci,if_neg Bool.false_ne_true];refine ck (v:=.bool false) (w' :=n) (by simp[go_sem]) ?_;rw[ci,if_neg Bool.false_ne_true];have M8:=u.trans E;have o8:=oB.mod (g.trans E) λ_ _ h=>h;have M:(kF s).length<=1000000000:=Iu j ⟨by omega,by omega,by omega,by omega,by omega⟩;have C:=zL j ⟨by omega,by omega,by omega⟩ d;refine xX o8.rd M (λs' S' Z B D R I=>?_) λB D I=>by rw[C]at D;cases D
  rw[C]at D;cases D;refine ck (v:=Io s Z) (w' :=B) (by simp[go_sem]) (ck (v:=.int .i64 0) (w' :=B) (by simp[go_sem]) ?_);obtain⟨wa,H,ea,eb,bb,mb⟩:=Ni s.day s.next s.fund Z B R.sl;refine ck ea (dI eb ?_);refine cq (v:=.bool true) (λ_=>by simp[go_sem]) ?_;rw[ci,if_pos rfl];refine cq (v:=.bool true) (λ_=>by simp[go_sem]) ?_;rw[ci,if_pos rfl];have md:=mb.trans (cl.refl (λ_=>False) H).drew;have bV:cR H.drew B.heap.size s.day s.next s.fund Z:=((cl.refl (λ_=>False) H).drew).hpk bb id;generalize H.drew=V at md bV|-;have oV:=o8.mod (I.trans md) λ_ _ h=>h;have U:=(M8.trans I).trans md;have sV:=(((f.trans g).trans E).trans (I.trans md)).hpk ((F.trans y).hpk J id) id;refine vW (l:=kF s) rT LU Eg oV.rd ?_;refine cx (jU sV a) ?_;refine B7 (h.md0 U) j ⟨by omega,by omega,by omega,by omega,by omega⟩ g3 λs' wc r=>?_;have o:cl (λ_=>False) V wc:=r.md.mono λ_ _ h=>by cases h
  refine⟨rk rT LU Eg (oV.mod o λ_ _ h=>h).rd,?_⟩;refine vW (l:=kF s) rT LU Eg r.own.rd ?_;refine cq (v:=.bool (decide (kF s=kF s))) (Hs _ _) ?_;rw[ci,if_pos (by simp)];refine cx (jU (o.hpk bV id) R.sl) (cx (jU (o.hpk sV id) a) ?_);refine qP (R.md0 (md.trans o)) (h.md0 (U.trans o)) k λbo wd X O=>?_;rw[O.2 rfl,ci,if_pos rfl];exact py λc m=>Y c (((U.trans o).trans X).trans m)
end
end Go.Proofs
namespace Go.Proofs.YtgebhcgmckjbbaaGreat.imageBytes
open Go Go.Vc Go.Proofs Go.ChangeShapes Go.WideShapes Go.ChangeAt Go.RowKit
set_option maxRecDepth 100000 in
def lifted(os:Os)(b:os.Started)(H:Type)(enc:TypeId×Value->H):
  ReturnsInHanded {} Tryz.checked os 7 .any (Rows.imageBytesSpec.pre6 enc Tryz.prog Tryz.f7 Rows.imageBytesRow.domain false) (Rows.imageBytesSpec.post enc Tryz.prog Tryz.f7 false true false false):=by
 refine returnsInHanded_of_change_sized (C:=Tryz.checked) own b (by kernel_rfl) Tryz.func7
  (ChangeSpec.witness6 (enc:=enc) (C:=Tryz.checked) false ⟨#[],#[oJ 0 0 0 (jY cF)],[]⟩ 8 (by kernel_rfl) (by kernel_rfl) (by kernel_rfl) (by kernel_rfl)) ?_
 intro W g a ds gs l c x z k _;have d:∀(j:Nat) t v,Tryz.f7.params[j]? =some t->a[j]? =some v->Value.okWide Tryz.prog W .any g t v:=c;have i:(DataW.weightsEach Tryz.prog (Tryz.f7.params.toList++[]) (ds++gs)).all (·<=reachBytes)=true:=k;have s:=x;obtain⟨p,q,h,L,rfl,J,G⟩:=x;have y:DataW.TrodAll enc Tryz.prog W 0 (λ_=>true) true Tryz.f7.params.toList a.toList ds p:=h;rw[Tryz.params7]at y d i;obtain⟨A,I,F,D,O,M,r,rfl,rfl,B,E⟩:=trodAll_cons y;obtain⟨rfl,rfl,rfl⟩:=trodAll_nil E;obtain rfl:a= #[A]:=by cases a;simp_all
 obtain⟨rfl,rfl⟩:=trodVars_none L
 have u:Wt Tryz.prog reachBytes 49 F:=by
  intro m f;have:=List.all_eq_true.1 i m (by simp only[List.append_nil,List.cons_append,List.nil_append,DataW.weightsEach,List.mem_append];first|exact f|exact .inl f);simpa using this
 obtain⟨N,jY,rfl,n,o⟩:=open_st (d 0 49 A rfl rfl) B u;clear h c;refine Calls.mono (uN (K:=λv w=>v=.bool true/\cl (λ_=>False) W w) n o λw f=>⟨rfl,f⟩).out ?_;rintro e P ⟨v,rfl,rfl,f⟩;exact⟨_,rfl,zo laidOut (by kernel_rfl) rfl s f (by kernel_rfl) Tryz.underlying4 rfl⟩
abbrev zRw:=Rows.imageBytesRow
abbrev ng:=Rows.imageBytesSpec
noncomputable abbrev zVt:=Tryz.f7.params.toList++ng.plain.varTypes Tryz.prog
def k0:zRw.wf (OpenSpec.ofChange ng):=by kernel_rfl
def k1:laidOutB Tryz.prog:=by kernel_rfl
def k2:mapsRowed Tryz.prog:=by kernel_rfl
def k3:Tryz.f7.params.all (Tryz.prog.readableRec ·):=by kernel_rfl
def k4:namedTie Tryz.prog zRw.named ng.vars:=by kernel_rfl
def k5:zRw.stops== []:=by kernel_rfl
def k6:Tryz.prog.stops== []:=by kernel_rfl
def k7:zRw.knobs== []:=by kernel_rfl
def k8:Tryz.prog.stopKnobs== []:=by kernel_rfl
def k9:zRw.inPlace==Tryz.prog.inPlace 7:=by kernel_rfl
def k10:zRw.unfollowed==Tryz.prog.unfollowed 7:=by kernel_rfl
def k11:zRw.recurses==Tryz.prog.recurses 7:=by kernel_rfl
def k12:zRw.named==Tryz.prog.varsNamed 7:=by kernel_rfl
def k13:zRw.maps==zVt.any (Tryz.prog.mapsRec ·):=by kernel_rfl
def k14:zRw.ifaces==zVt.any (Tryz.prog.ifacesRec ·):=by kernel_rfl
def k15:zRw.mapsOut==Tryz.prog.mapsAmong Tryz.f7.resultTypes.toList:=by kernel_rfl
def k16:zRw.loops==zVt.any (Tryz.prog.loopsFrom ·):=by kernel_rfl
def k17:zRw.wideKeys==(zVt++Tryz.f7.resultTypes.toList).any (Tryz.prog.wideKeysFrom ·):=by kernel_rfl
def k18:ng.vars.all (Tryz.prog.varReadable ·):=by kernel_rfl
def k19:Tryz.f7.resultTypes.all (λt=>Tryz.prog.readableRec t&& decide (t<Tryz.prog.types.size)):=by kernel_rfl
def k20:zRw.ifacesOut==Tryz.f7.resultTypes.toList.any (Tryz.prog.ifacesRec ·):=by kernel_rfl
def k21:zRw.loopsOut==Tryz.f7.resultTypes.toList.any (Tryz.prog.loopsFrom ·):=by kernel_rfl
def k22:zRw.plainKeys==Tryz.prog.plainKeys:=by kernel_rfl
def k23:zRw.shortTexts.isNone:=by kernel_rfl
def k24:Tryz.prog.stopsHeard:=by kernel_rfl
def k25:Tryz.prog.mayEnter:=by kernel_rfl
def k26:zRw.lifted==Tryz.prog.liftsFinal:=by kernel_rfl
def k27:Tryz.prog.make==some zRw.make:=by kernel_rfl
def k28:zRw.kinds==(if zRw.domain.isEmpty then []else Tryz.f7.params.toList.map λt=>match Tryz.prog.underlying t with|some (.int k)=>some k|_=>none):=by kernel_rfl
def k29:zRw.pinned==zRw.pinnedBy:=by kernel_rfl
def k30:zRw.veiled==(zVt++Tryz.f7.resultTypes.toList).any (Tryz.prog.veiledRec ·):=by kernel_rfl
def k31:zRw.veiledFits Tryz.prog Tryz.f7.params.toList (zVt++Tryz.f7.resultTypes.toList):=by kernel_rfl
set_option maxRecDepth 100000 in
def closed:joinedFacts Tryz.prog 7 Tryz.f7 Rows.imageBytesSpec Rows.imageBytesRow=true:=by
 unfold joinedFacts;simp only[Bool.and_eq_true];exact⟨⟨⟨⟨⟨⟨⟨⟨⟨⟨⟨⟨⟨⟨⟨⟨⟨⟨⟨⟨⟨⟨⟨⟨⟨⟨⟨⟨⟨⟨⟨k0,k1⟩,k2⟩,k3⟩,k4⟩,k5⟩,k6⟩,k7⟩,k8⟩,k9⟩,k10⟩,k11⟩,k12⟩,k13⟩,k14⟩,k15⟩,k16⟩,k17⟩,k18⟩,k19⟩,k20⟩,k21⟩,k22⟩,k23⟩,k24⟩,k25⟩,k26⟩,k27⟩,k28⟩,k29⟩,k30⟩,k31⟩
theorem holds:Rows.ImageBytesSaid:=
 OpenClaim.holds_of_wide 7 Tryz.f7 rfl rfl rfl rfl rfl rfl rfl ⟨rfl,rfl,rfl,rfl,rfl⟩ rfl rfl rfl rfl rfl (by kernel_rfl) Tryz.func7 closed
  (of_decide_eq_true (by kernel_rfl)) (by unfold Func.isWrapper;first|(rw[if_pos (by decide+kernel)];kernel_rfl)|(rw[if_neg (by decide+kernel)];exact⟨rfl,rfl⟩))
  (λos a H b _=>lifted os a H b)
end Go.Proofs.YtgebhcgmckjbbaaGreat.imageBytes
