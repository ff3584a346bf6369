/- Part of a proof. -/
import Derived.Scope
import Derived.WalkKit
import Derived.WalkLawsBesides
import Derived.RowKit3
import Derived.Laws.Cover3
import Derived.Test.YtgebhcgmckjbbaaGreatO1
set_option linter.all false
namespace Go.Vc
open Go
def dstsOf:Code→List Nat
 | .region _ ops _=>ops.toList.filterMap (·.dst)
 | .seq a b=>dstsOf a++dstsOf b
 | .cond _ a b=>dstsOf a++dstsOf b
 | .block _ c=>dstsOf c
 | .loop c=>dstsOf c
 | .scope c=>dstsOf c
 |_=>[]
def hasRF:Code→Bool
 | .seq a b=>hasRF a||hasRF b
 | .cond _ a b=>hasRF a||hasRF b
 | .block _ c=>hasRF c
 | .loop c=>hasRF c
 | .scope c=>hasRF c
 | .rangeFunc .. =>true
 |_=>false
def liveOf(ds:List Nat):List (Nat×Option Value)→List Nat→List Nat
 | [],acc=>acc
 |(k,_)::r,acc=>
  match ds.contains k&& !acc.contains k with
  |true=>liveOf ds r (k::acc)
  |false=>liveOf ds r acc
def Tup:List Nat→Type
 | []=>Unit
 |_::l=>Value×Tup l
def tupOf(E:Env):(l:List Nat)→Tup l
 | []=>()
 |t::l=>(E.get t,tupOf E l)
def putTup:(l:List Nat)→Tup l→List (Nat×Option Value)→List (Nat×Option Value)
 | [],_,r=>r
 |t::l,s,r=>(t,some s.1)::putTup l s.2 r
def force{α:Type}{β:Sort _}:List α→(List α→β)→β
 | [],k=>k []
 |x::xs,k=>force xs λl=>k (x::l)
theorem force_eq{α:Type}{β:Sort _}:∀(l:List α) (k:List α→β),force l k=k l
 | [],_=>rfl
 |x::xs,k=>by rw[force,force_eq xs]
def tmpOf:Operand→Option Nat
 | .tmp t=>some t
 |_=>none
def usesOf:Code→List Nat
 | .region _ ops _=>ops.toList.flatMap λo=>o.op.operands.toList.filterMap tmpOf
 | .seq a b=>usesOf a++usesOf b
 | .cond c a b=>(tmpOf c).toList++usesOf a++usesOf b
 | .block _ c=>usesOf c
 | .loop c=>usesOf c
 | .scope c=>usesOf c
 | .rangeFunc gv _ a b=>(tmpOf gv).toList++usesOf a++usesOf b
 |_=>[]
def addU(ds:List Nat):List Nat→List Nat→List Nat
 | [],acc=>acc
 |k::r,acc=>
  match ds.contains k&& !acc.contains k with
  |true=>addU ds r (k::acc)
  |false=>addU ds r acc
def liveJ(ds:List Nat)(l:List (Nat×Option Value))(us:List Nat):List Nat:=addU ds us (liveOf ds l [])
def cap2:Nat→Nat
 |0=>0
 |1=>1
 |_=>2
def szC:Code→Nat
 | .region _ ops _=>ops.toList.length
 | .seq a b=>szC a+szC b
 | .cond _ _ _=>9
 | .block _ c=>szC c
 | .loop _=>9
 | .rangeFunc _ _ _ _=>9
 |_=>0
def effK:Op→Bool
 | .alloc _=>true
 | .box _ _=>true
 | .buildSlice _ _ _=>true
 | .makeSlice _ _ _=>true
 | .makeMap _ _=>true
 | .call _=>true
 | .store _ _ _=>true
 | .mapUpdate _ _ _ _=>true
 | .insert _ _ _ _=>true
 | .mapEntry _ _ _=>true
 | .entryStore _ _ _ _=>true
 |_=>false
def openOrd(ops:List Oper):Bool:=
 let es:=(List.range ops.length).filter λi=>match ops[i]? with|some o=>effK o.op|none=>false
 es.any λj=>force (anc ops j) λaj=>es.any λi=>Nat.blt i j&& !aj.contains i&& !(anc ops i).contains j
def exC:Code→Option Nat→Nat
 | .region _ ops draw,i=>match i with
  |none=>match (ops.toList.any λo=>o.guard.isSome)||(draw&& openOrd ops.toList)with|true=>2|false=>1
  |some _=>0
 | .seq a b,i=>
  let na:=match Nat.ble 2 (exC a none)&& !hasRF a&& Nat.ble 3 (szC b)with|true=>1|false=>exC a none
  match i with
  |none=>cap2 (na*exC b none)
  |some i=>cap2 (exC a (some i)+na*exC b (some i))
 | .cond _ a b,i=>cap2 (exC a i+exC b i)
 | .block id c,i=>match i with
  |none=>cap2 (exC c none+exC c (some id))
  |some i=>exC c (some i)
 | .loop c,i=>match i with
  |none=>0
  |some i=>exC c (some i)
 | .exit id,i=>match i with
  |none=>0
  |some i=>match Nat.beq i id with|true=>1|false=>0
 | .ret,_=>0
 | .refuse _,_=>0
 | .goto _,_=>0
 |_,i=>match i with
  |none=>1
  |some _=>0
def joins(a b:Code):Bool:=Nat.ble 2 (exC a none)&& !hasRF a&& Nat.ble 3 (szC b)
structure JoinW{S:Type}(A:(S→World→Prop)→Prop)(B:S→World→Prop):Prop where
 out:∃J:S→World→Prop,(∀s w,J s w→B s w)∧A J
theorem JoinW.at{S:Type}{A:(S→World→Prop)→Prop}{B:S→World→Prop}(J:S→World→Prop)(h:A J)(h' :∀s w,J s w→B s w):JoinW A B:=⟨⟨J,h',h⟩⟩
def headE(E:Env)(ds live:List Nat)(s:Tup live)(g:Nat→Value)(marks:List Nat):Env:=
 {l:=putTup live s E.l,g:=λt=>match ds.contains t with|true=>g t|false=>E.g t,ds:=marks}
structure LoopW{S:Type}(body:S→World→(S→World→Prop)→Prop)(s:S)(w:World):Prop where
 out:∃(I:S→World→Prop) (m:S→World→Nat),I s w∧∀s w,I s w→body s w λs' w' =>I s' w' ∧m s' w' <m s w
def enterR(ro:Option Nat)(w:World)(K:Nat→List Nat→World→Prop):Prop:=
 match ro with
 |none=>K w.heap.size [w.heap.size] (w.alloc (.deferred (some [])))
 |some l0=>∃r,w.heap[l0]? =some (.loop r)∧K r.defers [] w
def RecAt(W:World)(l:Nat)(r:Loop):Prop:=W.heap[l]? =some (.loop r)
def RecOf(W:World)(l:Nat)(rec:Loop):Prop:=∃st pend,RecAt W l {rec with state:=st,pending:=pend}
def RFD(P:Program)(ro:Option Nat)(gv:Value)(w:World)(np:Nat)
  (rnd:Nat→List Value→World→(World→Prop)→(Code→World→Prop)→Prop)(after:List Nat→Option Code→World→Prop):Prop:=
 match gv with
 | .func (.func f) first captured=>
  enterR ro w λD mk w1=>∀rec:Loop,rec.state=.ready→rec.pending=none→rec.defers=D→
   (∀(args:List Value) (W:World) (K:Kont),args.length=np→RecOf W w1.heap.size rec→
    rnd w1.heap.size args W
     (λW' =>∃r,RecAt W' w1.heap.size r∧K (.bool true) (W'.putObj w1.heap.size (.loop {r with state:=.ready,pending:=none})))
     (λc W' =>∃r,RecAt W' w1.heap.size r∧K (.bool false) (W'.putObj w1.heap.size (.loop {r with state:=.done,pending:=some c})))→
    Yl P w1.heap.size ⟨args⟩ W K)→
   Ca P f ⟨first.toList++(.func (.yield w1.heap.size) #[] #[]::captured.toList)⟩ (w1.alloc (.loop rec)) λ_ W=>
    ∃r,RecAt W w1.heap.size r∧r.state≠ .busy∧after mk r.pending (W.putObj w1.heap.size (.loop {r with state:=.exhausted}))
 |_=>False
structure RFW(P:Program)(ro:Option Nat)(gv:Value)(w:World)(np:Nat)
  (rnd:Nat→List Value→World→(World→Prop)→(Code→World→Prop)→Prop)(after:List Nat→Option Code→World→Prop):Prop where
 out:RFD P ro gv w np rnd after
theorem RFW_iff{P:Program}{ro:Option Nat}{gv:Value}{w:World}{np:Nat}
  {rnd:Nat→List Value→World→(World→Prop)→(Code→World→Prop)→Prop}{after:List Nat→Option Code→World→Prop}:RFW P ro gv w np rnd after↔RFD P ro gv w np rnd after:=⟨RFW.out,RFW.mk⟩
def beginD(l:Nat)(W:World)(K:World→Prop):Prop:=∃r,RecAt W l r∧r.state=.ready∧K (W.putObj l (.loop {r with state:=.busy}))
structure beginK(l:Nat)(W:World)(K:World→Prop):Prop where
 out:beginD l W K
def putAll:List Nat→Nat→List Value→List (Nat×Option Value)→List (Nat×Option Value)
 |t::ts,i,vs,r=>putAll ts (i+1) vs ((t,some (vs.getD i undef))::r)
 | [],_,_,r=>r
def afterK(N R:World→Prop)(X:Nat→World→Prop)(pend:Option Code)(W:World):Prop:=
 match pend with
 |none=>N W
 |some .ret=>R W
 |some (.exit id)=>X id W
 |_=>False
def vc(P:Program)(jn:Bool)(ro:Option Nat):Code→(Exit→Env→World→Prop)→Env→World→Prop
 | .skip,Q,E,w=>Q .normal E w
 | .region _ ops draw,Q,E,w=>
  match draw with
  |false=>vcList P ops.toList ops.toList E w (Q .normal)
  |true=>vcD P ops.toList (ops.toList.length+1) [] [] E w.drew (Q .normal)
 | .seq a b,Q,E,w=>
  match jn&& joins a b with
  |false=>vc P jn ro a (λe E w=>match e with| .normal=>vc P jn ro b Q E w|e=>Q e E w) E w
  |true=>
   force E.l λel=>force (liveJ (dstsOf a) el (usesOf b)) λlive=>
   JoinW (S:=Tup live) (λJ=>vc P jn ro a (λe E' w' =>match e with| .normal=>J (tupOf E' live) w' |e=>Q e E' w') {E with l:=el} w)
    (λs w' =>∀g,vc P jn ro b Q (headE {E with l:=el} (dstsOf a) live s g E.ds) w')
 | .cond c t f,Q,E,w=>isB (ev E c) λb=>bc b (vc P jn ro t Q E w) (vc P jn ro f Q E w)
 | .block id c,Q,E,w=>vc P jn ro c (λe E w=>match e with| .exit i=>bc (Nat.beq i id) (Q .normal E w) (Q (.exit i) E w)|e=>Q e E w) E w
 | .loop c,Q,E,w=>
  force E.l λel=>force (liveOf (dstsOf c) el []) λlive=>
  match hasRF c with
  |false=>LoopW (S:=Tup live) (λs w K=>∀g,vc P jn ro c (λe E' w' =>match e with| .normal=>K (tupOf E' live) w' |e=>Q e E' w')
    (headE {E with l:=el} (dstsOf c) live s g E.ds) w) (tupOf {E with l:=el} live) w
  |true=>LoopW (S:=Tup live×List Nat) (λs w K=>∀g,vc P jn ro c (λe E' w' =>match e with| .normal=>K (tupOf E' live,E'.ds) w' |e=>Q e E' w')
    (headE {E with l:=el} (dstsOf c) live s.1 g s.2) w) (tupOf {E with l:=el} live,E.ds) w
 | .rangeFunc gv ps assign body,Q,E,w=>
  RFW P ro (ev E gv) w ps.toList.length
   (λl args W KN KJ=>vc P jn (some l) assign (λe E W=>match e with
     | .normal=>beginK l W λW=>vc P jn (some l) body (λe _ W=>match e with
      | .normal=>KN W
      | .ret=>KJ .ret W
      | .exit id=>KJ (.exit id) W
      |_=>False) E W
     |_=>False) {E with l:=putAll ps.toList 0 args E.l,ds:=[]} W)
   (λmk pend W=>afterK (λW=>Q .normal {E with ds:=mk++E.ds} W) (λW=>Q .ret {E with ds:=mk++E.ds} W)
    (λid W=>Q (.exit id) {E with ds:=mk++E.ds} W) pend W)
 | .exit id,Q,E,w=>Q (.exit id) E w
 | .ret,Q,E,w=>Q .ret E w
 | .label _,Q,E,w=>Q .normal E w
 | .scope c,Q,E,w=>match ro with
  |none=>vc P jn none c (λe E w=>match e with| .goto _=>False|e=>Q e E w) E w
  |some _=>False
 | .goto _,_,_,_=>False
 | .refuse _,_,_,_=>False
def okC(P:Program)(n:Nat):Code→Bool
 | .region _ ops draw=>(ops.toList.all λo=>dstOk n o.dst)&& (!draw||(P.follows .mixedOrders&& regOk P ops.toList))
 | .seq a b=>okC P n a&& okC P n b
 | .cond _ a b=>okC P n a&& okC P n b
 | .block _ c=>okC P n c
 | .loop c=>okC P n c
 | .scope c=>okC P n c
 | .rangeFunc _ ps a b=>(ps.toList.all λd=>Nat.blt d n)&& okC P n a&& okC P n b
 |_=>true
end Go.Vc
namespace Go.Vc
open Go
theorem rv_mono{P:Program}{s:Sem Value}{w:World}{K K' :Kont}(h:rv P s w K)(hk:∀v w',K v w' →K' v w'):rv P s w K' :=by
 rw[rv_iff]at*
 unfold rvD at*
 split at h
 ·exact hk _ _ h
 ·exact h.elim
theorem ru_mono{P:Program}{s:Sem Unit}{w:World}{K K' :World→Prop}(h:ru P s w K)(hk:∀w',K w' →K' w'):ru P s w K' :=by
 rw[ru_iff]at*
 unfold ruD at*
 split at h
 ·exact hk _ h
 ·exact h.elim
theorem rn_mono{P:Program}{s:Sem Next}{w:World}{K K' :Kont}(h:rn P s w K)(hk:∀v w',K v w' →K' v w'):rn P s w K' :=by
 rw[rn_iff]at*
 unfold rnD at*
 split at h
 ·exact hk _ _ h
 ·exact hk _ _ h
 ·exact Ca.mono h hk
 ·exact h.mono λ_ _ ⟨v,he,hv⟩=>⟨v,he,hk _ _ hv⟩
 ·exact h.elim
theorem isB_mono{v:Value}{K K' :Bool→Prop}(h:isB v K)(hk:∀b,K b→K' b):isB v K' :=by
 unfold isB at*
 split at h
 ·exact hk _ h
 ·exact h.elim
theorem nilK_mono{v:Value}{K K' :Value→Prop}(h:nilK v K)(hk:∀b,K b→K' b):nilK v K' :=by
 unfold nilK at*
 split at h
 ·exact hk _ h
 ·exact h.elim
theorem callV_mono{P:Program}{fv:Value}{args:List Value}{w:World}{K K' :Kont}(h:callV P fv args w K)(hk:∀v w',K v w' →K' v w'):callV P fv args w K' :=by
 rw[callV_iff]at*
 unfold callD at*
 split at h
 ·exact Ca.mono h hk
 ·exact Yl.mono h hk
 ·exact h.elim
theorem rdW_mono{P:Program}{s:Sem Value}{w:World}{K K' :Value→Prop}(h:rdW P s w K)(hk:∀v,K v→K' v):rdW P s w K' :=by
 rw[rdW_iff]at*
 unfold rdWD at*
 split at h
 ·exact⟨h.1,hk _ h.2⟩
 ·exact h.elim
theorem rx_mono{P:Program}{s:Sem Value}{w:World}{K K' :Kont}(h:rx P s w K)(hk:∀v w',K v w' →K' v w'):rx P s w K' :=⟨rv_mono h.out hk⟩
theorem rux_mono{P:Program}{s:Sem Unit}{w:World}{K K' :World→Prop}(h:rux P s w K)(hk:∀w',K w' →K' w'):rux P s w K' :=⟨ru_mono h.out hk⟩
theorem rdX_mono{P:Program}{s:Sem Value}{w:World}{K K' :Value→Prop}(h:rdX P s w K)(hk:∀v,K v→K' v):rdX P s w K' :=⟨rdW_mono h.out hk⟩
theorem rdP_mono{P:Program}{s:Sem Value}{K K' :Value→Prop}(h:rdP P s K)(hk:∀v,K v→K' v):rdP P s K' :=
 let⟨v,h1,h2⟩:=h.out
 ⟨⟨v,h1,hk _ h2⟩⟩
theorem rdPX_mono{P:Program}{s:Sem Value}{K K' :Value→Prop}(h:rdPX P s K)(hk:∀v,K v→K' v):rdPX P s K' :=⟨rdP_mono h.out hk⟩
theorem quickK_mono{ρ:Operand→Value}{op:Op}{K K' :Value→Prop}(h:quickK ρ op K)(hk:∀v,K v→K' v):quickK ρ op K' :=by
 unfold quickK at*
 cases op<;>simp only at h⊢ <;>first|exact hk _ h|exact isB_mono h (λ_=>hk _)|exact nilK_mono h hk|exact h.elim
theorem wOp_mono{P:Program}{ρ:Operand→Value}{o:Oper}{w:World}{K K' :Kont}(h:wOp P ρ o w K)(hk:∀v w',K v w' →K' v w'):wOp P ρ o w K' :=by
 unfold wOp at*
 cases hop:o.op<;>rw[hop]at h<;>simp only at h⊢ <;>
  first
   |exact rv_mono h hk
   |exact rx_mono h hk
   |exact ru_mono h (λ_=>hk _ _)
   |exact rux_mono h (λ_=>hk _ _)
   |exact hk _ _ h
   |exact isB_mono h (λ_=>hk _ _)
   |exact nilK_mono h (λ_=>hk _ _)
   |exact rn_mono h hk
   |exact h.elim
   |(split at h<;>first|exact rv_mono h hk|exact rx_mono h hk|exact ru_mono h (λ_=>hk _ _)|exact rux_mono h (λ_=>hk _ _))
   |skip
 rename_i c
 cases hc:c.callee with
 |value f=>
  rw[hc]at h
  cases f<;>simp only at h⊢ <;>first|exact callV_mono h hk|(split at h<;>first|exact⟨rn_mono h.out hk⟩|exact Ca.mono h hk)
 |builtin b=>rw[hc]at h;cases b<;>first|exact rx_mono h hk|exact rn_mono h hk
 |invoke r m=>rw[hc]at h;exact rn_mono h hk
theorem grd_mono{ops:List Oper}{o:Oper}{E:Env}{yes no yes' no' :Env→Prop}(h:grd ops o E yes no)
  (hy:∀E',E.Same E' →yes E' →yes' E')(hn:∀E',E.Same E' →no E' →no' E'):grd ops o E yes' no' :=by
 unfold grd at*
 cases hg:o.guard with
 |none=>rw[hg]at h;exact hy E (.refl E) h
 |some g=>
  obtain⟨j,want⟩:=g
  rw[hg]at h
  simp only at h⊢
  cases hs:gslot ops j with
  |none=>rw[hs]at h;exact hn E (.refl E) h
  |some s=>
   rw[hs]at h
   simp only at h⊢
   cases hk:E.skipped s with
   |true=>rw[hk]at h;exact hn E (.refl E) h
   |false=>
    rw[hk]at h
    simp only[isB]at h⊢
    cases hv:E.get s<;>rw[hv]at h<;>first|exact h.elim|skip
    rename_i b
    cases b<;>cases want<;>first|exact hy _ (Env.same_put hv) h|exact hn _ (Env.same_put hv) h
def Fr(ds:List Nat)(E E' :Env):Prop:=∀t,t ∉ ds→E'.get t=E.get t
theorem Fr.refl(ds:List Nat)(E:Env):Fr ds E E:=λ_ _=>rfl
theorem Fr.trans{ds:List Nat}{E E1 E2:Env}(h:Fr ds E E1)(h' :Fr ds E1 E2):Fr ds E E2:=λt ht=>(h' t ht).trans (h t ht)
theorem Fr.mono{ds ds' :List Nat}{E E1:Env}(h:Fr ds E E1)(hs:∀t∈ds,t∈ds'):Fr ds' E E1:=λt ht=>h t λhm=>ht (hs t hm)
theorem Fr.put{ds:List Nat}(E:Env){d:Option Nat}(v:Value)(hd:∀t,d=some t→t∈ds):Fr ds E (E.put d v):=λt ht=>put_ne λe=>ht (hd t e)
theorem Fr.skip{ds:List Nat}(E:Env){d:Option Nat}(hd:∀t,d=some t→t∈ds):Fr ds E (E.skip d):=λt ht=>skip_ne λe=>ht (hd t e)
theorem Fr.of_same{ds:List Nat}{E E' :Env}(h:E.Same E'):Fr ds E E' :=λt _=>h.1 t
theorem vcList_mono{P:Program}{ops:List Oper}{K K' :Env→World→Prop}{ds:List Nat}:∀(l:List Oper),(∀o∈l,∀t,o.dst=some t→t∈ds)→∀(E:Env) (w:World),vcList P ops l E w K→
  (∀E' w',Fr ds E E' →E'.ds=E.ds→K E' w' →K' E' w')→vcList P ops l E w K' :=by
 intro l
 induction l with
 |nil=>exact λ_ E w h hk=>hk E w (.refl _ _) rfl h
 |cons o rest ih=>
  intro hl E w h hk
  have ho:=hl o List.mem_cons_self
  have hr:∀o∈rest,∀t,o.dst=some t→t∈ds:=λo' h' =>hl o' (List.mem_cons_of_mem _ h')
  refine grd_mono h (λE1 hs hy=>wOp_mono hy λv w' hv=>ih hr _ _ hv λE' w'' hf hd hK=>hk E' w'' ?_ ?_ hK) (λE1 hs hn=>ih hr _ _ hn λE' w'' hf hd hK=>hk E' w'' ?_ ?_ hK)
  ·exact((Fr.of_same hs).trans (Fr.put E1 v ho)).trans hf
  ·rw[hd,put_ds,hs.2]
  ·exact((Fr.of_same hs).trans (Fr.skip E1 ho)).trans hf
  ·rw[hd,skip_ds,hs.2]
theorem allL_mono{F G:Nat→Prop}(h:∀j,F j→G j):∀{l:List Nat},allL F l→allL G l
 | [],_=>trivial
 | [_],hf=>h _ hf
 |_::k::l,hf=>⟨h _ hf.1,allL_mono h (l:=k::l) hf.2⟩
theorem reval_mono{P:Program}{w:World}{R R' :Prop}(h:R→R'):∀{p:Pend},reval P w p R→reval P w p R'
 | [],hr=>h hr
 |_::_,hr=>⟨hr.1,reval_mono h hr.2⟩
theorem vcD_mono{P:Program}{ops:List Oper}{K K' :Env→World→Prop}{ds:List Nat}(hl:∀o∈ops,∀t,o.dst=some t→t∈ds):∀(fuel:Nat) (done:List Nat) (pend:Pend) (E:Env) (w:World),vcD P ops fuel done pend E w K→
  (∀E' w',Fr ds E E' →E'.ds=E.ds→K E' w' →K' E' w')→vcD P ops fuel done pend E w K' :=by
 intro fuel
 induction fuel with
 |zero=>intro _ _ _ _ h;exact h.elim
 |succ fuel ih=>
  intro done pend E w h hk
  have stepP:∀(o:Oper) (v:Value) (E1:Env),o∈ops→E.Same E1→∀E' w',Fr ds (E1.put o.dst v) E' →E'.ds=(E1.put o.dst v).ds→K E' w' →K' E' w' :=by
   intro o v E1 ho hs E' w' hf hd hK
   exact hk E' w' (((Fr.of_same hs).trans (Fr.put E1 v (hl o ho))).trans hf) (by rw[hd,put_ds,hs.2]) hK
  have stepS:∀(o:Oper) (E1:Env),o∈ops→E.Same E1→∀E' w',Fr ds (E1.skip o.dst) E' →E'.ds=(E1.skip o.dst).ds→K E' w' →K' E' w' :=by
   intro o E1 ho hs E' w' hf hd hK
   exact hk E' w' (((Fr.of_same hs).trans (Fr.skip E1 (hl o ho))).trans hf) (by rw[hd,skip_ds,hs.2]) hK
  simp only[vcD]at h⊢
  split at h
  ·rename_i i hi
   split at h
   ·exact h.elim
   ·rename_i o ho
    have hmem:o∈ops:=List.mem_of_getElem? ho
    refine grd_mono h (λE1 hs hy=>?_) (λE1 hs hn=>ih _ _ _ _ hn (stepS o E1 hmem hs))
    split at hy
    ·exact quickK_mono hy λv hv=>ih _ _ _ _ hv (stepP o v E1 hmem hs)
    ·split at hy
     · (split at hy<;>first|exact rdP_mono hy λv hv=>ih _ _ _ _ hv (stepP o v E1 hmem hs)|exact rdPX_mono hy λv hv=>ih _ _ _ _ hv (stepP o v E1 hmem hs))
     ·exact hy.elim
    ·split at hy
     · (split at hy<;>first|exact rdW_mono hy λv hv=>ih _ _ _ _ hv (stepP o v E1 hmem hs)|exact rdX_mono hy λv hv=>ih _ _ _ _ hv (stepP o v E1 hmem hs))
     ·exact hy.elim
  ·split at h
   ·exact hk E w (.refl _ _) rfl h
   ·refine allL_mono (λj hj=>?_) h
    cases ho:ops[j]? with
    |none=>rw[ho]at hj;exact hj.elim
    |some o=>
     rw[ho]at hj
     have hmem:o∈ops:=List.mem_of_getElem? ho
     exact grd_mono hj (λE1 hs hy=>wOp_mono hy λv w' hv=>reval_mono (λhh=>ih _ _ _ _ hh (stepP o v E1 hmem hs)) hv) (λE1 hs hn=>ih _ _ _ _ hn (stepS o E1 hmem hs))
theorem LoopW.mono{S:Type}{body body' :S→World→(S→World→Prop)→Prop}{s:S}{w:World}(h:LoopW body s w)
  (hb:∀s w K,body s w K→body' s w K):LoopW body' s w:=
 let⟨I,m,h0,h1⟩:=h.out
 ⟨⟨I,m,h0,λs w hi=>hb _ _ _ (h1 s w hi)⟩⟩
theorem look_putTup{r:List (Nat×Option Value)}{t:Nat}:∀{l:List Nat} {s:Tup l},t ∉ l→Env.look (putTup l s r) t=Env.look r t
 | [],_,_=>rfl
 |k::l,s,ht=>by
  have hkt:Nat.beq k t=false:=by
   cases hb:Nat.beq k t with
   |false=>rfl
   |true=>exact absurd (by rw[Nat.eq_of_beq_eq_true hb];exact List.mem_cons_self) ht
  simp only[putTup,Env.look,hkt,cond_false]
  exact look_putTup λhm=>ht (List.mem_cons_of_mem _ hm)
theorem look_putTup_of{r:List (Nat×Option Value)}{t:Nat}{E:Env}:∀{l:List Nat},t∈l→Env.look (putTup l (tupOf E l) r) t=some (some (E.get t))
 |k::l,ht=>by
  simp only[putTup,tupOf,Env.look]
  cases hb:Nat.beq k t with
  |true=>rw[Nat.eq_of_beq_eq_true hb];rfl
  |false=>
   simp only[cond_false]
   refine look_putTup_of ?_
   rcases List.mem_cons.1 ht with e|e
   ·subst e;simp at hb
   ·exact e
theorem liveOf_sub{ds:List Nat}:∀{l:List (Nat×Option Value)} {acc:List Nat},(∀t∈acc,t∈ds)→∀t∈liveOf ds l acc,t∈ds
 | [],acc,ha,t,ht=>ha t (by simpa [liveOf]using ht)
 |(k,v)::r,acc,ha,t,ht=>by
  unfold liveOf at ht
  cases hc:ds.contains k&& !acc.contains k with
  |true=>
   rw[hc]at ht
   refine liveOf_sub (λx hx=>?_) t ht
   rcases List.mem_cons.1 hx with rfl|hx
   ·simp only[Bool.and_eq_true]at hc;simpa using hc.1
   ·exact ha x hx
  |false=>rw[hc]at ht;exact liveOf_sub ha t ht
theorem liveOf_acc{ds:List Nat}:∀{l:List (Nat×Option Value)} {acc:List Nat} {t:Nat},t∈acc→t∈liveOf ds l acc
 | [],acc,t,ht=>by simpa [liveOf]using ht
 |(k,v)::r,acc,t,ht=>by
  unfold liveOf
  cases ds.contains k&& !acc.contains k with
  |true=>exact liveOf_acc (List.mem_cons_of_mem _ ht)
  |false=>exact liveOf_acc ht
theorem liveOf_all{ds:List Nat}:∀{l:List (Nat×Option Value)} {acc:List Nat} {t:Nat},t∈ds→Env.look l t≠none→t∈liveOf ds l acc
 | [],_,_,_,h=>absurd rfl h
 |(k,v)::r,acc,t,ht,h=>by
  unfold liveOf
  cases hb:Nat.beq k t with
  |true=>
   obtain rfl:=Nat.eq_of_beq_eq_true hb
   have hk:ds.contains k=true:=by simpa using ht
   cases ha:acc.contains k with
   |true=>
    simp only[hk,Bool.not_true,Bool.and_false]
    exact liveOf_acc (by simpa using ha)
   |false=>
    simp only[hk,Bool.not_false,Bool.and_true]
    exact liveOf_acc List.mem_cons_self
  |false=>
   have h' :Env.look r t≠none:=by simpa [Env.look,hb]using h
   cases ds.contains k&& !acc.contains k with
   |true=>exact liveOf_all ht h'
   |false=>exact liveOf_all ht h'
theorem addU_sub{ds:List Nat}:∀{l acc:List Nat},(∀t∈acc,t∈ds)→∀t∈addU ds l acc,t∈ds
 | [],acc,ha,t,ht=>ha t (by simpa [addU]using ht)
 |k::r,acc,ha,t,ht=>by
  unfold addU at ht
  cases hc:ds.contains k&& !acc.contains k with
  |true=>
   rw[hc]at ht
   refine addU_sub (λx hx=>?_) t ht
   rcases List.mem_cons.1 hx with rfl|hx
   ·simp only[Bool.and_eq_true]at hc;simpa using hc.1
   ·exact ha x hx
  |false=>rw[hc]at ht;exact addU_sub ha t ht
theorem addU_acc{ds:List Nat}:∀{l acc:List Nat} {t:Nat},t∈acc→t∈addU ds l acc
 | [],acc,t,ht=>by simpa [addU]using ht
 |k::r,acc,t,ht=>by
  unfold addU
  cases ds.contains k&& !acc.contains k with
  |true=>exact addU_acc (List.mem_cons_of_mem _ ht)
  |false=>exact addU_acc ht
theorem liveJ_sub{ds:List Nat}{l:List (Nat×Option Value)}{us:List Nat}:∀t∈liveJ ds l us,t∈ds:=addU_sub (liveOf_sub (by simp))
theorem liveJ_all{ds:List Nat}{l:List (Nat×Option Value)}{us:List Nat}{t:Nat}(ht:t∈ds)(h:Env.look l t≠none):t∈liveJ ds l us:=addU_acc (liveOf_all ht h)
theorem headE_frJ{E:Env}{ds live:List Nat}{s:Tup live}{g:Nat→Value}{mk:List Nat}(hs:∀t∈live,t∈ds):Fr ds E (headE E ds live s g mk):=by
 intro t ht
 have hl:t ∉ live:=λhm=>ht (hs t hm)
 have hc:ds.contains t=false:=by simpa using ht
 unfold Env.get headE
 simp only[look_putTup hl,hc]
theorem joins_rf{a b:Code}(h:joins a b=true):hasRF a=false:=by
 simp only[joins,Bool.and_eq_true,Bool.not_eq_true']at h
 exact h.1.2
theorem headE_fr{E:Env}{ds:List Nat}{s:Tup (liveOf ds E.l [])}{g:Nat→Value}{mk:List Nat}:Fr ds E (headE E ds (liveOf ds E.l []) s g mk):=by
 intro t ht
 have hl:t ∉ liveOf ds E.l []:=λhm=>ht (liveOf_sub (by simp) t hm)
 have hc:ds.contains t=false:=by simpa using ht
 unfold Env.get headE
 simp only[look_putTup hl,hc]
theorem vc_mono{P:Program}{jn:Bool}:∀(c:Code) (ro:Option Nat) (Q Q' :Exit→Env→World→Prop) (E:Env) (w:World),vc P jn ro c Q E w→
  (∀e E' w',Fr (dstsOf c) E E' →(hasRF c=false→E'.ds=E.ds)→Q e E' w' →Q' e E' w')→vc P jn ro c Q' E w:=by
 intro c
 induction c with
 |skip=>intro ro Q Q' E w h hq;exact hq _ _ _ (.refl _ _) (λ_=>rfl) h
 |region id ops draw=>
  intro ro Q Q' E w h hq
  have hd:∀o∈ops.toList,∀t,o.dst=some t→t∈dstsOf (.region id ops draw):=λo ho t ht=>List.mem_filterMap.2 ⟨o,ho,ht⟩
  cases draw with
  |false=>exact vcList_mono _ hd _ _ h λE' w' hf hds hK=>hq _ _ _ hf (λ_=>hds) hK
  |true=>exact vcD_mono hd _ _ _ _ _ h λE' w' hf hds hK=>hq _ _ _ hf (λ_=>hds) hK
 |seq a b iha ihb=>
  intro ro Q Q' E w h hq
  simp only[vc]at h⊢
  cases hj:jn&& joins a b with
  |true=>
   rw[hj]at h
   simp only[force_eq]at h⊢
   obtain⟨J,hJ,hA⟩:=h.out
   simp only[Bool.and_eq_true]at hj
   have hrf:=joins_rf hj.2
   refine⟨⟨J,λs w1 hs g=>ihb ro _ _ _ w1 (hJ s w1 hs g) λe E' w' hf hd hQ=>hq e E' w' (((headE_frJ liveJ_sub).mono λt ht=>List.mem_append_left _ ht).trans (hf.mono λt ht=>List.mem_append_right _ ht)) (λhh=>hd (by simp only[hasRF,Bool.or_eq_false_iff]at hh;exact hh.2)) hQ,?_⟩⟩
   refine iha ro _ _ E w hA λe E' w' hf hd hQ=>?_
   have hf' :Fr (dstsOf (.seq a b)) E E' :=hf.mono λt ht=>List.mem_append_left _ ht
   cases e with
   |normal=>exact hQ
   |exit id=>exact hq _ _ _ hf' (λ_=>hd hrf) hQ
   |goto id=>exact hq _ _ _ hf' (λ_=>hd hrf) hQ
   |ret=>exact hq _ _ _ hf' (λ_=>hd hrf) hQ
   |panic ch=>exact hq _ _ _ hf' (λ_=>hd hrf) hQ
   |outgrown=>exact hq _ _ _ hf' (λ_=>hd hrf) hQ
  |false=>
  rw[hj]at h
  refine iha ro _ _ E w h λe E1 w1 hf1 hd1 hQ=>?_
  have hf1' :Fr (dstsOf (.seq a b)) E E1:=hf1.mono λt ht=>List.mem_append_left _ ht
  have hda:hasRF (.seq a b)=false→E1.ds=E.ds:=λhh=>hd1 (by simp only[hasRF,Bool.or_eq_false_iff]at hh;exact hh.1)
  cases e with
  |normal=>
   refine ihb ro _ _ E1 w1 hQ λe E2 w2 hf2 hd2 hQ2=>hq e E2 w2 (hf1'.trans (hf2.mono λt ht=>List.mem_append_right _ ht)) (λhh=>?_) hQ2
   rw[hd2 (by simp only[hasRF,Bool.or_eq_false_iff]at hh;exact hh.2),hda hh]
  |exit id=>exact hq _ _ _ hf1' hda hQ
  |goto id=>exact hq _ _ _ hf1' hda hQ
  |ret=>exact hq _ _ _ hf1' hda hQ
  |panic ch=>exact hq _ _ _ hf1' hda hQ
  |outgrown=>exact hq _ _ _ hf1' hda hQ
 |cond c t f iht ihf=>
  intro ro Q Q' E w h hq
  refine isB_mono h λb hb=>?_
  cases b with
  |true=>exact iht ro _ _ E w hb λe E' w' hf hd hQ=>hq e E' w' (hf.mono λt ht=>List.mem_append_left _ ht) (λhh=>hd (by simp only[hasRF,Bool.or_eq_false_iff]at hh;exact hh.1)) hQ
  |false=>exact ihf ro _ _ E w hb λe E' w' hf hd hQ=>hq e E' w' (hf.mono λt ht=>List.mem_append_right _ ht) (λhh=>hd (by simp only[hasRF,Bool.or_eq_false_iff]at hh;exact hh.2)) hQ
 |block id c ih=>
  intro ro Q Q' E w h hq
  refine ih ro _ _ E w h λe E' w' hf hd hQ=>?_
  cases e with
  |exit i=>
   simp only at hQ⊢
   cases hb:Nat.beq i id<;>rw[hb]at hQ<;>exact hq _ _ _ hf hd hQ
  |normal=>exact hq _ _ _ hf hd hQ
  |goto id=>exact hq _ _ _ hf hd hQ
  |ret=>exact hq _ _ _ hf hd hQ
  |panic ch=>exact hq _ _ _ hf hd hQ
  |outgrown=>exact hq _ _ _ hf hd hQ
 |loop c ih=>
  intro ro Q Q' E w h hq
  simp only[vc,force_eq]at h⊢
  cases hrf:hasRF c with
  |false=>
   rw[hrf]at h
   refine h.mono λs w1 K hb g=>ih ro _ _ _ w1 (hb g) λe E' w' hf hd hQ=>?_
   have hf' :Fr (dstsOf (.loop c)) E E' :=headE_fr.trans hf
   have hd' :hasRF (.loop c)=false→E'.ds=E.ds:=λhh=>hd hrf
   cases e with
   |normal=>exact hQ
   |exit id=>exact hq _ _ _ hf' hd' hQ
   |goto id=>exact hq _ _ _ hf' hd' hQ
   |ret=>exact hq _ _ _ hf' hd' hQ
   |panic ch=>exact hq _ _ _ hf' hd' hQ
   |outgrown=>exact hq _ _ _ hf' hd' hQ
  |true=>
   rw[hrf]at h
   refine h.mono λs w1 K hb g=>ih ro _ _ _ w1 (hb g) λe E' w' hf hd hQ=>?_
   have hf' :Fr (dstsOf (.loop c)) E E' :=headE_fr.trans hf
   have hd' :hasRF (.loop c)=false→E'.ds=E.ds:=λhh=>by simp only[hasRF]at hh;rw[hrf]at hh;cases hh
   cases e with
   |normal=>exact hQ
   |exit id=>exact hq _ _ _ hf' hd' hQ
   |goto id=>exact hq _ _ _ hf' hd' hQ
   |ret=>exact hq _ _ _ hf' hd' hQ
   |panic ch=>exact hq _ _ _ hf' hd' hQ
   |outgrown=>exact hq _ _ _ hf' hd' hQ
 |rangeFunc gv ps assign body _ _=>
  intro ro Q Q' E w h hq
  simp only[vc,RFW_iff,RFD]at h⊢
  split at h
  ·rename_i f first captured hgv
   unfold enterR at h⊢
   have hfr:∀mk:List Nat,Fr (dstsOf (.rangeFunc gv ps assign body)) E {E with ds:=mk++E.ds}:=λmk t _=>rfl
   have key:∀(mk:List Nat) (pend:Option Code) (W:World),
     afterK (λW=>Q .normal {E with ds:=mk++E.ds} W) (λW=>Q .ret {E with ds:=mk++E.ds} W) (λid W=>Q (.exit id) {E with ds:=mk++E.ds} W) pend W→
     afterK (λW=>Q' .normal {E with ds:=mk++E.ds} W) (λW=>Q' .ret {E with ds:=mk++E.ds} W) (λid W=>Q' (.exit id) {E with ds:=mk++E.ds} W) pend W:=by
    intro mk pend W hh
    unfold afterK at*
    split at hh
    ·exact hq _ _ _ (hfr mk) (λh=>by cases h) hh
    ·exact hq _ _ _ (hfr mk) (λh=>by cases h) hh
    ·exact hq _ _ _ (hfr mk) (λh=>by cases h) hh
    ·exact hh.elim
   cases ro with
   |none=>
    intro rec h1 h2 h3 hy
    refine(h rec h1 h2 h3 hy).mono ?_
    rintro v W ⟨r,hr,hb,ha⟩
    exact⟨r,hr,hb,key _ _ _ ha⟩
   |some l0=>
    obtain⟨r0,hr0,h⟩:=h
    refine⟨r0,hr0,λrec h1 h2 h3 hy=>?_⟩
    refine(h rec h1 h2 h3 hy).mono ?_
    rintro v W ⟨r,hr,hb,ha⟩
    exact⟨r,hr,hb,key _ _ _ ha⟩
  ·exact h.elim
 |exit id=>intro ro Q Q' E w h hq;exact hq _ _ _ (.refl _ _) (λ_=>rfl) h
 |scope c ih=>
  intro ro Q Q' E w h hq
  cases ro with
  |some l=>exact h.elim
  |none=>
   refine ih none _ _ E w h λe E' w' hf hd hQ=>?_
   cases e with
   |goto l=>exact hQ.elim
   |exit id=>exact hq _ _ _ hf hd hQ
   |normal=>exact hq _ _ _ hf hd hQ
   |ret=>exact hq _ _ _ hf hd hQ
   |panic ch=>exact hq _ _ _ hf hd hQ
   |outgrown=>exact hq _ _ _ hf hd hQ
 |label l=>intro ro Q Q' E w h hq;exact hq _ _ _ (.refl _ _) (λ_=>rfl) h
 |goto l=>intro ro Q Q' E w h hq;exact h.elim
 |ret=>intro ro Q Q' E w h hq;exact hq _ _ _ (.refl _ _) (λ_=>rfl) h
 |refuse why=>intro ro Q Q' E w h hq;exact h.elim
end Go.Vc
namespace Go.Vc
open Go
theorem tupOf_congr{E E' :Env}(h:∀t,E'.get t=E.get t):∀l,tupOf E' l=tupOf E l
 | []=>rfl
 |t::l=>by
  simp only[tupOf,h t]
  rw[tupOf_congr h l]
theorem tupOf_put:∀{l:List Nat} {s:Tup l} {r:List (Nat×Option Value)} {g:Nat→Value} {ds:List Nat},l.Nodup→tupOf {l:=putTup l s r,g:=g,ds:=ds} l=s
 | [],_,_,_,_,_=>rfl
 |t::l,(v,s),r,g,ds,hn=>by
  obtain⟨hnt,hn⟩:=List.nodup_cons.1 hn
  simp only[tupOf]
  refine Prod.ext ?_ ?_
  ·simp[Env.get,putTup,Env.look]
  ·simp only
   have e:∀l' :List Nat,t ∉ l' →tupOf {l:=putTup (t::l) (v,s) r,g:=g,ds:=ds} l' =tupOf {l:=putTup l s r,g:=g,ds:=ds} l' :=by
    intro l'
    induction l' with
    |nil=>intro _;rfl
    |cons k l' ih=>
     intro hk
     have hkt:Nat.beq t k=false:=by
      cases hb:Nat.beq t k with
      |false=>rfl
      |true=>exact absurd (by rw[Nat.eq_of_beq_eq_true hb];exact List.mem_cons_self) hk
     simp only[tupOf]
     rw[ih λhm=>hk (List.mem_cons_of_mem _ hm)]
     congr 1
     simp[Env.get,putTup,Env.look,hkt]
   rw[e l hnt]
   exact tupOf_put hn
theorem liveOf_nodup{ds:List Nat}:∀{l:List (Nat×Option Value)} {acc:List Nat},acc.Nodup→(liveOf ds l acc).Nodup
 | [],acc,h=>by simpa [liveOf]using h
 |(k,v)::r,acc,h=>by
  unfold liveOf
  cases hc:ds.contains k&& !acc.contains k with
  |true=>
   simp only[Bool.and_eq_true]at hc
   exact liveOf_nodup (List.nodup_cons.2 ⟨by simpa using hc.2,h⟩)
  |false=>exact liveOf_nodup h
theorem headE_again{n:Nat}{E E1 E2:Env}{ds:List Nat}{a:Act}{mk:List Nat}(h1:Fr ds E E2)(hr:Rel n E2 a)(hm:E2.ds=mk):
  Rel n (headE E ds (liveOf ds E.l []) (tupOf E2 (liveOf ds E.l [])) (λt=>a.tmps.getD t undef) mk) a:=by
 refine⟨hr.size,λt=>?_,by rw[hr.defs,hm];rfl⟩
 by_cases ht:t∈ds
 ·by_cases hl:t∈liveOf ds E.l []
  ·unfold Env.get headE
   simp only[look_putTup_of hl]
   exact hr.get t
  ·have hnone:Env.look E.l t=none:=by
    apply Classical.byContradiction
    intro hne
    exact hl (liveOf_all ht hne)
   unfold Env.get headE
   have:ds.contains t=true:=by simpa using ht
   simp only[look_putTup hl,hnone,this]
 ·rw[headE_fr t ht,←h1 t ht]
  exact hr.get t
theorem headE_meet{n:Nat}{E E2:Env}{ds live:List Nat}{a:Act}{mk:List Nat}(hall:∀t∈ds,Env.look E.l t≠none→t∈live)(hsub:∀t∈live,t∈ds)(h1:Fr ds E E2)(hr:Rel n E2 a)(hm:E2.ds=mk):
  Rel n (headE E ds live (tupOf E2 live) (λt=>a.tmps.getD t undef) mk) a:=by
 refine⟨hr.size,λt=>?_,by rw[hr.defs,hm];rfl⟩
 by_cases ht:t∈ds
 ·by_cases hl:t∈live
  ·unfold Env.get headE
   simp only[look_putTup_of hl]
   exact hr.get t
  ·have hnone:Env.look E.l t=none:=by
    apply Classical.byContradiction
    intro hne
    exact hl (hall t ht hne)
   unfold Env.get headE
   have:ds.contains t=true:=by simpa using ht
   simp only[look_putTup hl,hnone,this]
 ·rw[headE_frJ hsub t ht,←h1 t ht]
  exact hr.get t
theorem headE_same{E:Env}{ds:List Nat}:∀t,(headE E ds (liveOf ds E.l []) (tupOf E (liveOf ds E.l [])) E.g E.ds).get t=E.get t:=by
 intro t
 by_cases ht:t∈ds
 ·by_cases hl:t∈liveOf ds E.l []
  ·simp only[Env.get,headE,look_putTup_of hl]
  ·have hnone:Env.look E.l t=none:=by
    apply Classical.byContradiction
    intro hne
    exact hl (liveOf_all ht hne)
   have:ds.contains t=true:=by simpa using ht
   simp only[Env.get,headE,look_putTup hl,this,hnone]
 ·exact headE_fr t ht
theorem tupOf_headE{E:Env}{ds:List Nat}{s:Tup (liveOf ds E.l [])}{g:Nat→Value}{mk:List Nat}:tupOf (headE E ds (liveOf ds E.l []) s g mk) (liveOf ds E.l [])=s:=
 tupOf_put (liveOf_nodup List.nodup_nil)
def actE(a:Act):Env:={l:=[],g:=λt=>a.tmps.getD t undef,ds:=a.defers.map λd=>match d.target with| .collected r=>r|_=>0}
theorem Rel.actE{n:Nat}{E:Env}{a:Act}(h:Rel n E a):(∀t,(Vc.actE a).get t=E.get t)∧(Vc.actE a).ds=E.ds:=by
 refine⟨h.get,?_⟩
 unfold Vc.actE
 simp only
 rw[h.defs,List.map_map]
 conv=>rhs;rw[←List.map_id E.ds]
 exact List.map_congr_left λ_ _=>rfl
theorem run_callFunc_of{P:Program}(hP:NoNum P=true){f:FuncId}{args:Array Value}{w w1:World}{K:Kont}(h:Ca P f args w K):
  (callFunc f args).run P w1=.ok (.enter f args) w1:=by
 obtain⟨fn,hf,hb⟩:=h.bodied
 have hname:(fn.name== "runtime.NumGoroutine")=false:=by
  have:=(Array.all_eq_true'.1 hP) fn (Array.mem_of_getElem? hf)
  simpa using this
 have hname' :¬fn.name= "runtime.NumGoroutine" :=by simpa using hname
 have hnone' :¬fn.body=none:=by intro hh;rw[hh]at hb;exact absurd hb (by simp)
 unfold callFunc
 simp[Sem.run_bind,Result.andThen,hf,hname',hnone']
theorem rel_putAll{n:Nat}:∀(ps:List Nat) (i:Nat) (args:List Value) (E:Env) (tmps:Array Value),(ps.all λd=>Nat.blt d n)=true→args.length=i+ps.length→Rel n E {tmps:=tmps,defers:=[]}→
  Rel n {E with l:=putAll ps i args E.l} {tmps:=(ps.zip (args.drop i)).foldl (λtmps (t,a)=>tmps.setIfInBounds t a) tmps,defers:=[]}
 | [],_,_,E,tmps,_,_,h=>by simpa [putAll]using h
 |t::ps,i,args,E,tmps,hps,hlen,h=>by
  simp only[List.all_cons,Bool.and_eq_true]at hps
  simp only[List.length_cons]at hlen
  have hi:i<args.length:=by omega
  have hd:args.drop i=args[i]::args.drop (i+1):=List.drop_eq_getElem_cons hi
  have hg:args.getD i undef=args[i]:=by simp[hi]
  have h1:Rel n (E.put (some t) args[i]) (({tmps:=tmps,defers:=[]}:Act).put (some t) args[i]):=h.put (d:=some t) hps.1 _
  have:=rel_putAll ps (i+1) args (E.put (some t) args[i]) (tmps.setIfInBounds t args[i]) hps.2 (by omega) h1
  rw[hd]
  simpa only[putAll,Env.put,hg,List.zip_cons_cons,List.foldl_cons]using this
theorem zip_foldl(ps:Array Nat)(args:List Value)(tmps:Array Value):
  (ps.zip ⟨args⟩).foldl (λtmps (t,a)=>tmps.setIfInBounds t a) tmps=(ps.toList.zip args).foldl (λtmps (t,a)=>tmps.setIfInBounds t a) tmps:=by
 rw[←Array.foldl_toList]
 simp
theorem run_enterLoop_inner{P:Program}{w:World}{l0:Nat}{r:Loop}(h:w.heap[l0]? =some (.loop r))(fn:FuncId)(tmps:Array Value)(ps:Array Tmp)(assign body:Code):
  (Instr.enterLoop fn tmps ps assign body (some l0)).run P w=
   .ok (w.heap.size,[]) (w.alloc (.loop {state:=.ready,pending:=none,fn,tmps,params:=ps,assign,body,defers:=r.defers})):=by
 unfold Instr.enterLoop
 simp only[Sem.run_bind,run_getLoop h,Result.andThen,Sem.run_pure,run_newObj_alloc]
theorem vc_sound{P:Program}{jn:Bool}(hP:NoNum P=true){n:Nat}:∀(c:Code) (ro:Option Nat) (Q:Exit→Env→World→Prop) (Q' :Exit→Act→World→Prop) (E:Env) (a:Act) (w:World),
  okC P n c=true→Rel n E a→(∀e E a w,Rel n E a→Q e E w→Q' e a w)→vc P jn ro c Q E w→c.wpIn (FR ro) 0 P Q' a w:=by
 intro c
 induction c with
 |skip=>intro ro Q Q' E a w _ hr hq h;exact wpIn_skip (hq _ _ _ _ hr h)
 |region id ops draw=>
  intro ro Q Q' E a w hok hr hq h
  simp only[okC,Bool.and_eq_true]at hok
  cases draw with
  |false=>exact wpIn_region_list (vcList_sound (ops:=ops.toList) hP (hq .normal) ops.toList hok.1 E a w hr h)
  |true=>
   have hok2:=hok.2
   simp only[Bool.not_true,Bool.false_or,Bool.and_eq_true]at hok2
   refine wpIn_region_any hok2.1 ?_
   have:=vcD_sound (ro:=ro) (ops:=ops.toList) hP hok2.2 hok.1 (hq .normal) ops.size [] [] [] [] E a w.drew (ops.toList.length+1) (Array.replicate ops.size false)
    ⟨(λi=>by simp),(λi hi=>by cases hi),List.nodup_nil,trivial,(λi hi=>by cases hi),hr.size,hr.defs,(λt _=>hr.get t),(λi hi=>by cases hi)⟩
    (λi hi=>by simp at hi;simp[hi]) (by simp) (by simp) (by simpa using List.length_filter_le _ (List.range ops.size)) h
   simpa using this
 |seq x y ihx ihy=>
  intro ro Q Q' E a w hok hr hq h
  simp only[okC,Bool.and_eq_true]at hok
  simp only[vc]at h
  cases hj:jn&& joins x y with
  |true=>
   rw[hj]at h
   simp only[force_eq]at h
   obtain⟨J,hJ,hA⟩:=h.out
   simp only[Bool.and_eq_true]at hj
   have hrf:=joins_rf hj.2
   have hA' :=vc_mono x ro _ (λe E' w' =>(match e with| .normal=>J (tupOf E' (liveJ (dstsOf x) E.l (usesOf y))) w' |e=>Q e E' w')∧Fr (dstsOf x) E E' ∧E'.ds=E.ds) _ w hA
    (λe E' w' hf hd hQ=>⟨by cases e<;>exact hQ,hf,hd hrf⟩)
   refine wpIn_seq (ihx ro _ _ E a w hok.1 hr (λe E1 a1 w1 hr1 hQ=>?_) hA')
   obtain⟨hQ,hf,hd⟩:=hQ
   cases e with
   |normal=>exact ihy ro Q Q' _ a1 w1 hok.2 (headE_meet (λt ht hne=>liveJ_all ht hne) liveJ_sub hf hr1 hd) hq (hJ _ _ hQ _)
   |exit id=>exact hq _ _ _ _ hr1 hQ
   |goto id=>exact hq _ _ _ _ hr1 hQ
   |ret=>exact hq _ _ _ _ hr1 hQ
   |panic ch=>exact hq _ _ _ _ hr1 hQ
   |outgrown=>exact hq _ _ _ _ hr1 hQ
  |false=>
  rw[hj]at h
  refine wpIn_seq (ihx ro _ _ E a w hok.1 hr (λe E1 a1 w1 hr1 hQ=>?_) h)
  cases e with
  |normal=>exact ihy ro Q Q' E1 a1 w1 hok.2 hr1 hq hQ
  |exit id=>exact hq _ _ _ _ hr1 hQ
  |goto id=>exact hq _ _ _ _ hr1 hQ
  |ret=>exact hq _ _ _ _ hr1 hQ
  |panic ch=>exact hq _ _ _ _ hr1 hQ
  |outgrown=>exact hq _ _ _ _ hr1 hQ
 |cond c t f iht ihf=>
  intro ro Q Q' E a w hok hr hq h
  simp only[okC,Bool.and_eq_true]at hok
  simp only[vc,isB]at h
  split at h
  ·rename_i b hb
   have hb' :a.eval c=.bool b:=by rw[hr.ev];exact hb
   cases b with
   |true=>exact wpIn_cond hb' (iht ro Q Q' E a w hok.1 hr hq h)
   |false=>exact wpIn_cond hb' (ihf ro Q Q' E a w hok.2 hr hq h)
  ·exact h.elim
 |block id c ih=>
  intro ro Q Q' E a w hok hr hq h
  refine wpIn_block (ih ro _ _ E a w hok hr (λe E1 a1 w1 hr1 hQ=>?_) h)
  cases e with
  |exit i=>
   simp only at hQ
   cases hb:Nat.beq i id with
   |true=>
    rw[hb]at hQ
    simp only[bc]at hQ
    simp only[Exit.inBlock,Nat.eq_of_beq_eq_true hb,if_true]
    exact hq _ _ _ _ hr1 hQ
   |false=>
    rw[hb]at hQ
    have hne:¬i=id:=λe=>by subst e;simp at hb
    simp only[Exit.inBlock,hne,if_false]
    exact hq _ _ _ _ hr1 hQ
  |normal=>exact hq _ _ _ _ hr1 hQ
  |goto id=>exact hq _ _ _ _ hr1 hQ
  |ret=>exact hq _ _ _ _ hr1 hQ
  |panic ch=>exact hq _ _ _ _ hr1 hQ
  |outgrown=>exact hq _ _ _ _ hr1 hQ
 |loop c ih=>
  intro ro Q Q' E a w hok hr hq h
  simp only[vc,force_eq]at h
  cases hrf:hasRF c with
  |false=>
   rw[hrf]at h
   obtain⟨I,m,h0,h1⟩:=h.out
   refine wpIn_loop (λa w=>∃s g,Rel n (headE E (dstsOf c) (liveOf (dstsOf c) E.l []) s g E.ds) a∧I s w) (λa w=>m (tupOf (actE a) (liveOf (dstsOf c) E.l [])) w)
    ⟨_,E.g,hr.of_get headE_same rfl,h0⟩ ?_
   rintro a1 w1 ⟨s,g,hr1,hI⟩
   have hb:=vc_mono c ro _ (λe E' w' =>(match e with| .normal=>I (tupOf E' (liveOf (dstsOf c) E.l [])) w' ∧m (tupOf E' (liveOf (dstsOf c) E.l [])) w' <m s w1|e=>Q e E' w')∧Fr (dstsOf c) E E' ∧E'.ds=E.ds) _ w1 (h1 s w1 hI g)
    (λe E' w' hf hd hQ=>⟨by cases e<;>exact hQ,headE_fr.trans hf,hd hrf⟩)
   refine ih ro _ _ _ a1 w1 hok hr1 (λe E2 a2 w2 hr2 hQ=>?_) hb
   obtain⟨hQ,hf,hd⟩:=hQ
   cases e with
   |normal=>
    refine⟨⟨_,_,headE_again (E1:=E) hf hr2 hd,hQ.1⟩,?_⟩
    rw[tupOf_congr (hr2.actE.1),tupOf_congr (hr1.actE.1),tupOf_headE]
    exact hQ.2
   |exit id=>exact hq _ _ _ _ hr2 hQ
   |goto id=>exact hq _ _ _ _ hr2 hQ
   |ret=>exact hq _ _ _ _ hr2 hQ
   |panic ch=>exact hq _ _ _ _ hr2 hQ
   |outgrown=>exact hq _ _ _ _ hr2 hQ
  |true=>
   rw[hrf]at h
   obtain⟨I,m,h0,h1⟩:=h.out
   refine wpIn_loop (λa w=>∃s g,Rel n (headE E (dstsOf c) (liveOf (dstsOf c) E.l []) s.1 g s.2) a∧I s w) (λa w=>m (tupOf (actE a) (liveOf (dstsOf c) E.l []),(actE a).ds) w)
    ⟨(_,E.ds),E.g,hr.of_get headE_same rfl,h0⟩ ?_
   rintro a1 w1 ⟨s,g,hr1,hI⟩
   have hb:=vc_mono c ro _ (λe E' w' =>(match e with| .normal=>I (tupOf E' (liveOf (dstsOf c) E.l []),E'.ds) w' ∧m (tupOf E' (liveOf (dstsOf c) E.l []),E'.ds) w' <m s w1|e=>Q e E' w')∧Fr (dstsOf c) E E') _ w1 (h1 s w1 hI g)
    (λe E' w' hf hd hQ=>⟨by cases e<;>exact hQ,headE_fr.trans hf⟩)
   refine ih ro _ _ _ a1 w1 hok hr1 (λe E2 a2 w2 hr2 hQ=>?_) hb
   obtain⟨hQ,hf⟩:=hQ
   cases e with
   |normal=>
    refine⟨⟨(_,E2.ds),_,headE_again (E1:=E) hf hr2 rfl,hQ.1⟩,?_⟩
    rw[tupOf_congr (hr2.actE.1),tupOf_congr (hr1.actE.1),tupOf_headE,hr2.actE.2,hr1.actE.2]
    exact hQ.2
   |exit id=>exact hq _ _ _ _ hr2 hQ
   |goto id=>exact hq _ _ _ _ hr2 hQ
   |ret=>exact hq _ _ _ _ hr2 hQ
   |panic ch=>exact hq _ _ _ _ hr2 hQ
   |outgrown=>exact hq _ _ _ _ hr2 hQ
 |rangeFunc gv ps assign body iha ihb=>
  intro ro Q Q' E a w hok hr hq h
  simp only[okC,Bool.and_eq_true]at hok
  obtain⟨⟨hps,hoka⟩,hokb⟩:=hok
  simp only[vc,RFW_iff,RFD]at h
  split at h
  ·rename_i f first captured hgv
   have hgv' :a.eval gv=.func (.func f) first captured:=by rw[hr.ev];exact hgv
   have main:∀(w1:World) (D:Nat) (mk:List Nat) (fn:FuncId),
     (∀rec:Loop,rec.state=.ready→rec.pending=none→rec.defers=D→
      (∀(args:List Value) (W:World) (K:Kont),args.length=ps.toList.length→RecOf W w1.heap.size rec→
       vc P jn (some w1.heap.size) assign (λe E W=>match e with
        | .normal=>beginK w1.heap.size W λW=>vc P jn (some w1.heap.size) body (λe _ W=>match e with
         | .normal=>∃r,RecAt W w1.heap.size r∧K (.bool true) (W.putObj w1.heap.size (.loop {r with state:=.ready,pending:=none}))
         | .ret=>∃r,RecAt W w1.heap.size r∧K (.bool false) (W.putObj w1.heap.size (.loop {r with state:=.done,pending:=some .ret}))
         | .exit id=>∃r,RecAt W w1.heap.size r∧K (.bool false) (W.putObj w1.heap.size (.loop {r with state:=.done,pending:=some (.exit id)}))
         |_=>False) E W
        |_=>False) {E with l:=putAll ps.toList 0 args E.l,ds:=[]} W→
       Yl P w1.heap.size ⟨args⟩ W K)→
      Ca P f ⟨first.toList++(.func (.yield w1.heap.size) #[] #[]::captured.toList)⟩ (w1.alloc (.loop rec)) λ_ W=>
       ∃r,RecAt W w1.heap.size r∧r.state≠ .busy∧afterK (λW=>Q .normal {E with ds:=mk++E.ds} W) (λW=>Q .ret {E with ds:=mk++E.ds} W)
        (λid W=>Q (.exit id) {E with ds:=mk++E.ds} W) r.pending (W.putObj w1.heap.size (.loop {r with state:=.exhausted})))→
     let rc:Loop:={state:=.ready,pending:=none,fn,tmps:=a.tmps,params:=ps,assign,body,defers:=D}
     let a' :Act:={a with defers:=(mk.map λd=>{target:=.collected d,args:=#[]})++a.defers}
     CallsIn (FR ro) 0 P f ⟨first.toList++(.func (.yield w1.heap.size) #[] #[]::captured.toList)⟩ (w1.alloc (.loop rc)) (rangePost (FR ro) 0 P w1.heap.size Q' a')∧
      ∀w2,(callFunc f ⟨first.toList++(.func (.yield w1.heap.size) #[] #[]::captured.toList)⟩).run P w2=.ok (.enter f ⟨first.toList++(.func (.yield w1.heap.size) #[] #[]::captured.toList)⟩) w2:=by
    intro w1 D mk fn hh rc a'
    have hca:=hh rc rfl rfl rfl (λargs W K hlen hrec hrnd=>by
     obtain⟨st,pend,hat⟩:=hrec
     refine⟨_,_,_,_,run_yield hat (by simpa using hlen),?_⟩
     refine roundIn_of_wpIn (F:=Fence.wide) trivial ?_
     have hrel:Rel n {E with l:=putAll ps.toList 0 args E.l,ds:=[]} {tmps:=(ps.zip ⟨args⟩).foldl (λtmps (t,a)=>tmps.setIfInBounds t a) a.tmps,defers:=[]}:=by
      rw[zip_foldl]
      exact rel_putAll ps.toList 0 args {E with ds:=[]} a.tmps hps (by simpa using hlen) ⟨hr.size,hr.get,rfl⟩
     refine iha (some w1.heap.size) _ _ _ _ W hoka hrel (λe E1 a1 W1 hr1 hQ=>?_) hrnd
     cases e with
     |normal=>
      obtain⟨r,hra,hst,hbody⟩:=hQ.out
      refine⟨_,run_beginRound hra hst,?_⟩
      refine ihb (some w1.heap.size) _ _ E1 a1 _ hokb hr1 (λe E2 a2 W2 hr2 hQ2=>?_) hbody
      cases e with
      |normal=>
       obtain⟨r2,hra2,hK⟩:=hQ2
       exact⟨_,_,run_endRound none hra2,_,rfl,hK⟩
      |ret=>
       obtain⟨r2,hra2,hK⟩:=hQ2
       exact⟨_,_,run_endRound _ hra2,_,rfl,hK⟩
      |exit id=>
       obtain⟨r2,hra2,hK⟩:=hQ2
       exact⟨_,_,run_endRound _ hra2,_,rfl,hK⟩
      |goto id=>exact hQ2.elim
      |panic ch=>exact hQ2.elim
      |outgrown=>exact hQ2.elim
     |exit id=>exact hQ.elim
     |goto id=>exact hQ.elim
     |ret=>exact hQ.elim
     |panic ch=>exact hQ.elim
     |outgrown=>exact hQ.elim)
    refine⟨FR.calls (Calls.mono hca.out ?_),λw2=>run_callFunc_of hP hca⟩
    rintro e W ⟨v,rfl,r,hra,hb,haft⟩
    refine⟨_,_,run_endLoop hra hb,?_⟩
    have hr' :Rel n {E with ds:=mk++E.ds} a' :=⟨hr.size,hr.get,by simp only[a',hr.defs,List.map_append]⟩
    generalize W.putObj w1.heap.size (.loop {r with state:=.exhausted})=W4 at haft⊢
    unfold afterK at haft
    split at haft
    ·rename_i hp;rw[hp];exact hq _ _ _ _ hr' haft
    ·rename_i hp;rw[hp];exact wpIn_ret (hq _ _ _ _ hr' haft)
    ·rename_i hp;rw[hp];exact wpIn_exit (hq _ _ _ _ hr' haft)
    ·exact haft.elim
   refine wpIn_rangeFunc λfn _=>?_
   have hinv:∀l:Nat,(do let d←resolve a.eval (rangeCall gv l) 0;invoke d.target d.args:Sem Next)=callFunc f ⟨first.toList++(.func (.yield l) #[] #[]::captured.toList)⟩:=by
    intro l
    have e1:resolve a.eval (rangeCall gv l) 0=Deferred.ofValue (a.eval gv) #[.func (.yield l) #[] #[]]:=by simp[resolve,Act.eval]
    rw[e1,hgv']
    have e2:(do let d←Deferred.ofValue (.func (.func f) first captured) #[.func (.yield l) #[] #[]];invoke d.target d.args:Sem Next)=callFunc f (first++ #[.func (.yield l) #[] #[]]++captured):=rfl
    rw[e2]
    congr 1
    apply Array.ext';simp
   have hres:∀(l:Nat) (w1:World),(resolve a.eval (rangeCall gv l) 0).run P w1=.ok {target:=.fn (.func f) captured,args:=first++ #[.func (.yield l) #[] #[]]} w1:=by
    intro l w1
    have e1:resolve a.eval (rangeCall gv l) 0=Deferred.ofValue (a.eval gv) #[.func (.yield l) #[] #[]]:=by simp[resolve,Act.eval]
    rw[e1,hgv'];rfl
   have hinv2:∀l:Nat,(invoke (.fn (.func f) captured) (first++ #[.func (.yield l) #[] #[]]):Sem Next)=callFunc f ⟨first.toList++(.func (.yield l) #[] #[]::captured.toList)⟩:=by
    intro l
    have e2:(invoke (.fn (.func f) captured) (first++ #[.func (.yield l) #[] #[]]):Sem Next)=callFunc f (first++ #[.func (.yield l) #[] #[]]++captured):=rfl
    rw[e2]
    congr 1
    apply Array.ext';simp
   cases ro with
   |none=>
    have hm:=main (w.alloc (.deferred (some []))) w.heap.size [w.heap.size] fn h
    obtain⟨W1,hW1⟩:∃W1,W1=(w.alloc (.deferred (some []))).alloc (.loop {state:=.ready,pending:=none,fn,tmps:=a.tmps,params:=ps,assign,body,defers:=w.heap.size}):=⟨_,rfl⟩
    have hm1:=hm.1
    have hm2:=hm.2 W1
    rw[World.size_alloc]at hm1 hm2
    refine⟨w.heap.size+1,[{target:=.collected w.heap.size,args:=#[]}],W1,_,W1,f,⟨first.toList++(.func (.yield (w.heap.size+1)) #[] #[]::captured.toList)⟩,W1,?_,hres _ _,λ_ _=>FR.fn none _,?_,(λhh=>by rw[FR.depth]at hh;cases hh),?_⟩
    ·rw[hW1];exact run_enterLoop_outer fn a.tmps ps assign body
    ·rw[hinv2];exact hm2
    ·rw[hW1];exact hm1
   |some l0=>
    obtain⟨r0,hr0,h⟩:=h
    have hm:=main w r0.defers [] fn h
    obtain⟨W1,hW1⟩:∃W1,W1=w.alloc (.loop {state:=.ready,pending:=none,fn,tmps:=a.tmps,params:=ps,assign,body,defers:=r0.defers}):=⟨_,rfl⟩
    refine⟨w.heap.size,[],W1,_,W1,f,⟨first.toList++(.func (.yield w.heap.size) #[] #[]::captured.toList)⟩,W1,?_,hres _ _,λ_ _=>FR.fn (some l0) _,?_,(λhh=>by rw[FR.depth]at hh;cases hh),?_⟩
    ·rw[FR.round,hW1];exact run_enterLoop_inner hr0 fn a.tmps ps assign body
    ·rw[hinv2];exact hm.2 _
    ·rw[hW1];exact hm.1
  ·exact h.elim
 |exit id=>intro ro Q Q' E a w _ hr hq h;exact wpIn_exit (hq _ _ _ _ hr h)
 |scope c ih=>
  intro ro Q Q' E a w hok hr hq h
  cases ro with
  |some l=>exact h.elim
  |none=>
   show Code.wpIn Fence.wide 0 P _ _ _ _
   refine wpIn_wide.2 (wp_scope_straight ((wpIn_wide (n:=0)).1 ?_))
   refine ih none (λe E w=>match e with| .goto _=>False|e=>Q e E w) (Exit.noGoto Q') E a w hok hr (λe E1 a1 w1 hr1 hQ=>?_) h
   cases e with
   |goto l=>exact hQ.elim
   |exit id=>exact hq _ _ _ _ hr1 hQ
   |normal=>exact hq _ _ _ _ hr1 hQ
   |ret=>exact hq _ _ _ _ hr1 hQ
   |panic ch=>exact hq _ _ _ _ hr1 hQ
   |outgrown=>exact hq _ _ _ _ hr1 hQ
 |label l=>intro ro Q Q' E a w _ hr hq h;exact wpIn_label (hq _ _ _ _ hr h)
 |goto l=>intro ro Q Q' E a w _ hr hq h;exact h.elim
 |ret=>intro ro Q Q' E a w _ hr hq h;exact wpIn_ret (hq _ _ _ _ hr h)
 |refuse why=>intro ro Q Q' E a w _ hr hq h;exact h.elim
def retD:List Nat→World→(World→Prop)→Prop
 | [],w,K=>K w
 |d::ds,w,K=>w.heap[d]? =some (.deferred (some []))∧retD ds (w.putObj d (.deferred none)) K
def resK(P:Program):List ResultVar→Env→World→(List Value→Prop)→Prop
 | [],_,_,K=>K []
 | .tmp t::r,E,w,K=>resK P r E w λvs=>K (E.get t::vs)
 | .cell a t::r,E,w,K=>match bigT P t with
  |true=>rdX P (bigS t (E.get a)) w λv=>resK P r E w λvs=>K (v::vs)
  |false=>rdW P (Instr.loadAt t (E.get a)) w λv=>resK P r E w λvs=>K (v::vs)
def packV:List Value→Value
 | [v]=>v
 |vs=>.tuple ⟨vs⟩
def args0:Nat→List Value→List (Nat×Option Value)
 |_,[]=>[]
 |i,v::r=>(i,some v)::args0 (i+1) r
def vcFnB(P:Program)(jn:Bool)(fn:Func)(args:List Value)(w:World)(K:Kont):Prop:=
 match fn.body with
 |none=>False
 |some c=>vc P jn none c (λe E w=>match e with
   | .normal=>retD E.ds w λw=>resK P fn.results.toList E w λvs=>K (packV vs) w
   | .ret=>retD E.ds w λw=>resK P fn.results.toList E w λvs=>K (packV vs) w
   |_=>False) {l:=args0 0 args,g:=λ_=>undef,ds:=[]} w
def vcFnJ(P:Program)(fn:Func)(args:List Value)(w:World)(K:Kont):Prop:=vcFnB P true fn args w K
def okF(P:Program)(fn:Func)(k:Nat):Bool:=
 Nat.ble k fn.ntmps&& match fn.body with
 |none=>false
 |some c=>okC P fn.ntmps c
theorem look_args0(t:Nat):∀(l:List Value) (i:Nat),Env.look (args0 i l) t=if i≤t then(l[t - i]?).map some else none
 | [],i=>by simp[args0,Env.look]
 |v::r,i=>by
  simp only[args0,Env.look]
  cases hb:Nat.beq i t with
  |true=>have:=Nat.eq_of_beq_eq_true hb;subst this;simp
  |false=>
   have hne:i≠t:=λe=>by subst e;simp at hb
   simp only[cond_false]
   rw[look_args0 t r (i+1)]
   by_cases h:i+1≤t
   ·have h2:i≤t:=by omega
    have h3:t - i=(t - (i+1))+1:=by omega
    simp[h,h2,h3]
   ·have h2:¬i≤t:=by omega
    simp[h,h2]
theorem rel_args0(args:List Value)(n:Nat)(h:args.length≤n):
  Rel n {l:=args0 0 args,g:=λ_=>undef,ds:=[]} {tmps:=(⟨args⟩:Array Value)++Array.replicate (n - args.length) undef,defers:=[]}:=by
 refine⟨by simp;omega,λt=>?_,rfl⟩
 unfold Env.get
 rw[look_args0]
 simp only[Nat.zero_le,if_true,Nat.sub_zero]
 by_cases ht:t<args.length
 ·rw[Array.getD_eq_getD_getElem?,Array.getElem?_append_left (by simpa using ht)]
  simp[List.getElem?_eq_getElem ht]
 ·rw[List.getElem?_eq_none (by omega)]
  rw[Array.getD_eq_getD_getElem?,Array.getElem?_append_right (by simpa using Nat.le_of_not_lt ht)]
  simp only[Option.map_none]
  cases hh:(Array.replicate (n - args.length) undef)[t - (⟨args⟩:Array Value).size]? with
  |none=>rfl
  |some v=>
   have:=(Array.getElem?_eq_some_iff.1 hh).2
   simp at this
   simp[this]
def resSem(tmps:Array Value):ResultVar→Sem Value
 | .tmp t=>pure (tmps.getD t undef)
 | .cell a t=>do loadVar t (←asAddr (tmps.getD a undef))
theorem resK_run{P:Program}{tmps:Array Value}{E:Env}{w:World}(hg:∀t,tmps.getD t undef=E.get t):∀(rs:List ResultVar) (K:List Value→Prop),resK P rs E w K→
  ∃vs,(rs.mapM (resSem tmps)).run P w=.ok vs w∧K vs
 | [],K,h=>⟨[],rfl,h⟩
 | .tmp t::r,K,h=>by
  obtain⟨vs,h1,h2⟩:=resK_run hg r _ h
  refine⟨_,?_,h2⟩
  have hl:(resSem tmps (.tmp t)).run P w=.ok (E.get t) w:=by rw[←hg];rfl
  simp only[List.mapM_cons,Sem.run_bind,Sem.run_pure,Result.andThen,hl,h1]
 | .cell a t::r,K,h=>by
  have h:rdW P (Instr.loadAt t (E.get a)) w λv=>resK P r E w λvs=>K (v::vs):=by
   simp only[resK]at h
   cases hb:bigT P t with
   |true=>rw[hb]at h;exact h.out
   |false=>rw[hb]at h;exact h
  simp only[rdW_iff,rdWD]at h
  split at h
  ·rename_i v w' hr
   obtain⟨rfl,h⟩:=h
   obtain⟨vs,h1,h2⟩:=resK_run hg r _ h
   refine⟨_,?_,h2⟩
   have hl:(resSem tmps (.cell a t)).run P w' =.ok v w' :=by
    have e0:resSem tmps (.cell a t)=(do loadVar t (←asAddr (tmps.getD a undef))):=rfl
    rw[e0,hg]
    unfold Instr.loadAt at hr
    cases hv:E.get a<;>rw[hv]at hr<;>first|(simp[Instr.sureAddr,stuck,Sem.run_bind,Sem.run,Result.andThen]at hr;done)|skip
    rename_i p
    cases p with
    |none=>simp[Instr.sureAddr,stuck,Sem.run_bind,Sem.run,Result.andThen]at hr
    |some p=>
     simp only[Instr.sureAddr,asAddr,Sem.run_bind,Sem.run_pure,Result.andThen]at hr⊢
     exact hr
   simp only[List.mapM_cons,Sem.run_bind,Sem.run_pure,Result.andThen,hl,h1]
  ·exact h.elim
theorem results_eq(fn:Func)(tmps:Array Value):results fn tmps=(do
  let vs←fn.results.mapM (resSem tmps)
  pure (if h:vs.size=1 then vs[0]else .tuple vs)):=by
 unfold results
 congr 1
theorem leaves_of{P:Program}{fn:Func}{tmps:Array Value}{E:Env}{K:Kont}(hg:∀t,tmps.getD t undef=E.get t):∀(ds:List Nat) (w:World),
  retD ds w (λw=>resK P fn.results.toList E w λvs=>K (packV vs) w)→
  LeavesInM Fence.wide 0 P fn tmps (λe w' =>∃v,e=.returned v∧K v w') (ds.map λd=>{target:=.collected d,args:=#[]}) .returning w
 | [],w,h=>by
  obtain⟨vs,h1,h2⟩:=resK_run hg _ _ h
  refine⟨packV vs,?_,_,rfl,h2⟩
  rw[results_eq,Array.mapM_eq_mapM_toList]
  simp only[Sem.run_bind,Sem.run_map,h1,Result.andThen,Sem.run_pure]
  congr 1
  match vs with
  | []=>rfl
  | [v]=>rfl
  |v::u::r=>simp[packV]
 |d::ds,w,h=>by
  refine⟨by simp,.inl ⟨d,_,rfl,run_takeDeferred h.1,leaves_of hg ds _ h.2⟩⟩
theorem ca_of_vcB{P:Program}{jn:Bool}(hP:NoNum P=true){f:FuncId}{fn:Func}{args:List Value}{w:World}{K:Kont}(hf:P.funcs[f]? =some fn)(hok:okF P fn args.length=true)
  (h:vcFnB P jn fn args w K):Ca P f ⟨args⟩ w K:=by
 unfold okF at hok
 unfold vcFnB at h
 simp only[Bool.and_eq_true]at hok
 obtain⟨hlen,hok⟩:=hok
 cases hb:fn.body with
 |none=>rw[hb]at h;exact h.elim
 |some c=>
  rw[hb]at h hok
  refine⟨(callsIn_wide (n:=0)).1 (callsIn_of_wp_marks hf hb trivial ?_ rfl)⟩
  have hrel:=rel_args0 args fn.ntmps (by simpa [Nat.ble_eq]using hlen)
  refine vc_sound (n:=fn.ntmps) hP c none _ _ _ _ w hok hrel (λe E a w' hr hQ=>?_) h
  cases e with
  |normal=>have hh:=leaves_of (K:=K) hr.get _ _ hQ;rw[←hr.defs]at hh;exact hh
  |ret=>have hh:=leaves_of (K:=K) hr.get _ _ hQ;rw[←hr.defs]at hh;exact hh
  |exit id=>exact hQ.elim
  |goto id=>exact hQ.elim
  |panic ch=>exact hQ.elim
  |outgrown=>exact hQ.elim
theorem ca_of_vcJ{P:Program}(hP:NoNum P=true){f:FuncId}{fn:Func}{args:List Value}{w:World}{K:Kont}(hf:P.funcs[f]? =some fn)(hok:okF P fn args.length=true)
  (h:vcFnJ P fn args w K):Ca P f ⟨args⟩ w K:=ca_of_vcB hP hf hok h
end Go.Vc
namespace Go.Vc
open Go
@[simp,go_sem] theorem ifB_bool (b:Bool) (T F:Prop):ifB (.bool b) T F↔if b=true then T else F:=by cases b<;>simp[ifB,isB,bc]
@[simp,go_sem] theorem isB_bool (b:Bool) (K:Bool→Prop):isB (.bool b) K↔K b:=Iff.rfl
@[simp,go_sem] theorem nilK_ptr (a:Addr) (K:Value→Prop):nilK (.pointer (some a)) K↔K (.pointer (some a)):=Iff.rfl
@[simp,go_sem] theorem bc_if (b:Bool) (T F:Prop):bc b T F↔if b=true then T else F:=by cases b<;>simp[bc]
@[simp,go_sem] theorem selV_if (b:Bool) (x y:Value):selV b x y=if b=true then x else y:=by cases b<;>rfl
theorem rv_congr{P:Program}{s s' :Sem Value}{w w' :World}{K:Kont}(h1:s=s')(h2:w=w'):rv P s w K=rv P s' w' K:=by rw[h1,h2]
theorem ru_congr{P:Program}{s s' :Sem Unit}{w w' :World}{K:World→Prop}(h1:s=s')(h2:w=w'):ru P s w K=ru P s' w' K:=by rw[h1,h2]
theorem rn_congr{P:Program}{s s' :Sem Next}{w w' :World}{K:Kont}(h1:s=s')(h2:w=w'):rn P s w K=rn P s' w' K:=by rw[h1,h2]
theorem rdW_congr{P:Program}{s s' :Sem Value}{w w' :World}{K:Value→Prop}(h1:s=s')(h2:w=w'):rdW P s w K=rdW P s' w' K:=by rw[h1,h2]
theorem rdP_congr{P:Program}{s s' :Sem Value}{K:Value→Prop}(h1:s=s'):rdP P s K=rdP P s' K:=by rw[h1]
theorem Ca_congr{P:Program}{f:FuncId}{a a' :Array Value}{w w' :World}{K:Kont}(h1:a=a')(h2:w=w'):Ca P f a w K=Ca P f a' w' K:=by rw[h1,h2]
theorem callV_congr{P:Program}{f f' :Value}{a a' :List Value}{w w' :World}{K:Kont}(h0:f=f')(h1:a=a')(h2:w=w'):callV P f a w K=callV P f' a' w' K:=by rw[h0,h1,h2]
theorem nilK_congr{v v' :Value}{K:Value→Prop}(h:v=v'):nilK v K=nilK v' K:=by rw[h]
theorem isB_congr{v v' :Value}{K:Bool→Prop}(h:v=v'):isB v K=isB v' K:=by rw[h]
theorem ifB_congr{v v' :Value}{T F:Prop}(h:v=v'):ifB v T F=ifB v' T F:=by rw[h]
theorem LoopW_congr{S:Type}{body:S→World→(S→World→Prop)→Prop}{s s' :S}{w w' :World}(h1:s=s')(h2:w=w'):LoopW body s w=LoopW body s' w' :=by rw[h1,h2]
theorem rx_congr{P:Program}{s s' :Sem Value}{w w' :World}{K:Kont}(h1:s=s')(h2:w=w'):rx P s w K=rx P s' w' K:=by rw[h1,h2]
theorem rux_congr{P:Program}{s s' :Sem Unit}{w w' :World}{K:World→Prop}(h1:s=s')(h2:w=w'):rux P s w K=rux P s' w' K:=by rw[h1,h2]
theorem rdX_congr{P:Program}{s s' :Sem Value}{w w' :World}{K:Value→Prop}(h1:s=s')(h2:w=w'):rdX P s w K=rdX P s' w' K:=by rw[h1,h2]
theorem rdPX_congr{P:Program}{s s' :Sem Value}{K:Value→Prop}(h1:s=s'):rdPX P s K=rdPX P s' K:=by rw[h1]
attribute [congr] rx_congr rux_congr rdX_congr rdPX_congr rv_congr ru_congr rn_congr rdW_congr rdP_congr Ca_congr callV_congr nilK_congr isB_congr ifB_congr LoopW_congr
attribute [go_sem] rv_iff rvD ru_iff ruD rn_iff rnD rdW_iff rdWD rdP_iff rdPD bin eqG
@[go_sem] theorem callV_func {P:Program} {f:FuncId} {first captured:Array Value} {args:List Value} {w:World} {K:Kont}:callV P (.func (.func f) first captured) args w K↔Ca P f ⟨first.toList++(args++captured.toList)⟩ w K:=callV_iff
def isMapT(P:Program)(t:TypeId):Bool:=match P.underlying t with|some (.map ..)=>true|_=>false
def isSliceT(P:Program)(t:TypeId):Bool:=match P.underlying t with|some (.slice ..)=>true|_=>false
@[go_sem] theorem isMapT_iff {P:Program} {t:TypeId}:isMapT P t=true↔∃k e,P.underlying t=some (.map k e):=by
 unfold isMapT
 split<;>simp_all
@[go_sem] theorem isSliceT_iff {P:Program} {t:TypeId}:isSliceT P t=true↔∃e,P.underlying t=some (.slice e):=by
 unfold isSliceT
 split<;>simp_all
@[go_sem] theorem vc_eql_map_nil {P:Program} {w:World} (t:TypeId) (m:Option Nat) (h:isMapT P t=true):(binOp .eql t (.map m) (.map none)).run P w=.ok (.bool m.isNone) w:=by
 obtain⟨k,e,h⟩:=isMapT_iff.1 h
 simp only[binOp]
 simp[run_equal_map_nil w t k e m h]
@[go_sem] theorem vc_neq_map_nil {P:Program} {w:World} (t:TypeId) (m:Option Nat) (h:isMapT P t=true):(binOp .neq t (.map m) (.map none)).run P w=.ok (.bool (!m.isNone)) w:=by
 obtain⟨k,e,h⟩:=isMapT_iff.1 h
 simp only[binOp]
 simp[run_equal_map_nil w t k e m h]
@[go_sem] theorem vc_eql_slice_nil {P:Program} {w:World} (t:TypeId) (a:Option Addr) (l c:Nat) (h:isSliceT P t=true):(binOp .eql t (.slice a l c) (.slice none 0 0)).run P w=.ok (.bool a.isNone) w:=by
 obtain⟨e,h⟩:=isSliceT_iff.1 h
 simp only[binOp]
 simp[run_equal_slice_nil w t e a l c h]
@[go_sem] theorem vc_neq_slice_nil {P:Program} {w:World} (t:TypeId) (a:Option Addr) (l c:Nat) (h:isSliceT P t=true):(binOp .neq t (.slice a l c) (.slice none 0 0)).run P w=.ok (.bool (!a.isNone)) w:=by
 obtain⟨e,h⟩:=isSliceT_iff.1 h
 simp only[binOp]
 simp[run_equal_slice_nil w t e a l c h]
@[go_sem] theorem vc_makeMap {P:Program} {w:World} (t:TypeId):(Instr.makeMap t none).run P w=.ok (.map (some w.heap.size)) (w.alloc (.map #[] 0)):=by
 simp[Instr.makeMap]
@[go_sem] theorem vc_makeMap_hint {P:Program} {w:World} (t:TypeId) (k:IntKind) (n:Int) (h:isMapT P t=true):(Instr.makeMap t (some (.int k n))).run P w=.ok (.map (some w.heap.size)) (w.alloc (.map #[] 0)):=by
 obtain⟨k,e,h⟩:=isMapT_iff.1 h
 simp[Instr.makeMap,run_underlying h,asInt,asIntOf,Result.andThen]
def setObj1(o:Option Obj)(i:Nat)(v:Value):Option Obj:=
 match o with
 |some (.cells c t fz)=>some (.cells (c.setIfInBounds i v) t fz)
 |o=>o
@[simp] theorem setObj1_cells (c:Array Value) (t:TypeId) (fz:Nat×Nat) (i:Nat) (v:Value):setObj1 (some (.cells c t fz)) i v=some (.cells (c.setIfInBounds i v) t fz):=rfl
theorem heap_setCell(w:World)(b i:Nat)(v:Value)(b' :Nat):(w.setCell ⟨b,i,none⟩ v).heap[b']? =if b' =b then setObj1 w.heap[b]? i v else w.heap[b']? :=by
 unfold World.setCell
 simp only[Option.isSome_none,Bool.false_eq_true,if_false]
 rw[Array.getElem?_modify]
 by_cases h:b=b'
 ·subst h
  simp only[if_true]
  cases hh:w.heap[b]? with
  |none=>rfl
  |some o=>cases o<;>rfl
 ·rw[if_neg h,if_neg (λe=>h e.symm)]
theorem heap_alloc(w:World)(o:Obj)(b' :Nat):(w.alloc o).heap[b']? =if b' =w.heap.size then some o else w.heap[b']? :=by
 show(w.heap.push o)[b']? =_
 rw[Array.getElem?_push]
theorem heap_putObj(w:World)(b:Nat)(o:Obj)(b' :Nat):(w.putObj b o).heap[b']? =if b' =b then(w.heap[b]?).map (λ_=>o)else w.heap[b']? :=by
 unfold World.putObj
 simp only
 rw[Array.getElem?_setIfInBounds]
 by_cases h:b=b'
 ·subst h
  simp only[if_true]
  by_cases hlt:b<w.heap.size
  ·simp[hlt]
  ·simp[hlt]
 ·rw[if_neg h,if_neg (λe=>h e.symm)]
theorem size_setCell(w:World)(a:Addr)(v:Value):(w.setCell a v).heap.size=w.heap.size:=by simp[World.setCell]
theorem lt_of_heap{w:World}{b:Nat}{o:Obj}(h:w.heap[b]? =some o):b<w.heap.size:=(Array.getElem?_eq_some_iff.1 h).1
def hp(w:World)(b:Nat):Option Obj:=w.heap[b]?
theorem hp_of{w:World}{b:Nat}{o:Option Obj}(h:w.heap[b]? =o):hp w b=o:=h
@[go_sem] theorem cell_hp (w:World) (a:Addr):w.cell? a=match hp w a.block with|some (.cells c _ _)=>if a.spot.isSome then none else c[a.off]? |_=>none:=rfl
@[go_sem] theorem frozen_hp (w:World) (a:Addr):w.frozen? a=match hp w a.block with|some (.cells _ _ (lo,hi))=>lo≤a.off&& a.off<hi|_=>false:=rfl
@[go_sem] theorem hp_setCell (w:World) (b i:Nat) (v:Value) (b' :Nat):hp (w.setCell ⟨b,i,none⟩ v) b' =if b' =b then setObj1 (hp w b) i v else hp w b' :=heap_setCell w b i v b'
@[go_sem] theorem hp_alloc (w:World) (o:Obj) (b' :Nat):hp (w.alloc o) b' =if b' =w.heap.size then some o else hp w b' :=heap_alloc w o b'
@[go_sem] theorem hp_putObj (w:World) (b:Nat) (o:Obj) (b' :Nat):hp (w.putObj b o) b' =if b' =b then(hp w b).map (λ_=>o)else hp w b' :=heap_putObj w b o b'
@[go_sem] theorem hp_drew (w:World) (b:Nat):hp w.drew b=hp w b:=rfl
attribute [go_sem] size_setCell World.size_alloc World.putObj_size
@[go_sem] theorem size_drew (w:World):w.drew.heap.size=w.heap.size:=rfl
theorem olds{d n:Nat}(h:d<n):¬d=n∧(∀k,¬d=n+k)∧¬n=d∧∀k,¬n+k=d:=⟨by omega,λk=>by omega,by omega,λk=>by omega⟩
@[go_sem] theorem add_lit (n a b:Nat):n+a+b=n+(a+b):=Nat.add_assoc n a b
structure Mod(F:Nat→Prop)(w w' :World):Prop where
 size:w.heap.size≤w'.heap.size
 out:w'.output=w.output
 os:w'.os=w.os
 blk:∀b,b<w.heap.size→¬F b→w'.heap[b]? =w.heap[b]?
theorem Mod.refl(F:Nat→Prop)(w:World):Mod F w w:=⟨Nat.le_refl _,rfl,rfl,λ_ _ _=>rfl⟩
theorem Mod.trans{F:Nat→Prop}{w w1 w2:World}(h:Mod F w w1)(h' :Mod F w1 w2):Mod F w w2:=
 ⟨Nat.le_trans h.size h'.size,h'.out.trans h.out,h'.os.trans h.os,λb hb hf=>(h'.blk b (Nat.lt_of_lt_of_le hb h.size) hf).trans (h.blk b hb hf)⟩
theorem Mod.mono{F G:Nat→Prop}{w w' :World}(h:Mod F w w')(hs:∀b,b<w.heap.size→F b→G b):Mod G w w' :=
 ⟨h.size,h.out,h.os,λb hb hg=>h.blk b hb λhf=>hg (hs b hb hf)⟩
theorem Mod.alloc{F:Nat→Prop}{w w' :World}(h:Mod F w w')(o:Obj):Mod F w (w'.alloc o):=
 ⟨by rw[World.size_alloc];exact Nat.le_succ_of_le h.size,h.out,h.os,λb hb hf=>by
  rw[heap_alloc,if_neg (by have:=h.size;omega)];exact h.blk b hb hf⟩
theorem Mod.drew{F:Nat→Prop}{w w' :World}(h:Mod F w w'):Mod F w w'.drew:=⟨h.size,h.out,h.os,h.blk⟩
theorem Mod.setCell{F:Nat→Prop}{w w' :World}(h:Mod F w w'){b:Nat}(hb:F b∨w.heap.size≤b)(i:Nat)(v:Value):Mod F w (w'.setCell ⟨b,i,none⟩ v):=
 ⟨by rw[size_setCell];exact h.size,h.out,h.os,λb' hb' hf=>by
  rw[heap_setCell,if_neg (λe=>by subst e;rcases hb with hb|hb;exact hf hb;omega)];exact h.blk b' hb' hf⟩
theorem Mod.putObj{F:Nat→Prop}{w w' :World}(h:Mod F w w'){b:Nat}(hb:F b∨w.heap.size≤b)(o:Obj):Mod F w (w'.putObj b o):=
 ⟨by rw[World.putObj_size];exact h.size,h.out,h.os,λb' hb' hf=>by
  rw[heap_putObj,if_neg (λe=>by subst e;rcases hb with hb|hb;exact hf hb;omega)];exact h.blk b' hb' hf⟩
theorem Mod.on{F G:Nat→Prop}{w w1 w2:World}(h:Mod F w w1)(h' :Mod G w1 w2)(hG:∀b,G b→F b∨w.heap.size≤b):Mod F w w2:=
 ⟨Nat.le_trans h.size h'.size,h'.out.trans h.out,h'.os.trans h.os,λb hb hf=>(h'.blk b (Nat.lt_of_lt_of_le hb h.size) λhg=>(hG b hg).elim hf (by omega)).trans (h.blk b hb hf)⟩
theorem Mod.keep{F:Nat→Prop}{w w' :World}(h:Mod F w w'){b:Nat}{o:Obj}(ho:w.heap[b]? =some o)(hf:¬F b):w'.heap[b]? =some o:=
 (h.blk b (lt_of_heap ho) hf).trans ho
end Go.Vc
