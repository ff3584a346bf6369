/-
  A computed calculus of preconditions for the model's code: from a function's body to a formula without frames, by reduction alone; its soundness over the guide's 'wpIn'.
  Conditions: none; nothing here speaks of a program.
-/
import Derived.CallsIn
import Derived.OrdersIn
import Derived.RangeFuncIn
import Derived.RangeFuncLeaves
import Derived.KernelRfl
import Derived.Laws.Sem
import Derived.Laws.World
import Derived.RangeFuncRecord
set_option linter.unusedVariables false
set_option linter.unusedSimpArgs false
namespace Go.Vc
open Go

abbrev Kont := Value → World → Prop

/-- The call returns, and K holds of what it hands back and of the world behind it. -/
structure Ca (P : Program) (f : FuncId) (args : Array Value) (w : World) (K : Kont) : Prop where
  out : Calls P f args w fun e w' => ∃ v, e = .returned v ∧ K v w'

theorem Ca.mono {P : Program} {f : FuncId} {args : Array Value} {w : World} {K K' : Kont} (h : Ca P f args w K) (hk : ∀ v w', K v w' → K' v w') : Ca P f args w K' :=
  ⟨Calls.mono h.out fun _ _ ⟨v, he, hv⟩ => ⟨v, he, hk _ _ hv⟩⟩

/-- A call of yield: one round of the loop 'l'. -/
def Yl (P : Program) (l : Nat) (args : Array Value) (w : World) (K : Kont) : Prop :=
  ∃ fn tmps assign body, (Instr.yield l args).run P w = .ok (.round l fn tmps assign body) w ∧
    RoundIn Fence.wide 0 P l fn tmps assign body w fun e w' => ∃ v, e = .returned v ∧ K v w'

theorem Yl.mono {P : Program} {l : Nat} {args : Array Value} {w : World} {K K' : Kont} (h : Yl P l args w K) (hk : ∀ v w', K v w' → K' v w') : Yl P l args w K' :=
  let ⟨fn, tmps, a, b, h1, h2⟩ := h
  ⟨fn, tmps, a, b, h1, h2.mono fun _ _ ⟨v, he, hv⟩ => ⟨v, he, hk _ _ hv⟩⟩

/-- An instruction that yields a value. -/
def rvD (P : Program) (s : Sem Value) (w : World) (K : Kont) : Prop :=
  match s.run P w with
  | .ok v w' => K v w'
  | .halt _ _ => False
structure rv (P : Program) (s : Sem Value) (w : World) (K : Kont) : Prop where
  out : rvD P s w K
theorem rv_iff {P : Program} {s : Sem Value} {w : World} {K : Kont} : rv P s w K ↔ rvD P s w K := ⟨rv.out, rv.mk⟩
/-- An instruction that yields nothing. -/
def ruD (P : Program) (s : Sem Unit) (w : World) (K : World → Prop) : Prop :=
  match s.run P w with
  | .ok _ w' => K w'
  | .halt _ _ => False
structure ru (P : Program) (s : Sem Unit) (w : World) (K : World → Prop) : Prop where
  out : ruD P s w K
theorem ru_iff {P : Program} {s : Sem Unit} {w : World} {K : World → Prop} : ru P s w K ↔ ruD P s w K := ⟨ru.out, ru.mk⟩
/-- The same, of operations that have rules of their own. -/
structure rx (P : Program) (s : Sem Value) (w : World) (K : Kont) : Prop where
  out : rv P s w K
structure rux (P : Program) (s : Sem Unit) (w : World) (K : World → Prop) : Prop where
  out : ru P s w K
/-- Any operation. -/
def rnD (P : Program) (s : Sem Next) (w : World) (K : Kont) : Prop :=
  match s.run P w with
  | .ok (.value v) w' => K v w'
  | .ok .skip w' => K undef w'
  | .ok (.enter f args) w' => Ca P f args w' K
  | .ok (.round l fn tmps assign body) w' => RoundIn Fence.wide 0 P l fn tmps assign body w' fun e w'' => ∃ v, e = .returned v ∧ K v w''
  | _ => False

structure rn (P : Program) (s : Sem Next) (w : World) (K : Kont) : Prop where
  out : rnD P s w K
theorem rn_iff {P : Program} {s : Sem Next} {w : World} {K : Kont} : rn P s w K ↔ rnD P s w K := ⟨rn.out, rn.mk⟩

/-- No function bears the name that the model answers itself. -/
def NoNum (P : Program) : Bool := P.funcs.all fun fn => !(fn.name == "runtime.NumGoroutine")

/-- A call of a value. -/
def callD (P : Program) (fv : Value) (args : List Value) (w : World) (K : Kont) : Prop :=
  match fv with
  | .func (.func f) first captured => Ca P f ⟨first.toList ++ (args ++ captured.toList)⟩ w K
  | .func (.yield l) first _ => Yl P l ⟨first.toList ++ args⟩ w K
  | _ => False

structure callV (P : Program) (fv : Value) (args : List Value) (w : World) (K : Kont) : Prop where
  out : callD P fv args w K
theorem callV_iff {P : Program} {fv : Value} {args : List Value} {w : World} {K : Kont} : callV P fv args w K ↔ callD P fv args w K := ⟨callV.out, callV.mk⟩

def isB (v : Value) (K : Bool → Prop) : Prop :=
  match v with
  | .bool b => K b
  | _ => False
/-- Both ways of a bool. -/
def bc (b : Bool) (T F : Prop) : Prop :=
  match b with
  | true => T
  | false => F
/-- A branch. -/
def ifB (v : Value) (T F : Prop) : Prop := isB v fun b => bc b T F
def selV (b : Bool) (x y : Value) : Value :=
  match b with
  | true => x
  | false => y
theorem bc_iff (b : Bool) (T F : Prop) : bc b T F ↔ ((b = true → T) ∧ (b = false → F)) := by
  cases b <;> simp [bc]
theorem selV_eq (b : Bool) (x y : Value) : selV b x y = if b then x else y := by cases b <;> rfl

/-! ### Frames as lists -/

structure Env where
  l : List (Nat × Option Value)
  g : Nat → Value
  ds : List Nat

def Env.look : List (Nat × Option Value) → Nat → Option (Option Value)
  | [], _ => none
  | (k, v) :: r, t => bif Nat.beq k t then some v else Env.look r t

def Env.get (E : Env) (t : Nat) : Value :=
  match Env.look E.l t with
  | some (some v) => v
  | some none => undef
  | none => E.g t

def Env.put (E : Env) (d : Option Nat) (v : Value) : Env :=
  match d with
  | some d => { E with l := (d, some v) :: E.l }
  | none => E
def Env.skip (E : Env) (d : Option Nat) : Env :=
  match d with
  | some d => { E with l := (d, none) :: E.l }
  | none => E
def Env.skipped (E : Env) (t : Nat) : Bool :=
  match Env.look E.l t with
  | some none => true
  | _ => false

def ev (E : Env) : Operand → Value
  | .tmp t => E.get t
  | .const v => v
  | .global g => .pointer (some ⟨g, 0, none⟩)
  | .func f => .func (.func f) #[] #[]

structure Rel (n : Nat) (E : Env) (a : Act) : Prop where
  size : a.tmps.size = n
  get : ∀ t, a.tmps.getD t undef = E.get t
  defs : a.defers = E.ds.map fun d => { target := .collected d, args := #[] }

theorem Rel.ev {n : Nat} {E : Env} {a : Act} (h : Rel n E a) : a.eval = ev E := by
  funext x
  cases x with
  | tmp t => exact h.get t
  | const v => rfl
  | global g => rfl
  | func f => rfl

theorem Env.get_put (E : Env) (d : Nat) (v : Value) (t : Nat) : (E.put (some d) v).get t = if d = t then v else E.get t := by
  by_cases h : d = t
  · subst h; simp [Env.get, Env.put, Env.look]
  · have : Nat.beq d t = false := by
      cases hb : Nat.beq d t with
      | false => rfl
      | true => exact absurd (Nat.eq_of_beq_eq_true hb) h
    simp [Env.get, Env.put, Env.look, this, h]

theorem Env.get_skip (E : Env) (d : Nat) (t : Nat) : (E.skip (some d)).get t = if d = t then undef else E.get t := by
  by_cases h : d = t
  · subst h; simp [Env.get, Env.skip, Env.look]
  · have : Nat.beq d t = false := by
      cases hb : Nat.beq d t with
      | false => rfl
      | true => exact absurd (Nat.eq_of_beq_eq_true hb) h
    simp [Env.get, Env.skip, Env.look, this, h]

def dstOk (n : Nat) : Option Nat → Bool
  | some d => Nat.blt d n
  | none => true

theorem getD_set (xs : Array Value) (d t : Nat) (v : Value) (h : d < xs.size) : (xs.setIfInBounds d v).getD t undef = if d = t then v else xs.getD t undef := by
  by_cases hd : d = t
  · subst hd; simp [h]
  · simp [hd]

theorem Rel.put {n : Nat} {E : Env} {a : Act} (h : Rel n E a) {d : Option Nat} (hd : dstOk n d = true) (v : Value) : Rel n (E.put d v) (a.put d v) := by
  cases d with
  | none => exact h
  | some d =>
    have hlt : d < a.tmps.size := by rw [h.size]; simpa [dstOk, Nat.blt_eq] using hd
    refine ⟨by simp [Act.put, h.size], fun t => ?_, h.defs⟩
    rw [Env.get_put]
    simp only [Act.put]
    rw [getD_set _ _ _ _ hlt, h.get]

theorem Rel.skip {n : Nat} {E : Env} {a : Act} (h : Rel n E a) {d : Option Nat} (hd : dstOk n d = true) : Rel n (E.skip d) (a.put d undef) := by
  cases d with
  | none => exact h
  | some d =>
    have hlt : d < a.tmps.size := by rw [h.size]; simpa [dstOk, Nat.blt_eq] using hd
    refine ⟨by simp [Act.put, h.size], fun t => ?_, h.defs⟩
    rw [Env.get_skip]
    simp only [Act.put]
    rw [getD_set _ _ _ _ hlt, h.get]

theorem Rel.of_get {n : Nat} {E E' : Env} {a : Act} (h : Rel n E a) (hg : ∀ t, E'.get t = E.get t) (hd : E'.ds = E.ds) : Rel n E' a :=
  ⟨h.size, fun t => (h.get t).trans (hg t).symm, by rw [hd]; exact h.defs⟩

/-! ### One operation -/

def isC : Operand → Bool
  | .const _ => true
  | _ => false

/-- 'eqGuard', told alone whether an operand is a literal. -/
def eqG (op : BinOp) (t : TypeId) (c : Bool) (a b : Value) : Sem Unit := do
  if !(op matches .eql | .neq) then return
  match a, b with
  | .nilIface, .nilIface =>
    if c then return
    if ← Op.eqGuardIn Op.maxDepth t a b then unsupported (.noEntry "binop/eql: two nil values of an interface type with methods, neither of them the literal nil")
  | .agg _, .agg _ =>
    if !(← program).eqGuardType (← program).depth t then return
    if ← Op.eqGuardIn Op.maxDepth t a b then unsupported (.noEntry "binop/eql: two nil values of an interface type with methods, in a part of a struct or an array")
  | _, _ => pure ()

theorem eqG_eq (op : BinOp) (t : TypeId) (x y : Operand) (a b : Value) : eqGuard op t x y a b = eqG op t (isC x || isC y) a b := by
  unfold eqGuard eqG
  cases x <;> cases y <;> rfl

def bin (op : BinOp) (t : TypeId) (c : Bool) (a b : Value) : Sem Value := do eqG op t c a b; binOp op t a b

/-- A pointer that is not nil. -/
def nilK (v : Value) (K : Value → Prop) : Prop :=
  match v with
  | .pointer (some a) => K (.pointer (some a))
  | _ => False

/-- An aggregate of many cells: its loads and stores are not laid open cell by cell. -/
def bigT (P : Program) (t : TypeId) : Bool := Nat.blt 12 (P.cellsOf t)
def bigS (t : TypeId) (x : Value) : Sem Value := Instr.loadAt t x
def bigU (t : TypeId) (x y : Value) : Sem Unit := Instr.storeAt t x y
def bigA (t : TypeId) : Sem Value := Instr.alloc t true (.tuple #[])
def bigB (t : TypeId) (parts : Array (Nat × Value)) : Sem Value := Instr.build t parts

/-- Operations that have rules of their own, and that simplification is not to lay open. -/
def xAppend (ts : Array TypeId) (t : TypeId) (args : List Value) : Sem Value := Builtin.append_ ts t ⟨args⟩
def xCopy (ts : Array TypeId) (t : TypeId) (args : List Value) : Sem Value := Builtin.copy_ ts t ⟨args⟩
def xDelete (ts : Array TypeId) (t : TypeId) (args : List Value) : Sem Value := Builtin.delete_ ts t ⟨args⟩
def xClear (ts : Array TypeId) (t : TypeId) (args : List Value) : Sem Value := Builtin.clear_ ts t ⟨args⟩
def xMake (t : TypeId) (l c : Value) : Sem Value := Instr.makeSlice t l c
def xLit (t : TypeId) (n : Nat) (parts : List (Nat × Value)) : Sem Value := Instr.buildSlice t n ⟨parts⟩
def xConv (s d : TypeId) (x : Value) : Sem Value := convert s d x
def xLook (t : TypeId) (m k : Value) (ok : Bool) : Sem Value := Instr.lookup t m k ok
def xMapUp (t : TypeId) (m k v : Value) : Sem Unit := Instr.mapUpdate t m k v
def xRange (t : TypeId) (x : Value) : Sem Value := Instr.range t x
def xNext (it : Value) (s : Bool) (t : TypeId) : Sem Value := Instr.next it s t
/-- A conversion between a string and a slice, or between slices. -/
def slConv (P : Program) (s d : TypeId) : Bool :=
  (match P.underlying s with | some (.slice _) => true | _ => false) || (match P.underlying d with | some (.slice _) => true | _ => false)

/-- A function without a Go body: what it does is the model's own row. -/
def noBody (P : Program) (f : FuncId) : Bool := match (P.funcs[f]?).bind (·.body) with | none => true | some _ => false
/-- A call of one. -/
structure rnx (P : Program) (f : FuncId) (args : List Value) (w : World) (K : Kont) : Prop where
  out : rn P (callFunc f ⟨args⟩) w K

def argsOf (ρ : Operand → Value) (xs : Array Operand) : List Value := xs.toList.map ρ

/-- What an operation asks. -/
def wOp (P : Program) (ρ : Operand → Value) (o : Oper) (w : World) (K : Kont) : Prop :=
  match o.op with
  | .move x | .assign x => K (ρ x) w
  | .pick c x y => isB (ρ c) fun b => K (selV b (ρ x) (ρ y)) w
  | .alloc elem => match bigT P elem with
    | true => rx P (bigA elem) w K
    | false => rv P (Instr.alloc elem true (.tuple #[])) w K
  | .box elem x => rv P (Instr.box elem (ρ x)) w K
  | .build t parts => match bigT P t with
    | true => rx P (bigB t ⟨parts.toList.map fun p => (p.1, ρ p.2)⟩) w K
    | false => rv P (Instr.build t ⟨parts.toList.map fun p => (p.1, ρ p.2)⟩) w K
  | .buildSlice t len parts => rx P (xLit t len (parts.toList.map fun p => (p.1, ρ p.2))) w K
  | .load t x => match bigT P t with
    | true => rx P (bigS t (ρ x)) w K
    | false => rv P (Instr.loadAt t (ρ x)) w K
  | .store t x y => match bigT P t with
    | true => rux P (bigU t (ρ x) (ρ y)) w (K undef)
    | false => ru P (Instr.storeAt t (ρ x) (ρ y)) w (K undef)
  | .binOp op t x y _ => rv P (bin op t (isC x || isC y) (ρ x) (ρ y)) w K
  | .unOp op _ x => rv P (Op.unary op (ρ x)) w K
  | .convert s d x => match slConv P s d with
    | true => rx P (xConv s d (ρ x)) w K
    | false => rv P (convert s d (ρ x)) w K
  | .sliceToArrayPointer t x => rv P (Instr.arrayAt t (ρ x)) w K
  | .makeInterface t x => rv P (Instr.makeInterface t (ρ x)) w K
  | .makeFunc fn first captured => K (.func fn ⟨argsOf ρ first⟩ ⟨argsOf ρ captured⟩) w
  | .makeMap t r => rv P (Instr.makeMap t (r.map ρ)) w K
  | .makeSlice t l c => rx P (xMake t (ρ l) (ρ c)) w K
  | .slice t x lo hi mx => rv P (Instr.sliceAt t (ρ x) (lo.map ρ) (hi.map ρ) (mx.map ρ)) w K
  | .fieldAddr t x f => rv P (Instr.fieldAt t (ρ x) f) w K
  | .field t x f => rv P (Instr.field t (ρ x) f) w K
  | .indexAddr t x i => rv P (Instr.indexAt t (ρ x) (ρ i)) w K
  | .index t x i => rv P (Instr.index t (ρ x) (ρ i)) w K
  | .lookup t x i ok => rx P (xLook t (ρ x) (ρ i) ok) w K
  | .mapUpdate t m k x | .insert t m k x => rux P (xMapUp t (ρ m) (ρ k) (ρ x)) w (K undef)
  | .range t x => rx P (xRange t (ρ x)) w K
  | .next it s => rx P (xNext (ρ it) s o.type) w K
  | .typeAssert x t u ok => rv P (Instr.typeAssert (ρ x) t u ok) w K
  | .extract t i => rv P (Instr.extract (ρ t) i) w K
  | .call c =>
    match c.callee with
    | .value (.func f) => match noBody P f with
      | true => rnx P f (argsOf ρ c.args) w K
      | false => Ca P f ⟨argsOf ρ c.args⟩ w K
    | .value f => callV P (ρ f) (argsOf ρ c.args) w K
    | .builtin .append => rx P (xAppend c.argTypes o.type (argsOf ρ c.args)) w K
    | .builtin .copy => rx P (xCopy c.argTypes o.type (argsOf ρ c.args)) w K
    | .builtin .delete => rx P (xDelete c.argTypes o.type (argsOf ρ c.args)) w K
    | .builtin .clear => rx P (xClear c.argTypes o.type (argsOf ρ c.args)) w K
    | .builtin b => rn P (builtin b c.argTypes o.type ⟨c.args.toList.map isC⟩ ⟨argsOf ρ c.args⟩) w K
    | .invoke _ _ => rn P (execOp ρ o) w K
  | .nilCheck x => nilK (ρ x) fun v => K v w
  | .defer _ | .go _ | .select .. | .panic _ => False
  | _ => rn P (execOp ρ o) w K

theorem rn_of_rv {P : Program} {s : Sem Value} {w : World} {K : Kont} (h : rv P s w K) : rn P (do pure (.value (← s))) w K := by
  rw [rv_iff] at h
  unfold rvD at h
  rw [rn_iff]
  unfold rnD
  simp only [Sem.run_bind, Sem.run_pure]
  cases hr : s.run P w with
  | ok v w' => rw [hr] at h; simpa [Result.andThen] using h
  | halt x w' => rw [hr] at h; exact h.elim
theorem rn_of_ru {P : Program} {s : Sem Unit} {w : World} {K : Kont} (h : ru P s w (K undef)) : rn P (do s; pure .skip) w K := by
  rw [ru_iff] at h
  unfold ruD at h
  rw [rn_iff]
  unfold rnD
  simp only [Sem.run_bind, Sem.run_pure]
  cases hr : s.run P w with
  | ok v w' => rw [hr] at h; simpa [Result.andThen] using h
  | halt x w' => rw [hr] at h; exact h.elim

/-- A function that is called, and returns, has a body. -/
theorem Ca.bodied {P : Program} {f : FuncId} {args : Array Value} {w : World} {K : Kont} (h : Ca P f args w K) : ∃ fn, P.funcs[f]? = some fn ∧ fn.body.isSome = true := by
  apply Classical.byContradiction
  intro hn
  obtain ⟨e, w', fr, ⟨v, rfl, _⟩, hc, _, hl⟩ := h.out []
  have hno : ((P.funcs[f]?).bind (·.body)) = none := by
    cases hf : P.funcs[f]? with
    | none => rfl
    | some fn =>
      cases hb : fn.body with
      | none => simp [hb]
      | some c => exact absurd ⟨fn, hf, by simp [hb]⟩ hn
  obtain ⟨r, hs⟩ : ∃ r, step P (lone (Frame.enter P f args .normal) [] w) = .ended r w := by
    refine ⟨?r, step_lone_ended ?h⟩
    case h =>
      simp only [stepG, stepG.exec, Frame.enter, hno]
      exact rfl
  obtain ⟨n, hn'⟩ := (hc : Steps P _ _)
  cases n with
  | zero =>
    simp only [runN] at hn'
    injection hn' with hm
    have hfr : Frame.enter P f args .normal = fr := by
      have := congrArg (fun m => (m.gs[0]?).map (·.frame)) hm
      simpa [lone] using this
    have hmode := hl.1
    rw [← hfr] at hmode
    simp [Frame.enter] at hmode
  | succ n => simp [runN, hs] at hn'

theorem rn_callFunc {P : Program} (hP : NoNum P = true) {f : FuncId} {args : Array Value} {w : World} {K : Kont} (h : Ca P f args w K) : rn P (callFunc f args) w K := by
  obtain ⟨fn, hf, hb⟩ := h.bodied
  have hname : (fn.name == "runtime.NumGoroutine") = false := by
    have := (Array.all_eq_true'.1 hP) fn (Array.mem_of_getElem? hf)
    simpa using this
  have hnone : fn.body.isNone = false := by cases hh : fn.body <;> simp_all
  rw [rn_iff]
  unfold rnD
  have : (callFunc f args).run P w = .ok (.enter f args) w := by
    have hname' : ¬ fn.name = "runtime.NumGoroutine" := by simpa using hname
    have hnone' : ¬ fn.body = none := by intro hh; rw [hh] at hb; exact absurd hb (by simp)
    unfold callFunc
    simp [Sem.run_bind, Result.andThen, hf, hname', hnone']
  rw [this]
  exact h

theorem argsOf_eq (ρ : Operand → Value) (xs : Array Operand) : (⟨argsOf ρ xs⟩ : Array Value) = xs.map ρ := by
  apply Array.ext'
  simp [argsOf]

theorem rn_callV {P : Program} (hP : NoNum P = true) {fv : Value} {args : List Value} {w : World} {K : Kont} (h : callV P fv args w K) :
    rn P (do let d ← Deferred.ofValue fv ⟨args⟩; invoke d.target d.args) w K := by
  rw [callV_iff] at h
  unfold callD at h
  split at h
  · rename_i f first captured
    have e : (do let d ← Deferred.ofValue (.func (.func f) first captured) ⟨args⟩; invoke d.target d.args : Sem Next) = callFunc f (first ++ ⟨args⟩ ++ captured) := rfl
    rw [e]
    have e2 : (first ++ ⟨args⟩ ++ captured : Array Value) = ⟨first.toList ++ (args ++ captured.toList)⟩ := by
      apply Array.ext'; simp
    rw [e2]
    exact rn_callFunc hP h
  · rename_i l first captured
    have e : (do let d ← Deferred.ofValue (.func (.yield l) first captured) ⟨args⟩; invoke d.target d.args : Sem Next) = Instr.yield l (first ++ ⟨args⟩) := rfl
    rw [e]
    have e2 : (first ++ ⟨args⟩ : Array Value) = ⟨first.toList ++ args⟩ := by
      apply Array.ext'; simp
    rw [e2]
    obtain ⟨fn, tmps, assign, body, h1, h2⟩ := h
    rw [rn_iff]
    unfold rnD
    rw [h1]
    exact h2
  · exact h.elim

theorem wOp_sound {P : Program} (hP : NoNum P = true) {ρ : Operand → Value} (hρ : ∀ f, ρ (.func f) = .func (.func f) #[] #[]) {o : Oper} {w : World} {K : Kont} (h : wOp P ρ o w K) :
    rn P (execOp ρ o) w K := by
  obtain ⟨dst, op, type, pos, after, guard⟩ := o
  unfold wOp at h
  cases op <;> simp only at h
  case move x => exact rn_iff.2 h
  case assign x => exact rn_iff.2 h
  case pick c x y =>
    unfold isB at h
    split at h
    · rename_i b hb
      simp only [execOp, hb, rn_iff, rnD, asBool, Sem.run_bind, Sem.run_pure, Result.andThen]
      rw [selV_eq] at h
      exact h
    · exact h.elim
  case alloc t =>
    split at h
    · exact rn_of_rv h.out
    · exact rn_of_rv h
  case load t x =>
    split at h
    · exact rn_of_rv h.out
    · exact rn_of_rv h
  case convert s d x =>
    split at h
    · exact rn_of_rv h.out
    · exact rn_of_rv h
  case build t ps =>
    have h : rv P (Instr.build t ⟨ps.toList.map fun p => (p.1, ρ p.2)⟩) w K := by
      split at h
      · exact h.out
      · exact h
    have e : (⟨ps.toList.map fun p => (p.1, ρ p.2)⟩ : Array (Nat × Value)) = ps.map fun (i, x) => (i, ρ x) := by
      apply Array.ext'; simp
    rw [e] at h
    exact rn_of_rv h
  case buildSlice t n ps =>
    have h : rv P (Instr.buildSlice t n ⟨ps.toList.map fun p => (p.1, ρ p.2)⟩) w K := h.out
    have e : (⟨ps.toList.map fun p => (p.1, ρ p.2)⟩ : Array (Nat × Value)) = ps.map fun (i, x) => (i, ρ x) := by
      apply Array.ext'; simp
    rw [e] at h
    exact rn_of_rv h
  case binOp op t x y yt =>
    have e : (do eqGuard op t x y (ρ x) (ρ y); binOp op t (ρ x) (ρ y) : Sem Value) = bin op t (isC x || isC y) (ρ x) (ρ y) := by
      unfold bin; rw [eqG_eq]
    have := rn_of_rv h
    rw [← e] at this
    exact this
  case makeFunc fn first captured =>
    rw [argsOf_eq, argsOf_eq] at h
    exact rn_iff.2 h
  case store t x y =>
    split at h
    · exact rn_of_ru h.out
    · exact rn_of_ru h
  case nilCheck x =>
    unfold nilK at h
    split at h
    · rename_i a ha
      simp only [execOp, ha, rn_iff, rnD, Sem.run_pure]
      exact h
    · exact h.elim
  case mapUpdate t m k x => exact rn_of_ru h.out
  case insert t m k x => exact rn_of_ru h.out
  case call c =>
    obtain ⟨callee, args, argTypes⟩ := c
    cases callee with
    | value f =>
      have key : callV P (ρ f) (argsOf ρ args) w K → rn P (execOp ρ ⟨dst, .call ⟨.value f, args, argTypes⟩, type, pos, after, guard⟩) w K := by
        intro h
        have := rn_callV hP h
        rw [argsOf_eq] at this
        exact this
      cases f with
      | func g =>
        simp only at h
        have this : rn P (callFunc g ⟨argsOf ρ args⟩) w K := by
          split at h
          · exact h.out
          · exact rn_callFunc hP h
        rw [argsOf_eq] at this
        have e : (execOp ρ ⟨dst, .call ⟨.value (.func g), args, argTypes⟩, type, pos, after, guard⟩ : Sem Next) = (do let d ← Deferred.ofValue (ρ (.func g)) (args.map ρ); invoke d.target d.args) := rfl
        rw [e, hρ g]
        have e3 : (do let d ← Deferred.ofValue (.func (.func g) #[] #[]) (args.map ρ); invoke d.target d.args : Sem Next) = callFunc g (#[] ++ args.map ρ ++ #[]) := rfl
        rw [e3]
        simpa using this
      | tmp t => exact key h
      | const v => exact key h
      | global g => exact key h
    | builtin b =>
      have key : rn P (builtin b argTypes type ⟨args.toList.map isC⟩ ⟨argsOf ρ args⟩) w K := by
        cases b <;> first | exact h | exact rn_of_rv h.out
      have h := key
      rw [argsOf_eq] at h
      have e : (⟨args.toList.map isC⟩ : Array Bool) = args.map fun | .const _ => true | _ => false := by
        apply Array.ext'
        simp only [Array.toList_map]
        apply List.map_congr_left
        intro x _
        cases x <;> rfl
      rw [e] at h
      exact h
    | invoke r m => exact h
  all_goals first | exact rn_of_rv h | exact rn_of_rv h.out | exact h | exact h.elim
end Go.Vc
