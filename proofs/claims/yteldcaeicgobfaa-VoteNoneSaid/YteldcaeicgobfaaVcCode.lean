/-
  The computed calculus, code: sequence, branches, blocks, loops, ranges over functions; and the contract of a function.
  Conditions: none; nothing here speaks of a program.
-/
import Derived.Test.YteldcaeicgobfaaVcDraw2
set_option linter.unusedSimpArgs false
set_option linter.unusedVariables false
namespace Go.Vc
open Go

/-! ### Loops -/

def dstsOf : Code → List Nat
  | .region _ ops _ => ops.toList.filterMap (·.dst)
  | .seq a b => dstsOf a ++ dstsOf b
  | .cond _ a b => dstsOf a ++ dstsOf b
  | .block _ c => dstsOf c
  | .loop c => dstsOf c
  | .scope c => dstsOf c
  | _ => []
def hasRF : Code → Bool
  | .seq a b => hasRF a || hasRF b
  | .cond _ a b => hasRF a || hasRF b
  | .block _ c => hasRF c
  | .loop c => hasRF c
  | .scope c => hasRF c
  | .rangeFunc .. => true
  | _ => false

def liveOf (ds : List Nat) : List (Nat × Option Value) → List Nat → List Nat
  | [], acc => acc
  | (k, _) :: r, acc =>
    match ds.contains k && !acc.contains k with
    | true => liveOf ds r (k :: acc)
    | false => liveOf ds r acc
def Tup : List Nat → Type
  | [] => Unit
  | _ :: l => Value × Tup l
def tupOf (E : Env) : (l : List Nat) → Tup l
  | [] => ()
  | t :: l => (E.get t, tupOf E l)
def putTup : (l : List Nat) → Tup l → List (Nat × Option Value) → List (Nat × Option Value)
  | [], _, r => r
  | t :: l, s, r => (t, some s.1) :: putTup l s.2 r

/-- A list, laid out before it is used (for the kernel's sake alone). -/
def force {α : Type} {β : Sort _} : List α → (List α → β) → β
  | [], k => k []
  | x :: xs, k => force xs fun l => k (x :: l)
theorem force_eq {α : Type} {β : Sort _} : ∀ (l : List α) (k : List α → β), force l k = k l
  | [], _ => rfl
  | x :: xs, k => by rw [force, force_eq xs]

/-! ### Joins: code in which two ways meet again goes on once -/

def tmpOf : Operand → Option Nat
  | .tmp t => some t
  | _ => none
def usesOf : Code → List Nat
  | .region _ ops _ => ops.toList.flatMap fun o => o.op.operands.toList.filterMap tmpOf
  | .seq a b => usesOf a ++ usesOf b
  | .cond c a b => (tmpOf c).toList ++ usesOf a ++ usesOf b
  | .block _ c => usesOf c
  | .loop c => usesOf c
  | .scope c => usesOf c
  | .rangeFunc gv _ a b => (tmpOf gv).toList ++ usesOf a ++ usesOf b
  | _ => []
def addU (ds : List Nat) : List Nat → List Nat → List Nat
  | [], acc => acc
  | k :: r, acc =>
    match ds.contains k && !acc.contains k with
    | true => addU ds r (k :: acc)
    | false => addU ds r acc
def liveJ (ds : List Nat) (l : List (Nat × Option Value)) (us : List Nat) : List Nat := addU ds us (liveOf ds l [])
def cap2 : Nat → Nat
  | 0 => 0
  | 1 => 1
  | _ => 2
def szC : Code → Nat
  | .region _ ops _ => ops.toList.length
  | .seq a b => szC a + szC b
  | .cond _ _ _ => 9
  | .block _ c => szC c
  | .loop _ => 9
  | .rangeFunc _ _ _ _ => 9
  | _ => 0
/-- Operations that turn the world. -/
def effK : Op → Bool
  | .alloc _ => true
  | .box _ _ => true
  | .buildSlice _ _ _ => true
  | .makeSlice _ _ _ => true
  | .makeMap _ _ => true
  | .call _ => true
  | .store _ _ _ => true
  | .mapUpdate _ _ _ _ => true
  | .insert _ _ _ _ => true
  | _ => false
/-- Are there two of them of which neither comes ahead of the other? -/
def openOrd (ops : List Oper) : Bool :=
  let es := (List.range ops.length).filter fun i => match ops[i]? with | some o => effK o.op | none => false
  es.any fun j => force (anc ops j) fun aj => es.any fun i => Nat.blt i j && !aj.contains i && !(anc ops i).contains j
/-- How often code goes on behind itself (id none), or at a block's end; at most 2. -/
def exC : Code → Option Nat → Nat
  | .region _ ops draw, i => match i with
    | none => match (ops.toList.any fun o => o.guard.isSome) || (draw && openOrd ops.toList) with | true => 2 | false => 1
    | some _ => 0
  | .seq a b, i =>
    let na := match Nat.ble 2 (exC a none) && !hasRF a && Nat.ble 3 (szC b) with | true => 1 | false => exC a none
    match i with
    | none => cap2 (na * exC b none)
    | some i => cap2 (exC a (some i) + na * exC b (some i))
  | .cond _ a b, i => cap2 (exC a i + exC b i)
  | .block id c, i => match i with
    | none => cap2 (exC c none + exC c (some id))
    | some i => exC c (some i)
  | .loop c, i => match i with
    | none => 0
    | some i => exC c (some i)
  | .exit id, i => match i with
    | none => 0
    | some i => match Nat.beq i id with | true => 1 | false => 0
  | .ret, _ => 0
  | .refuse _, _ => 0
  | .goto _, _ => 0
  | _, i => match i with
    | none => 1
    | some _ => 0
def joins (a b : Code) : Bool := Nat.ble 2 (exC a none) && !hasRF a && Nat.ble 3 (szC b)

/-- Two ways meet: J holds where they do. -/
structure JoinW {S : Type} (A : (S → World → Prop) → Prop) (B : S → World → Prop) : Prop where
  out : ∃ J : S → World → Prop, (∀ s w, J s w → B s w) ∧ A J
theorem JoinW.on {S : Type} {A : (S → World → Prop) → Prop} {B : S → World → Prop} (h : A B) : JoinW A B := ⟨⟨B, fun _ _ h => h, h⟩⟩
theorem JoinW.at {S : Type} {A : (S → World → Prop) → Prop} {B : S → World → Prop} (J : S → World → Prop) (h : A J) (h' : ∀ s w, J s w → B s w) : JoinW A B := ⟨⟨J, h', h⟩⟩

/-- The frame at a loop's head. -/
def headE (E : Env) (ds live : List Nat) (s : Tup live) (g : Nat → Value) (marks : List Nat) : Env :=
  { l := putTup live s E.l, g := fun t => match ds.contains t with | true => g t | false => E.g t, ds := marks }

/-- A loop over a state and the world: an invariant that each round keeps, and a measure that it lowers. -/
structure LoopW {S : Type} (body : S → World → (S → World → Prop) → Prop) (s : S) (w : World) : Prop where
  out : ∃ (I : S → World → Prop) (m : S → World → Nat), I s w ∧ ∀ s w, I s w → body s w fun s' w' => I s' w' ∧ m s' w' < m s w

/-! ### A range over a function -/

/-- Entering the statement: the block for the rounds' deferred calls, and its mark. -/
def enterR (ro : Option Nat) (w : World) (K : Nat → List Nat → World → Prop) : Prop :=
  match ro with
  | none => K w.heap.size [w.heap.size] (w.alloc (.deferred (some [])))
  | some l0 => ∃ r, w.heap[l0]? = some (.loop r) ∧ K r.defers [] w

def RecAt (W : World) (l : Nat) (r : Loop) : Prop := W.heap[l]? = some (.loop r)
/-- The record of this loop, in whatever state. -/
def RecOf (W : World) (l : Nat) (rec : Loop) : Prop := ∃ st pend, RecAt W l { rec with state := st, pending := pend }

def RFD (P : Program) (ro : Option Nat) (gv : Value) (w : World) (np : Nat)
    (rnd : Nat → List Value → World → (World → Prop) → (Code → World → Prop) → Prop) (after : List Nat → Option Code → World → Prop) : Prop :=
  match gv with
  | .func (.func f) first captured =>
    enterR ro w fun D mk w1 => ∀ rec : Loop, rec.state = .ready → rec.pending = none → rec.defers = D →
      (∀ (args : List Value) (W : World) (K : Kont), args.length = np → RecOf W w1.heap.size rec →
        rnd w1.heap.size args W
          (fun W' => ∃ r, RecAt W' w1.heap.size r ∧ K (.bool true) (W'.putObj w1.heap.size (.loop { r with state := .ready, pending := none })))
          (fun c W' => ∃ r, RecAt W' w1.heap.size r ∧ K (.bool false) (W'.putObj w1.heap.size (.loop { r with state := .done, pending := some c }))) →
        Yl P w1.heap.size ⟨args⟩ W K) →
      Ca P f ⟨first.toList ++ (.func (.yield w1.heap.size) #[] #[] :: captured.toList)⟩ (w1.alloc (.loop rec)) fun _ W =>
        ∃ r, RecAt W w1.heap.size r ∧ r.state ≠ .busy ∧ after mk r.pending (W.putObj w1.heap.size (.loop { r with state := .exhausted }))
  | _ => False

structure RFW (P : Program) (ro : Option Nat) (gv : Value) (w : World) (np : Nat)
    (rnd : Nat → List Value → World → (World → Prop) → (Code → World → Prop) → Prop) (after : List Nat → Option Code → World → Prop) : Prop where
  out : RFD P ro gv w np rnd after
theorem RFW_iff {P : Program} {ro : Option Nat} {gv : Value} {w : World} {np : Nat}
    {rnd : Nat → List Value → World → (World → Prop) → (Code → World → Prop) → Prop} {after : List Nat → Option Code → World → Prop} : RFW P ro gv w np rnd after ↔ RFD P ro gv w np rnd after := ⟨RFW.out, RFW.mk⟩

/-- Behind the assignment to the loop's variables: the round begins. -/
def beginD (l : Nat) (W : World) (K : World → Prop) : Prop := ∃ r, RecAt W l r ∧ r.state = .ready ∧ K (W.putObj l (.loop { r with state := .busy }))

structure beginK (l : Nat) (W : World) (K : World → Prop) : Prop where
  out : beginD l W K

def putAll : List Nat → Nat → List Value → List (Nat × Option Value) → List (Nat × Option Value)
  | t :: ts, i, vs, r => putAll ts (i + 1) vs ((t, some (vs.getD i undef)) :: r)
  | [], _, _, r => r

/-- Behind the statement: on; or the jump that a round has left. -/
def afterK (N R : World → Prop) (X : Nat → World → Prop) (pend : Option Code) (W : World) : Prop :=
  match pend with
  | none => N W
  | some .ret => R W
  | some (.exit id) => X id W
  | _ => False

/-! ### Code -/

def vc (P : Program) (jn : Bool) (ro : Option Nat) : Code → (Exit → Env → World → Prop) → Env → World → Prop
  | .skip, Q, E, w => Q .normal E w
  | .region _ ops draw, Q, E, w =>
    match draw with
    | false => vcList P ops.toList ops.toList E w (Q .normal)
    | true => vcD P ops.toList (ops.toList.length + 1) [] [] E w.drew (Q .normal)
  | .seq a b, Q, E, w =>
    match jn && joins a b with
    | false => vc P jn ro a (fun e E w => match e with | .normal => vc P jn ro b Q E w | e => Q e E w) E w
    | true =>
      force E.l fun el => force (liveJ (dstsOf a) el (usesOf b)) fun live =>
      JoinW (S := Tup live) (fun J => vc P jn ro a (fun e E' w' => match e with | .normal => J (tupOf E' live) w' | e => Q e E' w') { E with l := el } w)
        (fun s w' => ∀ g, vc P jn ro b Q (headE { E with l := el } (dstsOf a) live s g E.ds) w')
  | .cond c t f, Q, E, w => isB (ev E c) fun b => bc b (vc P jn ro t Q E w) (vc P jn ro f Q E w)
  | .block id c, Q, E, w => vc P jn ro c (fun e E w => match e with | .exit i => bc (Nat.beq i id) (Q .normal E w) (Q (.exit i) E w) | e => Q e E w) E w
  | .loop c, Q, E, w =>
    force E.l fun el => force (liveOf (dstsOf c) el []) fun live =>
    match hasRF c with
    | false => LoopW (S := Tup live) (fun s w K => ∀ g, vc P jn ro c (fun e E' w' => match e with | .normal => K (tupOf E' live) w' | e => Q e E' w')
        (headE { E with l := el } (dstsOf c) live s g E.ds) w) (tupOf { E with l := el } live) w
    | true => LoopW (S := Tup live × List Nat) (fun s w K => ∀ g, vc P jn ro c (fun e E' w' => match e with | .normal => K (tupOf E' live, E'.ds) w' | e => Q e E' w')
        (headE { E with l := el } (dstsOf c) live s.1 g s.2) w) (tupOf { E with l := el } live, E.ds) w
  | .rangeFunc gv ps assign body, Q, E, w =>
    RFW P ro (ev E gv) w ps.toList.length
      (fun l args W KN KJ => vc P jn (some l) assign (fun e E W => match e with
          | .normal => beginK l W fun W => vc P jn (some l) body (fun e _ W => match e with
            | .normal => KN W
            | .ret => KJ .ret W
            | .exit id => KJ (.exit id) W
            | _ => False) E W
          | _ => False) { E with l := putAll ps.toList 0 args E.l, ds := [] } W)
      (fun mk pend W => afterK (fun W => Q .normal { E with ds := mk ++ E.ds } W) (fun W => Q .ret { E with ds := mk ++ E.ds } W)
        (fun id W => Q (.exit id) { E with ds := mk ++ E.ds } W) pend W)
  | .exit id, Q, E, w => Q (.exit id) E w
  | .ret, Q, E, w => Q .ret E w
  | .label _, Q, E, w => Q .normal E w
  | .scope _, _, _, _ => False
  | .goto _, _, _, _ => False
  | .refuse _, _, _, _ => False

/-- The tables' conditions of a function's code. -/
def okC (P : Program) (n : Nat) : Code → Bool
  | .region _ ops draw => (ops.toList.all fun o => dstOk n o.dst) && (!draw || (P.follows .mixedOrders && regOk P ops.toList))
  | .seq a b => okC P n a && okC P n b
  | .cond _ a b => okC P n a && okC P n b
  | .block _ c => okC P n c
  | .loop c => okC P n c
  | .scope c => okC P n c
  | .rangeFunc _ ps a b => (ps.toList.all fun d => Nat.blt d n) && okC P n a && okC P n b
  | _ => true
end Go.Vc
