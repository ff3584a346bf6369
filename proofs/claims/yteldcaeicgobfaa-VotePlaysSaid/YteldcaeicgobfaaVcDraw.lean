/-
  The computed calculus: a region that draws its order. One canonical order (what only reads as early as it may; every order of what acts), with what was read looked at anew behind each operation that acts.
  Conditions: none; nothing here speaks of a program.
-/
import Derived.Test.YteldcaeicgobfaaVcRegion
set_option linter.unusedSimpArgs false
set_option linter.unusedVariables false
namespace Go.Vc
open Go

/-- An instruction that leaves the world alone. -/
def rdWD (P : Program) (s : Sem Value) (w : World) (K : Value → Prop) : Prop :=
  match s.run P w with
  | .ok v w' => w' = w ∧ K v
  | .halt _ _ => False
structure rdW (P : Program) (s : Sem Value) (w : World) (K : Value → Prop) : Prop where
  out : rdWD P s w K
theorem rdW_iff {P : Program} {s : Sem Value} {w : World} {K : Value → Prop} : rdW P s w K ↔ rdWD P s w K := ⟨rdW.out, rdW.mk⟩
/-- An instruction that yields the same in every world, and leaves it alone. -/
def rdPD (P : Program) (s : Sem Value) (K : Value → Prop) : Prop := ∃ v, (∀ w, s.run P w = .ok v w) ∧ K v
structure rdP (P : Program) (s : Sem Value) (K : Value → Prop) : Prop where
  out : rdPD P s K
theorem rdP_iff {P : Program} {s : Sem Value} {K : Value → Prop} : rdP P s K ↔ rdPD P s K := ⟨rdP.out, rdP.mk⟩

structure rdX (P : Program) (s : Sem Value) (w : World) (K : Value → Prop) : Prop where
  out : rdW P s w K
structure rdPX (P : Program) (s : Sem Value) (K : Value → Prop) : Prop where
  out : rdP P s K
/-- Operations that have rules of their own. -/
def xOp (P : Program) : Op → Bool
  | .build t _ => bigT P t
  | .load t _ => bigT P t
  | .lookup .. => true
  | .convert s d _ => slConv P s d
  | _ => false
/-- What reads no memory. -/
def pureSem (P : Program) (ρ : Operand → Value) : Op → Option (Sem Value)
  | .binOp op t x y _ => some (bin op t (isC x || isC y) (ρ x) (ρ y))
  | .unOp op _ x => some (Op.unary op (ρ x))
  | .fieldAddr t x f => some (Instr.fieldAt t (ρ x) f)
  | .field t x f => some (Instr.field t (ρ x) f)
  | .indexAddr t x i => some (Instr.indexAt t (ρ x) (ρ i))
  | .index t x i => some (Instr.index t (ρ x) (ρ i))
  | .slice t x lo hi mx => some (Instr.sliceAt t (ρ x) (lo.map ρ) (hi.map ρ) (mx.map ρ))
  | .sliceToArrayPointer t x => some (Instr.arrayAt t (ρ x))
  | .extract t i => some (Instr.extract (ρ t) i)
  | .build t parts => match bigT P t with
    | true => some (bigB t ⟨parts.toList.map fun p => (p.1, ρ p.2)⟩)
    | false => some (Instr.build t ⟨parts.toList.map fun p => (p.1, ρ p.2)⟩)
  | .makeInterface t x => some (Instr.makeInterface t (ρ x))
  | _ => none
/-- What reads memory. -/
def readSem (P : Program) (ρ : Operand → Value) (o : Oper) : Option (Sem Value) :=
  match o.op with
  | .load t x => match bigT P t with
    | true => some (bigS t (ρ x))
    | false => some (Instr.loadAt t (ρ x))
  | .lookup t x i ok => some (xLook t (ρ x) (ρ i) ok)
  | .call ⟨.builtin .len, args, ts⟩ => some (Builtin.len_ ts o.type ⟨argsOf ρ args⟩)
  | .call ⟨.builtin .min, args, ts⟩ => some (Builtin.min_ ts o.type ⟨argsOf ρ args⟩)
  | .call ⟨.builtin .max, args, ts⟩ => some (Builtin.max_ ts o.type ⟨argsOf ρ args⟩)
  | .convert s d x => match P.underlying d with
    | some (.slice _) => none
    | _ => match slConv P s d with
      | true => some (xConv s d (ρ x))
      | false => some (convert s d (ρ x))
  | _ => none
/-- What yields at once. -/
def quickOp : Op → Bool
  | .move _ | .pick .. | .nilCheck _ | .makeFunc .. => true
  | _ => false
def quickK (ρ : Operand → Value) (op : Op) (K : Value → Prop) : Prop :=
  match op with
  | .move x => K (ρ x)
  | .pick c x y => isB (ρ c) fun b => K (selV b (ρ x) (ρ y))
  | .nilCheck x => nilK (ρ x) K
  | .makeFunc fn first captured => K (.func fn ⟨argsOf ρ first⟩ ⟨argsOf ρ captured⟩)
  | _ => False

/-- 0: yields at once · 1: reads no memory · 2: reads memory · 3: acts. -/
def cls (P : Program) (o : Oper) : Nat :=
  match quickOp o.op with
  | true => 0
  | false =>
    match pureSem P (fun _ => undef) o.op with
    | some _ => 1
    | none =>
      match readSem P (fun _ => undef) o with
      | some _ => 2
      | none => 3

def edgesOn (o : Oper) : List Nat := (o.after.toList.filter fun e => Region.binds .any e).map (·.on)
def depsOf (ops : List Oper) (i : Nat) : List Nat :=
  match ops[i]? with
  | some o => edgesOn o
  | none => []
/-- What comes ahead of it, by the edges. -/
def clo (ops : List Oper) : Nat → List Nat → List Nat → List Nat
  | 0, _, acc => acc
  | _ + 1, [], acc => acc
  | f + 1, x :: r, acc =>
    match acc.contains x with
    | true => clo ops f r acc
    | false => clo ops f (depsOf ops x ++ r) (x :: acc)
def anc (ops : List Oper) (j : Nat) : List Nat := clo ops 4000 (depsOf ops j) []

abbrev Pend := List (Nat × Sem Value × Value)
def reval (P : Program) (w : World) : Pend → Prop → Prop
  | [], R => R
  | (_, s, v) :: r, R => s.run P w = .ok v w ∧ reval P w r R

def allL (F : Nat → Prop) : List Nat → Prop
  | [] => True
  | [j] => F j
  | j :: r => F j ∧ allL F r

def rdyB (ops : List Oper) (done : List Nat) (i : Nat) : Bool := !done.contains i && (depsOf ops i).all fun d => done.contains d
def rdy (ops : List Oper) (done : List Nat) : List Nat := (List.range ops.length).filter (rdyB ops done)

def isRd (P : Program) (ops : List Oper) (i : Nat) : Bool :=
  match ops[i]? with
  | some o => Nat.blt (cls P o) 3
  | none => false

def vcD (P : Program) (ops : List Oper) : Nat → List Nat → Pend → Env → World → (Env → World → Prop) → Prop
  | 0, _, _, _, _, _ => False
  | fuel + 1, done, pend, E, w, K =>
    match (rdy ops done).find? (isRd P ops) with
    | some i =>
      match ops[i]? with
      | none => False
      | some o =>
        grd ops o E (fun E =>
          match cls P o with
          | 0 => quickK (ev E) o.op fun v => vcD P ops fuel (i :: done) pend (E.put o.dst v) w K
          | 1 => match pureSem P (ev E) o.op with
            | some s => match xOp P o.op with
              | true => rdPX P s fun v => vcD P ops fuel (i :: done) pend (E.put o.dst v) w K
              | false => rdP P s fun v => vcD P ops fuel (i :: done) pend (E.put o.dst v) w K
            | none => False
          | _ => match readSem P (ev E) o with
            | some s => match xOp P o.op with
              | true => rdX P s w fun v => vcD P ops fuel (i :: done) ((i, s, v) :: pend) (E.put o.dst v) w K
              | false => rdW P s w fun v => vcD P ops fuel (i :: done) ((i, s, v) :: pend) (E.put o.dst v) w K
            | none => False)
          (fun E => vcD P ops fuel (i :: done) pend (E.skip o.dst) w K)
    | none =>
      match rdy ops done with
      | [] => K E w
      | rs => allL (fun j =>
        match ops[j]? with
        | none => False
        | some o =>
          grd ops o E (fun E => wOp P (ev E) o w fun v w' => reval P w' (pend.filter fun p => !(anc ops j).contains p.1) (vcD P ops fuel (j :: done) (pend.filter fun p => !(anc ops j).contains p.1) (E.put o.dst v) w' K))
            (fun E => vcD P ops fuel (j :: done) (pend.filter fun p => !(anc ops j).contains p.1) (E.skip o.dst) w K)) rs

/-- The tables' conditions: whoever only reads writes a slot of its own, which only those look at that come behind it; whoever writes what it looks at comes ahead of it or behind it. -/
def regOk (P : Program) (ops : List Oper) : Bool :=
  (List.range ops.length).all fun i => match ops[i]? with
    | none => false
    | some oi => noDefer oi.op && (!Nat.blt (cls P oi) 3 || ((match oi.dst with | none => true | some d => !(oi.looksAt ops.toArray).contains d) && (List.range ops.length).all fun j => Nat.beq i j || match ops[j]? with
      | none => false
      | some oj =>
        (match oi.dst with
         | none => true
         | some d => oj.dst != some d && (!(oj.looksAt ops.toArray).contains d || (anc ops j).contains i)) &&
        (match oj.dst with
         | none => true
         | some d => !(oi.looksAt ops.toArray).contains d || (anc ops i).contains j || (anc ops j).contains i)))

/-! ### What the tables' conditions say -/

theorem regOk_noDefer {P : Program} {ops : List Oper} (h : regOk P ops = true) {i : Nat} {o : Oper} (hi : ops[i]? = some o) : noDefer o.op = true := by
  unfold regOk at h
  have hlt : i < ops.length := (List.getElem?_eq_some_iff.1 hi).1
  have := List.all_eq_true.1 h i (List.mem_range.2 hlt)
  rw [hi] at this
  simp only [Bool.and_eq_true] at this
  exact this.1

theorem regOk_self {P : Program} {ops : List Oper} (h : regOk P ops = true) {i : Nat} {o : Oper} (hi : ops[i]? = some o) (hc : cls P o < 3) {d : Nat} (hd : o.dst = some d) :
    d ∉ o.looksAt ops.toArray := by
  unfold regOk at h
  have hlt : i < ops.length := (List.getElem?_eq_some_iff.1 hi).1
  have := List.all_eq_true.1 h i (List.mem_range.2 hlt)
  rw [hi] at this
  have hb : Nat.blt (cls P o) 3 = true := by simpa [Nat.blt_eq] using hc
  simp only [hb, hd, Bool.and_eq_true, Bool.not_true, Bool.false_or] at this
  simpa using this.2.1

theorem regOk_pair {P : Program} {ops : List Oper} (h : regOk P ops = true) {i j : Nat} {oi oj : Oper} (hi : ops[i]? = some oi) (hj : ops[j]? = some oj) (hc : cls P oi < 3) (hne : i ≠ j) :
    (∀ d, oi.dst = some d → oj.dst ≠ some d ∧ (d ∈ oj.looksAt ops.toArray → i ∈ anc ops j)) ∧
    (∀ d, oj.dst = some d → d ∈ oi.looksAt ops.toArray → j ∈ anc ops i ∨ i ∈ anc ops j) := by
  unfold regOk at h
  have hlt : i < ops.length := (List.getElem?_eq_some_iff.1 hi).1
  have hltj : j < ops.length := (List.getElem?_eq_some_iff.1 hj).1
  have := List.all_eq_true.1 h i (List.mem_range.2 hlt)
  rw [hi] at this
  have hb : Nat.blt (cls P oi) 3 = true := by simpa [Nat.blt_eq] using hc
  simp only [hb, Bool.and_eq_true, Bool.not_true, Bool.false_or] at this
  have h2 := List.all_eq_true.1 this.2.2 j (List.mem_range.2 hltj)
  have hbeq : Nat.beq i j = false := by
    cases hh : Nat.beq i j with
    | false => rfl
    | true => exact absurd (Nat.eq_of_beq_eq_true hh) hne
  rw [hj, hbeq] at h2
  simp only [Bool.false_or, Bool.and_eq_true] at h2
  refine ⟨fun d hd => ?_, fun d hd hm => ?_⟩
  · have h3 := h2.1
    rw [hd] at h3
    simp only [Bool.and_eq_true, bne_iff_ne, ne_eq, Bool.or_eq_true] at h3
    refine ⟨h3.1, fun hm => ?_⟩
    rcases h3.2 with h4 | h4
    · simp at h4; exact absurd hm h4
    · simpa using h4
  · have h3 := h2.2
    rw [hd] at h3
    simp only [Bool.or_eq_true] at h3
    rcases h3 with (h4 | h4) | h4
    · simp at h4; exact absurd hm h4
    · exact .inl (by simpa using h4)
    · exact .inr (by simpa using h4)

/-! ### Closed sets -/

def Closed (ops : List Oper) (L : List Nat) : Prop := ∀ i ∈ L, ∀ d ∈ depsOf ops i, d ∈ L

theorem clo_sub {ops : List Oper} {L : List Nat} (hL : Closed ops L) : ∀ (f : Nat) (fr acc : List Nat), (∀ x ∈ fr, x ∈ L) → (∀ x ∈ acc, x ∈ L) → ∀ x ∈ clo ops f fr acc, x ∈ L := by
  intro f
  induction f with
  | zero => intro fr acc _ ha x hx; exact ha x hx
  | succ f ih =>
    intro fr acc hf ha x hx
    cases fr with
    | nil => exact ha x hx
    | cons y r =>
      simp only [clo] at hx
      split at hx
      · exact ih r acc (fun z hz => hf z (List.mem_cons_of_mem _ hz)) ha x hx
      · refine ih _ _ (fun z hz => ?_) (fun z hz => ?_) x hx
        · rcases List.mem_append.1 hz with hz | hz
          · exact hL y (hf y List.mem_cons_self) z hz
          · exact hf z (List.mem_cons_of_mem _ hz)
        · rcases List.mem_cons.1 hz with rfl | hz
          · exact hf z List.mem_cons_self
          · exact ha z hz

theorem anc_sub {ops : List Oper} {L : List Nat} (hL : Closed ops L) {j : Nat} (hj : ∀ d ∈ depsOf ops j, d ∈ L) : ∀ x ∈ anc ops j, x ∈ L :=
  clo_sub hL 4000 _ _ hj (fun _ h => by cases h)

theorem Closed.cons {ops : List Oper} {L : List Nat} (hL : Closed ops L) {j : Nat} (hj : ∀ d ∈ depsOf ops j, d ∈ L) : Closed ops (j :: L) := by
  intro i hi d hd
  rcases List.mem_cons.1 hi with rfl | hi
  · exact List.mem_cons_of_mem _ (hj d hd)
  · exact List.mem_cons_of_mem _ (hL i hi d hd)

theorem rdyB_iff {ops : List Oper} {done : List Nat} {i : Nat} : rdyB ops done i = true ↔ i ∉ done ∧ ∀ d ∈ depsOf ops i, d ∈ done := by
  simp [rdyB]

theorem mem_rdy {ops : List Oper} {done : List Nat} {i : Nat} : i ∈ rdy ops done ↔ i < ops.length ∧ i ∉ done ∧ ∀ d ∈ depsOf ops i, d ∈ done := by
  simp [rdy, List.mem_filter, rdyB_iff]

/-! ### What yields -/

theorem run_value (P : Program) (s : Sem Value) (w : World) (v : Value) (w' : World) (h : s.run P w = .ok v w') : (do pure (.value (← s)) : Sem Next).run P w = .ok (.value v) w' := by
  simp [Sem.run_bind, h, Result.andThen]

theorem quickK_sound {P : Program} {ρ : Operand → Value} {o : Oper} {K : Value → Prop} (h : quickK ρ o.op K) :
    ∃ v, (∀ w, (execOp ρ o).run P w = .ok (.value v) w) ∧ K v := by
  obtain ⟨dst, op, type, pos, after, guard⟩ := o
  unfold quickK at h
  cases op <;> simp only at h <;> first | exact h.elim | skip
  case move x => exact ⟨_, fun _ => rfl, h⟩
  case pick c x y =>
    unfold isB at h
    split at h
    · rename_i b hb
      refine ⟨_, fun w => ?_, h⟩
      simp only [execOp, hb, asBool, Sem.run_bind, Sem.run_pure, Result.andThen, selV_eq]
    · exact h.elim
  case nilCheck x =>
    unfold nilK at h
    split at h
    · rename_i a ha
      exact ⟨_, fun w => by simp only [execOp, ha, Sem.run_pure], h⟩
    · exact h.elim
  case makeFunc fn first captured =>
    rw [argsOf_eq, argsOf_eq] at h
    exact ⟨_, fun _ => rfl, h⟩

theorem pureSem_exec {P : Program} {ρ : Operand → Value} {o : Oper} {s : Sem Value} (h : pureSem P ρ o.op = some s) : execOp ρ o = (do pure (.value (← s))) := by
  obtain ⟨dst, op, type, pos, after, guard⟩ := o
  unfold pureSem at h
  cases op <;> simp only at h <;> first | (cases h; done) | (cases h; rfl) | skip
  case build t ps =>
    have h : Instr.build t ⟨ps.toList.map fun p => (p.1, ρ p.2)⟩ = s := by
      split at h
      · exact Option.some.inj h
      · exact Option.some.inj h
    subst h
    have e : (⟨ps.toList.map fun p => (p.1, ρ p.2)⟩ : Array (Nat × Value)) = ps.map fun (i, x) => (i, ρ x) := by
      apply Array.ext'; simp
    simp only [execOp]
    rw [e]

theorem readSem_exec {P : Program} {ρ : Operand → Value} {o : Oper} {s : Sem Value} (h : readSem P ρ o = some s) : execOp ρ o = (do pure (.value (← s))) := by
  obtain ⟨dst, op, type, pos, after, guard⟩ := o
  unfold readSem at h
  cases op <;> simp only at h <;> first | (cases h; done) | (cases h; rfl) | skip
  case load t x =>
    split at h
    · cases h; rfl
    · cases h; rfl
  case convert a b x =>
    split at h
    · cases h
    · split at h
      · cases h; rfl
      · cases h; rfl
  case call c =>
    obtain ⟨callee, args, ts⟩ := c
    cases callee with
    | value f => cases h
    | invoke r m => cases h
    | builtin b =>
      cases b <;> simp only at h <;> first | (cases h; done) | skip
      all_goals
        rw [argsOf_eq] at h
        cases h
        rfl

/-! ### The simulation -/

/-- Operation 'i', which only reads, yields in world 'w' what the environment holds in its slot. -/
def Val (P : Program) (ops : List Oper) (E : Env) (w : World) (pend : Pend) (i : Nat) : Prop :=
  ∃ o, ops[i]? = some o ∧ cls P o < 3 ∧
    ((wantedE ops E o = true ∧ ∃ v, (∀ d, o.dst = some d → E.get d = v) ∧ (execOp (ev E) o).run P w = .ok (.value v) w ∧
        ((∀ w', (execOp (ev E) o).run P w' = .ok (.value v) w') ∨ ∃ s, (i, s, v) ∈ pend ∧ ∀ w', s.run P w' = .ok v w' → (execOp (ev E) o).run P w' = .ok (.value v) w')) ∨
     (wantedE ops E o = false ∧ ∀ d, o.dst = some d → E.get d = undef))

def AOrd (ops : List Oper) (L : List Nat) : List Nat → Prop
  | [] => True
  | i :: A => (∀ d ∈ depsOf ops i, d ∈ L ∨ d ∈ A) ∧ AOrd ops L A

theorem AOrd.mono {ops : List Oper} {L L' : List Nat} (h : ∀ x ∈ L, x ∈ L') : ∀ {A : List Nat}, AOrd ops L A → AOrd ops L' A
  | [], _ => trivial
  | _ :: _, ha => ⟨fun d hd => (ha.1 d hd).imp (h d) id, AOrd.mono h ha.2⟩

theorem AOrd.erase {ops : List Oper} {L : List Nat} {j : Nat} : ∀ {A : List Nat}, AOrd ops L A → AOrd ops (j :: L) (A.erase j)
  | [], _ => trivial
  | i :: A, ha => by
    by_cases hij : i = j
    · subst hij
      rw [List.erase_cons_head]
      exact ha.2.mono (fun x hx => List.mem_cons_of_mem _ hx)
    · rw [List.erase_cons_tail (by simpa using hij)]
      refine ⟨fun d hd => ?_, ha.2.erase⟩
      rcases ha.1 d hd with h | h
      · exact .inl (List.mem_cons_of_mem _ h)
      · by_cases hdj : d = j
        · exact .inl (by rw [hdj]; exact List.mem_cons_self)
        · exact .inr ((List.mem_erase_of_ne hdj).2 h)

theorem AOrd.first {ops : List Oper} {L : List Nat} : ∀ {A : List Nat}, AOrd ops L A → A ≠ [] → ∃ i ∈ A, ∀ d ∈ depsOf ops i, d ∈ L
  | [], _, h => absurd rfl h
  | [i], ha, _ => ⟨i, List.mem_cons_self, fun d hd => (ha.1 d hd).resolve_right (by simp)⟩
  | i :: k :: A, ha, _ => by
    obtain ⟨j, hj, hd⟩ := ha.2.first (by simp)
    exact ⟨j, List.mem_cons_of_mem _ hj, hd⟩

structure Inv (P : Program) (ops : List Oper) (n : Nat) (L A : List Nat) (done : List Nat) (pend : Pend) (E : Env) (a : Act) (w : World) : Prop where
  doneIff : ∀ i, i ∈ done ↔ i ∈ L ∨ i ∈ A
  apart : ∀ i ∈ A, i ∉ L
  nodup : A.Nodup
  ord : AOrd ops L A
  closed : Closed ops L
  size : a.tmps.size = n
  defs : a.defers = E.ds.map fun d => { target := .collected d, args := #[] }
  frame : ∀ t, (∀ i ∈ A, ∀ o, ops[i]? = some o → o.dst ≠ some t) → a.tmps.getD t undef = E.get t
  val : ∀ i ∈ A, Val P ops E w pend i

theorem Inv.closedDone {P : Program} {ops : List Oper} {n : Nat} {L A done : List Nat} {pend : Pend} {E : Env} {a : Act} {w : World} (h : Inv P ops n L A done pend E a w) : Closed ops done := by
  have hA : ∀ (A : List Nat), AOrd ops L A → ∀ i ∈ A, ∀ d ∈ depsOf ops i, d ∈ L ∨ d ∈ A := by
    intro A
    induction A with
    | nil => intro _ i hi; cases hi
    | cons k A ih =>
      intro ha i hi d hd
      rcases List.mem_cons.1 hi with rfl | hi
      · exact (ha.1 d hd).imp id (List.mem_cons_of_mem _)
      · exact (ih ha.2 i hi d hd).imp id (List.mem_cons_of_mem _)
  intro i hi d hd
  rcases (h.doneIff i).1 hi with hi | hi
  · exact (h.doneIff d).2 (.inl (h.closed i hi d hd))
  · exact (h.doneIff d).2 (hA A h.ord i hi d hd)

theorem exec_env {P : Program} {ops : List Oper} {E E' : Env} {o : Oper} (hn : noDefer o.op = true) (h : ∀ t ∈ o.looksAt ops.toArray, E'.get t = E.get t) :
    execOp (ev E') o = execOp (ev E) o ∧ wantedE ops E' o = wantedE ops E o := by
  constructor
  · refine execOp_congr o (fun cs b hc => by rw [hc] at hn; cases hn) fun x hx => ?_
    cases x with
    | tmp t =>
      refine h t ?_
      unfold Oper.looksAt
      exact List.mem_append_left _ (List.mem_filterMap.2 ⟨.tmp t, by simpa using hx, rfl⟩)
    | const v => rfl
    | global g => rfl
    | func f => rfl
  · unfold wantedE Region.wanted
    cases hg : o.guard with
    | none => rfl
    | some g =>
      obtain ⟨j, want⟩ := g
      simp only
      congr 1
      unfold gslot
      cases ho : ops[j]? with
      | none => rfl
      | some oj =>
        cases hd : oj.dst with
        | none => simp [hd]
        | some s =>
          simp only [hd, Option.bind_some]
          rw [h s (by unfold Oper.looksAt; rw [hg]; simp [ho, hd])]

/-- The environment has turned at a slot that the operation does not look at, and that is not its own. -/
theorem Val.env {P : Program} {ops : List Oper} (hok : regOk P ops = true) {E E' : Env} {w : World} {pend pend' : Pend} {i : Nat} (h : Val P ops E w pend i)
    (hg : ∀ o, ops[i]? = some o → ∀ t, t ∈ o.looksAt ops.toArray ∨ o.dst = some t → E'.get t = E.get t) (hp : ∀ x ∈ pend, x ∈ pend') : Val P ops E' w pend' i := by
  obtain ⟨o, ho, hc, hv⟩ := h
  have he := exec_env (P := P) (ops := ops) (E := E) (E' := E') (regOk_noDefer hok ho) fun t ht => hg o ho t (.inl ht)
  refine ⟨o, ho, hc, ?_⟩
  rw [he.1, he.2]
  rcases hv with ⟨hw, v, hd, hr, hs⟩ | ⟨hw, hd⟩
  · refine .inl ⟨hw, v, fun d hd' => (hg o ho d (.inr hd')).trans (hd d hd'), hr, ?_⟩
    rcases hs with hs | ⟨s, hm, hs⟩
    · exact .inl hs
    · exact .inr ⟨s, hp _ hm, hs⟩
  · exact .inr ⟨hw, fun d hd' => (hg o ho d (.inr hd')).trans (hd d hd')⟩

theorem Val.world {P : Program} {ops : List Oper} {E : Env} {w w' : World} {pend pend' : Pend} {i : Nat} (h : Val P ops E w pend i)
    (hp : ∀ s v, (i, s, v) ∈ pend → (i, s, v) ∈ pend' ∧ (w' = w ∨ s.run P w' = .ok v w')) : Val P ops E w' pend' i := by
  obtain ⟨o, ho, hc, hv⟩ := h
  refine ⟨o, ho, hc, ?_⟩
  rcases hv with ⟨hw, v, hd, hr, hs⟩ | hv
  · rcases hs with hs | ⟨s, hm, hs⟩
    · exact .inl ⟨hw, v, hd, hs w', .inl hs⟩
    · refine .inl ⟨hw, v, hd, ?_, .inr ⟨s, (hp s v hm).1, hs⟩⟩
      rcases (hp s v hm).2 with e | e
      · rw [e]; exact hr
      · exact hs w' e
  · exact .inr hv
end Go.Vc
