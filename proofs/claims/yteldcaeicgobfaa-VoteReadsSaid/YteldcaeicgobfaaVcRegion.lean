/-
  The computed calculus, regions: operations in the order of the text, and regions that draw their order.
  Conditions: none; nothing here speaks of a program.
-/
import Derived.Test.YteldcaeicgobfaaVcBase
import Derived.TacticsIn
set_option linter.unusedSimpArgs false
set_option linter.unusedVariables false
namespace Go.Vc
open Go

/-- The fence that lets everything in; within a round of the loop 'l', or not. -/
def FR : Option Nat → Fence
  | none => Fence.wide
  | some l => Fence.wide.inRound l

theorem FR.fn (ro : Option Nat) (f : FuncId) : (FR ro).fn f := by cases ro <;> exact trivial
theorem FR.round (ro : Option Nat) : (FR ro).round = ro := by cases ro <;> rfl
theorem FR.depth (ro : Option Nat) : (FR ro).depth = none := by cases ro <;> rfl
theorem FR.calls {ro : Option Nat} {n : Nat} {P : Program} {f : FuncId} {args : Array Value} {w : World} {R : Ending → World → Prop} (h : Calls P f args w R) : CallsIn (FR ro) n P f args w R := by
  cases ro with
  | none => exact callsIn_wide.2 h
  | some l => exact (callsIn_wide (n := n)).2 h
theorem FR.roundIn {ro : Option Nat} {n m : Nat} {P : Program} {l : Nat} {f : FuncId} {tmps : Array Value} {assign body : Code} {w : World} {R : Ending → World → Prop}
    (h : RoundIn Fence.wide m P l f tmps assign body w R) : RoundIn (FR ro) n P l f tmps assign body w R := by
  cases ro with
  | none => exact ⟨h.1, fun c cs _ => h.2 c cs (room_wide _)⟩
  | some l => exact ⟨h.1, fun c cs _ => h.2 c cs (room_wide _)⟩

def noDefer : Op → Bool
  | .defer _ | .go _ | .select .. => false
  | _ => true

/-- From what an operation's run gives to the guide's word on it. -/
theorem wpIn_of_rn {P : Program} {ro : Option Nat} {o : Oper} {a : Act} {w : World} {K : Kont} {next : Act → World → Prop} {Q : Exit → Act → World → Prop} {ρ : Operand → Value}
    (hd : noDefer o.op = true) (he : execOp a.eval o = execOp ρ o) (h : rn P (execOp ρ o) w K) (hK : ∀ v w', K v w' → next (a.put o.dst v) w') : o.wpIn (FR ro) 0 P a w next Q := by
  refine ⟨fun f _ => FR.fn ro f, ?_⟩
  rw [FR.round, Oper.semAt_eq ro a.eval o (fun c hc => by rw [hc] at hd; cases hd), he]
  rw [rn_iff] at h
  unfold rnD at h
  split at h
  · rename_i hr; rw [hr]; exact hK _ _ h
  · rename_i hr; rw [hr]; exact hK _ _ h
  · rename_i hr; rw [hr]
    refine ⟨(fun hh => by rw [FR.depth] at hh; cases hh), FR.calls (Calls.mono h.out ?_)⟩
    rintro e w' ⟨v, rfl, hv⟩
    exact hK _ _ hv
  · rename_i hr; rw [hr]
    refine ⟨(fun hh => by rw [FR.depth] at hh; cases hh), FR.roundIn (h.mono ?_)⟩
    rintro e w' ⟨v, rfl, hv⟩
    exact hK _ _ hv
  · exact h.elim

/-! ### Guards -/

def gslot (ops : List Oper) (j : Nat) : Option Nat :=
  match ops[j]? with
  | some o => o.dst
  | none => none

def grd (ops : List Oper) (o : Oper) (E : Env) (yes no : Env → Prop) : Prop :=
  match o.guard with
  | none => yes E
  | some (j, want) =>
    match gslot ops j with
    | none => no E
    | some s =>
      match E.skipped s with
      | true => no E
      | false => isB (E.get s) fun b => bc b
          ((match want with | true => yes | false => no) (E.put (some s) (.bool true)))
          ((match want with | true => no | false => yes) (E.put (some s) (.bool false)))

def boolOf : Value → Option Bool
  | .bool b => some b
  | _ => none

/-- Is the operation carried out, by the environment? -/
def wantedE (ops : List Oper) (E : Env) (o : Oper) : Bool :=
  Region.wanted o fun j => (gslot ops j).bind fun s => boolOf (E.get s)

def Env.Same (E E' : Env) : Prop := (∀ t, E'.get t = E.get t) ∧ E'.ds = E.ds
theorem Env.Same.refl (E : Env) : E.Same E := ⟨fun _ => rfl, rfl⟩
theorem Env.Same.ev {E E' : Env} (h : E.Same E') : Vc.ev E' = Vc.ev E := by
  funext x; cases x <;> first | exact h.1 _ | rfl
theorem Env.Same.wanted {E E' : Env} (h : E.Same E') (ops : List Oper) (o : Oper) : wantedE ops E' o = wantedE ops E o := by
  unfold wantedE; congr 1; funext j; cases gslot ops j <;> simp [h.1]
theorem Env.same_put {E : Env} {s : Nat} {v : Value} (h : E.get s = v) : E.Same (E.put (some s) v) := by
  refine ⟨fun t => ?_, rfl⟩
  rw [Env.get_put]; split
  · rename_i e; rw [← e, h]
  · rfl

theorem grd_cases {ops : List Oper} {o : Oper} {E : Env} {yes no : Env → Prop} (h : grd ops o E yes no) :
    (wantedE ops E o = true ∧ ∃ E', E.Same E' ∧ yes E') ∨ (wantedE ops E o = false ∧ ∃ E', E.Same E' ∧ no E') := by
  unfold grd at h
  unfold wantedE Region.wanted
  cases hg : o.guard with
  | none => rw [hg] at h; exact .inl ⟨rfl, E, .refl E, h⟩
  | some g =>
    obtain ⟨j, want⟩ := g
    rw [hg] at h
    simp only at h ⊢
    cases hs : gslot ops j with
    | none => rw [hs] at h; exact .inr ⟨rfl, E, .refl E, h⟩
    | some s =>
      rw [hs] at h
      simp only at h
      cases hk : E.skipped s with
      | true =>
        rw [hk] at h
        have hu : E.get s = undef := by
          unfold Env.skipped at hk
          unfold Env.get
          split at hk
          · rename_i hl; rw [hl]
          · cases hk
        exact .inr ⟨by simp [hu, undef, boolOf], E, .refl E, h⟩
      | false =>
        rw [hk] at h
        simp only [isB] at h
        split at h
        · rename_i b hb
          cases b with
          | true =>
            cases want with
            | true => exact .inl ⟨by simp [hb, boolOf], _, Env.same_put hb, h⟩
            | false => exact .inr ⟨by simp [hb, boolOf], _, Env.same_put hb, h⟩
          | false =>
            cases want with
            | true => exact .inr ⟨by simp [hb, boolOf], _, Env.same_put hb, h⟩
            | false => exact .inl ⟨by simp [hb, boolOf], _, Env.same_put hb, h⟩
        · exact h.elim

theorem yielded_eq {ops : List Oper} {a : Act} {E : Env} {o : Oper} (h : ∀ t, t ∈ o.looksAt ops.toArray → a.tmps.getD t undef = E.get t) :
    Region.wanted o (yielded ops.toArray a.tmps) = wantedE ops E o := by
  unfold wantedE Region.wanted
  cases hg : o.guard with
  | none => rfl
  | some g =>
    obtain ⟨j, want⟩ := g
    simp only
    congr 1
    unfold yielded gslot
    cases ho : ops[j]? with
    | none => simp [ho]
    | some oj =>
      cases hd : oj.dst with
      | none => simp [ho, hd]
      | some s =>
        have hm : s ∈ o.looksAt ops.toArray := by
          unfold Oper.looksAt
          rw [hg]
          simp [ho, hd]
        have := h s hm
        simp only [List.getElem?_toArray, ho, Option.bind_some, hd]
        rw [← this]
        by_cases hlt : s < a.tmps.size
        · simp only [Array.getElem?_eq_getElem hlt, Array.getD_eq_getD_getElem?, Option.getD_some]
          cases a.tmps[s] <;> rfl
        · simp [Array.getElem?_eq_none (Nat.le_of_not_lt hlt), undef, boolOf]

theorem execOp_agree {ops : List Oper} {a : Act} {E : Env} {o : Oper} (hd : noDefer o.op = true) (h : ∀ t, t ∈ o.looksAt ops.toArray → a.tmps.getD t undef = E.get t) :
    execOp a.eval o = execOp (ev E) o := by
  refine execOp_congr o (fun cs b hc => by rw [hc] at hd; cases hd) fun x hx => ?_
  cases x with
  | tmp t =>
    refine h t ?_
    unfold Oper.looksAt
    refine List.mem_append_left _ (List.mem_filterMap.2 ⟨.tmp t, by simpa using hx, rfl⟩)
  | const v => rfl
  | global g => rfl
  | func f => rfl

theorem ev_func (E : Env) (f : FuncId) : ev E (.func f) = .func (.func f) #[] #[] := rfl

theorem wOp_noDefer {P : Program} {ρ : Operand → Value} {o : Oper} {w : World} {K : Kont} (h : wOp P ρ o w K) : noDefer o.op = true := by
  unfold wOp at h
  cases hop : o.op <;> rw [hop] at h <;> first | rfl | exact h.elim

/-! ### A region in the order of the text -/

def vcList (P : Program) (ops : List Oper) : List Oper → Env → World → (Env → World → Prop) → Prop
  | [], E, w, K => K E w
  | o :: rest, E, w, K =>
    grd ops o E (fun E => wOp P (ev E) o w fun v w' => vcList P ops rest (E.put o.dst v) w' K)
      (fun E => vcList P ops rest (E.skip o.dst) w K)

theorem vcList_sound {P : Program} (hP : NoNum P = true) {ro : Option Nat} {n : Nat} {ops : List Oper} {Q : Exit → Act → World → Prop} {K : Env → World → Prop}
    (hK : ∀ E a w, Rel n E a → K E w → Q .normal a w) : ∀ (l : List Oper), (l.all fun o => dstOk n o.dst) = true → ∀ (E : Env) (a : Act) (w : World), Rel n E a →
    vcList P ops l E w K → wpListIn (FR ro) 0 P ops.toArray Q l a w := by
  intro l
  induction l with
  | nil => exact fun _ E a w hr h => hK E a w hr h
  | cons o rest ih =>
    intro hl E a w hr h
    simp only [List.all_cons, Bool.and_eq_true] at hl
    unfold wpListIn
    have hlook : ∀ t, t ∈ o.looksAt ops.toArray → a.tmps.getD t undef = E.get t := fun t _ => hr.get t
    rw [yielded_eq hlook]
    rcases grd_cases h with ⟨hw, E', hs, hy⟩ | ⟨hw, E', hs, hn⟩
    · rw [if_pos hw]
      have hr' : Rel n E' a := hr.of_get hs.1 hs.2
      have hnd := wOp_noDefer hy
      refine wpIn_of_rn (ρ := ev E') hnd (by rw [hr'.ev]) (wOp_sound hP (ev_func E') hy) fun v w' hv => ?_
      exact ih hl.2 _ _ _ (hr'.put hl.1 v) hv
    · rw [if_neg (by rw [hw]; simp)]
      exact ⟨fun f _ => FR.fn ro f, ih hl.2 _ _ _ ((hr.of_get hs.1 hs.2).skip hl.1) hn⟩

end Go.Vc
