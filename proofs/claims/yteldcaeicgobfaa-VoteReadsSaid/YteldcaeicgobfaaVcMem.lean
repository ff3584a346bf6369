/-
  Memory: what a world's blocks hold behind a step; worlds that differ at some blocks alone; simplification rules for the computed formulas.
  Conditions: none; nothing here speaks of a program.
-/
import Derived.Test.YteldcaeicgobfaaVcFn
import Derived.WalkKit
import Derived.WalkLawsBesides
import Derived.RowKit3
import Derived.Laws.Cover3
set_option linter.unusedSimpArgs false
set_option linter.unusedVariables false
namespace Go.Vc
open Go

/-! ### The formulas' own words -/

@[simp, go_sem] theorem ifB_bool (b : Bool) (T F : Prop) : ifB (.bool b) T F ↔ if b = true then T else F := by cases b <;> simp [ifB, isB, bc]
@[simp, go_sem] theorem isB_bool (b : Bool) (K : Bool → Prop) : isB (.bool b) K ↔ K b := Iff.rfl
@[simp, go_sem] theorem nilK_ptr (a : Addr) (K : Value → Prop) : nilK (.pointer (some a)) K ↔ K (.pointer (some a)) := Iff.rfl
@[simp, go_sem] theorem bc_if (b : Bool) (T F : Prop) : bc b T F ↔ if b = true then T else F := by cases b <;> simp [bc]
@[simp, go_sem] theorem selV_if (b : Bool) (x y : Value) : selV b x y = if b = true then x else y := by cases b <;> rfl
/- The walk goes on where the first operation is done: what stands behind it is left alone till then. -/
theorem rv_congr {P : Program} {s s' : Sem Value} {w w' : World} {K : Kont} (h1 : s = s') (h2 : w = w') : rv P s w K = rv P s' w' K := by rw [h1, h2]
theorem ru_congr {P : Program} {s s' : Sem Unit} {w w' : World} {K : World → Prop} (h1 : s = s') (h2 : w = w') : ru P s w K = ru P s' w' K := by rw [h1, h2]
theorem rn_congr {P : Program} {s s' : Sem Next} {w w' : World} {K : Kont} (h1 : s = s') (h2 : w = w') : rn P s w K = rn P s' w' K := by rw [h1, h2]
theorem rdW_congr {P : Program} {s s' : Sem Value} {w w' : World} {K : Value → Prop} (h1 : s = s') (h2 : w = w') : rdW P s w K = rdW P s' w' K := by rw [h1, h2]
theorem rdP_congr {P : Program} {s s' : Sem Value} {K : Value → Prop} (h1 : s = s') : rdP P s K = rdP P s' K := by rw [h1]
theorem Ca_congr {P : Program} {f : FuncId} {a a' : Array Value} {w w' : World} {K : Kont} (h1 : a = a') (h2 : w = w') : Ca P f a w K = Ca P f a' w' K := by rw [h1, h2]
theorem callV_congr {P : Program} {f f' : Value} {a a' : List Value} {w w' : World} {K : Kont} (h0 : f = f') (h1 : a = a') (h2 : w = w') : callV P f a w K = callV P f' a' w' K := by rw [h0, h1, h2]
theorem nilK_congr {v v' : Value} {K : Value → Prop} (h : v = v') : nilK v K = nilK v' K := by rw [h]
theorem isB_congr {v v' : Value} {K : Bool → Prop} (h : v = v') : isB v K = isB v' K := by rw [h]
theorem ifB_congr {v v' : Value} {T F : Prop} (h : v = v') : ifB v T F = ifB v' T F := by rw [h]
theorem LoopW_congr {S : Type} {body : S → World → (S → World → Prop) → Prop} {s s' : S} {w w' : World} (h1 : s = s') (h2 : w = w') : LoopW body s w = LoopW body s' w' := by rw [h1, h2]
theorem rx_congr {P : Program} {s s' : Sem Value} {w w' : World} {K : Kont} (h1 : s = s') (h2 : w = w') : rx P s w K = rx P s' w' K := by rw [h1, h2]
theorem rux_congr {P : Program} {s s' : Sem Unit} {w w' : World} {K : World → Prop} (h1 : s = s') (h2 : w = w') : rux P s w K = rux P s' w' K := by rw [h1, h2]
theorem rdX_congr {P : Program} {s s' : Sem Value} {w w' : World} {K : Value → Prop} (h1 : s = s') (h2 : w = w') : rdX P s w K = rdX P s' w' K := by rw [h1, h2]
theorem rdPX_congr {P : Program} {s s' : Sem Value} {K : Value → Prop} (h1 : s = s') : rdPX P s K = rdPX P s' K := by rw [h1]
attribute [congr] rx_congr rux_congr rdX_congr rdPX_congr rv_congr ru_congr rn_congr rdW_congr rdP_congr Ca_congr callV_congr nilK_congr isB_congr ifB_congr LoopW_congr

attribute [go_sem] rv_iff rvD ru_iff ruD rn_iff rnD rdW_iff rdWD rdP_iff rdPD bin eqG
@[go_sem] theorem callV_func {P : Program} {f : FuncId} {first captured : Array Value} {args : List Value} {w : World} {K : Kont} : callV P (.func (.func f) first captured) args w K ↔ Ca P f ⟨first.toList ++ (args ++ captured.toList)⟩ w K := callV_iff

theorem loopW {S : Type} {body : S → World → (S → World → Prop) → Prop} {s : S} {w : World} (I : S → World → Prop) (m : S → World → Nat) (h0 : I s w)
    (h : ∀ s w, I s w → body s w fun s' w' => I s' w' ∧ m s' w' < m s w) : LoopW body s w := ⟨I, m, h0, h⟩

/-! ### Comparisons with nil -/

def isMapT (P : Program) (t : TypeId) : Bool := match P.underlying t with | some (.map ..) => true | _ => false
def isSliceT (P : Program) (t : TypeId) : Bool := match P.underlying t with | some (.slice ..) => true | _ => false
@[go_sem] theorem isMapT_iff {P : Program} {t : TypeId} : isMapT P t = true ↔ ∃ k e, P.underlying t = some (.map k e) := by
  unfold isMapT
  split <;> simp_all
@[go_sem] theorem isSliceT_iff {P : Program} {t : TypeId} : isSliceT P t = true ↔ ∃ e, P.underlying t = some (.slice e) := by
  unfold isSliceT
  split <;> simp_all
@[go_sem] theorem vc_eql_map_nil {P : Program} {w : World} (t : TypeId) (m : Option Nat) (h : isMapT P t = true) : (binOp .eql t (.map m) (.map none)).run P w = .ok (.bool m.isNone) w := by
  obtain ⟨k, e, h⟩ := isMapT_iff.1 h
  simp only [binOp]
  simp [run_equal_map_nil w t k e m h]
@[go_sem] theorem vc_neq_map_nil {P : Program} {w : World} (t : TypeId) (m : Option Nat) (h : isMapT P t = true) : (binOp .neq t (.map m) (.map none)).run P w = .ok (.bool (!m.isNone)) w := by
  obtain ⟨k, e, h⟩ := isMapT_iff.1 h
  simp only [binOp]
  simp [run_equal_map_nil w t k e m h]
@[go_sem] theorem vc_eql_slice_nil {P : Program} {w : World} (t : TypeId) (a : Option Addr) (l c : Nat) (h : isSliceT P t = true) : (binOp .eql t (.slice a l c) (.slice none 0 0)).run P w = .ok (.bool a.isNone) w := by
  obtain ⟨e, h⟩ := isSliceT_iff.1 h
  simp only [binOp]
  simp [run_equal_slice_nil w t e a l c h]
@[go_sem] theorem vc_neq_slice_nil {P : Program} {w : World} (t : TypeId) (a : Option Addr) (l c : Nat) (h : isSliceT P t = true) : (binOp .neq t (.slice a l c) (.slice none 0 0)).run P w = .ok (.bool (!a.isNone)) w := by
  obtain ⟨e, h⟩ := isSliceT_iff.1 h
  simp only [binOp]
  simp [run_equal_slice_nil w t e a l c h]

@[go_sem] theorem vc_makeMap {P : Program} {w : World} (t : TypeId) : (Instr.makeMap t none).run P w = .ok (.map (some w.heap.size)) (w.alloc (.map #[] 0)) := by
  simp [Instr.makeMap]
@[go_sem] theorem vc_makeMap_hint {P : Program} {w : World} (t : TypeId) (k : IntKind) (n : Int) (h : isMapT P t = true) : (Instr.makeMap t (some (.int k n))).run P w = .ok (.map (some w.heap.size)) (w.alloc (.map #[] 0)) := by
  obtain ⟨k, e, h⟩ := isMapT_iff.1 h
  simp [Instr.makeMap, run_underlying h, asInt, asIntOf, Result.andThen]

/-! ### Blocks -/

def setObj1 (o : Option Obj) (i : Nat) (v : Value) : Option Obj :=
  match o with
  | some (.cells c t fz) => some (.cells (c.setIfInBounds i v) t fz)
  | o => o
@[simp] theorem setObj1_cells (c : Array Value) (t : TypeId) (fz : Nat × Nat) (i : Nat) (v : Value) : setObj1 (some (.cells c t fz)) i v = some (.cells (c.setIfInBounds i v) t fz) := rfl

theorem heap_setCell (w : World) (b i : Nat) (v : Value) (b' : Nat) : (w.setCell ⟨b, i, none⟩ v).heap[b']? = if b' = b then setObj1 w.heap[b]? i v else w.heap[b']? := by
  unfold World.setCell
  simp only [Option.isSome_none, Bool.false_eq_true, if_false]
  rw [Array.getElem?_modify]
  by_cases h : b = b'
  · subst h
    simp only [if_true]
    cases hh : w.heap[b]? with
    | none => rfl
    | some o => cases o <;> rfl
  · rw [if_neg h, if_neg (fun e => h e.symm)]
theorem heap_alloc (w : World) (o : Obj) (b' : Nat) : (w.alloc o).heap[b']? = if b' = w.heap.size then some o else w.heap[b']? := by
  show (w.heap.push o)[b']? = _
  rw [Array.getElem?_push]
theorem heap_putObj (w : World) (b : Nat) (o : Obj) (b' : Nat) : (w.putObj b o).heap[b']? = if b' = b then (w.heap[b]?).map (fun _ => o) else w.heap[b']? := by
  unfold World.putObj
  simp only
  rw [Array.getElem?_setIfInBounds]
  by_cases h : b = b'
  · subst h
    simp only [if_true]
    by_cases hlt : b < w.heap.size
    · simp [hlt]
    · simp [hlt]
  · rw [if_neg h, if_neg (fun e => h e.symm)]
theorem heap_drew (w : World) : w.drew.heap = w.heap := rfl
theorem size_setCell (w : World) (a : Addr) (v : Value) : (w.setCell a v).heap.size = w.heap.size := by simp [World.setCell]
theorem lt_of_heap {w : World} {b : Nat} {o : Obj} (h : w.heap[b]? = some o) : b < w.heap.size := (Array.getElem?_eq_some_iff.1 h).1

/-! ### The same, with a word of its own (so that no rule on arrays looks in) -/

def hp (w : World) (b : Nat) : Option Obj := w.heap[b]?
theorem hp_of {w : World} {b : Nat} {o : Option Obj} (h : w.heap[b]? = o) : hp w b = o := h
@[go_sem] theorem cell_hp (w : World) (a : Addr) : w.cell? a = match hp w a.block with | some (.cells c _ _) => if a.spot.isSome then none else c[a.off]? | _ => none := rfl
@[go_sem] theorem frozen_hp (w : World) (a : Addr) : w.frozen? a = match hp w a.block with | some (.cells _ _ (lo, hi)) => lo ≤ a.off && a.off < hi | _ => false := rfl
@[go_sem] theorem hp_setCell (w : World) (b i : Nat) (v : Value) (b' : Nat) : hp (w.setCell ⟨b, i, none⟩ v) b' = if b' = b then setObj1 (hp w b) i v else hp w b' := heap_setCell w b i v b'
@[go_sem] theorem hp_alloc (w : World) (o : Obj) (b' : Nat) : hp (w.alloc o) b' = if b' = w.heap.size then some o else hp w b' := heap_alloc w o b'
@[go_sem] theorem hp_putObj (w : World) (b : Nat) (o : Obj) (b' : Nat) : hp (w.putObj b o) b' = if b' = b then (hp w b).map (fun _ => o) else hp w b' := heap_putObj w b o b'
@[go_sem] theorem hp_drew (w : World) (b : Nat) : hp w.drew b = hp w b := rfl
attribute [go_sem] size_setCell World.size_alloc World.putObj_size
@[go_sem] theorem size_drew (w : World) : w.drew.heap.size = w.heap.size := rfl

/- An old block is none of the new ones. -/
theorem olds {d n : Nat} (h : d < n) : ¬ d = n ∧ (∀ k, ¬ d = n + k) ∧ ¬ n = d ∧ ∀ k, ¬ n + k = d := ⟨by omega, fun k => by omega, by omega, fun k => by omega⟩

/- Sizes: one number behind another. -/
@[go_sem] theorem add_lit (n a b : Nat) : n + a + b = n + (a + b) := Nat.add_assoc n a b

/-- From w to w' nothing has turned but at the blocks F, and blocks have come. -/
structure Mod (F : Nat → Prop) (w w' : World) : Prop where
  size : w.heap.size ≤ w'.heap.size
  out : w'.output = w.output
  os : w'.os = w.os
  blk : ∀ b, b < w.heap.size → ¬ F b → w'.heap[b]? = w.heap[b]?

theorem Mod.refl (F : Nat → Prop) (w : World) : Mod F w w := ⟨Nat.le_refl _, rfl, rfl, fun _ _ _ => rfl⟩
theorem Mod.trans {F : Nat → Prop} {w w1 w2 : World} (h : Mod F w w1) (h' : Mod F w1 w2) : Mod F w w2 :=
  ⟨Nat.le_trans h.size h'.size, h'.out.trans h.out, h'.os.trans h.os, fun b hb hf => (h'.blk b (Nat.lt_of_lt_of_le hb h.size) hf).trans (h.blk b hb hf)⟩
theorem Mod.mono {F G : Nat → Prop} {w w' : World} (h : Mod F w w') (hs : ∀ b, b < w.heap.size → F b → G b) : Mod G w w' :=
  ⟨h.size, h.out, h.os, fun b hb hg => h.blk b hb fun hf => hg (hs b hb hf)⟩
theorem Mod.alloc {F : Nat → Prop} {w w' : World} (h : Mod F w w') (o : Obj) : Mod F w (w'.alloc o) :=
  ⟨by rw [World.size_alloc]; exact Nat.le_succ_of_le h.size, h.out, h.os, fun b hb hf => by
    rw [heap_alloc, if_neg (by have := h.size; omega)]; exact h.blk b hb hf⟩
theorem Mod.drew {F : Nat → Prop} {w w' : World} (h : Mod F w w') : Mod F w w'.drew := ⟨h.size, h.out, h.os, h.blk⟩
theorem Mod.setCell {F : Nat → Prop} {w w' : World} (h : Mod F w w') {b : Nat} (hb : F b ∨ w.heap.size ≤ b) (i : Nat) (v : Value) : Mod F w (w'.setCell ⟨b, i, none⟩ v) :=
  ⟨by rw [size_setCell]; exact h.size, h.out, h.os, fun b' hb' hf => by
    rw [heap_setCell, if_neg (fun e => by subst e; rcases hb with hb | hb; exact hf hb; omega)]; exact h.blk b' hb' hf⟩
theorem Mod.putObj {F : Nat → Prop} {w w' : World} (h : Mod F w w') {b : Nat} (hb : F b ∨ w.heap.size ≤ b) (o : Obj) : Mod F w (w'.putObj b o) :=
  ⟨by rw [World.putObj_size]; exact h.size, h.out, h.os, fun b' hb' hf => by
    rw [heap_putObj, if_neg (fun e => by subst e; rcases hb with hb | hb; exact hf hb; omega)]; exact h.blk b' hb' hf⟩
/-- A second part that turns some of F, and new blocks. -/
theorem Mod.on {F G : Nat → Prop} {w w1 w2 : World} (h : Mod F w w1) (h' : Mod G w1 w2) (hG : ∀ b, G b → F b ∨ w.heap.size ≤ b) : Mod F w w2 :=
  ⟨Nat.le_trans h.size h'.size, h'.out.trans h.out, h'.os.trans h.os, fun b hb hf => (h'.blk b (Nat.lt_of_lt_of_le hb h.size) fun hg => (hG b hg).elim hf (by omega)).trans (h.blk b hb hf)⟩
/-- What lay, and may not turn, lies. -/
theorem Mod.keep {F : Nat → Prop} {w w' : World} (h : Mod F w w') {b : Nat} {o : Obj} (ho : w.heap[b]? = some o) (hf : ¬ F b) : w'.heap[b]? = some o :=
  (h.blk b (lt_of_heap ho) hf).trans ho

end Go.Vc
