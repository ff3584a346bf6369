/-
  Rules of the operations that simplification does not lay open: aggregates of many cells, append, copy, make, strings and bytes.
  Conditions: none; nothing here speaks of a program.
-/
import Derived.Test.YteldcaeicgobfaaVcMem
import Derived.Laws.CopyRow
import Derived.Laws.Append
import Derived.Laws.MakeOwn
set_option linter.unusedSimpArgs false
set_option linter.unusedVariables false
namespace Go.Vc
open Go

theorem rx_of {P : Program} {s : Sem Value} {w : World} {K : Kont} {v : Value} {w' : World} (h : s.run P w = .ok v w') (hK : K v w') : rx P s w K :=
  ⟨⟨by unfold rvD; rw [h]; exact hK⟩⟩
theorem rux_of {P : Program} {s : Sem Unit} {w : World} {K : World → Prop} {w' : World} (h : s.run P w = .ok () w') (hK : K w') : rux P s w K :=
  ⟨⟨by unfold ruD; rw [h]; exact hK⟩⟩
theorem rdX_of {P : Program} {s : Sem Value} {w : World} {K : Value → Prop} {v : Value} (h : s.run P w = .ok v w) (hK : K v) : rdX P s w K :=
  ⟨⟨by unfold rdWD; rw [h]; exact ⟨rfl, hK⟩⟩⟩
theorem rdPX_of {P : Program} {s : Sem Value} {K : Value → Prop} {v : Value} (h : ∀ w, s.run P w = .ok v w) (hK : K v) : rdPX P s K :=
  ⟨⟨⟨v, h, hK⟩⟩⟩

theorem addr_add (b off i : Nat) : (⟨b, off, none⟩ : Addr).add i = ⟨b, off + i, none⟩ := by
  unfold Addr.add; split <;> simp_all

theorem heap_setRow (w : World) (g : Nat) (cs : Array Value) (b : Nat) : (w.setRow g cs).heap[b]? = if b = g then (match w.heap[g]? with | some (.cells _ t fz) => some (.cells cs t fz) | o => o) else w.heap[b]? := by
  by_cases h : b = g
  · subst h
    rw [if_pos rfl]
    cases hh : w.heap[b]? with
    | none =>
      simp only
      have : w.heap.size ≤ b := by simpa using hh
      simp [World.setRow, this]
    | some o =>
      cases o <;> first | exact setRow_heap w b _ cs _ _ hh | (simp only [World.setRow, Array.getElem?_modify, if_true, hh]; rfl)
  · rw [if_neg h]; exact setRow_other w g b cs h
@[go_sem] theorem hp_setRow (w : World) (g : Nat) (cs : Array Value) (b : Nat) : hp (w.setRow g cs) b = if b = g then (match hp w g with | some (.cells _ t fz) => some (.cells cs t fz) | o => o) else hp w b := heap_setRow w g cs b
attribute [go_sem] setRow_size
theorem Mod.setRow {F : Nat → Prop} {w w' : World} (h : Mod F w w') {b : Nat} (hb : F b ∨ w.heap.size ≤ b) (cs : Array Value) : Mod F w (w'.setRow b cs) :=
  ⟨by rw [setRow_size]; exact h.size, h.out, h.os, fun b' hb' hf => by
    rw [setRow_other _ _ _ _ (fun e => by subst e; rcases hb with hb | hb; exact hf hb; omega)]; exact h.blk b' hb' hf⟩

/-! ### Reading and writing rows -/

/-- The cells from 'off' on in block b are cs. -/
def At (w : World) (b off : Nat) (cs : List Value) : Prop := ∃ c e fz, w.heap[b]? = some (.cells c e fz) ∧ off + cs.length ≤ c.size ∧ (c.toList.drop off).take cs.length = cs

theorem At.cell {w : World} {b off : Nat} {cs : List Value} (h : At w b off cs) (j : Nat) (v : Value) (hv : cs[j]? = some v) : w.cell? ⟨b, off + j, none⟩ = some v := by
  obtain ⟨c, e, fz, hc, hl, ht⟩ := h
  have hj : j < cs.length := (List.getElem?_eq_some_iff.1 hv).1
  rw [← ht, List.getElem?_take, if_pos hj, List.getElem?_drop] at hv
  simp only [World.cell?, hc]
  simpa using hv

theorem At.get {w : World} {b off : Nat} {cs : List Value} (h : At w b off cs) : ∃ C e fz, hp w b = some (.cells C e fz) ∧ ∀ j v, cs[j]? = some v → C[off + j]? = some v := by
  obtain ⟨c, e, fz, hc, hl, ht⟩ := h
  refine ⟨c, e, fz, hc, fun j v hv => ?_⟩
  have hj : j < cs.length := (List.getElem?_eq_some_iff.1 hv).1
  rw [← ht, List.getElem?_take, if_pos hj, List.getElem?_drop] at hv
  simpa using hv
theorem At.loads {P : Program} {w : World} {b off : Nat} {cs : List Value} (h : At w b off cs) : (loadCells ⟨b, off, none⟩ cs.length).run P w = .ok cs.toArray w :=
  run_loadCells_list w _ cs fun j v hv => by rw [addr_add]; exact h.cell j v hv

theorem At.keep {w w' : World} {b off : Nat} {cs : List Value} (h : At w b off cs) (hb : w'.heap[b]? = w.heap[b]?) : At w' b off cs := by
  obtain ⟨c, e, fz, hc, hr⟩ := h
  exact ⟨c, e, fz, by rw [hb]; exact hc, hr⟩
theorem At.mod {F : Nat → Prop} {w w' : World} {b off : Nat} {cs : List Value} (h : At w b off cs) (hm : Mod F w w') (hf : ¬ F b) : At w' b off cs := by
  obtain ⟨c, e, fz, hc, hr⟩ := h
  exact ⟨c, e, fz, hm.keep hc hf, hr⟩
theorem At.lt {w : World} {b off : Nat} {cs : List Value} (h : At w b off cs) : b < w.heap.size := by
  obtain ⟨c, e, fz, hc, _⟩ := h
  exact lt_of_heap hc
theorem At.sub {w : World} {b off : Nat} {cs : List Value} (h : At w b off cs) (i k : Nat) (hk : i + k ≤ cs.length) : At w b (off + i) ((cs.drop i).take k) := by
  obtain ⟨c, e, fz, hc, hl, ht⟩ := h
  have e1 : ((cs.drop i).take k).length = k := by simp; omega
  refine ⟨c, e, fz, hc, by rw [e1]; omega, ?_⟩
  rw [e1]
  conv => rhs; rw [← ht]
  rw [List.drop_take, List.take_take, List.drop_drop, Nat.min_eq_left (by omega)]
theorem At.nil {w : World} {b off : Nat} {c : Array Value} {e : TypeId} {fz : Nat × Nat} (h : w.heap[b]? = some (.cells c e fz)) (hl : off ≤ c.size) : At w b off [] := ⟨c, e, fz, h, by simpa using hl, by simp⟩

def isAggT (P : Program) (t : TypeId) : Bool :=
  match P.underlying t with
  | some (.struct _) | some (.array ..) => true
  | _ => false
theorem run_isAgg {P : Program} {t : TypeId} (h : isAggT P t = true) (w : World) : (isAgg t).run P w = .ok true w := by
  unfold isAggT at h
  unfold isAgg
  split at h
  · rename_i hu; simp [Sem.run_bind, run_underlying hu, Result.andThen]
  · rename_i hu; simp [Sem.run_bind, run_underlying hu, Result.andThen]
  · cases h
theorem info_of_cells {P : Program} {t : TypeId} {n : Nat} (h : P.cellsOf t = n + 1) : ∃ i, P.info? t = some i ∧ i.size = n + 1 := by
  unfold Program.cellsOf at h
  cases hi : P.info? t with
  | none => simp [hi] at h
  | some i => exact ⟨i, rfl, by simpa [hi] using h⟩
theorem run_sizeOf {P : Program} {t : TypeId} {n : Nat} (h : P.cellsOf t = n + 1) (w : World) : (sizeOf t).run P w = .ok (n + 1) w := by
  obtain ⟨i, hi, hs⟩ := info_of_cells h
  simp [sizeOf, typeInfo, hi, hs]

theorem run_bigS {P : Program} {t : TypeId} {w : World} {b off : Nat} {cs : List Value} {n : Nat} (h0 : isAggT P t = true) (hn : P.cellsOf t = n + 1) (hl : cs.length = n + 1) (h : At w b off cs) :
    (bigS t (.pointer (some ⟨b, off, none⟩))).run P w = .ok (.agg cs.toArray) w := by
  have := h.loads (P := P)
  rw [hl] at this
  simp [bigS, Instr.loadAt, Instr.sureAddr, loadVar, Sem.run_bind, run_isAgg h0, run_sizeOf hn, Result.andThen, this]
theorem rx_bigS {P : Program} {t : TypeId} {w : World} {K : Kont} {b off : Nat} (cs : List Value) (n : Nat) (h0 : isAggT P t = true) (hn : P.cellsOf t = n + 1) (hl : cs.length = n + 1) (h : At w b off cs) (hK : K (.agg cs.toArray) w) :
    rx P (bigS t (.pointer (some ⟨b, off, none⟩))) w K := rx_of (run_bigS h0 hn hl h) hK
theorem rdX_bigS {P : Program} {t : TypeId} {w : World} {K : Value → Prop} {b off : Nat} (cs : List Value) (n : Nat) (h0 : isAggT P t = true) (hn : P.cellsOf t = n + 1) (hl : cs.length = n + 1) (h : At w b off cs) (hK : K (.agg cs.toArray)) :
    rdX P (bigS t (.pointer (some ⟨b, off, none⟩))) w K := rdX_of (run_bigS h0 hn hl h) hK

/-- The row with cs laid from 'off' on. -/
def lay (c : List Value) (off : Nat) (cs : List Value) : List Value := c.take off ++ cs ++ c.drop (off + cs.length)
theorem lay_length {c : List Value} {off : Nat} {cs : List Value} (h : off + cs.length ≤ c.length) : (lay c off cs).length = c.length := by
  simp [lay]; omega
theorem lay_all {c cs : List Value} (h : cs.length = c.length) : lay c 0 cs = cs := by simp [lay, h]

theorem oneAll_mem {cs : List Value} (h : cs.all (·.oneCell') = true) : ∀ v ∈ cs, v.oneCell' = true := fun v hv => List.all_eq_true.1 h v hv

theorem run_bigU {P : Program} {t : TypeId} {w : World} {b off : Nat} {cs : List Value} {n : Nat} {c : Array Value} {e : TypeId} (hn : P.cellsOf t = n + 1) (hl : cs.length = n + 1)
    (h : w.heap[b]? = some (.cells c e (0, 0))) (hf : off + cs.length ≤ c.size) (h1 : cs.all (·.oneCell') = true) :
    (bigU t (.pointer (some ⟨b, off, none⟩)) (.agg cs.toArray)).run P w = .ok () (w.setRow b (lay c.toList off cs).toArray) := by
  have := run_storeCells_at P b off e cs 0 c w h (by simpa using hf) (oneAll_mem h1)
  simp only [Nat.add_zero] at this
  simp [bigU, Instr.storeAt, Instr.sureAddr, storeVar, Sem.run_bind, run_sizeOf hn, Value.cells, hl, Result.andThen, this, lay]
theorem rux_bigU {P : Program} {t : TypeId} {w : World} {K : World → Prop} {b off : Nat} {cs : List Value} {n : Nat} {c : Array Value} {e : TypeId} (hn : P.cellsOf t = n + 1) (hl : cs.length = n + 1)
    (h : w.heap[b]? = some (.cells c e (0, 0))) (hf : off + cs.length ≤ c.size) (h1 : cs.all (·.oneCell') = true) (hK : K (w.setRow b (lay c.toList off cs).toArray)) :
    rux P (bigU t (.pointer (some ⟨b, off, none⟩)) (.agg cs.toArray)) w K := rux_of (run_bigU hn hl h hf h1) hK

/-- The noughts of a type. -/
def zeroC (P : Program) (t : TypeId) : List Value :=
  match (P.info? t).bind (·.zero) with
  | some z => z.cells.toList
  | none => []
def hasZero (P : Program) (t : TypeId) : Bool := ((P.info? t).bind (·.zero)).isSome

theorem run_bigA {P : Program} {t : TypeId} {w : World} (hz : hasZero P t = true) :
    (bigA t).run P w = .ok (.pointer (some ⟨w.heap.size, 0, none⟩)) (w.alloc (.cells (zeroC P t).toArray t)) := by
  unfold hasZero at hz
  cases hi : P.info? t with
  | none => simp [hi] at hz
  | some i =>
    cases hzz : i.zero with
    | none => simp [hi, hzz] at hz
    | some z => simp [bigA, Instr.alloc, zeroValue, typeInfo, hi, hzz, newVar, newRow, zeroC]
theorem rx_bigA {P : Program} {t : TypeId} {w : World} {K : Kont} (hz : hasZero P t = true) (hK : K (.pointer (some ⟨w.heap.size, 0, none⟩)) (w.alloc (.cells (zeroC P t).toArray t))) :
    rx P (bigA t) w K := rx_of (run_bigA hz) hK

theorem rx_bigB {P : Program} {t : TypeId} {parts : Array (Nat × Value)} {w : World} {K : Kont} {cells : Array Value} (h : P.built t parts.toList = some cells) (hK : K (.agg cells) w) :
    rx P (bigB t parts) w K := rx_of (by unfold bigB; exact run_build w t parts cells h) hK
theorem rdPX_bigB {P : Program} {t : TypeId} {parts : Array (Nat × Value)} {K : Value → Prop} {cells : Array Value} (h : P.built t parts.toList = some cells) (hK : K (.agg cells)) :
    rdPX P (bigB t parts) K := rdPX_of (fun w => by unfold bigB; exact run_build w t parts cells h) hK

/-! ### Aggregates built of parts -/

theorem lay_cons {c : List Value} {off : Nat} {v : Value} {vs : List Value} (h : off + (vs.length + 1) ≤ c.length) : lay (c.set off v) (off + 1) vs = lay c off (v :: vs) := by
  simp only [lay, List.length_cons]
  have e1 : (c.set off v).take (off + 1) = c.take off ++ [v] := by
    rw [List.take_succ_eq_append_getElem (by simp; omega), List.take_set_of_le (Nat.le_refl _)]
    simp
  have e2 : (c.set off v).drop (off + 1 + vs.length) = c.drop (off + (vs.length + 1)) := by
    rw [List.drop_set_of_lt (by omega), show off + 1 + vs.length = off + (vs.length + 1) by omega]
  rw [e1, e2]
  simp
theorem over_list (off : Nat) : ∀ (vs : List Value) (k : Nat) (c : Array Value), off + k + vs.length ≤ c.size →
    ((vs.zipIdx k).foldl (fun cs p => cs.setIfInBounds (off + p.2) p.1) c).toList = lay c.toList (off + k) vs
  | [], k, c, _ => by simp [lay]
  | v :: vs, k, c, h => by
    simp only [List.zipIdx_cons, List.foldl_cons]
    simp only [List.length_cons] at h
    rw [over_list off vs (k + 1) _ (by simp; omega), Array.toList_setIfInBounds, show off + (k + 1) = off + k + 1 by omega, lay_cons (by simp; omega)]
theorem fill_part {place : Nat → Option (Nat × Nat)} {cells : List Value} {i off size : Nat} {v : Value} {rest : List (Nat × Value)} (hp : place i = some (off, size)) (hv : v.cells.size = size) (h : off + size ≤ cells.length) :
    Instr.fill place cells.toArray ((i, v) :: rest) = Instr.fill place (lay cells off v.cells.toList).toArray rest := by
  have hb : ¬ (v.cells.size ≠ size ∨ off + v.cells.size > cells.toArray.size) := by simp only [List.size_toArray]; omega
  simp only [Instr.fill, hp]
  rw [if_neg (by simpa using hb)]
  congr 1
  apply Array.ext'
  have := over_list off v.cells.toList 0 cells.toArray (by simp; omega)
  simp only [Nat.add_zero] at this
  rw [← this, ← Array.toList_zipIdx, Array.foldl_toList]
theorem fill_nil {place : Nat → Option (Nat × Nat)} {cells : Array Value} : Instr.fill place cells [] = some cells := rfl

/-! ### Slices -/

/-- v is a slice of n elements of 'sz' cells that reads as cs; one of no elements may lie anywhere. -/
def Rd (w : World) (sz : Nat) (v : Value) (n : Nat) (cs : List Value) : Prop :=
  cs.length = n * sz ∧ ((n = 0 ∧ ∃ a c, v = .slice a 0 c) ∨ ∃ b off cap, v = .slice (some ⟨b, off, none⟩) n cap ∧ n ≤ cap ∧ At w b off cs)
/-- The block in which a slice's elements lie. -/
def inRd (v : Value) (b : Nat) : Prop := ∃ a n c, v = .slice (some a) n c ∧ n ≠ 0 ∧ a.block = b

/-- The block in which a slice lies. -/
def slBlk : Value → Option Nat
  | .slice (some a) _ _ => some a.block
  | _ => none

/-- v is a slice of n elements that has a row of its own, from its beginning on, spare places too. -/
def Own (w : World) (e : TypeId) (sz : Nat) (v : Value) (n : Nat) (cs : List Value) : Prop :=
  cs.length = n * sz ∧ ((v = .slice none 0 0 ∧ n = 0) ∨ ∃ b cap rest, v = .slice (some ⟨b, 0, none⟩) n cap ∧ n ≤ cap ∧ w.heap[b]? = some (.cells (cs ++ rest).toArray e (0, 0)) ∧ rest.length = (cap - n) * sz ∧ (rest.all (·.oneCell') = true))

/-- The blocks of its own. -/
def inSl (v : Value) (b : Nat) : Prop := slBlk v = some b

theorem Own.keep {w w' : World} {e : TypeId} {sz : Nat} {v : Value} {n : Nat} {cs : List Value} (h : Own w e sz v n cs) (hb : ∀ b, inSl v b → w'.heap[b]? = w.heap[b]?) : Own w' e sz v n cs := by
  obtain ⟨hl, h | ⟨b, cap, rest, rfl, hc, hh, hr⟩⟩ := h
  · exact ⟨hl, .inl h⟩
  · exact ⟨hl, .inr ⟨b, cap, rest, rfl, hc, by rw [hb b rfl]; exact hh, hr⟩⟩
theorem Own.lt {w : World} {e : TypeId} {sz : Nat} {v : Value} {n : Nat} {cs : List Value} (h : Own w e sz v n cs) {b : Nat} (hb : inSl v b) : b < w.heap.size := by
  obtain ⟨hl, ⟨rfl, _⟩ | ⟨b', cap, rest, rfl, hc, hh, hr⟩⟩ := h
  · cases hb
  · cases hb; exact lt_of_heap hh
theorem Own.nil (w : World) (e : TypeId) (sz : Nat) : Own w e sz (.slice none 0 0) 0 [] := ⟨by simp, .inl ⟨rfl, rfl⟩⟩
theorem Own.mod {F : Nat → Prop} {w w' : World} {e : TypeId} {sz : Nat} {v : Value} {n : Nat} {cs : List Value} (h : Own w e sz v n cs) (hm : Mod F w w') (hf : ∀ b, inSl v b → ¬ F b) : Own w' e sz v n cs :=
  h.keep fun b hb => hm.blk b (h.lt hb) (hf b hb)
theorem inRd.sl {v : Value} {b : Nat} (h : inRd v b) : inSl v b := by
  obtain ⟨a, n, c, rfl, -, rfl⟩ := h
  rfl
theorem Own.rd {w : World} {e : TypeId} {sz : Nat} {v : Value} {n : Nat} {cs : List Value} (h : Own w e sz v n cs) : Rd w sz v n cs := by
  obtain ⟨hl, ⟨rfl, rfl⟩ | ⟨b, cap, rest, rfl, hc, hh, hr⟩⟩ := h
  · exact ⟨hl, .inl ⟨rfl, _, _, rfl⟩⟩
  · exact ⟨hl, .inr ⟨b, 0, cap, rfl, hc, ⟨_, _, _, hh, by simp, by simp⟩⟩⟩
theorem Rd.keep {w w' : World} {sz : Nat} {v : Value} {n : Nat} {cs : List Value} (h : Rd w sz v n cs) (hb : ∀ b, inRd v b → w'.heap[b]? = w.heap[b]?) : Rd w' sz v n cs := by
  obtain ⟨hl, h | ⟨b, off, cap, rfl, hc, hh⟩⟩ := h
  · exact ⟨hl, .inl h⟩
  · by_cases h0 : n = 0
    · subst h0
      exact ⟨hl, .inl ⟨rfl, _, _, rfl⟩⟩
    · exact ⟨hl, .inr ⟨b, off, cap, rfl, hc, hh.keep (hb b ⟨_, _, _, rfl, h0, rfl⟩)⟩⟩
theorem Rd.lt {w : World} {sz : Nat} {v : Value} {n : Nat} {cs : List Value} (h : Rd w sz v n cs) {b : Nat} (hb : inRd v b) : b < w.heap.size := by
  obtain ⟨a, m, c, rfl, hm, rfl⟩ := hb
  obtain ⟨hl, ⟨rfl, a', c', he⟩ | ⟨b, off, cap, he, hc, hh⟩⟩ := h
  · injection he with e1 e2; omega
  · injection he with e1 e2 e3
    injection e1 with e1
    subst e1
    exact hh.lt
theorem Rd.mod {F : Nat → Prop} {w w' : World} {sz : Nat} {v : Value} {n : Nat} {cs : List Value} (h : Rd w sz v n cs) (hm : Mod F w w') (hf : ∀ b, inRd v b → ¬ F b) : Rd w' sz v n cs :=
  h.keep fun b hb => hm.blk b (h.lt hb) (hf b hb)

/-- What is read of a slice's first elements. -/
theorem Rd.first {P : Program} {w : World} {sz : Nat} {v : Value} {n : Nat} {cs : List Value} (h : Rd w sz v n cs) (hz : 0 < sz) :
    (Builtin.firstCells sz n v).run P w = .ok cs.toArray w := by
  obtain ⟨hl, ⟨rfl, a, c, rfl⟩ | ⟨b, off, cap, rfl, hc, hh⟩⟩ := h
  · have : cs = [] := by simpa using hl
    subst this
    cases a <;> simp [Builtin.firstCells, loadCells, loadCellsFrom]
  · have := hh.loads (P := P)
    rw [hl] at this
    simpa [Builtin.firstCells] using this
theorem Rd.isSl {w : World} {sz : Nat} {v : Value} {n : Nat} {cs : List Value} (h : Rd w sz v n cs) : ∃ a c, v = .slice a n c := by
  obtain ⟨_, ⟨rfl, a, c, rfl⟩ | ⟨b, off, cap, rfl, _⟩⟩ := h
  · exact ⟨_, _, rfl⟩
  · exact ⟨_, _, rfl⟩
theorem Rd.lenOf {P : Program} {w : World} {sz : Nat} {v : Value} {n : Nat} {cs : List Value} (h : Rd w sz v n cs) (w1 : World) : (Builtin.lenOf v).run P w1 = .ok n w1 := by
  obtain ⟨hl, ⟨rfl, a, c, rfl⟩ | ⟨b, off, cap, rfl, hc, hh⟩⟩ := h <;> rfl
end Go.Vc
