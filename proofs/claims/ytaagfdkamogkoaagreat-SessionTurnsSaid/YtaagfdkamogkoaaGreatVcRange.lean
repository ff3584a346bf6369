/-
  Ranges over maps: what is still to come lies in the iterator's block; the rules of range and next.
  Conditions: none; nothing here speaks of a program.
-/
import Derived.Test.YtaagfdkamogkoaaGreatVcMap
set_option linter.unusedVariables false
set_option linter.unusedSimpArgs false
set_option linter.unusedSectionVars false
namespace Go.Vc
open Go

section
variable {P : Program} {k : TypeId} {κ ν : Type} {enc : κ → Value} {ev : ν → Value}

/-- Block 'it' goes over the map in block m, of which 'rest' is still to come. -/
def MapIt (enc : κ → Value) (ev : ν → Value) (w : World) (it m : Nat) (rest : List (κ × ν)) : Prop :=
  ∃ es clock seen, w.heap[m]? = some (.map es clock) ∧ w.heap[it]? = some (.mapIter (some m) clock seen clock) ∧ (∀ x ∈ es.toList, x.born < clock) ∧ (es.toList.map (·.born)).Nodup ∧
    (es.toList.filter fun e => !seen.contains e.born).map (fun e => (e.key, e.val)) = rest.map (fun p => (enc p.1, ev p.2))

theorem MapIt.keep {w w' : World} {it m : Nat} {rest : List (κ × ν)} (h : MapIt enc ev w it m rest) (h1 : w'.heap[m]? = w.heap[m]?) (h2 : w'.heap[it]? = w.heap[it]?) : MapIt enc ev w' it m rest := by
  obtain ⟨es, clock, seen, hm, hi, hr⟩ := h
  exact ⟨es, clock, seen, by rw [h1]; exact hm, by rw [h2]; exact hi, hr⟩
theorem MapIt.lt {w : World} {it m : Nat} {rest : List (κ × ν)} (h : MapIt enc ev w it m rest) : m < w.heap.size ∧ it < w.heap.size := by
  obtain ⟨es, clock, seen, hm, hi, hr⟩ := h
  exact ⟨lt_of_heap hm, lt_of_heap hi⟩
theorem MapIt.mod {F : Nat → Prop} {w w' : World} {it m : Nat} {rest : List (κ × ν)} (h : MapIt enc ev w it m rest) (hm : Mod F w w') (h1 : ¬ F m) (h2 : ¬ F it) : MapIt enc ev w' it m rest :=
  h.keep (hm.blk m h.lt.1 h1) (hm.blk it h.lt.2 h2)

/-- How many are still to come. -/
def itLeft (it m : Nat) (w : World) : Nat :=
  match w.heap[it]?, w.heap[m]? with
  | some (.mapIter _ _ seen _), some (.map es _) => (es.toList.filter fun e => !seen.contains e.born).length
  | _, _ => 0
theorem MapIt.left {w : World} {it m : Nat} {rest : List (κ × ν)} (h : MapIt enc ev w it m rest) : itLeft it m w = rest.length := by
  obtain ⟨es, clock, seen, hm, hi, _, _, he⟩ := h
  unfold itLeft
  rw [hm, hi]
  simpa using congrArg List.length he
theorem rx_range [DecidableEq κ] {t e : TypeId} {w : World} {K : Kont} {b : Nat} {L : List (κ × ν)} (ht : P.underlying t = some (.map k e)) (hm : MapAt enc ev w b L)
    (hK : ∀ w', MapIt enc ev w' w.heap.size b L → Mod (fun _ => False) w w' → K (.pointer (some ⟨w.heap.size, 0, none⟩)) w') : rx P (xRange t (.map (some b))) w K := by
  obtain ⟨hn, es, clock, hb, he, hs1, hs2⟩ := hm
  refine rx_of (v := .pointer (some ⟨w.heap.size, 0, none⟩)) (w' := w.alloc (.mapIter (some b) clock #[] clock)) ?_ (hK _ ⟨es, clock, #[], ?_, ?_, hs1, hs2, ?_⟩ ((Mod.refl _ w).alloc _))
  · simp [xRange, Instr.range, run_underlying ht, MapKept.run_getObj_map hb, Result.andThen]
  · rw [heap_alloc, if_neg (by have := lt_of_heap hb; omega)]
    exact hb
  · rw [heap_alloc, if_pos rfl]
  · rw [← he]
    congr 1
    exact List.filter_eq_self.2 fun _ _ => by simp

theorem rx_range_nil {t e : TypeId} {w : World} {K : Kont} (ht : P.underlying t = some (.map k e))
    (hK : K (.pointer (some ⟨w.heap.size, 0, none⟩)) (w.alloc (.mapIter none 0 #[] 0))) : rx P (xRange t (.map none)) w K := by
  refine rx_of ?_ hK
  simp [xRange, Instr.range, run_underlying ht, Result.andThen]

theorem run_getObj_iter {w : World} {r : Nat} {m : Option Nat} {a : Nat} {s : Array Nat} {c : Nat} (hb : w.heap[r]? = some (.mapIter m a s c)) : (getObj r).run P w = .ok (.mapIter m a s c) w := by
  simp [getObj, Sem.run, hb]
theorem run_setObj_iter {w : World} {r : Nat} {m : Option Nat} {a : Nat} {s : Array Nat} {c : Nat} (o : Obj) (hb : w.heap[r]? = some (.mapIter m a s c)) : (setObj r o).run P w = .ok () (w.putObj r o) := by
  simp [setObj, Sem.run, hb, World.putObj]

theorem rx_next_nil {t : TypeId} {w : World} {K : Kont} {it : Nat} (hi : w.heap[it]? = some (.mapIter none 0 #[] 0)) (hK : K (.tuple #[.bool false]) w) : rx P (xNext (.pointer (some ⟨it, 0, none⟩)) false t) w K := by
  refine rx_of ?_ hK
  simp [xNext, Instr.next, run_getObj_iter hi, Result.andThen]

/-- The entry at which the iterator stands is p. -/
def MapCur (enc : κ → Value) (ev : ν → Value) (w : World) (it m : Nat) (p : κ × ν) : Prop :=
  ∃ es clock since seen stamp e, w.heap[m]? = some (.map es clock) ∧ w.heap[it]? = some (.mapIter (some m) since seen clock) ∧ seen.back? = some stamp ∧ es.find? (fun x => x.born == stamp) = some e ∧ e.key = enc p.1 ∧ e.val = ev p.2
theorem MapCur.mod {F : Nat → Prop} {w w' : World} {it m : Nat} {p : κ × ν} (h : MapCur enc ev w it m p) (hm : Mod F w w') (h1 : ¬ F m) (h2 : ¬ F it) : MapCur enc ev w' it m p := by
  obtain ⟨es, clock, since, seen, stamp, e, a, b, r⟩ := h
  exact ⟨es, clock, since, seen, stamp, e, hm.keep a h1, hm.keep b h2, r⟩
theorem rx_entry {w : World} {K : Kont} {it m : Nat} {p : κ × ν} (h : MapCur enc ev w it m p) (hK : K (.tuple #[enc p.1, ev p.2]) w) : rx P (xEntry (.pointer (some ⟨it, 0, none⟩))) w K := by
  obtain ⟨es, clock, since, seen, stamp, e, hm, hi, hb, hf, hk, hv⟩ := h
  refine rx_of ?_ hK
  simp [xEntry, Instr.entry, run_getObj_iter hi, MapKept.run_getObj_map hm, Result.andThen, hb, hf, hk, hv]
theorem find_born {l : List MapEntry} {x : MapEntry} (hn : (l.map (·.born)).Nodup) (hx : x ∈ l) : l.find? (fun e => e.born == x.born) = some x := by
  induction l with
  | nil => cases hx
  | cons y l ih =>
    simp only [List.map_cons, List.nodup_cons] at hn
    rcases List.mem_cons.1 hx with rfl | hx
    · simp
    · have : y.born ≠ x.born := fun h => hn.1 (h ▸ List.mem_map_of_mem hx)
      rw [List.find?_cons_of_neg (by simpa using this)]
      exact ih hn.2 hx

theorem filter_seen (es : List MapEntry) (seen : Array Nat) (x : MapEntry) (hn : (es.map (·.born)).Nodup) (hx : x ∈ es) (hs : !seen.contains x.born) (i : Nat)
    (hi : (es.filter fun e => !seen.contains e.born)[i]? = some x) :
    es.filter (fun e => !(seen.push x.born).contains e.born) = (es.filter fun e => !seen.contains e.born).eraseIdx i := by
  have e1 : es.filter (fun e => !(seen.push x.born).contains e.born) = (es.filter fun e => !seen.contains e.born).filter (fun e => !(e.born == x.born)) := by
    rw [List.filter_filter]
    apply List.filter_congr
    intro e _
    simp only [Array.contains_push, Bool.not_or]
    rw [Bool.and_comm]
  rw [e1]
  have hn2 : ((es.filter fun e => !seen.contains e.born).map (·.born)).Nodup := hn.sublist (List.filter_sublist.map _)
  generalize (es.filter fun e => !seen.contains e.born) = l at hi hn2
  clear e1 hs hx hn
  induction l generalizing i with
  | nil => simp at hi
  | cons y l ih =>
    simp only [List.map_cons, List.nodup_cons] at hn2
    cases i with
    | zero =>
      have : y = x := by simpa using hi
      subst this
      rw [List.filter_cons_of_neg (by simp)]
      simp only [List.eraseIdx_cons_zero]
      refine List.filter_eq_self.2 fun z hz => ?_
      have : z.born ≠ y.born := fun h => hn2.1 (h ▸ List.mem_map_of_mem hz)
      simpa using this
    | succ i =>
      have hxl : x ∈ l := List.mem_of_getElem? (by simpa using hi)
      have : y.born ≠ x.born := fun h => hn2.1 (h ▸ List.mem_map_of_mem hxl)
      rw [List.filter_cons_of_pos (by simpa using this)]
      simp only [List.eraseIdx_cons_succ]
      rw [ih i (by simpa using hi) hn2.2]

/-- The next one, whichever it is; or none is left. -/
theorem rx_next {t : TypeId} {w : World} {K : Kont} {it m : Nat} {rest : List (κ × ν)} (h : MapIt enc ev w it m rest)
    (h0 : rest = [] → ∀ w', Mod (fun _ => False) w w' → w'.heap = w.heap → K (.tuple #[.bool false]) w')
    (h1 : ∀ i p, rest[i]? = some p → ∀ w', MapIt enc ev w' it m (rest.eraseIdx i) → MapCur enc ev w' it m p → Mod (fun b => b = it) w w' → w'.heap.size = w.heap.size → K (.tuple #[.bool true, enc p.1, ev p.2]) w') :
    rx P (xNext (.pointer (some ⟨it, 0, none⟩)) false t) w K := by
  obtain ⟨es, clock, seen, hm, hi, hs1, hs2, he⟩ := h
  -- what the model computes of the map
  have hlast : (!seen.isEmpty && !es.isEmpty && es.all (fun x => decide (x.born ≥ clock))) = false := by
    cases hne : es.isEmpty with
    | true => simp
    | false =>
      have hsz : 0 < es.size := by
        rcases Nat.eq_zero_or_pos es.size with h | h
        · rw [Array.isEmpty_iff.2 (Array.eq_empty_of_size_eq_zero h)] at hne; cases hne
        · exact h
      have : (es.all fun x => decide (x.born ≥ clock)) = false := by
        rw [Bool.eq_false_iff]
        intro ht
        have h2 := hs1 es[0] (by simp)
        have h3 := Array.all_eq_true.1 ht 0 hsz
        simp at h3
        omega
      rw [this]; simp
  have hold : (es.filter fun e => !seen.contains e.born).filter (fun e => decide (e.born < clock)) = es.filter fun e => !seen.contains e.born := by
    refine Array.filter_eq_self.2 fun x hx => ?_
    exact decide_eq_true (hs1 x (by simpa using (Array.mem_filter.1 hx).1))
  have hnew : (es.filter fun e => !seen.contains e.born).filter (fun e => decide (e.born ≥ clock)) = #[] := by
    refine Array.filter_eq_empty_iff.2 fun x hx => ?_
    have := hs1 x (by simpa using (Array.mem_filter.1 hx).1)
    simp; omega
  have hlist : (es.filter fun e => !seen.contains e.born).toList = es.toList.filter fun e => !seen.contains e.born := by simp
  generalize hL : (es.filter fun e => !seen.contains e.born) = left at hold hnew hlist
  have hlen : left.size = rest.length := by
    rw [← Array.length_toList, hlist]
    simpa using congrArg List.length he
  by_cases hz : rest = []
  · subst hz
    have hl0 : left = #[] := Array.eq_empty_of_size_eq_zero (by simpa using hlen)
    subst hl0
    have hrun : (Instr.next (.pointer (some ⟨it, 0, none⟩)) false t).run P w = .ok (.tuple #[.bool false]) w := by
      unfold Instr.next
      simp only [Sem.run_bind, run_getObj_iter hi, MapKept.run_getObj_map hm, Result.andThen]
      rw [hlast]
      simp only [Bool.false_eq_true, if_false]
      rw [hL, hold, hnew]
      have e1 : ((if (#[] : Array MapEntry).isEmpty = true then #[none] else #[]) ++ ((#[] : Array MapEntry) ++ #[]).map some) = #[none] := by simp
      rw [e1]
      simp [run_choose, Question.forced, Result.andThen]
    exact rx_of (by unfold xNext; exact hrun) (h0 rfl w (Mod.refl _ w) rfl)
  · have hpos : 0 < left.size := by
      rw [hlen]
      exact List.length_pos_iff.2 hz
    have hne : left.isEmpty = false := by
      cases h : left.isEmpty with
      | false => rfl
      | true => rw [Array.isEmpty_iff.1 h] at hpos; simp at hpos
    obtain ⟨i, w1, hi1, hw1, hpick⟩ : ∃ (i : Nat) (w1 : World), i < left.size ∧ (w1 = w ∨ w1 = w.drew) ∧ (choose (Question.mapNext left.size)).run P w = .ok i w1 := by
      by_cases hf : (Question.mapNext left.size).forced = true
      · exact ⟨0, w, hpos, .inl rfl, by rw [run_choose, if_pos hf]⟩
      · refine ⟨_, w.drew, ?_, .inr rfl, by rw [run_choose, if_neg hf]; rfl⟩
        exact Nat.mod_lt _ hpos
    have hx : left[i]? = some left[i] := Array.getElem?_eq_getElem hi1
    have hxl : (es.toList.filter fun e => !seen.contains e.born)[i]? = some left[i] := by
      rw [← hlist, Array.getElem?_toList]; exact hx
    have hxm := List.mem_of_getElem? hxl
    have hi2 : i < rest.length := by omega
    have hp : (left[i].key, left[i].val) = (enc rest[i].1, ev rest[i].2) := by
      have := congrArg (fun l => l[i]?) he
      simp only [List.getElem?_map, hxl, List.getElem?_eq_getElem hi2, Option.map_some, Option.some.injEq] at this
      exact this
    have hw1h : w1.heap = w.heap := by rcases hw1 with rfl | rfl <;> rfl
    have hi' : w1.heap[it]? = some (.mapIter (some m) clock seen clock) := by rw [hw1h]; exact hi
    have hm' : w1.heap[m]? = some (.map es clock) := by rw [hw1h]; exact hm
    have hmod1 : Mod (fun b => b = it) w w1 := by
      rcases hw1 with rfl | rfl
      · exact Mod.refl _ _
      · exact (Mod.refl _ _).drew
    have hne2 : it ≠ m := by
      intro h
      subst h
      rw [hi] at hm
      cases hm
    have hrun : (Instr.next (.pointer (some ⟨it, 0, none⟩)) false t).run P w = .ok (.tuple #[.bool true, left[i].key, left[i].val]) (w1.putObj it (.mapIter (some m) clock (seen.push left[i].born) clock)) := by
      unfold Instr.next
      simp only [Sem.run_bind, run_getObj_iter hi, MapKept.run_getObj_map hm, Result.andThen]
      rw [hlast]
      simp only [Bool.false_eq_true, if_false]
      rw [hL, hold, hnew, hne]
      have e1 : ((if false = true then #[none] else #[]) ++ (left ++ #[]).map some) = left.map some := by simp
      rw [e1]
      simp only [Sem.run_bind, Sem.run_pure, Array.size_map, hpick, Result.andThen, Array.getElem?_map, hx, Option.map_some, run_setObj_iter _ hi']
    refine rx_of (by unfold xNext; exact hrun) ?_
    have e2 : left[i].key = enc rest[i].1 := (Prod.mk.inj hp).1
    have e3 : left[i].val = ev rest[i].2 := (Prod.mk.inj hp).2
    rw [e2, e3]
    refine h1 i rest[i] (List.getElem?_eq_getElem hi2) _ ⟨es, clock, seen.push left[i].born, ?_, ?_, hs1, hs2, ?_⟩ ?_ (hmod1.putObj (.inl rfl) _) ?_
    · rw [heap_putObj, if_neg (fun e => hne2 e.symm)]; exact hm'
    · rw [heap_putObj, if_pos rfl, hi']; rfl
    · rw [filter_seen es.toList seen left[i] hs2 (List.mem_filter.1 hxm).1 (List.mem_filter.1 hxm).2 i hxl, eraseIdx_map', he, ← eraseIdx_map']
    · refine ⟨es, clock, clock, seen.push left[i].born, left[i].born, left[i], ?_, ?_, by simp, ?_, e2, e3⟩
      · rw [heap_putObj, if_neg (fun e => hne2 e.symm)]; exact hm'
      · rw [heap_putObj, if_pos rfl, hi']; rfl
      · rw [← Array.find?_toList]
        exact find_born hs2 (List.mem_filter.1 hxm).1
    · rw [World.putObj_size, hw1h]
end

theorem run_index_one {P : Program} {w : World} {xt e : TypeId} {len : Nat} {cs : Array Value} {k : IntKind} {i : Nat} {v : Value} (hx : P.underlying xt = some (.array len e)) (ha : isAggT P e = false) (hu : (P.underlying e).isSome = true) (hn : P.cellsOf e = 0 + 1) (hi : i < len) (hv : cs[i]? = some v) :
    (Instr.index xt (.agg cs) (.int k i)).run P w = .ok v w := by
  have hi' : (i : Int) < len := by omega
  have hag : (isAgg e).run P w = .ok false w := by
    unfold isAgg
    unfold isAggT at ha
    cases hd : P.underlying e with
    | none => rw [hd] at hu; cases hu
    | some d =>
      rw [hd] at ha
      simp only [Sem.run_bind, run_underlying hd, Result.andThen]
      cases d <;> first | rfl | (simp at ha)
  simp [Instr.index, run_underlying hx, Result.andThen, hi', hi, run_sizeOf hn, part, hag, asIntOf, hv]
theorem run_look2 {P : Program} {κ ν : Type} [DecidableEq κ] {enc : κ → Value} {ev : ν → Value} {t k e : TypeId} {w : World} {m : Value} {L : List (κ × ν)} {x : κ} {z : Value} (ht : P.underlying t = some (.map k e)) (hk : KeyT P k enc)
    (hz : zeroOfT P e = some z) (hm : MapV enc ev w m L) : (xLook t m (enc x) true).run P w = .ok (.tuple #[(lk L x).elim z ev, .bool (lk L x).isSome]) w := by
  unfold xLook
  rw [run_lookup ht hk hz hm]
  cases lk L x <;> rfl
theorem run_lenMap {P : Program} {κ ν : Type} [DecidableEq κ] {enc : κ → Value} {ev : ν → Value} {t k e ty : TypeId} {w : World} {b : Nat} {L : List (κ × ν)} (ht : P.underlying t = some (.map k e)) (h : MapAt enc ev w b L) :
    (Builtin.len_ #[t] ty #[.map (some b)]).run P w = .ok (.int .i64 L.length) w := by
  obtain ⟨hn, es, clock, hb, he, _⟩ := h
  have hl : es.size = L.length := by simpa using congrArg List.length he
  simp [Builtin.len_, run_underlying ht, MapKept.run_getObj_map hb, Result.andThen, goInt, hl]

theorem perm_eraseIdx {α : Type} {l : List α} {i : Nat} {p : α} (h : l[i]? = some p) : l.Perm (p :: l.eraseIdx i) := by
  induction l generalizing i with
  | nil => simp at h
  | cons x l ih =>
    cases i with
    | zero =>
      have : x = p := by simpa using h
      subst this
      exact List.Perm.refl _
    | succ i =>
      simp only [List.eraseIdx_cons_succ]
      exact ((ih (by simpa using h)).cons x).trans (List.Perm.swap ..)
end Go.Vc
