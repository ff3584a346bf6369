/-
  Maps: what a map's block holds as a list of keys and values; the rules of lookup, update, delete and of a new map.
  Conditions: none; nothing here speaks of a program.
-/
import Derived.Test.YteldcaeicgobfaaVcSlice
import Derived.MapKept
set_option linter.unusedSimpArgs false
set_option linter.unusedVariables false
set_option linter.unusedSectionVars false
namespace Go.Vc
open Go

section
variable {κ ν : Type} [DecidableEq κ]
def lk : List (κ × ν) → κ → Option ν
  | [], _ => none
  | (a, b) :: r, k => if a = k then some b else lk r k
def put : List (κ × ν) → κ → ν → List (κ × ν)
  | [], k, v => [(k, v)]
  | (a, b) :: r, k, v => if a = k then (k, v) :: r else (a, b) :: put r k v
def del : List (κ × ν) → κ → List (κ × ν)
  | [], _ => []
  | (a, b) :: r, k => if a = k then r else (a, b) :: del r k

theorem lk_put (L : List (κ × ν)) (k j : κ) (v : ν) : lk (put L k v) j = if k = j then some v else lk L j := by
  induction L with
  | nil => simp [put, lk]
  | cons p r ih =>
    obtain ⟨a, b⟩ := p
    simp only [put]
    by_cases h : a = k
    · subst h
      rw [if_pos rfl]
      simp only [lk]
      split <;> rfl
    · rw [if_neg h]
      simp only [lk, ih]
      by_cases h2 : a = j
      · rw [if_pos h2, if_pos h2, if_neg (fun e => h (h2.trans e.symm))]
      · rw [if_neg h2, if_neg h2]
theorem lk_none_of_notMem {L : List (κ × ν)} {k : κ} (h : k ∉ L.map (·.1)) : lk L k = none := by
  induction L with
  | nil => rfl
  | cons p r ih =>
    obtain ⟨a, b⟩ := p
    simp only [List.map_cons, List.mem_cons, not_or] at h
    simp only [lk]
    rw [if_neg (fun e => h.1 e.symm)]
    exact ih h.2
theorem lk_del {L : List (κ × ν)} (hn : (L.map (·.1)).Nodup) (k j : κ) : lk (del L k) j = if k = j then none else lk L j := by
  induction L with
  | nil => simp [del, lk]
  | cons p r ih =>
    obtain ⟨a, b⟩ := p
    simp only [List.map_cons, List.nodup_cons] at hn
    simp only [del]
    by_cases h : a = k
    · subst h
      rw [if_pos rfl]
      simp only [lk]
      split
      · subst_vars; exact lk_none_of_notMem hn.1
      · rfl
    · rw [if_neg h]
      simp only [lk, ih hn.2]
      by_cases h2 : a = j
      · rw [if_pos h2, if_pos h2, if_neg (fun e => h (h2.trans e.symm))]
      · rw [if_neg h2, if_neg h2]
theorem put_keys (L : List (κ × ν)) (k : κ) (v : ν) : (put L k v).map (·.1) = if k ∈ L.map (·.1) then L.map (·.1) else L.map (·.1) ++ [k] := by
  induction L with
  | nil => simp [put]
  | cons p r ih =>
    obtain ⟨a, b⟩ := p
    simp only [put]
    by_cases h : a = k
    · subst h; simp
    · rw [if_neg h]
      simp only [List.map_cons, ih, List.mem_cons]
      have : ¬ k = a := fun e => h e.symm
      simp only [this, false_or]
      split <;> simp
theorem put_nodup {L : List (κ × ν)} (h : (L.map (·.1)).Nodup) (k : κ) (v : ν) : ((put L k v).map (·.1)).Nodup := by
  rw [put_keys]
  split
  · exact h
  · rename_i hk
    exact List.nodup_append.2 ⟨h, by simp, fun a ha b hb => by simp at hb; subst hb; exact fun e => hk (e ▸ ha)⟩
theorem del_sub (L : List (κ × ν)) (k : κ) : (del L k).Sublist L := by
  induction L with
  | nil => exact List.Sublist.refl _
  | cons p r ih =>
    obtain ⟨a, b⟩ := p
    simp only [del]
    split
    · exact List.sublist_cons_self _ _
    · exact ih.cons_cons _
theorem del_nodup {L : List (κ × ν)} (h : (L.map (·.1)).Nodup) (k : κ) : ((del L k).map (·.1)).Nodup := h.sublist ((del_sub L k).map _)
theorem mem_put {L : List (κ × ν)} {k : κ} {v : ν} {p : κ × ν} (h : p ∈ put L k v) : p = (k, v) ∨ p ∈ L := by
  induction L with
  | nil => simpa [put] using h
  | cons q r ih =>
    obtain ⟨a, b⟩ := q
    simp only [put] at h
    split at h
    · rcases List.mem_cons.1 h with h | h
      · exact .inl h
      · exact .inr (List.mem_cons_of_mem _ h)
    · rcases List.mem_cons.1 h with h | h
      · exact .inr (h ▸ List.mem_cons_self ..)
      · exact (ih h).imp id (List.mem_cons_of_mem _)
theorem lk_mem {L : List (κ × ν)} {k : κ} {v : ν} (h : lk L k = some v) : (k, v) ∈ L := by
  induction L with
  | nil => cases h
  | cons q r ih =>
    obtain ⟨a, b⟩ := q
    simp only [lk] at h
    split at h
    · cases h; subst_vars; exact List.mem_cons_self ..
    · exact List.mem_cons_of_mem _ (ih h)
end

/-! ### Keys -/

/-- A key type's values, and what the model asks of a key. -/
structure KeyT (P : Program) (k : TypeId) {κ : Type} [DecidableEq κ] (enc : κ → Value) : Prop where
  check : ∀ (w : World) (em : Bool) (x : κ), (Instr.checkKey em 10000 k (enc x)).run P w = .ok () w
  same : ∀ (w : World) (x : κ) (es : List MapEntry) (ks : List κ), es.map (·.key) = ks.map enc →
    ((Instr.findKey k (enc x) es).run P w = .ok none w ∧ x ∉ ks) ∨ ∃ i v, (Instr.findKey k (enc x) es).run P w = .ok (some (i, v)) w ∧ (es[i]?).map (·.val) = some v ∧ ks[i]? = some x ∧ ∀ j, j < i → ks[j]? ≠ some x
  stays : ∀ (w : World) (x : κ), (Instr.keyThatStays (enc x) (enc x)).run P w = .ok (enc x) w

section
variable {P : Program} {k : TypeId} {κ : Type} [DecidableEq κ] {enc : κ → Value}

theorem find_asking (heq : ∀ (w : World) (x y : κ), (Op.equal k (enc x) (enc y)).run P w = .ok (decide (x = y)) w) (w : World) (x : κ) :
    ∀ (es : List MapEntry) (ks : List κ) (o : Nat), es.map (·.key) = ks.map enc →
    ((Instr.findAsking k (enc x) es o).run P w = .ok none w ∧ x ∉ ks) ∨ ∃ i v, (Instr.findAsking k (enc x) es o).run P w = .ok (some (o + i, v)) w ∧ (es[i]?).map (·.val) = some v ∧ ks[i]? = some x ∧ ∀ j, j < i → ks[j]? ≠ some x
  | [], ks, o, h => by
    have : ks = [] := by cases ks <;> simp_all
    subst this
    exact .inl ⟨by simp [Instr.findAsking], by simp⟩
  | e :: es, [], o, h => by simp at h
  | e :: es, y :: ks, o, h => by
    simp only [List.map_cons, List.cons.injEq] at h
    obtain ⟨h1, h2⟩ := h
    by_cases hxy : x = y
    · subst hxy
      refine .inr ⟨0, e.val, ?_, by simp, by simp, fun j hj => absurd hj (Nat.not_lt_zero _)⟩
      simp [Instr.findAsking, h1, heq, Result.andThen]
    · have hs : (Instr.findAsking k (enc x) (e :: es) o).run P w = (Instr.findAsking k (enc x) es (o + 1)).run P w := by
        simp [Instr.findAsking, h1, heq, Result.andThen, hxy]
      rcases find_asking heq w x es ks (o + 1) h2 with ⟨h3, h4⟩ | ⟨i, v, h3, h4, h5, h6⟩
      · exact .inl ⟨by rw [hs]; exact h3, by simp [hxy, h4]⟩
      · refine .inr ⟨i + 1, v, by rw [hs, h3, show o + 1 + i = o + (i + 1) by omega], by simpa using h4, by simpa using h5, fun j hj => ?_⟩
        cases j with
        | zero => simp; exact fun e => hxy e.symm
        | succ j => simpa using h6 j (by omega)

/-- Keys over which the model asks one by one. -/
theorem KeyT.asking {d : TypeDesc} (hd : P.underlying k = some d) (hnow : ∀ x y, Instr.sameNow d (enc x) (enc y) = none)
    (heq : ∀ (w : World) (x y : κ), (Op.equal k (enc x) (enc y)).run P w = .ok (decide (x = y)) w)
    (hc : ∀ (w : World) (em : Bool) (x : κ), (Instr.checkKey em 10000 k (enc x)).run P w = .ok () w) (hs : ∀ x, Instr.sameBits 10000 (enc x) (enc x) = true) : KeyT P k enc where
  check := hc
  stays w x := by simp [Instr.keyThatStays, hs]
  same w x es ks h := by
    cases es with
    | nil =>
      have : ks = [] := by cases ks <;> simp_all
      subst this
      exact .inl ⟨by simp [Instr.findKey, run_underlying hd, Result.andThen, Instr.findNow], by simp⟩
    | cons e es =>
      cases ks with
      | nil => simp at h
      | cons y ks =>
        have h1 : e.key = enc y := by simpa using (List.cons.inj h).1
        have hf : Instr.findNow d (enc x) (e :: es) 0 = none := by simp [Instr.findNow, h1, hnow]
        have hr : (Instr.findKey k (enc x) (e :: es)).run P w = (Instr.findAsking k (enc x) (e :: es)).run P w := by
          simp [Instr.findKey, run_underlying hd, Result.andThen, hf]
        rw [hr]
        have := find_asking heq w x (e :: es) (y :: ks) 0 h
        simpa using this

theorem find_now {d : TypeDesc} (hnow : ∀ x y, Instr.sameNow d (enc x) (enc y) = some (decide (x = y))) (x : κ) :
    ∀ (es : List MapEntry) (ks : List κ) (o : Nat), es.map (·.key) = ks.map enc →
    (Instr.findNow d (enc x) es o = some none ∧ x ∉ ks) ∨ ∃ i v, Instr.findNow d (enc x) es o = some (some (o + i, v)) ∧ (es[i]?).map (·.val) = some v ∧ ks[i]? = some x ∧ ∀ j, j < i → ks[j]? ≠ some x
  | [], ks, o, h => by
    have : ks = [] := by cases ks <;> simp_all
    subst this
    exact .inl ⟨by simp [Instr.findNow], by simp⟩
  | e :: es, [], o, h => by simp at h
  | e :: es, y :: ks, o, h => by
    simp only [List.map_cons, List.cons.injEq] at h
    obtain ⟨h1, h2⟩ := h
    by_cases hxy : x = y
    · subst hxy
      refine .inr ⟨0, e.val, ?_, by simp, by simp, fun j hj => absurd hj (Nat.not_lt_zero _)⟩
      simp [Instr.findNow, h1, hnow]
    · have hs : Instr.findNow d (enc x) (e :: es) o = Instr.findNow d (enc x) es (o + 1) := by
        simp [Instr.findNow, h1, hnow, hxy]
      rcases find_now hnow x es ks (o + 1) h2 with ⟨h3, h4⟩ | ⟨i, v, h3, h4, h5, h6⟩
      · exact .inl ⟨by rw [hs]; exact h3, by simp [hxy, h4]⟩
      · refine .inr ⟨i + 1, v, by rw [hs, h3, show o + 1 + i = o + (i + 1) by omega], by simpa using h4, by simpa using h5, fun j hj => ?_⟩
        cases j with
        | zero => simp; exact fun e => hxy e.symm
        | succ j => simpa using h6 j (by omega)

/-- Keys that the model compares at once: whole numbers, strings, truths. -/
theorem KeyT.now {d : TypeDesc} (hd : P.underlying k = some d) (hnow : ∀ x y, Instr.sameNow d (enc x) (enc y) = some (decide (x = y)))
    (hc : ∀ (w : World) (em : Bool) (x : κ), (Instr.checkKey em 10000 k (enc x)).run P w = .ok () w) (hs : ∀ x, Instr.sameBits 10000 (enc x) (enc x) = true) : KeyT P k enc where
  check := hc
  stays w x := by simp [Instr.keyThatStays, hs]
  same w x es ks h := by
    rcases find_now hnow x es ks 0 h with ⟨h1, h2⟩ | ⟨i, v, h1, h2⟩
    · exact .inl ⟨by simp [Instr.findKey, run_underlying hd, Result.andThen, h1], h2⟩
    · exact .inr ⟨i, v, by simp [Instr.findKey, run_underlying hd, Result.andThen, h1], h2⟩
theorem KeyT.int {ki : IntKind} (hd : P.underlying k = some (.int ki)) : KeyT P k (fun n : Int => .int ki n) :=
  KeyT.now hd (fun x y => by simp only [Instr.sameNow, if_true]; congr 1) (fun w em x => by
    unfold Instr.checkKey
    simp [run_underlying hd, Result.andThen]) (fun x => by simp [Instr.sameBits])
end

/-! ### A map's block -/

section
variable {P : Program} {k : TypeId} {κ ν : Type} [DecidableEq κ] {enc : κ → Value} {ev : ν → Value}

/-- Block b is a map of the keys and values L. -/
def MapAt (enc : κ → Value) (ev : ν → Value) (w : World) (b : Nat) (L : List (κ × ν)) : Prop :=
  (L.map (·.1)).Nodup ∧ ∃ es clock, w.heap[b]? = some (.map es clock) ∧ es.toList.map (fun e => (e.key, e.val)) = L.map (fun p => (enc p.1, ev p.2)) ∧
    (∀ x ∈ es.toList, x.born < clock) ∧ (es.toList.map (·.born)).Nodup

theorem MapAt.keep {w w' : World} {b : Nat} {L : List (κ × ν)} (h : MapAt enc ev w b L) (hb : w'.heap[b]? = w.heap[b]?) : MapAt enc ev w' b L := by
  obtain ⟨hn, es, clock, he, hr⟩ := h
  exact ⟨hn, es, clock, by rw [hb]; exact he, hr⟩
theorem MapAt.lt {w : World} {b : Nat} {L : List (κ × ν)} (h : MapAt enc ev w b L) : b < w.heap.size := by
  obtain ⟨hn, es, clock, he, hr⟩ := h
  exact lt_of_heap he
theorem MapAt.mod {F : Nat → Prop} {w w' : World} {b : Nat} {L : List (κ × ν)} (h : MapAt enc ev w b L) (hm : Mod F w w') (hf : ¬ F b) : MapAt enc ev w' b L :=
  h.keep (hm.blk b h.lt hf)
theorem MapAt.new (w : World) : MapAt enc ev (w.alloc (.map #[] 0)) w.heap.size ([] : List (κ × ν)) :=
  ⟨by simp, #[], 0, by rw [heap_alloc, if_pos rfl], by simp, by simp, by simp⟩

theorem keys_of_pairs {es : List MapEntry} {L : List (κ × ν)} (h : es.map (fun e => (e.key, e.val)) = L.map (fun p => (enc p.1, ev p.2))) : es.map (·.key) = (L.map (·.1)).map enc := by
  have := congrArg (List.map Prod.fst) h
  simp only [List.map_map] at this ⊢
  exact this

theorem lk_at {L : List (κ × ν)} {x : κ} {i : Nat} {p : κ × ν} (h1 : L[i]? = some p) (h2 : p.1 = x) (h3 : ∀ j, j < i → (L.map (·.1))[j]? ≠ some x) : lk L x = some p.2 := by
  induction L generalizing i with
  | nil => simp at h1
  | cons q r ih =>
    obtain ⟨a, b⟩ := q
    cases i with
    | zero =>
      simp only [List.getElem?_cons_zero, Option.some.injEq] at h1
      subst h1
      simp only at h2
      simp [lk, h2]
    | succ i =>
      have : a ≠ x := fun e => h3 0 (by omega) (by simp [e])
      simp only [lk, if_neg this]
      exact ih (by simpa using h1) (fun j hj => by simpa using h3 (j + 1) (by omega))
theorem put_at {L : List (κ × ν)} {x : κ} {v : ν} {i : Nat} (h1 : (L.map (·.1))[i]? = some x) (h3 : ∀ j, j < i → (L.map (·.1))[j]? ≠ some x) : put L x v = L.set i (x, v) := by
  induction L generalizing i with
  | nil => simp at h1
  | cons q r ih =>
    obtain ⟨a, b⟩ := q
    cases i with
    | zero =>
      have : a = x := by simpa using h1
      simp [put, this]
    | succ i =>
      have : a ≠ x := fun e => h3 0 (by omega) (by simp [e])
      simp only [put, if_neg this, List.set_cons_succ]
      rw [ih (by simpa using h1) (fun j hj => by simpa using h3 (j + 1) (by omega))]
theorem del_at {L : List (κ × ν)} {x : κ} {i : Nat} (h1 : (L.map (·.1))[i]? = some x) (h3 : ∀ j, j < i → (L.map (·.1))[j]? ≠ some x) : del L x = L.eraseIdx i := by
  induction L generalizing i with
  | nil => simp at h1
  | cons q r ih =>
    obtain ⟨a, b⟩ := q
    cases i with
    | zero =>
      have : a = x := by simpa using h1
      simp [del, this]
    | succ i =>
      have : a ≠ x := fun e => h3 0 (by omega) (by simp [e])
      simp only [del, if_neg this, List.eraseIdx_cons_succ]
      rw [ih (by simpa using h1) (fun j hj => by simpa using h3 (j + 1) (by omega))]
theorem put_new {L : List (κ × ν)} {x : κ} {v : ν} (h : x ∉ L.map (·.1)) : put L x v = L ++ [(x, v)] := by
  induction L with
  | nil => rfl
  | cons q r ih =>
    obtain ⟨a, b⟩ := q
    simp only [List.map_cons, List.mem_cons, not_or] at h
    have h1 : ¬ a = x := fun e => h.1 e.symm
    simp only [put, if_neg h1, ih h.2, List.cons_append]
theorem del_none {L : List (κ × ν)} {x : κ} (h : x ∉ L.map (·.1)) : del L x = L := by
  induction L with
  | nil => rfl
  | cons q r ih =>
    obtain ⟨a, b⟩ := q
    simp only [List.map_cons, List.mem_cons, not_or] at h
    have h1 : ¬ a = x := fun e => h.1 e.symm
    simp only [del, if_neg h1, ih h.2]

theorem eraseIdx_map' {α β : Type} (f : α → β) : ∀ (l : List α) (i : Nat), (l.eraseIdx i).map f = (l.map f).eraseIdx i
  | [], _ => rfl
  | _ :: _, 0 => rfl
  | a :: l, i + 1 => by simp [eraseIdx_map' f l i]

/-- The zero of a type. -/
def zeroOfT (P : Program) (t : TypeId) : Option Value := (P.info? t).bind (·.zero)
theorem run_zeroOfT {t : TypeId} {z : Value} (h : zeroOfT P t = some z) (w : World) : (zeroValue t).run P w = .ok z w := by
  unfold zeroOfT at h
  cases hi : P.info? t with
  | none => simp [hi] at h
  | some i => simp [hi] at h; simp [zeroValue, typeInfo, hi, h]

/-- What a map value holds. -/
def MapV (enc : κ → Value) (ev : ν → Value) (w : World) (m : Value) (L : List (κ × ν)) : Prop :=
  (m = .map none ∧ L = []) ∨ ∃ b, m = .map (some b) ∧ MapAt enc ev w b L

theorem run_lookup {t e : TypeId} {w : World} {m : Value} {L : List (κ × ν)} {x : κ} {ok : Bool} {z : Value} (ht : P.underlying t = some (.map k e)) (hk : KeyT P k enc)
    (hz : zeroOfT P e = some z) (hm : MapV enc ev w m L) :
    (Instr.lookup t m (enc x) ok).run P w = .ok (match lk L x with | some v => if ok then .tuple #[ev v, .bool true] else ev v | none => if ok then .tuple #[z, .bool false] else z) w := by
  rcases hm with ⟨rfl, rfl⟩ | ⟨b, rfl, hn, es, clock, hb, he, _⟩
  · rcases hk.same w x [] [] rfl with ⟨h1, _⟩ | ⟨i, v, _, h2, _⟩
    · simp [Instr.lookup, run_underlying ht, hk.check, h1, run_zeroOfT hz, Result.andThen, lk]
    · simp at h2
  · rcases hk.same w x es.toList (L.map (·.1)) (keys_of_pairs he) with ⟨h1, h2⟩ | ⟨i, v, h1, h2, h3, h4⟩
    · simp [Instr.lookup, run_underlying ht, MapKept.run_getObj_map hb, hk.check, h1, run_zeroOfT hz, Result.andThen, lk_none_of_notMem h2]
    · have hi : i < L.length := by simpa using (List.getElem?_eq_some_iff.1 h3).1
      have h5 : L[i]? = some L[i] := List.getElem?_eq_getElem hi
      have hx : (L[i]).1 = x := by simpa [h5] using h3
      have hv : v = ev (L[i]).2 := by
        have := congrArg (fun l => (l[i]?).map Prod.snd) he
        simp only [List.getElem?_map, h5, Option.map_map, Option.map_some] at this
        have h6 : (es.toList[i]?).map (·.val) = some (ev (L[i]).2) := by simpa [Function.comp_def] using this
        rw [h2] at h6
        exact Option.some.inj h6
      simp [Instr.lookup, run_underlying ht, MapKept.run_getObj_map hb, hk.check, h1, Result.andThen, lk_at h5 hx h4, hv]
theorem rx_look {t e : TypeId} {w : World} {K : Kont} {m : Value} {L : List (κ × ν)} {x : κ} (z : Value) (ht : P.underlying t = some (.map k e)) (hk : KeyT P k enc)
    (hz : zeroOfT P e = some z) (hm : MapV enc ev w m L) (hK : K ((lk L x).elim z ev) w) : rx P (xLook t m (enc x) false) w K :=
  rx_of (by unfold xLook; exact run_lookup ht hk hz hm) (by revert hK; cases lk L x <;> intro hK <;> exact hK)
theorem rx_look2 {t e : TypeId} {w : World} {K : Kont} {m : Value} {L : List (κ × ν)} {x : κ} (z : Value) (ht : P.underlying t = some (.map k e)) (hk : KeyT P k enc)
    (hz : zeroOfT P e = some z) (hm : MapV enc ev w m L) (hK : K (.tuple #[(lk L x).elim z ev, .bool (lk L x).isSome]) w) : rx P (xLook t m (enc x) true) w K :=
  rx_of (by unfold xLook; exact run_lookup ht hk hz hm) (by revert hK; cases lk L x <;> intro hK <;> exact hK)
theorem rdX_look {t e : TypeId} {w : World} {K : Value → Prop} {m : Value} {L : List (κ × ν)} {x : κ} (z : Value) (ht : P.underlying t = some (.map k e)) (hk : KeyT P k enc)
    (hz : zeroOfT P e = some z) (hm : MapV enc ev w m L) (hK : K ((lk L x).elim z ev) ) : rdX P (xLook t m (enc x) false) w K :=
  rdX_of (by unfold xLook; exact run_lookup ht hk hz hm) (by revert hK; cases lk L x <;> intro hK <;> exact hK)
theorem rdX_look2 {t e : TypeId} {w : World} {K : Value → Prop} {m : Value} {L : List (κ × ν)} {x : κ} (z : Value) (ht : P.underlying t = some (.map k e)) (hk : KeyT P k enc)
    (hz : zeroOfT P e = some z) (hm : MapV enc ev w m L) (hK : K (.tuple #[(lk L x).elim z ev, .bool (lk L x).isSome]) ) : rdX P (xLook t m (enc x) true) w K :=
  rdX_of (by unfold xLook; exact run_lookup ht hk hz hm) (by revert hK; cases lk L x <;> intro hK <;> exact hK)
theorem set_pairs {es : List MapEntry} {L : List (κ × ν)} {i : Nat} {x : κ} {v : ν} {key val : Value} (h : es.map (fun e => (e.key, e.val)) = L.map (fun p => (enc p.1, ev p.2))) (hkey : key = enc x) (hval : val = ev v) :
    (es.modify i fun e => { e with key := key, val := val }).map (fun e => (e.key, e.val)) = (L.set i (x, v)).map (fun p => (enc p.1, ev p.2)) := by
  subst hkey hval
  apply List.ext_getElem?
  intro j
  have hj := congrArg (fun l => l[j]?) h
  simp only [List.getElem?_map] at hj
  simp only [List.getElem?_map, List.getElem?_modify, List.getElem?_set]
  by_cases hij : i = j
  · subst hij
    simp only [if_true]
    have hl : es.length = L.length := by simpa using congrArg List.length h
    by_cases hlt : i < L.length
    · rw [if_pos hlt, List.getElem?_eq_getElem (by omega)]; rfl
    · rw [if_neg hlt, List.getElem?_eq_none (by omega)]; rfl
  · simp only [if_neg hij]
    simpa using hj

theorem run_mapUpdate {t e : TypeId} {w : World} {b : Nat} {L : List (κ × ν)} {x : κ} {v : ν} (ht : P.underlying t = some (.map k e)) (hk : KeyT P k enc) (hm : MapAt enc ev w b L) :
    ∃ o, (Instr.mapUpdate t (.map (some b)) (enc x) (ev v)).run P w = .ok () (w.putObj b o) ∧ MapAt enc ev (w.putObj b o) b (put L x v) := by
  obtain ⟨hn, es, clock, hb, he, hs1, hs2⟩ := hm
  rcases hk.same w x es.toList (L.map (·.1)) (keys_of_pairs he) with ⟨h1, h2⟩ | ⟨i, u, h1, h2, h3, h4⟩
  · refine ⟨.map (es.push { key := enc x, val := ev v, born := clock }) (clock + 1), ?_, put_nodup hn x v, _, _, by rw [heap_putObj, if_pos rfl, hb]; rfl, ?_, ?_, ?_⟩
    · simp [Instr.mapUpdate, run_underlying ht, MapKept.run_getObj_map hb, hk.check, h1, MapKept.run_setObj_map _ hb, Result.andThen, World.putObj]
    · simp [he, put_new h2]
    · intro y hy
      simp only [Array.toList_push, List.mem_append, List.mem_singleton] at hy
      rcases hy with hy | rfl
      · exact Nat.lt_succ_of_lt (hs1 y hy)
      · exact Nat.lt_succ_self _
    · simp only [Array.toList_push, List.map_append, List.map_cons, List.map_nil]
      refine List.nodup_append.2 ⟨hs2, by simp, ?_⟩
      intro a ha b' hb'
      simp only [List.mem_singleton] at hb'
      subst hb'
      obtain ⟨y, hy, rfl⟩ := List.mem_map.1 ha
      exact Nat.ne_of_lt (hs1 y hy)
  · have hkey : (Option.map (fun e => e.key) es[i]?).getD (enc x) = enc x := by
      have := congrArg (fun l => l[i]?) (keys_of_pairs he)
      simp only [List.getElem?_map] at this h3
      rw [h3] at this
      rw [Array.getElem?_toList] at this
      rw [this]; rfl
    have hmod : (es.modify i fun e => { e with key := enc x, val := ev v }).toList = es.toList.modify i fun e => { e with key := enc x, val := ev v } := by simp
    refine ⟨.map (es.modify i fun e => { e with key := enc x, val := ev v }) clock, ?_, put_nodup hn x v, _, _, by rw [heap_putObj, if_pos rfl, hb]; rfl, ?_, ?_, ?_⟩
    · simp [Instr.mapUpdate, run_underlying ht, MapKept.run_getObj_map hb, hk.check, h1, MapKept.run_setObj_map _ hb, Result.andThen, hkey, hk.stays, World.putObj]
    · rw [put_at h3 h4, hmod]; exact set_pairs he rfl rfl
    · rw [hmod]
      intro y hy
      obtain ⟨j, hj⟩ := List.mem_iff_getElem?.1 hy
      rw [List.getElem?_modify] at hj
      cases hej : es.toList[j]? with
      | none => simp [hej] at hj
      | some y' =>
        rw [hej] at hj
        replace hj : (if i = j then _ else y') = y := Option.some.inj hj
        have := hs1 y' (List.mem_of_getElem? hej)
        by_cases hij : i = j
        · rw [if_pos hij] at hj; subst hj; exact this
        · rw [if_neg hij] at hj; subst hj; exact this
    · rw [hmod]
      have : (es.toList.modify i fun e => { e with key := enc x, val := ev v }).map (·.born) = es.toList.map (·.born) := by
        apply List.ext_getElem?
        intro j
        simp only [List.getElem?_map, List.getElem?_modify]
        by_cases hij : i = j
        · subst hij
          cases es.toList[i]? <;> simp
        · simp [hij]
      rw [this]; exact hs2
theorem rux_mapUp {t e : TypeId} {w : World} {K : World → Prop} {b : Nat} {L : List (κ × ν)} {x : κ} {v : ν} (ht : P.underlying t = some (.map k e)) (hk : KeyT P k enc) (hm : MapAt enc ev w b L)
    (hK : ∀ w', MapAt enc ev w' b (put L x v) → Mod (fun b' => b' = b) w w' → w'.heap.size = w.heap.size → K w') : rux P (xMapUp t (.map (some b)) (enc x) (ev v)) w K := by
  obtain ⟨o, h1, h2⟩ := run_mapUpdate (v := v) (x := x) ht hk hm
  exact rux_of (by unfold xMapUp; exact h1) (hK _ h2 ((Mod.refl _ w).putObj (b := b) (.inl (by simp)) _) (World.putObj_size ..))

theorem rx_delete {t u e : TypeId} {w : World} {K : Kont} {ts : TypeId} {m : Value} {L : List (κ × ν)} {x : κ} (ht : P.underlying t = some (.map k e)) (hk : KeyT P k enc) (hm : MapV enc ev w m L)
    (hK : ∀ w', MapV enc ev w' m (del L x) → Mod (fun b' => m = .map (some b')) w w' → w'.heap.size = w.heap.size → K (.tuple #[]) w') : rx P (xDelete #[t, u] ts [m, enc x]) w K := by
  rcases hm with ⟨rfl, rfl⟩ | ⟨b, rfl, hn, es, clock, hb, he, hs1, hs2⟩
  · exact rx_of (v := .tuple #[]) (w' := w) (by simp [xDelete, Builtin.delete_, run_underlying ht, hk.check, Result.andThen]) (hK _ (.inl ⟨rfl, rfl⟩) (Mod.refl _ _) rfl)
  · rcases hk.same w x es.toList (L.map (·.1)) (keys_of_pairs he) with ⟨h1, h2⟩ | ⟨i, v, h1, h2, h3, h4⟩
    · refine rx_of (v := .tuple #[]) (w' := w.putObj b (.map es clock)) (by simp [xDelete, Builtin.delete_, run_underlying ht, MapKept.run_getObj_map hb, hk.check, h1, MapKept.run_setObj_map _ hb, Result.andThen, World.putObj])
        (hK _ (.inr ⟨b, rfl, by rw [del_none h2]; exact hn, es, clock, by rw [heap_putObj, if_pos rfl, hb]; rfl, by rw [del_none h2]; exact he, hs1, hs2⟩) ((Mod.refl _ w).putObj (b := b) (.inl (by simp)) _) (World.putObj_size ..))
    · have hel : (es.eraseIdxIfInBounds i).toList = es.toList.eraseIdx i := by simp
      refine rx_of (v := .tuple #[]) (w' := w.putObj b (.map (es.eraseIdxIfInBounds i) clock)) (by simp [xDelete, Builtin.delete_, run_underlying ht, MapKept.run_getObj_map hb, hk.check, h1, MapKept.run_setObj_map _ hb, Result.andThen, World.putObj])
        (hK _ (.inr ⟨b, rfl, del_nodup hn x, es.eraseIdxIfInBounds i, clock, by rw [heap_putObj, if_pos rfl, hb]; rfl, ?_, ?_, ?_⟩) ((Mod.refl _ w).putObj (b := b) (.inl (by simp)) _) (World.putObj_size ..))
      · rw [del_at h3 h4, hel, eraseIdx_map', he, ← eraseIdx_map']
      · intro y hy
        rw [hel] at hy
        exact hs1 y (List.mem_of_mem_eraseIdx hy)
      · rw [hel]
        exact hs2.sublist ((List.eraseIdx_sublist _ _).map _)
end
end Go.Vc
