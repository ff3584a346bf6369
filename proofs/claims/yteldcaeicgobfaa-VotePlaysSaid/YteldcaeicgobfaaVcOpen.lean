/-
  Slices of structs among the arguments, opened.
  Conditions: none; nothing here speaks of a program.
-/
import Derived.Test.YteldcaeicgobfaaVcLift
set_option linter.unusedSimpArgs false
set_option linter.unusedVariables false
namespace Go.Vc
open Go Go.ChangeShapes Go.WideShapes Go.ChangeAt Go.RowKit

section
variable {H : Type} {enc : TypeId × Value → H} {P : Program} {w : World} {base : Nat} {spare : Nat → Bool} {held : Bool}

theorem mapM_all {α β : Type} {f : α → Option β} : ∀ {l : List α} {r : List β}, l.mapM f = some r → ∀ x ∈ l, ∃ y, f x = some y
  | [], _, _, x, hx => by cases hx
  | a :: l, r, h, x, hx => by
    rw [List.mapM_cons] at h
    cases ha : f a with
    | none => simp [ha] at h
    | some b =>
      cases hl : l.mapM f with
      | none => simp [ha, hl] at h
      | some bs =>
        rcases List.mem_cons.1 hx with rfl | hx
        · exact ⟨b, ha⟩
        · exact mapM_all hl x hx

/-- No string, slice or map of it takes more than B bytes. -/
def Wt (P : Program) (B : Nat) (t : TypeId) (d : DataW H) : Prop := ∀ m ∈ d.weights P t, m ≤ B
theorem mem_weightsAll {e : TypeId} : ∀ {l : List (DataW H)} {d : DataW H}, d ∈ l → ∀ m ∈ d.weights P e, m ∈ DataW.weightsAll P e l
  | a :: l, d, hd, m, hm => by
    simp only [DataW.weightsAll, List.mem_append]
    rcases List.mem_cons.1 hd with rfl | hd
    · exact .inl hm
    · exact .inr (mem_weightsAll hd m hm)
theorem mapM_weights {g : Field → Option (DataW H × List MemPlace)} : ∀ {l : List Field} {r : List (DataW H × List MemPlace)}, l.mapM g = some r → ∀ f ∈ l, ∃ y, g f = some y ∧ ∀ m ∈ y.1.weights P f.type, m ∈ DataW.weightsEach P (l.map (·.type)) (r.map (·.1))
  | [], _, _, x, hx => by cases hx
  | a :: l, r, h, x, hx => by
    rw [List.mapM_cons] at h
    cases ha : g a with
    | none => simp [ha] at h
    | some b =>
      cases hl : l.mapM g with
      | none => simp [ha, hl] at h
      | some bs =>
        simp [ha, hl] at h
        subst h
        simp only [List.map_cons, DataW.weightsEach, List.mem_append]
        rcases List.mem_cons.1 hx with rfl | hx
        · exact ⟨b, ha, fun m hm => .inl hm⟩
        · obtain ⟨y, h1, h2⟩ := mapM_weights hl x hx
          exact ⟨y, h1, fun m hm => .inr (h2 m hm)⟩
theorem Wt.slice {t e : TypeId} {B : Nat} {l r : List (DataW H)} (ht : P.underlying t = some (.slice e)) (h : Wt P B t (.slice l r)) : (l.length + r.length) * P.bytesOf e ≤ B ∧ ∀ d ∈ l, Wt P B e d := by
  unfold Wt at h
  simp only [DataW.weights, ht, List.mem_cons, List.mem_append] at h
  exact ⟨h _ (.inl rfl), fun d hd m hm => h m (.inr (.inl (mem_weightsAll hd m hm)))⟩

/-- A slice of elements of sz cells: the cells of each, and that each is read. -/
theorem rd_rows {t e : TypeId} {sz : Nat} {fuel : Nat} {cs : List Value} {x : DataW H × List MemPlace} (ht : P.underlying t = some (.slice e)) (hc : P.cellsOf e = sz) (hz : 0 < sz)
    {B : Nat} (hd : DataW.trod enc P w base spare held fuel t cs = some x) (hB : Wt P B t x.1) :
    ∃ v, cs = [v] ∧ ∃ L : List (List Value), Rd w sz v L.length L.flatten ∧ L.length * P.bytesOf e ≤ B ∧ ∀ c ∈ L, c.length = sz ∧ ∃ f' y, DataW.trod enc P w base spare held f' e c = some y ∧ Wt P B e y.1 := by
  rcases DataW.trod_slice ht hd with ⟨rfl, -⟩ | ⟨a, len, cap, elems, rest, n, hf, rfl, rfl, hb, hl, hm, hlen, hel, hsp, hns⟩
  · exact ⟨_, rfl, [], ⟨by simp, .inl ⟨rfl, _, _, rfl⟩⟩, by simp, by simp⟩
  · obtain ⟨hB1, hB2⟩ := hB.slice ht
    have each : ∀ i, i < len → ∃ c, w.cells? base (a.add (i * sz)) sz = some c ∧ ∃ y, DataW.trod enc P w base spare held n e c = some y ∧ Wt P B e y.1 := by
      intro i hi
      have h1 := hel i hi
      rw [List.getElem?_eq_getElem (by omega), hc, Option.bind_eq_some_iff] at h1
      obtain ⟨c, h2, h3⟩ := h1
      exact ⟨c, h2, _, h3, hB2 _ (List.mem_map.2 ⟨_, List.getElem_mem _, rfl⟩)⟩
    -- the rows, laid out
    have hL : ∀ k, k ≤ len → ∃ L : List (List Value), L.length = k ∧ ∀ i (hi : i < L.length), w.cells? base (a.add (i * sz)) sz = some L[i] ∧ ∃ y, DataW.trod enc P w base spare held n e L[i] = some y ∧ Wt P B e y.1 := by
      intro k
      induction k with
      | zero => exact fun _ => ⟨[], rfl, fun i hi => by simp at hi⟩
      | succ k ih =>
        intro hk
        obtain ⟨L, h1, h2⟩ := ih (by omega)
        obtain ⟨c, h3, h4⟩ := each k (by omega)
        refine ⟨L ++ [c], by simp [h1], fun i hi => ?_⟩
        by_cases hik : i < L.length
        · rw [List.getElem_append_left hik]; exact h2 i hik
        · have : i = k := by simp at hi; omega
          subst this
          rw [List.getElem_append_right (by omega)]
          simp only [h1, Nat.sub_self, List.getElem_cons_zero]
          exact ⟨h3, h4⟩
    obtain ⟨L, h1, h2⟩ := hL len (Nat.le_refl _)
    have hlens : ∀ c ∈ L, c.length = sz := by
      intro c hc'
      obtain ⟨i, hi, rfl⟩ := List.getElem_of_mem hc'
      exact (World.cells?_some (h2 i hi).1).2.1
    have hfl : ∀ (M : List (List Value)), (∀ c ∈ M, c.length = sz) → M.flatten.length = M.length * sz := by
      intro M
      induction M with
      | nil => intro _; simp
      | cons c M ih =>
        intro hM
        rw [List.flatten_cons, List.length_append, ih fun c h => hM c (List.mem_cons_of_mem _ h), hM c List.mem_cons_self, List.length_cons, Nat.succ_mul, Nat.add_comm]
    have hget : ∀ (M : List (List Value)), (∀ c ∈ M, c.length = sz) → ∀ i v, M.flatten[i]? = some v → ∃ h : i / sz < M.length, M[i / sz][i % sz]? = some v := by
      intro M
      induction M with
      | nil => intro _ i v h; simp at h
      | cons c M ih =>
        intro hM i v h
        have hcl := hM c List.mem_cons_self
        rw [List.flatten_cons] at h
        by_cases hi : i < sz
        · rw [List.getElem?_append_left (by omega)] at h
          rw [Nat.div_eq_of_lt hi, Nat.mod_eq_of_lt hi]
          exact ⟨by simp, by simpa using h⟩
        · rw [List.getElem?_append_right (by omega), hcl] at h
          obtain ⟨h1, h2⟩ := ih (fun c h => hM c (List.mem_cons_of_mem _ h)) (i - sz) v h
          have e1 : i / sz = (i - sz) / sz + 1 := by
            rw [Nat.div_eq_sub_div hz (by omega)]
          have e2 : i % sz = (i - sz) % sz := by
            rw [Nat.mod_eq_sub_mod (by omega)]
          refine ⟨by rw [e1, List.length_cons]; omega, ?_⟩
          simp only [e1, e2, List.getElem_cons_succ]
          exact h2
    refine ⟨_, rfl, L, ?_, Nat.le_trans (Nat.mul_le_mul_right _ (by simp; omega)) hB1, fun c hc' => ⟨hlens c hc', ?_⟩⟩
    · rw [h1]
      refine rd_of_cells hl (by rw [hfl L hlens, h1]) (fun i v hi => ?_) hz
      obtain ⟨h3, h4⟩ := hget L hlens i v hi
      obtain ⟨h5, h6⟩ := World.cells?_some (h2 _ h3).1 |>.2
      have hm' := Nat.mod_lt i hz
      have h7 := h6 (i % sz) hm'
      have e : ((a.add (i / sz * sz)).add (i % sz)) = a.add i := by
        have h8 : i / sz * sz + i % sz = i := by rw [Nat.mul_comm]; exact Nat.div_add_mod i sz
        conv => rhs; rw [← h8]
        simp only [Addr.add]
        by_cases e1 : i / sz * sz = 0
        · simp [e1]
        · by_cases e2 : i % sz = 0
          · simp [e2, e1]
          · simp [e1, e2, Nat.add_assoc]
      rw [e] at h7
      rw [h7]
      exact h4
    · obtain ⟨i, hi, rfl⟩ := List.getElem_of_mem hc'
      exact ⟨n, (h2 i hi).2⟩

/-- A struct's fields are read. -/
theorem rd_fields {t : TypeId} {fs : Array Field} {fuel : Nat} {cs : List Value} {x : DataW H × List MemPlace} {B : Nat} (ht : P.underlying t = some (.struct fs)) (hd : DataW.trod enc P w base spare held fuel t cs = some x) (hB : Wt P B t x.1) :
    ∀ f ∈ fs.toList, ∃ f' y, DataW.trod enc P w base spare held f' f.type ((cs.drop f.offset).take (P.cellsOf f.type)) = some y ∧ Wt P B f.type y.1 := by
  cases fuel with
  | zero => simp [DataW.trod] at hd
  | succ n =>
    intro f hf
    simp only [DataW.trod, ht] at hd
    split at hd
    · rw [Option.map_eq_some_iff] at hd
      obtain ⟨xs, h1, rfl⟩ := hd
      obtain ⟨y, hy, hw⟩ := mapM_weights (P := P) h1 f hf
      refine ⟨n, y, hy, fun m hm => hB m ?_⟩
      simp only [DataW.weights, ht]
      exact hw m hm
    · cases hd

/-- A slice of integers, read, and how long it may be. -/
theorem rd_ints_wt {t e : TypeId} {k : IntKind} {fuel : Nat} {cs : List Value} {x : DataW H × List MemPlace} {B : Nat}
    (ht : P.underlying t = some (.slice e)) (he : P.underlying e = some (.int k)) (hc : P.cellsOf e = 1) (hd : DataW.trod enc P w base spare held fuel t cs = some x) (hB : Wt P B t x.1) :
    ∃ v, cs = [v] ∧ ∃ zs : List Int, Rd w 1 v zs.length (zs.map fun n => .int k n) ∧ (∀ n ∈ zs, (Lit.int k n).wf = true) ∧ zs.length * P.bytesOf e ≤ B := by
  obtain ⟨v, rfl, L, h1, h2, -⟩ := rd_rows ht hc (by omega) hd hB
  obtain ⟨v', e', zs, h3, h4⟩ := rd_ints ht he hc hd
  cases e'
  obtain ⟨a, c, rfl⟩ := h1.isSl
  obtain ⟨a', c', h5⟩ := h3.isSl
  injection h5 with h6 h7 h8
  exact ⟨_, rfl, zs, h3, h4, by rw [← h7]; exact h2⟩
theorem rd_bytes_wt {t e : TypeId} {fuel : Nat} {cs : List Value} {x : DataW H × List MemPlace} {B : Nat}
    (ht : P.underlying t = some (.slice e)) (he : P.underlying e = some (.int .u8)) (hc : P.cellsOf e = 1) (hb : P.bytesOf e = 1) (hd : DataW.trod enc P w base spare held fuel t cs = some x) (hB : Wt P B t x.1) :
    ∃ v, cs = [v] ∧ ∃ l : List UInt8, Rd w 1 v l.length (bv l) ∧ l.length ≤ B := by
  obtain ⟨v, e, zs, h1, h2, h3⟩ := rd_ints_wt ht he hc hd hB
  refine ⟨v, e, zs.map fun n => UInt8.ofNat n.toNat, ?_, ?_⟩
  · rw [bv_of_ints h2, List.length_map]
    exact h1
  · rw [hb] at h3
    simpa using h3
end
end Go.Vc
