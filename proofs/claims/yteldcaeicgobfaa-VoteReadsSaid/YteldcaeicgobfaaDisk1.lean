/-
  The disk as plain data, what a disk of the program holds, and the contracts of its small functions.
  Conditions: the memory holds the disk.
-/
import Derived.Test.YteldcaeicgobfaaG1
import Derived.Test.YteldcaeicgobfaaVcIter
set_option linter.unusedSimpArgs false
set_option linter.unusedVariables false
namespace Go.Proofs
open Go Go.Vc

abbrev Pl := Int × Int
abbrev Sec := List UInt8
structure DM where
  lasts : List (Pl × Sec)
  waits : List (Pl × Sec)
  left : Int
  armed : Bool
  off : Bool

def encP (p : Pl) : Value := .agg #[.int .i64 p.1, .int .i64 p.2]
def encS (b : Sec) : Value := .agg (bv b).toArray
def cellsPut (p : Pl × Sec) : List Value := .int .i64 p.1.1 :: .int .i64 p.1.2 :: bv p.2
theorem cellsPut_length {p : Pl × Sec} (h : p.2.length = 128) : (cellsPut p).length = 130 := by simp [cellsPut, h]
theorem cellsPut_one (p : Pl × Sec) : (cellsPut p).all (·.oneCell') = true := by
  have := bv_one p.2
  simp only [cellsPut, List.all_cons, this, Bool.and_true]
  rfl

/-- From w to w' the blocks F have turned into F', others have come. -/
structure Stp (F : Nat → Prop) (w w' : World) (F' : Nat → Prop) : Prop where
  mod : Mod F w w'
  sub : ∀ b, F' b → F b ∨ w.heap.size ≤ b
theorem Stp.refl (F : Nat → Prop) (w : World) : Stp F w w F := ⟨Mod.refl _ _, fun _ h => .inl h⟩
theorem Stp.trans {F F1 F2 : Nat → Prop} {w w1 w2 : World} (h : Stp F w w1 F1) (h' : Stp F1 w1 w2 F2) : Stp F w w2 F2 := by
  refine ⟨⟨Nat.le_trans h.mod.size h'.mod.size, h'.mod.out.trans h.mod.out, h'.mod.os.trans h.mod.os, fun b hb hf => ?_⟩, fun b hb => ?_⟩
  · refine (h'.mod.blk b (Nat.lt_of_lt_of_le hb h.mod.size) fun hf1 => ?_).trans (h.mod.blk b hb hf)
    rcases h.sub b hf1 with h1 | h1
    · exact hf h1
    · omega
  · rcases h'.sub b hb with h1 | h1
    · exact h.sub b h1
    · exact .inr (Nat.le_trans h.mod.size h1)

/-- The disk at block d, in the blocks F; what waits is the slice s. -/
structure DiskQ (w : World) (d : Nat) (F : Nat → Prop) (D : DM) (s : Value) : Prop where
  out : ∃ mb, w.heap[d]? = some (.cells #[.map mb, s, .int .i64 D.left, .bool D.armed, .bool D.off] 55 (0, 0)) ∧ MapV encP encS w (.map mb) D.lasts ∧
    Own w 116 130 s D.waits.length (D.waits.flatMap cellsPut) ∧ (∀ b, F b ↔ b = d ∨ mb = some b ∨ inSl s b) ∧ mb ≠ some d ∧ ¬ inSl s d ∧ (∀ b, mb = some b → ¬ inSl s b)
  lasts : ∀ p ∈ D.lasts, p.2.length = 128
  waits : ∀ p ∈ D.waits, p.2.length = 128 ∧ 0 ≤ p.1.2 ∧ p.1.2 < 8192
  left : D.armed = true → 0 ≤ D.left ∧ D.left < 9223372036854775808
  nil : D.waits = [] → s = .slice none 0 0
def DiskR (w : World) (d : Nat) (F : Nat → Prop) (D : DM) : Prop := ∃ s, DiskQ w d F D s

theorem DiskQ.mod {F G : Nat → Prop} {w w' : World} {d : Nat} {D : DM} {s : Value} (h : DiskQ w d F D s) (hm : Mod G w w') (hd : ∀ b, F b → ¬ G b) : DiskQ w' d F D s := by
  obtain ⟨⟨mb, h1, h2, h3, h4, h5, h6, h7⟩, hl, hw, hle, h8⟩ := h
  refine ⟨⟨mb, hm.keep h1 (hd d ((h4 d).2 (.inl rfl))), ?_, h3.mod hm fun b hb => hd b ((h4 b).2 (.inr (.inr hb))), h4, h5, h6, h7⟩, hl, hw, hle, h8⟩
  rcases h2 with ⟨h2, h2'⟩ | ⟨b, h2, h2'⟩
  · exact .inl ⟨h2, h2'⟩
  · refine .inr ⟨b, h2, h2'.mod hm (hd b ((h4 b).2 (.inr (.inl ?_))))⟩
    cases h2; rfl
theorem DiskQ.lt {F : Nat → Prop} {w : World} {d : Nat} {D : DM} {s : Value} (h : DiskQ w d F D s) {b : Nat} (hb : F b) : b < w.heap.size := by
  obtain ⟨⟨mb, h1, h2, h3, h4, h5, h6, h7⟩, hl, hw, hle, h8⟩ := h
  rcases (h4 b).1 hb with rfl | hb | hb
  · exact lt_of_heap h1
  · subst hb
    rcases h2 with ⟨h2, _⟩ | ⟨b', h2, h2'⟩
    · cases h2
    · cases h2; exact h2'.lt
  · exact h3.lt hb
theorem DiskQ.self {F : Nat → Prop} {w : World} {d : Nat} {D : DM} {s : Value} (h : DiskQ w d F D s) : F d := by
  obtain ⟨⟨mb, h1, h2, h3, h4, h5, h6, h7⟩, hl, hw, hle, h8⟩ := h
  exact (h4 d).2 (.inl rfl)
theorem DiskQ.sl {F : Nat → Prop} {w : World} {d : Nat} {D : DM} {s : Value} (h : DiskQ w d F D s) : Own w 116 130 s D.waits.length (D.waits.flatMap cellsPut) := by
  obtain ⟨⟨mb, h1, h2, h3, h4, h5, h6, h7⟩, hl, hw, hle, h8⟩ := h
  exact h3
theorem DiskR.mod {F G : Nat → Prop} {w w' : World} {d : Nat} {D : DM} (h : DiskR w d F D) (hm : Mod G w w') (hd : ∀ b, F b → ¬ G b) : DiskR w' d F D := h.imp fun _ h => h.mod hm hd
theorem DiskR.lt {F : Nat → Prop} {w : World} {d : Nat} {D : DM} (h : DiskR w d F D) {b : Nat} (hb : F b) : b < w.heap.size := h.elim fun _ h => h.lt hb
theorem DiskR.self {F : Nat → Prop} {w : World} {d : Nat} {D : DM} (h : DiskR w d F D) : F d := h.elim fun _ h => h.self

def dptr (d : Nat) : Value := .pointer (some ⟨d, 0, none⟩)

theorem ca_ready {w : World} {d : Nat} {F : Nat → Prop} {D : DM} {K : Kont} (h : DiskR w d F D) (hK : K (.int .i64 (if D.off then 180 else 0)) w) : Ca Try.prog 54 #[dptr d] w K := by
  obtain ⟨s, ⟨mb, h1, -⟩, -⟩ := h
  apply ca54
  unfold F54
  simp [go_sem, dptr, hp_of h1]
  cases hd : D.off <;> simpa [hd] using hK

/-- One step more. -/
def DM.step (D : DM) : Bool × DM :=
  if D.armed && D.left == 0 then (false, { D with armed := false, off := true })
  else if D.armed then (true, { D with left := D.left - 1 }) else (true, D)

theorem ca_step {w : World} {d : Nat} {F : Nat → Prop} {D : DM} {K : Kont} {s : Value} (h : DiskQ w d F D s)
    (hK : ∀ w', DiskQ w' d F D.step.2 s → Mod (fun b => b = d) w w' → w'.heap.size = w.heap.size → K (.bool D.step.1) w') : Ca Try.prog 55 #[dptr d] w K := by
  have h0 := h
  obtain ⟨⟨mb, h1, h2, h3, h4, h5, h6, h7⟩, hl, hw, hle, h8⟩ := h
  have key : ∀ (w' : World) (D' : DM), D'.lasts = D.lasts → D'.waits = D.waits → (D'.armed = true → 0 ≤ D'.left ∧ D'.left < 9223372036854775808) → Mod (fun b => b = d) w w' →
      w'.heap[d]? = some (.cells #[.map mb, s, .int .i64 D'.left, .bool D'.armed, .bool D'.off] 55 (0, 0)) → DiskQ w' d F D' s := by
    intro w' D' e1 e2 e3 hm hd
    refine ⟨⟨mb, hd, ?_, ?_, h4, h5, h6, h7⟩, by rw [e1]; exact hl, by rw [e2]; exact hw, e3, by rw [e2]; exact h8⟩
    · rw [e1]
      rcases h2 with ⟨h2, h2'⟩ | ⟨b, h2, h2'⟩
      · exact .inl ⟨h2, h2'⟩
      · exact .inr ⟨b, h2, h2'.mod hm (fun e => h5 (by cases h2; rw [e]))⟩
    · rw [e2]
      exact h3.mod hm fun b hb e => h6 (e ▸ hb)
  apply ca55
  unfold F55
  simp [go_sem, dptr, hp_of h1]
  cases ha : D.armed
  · simp
    have e : D.step = (true, D) := by simp [DM.step, ha]
    rw [e] at hK
    exact hK w h0 (Mod.refl _ _) rfl
  · obtain ⟨hle1, hle2⟩ := hle ha
    simp
    split
    · rename_i hz
      have e : D.step = (false, { D with armed := false, off := true }) := by simp [DM.step, ha, hz]
      rw [e] at hK
      exact hK _ (key _ _ rfl rfl (by simp) (((Mod.refl _ w).setCell (by simp) _ _).setCell (by simp) _ _) (by simp [heap_setCell, h1])) (((Mod.refl _ w).setCell (by simp) _ _).setCell (by simp) _ _) (by simp [size_setCell])
    · rename_i hz
      have e : D.step = (true, { D with left := D.left - 1 }) := by simp [DM.step, ha, hz]
      rw [e] at hK
      have hwr : IntKind.i64.wrap (D.left - 1) = D.left - 1 := by rw [IntKind.wrap_i64]; omega
      rw [hwr]
      exact hK _ (key _ _ rfl rfl (by intro _; simp only; omega) ((Mod.refl _ w).setCell (by simp) _ _) (by simp [heap_setCell, h1, ha])) ((Mod.refl _ w).setCell (by simp) _ _) (by simp [size_setCell])

/-- May the sectors be? -/
def mayB (f a n : Int) : Bool := decide (0 ≤ f ∧ f < 5 ∧ 0 ≤ a ∧ 1 ≤ n ∧ n ≤ 8192 ∧ a ≤ 8192 - n)
theorem ca_may {f a n : Int} {w : World} {K : Kont} (hK : K (.bool (mayB f a n)) w) : Ca Try.prog 57 #[.int .i64 f, .int .i64 a, .int .i64 n] w K := by
  apply ca57
  unfold F57
  simp [go_sem]
  unfold mayB at hK
  repeat' split
  all_goals first
    | (rw [IntKind.wrap_i64]
       have e : (8192 - n + 9223372036854775808) % 18446744073709551616 - 9223372036854775808 = 8192 - n := by omega
       rw [e]
       have e2 : decide (0 ≤ f ∧ f < 5 ∧ 0 ≤ a ∧ 1 ≤ n ∧ n ≤ 8192 ∧ a ≤ 8192 - n) = decide (a ≤ 8192 - n) := by rw [decide_eq_decide]; omega
       rw [← e2]; exact hK)
    | (have e2 : decide (0 ≤ f ∧ f < 5 ∧ 0 ≤ a ∧ 1 ≤ n ∧ n ≤ 8192 ∧ a ≤ 8192 - n) = false := by rw [decide_eq_false_iff_not]; omega
       rw [e2] at hK; exact hK)
end Go.Proofs
