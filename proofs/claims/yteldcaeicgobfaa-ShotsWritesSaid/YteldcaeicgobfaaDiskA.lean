/-
  The disk as plain data, what a disk of the program holds, and the contracts of its small functions.
  The contract of 'last'.
  The contracts of New, Waits, Down, Arm, Sync.
  The contract of Crash.
  The contract of Read.
  The iterator slices.Chunk over bytes.
  The contract of Write.
  The contracts of the statements' own small functions: sector and known.
  Sectors told by numbers: the plain law of DiskTorn and DiskSynced.
  The walk of DiskTorn.
  The plain law and the walk of DiskSynced.
  The contracts of the disk's functions of a disk that is not there.
  Conditions: where they ask for any, each theorem names them.
-/
import Derived.Test.YteldcaeicgobfaaG1
import Derived.Test.YteldcaeicgobfaaVcIter
import Derived.Laws.OwnMore
import Derived.Test.YteldcaeicgobfaaG2
import Derived.Test.YteldcaeicgobfaaG3
set_option linter.unusedVariables false
set_option linter.unusedSimpArgs false
namespace Go.Proofs
open Go Go.Vc

abbrev Pl := Int × Int
abbrev Sec := List UInt8
structure DM where
  lasts : List (Pl × Sec)
  waits : List (Pl × Sec)
  left : Int
  armed : Bool
  off : Bool

def encP (p : Pl) : Value := .agg #[.int .i64 p.1, .int .i64 p.2]
def encS (b : Sec) : Value := .agg (bv b).toArray
def cellsPut (p : Pl × Sec) : List Value := .int .i64 p.1.1 :: .int .i64 p.1.2 :: bv p.2
theorem cellsPut_length {p : Pl × Sec} (h : p.2.length = 128) : (cellsPut p).length = 130 := by simp [cellsPut, h]
theorem cellsPut_one (p : Pl × Sec) : (cellsPut p).all (·.oneCell') = true := by
  have := bv_one p.2
  simp only [cellsPut, List.all_cons, this, Bool.and_true]
  rfl

/-- From w to w' the blocks F have turned into F', others have come. -/
structure Stp (F : Nat → Prop) (w w' : World) (F' : Nat → Prop) : Prop where
  mod : Mod F w w'
  sub : ∀ b, F' b → F b ∨ w.heap.size ≤ b
theorem Stp.refl (F : Nat → Prop) (w : World) : Stp F w w F := ⟨Mod.refl _ _, fun _ h => .inl h⟩
theorem Stp.trans {F F1 F2 : Nat → Prop} {w w1 w2 : World} (h : Stp F w w1 F1) (h' : Stp F1 w1 w2 F2) : Stp F w w2 F2 := by
  refine ⟨⟨Nat.le_trans h.mod.size h'.mod.size, h'.mod.out.trans h.mod.out, h'.mod.os.trans h.mod.os, fun b hb hf => ?_⟩, fun b hb => ?_⟩
  · refine (h'.mod.blk b (Nat.lt_of_lt_of_le hb h.mod.size) fun hf1 => ?_).trans (h.mod.blk b hb hf)
    rcases h.sub b hf1 with h1 | h1
    · exact hf h1
    · omega
  · rcases h'.sub b hb with h1 | h1
    · exact h.sub b h1
    · exact .inr (Nat.le_trans h.mod.size h1)

/-- The disk at block d, in the blocks F; what waits is the slice s. -/
structure DiskQ (w : World) (d : Nat) (F : Nat → Prop) (D : DM) (s : Value) : Prop where
  out : ∃ mb, w.heap[d]? = some (.cells #[.map mb, s, .int .i64 D.left, .bool D.armed, .bool D.off] 55 (0, 0)) ∧ MapV encP encS w (.map mb) D.lasts ∧
    Own w 116 130 s D.waits.length (D.waits.flatMap cellsPut) ∧ (∀ b, F b ↔ b = d ∨ mb = some b ∨ inSl s b) ∧ mb ≠ some d ∧ ¬ inSl s d ∧ (∀ b, mb = some b → ¬ inSl s b)
  lasts : ∀ p ∈ D.lasts, p.2.length = 128
  waits : ∀ p ∈ D.waits, p.2.length = 128 ∧ 0 ≤ p.1.2 ∧ p.1.2 < 8192
  left : D.armed = true → 0 ≤ D.left ∧ D.left < 9223372036854775808
  nil : D.waits = [] → s = .slice none 0 0
def DiskR (w : World) (d : Nat) (F : Nat → Prop) (D : DM) : Prop := ∃ s, DiskQ w d F D s

theorem DiskQ.mod {F G : Nat → Prop} {w w' : World} {d : Nat} {D : DM} {s : Value} (h : DiskQ w d F D s) (hm : Mod G w w') (hd : ∀ b, F b → ¬ G b) : DiskQ w' d F D s := by
  obtain ⟨⟨mb, h1, h2, h3, h4, h5, h6, h7⟩, hl, hw, hle, h8⟩ := h
  refine ⟨⟨mb, hm.keep h1 (hd d ((h4 d).2 (.inl rfl))), ?_, h3.mod hm fun b hb => hd b ((h4 b).2 (.inr (.inr hb))), h4, h5, h6, h7⟩, hl, hw, hle, h8⟩
  rcases h2 with ⟨h2, h2'⟩ | ⟨b, h2, h2'⟩
  · exact .inl ⟨h2, h2'⟩
  · refine .inr ⟨b, h2, h2'.mod hm (hd b ((h4 b).2 (.inr (.inl ?_))))⟩
    cases h2; rfl
theorem DiskQ.lt {F : Nat → Prop} {w : World} {d : Nat} {D : DM} {s : Value} (h : DiskQ w d F D s) {b : Nat} (hb : F b) : b < w.heap.size := by
  obtain ⟨⟨mb, h1, h2, h3, h4, h5, h6, h7⟩, hl, hw, hle, h8⟩ := h
  rcases (h4 b).1 hb with rfl | hb | hb
  · exact lt_of_heap h1
  · subst hb
    rcases h2 with ⟨h2, _⟩ | ⟨b', h2, h2'⟩
    · cases h2
    · cases h2; exact h2'.lt
  · exact h3.lt hb
theorem DiskQ.self {F : Nat → Prop} {w : World} {d : Nat} {D : DM} {s : Value} (h : DiskQ w d F D s) : F d := by
  obtain ⟨⟨mb, h1, h2, h3, h4, h5, h6, h7⟩, hl, hw, hle, h8⟩ := h
  exact (h4 d).2 (.inl rfl)
theorem DiskQ.sl {F : Nat → Prop} {w : World} {d : Nat} {D : DM} {s : Value} (h : DiskQ w d F D s) : Own w 116 130 s D.waits.length (D.waits.flatMap cellsPut) := by
  obtain ⟨⟨mb, h1, h2, h3, h4, h5, h6, h7⟩, hl, hw, hle, h8⟩ := h
  exact h3
theorem DiskR.mod {F G : Nat → Prop} {w w' : World} {d : Nat} {D : DM} (h : DiskR w d F D) (hm : Mod G w w') (hd : ∀ b, F b → ¬ G b) : DiskR w' d F D := h.imp fun _ h => h.mod hm hd
theorem DiskR.lt {F : Nat → Prop} {w : World} {d : Nat} {D : DM} (h : DiskR w d F D) {b : Nat} (hb : F b) : b < w.heap.size := h.elim fun _ h => h.lt hb
theorem DiskR.self {F : Nat → Prop} {w : World} {d : Nat} {D : DM} (h : DiskR w d F D) : F d := h.elim fun _ h => h.self

def dptr (d : Nat) : Value := .pointer (some ⟨d, 0, none⟩)

theorem ca_ready {w : World} {d : Nat} {F : Nat → Prop} {D : DM} {K : Kont} (h : DiskR w d F D) (hK : K (.int .i64 (if D.off then 180 else 0)) w) : Ca Try.prog 54 #[dptr d] w K := by
  obtain ⟨s, ⟨mb, h1, -⟩, -⟩ := h
  apply ca54
  unfold F54
  simp [go_sem, dptr, hp_of h1]
  cases hd : D.off <;> simpa [hd] using hK

/-- One step more. -/
def DM.step (D : DM) : Bool × DM :=
  if D.armed && D.left == 0 then (false, { D with armed := false, off := true })
  else if D.armed then (true, { D with left := D.left - 1 }) else (true, D)

theorem ca_step {w : World} {d : Nat} {F : Nat → Prop} {D : DM} {K : Kont} {s : Value} (h : DiskQ w d F D s)
    (hK : ∀ w', DiskQ w' d F D.step.2 s → Mod (fun b => b = d) w w' → w'.heap.size = w.heap.size → K (.bool D.step.1) w') : Ca Try.prog 55 #[dptr d] w K := by
  have h0 := h
  obtain ⟨⟨mb, h1, h2, h3, h4, h5, h6, h7⟩, hl, hw, hle, h8⟩ := h
  have key : ∀ (w' : World) (D' : DM), D'.lasts = D.lasts → D'.waits = D.waits → (D'.armed = true → 0 ≤ D'.left ∧ D'.left < 9223372036854775808) → Mod (fun b => b = d) w w' →
      w'.heap[d]? = some (.cells #[.map mb, s, .int .i64 D'.left, .bool D'.armed, .bool D'.off] 55 (0, 0)) → DiskQ w' d F D' s := by
    intro w' D' e1 e2 e3 hm hd
    refine ⟨⟨mb, hd, ?_, ?_, h4, h5, h6, h7⟩, by rw [e1]; exact hl, by rw [e2]; exact hw, e3, by rw [e2]; exact h8⟩
    · rw [e1]
      rcases h2 with ⟨h2, h2'⟩ | ⟨b, h2, h2'⟩
      · exact .inl ⟨h2, h2'⟩
      · exact .inr ⟨b, h2, h2'.mod hm (fun e => h5 (by cases h2; rw [e]))⟩
    · rw [e2]
      exact h3.mod hm fun b hb e => h6 (e ▸ hb)
  apply ca55
  unfold F55
  simp [go_sem, dptr, hp_of h1]
  cases ha : D.armed
  · simp
    have e : D.step = (true, D) := by simp [DM.step, ha]
    rw [e] at hK
    exact hK w h0 (Mod.refl _ _) rfl
  · obtain ⟨hle1, hle2⟩ := hle ha
    simp
    split
    · rename_i hz
      have e : D.step = (false, { D with armed := false, off := true }) := by simp [DM.step, ha, hz]
      rw [e] at hK
      exact hK _ (key _ _ rfl rfl (by simp) (((Mod.refl _ w).setCell (by simp) _ _).setCell (by simp) _ _) (by simp [heap_setCell, h1])) (((Mod.refl _ w).setCell (by simp) _ _).setCell (by simp) _ _) (by simp [size_setCell])
    · rename_i hz
      have e : D.step = (true, { D with left := D.left - 1 }) := by simp [DM.step, ha, hz]
      rw [e] at hK
      have hwr : IntKind.i64.wrap (D.left - 1) = D.left - 1 := by rw [IntKind.wrap_i64]; omega
      rw [hwr]
      exact hK _ (key _ _ rfl rfl (by intro _; simp only; omega) ((Mod.refl _ w).setCell (by simp) _ _) (by simp [heap_setCell, h1, ha])) ((Mod.refl _ w).setCell (by simp) _ _) (by simp [size_setCell])

/-- May the sectors be? -/
def mayB (f a n : Int) : Bool := decide (0 ≤ f ∧ f < 5 ∧ 0 ≤ a ∧ 1 ≤ n ∧ n ≤ 8192 ∧ a ≤ 8192 - n)
theorem ca_may {f a n : Int} {w : World} {K : Kont} (hK : K (.bool (mayB f a n)) w) : Ca Try.prog 57 #[.int .i64 f, .int .i64 a, .int .i64 n] w K := by
  apply ca57
  unfold F57
  simp [go_sem]
  unfold mayB at hK
  repeat' split
  all_goals first
    | (rw [IntKind.wrap_i64]
       have e : (8192 - n + 9223372036854775808) % 18446744073709551616 - 9223372036854775808 = 8192 - n := by omega
       rw [e]
       have e2 : decide (0 ≤ f ∧ f < 5 ∧ 0 ≤ a ∧ 1 ≤ n ∧ n ≤ 8192 ∧ a ≤ 8192 - n) = decide (a ≤ 8192 - n) := by rw [decide_eq_decide]; omega
       rw [← e2]; exact hK)
    | (have e2 : decide (0 ≤ f ∧ f < 5 ∧ 0 ≤ a ∧ 1 ≤ n ∧ n ≤ 8192 ∧ a ≤ 8192 - n) = false := by rw [decide_eq_false_iff_not]; omega
       rw [e2] at hK; exact hK)
end Go.Proofs

namespace Go.Proofs
open Go Go.Vc

theorem uPlace : Try.prog.underlying 113 = some (.struct (Try.prog.fieldsOf 113)) := by kernel_rfl
theorem fPlace : Try.prog.fieldsOf 113 = #[{ name := "file", type := 3, offset := 0, embedded := false, tag := "", pkgPath := "broadside/disk", byteOffset := 0 }, { name := "at", type := 3, offset := 1, embedded := false, tag := "", pkgPath := "broadside/disk", byteOffset := 8 }] := by kernel_rfl
theorem ckint (b : Bool) (n : Nat) (k : IntKind) (f : Int) (w : World) : (Instr.checkKey b (n+1) 3 (.int k f)).run Try.prog w = .ok () w := by
  unfold Instr.checkKey
  simp [go_sem]
theorem eqPlace (w : World) (x y : Pl) : (Op.equal 113 (encP x) (encP y)).run Try.prog w = .ok (decide (x = y)) w := by
  have h : Try.prog.stoodInHeld 113 = false := by kernel_rfl
  obtain ⟨f, a⟩ := x
  obtain ⟨f', a'⟩ := y
  unfold Op.equal Op.maxDepth encP
  rw [run_equalIn_struct w 9999 113 _ _ uPlace h, fPlace]
  have e1 : ∀ (x y : Int) (w : World), (Op.equalIn 9999 3 (.int .i64 x) (.int .i64 y)).run Try.prog w = .ok (x == y) w := fun x y w => run_equalIn_int w 9998 3 .i64 .i64 x y (by kernel_rfl)
  simp [Op.eqFields, part, isAgg, go_sem, e1]
  by_cases h1 : f = f' <;> by_cases h2 : a = a' <;> simp_all
theorem ckPlace (w : World) (b : Bool) (x : Pl) : (Instr.checkKey b 10000 113 (encP x)).run Try.prog w = .ok () w := by
  obtain ⟨f, a⟩ := x
  unfold Instr.checkKey encP
  have e1 : ∀ (x : Int) (w : World), (Instr.checkKey b 9999 3 (.int .i64 x)).run Try.prog w = .ok () w := fun x w => ckint b 9998 .i64 x w
  simp [go_sem, uPlace, fPlace, e1]
theorem kPlace : KeyT Try.prog 113 encP :=
  KeyT.asking uPlace (fun x y => rfl) eqPlace ckPlace (fun x => by simp [encP, Instr.sameBits])
theorem uMap : Try.prog.underlying 52 = some (.map 113 114) := by kernel_rfl

theorem ca_last {w : World} {d : Nat} {F : Nat → Prop} {D : DM} {K : Kont} {p : Pl × Sec} {s : Value} (h : DiskQ w d F D s) (hp2 : p.2.length = 128)
    (hK : ∀ w' F', DiskQ w' d F' { D with lasts := put D.lasts p.1 p.2 } s → Stp F w w' F' → K (.tuple #[]) w') : Ca Try.prog 56 #[dptr d, .agg (cellsPut p).toArray] w K := by
  have h0 := h
  obtain ⟨⟨mb, h1, h2, h3, h4, h5, h6, h7⟩, hl, hw, hle, h8⟩ := h
  have hlt := lt_of_heap h1
  have t1 : isAggT Try.prog 114 = true := by kernel_rfl
  have t2 : Try.prog.cellsOf 114 = 127 + 1 := by kernel_rfl
  apply ca56
  unfold F56
  cases mb with
  | none =>
    have hL : D.lasts = [] := by
      rcases h2 with ⟨_, h2⟩ | ⟨b, h2, _⟩
      · exact h2
      · cases h2
    simp [go_sem, dptr, hp_of h1, olds hlt, cellsPut]
    generalize hW : (((w.alloc _).alloc (.map #[] 0)).setCell _ _).drew = W
    have m1 : Mod (fun b => b = d) w W := by subst hW; exact ((((Mod.refl _ w).alloc _).alloc _).setCell (by simp) _ _).drew
    have f1 : hp W w.heap.size = some (.cells (cellsPut p).toArray 116 (0, 0)) := by subst hW; simp [go_sem, olds hlt, cellsPut]
    have f2 : hp W (w.heap.size + 1) = some (.map #[] 0) := by subst hW; simp [go_sem, olds hlt]
    have f3 : hp W d = some (.cells #[.map (some (w.heap.size + 1)), s, .int .i64 D.left, .bool D.armed, .bool D.off] 55 (0, 0)) := by subst hW; simp [go_sem, olds hlt, hp_of h1]
    have f4 : W.heap.size = w.heap.size + 2 := by subst hW; simp [go_sem]
    refine rdX_bigS (bv p.2) 127 t1 t2 (by simp [hp2]) ⟨_, _, _, f1, by simp [cellsPut]; omega, by simp [cellsPut]; exact List.take_of_length_le (by simp)⟩ ?_
    refine rux_mapUp (enc := encP) (ev := encS) (L := []) (x := p.1) (v := p.2) uMap kPlace ⟨by simp, #[], 0, f2, by simp, by simp, by simp⟩ fun w' g1 g2 g3 => ?_
    have g4 : w'.heap[d]? = _ := g2.keep f3 (by show ¬ d = w.heap.size + 1; omega)
    refine hK w' (fun b => F b ∨ b = w.heap.size + 1) ⟨⟨some (w.heap.size + 1), g4, .inr ⟨_, rfl, by rw [hL]; exact g1⟩, ?_, ?_, ?_, h6, ?_⟩, ?_, hw, hle, h8⟩ ⟨?_, ?_⟩
    · exact (h3.mod m1 fun b hb e => h6 (e ▸ hb)).mod g2 fun b hb e => by have := h3.lt hb; omega
    · intro b
      rw [h4 b]
      simp
      constructor
      · rintro ((h | h) | h)
        · exact .inl h
        · exact .inr (.inr h)
        · exact .inr (.inl h.symm)
      · rintro (h | h | h)
        · exact .inl (.inl h)
        · exact .inr h.symm
        · exact .inl (.inr h)
    · simp; omega
    · rintro b hb hb'
      cases hb
      have := h3.lt hb'; omega
    · intro q hq
      rcases mem_put hq with rfl | hq
      · exact hp2
      · exact hl q hq
    · exact (m1.mono fun b _ hb => (h4 b).2 (.inl hb)).on g2 fun b hb => .inr (by omega)
    · rintro b (hb | rfl)
      · exact .inl hb
      · exact .inr (by omega)
  | some m =>
    simp [go_sem, dptr, hp_of h1, olds hlt, cellsPut]
    generalize hW : (w.alloc _).drew = W
    have hM : MapAt encP encS w m D.lasts := by
      rcases h2 with ⟨h2, _⟩ | ⟨b, h2, h2'⟩
      · cases h2
      · cases h2; exact h2'
    have m1 : Mod (fun _ => False) w W := by subst hW; exact ((Mod.refl _ w).alloc _).drew
    have f1 : hp W w.heap.size = some (.cells (cellsPut p).toArray 116 (0, 0)) := by subst hW; simp [go_sem, olds hlt, cellsPut]
    refine rdX_bigS (bv p.2) 127 t1 t2 (by simp [hp2]) ⟨_, _, _, f1, by simp [cellsPut]; omega, by simp [cellsPut]; exact List.take_of_length_le (by simp)⟩ ?_
    refine rux_mapUp (enc := encP) (ev := encS) (L := D.lasts) (x := p.1) (v := p.2) uMap kPlace (hM.mod m1 id) fun w' g1 g2 g3 => ?_
    have m2 : Mod (fun b => b = m) w w' := (m1.mono fun _ _ hb => hb.elim).on g2 fun b hb => .inl hb
    have hmd : m ≠ d := fun e => h5 (by rw [e])
    have fm : F m := (h4 m).2 (.inr (.inl rfl))
    refine hK w' F ⟨⟨some m, m2.keep h1 (fun e => hmd e.symm), .inr ⟨_, rfl, g1⟩, h3.mod m2 fun b hb e => h7 m rfl (e ▸ hb), h4, h5, h6, h7⟩, ?_, hw, hle, h8⟩ ⟨m2.mono fun b _ hb => by subst hb; exact fm, fun b hb => .inl hb⟩
    intro q hq
    rcases mem_put hq with rfl | hq
    · exact hp2
    · exact hl q hq
end Go.Proofs

namespace Go.Proofs
open Go Go.Vc

def DM.new : DM := ⟨[], [], 0, false, false⟩
theorem diskQ_new {w : World} {d : Nat} (h : w.heap[d]? = some (.cells #[.map none, .slice none 0 0, .int .i64 0, .bool false, .bool false] 55 (0, 0))) : DiskQ w d (fun b => b = d) DM.new (.slice none 0 0) :=
  ⟨⟨none, h, .inl ⟨rfl, rfl⟩, Own.nil .., fun b => by simp [inSl, slBlk], by simp, by simp [inSl, slBlk], by simp⟩, by simp [DM.new], by simp [DM.new], by simp [DM.new], fun _ => rfl⟩

theorem ca_new {w : World} {K : Kont} (hK : ∀ w', DiskR w' w.heap.size (fun b => b = w.heap.size) DM.new → Mod (fun _ => False) w w' → K (dptr w.heap.size) w') : Ca Try.prog 15 #[] w K := by
  apply ca15
  unfold F15
  simp [go_sem]
  exact hK _ ⟨_, diskQ_new (by show hp _ _ = _; simp [go_sem])⟩ ((Mod.refl _ w).alloc _)

theorem ca_waits {w : World} {d : Nat} {F : Nat → Prop} {D : DM} {K : Kont} (h : DiskR w d F D) (hK : K (.int .i64 D.waits.length) w) : Ca Try.prog 21 #[dptr d] w K := by
  obtain ⟨s, ⟨mb, h1, h2, h3, -⟩, -⟩ := h
  obtain ⟨a, c, rfl, -⟩ := h3.isSl
  apply ca21
  unfold F21
  simp [go_sem, dptr, hp_of h1]
  exact hK

theorem ca_down {w : World} {d : Nat} {F : Nat → Prop} {D : DM} {K : Kont} (h : DiskR w d F D) (hK : K (.bool D.off) w) : Ca Try.prog 30 #[dptr d] w K := by
  obtain ⟨s, ⟨mb, h1, h2, h3, -⟩, -⟩ := h
  apply ca30
  unfold F30
  simp [go_sem, dptr, hp_of h1]
  exact hK

def DM.arm (D : DM) (n : Int) : Int × DM := if D.off then (180, D) else if n < -1 then (2, D) else (0, { D with armed := decide (0 ≤ n), left := n })

theorem DiskQ.turn {w w' : World} {d : Nat} {F : Nat → Prop} {D D' : DM} {s : Value} (h : DiskQ w d F D s) (e1 : D'.lasts = D.lasts) (e2 : D'.waits = D.waits) (e3 : D'.armed = true → 0 ≤ D'.left ∧ D'.left < 9223372036854775808) (hm : Mod (fun b => b = d) w w')
    (hd : ∀ mb, w.heap[d]? = some (.cells #[.map mb, s, .int .i64 D.left, .bool D.armed, .bool D.off] 55 (0, 0)) → w'.heap[d]? = some (.cells #[.map mb, s, .int .i64 D'.left, .bool D'.armed, .bool D'.off] 55 (0, 0))) : DiskQ w' d F D' s := by
  obtain ⟨⟨mb, h1, h2, h3, h4, h5, h6, h7⟩, hl, hw, hle, h8⟩ := h
  refine ⟨⟨mb, hd mb h1, ?_, ?_, h4, h5, h6, h7⟩, by rw [e1]; exact hl, by rw [e2]; exact hw, e3, by rw [e2]; exact h8⟩
  · rw [e1]
    rcases h2 with ⟨h2, h2'⟩ | ⟨b, h2, h2'⟩
    · exact .inl ⟨h2, h2'⟩
    · exact .inr ⟨b, h2, h2'.mod hm (fun e => h5 (by cases h2; rw [e]))⟩
  · rw [e2]
    exact h3.mod hm fun b hb e => h6 (e ▸ hb)

theorem ca_arm {w : World} {d : Nat} {F : Nat → Prop} {D : DM} {K : Kont} {n : Int} (h : DiskR w d F D) (hn : n < 9223372036854775808) (hK : ∀ w', DiskR w' d F (D.arm n).2 → Mod (fun b => b = d) w w' → K (.int .i64 (D.arm n).1) w') : Ca Try.prog 25 #[dptr d, .int .i64 n] w K := by
  have h0 := h
  obtain ⟨s, hq⟩ := h
  have hq0 := hq
  obtain ⟨⟨mb, h1, h2, h3, -⟩, -⟩ := hq
  apply ca25
  unfold F25
  refine ca_ready h0 ?_
  unfold DM.arm at hK
  cases ho : D.off
  · simp [ho] at hK
    simp [go_sem, dptr, hp_of h1]
    split
    · rename_i e
      simp [e] at hK
      exact hK _ h0 (Mod.refl _ _)
    · rename_i e
      simp [e] at hK
      have m1 : Mod (fun b => b = d) w ((w.setCell ⟨d, 3, none⟩ (.bool (decide (0 ≤ n)))).setCell ⟨d, 2, none⟩ (.int .i64 n)) := ((Mod.refl _ w).setCell (by simp) _ _).setCell (by simp) _ _
      refine hK _ ⟨s, hq0.turn (by rfl) rfl (by simp; omega) m1 fun mb' hmb => ?_⟩ m1
      simp [heap_setCell, hmb, ho]
  · simp [ho] at hK
    simp [go_sem]
    exact hK _ h0 (Mod.refl _ _)

def putL (L : List (Pl × Sec)) (ws : List (Pl × Sec)) : List (Pl × Sec) := ws.foldl (fun L p => put L p.1 p.2) L
theorem putL_take (L : List (Pl × Sec)) (ws : List (Pl × Sec)) (i : Nat) (h : i < ws.length) : putL L (ws.take (i + 1)) = put (putL L (ws.take i)) ws[i].1 ws[i].2 := by
  rw [List.take_succ_eq_append_getElem h]
  simp only [putL, List.foldl_append, List.foldl_cons, List.foldl_nil]
def DM.sync (D : DM) : Int × DM :=
  if D.off then (180, D) else if D.step.1 then (0, { D.step.2 with lasts := putL D.step.2.lasts D.step.2.waits, waits := [] }) else (180, D.step.2)

theorem DM.step_waits (D : DM) : D.step.2.waits = D.waits := by
  unfold DM.step
  split
  · rfl
  · split <;> rfl
theorem DM.step_lasts (D : DM) : D.step.2.lasts = D.lasts := by
  unfold DM.step
  split
  · rfl
  · split <;> rfl

theorem pT1 : isAggT Try.prog 116 = true := by kernel_rfl
theorem pT2 : Try.prog.cellsOf 116 = 129 + 1 := by kernel_rfl
theorem pT3 : hasZero Try.prog 116 = true := by kernel_rfl
theorem pT4 : (zeroC Try.prog 116).length = 129 + 1 := by kernel_rfl

set_option maxRecDepth 10000 in
theorem ca_sync {w : World} {d : Nat} {F : Nat → Prop} {D : DM} {K : Kont} (h : DiskR w d F D) (hn : D.waits.length < 9223372036854775807)
    (hK : ∀ w' F', DiskR w' d F' D.sync.2 → Stp F w w' F' → K (.int .i64 D.sync.1) w') : Ca Try.prog 16 #[dptr d] w K := by
  have h0 := h
  apply ca16
  unfold F16
  refine ca_ready h0 ?_
  unfold DM.sync at hK
  cases ho : D.off
  · simp [ho] at hK
    simp [go_sem]
    obtain ⟨s, hq⟩ := h
    refine ca_step hq fun w1 hq1 m1 z1 => ?_
    cases hs : D.step.1
    · simp [hs] at hK
      simp [go_sem]
      exact hK _ _ ⟨s, hq1⟩ ⟨m1.mono fun b _ e => e ▸ hq.self, fun b hb => .inl hb⟩
    · simp [hs] at hK
      have hq1' := hq1
      obtain ⟨⟨mb, h1, h2, h3, h4, h5, h6, h7⟩, hl, hw, hle, h8⟩ := hq1
      obtain ⟨a, c, rfl, hac⟩ := h3.isSl
      simp [go_sem, dptr, hp_of h1]
      unfold L16_0
      have ewaits : D.step.2.waits = D.waits := D.step_waits
      have elen : D.step.2.waits.length < 9223372036854775807 := by rw [ewaits]; exact hn
      refine loopW (fun s W => ∃ i : Nat, i ≤ D.step.2.waits.length ∧ s = (.int .i64 i, ()) ∧ ∃ F', DiskQ W d F' { D.step.2 with lasts := putL D.step.2.lasts (D.step.2.waits.take i) } (.slice a D.step.2.waits.length c) ∧ Stp F w1 W F')
        (fun s _ => match s.1 with | .int _ i => D.step.2.waits.length - i.toNat | _ => 0) ⟨0, by omega, rfl, F, by simpa [putL] using hq1', Stp.refl _ _⟩ ?_
      rintro ⟨_, _⟩ W ⟨i, hi, ⟨⟩, F', hQ, hS⟩ _
      simp [go_sem]
      split
      · rename_i hlt
        have hO : Own W 116 130 (.slice a D.step.2.waits.length c) D.step.2.waits.length (D.step.2.waits.flatMap cellsPut) := hQ.sl
        have hlt' : i < D.step.2.waits.length := by omega
        have hE := Own.elem hO hlt'
        obtain ⟨b, hE⟩ := hE
        obtain ⟨cap, hE⟩ := hE
        have hsl := hE.1
        have hAt := hE.2
        obtain ⟨rfl, -, rfl⟩ : a = some ⟨b, 0, none⟩ ∧ True ∧ c = cap := by injection hsl with e1 e2 e3; exact ⟨e1, trivial, e3⟩
        rw [flat_get cellsPut 130 _ _ (fun x hx => cellsPut_length (hw x hx).1) hlt] at hAt
        simp [go_sem, hlt]
        have hcl : (cellsPut D.step.2.waits[i]).length = 129 + 1 := cellsPut_length (hw _ (List.getElem_mem _)).1
        refine rx_bigS _ 129 pT1 pT2 hcl hAt ?_
        refine rx_bigVar 129 pT3 pT2 hcl pT4 (cellsPut_one _) ?_
        refine rx_bigS (cellsPut D.step.2.waits[i]) 129 pT1 pT2 hcl ⟨_, _, _, by rw [heap_alloc, if_pos rfl], by simp, by simp⟩ ?_
        have mA : Mod (fun _ => False) W (W.alloc (.cells (cellsPut D.step.2.waits[i]).toArray 116)) := (Mod.refl _ W).alloc _
        refine ca_last (p := D.step.2.waits[i]) (hQ.mod mA fun _ _ h => h) (hw _ (List.getElem_mem _)).1 fun w2 F2 q2 s2 => ?_
        have hwr : IntKind.i64.wrap ((i : Int) + 1) = ((i + 1 : Nat) : Int) := by rw [IntKind.wrap_i64]; omega
        refine ⟨⟨i + 1, hlt, hwr, F2, ?_, hS.trans (Stp.trans ⟨mA.mono fun _ _ h => h.elim, fun b hb => .inl hb⟩ s2)⟩, by rw [hwr]; omega⟩
        rw [putL_take _ _ _ hlt']
        exact q2
      · rename_i hlt
        have hi' : i = D.step.2.waits.length := by omega
        subst hi'
        rw [List.take_length] at hQ
        have hQ0 := hQ
        obtain ⟨⟨mb', g1, g2, g3, g4, g5, g6, g7⟩, gl, gw, gle, gn⟩ := hQ
        simp [go_sem, hp_of g1]
        have m2 : Mod (fun b => b = d) W (W.setCell ⟨d, 1, none⟩ (.slice none 0 0)) := (Mod.refl _ W).setCell (by simp) _ _
        have hSt : Stp F w W F' := Stp.trans (F1 := F) ⟨m1.mono fun b _ e => e ▸ hq.self, fun b hb => .inl hb⟩ hS
        refine hK _ (fun b => b = d ∨ mb' = some b) ⟨.slice none 0 0, ⟨mb', by show hp _ _ = _; simp [go_sem, hp_of g1], ?_, Own.nil .., fun b => by simp [inSl, slBlk], g5, by simp [inSl, slBlk], by simp [inSl, slBlk]⟩, gl, by simp, gle, fun _ => rfl⟩
          (hSt.trans ⟨m2.mono fun b _ e => e ▸ hQ0.self, fun b hb => .inl ((g4 b).2 (hb.imp id .inl))⟩)
        rcases g2 with ⟨g2, g2'⟩ | ⟨b, g2, g2'⟩
        · exact .inl ⟨g2, g2'⟩
        · exact .inr ⟨b, g2, g2'.mod m2 (fun e => g5 (by cases g2; rw [e]))⟩
  · simp [ho] at hK
    simp [go_sem]
    exact hK _ _ h0 (Stp.refl _ _)
end Go.Proofs

namespace Go.Proofs
open Go Go.Vc

/-- Noughts. -/
def zsec : Sec := List.replicate 128 0
theorem zsec_length : zsec.length = 128 := by simp [zsec]
/-- A torn sector's bytes. -/
def tornSec (t : List UInt8) : Sec := t.take 128 ++ List.replicate (128 - t.length) 0
theorem tornSec_length (t : List UInt8) : (tornSec t).length = 128 := by simp [tornSec]; omega
def DM.crash (D : DM) (keep : Nat) (torn : List UInt8) : DM :=
  { D with
    lasts := match D.waits[keep]? with
      | some p => if torn = [] then putL D.lasts (D.waits.take keep) else put (putL D.lasts (D.waits.take keep)) p.1 (tornSec torn)
      | none => putL D.lasts (D.waits.take keep)
    waits := [], armed := false, off := false }

theorem torn_lay (x y : Int) (t : List UInt8) : lay (cellsPut ((x, y), zsec)) 2 ((bv t).take (Nat.min t.length 128)) = cellsPut ((x, y), tornSec t) := by
  have e : (bv t).take (Nat.min t.length 128) = bv (t.take 128) := by
    rw [bv_take, show Nat.min t.length 128 = min t.length 128 from rfl]
    by_cases h : t.length ≤ 128
    · rw [Nat.min_eq_left h, List.take_of_length_le (Nat.le_refl _), List.take_of_length_le h]
    · rw [Nat.min_eq_right (by omega)]
  rw [e]
  simp only [lay, cellsPut, tornSec, bv_append, bv_length, List.length_take]
  simp only [List.take_succ_cons, List.take_zero, List.cons_append, List.nil_append, show 2 + min 128 t.length = (min 128 t.length + 1) + 1 by omega, List.drop_succ_cons, bv_drop]
  have e2 : zsec.drop (min 128 t.length) = List.replicate (128 - t.length) 0 := by
    unfold zsec
    rw [List.drop_replicate]
    congr 1
    omega
  rw [e2]
theorem builtPut (x y : Int) : Try.prog.built 116 [(0, .agg #[.int .i64 x, .int .i64 y])] = some (cellsPut ((x, y), zsec)).toArray := by kernel_rfl
set_option maxRecDepth 10000 in
theorem ca_crash {w : World} {d : Nat} {F : Nat → Prop} {D : DM} {K : Kont} {keep : Nat} {t : Value} {torn : List UInt8} {m : Nat} (h : DiskR w d F D) (hn : D.waits.length < 9223372036854775807) (hk : keep < 9223372036854775808)
    (ht : Rd w 1 t m (bv torn)) (htF : ∀ b, inRd t b → ¬ F b ∧ b < w.heap.size)
    (hK : ∀ w' F', DiskR w' d F' (D.crash keep torn) → Stp F w w' F' → K (.int .i64 0) w') : Ca Try.prog 19 #[dptr d, .int .i64 keep, t] w K := by
  have h0 := h
  apply ca19
  unfold F19
  obtain ⟨s, hq⟩ := h
  have hq1' := hq
  obtain ⟨⟨mb, h1, h2, h3, h4, h5, h6, h7⟩, hl, hw, hle, h8⟩ := hq
  obtain ⟨a, c, rfl, hac⟩ := h3.isSl
  have hk0 : ¬ ((keep : Int) < 0) := by omega
  have hmin : (if D.waits.length < keep then (D.waits.length : Int) else keep) = ((min keep D.waits.length : Nat) : Int) := by split <;> omega
  have hNl : min keep D.waits.length ≤ D.waits.length := by omega
  have hNk : min keep D.waits.length ≤ keep := by omega
  have hN3 : keep < D.waits.length → min keep D.waits.length = keep := by omega
  have hN4 : ¬ keep < D.waits.length → min keep D.waits.length = D.waits.length := by omega
  generalize min keep D.waits.length = N at hmin hNl hNk hN3 hN4
  have hNc : N ≤ c := by omega
  simp [go_sem, dptr, hp_of h1, hk0, hmin, hNc]
  unfold L19_0
  refine loopW (fun s W => ∃ i : Nat, i ≤ N ∧ s = (.int .i64 i, ()) ∧ ∃ F', DiskQ W d F' { D with lasts := putL D.lasts (D.waits.take i) } (.slice a D.waits.length c) ∧ Stp F w W F')
    (fun s _ => match s.1 with | .int _ i => N - i.toNat | _ => 0) ⟨0, by omega, rfl, F, by simpa [putL] using hq1', Stp.refl _ _⟩ ?_
  rintro ⟨_, _⟩ W ⟨i, hi, ⟨⟩, F', hQ, hS⟩ _
  simp [go_sem]
  split
  · rename_i hlt
    have hO : Own W 116 130 (.slice a D.waits.length c) D.waits.length (D.waits.flatMap cellsPut) := hQ.sl
    have hlt' : i < D.waits.length := by omega
    obtain ⟨b, cap, hsl, hAt⟩ := Own.elem hO hlt'
    obtain ⟨rfl, -, rfl⟩ : a = some ⟨b, 0, none⟩ ∧ True ∧ c = cap := by injection hsl with e1 e2 e3; exact ⟨e1, trivial, e3⟩
    rw [flat_get cellsPut 130 _ _ (fun x hx => cellsPut_length (hw x hx).1) hlt'] at hAt
    simp [go_sem, hlt]
    have hcl : (cellsPut D.waits[i]).length = 129 + 1 := cellsPut_length (hw _ (List.getElem_mem _)).1
    refine rx_bigS _ 129 pT1 pT2 hcl hAt ?_
    refine rx_bigVar 129 pT3 pT2 hcl pT4 (cellsPut_one _) ?_
    refine rx_bigS (cellsPut D.waits[i]) 129 pT1 pT2 hcl ⟨_, _, _, by rw [heap_alloc, if_pos rfl], by simp, by simp⟩ ?_
    have mA : Mod (fun _ => False) W (W.alloc (.cells (cellsPut D.waits[i]).toArray 116)) := (Mod.refl _ W).alloc _
    refine ca_last (p := D.waits[i]) (hQ.mod mA fun _ _ h => h) (hw _ (List.getElem_mem _)).1 fun w2 F2 q2 s2 => ?_
    have hwr : IntKind.i64.wrap ((i : Int) + 1) = ((i + 1 : Nat) : Int) := by rw [IntKind.wrap_i64]; omega
    refine ⟨⟨i + 1, hlt, hwr, F2, ?_, hS.trans (Stp.trans ⟨mA.mono fun _ _ h => h.elim, fun b hb => .inl hb⟩ s2)⟩, by rw [hwr]; omega⟩
    rw [putL_take _ _ _ hlt']
    exact q2
  · rename_i hlt
    have hi' : i = N := by omega
    subst hi'
    have fin : ∀ (L : List (Pl × Sec)) (F2 : Nat → Prop) (W2 : World), L = (D.crash keep torn).lasts → DiskQ W2 d F2 { D with lasts := L } (.slice a D.waits.length c) → Stp F w W2 F2 →
        ∀ w9, Mod (fun b => b = d) W2 w9 → (∀ mb', hp W2 d = some (.cells #[.map mb', .slice a D.waits.length c, .int .i64 D.left, .bool D.armed, .bool D.off] 55 (0, 0)) → hp w9 d = some (.cells #[.map mb', .slice none 0 0, .int .i64 D.left, .bool false, .bool false] 55 (0, 0))) → K (.int .i64 0) w9 := by
      intro L F2 W2 hL hQ2 hS2 w9 m9 h9
      have hQ0 := hQ2
      obtain ⟨⟨mb', g1, g2, g3, g4, g5, g6, g7⟩, gl, gw, gle, gn⟩ := hQ2
      refine hK w9 (fun b => b = d ∨ mb' = some b) ⟨.slice none 0 0, ⟨mb', h9 mb' g1, ?_, Own.nil .., fun b => by simp [inSl, slBlk], g5, by simp [inSl, slBlk], by simp [inSl, slBlk]⟩, ?_, by simp [DM.crash], by simp [DM.crash], fun _ => rfl⟩
        (hS2.trans ⟨m9.mono fun b _ e => e ▸ hQ0.self, fun b hb => .inl ((g4 b).2 (hb.imp id .inl))⟩)
      · rw [← hL]
        rcases g2 with ⟨g2, g2'⟩ | ⟨b, g2, g2'⟩
        · exact .inl ⟨g2, g2'⟩
        · exact .inr ⟨b, g2, g2'.mod m9 (fun e => g5 (by cases g2; rw [e]))⟩
      · rw [← hL]; exact gl
    obtain ⟨mb', g1, g2, g3, g4, g5, g6, g7⟩ := hQ.out
    have ml : m = torn.length := by simpa using ht.1.symm
    have htl : ∃ tb tc, t = .slice tb m tc := by
      exact ht.isSl
    obtain ⟨tb, tc, rfl⟩ := htl
    have g1' : hp W d = some (.cells #[.map mb', .slice a D.waits.length c, .int .i64 D.left, .bool D.armed, .bool D.off] 55 (0, 0)) := g1
    by_cases hlw : i < D.waits.length
    · have hik : i = keep := by omega
      by_cases hm0 : 0 < m
      · have hO : Own W 116 130 (.slice a D.waits.length c) D.waits.length (D.waits.flatMap cellsPut) := hQ.sl
        obtain ⟨b, cap, hsl, hAt⟩ := Own.elem hO hlw
        obtain ⟨rfl, -, rfl⟩ : a = some ⟨b, 0, none⟩ ∧ True ∧ c = cap := by injection hsl with e1 e2 e3; exact ⟨e1, trivial, e3⟩
        rw [flat_get cellsPut 130 _ _ (fun x hx => cellsPut_length (hw x hx).1) hlw] at hAt
        obtain ⟨C, e, fz, hC, hCg⟩ := hAt.get
        have hC0 : C[i * 130]? = some (.int .i64 D.waits[i].1.1) := hCg 0 _ rfl
        have hC1 : C[i * 130 + 1]? = some (.int .i64 D.waits[i].1.2) := hCg 1 _ rfl
        simp [go_sem, g1', hlw, hm0, hC, hC0, hC1]
        refine rx_bigB (builtPut _ _) ?_
        refine rx_bigVar 129 pT3 pT2 (cellsPut_length zsec_length) pT4 (cellsPut_one _) ?_
        simp [go_sem]
        have mA : Mod (fun _ => False) W (W.alloc (.cells (cellsPut ((D.waits[i].1.1, D.waits[i].1.2), zsec)).toArray 116)) := (Mod.refl _ W).alloc _
        generalize hWA : W.alloc (.cells (cellsPut ((D.waits[i].1.1, D.waits[i].1.2), zsec)).toArray 116) = WA at mA
        have hA1 : WA.heap[W.heap.size]? = some (.cells (cellsPut ((D.waits[i].1.1, D.waits[i].1.2), zsec)).toArray 116 (0, 0)) := by subst hWA; rw [heap_alloc, if_pos rfl]
        have htW : Rd WA 1 (.slice tb m tc) m (bv torn) := (ht.mod hS.mod fun b hb => (htF b hb).1).mod mA fun _ _ h => h
        refine rx_copy (k := Nat.min torn.length 128) Try.underlying23 (by kernel_rfl) hA1 htW (by rw [ml]) rfl ?_ (bv_one _) ?_
        · rw [List.size_toArray, cellsPut_length (p := (_, zsec)) zsec_length]
          have : Nat.min torn.length 128 ≤ 128 := Nat.min_le_right _ _
          omega
        rw [show (cellsPut ((D.waits[i].1.1, D.waits[i].1.2), zsec)).toArray.toList = cellsPut ((D.waits[i].1.1, D.waits[i].1.2), zsec) from rfl, torn_lay]
        generalize hWB : WA.setRow W.heap.size (cellsPut ((D.waits[i].1.1, D.waits[i].1.2), tornSec torn)).toArray = WB
        have mB : Mod (fun _ => False) W WB := by subst hWB; exact mA.setRow (.inr (Nat.le_refl _)) _
        have hB1 : WB.heap[W.heap.size]? = some (.cells (cellsPut ((D.waits[i].1.1, D.waits[i].1.2), tornSec torn)).toArray 116 (0, 0)) := by subst hWB; rw [heap_setRow, if_pos rfl, hA1]
        refine rx_bigS (cellsPut ((D.waits[i].1.1, D.waits[i].1.2), tornSec torn)) 129 pT1 pT2 (cellsPut_length (tornSec_length _)) ⟨_, _, _, hB1, by simp, by simp⟩ ?_
        refine ca_last (p := (D.waits[i].1, tornSec torn)) (hQ.mod mB fun _ _ h => h) (tornSec_length _) fun w2 F2 q2 s2 => ?_
        obtain ⟨mb2, k1, -⟩ := q2.out
        have k1' : hp w2 d = some (.cells #[.map mb2, .slice (some ⟨b, 0, none⟩) D.waits.length c, .int .i64 D.left, .bool D.armed, .bool D.off] 55 (0, 0)) := k1
        simp [go_sem, k1']
        refine fin _ F2 w2 ?_ q2 (hS.trans (Stp.trans ⟨mB.mono fun _ _ h => h.elim, fun b hb => .inl hb⟩ s2)) _ ((((Mod.refl _ w2).setCell (by simp) _ _).setCell (by simp) _ _).setCell (by simp) _ _) fun mb9 h9 => by simp [go_sem, h9]
        have hwk : D.waits[keep]? = some D.waits[i] := by rw [← hik]; exact List.getElem?_eq_getElem hlw
        have htn : torn ≠ [] := fun e => by rw [e] at ml; simp at ml; omega
        simp [DM.crash, hwk, htn, hik]
      · simp [go_sem, g1', hlw, hm0]
        have htn : torn = [] := by
          have : torn.length = 0 := by omega
          simpa using this
        refine fin _ F' W ?_ hQ hS _ ((((Mod.refl _ W).setCell (by simp) _ _).setCell (by simp) _ _).setCell (by simp) _ _) fun mb9 h9 => by simp [go_sem, h9]
        have hwk : D.waits[keep]? = some D.waits[i] := by rw [← hik]; exact List.getElem?_eq_getElem hlw
        simp [DM.crash, hwk, htn, hik]
    · simp [go_sem, g1', hlw]
      refine fin _ F' W ?_ hQ hS _ ((((Mod.refl _ W).setCell (by simp) _ _).setCell (by simp) _ _).setCell (by simp) _ _) fun mb9 h9 => by simp [go_sem, h9]
      have hwk : D.waits[keep]? = none := List.getElem?_eq_none (by omega)
      simp only [DM.crash, hwk]
      rw [List.take_of_length_le (by omega), List.take_of_length_le (by omega)]
end Go.Proofs

namespace Go.Proofs
open Go Go.Vc

def DM.secAt (D : DM) (f a : Int) : Sec := (lk (putL D.lasts D.waits) (f, a)).getD zsec
def DM.readB (D : DM) (f a : Int) (n : Nat) : List UInt8 := (List.range n).flatMap fun j : Nat => D.secAt f (a + (j : Int))

theorem sT1 : isAggT Try.prog 114 = true := by kernel_rfl
theorem sT2 : Try.prog.cellsOf 114 = 127 + 1 := by kernel_rfl
theorem sT3 : hasZero Try.prog 114 = true := by kernel_rfl
theorem sT4 : (zeroC Try.prog 114).length = 127 + 1 := by kernel_rfl
theorem sT5 : zeroOfT Try.prog 114 = some (encS zsec) := by kernel_rfl
theorem uT1 : elemOk Try.prog 5 1 1 = true := by kernel_rfl
theorem uT2 : zeroOfT Try.prog 5 = some (.int .u8 0) := by kernel_rfl

/-- A sector laid into a row of sectors. -/
theorem lay_flat : ∀ (l : List Sec) (i : Nat) (s : Sec) (hl : ∀ x ∈ l, x.length = 128) (hs : s.length = 128) (hi : i < l.length), lay (bv l.flatten) (i * 128) (bv s) = bv (l.set i s).flatten
  | x :: l, 0, s, hl, hs, hi => by
    have hx := hl x (by simp)
    simp [lay, hs, List.drop_append_of_le_length, hx, bv_drop]
  | x :: l, i + 1, s, hl, hs, hi => by
    have hx := hl x (by simp)
    have e : (i + 1) * 128 = (bv x).length + i * 128 := by simp [hx]; omega
    have ih := lay_flat l i s (fun y hy => hl y (by simp [hy])) hs (by simpa using hi)
    simp only [lay] at ih ⊢
    simp only [List.flatten_cons, bv_append, List.set_cons_succ, ← ih]
    rw [e, List.take_length_add_append, Nat.add_assoc, List.drop_length_add_append]
    simp

def secs1 (D : DM) (f a : Int) (N i : Nat) : List Sec := (List.range N).map fun j : Nat => if j < i then (lk D.lasts (f, a + (j : Int))).getD zsec else zsec
def secs2 (D : DM) (f a : Int) (N i : Nat) : List Sec := (List.range N).map fun j : Nat => (lk (putL D.lasts (D.waits.take i)) (f, a + (j : Int))).getD zsec
theorem secs1_succ (D : DM) (f a : Int) (N i : Nat) : secs1 D f a N (i + 1) = (secs1 D f a N i).set i ((lk D.lasts (f, a + (i : Int))).getD zsec) := by
  apply List.ext_getElem
  · simp [secs1]
  · intro j h1 h2
    simp only [secs1, List.length_map, List.length_range] at h1
    simp only [secs1, List.getElem_map, List.getElem_range, List.getElem_set]
    by_cases h : i = j
    · subst h; simp
    · rw [if_neg h]
      by_cases h3 : j < i
      · rw [if_pos h3, if_pos (by omega)]
      · rw [if_neg h3, if_neg (by omega)]
theorem secs1_end (D : DM) (f a : Int) (N : Nat) : secs1 D f a N N = secs2 D f a N 0 := by
  apply List.map_congr_left
  intro j hj
  rw [if_pos (List.mem_range.1 hj)]
  simp [putL]
theorem secs2_yes (D : DM) (f a : Int) (N i : Nat) (hi : i < D.waits.length) (h1 : D.waits[i].1.1 = f) (h2 : a ≤ D.waits[i].1.2) (h3 : D.waits[i].1.2 - a < N) :
    secs2 D f a N (i + 1) = (secs2 D f a N i).set (D.waits[i].1.2 - a).toNat D.waits[i].2 := by
  apply List.ext_getElem
  · simp [secs2]
  · intro j hj1 hj2
    simp only [secs2, List.length_map, List.length_range] at hj1
    simp only [secs2, List.getElem_map, List.getElem_range, List.getElem_set, putL_take _ _ _ hi, lk_put]
    by_cases h : (D.waits[i].1.2 - a).toNat = j
    · rw [if_pos h, if_pos (by subst h; ext <;> simp [h1]; omega)]
      rfl
    · rw [if_neg h, if_neg (fun e => h (by rw [e]; simp only; omega))]
theorem secs2_no (D : DM) (f a : Int) (N i : Nat) (hi : i < D.waits.length) (h : ¬ (D.waits[i].1.1 = f ∧ a ≤ D.waits[i].1.2 ∧ D.waits[i].1.2 - a < N)) :
    secs2 D f a N (i + 1) = secs2 D f a N i := by
  apply List.map_congr_left
  intro j hj
  have hj' := List.mem_range.1 hj
  rw [putL_take _ _ _ hi, lk_put, if_neg (fun e => h (by rw [e]; simp; omega))]
theorem secs_end (D : DM) (f a : Int) (N : Nat) : (secs2 D f a N D.waits.length).flatten = D.readB f a N := by
  simp [secs2, DM.readB, DM.secAt, List.flatMap]
theorem lk_sec {L : List (Pl × Sec)} (h : ∀ p ∈ L, p.2.length = 128) (k : Pl) : ((lk L k).getD zsec).length = 128 := by
  cases hl : lk L k with
  | none => exact zsec_length
  | some v => exact h _ (lk_mem hl)
theorem putL_len {L ws : List (Pl × Sec)} (h : ∀ p ∈ L, p.2.length = 128) (hw : ∀ p ∈ ws, p.2.length = 128) : ∀ p ∈ putL L ws, p.2.length = 128 := by
  induction ws generalizing L with
  | nil => exact h
  | cons q r ih =>
    refine ih (L := put L q.1 q.2) (fun p hp => ?_) fun p hp => hw p (by simp [hp])
    rcases mem_put hp with rfl | hp
    · exact hw q (by simp)
    · exact h p hp
theorem secs1_len {D : DM} (h : ∀ p ∈ D.lasts, p.2.length = 128) (f a : Int) (N i : Nat) : ∀ x ∈ secs1 D f a N i, x.length = 128 := by
  intro x hx
  obtain ⟨j, _, rfl⟩ := List.mem_map.1 hx
  split
  · exact lk_sec h _
  · exact zsec_length
theorem secs2_len {D : DM} (h : ∀ p ∈ D.lasts, p.2.length = 128) (hw : ∀ p ∈ D.waits, p.2.length = 128) (f a : Int) (N i : Nat) : ∀ x ∈ secs2 D f a N i, x.length = 128 := by
  intro x hx
  obtain ⟨j, _, rfl⟩ := List.mem_map.1 hx
  exact lk_sec (putL_len h fun p hp => hw p (List.mem_of_mem_take hp)) _
theorem flat128 : ∀ {l : List Sec}, (∀ x ∈ l, x.length = 128) → l.flatten.length = l.length * 128
  | [], _ => rfl
  | x :: l, h => by simp [h x (by simp), flat128 fun y hy => h y (List.mem_cons_of_mem _ hy)]; omega

set_option maxRecDepth 10000 in
theorem ca_read {w : World} {d : Nat} {F : Nat → Prop} {D : DM} {K : Kont} {f a n : Int} (h : DiskR w d F D) (hn : D.waits.length < 9223372036854775807)
    (hK1 : D.off = true → K (.tuple #[.slice none 0 0, .int .i64 180]) w)
    (hK2 : D.off = false → mayB f a n = false → K (.tuple #[.slice none 0 0, .int .i64 2]) w)
    (hK3 : D.off = false → mayB f a n = true → ∀ w' v, Own w' 5 1 v (n.toNat * 128) (bv (D.readB f a n.toNat)) → Mod (fun _ => False) w w' → (∀ b, inSl v b → w.heap.size ≤ b) → K (.tuple #[v, .int .i64 0]) w') :
    Ca Try.prog 20 #[dptr d, .int .i64 f, .int .i64 a, .int .i64 n] w K := by
  have h0 := h
  apply ca20
  unfold F20
  refine ca_ready h0 ?_
  cases ho : D.off
  · simp [go_sem]
    refine ca_may ?_
    cases hm : mayB f a n
    · simp [go_sem]
      exact hK2 ho hm
    · simp [go_sem]
      have hmay := hm
      simp only [mayB, decide_eq_true_eq] at hmay
      obtain ⟨c1, c2, c3, c4, c5, c6⟩ := hmay
      obtain ⟨N, rfl⟩ : ∃ N : Nat, n = N := ⟨n.toNat, by omega⟩
      have hwr : IntKind.i64.wrap ((N : Int) * 128) = (N : Int) * 128 := by rw [IntKind.wrap_i64]; omega
      rw [hwr]
      refine rx_make Try.underlying23 (elemT_of uT1) (by omega) (by omega) (by omega) uT2 ?_
      have e1 : ((N : Int) * 128).toNat = N * 128 := by omega
      rw [e1]
      obtain ⟨s, hq⟩ := h
      have hlL := hq.lasts
      have hlW := fun p hp => (hq.waits p hp).1
      unfold L20_1
      refine loopW (fun s W => ∃ i : Nat, i ≤ N ∧ s = (.int .i64 i, ()) ∧ Mod (fun _ => False) w W ∧ hp W w.heap.size = some (.cells (bv (secs1 D f a N i).flatten).toArray 5 (0, 0)))
        (fun s _ => match s.1 with | .int _ i => N - i.toNat | _ => 0) ⟨0, by omega, rfl, (Mod.refl _ w).alloc _, ?_⟩ ?_
      · have e2 : secs1 D f a N 0 = List.replicate N zsec := by
          unfold secs1
          rw [show (fun j : Nat => if j < 0 then (lk D.lasts (f, a + (j : Int))).getD zsec else zsec) = fun _ => zsec from funext fun j => if_neg (Nat.not_lt_zero j), List.map_const', List.length_range]
        have e3 : (bv (secs1 D f a N 0).flatten).toArray = madeCells (Value.int .u8 0).cells (N * 128 * 1) := by
          apply Array.ext'
          rw [show (Value.int .u8 0).cells = #[.int .u8 0] from rfl, toList_madeCells_one, e2]
          unfold zsec
          rw [List.flatten_replicate_replicate, bv_replicate, Nat.mul_one]
          rfl
        rw [e3]
        simp [go_sem]
      rintro ⟨_, _⟩ W ⟨i, hi, ⟨⟩, mW, hW⟩ _
      obtain ⟨mb, g1, g2, g3, g4, g5, g6, g7⟩ := (hq.mod mW fun _ _ h => h).out
      have hw3 : IntKind.i64.wrap ((i : Int) + 1) = ((i + 1 : Nat) : Int) := by rw [IntKind.wrap_i64]; omega
      by_cases hlt : i < N
      · have hw1 : IntKind.i64.wrap (a + (i : Int)) = a + i := by rw [IntKind.wrap_i64]; omega
        have hw2 : IntKind.i64.wrap ((i : Int) * 128) = ((i * 128 : Nat) : Int) := by rw [IntKind.wrap_i64]; omega
        have hle : ((i * 128 : Nat) : Int) ≤ (N : Int) * 128 := by omega
        have hle1 : i * 128 ≤ N * 128 := by omega
        have hle0 : (0 : Int) ≤ ((i * 128 : Nat) : Int) := by omega
        have hne : ¬ N * 128 = i * 128 := by omega
        have htn : ((i * 128 : Nat) : Int).toNat = i * 128 := by omega
        simp only [go_sem]
        simp [-Int.natCast_mul, go_sem, dptr, hp_of g1, hlt, hw1, hw2, hw3, hle, hle1, hle0, hne, htn]
        refine rx_look (enc := encP) (ev := encS) (L := D.lasts) (x := (f, a + i)) (encS zsec) uMap kPlace sT5 g2 ?_
        have hv : (lk D.lasts (f, a + (i : Int))).elim (encS zsec) encS = encS ((lk D.lasts (f, a + (i : Int))).getD zsec) := by
          cases lk D.lasts (f, a + (i : Int)) <;> rfl
        rw [hv]
        have hvl := lk_sec hlL (f, a + (i : Int))
        generalize hSS : (lk D.lasts (f, a + (i : Int))).getD zsec = S at hvl
        refine rx_bigVar (cs := bv S) 127 sT3 sT2 (by simp [hvl]) sT4 (bv_one _) ?_
        simp [go_sem]
        have hlw : w.heap.size < W.heap.size := lt_of_heap hW
        have mA : Mod (fun _ => False) W (W.alloc (.cells (bv S).toArray 114)).drew := ((Mod.refl _ W).alloc _).drew
        have hA1 : hp (W.alloc (.cells (bv S).toArray 114)).drew W.heap.size = some (.cells (bv S).toArray 114 (0, 0)) := by simp [go_sem]
        generalize (W.alloc (.cells (bv S).toArray 114)).drew = WA at mA hA1
        have hk : 128 = Nat.min 128 (N * 128 - i * 128) := by rw [show Nat.min 128 (N * 128 - i * 128) = min 128 (N * 128 - i * 128) from rfl]; omega
        have hl1 : (secs1 D f a N i).length = N := by simp [secs1]
        have hlen : (bv (secs1 D f a N i).flatten).length = N * 128 := by rw [bv_length, flat128 (secs1_len hlL f a N i), hl1]
        refine rx_copy (all := bv S) (k := 128) Try.underlying23 (by kernel_rfl) (mA.keep hW id) ⟨by simp [hvl], .inr ⟨_, _, _, rfl, Nat.le_refl _, ⟨_, _, _, hA1, by simp [hvl], by simp; exact List.take_of_length_le (by simp)⟩⟩⟩ hk rfl ?_ (bv_one _) ?_
        · rw [List.size_toArray, hlen]; omega
        have el : lay (bv (secs1 D f a N i).flatten).toArray.toList (i * 128) ((bv S).take 128) = bv (secs1 D f a N (i + 1)).flatten := by
          rw [show (bv (secs1 D f a N i).flatten).toArray.toList = bv (secs1 D f a N i).flatten from rfl, List.take_of_length_le (by simp [hvl]), lay_flat _ _ _ (secs1_len hlL f a N i) hvl (by rw [hl1]; exact hlt), secs1_succ, hSS]
        rw [el]
        have hW' : hp WA w.heap.size = some (.cells (bv (secs1 D f a N i).flatten).toArray 5 (0, 0)) := mA.keep hW id
        exact ⟨⟨i + 1, hlt, by omega, (mW.trans mA).setRow (.inr (Nat.le_refl _)) _, by simp [go_sem, hW']⟩, by omega⟩
      · obtain rfl : i = N := by omega
        obtain ⟨sa, sc, rfl, hsc⟩ := g3.isSl
        simp [go_sem, dptr, hp_of g1, hlt]
        rw [secs1_end] at hW
        unfold L20_0
        refine loopW (fun s W => ∃ j : Nat, j ≤ D.waits.length ∧ s = (.int .i64 j, ()) ∧ Mod (fun _ => False) w W ∧ hp W w.heap.size = some (.cells (bv (secs2 D f a i j).flatten).toArray 5 (0, 0)))
          (fun s _ => match s.1 with | .int _ j => D.waits.length - j.toNat | _ => 0) ⟨0, by omega, rfl, mW, hW⟩ ?_
        clear hW g1 g2 g3 g4 g5 g6 g7 hw3 hlt mW
        rintro ⟨_, _⟩ W ⟨j, hj, ⟨⟩, mW, hW⟩ _
        have hw3 : IntKind.i64.wrap ((j : Int) + 1) = ((j + 1 : Nat) : Int) := by rw [IntKind.wrap_i64]; omega
        by_cases hlt : j < D.waits.length
        · have hO := (hq.mod mW fun _ _ h => h).sl
          obtain ⟨b, cap, hsl, hAt⟩ := Own.elem hO hlt
          obtain ⟨rfl, -, rfl⟩ : sa = some ⟨b, 0, none⟩ ∧ True ∧ sc = cap := by injection hsl with e1 e2 e3; exact ⟨e1, trivial, e3⟩
          rw [flat_get cellsPut 130 _ _ (fun x hx => cellsPut_length (hlW x hx)) hlt] at hAt
          obtain ⟨q1, q2, q3⟩ := hq.waits _ (List.getElem_mem hlt)
          have hcl : (cellsPut D.waits[j]).length = 129 + 1 := cellsPut_length q1
          simp [go_sem, hlt]
          refine rx_bigS _ 129 pT1 pT2 hcl hAt ?_
          refine rx_bigVar 129 pT3 pT2 hcl pT4 (cellsPut_one _) ?_
          have mA : Mod (fun _ => False) W (W.alloc (.cells (cellsPut D.waits[j]).toArray 116)) := (Mod.refl _ W).alloc _
          have hA1 : hp (W.alloc (.cells (cellsPut D.waits[j]).toArray 116)) W.heap.size = some (.cells (cellsPut D.waits[j]).toArray 116 (0, 0)) := by simp [go_sem]
          generalize (W.alloc (.cells (cellsPut D.waits[j]).toArray 116)) = WA at mA hA1
          have hP0 : (cellsPut D.waits[j]).toArray[0]? = some (.int .i64 D.waits[j].1.1) := rfl
          have hP1 : (cellsPut D.waits[j]).toArray[1]? = some (.int .i64 D.waits[j].1.2) := rfl
          have hP1 : (cellsPut D.waits[j]).toArray[0 + 1]? = some (.int .i64 D.waits[j].1.2) := rfl
          have stay : ¬ (D.waits[j].1.1 = f ∧ a ≤ D.waits[j].1.2 ∧ D.waits[j].1.2 - a < i) → (∃ j_1 : Nat, j_1 ≤ D.waits.length ∧ IntKind.i64.wrap ((j : Int) + 1) = j_1 ∧ Mod (fun _ => False) w WA ∧ hp WA w.heap.size = some (.cells (bv (secs2 D f a i j_1).flatten).toArray 5 (0, 0))) := fun hc =>
            ⟨j + 1, hlt, hw3, mW.trans mA, by rw [secs2_no D f a i j hlt hc]; exact mA.keep hW id⟩
          by_cases k1 : D.waits[j].1.1 = f
          · by_cases k2 : a ≤ D.waits[j].1.2
            · have hwd : IntKind.i64.wrap (D.waits[j].1.2 - a) = D.waits[j].1.2 - a := by rw [IntKind.wrap_i64]; omega
              by_cases k3 : D.waits[j].1.2 - a < i
              · obtain ⟨J, hJ⟩ : ∃ J : Nat, D.waits[j].1.2 - a = J := ⟨(D.waits[j].1.2 - a).toNat, by omega⟩
                have hJi : J < i := by omega
                have hwJ : IntKind.i64.wrap (J : Int) = J := by rw [IntKind.wrap_i64]; omega
                have hw2 : IntKind.i64.wrap ((J : Int) * 128) = ((J * 128 : Nat) : Int) := by rw [IntKind.wrap_i64]; omega
                have hle : ((J * 128 : Nat) : Int) ≤ (i : Int) * 128 := by omega
                have hle1 : J * 128 ≤ i * 128 := by omega
                have hle0 : (0 : Int) ≤ ((J * 128 : Nat) : Int) := by omega
                have hne : ¬ i * 128 = J * 128 := by omega
                have htn : ((J * 128 : Nat) : Int).toNat = J * 128 := by omega
                simp [-Int.natCast_mul, go_sem, hA1, hP0, hP1, k1, k2, hwd, hJ, hJi, hwJ, hw2, hle, hle1, hle0, hne, htn, hw3]
                have hA2 : hp WA.drew W.heap.size = some (.cells (cellsPut D.waits[j]).toArray 116 (0, 0)) := hA1
                have mA2 : Mod (fun _ => False) W WA.drew := mA.drew
                have hk : 128 = Nat.min 128 (i * 128 - J * 128) := by rw [show Nat.min 128 (i * 128 - J * 128) = min 128 (i * 128 - J * 128) from rfl]; omega
                have hl1 : (secs2 D f a i j).length = i := by simp [secs2]
                have hsl2 := secs2_len hlL hlW f a i j
                have hlen : (bv (secs2 D f a i j).flatten).length = i * 128 := by rw [bv_length, flat128 hsl2, hl1]
                have hlwW : w.heap.size < W.heap.size := lt_of_heap hW
                have hW' : hp WA.drew w.heap.size = some (.cells (bv (secs2 D f a i j).flatten).toArray 5 (0, 0)) := mA2.keep hW id
                refine rx_copy (all := bv D.waits[j].2) (k := 128) Try.underlying23 (by kernel_rfl) hW' ⟨by simp [q1], .inr ⟨_, _, _, rfl, Nat.le_refl _, ⟨_, _, _, hA2, by simp [cellsPut, q1], ?_⟩⟩⟩ hk rfl ?_ (bv_one _) ?_
                · show ((cellsPut D.waits[j]).drop 2).take _ = _
                  simp only [cellsPut, List.drop_succ_cons, List.drop_zero]
                  exact List.take_of_length_le (Nat.le_refl _)
                · rw [List.size_toArray, hlen]; omega
                have el : lay (bv (secs2 D f a i j).flatten).toArray.toList (J * 128) ((bv D.waits[j].2).take 128) = bv (secs2 D f a i (j + 1)).flatten := by
                  rw [show (bv (secs2 D f a i j).flatten).toArray.toList = bv (secs2 D f a i j).flatten from rfl, List.take_of_length_le (by simp [q1]), lay_flat _ _ _ hsl2 q1 (by rw [hl1]; exact hJi), secs2_yes D f a i j hlt k1 k2 k3, hJ]
                  rfl
                rw [el]
                exact ⟨⟨j + 1, hlt, by omega, (mW.trans mA2).setRow (.inr (Nat.le_refl _)) _, by simp [go_sem, hW']⟩, by omega⟩
              · simp [go_sem, hA1, hP0, hP1, k1, k2, hwd, k3]
                exact ⟨stay (by simp [k3]), by omega⟩
            · simp [go_sem, hA1, hP0, hP1, k1, k2]
              exact ⟨stay (by simp [k2]), by omega⟩
          · simp [go_sem, hA1, hP0, hP1, k1]
            exact ⟨stay (by simp [k1]), by omega⟩
        · simp [go_sem, hlt]
          have hjw : j = D.waits.length := by omega
          subst hjw
          rw [secs_end] at hW
          have hin : ((i : Int)).toNat = i := by omega
          rw [hin] at hK3
          have hRl : (D.readB f a i).length = i * 128 := by rw [← secs_end, flat128 (secs2_len hlL hlW f a i _)]; simp [secs2]
          exact hK3 ho hm W _ ⟨by simp [hRl], .inr ⟨_, _, [], rfl, Nat.le_refl _, by rw [List.append_nil]; exact hW, by simp, rfl⟩⟩ mW fun b hb => by cases hb; exact Nat.le_refl _
  · simp [go_sem]
    exact hK1 ho
end Go.Proofs

namespace Go.Proofs
open Go Go.Vc

def ptr0 (b : Nat) : Value := .pointer (some ⟨b, 0, none⟩)

theorem ca_chunk {w : World} {K : Kont} {a : Option Addr} {l c : Nat} {n : Int} (hn : 1 ≤ n)
    (hK : ∀ w', Mod (fun _ => False) w w' → hp w' w.heap.size = some (.cells #[.slice a l c] 23 (0, 0)) → hp w' (w.heap.size + 1) = some (.cells #[.int .i64 n] 3 (0, 0)) →
      K (.func (.func 81) #[] #[ptr0 w.heap.size, ptr0 (w.heap.size + 1)]) w') : Ca Try.prog 58 #[.slice a l c, .int .i64 n] w K := by
  apply ca58
  unfold F58
  have h1 : ¬ n < 1 := by omega
  simp [go_sem, h1]
  exact hK _ (((Mod.refl _ w).alloc _).alloc _) (by simp [go_sem]) (by simp [go_sem])

theorem iter_chunk {p1 p2 b off n k cap : Nat} (hn : 1 ≤ n) (hcap : n * k ≤ cap) (hmax : n * k < 9223372036854775807 - n) :
    IterOf Try.prog (.func (.func 81) #[] #[ptr0 p1, ptr0 p2]) ((List.range k).map fun i => [.slice (some ⟨b, off + n * i, none⟩) n n])
      (fun W => hp W p1 = some (.cells #[.slice (some ⟨b, off, none⟩) (n * k) cap] 23 (0, 0)) ∧ hp W p2 = some (.cells #[.int .i64 n] 3 (0, 0))) := by
  refine ⟨_, _, _, rfl, fun y J Js W K hkeep hmod h0 hstep hend => ?_⟩
  show Ca Try.prog 81 #[y, ptr0 p1, ptr0 p2] W K
  apply ca81
  unfold F81 L81_0
  refine loopW (fun s W => ∃ i : Nat, i ≤ k ∧ s = (.int .i64 ((n * i : Nat) : Int), ()) ∧ J i W) (fun s _ => match s.1 with | .int _ i => n * k - i.toNat | _ => 0) ⟨0, by omega, by simp, h0⟩ ?_
  rintro ⟨_, _⟩ W ⟨i, hi, ⟨⟩, hJ⟩ _
  obtain ⟨k1, k2⟩ := hkeep i W hJ
  by_cases hlt : i < k
  · have hlt1 : n * i < n * k := Nat.mul_lt_mul_of_pos_left hlt (by omega)
    have hle2 : n * (i + 1) ≤ n * k := Nat.mul_le_mul_left n hlt
    have e2 : n * (i + 1) = n * i + n := Nat.mul_succ n i
    have hlt3 : ((n * i : Nat) : Int) < ((n * k : Nat) : Int) := by omega
    have hle3 : n * i ≤ n * k := by omega
    have hne : ¬ cap = n * i := by omega
    have hmin : ¬ n * k - n * i < n := by omega
    have hw1 : IntKind.i64.wrap (((n * i : Nat) : Int) + (n : Int)) = ((n * (i + 1) : Nat) : Int) := by rw [IntKind.wrap_i64]; omega
    have hw2 : ((n * (i + 1) : Nat) : Int) ≤ (cap : Int) := by omega
    have hw3 : n * (i + 1) ≤ cap := by omega
    have hw4 : n * i ≤ n * (i + 1) := by omega
    have hw5 : n * (i + 1) - n * i = n := by omega
    have hw6 : ¬ n * (i + 1) = n * i := by omega
    have hcall := fun (K' : Kont) (h1 : ∀ W', J (i + 1) W' → K' (.bool true) W') (h2 : ∀ W', Js W' → K' (.bool false) W') => hstep i [.slice (some ⟨b, off + n * i, none⟩) n n] W.drew (by simp [List.getElem?_range, hlt]) (hmod i _ _ hJ ((Mod.refl _ W).drew)) K' h1 h2
    simp [-Int.natCast_mul, go_sem, ptr0, k1, k2, hlt3, hlt1, hle3, hne, hmin, hw1, hw2, hw3, hw4, hw5, hw6]
    refine hcall _ (fun W' hJ' => ?_) (fun W' hJs => ?_)
    · obtain ⟨k3, k4⟩ := hkeep _ W' hJ'
      simp [-Int.natCast_mul, go_sem, k3, k4, hw1]
      exact ⟨⟨i + 1, hlt, rfl, hJ'⟩, by omega⟩
    · simp [go_sem]
      exact hend W' (.inr hJs)
  · have hik : i = k := by omega
    subst hik
    simp [-Int.natCast_mul, go_sem, ptr0, k1, k2]
    exact hend W (.inl (by simpa using hJ))
end Go.Proofs

namespace Go.Proofs
open Go Go.Vc

def DM.write1 : DM → Int → Int → List Sec → Int × DM
  | D, _, _, [] => (0, D)
  | D, f, a, c :: cs => if D.step.1 then DM.write1 { D.step.2 with waits := D.step.2.waits ++ [((f, a), c)] } f (a + 1) cs else (180, D.step.2)
def chunks (bs : List UInt8) (k : Nat) : List Sec := (List.range k).map fun i => (bs.drop (128 * i)).take 128
def DM.write (D : DM) (f a : Int) (bs : List UInt8) : Int × DM :=
  if D.off then (180, D) else if bs.length % 128 = 0 ∧ mayB f a ((bs.length / 128 : Nat) : Int) = true then D.write1 f a (chunks bs (bs.length / 128)) else (2, D)

theorem builtPut2 (x y : Int) {S : Sec} (h : S.length = 128) : Try.prog.built 116 [(0, .agg #[.int .i64 x, .int .i64 y]), (1, .agg (bv S).toArray)] = some (cellsPut ((x, y), S)).toArray := by
  have h1 : ∀ parts, Try.prog.built 116 parts = Instr.fill (fun i => #[(0, 2), (2, 128)][i]?) (zeroC Try.prog 116).toArray parts := fun parts => by kernel_rfl
  have h2 : zeroC Try.prog 116 = cellsPut ((0, 0), zsec) := by kernel_rfl
  have e1 : lay (cellsPut ((0, 0), zsec)) 0 [.int .i64 x, .int .i64 y] = cellsPut ((x, y), zsec) := by simp [lay, cellsPut]
  have e2 : lay (cellsPut ((x, y), zsec)) 2 (bv S) = cellsPut ((x, y), S) := by
    simp only [lay, cellsPut, List.take_succ_cons, List.take_zero, bv_length, h, List.drop_succ_cons, show (2 + 128) = 128 + 1 + 1 from rfl]
    rw [List.drop_of_length_le (by simp [zsec_length])]
    simp
  rw [h1, h2, fill_part (off := 0) (size := 2) rfl rfl (by rw [cellsPut_length zsec_length]; omega)]
  rw [show (Value.agg #[.int .i64 x, .int .i64 y]).cells.toList = [.int .i64 x, .int .i64 y] from rfl, e1]
  rw [fill_part (off := 2) (size := 128) rfl (by simp [Value.cells, h]) (by rw [cellsPut_length zsec_length]; omega)]
  rw [show (Value.agg (bv S).toArray).cells.toList = bv S from rfl, e2, fill_nil]

theorem pE : elemOk Try.prog 116 130 144 = true := by kernel_rfl

theorem retD_hp {d : Nat} {ds : List Nat} {w : World} {K : World → Prop} : retD (d :: ds) w K ↔ hp w d = some (.deferred (some [])) ∧ retD ds (w.putObj d (.deferred none)) K := Iff.rfl
theorem retD_nil {w : World} {K : World → Prop} : retD [] w K ↔ K w := Iff.rfl
theorem chunks_len (bs : List UInt8) (k : Nat) (h : 128 * k ≤ bs.length) : ∀ c ∈ chunks bs k, c.length = 128 := by
  intro c hc
  obtain ⟨i, hi, rfl⟩ := List.mem_map.1 hc
  have := List.mem_range.1 hi
  simp only [List.length_take, List.length_drop]
  omega

set_option maxRecDepth 10000 in
theorem ca_write {w : World} {d : Nat} {F : Nat → Prop} {D : DM} {K : Kont} {f a : Int} {v : Value} {n : Nat} {bs : List UInt8} (h : DiskR w d F D) (hv : Rd w 1 v n (bv bs)) (hvF : ∀ b, inRd v b → ¬ F b ∧ b < w.heap.size)
    (hn : bs.length < 1099511627776) (hD : D.waits.length < 549755813888)
    (hK : ∀ w' F', DiskR w' d F' (D.write f a bs).2 → Stp F w w' F' → K (.int .i64 (D.write f a bs).1) w') :
    Ca Try.prog 17 #[dptr d, .int .i64 f, .int .i64 a, v] w K := by
  have h0 := h
  have hnl : n = bs.length := by simpa using hv.1.symm
  subst hnl
  obtain ⟨va, vc, rfl⟩ := Rd.isSl hv
  apply ca17
  unfold F17
  simp [go_sem, dptr]
  generalize hW : (((w.alloc _).alloc _).alloc _).alloc _ = W
  have m1 : Mod (fun _ => False) w W := by subst hW; exact ((((Mod.refl _ w).alloc _).alloc _).alloc _).alloc _
  have f0 : hp W w.heap.size = some (.cells #[.pointer (some ⟨d, 0, none⟩)] 25 (0, 0)) := by subst hW; simp [go_sem]
  have f1 : hp W (w.heap.size + 1) = some (.cells #[.int .i64 f] 3 (0, 0)) := by subst hW; simp [go_sem]
  have f2 : hp W (w.heap.size + 2) = some (.cells #[.int .i64 a] 3 (0, 0)) := by subst hW; simp [go_sem]
  have f3 : ∃ z, hp W (w.heap.size + 3) = some (.cells #[z] 28 (0, 0)) := by subst hW; simp [go_sem]
  have sW : W.heap.size = w.heap.size + 4 := by subst hW; simp [go_sem]
  have hW0 : DiskR W d F D := h.mod m1 fun _ _ h => h
  have hvW : Rd W 1 (.slice va bs.length vc) bs.length (bv bs) := hv.mod m1 fun _ _ h => h
  have s1 : Stp F w W F := ⟨m1.mono fun _ _ h => h.elim, fun b hb => .inl hb⟩
  obtain ⟨z, f3⟩ := f3
  clear hW
  refine ca_ready hW0 ?_
  unfold DM.write at hK
  cases ho : D.off
  · simp only [ho, Bool.false_eq_true, if_false] at hK
    have htm : ((bs.length : Int).tmod 128 = 0) = (bs.length % 128 = 0) := by
      rw [Int.tmod_eq_emod_of_nonneg (by omega)]
      simp; omega
    obtain ⟨k, hk⟩ : ∃ k, bs.length / 128 = k := ⟨_, rfl⟩
    rw [hk] at hK
    have hdv : IntKind.i64.wrap ((bs.length : Int) / 128) = (k : Int) := by rw [IntKind.wrap_i64]; omega
    have mset : ∀ v, Stp F w (W.setCell ⟨w.heap.size + 3, 0, none⟩ v) F := fun v => ⟨s1.mod.setCell (.inr (by omega)) 0 v, fun b hb => .inl hb⟩
    have dset : ∀ v, DiskR (W.setCell ⟨w.heap.size + 3, 0, none⟩ v) d F D := fun v => hW0.mod ((Mod.refl (fun b => b = w.heap.size + 3) W).setCell (b := w.heap.size + 3) (.inl (by simp)) 0 v) fun b hb e => by have := h0.lt hb; omega
    by_cases hmod : bs.length % 128 = 0
    · have hmod' : (bs.length : Int).tmod 128 = 0 := by rw [htm]; exact hmod
      simp [go_sem, f0, f1, f2, f3, hmod', hdv]
      refine ca_may ?_
      cases hm : mayB f a (k : Int)
      · simp [hmod, hm] at hK
        simp [go_sem, f3]
        exact hK _ _ (dset _) (mset _)
      · simp [hmod, hm] at hK
        simp [go_sem, f3]
        simp only [mayB, decide_eq_true_eq] at hm
        obtain ⟨q1, q2, q3, q4, q5, q6⟩ := hm
        have hlen : bs.length = 128 * k := by omega
        refine ca_chunk (by omega) fun W1 mW1 c1 c2 => ?_
        obtain ⟨b, off, cap, hva, hcap, hAt⟩ : ∃ b off cap, va = some ⟨b, off, none⟩ ∧ bs.length ≤ vc ∧ At W b off (bv bs) := by
          obtain ⟨_, ⟨h0, _⟩ | ⟨b, off, cap, he, hc, hh⟩⟩ := hvW
          · omega
          · injection he with e1 e2 e3
            subst e1; subst e3
            exact ⟨b, off, vc, rfl, hc, hh⟩
        subst hva
        rw [hlen] at c1 hcap
        have hbF : ¬ F b ∧ b < w.heap.size := hvF b ⟨_, _, _, rfl, by omega, rfl⟩
        have l1 := lt_of_heap c1
        have l2 := lt_of_heap c2
        refine RFW_top (iter_chunk (p1 := W.heap.size) (p2 := W.heap.size + 1) (b := b) (off := off) (n := 128) (k := k) (cap := vc) (by omega) hcap (by omega)) (by simp)
          (fun i W' => ∃ Di F', DiskR W' d F' Di ∧ Stp F w W' F' ∧ (∀ b, F' b → b < w.heap.size ∨ W1.heap.size + 1 < b) ∧ D.write1 f a (chunks bs k) = Di.write1 f (a + i) ((chunks bs k).drop i) ∧ Di.waits.length ≤ D.waits.length + i ∧ i ≤ k ∧
            hp W' w.heap.size = some (.cells #[.pointer (some ⟨d, 0, none⟩)] 25 (0, 0)) ∧ hp W' (w.heap.size + 1) = some (.cells #[.int .i64 f] 3 (0, 0)) ∧ hp W' (w.heap.size + 2) = some (.cells #[.int .i64 (a + i)] 3 (0, 0)) ∧
            (∃ z, hp W' (w.heap.size + 3) = some (.cells #[z] 28 (0, 0))) ∧ hp W' W.heap.size = some (.cells #[.slice (some ⟨b, off, none⟩) (128 * k) vc] 23 (0, 0)) ∧ hp W' (W.heap.size + 1) = some (.cells #[.int .i64 (128 : Nat)] 3 (0, 0)) ∧
            hp W' W1.heap.size = some (.deferred (some [])) ∧ At W' b off (bv bs))
          (fun c W' => c = .ret ∧ ∃ F', DiskR W' d F' (D.write1 f a (chunks bs k)).2 ∧ (D.write1 f a (chunks bs k)).1 = 180 ∧ Stp F w W' F' ∧ (∀ b, F' b → b < w.heap.size ∨ W1.heap.size + 1 < b) ∧ hp W' (w.heap.size + 3) = some (.cells #[.int .i64 180] 28 (0, 0)) ∧ hp W' W1.heap.size = some (.deferred (some [])))
          ?_ ?_ ?_ ?_ ?_ ?_
        · rintro i W' ⟨Di, F', -, -, -, -, -, -, -, -, -, -, j1, j2, -, -⟩
          exact ⟨j1, j2⟩
        · rintro i W' W2 ⟨Di, F', a1, a2, a3, a4, a5, a6, b0, b1, b2, ⟨z', b3⟩, j1, j2, j3, j4⟩ hm
          have hd : ∀ b, F' b → ¬ b = W1.heap.size + 1 := fun b hb e => by have := a3 b hb; omega
          exact ⟨Di, F', a1.mod hm hd, ⟨a2.mod.on hm (fun b e => .inr (by omega)), a2.sub⟩, a3, a4, a5, a6, hm.keep b0 (by show ¬ _ = _; omega), hm.keep b1 (by show ¬ _ = _; omega), hm.keep b2 (by show ¬ _ = _; omega),
            ⟨z', hm.keep b3 (by show ¬ _ = _; omega)⟩, hm.keep j1 (by show ¬ _ = _; omega), hm.keep j2 (by show ¬ _ = _; omega), hm.keep j3 (by show ¬ _ = _; omega), j4.mod hm (by show ¬ _ = _; omega)⟩
        · intro o
          have m9 : Mod (fun _ => False) W1 ((W1.alloc (.deferred (some []))).alloc (.loop o)) := ((Mod.refl _ W1).alloc _).alloc _
          have mm := mW1.trans m9
          have e9 : hp ((W1.alloc (.deferred (some []))).alloc (.loop o)) W1.heap.size = some (.deferred (some [])) := by simp [go_sem]
          generalize (W1.alloc (.deferred (some []))).alloc (.loop o) = W9 at m9 mm e9
          exact ⟨D, F, hW0.mod mm (fun _ _ h => h), s1.trans ⟨mm.mono fun _ _ h => h.elim, fun b hb => .inl hb⟩, fun b hb => .inl (h0.lt hb), by simp, by omega, by omega, mm.keep f0 id, mm.keep f1 id, by have := mm.keep f2 id; simpa [hp] using this, ⟨z, mm.keep f3 id⟩,
            m9.keep c1 id, m9.keep c2 id, e9, hAt.mod mm id⟩
        · rintro i x W2 rb hx ⟨Di, F', a1, a2, a3, a4, a5, a6, b0, b1, b2, ⟨z', b3⟩, j1, j2, j3, j4⟩ hrb hst KN KJ hKN hKJ W0 hbeg
          have hik : i < k := by
            have := (List.getElem?_eq_some_iff.1 hx).1
            simpa using this
          have hxe : x = [.slice (some ⟨b, off + 128 * i, none⟩) 128 128] := by
            simp [List.getElem?_range, hik] at hx
            exact hx.symm
          subst hxe
          unfold R17_0
          refine hbeg _ ?_
          simp [go_sem, b0]
          obtain ⟨s, hq⟩ := a1
          have hdl : d < w.heap.size := h0.lt h0.self
          have hbd : b ≠ d := fun e => hbF.1 (e ▸ h0.self)
          obtain ⟨S, hS⟩ : ∃ S, (bs.drop (128 * i)).take 128 = S := ⟨_, rfl⟩
          have hSl : S.length = 128 := by rw [← hS]; simp; omega
          have hdrop : (chunks bs k).drop i = S :: (chunks bs k).drop (i + 1) := by
            rw [List.drop_eq_getElem_cons (by simpa [chunks] using hik)]
            simp [chunks, hS]
          rw [hdrop] at a4
          simp only [DM.write1] at a4
          refine ca_step hq fun W3 hq3 m3 z3 => ?_
          have b0 := m3.keep b0 (by show ¬ _ = _; omega)
          have b1 := m3.keep b1 (by show ¬ _ = _; omega)
          have b2 := m3.keep b2 (by show ¬ _ = _; omega)
          have b3 := m3.keep b3 (by show ¬ _ = _; omega)
          have j1 := m3.keep j1 (by show ¬ _ = _; omega)
          have j2 := m3.keep j2 (by show ¬ _ = _; omega)
          have j3 := m3.keep j3 (by show ¬ _ = _; omega)
          have hrb := m3.keep hrb (by show ¬ _ = _; omega)
          have j4 := j4.mod m3 hbd
          have jS : At W3 b (off + 128 * i) (bv S) := by
            have := j4.sub (128 * i) 128 (by simp; omega)
            rw [bv_drop, bv_take, hS] at this
            exact this
          have a2 : Stp F w W3 F' := a2.trans ⟨m3.mono fun b _ e => e ▸ hq.self, fun b hb => .inl hb⟩
          cases hst1 : Di.step.1
          · rw [hst1] at a4
            simp only [Bool.false_eq_true, if_false] at a4
            simp [go_sem, hp_of b3]
            have mS : Mod (fun b => b = w.heap.size + 3) W3 (W3.setCell ⟨w.heap.size + 3, 0, none⟩ (.int .i64 180)) := (Mod.refl _ W3).setCell (by simp) _ _
            refine hKJ _ _ ⟨rfl, F', ?_, by rw [a4], ⟨a2.mod.setCell (.inr (by omega)) _ _, a2.sub⟩, a3, by simp [go_sem, hp_of b3], mS.keep j3 (by show ¬ _ = _; omega)⟩ (mS.keep hrb (by show ¬ _ = _; omega))
            rw [a4]
            exact ⟨s, hq3.mod mS fun b hb e => by have := a3 b hb; omega⟩
          · rw [hst1] at a4
            simp only [if_true] at a4
            obtain ⟨mb, g1, g2, g3, g4, g5, g6, g7⟩ := hq3.out
            have hAr : ∀ w, (Instr.arrayAt 114 (.slice (some ⟨b, off + 128 * i, none⟩) 128 128)).run Try.prog w = .ok (.pointer (some ⟨b, off + 128 * i, none⟩)) w := fun w =>
              run_arrayAt w _ 5 128 _ _ _ (by kernel_rfl) (Nat.le_refl _)
            simp [go_sem, hp_of b0, hp_of b1, hp_of b2, hp_of g1, hAr]
            have jS' : At W3.drew b (off + 128 * i) (bv S) := jS
            refine rdX_bigS (bv S) 127 sT1 sT2 (by simp [hSl]) jS' ?_
            refine rdPX_bigB (builtPut2 f (a + i) hSl) ?_
            refine rx_lit [.agg (cellsPut ((f, a + (i : Int)), S)).toArray] Try.underlying53 (elemT_of pE) rfl rfl (by simp [Value.cells, cellsPut_length (p := ((f, a + (i : Int)), S)) hSl]) (by decide) ?_
            have m4 : Mod (fun _ => False) W3 (W3.drew.alloc (.cells ([Value.agg (cellsPut ((f, a + (i : Int)), S)).toArray].flatMap (·.cells.toList)).toArray 116)) := ((Mod.refl _ W3).drew).alloc _
            have e4 : hp (W3.drew.alloc (.cells ([Value.agg (cellsPut ((f, a + (i : Int)), S)).toArray].flatMap (·.cells.toList)).toArray 116)) W3.heap.size = some (.cells (cellsPut ((f, a + (i : Int)), S)).toArray 116 (0, 0)) := by
              have e : [Value.agg (cellsPut ((f, a + (i : Int)), S)).toArray].flatMap (·.cells.toList) = cellsPut ((f, a + (i : Int)), S) := by simp [Value.cells]
              rw [e]
              simp [go_sem]
            rw [show W3.drew.heap.size = W3.heap.size from rfl]
            generalize W3.drew.alloc (.cells ([Value.agg (cellsPut ((f, a + (i : Int)), S)).toArray].flatMap (·.cells.toList)).toArray 116) = W4 at m4 e4
            have k0 := m4.keep b0 id
            have k1 := m4.keep g1 id
            simp only [hp_of k0, hp_of k1]
            have hw2 := hq3.waits
            have hwl : Di.step.2.waits.length < 600000000000 := by rw [Di.step_waits]; omega
            have hcl := cellsPut_length (p := ((f, a + (i : Int)), S)) hSl
            refine ⟨rfl, rfl, rx_append (cs := Di.step.2.waits.flatMap cellsPut) (n := Di.step.2.waits.length) (m := 1) (news := cellsPut ((f, a + (i : Int)), S)) Try.underlying53 Try.underlying53 (elemT_of pE) (g3.mod m4 fun _ _ h => h)
              ⟨by rw [hcl], .inr ⟨_, 0, 1, rfl, Nat.le_refl _, ⟨_, _, _, e4, by simp, by simp⟩⟩⟩ (cellsPut_one _) (by omega) fun s' W5 o5 m5 n5 => ?_⟩
            obtain ⟨sa, sc, rfl, hsc⟩ := o5.isSl
            have hns : ∀ b', b' < w.heap.size → b' ≠ d → ¬ F' b' → ¬ inSl s b' := fun b' _ _ hF hb => hF ((g4 b').2 (.inr (.inr hb)))
            have dist : ∀ b', w.heap.size ≤ b' → b' ≤ W1.heap.size + 1 → ¬ inSl s b' := fun b' h1 h2 hb => by
              have := a3 b' ((g4 b').2 (.inr (.inr hb))); omega
            have p0 := m5.keep k0 (dist _ (by omega) (by omega))
            have p1 := m5.keep (m4.keep b1 id) (dist _ (by omega) (by omega))
            have p2 := m5.keep (m4.keep b2 id) (dist _ (by omega) (by omega))
            have p3 := m5.keep (m4.keep b3 id) (dist _ (by omega) (by omega))
            have pd := m5.keep k1 g6
            have hwa : IntKind.i64.wrap (a + (i : Int) + 1) = a + ((i + 1 : Nat) : Int) := by rw [IntKind.wrap_i64]; omega
            have hnd : ¬ w.heap.size + 2 = d := by omega
            have hnd' : ¬ d = w.heap.size + 2 := by omega
            simp [go_sem, hp_of p0, hp_of p2, hp_of pd, hnd, hnd', hwa]
            have m6 : Mod (fun b' => b' = d ∨ b' = w.heap.size + 2) W5 ((W5.setCell ⟨d, 1, none⟩ (.slice sa (Di.step.2.waits.length + 1) sc)).setCell ⟨w.heap.size + 2, 0, none⟩ (.int .i64 (a + ((i : Int) + 1)))) :=
              ((Mod.refl _ W5).setCell (.inl (.inl rfl)) _ _).setCell (.inl (.inr rfl)) _ _
            have e6 : hp ((W5.setCell ⟨d, 1, none⟩ (.slice sa (Di.step.2.waits.length + 1) sc)).setCell ⟨w.heap.size + 2, 0, none⟩ (.int .i64 (a + ((i : Int) + 1)))) d = some (.cells #[.map mb, .slice sa (Di.step.2.waits.length + 1) sc, .int .i64 Di.step.2.left, .bool Di.step.2.armed, .bool Di.step.2.off] 55 (0, 0)) := by
              simp [go_sem, hp_of pd, hnd']
            have e7 : hp ((W5.setCell ⟨d, 1, none⟩ (.slice sa (Di.step.2.waits.length + 1) sc)).setCell ⟨w.heap.size + 2, 0, none⟩ (.int .i64 (a + ((i : Int) + 1)))) (w.heap.size + 2) = some (.cells #[.int .i64 (a + ((i + 1 : Nat) : Int))] 3 (0, 0)) := by
              simp [go_sem, hp_of p2, hnd]
            generalize (W5.setCell ⟨d, 1, none⟩ (.slice sa (Di.step.2.waits.length + 1) sc)).setCell ⟨w.heap.size + 2, 0, none⟩ (.int .i64 (a + ((i : Int) + 1))) = W6 at m6 e6 e7
            have hrl := lt_of_heap hrb
            have hm4 := m4.size
            have q1 : ∀ b', inSl (.slice sa (Di.step.2.waits.length + 1) sc) b' → b' ≠ d ∧ (b' < w.heap.size ∨ W1.heap.size + 1 < b') := fun b' hb' => by
              rcases n5 b' hb' with h1 | h1
              · exact ⟨fun e => g6 (e ▸ h1), a3 b' ((g4 b').2 (.inr (.inr h1)))⟩
              · omega
            have q2 : ∀ b', mb = some b' → b' ≠ d ∧ (b' < w.heap.size ∨ W1.heap.size + 1 < b') := fun b' hb' => ⟨fun e => g5 (e ▸ hb'), a3 b' ((g4 b').2 (.inr (.inl hb')))⟩
            have q3 : ∀ b', mb = some b' → b' < W3.heap.size := fun b' hb' => hq3.lt ((g4 b').2 (.inr (.inl hb')))
            have m36 : Mod (fun b' => inSl s b' ∨ b' = d ∨ b' = w.heap.size + 2) W3 W6 := ((m4.mono fun _ _ h => h.elim).on m5 (fun b' hb' => .inl (.inl hb'))).on m6 fun b' hb' => .inl (.inr hb')
            have q4 : ∀ b', mb = some b' → ¬ (inSl s b' ∨ b' = d ∨ b' = w.heap.size + 2) := fun b' hb' h => by
              rcases h with h | h | h
              · exact g7 b' hb' h
              · exact (q2 b' hb').1 h
              · have := (q2 b' hb').2; omega
            refine hKN _ ⟨{ Di.step.2 with waits := Di.step.2.waits ++ [((f, a + (i : Int)), S)] }, fun b' => b' = d ∨ mb = some b' ∨ inSl (.slice sa (Di.step.2.waits.length + 1) sc) b', ⟨_, ⟨mb, e6, ?_, ?_, fun _ => Iff.rfl, g5, fun h => (q1 d h).1 rfl, ?_⟩, hq3.lasts, ?_, hq3.left, fun h => absurd h (by simp)⟩, ?_, ?_, ?_, ?_, hik, ?_, ?_, e7, ?_, ?_, ?_, ?_, ?_⟩ ?_
            · rcases g2 with ⟨g2, g2'⟩ | ⟨b', g2, g2'⟩
              · exact .inl ⟨g2, g2'⟩
              · exact .inr ⟨b', g2, g2'.mod m36 (q4 b' (by cases g2; rfl))⟩
            · have o6 := o5.mod m6 fun b' hb' h => by
                have := q1 b' hb'
                rcases h with h | h <;> omega
              rw [List.flatMap_append, List.length_append]
              simpa using o6
            · intro b' hb' h
              rcases n5 b' h with h1 | h1
              · exact g7 b' hb' h1
              · have := q3 b' hb'; omega
            · intro p hp
              rcases List.mem_append.1 hp with hp | hp
              · exact hw2 p hp
              · have : p = ((f, a + (i : Int)), S) := by simpa using hp
                subst this
                exact ⟨hSl, by show 0 ≤ a + (i : Int); omega, by show a + (i : Int) < 8192; omega⟩
            · refine ⟨a2.mod.on m36 fun b' h => ?_, fun b' h => ?_⟩
              · rcases h with h | h | h
                · exact a2.sub b' ((g4 b').2 (.inr (.inr h)))
                · exact .inl (h ▸ h0.self)
                · exact .inr (by omega)
              · rcases h with h | h | h
                · exact .inl (h ▸ h0.self)
                · exact a2.sub b' ((g4 b').2 (.inr (.inl h)))
                · rcases n5 b' h with h1 | h1
                  · exact a2.sub b' ((g4 b').2 (.inr (.inr h1)))
                  · exact .inr (by omega)
            · rintro b' (h | h | h)
              · exact .inl (by omega)
              · exact (q2 b' h).2
              · exact (q1 b' h).2
            · rw [a4, show a + (i : Int) + 1 = a + ((i + 1 : Nat) : Int) by omega]
            · simp [Di.step_waits]; omega
            · exact m6.keep p0 (by show ¬ (_ ∨ _); omega)
            · exact m6.keep p1 (by show ¬ (_ ∨ _); omega)
            · exact ⟨_, m6.keep p3 (by show ¬ (_ ∨ _); omega)⟩
            · exact m36.keep j1 (by rintro (h | h | h); exact dist _ (by omega) (by omega) h; omega; omega)
            · exact m36.keep j2 (by rintro (h | h | h); exact dist _ (by omega) (by omega) h; omega; omega)
            · exact m36.keep j3 (by rintro (h | h | h); exact dist _ (by omega) (by omega) h; omega; omega)
            · refine j4.mod m36 ?_
              rintro (h | h | h)
              · rcases a2.sub b ((g4 b).2 (.inr (.inr h))) with h1 | h1
                · exact hbF.1 h1
                · omega
              · exact hbd h
              · omega
            · exact m36.keep hrb (by rintro (h | h | h); exact dist _ (by omega) (by omega) h; omega; omega)
        · rintro W2 o ⟨Di, F', a1, a2, a3, a4, a5, a6, b0, b1, b2, ⟨z', b3⟩, j1, j2, j3, j4⟩
          simp only [List.length_map, List.length_range] at a4 a5 a6 b2
          have hnil : (chunks bs k).drop k = [] := List.drop_of_length_le (by simp [chunks])
          rw [hnil] at a4
          have mo : Mod (fun b' => b' = W1.heap.size + 1) W2 (W2.putObj (W1.heap.size + 1) (.loop o)) := (Mod.refl _ W2).putObj (b := W1.heap.size + 1) (.inl (by simp)) _
          have b3 := mo.keep b3 (by show ¬ _ = _; omega)
          have j3 := mo.keep j3 (by show ¬ _ = _; omega)
          have a1 : DiskR (W2.putObj (W1.heap.size + 1) (.loop o)) d F' Di := a1.mod mo fun b' hb' e => by have := a3 b' hb'; omega
          have a2 : Stp F w (W2.putObj (W1.heap.size + 1) (.loop o)) F' := ⟨a2.mod.on mo (fun b' e => .inr (by omega)), a2.sub⟩
          generalize W2.putObj (W1.heap.size + 1) (.loop o) = W3 at mo b3 j3 a1 a2
          unfold A17_1
          have r1 : ¬ w.heap.size + 3 = W1.heap.size := by omega
          have r2 : ¬ W1.heap.size = w.heap.size + 3 := by omega
          simp [go_sem, afterK, retD_hp, retD_nil, hp_of b3, hp_of j3, r1, r2]
          have a4' : D.write1 f a (chunks bs k) = (0, Di) := a4
          rw [a4'] at hK
          have mf : Mod (fun b' => b' = w.heap.size + 3 ∨ b' = W1.heap.size) W3 ((W3.setCell ⟨w.heap.size + 3, 0, none⟩ (.int .i64 0)).putObj W1.heap.size (.deferred none)) := ((Mod.refl _ W3).setCell (.inl (.inl rfl)) _ _).putObj (.inl (.inr rfl)) _
          exact hK _ F' (a1.mod mf fun b' hb' h => by have := a3 b' hb'; rcases h with h | h <;> omega) ⟨a2.mod.on mf (fun b' h => .inr (by rcases h with h | h <;> omega)), a2.sub⟩
        · rintro c W2 o ⟨rfl, F', a1, a0, a2, a3, b3, j3⟩
          have mo : Mod (fun b' => b' = W1.heap.size + 1) W2 (W2.putObj (W1.heap.size + 1) (.loop o)) := (Mod.refl _ W2).putObj (b := W1.heap.size + 1) (.inl (by simp)) _
          have b3 := mo.keep b3 (by show ¬ _ = _; omega)
          have j3 := mo.keep j3 (by show ¬ _ = _; omega)
          have a1 : DiskR (W2.putObj (W1.heap.size + 1) (.loop o)) d F' _ := a1.mod mo fun b' hb' e => by have := a3 b' hb'; omega
          have a2 : Stp F w (W2.putObj (W1.heap.size + 1) (.loop o)) F' := ⟨a2.mod.on mo (fun b' e => .inr (by omega)), a2.sub⟩
          generalize W2.putObj (W1.heap.size + 1) (.loop o) = W3 at mo b3 j3 a1 a2
          unfold A17_1
          have r1 : ¬ w.heap.size + 3 = W1.heap.size := by omega
          have r2 : ¬ W1.heap.size = w.heap.size + 3 := by omega
          simp [go_sem, afterK, retD_hp, retD_nil, hp_of b3, hp_of j3, r1, r2]
          rw [a0] at hK
          have mf : Mod (fun b' => b' = W1.heap.size) W3 (W3.putObj W1.heap.size (.deferred none)) := (Mod.refl _ W3).putObj (b := W1.heap.size) (.inl (by simp)) _
          exact hK _ F' (a1.mod mf fun b' hb' h => by have := a3 b' hb'; omega) ⟨a2.mod.on mf (fun b' h => .inr (by omega)), a2.sub⟩
    · have hmod' : ¬ (bs.length : Int).tmod 128 = 0 := by rw [htm]; exact hmod
      simp [hmod] at hK
      simp [go_sem, f0, f1, f2, f3, hmod']
      exact hK _ _ (dset _) (mset _)
  · simp [ho] at hK
    simp [go_sem, f3]
    exact hK _ _ (hW0.mod ((Mod.refl (fun b => b = w.heap.size + 3) W).setCell (b := w.heap.size + 3) (.inl (by simp)) 0 _) fun b hb e => by have := h0.lt hb; omega) ⟨s1.mod.setCell (.inr (by omega)) 0 _, fun b hb => .inl hb⟩
end Go.Proofs

namespace Go.Proofs
open Go Go.Vc

def secOf (c : UInt8) : Sec := c :: List.replicate 127 0
theorem secOf_length (c : UInt8) : (secOf c).length = 128 := by simp [secOf]

theorem ca_sector {c : UInt8} {w : World} {K : Kont} (hK : ∀ w' v, Own w' 5 1 v 128 (bv (secOf c)) → Mod (fun _ => False) w w' → (∀ b, inSl v b → w.heap.size ≤ b ∧ b < w'.heap.size) → K v w') :
    Ca Try.prog 18 #[.int .u8 c.toNat] w K := by
  apply ca18
  unfold F18
  refine rx_make Try.underlying23 (elemT_of uT1) (by omega) (by omega) (by omega) uT2 ?_
  have e3 : (madeCells (Value.int .u8 0).cells (Int.toNat 128 * 1)) = (bv zsec).toArray := by
    apply Array.ext'
    rw [show (Value.int .u8 0).cells = #[.int .u8 0] from rfl, toList_madeCells_one, zsec, bv_replicate]
    rfl
  rw [e3, show Int.toNat 128 = 128 from rfl]
  have hA : hp (w.alloc (.cells (bv zsec).toArray 5)) w.heap.size = some (.cells (bv zsec).toArray 5 (0, 0)) := by simp [go_sem]
  have m1 : Mod (fun _ => False) w (w.alloc (.cells (bv zsec).toArray 5)) := (Mod.refl _ w).alloc _
  generalize (w.alloc (.cells (bv zsec).toArray 5)) = W at hA m1
  simp [go_sem, hA]
  have hs : (bv zsec).set 0 (.int .u8 c.toNat) = bv (secOf c) := rfl
  have hC : hp (W.setCell ⟨w.heap.size, 0, none⟩ (.int .u8 c.toNat)) w.heap.size = some (.cells (bv (secOf c)).toArray 5 (0, 0)) := by
    simp [go_sem, hA, hs]
  refine hK _ _ ⟨by simp [secOf], .inr ⟨_, 128, [], rfl, Nat.le_refl _, by rw [List.append_nil]; exact hC, by simp⟩⟩ (m1.setCell (.inr (Nat.le_refl _)) _ _) ?_
  rintro b hb
  cases hb
  exact ⟨Nat.le_refl _, lt_of_heap hC⟩

theorem known_write : DM.new.write 0 3 (secOf 97 ++ secOf 98) = (0, { DM.new with waits := [((0, 3), secOf 97), ((0, 4), secOf 98)] }) := by kernel_rfl
theorem known_crash : ({ DM.new with waits := [((0, 3), secOf 97), ((0, 4), secOf 98)] } : DM).crash 1 [99] = { DM.new with lasts := [((0, 3), secOf 97), ((0, 4), secOf 99)] } := by kernel_rfl
theorem known_read : ({ DM.new with lasts := [((0, 3), secOf 97), ((0, 4), secOf 99)] } : DM).readB 0 3 2 = secOf 97 ++ secOf 99 := by kernel_rfl

theorem Own.blk {w : World} {e : TypeId} {sz : Nat} {v : Value} {n : Nat} {cs : List Value} (h : Own w e sz v n cs) (F : Nat → Prop) (hn : ∀ b, inSl v b → w.heap.size ≤ b) : ∀ b, inSl v b → ¬ F b ∧ b < w.heap.size := fun b hb => by
  have h1 := h.lt hb
  have h2 := hn b hb
  omega

set_option maxRecDepth 10000 in
theorem ca_known {w : World} {K : Kont} (hK : ∀ w', Mod (fun _ => False) w w' → K (.bool true) w') : Ca Try.prog 14 #[] w K := by
  apply ca14
  unfold F14
  refine ca_new fun w1 d1 m1 => ?_
  refine JoinW.on ?_
  refine ca_sector (c := 97) fun w2 v2 o2 m2 n2 => ?_
  refine ca_sector (c := 98) fun w3 v3 o3 m3 n3 => ?_
  have d3 := d1.mod (m2.trans m3) fun _ _ h => h
  have hd1 := d1.lt rfl
  refine rx_append Try.underlying23 Try.underlying23 (elemT_of uT1) (o2.mod m3 fun _ _ h => h) o3.rd (bv_one _) (by omega) fun v4 w4 o4 m4 n4 => ?_
  have hs2 := fun b hb => (n2 b hb).1
  have hs2' := fun b hb => (n2 b hb).2
  have hm2 := m2.size
  have hm3 := m3.size
  have d4 := d3.mod m4 fun b hb h => by have := hs2 b h; omega
  rw [← bv_append] at o4
  refine ca_write d4 o4.rd (fun b hb => ⟨fun e => ?_, o4.lt hb.sl⟩) (by simp [secOf]) (by simp [DM.new]) fun w5 F5 d5 s5 => ?_
  · have := n4 b hb.sl
    rcases this with h | h
    · have := hs2 b h; omega
    · omega
  rw [known_write] at d5 ⊢
  simp [go_sem]
  refine rx_lit [.int .u8 99] Try.underlying23 (elemT_of uT1) rfl rfl (by simp [Value.cells]) (by decide) ?_
  have e6 : hp (w5.alloc (.cells ([Value.int .u8 99].flatMap (·.cells.toList)).toArray 5)) w5.heap.size = some (.cells (bv [99]).toArray 5 (0, 0)) := by simp [go_sem]; rfl
  have m6 : Mod (fun _ => False) w5 (w5.alloc (.cells ([Value.int .u8 99].flatMap (·.cells.toList)).toArray 5)) := (Mod.refl _ w5).alloc _
  generalize w5.alloc (.cells ([Value.int .u8 99].flatMap (·.cells.toList)).toArray 5) = w6 at e6 m6
  refine rx_mark Try.underlying23 Try.underlying5 e6 ?_
  have l6 := lt_of_heap e6
  have e7 : hp (w6.freeze ⟨w5.heap.size, (bv [99]).toArray.size, none⟩ 1) w5.heap.size = some (.cells (bv [99]).toArray 5 (markFz (0, 0) 1)) := by
    show (World.freeze _ _ _).heap[_]? = _
    rw [heap_freeze1, if_pos rfl, show w6.heap[w5.heap.size]? = _ from e6]
    rfl
  have m7 : Mod (fun _ => False) w5 (w6.freeze ⟨w5.heap.size, (bv [99]).toArray.size, none⟩ 1) := m6.freeze (.inr (Nat.le_refl _)) _
  generalize w6.freeze ⟨w5.heap.size, (bv [99]).toArray.size, none⟩ 1 = w7 at e7 m7
  refine ca_crash (keep := 1) (torn := [99]) (d5.mod m7 fun _ _ h => h) (by simp) (by decide) ⟨rfl, .inr ⟨_, 0, _, rfl, Nat.le_refl _, ⟨_, _, _, e7, by simp, rfl⟩⟩⟩ (fun b hb => ?_) fun w8 F8 d8 s8 => ?_
  · have hb := hb.sl
    cases hb
    exact ⟨fun h => absurd (d5.lt h) (Nat.lt_irrefl _), lt_of_heap e7⟩
  rw [known_crash] at d8
  unfold J14_0
  simp [go_sem]
  refine ca_read d8 (by simp [DM.new]) (by simp [DM.new]) (by intro _ h; exact absurd h (by decide)) fun _ _ w9 v9 o9 m9 n9 => ?_
  rw [show (Int.toNat 2) = 2 from rfl, known_read] at o9
  simp [go_sem]
  have o9d : ∀ w, Mod (fun _ => False) w9 w → Own w 5 1 v9 (2 * 128) (bv (secOf 97 ++ secOf 99)) := fun w h => o9.mod h fun _ _ h => h
  refine rdX_toStr Try.underlying23 Try.underlying5 Try.underlying9 (o9d _ (Mod.refl _ _).drew).rd ?_
  refine ca_sector (c := 97) fun wa va oa ma na => ?_
  refine ⟨run_toStr Try.underlying23 Try.underlying5 Try.underlying9 (o9d _ ((Mod.refl _ _).drew.trans ma)).rd, ?_⟩
  refine rdX_toStr Try.underlying23 Try.underlying5 Try.underlying9 oa.rd ?_
  refine ca_sector (c := 99) fun wb vb ob mb nb => ?_
  refine ⟨run_toStr Try.underlying23 Try.underlying5 Try.underlying9 (oa.mod mb fun _ _ h => h).rd, run_toStr Try.underlying23 Try.underlying5 Try.underlying9 (o9d _ (((Mod.refl _ _).drew.trans ma).trans mb)).rd, ?_⟩
  refine rdX_toStr Try.underlying23 Try.underlying5 Try.underlying9 ob.rd ?_
  simp [go_sem, secOf_length]
  refine hK _ ?_
  have hm1 := m1.size
  have t4 : Mod (fun _ => False) w w4 := ((m1.trans m2).trans m3).on m4 fun b h => .inr (by have := hs2 b h; omega)
  have hm4 := t4.size
  have t7 : Mod (fun _ => False) w w7 := (t4.on s5.mod fun b h => .inr (by omega)).trans m7
  have t8 : Mod (fun _ => False) w w8 := t7.on s8.mod fun b h => .inr (by rcases s5.sub b h with h | h <;> omega)
  exact (((t8.trans m9).drew).trans ma).trans mb
end Go.Proofs

namespace Go.Proofs
open Go Go.Vc

/-- The place that a number tells: its 64 bits, taken without a sign, by k. -/
def slot (k : Nat) (x : Int) : Nat := (x % 18446744073709551616 % k).toNat
theorem slot_lt {k : Nat} (hk : 0 < k) (x : Int) : slot k x < k := by
  have h1 := Int.emod_nonneg (x % 18446744073709551616) (b := (k : Int)) (by omega)
  have h2 := Int.emod_lt_of_pos (x % 18446744073709551616) (b := (k : Int)) (by omega)
  unfold slot
  omega
theorem slot_eq {k : Nat} (hk : 0 < k) (x : Int) : x % 18446744073709551616 % k = (slot k x : Int) := by
  have h1 := Int.emod_nonneg (x % 18446744073709551616) (b := (k : Int)) (by omega)
  unfold slot
  omega

def wsT (f : Int) (k : Nat) (base : Nat) (l : List Int) : List (Pl × Sec) := l.zipIdx.map fun p => ((f, (slot k p.1 : Int)), secOf (UInt8.ofNat (p.2 + base)))
theorem wsT_length (f : Int) (k base : Nat) (l : List Int) : (wsT f k base l).length = l.length := by simp [wsT]
theorem wsT_get (f : Int) (k base : Nat) (l : List Int) (i : Nat) (h : i < l.length) : (wsT f k base l)[i]'(by rw [wsT_length]; exact h) = ((f, (slot k l[i] : Int)), secOf (UInt8.ofNat (i + base))) := by simp [wsT]
theorem wsT_get? (f : Int) (k base : Nat) (l : List Int) (i : Nat) (h : i < l.length) : (wsT f k base l)[i]? = some ((f, (slot k l[i] : Int)), secOf (UInt8.ofNat (i + base))) := by
  rw [List.getElem?_eq_getElem (by rw [wsT_length]; exact h), wsT_get]

/-- What is wanted behind n numbers. -/
def wantL (k : Nat) (l : List Int) : Nat → List UInt8
  | 0 => List.replicate k 0
  | n + 1 => match l[n]? with
    | some x => (wantL k l n).set (slot k x) (UInt8.ofNat (n + 1))
    | none => wantL k l n
theorem wantL_length (k : Nat) (l : List Int) : ∀ n, (wantL k l n).length = k
  | 0 => by simp [wantL]
  | n + 1 => by
    simp only [wantL]
    split
    · rw [List.length_set, wantL_length k l n]
    · exact wantL_length k l n

theorem secOf_zero : secOf 0 = zsec := rfl
theorem want_sec (f : Int) {k : Nat} (hk : 0 < k) (l : List Int) (j : Nat) (hj : j < k) : ∀ n, n ≤ l.length →
    (lk (putL [] ((wsT f k 1 l).take n)) (f, (j : Int))).getD zsec = secOf ((wantL k l n).getD j 0)
  | 0, _ => by
    rw [wantL, show (List.replicate k (0 : UInt8)).getD j 0 = 0 from ?_, secOf_zero]
    · rfl
    · simp [List.getD, hj]
  | n + 1, hn => by
    have ih := want_sec f hk l j hj n (by omega)
    rw [putL_take _ _ _ (by rw [wsT_length]; omega), wsT_get _ _ _ _ _ (by omega), lk_put]
    simp only [wantL, List.getElem?_eq_getElem (show n < l.length by omega)]
    by_cases h : slot k l[n] = j
    · rw [if_pos (by rw [h]), h]
      simp [List.getD, wantL_length, hj]
    · rw [if_neg (by simp; omega), ih]
      congr 1
      simp [List.getD, List.getElem?_set, h]

/-- The disk behind i numbers of DiskTorn, synced ahead of number fr. -/
def sp (fr i : Nat) : Nat := if fr < i then fr else 0
def tornD (l : List Int) (fr i : Nat) : DM := { lasts := putL [] ((wsT 2 20 1 l).take (sp fr i)), waits := ((wsT 2 20 1 l).take i).drop (sp fr i), left := 0, armed := false, off := false }
theorem tornD_zero (l : List Int) (fr : Nat) : tornD l fr 0 = DM.new := rfl
theorem tornD_waits (l : List Int) (fr i : Nat) : (tornD l fr i).waits.length ≤ i := by simp [tornD]; omega

theorem write_one {D : DM} (h1 : D.off = false) (h2 : D.armed = false) {f a : Int} {b : Sec} (hb : b.length = 128) (hm : mayB f a 1 = true) : D.write f a b = (0, { D with waits := D.waits ++ [((f, a), b)] }) := by
  have hc : chunks b 1 = [b] := by simp [chunks, List.take_of_length_le (Nat.le_of_eq hb)]
  have hs : D.step = (true, D) := by simp [DM.step, h2]
  simp [DM.write, h1, hb, hm, hc, DM.write1, hs]
theorem sync_one {D : DM} (h1 : D.off = false) (h2 : D.armed = false) : D.sync = (0, { D with lasts := putL D.lasts D.waits, waits := [] }) := by
  have hs : D.step = (true, D) := by simp [DM.step, h2]
  simp [DM.sync, h1, hs]

theorem torn_synced (l : List Int) (i : Nat) (hi : i < l.length) : (tornD l i i).sync = (0, { tornD l i i with lasts := putL [] ((wsT 2 20 1 l).take i), waits := [] }) := by
  rw [sync_one rfl rfl]
  simp [tornD, sp, putL]
theorem torn_step (l : List Int) (fr i : Nat) (hi : i < l.length) (D : DM) (hD : D = if i = fr then (tornD l fr i).sync.2 else tornD l fr i) :
    D.write 2 (slot 20 l[i]) (secOf (UInt8.ofNat (i + 1))) = (0, tornD l fr (i + 1)) := by
  have hsl := slot_lt (k := 20) (by omega) l[i]
  have hm : mayB 2 (slot 20 l[i]) 1 = true := by simp [mayB]; omega
  have hw := wsT_length 2 20 1 l
  have ht : (wsT 2 20 1 l).take (i + 1) = (wsT 2 20 1 l).take i ++ [((2, (slot 20 l[i] : Int)), secOf (UInt8.ofNat (i + 1)))] := by
    rw [List.take_succ_eq_append_getElem (by omega), wsT_get _ _ _ _ _ hi]
  by_cases h : i = fr
  · subst h
    rw [if_pos rfl, torn_synced l i hi] at hD
    subst hD
    rw [write_one rfl rfl (secOf_length _) hm]
    simp only [tornD, sp, Nat.lt_irrefl, if_false, Nat.lt_succ_self, if_true, ht]
    rw [List.drop_append_of_le_length (by simp; omega), List.drop_of_length_le (by simp; omega)]
  · rw [if_neg h] at hD
    subst hD
    rw [write_one rfl rfl (secOf_length _) hm]
    have e : sp fr (i + 1) = sp fr i := by unfold sp; split <;> split <;> omega
    have hle : sp fr i ≤ i := by unfold sp; split <;> omega
    simp only [tornD, e, ht]
    rw [List.drop_append_of_le_length (by simp; omega)]

/-- What a crash leaves. -/
def tornN (l : List Int) (fr keep : Nat) : Nat := if keep < l.length - fr then fr + keep else l.length
def tornL (l : List Int) (n : Nat) (torn : List UInt8) : List (Pl × Sec) :=
  match l[n]? with
  | some x => if torn = [] then putL [] ((wsT 2 20 1 l).take n) else put (putL [] ((wsT 2 20 1 l).take n)) (2, (slot 20 x : Int)) (tornSec torn)
  | none => putL [] ((wsT 2 20 1 l).take n)
theorem putL_append (L a b : List (Pl × Sec)) : putL (putL L a) b = putL L (a ++ b) := by simp [putL]
theorem torn_crash (l : List Int) (fr keep : Nat) (torn : List UInt8) (hf : sp fr l.length ≤ l.length) :
    (tornD l fr l.length).crash keep torn = { DM.new with lasts := tornL l (tornN l (sp fr l.length) keep) torn } := by
  obtain ⟨p, hp⟩ : ∃ p, sp fr l.length = p := ⟨_, rfl⟩
  rw [hp] at hf ⊢
  have hw := wsT_length 2 20 1 l
  have e1 : (tornD l fr l.length).waits = (wsT 2 20 1 l).drop p := by simp [tornD, hp, List.take_of_length_le (Nat.le_of_eq hw)]
  have e2 : (tornD l fr l.length).lasts = putL [] ((wsT 2 20 1 l).take p) := by simp [tornD, hp]
  have e3 : ∀ m, (wsT 2 20 1 l).take p ++ ((wsT 2 20 1 l).drop p).take m = (wsT 2 20 1 l).take (p + m) := fun m => by rw [List.take_add]
  unfold DM.crash
  rw [e1, e2]
  simp only [putL_append, e3, List.getElem?_drop]
  have e4 : ∀ L, ({ tornD l fr l.length with lasts := L, waits := [], armed := false, off := false } : DM) = { DM.new with lasts := L } := fun _ => rfl
  rw [e4]
  congr 1
  unfold tornL tornN
  by_cases h : keep < l.length - p
  · rw [if_pos h, wsT_get? _ _ _ _ _ (show p + keep < l.length by omega), List.getElem?_eq_getElem (show p + keep < l.length by omega)]
  · rw [if_neg h, List.getElem?_eq_none (show (wsT 2 20 1 l).length ≤ p + keep by omega), List.getElem?_eq_none (Nat.le_refl _)]
    simp only
    rw [List.take_of_length_le (show (wsT 2 20 1 l).length ≤ p + keep by omega), List.take_of_length_le (show (wsT 2 20 1 l).length ≤ l.length by omega)]

/-- What a sector is, read behind the crash: the one that is wanted; or the torn one. -/
theorem torn_read (l : List Int) (n : Nat) (hn : n ≤ l.length) (torn : List UInt8) (j : Nat) (hj : j < 20) :
    ({ DM.new with lasts := tornL l n torn } : DM).readB 2 j 1 = secOf ((wantL 20 l n).getD j 0) ∨ ∃ h : n < l.length, torn ≠ [] ∧ slot 20 l[n] = j := by
  have e : ({ DM.new with lasts := tornL l n torn } : DM).readB 2 j 1 = (lk (tornL l n torn) (2, (j : Int))).getD zsec := by
    simp [DM.readB, DM.secAt, putL, DM.new]
  rw [e]
  unfold tornL
  have hw := want_sec 2 (by omega) l j hj n hn
  by_cases h : n < l.length
  · rw [List.getElem?_eq_getElem h]
    simp only
    by_cases ht : torn = []
    · rw [if_pos ht]; exact .inl hw
    · rw [if_neg ht, lk_put]
      by_cases hs : slot 20 l[n] = j
      · exact .inr ⟨h, ht, hs⟩
      · rw [if_neg (by simp; omega)]; exact .inl hw
  · rw [List.getElem?_eq_none (by omega)]
    exact .inl hw
end Go.Proofs

namespace Go.Proofs
open Go Go.Vc

def iv (l : List Int) : List Value := l.map fun x => .int .i64 x
@[simp] theorem iv_length (l : List Int) : (iv l).length = l.length := by simp [iv]
def R64 (x : Int) : Prop := -9223372036854775808 ≤ x ∧ x < 9223372036854775808

theorem rd_at {w : World} {v : Value} {n : Nat} {cs : List Value} (h : Rd w 1 v n cs) {i : Nat} (hi : i < n) :
    ∃ b off cap C e fz, v = .slice (some ⟨b, off, none⟩) n cap ∧ hp w b = some (.cells C e fz) ∧ C[off + i]? = cs[i]? := by
  obtain ⟨hl, ⟨rfl, a, c, rfl⟩ | ⟨b, off, cap, rfl, hc, hh⟩⟩ := h
  · omega
  · obtain ⟨C, e, fz, h1, h2⟩ := hh.get
    refine ⟨b, off, cap, C, e, fz, rfl, h1, ?_⟩
    have hi' : i < cs.length := by omega
    rw [List.getElem?_eq_getElem hi']
    exact h2 i _ (List.getElem?_eq_getElem hi')

set_option maxRecDepth 10000 in
theorem ca_torn {w : World} {K : Kont} {l : List Int} {a0 a3 : Value} {sync keep : Int} {torn : List UInt8}
    (hl : Rd w 1 a0 l.length (iv l)) (hl64 : ∀ x ∈ l, R64 x) (hs : R64 sync) (hk : R64 keep)
    (ht : Rd w 1 a3 torn.length (bv torn))
    (hK : ∀ w', Mod (fun _ => False) w w' → K (.bool true) w') : Ca Try.prog 3 #[a0, .int .i64 sync, .int .i64 keep, a3] w K := by
  obtain ⟨la, lc, rfl⟩ := Rd.isSl hl
  obtain ⟨ta, tc, rfl⟩ := Rd.isSl ht
  apply ca3
  unfold F3
  refine JoinW.at (fun s w' => w = w' ∧ s = (.bool (decide ((60 : Int) < l.length ∨ (1000 : Int) < torn.length ∨ keep < 0)), ())) ?_ ?_
  · simp [go_sem]
    by_cases h1 : (60 : Int) < l.length
    · simp [h1]
    · simp [h1]
      by_cases h2 : (1000 : Int) < torn.length
      · simp [h2]
      · simp [h2]
  rintro _ _ ⟨rfl, rfl⟩
  unfold J3_8
  intro _
  by_cases hb : (60 : Int) < l.length ∨ (1000 : Int) < torn.length ∨ keep < 0
  · simp [go_sem, hb]
    exact ca_known hK
  simp [go_sem, hb]
  refine ca_new fun w1 d1 m1 => ?_
  obtain ⟨keep, rfl⟩ : ∃ k : Nat, keep = k := ⟨keep.toNat, by omega⟩
  have c64 : ∀ k : Nat, 0 < k → k < 100 → ∀ x, IntKind.i64.wrap ((IntKind.u64.wrap x).tmod (k : Int)) = (slot k x : Int) := by
    intro k h1 h2 x
    rw [IntKind.wrap_u64, Int.tmod_eq_emod_of_nonneg (by omega), slot_eq h1, IntKind.wrap_i64]
    have := slot_lt h1 x
    omega
  have c61 : IntKind.i64.wrap ((IntKind.u64.wrap sync).tmod 61) = (slot 61 sync : Int) := c64 61 (by omega) (by omega) sync
  have c20 : ∀ x, IntKind.i64.wrap ((IntKind.u64.wrap x).tmod 20) = (slot 20 x : Int) := c64 20 (by omega) (by omega)
  clear c64
  rw [c61]
  generalize slot 61 sync = fr
  unfold L3_7
  refine loopW (fun s W => ∃ i F x, i ≤ l.length ∧ s = (x, .int .i64 i, ()) ∧ Mod (fun _ => False) w W ∧ DiskR W w.heap.size F (tornD l fr i) ∧ ∀ b, F b → w.heap.size ≤ b)
    (fun s _ => match s.2.1 with | .int _ i => l.length - i.toNat | _ => 0) ⟨0, _, _, by omega, rfl, m1, d1, fun b hb => by omega⟩ ?_
  rintro ⟨_, _⟩ W ⟨i, F, x, hi, ⟨⟩, mW, dW, fW⟩ _
  by_cases hlt : i < l.length
  · simp [go_sem, hlt]
    refine JoinW.at (fun s W' => s = (.bool false, ()) ∧ ∃ F', DiskR W' w.heap.size F' (if i = fr then (tornD l fr i).sync.2 else tornD l fr i) ∧ Mod (fun _ => False) w W' ∧ ∀ b, F' b → w.heap.size ≤ b) ?_ ?_
    · by_cases he : i = fr
      · have he' : (i : Int) = fr := by omega
        simp only [he', if_true]
        refine ca_sync dW (by have := tornD_waits l fr i; omega) fun W' F' d' s' => ?_
        subst he
        rw [torn_synced l i hlt] at d' ⊢
        simp [go_sem]
        exact ⟨F', d', mW.on s'.mod (fun b hb => .inr (fW b hb)), fun b hb => by have := mW.size; rcases s'.sub b hb with h | h; exact fW b h; omega⟩
      · have he' : ¬ (i : Int) = fr := by omega
        simp only [he', he, if_false]
        exact ⟨trivial, F, dW, mW, fW⟩
    rintro _ W' ⟨rfl, F', d', m', f'⟩
    unfold J3_0
    intro _
    obtain ⟨b, off, cap, C, e, fz, hv, hC, hCi⟩ := rd_at hl hlt
    rw [hv]
    have hCi' : C[off + i]? = some (.int .i64 l[i]) := by rw [hCi]; simp [iv, hlt]
    have hC' : hp W'.drew b = some (.cells C e fz) := m'.keep hC id
    have hw1 : IntKind.i64.wrap ((i : Int) + 1) = ((i + 1 : Nat) : Int) := by rw [IntKind.wrap_i64]; omega
    have hw2 : IntKind.u8.wrap (((i + 1 : Nat) : Int)) = ((i + 1 : Nat) : Int) % 256 := by rw [IntKind.wrap_u8]
    have hw3 : ((i + 1 : Nat) : Int) % 256 = ((UInt8.ofNat (i + 1)).toNat : Int) := by simp
    simp [-Int.natCast_add, go_sem, hC', hCi', hw1, hw2, c20, hlt]
    rw [hw3]
    refine ca_sector fun w5 v5 o5 m5 n5 => ?_
    have m5' : Mod (fun _ => False) W' w5 := ((Mod.refl _ W').drew).trans m5
    have hC5 : hp w5 b = some (.cells C e fz) := m5.keep hC' id
    simp only [hC5, hCi', true_and]
    have l0 := m'.size
    refine ca_write (d'.mod m5' fun _ _ h => h) o5.rd (fun b' hb' => ⟨fun h => ?_, (n5 b' hb'.sl).2⟩) (by rw [secOf_length]; decide) ?_ fun w6 F6 d6 s6 => ?_
    · have h1 := (n5 b' hb'.sl).1
      have h2 := d'.lt h
      rw [size_drew] at h1
      omega
    · have := tornD_waits l fr i
      split
      · rename_i h
        subst h
        rw [torn_synced l i hlt]
        show (0 : Nat) < _
        omega
      · omega
    rw [torn_step l fr i hlt _ rfl] at d6 ⊢
    simp [go_sem]
    exact ⟨⟨i + 1, hlt, by omega, (m'.trans m5').on s6.mod (fun b hb => .inr (f' b hb)), F6, d6, fun b hb => by
      have h5 := m5.size
      rw [size_drew] at h5
      rcases s6.sub b hb with h | h
      · exact f' b h
      · omega⟩, by omega⟩
  · obtain rfl : i = l.length := by omega
    simp [go_sem, hlt]
    refine JoinW.at (fun s W' => s = (.int .i64 (sp fr l.length), ()) ∧ W' = W) ?_ ?_
    · by_cases h : l.length ≤ fr
      · simp [h, sp, Nat.not_lt.2 h]
      · simp [h, sp, Nat.lt_of_not_le h]
    rintro _ W' ⟨rfl, rfl⟩
    unfold J3_6
    intro _
    have hsp : sp fr l.length ≤ l.length := by unfold sp; split <;> omega
    obtain ⟨k1, k2⟩ := hk
    refine ca_crash (keep := keep) (torn := torn) dW (by have := tornD_waits l fr l.length; omega) (by omega) (ht.mod mW fun _ _ h => h) (fun b hb => ⟨fun h => ?_, ?_⟩) fun w2 F2 d2 s2 => ?_
    · have h1 := fW b h
      have h2 := ht.lt hb
      omega
    · have h2 := ht.lt hb
      have h3 := mW.size
      omega
    rw [torn_crash l fr keep torn hsp] at d2
    have m2 : Mod (fun _ => False) w w2 := mW.on s2.mod (fun b hb => .inr (fW b hb))
    have f2 : ∀ b, F2 b → w.heap.size ≤ b := fun b hb => by
      have := mW.size
      rcases s2.sub b hb with h | h
      · exact fW b h
      · omega
    clear s2 fW mW dW
    simp [go_sem]
    have hw1 : IntKind.i64.wrap ((l.length : Int) - (sp fr l.length : Nat)) = ((l.length - sp fr l.length : Nat) : Int) := by rw [IntKind.wrap_i64]; omega
    simp [go_sem, hw1]
    refine JoinW.at (fun s W' => s = (.int .i64 (tornN l (sp fr l.length) keep), ()) ∧ W' = w2) ?_ ?_
    · unfold tornN
      by_cases h : keep < l.length - sp fr l.length
      · have hw2 : IntKind.i64.wrap ((sp fr l.length : Int) + (keep : Int)) = ((sp fr l.length + keep : Nat) : Int) := by rw [IntKind.wrap_i64]; omega
        simp [h, hw2]
      · simp [h]
    rintro _ W' ⟨rfl, rfl⟩
    have hn : tornN l (sp fr l.length) keep ≤ l.length := by unfold tornN; split <;> omega
    generalize tornN l (sp fr l.length) keep = n at d2 hn
    unfold J3_5
    intro _
    refine rx_bigA (by kernel_rfl) ?_
    have hz : zeroC Try.prog 33 = bv (wantL 20 l 0) := by rw [wantL]; kernel_rfl
    rw [hz]
    have hp0 : hp (W'.alloc (.cells (bv (wantL 20 l 0)).toArray 33)) W'.heap.size = some (.cells (bv (wantL 20 l 0)).toArray 33 (0, 0)) := by simp [go_sem]
    have m3 : Mod (fun _ => False) W' (W'.alloc (.cells (bv (wantL 20 l 0)).toArray 33)) := (Mod.refl _ W').alloc _
    generalize W'.alloc (.cells (bv (wantL 20 l 0)).toArray 33) = w3 at hp0 m3
    obtain ⟨p, hpp⟩ : ∃ p, W'.heap.size = p := ⟨_, rfl⟩
    have hpl : w.heap.size ≤ p := by rw [← hpp]; exact m2.size
    have d3 := d2.mod m3 fun _ _ h => h
    have f3 : ∀ b, F2 b → b ≠ p := fun b hb => by have := d2.lt hb; omega
    have m4 := m2.trans m3
    rw [hpp] at hp0 ⊢
    clear m2 m3 d2 hpp
    unfold L3_4
    refine loopW (fun s W => ∃ i : Nat, i ≤ n ∧ s = (.int .i64 i, ()) ∧ Mod (fun _ => False) w W ∧ DiskR W w.heap.size F2 { DM.new with lasts := tornL l n torn } ∧ hp W p = some (.cells (bv (wantL 20 l i)).toArray 33 (0, 0)))
      (fun s _ => match s.1 with | .int _ i => n - i.toNat | _ => 0) ⟨0, by omega, rfl, m4, d3, hp0⟩ ?_
    clear hp0 d3 m4
    rintro ⟨_, _⟩ W ⟨i, hi, ⟨⟩, mW, dW, hW⟩ _
    have hw1 : IntKind.i64.wrap ((i : Int) + 1) = ((i + 1 : Nat) : Int) := by rw [IntKind.wrap_i64]; omega
    by_cases hlt : i < n
    · obtain ⟨b, off, cap, C, e, fz, hv, hC, hCi⟩ := rd_at hl (show i < l.length by omega)
      rw [hv]
      have hCi' : C[off + i]? = some (.int .i64 (l[i]'(by omega))) := by rw [hCi]; simp [iv, show i < l.length by omega]
      have hC' : hp W b = some (.cells C e fz) := mW.keep hC id
      have hw2 : IntKind.u8.wrap (((i + 1 : Nat) : Int)) = ((i + 1 : Nat) : Int) % 256 := by rw [IntKind.wrap_u8]
      have hw3 : ((i + 1 : Nat) : Int) % 256 = ((UInt8.ofNat (i + 1)).toNat : Int) := by simp
      have hsl := slot_lt (k := 20) (by omega) (l[i]'(by omega))
      have hin : ((slot 20 (l[i]'(by omega)) : Nat) : Int) < 20 := by omega
      have hwl := wantL_length 20 l i
      simp [-Int.natCast_add, go_sem, hC', hCi', hw1, hw2, c20, hlt, show i < l.length by omega, hin, hsl, hW, hwl]
      rw [hw3]
      have mS : Mod (fun b => b = p) W (W.setCell ⟨p, slot 20 (l[i]'(by omega)), none⟩ (.int .u8 ((UInt8.ofNat (i + 1)).toNat : Int))) := (Mod.refl (fun b => b = p) W).setCell (b := p) (.inl (by simp)) _ _
      refine ⟨⟨i + 1, hlt, rfl, mW.setCell (.inr hpl) _ _, dW.mod mS f3, ?_⟩, by omega⟩
      simp only [wantL, List.getElem?_eq_getElem (show i < l.length by omega)]
      simp [bv, List.map_set]
    · have hni : n = i := by omega
      subst hni
      simp [go_sem, hlt]
      unfold L3_3
      refine loopW (fun s W => ∃ (j str : Nat) (x : Value), j ≤ 20 ∧ s = (x, .int .i64 str, .int .i64 j, ()) ∧ str ≤ 1 ∧ (str = 0 ∨ ∃ h : n < l.length, slot 20 l[n] < j) ∧ Mod (fun _ => False) w W ∧ DiskR W w.heap.size F2 { DM.new with lasts := tornL l n torn } ∧
          hp W p = some (.cells (bv (wantL 20 l n)).toArray 33 (0, 0)))
        (fun s _ => match s.2.2.1 with | .int _ j => 20 - j.toNat | _ => 0) ⟨0, 0, _, by omega, rfl, by omega, .inl rfl, mW, dW, hW⟩ ?_
      clear hW dW mW hw1 hlt hi
      rintro ⟨_, _⟩ W ⟨j, str, x, hj, ⟨⟩, hs1, hs2, mW, dW, hW⟩ _
      have hw1 : IntKind.i64.wrap ((j : Int) + 1) = ((j + 1 : Nat) : Int) := by rw [IntKind.wrap_i64]; omega
      have hw2 : IntKind.i64.wrap ((str : Int) + 1) = ((str + 1 : Nat) : Int) := by rw [IntKind.wrap_i64]; omega
      by_cases hlt : j < 20
      · have hlt' : (j : Int) < 20 := by omega
        simp [-Int.natCast_add, go_sem, hlt']
        refine JoinW.on ?_
        refine ca_read dW (by simp [DM.new]) (by simp [DM.new]) (by intro _ h; simp [mayB] at h; omega) fun _ _ w5 v5 o5 m5 n5 => ?_
        rw [show Int.toNat 1 = 1 from rfl] at o5
        have hrd := torn_read l n hn torn j hlt
        obtain ⟨B, hB⟩ : ∃ B, ({ DM.new with lasts := tornL l n torn } : DM).readB 2 j 1 = B := ⟨_, rfl⟩
        have hB' : DM.readB { DM.new with lasts := tornL l n torn } 2 j 1 = B := hB
        rw [hB'] at o5
        rw [hB] at hrd
        clear hB hB'
        have hwl := wantL_length 20 l n
        have hgj : (wantL 20 l n)[j]? = some ((wantL 20 l n).getD j 0) := by rw [List.getElem?_eq_getElem (by omega)]; simp [List.getD, show j < (wantL 20 l n).length by omega]
        have hbj : (bv (wantL 20 l n))[j]? = some (.int .u8 ((wantL 20 l n).getD j 0).toNat) := by rw [bv, List.getElem?_map, hgj]; rfl
        generalize (wantL 20 l n).getD j 0 = c at hrd hgj hbj
        have h5 : hp w5 p = some (.cells (bv (wantL 20 l n)).toArray 33 (0, 0)) := m5.keep hW id
        simp [-Int.natCast_add, go_sem]
        refine rdX_toStr Try.underlying23 Try.underlying5 Try.underlying9 (o5.mod ((Mod.refl (fun _ => False) _).drew) fun _ _ h => h).rd ?_
        obtain ⟨CW, hCW⟩ : ∃ CW, (bv (wantL 20 l n)).toArray = CW := ⟨_, rfl⟩
        have h5' : hp w5 p = some (.cells CW 33 (0, 0)) := by rw [h5, hCW]
        have hcj : CW[j]? = some (.int .u8 c.toNat) := by rw [← hCW, List.getElem?_toArray]; exact hbj
        simp [-Int.natCast_add, go_sem, hlt', hlt, h5', hcj]
        refine ca_sector fun w6 v6 o6 m6 n6 => ?_
        have m56 : Mod (fun _ => False) w5 w6 := ((Mod.refl _ w5).drew).trans m6
        refine ⟨run_toStr Try.underlying23 Try.underlying5 Try.underlying9 (o5.mod m56 fun _ _ h => h).rd, ?_⟩
        refine rdX_toStr Try.underlying23 Try.underlying5 Try.underlying9 o6.rd ?_
        have mz := (mW.trans m5).trans m56
        have dz := dW.mod (m5.trans m56) fun _ _ h => h
        have hz6 : hp w6 p = some (.cells (bv (wantL 20 l n)).toArray 33 (0, 0)) := m56.keep h5 id
        by_cases heq : B = secOf c
        · simp [-Int.natCast_add, go_sem, heq]
          unfold J3_2
          simp [-Int.natCast_add, go_sem, hw1]
          exact ⟨⟨j + 1, hlt, str, ⟨rfl, rfl⟩, hs1, hs2.imp_right fun ⟨h, h'⟩ => ⟨h, by omega⟩, mz, dz, hz6⟩, by omega⟩
        · obtain ⟨hnl, htn, hsl⟩ := hrd.resolve_left heq
          have hs0 : str = 0 := hs2.resolve_right (fun ⟨h, h'⟩ => by omega)
          subst hs0
          simp [-Int.natCast_add, go_sem, heq]
          refine JoinW.at (fun s W' => s = (.bool false, ()) ∧ W' = w6) ?_ ?_
          · obtain ⟨b, off, cap, C, e, fz, hv, hC, hCi⟩ := rd_at hl hnl
            rw [hv]
            have hCi' : C[off + n]? = some (.int .i64 l[n]) := by rw [hCi]; simp [iv, hnl]
            have hC' : hp w6 b = some (.cells C e fz) := mz.keep hC id
            have htl : ¬ torn.length = 0 := by simpa using htn
            simp [-Int.natCast_add, go_sem, Nat.not_le.2 hnl, hnl, hC', hCi', c20, hsl, htn]
          rintro _ W' ⟨rfl, rfl⟩
          unfold J3_1 J3_2
          have hw0 : IntKind.i64.wrap 1 = 1 := by decide
          simp [-Int.natCast_add, go_sem, hw1, hw0]
          exact ⟨⟨j + 1, hlt, 1, ⟨rfl, rfl⟩, by omega, .inr ⟨hnl, by omega⟩, mz, dz, hz6⟩, by omega⟩
      · obtain rfl : j = 20 := by omega
        have hs1' : (str : Int) ≤ 1 := by omega
        simp [go_sem, hs1']
        exact ca_known fun w' m' => hK _ (mW.trans m')
end Go.Proofs

namespace Go.Proofs
open Go Go.Vc

def sinceL (k : Nat) (l : List Int) : Nat → List Bool
  | 0 => List.replicate k false
  | n + 1 => match l[n]? with
    | some x => (sinceL k l n).set (slot k x) true
    | none => sinceL k l n
theorem sinceL_length (k : Nat) (l : List Int) : ∀ n, (sinceL k l n).length = k
  | 0 => by simp [sinceL]
  | n + 1 => by
    simp only [sinceL]
    split
    · rw [List.length_set, sinceL_length k l n]
    · exact sinceL_length k l n
theorem since_no {k : Nat} (l : List Int) (j : Nat) (hj : j < k) : ∀ n, n ≤ l.length → (sinceL k l n).getD j true = false → ∀ i (hi : i < n) (h : i < l.length), slot k l[i] ≠ j
  | 0, _, _, i, hi, _ => by omega
  | n + 1, hn, h0, i, hi, h => by
    simp only [sinceL, List.getElem?_eq_getElem (show n < l.length by omega)] at h0
    have hne : slot k l[n] ≠ j := by
      intro e
      rw [e] at h0
      simp [List.getD, sinceL_length, hj] at h0
    by_cases e : i = n
    · subst e; exact hne
    · refine since_no l j hj n (by omega) ?_ i (by omega) h
      simpa [List.getD, List.getElem?_set, hne] using h0

theorem lk_putL {L ws : List (Pl × Sec)} {k : Pl} (h : ∀ p ∈ ws, p.1 ≠ k) : lk (putL L ws) k = lk L k := by
  induction ws generalizing L with
  | nil => rfl
  | cons p ws ih =>
    show lk (putL (put L p.1 p.2) ws) k = _
    rw [ih fun q hq => h q (List.mem_cons_of_mem _ hq), lk_put, if_neg (h p List.mem_cons_self)]

def syncD1 (l : List Int) (i : Nat) : DM := { DM.new with waits := (wsT 1 30 1 l).take i }
def syncD2 (l l' : List Int) (i : Nat) : DM := { DM.new with lasts := putL [] (wsT 1 30 1 l), waits := (wsT 1 30 100 l').take i }
theorem sync_step1 (l : List Int) (i : Nat) (hi : i < l.length) : (syncD1 l i).write 1 (slot 30 l[i]) (secOf (UInt8.ofNat (i + 1))) = (0, syncD1 l (i + 1)) := by
  have hsl := slot_lt (k := 30) (by omega) l[i]
  have hm : mayB 1 (slot 30 l[i]) 1 = true := by simp [mayB]; omega
  rw [write_one rfl rfl (secOf_length _) hm]
  simp only [syncD1]
  rw [List.take_succ_eq_append_getElem (by rw [wsT_length]; omega), wsT_get _ _ _ _ _ hi]
theorem sync_sync (l l' : List Int) : (syncD1 l l.length).sync = (0, syncD2 l l' 0) := by
  rw [sync_one rfl rfl]
  simp [syncD1, syncD2, DM.new, List.take_of_length_le, wsT_length]
theorem sync_step2 (l l' : List Int) (i : Nat) (hi : i < l'.length) : (syncD2 l l' i).write 1 (slot 30 l'[i]) (secOf (UInt8.ofNat (i + 100))) = (0, syncD2 l l' (i + 1)) := by
  have hsl := slot_lt (k := 30) (by omega) l'[i]
  have hm : mayB 1 (slot 30 l'[i]) 1 = true := by simp [mayB]; omega
  rw [write_one rfl rfl (secOf_length _) hm]
  simp only [syncD2]
  rw [List.take_succ_eq_append_getElem (by rw [wsT_length]; omega), wsT_get _ _ _ _ _ hi]

theorem sync_read (l l' : List Int) (keep : Nat) (torn : List UInt8) (j : Nat) (hj : j < 30) (hs : (sinceL 30 l' l'.length).getD j true = false) :
    ((syncD2 l l' l'.length).crash keep torn).readB 1 j 1 = secOf ((wantL 30 l l.length).getD j 0) := by
  have hno := since_no l' j hj l'.length (Nat.le_refl _) hs
  have hw : ∀ p ∈ wsT 1 30 100 l', p.1 ≠ (1, (j : Int)) := by
    intro p hp e
    obtain ⟨i, hi, rfl⟩ := List.getElem_of_mem hp
    have hi' : i < l'.length := by rwa [wsT_length] at hi
    rw [wsT_get _ _ _ _ _ hi'] at e
    simp at e
    exact hno i hi' hi' (by omega)
  have hwant := want_sec 1 (by omega) l j hj l.length (Nat.le_refl _)
  rw [List.take_of_length_le (by rw [wsT_length]; exact Nat.le_refl _)] at hwant
  rw [← hwant]
  have e : ∀ D : DM, D.waits = [] → D.readB 1 j 1 = (lk D.lasts (1, (j : Int))).getD zsec := by
    intro D h
    simp [DM.readB, DM.secAt, h, putL]
  rw [e _ rfl]
  congr 1
  simp only [DM.crash]
  have e1 : (syncD2 l l' l'.length).waits = wsT 1 30 100 l' := by simp [syncD2, List.take_of_length_le, wsT_length]
  have e2 : (syncD2 l l' l'.length).lasts = putL [] (wsT 1 30 1 l) := rfl
  rw [e1, e2]
  have e3 : lk (putL (putL [] (wsT 1 30 1 l)) ((wsT 1 30 100 l').take keep)) (1, (j : Int)) = lk (putL [] (wsT 1 30 1 l)) (1, (j : Int)) := lk_putL fun p hp => hw p (List.mem_of_mem_take hp)
  split
  · rename_i p hp
    split
    · exact e3
    · rw [lk_put, if_neg (hw p (List.mem_of_getElem? hp)), e3]
  · exact e3

set_option maxRecDepth 10000 in
theorem ca_synced {w : World} {K : Kont} {l l' : List Int} {a0 a1 a3 : Value} {keep : Int} {torn : List UInt8}
    (hl : Rd w 1 a0 l.length (iv l)) (hl' : Rd w 1 a1 l'.length (iv l')) (hk : R64 keep)
    (ht : Rd w 1 a3 torn.length (bv torn))
    (hK : ∀ w', Mod (fun _ => False) w w' → K (.bool true) w') : Ca Try.prog 4 #[a0, a1, .int .i64 keep, a3] w K := by
  obtain ⟨la, lc, rfl⟩ := Rd.isSl hl
  obtain ⟨la', lc', rfl⟩ := Rd.isSl hl'
  obtain ⟨ta, tc, rfl⟩ := Rd.isSl ht
  apply ca4
  unfold F4
  refine JoinW.at (fun s w' => w = w' ∧ s = (.bool (decide ((60 : Int) < l.length ∨ (30 : Int) < l'.length ∨ (1000 : Int) < torn.length ∨ keep < 0)), ())) ?_ ?_
  · simp [go_sem]
    by_cases h1 : (60 : Int) < l.length
    · simp [h1]
    · simp [h1]
      by_cases h3 : (30 : Int) < l'.length
      · simp [h3]
      · simp [h3]
        by_cases h2 : (1000 : Int) < torn.length
        · simp [h2]
        · simp [h2]
  rintro _ _ ⟨rfl, rfl⟩
  unfold J4_6
  intro _
  by_cases hb : (60 : Int) < l.length ∨ (30 : Int) < l'.length ∨ (1000 : Int) < torn.length ∨ keep < 0
  · simp [go_sem, hb]
    exact ca_known hK
  simp [go_sem, hb]
  refine ca_new fun w1 d1 m1 => ?_
  obtain ⟨keep, rfl⟩ : ∃ k : Nat, keep = k := ⟨keep.toNat, by omega⟩
  have c30 : ∀ x, IntKind.i64.wrap ((IntKind.u64.wrap x).tmod 30) = (slot 30 x : Int) := by
    intro x
    rw [IntKind.wrap_u64, Int.tmod_eq_emod_of_nonneg (by omega), show (30 : Int) = ((30 : Nat) : Int) from rfl, slot_eq (by omega), IntKind.wrap_i64]
    have := slot_lt (k := 30) (by omega) x
    omega
  refine rx_bigA (by kernel_rfl) ?_
  have hz : zeroC Try.prog 37 = bv (wantL 30 l 0) := by rw [wantL]; kernel_rfl
  rw [hz]
  have hp0 : hp (w1.alloc (.cells (bv (wantL 30 l 0)).toArray 37)) w1.heap.size = some (.cells (bv (wantL 30 l 0)).toArray 37 (0, 0)) := by simp [go_sem]
  have m2 : Mod (fun _ => False) w1 (w1.alloc (.cells (bv (wantL 30 l 0)).toArray 37)) := (Mod.refl _ w1).alloc _
  generalize w1.alloc (.cells (bv (wantL 30 l 0)).toArray 37) = w2 at hp0 m2
  obtain ⟨p, hpp⟩ : ∃ p, w1.heap.size = p := ⟨_, rfl⟩
  have hpl : w.heap.size < p := by rw [← hpp]; exact d1.lt rfl
  have d2 := d1.mod m2 fun _ _ h => h
  have m3 := m1.trans m2
  have hp2 : p < w2.heap.size := by rw [← hpp]; exact lt_of_heap hp0
  rw [hpp] at hp0 ⊢
  clear m1 m2 d1 hpp
  unfold L4_5
  refine loopW (fun s W => ∃ i F x, i ≤ l.length ∧ s = (x, .int .i64 i, ()) ∧ Mod (fun _ => False) w W ∧ DiskR W w.heap.size F (syncD1 l i) ∧ (∀ b, F b → b = w.heap.size ∨ p < b) ∧
      hp W p = some (.cells (bv (wantL 30 l i)).toArray 37 (0, 0)))
    (fun s _ => match s.2.1 with | .int _ i => l.length - i.toNat | _ => 0) ⟨0, _, _, by omega, rfl, m3, d2, fun b hb => by omega, hp0⟩ ?_
  clear m3 d2 hp0 hp2
  rintro ⟨_, _⟩ W ⟨i, F, x, hi, ⟨⟩, mW, dW, fW, hW⟩ _
  have hw1 : IntKind.i64.wrap ((i : Int) + 1) = ((i + 1 : Nat) : Int) := by rw [IntKind.wrap_i64]; omega
  by_cases hlt : i < l.length
  · obtain ⟨b, off, cap, C, e, fz, hv, hC, hCi⟩ := rd_at hl hlt
    rw [hv]
    have hCi' : C[off + i]? = some (.int .i64 l[i]) := by rw [hCi]; simp [iv, hlt]
    have hC' : hp W b = some (.cells C e fz) := mW.keep hC id
    have hw2 : IntKind.u8.wrap (((i + 1 : Nat) : Int)) = ((i + 1 : Nat) : Int) % 256 := by rw [IntKind.wrap_u8]
    have hw3 : ((i + 1 : Nat) : Int) % 256 = ((UInt8.ofNat (i + 1)).toNat : Int) := by simp
    have hsl := slot_lt (k := 30) (by omega) l[i]
    have hin : ((slot 30 l[i] : Nat) : Int) < 30 := by omega
    have hwl := wantL_length 30 l i
    simp [-Int.natCast_add, go_sem, hC', hCi', hw1, hw2, c30, hlt, hin, hsl, hW, hwl]
    rw [hw3]
    have mS : Mod (fun b => b = p) W (W.setCell ⟨p, slot 30 l[i], none⟩ (.int .u8 ((UInt8.ofNat (i + 1)).toNat : Int))) := (Mod.refl (fun b => b = p) W).setCell (b := p) (.inl (by simp)) _ _
    have hS : hp (W.setCell ⟨p, slot 30 l[i], none⟩ (.int .u8 ((UInt8.ofNat (i + 1)).toNat : Int))) p = some (.cells (bv (wantL 30 l (i + 1))).toArray 37 (0, 0)) := by
      simp only [wantL, List.getElem?_eq_getElem hlt]
      simp [-Int.natCast_add, go_sem, hW, bv, List.map_set]
    generalize W.setCell ⟨p, slot 30 l[i], none⟩ (.int .u8 ((UInt8.ofNat (i + 1)).toNat : Int)) = W2 at mS hS
    have dS := dW.mod mS fun b hb => by have := fW b hb; omega
    have mS' : Mod (fun _ => False) w W2 := mW.on mS fun b hb => .inr (by omega)
    refine ca_sector fun w5 v5 o5 m5 n5 => ?_
    refine ca_write (dS.mod m5 fun _ _ h => h) o5.rd (fun b' hb' => ⟨fun h => ?_, (n5 b' hb'.sl).2⟩) (by rw [secOf_length]; decide) ?_ fun w6 F6 d6 s6 => ?_
    · have h1 := (n5 b' hb'.sl).1
      have h2 := dS.lt h
      omega
    · simp [syncD1]; omega
    rw [sync_step1 l i hlt] at d6 ⊢
    have lS := lt_of_heap hS
    have l5 := m5.size
    simp [go_sem]
    exact ⟨⟨i + 1, hlt, by omega, (mS'.trans m5).on s6.mod (fun b hb => .inr (by have := fW b hb; omega)), F6, d6, (fun b hb => by
      rcases s6.sub b hb with h | h
      · exact fW b h
      · omega), s6.mod.keep (m5.keep hS id) (fun h => by have := fW p h; omega)⟩, by omega⟩
  · have hil : i = l.length := by omega
    subst hil
    simp [go_sem, hlt]
    have ho : ∀ b, F b → w.heap.size ≤ b := fun b hb => by have := fW b hb; omega
    refine JoinW.at (fun s W' => s = (.bool false, ()) ∧ Mod (fun _ => False) w W' ∧ ∃ F', DiskR W' w.heap.size F' (syncD2 l l' 0) ∧ (∀ b, F' b → b = w.heap.size ∨ p < b) ∧ hp W' p = some (.cells (bv (wantL 30 l l.length)).toArray 37 (0, 0))) ?_ ?_
    · refine ca_sync dW (by simp [syncD1, wsT_length]; omega) fun w5 F5 d5 s5 => ?_
      rw [sync_sync l l'] at d5 ⊢
      simp [go_sem]
      refine ca_waits d5 ?_
      have lS := lt_of_heap hW
      simp [go_sem, syncD2]
      exact ⟨mW.on s5.mod (fun b hb => .inr (ho b hb)), F5, d5, fun b hb => by
        rcases s5.sub b hb with h | h
        · exact fW b h
        · omega, s5.mod.keep hW (fun h => by have := fW p h; omega)⟩
    clear mW dW fW hW ho
    rintro _ W ⟨rfl, mW, F, dW, fW, hW⟩
    unfold J4_4
    intro _
    simp [go_sem]
    refine rx_bigA (by kernel_rfl) ?_
    have hz2 : zeroC Try.prog 39 = (sinceL 30 l' 0).map (.bool ·) := by rw [sinceL]; kernel_rfl
    rw [hz2]
    have hq0 : hp (W.alloc (.cells ((sinceL 30 l' 0).map (.bool ·)).toArray 39)) W.heap.size = some (.cells ((sinceL 30 l' 0).map (.bool ·)).toArray 39 (0, 0)) := by simp [go_sem]
    have m2 : Mod (fun _ => False) W (W.alloc (.cells ((sinceL 30 l' 0).map (.bool ·)).toArray 39)) := (Mod.refl _ W).alloc _
    generalize W.alloc (.cells ((sinceL 30 l' 0).map (.bool ·)).toArray 39) = w2 at hq0 m2
    obtain ⟨q, hqq⟩ : ∃ q, W.heap.size = q := ⟨_, rfl⟩
    have hpq : p < q := by rw [← hqq]; exact lt_of_heap hW
    have d2 := dW.mod m2 fun _ _ h => h
    have m3 := mW.trans m2
    have f2 : ∀ b, F b → b = w.heap.size ∨ (p < b ∧ b ≠ q) := fun b hb => by have h1 := dW.lt hb; have h2 := fW b hb; omega
    have hW2 := m2.keep hW id
    rw [hqq] at hq0 ⊢
    clear m2 hqq mW dW fW hW hlt hw1 hi
    unfold L4_3
    refine loopW (fun s W => ∃ i F x, i ≤ l'.length ∧ s = (x, .int .i64 i, ()) ∧ Mod (fun _ => False) w W ∧ DiskR W w.heap.size F (syncD2 l l' i) ∧ (∀ b, F b → b = w.heap.size ∨ (p < b ∧ b ≠ q)) ∧
        hp W p = some (.cells (bv (wantL 30 l l.length)).toArray 37 (0, 0)) ∧ hp W q = some (.cells ((sinceL 30 l' i).map (.bool ·)).toArray 39 (0, 0)))
      (fun s _ => match s.2.1 with | .int _ i => l'.length - i.toNat | _ => 0) ⟨0, _, _, by omega, rfl, m3, d2, f2, hW2, hq0⟩ ?_
    clear m3 d2 f2 hW2 hq0
    rintro ⟨_, _⟩ W ⟨i, F, x, hi, ⟨⟩, mW, dW, fW, hW, hQ⟩ _
    have hw1 : IntKind.i64.wrap ((i : Int) + 1) = ((i + 1 : Nat) : Int) := by rw [IntKind.wrap_i64]; omega
    have hw1' : IntKind.i64.wrap (100 + (i : Int)) = ((i + 100 : Nat) : Int) := by rw [IntKind.wrap_i64]; omega
    by_cases hlt : i < l'.length
    · obtain ⟨b, off, cap, C, e, fz, hv, hC, hCi⟩ := rd_at hl' hlt
      rw [hv]
      have hCi' : C[off + i]? = some (.int .i64 l'[i]) := by rw [hCi]; simp [iv, hlt]
      have hC' : hp W b = some (.cells C e fz) := mW.keep hC id
      have hw2 : IntKind.u8.wrap (((i + 100 : Nat) : Int)) = ((i + 100 : Nat) : Int) % 256 := by rw [IntKind.wrap_u8]
      have hw3 : ((i + 100 : Nat) : Int) % 256 = ((UInt8.ofNat (i + 100)).toNat : Int) := by simp
      have hsl := slot_lt (k := 30) (by omega) l'[i]
      have hin : ((slot 30 l'[i] : Nat) : Int) < 30 := by omega
      have hwl := sinceL_length 30 l' i
      simp [-Int.natCast_add, go_sem, hC', hCi', hw1, hw1', hw2, c30, hlt, hin, hsl, hQ, hwl]
      rw [hw3]
      have mS : Mod (fun b => b = q) W (W.setCell ⟨q, slot 30 l'[i], none⟩ (.bool true)) := (Mod.refl (fun b => b = q) W).setCell (b := q) (.inl (by simp)) _ _
      have hS : hp (W.setCell ⟨q, slot 30 l'[i], none⟩ (.bool true)) q = some (.cells ((sinceL 30 l' (i + 1)).map (.bool ·)).toArray 39 (0, 0)) := by
        simp only [sinceL, List.getElem?_eq_getElem hlt]
        simp [go_sem, hQ, List.map_set]
      have hS2 : hp (W.setCell ⟨q, slot 30 l'[i], none⟩ (.bool true)) p = some (.cells (bv (wantL 30 l l.length)).toArray 37 (0, 0)) := mS.keep hW (by show ¬ _ = _; omega)
      generalize W.setCell ⟨q, slot 30 l'[i], none⟩ (.bool true) = W2 at mS hS hS2
      have dS := dW.mod mS fun b hb => by have := fW b hb; omega
      have mS' : Mod (fun _ => False) w W2 := mW.on mS fun b hb => .inr (by omega)
      refine ca_sector fun w5 v5 o5 m5 n5 => ?_
      refine ca_write (dS.mod m5 fun _ _ h => h) o5.rd (fun b' hb' => ⟨fun h => ?_, (n5 b' hb'.sl).2⟩) (by rw [secOf_length]; decide) ?_ fun w6 F6 d6 s6 => ?_
      · have h1 := (n5 b' hb'.sl).1
        have h2 := dS.lt h
        omega
      · simp [syncD2]; omega
      rw [sync_step2 l l' i hlt] at d6 ⊢
      have lS := lt_of_heap hS
      have l5 := m5.size
      simp [go_sem]
      exact ⟨⟨i + 1, hlt, by omega, (mS'.trans m5).on s6.mod (fun b hb => .inr (by have := fW b hb; omega)), F6, d6, (fun b hb => by
        rcases s6.sub b hb with h | h
        · exact fW b h
        · omega), s6.mod.keep (m5.keep hS2 id) (fun h => by have := fW p h; omega), s6.mod.keep (m5.keep hS id) (fun h => by have := fW q h; omega)⟩, by omega⟩
    · have hil : i = l'.length := by omega
      subst hil
      simp [go_sem, hlt]
      refine JoinW.at (fun s W' => s = (.bool false, ()) ∧ Mod (fun _ => False) w W' ∧ ∃ F', DiskR W' w.heap.size F' ((syncD2 l l' l'.length).crash keep torn) ∧
        hp W' p = some (.cells (bv (wantL 30 l l.length)).toArray 37 (0, 0)) ∧ hp W' q = some (.cells ((sinceL 30 l' l'.length).map (.bool ·)).toArray 39 (0, 0))) ?_ ?_
      · refine ca_waits dW ?_
        have hwl : (syncD2 l l' l'.length).waits.length = l'.length := by simp [syncD2, wsT_length]
        simp [go_sem, hwl]
        obtain ⟨k1, k2⟩ := hk
        refine ca_crash (keep := keep) (torn := torn) dW (by omega) (by omega) (ht.mod mW fun _ _ h => h) (fun b hb => ⟨fun h => ?_, ?_⟩) fun w5 F5 d5 s5 => ?_
        · have h1 := fW b h
          have h2 := ht.lt hb
          omega
        · have h2 := ht.lt hb
          have h3 := mW.size
          omega
        simp [go_sem]
        exact ⟨mW.on s5.mod (fun b hb => .inr (by have := fW b hb; omega)), ⟨F5, d5⟩, s5.mod.keep hW (fun h => by have := fW p h; omega), s5.mod.keep hQ (fun h => by have := fW q h; omega)⟩
      clear mW dW fW hW hQ hlt hi hw1 hw1'
      rintro _ W ⟨rfl, mW, F, dW, hW, hQ⟩
      unfold J4_2
      intro _
      simp [go_sem]
      unfold L4_1
      refine loopW (fun s W => ∃ (j : Nat) (x : Value), j ≤ 30 ∧ s = (x, .int .i64 j, ()) ∧ Mod (fun _ => False) w W ∧ DiskR W w.heap.size F ((syncD2 l l' l'.length).crash keep torn) ∧
          hp W p = some (.cells (bv (wantL 30 l l.length)).toArray 37 (0, 0)) ∧ hp W q = some (.cells ((sinceL 30 l' l'.length).map (.bool ·)).toArray 39 (0, 0)))
        (fun s _ => match s.2.1 with | .int _ j => 30 - j.toNat | _ => 0) ⟨0, _, by omega, rfl, mW, dW, hW, hQ⟩ ?_
      clear mW dW hW hQ
      rintro ⟨_, _⟩ W ⟨j, x, hj, ⟨⟩, mW, dW, hW, hQ⟩ _
      have hw1 : IntKind.i64.wrap ((j : Int) + 1) = ((j + 1 : Nat) : Int) := by rw [IntKind.wrap_i64]; omega
      by_cases hlt : j < 30
      · have hlt' : (j : Int) < 30 := by omega
        simp [-Int.natCast_add, go_sem, hlt']
        refine ca_read dW (by simp [DM.crash]) (by simp [DM.crash, syncD2, DM.new]) (by intro _ h; simp [mayB] at h; omega) fun _ _ w5 v5 o5 m5 n5 => ?_
        rw [show Int.toNat 1 = 1 from rfl] at o5
        have hrd := sync_read l l' keep torn j hlt
        generalize ((syncD2 l l' l'.length).crash keep torn).readB 1 j 1 = B at hrd o5
        have hwl := wantL_length 30 l l.length
        have hgj : (wantL 30 l l.length)[j]? = some ((wantL 30 l l.length).getD j 0) := by rw [List.getElem?_eq_getElem (by omega)]; simp [List.getD, show j < (wantL 30 l l.length).length by omega]
        have hsl := sinceL_length 30 l' l'.length
        have hsj : (sinceL 30 l' l'.length)[j]? = some ((sinceL 30 l' l'.length).getD j true) := by rw [List.getElem?_eq_getElem (by omega)]; simp [List.getD, show j < (sinceL 30 l' l'.length).length by omega]
        generalize (wantL 30 l l.length).getD j 0 = c at hrd hgj
        generalize (sinceL 30 l' l'.length).getD j true = sb at hrd hsj
        obtain ⟨CW, hCW⟩ : ∃ CW, (bv (wantL 30 l l.length)).toArray = CW := ⟨_, rfl⟩
        obtain ⟨CQ, hCQ⟩ : ∃ CQ, ((sinceL 30 l' l'.length).map (Value.bool ·)).toArray = CQ := ⟨_, rfl⟩
        have h5 : hp w5 p = some (.cells CW 37 (0, 0)) := by rw [← hCW]; exact m5.keep hW id
        have h6 : hp w5 q = some (.cells CQ 39 (0, 0)) := by rw [← hCQ]; exact m5.keep hQ id
        have hcj : CW[j]? = some (.int .u8 c.toNat) := by rw [← hCW, List.getElem?_toArray, bv, List.getElem?_map, hgj]; rfl
        have hqj : CQ[j]? = some (.bool sb) := by rw [← hCQ, List.getElem?_toArray, List.getElem?_map, hsj]; rfl
        simp only [go_sem]
        refine JoinW.at (fun s W' => s = (.bool false, ()) ∧ Mod (fun _ => False) w5 W') ?_ ?_
        · cases sb
          · simp [-Int.natCast_add, go_sem, hlt', hlt, h6, hqj]
            refine rdX_toStr Try.underlying23 Try.underlying5 Try.underlying9 (o5.mod ((Mod.refl (fun _ => False) _).drew) fun _ _ h => h).rd ?_
            simp [-Int.natCast_add, go_sem, hlt', hlt, h5, hcj]
            refine ca_sector fun w6 v6 o6 m6 n6 => ?_
            have m56 : Mod (fun _ => False) w5 w6 := ((Mod.refl _ w5).drew).trans m6
            refine ⟨run_toStr Try.underlying23 Try.underlying5 Try.underlying9 (o5.mod m56 fun _ _ h => h).rd, ?_⟩
            refine rdX_toStr Try.underlying23 Try.underlying5 Try.underlying9 o6.rd ?_
            simp [go_sem, hrd]
            exact m56
          · simp [-Int.natCast_add, go_sem, hlt', hlt, h6, hqj]
            exact (Mod.refl _ w5).drew
        rintro _ w6 ⟨rfl, m6⟩
        unfold J4_0
        intro _
        simp [-Int.natCast_add, go_sem, hw1]
        exact ⟨⟨j + 1, hlt, rfl, (mW.trans m5).trans m6, (dW.mod m5 fun _ _ h => h).mod m6 fun _ _ h => h, (m5.trans m6).keep hW id, (m5.trans m6).keep hQ id⟩, by omega⟩
      · obtain rfl : j = 30 := by omega
        simp [go_sem]
        exact ca_known fun w' m' => hK _ (mW.trans m')
end Go.Proofs

namespace Go.Proofs
open Go Go.Vc

theorem ca_ready_nil {w : World} {K : Kont} (hK : K (.int .i64 1) w) : Ca Try.prog 54 #[.pointer none] w K := by
  apply ca54
  unfold F54
  simp [go_sem]
  exact hK
theorem ca_write_nil {f a : Int} {v : Value} {w : World} {K : Kont} (hK : ∀ w', Mod (fun _ => False) w w' → K (.int .i64 1) w') : Ca Try.prog 17 #[.pointer none, .int .i64 f, .int .i64 a, v] w K := by
  apply ca17
  unfold F17
  simp [go_sem]
  refine ca_ready_nil ?_
  simp [go_sem]
  exact hK _ (((((Mod.refl _ w).alloc _).alloc _).alloc _).alloc _)
theorem ca_sync_nil {w : World} {K : Kont} (hK : K (.int .i64 1) w) : Ca Try.prog 16 #[.pointer none] w K := by
  apply ca16
  unfold F16
  refine ca_ready_nil ?_
  simp [go_sem]
  exact hK
theorem ca_read_nil {f a n : Int} {w : World} {K : Kont} (hK : K (.tuple #[.slice none 0 0, .int .i64 1]) w) : Ca Try.prog 20 #[.pointer none, .int .i64 f, .int .i64 a, .int .i64 n] w K := by
  apply ca20
  unfold F20
  refine ca_ready_nil ?_
  simp [go_sem]
  exact hK
theorem ca_arm_nil {n : Int} {w : World} {K : Kont} (hK : K (.int .i64 1) w) : Ca Try.prog 25 #[.pointer none, .int .i64 n] w K := by
  apply ca25
  unfold F25
  refine ca_ready_nil ?_
  simp [go_sem]
  exact hK
theorem ca_crash_nil {n : Int} {v : Value} {w : World} {K : Kont} (hK : K (.int .i64 1) w) : Ca Try.prog 19 #[.pointer none, .int .i64 n, v] w K := by
  apply ca19
  unfold F19
  simp [go_sem]
  exact hK
theorem ca_down_nil {w : World} {K : Kont} (hK : K (.bool false) w) : Ca Try.prog 30 #[.pointer none] w K := by
  apply ca30
  unfold F30
  simp [go_sem]
  exact hK
theorem ca_waits_nil {w : World} {K : Kont} (hK : K (.int .i64 0) w) : Ca Try.prog 21 #[.pointer none] w K := by
  apply ca21
  unfold F21
  simp [go_sem]
  exact hK
theorem ca_copy_nil {w : World} {K : Kont} (hK : K (.pointer none) w) : Ca Try.prog 28 #[.pointer none] w K := by
  apply ca28
  unfold F28
  simp [go_sem]
  exact hK

theorem none_write : DM.new.write 1 7 (secOf 97) = (0, { DM.new with waits := [((1, 7), secOf 97)] }) := by kernel_rfl
theorem none_sync : ({ DM.new with waits := [((1, 7), secOf 97)] } : DM).sync = (0, { DM.new with lasts := [((1, 7), secOf 97)] }) := by kernel_rfl
theorem none_read : ({ DM.new with lasts := [((1, 7), secOf 97)] } : DM).readB 1 7 1 = secOf 97 := by kernel_rfl

set_option maxRecDepth 10000 in
theorem ca_none {f a n : Int} {w : World} {K : Kont} (hK : ∀ w', Mod (fun _ => False) w w' → K (.bool true) w') : Ca Try.prog 6 #[.int .i64 f, .int .i64 a, .int .i64 n] w K := by
  apply ca6
  unfold F6
  simp [go_sem]
  generalize hW : w.alloc _ = w1
  have m1 : Mod (fun _ => False) w w1 := by subst hW; exact (Mod.refl _ w).alloc _
  have d1 : DiskR w1 w.heap.size (fun b => b = w.heap.size) DM.new := by subst hW; exact ⟨_, diskQ_new (by show hp _ _ = _; simp [go_sem])⟩
  clear hW
  refine ca_read_nil ?_
  simp [go_sem]
  refine JoinW.at (fun s W => s = (.bool false, ()) ∧ Mod (fun _ => False) w1 W) ?_ ?_
  · refine ca_sector (c := 97) fun w2 v2 o2 m2 n2 => ?_
    refine ca_write_nil fun w3 m3 => ?_
    simp [go_sem]
    refine ca_sync_nil ?_
    simp [go_sem]
    refine ca_arm_nil ?_
    simp [go_sem]
    refine ca_crash_nil ?_
    simp [go_sem]
    refine ca_down_nil ?_
    simp [go_sem]
    refine ca_waits_nil ?_
    simp [go_sem]
    refine ca_copy_nil ?_
    simp [go_sem]
    exact m2.trans m3
  rintro _ w2 ⟨rfl, m2⟩
  have d2 := d1.mod m2 fun _ _ h => h
  have t2 := m1.trans m2
  clear d1 m1 m2
  unfold J6_1
  intro _
  simp [go_sem]
  refine JoinW.at (fun s W => s = (.bool false, ()) ∧ Mod (fun _ => False) w W ∧ ∃ F, DiskR W w.heap.size F { DM.new with lasts := [((1, 7), secOf 97)] }) ?_ ?_
  · refine ca_sector (c := 97) fun w3 v3 o3 m3 n3 => ?_
    have l2 := t2.size
    have d3 := d2.mod m3 fun _ _ h => h
    have l3 := d2.lt rfl
    refine ca_write d3 o3.rd (fun b hb => ⟨fun e => ?_, o3.lt hb.sl⟩) (by simp [secOf]) (by simp [DM.new]) fun w5 F5 d5 s5 => ?_
    · have := (n3 b hb.sl).1
      omega
    rw [none_write] at d5 ⊢
    simp [go_sem]
    refine ca_waits d5 ?_
    simp [go_sem]
    refine ca_sync d5 (by simp) fun w6 F6 d6 s6 => ?_
    rw [none_sync] at d6 ⊢
    simp [go_sem]
    have h3 := m3.size
    exact ⟨((t2.trans m3).on s5.mod (fun b h => .inr (by omega))).on s6.mod (fun b h => .inr (by rcases s5.sub b h with h | h <;> omega)), F6, d6⟩
  rintro _ w3 ⟨rfl, m3, F3, d3⟩
  unfold J6_0
  intro _
  simp [go_sem]
  refine ca_read d3 (by simp [DM.new]) (by simp [DM.new]) (by intro _ h; exact absurd h (by decide)) fun _ _ w9 v9 o9 m9 n9 => ?_
  rw [show (Int.toNat 1) = 1 from rfl, none_read] at o9
  simp [go_sem]
  refine rdX_toStr Try.underlying23 Try.underlying5 Try.underlying9 (o9.mod ((Mod.refl (fun _ => False) _).drew) fun _ _ h => h).rd ?_
  refine ca_sector (c := 97) fun wa va oa ma na => ?_
  have m9a : Mod (fun _ => False) w9 wa := ((Mod.refl _ w9).drew).trans ma
  refine ⟨run_toStr Try.underlying23 Try.underlying5 Try.underlying9 (o9.mod m9a fun _ _ h => h).rd, ?_⟩
  refine rdX_toStr Try.underlying23 Try.underlying5 Try.underlying9 oa.rd ?_
  simp [go_sem]
  exact ca_known fun w' m' => hK _ (((m3.trans m9).trans m9a).trans m')
end Go.Proofs
