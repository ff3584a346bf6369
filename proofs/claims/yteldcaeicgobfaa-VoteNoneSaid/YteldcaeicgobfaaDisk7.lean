/-
  The contracts of the statements' own small functions: sector and known.
  Conditions: none.
-/
import Derived.Test.YteldcaeicgobfaaDisk6
import Derived.Test.YteldcaeicgobfaaG2
set_option linter.unusedSimpArgs false
set_option linter.unusedVariables false
namespace Go.Proofs
open Go Go.Vc

def secOf (c : UInt8) : Sec := c :: List.replicate 127 0
theorem secOf_length (c : UInt8) : (secOf c).length = 128 := by simp [secOf]

theorem ca_sector {c : UInt8} {w : World} {K : Kont} (hK : ∀ w' v, Own w' 5 1 v 128 (bv (secOf c)) → Mod (fun _ => False) w w' → (∀ b, inSl v b → w.heap.size ≤ b ∧ b < w'.heap.size) → K v w') :
    Ca Try.prog 18 #[.int .u8 c.toNat] w K := by
  apply ca18
  unfold F18
  refine rx_make Try.underlying23 (elemT_of uT1) (by omega) (by omega) (by omega) uT2 ?_
  have e3 : (madeCells (Value.int .u8 0).cells (Int.toNat 128 * 1)) = (bv zsec).toArray := by
    apply Array.ext'
    rw [show (Value.int .u8 0).cells = #[.int .u8 0] from rfl, toList_madeCells_one, zsec, bv_replicate]
    rfl
  rw [e3, show Int.toNat 128 = 128 from rfl]
  have hA : hp (w.alloc (.cells (bv zsec).toArray 5)) w.heap.size = some (.cells (bv zsec).toArray 5 (0, 0)) := by simp [go_sem]
  have m1 : Mod (fun _ => False) w (w.alloc (.cells (bv zsec).toArray 5)) := (Mod.refl _ w).alloc _
  generalize (w.alloc (.cells (bv zsec).toArray 5)) = W at hA m1
  simp [go_sem, hA]
  have hs : (bv zsec).set 0 (.int .u8 c.toNat) = bv (secOf c) := rfl
  have hC : hp (W.setCell ⟨w.heap.size, 0, none⟩ (.int .u8 c.toNat)) w.heap.size = some (.cells (bv (secOf c)).toArray 5 (0, 0)) := by
    simp [go_sem, hA, hs]
  refine hK _ _ ⟨by simp [secOf], .inr ⟨_, 128, [], rfl, Nat.le_refl _, by rw [List.append_nil]; exact hC, by simp⟩⟩ (m1.setCell (.inr (Nat.le_refl _)) _ _) ?_
  rintro b hb
  cases hb
  exact ⟨Nat.le_refl _, lt_of_heap hC⟩

theorem known_write : DM.new.write 0 3 (secOf 97 ++ secOf 98) = (0, { DM.new with waits := [((0, 3), secOf 97), ((0, 4), secOf 98)] }) := by kernel_rfl
theorem known_crash : ({ DM.new with waits := [((0, 3), secOf 97), ((0, 4), secOf 98)] } : DM).crash 1 [99] = { DM.new with lasts := [((0, 3), secOf 97), ((0, 4), secOf 99)] } := by kernel_rfl
theorem known_read : ({ DM.new with lasts := [((0, 3), secOf 97), ((0, 4), secOf 99)] } : DM).readB 0 3 2 = secOf 97 ++ secOf 99 := by kernel_rfl

theorem Own.blk {w : World} {e : TypeId} {sz : Nat} {v : Value} {n : Nat} {cs : List Value} (h : Own w e sz v n cs) (F : Nat → Prop) (hn : ∀ b, inSl v b → w.heap.size ≤ b) : ∀ b, inSl v b → ¬ F b ∧ b < w.heap.size := fun b hb => by
  have h1 := h.lt hb
  have h2 := hn b hb
  omega

set_option maxRecDepth 10000 in
theorem ca_known {w : World} {K : Kont} (hK : ∀ w', Mod (fun _ => False) w w' → K (.bool true) w') : Ca Try.prog 14 #[] w K := by
  apply ca14
  unfold F14
  refine ca_new fun w1 d1 m1 => ?_
  refine JoinW.on ?_
  refine ca_sector (c := 97) fun w2 v2 o2 m2 n2 => ?_
  refine ca_sector (c := 98) fun w3 v3 o3 m3 n3 => ?_
  have d3 := d1.mod (m2.trans m3) fun _ _ h => h
  have hd1 := d1.lt rfl
  refine rx_append Try.underlying23 Try.underlying23 (elemT_of uT1) (o2.mod m3 fun _ _ h => h) o3.rd (bv_one _) (by omega) fun v4 w4 o4 m4 n4 => ?_
  have hs2 := fun b hb => (n2 b hb).1
  have hs2' := fun b hb => (n2 b hb).2
  have hm2 := m2.size
  have hm3 := m3.size
  have d4 := d3.mod m4 fun b hb h => by have := hs2 b h; omega
  rw [← bv_append] at o4
  refine ca_write d4 o4.rd (fun b hb => ⟨fun e => ?_, o4.lt hb.sl⟩) (by simp [secOf]) (by simp [DM.new]) fun w5 F5 d5 s5 => ?_
  · have := n4 b hb.sl
    rcases this with h | h
    · have := hs2 b h; omega
    · omega
  rw [known_write] at d5 ⊢
  simp [go_sem]
  refine rx_lit [.int .u8 99] Try.underlying23 (elemT_of uT1) rfl rfl (by simp [Value.cells]) (by decide) ?_
  have e6 : hp (w5.alloc (.cells ([Value.int .u8 99].flatMap (·.cells.toList)).toArray 5)) w5.heap.size = some (.cells (bv [99]).toArray 5 (0, 0)) := by simp [go_sem]; rfl
  have m6 : Mod (fun _ => False) w5 (w5.alloc (.cells ([Value.int .u8 99].flatMap (·.cells.toList)).toArray 5)) := (Mod.refl _ w5).alloc _
  generalize w5.alloc (.cells ([Value.int .u8 99].flatMap (·.cells.toList)).toArray 5) = w6 at e6 m6
  refine rx_mark Try.underlying23 Try.underlying5 e6 ?_
  have l6 := lt_of_heap e6
  have e7 : hp (w6.freeze ⟨w5.heap.size, (bv [99]).toArray.size, none⟩ 1) w5.heap.size = some (.cells (bv [99]).toArray 5 (markFz (0, 0) 1)) := by
    show (World.freeze _ _ _).heap[_]? = _
    rw [heap_freeze1, if_pos rfl, show w6.heap[w5.heap.size]? = _ from e6]
    rfl
  have m7 : Mod (fun _ => False) w5 (w6.freeze ⟨w5.heap.size, (bv [99]).toArray.size, none⟩ 1) := m6.freeze (.inr (Nat.le_refl _)) _
  generalize w6.freeze ⟨w5.heap.size, (bv [99]).toArray.size, none⟩ 1 = w7 at e7 m7
  refine ca_crash (keep := 1) (torn := [99]) (d5.mod m7 fun _ _ h => h) (by simp) (by decide) ⟨rfl, .inr ⟨_, 0, _, rfl, Nat.le_refl _, ⟨_, _, _, e7, by simp, rfl⟩⟩⟩ (fun b hb => ?_) fun w8 F8 d8 s8 => ?_
  · have hb := hb.sl
    cases hb
    exact ⟨fun h => absurd (d5.lt h) (Nat.lt_irrefl _), lt_of_heap e7⟩
  rw [known_crash] at d8
  unfold J14_0
  simp [go_sem]
  refine ca_read d8 (by simp [DM.new]) (by simp [DM.new]) (by intro _ h; exact absurd h (by decide)) fun _ _ w9 v9 o9 m9 n9 => ?_
  rw [show (Int.toNat 2) = 2 from rfl, known_read] at o9
  simp [go_sem]
  have o9d : ∀ w, Mod (fun _ => False) w9 w → Own w 5 1 v9 (2 * 128) (bv (secOf 97 ++ secOf 99)) := fun w h => o9.mod h fun _ _ h => h
  refine rdX_toStr Try.underlying23 Try.underlying5 Try.underlying9 (o9d _ (Mod.refl _ _).drew).rd ?_
  refine ca_sector (c := 97) fun wa va oa ma na => ?_
  refine ⟨run_toStr Try.underlying23 Try.underlying5 Try.underlying9 (o9d _ ((Mod.refl _ _).drew.trans ma)).rd, ?_⟩
  refine rdX_toStr Try.underlying23 Try.underlying5 Try.underlying9 oa.rd ?_
  refine ca_sector (c := 99) fun wb vb ob mb nb => ?_
  refine ⟨run_toStr Try.underlying23 Try.underlying5 Try.underlying9 (oa.mod mb fun _ _ h => h).rd, run_toStr Try.underlying23 Try.underlying5 Try.underlying9 (o9d _ (((Mod.refl _ _).drew.trans ma).trans mb)).rd, ?_⟩
  refine rdX_toStr Try.underlying23 Try.underlying5 Try.underlying9 ob.rd ?_
  simp [go_sem, secOf_length]
  refine hK _ ?_
  have hm1 := m1.size
  have t4 : Mod (fun _ => False) w w4 := ((m1.trans m2).trans m3).on m4 fun b h => .inr (by have := hs2 b h; omega)
  have hm4 := t4.size
  have t7 : Mod (fun _ => False) w w7 := (t4.on s5.mod fun b h => .inr (by omega)).trans m7
  have t8 : Mod (fun _ => False) w w8 := t7.on s8.mod fun b h => .inr (by rcases s5.sub b h with h | h <;> omega)
  exact (((t8.trans m9).drew).trans ma).trans mb
end Go.Proofs
