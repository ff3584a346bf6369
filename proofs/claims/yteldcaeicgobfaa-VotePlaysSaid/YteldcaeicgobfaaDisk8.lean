/-
  The contracts of the disk's functions of a disk that is not there.
  Conditions: none.
-/
import Derived.Test.YteldcaeicgobfaaDisk7
import Derived.Test.YteldcaeicgobfaaG3
set_option linter.unusedSimpArgs false
set_option linter.unusedVariables false
namespace Go.Proofs
open Go Go.Vc

theorem ca_ready_nil {w : World} {K : Kont} (hK : K (.int .i64 1) w) : Ca Try.prog 54 #[.pointer none] w K := by
  apply ca54
  unfold F54
  simp [go_sem]
  exact hK
theorem ca_write_nil {f a : Int} {v : Value} {w : World} {K : Kont} (hK : ∀ w', Mod (fun _ => False) w w' → K (.int .i64 1) w') : Ca Try.prog 17 #[.pointer none, .int .i64 f, .int .i64 a, v] w K := by
  apply ca17
  unfold F17
  simp [go_sem]
  refine ca_ready_nil ?_
  simp [go_sem]
  exact hK _ (((((Mod.refl _ w).alloc _).alloc _).alloc _).alloc _)
theorem ca_sync_nil {w : World} {K : Kont} (hK : K (.int .i64 1) w) : Ca Try.prog 16 #[.pointer none] w K := by
  apply ca16
  unfold F16
  refine ca_ready_nil ?_
  simp [go_sem]
  exact hK
theorem ca_read_nil {f a n : Int} {w : World} {K : Kont} (hK : K (.tuple #[.slice none 0 0, .int .i64 1]) w) : Ca Try.prog 20 #[.pointer none, .int .i64 f, .int .i64 a, .int .i64 n] w K := by
  apply ca20
  unfold F20
  refine ca_ready_nil ?_
  simp [go_sem]
  exact hK
theorem ca_arm_nil {n : Int} {w : World} {K : Kont} (hK : K (.int .i64 1) w) : Ca Try.prog 25 #[.pointer none, .int .i64 n] w K := by
  apply ca25
  unfold F25
  refine ca_ready_nil ?_
  simp [go_sem]
  exact hK
theorem ca_crash_nil {n : Int} {v : Value} {w : World} {K : Kont} (hK : K (.int .i64 1) w) : Ca Try.prog 19 #[.pointer none, .int .i64 n, v] w K := by
  apply ca19
  unfold F19
  simp [go_sem]
  exact hK
theorem ca_down_nil {w : World} {K : Kont} (hK : K (.bool false) w) : Ca Try.prog 30 #[.pointer none] w K := by
  apply ca30
  unfold F30
  simp [go_sem]
  exact hK
theorem ca_waits_nil {w : World} {K : Kont} (hK : K (.int .i64 0) w) : Ca Try.prog 21 #[.pointer none] w K := by
  apply ca21
  unfold F21
  simp [go_sem]
  exact hK
theorem ca_copy_nil {w : World} {K : Kont} (hK : K (.pointer none) w) : Ca Try.prog 28 #[.pointer none] w K := by
  apply ca28
  unfold F28
  simp [go_sem]
  exact hK

theorem none_write : DM.new.write 1 7 (secOf 97) = (0, { DM.new with waits := [((1, 7), secOf 97)] }) := by kernel_rfl
theorem none_sync : ({ DM.new with waits := [((1, 7), secOf 97)] } : DM).sync = (0, { DM.new with lasts := [((1, 7), secOf 97)] }) := by kernel_rfl
theorem none_read : ({ DM.new with lasts := [((1, 7), secOf 97)] } : DM).readB 1 7 1 = secOf 97 := by kernel_rfl

set_option maxRecDepth 10000 in
theorem ca_none {f a n : Int} {w : World} {K : Kont} (hK : ∀ w', Mod (fun _ => False) w w' → K (.bool true) w') : Ca Try.prog 6 #[.int .i64 f, .int .i64 a, .int .i64 n] w K := by
  apply ca6
  unfold F6
  simp [go_sem]
  generalize hW : w.alloc _ = w1
  have m1 : Mod (fun _ => False) w w1 := by subst hW; exact (Mod.refl _ w).alloc _
  have d1 : DiskR w1 w.heap.size (fun b => b = w.heap.size) DM.new := by subst hW; exact ⟨_, diskQ_new (by show hp _ _ = _; simp [go_sem])⟩
  clear hW
  refine ca_read_nil ?_
  simp [go_sem]
  refine JoinW.at (fun s W => s = (.bool false, ()) ∧ Mod (fun _ => False) w1 W) ?_ ?_
  · refine ca_sector (c := 97) fun w2 v2 o2 m2 n2 => ?_
    refine ca_write_nil fun w3 m3 => ?_
    simp [go_sem]
    refine ca_sync_nil ?_
    simp [go_sem]
    refine ca_arm_nil ?_
    simp [go_sem]
    refine ca_crash_nil ?_
    simp [go_sem]
    refine ca_down_nil ?_
    simp [go_sem]
    refine ca_waits_nil ?_
    simp [go_sem]
    refine ca_copy_nil ?_
    simp [go_sem]
    exact m2.trans m3
  rintro _ w2 ⟨rfl, m2⟩
  have d2 := d1.mod m2 fun _ _ h => h
  have t2 := m1.trans m2
  clear d1 m1 m2
  unfold J6_1
  intro _
  simp [go_sem]
  refine JoinW.at (fun s W => s = (.bool false, ()) ∧ Mod (fun _ => False) w W ∧ ∃ F, DiskR W w.heap.size F { DM.new with lasts := [((1, 7), secOf 97)] }) ?_ ?_
  · refine ca_sector (c := 97) fun w3 v3 o3 m3 n3 => ?_
    have l2 := t2.size
    have d3 := d2.mod m3 fun _ _ h => h
    have l3 := d2.lt rfl
    refine ca_write d3 o3.rd (fun b hb => ⟨fun e => ?_, o3.lt hb.sl⟩) (by simp [secOf]) (by simp [DM.new]) fun w5 F5 d5 s5 => ?_
    · have := (n3 b hb.sl).1
      omega
    rw [none_write] at d5 ⊢
    simp [go_sem]
    refine ca_waits d5 ?_
    simp [go_sem]
    refine ca_sync d5 (by simp) fun w6 F6 d6 s6 => ?_
    rw [none_sync] at d6 ⊢
    simp [go_sem]
    have h3 := m3.size
    exact ⟨((t2.trans m3).on s5.mod (fun b h => .inr (by omega))).on s6.mod (fun b h => .inr (by rcases s5.sub b h with h | h <;> omega)), F6, d6⟩
  rintro _ w3 ⟨rfl, m3, F3, d3⟩
  unfold J6_0
  intro _
  simp [go_sem]
  refine ca_read d3 (by simp [DM.new]) (by simp [DM.new]) (by intro _ h; exact absurd h (by decide)) fun _ _ w9 v9 o9 m9 n9 => ?_
  rw [show (Int.toNat 1) = 1 from rfl, none_read] at o9
  simp [go_sem]
  refine rdX_toStr Try.underlying23 Try.underlying5 Try.underlying9 (o9.mod ((Mod.refl (fun _ => False) _).drew) fun _ _ h => h).rd ?_
  refine ca_sector (c := 97) fun wa va oa ma na => ?_
  have m9a : Mod (fun _ => False) w9 wa := ((Mod.refl _ w9).drew).trans ma
  refine ⟨run_toStr Try.underlying23 Try.underlying5 Try.underlying9 (o9.mod m9a fun _ _ h => h).rd, ?_⟩
  refine rdX_toStr Try.underlying23 Try.underlying5 Try.underlying9 oa.rd ?_
  simp [go_sem]
  exact ca_known fun w' m' => hK _ (((m3.trans m9).trans m9a).trans m')
end Go.Proofs
